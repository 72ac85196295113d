/- Texts of this proof, one after the other: EncA, RNumP, RNum, EncB, EncC, Read, ReadB, Rdr, RdrB, RdrC, RItemP, RItems, Codec, CompP, CodecB, SealA, SealB, RollP, ChkP, RollA, RollB. -/
import Derived.Test.YtpffpjbkbaleiaaGreatDoorCItemsB
set_option maxRecDepth 100000
set_option maxHeartbeats 8000000
namespace Go.Proofs.YtpffpjbkbaleiaaGreatDoor
open Go.RowKit
def eR :Nat->Nat->List UInt8
 | 0,n=>[UInt8.ofNat n]
 | f+1,n=>if 127<n then UInt8.ofNat (n%128+128)::eR f (n/128)else [UInt8.ofNat n]
def aH (n:Nat):List UInt8:=eR 10 n
theorem vi : ∀(f n:Nat),(eR f n).length<=f+1
 | 0,_=>by simp[eR]
 | f+1,n=>by
  rw[eR]
  split
  ·have:=vi f (n/128); simp; omega
  ·simp
theorem cC (n:Nat):(aH n).length<=11:=vi 10 n
def Ba (bs:List UInt8) (w:World) (e:Ending) (w':World):Prop:= ∃v,e= .returned v/\aw (w.heap.size<= ·) w' v bs/\Below w.heap.size w w'
theorem iK {n:Nat} (h:n<256):au (UInt8.ofNat n)= .int .u8 (n:Int):=by
 unfold au; rw[UInt8.toNat_ofNat_of_lt' (by exact h)]
theorem um (b:UInt8): ∀u∈[au b],u.oneCell'=true:=by simp[au,Value.oneCell']
theorem qq (n:Nat) (w:World) (hn:n<18446744073709551616):Calls Tryz.prog 103 #[.int .u64 (n:Int)] w (Ba (aH n) w):=by
 have HO:=ab (World.ownsRow_lit (e:=5) (size:=1) (base:=w.heap.size) w #[] 0 (Nat.le_refl _) (Nat.zero_le _) (by simp));have HB:=ab ((Below.refl w.heap.size w).alloc (Nat.le_refl _) (.cells #[] 5))
 go_enter Tryz.func103,Tryz.ntmps103
 go_wp2_with fail
 go_loopw [0,3] (fun x o wr=> ∃(f m:Nat) (acc:List UInt8),x= .int .u64 (m:Int)/\m<18446744073709551616/\m<2^(7*f)/\acc++eR f m=aH n/\wr.ownsRow w.heap.size 5 1 o acc.length (acc.map au)/\acc.length<=20/\Below w.heap.size w wr) (fun x _ _=>(intOf x).toNat)
 case atStart=>exact⟨10,n,[],rfl,hn,Nat.lt_trans hn (by decide),rfl,HO.out,by simp,HB.out⟩
 case round=>
  obtain⟨f,m,acc,rfl,hm,hmf,henc,hown,hal,hb⟩:=hrel;have HE:=ab henc;have HO2:=ab hown;have HB2:=ab hb;have HMF:=ab hmf;have hbz:=hb.size;obtain⟨ao,co,rfl,h1,h2⟩:=aj hown;clear henc hown hb hmf HO HB
  by_cases hlt:127<m
  ·have hv:Value.int .u8 ((m:Int)%128+128)=au (UInt8.ofNat (m%128+128)):=by rw[iK (by omega)]; simp
   have HV:=ab hv;obtain⟨f,rfl⟩: ∃g,f=g+1:=⟨f-1,by
    cases f with
    | zero=>have:=HMF.out; simp at this; omega
    | succ g=>rfl⟩
   have HE2:=ab (show(acc++[UInt8.ofNat (m%128+128)])++eR f (m/128)=aH n by rw[<-HE.out,eR,if_pos hlt]; simp);have HMF2:=ab (show m/128<2^(7*f) by
    have h3:=HMF.out;rw[show 7*(f+1)=7*f+7 by omega,Nat.pow_add]at h3;exact Nat.div_lt_of_lt_mul (by omega))
   have hal2:acc.length<=10:=by
    have h4:=cC n;rw[<-HE.out,List.length_append,eR,if_pos hlt,List.length_cons]at h4;omega
   clear hv;go_wp2_with (at_builtin; go_must (refine ij Tryz.appBytes rfl _ _ rfl w.heap.size (.slice ao acc.length co) acc.length (acc.map au) rfl wr [.int .u8 ((m:Int)%128+128)] _ rfl rfl (by rw[HV.out]; exact um _) HO2.out (by omega) hbz ?_); intro v' wc hown' hgrow' _; have HB3:=ab (cV HB2.out HO2.out hgrow' (Nat.le_refl _) hbz); have HO3:=ab (show wc.ownsRow w.heap.size 5 1 v' (acc++[UInt8.ofNat (m%128+128)]).length ((acc++[UInt8.ofNat (m%128+128)]).map au) by rw[List.length_append,List.map_append,List.map_cons,List.map_nil,<-HV.out]; exact hown'); obtain⟨ae,ce,rfl,-,-⟩:=aj hown'; clear hown' hgrow')
   go_roundw
   case rel=>exact⟨f,m/128,acc++[UInt8.ofNat (m%128+128)],by simp,by omega,HMF2.out,HE2.out,HO3.out,by simp; omega,HB3.out⟩
   case measure=>simp[intOf]; omega
  ·have hv:Value.int .u8 (m:Int)=au (UInt8.ofNat m):=by rw[iK (by omega)]
   have HV:=ab hv;have HE2:=ab (show acc++[UInt8.ofNat m]=aH n by
    rw[<-HE.out]
    cases f with
    | zero=>rfl
    | succ f=>rw[eR,if_neg hlt])
   clear hv;go_wp2_with (at_builtin; go_must (refine ij Tryz.appBytes rfl _ _ rfl w.heap.size (.slice ao acc.length co) acc.length (acc.map au) rfl wr [.int .u8 (m:Int)] _ rfl rfl (by rw[HV.out]; exact um _) HO2.out (by omega) hbz ?_); intro v' wc hown' hgrow' _; have HB3:=ab (cV HB2.out HO2.out hgrow' (Nat.le_refl _) hbz); have HO3:=ab (show wc.ownsRow w.heap.size 5 1 v' (acc++[UInt8.ofNat m]).length ((acc++[UInt8.ofNat m]).map au) by rw[List.length_append,List.map_append,List.map_cons,List.map_nil,<-HV.out]; exact hown'); obtain⟨ae,ce,rfl,-,-⟩:=aj hown'; clear hown' hgrow')
   go_ret;rw[<-HE2.out];exact⟨_,rfl,(bh HO3.out).weak (fun k hk=>hk.1),HB3.out⟩
end Go.Proofs.YtpffpjbkbaleiaaGreatDoor
namespace Go.Proofs.YtpffpjbkbaleiaaGreatDoor
open Go.RowKit
def eF :List UInt8->Nat
 | []=>0
 | b::l=>b.toNat%128+128*eF l
def gM (l:List UInt8):Nat:=eF l%18446744073709551616
def fP (data:List UInt8) (off:Nat):Nat->Nat->Except Int (Nat×Nat)
 | 0,_=> .error 3
 | f+1,k=>match data[off+k]? with
  | none=> .error 3
  | some b=>if 128<=b.toNat then fP data off f (k+1)
   else if aH (gM ((data.drop off).take (k+1)))=(data.drop off).take (k+1)then .ok (gM ((data.drop off).take (k+1)),off+k+1)else .error 3
theorem tJ : ∀l:List UInt8,eF l<2^(7*l.length)
 | []=>by simp[eF]
 | b::l=>by
  have:=tJ l;rw[eF,List.length_cons,show 7*(l.length+1)=7*l.length+7 by omega,Nat.pow_add];omega
theorem mH : ∀(l:List UInt8) (b:UInt8),eF (l++[b])=eF l+b.toNat%128*2^(7*l.length)
 | [],b=>by simp[eF]
 | c::l,b=>by
  rw[List.cons_append,eF,mH l b,eF,List.length_cons,show 7*(l.length+1)=7*l.length+7 by omega,Nat.pow_add,Nat.mul_add];have:128*(b.toNat%128*2^(7*l.length))=b.toNat%128*(2^(7*l.length)*2^7):=by
   rw[Nat.mul_left_comm,Nat.mul_comm 128]
  omega
theorem AR (b:UInt8) (l:List UInt8):gM (b::l)=(gM l*128%18446744073709551616+b.toNat%128)%18446744073709551616:=by
 unfold gM; rw[eF]; omega
theorem vV : ∀(f n:Nat),n<2^(7*(f+1))->eF (eR f n)=n
 | 0,n,h=>by
  have h1:n<128:=h;rw[eR,eF,eF,UInt8.toNat_ofNat_of_lt' (by show n<256; omega)]; omega
 | f+1,n,h=>by
  rw[eR]
  split
  ·rw[eF,vV f (n/128) (by
    rw[show 7*(f+1+1)=7*(f+1)+7 by omega,Nat.pow_add]at h;exact Nat.div_lt_of_lt_mul (by omega)),UInt8.toNat_ofNat_of_lt' (by show _<256; omega)]
   omega
  ·rw[eF,eF,UInt8.toNat_ofNat_of_lt' (by show n<256; omega)]; omega
theorem uW : ∀(f n:Nat) (c:UInt8) (l:List UInt8),0<n->n<2^(7*(f+1))->eR f n=l++[c]->c.toNat≠0
 | 0,n,c,l,h0,h,he=>by
  have h1:n<128:=h;rw[eR]at he;have:c=UInt8.ofNat n:=by
   have:=congrArg List.getLast? he
   simpa using this.symm
  rw[this,UInt8.toNat_ofNat_of_lt' (by show n<256; omega)]; omega
 | f+1,n,c,l,h0,h,he=>by
  rw[eR]at he
  split at he
  ·cases l with
   | nil=>
    simp only[List.nil_append,List.cons.injEq]at he;have:=congrArg List.length he.2;have h3:(eR f (n/128)).length≠0:=by cases f<;> (rw[eR]; try split)<;> simp
    simp at this; exact absurd (by simp[this]) h3
   | cons d l=>
    simp only[List.cons_append,List.cons.injEq]at he;exact uW f (n/128) c l (by omega) (by
     rw[show 7*(f+1+1)=7*(f+1)+7 by omega,Nat.pow_add]at h;exact Nat.div_lt_of_lt_mul (by omega)) he.2
  ·have:c=UInt8.ofNat n:=by
    have:=congrArg List.getLast? he
    simpa using this.symm
   rw[this,UInt8.toNat_ofNat_of_lt' (by show n<256; omega)]; omega
theorem yz : ∀(f:Nat) (l:List UInt8) (c:UInt8),(∀b∈l,128<=b.toNat)->c.toNat<128->(l≠[]->c.toNat≠0)->l.length<=f->eR f (eF (l++[c]))=l++[c]
 | f,[],c,_,h2,_,_=>by
  have hv:eF ([]++[c])=c.toNat:=by simp[eF]; omega
  rw[hv];have hc:UInt8.ofNat c.toNat=c:=UInt8.ofNat_toNat
  cases f with
  | zero=>rw[eR,hc]; rfl
  | succ f=>rw[eR,if_neg (by omega),hc]; rfl
 | 0,b::l,c,_,_,_,h4=>by simp at h4
 | f+1,b::l,c,h1,h2,h3,h4=>by
  have hb:=h1 b (by simp);have hb8:=b.toNat_lt;have hr:=yz f l c (fun x hx=>h1 x (by simp[hx])) h2 (fun _=>h3 (by simp)) (by simpa using h4);have hp:0<eF (l++[c]):=by
   rw[mH];have hc:=h3 (by simp);have:0<c.toNat%128*2^(7*l.length):=Nat.mul_pos (by omega) (Nat.two_pow_pos _);omega
  rw[List.cons_append,eR,eF,if_pos (by omega),show(b.toNat%128+128*eF (l++[c]))/128=eF (l++[c]) by omega,hr,
   show(b.toNat%128+128*eF (l++[c]))%128+128=b.toNat by omega,UInt8.ofNat_toNat]
theorem Cw (m x k:Nat) (h:m<2^k):m ||| (x*2^k)=m+x*2^k:=by
 rw[Nat.or_comm,Nat.mul_comm,<-Nat.two_pow_add_eq_or_of_lt h,Nat.add_comm]
theorem Cr (m:Nat) (b:UInt8) (k:Nat) (hk:k<=9) (h:m<2^(7*k)):qC m b k=(m+b.toNat%128*2^(7*k))%18446744073709551616:=by
 unfold qC;have hb:b.toNat%128<128:=by omega
 generalize b.toNat%128=x at hb
 by_cases h9:k=9
 ·subst h9;have e:x*2^(7*9)%18446744073709551616=x%2*2^(7*9):=by
   simp only[Nat.reduceMul,Nat.reducePow]; omega
  rw[e,Cw _ _ _ h];simp only[Nat.reduceMul,Nat.reducePow]at *;omega
 ·have hp:2^(7*k)*128<=18446744073709551616:=by
   rw[show(128:Nat)=2^7 from rfl,show(18446744073709551616:Nat)=2^64 from rfl,<-Nat.pow_add];exact Nat.pow_le_pow_right (by omega) (by omega)
  have hx:x*2^(7*k)+2^(7*k)<=2^(7*k)*128:=by
   rw[Nat.mul_comm (2^(7*k)),<-Nat.succ_mul]; exact Nat.mul_le_mul_right _ (by omega)
  rw[Nat.mod_eq_of_lt (by omega),Cw _ _ _ h,Nat.mod_eq_of_lt (by omega)]
theorem vm (data:List UInt8) (off:Nat): ∀(f k:Nat),k+f=10->(∀b∈(data.drop off).take k,128<=b.toNat)->off+k<=data.length->
  iy data f k (off+k) (eF ((data.drop off).take k))=fP data off f k
 | 0,_,_,_,_=>rfl
 | f+1,k,hk,hp,hle=>by
  rw[iy,fP]
  cases hd:data[off+k]? with
  | none=>rfl
  | some b=>
   have hb8:=b.toNat_lt;have hlt:off+k<data.length:=(List.getElem?_eq_some_iff.1 hd).1;have hlen:((data.drop off).take k).length=k:=by simp; omega
   have htk:(data.drop off).take (k+1)=(data.drop off).take k++[b]:=by
    rw[List.take_add_one,List.getElem?_drop,hd]; rfl
   have hm:=tJ ((data.drop off).take k);rw[hlen]at hm;have hs:=mH ((data.drop off).take k) b;rw[hlen,<-htk]at hs;have hnn:=Cr _ b k (by omega) hm;rw[<-hs]at hnn;simp only
   by_cases h128:128<=b.toNat
   ·rw[if_pos h128,if_pos h128]
    by_cases hf:f=0
    ·subst hf; rfl
    ·have hlt2:eF ((data.drop off).take (k+1))<18446744073709551616:=by
      have:=tJ ((data.drop off).take (k+1));refine Nat.lt_of_lt_of_le this ?_;rw[show(18446744073709551616:Nat)=2^64 from rfl];exact Nat.pow_le_pow_right (by omega) (by simp; omega)
     rw[hnn,Nat.mod_eq_of_lt hlt2];have:=vm data off f (k+1) (by omega) (by
      intro x hx;rw[htk,List.mem_append]at hx
      rcases hx with hx | hx
      ·exact hp x hx
      ·simp at hx; subst hx; exact h128) (by omega)
     exact this
   ·rw[if_neg h128,if_neg h128,hnn];have hval:gM ((data.drop off).take (k+1))=eF ((data.drop off).take (k+1))%18446744073709551616:=rfl;have hvl:gM ((data.drop off).take (k+1))<2^(7*(10+1)):=by rw[hval]; exact Nat.lt_trans (Nat.mod_lt _ (by decide)) (by decide)
    by_cases hbad:iw b k=true
    ·rw[if_pos hbad,if_neg];intro he;have h1:=vV 10 _ hvl;rw[show eR 10 _=_ from he]at h1;simp only[iw,Bool.or_eq_true,Bool.and_eq_true,decide_eq_true_eq]at hbad
     rcases hbad with⟨h2,h3⟩ | ⟨h2,h3⟩
     ·have hpos:0<eF ((data.drop off).take (k+1))%18446744073709551616:=by
       rcases Nat.eq_zero_or_pos (eF ((data.drop off).take (k+1))%18446744073709551616)with h0 | h0
       ·exfalso
        rw[hval,h0]at he;have:=congrArg List.length he;simp[aH,eR]at this;omega
       ·exact h0
      exact uW 10 _ b ((data.drop off).take k) (by rw[hval]; exact hpos) hvl (by rw[<-htk]; exact he) h3
     ·subst h2;rw[hs]at h1;have h5:gM ((data.drop off).take (9+1))<18446744073709551616:=by rw[hval]; exact Nat.mod_lt _ (by decide)
      rw[<-h1]at h5;simp only[Nat.reduceMul,Nat.reducePow]at h5;omega
    ·rw[if_neg hbad];have hbad':iw b k=false:=by simpa using hbad
     simp only[iw,Bool.or_eq_false_iff,Bool.and_eq_false_iff,decide_eq_false_iff_not]at hbad';have hsm:eF ((data.drop off).take (k+1))<18446744073709551616:=by
      rw[hs]
      by_cases h9:k=9
      ·subst h9;have: ¬1<b.toNat:=hbad'.2.elim (fun h=>absurd rfl h) id;simp only[Nat.reduceMul,Nat.reducePow]at hm ⊢;omega
      ·have hp:2^(7*k)*128<=18446744073709551616:=by
        rw[show(128:Nat)=2^7 from rfl,show(18446744073709551616:Nat)=2^64 from rfl,<-Nat.pow_add];exact Nat.pow_le_pow_right (by omega) (by omega)
       have hx:b.toNat%128*2^(7*k)+2^(7*k)<=2^(7*k)*128:=by
        rw[Nat.mul_comm (2^(7*k)),<-Nat.succ_mul]; exact Nat.mul_le_mul_right _ (by omega)
       omega
     have hvv:gM ((data.drop off).take (k+1))=eF ((data.drop off).take (k+1)):=by rw[hval,Nat.mod_eq_of_lt hsm]
     have henc:aH (gM ((data.drop off).take (k+1)))=(data.drop off).take (k+1):=by
      rw[hvv,htk];refine yz 10 _ b hp (by omega) ?_ (by omega);intro hne;have:0<k:=by
       rcases Nat.eq_zero_or_pos k with h0 | h0
       ·subst h0; simp at hne
       ·exact h0
      rcases hbad'.1 with h | h
      ·exact absurd this h
      ·exact h
     rw[if_pos henc,Nat.mod_eq_of_lt hsm,hvv]
theorem vj (data:List UInt8) (off:Nat) (h:off<=data.length):dP data off=fP data off 10 0:=by
 have:=vm data off 10 0 rfl (by simp) (by omega)
 simpa [eF,dP]using this
end Go.Proofs.YtpffpjbkbaleiaaGreatDoor
namespace Go.Proofs.YtpffpjbkbaleiaaGreatDoor
open Go.RowKit
theorem gz {S:Nat->Prop} {w w':World} {a:Option Addr} {n cap:Nat} {l:List UInt8} (hv:aw S w (.slice a n cap) l) (hb:Below w.heap.size w w') {k:Nat} {x:UInt8} (hx:l[k]? =some x): ∃b o,a=some ⟨b,o,none⟩/\w'.cell? ⟨b,o+k,none⟩=some (.int .u8 (x.toNat:Int)):=by
 obtain⟨hl,a',cap',hv',_,_,h0⟩:=hv
 cases hv'
 rcases h0 with h0 | ⟨b,o,rfl,_,hc⟩
 ·simp[List.eq_nil_of_length_eq_zero h0]at hx
 ·have h1:=hc k (au x) (by simp[hx]);exact⟨b,o,rfl,(hb.cell (aR h1)).trans h1⟩
theorem yM (l:List UInt8):gM l<18446744073709551616:=Nat.mod_lt _ (by decide)
def gu (r:Except Int (Nat×Nat)):Value:=match r with
 | .ok (n,o)=> .tuple #[.int .u64 (n:Int), .int .i64 (o:Int), .bool true]
 | .error _=> .tuple #[.int .u64 0, .int .i64 0, .bool false]
theorem Cs {data:List UInt8} {off f k:Nat} {b:UInt8} (h:data[off+k]? =some b) (h1: ¬128<=b.toNat) (h2:aH (gM ((data.drop off).take (k+1)))≠(data.drop off).take (k+1)):fP data off (f+1) k= .error 3:=by
 rw[fP,h]; simp only[if_neg h1,if_neg h2]
theorem Ep {data:List UInt8} {off f k:Nat} {b:UInt8} (h:data[off+k]? =some b) (h1: ¬128<=b.toNat) (h2:aH (gM ((data.drop off).take (k+1)))=(data.drop off).take (k+1)):fP data off (f+1) k= .ok (gM ((data.drop off).take (k+1)),off+(k+1)):=by
 rw[fP,h]; simp only[if_neg h1,if_pos h2]; rfl
theorem zQ {data:List UInt8} {off f k:Nat} {b:UInt8} (h:data[off+k]? =some b) (h1:128<=b.toNat):fP data off (f+1) k=fP data off f (k+1):=by
 rw[fP,h]; simp only[if_pos h1]
theorem Ct {data:List UInt8} {off f k:Nat} (h:data.length<=off+k):fP data off f k= .error 3:=by
 cases f with
 | zero=>rfl
 | succ f=>rw[fP,List.getElem?_eq_none h]
theorem wC {α:Type} {l:List α} {j:Nat} {b:α} (h:l[j]? =some b):l.drop j=b::l.drop (j+1):=by
 obtain⟨h1,h2⟩:=List.getElem?_eq_some_iff.1 h;rw[List.drop_eq_getElem_cons h1,h2]
theorem tj (S:Nat->Prop) (v:Value) (data:List UInt8) (off:Nat) (w:World) (hv:aw S w v data) (hoff:off<=data.length) (hsm:data.length<=32768):
  Calls Tryz.prog 144 #[v, .int .i64 (off:Int)] w fun e w'=>e= .returned (gu (fP data off 10 0))/\Below w.heap.size w w':=by
 have HV:=ab hv;obtain⟨_,a,cap,rfl,hc,hm,-⟩:=hv;unfold maxLen at hm
 go_enter Tryz.func144,Tryz.ntmps144
 go_wp2_with fail
 go_loopw [7] (fun x wr=> ∃n:Nat,1<=n/\n<=11/\x= .int .i64 (n:Int)/\fP data off 10 0=fP data off (11-n) (n-1)/\Below w.heap.size w wr) (fun x _=>11-(intOf x).toNat)
 case atStart=>exact⟨1,by omega,by omega,rfl,rfl,Below.refl _ _⟩
 case round=>
  obtain⟨n,hn1,hn2,rfl,hn,hb⟩:=hrel;have HN:=ab hn;have HB:=ab hb;clear hn hb
  by_cases h10:n<=10
  ·by_cases hl:off+n<=data.length
   ·obtain⟨x,hx⟩: ∃x,data[off+n-1]? =some x:=⟨data[off+n-1]'(by omega),by simp⟩;have hx8:=x.toNat_lt;have HX:=ab (show data[off+(n-1)]? =some x by rw[<-hx]; congr 1; omega);obtain⟨b,o,rfl,q0⟩:=gz HV.out HB.out hx;clear hx
    by_cases h128:128<=x.toNat
    ·have HT:=ab (show fP data off 10 0=fP data off (11-(n+1)) (n+1-1) by
      rw[HN.out,show 11-n=(10-n)+1 by omega,zQ HX.out h128]; congr 1<;> omega)
     go_wp2_with fail
     go_roundw
     case rel=>exact⟨n+1,by omega,by omega,by go_num,HT.out,HB.out⟩
     case measure=>simp[intOf]; omega
    ·obtain⟨bs,hbs⟩: ∃bs,bs=(data.drop off).take n:=⟨_,rfl⟩;have hbl:bs.length=n:=by rw[hbs]; simp; omega
     have HBL:=ab hbl;have HBI:=ab (show ∀j,j<n->bs[j]? =data[off+j]? by intro j hj; rw[hbs,List.getElem?_take,if_pos hj,List.getElem?_drop]);have HBAD:=ab (show aH (gM bs)≠bs->fP data off 10 0= .error 3 by
      intro hne;rw[HN.out,show 11-n=(10-n)+1 by omega];refine Cs HX.out h128 ?_;rw[show n-1+1=n by omega,<-hbs]; exact hne)
     have HGOOD:=ab (show aH (gM bs)=bs->fP data off 10 0= .ok (gM bs,off+n) by
      intro he;rw[HN.out,show 11-n=(10-n)+1 by omega,Ep HX.out h128 (by rw[show n-1+1=n by omega,<-hbs]; exact he),show n-1+1=n by omega,<-hbs])
     clear hbs hbl;go_wp2_with fail;clear q0
     go_loopw [8,9] (fun y z wr'=> ∃(j:Nat) (i:Int),j<=n/\z= .int .i64 i/\i=(j:Int)-1/\y= .int .u64 (gM (bs.drop j):Int)/\Below w.heap.size w wr') (fun _ z _=>(intOf z+1).toNat)
     case atStart=>exact⟨n,(n:Int)-1,Nat.le_refl _,rfl,rfl,by rw[List.drop_of_length_le (by rw[HBL.out]; exact Nat.le_refl _)]; rfl,HB.out⟩
     case round=>
      obtain⟨j,i,hj,rfl,hi,rfl,hb2⟩:=hrel;have HB2:=ab hb2;clear hb2
      by_cases hj0:j=0
      ·obtain rfl:i= -1:=by omega
       have hdr:bs.drop j=bs:=by rw[hj0]; rfl
       rw[hdr];obtain⟨V,hV⟩: ∃V,V=gM bs:=⟨_,rfl⟩;rw[<-hV];have hVl:V<18446744073709551616:=by rw[hV]; exact yM _
       have HVV:=ab hV;clear hV hdr hi hj0;go_wp2_with (go_at_call 103; refine(qq V _ hVl).mono ?_; rintro e w1 ⟨nv,rfl,hnv,hb3⟩);have HB3:=ab (ah HB2.out hb3);have HVV2:=HVV.out;rw[<-HVV2]at HBAD HGOOD;clear HVV2 hb3;have HNV:=ab hnv;have hel:=cC V;obtain⟨en,hen⟩: ∃en,en=aH V:=⟨_,rfl⟩;rw[<-hen]at HNV hel HBAD HGOOD hnv;obtain⟨_,na,nc,rfl,hnn1,hnn2,-⟩:=hnv
       unfold maxLen at hnn2;clear hen
       by_cases hl2:en.length=n
       ·have HL2:=ab hl2;rw[hl2]at HNV hnn1 ⊢;clear hl2 hel;go_wp2_with fail
        go_simp
        go_wp2_with fail
        go_loopw [11] (fun z wr'=> ∃j:Nat,j<=n/\z= .int .i64 (j:Int)/\en.take j=bs.take j/\Below w1.heap.size w1 wr') (fun z _=>n-(intOf z).toNat)
        case atStart=>exact⟨0,by omega,rfl,by simp,Below.refl _ _⟩
        case round=>
         obtain⟨j,hj2,rfl,hjt,hb4⟩:=hrel;have HJT:=ab hjt;have HB4:=ab hb4;clear hjt hb4
         by_cases hjn:j<n
         ·obtain⟨c,hc1⟩: ∃c,en[j]? =some c:=⟨en[j]'(by rw[HL2.out]; omega),by simp⟩;obtain⟨y,hy⟩: ∃y,data[off+j]? =some y:=⟨data[off+j]'(by omega),by simp⟩;have HY:=ab (show bs[j]? =some y by rw[HBI.out j hjn]; exact hy);have HC:=ab hc1;have hy8:=y.toNat_lt;have hc8:=c.toNat_lt;obtain⟨W,hW⟩: ∃W:World,W=wr.drew:=⟨_,rfl⟩;have HBW:=ab (show Below w1.heap.size w1 W by rw[hW]; exact HB4.out.drew)
          have HBX:=ab (ah HB3.out HBW.out);obtain⟨b5,o5,hbo5,q0⟩:=gz HV.out HBX.out hy
          cases hbo5
          obtain⟨b6,o6,rfl,q1⟩:=gz HNV.out HBW.out hc1;obtain⟨oj,hoj⟩: ∃oj:Nat,oj=off+j:=⟨_,rfl⟩;have hoj2:oj<data.length:=by omega
          have hwr:IntKind.i64.wrap (oj:Int)=(oj:Int):=IntWalk.i64_in _ (by omega);have hwr2:(off:Int)+(j:Int)=(oj:Int):=by omega
          rw[<-hoj]at q0;clear hoj;clear hc1 hy
          by_cases hm2:c=y
          ·have e1:((c.toNat:Int) != (y.toNat:Int))=false:=by simp[hm2]
           have HT:=ab (show en.take (j+1)=bs.take (j+1) by rw[bz HC.out,bz HY.out,HJT.out,hm2]);clear hm2;go_wp2_with fail;refine an [some 11] (by kernel_rfl) (by kernel_rfl) (by kernel_rfl) ?_;simp only[be,List.take_succ_cons,List.take_zero];rw[<-hW];clear hW
           repeat (first | (refine aF rfl ?_; simp only[Act.put,aB,aC,aD]) | (refine aJ rfl (fun K hK=> ?_); go_simp; refine hK _ ?_; clear hK K))
           refine aI ?_;go_wp2_with fail
           go_roundw
           case rel=>exact⟨j+1,by omega,by go_num,HT.out,HBW.out⟩
           case measure=>simp[intOf]; omega
          ·have e1:((c.toNat:Int) != (y.toNat:Int))=true:=by
            simp only[bne_iff_ne,ne_eq]; intro e; exact hm2 (UInt8.toNat_inj.1 (by omega))
           have HT:=ab (HBAD.out (by
            intro e;have h1:=HC.out;rw[e,HY.out]at h1;exact hm2 (Option.some.inj h1).symm))
           clear hm2;go_wp2_with fail;refine an [some 11] (by kernel_rfl) (by kernel_rfl) (by kernel_rfl) ?_;simp only[be,List.take_succ_cons,List.take_zero];rw[<-hW];clear hW
           repeat (first | (refine aF rfl ?_; simp only[Act.put,aB,aC,aD]) | (refine aJ rfl (fun K hK=> ?_); go_simp; refine hK _ ?_; clear hK K))
           refine aI ?_;go_wp2_with fail
           (go_ret3; exact⟨by rw[HT.out]; rfl,HBX.out⟩)
         ·obtain rfl:j=n:=by omega
          have HT:=ab (HGOOD.out (by
           have:=HJT.out
           rwa [List.take_of_length_le (by rw[HL2.out]; exact Nat.le_refl _),List.take_of_length_le (by rw[HBL.out]; exact Nat.le_refl _)]at this))
          go_wp2_with fail
          (go_ret3; exact⟨by rw[HT.out]; rfl,ah HB3.out HB4.out⟩)
       ·have HT:=ab (HBAD.out (by intro e; exact hl2 (by rw[e]; exact HBL.out)));have e1:((en.length:Int) != (n:Int))=true:=by simp; omega
        clear hl2;go_wp2_with fail
        go_simp
        go_wp2_with fail
        (go_ret3; exact⟨by rw[HT.out]; rfl,HB3.out⟩)
      ·obtain⟨j,rfl⟩: ∃j',j=j'+1:=⟨j-1,by omega⟩;obtain rfl:i=(j:Int):=by omega
       obtain⟨y,hy⟩: ∃y,data[off+j]? =some y:=⟨data[off+j]'(by omega),by simp⟩;have hy8:=y.toNat_lt;have HT:=ab (show gM (bs.drop j)=(gM (bs.drop (j+1))*128%18446744073709551616+y.toNat%128)%18446744073709551616 by
        rw[wC (l:=bs) (b:=y) (by rw[HBI.out j (by omega)]; exact hy),AR])
       obtain⟨b3,o3,hbo,q0⟩:=gz HV.out HB2.out hy
       cases hbo
       obtain⟨V,hV⟩: ∃V,V=gM (bs.drop (j+1)):=⟨_,rfl⟩;have hVl:V<18446744073709551616:=by rw[hV]; exact yM _
       rw[<-hV]at HT ⊢;clear hy hi hV;go_wp2_with fail
       go_roundw
       case rel=>exact⟨j,(j:Int)-1,by omega,by rfl,by omega,by rw[HT.out]; simp only[IntKind.wrap_u64]; congr 1,HB2.out⟩
       case measure=>simp[intOf]
   ·have HT:=ab (show fP data off 10 0= .error 3 by rw[HN.out]; exact Ct (by omega));go_wp2_with fail
    (go_ret3; exact⟨by rw[HT.out]; rfl,HB.out⟩)
  ·have HT:=ab (show fP data off 10 0= .error 3 by rw[HN.out,show 11-n=0 by omega]; rfl);go_wp2_with fail
   (go_ret3; exact⟨by rw[HT.out]; rfl,HB.out⟩)
end Go.Proofs.YtpffpjbkbaleiaaGreatDoor
namespace Go.Proofs.YtpffpjbkbaleiaaGreatDoor
open Go.RowKit
structure jb where
 kind:Int
 u:Nat
 n:Int
 b:Bool
 s:ByteArray
 most:Int
theorem vO (s:ByteArray):Lib.strCells s=(bl s).map au:=rfl
theorem kO {ops:Array Oper} {rest:List Oper} {o:Oper} {a:Act} {Q:Exit->Act->World->Prop} {w:World} (hgd:o.guard=none) (sl x:Operand)
  (ho:o.op= .call {callee:= .builtin .append,args:= #[sl,x],argTypes:= #[29,9]}) (base:Nat) (v:Value) (acc:List UInt8) (hs:a.eval sl=v) (hown:w.ownsRow base 5 1 v acc.length (acc.map au)) (s:ByteArray) (hx:a.eval x= .string s)
  (hn:acc.length+s.size<1099511627775) (hbase:base<=w.heap.size)
  (h: ∀v' w',w'.ownsRow base 5 1 v' (acc.length+s.size) (acc.map au++(bl s).map au)->w.grownBy w' v.ownBlock->wpList Tryz.prog ops Q rest (a.put o.dst v') w'):wpList Tryz.prog ops Q (o::rest) a w:=by
 obtain⟨ht,⟨i,z,h11,h12,h13,h14,h15⟩,hpos,hsm⟩:=Tryz.appBytes;have hz:i.zero=some (.int .u8 0):=by
  have:(Tryz.prog.info? 5).map (fun i=>i.zero)=some (some (.int .u8 0)):=by kernel_rfl
  rw[h11]at this;exact Option.some.inj this
 refine Lib.wpList_append_own_string w hgd sl x 29 9 ho base 5 i ht Tryz.underlying9 h11 hz h13 h14 v acc.length _ hs hown s hx (by unfold maxLen; omega) (by omega) hbase fun v' w' h1 h2 _=>h v' w' ?_ h2
 rw[<-vO];exact h1
end Go.Proofs.YtpffpjbkbaleiaaGreatDoor
namespace Go.Proofs.YtpffpjbkbaleiaaGreatDoor
open Go.RowKit
def rvV (x:jb):Value:= .agg #[.int .i64 x.kind, .int .u64 (x.u:Int), .int .i64 x.n, .bool x.b, .string x.s, .int .i64 x.most]
theorem wrap_u64 (n:Int):IntKind.u64.wrap n=((n%18446744073709551616).toNat:Int):=by rw[IntKind.wrap_u64]; omega
end Go.Proofs.YtpffpjbkbaleiaaGreatDoor
namespace Go.Proofs.YtpffpjbkbaleiaaGreatDoor
open Go.RowKit
def lz {α:Type} (z:jb) (val:α->jb) (off:Nat) (r:Except Int (α×Nat)) (w:World) (e:Ending) (w':World):Prop:=
 (match r with
  | .ok (x,o)=>e= .returned (.tuple #[rvV (val x), .int .i64 (o:Int), .int .i64 0])
  | .error y=>e= .returned (.tuple #[rvV z, .int .i64 (off:Int), .int .i64 y]))/\Below w.heap.size w w'
theorem dd (S:Nat->Prop) (v:Value) (data:List UInt8) (off:Nat) (w:World) (hv:aw S w v data) (hoff:off<=data.length) (hsm:data.length<=32768) (r:Except Int (Nat×Nat)) (hr:dP data off=r):
  Calls Tryz.prog 144 #[v, .int .i64 (off:Int)] w fun e w'=>e= .returned (gu r)/\Below w.heap.size w w':=by
 rw[<-hr,vj data off hoff]; exact tj S v data off w hv hoff hsm
theorem bJ (w:World) (x:Obj):(w.alloc x).heap[w.heap.size]? =some x:=by show(w.heap.push x)[w.heap.size]? =some x; simp
theorem dg (w:World) (x y:Obj):((w.alloc x).alloc y).heap[w.heap.size+1]? =some y:=by
 have:=bJ (w.alloc x) y
 rwa [show(w.alloc x).heap.size=w.heap.size+1 by show(w.heap.push x).size=_; simp]at this
theorem EG {w:World} {b:Nat} {a0 a1 a2 a3 a4 a5 x0 x1 x2 x3 x4 x5:Value} {t:TypeId} (h:w.heap[b]? =some (.cells #[a0,a1,a2,a3,a4,a5] t (0,0))):
  ((((((w.setCell ⟨b,0,none⟩ x0).setCell ⟨b,1,none⟩ x1).setCell ⟨b,2,none⟩ x2).setCell ⟨b,3,none⟩ x3).setCell ⟨b,4,none⟩ x4).setCell ⟨b,5,none⟩ x5).heap[b]? =some (.cells #[x0,x1,x2,x3,x4,x5] t (0,0)):=
 cJ (cJ (cJ (cJ (cJ (cJ h x0) x1) x2) x3) x4) x5
theorem pO {a:Act} {w:World} {b:Nat} {x0 x1 x2 x3 x4 x5 e9 e10:Value} (h:w.heap[b]? =some (.cells #[x0,x1,x2,x3,x4,x5] 96 (0,0)))
  (h8:a.tmps[8]? =some (.pointer (some ⟨b,0,none⟩))) (h9:a.tmps[9]? =some e9) (h10:a.tmps[10]? =some e10):(results Tryz.f114 a.tmps).run Tryz.prog w= .ok (.tuple #[.agg #[x0,x1,x2,x3,x4,x5],e9,e10]) w:=by
 have m0:=ai (k:=0) h;have m1:=ai (k:=1) h;have m2:=ai (k:=2) h;have m3:=ai (k:=3) h;have m4:=ai (k:=4) h;have m5:=ai (k:=5) h;simp only[aN]at m0 m1 m2 m3 m4 m5;simp[results,Tryz.results114,go_sem,h8,h9,h10,m0,m1,m2,m3,m4,m5]
theorem eN {a:Act} {w:World} {b:Nat} {a0 a1 a2 a3 a4 a5 x0 x1 x2 x3 x4 x5 e9 e10:Value} {Q:Ending->World->Prop} (h:w.heap[b]? =some (.cells #[a0,a1,a2,a3,a4,a5] 96 (0,0)))
  (h8:a.tmps[8]? =some (.pointer (some ⟨b,0,none⟩))) (h9:a.tmps[9]? =some e9) (h10:a.tmps[10]? =some e10) (hd:a.defers=[])
  (hQ:Q (.returned (.tuple #[.agg #[x0,x1,x2,x3,x4,x5],e9,e10])) ((((((w.setCell ⟨b,0,none⟩ x0).setCell ⟨b,1,none⟩ x1).setCell ⟨b,2,none⟩ x2).setCell ⟨b,3,none⟩ x3).setCell ⟨b,4,none⟩ x4).setCell ⟨b,5,none⟩ x5)):
  bodyPost Tryz.prog Tryz.f114 Q Exit.ret a ((((((w.setCell ⟨b,0,none⟩ x0).setCell ⟨b,1,none⟩ x1).setCell ⟨b,2,none⟩ x2).setCell ⟨b,3,none⟩ x3).setCell ⟨b,4,none⟩ x4).setCell ⟨b,5,none⟩ x5):=
 bodyPost_ret (pO (EG h) h8 h9 h10) hd hQ
theorem bG {B:Nat} {a w:World} {b k:Nat} {x:Value} (h:Below B a w) (hb:B<=b):Below B a (w.setCell ⟨b,k,none⟩ x):=Below.setCell h hb x
theorem zY (S:Nat->Prop) (v:Value) (data:List UInt8) (off:Nat) (w:World) (hv:aw S w v data) (hoff:off<=data.length) (hsm:data.length<=32768):
  Calls Tryz.prog 114 #[v, .int .i64 (off:Int), .int .i64 1, .int .i64 0] w (lz ⟨1,0,0,false,⟨#[]⟩,0⟩ (fun n=>⟨1,n,0,false,⟨#[]⟩,0⟩) off (dP data off) w):=by
 cases hnum:dP data off with
 | error y=>
  obtain rfl:=iR hnum;have HV:=ab hv;obtain⟨_,a,cap,rfl,hc,hm,-⟩:=hv;unfold maxLen at hm
  go_enter Tryz.func114,Tryz.ntmps114
  go_wp2_with fail;obtain⟨W,hW⟩: ∃W:World,W=(w.alloc (.cells #[.int .i64 0, .int .u64 0, .int .i64 0, .bool false, .string ⟨#[]⟩, .int .i64 0] 96)).alloc (.cells #[.int .i64 1, .int .u64 0, .int .i64 0, .bool false, .string ⟨#[]⟩, .int .i64 0] 96):=⟨_,rfl⟩;rw[<-hW];have HB0:=ab (show Below w.heap.size w W by rw[hW]; exact((Below.refl _ _).alloc (Nat.le_refl _) _).alloc (by simp) _)
  have hz8:W.heap[w.heap.size]? =some (.cells #[.int .i64 0, .int .u64 0, .int .i64 0, .bool false, .string ⟨#[]⟩, .int .i64 0] 96 (0,0)):=by rw[hW]; exact cK (bJ _ _) _
  have hz11:W.heap[w.heap.size+1]? =some (.cells #[.int .i64 1, .int .u64 0, .int .i64 0, .bool false, .string ⟨#[]⟩, .int .i64 0] 96 (0,0)):=by rw[hW]; exact dg _ _ _
  refine(dd S _ data off W (HV.out.below (Nat.le_refl _) HB0.out) hoff hsm _ hnum).mono ?_;rintro e w1 ⟨he,hb1⟩;simp only[gu]at he;subst he;have HB1:=ab (ah HB0.out hb1);have HX8:=ab ((hb1.block w.heap.size (lt_of_block hz8)).trans hz8);have HX11:=ab ((hb1.block (w.heap.size+1) (lt_of_block hz11)).trans hz11);have HZ1:=ab (lt_of_block hz11);clear hz8 hz11 hW HB0 hb1
  have q0:=ai (k:=0) HX11.out;have q1:=ai (k:=1) HX11.out;have q2:=ai (k:=2) HX11.out;have q3:=ai (k:=3) HX11.out;have q4:=ai (k:=4) HX11.out;have q5:=ai (k:=5) HX11.out;simp only[aN]at q0 q1 q2 q3 q4 q5;have m0:=ai (k:=0) HX8.out;have m1:=ai (k:=1) HX8.out;have m2:=ai (k:=2) HX8.out;have m3:=ai (k:=3) HX8.out;have m4:=ai (k:=4) HX8.out
  have m5:=ai (k:=5) HX8.out;simp only[aN]at m0 m1 m2 m3 m4 m5;have g1:=ag (k:=1) HX11.out;have g2:=ag (k:=2) HX11.out;have g4:=ag (k:=4) HX11.out;have p0:=ag (k:=0) HX8.out;have p1:=ag (k:=1) HX8.out;have p2:=ag (k:=2) HX8.out;have p3:=ag (k:=3) HX8.out;have p4:=ag (k:=4) HX8.out;have p5:=ag (k:=5) HX8.out;go_wp2_with fail
  refine eN (b:=w.heap.size) (e9:= .int .i64 (off:Int)) (e10:= .int .i64 3) (HX8.out) (by kernel_rfl) (by kernel_rfl) (by kernel_rfl) (by kernel_rfl) (And.intro (by exact rfl) ?_)
  repeat refine bG ?_ (by omega)
  exact HB1.out
 | ok p=>
  obtain⟨n,o⟩:=p;have hsp:=dU hnum;have HV:=ab hv;obtain⟨_,a,cap,rfl,hc,hm,-⟩:=hv;unfold maxLen at hm
  go_enter Tryz.func114,Tryz.ntmps114
  go_wp2_with fail;obtain⟨W,hW⟩: ∃W:World,W=(w.alloc (.cells #[.int .i64 0, .int .u64 0, .int .i64 0, .bool false, .string ⟨#[]⟩, .int .i64 0] 96)).alloc (.cells #[.int .i64 1, .int .u64 0, .int .i64 0, .bool false, .string ⟨#[]⟩, .int .i64 0] 96):=⟨_,rfl⟩;rw[<-hW];have HB0:=ab (show Below w.heap.size w W by rw[hW]; exact((Below.refl _ _).alloc (Nat.le_refl _) _).alloc (by simp) _)
  have hz8:W.heap[w.heap.size]? =some (.cells #[.int .i64 0, .int .u64 0, .int .i64 0, .bool false, .string ⟨#[]⟩, .int .i64 0] 96 (0,0)):=by rw[hW]; exact cK (bJ _ _) _
  have hz11:W.heap[w.heap.size+1]? =some (.cells #[.int .i64 1, .int .u64 0, .int .i64 0, .bool false, .string ⟨#[]⟩, .int .i64 0] 96 (0,0)):=by rw[hW]; exact dg _ _ _
  refine(dd S _ data off W (HV.out.below (Nat.le_refl _) HB0.out) hoff hsm _ hnum).mono ?_;rintro e w1 ⟨he,hb1⟩;simp only[gu]at he;subst he;have HB1:=ab (ah HB0.out hb1);have HX8:=ab ((hb1.block w.heap.size (lt_of_block hz8)).trans hz8);have HX11:=ab ((hb1.block (w.heap.size+1) (lt_of_block hz11)).trans hz11);have HZ1:=ab (lt_of_block hz11);clear hz8 hz11 hW HB0 hb1
  have q0:=ai (k:=0) HX11.out;have q1:=ai (k:=1) HX11.out;have q2:=ai (k:=2) HX11.out;have q3:=ai (k:=3) HX11.out;have q4:=ai (k:=4) HX11.out;have q5:=ai (k:=5) HX11.out;simp only[aN]at q0 q1 q2 q3 q4 q5;have m0:=ai (k:=0) HX8.out;have m1:=ai (k:=1) HX8.out;have m2:=ai (k:=2) HX8.out;have m3:=ai (k:=3) HX8.out;have m4:=ai (k:=4) HX8.out
  have m5:=ai (k:=5) HX8.out;simp only[aN]at m0 m1 m2 m3 m4 m5;have g1:=ag (k:=1) HX11.out;have g2:=ag (k:=2) HX11.out;have g4:=ag (k:=4) HX11.out;have p0:=ag (k:=0) HX8.out;have p1:=ag (k:=1) HX8.out;have p2:=ag (k:=2) HX8.out;have p3:=ag (k:=3) HX8.out;have p4:=ag (k:=4) HX8.out;have p5:=ag (k:=5) HX8.out;go_wp2_with fail
  refine eN (b:=w.heap.size) (e9:= .int .i64 (o:Int)) (e10:= .int .i64 0) (bc HX8.out (by omega) _) (by kernel_rfl) (by kernel_rfl) (by kernel_rfl) (by kernel_rfl) (And.intro (by exact rfl) ?_)
  repeat refine bG ?_ (by omega)
  exact HB1.out
theorem uX {data:List UInt8} {off most:Nat} {y:Int} (h:dP data off= .error y):dn data off most= .error y:=by unfold dn; rw[h]
theorem rH {data:List UInt8} {off most n o:Nat} (h:dP data off= .ok (n,o)) (hn:most<n):dn data off most= .error 2:=by unfold dn; rw[h]; simp only[if_pos hn]
theorem yu {data:List UInt8} {off most n o:Nat} (h:dP data off= .ok (n,o)) (hn: ¬most<n):dn data off most= .ok (n,o):=by unfold dn; rw[h]; simp only[if_neg hn]
theorem Ab (S:Nat->Prop) (v:Value) (data:List UInt8) (off most:Nat) (w:World) (hv:aw S w v data) (hoff:off<=data.length) (hsm:data.length<=32768) (hmost:most<=32768):
  Calls Tryz.prog 114 #[v, .int .i64 (off:Int), .int .i64 7, .int .i64 (most:Int)] w (lz ⟨7,0,0,false,⟨#[]⟩,most⟩ (fun n:Nat=>⟨7,0,(n:Int),false,⟨#[]⟩,most⟩) off (dn data off most) w):=by
 cases hnum:dP data off with
 | error y=>
  obtain rfl:=iR hnum;rw[uX hnum];have HV:=ab hv;obtain⟨_,a,cap,rfl,hc,hm,-⟩:=hv;unfold maxLen at hm
  go_enter Tryz.func114,Tryz.ntmps114
  go_wp2_with fail;obtain⟨W,hW⟩: ∃W:World,W=(w.alloc (.cells #[.int .i64 0, .int .u64 0, .int .i64 0, .bool false, .string ⟨#[]⟩, .int .i64 0] 96)).alloc (.cells #[.int .i64 7, .int .u64 0, .int .i64 0, .bool false, .string ⟨#[]⟩, .int .i64 (most:Int)] 96):=⟨_,rfl⟩;rw[<-hW];have HB0:=ab (show Below w.heap.size w W by rw[hW]; exact((Below.refl _ _).alloc (Nat.le_refl _) _).alloc (by simp) _)
  have hz8:W.heap[w.heap.size]? =some (.cells #[.int .i64 0, .int .u64 0, .int .i64 0, .bool false, .string ⟨#[]⟩, .int .i64 0] 96 (0,0)):=by rw[hW]; exact cK (bJ _ _) _
  have hz11:W.heap[w.heap.size+1]? =some (.cells #[.int .i64 7, .int .u64 0, .int .i64 0, .bool false, .string ⟨#[]⟩, .int .i64 (most:Int)] 96 (0,0)):=by rw[hW]; exact dg _ _ _
  refine(dd S _ data off W (HV.out.below (Nat.le_refl _) HB0.out) hoff hsm _ hnum).mono ?_;rintro e w1 ⟨he,hb1⟩;simp only[gu]at he;subst he;have HB1:=ab (ah HB0.out hb1);have HX8:=ab ((hb1.block w.heap.size (lt_of_block hz8)).trans hz8);have HX11:=ab ((hb1.block (w.heap.size+1) (lt_of_block hz11)).trans hz11);have HZ1:=ab (lt_of_block hz11);clear hz8 hz11 hW HB0 hb1
  have q0:=ai (k:=0) HX11.out;have q1:=ai (k:=1) HX11.out;have q2:=ai (k:=2) HX11.out;have q3:=ai (k:=3) HX11.out;have q4:=ai (k:=4) HX11.out;have q5:=ai (k:=5) HX11.out;simp only[aN]at q0 q1 q2 q3 q4 q5;have m0:=ai (k:=0) HX8.out;have m1:=ai (k:=1) HX8.out;have m2:=ai (k:=2) HX8.out;have m3:=ai (k:=3) HX8.out;have m4:=ai (k:=4) HX8.out
  have m5:=ai (k:=5) HX8.out;simp only[aN]at m0 m1 m2 m3 m4 m5;have g1:=ag (k:=1) HX11.out;have g2:=ag (k:=2) HX11.out;have g4:=ag (k:=4) HX11.out;have p0:=ag (k:=0) HX8.out;have p1:=ag (k:=1) HX8.out;have p2:=ag (k:=2) HX8.out;have p3:=ag (k:=3) HX8.out;have p4:=ag (k:=4) HX8.out;have p5:=ag (k:=5) HX8.out;go_wp2_with fail
  refine eN (b:=w.heap.size) (e9:= .int .i64 (off:Int)) (e10:= .int .i64 3) (HX8.out) (by kernel_rfl) (by kernel_rfl) (by kernel_rfl) (by kernel_rfl) (And.intro (by exact rfl) ?_)
  repeat refine bG ?_ (by omega)
  exact HB1.out
 | ok p=>
  obtain⟨n,o⟩:=p;have hsp:=dU hnum
  by_cases hn:most<n
  ·rw[rH hnum hn];have HV:=ab hv;obtain⟨_,a,cap,rfl,hc,hm,-⟩:=hv;unfold maxLen at hm
   go_enter Tryz.func114,Tryz.ntmps114
   go_wp2_with fail;obtain⟨W,hW⟩: ∃W:World,W=(w.alloc (.cells #[.int .i64 0, .int .u64 0, .int .i64 0, .bool false, .string ⟨#[]⟩, .int .i64 0] 96)).alloc (.cells #[.int .i64 7, .int .u64 0, .int .i64 0, .bool false, .string ⟨#[]⟩, .int .i64 (most:Int)] 96):=⟨_,rfl⟩;rw[<-hW];have HB0:=ab (show Below w.heap.size w W by rw[hW]; exact((Below.refl _ _).alloc (Nat.le_refl _) _).alloc (by simp) _)
   have hz8:W.heap[w.heap.size]? =some (.cells #[.int .i64 0, .int .u64 0, .int .i64 0, .bool false, .string ⟨#[]⟩, .int .i64 0] 96 (0,0)):=by rw[hW]; exact cK (bJ _ _) _
   have hz11:W.heap[w.heap.size+1]? =some (.cells #[.int .i64 7, .int .u64 0, .int .i64 0, .bool false, .string ⟨#[]⟩, .int .i64 (most:Int)] 96 (0,0)):=by rw[hW]; exact dg _ _ _
   refine(dd S _ data off W (HV.out.below (Nat.le_refl _) HB0.out) hoff hsm _ hnum).mono ?_;rintro e w1 ⟨he,hb1⟩;simp only[gu]at he;subst he;have HB1:=ab (ah HB0.out hb1);have HX8:=ab ((hb1.block w.heap.size (lt_of_block hz8)).trans hz8);have HX11:=ab ((hb1.block (w.heap.size+1) (lt_of_block hz11)).trans hz11);have HZ1:=ab (lt_of_block hz11);clear hz8 hz11 hW HB0 hb1
   have q0:=ai (k:=0) HX11.out;have q1:=ai (k:=1) HX11.out;have q2:=ai (k:=2) HX11.out;have q3:=ai (k:=3) HX11.out;have q4:=ai (k:=4) HX11.out;have q5:=ai (k:=5) HX11.out;simp only[aN]at q0 q1 q2 q3 q4 q5;have m0:=ai (k:=0) HX8.out;have m1:=ai (k:=1) HX8.out;have m2:=ai (k:=2) HX8.out;have m3:=ai (k:=3) HX8.out;have m4:=ai (k:=4) HX8.out
   have m5:=ai (k:=5) HX8.out;simp only[aN]at m0 m1 m2 m3 m4 m5;have g1:=ag (k:=1) HX11.out;have g2:=ag (k:=2) HX11.out;have g4:=ag (k:=4) HX11.out;have p0:=ag (k:=0) HX8.out;have p1:=ag (k:=1) HX8.out;have p2:=ag (k:=2) HX8.out;have p3:=ag (k:=3) HX8.out;have p4:=ag (k:=4) HX8.out;have p5:=ag (k:=5) HX8.out
   go_wp2_with fail;refine eN (b:=w.heap.size) (e9:= .int .i64 (off:Int)) (e10:= .int .i64 2) (HX8.out) (by kernel_rfl) (by kernel_rfl) (by kernel_rfl) (by kernel_rfl) (And.intro (by exact rfl) ?_)
   repeat refine bG ?_ (by omega)
   exact HB1.out
  ·rw[yu hnum hn];have HV:=ab hv;obtain⟨_,a,cap,rfl,hc,hm,-⟩:=hv;unfold maxLen at hm
   go_enter Tryz.func114,Tryz.ntmps114
   go_wp2_with fail;obtain⟨W,hW⟩: ∃W:World,W=(w.alloc (.cells #[.int .i64 0, .int .u64 0, .int .i64 0, .bool false, .string ⟨#[]⟩, .int .i64 0] 96)).alloc (.cells #[.int .i64 7, .int .u64 0, .int .i64 0, .bool false, .string ⟨#[]⟩, .int .i64 (most:Int)] 96):=⟨_,rfl⟩;rw[<-hW];have HB0:=ab (show Below w.heap.size w W by rw[hW]; exact((Below.refl _ _).alloc (Nat.le_refl _) _).alloc (by simp) _)
   have hz8:W.heap[w.heap.size]? =some (.cells #[.int .i64 0, .int .u64 0, .int .i64 0, .bool false, .string ⟨#[]⟩, .int .i64 0] 96 (0,0)):=by rw[hW]; exact cK (bJ _ _) _
   have hz11:W.heap[w.heap.size+1]? =some (.cells #[.int .i64 7, .int .u64 0, .int .i64 0, .bool false, .string ⟨#[]⟩, .int .i64 (most:Int)] 96 (0,0)):=by rw[hW]; exact dg _ _ _
   refine(dd S _ data off W (HV.out.below (Nat.le_refl _) HB0.out) hoff hsm _ hnum).mono ?_;rintro e w1 ⟨he,hb1⟩;simp only[gu]at he;subst he;have HB1:=ab (ah HB0.out hb1);have HX8:=ab ((hb1.block w.heap.size (lt_of_block hz8)).trans hz8);have HX11:=ab ((hb1.block (w.heap.size+1) (lt_of_block hz11)).trans hz11);have HZ1:=ab (lt_of_block hz11);clear hz8 hz11 hW HB0 hb1
   have q0:=ai (k:=0) HX11.out;have q1:=ai (k:=1) HX11.out;have q2:=ai (k:=2) HX11.out;have q3:=ai (k:=3) HX11.out;have q4:=ai (k:=4) HX11.out;have q5:=ai (k:=5) HX11.out;simp only[aN]at q0 q1 q2 q3 q4 q5;have m0:=ai (k:=0) HX8.out;have m1:=ai (k:=1) HX8.out;have m2:=ai (k:=2) HX8.out;have m3:=ai (k:=3) HX8.out;have m4:=ai (k:=4) HX8.out
   have m5:=ai (k:=5) HX8.out;simp only[aN]at m0 m1 m2 m3 m4 m5;have g1:=ag (k:=1) HX11.out;have g2:=ag (k:=2) HX11.out;have g4:=ag (k:=4) HX11.out;have p0:=ag (k:=0) HX8.out;have p1:=ag (k:=1) HX8.out;have p2:=ag (k:=2) HX8.out;have p3:=ag (k:=3) HX8.out;have p4:=ag (k:=4) HX8.out;have p5:=ag (k:=5) HX8.out
   go_wp2_with fail;refine eN (b:=w.heap.size) (e9:= .int .i64 (o:Int)) (e10:= .int .i64 0) (bc HX8.out (by omega) _) (by kernel_rfl) (by kernel_rfl) (by kernel_rfl) (by kernel_rfl) (And.intro (by exact rfl) ?_)
   repeat refine bG ?_ (by omega)
   exact HB1.out
end Go.Proofs.YtpffpjbkbaleiaaGreatDoor
namespace Go.Proofs.YtpffpjbkbaleiaaGreatDoor
open Go.RowKit
theorem sj {data:List UInt8} {off n:Nat} (h:data.length-off<n):cy data off n= .error 3:=by unfold cy; rw[if_pos h]
theorem vR {data:List UInt8} {off n:Nat} (h: ¬data.length-off<n):cy data off n= .ok ((data.drop off).take n,off+n):=by unfold cy; rw[if_neg h]
theorem kW {S:Nat->Prop} {w w':World} {a:Addr} {len cap:Nat} {data:List UInt8} (hv:aw S w (.slice (some a) len cap) data) (hb:Below w.heap.size w w') {off n c:Nat} (hn:off+n<=data.length) (hc:n<=c):
  (convert 29 9 (.slice (some ⟨a.block,a.off+off,none⟩) n c)).run Tryz.prog w'= .ok (.string ⟨((data.drop off).take n).toArray⟩) w':=by
 have hl:((data.drop off).take n).length=n:=by simp; omega
 have h:=sQ (w:=w') (rb:=a.block+1) (pv:= .slice (some ⟨a.block,a.off+off,none⟩) n c) (bs:=(data.drop off).take n) ⟨a.block,a.off+off,c,by rw[hl],by omega,by omega,fun j b hj=>by
  rw[List.getElem?_take]at hj
  split at hj
  ·rw[List.getElem?_drop]at hj;obtain⟨b',o',he,hq⟩:=gz hv hb hj
   cases he
   rw[Nat.add_assoc];exact hq
  ·cases hj⟩
 exact h
theorem Aa (S:Nat->Prop) (v:Value) (data:List UInt8) (off:Nat) (w:World) (hv:aw S w v data) (hoff:off<=data.length) (hsm:data.length<=32768):
  Calls Tryz.prog 114 #[v, .int .i64 (off:Int), .int .i64 6, .int .i64 0] w (lz ⟨6,0,0,false,⟨#[]⟩,0⟩ (fun bs:List UInt8=>⟨6,0,0,false,⟨bs.toArray⟩,0⟩) off (cy data off 32) w):=by
 have HB1:=ab (((Below.refl w.heap.size w).alloc (Nat.le_refl _) (.cells #[.int .i64 0, .int .u64 0, .int .i64 0, .bool false, .string ⟨#[]⟩, .int .i64 0] 96)).alloc (by simp) (.cells #[.int .i64 6, .int .u64 0, .int .i64 0, .bool false, .string ⟨#[]⟩, .int .i64 0] 96));have HX8:=ab (cK (bJ w (.cells #[.int .i64 0, .int .u64 0, .int .i64 0, .bool false, .string ⟨#[]⟩, .int .i64 0] 96)) (.cells #[.int .i64 6, .int .u64 0, .int .i64 0, .bool false, .string ⟨#[]⟩, .int .i64 0] 96))
 have HV:=ab hv;obtain⟨_,a,cap,rfl,hc,hm,-⟩:=hv;unfold maxLen at hm
 by_cases h32:data.length-off<32
 ·rw[sj h32]
  go_enter Tryz.func114,Tryz.ntmps114
  go_wp2_with fail;refine bodyPost_ret (pO (b:=w.heap.size) (e9:= .int .i64 ((off:Int))) (e10:= .int .i64 3) (cK (bJ _ _) _) (by kernel_rfl) (by kernel_rfl) (by kernel_rfl)) (by kernel_rfl) (And.intro (by exact rfl) ?_);exact((Below.refl w.heap.size w).alloc (Nat.le_refl _) _).alloc (by simp) _
 ·rw[vR h32];obtain⟨x,hx⟩: ∃x,data[off]? =some x:=⟨data[off]'(by omega),by simp⟩;obtain⟨b,o,rfl,-⟩:=gz HV.out HB1.out hx;have hcv:=kW HV.out HB1.out (off:=off) (n:=32) (c:=cap-off) (by omega) (by omega)
  go_enter Tryz.func114,Tryz.ntmps114
  go_wp2_with fail;refine bodyPost_ret (pO (b:=w.heap.size) (e9:= .int .i64 ((off:Int)+32)) (e10:= .int .i64 0) (cK (bJ _ _) _) (by kernel_rfl) (by kernel_rfl) (by kernel_rfl)) (by kernel_rfl) (And.intro (by exact rfl) ?_);exact((Below.refl w.heap.size w).alloc (Nat.le_refl _) _).alloc (by simp) _
theorem ov {data:List UInt8} {off most:Nat} {y:Int} (h:dn data off most= .error y):bY data off most= .error y:=by unfold bY; rw[h]
theorem yZ {data:List UInt8} {off most n o:Nat} (h:dn data off most= .ok (n,o)):bY data off most=cy data o n:=by unfold bY; rw[h]
theorem zZ (S:Nat->Prop) (v:Value) (data:List UInt8) (off most:Nat) (w:World) (hv:aw S w v data) (hoff:off<=data.length) (hsm:data.length<=32768) (hmost:most<=32768):
  Calls Tryz.prog 114 #[v, .int .i64 (off:Int), .int .i64 5, .int .i64 (most:Int)] w (lz ⟨5,0,0,false,⟨#[]⟩,most⟩ (fun bs:List UInt8=>⟨5,0,0,false,⟨bs.toArray⟩,most⟩) off (bY data off most) w):=by
 cases hnum:dP data off with
 | error y=>
  obtain rfl:=iR hnum;rw[ov (uX hnum)];have HV:=ab hv;obtain⟨_,a,cap,rfl,hc,hm,-⟩:=hv;unfold maxLen at hm
  go_enter Tryz.func114,Tryz.ntmps114
  go_wp2_with fail;obtain⟨W,hW⟩: ∃W:World,W=(w.alloc (.cells #[.int .i64 0, .int .u64 0, .int .i64 0, .bool false, .string ⟨#[]⟩, .int .i64 0] 96)).alloc (.cells #[.int .i64 5, .int .u64 0, .int .i64 0, .bool false, .string ⟨#[]⟩, .int .i64 (most:Int)] 96):=⟨_,rfl⟩;rw[<-hW];have HB0:=ab (show Below w.heap.size w W by rw[hW]; exact((Below.refl _ _).alloc (Nat.le_refl _) _).alloc (by simp) _)
  have hz8:W.heap[w.heap.size]? =some (.cells #[.int .i64 0, .int .u64 0, .int .i64 0, .bool false, .string ⟨#[]⟩, .int .i64 0] 96 (0,0)):=by rw[hW]; exact cK (bJ _ _) _
  have hz11:W.heap[w.heap.size+1]? =some (.cells #[.int .i64 5, .int .u64 0, .int .i64 0, .bool false, .string ⟨#[]⟩, .int .i64 (most:Int)] 96 (0,0)):=by rw[hW]; exact dg _ _ _
  refine(dd S _ data off W (HV.out.below (Nat.le_refl _) HB0.out) hoff hsm _ hnum).mono ?_;rintro e w1 ⟨he,hb1⟩;simp only[gu]at he;subst he;have HB1:=ab (ah HB0.out hb1);have HX8:=ab ((hb1.block w.heap.size (lt_of_block hz8)).trans hz8);have HX11:=ab ((hb1.block (w.heap.size+1) (lt_of_block hz11)).trans hz11);have HZ1:=ab (lt_of_block hz11);clear hz8 hz11 hW HB0 hb1
  have q0:=ai (k:=0) HX11.out;have q1:=ai (k:=1) HX11.out;have q2:=ai (k:=2) HX11.out;have q3:=ai (k:=3) HX11.out;have q4:=ai (k:=4) HX11.out;have q5:=ai (k:=5) HX11.out;simp only[aN]at q0 q1 q2 q3 q4 q5;have m0:=ai (k:=0) HX8.out;have m1:=ai (k:=1) HX8.out;have m2:=ai (k:=2) HX8.out;have m3:=ai (k:=3) HX8.out;have m4:=ai (k:=4) HX8.out
  have m5:=ai (k:=5) HX8.out;simp only[aN]at m0 m1 m2 m3 m4 m5;have g1:=ag (k:=1) HX11.out;have g2:=ag (k:=2) HX11.out;have g4:=ag (k:=4) HX11.out;have p0:=ag (k:=0) HX8.out;have p1:=ag (k:=1) HX8.out;have p2:=ag (k:=2) HX8.out;have p3:=ag (k:=3) HX8.out;have p4:=ag (k:=4) HX8.out;have p5:=ag (k:=5) HX8.out;go_wp2_with fail
  refine eN (b:=w.heap.size) (e9:= .int .i64 (off:Int)) (e10:= .int .i64 3) (HX8.out) (by kernel_rfl) (by kernel_rfl) (by kernel_rfl) (by kernel_rfl) (And.intro (by exact rfl) ?_)
  repeat refine bG ?_ (by omega)
  exact HB1.out
 | ok p=>
  obtain⟨n,o⟩:=p;have hsp:=dU hnum
  by_cases hn:most<n
  ·rw[ov (rH hnum hn)];have HV:=ab hv;obtain⟨_,a,cap,rfl,hc,hm,-⟩:=hv;unfold maxLen at hm
   go_enter Tryz.func114,Tryz.ntmps114
   go_wp2_with fail;obtain⟨W,hW⟩: ∃W:World,W=(w.alloc (.cells #[.int .i64 0, .int .u64 0, .int .i64 0, .bool false, .string ⟨#[]⟩, .int .i64 0] 96)).alloc (.cells #[.int .i64 5, .int .u64 0, .int .i64 0, .bool false, .string ⟨#[]⟩, .int .i64 (most:Int)] 96):=⟨_,rfl⟩;rw[<-hW];have HB0:=ab (show Below w.heap.size w W by rw[hW]; exact((Below.refl _ _).alloc (Nat.le_refl _) _).alloc (by simp) _)
   have hz8:W.heap[w.heap.size]? =some (.cells #[.int .i64 0, .int .u64 0, .int .i64 0, .bool false, .string ⟨#[]⟩, .int .i64 0] 96 (0,0)):=by rw[hW]; exact cK (bJ _ _) _
   have hz11:W.heap[w.heap.size+1]? =some (.cells #[.int .i64 5, .int .u64 0, .int .i64 0, .bool false, .string ⟨#[]⟩, .int .i64 (most:Int)] 96 (0,0)):=by rw[hW]; exact dg _ _ _
   refine(dd S _ data off W (HV.out.below (Nat.le_refl _) HB0.out) hoff hsm _ hnum).mono ?_;rintro e w1 ⟨he,hb1⟩;simp only[gu]at he;subst he;have HB1:=ab (ah HB0.out hb1);have HX8:=ab ((hb1.block w.heap.size (lt_of_block hz8)).trans hz8);have HX11:=ab ((hb1.block (w.heap.size+1) (lt_of_block hz11)).trans hz11);have HZ1:=ab (lt_of_block hz11);clear hz8 hz11 hW HB0 hb1
   have q0:=ai (k:=0) HX11.out;have q1:=ai (k:=1) HX11.out;have q2:=ai (k:=2) HX11.out;have q3:=ai (k:=3) HX11.out;have q4:=ai (k:=4) HX11.out;have q5:=ai (k:=5) HX11.out;simp only[aN]at q0 q1 q2 q3 q4 q5;have m0:=ai (k:=0) HX8.out;have m1:=ai (k:=1) HX8.out;have m2:=ai (k:=2) HX8.out;have m3:=ai (k:=3) HX8.out;have m4:=ai (k:=4) HX8.out
   have m5:=ai (k:=5) HX8.out;simp only[aN]at m0 m1 m2 m3 m4 m5;have g1:=ag (k:=1) HX11.out;have g2:=ag (k:=2) HX11.out;have g4:=ag (k:=4) HX11.out;have p0:=ag (k:=0) HX8.out;have p1:=ag (k:=1) HX8.out;have p2:=ag (k:=2) HX8.out;have p3:=ag (k:=3) HX8.out;have p4:=ag (k:=4) HX8.out;have p5:=ag (k:=5) HX8.out
   go_wp2_with fail;refine eN (b:=w.heap.size) (e9:= .int .i64 (off:Int)) (e10:= .int .i64 2) (HX8.out) (by kernel_rfl) (by kernel_rfl) (by kernel_rfl) (by kernel_rfl) (And.intro (by exact rfl) ?_)
   repeat refine bG ?_ (by omega)
   exact HB1.out
  ·rw[yZ (yu hnum hn)];have hcw:IntKind.u64.wrap ((data.length:Int)-(o:Int))=(data.length:Int)-(o:Int):=by rw[IntKind.wrap_u64]; omega
   by_cases hle:data.length-o<n
   ·rw[sj hle];have HV:=ab hv;obtain⟨_,a,cap,rfl,hc,hm,-⟩:=hv;unfold maxLen at hm
    go_enter Tryz.func114,Tryz.ntmps114
    go_wp2_with fail;obtain⟨W,hW⟩: ∃W:World,W=(w.alloc (.cells #[.int .i64 0, .int .u64 0, .int .i64 0, .bool false, .string ⟨#[]⟩, .int .i64 0] 96)).alloc (.cells #[.int .i64 5, .int .u64 0, .int .i64 0, .bool false, .string ⟨#[]⟩, .int .i64 (most:Int)] 96):=⟨_,rfl⟩;rw[<-hW];have HB0:=ab (show Below w.heap.size w W by rw[hW]; exact((Below.refl _ _).alloc (Nat.le_refl _) _).alloc (by simp) _)
    have hz8:W.heap[w.heap.size]? =some (.cells #[.int .i64 0, .int .u64 0, .int .i64 0, .bool false, .string ⟨#[]⟩, .int .i64 0] 96 (0,0)):=by rw[hW]; exact cK (bJ _ _) _
    have hz11:W.heap[w.heap.size+1]? =some (.cells #[.int .i64 5, .int .u64 0, .int .i64 0, .bool false, .string ⟨#[]⟩, .int .i64 (most:Int)] 96 (0,0)):=by rw[hW]; exact dg _ _ _
    refine(dd S _ data off W (HV.out.below (Nat.le_refl _) HB0.out) hoff hsm _ hnum).mono ?_;rintro e w1 ⟨he,hb1⟩;simp only[gu]at he;subst he;have HB1:=ab (ah HB0.out hb1);have HX8:=ab ((hb1.block w.heap.size (lt_of_block hz8)).trans hz8);have HX11:=ab ((hb1.block (w.heap.size+1) (lt_of_block hz11)).trans hz11);have HZ1:=ab (lt_of_block hz11);clear hz8 hz11 hW HB0 hb1
    have q0:=ai (k:=0) HX11.out;have q1:=ai (k:=1) HX11.out;have q2:=ai (k:=2) HX11.out;have q3:=ai (k:=3) HX11.out;have q4:=ai (k:=4) HX11.out;have q5:=ai (k:=5) HX11.out;simp only[aN]at q0 q1 q2 q3 q4 q5;have m0:=ai (k:=0) HX8.out;have m1:=ai (k:=1) HX8.out;have m2:=ai (k:=2) HX8.out;have m3:=ai (k:=3) HX8.out;have m4:=ai (k:=4) HX8.out
    have m5:=ai (k:=5) HX8.out;simp only[aN]at m0 m1 m2 m3 m4 m5;have g1:=ag (k:=1) HX11.out;have g2:=ag (k:=2) HX11.out;have g4:=ag (k:=4) HX11.out;have p0:=ag (k:=0) HX8.out;have p1:=ag (k:=1) HX8.out;have p2:=ag (k:=2) HX8.out;have p3:=ag (k:=3) HX8.out;have p4:=ag (k:=4) HX8.out;have p5:=ag (k:=5) HX8.out
    go_wp2_with fail;refine eN (b:=w.heap.size) (e9:= .int .i64 (off:Int)) (e10:= .int .i64 3) (HX8.out) (by kernel_rfl) (by kernel_rfl) (by kernel_rfl) (by kernel_rfl) (And.intro (by exact rfl) ?_)
    repeat refine bG ?_ (by omega)
    exact HB1.out
   ·rw[vR hle];obtain⟨x,hx⟩: ∃x,data[off]? =some x:=⟨data[off]'(by omega),by simp⟩;have HXX:=ab hx;clear hx;have HV:=ab hv;obtain⟨_,a,cap,rfl,hc,hm,-⟩:=hv;unfold maxLen at hm
    go_enter Tryz.func114,Tryz.ntmps114
    go_wp2_with fail;obtain⟨W,hW⟩: ∃W:World,W=(w.alloc (.cells #[.int .i64 0, .int .u64 0, .int .i64 0, .bool false, .string ⟨#[]⟩, .int .i64 0] 96)).alloc (.cells #[.int .i64 5, .int .u64 0, .int .i64 0, .bool false, .string ⟨#[]⟩, .int .i64 (most:Int)] 96):=⟨_,rfl⟩;rw[<-hW];have HB0:=ab (show Below w.heap.size w W by rw[hW]; exact((Below.refl _ _).alloc (Nat.le_refl _) _).alloc (by simp) _)
    have hz8:W.heap[w.heap.size]? =some (.cells #[.int .i64 0, .int .u64 0, .int .i64 0, .bool false, .string ⟨#[]⟩, .int .i64 0] 96 (0,0)):=by rw[hW]; exact cK (bJ _ _) _
    have hz11:W.heap[w.heap.size+1]? =some (.cells #[.int .i64 5, .int .u64 0, .int .i64 0, .bool false, .string ⟨#[]⟩, .int .i64 (most:Int)] 96 (0,0)):=by rw[hW]; exact dg _ _ _
    refine(dd S _ data off W (HV.out.below (Nat.le_refl _) HB0.out) hoff hsm _ hnum).mono ?_;rintro e w1 ⟨he,hb1⟩;simp only[gu]at he;subst he;have HB1:=ab (ah HB0.out hb1);have HX8:=ab ((hb1.block w.heap.size (lt_of_block hz8)).trans hz8);have HX11:=ab ((hb1.block (w.heap.size+1) (lt_of_block hz11)).trans hz11);have HZ1:=ab (lt_of_block hz11);clear hz8 hz11 hW HB0 hb1
    have q0:=ai (k:=0) HX11.out;have q1:=ai (k:=1) HX11.out;have q2:=ai (k:=2) HX11.out;have q3:=ai (k:=3) HX11.out;have q4:=ai (k:=4) HX11.out;have q5:=ai (k:=5) HX11.out;simp only[aN]at q0 q1 q2 q3 q4 q5;have m0:=ai (k:=0) HX8.out;have m1:=ai (k:=1) HX8.out;have m2:=ai (k:=2) HX8.out;have m3:=ai (k:=3) HX8.out;have m4:=ai (k:=4) HX8.out
    have m5:=ai (k:=5) HX8.out;simp only[aN]at m0 m1 m2 m3 m4 m5;have g1:=ag (k:=1) HX11.out;have g2:=ag (k:=2) HX11.out;have g4:=ag (k:=4) HX11.out;have p0:=ag (k:=0) HX8.out;have p1:=ag (k:=1) HX8.out;have p2:=ag (k:=2) HX8.out;have p3:=ag (k:=3) HX8.out;have p4:=ag (k:=4) HX8.out;have p5:=ag (k:=5) HX8.out
    obtain⟨b,ao,rfl,-⟩:=gz HV.out HB1.out HXX.out
    by_cases hco:cap=o
    ·obtain rfl:n=0:=by omega
     have hcv:=kW HV.out HB1.out (off:=0) (n:=0) (c:=0) (by omega) (by omega);simp only[Nat.add_zero]at hcv;subst hco;go_wp2_with fail;refine eN (b:=w.heap.size) (e9:= .int .i64 (cap:Int)) (e10:= .int .i64 0) (bc HX8.out (by omega) _) (by kernel_rfl) (by kernel_rfl) (by kernel_rfl) (by kernel_rfl) (And.intro (by exact rfl) ?_)
     repeat refine bG ?_ (by omega)
     exact HB1.out
    ·have hcv:=kW HV.out HB1.out (off:=o) (n:=n) (c:=cap-o) (by omega) (by omega);have hco2: ¬o=cap:=fun h=>hco h.symm
     have hco3: ¬cap-o=0:=by omega
     go_wp2_with fail;refine eN (b:=w.heap.size) (e9:= .int .i64 ((o:Int)+(n:Int):Int)) (e10:= .int .i64 0) (bc HX8.out (by omega) _) (by kernel_rfl) (by kernel_rfl) (by kernel_rfl) (by kernel_rfl) (And.intro (by exact rfl) ?_)
     repeat refine bG ?_ (by omega)
     exact HB1.out
end Go.Proofs.YtpffpjbkbaleiaaGreatDoor
namespace Go.Proofs.YtpffpjbkbaleiaaGreatDoor
open Go.RowKit
structure cj (w : World) (rb : Nat) (v : Value) (data : List UInt8) (s : RS) : Prop where
 box:w.heap[rb]? =some (.cells #[v, .int .i64 (s.off:Int), .int .i64 (s.last:Int), .int .i64 s.err] 112 (0,0))
 row:aM (· ≠rb) w 1 v data.length (data.map au)
 le:s.off<=data.length
 small:data.length<=32768
theorem cj.lt {w:World} {rb:Nat} {v:Value} {data:List UInt8} {s:RS} (h:cj w rb v data s):rb<w.heap.size:=lt_of_block h.box
theorem cj.below {w w':World} {rb:Nat} {v:Value} {data:List UInt8} {s:RS} (h:cj w rb v data s) (hb:Below w.heap.size w w'):cj w' rb v data s:=
 ⟨by rw[hb.block _ h.lt]; exact h.box,h.row.below (by omega) hb,h.le,h.small⟩
theorem cj.grown {w w':World} {rb:Nat} {v:Value} {data:List UInt8} {s s':RS} (h:cj w rb v data s) (hg:w.grownBy w' (some rb)) (hbox:w'.heap[rb]? =some (.cells #[v, .int .i64 (s'.off:Int), .int .i64 (s'.last:Int), .int .i64 s'.err] 112 (0,0))) (hle:s'.off<=data.length):cj w' rb v data s':=
 ⟨hbox,((h.row.mono (T:=fun k=>k≠rb/\k<w.heap.size) (fun k hk hS=>⟨hS,hk⟩) (by omega)).same (fun k hk=>hg.block k hk.2 (fun e=>hk.1 (by simpa using e)))).weak (fun k hk=>hk.1),hle,h.small⟩
theorem cj.fin {w wf:World} {rb:Nat} {v:Value} {data:List UInt8} {s s':RS} (h:cj w rb v data s) (hg:w.grownBy wf (some rb)) (hbox:wf.heap[rb]? =some (.cells #[v, .int .i64 (s'.off:Int), .int .i64 (s'.last:Int), .int .i64 s'.err] 112 (0,0))) (hle:s'.off<=data.length) {b:Nat} (hb:w.heap.size<=b) {x0 x1 x2 x3 x4 x5:Value} :
  cj ((((((wf.setCell ⟨b,0,none⟩ x0).setCell ⟨b,1,none⟩ x1).setCell ⟨b,2,none⟩ x2).setCell ⟨b,3,none⟩ x3).setCell ⟨b,4,none⟩ x4).setCell ⟨b,5,none⟩ x5) rb v data s'/\
  w.grownBy ((((((wf.setCell ⟨b,0,none⟩ x0).setCell ⟨b,1,none⟩ x1).setCell ⟨b,2,none⟩ x2).setCell ⟨b,3,none⟩ x3).setCell ⟨b,4,none⟩ x4).setCell ⟨b,5,none⟩ x5) (some rb):=by
 have hlt:=h.lt;have hne:rb≠b:=by omega
 have h6:=bW (bW (bW (bW (bW (bW hg hb (k:=0) x0) hb (k:=1) x1) hb (k:=2) x2) hb (k:=3) x3) hb (k:=4) x4) hb (k:=5) x5;exact⟨h.grown h6 (bc (bc (bc (bc (bc (bc hbox hne _) hne _) hne _) hne _) hne _) hne _) hle,h6⟩
def rr {α:Type} (z:jb) (val:α->jb) (r:Except Int (α×Nat)) (s:RS):jb×RS:=if s.err=0 then match r with
 | .ok (x,o)=>(val x,⟨o,s.off,0⟩)
 | .error y=>(z,⟨s.off,s.last,y⟩)else(z,s)
def kR (p:jb×RS) (rb:Nat) (v:Value) (data:List UInt8) (w:World) (e:Ending) (w':World):Prop:=e= .returned (rvV p.1)/\cj w' rb v data p.2/\w.grownBy w' (some rb)
theorem yC {a:Act} {w:World} {b:Nat} {x0 x1 x2 x3 x4 x5:Value} (h:w.heap[b]? =some (.cells #[x0,x1,x2,x3,x4,x5] 96 (0,0)))
  (h6:a.tmps[6]? =some (.pointer (some ⟨b,0,none⟩))):(results Tryz.f65 a.tmps).run Tryz.prog w= .ok (.agg #[x0,x1,x2,x3,x4,x5]) w:=by
 have m0:=ai (k:=0) h;have m1:=ai (k:=1) h;have m2:=ai (k:=2) h;have m3:=ai (k:=3) h;have m4:=ai (k:=4) h;have m5:=ai (k:=5) h;simp only[aN]at m0 m1 m2 m3 m4 m5;simp[results,Tryz.results65,go_sem,h6,m0,m1,m2,m3,m4,m5]
theorem nW {a:Act} {w:World} {b:Nat} {a0 a1 a2 a3 a4 a5 x0 x1 x2 x3 x4 x5:Value} {Q:Ending->World->Prop} (h:w.heap[b]? =some (.cells #[a0,a1,a2,a3,a4,a5] 96 (0,0)))
  (h6:a.tmps[6]? =some (.pointer (some ⟨b,0,none⟩))) (hd:a.defers=[])
  (hQ:Q (.returned (.agg #[x0,x1,x2,x3,x4,x5])) ((((((w.setCell ⟨b,0,none⟩ x0).setCell ⟨b,1,none⟩ x1).setCell ⟨b,2,none⟩ x2).setCell ⟨b,3,none⟩ x3).setCell ⟨b,4,none⟩ x4).setCell ⟨b,5,none⟩ x5)):
  bodyPost Tryz.prog Tryz.f65 Q Exit.ret a ((((((w.setCell ⟨b,0,none⟩ x0).setCell ⟨b,1,none⟩ x1).setCell ⟨b,2,none⟩ x2).setCell ⟨b,3,none⟩ x3).setCell ⟨b,4,none⟩ x4).setCell ⟨b,5,none⟩ x5):=
 bodyPost_ret (yC (EG h) h6) hd hQ
theorem yn {P:Program} {ops:Array Oper} {Q:Exit->Act->World->Prop} {S:World->Prop} {dst:Option Tmp} {op:Op} {ty:TypeId} {pos:String} {aft:Array Edge} {g:Option (Nat×Bool)} {fuel:Nat} {listed:Array Bool} {a:Act} {w:World} (i:Nat) (hi:ops[i]? =some ⟨dst,op,ty,pos,aft,g⟩)
  (hw:Region.wanted ⟨dst,op,ty,pos,aft,g⟩ (yielded ops a.tmps)=true)
  (h: ∀K:Act->World->Prop,(∀a w,S w/\lx P ops Q S fuel (listed.setIfInBounds i true) a w->K a w)->wpList P #[] (Exit.then K Q) [⟨dst,op,ty,pos, #[],none⟩] a w):
  wpOp P ops Q i (fun a' w'=>S w'/\wpAnyH P .any ops Q S fuel (listed.setIfInBounds i true) a' w') a w:=by
 have hb:nN P ops (fun a' w'=>S w'/\wpAnyH P .any ops Q S fuel (listed.setIfInBounds i true) a' w') Q [⟨dst,op,ty,pos,aft,g⟩] a w:=
  bA hw (fun K hK=>h K (fun a w hh=>hK a w ⟨hh.1,hh.2.out⟩))
 unfold wpOp;simp only[hi];exact nN.out hb
theorem Bw {B:Nat} {a w:World} {b:Nat} {x0 x1 x2 x3 x4 x5:Value} (h:Below B a w) (hb:B<=b):Below B a ((((((w.setCell ⟨b,0,none⟩ x0).setCell ⟨b,1,none⟩ x1).setCell ⟨b,2,none⟩ x2).setCell ⟨b,3,none⟩ x3).setCell ⟨b,4,none⟩ x4).setCell ⟨b,5,none⟩ x5):=
 bG (bG (bG (bG (bG (bG h hb) hb) hb) hb) hb) hb
theorem tn {w:World} {b c:Nat} {o:Obj} {x0 x1 x2 x3 x4 x5:Value} (h:w.heap[c]? =some o) (hne:c≠b):((((((w.setCell ⟨b,0,none⟩ x0).setCell ⟨b,1,none⟩ x1).setCell ⟨b,2,none⟩ x2).setCell ⟨b,3,none⟩ x3).setCell ⟨b,4,none⟩ x4).setCell ⟨b,5,none⟩ x5).heap[c]? =some o:=
 bc (bc (bc (bc (bc (bc h hne _) hne _) hne _) hne _) hne _) hne _
def lE (q:jb) (o':Nat) (er:Int) (K most:Int) (s:RS):jb×RS:=if er=0 then(q,⟨o',s.off,0⟩)else(⟨K,0,0,false,⟨#[]⟩,most⟩,⟨s.off,s.last,er⟩)
theorem qP (rb:Nat) (v:Value) (data:List UInt8) (s:RS) (K most:Int) (q:jb) (o':Nat) (er:Int) (w:World) (hr:cj w rb v data s) (hK:(K == 0)=false) (he:s.err=0) (ho:o'<=data.length)
  (hrd: ∀W,aw (· ≠rb) W v data->Calls Tryz.prog 114 #[v, .int .i64 (s.off:Int), .int .i64 K, .int .i64 most] W fun e w'=>e= .returned (.tuple #[rvV q, .int .i64 (o':Int), .int .i64 er])/\Below W.heap.size W w'):
  Calls Tryz.prog 65 #[.pointer (some ⟨rb,0,none⟩), .int .i64 K, .int .i64 most] w (kR (lE q o' er K most s) rb v data w):=by
 obtain⟨qk,qu,qn,qb,qs,qm⟩:=q;have HR:=ab hr;have hlt:=hr.lt;have HE:=ab he;have HRD:=ab hrd;have c3:=ai (k:=3) hr.box;simp only[aN]at c3;rw[he]at c3;clear hr hrd he
 go_enter Tryz.func65,Tryz.ntmps65
 go_wp2_with fail;obtain⟨W,hW⟩: ∃W:World,W=(w.alloc (.cells #[.int .i64 0, .int .u64 0, .int .i64 0, .bool false, .string ⟨#[]⟩, .int .i64 0] 96)).alloc (.cells #[.int .i64 K, .int .u64 0, .int .i64 0, .bool false, .string ⟨#[]⟩, .int .i64 most] 96):=⟨_,rfl⟩;rw[<-hW];have HB0:=ab (show Below w.heap.size w W by rw[hW]; exact((Below.refl _ _).alloc (Nat.le_refl _) _).alloc (by simp) _)
 have HZ8:=ab (show W.heap[w.heap.size]? =some (.cells #[.int .i64 0, .int .u64 0, .int .i64 0, .bool false, .string ⟨#[]⟩, .int .i64 0] 96 (0,0)) by rw[hW]; exact cK (bJ _ _) _);have HZ11:=ab (show W.heap[w.heap.size+1]? =some (.cells #[.int .i64 K, .int .u64 0, .int .i64 0, .bool false, .string ⟨#[]⟩, .int .i64 most] 96 (0,0)) by rw[hW]; exact dg _ _ _);clear hW c3
 refine cH (fun w'=>w'.cell? ⟨rb,0,none⟩=some v/\w'.cell? ⟨rb,1,none⟩=some (.int .i64 (s.off:Int))) (by kernel_rfl) ?_;obtain⟨W2,hW2⟩: ∃W2:World,W2=W.drew:=⟨_,rfl⟩;rw[<-hW2];have hbw:Below W.heap.size W W2:=by rw[hW2]; exact(Below.refl _ _).drew
 have HB2:=ab (ah HB0.out hbw);have HR2:=ab (HR.out.below HB2.out);have HY8:=ab ((hbw.block _ (lt_of_block HZ8.out)).trans HZ8.out);have HY11:=ab ((hbw.block _ (lt_of_block HZ11.out)).trans HZ11.out);clear hW2 hbw HZ8 HZ11 HB0;have c0:=ai (k:=0) HR2.out.box;have c1:=ai (k:=1) HR2.out.box;have c2:=ai (k:=2) HR2.out.box;have c3:=ai (k:=3) HR2.out.box;simp only[aN]at c0 c1 c2 c3
 refine af 0 rfl (by kernel_rfl) (by kernel_rfl) (by kernel_rfl) (fun _ _ _ h=>h) rfl (by go_simp) (by rintro w' ⟨hw1,hw2⟩; go_simp; rfl) ?_;simp only[Act.put,aB,aC,aD];refine af 1 rfl (by kernel_rfl) (by kernel_rfl) (by kernel_rfl) (fun _ _ _ h=>h) rfl (by go_simp) (by rintro w' ⟨hw1,hw2⟩; go_simp; rfl) ?_;simp only[Act.put,aB,aC,aD];refine af 2 rfl (by kernel_rfl) (by kernel_rfl) (by kernel_rfl) (fun _ _ _ h=>h) rfl (by go_simp) (by rintro w' ⟨hw1,hw2⟩; go_simp; rfl) ?_
 simp only[Act.put,aB,aC,aD];refine af 3 rfl (by kernel_rfl) (by kernel_rfl) (by kernel_rfl) (fun _ _ _ h=>h) rfl (by go_simp) (by rintro w' ⟨hw1,hw2⟩; go_simp; rfl) ?_;simp only[Act.put,aB,aC,aD];refine af 4 rfl (by kernel_rfl) (by kernel_rfl) (by kernel_rfl) (fun _ _ _ h=>h) rfl (by go_simp) (by rintro w' ⟨hw1,hw2⟩; go_simp; rfl) ?_;simp only[Act.put,aB,aC,aD]
 refine af 5 rfl (by kernel_rfl) (by kernel_rfl) (by kernel_rfl) (fun _ _ _ h=>h) rfl (by go_simp) (by rintro w' ⟨hw1,hw2⟩; go_simp; rfl) ?_;simp only[Act.put,aB,aC,aD];refine af 6 rfl (by kernel_rfl) (by kernel_rfl) (by kernel_rfl) (fun _ _ _ h=>h) rfl (by go_simp) (by rintro w' ⟨hw1,hw2⟩; go_simp; rfl) ?_;simp only[Act.put,aB,aC,aD];refine af 7 rfl (by kernel_rfl) (by kernel_rfl) (by kernel_rfl) (fun _ _ _ h=>h) rfl (by go_simp) (by rintro w' ⟨hw1,hw2⟩; go_simp; rfl) ?_
 simp only[Act.put,aB,aC,aD];refine af 8 rfl (by kernel_rfl) (by kernel_rfl) (by kernel_rfl) (fun _ _ _ h=>h) rfl (by go_simp) (by rintro w' ⟨hw1,hw2⟩; go_simp; rfl) ?_;simp only[Act.put,aB,aC,aD];refine af 9 rfl (by kernel_rfl) (by kernel_rfl) (by kernel_rfl) (fun _ _ _ h=>h) rfl (by go_simp) (by rintro w' ⟨hw1,hw2⟩; go_simp; rfl) ?_;simp only[Act.put,aB,aC,aD]
 refine lx.of (wpAnyH_all (rs:=[10,15]) (by kernel_rfl) (by simp) fun j hj=> ?_);simp only[List.mem_cons,List.not_mem_nil,or_false]at hj
 rcases hj with rfl | rfl
 ·refine yn 10 rfl rfl (fun K hK=> ?_);go_wp2_with (go_at_call 114; refine(HRD.out _ HR2.out.row).mono ?_; rintro e w1 ⟨rfl,hb1⟩; simp only[rvV]);have HB3:=ab (ah HB2.out hb1);have HR3:=ab (HR.out.below HB3.out);have HX8:=ab ((hb1.block _ (lt_of_block HY8.out)).trans HY8.out);have HX11:=ab ((hb1.block _ (lt_of_block HY11.out)).trans HY11.out);clear c0 c1 c2 c3;have c0:=ai (k:=0) HR3.out.box
  have c1:=ai (k:=1) HR3.out.box;have c2:=ai (k:=2) HR3.out.box;have c3:=ai (k:=3) HR3.out.box;simp only[aN]at c0 c1 c2 c3;refine⟨⟨c0,c1⟩, ?_⟩;refine af 11 rfl (by kernel_rfl) (by kernel_rfl) (by kernel_rfl) (fun _ _ _ h=>h) rfl (by go_simp) (by rintro w' ⟨hw1,hw2⟩; go_simp; rfl) ?_;simp only[Act.put,aB,aC,aD];refine af 12 rfl (by kernel_rfl) (by kernel_rfl) (by kernel_rfl) (fun _ _ _ h=>h) rfl (by go_simp) (by rintro w' ⟨hw1,hw2⟩; go_simp; rfl) ?_
  simp only[Act.put,aB,aC,aD];refine af 13 rfl (by kernel_rfl) (by kernel_rfl) (by kernel_rfl) (fun _ _ _ h=>h) rfl (by go_simp) (by rintro w' ⟨hw1,hw2⟩; go_simp; rfl) ?_;simp only[Act.put,aB,aC,aD];refine af 14 rfl (by kernel_rfl) (by kernel_rfl) (by kernel_rfl) (fun _ _ _ h=>h) rfl (by go_simp) (by rintro w' ⟨hw1,hw2⟩; go_simp; rfl) ?_;simp only[Act.put,aB,aC,aD]
  refine ar 15 rfl (by kernel_rfl) rfl (fun K hK=> ?_);go_wp2_with fail;obtain⟨w2,hw2⟩: ∃w2,w2=w1.alloc (.cells #[.int .i64 0, .int .u64 0, .int .i64 0, .bool false, .string ⟨#[]⟩, .int .i64 0] 96):=⟨_,rfl⟩;rw[<-hw2];have hb2:Below w1.heap.size w1 w2:=by rw[hw2]; exact(Below.refl _ _).alloc (Nat.le_refl _) _
  have HN8:=ab (show w2.heap[w1.heap.size]? =some (.cells #[.int .i64 0, .int .u64 0, .int .i64 0, .bool false, .string ⟨#[]⟩, .int .i64 0] 96 (0,0)) by rw[hw2]; exact bJ _ _);obtain⟨b8,hb8⟩: ∃b8,b8=w1.heap.size:=⟨_,rfl⟩;have HL8:=ab (show w.heap.size+1<b8 by rw[hb8]; exact lt_of_block HX11.out);rw[<-hb8]at HN8 ⊢;clear hw2 hb8;have HB4:=ab (ah HB3.out hb2)
  have HR4:=ab (HR.out.below HB4.out);have HW8:=ab ((hb2.block _ (lt_of_block HX8.out)).trans HX8.out);have HW11:=ab ((hb2.block _ (lt_of_block HX11.out)).trans HX11.out);clear c0 c1 c2 c3;have c0:=ai (k:=0) HR4.out.box;have c1:=ai (k:=1) HR4.out.box;have c2:=ai (k:=2) HR4.out.box;have c3:=ai (k:=3) HR4.out.box;simp only[aN]at c0 c1 c2 c3;refine⟨⟨c0,c1⟩, ?_⟩
  have m0:=ai (k:=0) HN8.out;have m1:=ai (k:=1) HN8.out;have m2:=ai (k:=2) HN8.out;have m3:=ai (k:=3) HN8.out;have m4:=ai (k:=4) HN8.out;have m5:=ai (k:=5) HN8.out;simp only[aN]at m0 m1 m2 m3 m4 m5;have p0:=ag (k:=0) HN8.out;have p1:=ag (k:=1) HN8.out;have p2:=ag (k:=2) HN8.out;have p3:=ag (k:=3) HN8.out;have p4:=ag (k:=4) HN8.out
  have p5:=ag (k:=5) HN8.out;refine ar 16 rfl (by kernel_rfl) rfl (fun K hK=> ?_);go_wp2_with fail;obtain⟨wf,hwf⟩: ∃wf,wf=((((((w2.setCell ⟨b8,0,none⟩ (.int .i64 qk)).setCell ⟨b8,1,none⟩ (.int .u64 (qu:Int))).setCell ⟨b8,2,none⟩ (.int .i64 qn)).setCell ⟨b8,3,none⟩ (.bool qb)).setCell ⟨b8,4,none⟩ (.string qs)).setCell ⟨b8,5,none⟩ (.int .i64 qm)):=⟨_,rfl⟩;rw[<-hwf]
  have HBF:=ab (show Below w.heap.size w wf by rw[hwf]; exact Bw HB4.out (by have:=HL8.out; omega));have HF8:=ab (show wf.heap[w.heap.size]? =some _ by rw[hwf]; exact tn HW8.out (by have:=HL8.out; omega));have HF11:=ab (show wf.heap[w.heap.size+1]? =some _ by rw[hwf]; exact tn HW11.out (by have:=HL8.out; omega));have HFN:=ab (show wf.heap[b8]? =some _ by rw[hwf]; exact EG HN8.out)
  have HFR:=ab (HR.out.below HBF.out);clear hwf m0 m1 m2 m3 m4 m5 p0 p1 p2 p3 p4 p5 c0 c1 c2 c3;have c0:=ai (k:=0) HFR.out.box;have c1:=ai (k:=1) HFR.out.box;have c2:=ai (k:=2) HFR.out.box;have c3:=ai (k:=3) HFR.out.box;simp only[aN]at c0 c1 c2 c3;refine⟨⟨c0,c1⟩, ?_⟩;refine af 17 rfl (by kernel_rfl) (by kernel_rfl) (by kernel_rfl) (fun _ _ _ h=>h) rfl (by go_simp) (by rintro w' ⟨hw1,hw2⟩; go_simp; rfl) ?_
  simp only[Act.put,aB,aC,aD];refine af 18 rfl (by kernel_rfl) (by kernel_rfl) (by kernel_rfl) (fun _ _ _ h=>h) rfl (by go_simp) (by rintro w' ⟨hw1,hw2⟩; go_simp; rfl) ?_;simp only[Act.put,aB,aC,aD];refine aV (by kernel_rfl) ?_;rw[HE.out]at c3;have f1:=ag (k:=1) HFR.out.box;have f2:=ag (k:=2) HFR.out.box;have f3:=ag (k:=3) HFR.out.box;have m0:=ai (k:=0) HF8.out
  have m1:=ai (k:=1) HF8.out;have m2:=ai (k:=2) HF8.out;have m3:=ai (k:=3) HF8.out;have m4:=ai (k:=4) HF8.out;have m5:=ai (k:=5) HF8.out;simp only[aN]at m0 m1 m2 m3 m4 m5;have p0:=ag (k:=0) HF8.out;have p1:=ag (k:=1) HF8.out;have p2:=ag (k:=2) HF8.out;have p3:=ag (k:=3) HF8.out;have p4:=ag (k:=4) HF8.out;have p5:=ag (k:=5) HF8.out
  have k0:=ai (k:=0) HF11.out;have k1:=ai (k:=1) HF11.out;have k2:=ai (k:=2) HF11.out;have k3:=ai (k:=3) HF11.out;have k4:=ai (k:=4) HF11.out;have k5:=ai (k:=5) HF11.out;simp only[aN]at k0 k1 k2 k3 k4 k5;have n0:=ai (k:=0) HFN.out;have n1:=ai (k:=1) HFN.out;have n2:=ai (k:=2) HFN.out;have n3:=ai (k:=3) HFN.out;have n4:=ai (k:=4) HFN.out
  have n5:=ai (k:=5) HFN.out;simp only[aN]at n0 n1 n2 n3 n4 n5
  by_cases hz:er=0
  ·subst hz;have hl1:rb≠w.heap.size:=by omega
   have hl2:rb≠b8:=by have:=HL8.out; omega
   have hl3:b8≠w.heap.size:=by have:=HL8.out; omega
   go_wp2_with fail;refine nW (b:=w.heap.size) (bc (bc HF8.out hl1.symm _) hl1.symm _) (by kernel_rfl) (by kernel_rfl) ?_;have hfin:=HR.out.fin (wf:=(wf.setCell ⟨rb,2,none⟩ (.int .i64 (s.off:Int))).setCell ⟨rb,1,none⟩ (.int .i64 (o':Int))) (s':=⟨o',s.off,0⟩) (b:=w.heap.size) (ak (ak (aW HBF.out _) (aE _ _ _ _)) (aE _ _ _ _)) (by
    have h1:=tD (x:= .int .i64 (o':Int)) (tE (x:= .int .i64 (s.off:Int)) HFR.out.box);rw[HE.out]at h1;exact h1) ho (Nat.le_refl _) (x0:= .int .i64 qk) (x1:= .int .u64 (qu:Int)) (x2:= .int .i64 qn) (x3:= .bool qb) (x4:= .string qs) (x5:= .int .i64 qm)
   exact⟨by exact rfl,hfin.1,hfin.2⟩
  ·have e1:(er != 0)=true:=by simp[hz]
   have HZ:=ab hz;have hl1:rb≠w.heap.size:=by omega
   clear hz;go_wp2_with fail;refine nW (b:=w.heap.size) (bc HF8.out hl1.symm _) (by kernel_rfl) (by kernel_rfl) ?_;have hfin:=HR.out.fin (wf:=wf.setCell ⟨rb,3,none⟩ (.int .i64 er)) (s':=⟨s.off,s.last,er⟩) (b:=w.heap.size) (ak (aW HBF.out _) (aE _ _ _ _)) (tF HFR.out.box) HR.out.le (Nat.le_refl _) (x0:= .int .i64 K) (x1:= .int .u64 0) (x2:= .int .i64 0) (x3:= .bool false) (x4:= .string ⟨#[]⟩) (x5:= .int .i64 most)
   have hcp:lE ⟨qk,qu,qn,qb,qs,qm⟩ o' er K most s=(⟨K,0,0,false,⟨#[]⟩,most⟩,⟨s.off,s.last,er⟩):=by unfold lE; rw[if_neg HZ.out]
   rw[hcp];exact⟨by exact rfl,hfin.1,hfin.2⟩
 ·refine yn 15 rfl rfl (fun K hK=> ?_);go_wp2_with fail;obtain⟨w2,hw2⟩: ∃w2,w2=W2.alloc (.cells #[.int .i64 0, .int .u64 0, .int .i64 0, .bool false, .string ⟨#[]⟩, .int .i64 0] 96):=⟨_,rfl⟩;rw[<-hw2];have hb2:Below W2.heap.size W2 w2:=by rw[hw2]; exact(Below.refl _ _).alloc (Nat.le_refl _) _
  have HN7:=ab (show w2.heap[W2.heap.size]? =some (.cells #[.int .i64 0, .int .u64 0, .int .i64 0, .bool false, .string ⟨#[]⟩, .int .i64 0] 96 (0,0)) by rw[hw2]; exact bJ _ _);obtain⟨b8,hb8⟩: ∃b8,b8=W2.heap.size:=⟨_,rfl⟩;have HL8:=ab (show w.heap.size+1<b8 by rw[hb8]; exact lt_of_block HY11.out);rw[<-hb8]at HN7 ⊢;clear hw2 hb8;have HB3:=ab (ah HB2.out hb2)
  have HR3:=ab (HR.out.below HB3.out);have HX8:=ab ((hb2.block _ (lt_of_block HY8.out)).trans HY8.out);have HX11:=ab ((hb2.block _ (lt_of_block HY11.out)).trans HY11.out);clear c0 c1 c2 c3;have c0:=ai (k:=0) HR3.out.box;have c1:=ai (k:=1) HR3.out.box;have c2:=ai (k:=2) HR3.out.box;have c3:=ai (k:=3) HR3.out.box;simp only[aN]at c0 c1 c2 c3;refine⟨⟨c0,c1⟩, ?_⟩
  refine ar 10 rfl (by kernel_rfl) rfl (fun K hK=> ?_);go_wp2_with (go_at_call 114; refine(HRD.out _ HR3.out.row).mono ?_; rintro e w1 ⟨rfl,hb1⟩; simp only[rvV]);have HN8:=ab ((hb1.block _ (lt_of_block HN7.out)).trans HN7.out);have HB4:=ab (ah HB3.out hb1);have HR4:=ab (HR.out.below HB4.out);have HW8:=ab ((hb1.block _ (lt_of_block HX8.out)).trans HX8.out);have HW11:=ab ((hb1.block _ (lt_of_block HX11.out)).trans HX11.out)
  clear c0 c1 c2 c3;have c0:=ai (k:=0) HR4.out.box;have c1:=ai (k:=1) HR4.out.box;have c2:=ai (k:=2) HR4.out.box;have c3:=ai (k:=3) HR4.out.box;simp only[aN]at c0 c1 c2 c3;refine⟨⟨c0,c1⟩, ?_⟩;refine af 11 rfl (by kernel_rfl) (by kernel_rfl) (by kernel_rfl) (fun _ _ _ h=>h) rfl (by go_simp) (by rintro w' ⟨hw1,hw2⟩; go_simp; rfl) ?_;simp only[Act.put,aB,aC,aD]
  refine af 12 rfl (by kernel_rfl) (by kernel_rfl) (by kernel_rfl) (fun _ _ _ h=>h) rfl (by go_simp) (by rintro w' ⟨hw1,hw2⟩; go_simp; rfl) ?_;simp only[Act.put,aB,aC,aD];refine af 13 rfl (by kernel_rfl) (by kernel_rfl) (by kernel_rfl) (fun _ _ _ h=>h) rfl (by go_simp) (by rintro w' ⟨hw1,hw2⟩; go_simp; rfl) ?_;simp only[Act.put,aB,aC,aD];refine af 14 rfl (by kernel_rfl) (by kernel_rfl) (by kernel_rfl) (fun _ _ _ h=>h) rfl (by go_simp) (by rintro w' ⟨hw1,hw2⟩; go_simp; rfl) ?_
  simp only[Act.put,aB,aC,aD];have m0:=ai (k:=0) HN8.out;have m1:=ai (k:=1) HN8.out;have m2:=ai (k:=2) HN8.out;have m3:=ai (k:=3) HN8.out;have m4:=ai (k:=4) HN8.out;have m5:=ai (k:=5) HN8.out;simp only[aN]at m0 m1 m2 m3 m4 m5;have p0:=ag (k:=0) HN8.out;have p1:=ag (k:=1) HN8.out;have p2:=ag (k:=2) HN8.out;have p3:=ag (k:=3) HN8.out
  have p4:=ag (k:=4) HN8.out;have p5:=ag (k:=5) HN8.out;refine ar 16 rfl (by kernel_rfl) rfl (fun K hK=> ?_);go_wp2_with fail;obtain⟨wf,hwf⟩: ∃wf,wf=((((((w1.setCell ⟨b8,0,none⟩ (.int .i64 qk)).setCell ⟨b8,1,none⟩ (.int .u64 (qu:Int))).setCell ⟨b8,2,none⟩ (.int .i64 qn)).setCell ⟨b8,3,none⟩ (.bool qb)).setCell ⟨b8,4,none⟩ (.string qs)).setCell ⟨b8,5,none⟩ (.int .i64 qm)):=⟨_,rfl⟩
  rw[<-hwf];have HBF:=ab (show Below w.heap.size w wf by rw[hwf]; exact Bw HB4.out (by have:=HL8.out; omega));have HF8:=ab (show wf.heap[w.heap.size]? =some _ by rw[hwf]; exact tn HW8.out (by have:=HL8.out; omega));have HF11:=ab (show wf.heap[w.heap.size+1]? =some _ by rw[hwf]; exact tn HW11.out (by have:=HL8.out; omega));have HFN:=ab (show wf.heap[b8]? =some _ by rw[hwf]; exact EG HN8.out)
  have HFR:=ab (HR.out.below HBF.out);clear hwf m0 m1 m2 m3 m4 m5 p0 p1 p2 p3 p4 p5 c0 c1 c2 c3;have c0:=ai (k:=0) HFR.out.box;have c1:=ai (k:=1) HFR.out.box;have c2:=ai (k:=2) HFR.out.box;have c3:=ai (k:=3) HFR.out.box;simp only[aN]at c0 c1 c2 c3;refine⟨⟨c0,c1⟩, ?_⟩;refine af 17 rfl (by kernel_rfl) (by kernel_rfl) (by kernel_rfl) (fun _ _ _ h=>h) rfl (by go_simp) (by rintro w' ⟨hw1,hw2⟩; go_simp; rfl) ?_
  simp only[Act.put,aB,aC,aD];refine af 18 rfl (by kernel_rfl) (by kernel_rfl) (by kernel_rfl) (fun _ _ _ h=>h) rfl (by go_simp) (by rintro w' ⟨hw1,hw2⟩; go_simp; rfl) ?_;simp only[Act.put,aB,aC,aD];refine aV (by kernel_rfl) ?_;rw[HE.out]at c3;have f1:=ag (k:=1) HFR.out.box;have f2:=ag (k:=2) HFR.out.box;have f3:=ag (k:=3) HFR.out.box;have m0:=ai (k:=0) HF8.out
  have m1:=ai (k:=1) HF8.out;have m2:=ai (k:=2) HF8.out;have m3:=ai (k:=3) HF8.out;have m4:=ai (k:=4) HF8.out;have m5:=ai (k:=5) HF8.out;simp only[aN]at m0 m1 m2 m3 m4 m5;have p0:=ag (k:=0) HF8.out;have p1:=ag (k:=1) HF8.out;have p2:=ag (k:=2) HF8.out;have p3:=ag (k:=3) HF8.out;have p4:=ag (k:=4) HF8.out;have p5:=ag (k:=5) HF8.out
  have k0:=ai (k:=0) HF11.out;have k1:=ai (k:=1) HF11.out;have k2:=ai (k:=2) HF11.out;have k3:=ai (k:=3) HF11.out;have k4:=ai (k:=4) HF11.out;have k5:=ai (k:=5) HF11.out;simp only[aN]at k0 k1 k2 k3 k4 k5;have n0:=ai (k:=0) HFN.out;have n1:=ai (k:=1) HFN.out;have n2:=ai (k:=2) HFN.out;have n3:=ai (k:=3) HFN.out;have n4:=ai (k:=4) HFN.out
  have n5:=ai (k:=5) HFN.out;simp only[aN]at n0 n1 n2 n3 n4 n5
  by_cases hz:er=0
  ·subst hz;have hl1:rb≠w.heap.size:=by omega
   have hl2:rb≠b8:=by have:=HL8.out; omega
   have hl3:b8≠w.heap.size:=by have:=HL8.out; omega
   go_wp2_with fail;refine nW (b:=w.heap.size) (bc (bc HF8.out hl1.symm _) hl1.symm _) (by kernel_rfl) (by kernel_rfl) ?_;have hfin:=HR.out.fin (wf:=(wf.setCell ⟨rb,2,none⟩ (.int .i64 (s.off:Int))).setCell ⟨rb,1,none⟩ (.int .i64 (o':Int))) (s':=⟨o',s.off,0⟩) (b:=w.heap.size) (ak (ak (aW HBF.out _) (aE _ _ _ _)) (aE _ _ _ _)) (by
    have h1:=tD (x:= .int .i64 (o':Int)) (tE (x:= .int .i64 (s.off:Int)) HFR.out.box);rw[HE.out]at h1;exact h1) ho (Nat.le_refl _) (x0:= .int .i64 qk) (x1:= .int .u64 (qu:Int)) (x2:= .int .i64 qn) (x3:= .bool qb) (x4:= .string qs) (x5:= .int .i64 qm)
   exact⟨by exact rfl,hfin.1,hfin.2⟩
  ·have e1:(er != 0)=true:=by simp[hz]
   have HZ:=ab hz;have hl1:rb≠w.heap.size:=by omega
   clear hz;go_wp2_with fail;refine nW (b:=w.heap.size) (bc HF8.out hl1.symm _) (by kernel_rfl) (by kernel_rfl) ?_;have hfin:=HR.out.fin (wf:=wf.setCell ⟨rb,3,none⟩ (.int .i64 er)) (s':=⟨s.off,s.last,er⟩) (b:=w.heap.size) (ak (aW HBF.out _) (aE _ _ _ _)) (tF HFR.out.box) HR.out.le (Nat.le_refl _) (x0:= .int .i64 K) (x1:= .int .u64 0) (x2:= .int .i64 0) (x3:= .bool false) (x4:= .string ⟨#[]⟩) (x5:= .int .i64 most)
   have hcp:lE ⟨qk,qu,qn,qb,qs,qm⟩ o' er K most s=(⟨K,0,0,false,⟨#[]⟩,most⟩,⟨s.off,s.last,er⟩):=by unfold lE; rw[if_neg HZ.out]
   rw[hcp];exact⟨by exact rfl,hfin.1,hfin.2⟩
end Go.Proofs.YtpffpjbkbaleiaaGreatDoor
namespace Go.Proofs.YtpffpjbkbaleiaaGreatDoor
open Go.RowKit
theorem Bh (rb:Nat) (v:Value) (data:List UInt8) (s:RS) (K most:Int) (w:World) (hr:cj w rb v data s) (he: ¬s.err=0):
  Calls Tryz.prog 65 #[.pointer (some ⟨rb,0,none⟩), .int .i64 K, .int .i64 most] w (kR (⟨K,0,0,false,⟨#[]⟩,most⟩,s) rb v data w):=by
 have HR:=ab hr;have hlt:=hr.lt;have c3:=ai (k:=3) hr.box;simp only[aN]at c3;have e1:(s.err != 0)=true:=by simp[he]
 clear he hr
 go_enter Tryz.func65,Tryz.ntmps65
 go_wp2_with fail;refine bodyPost_ret (yC (b:=w.heap.size) (cK (bJ _ _) _) (by kernel_rfl)) (by kernel_rfl) ?_;refine⟨by exact rfl,HR.out.below ?_,aW ?_ _⟩
 ·exact((Below.refl w.heap.size w).alloc (Nat.le_refl _) _).alloc (by simp) _
 ·exact((Below.refl w.heap.size w).alloc (Nat.le_refl _) _).alloc (by simp) _
theorem lA {α:Type} (rb:Nat) (v:Value) (data:List UInt8) (s:RS) (K most:Int) (val:α->jb) (REX:Except Int (α×Nat)) (w:World) (hr:cj w rb v data s) (hK:(K == 0)=false)
  (hrd: ∀W,aw (· ≠rb) W v data->Calls Tryz.prog 114 #[v, .int .i64 (s.off:Int), .int .i64 K, .int .i64 most] W (lz ⟨K,0,0,false,⟨#[]⟩,most⟩ val s.off REX W))
  (hok: ∀x o,REX= .ok (x,o)->o<=data.length) (herr: ∀y,REX= .error y-> ¬y=0):
  Calls Tryz.prog 65 #[.pointer (some ⟨rb,0,none⟩), .int .i64 K, .int .i64 most] w (kR (rr ⟨K,0,0,false,⟨#[]⟩,most⟩ val REX s) rb v data w):=by
 by_cases he:s.err=0
 ·cases REX with
  | error y=>
   have h:=qP rb v data s K most ⟨K,0,0,false,⟨#[]⟩,most⟩ s.off y w hr hK he hr.le hrd;have h1:lE ⟨K,0,0,false,⟨#[]⟩,most⟩ s.off y K most s=rr ⟨K,0,0,false,⟨#[]⟩,most⟩ val (.error y) s:=by
    unfold lE rr; rw[if_neg (herr y rfl),if_pos he]
   rw[h1]at h; exact h
  | ok p=>
   obtain⟨x,o⟩:=p;have h:=qP rb v data s K most (val x) o 0 w hr hK he (hok x o rfl) hrd;have h1:lE (val x) o 0 K most s=rr ⟨K,0,0,false,⟨#[]⟩,most⟩ val (.ok (x,o)) s:=by
    unfold lE rr; rw[if_pos rfl,if_pos he]
   rw[h1]at h; exact h
 ·have h1:rr ⟨K,0,0,false,⟨#[]⟩,most⟩ val REX s=(⟨K,0,0,false,⟨#[]⟩,most⟩,s):=by unfold rr; rw[if_neg he]
  rw[h1];exact Bh rb v data s K most w hr he
theorem vS {data:List UInt8} {off n o:Nat} {bs:List UInt8} (h0:off<=data.length) (h:cy data off n= .ok (bs,o)):o<=data.length:=by
 unfold cy at h
 split at h
 ·simp at h
 ·simp only[Except.ok.injEq,Prod.mk.injEq]at h; omega
theorem zb {data:List UInt8} {off most o:Nat} {bs:List UInt8} (h:bY data off most= .ok (bs,o)):o<=data.length:=by
 unfold bY at h
 cases hl:dn data off most with
 | error y=>rw[hl]at h; simp at h
 | ok p=>
  obtain⟨n,o1⟩:=p;rw[hl]at h;exact vS (dw hl).2.2 h
def nx (data:List UInt8) (s:RS):jb×RS:=rr ⟨1,0,0,false,⟨#[]⟩,0⟩ (fun n=>⟨1,n,0,false,⟨#[]⟩,0⟩) (dP data s.off) s
def lm (data:List UInt8) (most:Nat) (s:RS):jb×RS:=rr ⟨5,0,0,false,⟨#[]⟩,most⟩ (fun bs:List UInt8=>⟨5,0,0,false,⟨bs.toArray⟩,most⟩) (bY data s.off most) s
def vB (data:List UInt8) (s:RS):jb×RS:=rr ⟨6,0,0,false,⟨#[]⟩,0⟩ (fun bs:List UInt8=>⟨6,0,0,false,⟨bs.toArray⟩,0⟩) (cy data s.off 32) s
def jB (data:List UInt8) (most:Nat) (s:RS):jb×RS:=rr ⟨7,0,0,false,⟨#[]⟩,most⟩ (fun n:Nat=>⟨7,0,(n:Int),false,⟨#[]⟩,most⟩) (dn data s.off most) s
theorem CL (rb:Nat) (v:Value) (data:List UInt8) (s:RS) (w:World) (hr:cj w rb v data s):
  Calls Tryz.prog 65 #[.pointer (some ⟨rb,0,none⟩), .int .i64 1, .int .i64 0] w (kR (nx data s) rb v data w):=
 lA rb v data s 1 0 _ _ w hr rfl (fun W h=>zY _ v data s.off W h hr.le hr.small) (fun _ _ h=>(dU h).2.2) (fun _ h=>kA h)
theorem FC (rb:Nat) (v:Value) (data:List UInt8) (most:Nat) (s:RS) (w:World) (hr:cj w rb v data s) (hm:most<=32768):
  Calls Tryz.prog 65 #[.pointer (some ⟨rb,0,none⟩), .int .i64 5, .int .i64 (most:Int)] w (kR (lm data most s) rb v data w):=
 lA rb v data s 5 most _ _ w hr rfl (fun W h=>zZ _ v data s.off most W h hr.le hr.small hm) (fun _ _ h=>zb h) (fun _ h=>iJ h)
theorem FB (rb:Nat) (v:Value) (data:List UInt8) (s:RS) (w:World) (hr:cj w rb v data s):
  Calls Tryz.prog 65 #[.pointer (some ⟨rb,0,none⟩), .int .i64 6, .int .i64 0] w (kR (vB data s) rb v data w):=
 lA rb v data s 6 0 _ _ w hr rfl (fun W h=>Aa _ v data s.off W h hr.le hr.small) (fun _ _ h=>vS hr.le h) (fun _ h=>gK h)
theorem Fy (rb:Nat) (v:Value) (data:List UInt8) (most:Nat) (s:RS) (w:World) (hr:cj w rb v data s) (hm:most<=32768):
  Calls Tryz.prog 65 #[.pointer (some ⟨rb,0,none⟩), .int .i64 7, .int .i64 (most:Int)] w (kR (jB data most s) rb v data w):=
 lA rb v data s 7 most _ _ w hr rfl (fun W h=>Ab _ v data s.off most W h hr.le hr.small hm) (fun _ _ h=>(dw h).2.2) (fun _ h=>gd h)
def wM (n:Nat):Int:=if 1125899906842624<n then -1 else(n:Int)
def ft (data:List UInt8) (s:RS):Int×RS:=(wM (nx data s).1.u,(nx data s).2)
theorem CK (data:List UInt8) (s:RS):(nx data s).1.u<18446744073709551616:=by
 unfold nx rr
 split
 ·cases h:dP data s.off with
  | error y=>show(0:Nat)<_; decide
  | ok p=>exact(dU h).1
 ·show(0:Nat)<_; decide
theorem jN (rb:Nat) (v:Value) (data:List UInt8) (s:RS) (w:World) (hr:cj w rb v data s):
  Calls Tryz.prog 66 #[.pointer (some ⟨rb,0,none⟩)] w fun e w'=>e= .returned (.int .i64 (ft data s).1)/\cj w' rb v data (ft data s).2/\w.grownBy w' (some rb):=by
 have HR:=ab hr;clear hr
 go_enter Tryz.func66,Tryz.ntmps66
 go_wp2_with fail;refine(CL rb v data s w HR.out).mono ?_;rintro e w1 ⟨rfl,h1,h2⟩;have H1:=ab h1;have H2:=ab h2;have hu:=CK data s;obtain⟨p,hp⟩: ∃p,p=nx data s:=⟨_,rfl⟩;have HP:=ab hp;rw[<-hp]at H1 hu ⊢;clear hp h1 h2;obtain⟨⟨k,u,n,b,t,m⟩,s'⟩:=p;simp only[rvV]at hu ⊢
 by_cases hn:1125899906842624<u
 ·have HT:=ab (show(ft data s).1= -1 by unfold ft; rw[<-HP.out]; unfold wM; rw[if_pos hn]);have HS:=ab (show(ft data s).2=s' by unfold ft; rw[<-HP.out]);go_wp2_with fail;go_ret;exact⟨by rw[HT.out]; rfl,by rw[HS.out]; exact H1.out.below ((Below.refl _ _).alloc (Nat.le_refl _) _),ak H2.out (aW ((Below.refl _ _).alloc (Nat.le_refl _) _) _)⟩
 ·have HT:=ab (show(ft data s).1=(u:Int) by unfold ft; rw[<-HP.out]; unfold wM; rw[if_neg hn]);have HS:=ab (show(ft data s).2=s' by unfold ft; rw[<-HP.out]);go_wp2_with fail;go_ret;exact⟨by rw[HT.out]; rfl,by rw[HS.out]; exact H1.out.below ((Below.refl _ _).alloc (Nat.le_refl _) _),ak H2.out (aW ((Below.refl _ _).alloc (Nat.le_refl _) _) _)⟩
end Go.Proofs.YtpffpjbkbaleiaaGreatDoor
namespace Go.Proofs.YtpffpjbkbaleiaaGreatDoor
open Go.RowKit
theorem rm (rb:Nat) (v:Value) (data:List UInt8) (s:RS) (w:World) (hr:cj w rb v data s):
  Calls Tryz.prog 68 #[.pointer (some ⟨rb,0,none⟩)] w fun e w'=>(∃p:Int,e= .returned (.tuple #[.int .i64 p, .int .i64 (eZ data s)]))/\Below w.heap.size w w':=by
 obtain⟨_,a,cap,rfl,hc,hcm,-⟩:=hr.row;unfold maxLen at hcm;have c0:=ai (k:=0) hr.box;have c1:=ai (k:=1) hr.box;have c2:=ai (k:=2) hr.box;have c3:=ai (k:=3) hr.box;simp only[aN]at c0 c1 c2 c3;have hsm:=hr.small;have hle:=hr.le;clear hr
 by_cases he:s.err=0
 ·rw[he]at c3;have HE:=ab he;clear he
  by_cases hl:s.off<data.length
  ·have HR:=ab (show eZ data s=3 by unfold eZ; rw[if_pos HE.out,if_pos hl])
   go_enter Tryz.func68,Tryz.ntmps68
   go_wp2_with fail
   go_quiet (fail)
   go_wp2_with fail
   go_ret2
   exact⟨⟨(s.off:Int),by rw[HR.out]; rfl⟩,by first | exact bn (bn (Below.refl _ _) _) _ | exact bn (Below.refl _ _) _⟩
  ·have HR:=ab (show eZ data s=0 by unfold eZ; rw[if_pos HE.out,if_neg hl])
   go_enter Tryz.func68,Tryz.ntmps68
   go_wp2_with fail
   go_quiet (fail)
   go_wp2_with fail
   go_quiet (fail)
   go_wp2_with fail
   go_ret2
   exact⟨⟨(s.off:Int),by rw[HR.out]; rfl⟩,by first | exact bn (bn (Below.refl _ _) _) _ | exact bn (Below.refl _ _) _⟩
 ·have HR:=ab (show eZ data s=s.err by unfold eZ; rw[if_neg he])
  go_enter Tryz.func68,Tryz.ntmps68
  go_wp2_with fail
  go_quiet (fail)
  go_wp2_with fail
  go_quiet (fail)
  go_wp2_with fail
  go_ret2
  exact⟨⟨(s.off:Int),by rw[HR.out]; rfl⟩,by first | exact bn (bn (Below.refl _ _) _) _ | exact bn (Below.refl _ _) _⟩
def gL (data:List UInt8) (s:RS):aL×RS:=
 (⟨(vB data s).1.s,(ft data (vB data s).2).1,(ft data (ft data (vB data s).2).2).1⟩,(ft data (ft data (vB data s).2).2).2)
theorem set3 {w:World} {b:Nat} {a0 a1 a2 x0 x1 x2:Value} {t:TypeId} (h:w.heap[b]? =some (.cells #[a0,a1,a2] t (0,0))):
  (((w.setCell ⟨b,0,none⟩ x0).setCell ⟨b,1,none⟩ x1).setCell ⟨b,2,none⟩ x2).heap[b]? =some (.cells #[x0,x1,x2] t (0,0)):=cJ (cJ (cJ h x0) x1) x2
theorem Ae {a:Act} {w:World} {b:Nat} {a0 a1 a2 x0 x1 x2:Value} {Q:Ending->World->Prop} (h:w.heap[b]? =some (.cells #[a0,a1,a2] 26 (0,0)))
  (h2:a.tmps[2]? =some (.pointer (some ⟨b,0,none⟩))) (hd:a.defers=[])
  (hQ:Q (.returned (.agg #[x0,x1,x2])) (((w.setCell ⟨b,0,none⟩ x0).setCell ⟨b,1,none⟩ x1).setCell ⟨b,2,none⟩ x2)):
  bodyPost Tryz.prog Tryz.f67 Q Exit.ret a (((w.setCell ⟨b,0,none⟩ x0).setCell ⟨b,1,none⟩ x1).setCell ⟨b,2,none⟩ x2):=by
 have hs:=set3 (x0:=x0) (x1:=x1) (x2:=x2) h
 revert hQ
 generalize (((w.setCell ⟨b,0,none⟩ x0).setCell ⟨b,1,none⟩ x1).setCell ⟨b,2,none⟩ x2)=w3 at hs
 intro hQ;have m0:=ai (k:=0) hs;have m1:=ai (k:=1) hs;have m2:=ai (k:=2) hs;simp only[aN]at m0 m1 m2;exact bodyPost_ret (by simp[results,Tryz.results67,go_sem,h2,m0,m1,m2]) hd hQ
theorem Ad (rb:Nat) (v:Value) (data:List UInt8) (s:RS) (w:World) (hr:cj w rb v data s):
  Calls Tryz.prog 67 #[.pointer (some ⟨rb,0,none⟩)] w fun e w'=>e= .returned (bF (gL data s).1)/\cj w' rb v data (gL data s).2/\w.grownBy w' (some rb):=by
 have HR:=ab hr;have hlt:=hr.lt;clear hr
 go_enter Tryz.func67,Tryz.ntmps67
 go_wp2_with fail;refine(FB rb v data s _ (HR.out.below ((Below.refl _ _).alloc (Nat.le_refl _) _))).mono ?_;rintro e w1 ⟨rfl,h1,h2⟩;have H1:=ab h1;have hz:=vJ h2;simp at hz;have HB:=ab (eV h2 (bJ w _) (by omega));have HG:=ab (ak (aW ((Below.refl _ _).alloc (Nat.le_refl _) _) (some rb)) h2);clear h1 h2;obtain⟨p,hp⟩: ∃p,p=vB data s:=⟨_,rfl⟩
 have HP:=ab hp;rw[<-hp]at H1 ⊢;clear hp;obtain⟨⟨pk,pu,pn,pb,pt,pm⟩,s1⟩:=p;simp only[rvV];have hfd: ∀w:World,(Instr.field 96 (.agg #[.int .i64 pk, .int .u64 (pu:Int), .int .i64 pn, .bool pb, .string pt, .int .i64 pm]) 4).run Tryz.prog w= .ok (.string pt) w:=fun _=>by kernel_rfl
 go_wp2_with fail;refine(jN rb v data s1 _ H1.out).mono ?_;rintro e w2 ⟨rfl,h1,h2⟩;have H2:=ab h1;have hz2:=vJ h2;have HB2:=ab (eV h2 HB.out (by omega));have HG2:=ab (ak HG.out h2);clear h1 h2;go_wp2_with fail;refine(jN rb v data (ft data s1).2 _ H2.out).mono ?_;rintro e w3 ⟨rfl,h1,h2⟩;have H3:=ab h1;have HB3:=ab (eV h2 HB2.out (by omega))
 have HG3:=ab (ak HG2.out h2);clear h1 h2;have b0:=ai (k:=0) HB3.out;have b1:=ai (k:=1) HB3.out;have b2:=ai (k:=2) HB3.out;have g0:=ag (k:=0) HB3.out;have g1:=ag (k:=1) HB3.out;have g2:=ag (k:=2) HB3.out;simp only[aN]at b0 b1 b2;obtain⟨i1,hi1⟩: ∃i1,i1=(ft data s1).1:=⟨_,rfl⟩;obtain⟨i2,hi2⟩: ∃i2,i2=(ft data (ft data s1).2).1:=⟨_,rfl⟩
 rw[<-hi1,<-hi2];have HI1:=ab hi1;have HI2:=ab hi2;clear hi1 hi2;go_wp2_with fail;refine Ae HB3.out (by kernel_rfl) (by kernel_rfl) ?_;have e1:(vB data s).2=s1:=by rw[<-HP.out]
 have e2:(vB data s).1.s=pt:=by rw[<-HP.out]
 have h6:=bW (bW (bW HG3.out (Nat.le_refl _) (k:=0) (.string pt)) (Nat.le_refl _) (k:=1) (.int .i64 i1)) (Nat.le_refl _) (k:=2) (.int .i64 i2);have hne:rb≠w.heap.size:=by omega
 refine⟨?_, ?_,h6⟩
 ·unfold gL; rw[e1,e2,<-HI1.out,<-HI2.out]; rfl
 ·have e3:(gL data s).2=(ft data (ft data s1).2).2:=by unfold gL; rw[e1]
  rw[e3];exact HR.out.grown h6 (bc (bc (bc H3.out.box hne _) hne _) hne _) H3.out.le
end Go.Proofs.YtpffpjbkbaleiaaGreatDoor
namespace Go.Proofs.YtpffpjbkbaleiaaGreatDoor
open Go.RowKit
def io (s t:RS):Prop:=(s.err=0<->t.err=0)/\(s.err=0->s.off=t.off)
theorem io.start :io ⟨0,0,0⟩ ⟨0,0,0⟩:=⟨Iff.rfl,fun _=>rfl⟩
theorem lW {α:Type} {z:jb} {val:α->jb} {z0:α} (f:Nat->Except Int (α×Nat)) (hz:z=val z0) (hne: ∀o y,f o= .error y-> ¬y=0) {s t:RS} (h:io s t):
  (rr z val (f s.off) s).1=val (rv z0 (f t.off) t).1/\io (rr z val (f s.off) s).2 (rv z0 (f t.off) t).2:=by
 unfold rr rv
 by_cases he:s.err=0
 ·rw[if_pos he,if_pos (h.1.1 he),h.2 he]
  cases hf:f t.off with
  | error y=>exact⟨hz,⟨fun e=>absurd e (hne _ _ hf),fun e=>absurd e (hne _ _ hf)⟩,fun e=>absurd e (hne _ _ hf)⟩
  | ok p=>exact⟨rfl,Iff.rfl,fun _=>rfl⟩
 ·rw[if_neg he,if_neg (fun e=>he (h.1.2 e))];exact⟨hz,h⟩
theorem CU {data:List UInt8} {s t:RS} (h:io s t):(nx data s).1.u=(gi data t).1/\io (nx data s).2 (gi data t).2:=by
 have:=lW (z0:=(0:Nat)) (val:=fun n=>⟨1,n,0,false,⟨#[]⟩,0⟩) (fun o=>dP data o) rfl (fun _ _ h=>kA h) h;exact⟨by have h1:=this.1; unfold nx gi; rw[h1],this.2⟩
theorem vI {data:List UInt8} {most:Nat} {s t:RS} (h:io s t):(lm data most s).1.s=⟨(mj data most t).1.toArray⟩/\io (lm data most s).2 (mj data most t).2:=by
 have:=lW (z0:=([]:List UInt8)) (val:=fun bs:List UInt8=>⟨5,0,0,false,⟨bs.toArray⟩,most⟩) (fun o=>bY data o most) rfl (fun _ _ h=>iJ h) h;exact⟨by have h1:=this.1; unfold lm mj; rw[h1],this.2⟩
theorem EY {data:List UInt8} {s t:RS} (h:io s t):(vB data s).1.s=⟨(vY data t).1.toArray⟩/\io (vB data s).2 (vY data t).2:=by
 have:=lW (z0:=([]:List UInt8)) (val:=fun bs:List UInt8=>⟨6,0,0,false,⟨bs.toArray⟩,0⟩) (fun o=>cy data o 32) rfl (fun _ _ h=>gK h) h;exact⟨by have h1:=this.1; unfold vB vY; rw[h1],this.2⟩
theorem EX {data:List UInt8} {most:Nat} {s t:RS} (h:io s t):(jB data most s).1.n=((jC data most t).1:Int)/\io (jB data most s).2 (jC data most t).2:=by
 have:=lW (z:=⟨7,0,0,false,⟨#[]⟩,most⟩) (z0:=(0:Nat)) (val:=fun n:Nat=>⟨7,0,(n:Int),false,⟨#[]⟩,most⟩) (fun o=>dn data o most) rfl (fun _ _ h=>gd h) h;exact⟨by have h1:=this.1; unfold jB jC; rw[h1],this.2⟩
def gw (a b:Int):Prop:=a=b\/(a= -1/\(b<0\/1125899906842624<b))
theorem Dk (data:List UInt8) (s:RS):(gi data s).1<18446744073709551616:=by
 unfold gi rv
 split
 ·cases h:dP data s.off with
  | error y=>show(0:Nat)<_; decide
  | ok p=>exact(dU h).1
 ·show(0:Nat)<_; decide
theorem Er {n:Nat} (h:n<18446744073709551616):gw (wM n) (dX n):=by
 unfold gw wM dX wrap64
 split<;> omega
theorem rX {data:List UInt8} {s t:RS} (h:io s t):gw (ft data s).1 (dX (gi data t).1)/\io (ft data s).2 (gi data t).2:=by
 obtain⟨h1,h2⟩:=CU (data:=data) h;exact⟨by unfold ft; rw[h1]; exact Er (Dk data t),h2⟩
def wj (a b:aL):Prop:=a.name=b.name/\gw a.gen b.gen/\gw a.size b.size
theorem yK {data:List UInt8} {s t:RS} (h:io s t):wj (gL data s).1 (fR data t).1/\io (gL data s).2 (fR data t).2:=by
 obtain⟨h1,h2⟩:=EY (data:=data) h;obtain⟨h3,h4⟩:=rX (data:=data) h2;obtain⟨h5,h6⟩:=rX (data:=data) h4;exact⟨⟨h1,h3,h5⟩,h6⟩
theorem lR {a b:aL} (h:wj a b):dK a=dK b:=by
 obtain⟨h1,h2,h3⟩:=h;unfold dK;rw[h1];unfold gw at h2 h3;rw[Bool.eq_iff_iff];simp only[Bool.and_eq_true,decide_eq_true_eq]
 constructor<;> (rintro⟨⟨⟨⟨k1,k2⟩,k3⟩,k4⟩,k5⟩; exact⟨⟨⟨⟨k1,by omega⟩,by omega⟩,by omega⟩,by omega⟩)
theorem kC {a b:aL} (h:wj a b) (hv:dK a=true):a=b:=by
 obtain⟨h1,h2,h3⟩:=h;unfold gw at h2 h3;simp only[dK,Bool.and_eq_true,decide_eq_true_eq]at hv;obtain⟨n,g,z⟩:=a;obtain⟨n',g',z'⟩:=b;simp only at *;subst h1;have:g=g':=by omega
 have:z=z':=by omega
 subst_vars
 rfl
end Go.Proofs.YtpffpjbkbaleiaaGreatDoor
namespace Go.Proofs.YtpffpjbkbaleiaaGreatDoor
open Go.RowKit
def bT (data:List UInt8):Nat->List aL->RS->List aL×RS
 | 0,l,s=>(l,s)
 | k+1,l,s=>if s.err=0 then bT data k (l++[(gL data s).1]) (gL data s).2 else(l,s)
def cT (data:List UInt8) (nm:ByteArray) (kd md td:Int) (s:RS):az×RS:=
 if kd=1 then(⟨nm,kd,md,td,dk (bT data (jB data 32768 s).1.n.toNat [] (jB data 32768 s).2).1,⟨#[]⟩,(bT data (jB data 32768 s).1.n.toNat [] (jB data 32768 s).2).1,aZ⟩,(bT data (jB data 32768 s).1.n.toNat [] (jB data 32768 s).2).2)
 else if kd=2 then(⟨nm,kd,md,td,0,⟨#[]⟩,[],(gL data s).1⟩,(gL data s).2)
 else(⟨nm,kd,md,td,0,(lm data 512 s).1.s,[],aZ⟩,(lm data 512 s).2)
def mq (data:List UInt8) (nm:ByteArray) (kd md:Int) (td:Nat) (s:RS):Option (az×RS):=
 if 9223372036854775807<td then none else some (cT data nm kd md td s)
def kL (data:List UInt8) (s:RS):Option (az×RS):=
 mq data (lm data 64 s).1.s (ft data (lm data 64 s).2).1 (ft data (ft data (lm data 64 s).2).2).1 (nx data (ft data (ft data (lm data 64 s).2).2).2).1.u (nx data (ft data (ft data (lm data 64 s).2).2).2).2
def cw (data:List UInt8):Nat->List az->RS->Option (List az×RS)
 | 0,l,s=>some (l,s)
 | n+1,l,s=>if s.err=0 then(kL data s).bind fun p=>cw data n (l++[p.1]) p.2 else some (l,s)
def Cm (data:List UInt8):Option (List az):=
 if 32768<data.length then none else
 (cw data (jB data 4096 ⟨0,0,0⟩).1.n.toNat [] (jB data 4096 ⟨0,0,0⟩).2).bind fun p=>if eZ data p.2=0/\bV p.1=true then some p.1 else none
theorem tA {α:Type} {z:jb} {val:α->jb} {r:Except Int (α×Nat)} {s:RS} (hne: ∀y,r= .error y-> ¬y=0) (h:(rr z val r s).2.err=0):s.err=0/\ ∃x o,r= .ok (x,o)/\(rr z val r s).2.off=o/\(rr z val r s).1=val x:=by
 unfold rr at h ⊢
 by_cases he:s.err=0
 ·rw[if_pos he]at h ⊢
  cases r with
  | error y=>exact absurd h (hne y rfl)
  | ok p=>exact⟨he,p.1,p.2,rfl,rfl,rfl⟩
 ·rw[if_neg he]at h;exact absurd h he
theorem js {α:Type} {z:α} {r:Except Int (α×Nat)} {s:RS} (hne: ∀y,r= .error y-> ¬y=0) (h:(rv z r s).2.err=0):s.err=0/\ ∃x o,r= .ok (x,o)/\(rv z r s).2.off=o/\(rv z r s).1=x:=by
 unfold rv at h ⊢
 by_cases he:s.err=0
 ·rw[if_pos he]at h ⊢
  cases r with
  | error y=>exact absurd h (hne y rfl)
  | ok p=>exact⟨he,p.1,p.2,rfl,rfl,rfl⟩
 ·rw[if_neg he]at h;exact absurd h he
theorem FA {data:List UInt8} {s:RS} (h:(vB data s).2.err=0):s.err=0/\(s.off<=data.length->s.off+32<=(vB data s).2.off/\(vB data s).2.off<=data.length):=by
 obtain⟨h1,x,o,h2,h3,_⟩:=tA (fun _ h=>gK h) h;refine⟨h1,fun hle=> ?_⟩;unfold vB;rw[h3];unfold cy at h2
 split at h2
 ·simp at h2
 ·simp only[Except.ok.injEq,Prod.mk.injEq]at h2; omega
theorem FD {data:List UInt8} {s:RS} (h:(nx data s).2.err=0):s.err=0/\s.off+1<=(nx data s).2.off/\(nx data s).2.off<=data.length:=by
 obtain⟨h1,x,o,h2,h3,_⟩:=tA (fun _ h=>kA h) h;have h4:=dU h2;unfold nx;rw[h3];exact⟨h1,by omega,by omega⟩
theorem BT {data:List UInt8} {s:RS} (h:(ft data s).2.err=0):s.err=0/\s.off+1<=(ft data s).2.off/\(ft data s).2.off<=data.length:=FD h
theorem lY {data:List UInt8} {most:Nat} {s:RS} (h:(mj data most s).2.err=0):s.err=0:=(js (fun _ h=>iJ h) h).1
theorem dq {data:List UInt8} {s:RS} (h:(gi data s).2.err=0):s.err=0:=(js (fun _ h=>kA h) h).1
theorem EM {data:List UInt8} {s:RS} (h:(vY data s).2.err=0):s.err=0:=(js (fun _ h=>gK h) h).1
theorem yi {data:List UInt8} {most:Nat} {s:RS} (h:(jC data most s).2.err=0):s.err=0:=(js (fun _ h=>gd h) h).1
theorem CG {data:List UInt8} {s:RS} (h:(gL data s).2.err=0):s.err=0/\(s.off<=data.length->s.off+34<=(gL data s).2.off/\(gL data s).2.off<=data.length):=by
 obtain⟨h1,h2,h3⟩:=BT (s:=(ft data (vB data s).2).2) h;obtain⟨h4,h5,h6⟩:=BT h1;obtain⟨h7,h8⟩:=FA h4;refine⟨h7,fun hle=> ?_⟩;have:=h8 hle;unfold gL;simp only;omega
theorem iT {data:List UInt8} {s:RS} (h:(fR data s).2.err=0):s.err=0:=EM (dq (dq h))
theorem gQ {data:List UInt8} : ∀ {n:Nat} {l:List aL} {s:RS},(bT data n l s).2.err=0->s.err=0
 | 0,_,_,h=>h
 | n+1,l,s,h=>by
  rw[bT]at h
  split at h
  ·assumption
  ·exact h
theorem oC {data:List UInt8} : ∀ {n:Nat} {l:List aL} {s:RS} {r:aL},r∈l->r∈(bT data n l s).1
 | 0,_,_,_,h=>h
 | n+1,l,s,r,h=>by
  rw[bT]
  split
  ·exact oC (List.mem_append_left _ h)
  ·exact h
theorem oB {data:List UInt8} : ∀ {n:Nat} {l:List aL} {s:RS},(bT data n l s).2.err=0->s.off<=data.length->s.off+34*n<=data.length
 | 0,_,_,_,h=>by omega
 | n+1,l,s,h,hle=>by
  have h0:=gQ h;rw[bT,if_pos h0]at h;have h1:=(CG (gQ h)).2 hle;have h2:=oB h h1.2;omega
def ef (data:List UInt8):Nat->List aL->RS->List aL×RS
 | 0,l,s=>(l,s)
 | k+1,l,s=>ef data k (l++[(fR data s).1]) (fR data s).2
theorem mQ (data:List UInt8): ∀(k:Nat) (l:List aL) (s:RS),ef data (k+1) l s=((ef data k l s).1++[(fR data (ef data k l s).2).1],(fR data (ef data k l s).2).2)
 | 0,_,_=>rfl
 | k+1,l,s=>by rw[ef,mQ data k]; rfl
theorem ep (data:List UInt8) (s0:RS): ∀k,cB data s0 k=ef data k [] s0
 | 0=>rfl
 | k+1=>by rw[mQ,<-ep data s0 k]; rfl
theorem eT {data:List UInt8} : ∀ {n:Nat} {l:List aL} {s:RS},(ef data n l s).2.err=0->s.err=0
 | 0,_,_,h=>h
 | n+1,_,_,h=>iT (eT (n:=n) h)
theorem oA {data:List UInt8} : ∀ {n:Nat} {l:List aL} {s:RS} {r:aL},r∈l->r∈(ef data n l s).1
 | 0,_,_,_,h=>h
 | n+1,_l,_s,_r,h=>oA (n:=n) (List.mem_append_left _ h)
theorem uh {data:List UInt8} : ∀ {n:Nat} {l:List aL} {s t:RS},io s t->(bT data n l s).2.err=0->(∀r∈(bT data n l s).1,dK r=true)->(ef data n l t).1=(bT data n l s).1/\io (bT data n l s).2 (ef data n l t).2
 | 0,_,_,_,hs,_,_=>⟨rfl,hs⟩
 | n+1,l,s,t,hs,he,hv=>by
  have h0:=gQ he;rw[bT,if_pos h0]at he hv ⊢;obtain⟨h1,h2⟩:=yK (data:=data) hs;have h3:=kC h1 (hv _ (oC (by simp)));rw[ef,<-h3];exact uh h2 he hv
theorem oE {data:List UInt8} : ∀ {n:Nat} {l:List aL} {s t:RS},io s t->(ef data n l t).2.err=0->(∀r∈(ef data n l t).1,dK r=true)->(bT data n l s).1=(ef data n l t).1/\io (bT data n l s).2 (ef data n l t).2
 | 0,_,_,_,hs,_,_=>⟨rfl,hs⟩
 | n+1,l,s,t,hs,he,hv=>by
  rw[ef]at he hv ⊢;obtain⟨h1,h2⟩:=yK (data:=data) hs;have h3:=kC h1 (by rw[lR h1]; exact hv _ (oA (by simp)));rw[bT,if_pos (hs.1.2 (iT (eT he))),h3];exact oE h2 he hv
theorem py {data:List UInt8} {off a b n o:Nat} (h:dn data off a= .ok (n,o)) (hn:n<=b):dn data off b= .ok (n,o):=by
 unfold dn at h ⊢
 cases hx:dP data off with
 | error y=>rw[hx]at h; simp at h
 | ok p=>
  obtain⟨m,q⟩:=p;rw[hx]at h;simp only at h ⊢
  split at h
  ·simp at h
  ·simp only[Except.ok.injEq,Prod.mk.injEq]at h;obtain⟨rfl,rfl⟩:=h;rw[if_neg (by omega)]
theorem BF {data:List UInt8} {a b:Nat} {s t:RS} (hs:io s t) (he:(jB data a s).2.err=0) (hn:(jB data a s).1.n.toNat<=b):(jC data b t).1=(jB data a s).1.n.toNat/\io (jB data a s).2 (jC data b t).2/\(jB data a s).2.off<=data.length:=by
 obtain⟨h1,x,o,h2,h3,h4⟩:=tA (fun _ h=>gd h) he;have h5:(jB data a s).1.n.toNat=x:=by unfold jB; rw[h4]; simp
 rw[h5]at hn ⊢;have h6:=py h2 hn;have h7:jC data b t=(x,⟨o,t.off,0⟩):=by
  unfold jC rv;rw[if_pos (hs.1.1 h1),<-hs.2 h1,h6]
 rw[h7];refine⟨rfl,⟨⟨fun _=>rfl,fun _=>he⟩,fun _=>h3⟩, ?_⟩
 show(jB data a s).2.off<=_
 have h8:(jB data a s).2.off=o:=h3;rw[h8];exact(dw h2).2.2
theorem wy {data:List UInt8} {a b:Nat} (hab:b<=a) {s t:RS} (hs:io s t) (he:(jC data b t).2.err=0):(jB data a s).1.n.toNat=(jC data b t).1/\io (jB data a s).2 (jC data b t).2:=by
 obtain⟨h1,x,o,h2,h3,h4⟩:=js (fun _ h=>gd h) he;have h5:(jC data b t).1=x:=h4;have h8:(jC data b t).2.off=o:=h3;have h6:=py h2 (Nat.le_trans (dw h2).1 hab);have h7:jB data a s=(⟨7,0,(x:Int),false,⟨#[]⟩,a⟩,⟨o,s.off,0⟩):=by
  unfold jB rr;rw[if_pos (hs.1.2 h1),hs.2 (hs.1.2 h1),h6]
 rw[h7,h5];exact⟨by simp,⟨⟨fun _=>he,fun _=>rfl⟩,fun _=>h8.symm⟩⟩
theorem ii {it:az} (h:bU it=true):(it.kind=1\/it.kind=2\/it.kind=3)/\0<=it.mode/\it.mode<=511/\0<=it.time/\(it.kind=1-> ∀c∈it.chunks,dK c=true)/\(it.kind=2->dK it.node=true):=by
 unfold bU lZ bO at h;simp only[Bool.and_eq_true,decide_eq_true_eq]at h;obtain⟨⟨_,⟨h1,h2⟩,h3⟩,h4⟩:=h;refine⟨?_,h1,h2,h3,fun hk=> ?_,fun hk=> ?_⟩
 ·split at h4
  ·exact .inl (by assumption)
  ·split at h4
   ·exact .inr (.inl (by assumption))
   ·split at h4
    ·exact .inr (.inr (by assumption))
    ·simp at h4
 ·rw[if_pos hk]at h4;simp only[bQ,fj,Bool.and_eq_true,List.all_eq_true]at h4;exact fun c hc=>(h4.2.1 c hc).1
 ·rw[if_neg (by omega),if_pos hk]at h4;simp only[Bool.and_eq_true]at h4;exact h4.2
theorem mZ (data:List UInt8) (nm:ByteArray) (kd md td:Int) (s:RS):(cT data nm kd md td s).1.kind=kd/\(cT data nm kd md td s).1.mode=md/\(cT data nm kd md td s).1.time=td:=by
 unfold cT
 split
 ·exact⟨rfl,rfl,rfl⟩
 ·split
  ·exact⟨rfl,rfl,rfl⟩
  ·exact⟨rfl,rfl,rfl⟩
theorem pf {data nm:List UInt8} {kd md td:Nat} {s s1:RS} {a:az} (h:dE data nm kd md td s=some (a,s1)):a.kind=dX kd/\a.mode=dX md/\a.time=dX td:=by
 unfold dE at h
 split at h
 ·simp only[Option.some.injEq,Prod.mk.injEq]at h; obtain⟨rfl,_⟩:=h; exact⟨rfl,rfl,rfl⟩
 ·split at h
  ·simp only[Option.some.injEq,Prod.mk.injEq]at h; obtain⟨rfl,_⟩:=h; exact⟨rfl,rfl,rfl⟩
  ·split at h
   ·simp only[Option.some.injEq,Prod.mk.injEq]at h; obtain⟨rfl,_⟩:=h; exact⟨rfl,rfl,rfl⟩
   ·simp at h
theorem wQ {data nm:List UInt8} {kd md td:Nat} {s s1:RS} {a:az} (h:dE data nm kd md td s=some (a,s1)) (he:s1.err=0):s.err=0:=by
 unfold dE at h
 split at h
 ·simp only[Option.some.injEq,Prod.mk.injEq]at h; obtain⟨_,rfl⟩:=h;rw[ep]at he;exact yi (eT he)
 ·split at h
  ·simp only[Option.some.injEq,Prod.mk.injEq]at h; obtain⟨_,rfl⟩:=h; exact iT he
  ·split at h
   ·simp only[Option.some.injEq,Prod.mk.injEq]at h; obtain⟨_,rfl⟩:=h; exact lY he
   ·simp at h
theorem BW {data nm:List UInt8} {nm':ByteArray} {kd md td:Nat} {kd' md' td':Int} {s t:RS} (hlen:data.length<=32768) (hs:io s t) (hn:nm'=⟨nm.toArray⟩) (hk:kd'=dX kd) (hm:md'=dX md) (ht:td'=dX td)
  (he:(cT data nm' kd' md' td' s).2.err=0) (hv:bU (cT data nm' kd' md' td' s).1=true):
  ∃t',dE data nm kd md td t=some ((cT data nm' kd' md' td' s).1,t')/\io (cT data nm' kd' md' td' s).2 t':=by
 obtain⟨hf,_,_,_,hf1,hf2⟩:=ii hv;rw[(mZ data nm' kd' md' td' s).1]at hf hf1 hf2;subst hn hk hm ht
 rcases hf with h | h | h
 ·have hf1:=hf1 h;unfold cT dE at *;rw[if_pos h]at he hf1 ⊢;simp only at he hf1 ⊢;have h1:=gQ he;obtain⟨h2,x,o,h3,h4,h5⟩:=tA (fun _ h=>gd h) h1;have h6:=oB he (by show(jB data 32768 s).2.off<=_; unfold jB; rw[h4]; exact(dw h3).2.2);obtain⟨c1,c2,_⟩:=BF (b:=963) hs h1 (by omega);obtain⟨d1,d2⟩:=uh c2 he hf1;rw[if_pos h,ep,c1,d1]
  exact⟨_,rfl,d2⟩
 ·have hf2:=hf2 h;have h0: ¬dX kd=1:=by omega
  unfold cT dE at *;rw[if_neg h0,if_pos h]at he hf2 ⊢;simp only at he hf2 ⊢;obtain⟨h1,h2⟩:=yK (data:=data) hs;rw[if_neg h0,if_pos h,kC h1 hf2];exact⟨_,rfl,h2⟩
 ·have h0: ¬dX kd=1:=by omega
  have h00: ¬dX kd=2:=by omega
  unfold cT dE at *;rw[if_neg h0,if_neg h00]at he ⊢;simp only at he ⊢;obtain⟨h1,h2⟩:=vI (data:=data) (most:=512) hs;rw[if_neg h0,if_neg h00,if_pos h,h1];exact⟨_,rfl,h2⟩
theorem wS {data nm:List UInt8} {nm':ByteArray} {kd md td:Nat} {kd' md' td':Int} {s t t':RS} {a:az} (hs:io s t) (hn:nm'=⟨nm.toArray⟩) (hk:kd'=dX kd) (hm:md'=dX md) (ht:td'=dX td)
  (h0:dE data nm kd md td t=some (a,t')) (he:t'.err=0) (hv:bU a=true):
  (cT data nm' kd' md' td' s).1=a/\io (cT data nm' kd' md' td' s).2 t':=by
 obtain⟨hf,_,_,_,hf1,hf2⟩:=ii hv;rw[(pf h0).1]at hf hf1 hf2;subst hn hk hm ht;unfold dE at h0;unfold cT
 rcases hf with h | h | h
 ·have hf1:=hf1 h;rw[if_pos h]at h0 ⊢;simp only[Option.some.injEq,Prod.mk.injEq]at h0;obtain⟨rfl,rfl⟩:=h0;simp only at hf1 ⊢;rw[ep]at he hf1 ⊢;obtain⟨c1,c2⟩:=wy (a:=32768) (by omega) hs (eT he);obtain⟨d1,d2⟩:=oE c2 he hf1;rw[c1,d1];exact⟨rfl,d2⟩
 ·have hf2:=hf2 h;have h1: ¬dX kd=1:=by omega
  rw[if_neg h1,if_pos h]at h0 ⊢;simp only[Option.some.injEq,Prod.mk.injEq]at h0;obtain⟨rfl,rfl⟩:=h0;simp only at hf2 ⊢;obtain⟨h1,h2⟩:=yK (data:=data) hs;rw[kC h1 (by rw[lR h1]; exact hf2)];exact⟨rfl,h2⟩
 ·have h1: ¬dX kd=1:=by omega
  have h2: ¬dX kd=2:=by omega
  rw[if_neg h1,if_neg h2]at h0 ⊢;rw[if_pos h]at h0;simp only[Option.some.injEq,Prod.mk.injEq]at h0;obtain⟨rfl,rfl⟩:=h0;obtain⟨h3,h4⟩:=vI (data:=data) (most:=512) hs;rw[h3];exact⟨rfl,h4⟩
theorem Cu {a b:Int} (h:gw a b) (h0:0<=a):a=b:=by unfold gw at h; omega
theorem vo {a b:Int} (h:gw a b) (h0:0<=b) (h1:b<=511):a=b:=by unfold gw at h; omega
theorem sk {n:Nat} (h:n<=9223372036854775807):dX n=(n:Int):=by unfold dX wrap64; omega
theorem EP {n:Nat} (hn:n<18446744073709551616) (h:0<=dX n):n<=9223372036854775807:=by unfold dX wrap64 at h; omega
theorem Ef {data:List UInt8} {s t s':RS} {a:az} (hlen:data.length<=32768) (hs:io s t) (h:kL data s=some (a,s')) (he:s'.err=0) (hv:bU a=true): ∃t',dl data t=some (a,t')/\io s' t':=by
 obtain⟨n1,n2⟩:=vI (data:=data) (most:=64) hs;obtain⟨k1,k2⟩:=rX (data:=data) n2;obtain⟨m1,m2⟩:=rX (data:=data) k2;obtain⟨t1,t2⟩:=CU (data:=data) m2;unfold kL mq at h
 split at h
 ·simp at h
 ·rename_i htd;simp only[Option.some.injEq]at h;obtain⟨hf,hm0,hm1,hti,_,_⟩:=ii hv;have hk:=mZ data (lm data 64 s).1.s (ft data (lm data 64 s).2).1 (ft data (ft data (lm data 64 s).2).2).1 (nx data (ft data (ft data (lm data 64 s).2).2).2).1.u (nx data (ft data (ft data (lm data 64 s).2).2).2).2;rw[h]at hk;obtain⟨hk1,hk2,_⟩:=hk;simp only at hk1 hk2
  have r:=BW (td:=(gi data (gi data (gi data (mj data 64 t).2).2).2).1) (td':=((nx data (ft data (ft data (lm data 64 s).2).2).2).1.u:Int)) hlen t2 n1 (Cu k1 (by omega)) (Cu m1 (by omega)) (by rw[t1]; exact(sk (by rw[<-t1]; omega)).symm) (by rw[h]; exact he) (by rw[h]; exact hv);rw[h]at r;exact r
theorem zy {data:List UInt8} {s t t':RS} {a:az} (hs:io s t) (h:dl data t=some (a,t')) (he:t'.err=0) (hv:bU a=true): ∃s',kL data s=some (a,s')/\io s' t':=by
 obtain⟨n1,n2⟩:=vI (data:=data) (most:=64) hs;obtain⟨k1,k2⟩:=rX (data:=data) n2;obtain⟨m1,m2⟩:=rX (data:=data) k2;obtain⟨t1,t2⟩:=CU (data:=data) m2;unfold dl at h;obtain⟨hf,hm0,hm1,hti,_,_⟩:=ii hv;obtain⟨hk1,hk2,hk3⟩:=pf h;have htd:=EP (Dk _ _) (by rw[<-hk3]; exact hti);obtain⟨r1,r2⟩:=wS (nm':=(lm data 64 s).1.s) (kd':=(ft data (lm data 64 s).2).1) (md':=(ft data (ft data (lm data 64 s).2).2).1) (td':=((nx data (ft data (ft data (lm data 64 s).2).2).2).1.u:Int)) t2 n1 (vo k1 (by omega) (by omega)) (vo m1 (by omega) (by omega)) (by rw[t1]; exact(sk htd).symm) h he hv
 unfold kL mq;rw[if_neg (by rw[t1]; omega)];exact⟨_,by rw[<-r1],r2⟩
theorem wW {data:List UInt8} {s s':RS} {a:az} (h:dl data s=some (a,s')) (he:s'.err=0):s.err=0:=by
 unfold dl at h;exact lY (dq (dq (dq (wQ h he))))
def itF {α β:Type} (f:β->Option (α×β)):Nat->List α->β->Option (List α×β)
 | 0,l,s=>some (l,s)
 | n+1,l,s=>(f s).bind fun p=>itF f n (l++[p.1]) p.2
theorem uH {α β:Type} (f:β->Option (α×β)): ∀(k:Nat) (l:List α) (s:β),itF f (k+1) l s=(itF f k l s).bind fun p=>(f p.2).map fun q=>(p.1++[q.1],q.2)
 | 0,l,s=>by
  show(f s).bind (fun p=>some (l++[p.1],p.2))=(f s).map fun q=>(l++[q.1],q.2)
  cases f s<;> rfl
 | k+1,l,s=>by
  show(f s).bind (fun p=>itF f (k+1) (l++[p.1]) p.2)=((f s).bind fun p=>itF f k (l++[p.1]) p.2).bind _
  cases f s with
  | none=>rfl
  | some p=>exact uH f k _ _
def iu (data:List UInt8) (n:Nat) (l:List az) (s:RS):Option (List az×RS):=itF (dl data) n l s
theorem jQ (data:List UInt8) (l:List az) (s:RS):iu data 0 l s=some (l,s):=rfl
theorem BV {α β:Type} (f:β->Option (α×β)) (n:Nat) (l:List α) (s:β):itF f (n+1) l s=(f s).bind fun p=>itF f n (l++[p.1]) p.2:=rfl
theorem gX (data:List UInt8) (n:Nat) (l:List az) (s:RS):iu data (n+1) l s=(dl data s).bind fun p=>iu data n (l++[p.1]) p.2:=BV (dl data) n l s
theorem uK (data:List UInt8) (k:Nat) (l:List az) (s:RS):iu data (k+1) l s=(iu data k l s).bind fun p=>(dl data p.2).map fun q=>(p.1++[q.1],q.2):=uH (dl data) k l s
theorem lI (data:List UInt8) (s0:RS): ∀k,bZ data s0 k=iu data k [] s0
 | 0=>rfl
 | k+1=>by rw[uK,<-lI data s0 k,dF]
theorem nh {data:List UInt8} : ∀ {n:Nat} {l:List az} {s s':RS} {r:List az},cw data n l s=some (r,s')->s'.err=0->s.err=0
 | 0,l,s,s',r,h,he=>by
  simp only[cw,Option.some.injEq,Prod.mk.injEq]at h;obtain⟨_,rfl⟩:=h;exact he
 | n+1,l,s,s',r,h,he=>by
  rw[cw]at h
  split at h
  ·assumption
  ·simp only[Option.some.injEq,Prod.mk.injEq]at h;obtain⟨_,rfl⟩:=h;exact he
theorem jP {data:List UInt8} : ∀ {n:Nat} {l:List az} {s s':RS} {r:List az},iu data n l s=some (r,s')->s'.err=0->s.err=0
 | 0,l,s,s',r,h,he=>by
  simp only[jQ,Option.some.injEq,Prod.mk.injEq]at h;obtain⟨_,rfl⟩:=h;exact he
 | n+1,l,s,s',r,h,he=>by
  rw[gX,Option.bind_eq_some_iff]at h;obtain⟨⟨a,s1⟩,h1,h2⟩:=h;exact wW h1 (jP h2 he)
theorem ph {data:List UInt8} : ∀ {n:Nat} {l:List az} {s s':RS} {r:List az} {a:az},cw data n l s=some (r,s')->a∈l->a∈r
 | 0,l,s,s',r,a,h,ha=>by
  simp only[cw,Option.some.injEq,Prod.mk.injEq]at h;obtain⟨rfl,_⟩:=h;exact ha
 | n+1,l,s,s',r,a,h,ha=>by
  rw[cw]at h
  split at h
  ·rw[Option.bind_eq_some_iff]at h;obtain⟨⟨b,s1⟩,h1,h2⟩:=h;exact ph h2 (List.mem_append_left _ ha)
  ·simp only[Option.some.injEq,Prod.mk.injEq]at h;obtain⟨rfl,_⟩:=h;exact ha
theorem pg {data:List UInt8} : ∀ {n:Nat} {l:List az} {s s':RS} {r:List az} {a:az},iu data n l s=some (r,s')->a∈l->a∈r
 | 0,l,s,s',r,a,h,ha=>by
  simp only[jQ,Option.some.injEq,Prod.mk.injEq]at h;obtain⟨rfl,_⟩:=h;exact ha
 | n+1,l,s,s',r,a,h,ha=>by
  rw[gX,Option.bind_eq_some_iff]at h;obtain⟨⟨b,s1⟩,h1,h2⟩:=h;exact pg h2 (List.mem_append_left _ ha)
theorem uP {data:List UInt8} (hlen:data.length<=32768): ∀ {n:Nat} {l r:List az} {s t s':RS},io s t->cw data n l s=some (r,s')->s'.err=0->(∀a∈r,bU a=true)-> ∃t',iu data n l t=some (r,t')/\io s' t'
 | 0,l,r,s,t,s',hs,h,he,hv=>by
  simp only[cw,Option.some.injEq,Prod.mk.injEq]at h;obtain⟨rfl,rfl⟩:=h;exact⟨t,rfl,hs⟩
 | n+1,l,r,s,t,s',hs,h,he,hv=>by
  have h0:=nh h he;rw[cw,if_pos h0,Option.bind_eq_some_iff]at h;obtain⟨⟨a,s1⟩,h1,h2⟩:=h;obtain⟨t1,h3,h4⟩:=Ef hlen hs h1 (nh h2 he) (hv a (ph h2 (by simp)));obtain⟨t',h5,h6⟩:=uP hlen h4 h2 he hv;exact⟨t',by rw[gX,h3]; exact h5,h6⟩
theorem pi {data:List UInt8} : ∀ {n:Nat} {l r:List az} {s t t':RS},io s t->iu data n l t=some (r,t')->t'.err=0->(∀a∈r,bU a=true)-> ∃s',cw data n l s=some (r,s')/\io s' t'
 | 0,l,r,s,t,t',hs,h,he,hv=>by
  simp only[jQ,Option.some.injEq,Prod.mk.injEq]at h;obtain⟨rfl,rfl⟩:=h;exact⟨s,rfl,hs⟩
 | n+1,l,r,s,t,t',hs,h,he,hv=>by
  have h0:=jP h he;rw[gX,Option.bind_eq_some_iff]at h;obtain⟨⟨a,t1⟩,h1,h2⟩:=h;obtain⟨s1,h3,h4⟩:=zy hs h1 (jP h2 he) (hv a (pg h2 (by simp)));obtain⟨s',h5,h6⟩:=pi h4 h2 he hv;exact⟨s',by rw[cw,if_pos (hs.1.2 h0),h3]; exact h5,h6⟩
theorem me : ∀ {l:List az} {p:Option ByteArray},cz p l=true-> ∀a∈l,bU a=true
 | [],_,_=>by simp
 | it::r,p,h=>by
  simp only[cz,Bool.and_eq_true]at h;intro a ha
  rcases List.mem_cons.1 ha with rfl | ha
  ·exact h.1.1
  ·exact me h.2 a ha
theorem nz {l:List az} (h:bV l=true): ∀a∈l,bU a=true:=by
 unfold bV at h;simp only[Bool.and_eq_true]at h;exact me h.2
theorem ro {data:List UInt8} {s:RS} (h:eZ data s=0):s.err=0:=by
 unfold eZ at h
 split at h
 ·assumption
 ·exact h
theorem uw {data:List UInt8} {s t:RS} (h:io s t):eZ data s=0<->eZ data t=0:=by
 unfold eZ
 by_cases he:s.err=0
 ·rw[if_pos he,if_pos (h.1.1 he),h.2 he]
 ·rw[if_neg he,if_neg (fun e=>he (h.1.2 e))];exact⟨fun e=>absurd e he,fun e=>absurd (h.1.2 e) he⟩
theorem Cn (data:List UInt8):Cm data=bm data:=by
 unfold Cm bm
 by_cases hb:32768<data.length
 ·rw[if_pos hb,if_pos hb]
 rw[if_neg hb,if_neg hb];obtain⟨c1,c2⟩:=EX (data:=data) (most:=4096) io.start;have hn:(jB data 4096 ⟨0,0,0⟩).1.n.toNat=(jC data 4096 ⟨0,0,0⟩).1:=by rw[c1]; simp
 rw[hn,lI]
 apply Option.ext
 intro l;rw[Option.bind_eq_some_iff,Option.bind_eq_some_iff]
 constructor
 ·rintro⟨⟨r,s'⟩,h1,h2⟩
  split at h2
  ·rename_i hh;simp only[Option.some.injEq]at h2;subst h2;obtain⟨t',h3,h4⟩:=uP (by omega) c2 h1 (ro hh.1) (nz hh.2);exact⟨(r,t'),h3,by rw[if_pos ⟨(uw h4).1 hh.1,hh.2⟩]⟩
  ·simp at h2
 ·rintro⟨⟨r,t'⟩,h1,h2⟩
  split at h2
  ·rename_i hh;simp only[Option.some.injEq]at h2;subst h2;obtain⟨s',h3,h4⟩:=pi c2 h1 (ro hh.1) (nz hh.2);exact⟨(r,s'),h3,by rw[if_pos ⟨(uw h4).2 hh.1,hh.2⟩]⟩
  ·simp at h2
end Go.Proofs.YtpffpjbkbaleiaaGreatDoor
namespace Go.Proofs.YtpffpjbkbaleiaaGreatDoor
open Go.RowKit
theorem pD : ∀(f n j:Nat),1<=j->n<2^(7*j)->(eR f n).length<=j
 | 0,n,j,hj,_=>by simpa [eR]using hj
 | f+1,n,j,hj,h=>by
  rw[eR]
  by_cases hn:127<n
  ·rw[if_pos hn,List.length_cons];obtain⟨j,rfl⟩: ∃k,j=k+1:=⟨j-1,by omega⟩;have hj1:1<=j:=by
    rcases Nat.eq_zero_or_pos j with e | e
    ·subst e; simp at h; omega
    ·exact e
   have:=pD f (n/128) j hj1 (by
    rw[show 7*(j+1)=7*j+7 by omega,Nat.pow_add]at h;exact Nat.div_lt_of_lt_mul (by omega))
   omega
  ·rw[if_neg hn]; simpa using hj
theorem dI {n:Nat} (h:n<18446744073709551616):(aH n).length<=10:=pD 10 n 10 (by decide) (Nat.lt_trans h (by decide))
theorem vn {data:List UInt8} {off:Nat} : ∀(f k n o:Nat),fP data off f k= .ok (n,o)-> ∃j,o=off+j/\aH n=(data.drop off).take j
 | 0,_,_,_,h=>by simp[fP]at h
 | f+1,k,n,o,h=>by
  rw[fP]at h
  cases hb:data[off+k]? with
  | none=>rw[hb]at h; simp at h
  | some b=>
   rw[hb]at h;simp only at h
   split at h
   ·exact vn f (k+1) n o h
   ·split at h
    ·rename_i he;simp only[Except.ok.injEq,Prod.mk.injEq]at h;obtain⟨rfl,rfl⟩:=h;exact⟨k+1,by omega,he⟩
    ·simp at h
theorem pE {data:List UInt8} {off n o:Nat} (ho:off<=data.length) (h:dP data off= .ok (n,o)):data.drop off=aH n++data.drop o:=by
 rw[vj data off ho]at h;obtain⟨j,rfl,h2⟩:=vn 10 0 n o h;rw[h2,<-List.drop_drop,List.take_append_drop]
def Ok (data:List UInt8) (s:RS):Prop:=s.err=0/\s.off<=data.length
theorem qd {data:List UInt8} {s s':RS} {n:Nat} (ho:s.off<=data.length) (h:gi data s=(n,s')) (he:s'.err=0):Ok data s/\Ok data s'/\n<18446744073709551616/\data.drop s.off=aH n++data.drop s'.off:=by
 have e1:(gi data s).1=n:=by rw[h]
 have e2:(gi data s).2=s':=by rw[h]
 obtain⟨h1,x,o,h2,h3,h4⟩:=js (fun _ h=>kA h) (show(rv 0 (dP data s.off) s).2.err=0 by have:=he; rw[<-e2]at this; exact this);have h5:o=s'.off:=by rw[<-h3]; exact congrArg RS.off e2
 have h6:x=n:=by rw[<-h4]; exact e1
 subst h5 h6;have h7:=dU h2;exact⟨⟨h1,ho⟩,⟨he,h7.2.2⟩,h7.1,pE ho h2⟩
theorem yw {data:List UInt8} {off most n o:Nat} (h:dn data off most= .ok (n,o)):dP data off= .ok (n,o)/\n<=most:=by
 refine⟨?_,(dw h).1⟩;unfold dn at h
 cases hx:dP data off with
 | error y=>rw[hx]at h; simp at h
 | ok p=>
  rw[hx]at h;simp only at h
  split at h
  ·simp at h
  ·simp only[Except.ok.injEq,Prod.mk.injEq]at h ⊢;exact Prod.ext h.1 h.2
theorem BC {data:List UInt8} {s s':RS} {n most:Nat} (ho:s.off<=data.length) (h:jC data most s=(n,s')) (he:s'.err=0):Ok data s/\Ok data s'/\n<=most/\data.drop s.off=aH n++data.drop s'.off:=by
 have e1:(jC data most s).1=n:=by rw[h]
 have e2:(jC data most s).2=s':=by rw[h]
 obtain⟨h1,x,o,h2,h3,h4⟩:=js (fun _ h=>gd h) (show(rv 0 (dn data s.off most) s).2.err=0 by have:=he; rw[<-e2]at this; exact this);have h5:o=s'.off:=by rw[<-h3]; exact congrArg RS.off e2
 have h6:x=n:=by rw[<-h4]; exact e1
 subst h5 h6;have h7:=dw h2;exact⟨⟨h1,ho⟩,⟨he,h7.2.2⟩,h7.1,pE ho (yw h2).1⟩
theorem vU {data a:List UInt8} {off n o:Nat} (ho:off<=data.length) (h:cy data off n= .ok (a,o)):a.length=n/\o<=data.length/\data.drop off=a++data.drop o:=by
 unfold cy at h
 split at h
 ·simp at h
 ·simp only[Except.ok.injEq,Prod.mk.injEq]at h;obtain⟨rfl,rfl⟩:=h;exact⟨by rw[List.length_take,List.length_drop]; omega,by omega,by rw[<-List.drop_drop,List.take_append_drop]⟩
theorem FE {data a:List UInt8} {s s':RS} (ho:s.off<=data.length) (h:vY data s=(a,s')) (he:s'.err=0):Ok data s/\Ok data s'/\a.length=32/\data.drop s.off=a++data.drop s'.off:=by
 have e1:(vY data s).1=a:=by rw[h]
 have e2:(vY data s).2=s':=by rw[h]
 obtain⟨h1,x,o,h2,h3,h4⟩:=js (fun _ h=>gK h) (show(rv [] (cy data s.off 32) s).2.err=0 by have:=he; rw[<-e2]at this; exact this);have h5:o=s'.off:=by rw[<-h3]; exact congrArg RS.off e2
 have h6:x=a:=by rw[<-h4]; exact e1
 subst h5 h6;have h7:=vU ho h2;exact⟨⟨h1,ho⟩,⟨he,h7.2.1⟩,h7.1,h7.2.2⟩
theorem Di {data a:List UInt8} {s s':RS} {most:Nat} (ho:s.off<=data.length) (h:mj data most s=(a,s')) (he:s'.err=0):Ok data s/\Ok data s'/\data.drop s.off=aH a.length++(a++data.drop s'.off):=by
 have e1:(mj data most s).1=a:=by rw[h]
 have e2:(mj data most s).2=s':=by rw[h]
 obtain⟨h1,x,o,h2,h3,h4⟩:=js (fun _ h=>iJ h) (show(rv [] (bY data s.off most) s).2.err=0 by have:=he; rw[<-e2]at this; exact this);have h5:o=s'.off:=by rw[<-h3]; exact congrArg RS.off e2
 have h6:x=a:=by rw[<-h4]; exact e1
 subst h5 h6;unfold bY at h2
 cases hl:dn data s.off most with
 | error y=>rw[hl]at h2; simp at h2
 | ok p=>
  obtain⟨n,q⟩:=p;rw[hl]at h2;simp only at h2;have h6:=dw hl;have h7:=vU h6.2.2 h2;have h8:=pE ho (yw hl).1;exact⟨⟨h1,ho⟩,⟨he,h7.2.1⟩,by rw[h8,h7.2.2,h7.1]⟩
def cS (r:aL):List UInt8:=bl r.name++(aH r.gen.toNat++aH r.size.toNat)
theorem ei {n:Nat} (hn:n<18446744073709551616) (h:0<=dX n):(dX n).toNat=n:=by unfold dX wrap64 at *; omega
theorem mf {r:aL} :dK r=true<->r.name.size=32/\0<=r.gen/\r.gen<=1099511627776/\0<=r.size/\r.size<=32768:=by unfold dK; simp[and_assoc]
theorem yH {data:List UInt8} {s s':RS} {r:aL} (ho:s.off<=data.length) (h:fR data s=(r,s')) (he:s'.err=0) (hr:dK r=true):Ok data s/\Ok data s'/\data.drop s.off=cS r++data.drop s'.off:=by
 obtain⟨h1,h2,h3,h4,h5⟩:=mf.1 hr;unfold fR at h;obtain⟨a,s1,e1⟩: ∃a s1,vY data s=(a,s1):=⟨_,_,rfl⟩;rw[e1]at h;simp only at h;obtain⟨g,s2,e2⟩: ∃g s2,gi data s1=(g,s2):=⟨_,_,rfl⟩;rw[e2]at h;simp only at h;obtain⟨z,s3,e3⟩: ∃g t,gi data s2=(g,t):=⟨_,_,rfl⟩;rw[e3]at h;simp only[Prod.mk.injEq]at h;obtain⟨rfl,rfl⟩:=h;have b2:s2.err=0:=by
  have:=dq (data:=data) (s:=s2) (by rw[e3]; exact he);exact this
 have b1:s1.err=0:=dq (data:=data) (s:=s1) (by rw[e2]; exact b2);obtain⟨p1,q1,l1,d1⟩:=FE ho e1 b1;obtain⟨p2,q2,l2,d2⟩:=qd q1.2 e2 b2;obtain⟨p3,q3,l3,d3⟩:=qd q2.2 e3 he;refine⟨p1,q3, ?_⟩;simp only at h2 h3 h4 h5;unfold cS;simp only;rw[dr,ei l2 h2,ei l3 h4,d1,d2,d3];simp
theorem oF {data:List UInt8} {s0:RS} (ho:s0.off<=data.length): ∀(k:Nat) (l:List aL) (s:RS),cB data s0 k=(l,s)->s.err=0->(∀r∈l,dK r=true)->Ok data s0/\Ok data s/\data.drop s0.off=l.flatMap cS++data.drop s.off
 | 0,l,s,h,he,_=>by
  simp only[cB,Prod.mk.injEq]at h;obtain⟨rfl,rfl⟩:=h;exact⟨⟨he,ho⟩,⟨he,ho⟩,by simp⟩
 | k+1,l,s,h,he,hv=>by
  obtain⟨l1,s1,e1⟩: ∃l1 s1,cB data s0 k=(l1,s1):=⟨_,_,rfl⟩;obtain⟨r,s2,e2⟩: ∃r s2,fR data s1=(r,s2):=⟨_,_,rfl⟩;rw[mR e1 e2]at h;simp only[Prod.mk.injEq]at h;obtain⟨rfl,rfl⟩:=h;have b1:s1.err=0:=iT (data:=data) (s:=s1) (by rw[e2]; exact he);obtain⟨p1,q1,d1⟩:=oF ho k l1 s1 e1 b1 (fun x hx=>hv x (by simp[hx]));obtain⟨p2,q2,d2⟩:=yH q1.2 e2 he (hv r (by simp))
  exact⟨p1,q2,by rw[d1,d2]; simp⟩
end Go.Proofs.YtpffpjbkbaleiaaGreatDoor
namespace Go.Proofs.YtpffpjbkbaleiaaGreatDoor
open Go.RowKit
theorem oH (l:List UInt8):dD l=(bi l && !l.contains 47):=by
 by_cases h:(47:UInt8)∈l
 ·have h1:l.contains 47=true:=by simpa using h
  have h2:dD l=false:=by unfold dD; rw[h1]; simp
  rw[h1,h2]; simp
 ·have h1:l.contains 47=false:=by simpa using h
  rw[h1];unfold bi;rw[eu 47 l h]
  cases hc:dD l
  ·simp[hc]
  ·have h2:l.length<=64:=by
    unfold dD at hc;simp only[Bool.and_eq_true,decide_eq_true_eq]at hc;exact hc.1.1.1.1.2
   simp[hc]; omega
end Go.Proofs.YtpffpjbkbaleiaaGreatDoor
namespace Go.Proofs.YtpffpjbkbaleiaaGreatDoor
open Go.RowKit
def gS (it:az):List UInt8:=
 if it.kind=1 then aH it.chunks.length++it.chunks.flatMap cS else if it.kind=2 then cS it.node else aH it.link.size++bl it.link
def cn (it:az):List UInt8:=aH it.name.size++(bl it.name++(aH it.kind.toNat++(aH it.mode.toNat++(aH it.time.toNat++gS it))))
def cF (l:List az):List UInt8:=aH l.length++l.flatMap cn
structure Fa (it : az) : Prop where
 val:bi (bl it.name)=true
 nos:(bl it.name).contains 47=false
 md0:0<=it.mode
 md1:it.mode<=511
 tm0:0<=it.time
theorem oV {it:az} :lZ it=true<->Fa it:=by
 unfold lZ
 constructor
 ·intro h;simp only[Bool.and_eq_true,decide_eq_true_eq,Bool.not_eq_true']at h;exact⟨h.1.1,h.1.2,h.2.1.1,h.2.1.2,h.2.2⟩
 ·intro h;simp only[Bool.and_eq_true,decide_eq_true_eq,Bool.not_eq_true'];exact⟨⟨h.val,h.nos⟩,⟨h.md0,h.md1⟩,h.tm0⟩
theorem kq {it:az} (hk:it.kind=1) (h:bO it=true):it.link=⟨#[]⟩/\it.node=aZ/\(∀c∈it.chunks,dK c=true/\1<=c.size)/\it.size=dk it.chunks/\it.size<=1048576:=by
 unfold bO at h;rw[if_pos hk]at h;unfold bQ at h;simp only[Bool.and_eq_true,decide_eq_true_eq,List.all_eq_true]at h;refine⟨?_,h.1.2,fun c hc=> ?_,h.2.2.1,h.2.2.2⟩
 ·apply fe
  have:=h.1.1;rw[ay]at this;rw[List.eq_nil_of_length_eq_zero this]; rfl
 ·have:=h.2.1 c hc;unfold fj at this;simp only[Bool.and_eq_true,decide_eq_true_eq]at this;exact⟨this.1,by have:=this.2; omega⟩
theorem tZ {it:az} (hk:it.kind=2) (h:bO it=true):it.link=⟨#[]⟩/\it.size=0/\it.chunks=[]/\dK it.node=true:=by
 unfold bO at h;rw[if_neg (by omega),if_pos hk]at h;simp only[Bool.and_eq_true,decide_eq_true_eq]at h;refine⟨?_,h.1.1.2,List.eq_nil_of_length_eq_zero h.1.2,h.2⟩
 apply fe
 have:=h.1.1.1;rw[ay]at this;rw[List.eq_nil_of_length_eq_zero this]; rfl
theorem zf {it:az} (hk:it.kind=3) (h:bO it=true):it.size=0/\it.chunks=[]/\it.node=aZ/\1<=it.link.size/\it.link.size<=512/\(bl it.link).contains 0=false:=by
 unfold bO at h;rw[if_neg (by omega),if_neg (by omega),if_pos hk]at h;simp only[Bool.and_eq_true,decide_eq_true_eq,Bool.not_eq_true']at h;exact⟨h.1.1.1,List.eq_nil_of_length_eq_zero h.1.1.2,h.1.2,h.2.1.1,h.2.1.2,h.2.2⟩
theorem ze {it:az} (h:bO it=true):it.kind=1\/it.kind=2\/it.kind=3:=by
 unfold bO at h
 by_cases h1:it.kind=1
 ·exact .inl h1
 ·by_cases h2:it.kind=2
  ·exact .inr (.inl h2)
  ·by_cases h3:it.kind=3
   ·exact .inr (.inr h3)
   ·rw[if_neg h1,if_neg h2,if_neg h3]at h; cases h
theorem uk {l:List UInt8} (h:bi l=true) (h2:l.contains 47=false):l.length<=64:=by
 have:=oH l;rw[h,h2]at this;unfold dD at this;simp only[Bool.not_false,Bool.and_self,Bool.and_eq_true,decide_eq_true_eq]at this;omega
theorem pd {data:List UInt8} {nm:List UInt8} {kd md td:Nat} {s s':RS} {it:az} (h:dE data nm kd md td s=some (it,s')) (he:s'.err=0):s.err=0:=by
 unfold dE at h
 split at h
 ·simp only[Option.some.injEq,Prod.mk.injEq]at h;rw[<-h.2,ep]at he;exact yi (data:=data) (eT he)
 ·split at h
  ·simp only[Option.some.injEq,Prod.mk.injEq]at h;rw[<-h.2]at he;exact iT he
  ·split at h
   ·simp only[Option.some.injEq,Prod.mk.injEq]at h;rw[<-h.2]at he;exact lY he
   ·cases h
theorem BZ {data:List UInt8} {s s':RS} {it:az} (ho:s.off<=data.length) (h:dl data s=some (it,s')) (he:s'.err=0) (hv:bU it=true):Ok data s/\Ok data s'/\data.drop s.off=cn it++data.drop s'.off:=by
 obtain⟨nm,s2,e2⟩: ∃a b,mj data 64 s=(a,b):=⟨_,_,rfl⟩;obtain⟨kd,s3,e3⟩: ∃a b,gi data s2=(a,b):=⟨_,_,rfl⟩;obtain⟨md,s4,e4⟩: ∃a b,gi data s3=(a,b):=⟨_,_,rfl⟩;obtain⟨td,s5,e5⟩: ∃a b,gi data s4=(a,b):=⟨_,_,rfl⟩;rw[jl e2 e3 e4 e5]at h;have b5:=pd h he;have b4:s4.err=0:=dq (data:=data) (s:=s4) (by rw[e5]; exact b5)
 have b3:s3.err=0:=dq (data:=data) (s:=s3) (by rw[e4]; exact b4);have b2:s2.err=0:=dq (data:=data) (s:=s2) (by rw[e3]; exact b3);obtain⟨p1,q1,d1⟩:=Di ho e2 b2;obtain⟨_,q2,l2,d2⟩:=qd q1.2 e3 b3;obtain⟨_,q3,l3,d3⟩:=qd q2.2 e4 b4;obtain⟨_,q4,l4,d4⟩:=qd q3.2 e5 b5;unfold bU at hv;rw[Bool.and_eq_true]at hv;have hh:=oV.1 hv.1
 unfold dE at h
 split at h
 ·rename_i hk;obtain⟨n,s6,e6⟩: ∃a b,jC data 963 s5=(a,b):=⟨_,_,rfl⟩;obtain⟨ch,s7,e7⟩: ∃a b,cB data s6 n=(a,b):=⟨_,_,rfl⟩;rw[e6]at h;simp only at h;rw[e7]at h;simp only[Option.some.injEq,Prod.mk.injEq]at h;obtain⟨rfl,rfl⟩:=h;obtain⟨f1,f2,f3,f4,_⟩:=kq hk hv.2;have b6:s6.err=0:=eT (data:=data) (n:=n) (l:=[]) (s:=s6) (by rw[<-ep,e7]; exact he)
  obtain⟨_,q5,l5,d5⟩:=BC q4.2 e6 b6;obtain⟨_,q6,d6⟩:=oF q5.2 n ch s7 e7 he (fun r hr=>(f3 r hr).1);have hn:ch.length=n:=by have:=kU data s6 n; rw[e7]at this; exact this
  refine⟨p1,q6, ?_⟩;have g1:0<=dX md:=hh.md0;have g2:0<=dX td:=hh.tm0;have g3:0<=dX kd:=by rw[hk]; decide
  unfold cn gS;simp only;rw[if_pos hk,ei l2 g3,ei l3 g1,ei l4 g2,dr,ay,dr,hn,d1,d2,d3,d4,d5,d6];simp only[List.append_assoc]
 ·split at h
  ·rename_i hk1 hk;obtain⟨r,s6,e6⟩: ∃a b,fR data s5=(a,b):=⟨_,_,rfl⟩;rw[e6]at h;simp only[Option.some.injEq,Prod.mk.injEq]at h;obtain⟨rfl,rfl⟩:=h;obtain⟨f1,f2,f3,f4⟩:=tZ hk hv.2;obtain⟨_,q5,d5⟩:=yH q4.2 e6 he f4;refine⟨p1,q5, ?_⟩;have g1:0<=dX md:=hh.md0;have g2:0<=dX td:=hh.tm0;have g3:0<=dX kd:=by rw[hk]; decide
   unfold cn gS;simp only;rw[if_neg hk1,if_pos hk,ei l2 g3,ei l3 g1,ei l4 g2,dr,ay,dr,d1,d2,d3,d4,d5];simp only[List.append_assoc]
  ·split at h
   ·rename_i hk1 hk2 hk;obtain⟨lk,s6,e6⟩: ∃a b,mj data 512 s5=(a,b):=⟨_,_,rfl⟩;rw[e6]at h;simp only[Option.some.injEq,Prod.mk.injEq]at h;obtain⟨rfl,rfl⟩:=h;obtain⟨_,q5,d5⟩:=Di q4.2 e6 he;refine⟨p1,q5, ?_⟩;have g1:0<=dX md:=hh.md0;have g2:0<=dX td:=hh.tm0;have g3:0<=dX kd:=by rw[hk]; decide
    unfold cn gS;simp only;rw[if_neg hk1,if_neg hk2,ei l2 g3,ei l3 g1,ei l4 g2,dr,ay,dr,ay,dr,d1,d2,d3,d4,d5];simp only[List.append_assoc]
   ·cases h
theorem qe : ∀ {l:List az} {p:Option ByteArray},cz p l=true-> ∀it∈l,bU it=true
 | it::l,p,h,x,hx=>by
  rw[cz,Bool.and_eq_true,Bool.and_eq_true]at h
  rcases List.mem_cons.1 hx with rfl | hx
  ·exact h.1.1
  ·exact qe h.2 x hx
theorem mG {l:List az} (h:bV l=true):l.length<=4096/\ ∀it∈l,bU it=true:=by
 unfold bV at h;rw[Bool.and_eq_true,decide_eq_true_eq]at h;exact⟨h.1,qe h.2⟩
theorem nf {data:List UInt8} {s0:RS} (ho:s0.off<=data.length): ∀(k:Nat) (l:List az) (s:RS),bZ data s0 k=some (l,s)->s.err=0->(∀it∈l,bU it=true)->Ok data s0/\Ok data s/\l.length=k/\data.drop s0.off=l.flatMap cn++data.drop s.off
 | 0,l,s,h,he,_=>by
  simp only[bZ,Option.some.injEq,Prod.mk.injEq]at h;obtain⟨rfl,rfl⟩:=h;exact⟨⟨he,ho⟩,⟨he,ho⟩,rfl,by simp⟩
 | k+1,l,s,h,he,hv=>by
  cases hk:bZ data s0 k with
  | none=>rw[dF,hk]at h; cases h
  | some p=>
   obtain⟨l1,s1⟩:=p
   cases hi:dl data s1 with
   | none=>rw[gY hk hi]at h; cases h
   | some q=>
    obtain⟨it,s2⟩:=q;rw[eU hk hi]at h;simp only[Option.some.injEq,Prod.mk.injEq]at h;obtain⟨rfl,rfl⟩:=h;have hvi:bU it=true:=hv it (by simp);have b1:s1.err=0:=by
     obtain⟨nm,t2,e2⟩: ∃a b,mj data 64 s1=(a,b):=⟨_,_,rfl⟩;obtain⟨kd,t3,e3⟩: ∃a b,gi data t2=(a,b):=⟨_,_,rfl⟩;obtain⟨md,t4,e4⟩: ∃a b,gi data t3=(a,b):=⟨_,_,rfl⟩;obtain⟨td,t5,e5⟩: ∃a b,gi data t4=(a,b):=⟨_,_,rfl⟩;rw[jl e2 e3 e4 e5]at hi;have b5:=pd hi he;have b4:t4.err=0:=dq (data:=data) (s:=t4) (by rw[e5]; exact b5)
     have b3:t3.err=0:=dq (data:=data) (s:=t3) (by rw[e4]; exact b4);have b2:t2.err=0:=dq (data:=data) (s:=t2) (by rw[e3]; exact b3);exact lY (data:=data) (most:=64) (s:=s1) (by rw[e2]; exact b2)
    obtain⟨p1,q1,n1,d1⟩:=nf ho k l1 s1 hk b1 (fun x hx=>hv x (by simp[hx]));obtain⟨_,q2,d2⟩:=BZ q1.2 hi he hvi;exact⟨p1,q2,by simp[n1],by rw[d1,d2]; simp⟩
theorem Cp {data:List UInt8} {l:List az} (h:bm data=some l):cF l=data/\bV l=true:=by
 by_cases hb:32768<data.length
 ·rw[jm hb]at h; cases h
 ·obtain⟨n,s1,e1⟩: ∃n s1,jC data 4096 ⟨0,0,0⟩=(n,s1):=⟨_,_,rfl⟩
  cases e2:bZ data s1 n with
  | none=>rw[jR hb e1 e2]at h; cases h
  | some p=>
   obtain⟨l2,s2⟩:=p;rw[jS hb e1 e2]at h
   split at h
   ·rename_i hc;simp only[Option.some.injEq]at h;subst h;have he:s2.err=0/\data.length<=s2.off:=by
     have:=hc.1;unfold eZ at this
     split at this
     ·rename_i h0;refine⟨h0, ?_⟩
      by_cases hlt:s2.off<data.length
      ·rw[if_pos hlt]at this; cases this
      ·omega
     ·rename_i h0; exact absurd this h0
    have b1:s1.err=0:=by
     have h0: ∀k l s,bZ data s1 k=some (l,s)->s.err=0->s1.err=0:=by
      intro k
      induction k with
      | zero=>
       intro l s h1 h2;simp only[bZ,Option.some.injEq,Prod.mk.injEq]at h1;rw[h1.2]; exact h2
      | succ k ih=>
       intro l s h1 h2
       cases hk:bZ data s1 k with
       | none=>rw[dF,hk]at h1; cases h1
       | some p=>
        obtain⟨l1,t1⟩:=p;refine ih l1 t1 hk ?_
        cases hi:dl data t1 with
        | none=>rw[gY hk hi]at h1; cases h1
        | some q=>
         obtain⟨it,t2⟩:=q;rw[eU hk hi]at h1;simp only[Option.some.injEq,Prod.mk.injEq]at h1;rw[<-h1.2]at h2;obtain⟨nm,u2,g2⟩: ∃a b,mj data 64 t1=(a,b):=⟨_,_,rfl⟩;obtain⟨kd,u3,g3⟩: ∃a b,gi data u2=(a,b):=⟨_,_,rfl⟩;obtain⟨md,u4,g4⟩: ∃a b,gi data u3=(a,b):=⟨_,_,rfl⟩;obtain⟨td,u5,g5⟩: ∃a b,gi data u4=(a,b):=⟨_,_,rfl⟩;rw[jl g2 g3 g4 g5]at hi
         have b5:=pd hi h2;have b4:u4.err=0:=dq (data:=data) (s:=u4) (by rw[g5]; exact b5);have b3:u3.err=0:=dq (data:=data) (s:=u3) (by rw[g4]; exact b4);have b2:u2.err=0:=dq (data:=data) (s:=u2) (by rw[g3]; exact b3);exact lY (data:=data) (most:=64) (s:=t1) (by rw[g2]; exact b2)
     exact h0 n l2 s2 e2 he.1
    obtain⟨p1,q1,n1,d1⟩:=BC (s:=⟨0,0,0⟩) (Nat.zero_le _) e1 b1;obtain⟨_,q2,n2,d2⟩:=nf q1.2 n l2 s2 e2 he.1 (mG hc.2).2;refine⟨?_,hc.2⟩;unfold cF;have h9:data.drop s2.off=[]:=List.drop_eq_nil_of_le he.2;rw[n2,<-List.append_nil (l2.flatMap cn),<-h9,<-d2]
    simpa using d1.symm
   ·cases h
end Go.Proofs.YtpffpjbkbaleiaaGreatDoor
namespace Go.Proofs.YtpffpjbkbaleiaaGreatDoor
open Go Go.RowKit
theorem FX {x:Nat} (h:x<256):x ||| 128=x%128+128:=by
 have: ∀y:Fin 256,y.val ||| 128=y.val%128+128:=by decide
 exact this ⟨x,h⟩
theorem zj (n:Nat):Value.int .u8 (bits BinOp.or IntKind.u8 ((n:Int)%256) 128)=au (UInt8.ofNat (n%128+128)):=by
 rw[iK (by omega),show((n:Int)%256)=((n%256:Nat):Int) by omega,show(128:Int)=((128:Nat):Int)from rfl,u8_or_nat _ _ (by omega) (by decide),FX (by omega)]
 congr 2
 omega
theorem zi {n:Nat} (h:n<256):Value.int .u8 (n:Int)=au (UInt8.ofNat n):=(iK h).symm
def iF (w:World) (base:Nat) (v:Value) (acc:List UInt8):Prop:=w.ownsRow base 5 1 v acc.length (acc.map au)
def Fb (base:Nat) (v:Value) (acc:List UInt8) (w:World) (e:Ending) (w':World):Prop:= ∃v',e= .returned v'/\iF w' base v' acc/\w.grownBy w' v.ownBlock/\(∀k,v'.ownBlock=some k->v.ownBlock=some k\/w.heap.size<=k)
structure DE (base : Nat) (v : Value) (w : World) (x : Value) (ac : List UInt8) (wr : World) : Prop where
 own:iF wr base x ac
 grown:w.grownBy wr v.ownBlock
 place: ∀k,x.ownBlock=some k->v.ownBlock=some k\/w.heap.size<=k
theorem DE.next {base:Nat} {v:Value} {w:World} {x:Value} {ac:List UInt8} {wr wc:World} {v' u:Value} {n:Nat} {b:UInt8} (h:DE base v w x ac wr) (h1:wc.ownsRow base 5 1 v' (n+1) (ac.map au++[u])) (h2:wr.grownBy wc x.ownBlock) (h3: ∀k,v'.ownBlock=some k->x.ownBlock=some k\/wr.heap.size<=k)
  (hn:n=ac.length) (hu:u=au b):DE base v w v' (ac++[b]) wc:=by
 subst hn hu;refine⟨by unfold iF; simpa using h1,⟨h2.os.trans h.grown.os,h2.tape.trans h.grown.tape,h2.output.trans h.grown.output,Nat.le_trans h.grown.size h2.size,fun k hk hne=> ?_⟩,fun k hk=> ?_⟩
 ·rw[h2.block k (Nat.lt_of_lt_of_le hk h.grown.size) (fun e=> ?_)]
  ·exact h.grown.block k hk hne
  ·rcases h.place k e.symm with e2 | e2
   ·exact hne e2.symm
   ·omega
 ·rcases h3 k hk with e | e
  ·exact h.place k e
  ·exact .inr (Nat.le_trans h.grown.size e)
theorem kY (base:Nat) (v:Value) (acc:List UInt8) (n:Nat) (w:World) (hv:iF w base v acc) (hb:base<=w.heap.size) (hl:acc.length<1099511000000) (hn:n<18446744073709551616):
  Calls Tryz.prog 100 #[v, .int .u64 (n:Int)] w (Fb base v (acc++aH n) w):=by
 have HV:=ab hv;obtain⟨a0,c0,rfl,h10,h20⟩:=aj hv;clear hv
 go_enter Tryz.func100,Tryz.ntmps100
 go_wp2_with fail
 go_loopw [0,1] (fun x y wr=> ∃(f m:Nat) (ac:List UInt8),y= .int .u64 (m:Int)/\m<18446744073709551616/\m<2^(7*f)/\ac++eR f m=acc++aH n/\DE base (.slice a0 acc.length c0) w x ac wr) (fun _ y _=>(intOf y).toNat)
 case atStart=>exact⟨10,n,acc,rfl,hn,Nat.lt_trans hn (by decide),rfl,HV.out,ji _ _,fun k hk=> .inl hk⟩
 case round=>
  obtain⟨f,m,ac,rfl,hm,hmf,henc,hinv⟩:=hrel;obtain⟨ax,cx,rfl,h1,h2⟩:=aj hinv.own;obtain⟨xl,hxl⟩: ∃xl,xl=ac.length:=⟨_,rfl⟩;rw[<-hxl]at hinv h1 ⊢;have HI:=ab hinv;have HXL:=ab hxl;have HO:=ab (show wr.ownsRow base 5 1 (.slice ax xl cx) xl (ac.map au) by have:=hinv.own; unfold iF at this; rw[<-hxl]at this; exact this);have HE:=ab henc;have HMF:=ab hmf
  have hbz:base<=wr.heap.size:=by have:=hinv.grown.size; omega
  have hlen:=congrArg List.length henc;rw[List.length_append,List.length_append]at hlen;have:=cC n;have hxb:xl<1099511627775:=by omega
  clear hinv henc hmf hlen this hxl
  by_cases hlt:127<m
  ·have HV:=ab (zj m);have HZ:=ab (show ∀u∈[(Value.int .u8 (bits BinOp.or IntKind.u8 ((m:Int)%256) 128))],u.oneCell'=true by simp[Value.oneCell']);obtain⟨f,rfl⟩: ∃g,f=g+1:=⟨f-1,by
    cases f with
    | zero=>have:=HMF.out; simp at this; omega
    | succ g=>rfl⟩
   have HE2:=ab (show(ac++[UInt8.ofNat (m%128+128)])++eR f (m/128)=acc++aH n by rw[<-HE.out,eR,if_pos hlt]; simp);have HMF2:=ab (show m/128<2^(7*f) by
    have h3:=HMF.out;rw[show 7*(f+1)=7*f+7 by omega,Nat.pow_add]at h3;exact Nat.div_lt_of_lt_mul (by omega))
   go_wp2_with (at_builtin; go_loud (refine aG Tryz.appBytes rfl _ _ rfl base (.slice ax xl cx) xl (ac.map au) rfl wr [Value.int .u8 (bits BinOp.or IntKind.u8 ((m:Int)%256) 128)] _ rfl rfl HZ.out HO.out hxb hbz ?_); intro v' wc hown' hgrow' _ hpl'; go_loud (have HP:=ab (HI.out.next hown' hgrow' hpl' HXL.out HV.out)); obtain⟨ae,ce,rfl,-,-⟩:=aj hown'; clear hown' hgrow' hpl')
   go_roundw
   case rel=>exact⟨f,m/128,_,by simp,by omega,HMF2.out,HE2.out,HP.out⟩
   case measure=>simp[intOf]; omega
  ·have HV:=ab (zi (n:=m) (by omega));have HZ:=ab (show ∀u∈[(Value.int .u8 (m:Int))],u.oneCell'=true by simp[Value.oneCell']);have HE2:=ab (show ac++[UInt8.ofNat m]=acc++aH n by
    rw[<-HE.out]
    cases f with
    | zero=>rfl
    | succ f=>rw[eR,if_neg hlt])
   go_wp2_with (at_builtin; go_loud (refine aG Tryz.appBytes rfl _ _ rfl base (.slice ax xl cx) xl (ac.map au) rfl wr [Value.int .u8 (m:Int)] _ rfl rfl HZ.out HO.out hxb hbz ?_); intro v' wc hown' hgrow' _ hpl'; go_loud (have HP:=ab (HI.out.next hown' hgrow' hpl' HXL.out HV.out)); obtain⟨ae,ce,rfl,-,-⟩:=aj hown'; clear hown' hgrow' hpl');go_ret;rw[<-HE2.out];exact⟨_,rfl,HP.out.own,HP.out.grown,HP.out.place⟩
theorem om (n:Nat) (w:World) (hn:n<18446744073709551616):
  Calls Tryz.prog 176 #[.slice none 0 0, .int .u64 (n:Int)] w fun e w'=> ∃v,e= .returned v/\iF w' w.heap.size v (aH n)/\Below w.heap.size w w':=by
 obtain⟨ht9,⟨i9,z9,h91,h92,h93,h94,h95⟩,-,-⟩:=Tryz.appBytes;have hb32:i9.bytes*10<=281474976710656:=by rw[h94]; decide
 have H9:=ab (And.intro h91 (And.intro h92 (And.intro h93 hb32)));clear h91 h92 h93 h94 h95 hb32
 go_enter Tryz.func176,Tryz.ntmps176
 go_wp2_with (first | (refine wpList_make_own _ rfl _ _ 29 rfl w.heap.size 5 i9 z9 1 Tryz.underlying29 H9.out.1 H9.out.2.1 H9.out.2.2.1 .i64 .i64 10 10 rfl rfl rfl H9.out.2.2.2 (by decide) (Nat.le_refl _) ?_; intro w4 hown4 hg4; have HO4:=ab hown4; have HG4:=ab hg4; clear hown4 hg4));refine(kY w.heap.size _ [] n w4 HO4.out HG4.out.size (by simp) hn).mono ?_;rintro e w5 ⟨v',rfl,ho5,hg5,-⟩
 rw[List.nil_append]at ho5;have HO5:=ab ho5;have HB5:=ab ((eG HG4.out).grown hg5 HG4.out.size (fun k hk=>by cases hk; exact Nat.le_refl _));obtain⟨a5,c5,rfl,-,-⟩:=aj ho5;clear ho5 hg5;go_wp2_with fail;go_ret;exact⟨_,rfl,HO5.out,HB5.out⟩
end Go.Proofs.YtpffpjbkbaleiaaGreatDoor
namespace Go.Proofs.YtpffpjbkbaleiaaGreatDoor
open Go Go.RowKit
structure bD where
 nm:ByteArray
 st:ByteArray
 ck:ByteArray
 ix:ByteArray
 tk:ByteArray
def bD.list (k:bD):List ByteArray:=[k.nm,k.st,k.ck,k.ix,k.tk]
def cY (k:bD):List Value:=[.string k.nm, .string k.st, .string k.ck, .string k.ix, .string k.tk]
def iO (k:bD):Value:= .agg #[.string k.nm, .string k.st, .string k.ck, .string k.ix, .string k.tk]
def fL (k:bD):Bool:=k.list.all fun s=>decide (s.size=32)
theorem zA (k:bD) {j:Nat} (h:j<5): ∃s,k.list[j]? =some s/\(cY k)[j]? =some (.string s):=by
 have hc:j=0\/j=1\/j=2\/j=3\/j=4:=by omega
 rcases hc with rfl | rfl | rfl | rfl | rfl
 ·exact⟨_,rfl,rfl⟩
 ·exact⟨_,rfl,rfl⟩
 ·exact⟨_,rfl,rfl⟩
 ·exact⟨_,rfl,rfl⟩
 ·exact⟨_,rfl,rfl⟩
theorem qI (k:bD) (w:World):Calls Tryz.prog 115 #[iO k] w fun e w'=>e= .returned (.bool (fL k))/\Below w.heap.size w w':=by
 unfold iO
 go_enter Tryz.func115,Tryz.ntmps115
 go_wp2_with fail;obtain⟨W1,hW1⟩: ∃W1,W1=(w.alloc (.cells #[.string k.nm, .string k.st, .string k.ck, .string k.ix, .string k.tk] 42)).alloc (.cells #[.string k.nm, .string k.st, .string k.ck, .string k.ix, .string k.tk] 9):=⟨_,rfl⟩;rw[<-hW1];have HB1:=ab (show Below w.heap.size w W1 by rw[hW1]; exact((Below.refl _ _).alloc (Nat.le_refl _) _).alloc (by simp) _);have HX1:=ab (show W1.heap[w.heap.size+1]? =some (.cells (cY k).toArray 9 (0,0)) by
  rw[hW1];have:=heap_alloc_new (w.alloc (.cells #[.string k.nm, .string k.st, .string k.ck, .string k.ix, .string k.tk] 42)) (.cells #[.string k.nm, .string k.st, .string k.ck, .string k.ix, .string k.tk] 9);rw[show(w.alloc (.cells #[.string k.nm, .string k.st, .string k.ck, .string k.ix, .string k.tk] 42)).heap.size=w.heap.size+1 by simp]at this;exact this)
 clear hW1
 go_loopw [17] (fun i wr=> ∃j:Nat,j<=5/\i= .int .i64 (j:Int)/\wr=W1/\(k.list.take j).all (fun s=>decide (s.size=32))=true) (fun i _=>5-(intOf i).toNat)
 case atStart=>exact⟨0,by omega,rfl,rfl,rfl⟩
 case round=>
  obtain⟨j,hj,rfl,rfl,hall⟩:=hrel;have HA:=ab hall;clear hall
  by_cases h5:j<5
  ·obtain⟨s,hs1,hs2⟩:=zA k h5;have c0:wr.cell? ⟨w.heap.size+1,j,none⟩=some (.string s):=by rw[cell_of_row wr _ _ _ _ _ HX1.out,List.getElem?_toArray]; exact hs2
   have hji:(j:Int)<5:=by omega
   have HS:=ab hs1;clear hs1 hs2
   by_cases h32:s.size=32
   ·have h32i:(s.size:Int)=32:=by omega
    go_wp2_with fail
    go_roundw
    case rel=>exact⟨j+1,by omega,by simp,trivial,by rw[List.take_add_one,HS.out,List.all_append,HA.out]; simp[h32]⟩
    case measure=>simp[intOf]; omega
   ·have h32i: ¬(s.size:Int)=32:=by omega
    go_wp2_with fail;go_ret;have hf:fL k=false:=by
     unfold fL;rw[List.all_eq_false];exact⟨s,List.mem_of_getElem? HS.out,by simpa using h32⟩
    rw[hf];exact⟨rfl,HB1.out⟩
  ·obtain rfl:j=5:=by omega
   go_wp2_with fail;go_ret;have hf:fL k=true:=HA.out;rw[hf];exact⟨rfl,HB1.out⟩
theorem jt (k:bD) (b:Bool) (w:World) (h:fL k=b):Calls Tryz.prog 115 #[iO k] w fun e w'=>e= .returned (.bool b)/\Below w.heap.size w w':=by rw[<-h]; exact qI k w
theorem sq {k:bD} (h:fL k=true):k.nm.size=32/\k.st.size=32/\k.ck.size=32/\k.ix.size=32/\k.tk.size=32:=by
 unfold fL bD.list at h;simp only[List.all_cons,List.all_nil,Bool.and_true,Bool.and_eq_true,decide_eq_true_eq]at h;exact h
def lM (k:bD) (g:Nat) (c:List UInt8):ByteArray:=⟨(vP (bl k.nm) (aH g++c)).toArray⟩
theorem li (k:bD) (g:Nat) (c:List UInt8):(lM k g c).size=32:=by unfold lM; rw[ay,dr,vQ]
theorem lU (S:Nat->Prop) (k:bD) (g:Nat) (c:List UInt8) (cv:Value) (w:World) (hk:fL k=true) (hg:g<=1099511627776) (hc:aw S w cv c) (hl:c.length<=32768) (hE:sC w):
  Calls Tryz.prog 156 #[iO k, .int .i64 (g:Int),cv] w fun e w'=>e= .returned (.tuple #[.string (lM k g c), .int .i64 0])/\Below w.heap.size w w':=by
 have HK:=ab hk;have HC:=ab hc;have HE:=ab hE;obtain⟨_,a,cap,rfl,hcap,hcm,-⟩:=id hc;obtain⟨cl,hcl⟩: ∃cl,cl=c.length:=⟨_,rfl⟩;rw[<-hcl]at hl HC ⊢;have HCL:=ab hcl;clear hk hc hE hcl hcap hcm;unfold iO
 go_enter Tryz.func156,Tryz.ntmps156
 go_wp2_with fail;obtain⟨W1,hW1⟩: ∃W1,W1=w.alloc (.cells #[.string k.nm, .string k.st, .string k.ck, .string k.ix, .string k.tk] 42):=⟨_,rfl⟩;rw[<-hW1];have HB1:=ab (show Below w.heap.size w W1 by rw[hW1]; exact(Below.refl _ _).alloc (Nat.le_refl _) _);have HX1:=ab (show W1.heap[w.heap.size]? =some (.cells (cY k).toArray 42 (0,0)) by rw[hW1]; exact heap_alloc_new w _);clear hW1
 refine(jt k true W1 HK.out).mono ?_;rintro e w1 ⟨rfl,hb1⟩;have HB2:=ab (ah HB1.out hb1);have HX2:=ab ((hb1.block _ (lt_of_block HX1.out)).trans HX1.out);clear hb1;go_wp2_with fail;refine cH (fun w'=>w'.cell? ⟨w.heap.size,0,none⟩=some (.string k.nm)) (by kernel_rfl) ?_;obtain⟨V,hV⟩: ∃V:World,V=w1.drew:=⟨_,rfl⟩;rw[<-hV];have HBV:=ab (show Below w.heap.size w V by rw[hV]; exact HB2.out.trans ((Below.refl _ _).drew))
 have HXV:=ab (show V.heap[w.heap.size]? =some (.cells (cY k).toArray 42 (0,0)) by rw[hV]; exact HX2.out);clear hV;have hSV:V.cell? ⟨w.heap.size,0,none⟩=some (.string k.nm):=(cell_of_row V _ _ _ _ _ HXV.out).trans rfl;refine af 0 rfl (by kernel_rfl) (by kernel_rfl) (by kernel_rfl) (fun _ _ _ h=>h) rfl hSV (by intro w' hw1; go_simp; rfl) ?_;simp only[Act.put,aB,aC,aD]
 refine af 1 rfl (by kernel_rfl) (by kernel_rfl) (by kernel_rfl) (fun _ _ _ h=>h) rfl hSV (by intro w' hw1; go_simp; rfl) ?_;simp only[Act.put,aB,aC,aD];refine af 2 rfl (by kernel_rfl) (by kernel_rfl) (by kernel_rfl) (fun _ _ _ h=>h) rfl hSV (by intro w' hw1; go_simp; rfl) ?_;simp only[Act.put,aB,aC,aD];refine af 3 rfl (by kernel_rfl) (by kernel_rfl) (by kernel_rfl) (fun _ _ _ h=>h) rfl hSV (by intro w' hw1; go_simp; rfl) ?_
 simp only[Act.put,aB,aC,aD];refine af 5 rfl (by kernel_rfl) (by kernel_rfl) (by kernel_rfl) (fun _ _ _ h=>h) rfl hSV (by intro w' hw1; go_simp; rfl) ?_;simp only[Act.put,aB,aC,aD];refine ar 4 rfl (by kernel_rfl) rfl (fun K hK=> ?_);go_wp2_with fail;refine(om g V (by omega)).mono ?_;rintro e w3 ⟨v3,rfl,ho3,hb3⟩;obtain⟨a3,c3,rfl,-,-⟩:=aj ho3
 have HB3:=ab (ah HBV.out hb3);have hS3:w3.cell? ⟨w.heap.size,0,none⟩=some (.string k.nm):=(hb3.cell (p:=⟨w.heap.size,0,none⟩) (lt_of_block HXV.out)).trans hSV;have hVs:=HBV.out.size;have HO3:=ab ho3;have HLN:=ab (dI (n:=g) (by omega));have hbase:=hb3.size;clear ho3 hb3 hSV;go_wp2_with fail;refine⟨hS3, ?_⟩;refine ar 6 rfl (by kernel_rfl) rfl (fun K hK=> ?_)
 have HCB:=ab (show aw S w3 (.slice a cl cap) c from aM.below HC.out (by omega) HB3.out);have hnl:(aH g).length+cl<1099511627775:=by have:=HLN.out; omega
 have HRW:=ab (show aM S w3 1 (.slice a cl cap) cl (c.map au) by have h9:=HCB.out; unfold aw at h9; rw[<-HCL.out]at h9; exact h9);go_wp2_with (at_builtin; go_loud (refine eY Tryz.appBytes rfl _ _ rfl V.heap.size (.slice a3 (aH g).length c3) (aH g).length ((aH g).map au) rfl HO3.out (.slice a cl cap) cl (c.map au) rfl HRW.out (eo c) hnl hbase ?_); intro v' wc hown' hgrow'; have HO4:=ab hown'; have HG4:=ab hgrow'; obtain⟨a4,c4,rfl,-,-⟩:=aj hown'; clear hown' hgrow')
 have HB4:=ab (show Below w.heap.size w wc from cV HB3.out HO3.out HG4.out hVs HB3.out.size);have hS4:wc.cell? ⟨w.heap.size,0,none⟩=some (.string k.nm):=by
  rw[<-hS3];exact World.cell?_of_block (HG4.out.block w.heap.size (by have:=lt_of_block HXV.out; omega) (fun e=>by have h1:=(HO3.out.lt _ e.symm).1; have:=lt_of_block HXV.out; omega))
 have HBY:=ab (show aw (fun _=>True) wc (.slice a4 ((aH g).length+cl) c4) (aH g++c) by
  have h9:=bh HO4.out;rw[<-List.map_append]at h9;unfold aw;rw[List.length_append,<-HCL.out];exact h9.weak (fun _ _=>trivial))
 have hml:(aH g++c).length<281474976710656:=by rw[List.length_append,<-HCL.out]; have:=HLN.out; omega
 clear hS3;refine⟨hS4, ?_⟩;refine ar 7 rfl (by kernel_rfl) rfl (fun K hK=> ?_);have hnm:=(sq HK.out).1;go_wp2_with fail;refine(mX (fun _=>True) k.nm (aH g++c) _ wc (by rw[hnm]; decide) HBY.out hml (HE.out.below HB4.out)).mono ?_;rintro e w5 ⟨rfl,hb5⟩;have HB5:=ab (ah HB4.out hb5);have hS5:w5.cell? ⟨w.heap.size,0,none⟩=some (.string k.nm):=(hb5.cell (p:=⟨w.heap.size,0,none⟩) (block_lt_of_cell hS4)).trans hS4
 clear hb5 hS4;go_wp2_with fail;refine⟨hS5, ?_⟩;refine af 8 rfl (by kernel_rfl) (by kernel_rfl) (by kernel_rfl) (fun _ _ _ h=>h) rfl hS5 (by intro w' hw1; go_simp; rfl) ?_;simp only[Act.put,aB,aC,aD];refine af 9 rfl (by kernel_rfl) (by kernel_rfl) (by kernel_rfl) (fun _ _ _ h=>h) rfl hS5 (by intro w' hw1; go_simp; rfl) ?_;simp only[Act.put,aB,aC,aD];refine aV (by kernel_rfl) ?_
 go_wp2_with fail
 go_ret2
 exact⟨rfl,HB5.out⟩
theorem qH (k:bD) (w:World) (hE:sC w):Calls Tryz.prog 69 #[iO k, .slice none 0 0] w fun e w'=>(∃v,e= .returned (.tuple #[v, .int .i64 (if fL k=true then 0 else 1)]))/\Below w.heap.size w w':=by
 have HE:=ab hE;clear hE;unfold iO
 by_cases hk:fL k=true
 ·rw[if_pos hk];have HK:=ab hk;clear hk
  go_enter Tryz.func69,Tryz.ntmps69
  go_wp2_with fail;obtain⟨W1,hW1⟩: ∃W1,W1=w.alloc (.cells #[.string k.nm, .string k.st, .string k.ck, .string k.ix, .string k.tk] 42):=⟨_,rfl⟩;rw[<-hW1];have HB1:=ab (show Below w.heap.size w W1 by rw[hW1]; exact(Below.refl _ _).alloc (Nat.le_refl _) _);have HX1:=ab (show W1.heap[w.heap.size]? =some (.cells (cY k).toArray 42 (0,0)) by rw[hW1]; exact heap_alloc_new w _);clear hW1
  refine(jt k true W1 HK.out).mono ?_;rintro e w1 ⟨rfl,hb1⟩;have HB2:=ab (ah HB1.out hb1);have HX2:=ab ((hb1.block _ (lt_of_block HX1.out)).trans HX1.out);have c2:w1.cell? ⟨w.heap.size,2,none⟩=some (.string k.ck):=(cell_of_row w1 _ _ _ _ _ HX2.out).trans rfl;have hck:=(sq HK.out).2.2.1;clear hb1;go_wp2_with fail;refine(mX (fun _=>True) k.ck [] _ w1 (by rw[hck]; decide) (aM.nil _ _ _) (by decide) (HE.out.below HB2.out)).mono ?_
  rintro e w2 ⟨rfl,hb2⟩;have HB3:=ab (ah HB2.out hb2);obtain⟨t,ht⟩: ∃t:ByteArray,t=⟨(vP (bl k.ck) []).toArray⟩:=⟨_,rfl⟩;have htz:t.size=32:=by rw[ht,ay,dr,vQ]
  rw[<-ht];obtain⟨W3,cp,hcv,-,hbw,-⟩:=rf (t.extract 0 16) w2 (by have:=Lib.extract_data t 0 16; rw[ByteArray.size_extract]; unfold maxLen; omega);have HB4:=ab (ah HB3.out hbw);clear hb2 ht hbw c2;go_wp2_with fail
  go_ret2
  exact⟨⟨_,rfl⟩,HB4.out⟩
 ·rw[if_neg hk];have HK:=ab (show fL k=false by simpa using hk);clear hk
  go_enter Tryz.func69,Tryz.ntmps69
  go_wp2_with fail;obtain⟨W1,hW1⟩: ∃W1,W1=w.alloc (.cells #[.string k.nm, .string k.st, .string k.ck, .string k.ix, .string k.tk] 42):=⟨_,rfl⟩;rw[<-hW1];have HB1:=ab (show Below w.heap.size w W1 by rw[hW1]; exact(Below.refl _ _).alloc (Nat.le_refl _) _);have HX1:=ab (show W1.heap[w.heap.size]? =some (.cells (cY k).toArray 42 (0,0)) by rw[hW1]; exact heap_alloc_new w _);clear hW1
  refine(jt k false W1 HK.out).mono ?_;rintro e w1 ⟨rfl,hb1⟩;have HB2:=ab (ah HB1.out hb1);clear hb1;go_wp2_with fail
  go_ret2
  exact⟨⟨_,rfl⟩,HB2.out⟩
end Go.Proofs.YtpffpjbkbaleiaaGreatDoor
namespace Go.Proofs.YtpffpjbkbaleiaaGreatDoor
def dR (x k:Nat):Nat:=(x*2^k%18446744073709551616) ||| (x/2^(64-k))
def nI :Nat->Nat->Nat
 | 0,x=>x
 | n+1,x=>dR (nI n x) 1
theorem fx {x k:Nat} (_hk:k<=64) (i:Nat):(dR x k).testBit i=((decide (i<64) && decide (k<=i) && x.testBit (i-k)) || x.testBit (64-k+i)):=by
 unfold dR;rw[Nat.testBit_or,show(18446744073709551616:Nat)=2^64 from rfl,Nat.testBit_mod_two_pow,Nat.testBit_mul_two_pow,Nat.testBit_div_two_pow,Nat.add_comm i (64-k),Bool.and_assoc]
theorem gy {x:Nat} (hx:x<18446744073709551616) {i:Nat} (h:64<=i):x.testBit i=false:=
 Nat.testBit_lt_two_pow (Nat.lt_of_lt_of_le hx (Nat.pow_le_pow_right (by decide) h:2^64<=2^i))
theorem iU {x:Nat} (k:Nat) (hx:x<18446744073709551616):dR x k<18446744073709551616:=
 Nat.or_lt_two_pow (n:=64) (Nat.mod_lt _ (by decide)) (Nat.lt_of_le_of_lt (Nat.div_le_self _ _) hx)
theorem yI : ∀(n:Nat) {x:Nat},x<18446744073709551616->nI n x<18446744073709551616
 | 0,_,h=>h
 | n+1,_,h=>iU 1 (yI n h)
theorem pQ {x:Nat} (hx:x<18446744073709551616):dR x 0=x:=by
 unfold dR;rw[show(2:Nat)^(64-0)=18446744073709551616 by decide,Nat.div_eq_of_lt hx,Nat.or_zero,Nat.pow_zero,Nat.mul_one,Nat.mod_eq_of_lt hx]
theorem xx {x k:Nat} (hx:x<18446744073709551616) (hk:k<64):dR (dR x k) 1=dR x (k+1):=by
 apply Nat.eq_of_testBit_eq
 intro i;rw[fx (by decide),fx (by omega),fx (by omega),fx (by omega)]
 by_cases h64:i<64
 ·by_cases h0:i=0
  ·subst h0;have e1:x.testBit (64-k+(64-1+0))=false:=gy hx (by omega);have e2:64-1+0-k=64-(k+1)+0:=by omega
   have e3:x.testBit (64-0+0-k+64)=false:=gy hx (by omega);simp only[e1,e2];simp;omega
  ·have e1:x.testBit (64-k+(64-1+i))=false:=gy hx (by omega);have e2:(64-1+i<64)=False:=by simp; omega
   have e3:i-1-k=i-(k+1):=by omega
   have e4:64-k+(i-1)=64-(k+1)+i:=by omega
   have e5:(decide (k<=i-1))=decide (k+1<=i):=by rw[decide_eq_decide]; omega
   have e6:decide (1<=i)=true:=by simp; omega
   have e7:decide (i-1<64)=true:=by simp; omega
   have e8:decide (i<64)=true:=by simp; omega
   have e9:decide (64-1+i<64)=false:=by simp; omega
   simp only[e1,e3,e4,e5,e6,e7,e8,e9,Bool.true_and,Bool.false_and,Bool.or_false]
 ·have e1:x.testBit (64-k+(64-1+i))=false:=gy hx (by omega);have e2:x.testBit (64-(k+1)+i)=false:=gy hx (by omega);have e8:decide (i<64)=false:=by simp; omega
  have e9:decide (64-1+i<64)=false:=by simp; omega
  simp only[e1,e2,e8,e9,Bool.false_and,Bool.or_false]
theorem nX {x:Nat} (hx:x<18446744073709551616): ∀ {k:Nat},k<=64->nI k x=dR x k
 | 0,_=>(pQ hx).symm
 | k+1,h=>by rw[nI,nX hx (k:=k) (by omega),xx hx (by omega)]
theorem As {x:Nat} (hx:x<18446744073709551616):nI 64 x=x:=by
 rw[nX hx (by decide)];unfold dR;rw[show(2:Nat)^64=18446744073709551616 by decide,Nat.mul_mod_left,Nat.zero_or];simp
theorem EC {x y:Nat} (hx:x<18446744073709551616) (hy:y<18446744073709551616) {k:Nat} (hk:k<=64):dR (x^^^y) k=dR x k^^^dR y k:=by
 apply Nat.eq_of_testBit_eq
 intro i;rw[Nat.testBit_xor,fx hk,fx hk,fx hk,Nat.testBit_xor,Nat.testBit_xor]
 by_cases h:i<64/\k<=i
 ·have e:decide (i<64)=true/\decide (k<=i)=true:=by simpa using h
  rw[e.1,e.2,gy hx (i:=64-k+i) (by omega),gy hy (i:=64-k+i) (by omega)];simp
 ·have e:(decide (i<64) && decide (k<=i))=false:=by simp; omega
  rw[e]; simp
theorem mi {x y:Nat} (hx:x<18446744073709551616) (hy:y<18446744073709551616):x^^^y<18446744073709551616:=Nat.xor_lt_two_pow (n:=64) hx hy
def Cf (z:Nat):Nat:=((z^^^(z/2^30))*13787848793156543929)%18446744073709551616
def Cg (z:Nat):Nat:=((z^^^(z/2^27))*10723151780598845931)%18446744073709551616
def Fu (z:Nat):Nat:=z^^^(z/2^31)
def vG (seed i:Nat):Nat:=(seed+(i+1)*11400714819323198485%18446744073709551616)%18446744073709551616
def ti (seed i:Nat):Nat:=Fu (Cg (Cf (vG seed i)))
theorem nV (seed i:Nat):ti seed i<18446744073709551616:=by
 unfold ti Fu;have h:Cg (Cf (vG seed i))<18446744073709551616:=Nat.mod_lt _ (by decide);exact mi h (Nat.lt_of_le_of_lt (Nat.div_le_self _ _) h)
theorem uC {M:List UInt8->Prop} (h0:M []) (h1: ∀l b,M l->M (l++[b])) (l:List UInt8):M l:=by
 have: ∀r:List UInt8,M r.reverse:=by
  intro r
  induction r with
  | nil=>exact h0
  | cons b r ih=>rw[List.reverse_cons]; exact h1 _ _ ih
 have h:=this l.reverse;rw[List.reverse_reverse]at h; exact h
section
variable (T : Nat → Nat)
def eJ (l:List UInt8):Nat:=l.foldl (fun s b=>dR s 1^^^T b.toNat) 0
theorem gC (l:List UInt8) (b:UInt8):eJ T (l++[b])=dR (eJ T l) 1^^^T b.toNat:=by
 unfold eJ; rw[List.foldl_append,List.foldl_cons,List.foldl_nil]
theorem rx :eJ T []=0:=rfl
theorem zv (x:UInt8):eJ T [x]=T x.toNat:=by
 unfold eJ; rw[List.foldl_cons,List.foldl_nil,show dR 0 1=0 by decide,Nat.zero_xor]
variable {T}
theorem uB (hT: ∀i,T i<18446744073709551616) (l:List UInt8):eJ T l<18446744073709551616:=by
 refine uC (M:=fun l=>eJ T l<18446744073709551616) ?_ (fun l b ih=> ?_) l
 ·show eJ T []<_
  rw[rx]; decide
 ·show eJ T (l++[b])<_
  rw[gC]; exact mi (iU 1 ih) (hT _)
theorem wG (hT: ∀i,T i<18446744073709551616) (x:UInt8) (l:List UInt8):eJ T (x::l)=nI l.length (T x.toNat)^^^eJ T l:=by
 refine uC (M:=fun l=>eJ T (x::l)=nI l.length (T x.toNat)^^^eJ T l) ?_ (fun l b ih=> ?_) l
 ·show eJ T [x]=nI 0 (T x.toNat)^^^eJ T []
  rw[zv,rx,Nat.xor_zero,nI]
 ·show eJ T (x::(l++[b]))=nI (l++[b]).length (T x.toNat)^^^eJ T (l++[b])
  rw[<-List.cons_append,gC,gC,List.length_append,List.length_singleton,nI,ih,EC (yI _ (hT _)) (uB hT _) (by decide),Nat.xor_assoc]
theorem wH (hT: ∀i,T i<18446744073709551616) (x b:UInt8) (l:List UInt8) (h:l.length+1<=64):(dR (eJ T (x::l)) 1^^^T b.toNat)^^^dR (T x.toNat) (l.length+1)=eJ T (l++[b]):=by
 rw[<-gC,List.cons_append,wG hT,List.length_append,List.length_singleton,<-nX (hT _) h,Nat.xor_comm (nI _ _),Nat.xor_assoc,Nat.xor_self,Nat.xor_zero]
end
def mW (seed:Nat) (l:List UInt8):Nat:=eJ (ti seed) l
theorem uA (seed:Nat) (l:List UInt8):mW seed l<18446744073709551616:=uB (nV seed) l
def iX (W:Nat) (d:List UInt8):List UInt8:=d.drop (d.length-W)
theorem kk (W:Nat) (d:List UInt8):(iX W d).length=min W d.length:=by unfold iX; rw[List.length_drop]; omega
theorem sw {W:Nat} {d:List UInt8} (h:d.length<W) (b:UInt8):iX W (d++[b])=iX W d++[b]:=by
 unfold iX;rw[List.length_append,List.length_singleton,show d.length+1-W=0 by omega,show d.length-W=0 by omega]; rfl
theorem sx {W:Nat} {d:List UInt8} (hW:1<=W) (h:W<=d.length) (b:UInt8):iX W (d++[b])=(iX W d).tail++[b]:=by
 unfold iX;rw[List.length_append,List.length_singleton,List.tail_drop,List.drop_append_of_le_length (by omega)]
 congr 2; omega
def ET (seed W bits:Nat) (d:List UInt8):Bool:=decide (W<=d.length) && decide (bits<=Lib.ctz 64 (mW seed (iX W d)))
end Go.Proofs.YtpffpjbkbaleiaaGreatDoor
namespace Go.Proofs.YtpffpjbkbaleiaaGreatDoor
section
variable (mk : Nat → Bool) (mn mx len : Nat)
def jA :Nat->Int
 | 0=> -(mn:Int)
 | p+1=>if mk (p+1)then((p+1:Nat):Int)else jA p
def pL :Nat->Bool
 | 0=>false
 | p+1=>mk (p+1) && decide ((mn:Int)<=((p+1:Nat):Int)-jA mk mn p)
def fG (l:List Nat):Nat:=l.getLast?.getD 0
def gJ (s q:Nat):Bool:=pL mk mn q || decide (s+mx<=q) || decide (len<=q)
def eE :Nat->List Nat
 | 0=>[]
 | p+1=>if gJ mk mn mx len (fG (eE p)) (p+1)then eE p++[p+1]else eE p
def ux :List Nat:=eE mk mn mx len len
end
section
variable {mk : Nat → Bool} {mn mx len : Nat}
theorem fu (l:List Nat) (p:Nat):fG (l++[p])=p:=by simp[fG]
theorem xf (p:Nat):(jA mk mn p= -(mn:Int)/\ ∀q,1<=q->q<=p->mk q=false)\/ ∃L,jA mk mn p=((L:Nat):Int)/\1<=L/\L<=p/\mk L=true/\ ∀q,L<q->q<=p->mk q=false:=by
 induction p with
 | zero=>exact .inl ⟨rfl,fun q h1 h2=>by omega⟩
 | succ p ih=>
  rw[jA]
  by_cases h:mk (p+1)=true
  ·rw[if_pos h];exact .inr ⟨p+1,rfl,by omega,by omega,h,fun q h1 h2=>by omega⟩
  ·rw[if_neg h];have h0:mk (p+1)=false:=by simpa using h
   rcases ih with⟨h1,h2⟩ | ⟨L,h1,h2,h3,h4,h5⟩
   ·exact .inl ⟨h1,fun q hq1 hq2=>by
     by_cases e:q=p+1
     ·rw[e]; exact h0
     ·exact h2 q hq1 (by omega)⟩
   ·exact .inr ⟨L,h1,h2,by omega,h4,fun q hq1 hq2=>by
     by_cases e:q=p+1
     ·rw[e]; exact h0
     ·exact h5 q hq1 (by omega)⟩
def Fe (mk:Nat->Bool) (mn mx len s q:Nat):Prop:=s<q/\q<=len/\gJ mk mn mx len s q=true/\ ∀r,s<r->r<q->gJ mk mn mx len s r=false
inductive Bg (mk : Nat → Bool) (mn mx len : Nat) : List Nat → Nat → Prop
 | nil:Bg mk mn mx len [] 0
 | snoc {l:List Nat} {s q:Nat} :Bg mk mn mx len l s->Fe mk mn mx len s q->Bg mk mn mx len (l++[q]) q
theorem Bg.last {l:List Nat} {s:Nat} (h:Bg mk mn mx len l s):fG l=s:=by
 cases h with
 | nil=>rfl
 | snoc _ _=>exact fu _ _
theorem Bg.le {l:List Nat} {s:Nat} (h:Bg mk mn mx len l s):s<=len:=by
 cases h with
 | nil=>omega
 | snoc _ h=>exact h.2.1
theorem oP : ∀ {p:Nat},p<=len-> ∃s,Bg mk mn mx len (eE mk mn mx len p) s/\s<=p/\ ∀r,s<r->r<=p->gJ mk mn mx len s r=false
 | 0,_=>⟨0, .nil,by omega,fun r h1 h2=>by omega⟩
 | p+1,hp=>by
  obtain⟨s,h1,h2,h3⟩:=oP (p:=p) (by omega);rw[eE,h1.last]
  by_cases h:gJ mk mn mx len s (p+1)=true
  ·rw[if_pos h];exact⟨p+1,h1.snoc ⟨by omega,hp,h,fun r hr1 hr2=>h3 r hr1 (by omega)⟩,by omega,fun r hr1 hr2=>by omega⟩
  ·rw[if_neg h];exact⟨s,h1,by omega,fun r hr1 hr2=>by
    by_cases e:r=p+1
    ·rw[e]; simpa using h
    ·exact h3 r hr1 (by omega)⟩
theorem rp :Bg mk mn mx len (ux mk mn mx len) len:=by
 obtain⟨s,h1,h2,h3⟩:=oP (mk:=mk) (mn:=mn) (mx:=mx) (len:=len) (Nat.le_refl len)
 by_cases e:s=len
 ·rw[e]at h1; exact h1
 ·have:=h3 len (by omega) (by omega);simp[gJ]at this
theorem Fe.reach {s q:Nat} (hm:1<=mx) (h:Fe mk mn mx len s q):q<=s+mx:=by
 by_cases h1:s+mx<q
 ·have h2:=h.2.2.2 (s+mx) (by omega) h1;simp[gJ]at h2
 ·omega
def fQ (data:List UInt8) (s e:Nat):List UInt8:=(data.drop s).take (e-s)
def et (data:List UInt8):Nat->List Nat->List (List UInt8)
 | _,[]=>[]
 | s,e::l=>fQ data s e::et data e l
theorem gh (data:List UInt8): ∀(l:List Nat) (s e:Nat),et data s (l++[e])=et data s l++[fQ data (l.getLast?.getD s) e]
 | [],_,_=>rfl
 | x::l,s,e=>by
  rw[List.cons_append,et,gh data l x e,et,List.cons_append]
  congr 3
  rw[List.getLast?_cons]; rfl
theorem vp {data:List UInt8} {l:List Nat} {s:Nat} (h:Bg mk mn mx data.length l s):(et data 0 l).flatten=data.take s:=by
 induction h with
 | nil=>simp[et]
 | snoc h1 h2 ih=>
  rename_i l s q;rw[gh,List.flatten_append,ih];have:=h1.last;unfold fG at this;rw[this,List.flatten_cons,List.flatten_nil,List.append_nil];unfold fQ;have h3:=h2.1;rw[show q=s+(q-s) by omega,List.take_add,show s+(q-s)-s=q-s by omega]
theorem xp {data:List UInt8} :(et data 0 (ux mk mn mx data.length)).flatten=data:=by
 rw[vp rp,List.take_length]
theorem zW {data:List UInt8} {l:List Nat} {s:Nat} (hm:1<=mx) (h:Bg mk mn mx data.length l s): ∀c∈et data 0 l,1<=c.length/\c.length<=mx:=by
 induction h with
 | nil=>simp[et]
 | snoc h1 h2 ih=>
  rename_i l s q;rw[gh];intro c hc
  rcases List.mem_append.1 hc with hc | hc
  ·exact ih c hc
  ·rw[List.mem_singleton.1 hc];have:=h1.last;unfold fG at this;rw[this];unfold fQ;rw[List.length_take,List.length_drop];have h3:=h2.reach hm;have h4:=h2.1;have h5:=h2.2.1;omega
end
end Go.Proofs.YtpffpjbkbaleiaaGreatDoor
namespace Go.Proofs.YtpffpjbkbaleiaaGreatDoor
open Go Go.RowKit
theorem At {x s:Nat} (hx:x<18446744073709551616):bits .or .u64 ((x:Int)*2^s%18446744073709551616) ((x:Int)/2^(64-s))=((dR x s:Nat):Int):=by
 have e1:((x:Int)*2^s%18446744073709551616)=((x*2^s%18446744073709551616:Nat):Int):=by simp
 have e2:((x:Int)/2^(64-s))=((x/2^(64-s):Nat):Int):=by simp
 rw[e1,e2,u64_or_nat _ _ (Nat.mod_lt _ (by decide)) (Nat.lt_of_le_of_lt (Nat.div_le_self _ _) hx)]
 rfl
theorem rS (x k:Nat) (w:World) (hx:x<18446744073709551616) (hk:k<=64):Calls Tryz.prog 211 #[.int .u64 (x:Int), .int .i64 (k:Int)] w fun e w'=>e= .returned (.int .u64 ((dR x k:Nat):Int))/\w=w':=by
 obtain⟨s,hs⟩: ∃s,s=k%64:=⟨_,rfl⟩;have h1:bits BinOp.and IntKind.u64 (k:Int) 63=(s:Int):=by
  rw[show(63:Int)=((63:Nat):Int)from rfl,u64_and_nat _ _ (by omega) (by decide),nat_mask6,hs]
 have hs64:s<64:=by omega
 have hmin:min s 64=s:=by omega
 have hmin2:min (64-s) 64=64-s:=by omega
 have HR:=ab (show dR x s=dR x k by
  by_cases h:k=64
  ·have e:s=0:=by rw[hs,h]
   rw[e,h,pQ hx,<-nX hx (Nat.le_refl 64),As hx]
  ·rw[show s=k by omega])
 clear hs
 go_enter Tryz.func211,Tryz.ntmps211
 go_wp2_with fail;go_ret;refine⟨?_,rfl⟩;rw[<-HR.out,<-At hx,IntKind.wrap_u64]
 rfl
theorem Fv (a c:Nat):((a:Int)*(c:Int))%18446744073709551616=((a*c%18446744073709551616:Nat):Int):=by simp
theorem qi (z d:Nat) (hz:z<18446744073709551616):bits BinOp.xor IntKind.u64 (z:Int) ((z:Int)/(d:Int))=((z^^^(z/d):Nat):Int):=by
 rw[show((z:Int)/(d:Int))=((z/d:Nat):Int) by simp,u64_xor_nat _ _ hz (Nat.lt_of_le_of_lt (Nat.div_le_self _ _) hz)]
theorem zG (z:Nat) (hz:z<18446744073709551616):(bits BinOp.xor IntKind.u64 (z:Int) ((z:Int)/1073741824)*13787848793156543929)%18446744073709551616=((Cf z:Nat):Int):=by
 have h:=qi z 1073741824 hz;rw[show((1073741824:Nat):Int)=1073741824 from rfl]at h;rw[h];exact Fv (z^^^(z/1073741824)) 13787848793156543929
theorem zI (z:Nat) (hz:z<18446744073709551616):(bits BinOp.xor IntKind.u64 (z:Int) ((z:Int)/134217728)*10723151780598845931)%18446744073709551616=((Cg z:Nat):Int):=by
 have h:=qi z 134217728 hz;rw[show((134217728:Nat):Int)=134217728 from rfl]at h;rw[h];exact Fv (z^^^(z/134217728)) 10723151780598845931
theorem zK (z:Nat) (hz:z<18446744073709551616):bits BinOp.xor IntKind.u64 (z:Int) ((z:Int)/2147483648)=((Fu z:Nat):Int):=by
 have h:=qi z 2147483648 hz;rw[show((2147483648:Nat):Int)=2147483648 from rfl]at h;exact h
theorem Ay (s k:Nat):IntKind.u64.wrap ((s:Int)+IntKind.u64.wrap (((k:Int)+1)*11400714819323198485))=((vG s k:Nat):Int):=by
 rw[IntKind.wrap_u64,IntKind.wrap_u64,show((k:Int)+1)=((k+1:Nat):Int) by omega,show(11400714819323198485:Int)=((11400714819323198485:Nat):Int)from rfl,Fv];unfold vG;omega
theorem zH (z:Nat) (hz:z<18446744073709551616):IntKind.u64.wrap (bits BinOp.xor IntKind.u64 (z:Int) ((z:Int)/1073741824)*13787848793156543929)=((Cf z:Nat):Int):=by rw[IntKind.wrap_u64,zG z hz]
theorem zJ (z:Nat) (hz:z<18446744073709551616):IntKind.u64.wrap (bits BinOp.xor IntKind.u64 (z:Int) ((z:Int)/134217728)*10723151780598845931)=((Cg z:Nat):Int):=by rw[IntKind.wrap_u64,zI z hz]
theorem Ei (z:Nat):Cf z<18446744073709551616:=Nat.mod_lt _ (by decide)
theorem Ej (z:Nat):Cg z<18446744073709551616:=Nat.mod_lt _ (by decide)
theorem CO (s i:Nat):vG s i<18446744073709551616:=Nat.mod_lt _ (by decide)
def AO (x:Nat):Value:= .int .u64 (x:Int)
structure iq (w : World) (seed k : Nat) (wr : World) : Prop where
 box:wr.heap[w.heap.size]? =some (.cells ((List.range k).map (fun i=>AO (ti seed i))++List.replicate (256-k) (AO 0)).toArray 43 (0,0))
 below:Below w.heap.size w wr
theorem iq.here {w wr:World} {seed k:Nat} (h:iq w seed k wr) (hk:k<256):wr.cell? ⟨w.heap.size,k,none⟩=some (.int .u64 0):=by
 rw[cell_of_row wr _ _ _ _ _ h.box,List.getElem?_toArray,List.getElem?_append_right (by simp)];rw[List.length_map,List.length_range,Nat.sub_self,show 256-k=(256-(k+1))+1 by omega,List.replicate_succ]
 rfl
theorem iq.put {w wr:World} {seed k:Nat} (h:iq w seed k wr) (hk:k<256):iq w seed (k+1) (wr.setCell ⟨w.heap.size,k,none⟩ (AO (ti seed k))):=by
 refine⟨?_,h.below.trans ⟨rfl,rfl,rfl,by simp[World.setCell],fun j hj=>heap_setCell_other wr _ j _ (by show j≠w.heap.size; omega)⟩⟩;rw[heap_setCell_same wr _ _ _ _ _ h.box]
 congr 2
 rw[List.setIfInBounds_toArray,List.set_append_right _ _ (by simp),List.length_map,List.length_range,Nat.sub_self,show 256-k=(256-(k+1))+1 by omega,List.replicate_succ,List.range_succ,List.map_append];simp
theorem Eh (w:World):(Instr.makeSlice 262 (.int .i64 256) (.int .i64 256)).run Tryz.prog w= .ok (.slice (some ⟨w.heap.size,0,none⟩) 256 256) (w.alloc (.cells (List.replicate 256 (AO 0)).toArray 43)):=by kernel_rfl
theorem AM (seed:Nat) (w:World):Calls Tryz.prog 210 #[.int .u64 (seed:Int)] w fun e w'=>e= .returned (.slice (some ⟨w.heap.size,0,none⟩) 256 256)/\iq w seed 256 w':=by
 have hmk:=Eh
 go_enter Tryz.func210,Tryz.ntmps210
 go_wp2_with fail;have HT0:=ab (show iq w seed 0 (w.alloc (.cells (List.replicate 256 (AO 0)).toArray 43))from⟨by rw[heap_alloc_new]; rfl,(Below.refl _ _).alloc (Nat.le_refl _) _⟩);clear hmk
 go_loopw [9] (fun i wr=> ∃k:Nat,k<=256/\i= .int .i64 (k:Int)/\iq w seed k wr) (fun i _=>256-(intOf i).toNat)
 case atStart=>exact⟨0,by omega,rfl,HT0.out⟩
 case round=>
  obtain⟨k,hk,rfl,ht⟩:=hrel;have HT:=ab ht;have hz:=ht.below.size;clear ht
  by_cases h256:k<256
  ·have ch:=HT.out.here h256;have cf:=frozen_of_row wr _ k _ _ HT.out.box;have hki:(k:Int)<256:=by omega
   go_wp2_with fail
   go_roundw
   case rel=>
    rw[Ay,zH _ (CO _ _),zJ _ (Ei _),zK _ (Ej _)];exact⟨k+1,by omega,by simp,HT.out.put h256⟩
   case measure=>simp[intOf]; omega
  ·obtain rfl:k=256:=by omega
   go_wp2_with fail;go_ret;exact⟨rfl,HT.out⟩
end Go.Proofs.YtpffpjbkbaleiaaGreatDoor
namespace Go.Proofs.YtpffpjbkbaleiaaGreatDoor
open Go Go.RowKit
def mC (seed:Nat):List Value:=(List.range 256).map fun i=>AO (ti seed i)
theorem lX (seed:Nat):(mC seed).length=256:=by simp[mC]
def eO (seed:Nat) (ring:List UInt8) (W s n h:Nat):List Value:=mC seed++(ring.map au++[.int .i64 (W:Int), .int .i64 (s:Int), .int .i64 (n:Int), .int .u64 (h:Int)])
theorem iq.full {w wr:World} {seed:Nat} (h:iq w seed 256 wr):wr.heap[w.heap.size]? =some (.cells (mC seed).toArray 43 (0,0)):=by
 rw[h.box,Nat.sub_self,List.replicate_zero,List.append_nil]; rfl
def ko (W:Nat):List Value:=List.replicate 256 (.int .u64 0)++((List.replicate 64 (0:UInt8)).map au++[.int .i64 (W:Int), .int .i64 0, .int .i64 0, .int .u64 0])
theorem vz (seed W:Nat) (w:World) (hW:1<=W) (hW2:W<=64):Calls Tryz.prog 199 #[.int .u64 (seed:Int), .int .i64 (W:Int)] w fun e w'=> ∃rb,e= .returned (.pointer (some ⟨rb,0,none⟩))/\w.heap.size<=rb/\
  w'.heap[rb]? =some (.cells (eO seed (List.replicate 64 0) W 0 0 0).toArray 237 (0,0))/\Below w.heap.size w w':=by
 have hmax:max (W:Int) 1=(W:Int):=by omega
 have hmin:min (W:Int) 64=(W:Int):=by omega
 go_enter Tryz.func199,Tryz.ntmps199
 go_wp2_with fail;obtain⟨w1,hw1⟩: ∃w1,w1=w.alloc (.cells (Tryz.zeroCells237.setIfInBounds 320 (.int .i64 (W:Int))) 237):=⟨_,rfl⟩;rw[<-hw1];have HX1:=ab (show w1.heap[w.heap.size]? =some (.cells (ko W).toArray 237 (0,0)) by rw[hw1,heap_alloc_new,show Tryz.zeroCells237.setIfInBounds 320 (.int .i64 (W:Int))=(ko W).toArray by kernel_rfl]);have HB1:=ab (show Below w.heap.size w w1 by rw[hw1]; exact(Below.refl _ _).alloc (Nat.le_refl _) _)
 clear hw1 hmax hmin;refine cH (fun _=>True) (by kernel_rfl) ?_;obtain⟨V,hV⟩: ∃V:World,V=w1.drew:=⟨_,rfl⟩;rw[<-hV];have HXV:=ab (show V.heap[w.heap.size]? =some (.cells (ko W).toArray 237 (0,0)) by rw[hV]; exact HX1.out);have HBV:=ab (show Below w.heap.size w V by rw[hV]; exact HB1.out.trans (Below.refl _ _).drew);clear hV;refine af 0 rfl (by kernel_rfl) (by kernel_rfl) (by kernel_rfl) (fun _ _ _ h=>h) rfl trivial (by intro w' hw1; go_simp; rfl) ?_
 simp only[Act.put,aB,aC,aD];refine af 1 rfl (by kernel_rfl) (by kernel_rfl) (by kernel_rfl) (fun _ _ _ h=>h) rfl trivial (by intro w' hw1; go_simp; rfl) ?_;simp only[Act.put,aB,aC,aD];refine af 2 rfl (by kernel_rfl) (by kernel_rfl) (by kernel_rfl) (fun _ _ _ h=>h) rfl trivial (by intro w' hw1; go_simp; rfl) ?_;simp only[Act.put,aB,aC,aD];refine af 3 rfl (by kernel_rfl) (by kernel_rfl) (by kernel_rfl) (fun _ _ _ h=>h) rfl trivial (by intro w' hw1; go_simp; rfl) ?_
 simp only[Act.put,aB,aC,aD];refine af 4 rfl (by kernel_rfl) (by kernel_rfl) (by kernel_rfl) (fun _ _ _ h=>h) rfl trivial (by intro w' hw1; go_simp; rfl) ?_;simp only[Act.put,aB,aC,aD];refine ar 5 rfl (by kernel_rfl) rfl (fun K hK=> ?_);go_wp2_with fail;refine(AM seed V).mono ?_;rintro e w2 ⟨rfl,ht⟩;have HTF:=ab ht.full;have HB2:=ab (ah HBV.out ht.below)
 have HX2:=ab ((ht.below.block _ (lt_of_block HXV.out)).trans HXV.out);have HLT:=ab (lt_of_block HXV.out);clear ht;go_wp2_with fail
 try refine⟨trivial, ?_⟩
 refine ar 6 rfl (by kernel_rfl) rfl (fun K hK=> ?_);have HSRC:=ab (show ∀j v,(mC seed)[j]? =some v->w2.cell? ((⟨V.heap.size,0,none⟩:Addr).add j)=some v from fun j v hj=>by rw[Addr.add_mid,Nat.zero_add,cell_of_row w2 _ _ _ _ _ HTF.out,List.getElem?_toArray]; exact hj);have HFIT:=ab (show 0+(mC seed).length<=(ko W).toArray.size by rw[lX,List.size_toArray]; simp[ko])
 have HONE:=ab (show ∀v∈mC seed,v.oneCell'=true from fun v hv=>by obtain⟨x,_,rfl⟩:=List.mem_map.1 hv; rfl);go_wp2_with (refine wpList_copy_own rfl _ _ 262 262 rfl 43 Tryz.underlying262 (by kernel_rfl) w.heap.size 0 256 256 ⟨V.heap.size,0,none⟩ 256 256 rfl rfl (ko W).toArray 237 HX2.out (mC seed) rfl HSRC.out HFIT.out HONE.out ?_);simp only[Act.put,aB,aC,aD];obtain⟨w3,hw3⟩: ∃w3,w3=w2.setRow w.heap.size (List.take 0 (ko W)++(mC seed++List.drop (0+(mC seed).length) (ko W))).toArray:=⟨_,rfl⟩
 have HX3:=ab (show w3.heap[w.heap.size]? =some (.cells (eO seed (List.replicate 64 0) W 0 0 0).toArray 237 (0,0)) by
  rw[hw3,setRow_heap w2 _ _ _ _ _ HX2.out,List.take_zero,List.nil_append,Nat.zero_add,lX]
  congr 3)
 have HB3:=ab (show Below w.heap.size w w3 by rw[hw3]; exact below_setRow HB2.out (Nat.le_refl _) _);refine⟨trivial, ?_⟩;refine aV (by kernel_rfl) ?_
 change Exit.then _ _ _ _ (w2.setRow w.heap.size (List.take 0 (ko W)++(mC seed++List.drop (0+(mC seed).length) (ko W))).toArray)
 rw[<-hw3];clear hw3;go_wp2_with fail;go_ret;exact⟨_,rfl,Nat.le_refl _,HX3.out,HB3.out⟩
end Go.Proofs.YtpffpjbkbaleiaaGreatDoor
