/- Texts of this proof, one after the other: EncA, RNumP, RNum, EncB, EncC, Read, ReadB, Rdr, RdrB, RdrC, RItemP, RItems, Codec, CompP, CodecB, SealA, SealB, RollP, ChkP, RollA, RollB, MarkA. -/
import Derived.Test.YtpffpjbkbaleiaaGreatDoorCNeedsB
set_option maxRecDepth 100000
set_option maxHeartbeats 8000000
namespace Go.Proofs.YtpffpjbkbaleiaaGreatDoor
open Go.RowKit
def eV :Nat->Nat->List UInt8
 | 0,n=>[UInt8.ofNat n]
 | f+1,n=>if 127<n then UInt8.ofNat (n%128+128)::eV f (n/128)else [UInt8.ofNat n]
def aP (n:Nat):List UInt8:=eV 10 n
theorem vE : ∀(f n:Nat),(eV f n).length<=f+1
 | 0,_=>by simp[eV]
 | f+1,n=>by
  rw[eV]
  split
  ·have:=vE f (n/128); simp; omega
  ·simp
theorem cD (n:Nat):(aP n).length<=11:=vE 10 n
def BA (bs:List UInt8) (w:World) (e:Ending) (w':World):Prop:= ∃v,e= .returned v/\aD (w.heap.size<= ·) w' v bs/\Below w.heap.size w w'
theorem iP {n:Nat} (h:n<256):au (UInt8.ofNat n)= .int .u8 (n:Int):=by
 unfold au; rw[UInt8.toNat_ofNat_of_lt' (by exact h)]
theorem uy (b:UInt8): ∀u∈[au b],u.oneCell'=true:=by simp[au,Value.oneCell']
theorem qx (n:Nat) (w:World) (hn:n<18446744073709551616):Calls Tryz.prog 103 #[.int .u64 (n:Int)] w (BA (aP n) w):=by
 have HO:=ab (World.ownsRow_lit (e:=5) (size:=1) (base:=w.heap.size) w #[] 0 (Nat.le_refl _) (Nat.zero_le _) (by simp));have HB:=ab ((Below.refl w.heap.size w).alloc (Nat.le_refl _) (.cells #[] 5))
 go_enter Tryz.func103,Tryz.ntmps103
 go_wp2_with fail
 go_loopw [0,3] (fun x o wr=> ∃(f m:Nat) (acc:List UInt8),x= .int .u64 (m:Int)/\m<18446744073709551616/\m<2^(7*f)/\acc++eV f m=aP n/\wr.ownsRow w.heap.size 5 1 o acc.length (acc.map au)/\acc.length<=20/\Below w.heap.size w wr) (fun x _ _=>(intOf x).toNat)
 case atStart=>exact⟨10,n,[],rfl,hn,Nat.lt_trans hn (by decide),rfl,HO.out,by simp,HB.out⟩
 case round=>
  obtain⟨f,m,acc,rfl,hm,hmf,henc,hown,hal,hb⟩:=hrel;have HE:=ab henc;have HO2:=ab hown;have HB2:=ab hb;have HMF:=ab hmf;have hbz:=hb.size;obtain⟨ao,co,rfl,h1,h2⟩:=aj hown;clear henc hown hb hmf HO HB
  by_cases hlt:127<m
  ·have hv:Value.int .u8 ((m:Int)%128+128)=au (UInt8.ofNat (m%128+128)):=by rw[iP (by omega)]; simp
   have HV:=ab hv;obtain⟨f,rfl⟩: ∃g,f=g+1:=⟨f-1,by
    cases f with
    | zero=>have:=HMF.out; simp at this; omega
    | succ g=>rfl⟩
   have HE2:=ab (show(acc++[UInt8.ofNat (m%128+128)])++eV f (m/128)=aP n by rw[<-HE.out,eV,if_pos hlt]; simp);have HMF2:=ab (show m/128<2^(7*f) by
    have h3:=HMF.out;rw[show 7*(f+1)=7*f+7 by omega,Nat.pow_add]at h3;exact Nat.div_lt_of_lt_mul (by omega))
   have hal2:acc.length<=10:=by
    have h4:=cD n;rw[<-HE.out,List.length_append,eV,if_pos hlt,List.length_cons]at h4;omega
   clear hv;go_wp2_with (at_builtin; go_must (refine ir Tryz.appBytes rfl _ _ rfl w.heap.size (.slice ao acc.length co) acc.length (acc.map au) rfl wr [.int .u8 ((m:Int)%128+128)] _ rfl rfl (by rw[HV.out]; exact uy _) HO2.out (by omega) hbz ?_); intro v' wc hown' hgrow' _; have HB3:=ab (cJ HB2.out HO2.out hgrow' (Nat.le_refl _) hbz); have HO3:=ab (show wc.ownsRow w.heap.size 5 1 v' (acc++[UInt8.ofNat (m%128+128)]).length ((acc++[UInt8.ofNat (m%128+128)]).map au) by rw[List.length_append,List.map_append,List.map_cons,List.map_nil,<-HV.out]; exact hown'); obtain⟨ae,ce,rfl,-,-⟩:=aj hown'; clear hown' hgrow')
   go_roundw
   case rel=>exact⟨f,m/128,acc++[UInt8.ofNat (m%128+128)],by simp,by omega,HMF2.out,HE2.out,HO3.out,by simp; omega,HB3.out⟩
   case measure=>simp[intOf]; omega
  ·have hv:Value.int .u8 (m:Int)=au (UInt8.ofNat m):=by rw[iP (by omega)]
   have HV:=ab hv;have HE2:=ab (show acc++[UInt8.ofNat m]=aP n by
    rw[<-HE.out]
    cases f with
    | zero=>rfl
    | succ f=>rw[eV,if_neg hlt])
   clear hv;go_wp2_with (at_builtin; go_must (refine ir Tryz.appBytes rfl _ _ rfl w.heap.size (.slice ao acc.length co) acc.length (acc.map au) rfl wr [.int .u8 (m:Int)] _ rfl rfl (by rw[HV.out]; exact uy _) HO2.out (by omega) hbz ?_); intro v' wc hown' hgrow' _; have HB3:=ab (cJ HB2.out HO2.out hgrow' (Nat.le_refl _) hbz); have HO3:=ab (show wc.ownsRow w.heap.size 5 1 v' (acc++[UInt8.ofNat m]).length ((acc++[UInt8.ofNat m]).map au) by rw[List.length_append,List.map_append,List.map_cons,List.map_nil,<-HV.out]; exact hown'); obtain⟨ae,ce,rfl,-,-⟩:=aj hown'; clear hown' hgrow')
   go_ret;rw[<-HE2.out];exact⟨_,rfl,(bq HO3.out).weak (fun k hk=>hk.1),HB3.out⟩
def eH :List UInt8->Nat
 | []=>0
 | b::l=>b.toNat%128+128*eH l
def gQ (l:List UInt8):Nat:=eH l%18446744073709551616
def gO (data:List UInt8) (off:Nat):Nat->Nat->Except Int (Nat×Nat)
 | 0,_=> .error 3
 | f+1,k=>match data[off+k]? with
  | none=> .error 3
  | some b=>if 128<=b.toNat then gO data off f (k+1)
   else if aP (gQ ((data.drop off).take (k+1)))=(data.drop off).take (k+1)then .ok (gQ ((data.drop off).take (k+1)),off+k+1)else .error 3
theorem tU : ∀l:List UInt8,eH l<2^(7*l.length)
 | []=>by simp[eH]
 | b::l=>by
  have:=tU l;rw[eH,List.length_cons,show 7*(l.length+1)=7*l.length+7 by omega,Nat.pow_add];omega
theorem mQ : ∀(l:List UInt8) (b:UInt8),eH (l++[b])=eH l+b.toNat%128*2^(7*l.length)
 | [],b=>by simp[eH]
 | c::l,b=>by
  rw[List.cons_append,eH,mQ l b,eH,List.length_cons,show 7*(l.length+1)=7*l.length+7 by omega,Nat.pow_add,Nat.mul_add];have:128*(b.toNat%128*2^(7*l.length))=b.toNat%128*(2^(7*l.length)*2^7):=by
   rw[Nat.mul_left_comm,Nat.mul_comm 128]
  omega
theorem Bq (b:UInt8) (l:List UInt8):gQ (b::l)=(gQ l*128%18446744073709551616+b.toNat%128)%18446744073709551616:=by
 unfold gQ; rw[eH]; omega
theorem wB : ∀(f n:Nat),n<2^(7*(f+1))->eH (eV f n)=n
 | 0,n,h=>by
  have h1:n<128:=h;rw[eV,eH,eH,UInt8.toNat_ofNat_of_lt' (by show n<256; omega)]; omega
 | f+1,n,h=>by
  rw[eV]
  split
  ·rw[eH,wB f (n/128) (by
    rw[show 7*(f+1+1)=7*(f+1)+7 by omega,Nat.pow_add]at h;exact Nat.div_lt_of_lt_mul (by omega)),UInt8.toNat_ofNat_of_lt' (by show _<256; omega)]
   omega
  ·rw[eH,eH,UInt8.toNat_ofNat_of_lt' (by show n<256; omega)]; omega
theorem vo : ∀(f n:Nat) (c:UInt8) (l:List UInt8),0<n->n<2^(7*(f+1))->eV f n=l++[c]->c.toNat≠0
 | 0,n,c,l,h0,h,he=>by
  have h1:n<128:=h;rw[eV]at he;have:c=UInt8.ofNat n:=by
   have:=congrArg List.getLast? he
   simpa using this.symm
  rw[this,UInt8.toNat_ofNat_of_lt' (by show n<256; omega)]; omega
 | f+1,n,c,l,h0,h,he=>by
  rw[eV]at he
  split at he
  ·cases l with
   | nil=>
    simp only[List.nil_append,List.cons.injEq]at he;have:=congrArg List.length he.2;have h3:(eV f (n/128)).length≠0:=by cases f<;> (rw[eV]; try split)<;> simp
    simp at this; exact absurd (by simp[this]) h3
   | cons d l=>
    simp only[List.cons_append,List.cons.injEq]at he;exact vo f (n/128) c l (by omega) (by
     rw[show 7*(f+1+1)=7*(f+1)+7 by omega,Nat.pow_add]at h;exact Nat.div_lt_of_lt_mul (by omega)) he.2
  ·have:c=UInt8.ofNat n:=by
    have:=congrArg List.getLast? he
    simpa using this.symm
   rw[this,UInt8.toNat_ofNat_of_lt' (by show n<256; omega)]; omega
theorem yS : ∀(f:Nat) (l:List UInt8) (c:UInt8),(∀b∈l,128<=b.toNat)->c.toNat<128->(l≠[]->c.toNat≠0)->l.length<=f->eV f (eH (l++[c]))=l++[c]
 | f,[],c,_,h2,_,_=>by
  have hv:eH ([]++[c])=c.toNat:=by simp[eH]; omega
  rw[hv];have hc:UInt8.ofNat c.toNat=c:=UInt8.ofNat_toNat
  cases f with
  | zero=>rw[eV,hc]; rfl
  | succ f=>rw[eV,if_neg (by omega),hc]; rfl
 | 0,b::l,c,_,_,_,h4=>by simp at h4
 | f+1,b::l,c,h1,h2,h3,h4=>by
  have hb:=h1 b (by simp);have hb8:=b.toNat_lt;have hr:=yS f l c (fun x hx=>h1 x (by simp[hx])) h2 (fun _=>h3 (by simp)) (by simpa using h4);have hp:0<eH (l++[c]):=by
   rw[mQ];have hc:=h3 (by simp);have:0<c.toNat%128*2^(7*l.length):=Nat.mul_pos (by omega) (Nat.two_pow_pos _);omega
  rw[List.cons_append,eV,eH,if_pos (by omega),show(b.toNat%128+128*eH (l++[c]))/128=eH (l++[c]) by omega,hr,
   show(b.toNat%128+128*eH (l++[c]))%128+128=b.toNat by omega,UInt8.ofNat_toNat]
theorem CX (m x k:Nat) (h:m<2^k):m ||| (x*2^k)=m+x*2^k:=by
 rw[Nat.or_comm,Nat.mul_comm,<-Nat.two_pow_add_eq_or_of_lt h,Nat.add_comm]
theorem CS (m:Nat) (b:UInt8) (k:Nat) (hk:k<=9) (h:m<2^(7*k)):qH m b k=(m+b.toNat%128*2^(7*k))%18446744073709551616:=by
 unfold qH;have hb:b.toNat%128<128:=by omega
 generalize b.toNat%128=x at hb
 by_cases h9:k=9
 ·subst h9;have e:x*2^(7*9)%18446744073709551616=x%2*2^(7*9):=by
   simp only[Nat.reduceMul,Nat.reducePow]; omega
  rw[e,CX _ _ _ h];simp only[Nat.reduceMul,Nat.reducePow]at *;omega
 ·have hp:2^(7*k)*128<=18446744073709551616:=by
   rw[show(128:Nat)=2^7 from rfl,show(18446744073709551616:Nat)=2^64 from rfl,<-Nat.pow_add];exact Nat.pow_le_pow_right (by omega) (by omega)
  have hx:x*2^(7*k)+2^(7*k)<=2^(7*k)*128:=by
   rw[Nat.mul_comm (2^(7*k)),<-Nat.succ_mul]; exact Nat.mul_le_mul_right _ (by omega)
  rw[Nat.mod_eq_of_lt (by omega),CX _ _ _ h,Nat.mod_eq_of_lt (by omega)]
theorem vH (data:List UInt8) (off:Nat): ∀(f k:Nat),k+f=10->(∀b∈(data.drop off).take k,128<=b.toNat)->off+k<=data.length->
  iE data f k (off+k) (eH ((data.drop off).take k))=gO data off f k
 | 0,_,_,_,_=>rfl
 | f+1,k,hk,hp,hle=>by
  rw[iE,gO]
  cases hd:data[off+k]? with
  | none=>rfl
  | some b=>
   have hb8:=b.toNat_lt;have hlt:off+k<data.length:=(List.getElem?_eq_some_iff.1 hd).1;have hlen:((data.drop off).take k).length=k:=by simp; omega
   have htk:(data.drop off).take (k+1)=(data.drop off).take k++[b]:=by
    rw[List.take_add_one,List.getElem?_drop,hd]; rfl
   have hm:=tU ((data.drop off).take k);rw[hlen]at hm;have hs:=mQ ((data.drop off).take k) b;rw[hlen,<-htk]at hs;have hnn:=CS _ b k (by omega) hm;rw[<-hs]at hnn;simp only
   by_cases h128:128<=b.toNat
   ·rw[if_pos h128,if_pos h128]
    by_cases hf:f=0
    ·subst hf; rfl
    ·have hlt2:eH ((data.drop off).take (k+1))<18446744073709551616:=by
      have:=tU ((data.drop off).take (k+1));refine Nat.lt_of_lt_of_le this ?_;rw[show(18446744073709551616:Nat)=2^64 from rfl];exact Nat.pow_le_pow_right (by omega) (by simp; omega)
     rw[hnn,Nat.mod_eq_of_lt hlt2];have:=vH data off f (k+1) (by omega) (by
      intro x hx;rw[htk,List.mem_append]at hx
      rcases hx with hx | hx
      ·exact hp x hx
      ·simp at hx; subst hx; exact h128) (by omega)
     exact this
   ·rw[if_neg h128,if_neg h128,hnn];have hval:gQ ((data.drop off).take (k+1))=eH ((data.drop off).take (k+1))%18446744073709551616:=rfl;have hvl:gQ ((data.drop off).take (k+1))<2^(7*(10+1)):=by rw[hval]; exact Nat.lt_trans (Nat.mod_lt _ (by decide)) (by decide)
    by_cases hbad:iD b k=true
    ·rw[if_pos hbad,if_neg];intro he;have h1:=wB 10 _ hvl;rw[show eV 10 _=_ from he]at h1;simp only[iD,Bool.or_eq_true,Bool.and_eq_true,decide_eq_true_eq]at hbad
     rcases hbad with⟨h2,h3⟩ | ⟨h2,h3⟩
     ·have hpos:0<eH ((data.drop off).take (k+1))%18446744073709551616:=by
       rcases Nat.eq_zero_or_pos (eH ((data.drop off).take (k+1))%18446744073709551616)with h0 | h0
       ·exfalso
        rw[hval,h0]at he;have:=congrArg List.length he;simp[aP,eV]at this;omega
       ·exact h0
      exact vo 10 _ b ((data.drop off).take k) (by rw[hval]; exact hpos) hvl (by rw[<-htk]; exact he) h3
     ·subst h2;rw[hs]at h1;have h5:gQ ((data.drop off).take (9+1))<18446744073709551616:=by rw[hval]; exact Nat.mod_lt _ (by decide)
      rw[<-h1]at h5;simp only[Nat.reduceMul,Nat.reducePow]at h5;omega
    ·rw[if_neg hbad];have hbad':iD b k=false:=by simpa using hbad
     simp only[iD,Bool.or_eq_false_iff,Bool.and_eq_false_iff,decide_eq_false_iff_not]at hbad';have hsm:eH ((data.drop off).take (k+1))<18446744073709551616:=by
      rw[hs]
      by_cases h9:k=9
      ·subst h9;have: ¬1<b.toNat:=hbad'.2.elim (fun h=>absurd rfl h) id;simp only[Nat.reduceMul,Nat.reducePow]at hm ⊢;omega
      ·have hp:2^(7*k)*128<=18446744073709551616:=by
        rw[show(128:Nat)=2^7 from rfl,show(18446744073709551616:Nat)=2^64 from rfl,<-Nat.pow_add];exact Nat.pow_le_pow_right (by omega) (by omega)
       have hx:b.toNat%128*2^(7*k)+2^(7*k)<=2^(7*k)*128:=by
        rw[Nat.mul_comm (2^(7*k)),<-Nat.succ_mul]; exact Nat.mul_le_mul_right _ (by omega)
       omega
     have hvv:gQ ((data.drop off).take (k+1))=eH ((data.drop off).take (k+1)):=by rw[hval,Nat.mod_eq_of_lt hsm]
     have henc:aP (gQ ((data.drop off).take (k+1)))=(data.drop off).take (k+1):=by
      rw[hvv,htk];refine yS 10 _ b hp (by omega) ?_ (by omega);intro hne;have:0<k:=by
       rcases Nat.eq_zero_or_pos k with h0 | h0
       ·subst h0; simp at hne
       ·exact h0
      rcases hbad'.1 with h | h
      ·exact absurd this h
      ·exact h
     rw[if_pos henc,Nat.mod_eq_of_lt hsm,hvv]
theorem CQ (data:List UInt8) (off:Nat) (h:off<=data.length):eu data off=gO data off 10 0:=by
 have:=vH data off 10 0 rfl (by simp) (by omega)
 simpa [eH,eu]using this
theorem gA {S:Nat->Prop} {w w':World} {a:Option Addr} {n cap:Nat} {l:List UInt8} (hv:aD S w (.slice a n cap) l) (hb:Below w.heap.size w w') {k:Nat} {x:UInt8} (hx:l[k]? =some x): ∃b o,a=some ⟨b,o,none⟩/\w'.cell? ⟨b,o+k,none⟩=some (.int .u8 (x.toNat:Int)):=by
 obtain⟨hl,a',cap',hv',_,_,h0⟩:=hv
 cases hv'
 rcases h0 with h0 | ⟨b,o,rfl,_,hc⟩
 ·simp[List.eq_nil_of_length_eq_zero h0]at hx
 ·have h1:=hc k (au x) (by simp[hx]);exact⟨b,o,rfl,(hb.cell (aR h1)).trans h1⟩
theorem zj (l:List UInt8):gQ l<18446744073709551616:=Nat.mod_lt _ (by decide)
def gw (r:Except Int (Nat×Nat)):Value:=match r with
 | .ok (n,o)=> .tuple #[.int .u64 (n:Int), .int .i64 (o:Int), .bool true]
 | .error _=> .tuple #[.int .u64 0, .int .i64 0, .bool false]
theorem CT {data:List UInt8} {off f k:Nat} {b:UInt8} (h:data[off+k]? =some b) (h1: ¬128<=b.toNat) (h2:aP (gQ ((data.drop off).take (k+1)))≠(data.drop off).take (k+1)):gO data off (f+1) k= .error 3:=by
 rw[gO,h]; simp only[if_neg h1,if_neg h2]
theorem ER {data:List UInt8} {off f k:Nat} {b:UInt8} (h:data[off+k]? =some b) (h1: ¬128<=b.toNat) (h2:aP (gQ ((data.drop off).take (k+1)))=(data.drop off).take (k+1)):gO data off (f+1) k= .ok (gQ ((data.drop off).take (k+1)),off+(k+1)):=by
 rw[gO,h]; simp only[if_neg h1,if_pos h2]; rfl
theorem An {data:List UInt8} {off f k:Nat} {b:UInt8} (h:data[off+k]? =some b) (h1:128<=b.toNat):gO data off (f+1) k=gO data off f (k+1):=by
 rw[gO,h]; simp only[if_pos h1]
theorem CU {data:List UInt8} {off f k:Nat} (h:data.length<=off+k):gO data off f k= .error 3:=by
 cases f with
 | zero=>rfl
 | succ f=>rw[gO,List.getElem?_eq_none h]
theorem wV {α:Type} {l:List α} {j:Nat} {b:α} (h:l[j]? =some b):l.drop j=b::l.drop (j+1):=by
 obtain⟨h1,h2⟩:=List.getElem?_eq_some_iff.1 h;rw[List.drop_eq_getElem_cons h1,h2]
theorem tB (S:Nat->Prop) (v:Value) (data:List UInt8) (off:Nat) (w:World) (hv:aD S w v data) (hoff:off<=data.length) (hsm:data.length<=32768):
  Calls Tryz.prog 144 #[v, .int .i64 (off:Int)] w fun e w'=>e= .returned (gw (gO data off 10 0))/\Below w.heap.size w w':=by
 have HV:=ab hv;obtain⟨_,a,cap,rfl,hc,hm,-⟩:=hv;unfold maxLen at hm
 go_enter Tryz.func144,Tryz.ntmps144
 go_wp2_with fail
 go_loopw [7] (fun x wr=> ∃n:Nat,1<=n/\n<=11/\x= .int .i64 (n:Int)/\gO data off 10 0=gO data off (11-n) (n-1)/\Below w.heap.size w wr) (fun x _=>11-(intOf x).toNat)
 case atStart=>exact⟨1,by omega,by omega,rfl,rfl,Below.refl _ _⟩
 case round=>
  obtain⟨n,hn1,hn2,rfl,hn,hb⟩:=hrel;have HN:=ab hn;have HB:=ab hb;clear hn hb
  by_cases h10:n<=10
  ·by_cases hl:off+n<=data.length
   ·obtain⟨x,hx⟩: ∃x,data[off+n-1]? =some x:=⟨data[off+n-1]'(by omega),by simp⟩;have hx8:=x.toNat_lt;have HX:=ab (show data[off+(n-1)]? =some x by rw[<-hx]; congr 1; omega);obtain⟨b,o,rfl,q0⟩:=gA HV.out HB.out hx;clear hx
    by_cases h128:128<=x.toNat
    ·have HT:=ab (show gO data off 10 0=gO data off (11-(n+1)) (n+1-1) by
      rw[HN.out,show 11-n=(10-n)+1 by omega,An HX.out h128]; congr 1<;> omega)
     go_wp2_with fail
     go_roundw
     case rel=>exact⟨n+1,by omega,by omega,by go_num,HT.out,HB.out⟩
     case measure=>simp[intOf]; omega
    ·obtain⟨bs,hbs⟩: ∃bs,bs=(data.drop off).take n:=⟨_,rfl⟩;have hbl:bs.length=n:=by rw[hbs]; simp; omega
     have HBL:=ab hbl;have HBI:=ab (show ∀j,j<n->bs[j]? =data[off+j]? by intro j hj; rw[hbs,List.getElem?_take,if_pos hj,List.getElem?_drop]);have HBAD:=ab (show aP (gQ bs)≠bs->gO data off 10 0= .error 3 by
      intro hne;rw[HN.out,show 11-n=(10-n)+1 by omega];refine CT HX.out h128 ?_;rw[show n-1+1=n by omega,<-hbs]; exact hne)
     have HGOOD:=ab (show aP (gQ bs)=bs->gO data off 10 0= .ok (gQ bs,off+n) by
      intro he;rw[HN.out,show 11-n=(10-n)+1 by omega,ER HX.out h128 (by rw[show n-1+1=n by omega,<-hbs]; exact he),show n-1+1=n by omega,<-hbs])
     clear hbs hbl;go_wp2_with fail;clear q0
     go_loopw [8,9] (fun y z wr'=> ∃(j:Nat) (i:Int),j<=n/\z= .int .i64 i/\i=(j:Int)-1/\y= .int .u64 (gQ (bs.drop j):Int)/\Below w.heap.size w wr') (fun _ z _=>(intOf z+1).toNat)
     case atStart=>exact⟨n,(n:Int)-1,Nat.le_refl _,rfl,rfl,by rw[List.drop_of_length_le (by rw[HBL.out]; exact Nat.le_refl _)]; rfl,HB.out⟩
     case round=>
      obtain⟨j,i,hj,rfl,hi,rfl,hb2⟩:=hrel;have HB2:=ab hb2;clear hb2
      by_cases hj0:j=0
      ·obtain rfl:i= -1:=by omega
       have hdr:bs.drop j=bs:=by rw[hj0]; rfl
       rw[hdr];obtain⟨V,hV⟩: ∃V,V=gQ bs:=⟨_,rfl⟩;rw[<-hV];have hVl:V<18446744073709551616:=by rw[hV]; exact zj _
       have HVV:=ab hV;clear hV hdr hi hj0;go_wp2_with (go_at_call 103; refine(qx V _ hVl).mono ?_; rintro e w1 ⟨nv,rfl,hnv,hb3⟩);have HB3:=ab (ag HB2.out hb3);have HVV2:=HVV.out;rw[<-HVV2]at HBAD HGOOD;clear HVV2 hb3;have HNV:=ab hnv;have hel:=cD V;obtain⟨en,hen⟩: ∃en,en=aP V:=⟨_,rfl⟩;rw[<-hen]at HNV hel HBAD HGOOD hnv;obtain⟨_,na,nc,rfl,hnn1,hnn2,-⟩:=hnv
       unfold maxLen at hnn2;clear hen
       by_cases hl2:en.length=n
       ·have HL2:=ab hl2;rw[hl2]at HNV hnn1 ⊢;clear hl2 hel;go_wp2_with fail
        go_simp
        go_wp2_with fail
        go_loopw [11] (fun z wr'=> ∃j:Nat,j<=n/\z= .int .i64 (j:Int)/\en.take j=bs.take j/\Below w1.heap.size w1 wr') (fun z _=>n-(intOf z).toNat)
        case atStart=>exact⟨0,by omega,rfl,by simp,Below.refl _ _⟩
        case round=>
         obtain⟨j,hj2,rfl,hjt,hb4⟩:=hrel;have HJT:=ab hjt;have HB4:=ab hb4;clear hjt hb4
         by_cases hjn:j<n
         ·obtain⟨c,hc1⟩: ∃c,en[j]? =some c:=⟨en[j]'(by rw[HL2.out]; omega),by simp⟩;obtain⟨y,hy⟩: ∃y,data[off+j]? =some y:=⟨data[off+j]'(by omega),by simp⟩;have HY:=ab (show bs[j]? =some y by rw[HBI.out j hjn]; exact hy);have HC:=ab hc1;have hy8:=y.toNat_lt;have hc8:=c.toNat_lt;obtain⟨W,hW⟩: ∃W:World,W=wr.drew:=⟨_,rfl⟩;have HBW:=ab (show Below w1.heap.size w1 W by rw[hW]; exact HB4.out.drew)
          have HBX:=ab (ag HB3.out HBW.out);obtain⟨b5,o5,hbo5,q0⟩:=gA HV.out HBX.out hy
          cases hbo5
          obtain⟨b6,o6,rfl,q1⟩:=gA HNV.out HBW.out hc1;obtain⟨oj,hoj⟩: ∃oj:Nat,oj=off+j:=⟨_,rfl⟩;have hoj2:oj<data.length:=by omega
          have hwr:IntKind.i64.wrap (oj:Int)=(oj:Int):=IntWalk.i64_in _ (by omega);have hwr2:(off:Int)+(j:Int)=(oj:Int):=by omega
          rw[<-hoj]at q0;clear hoj;clear hc1 hy
          by_cases hm2:c=y
          ·have e1:((c.toNat:Int) != (y.toNat:Int))=false:=by simp[hm2]
           have HT:=ab (show en.take (j+1)=bs.take (j+1) by rw[bh HC.out,bh HY.out,HJT.out,hm2]);clear hm2;go_wp2_with fail;refine am [some 11] (by kernel_rfl) (by kernel_rfl) (by kernel_rfl) ?_;simp only[aZ,List.take_succ_cons,List.take_zero];rw[<-hW];clear hW
           repeat (first | (refine aw rfl ?_; simp only[Act.put,aA,aB,aC]) | (refine aJ rfl (fun K hK=> ?_); go_simp; refine hK _ ?_; clear hK K))
           refine aI ?_;go_wp2_with fail
           go_roundw
           case rel=>exact⟨j+1,by omega,by go_num,HT.out,HBW.out⟩
           case measure=>simp[intOf]; omega
          ·have e1:((c.toNat:Int) != (y.toNat:Int))=true:=by
            simp only[bne_iff_ne,ne_eq]; intro e; exact hm2 (UInt8.toNat_inj.1 (by omega))
           have HT:=ab (HBAD.out (by
            intro e;have h1:=HC.out;rw[e,HY.out]at h1;exact hm2 (Option.some.inj h1).symm))
           clear hm2;go_wp2_with fail;refine am [some 11] (by kernel_rfl) (by kernel_rfl) (by kernel_rfl) ?_;simp only[aZ,List.take_succ_cons,List.take_zero];rw[<-hW];clear hW
           repeat (first | (refine aw rfl ?_; simp only[Act.put,aA,aB,aC]) | (refine aJ rfl (fun K hK=> ?_); go_simp; refine hK _ ?_; clear hK K))
           refine aI ?_;go_wp2_with fail
           (go_ret3; exact⟨by rw[HT.out]; rfl,HBX.out⟩)
         ·obtain rfl:j=n:=by omega
          have HT:=ab (HGOOD.out (by
           have:=HJT.out
           rwa [List.take_of_length_le (by rw[HL2.out]; exact Nat.le_refl _),List.take_of_length_le (by rw[HBL.out]; exact Nat.le_refl _)]at this))
          go_wp2_with fail
          (go_ret3; exact⟨by rw[HT.out]; rfl,ag HB3.out HB4.out⟩)
       ·have HT:=ab (HBAD.out (by intro e; exact hl2 (by rw[e]; exact HBL.out)));have e1:((en.length:Int) != (n:Int))=true:=by simp; omega
        clear hl2;go_wp2_with fail
        go_simp
        go_wp2_with fail
        (go_ret3; exact⟨by rw[HT.out]; rfl,HB3.out⟩)
      ·obtain⟨j,rfl⟩: ∃j',j=j'+1:=⟨j-1,by omega⟩;obtain rfl:i=(j:Int):=by omega
       obtain⟨y,hy⟩: ∃y,data[off+j]? =some y:=⟨data[off+j]'(by omega),by simp⟩;have hy8:=y.toNat_lt;have HT:=ab (show gQ (bs.drop j)=(gQ (bs.drop (j+1))*128%18446744073709551616+y.toNat%128)%18446744073709551616 by
        rw[wV (l:=bs) (b:=y) (by rw[HBI.out j (by omega)]; exact hy),Bq])
       obtain⟨b3,o3,hbo,q0⟩:=gA HV.out HB2.out hy
       cases hbo
       obtain⟨V,hV⟩: ∃V,V=gQ (bs.drop (j+1)):=⟨_,rfl⟩;have hVl:V<18446744073709551616:=by rw[hV]; exact zj _
       rw[<-hV]at HT ⊢;clear hy hi hV;go_wp2_with fail
       go_roundw
       case rel=>exact⟨j,(j:Int)-1,by omega,by rfl,by omega,by rw[HT.out]; simp only[IntKind.wrap_u64]; congr 1,HB2.out⟩
       case measure=>simp[intOf]
   ·have HT:=ab (show gO data off 10 0= .error 3 by rw[HN.out]; exact CU (by omega));go_wp2_with fail
    (go_ret3; exact⟨by rw[HT.out]; rfl,HB.out⟩)
  ·have HT:=ab (show gO data off 10 0= .error 3 by rw[HN.out,show 11-n=0 by omega]; rfl);go_wp2_with fail
   (go_ret3; exact⟨by rw[HT.out]; rfl,HB.out⟩)
structure jg where
 kind:Int
 u:Nat
 n:Int
 b:Bool
 s:ByteArray
 most:Int
theorem wt (s:ByteArray):Lib.strCells s=(bl s).map au:=rfl
theorem kR {ops:Array Oper} {rest:List Oper} {o:Oper} {a:Act} {Q:Exit->Act->World->Prop} {w:World} (hgd:o.guard=none) (sl x:Operand)
  (ho:o.op= .call {callee:= .builtin .append,args:= #[sl,x],argTypes:= #[29,9]}) (base:Nat) (v:Value) (acc:List UInt8) (hs:a.eval sl=v) (hown:w.ownsRow base 5 1 v acc.length (acc.map au)) (s:ByteArray) (hx:a.eval x= .string s)
  (hn:acc.length+s.size<1099511627775) (hbase:base<=w.heap.size)
  (h: ∀v' w',w'.ownsRow base 5 1 v' (acc.length+s.size) (acc.map au++(bl s).map au)->w.grownBy w' v.ownBlock->wpList Tryz.prog ops Q rest (a.put o.dst v') w'):wpList Tryz.prog ops Q (o::rest) a w:=by
 obtain⟨ht,⟨i,z,h11,h12,h13,h14,h15⟩,hpos,hsm⟩:=Tryz.appBytes;have hz:i.zero=some (.int .u8 0):=by
  have:(Tryz.prog.info? 5).map (fun i=>i.zero)=some (some (.int .u8 0)):=by kernel_rfl
  rw[h11]at this;exact Option.some.inj this
 refine Lib.wpList_append_own_string w hgd sl x 29 9 ho base 5 i ht Tryz.underlying9 h11 hz h13 h14 v acc.length _ hs hown s hx (by unfold maxLen; omega) (by omega) hbase fun v' w' h1 h2 _=>h v' w' ?_ h2
 rw[<-wt];exact h1
def rvV (x:jg):Value:= .agg #[.int .i64 x.kind, .int .u64 (x.u:Int), .int .i64 x.n, .bool x.b, .string x.s, .int .i64 x.most]
theorem wrap_u64 (n:Int):IntKind.u64.wrap n=((n%18446744073709551616).toNat:Int):=by rw[IntKind.wrap_u64]; omega
def lF {α:Type} (z:jg) (val:α->jg) (off:Nat) (r:Except Int (α×Nat)) (w:World) (e:Ending) (w':World):Prop:=
 (match r with
  | .ok (x,o)=>e= .returned (.tuple #[rvV (val x), .int .i64 (o:Int), .int .i64 0])
  | .error y=>e= .returned (.tuple #[rvV z, .int .i64 (off:Int), .int .i64 y]))/\Below w.heap.size w w'
theorem dj (S:Nat->Prop) (v:Value) (data:List UInt8) (off:Nat) (w:World) (hv:aD S w v data) (hoff:off<=data.length) (hsm:data.length<=32768) (r:Except Int (Nat×Nat)) (hr:eu data off=r):
  Calls Tryz.prog 144 #[v, .int .i64 (off:Int)] w fun e w'=>e= .returned (gw r)/\Below w.heap.size w w':=by
 rw[<-hr,CQ data off hoff]; exact tB S v data off w hv hoff hsm
theorem bN (w:World) (x:Obj):(w.alloc x).heap[w.heap.size]? =some x:=by show(w.heap.push x)[w.heap.size]? =some x; simp
theorem dl (w:World) (x y:Obj):((w.alloc x).alloc y).heap[w.heap.size+1]? =some y:=by
 have:=bN (w.alloc x) y
 rwa [show(w.alloc x).heap.size=w.heap.size+1 by show(w.heap.push x).size=_; simp]at this
theorem Fh {w:World} {b:Nat} {a0 a1 a2 a3 a4 a5 x0 x1 x2 x3 x4 x5:Value} {t:TypeId} (h:w.heap[b]? =some (.cells #[a0,a1,a2,a3,a4,a5] t (0,0))):
  ((((((w.setCell ⟨b,0,none⟩ x0).setCell ⟨b,1,none⟩ x1).setCell ⟨b,2,none⟩ x2).setCell ⟨b,3,none⟩ x3).setCell ⟨b,4,none⟩ x4).setCell ⟨b,5,none⟩ x5).heap[b]? =some (.cells #[x0,x1,x2,x3,x4,x5] t (0,0)):=
 cI (cI (cI (cI (cI (cI h x0) x1) x2) x3) x4) x5
theorem pT {a:Act} {w:World} {b:Nat} {x0 x1 x2 x3 x4 x5 e9 e10:Value} (h:w.heap[b]? =some (.cells #[x0,x1,x2,x3,x4,x5] 96 (0,0)))
  (h8:a.tmps[8]? =some (.pointer (some ⟨b,0,none⟩))) (h9:a.tmps[9]? =some e9) (h10:a.tmps[10]? =some e10):(results Tryz.f114 a.tmps).run Tryz.prog w= .ok (.tuple #[.agg #[x0,x1,x2,x3,x4,x5],e9,e10]) w:=by
 have m0:=ah (k:=0) h;have m1:=ah (k:=1) h;have m2:=ah (k:=2) h;have m3:=ah (k:=3) h;have m4:=ah (k:=4) h;have m5:=ah (k:=5) h;simp only[aN]at m0 m1 m2 m3 m4 m5;simp[results,Tryz.results114,go_sem,h8,h9,h10,m0,m1,m2,m3,m4,m5]
theorem eP {a:Act} {w:World} {b:Nat} {a0 a1 a2 a3 a4 a5 x0 x1 x2 x3 x4 x5 e9 e10:Value} {Q:Ending->World->Prop} (h:w.heap[b]? =some (.cells #[a0,a1,a2,a3,a4,a5] 96 (0,0)))
  (h8:a.tmps[8]? =some (.pointer (some ⟨b,0,none⟩))) (h9:a.tmps[9]? =some e9) (h10:a.tmps[10]? =some e10) (hd:a.defers=[])
  (hQ:Q (.returned (.tuple #[.agg #[x0,x1,x2,x3,x4,x5],e9,e10])) ((((((w.setCell ⟨b,0,none⟩ x0).setCell ⟨b,1,none⟩ x1).setCell ⟨b,2,none⟩ x2).setCell ⟨b,3,none⟩ x3).setCell ⟨b,4,none⟩ x4).setCell ⟨b,5,none⟩ x5)):
  bodyPost Tryz.prog Tryz.f114 Q Exit.ret a ((((((w.setCell ⟨b,0,none⟩ x0).setCell ⟨b,1,none⟩ x1).setCell ⟨b,2,none⟩ x2).setCell ⟨b,3,none⟩ x3).setCell ⟨b,4,none⟩ x4).setCell ⟨b,5,none⟩ x5):=
 bodyPost_ret (pT (Fh h) h8 h9 h10) hd hQ
theorem bK {B:Nat} {a w:World} {b k:Nat} {x:Value} (h:Below B a w) (hb:B<=b):Below B a (w.setCell ⟨b,k,none⟩ x):=Below.setCell h hb x
theorem Av (S:Nat->Prop) (v:Value) (data:List UInt8) (off:Nat) (w:World) (hv:aD S w v data) (hoff:off<=data.length) (hsm:data.length<=32768):
  Calls Tryz.prog 114 #[v, .int .i64 (off:Int), .int .i64 1, .int .i64 0] w (lF ⟨1,0,0,false,⟨#[]⟩,0⟩ (fun n=>⟨1,n,0,false,⟨#[]⟩,0⟩) off (eu data off) w):=by
 cases hnum:eu data off with
 | error y=>
  obtain rfl:=iY hnum;have HV:=ab hv;obtain⟨_,a,cap,rfl,hc,hm,-⟩:=hv;unfold maxLen at hm
  go_enter Tryz.func114,Tryz.ntmps114
  go_wp2_with fail;obtain⟨W,hW⟩: ∃W:World,W=(w.alloc (.cells #[.int .i64 0, .int .u64 0, .int .i64 0, .bool false, .string ⟨#[]⟩, .int .i64 0] 96)).alloc (.cells #[.int .i64 1, .int .u64 0, .int .i64 0, .bool false, .string ⟨#[]⟩, .int .i64 0] 96):=⟨_,rfl⟩;rw[<-hW];have HB0:=ab (show Below w.heap.size w W by rw[hW]; exact((Below.refl _ _).alloc (Nat.le_refl _) _).alloc (by simp) _)
  have hz8:W.heap[w.heap.size]? =some (.cells #[.int .i64 0, .int .u64 0, .int .i64 0, .bool false, .string ⟨#[]⟩, .int .i64 0] 96 (0,0)):=by rw[hW]; exact cH (bN _ _) _
  have hz11:W.heap[w.heap.size+1]? =some (.cells #[.int .i64 1, .int .u64 0, .int .i64 0, .bool false, .string ⟨#[]⟩, .int .i64 0] 96 (0,0)):=by rw[hW]; exact dl _ _ _
  refine(dj S _ data off W (HV.out.below (Nat.le_refl _) HB0.out) hoff hsm _ hnum).mono ?_;rintro e w1 ⟨he,hb1⟩;simp only[gw]at he;subst he;have HB1:=ab (ag HB0.out hb1);have HX8:=ab ((hb1.block w.heap.size (lt_of_block hz8)).trans hz8);have HX11:=ab ((hb1.block (w.heap.size+1) (lt_of_block hz11)).trans hz11);have HZ1:=ab (lt_of_block hz11);clear hz8 hz11 hW HB0 hb1
  have q0:=ah (k:=0) HX11.out;have q1:=ah (k:=1) HX11.out;have q2:=ah (k:=2) HX11.out;have q3:=ah (k:=3) HX11.out;have q4:=ah (k:=4) HX11.out;have q5:=ah (k:=5) HX11.out;simp only[aN]at q0 q1 q2 q3 q4 q5;have m0:=ah (k:=0) HX8.out;have m1:=ah (k:=1) HX8.out;have m2:=ah (k:=2) HX8.out;have m3:=ah (k:=3) HX8.out;have m4:=ah (k:=4) HX8.out
  have m5:=ah (k:=5) HX8.out;simp only[aN]at m0 m1 m2 m3 m4 m5;have g1:=ai (k:=1) HX11.out;have g2:=ai (k:=2) HX11.out;have g4:=ai (k:=4) HX11.out;have p0:=ai (k:=0) HX8.out;have p1:=ai (k:=1) HX8.out;have p2:=ai (k:=2) HX8.out;have p3:=ai (k:=3) HX8.out;have p4:=ai (k:=4) HX8.out;have p5:=ai (k:=5) HX8.out;go_wp2_with fail
  refine eP (b:=w.heap.size) (e9:= .int .i64 (off:Int)) (e10:= .int .i64 3) (HX8.out) (by kernel_rfl) (by kernel_rfl) (by kernel_rfl) (by kernel_rfl) (And.intro (by exact rfl) ?_)
  repeat refine bK ?_ (by omega)
  exact HB1.out
 | ok p=>
  obtain⟨n,o⟩:=p;have hsp:=ew hnum;have HV:=ab hv;obtain⟨_,a,cap,rfl,hc,hm,-⟩:=hv;unfold maxLen at hm
  go_enter Tryz.func114,Tryz.ntmps114
  go_wp2_with fail;obtain⟨W,hW⟩: ∃W:World,W=(w.alloc (.cells #[.int .i64 0, .int .u64 0, .int .i64 0, .bool false, .string ⟨#[]⟩, .int .i64 0] 96)).alloc (.cells #[.int .i64 1, .int .u64 0, .int .i64 0, .bool false, .string ⟨#[]⟩, .int .i64 0] 96):=⟨_,rfl⟩;rw[<-hW];have HB0:=ab (show Below w.heap.size w W by rw[hW]; exact((Below.refl _ _).alloc (Nat.le_refl _) _).alloc (by simp) _)
  have hz8:W.heap[w.heap.size]? =some (.cells #[.int .i64 0, .int .u64 0, .int .i64 0, .bool false, .string ⟨#[]⟩, .int .i64 0] 96 (0,0)):=by rw[hW]; exact cH (bN _ _) _
  have hz11:W.heap[w.heap.size+1]? =some (.cells #[.int .i64 1, .int .u64 0, .int .i64 0, .bool false, .string ⟨#[]⟩, .int .i64 0] 96 (0,0)):=by rw[hW]; exact dl _ _ _
  refine(dj S _ data off W (HV.out.below (Nat.le_refl _) HB0.out) hoff hsm _ hnum).mono ?_;rintro e w1 ⟨he,hb1⟩;simp only[gw]at he;subst he;have HB1:=ab (ag HB0.out hb1);have HX8:=ab ((hb1.block w.heap.size (lt_of_block hz8)).trans hz8);have HX11:=ab ((hb1.block (w.heap.size+1) (lt_of_block hz11)).trans hz11);have HZ1:=ab (lt_of_block hz11);clear hz8 hz11 hW HB0 hb1
  have q0:=ah (k:=0) HX11.out;have q1:=ah (k:=1) HX11.out;have q2:=ah (k:=2) HX11.out;have q3:=ah (k:=3) HX11.out;have q4:=ah (k:=4) HX11.out;have q5:=ah (k:=5) HX11.out;simp only[aN]at q0 q1 q2 q3 q4 q5;have m0:=ah (k:=0) HX8.out;have m1:=ah (k:=1) HX8.out;have m2:=ah (k:=2) HX8.out;have m3:=ah (k:=3) HX8.out;have m4:=ah (k:=4) HX8.out
  have m5:=ah (k:=5) HX8.out;simp only[aN]at m0 m1 m2 m3 m4 m5;have g1:=ai (k:=1) HX11.out;have g2:=ai (k:=2) HX11.out;have g4:=ai (k:=4) HX11.out;have p0:=ai (k:=0) HX8.out;have p1:=ai (k:=1) HX8.out;have p2:=ai (k:=2) HX8.out;have p3:=ai (k:=3) HX8.out;have p4:=ai (k:=4) HX8.out;have p5:=ai (k:=5) HX8.out;go_wp2_with fail
  refine eP (b:=w.heap.size) (e9:= .int .i64 (o:Int)) (e10:= .int .i64 0) (bn HX8.out (by omega) _) (by kernel_rfl) (by kernel_rfl) (by kernel_rfl) (by kernel_rfl) (And.intro (by exact rfl) ?_)
  repeat refine bK ?_ (by omega)
  exact HB1.out
theorem vp {data:List UInt8} {off most:Nat} {y:Int} (h:eu data off= .error y):dQ data off most= .error y:=by unfold dQ; rw[h]
theorem rP {data:List UInt8} {off most n o:Nat} (h:eu data off= .ok (n,o)) (hn:most<n):dQ data off most= .error 2:=by unfold dQ; rw[h]; simp only[if_pos hn]
theorem yP {data:List UInt8} {off most n o:Nat} (h:eu data off= .ok (n,o)) (hn: ¬most<n):dQ data off most= .ok (n,o):=by unfold dQ; rw[h]; simp only[if_neg hn]
theorem Az (S:Nat->Prop) (v:Value) (data:List UInt8) (off most:Nat) (w:World) (hv:aD S w v data) (hoff:off<=data.length) (hsm:data.length<=32768) (hmost:most<=32768):
  Calls Tryz.prog 114 #[v, .int .i64 (off:Int), .int .i64 7, .int .i64 (most:Int)] w (lF ⟨7,0,0,false,⟨#[]⟩,most⟩ (fun n:Nat=>⟨7,0,(n:Int),false,⟨#[]⟩,most⟩) off (dQ data off most) w):=by
 cases hnum:eu data off with
 | error y=>
  obtain rfl:=iY hnum;rw[vp hnum];have HV:=ab hv;obtain⟨_,a,cap,rfl,hc,hm,-⟩:=hv;unfold maxLen at hm
  go_enter Tryz.func114,Tryz.ntmps114
  go_wp2_with fail;obtain⟨W,hW⟩: ∃W:World,W=(w.alloc (.cells #[.int .i64 0, .int .u64 0, .int .i64 0, .bool false, .string ⟨#[]⟩, .int .i64 0] 96)).alloc (.cells #[.int .i64 7, .int .u64 0, .int .i64 0, .bool false, .string ⟨#[]⟩, .int .i64 (most:Int)] 96):=⟨_,rfl⟩;rw[<-hW];have HB0:=ab (show Below w.heap.size w W by rw[hW]; exact((Below.refl _ _).alloc (Nat.le_refl _) _).alloc (by simp) _)
  have hz8:W.heap[w.heap.size]? =some (.cells #[.int .i64 0, .int .u64 0, .int .i64 0, .bool false, .string ⟨#[]⟩, .int .i64 0] 96 (0,0)):=by rw[hW]; exact cH (bN _ _) _
  have hz11:W.heap[w.heap.size+1]? =some (.cells #[.int .i64 7, .int .u64 0, .int .i64 0, .bool false, .string ⟨#[]⟩, .int .i64 (most:Int)] 96 (0,0)):=by rw[hW]; exact dl _ _ _
  refine(dj S _ data off W (HV.out.below (Nat.le_refl _) HB0.out) hoff hsm _ hnum).mono ?_;rintro e w1 ⟨he,hb1⟩;simp only[gw]at he;subst he;have HB1:=ab (ag HB0.out hb1);have HX8:=ab ((hb1.block w.heap.size (lt_of_block hz8)).trans hz8);have HX11:=ab ((hb1.block (w.heap.size+1) (lt_of_block hz11)).trans hz11);have HZ1:=ab (lt_of_block hz11);clear hz8 hz11 hW HB0 hb1
  have q0:=ah (k:=0) HX11.out;have q1:=ah (k:=1) HX11.out;have q2:=ah (k:=2) HX11.out;have q3:=ah (k:=3) HX11.out;have q4:=ah (k:=4) HX11.out;have q5:=ah (k:=5) HX11.out;simp only[aN]at q0 q1 q2 q3 q4 q5;have m0:=ah (k:=0) HX8.out;have m1:=ah (k:=1) HX8.out;have m2:=ah (k:=2) HX8.out;have m3:=ah (k:=3) HX8.out;have m4:=ah (k:=4) HX8.out
  have m5:=ah (k:=5) HX8.out;simp only[aN]at m0 m1 m2 m3 m4 m5;have g1:=ai (k:=1) HX11.out;have g2:=ai (k:=2) HX11.out;have g4:=ai (k:=4) HX11.out;have p0:=ai (k:=0) HX8.out;have p1:=ai (k:=1) HX8.out;have p2:=ai (k:=2) HX8.out;have p3:=ai (k:=3) HX8.out;have p4:=ai (k:=4) HX8.out;have p5:=ai (k:=5) HX8.out;go_wp2_with fail
  refine eP (b:=w.heap.size) (e9:= .int .i64 (off:Int)) (e10:= .int .i64 3) (HX8.out) (by kernel_rfl) (by kernel_rfl) (by kernel_rfl) (by kernel_rfl) (And.intro (by exact rfl) ?_)
  repeat refine bK ?_ (by omega)
  exact HB1.out
 | ok p=>
  obtain⟨n,o⟩:=p;have hsp:=ew hnum
  by_cases hn:most<n
  ·rw[rP hnum hn];have HV:=ab hv;obtain⟨_,a,cap,rfl,hc,hm,-⟩:=hv;unfold maxLen at hm
   go_enter Tryz.func114,Tryz.ntmps114
   go_wp2_with fail;obtain⟨W,hW⟩: ∃W:World,W=(w.alloc (.cells #[.int .i64 0, .int .u64 0, .int .i64 0, .bool false, .string ⟨#[]⟩, .int .i64 0] 96)).alloc (.cells #[.int .i64 7, .int .u64 0, .int .i64 0, .bool false, .string ⟨#[]⟩, .int .i64 (most:Int)] 96):=⟨_,rfl⟩;rw[<-hW];have HB0:=ab (show Below w.heap.size w W by rw[hW]; exact((Below.refl _ _).alloc (Nat.le_refl _) _).alloc (by simp) _)
   have hz8:W.heap[w.heap.size]? =some (.cells #[.int .i64 0, .int .u64 0, .int .i64 0, .bool false, .string ⟨#[]⟩, .int .i64 0] 96 (0,0)):=by rw[hW]; exact cH (bN _ _) _
   have hz11:W.heap[w.heap.size+1]? =some (.cells #[.int .i64 7, .int .u64 0, .int .i64 0, .bool false, .string ⟨#[]⟩, .int .i64 (most:Int)] 96 (0,0)):=by rw[hW]; exact dl _ _ _
   refine(dj S _ data off W (HV.out.below (Nat.le_refl _) HB0.out) hoff hsm _ hnum).mono ?_;rintro e w1 ⟨he,hb1⟩;simp only[gw]at he;subst he;have HB1:=ab (ag HB0.out hb1);have HX8:=ab ((hb1.block w.heap.size (lt_of_block hz8)).trans hz8);have HX11:=ab ((hb1.block (w.heap.size+1) (lt_of_block hz11)).trans hz11);have HZ1:=ab (lt_of_block hz11);clear hz8 hz11 hW HB0 hb1
   have q0:=ah (k:=0) HX11.out;have q1:=ah (k:=1) HX11.out;have q2:=ah (k:=2) HX11.out;have q3:=ah (k:=3) HX11.out;have q4:=ah (k:=4) HX11.out;have q5:=ah (k:=5) HX11.out;simp only[aN]at q0 q1 q2 q3 q4 q5;have m0:=ah (k:=0) HX8.out;have m1:=ah (k:=1) HX8.out;have m2:=ah (k:=2) HX8.out;have m3:=ah (k:=3) HX8.out;have m4:=ah (k:=4) HX8.out
   have m5:=ah (k:=5) HX8.out;simp only[aN]at m0 m1 m2 m3 m4 m5;have g1:=ai (k:=1) HX11.out;have g2:=ai (k:=2) HX11.out;have g4:=ai (k:=4) HX11.out;have p0:=ai (k:=0) HX8.out;have p1:=ai (k:=1) HX8.out;have p2:=ai (k:=2) HX8.out;have p3:=ai (k:=3) HX8.out;have p4:=ai (k:=4) HX8.out;have p5:=ai (k:=5) HX8.out
   go_wp2_with fail;refine eP (b:=w.heap.size) (e9:= .int .i64 (off:Int)) (e10:= .int .i64 2) (HX8.out) (by kernel_rfl) (by kernel_rfl) (by kernel_rfl) (by kernel_rfl) (And.intro (by exact rfl) ?_)
   repeat refine bK ?_ (by omega)
   exact HB1.out
  ·rw[yP hnum hn];have HV:=ab hv;obtain⟨_,a,cap,rfl,hc,hm,-⟩:=hv;unfold maxLen at hm
   go_enter Tryz.func114,Tryz.ntmps114
   go_wp2_with fail;obtain⟨W,hW⟩: ∃W:World,W=(w.alloc (.cells #[.int .i64 0, .int .u64 0, .int .i64 0, .bool false, .string ⟨#[]⟩, .int .i64 0] 96)).alloc (.cells #[.int .i64 7, .int .u64 0, .int .i64 0, .bool false, .string ⟨#[]⟩, .int .i64 (most:Int)] 96):=⟨_,rfl⟩;rw[<-hW];have HB0:=ab (show Below w.heap.size w W by rw[hW]; exact((Below.refl _ _).alloc (Nat.le_refl _) _).alloc (by simp) _)
   have hz8:W.heap[w.heap.size]? =some (.cells #[.int .i64 0, .int .u64 0, .int .i64 0, .bool false, .string ⟨#[]⟩, .int .i64 0] 96 (0,0)):=by rw[hW]; exact cH (bN _ _) _
   have hz11:W.heap[w.heap.size+1]? =some (.cells #[.int .i64 7, .int .u64 0, .int .i64 0, .bool false, .string ⟨#[]⟩, .int .i64 (most:Int)] 96 (0,0)):=by rw[hW]; exact dl _ _ _
   refine(dj S _ data off W (HV.out.below (Nat.le_refl _) HB0.out) hoff hsm _ hnum).mono ?_;rintro e w1 ⟨he,hb1⟩;simp only[gw]at he;subst he;have HB1:=ab (ag HB0.out hb1);have HX8:=ab ((hb1.block w.heap.size (lt_of_block hz8)).trans hz8);have HX11:=ab ((hb1.block (w.heap.size+1) (lt_of_block hz11)).trans hz11);have HZ1:=ab (lt_of_block hz11);clear hz8 hz11 hW HB0 hb1
   have q0:=ah (k:=0) HX11.out;have q1:=ah (k:=1) HX11.out;have q2:=ah (k:=2) HX11.out;have q3:=ah (k:=3) HX11.out;have q4:=ah (k:=4) HX11.out;have q5:=ah (k:=5) HX11.out;simp only[aN]at q0 q1 q2 q3 q4 q5;have m0:=ah (k:=0) HX8.out;have m1:=ah (k:=1) HX8.out;have m2:=ah (k:=2) HX8.out;have m3:=ah (k:=3) HX8.out;have m4:=ah (k:=4) HX8.out
   have m5:=ah (k:=5) HX8.out;simp only[aN]at m0 m1 m2 m3 m4 m5;have g1:=ai (k:=1) HX11.out;have g2:=ai (k:=2) HX11.out;have g4:=ai (k:=4) HX11.out;have p0:=ai (k:=0) HX8.out;have p1:=ai (k:=1) HX8.out;have p2:=ai (k:=2) HX8.out;have p3:=ai (k:=3) HX8.out;have p4:=ai (k:=4) HX8.out;have p5:=ai (k:=5) HX8.out
   go_wp2_with fail;refine eP (b:=w.heap.size) (e9:= .int .i64 (o:Int)) (e10:= .int .i64 0) (bn HX8.out (by omega) _) (by kernel_rfl) (by kernel_rfl) (by kernel_rfl) (by kernel_rfl) (And.intro (by exact rfl) ?_)
   repeat refine bK ?_ (by omega)
   exact HB1.out
theorem sA {data:List UInt8} {off n:Nat} (h:data.length-off<n):cK data off n= .error 3:=by unfold cK; rw[if_pos h]
theorem ww {data:List UInt8} {off n:Nat} (h: ¬data.length-off<n):cK data off n= .ok ((data.drop off).take n,off+n):=by unfold cK; rw[if_neg h]
theorem ld {S:Nat->Prop} {w w':World} {a:Addr} {len cap:Nat} {data:List UInt8} (hv:aD S w (.slice (some a) len cap) data) (hb:Below w.heap.size w w') {off n c:Nat} (hn:off+n<=data.length) (hc:n<=c):
  (convert 29 9 (.slice (some ⟨a.block,a.off+off,none⟩) n c)).run Tryz.prog w'= .ok (.string ⟨((data.drop off).take n).toArray⟩) w':=by
 have hl:((data.drop off).take n).length=n:=by simp; omega
 have h:=te (w:=w') (rb:=a.block+1) (pv:= .slice (some ⟨a.block,a.off+off,none⟩) n c) (bs:=(data.drop off).take n) ⟨a.block,a.off+off,c,by rw[hl],by omega,by omega,fun j b hj=>by
  rw[List.getElem?_take]at hj
  split at hj
  ·rw[List.getElem?_drop]at hj;obtain⟨b',o',he,hq⟩:=gA hv hb hj
   cases he
   rw[Nat.add_assoc];exact hq
  ·cases hj⟩
 exact h
theorem Ay (S:Nat->Prop) (v:Value) (data:List UInt8) (off:Nat) (w:World) (hv:aD S w v data) (hoff:off<=data.length) (hsm:data.length<=32768):
  Calls Tryz.prog 114 #[v, .int .i64 (off:Int), .int .i64 6, .int .i64 0] w (lF ⟨6,0,0,false,⟨#[]⟩,0⟩ (fun bs:List UInt8=>⟨6,0,0,false,⟨bs.toArray⟩,0⟩) off (cK data off 32) w):=by
 have HB1:=ab (((Below.refl w.heap.size w).alloc (Nat.le_refl _) (.cells #[.int .i64 0, .int .u64 0, .int .i64 0, .bool false, .string ⟨#[]⟩, .int .i64 0] 96)).alloc (by simp) (.cells #[.int .i64 6, .int .u64 0, .int .i64 0, .bool false, .string ⟨#[]⟩, .int .i64 0] 96));have HX8:=ab (cH (bN w (.cells #[.int .i64 0, .int .u64 0, .int .i64 0, .bool false, .string ⟨#[]⟩, .int .i64 0] 96)) (.cells #[.int .i64 6, .int .u64 0, .int .i64 0, .bool false, .string ⟨#[]⟩, .int .i64 0] 96))
 have HV:=ab hv;obtain⟨_,a,cap,rfl,hc,hm,-⟩:=hv;unfold maxLen at hm
 by_cases h32:data.length-off<32
 ·rw[sA h32]
  go_enter Tryz.func114,Tryz.ntmps114
  go_wp2_with fail;refine bodyPost_ret (pT (b:=w.heap.size) (e9:= .int .i64 ((off:Int))) (e10:= .int .i64 3) (cH (bN _ _) _) (by kernel_rfl) (by kernel_rfl) (by kernel_rfl)) (by kernel_rfl) (And.intro (by exact rfl) ?_);exact((Below.refl w.heap.size w).alloc (Nat.le_refl _) _).alloc (by simp) _
 ·rw[ww h32];obtain⟨x,hx⟩: ∃x,data[off]? =some x:=⟨data[off]'(by omega),by simp⟩;obtain⟨b,o,rfl,-⟩:=gA HV.out HB1.out hx;have hcv:=ld HV.out HB1.out (off:=off) (n:=32) (c:=cap-off) (by omega) (by omega)
  go_enter Tryz.func114,Tryz.ntmps114
  go_wp2_with fail;refine bodyPost_ret (pT (b:=w.heap.size) (e9:= .int .i64 ((off:Int)+32)) (e10:= .int .i64 0) (cH (bN _ _) _) (by kernel_rfl) (by kernel_rfl) (by kernel_rfl)) (by kernel_rfl) (And.intro (by exact rfl) ?_);exact((Below.refl w.heap.size w).alloc (Nat.le_refl _) _).alloc (by simp) _
theorem oB {data:List UInt8} {off most:Nat} {y:Int} (h:dQ data off most= .error y):cu data off most= .error y:=by unfold cu; rw[h]
theorem zy {data:List UInt8} {off most n o:Nat} (h:dQ data off most= .ok (n,o)):cu data off most=cK data o n:=by unfold cu; rw[h]
theorem Aw (S:Nat->Prop) (v:Value) (data:List UInt8) (off most:Nat) (w:World) (hv:aD S w v data) (hoff:off<=data.length) (hsm:data.length<=32768) (hmost:most<=32768):
  Calls Tryz.prog 114 #[v, .int .i64 (off:Int), .int .i64 5, .int .i64 (most:Int)] w (lF ⟨5,0,0,false,⟨#[]⟩,most⟩ (fun bs:List UInt8=>⟨5,0,0,false,⟨bs.toArray⟩,most⟩) off (cu data off most) w):=by
 cases hnum:eu data off with
 | error y=>
  obtain rfl:=iY hnum;rw[oB (vp hnum)];have HV:=ab hv;obtain⟨_,a,cap,rfl,hc,hm,-⟩:=hv;unfold maxLen at hm
  go_enter Tryz.func114,Tryz.ntmps114
  go_wp2_with fail;obtain⟨W,hW⟩: ∃W:World,W=(w.alloc (.cells #[.int .i64 0, .int .u64 0, .int .i64 0, .bool false, .string ⟨#[]⟩, .int .i64 0] 96)).alloc (.cells #[.int .i64 5, .int .u64 0, .int .i64 0, .bool false, .string ⟨#[]⟩, .int .i64 (most:Int)] 96):=⟨_,rfl⟩;rw[<-hW];have HB0:=ab (show Below w.heap.size w W by rw[hW]; exact((Below.refl _ _).alloc (Nat.le_refl _) _).alloc (by simp) _)
  have hz8:W.heap[w.heap.size]? =some (.cells #[.int .i64 0, .int .u64 0, .int .i64 0, .bool false, .string ⟨#[]⟩, .int .i64 0] 96 (0,0)):=by rw[hW]; exact cH (bN _ _) _
  have hz11:W.heap[w.heap.size+1]? =some (.cells #[.int .i64 5, .int .u64 0, .int .i64 0, .bool false, .string ⟨#[]⟩, .int .i64 (most:Int)] 96 (0,0)):=by rw[hW]; exact dl _ _ _
  refine(dj S _ data off W (HV.out.below (Nat.le_refl _) HB0.out) hoff hsm _ hnum).mono ?_;rintro e w1 ⟨he,hb1⟩;simp only[gw]at he;subst he;have HB1:=ab (ag HB0.out hb1);have HX8:=ab ((hb1.block w.heap.size (lt_of_block hz8)).trans hz8);have HX11:=ab ((hb1.block (w.heap.size+1) (lt_of_block hz11)).trans hz11);have HZ1:=ab (lt_of_block hz11);clear hz8 hz11 hW HB0 hb1
  have q0:=ah (k:=0) HX11.out;have q1:=ah (k:=1) HX11.out;have q2:=ah (k:=2) HX11.out;have q3:=ah (k:=3) HX11.out;have q4:=ah (k:=4) HX11.out;have q5:=ah (k:=5) HX11.out;simp only[aN]at q0 q1 q2 q3 q4 q5;have m0:=ah (k:=0) HX8.out;have m1:=ah (k:=1) HX8.out;have m2:=ah (k:=2) HX8.out;have m3:=ah (k:=3) HX8.out;have m4:=ah (k:=4) HX8.out
  have m5:=ah (k:=5) HX8.out;simp only[aN]at m0 m1 m2 m3 m4 m5;have g1:=ai (k:=1) HX11.out;have g2:=ai (k:=2) HX11.out;have g4:=ai (k:=4) HX11.out;have p0:=ai (k:=0) HX8.out;have p1:=ai (k:=1) HX8.out;have p2:=ai (k:=2) HX8.out;have p3:=ai (k:=3) HX8.out;have p4:=ai (k:=4) HX8.out;have p5:=ai (k:=5) HX8.out;go_wp2_with fail
  refine eP (b:=w.heap.size) (e9:= .int .i64 (off:Int)) (e10:= .int .i64 3) (HX8.out) (by kernel_rfl) (by kernel_rfl) (by kernel_rfl) (by kernel_rfl) (And.intro (by exact rfl) ?_)
  repeat refine bK ?_ (by omega)
  exact HB1.out
 | ok p=>
  obtain⟨n,o⟩:=p;have hsp:=ew hnum
  by_cases hn:most<n
  ·rw[oB (rP hnum hn)];have HV:=ab hv;obtain⟨_,a,cap,rfl,hc,hm,-⟩:=hv;unfold maxLen at hm
   go_enter Tryz.func114,Tryz.ntmps114
   go_wp2_with fail;obtain⟨W,hW⟩: ∃W:World,W=(w.alloc (.cells #[.int .i64 0, .int .u64 0, .int .i64 0, .bool false, .string ⟨#[]⟩, .int .i64 0] 96)).alloc (.cells #[.int .i64 5, .int .u64 0, .int .i64 0, .bool false, .string ⟨#[]⟩, .int .i64 (most:Int)] 96):=⟨_,rfl⟩;rw[<-hW];have HB0:=ab (show Below w.heap.size w W by rw[hW]; exact((Below.refl _ _).alloc (Nat.le_refl _) _).alloc (by simp) _)
   have hz8:W.heap[w.heap.size]? =some (.cells #[.int .i64 0, .int .u64 0, .int .i64 0, .bool false, .string ⟨#[]⟩, .int .i64 0] 96 (0,0)):=by rw[hW]; exact cH (bN _ _) _
   have hz11:W.heap[w.heap.size+1]? =some (.cells #[.int .i64 5, .int .u64 0, .int .i64 0, .bool false, .string ⟨#[]⟩, .int .i64 (most:Int)] 96 (0,0)):=by rw[hW]; exact dl _ _ _
   refine(dj S _ data off W (HV.out.below (Nat.le_refl _) HB0.out) hoff hsm _ hnum).mono ?_;rintro e w1 ⟨he,hb1⟩;simp only[gw]at he;subst he;have HB1:=ab (ag HB0.out hb1);have HX8:=ab ((hb1.block w.heap.size (lt_of_block hz8)).trans hz8);have HX11:=ab ((hb1.block (w.heap.size+1) (lt_of_block hz11)).trans hz11);have HZ1:=ab (lt_of_block hz11);clear hz8 hz11 hW HB0 hb1
   have q0:=ah (k:=0) HX11.out;have q1:=ah (k:=1) HX11.out;have q2:=ah (k:=2) HX11.out;have q3:=ah (k:=3) HX11.out;have q4:=ah (k:=4) HX11.out;have q5:=ah (k:=5) HX11.out;simp only[aN]at q0 q1 q2 q3 q4 q5;have m0:=ah (k:=0) HX8.out;have m1:=ah (k:=1) HX8.out;have m2:=ah (k:=2) HX8.out;have m3:=ah (k:=3) HX8.out;have m4:=ah (k:=4) HX8.out
   have m5:=ah (k:=5) HX8.out;simp only[aN]at m0 m1 m2 m3 m4 m5;have g1:=ai (k:=1) HX11.out;have g2:=ai (k:=2) HX11.out;have g4:=ai (k:=4) HX11.out;have p0:=ai (k:=0) HX8.out;have p1:=ai (k:=1) HX8.out;have p2:=ai (k:=2) HX8.out;have p3:=ai (k:=3) HX8.out;have p4:=ai (k:=4) HX8.out;have p5:=ai (k:=5) HX8.out
   go_wp2_with fail;refine eP (b:=w.heap.size) (e9:= .int .i64 (off:Int)) (e10:= .int .i64 2) (HX8.out) (by kernel_rfl) (by kernel_rfl) (by kernel_rfl) (by kernel_rfl) (And.intro (by exact rfl) ?_)
   repeat refine bK ?_ (by omega)
   exact HB1.out
  ·rw[zy (yP hnum hn)];have hcw:IntKind.u64.wrap ((data.length:Int)-(o:Int))=(data.length:Int)-(o:Int):=by rw[IntKind.wrap_u64]; omega
   by_cases hle:data.length-o<n
   ·rw[sA hle];have HV:=ab hv;obtain⟨_,a,cap,rfl,hc,hm,-⟩:=hv;unfold maxLen at hm
    go_enter Tryz.func114,Tryz.ntmps114
    go_wp2_with fail;obtain⟨W,hW⟩: ∃W:World,W=(w.alloc (.cells #[.int .i64 0, .int .u64 0, .int .i64 0, .bool false, .string ⟨#[]⟩, .int .i64 0] 96)).alloc (.cells #[.int .i64 5, .int .u64 0, .int .i64 0, .bool false, .string ⟨#[]⟩, .int .i64 (most:Int)] 96):=⟨_,rfl⟩;rw[<-hW];have HB0:=ab (show Below w.heap.size w W by rw[hW]; exact((Below.refl _ _).alloc (Nat.le_refl _) _).alloc (by simp) _)
    have hz8:W.heap[w.heap.size]? =some (.cells #[.int .i64 0, .int .u64 0, .int .i64 0, .bool false, .string ⟨#[]⟩, .int .i64 0] 96 (0,0)):=by rw[hW]; exact cH (bN _ _) _
    have hz11:W.heap[w.heap.size+1]? =some (.cells #[.int .i64 5, .int .u64 0, .int .i64 0, .bool false, .string ⟨#[]⟩, .int .i64 (most:Int)] 96 (0,0)):=by rw[hW]; exact dl _ _ _
    refine(dj S _ data off W (HV.out.below (Nat.le_refl _) HB0.out) hoff hsm _ hnum).mono ?_;rintro e w1 ⟨he,hb1⟩;simp only[gw]at he;subst he;have HB1:=ab (ag HB0.out hb1);have HX8:=ab ((hb1.block w.heap.size (lt_of_block hz8)).trans hz8);have HX11:=ab ((hb1.block (w.heap.size+1) (lt_of_block hz11)).trans hz11);have HZ1:=ab (lt_of_block hz11);clear hz8 hz11 hW HB0 hb1
    have q0:=ah (k:=0) HX11.out;have q1:=ah (k:=1) HX11.out;have q2:=ah (k:=2) HX11.out;have q3:=ah (k:=3) HX11.out;have q4:=ah (k:=4) HX11.out;have q5:=ah (k:=5) HX11.out;simp only[aN]at q0 q1 q2 q3 q4 q5;have m0:=ah (k:=0) HX8.out;have m1:=ah (k:=1) HX8.out;have m2:=ah (k:=2) HX8.out;have m3:=ah (k:=3) HX8.out;have m4:=ah (k:=4) HX8.out
    have m5:=ah (k:=5) HX8.out;simp only[aN]at m0 m1 m2 m3 m4 m5;have g1:=ai (k:=1) HX11.out;have g2:=ai (k:=2) HX11.out;have g4:=ai (k:=4) HX11.out;have p0:=ai (k:=0) HX8.out;have p1:=ai (k:=1) HX8.out;have p2:=ai (k:=2) HX8.out;have p3:=ai (k:=3) HX8.out;have p4:=ai (k:=4) HX8.out;have p5:=ai (k:=5) HX8.out
    go_wp2_with fail;refine eP (b:=w.heap.size) (e9:= .int .i64 (off:Int)) (e10:= .int .i64 3) (HX8.out) (by kernel_rfl) (by kernel_rfl) (by kernel_rfl) (by kernel_rfl) (And.intro (by exact rfl) ?_)
    repeat refine bK ?_ (by omega)
    exact HB1.out
   ·rw[ww hle];obtain⟨x,hx⟩: ∃x,data[off]? =some x:=⟨data[off]'(by omega),by simp⟩;have HXX:=ab hx;clear hx;have HV:=ab hv;obtain⟨_,a,cap,rfl,hc,hm,-⟩:=hv;unfold maxLen at hm
    go_enter Tryz.func114,Tryz.ntmps114
    go_wp2_with fail;obtain⟨W,hW⟩: ∃W:World,W=(w.alloc (.cells #[.int .i64 0, .int .u64 0, .int .i64 0, .bool false, .string ⟨#[]⟩, .int .i64 0] 96)).alloc (.cells #[.int .i64 5, .int .u64 0, .int .i64 0, .bool false, .string ⟨#[]⟩, .int .i64 (most:Int)] 96):=⟨_,rfl⟩;rw[<-hW];have HB0:=ab (show Below w.heap.size w W by rw[hW]; exact((Below.refl _ _).alloc (Nat.le_refl _) _).alloc (by simp) _)
    have hz8:W.heap[w.heap.size]? =some (.cells #[.int .i64 0, .int .u64 0, .int .i64 0, .bool false, .string ⟨#[]⟩, .int .i64 0] 96 (0,0)):=by rw[hW]; exact cH (bN _ _) _
    have hz11:W.heap[w.heap.size+1]? =some (.cells #[.int .i64 5, .int .u64 0, .int .i64 0, .bool false, .string ⟨#[]⟩, .int .i64 (most:Int)] 96 (0,0)):=by rw[hW]; exact dl _ _ _
    refine(dj S _ data off W (HV.out.below (Nat.le_refl _) HB0.out) hoff hsm _ hnum).mono ?_;rintro e w1 ⟨he,hb1⟩;simp only[gw]at he;subst he;have HB1:=ab (ag HB0.out hb1);have HX8:=ab ((hb1.block w.heap.size (lt_of_block hz8)).trans hz8);have HX11:=ab ((hb1.block (w.heap.size+1) (lt_of_block hz11)).trans hz11);have HZ1:=ab (lt_of_block hz11);clear hz8 hz11 hW HB0 hb1
    have q0:=ah (k:=0) HX11.out;have q1:=ah (k:=1) HX11.out;have q2:=ah (k:=2) HX11.out;have q3:=ah (k:=3) HX11.out;have q4:=ah (k:=4) HX11.out;have q5:=ah (k:=5) HX11.out;simp only[aN]at q0 q1 q2 q3 q4 q5;have m0:=ah (k:=0) HX8.out;have m1:=ah (k:=1) HX8.out;have m2:=ah (k:=2) HX8.out;have m3:=ah (k:=3) HX8.out;have m4:=ah (k:=4) HX8.out
    have m5:=ah (k:=5) HX8.out;simp only[aN]at m0 m1 m2 m3 m4 m5;have g1:=ai (k:=1) HX11.out;have g2:=ai (k:=2) HX11.out;have g4:=ai (k:=4) HX11.out;have p0:=ai (k:=0) HX8.out;have p1:=ai (k:=1) HX8.out;have p2:=ai (k:=2) HX8.out;have p3:=ai (k:=3) HX8.out;have p4:=ai (k:=4) HX8.out;have p5:=ai (k:=5) HX8.out
    obtain⟨b,ao,rfl,-⟩:=gA HV.out HB1.out HXX.out
    by_cases hco:cap=o
    ·obtain rfl:n=0:=by omega
     have hcv:=ld HV.out HB1.out (off:=0) (n:=0) (c:=0) (by omega) (by omega);simp only[Nat.add_zero]at hcv;subst hco;go_wp2_with fail;refine eP (b:=w.heap.size) (e9:= .int .i64 (cap:Int)) (e10:= .int .i64 0) (bn HX8.out (by omega) _) (by kernel_rfl) (by kernel_rfl) (by kernel_rfl) (by kernel_rfl) (And.intro (by exact rfl) ?_)
     repeat refine bK ?_ (by omega)
     exact HB1.out
    ·have hcv:=ld HV.out HB1.out (off:=o) (n:=n) (c:=cap-o) (by omega) (by omega);have hco2: ¬o=cap:=fun h=>hco h.symm
     have hco3: ¬cap-o=0:=by omega
     go_wp2_with fail;refine eP (b:=w.heap.size) (e9:= .int .i64 ((o:Int)+(n:Int):Int)) (e10:= .int .i64 0) (bn HX8.out (by omega) _) (by kernel_rfl) (by kernel_rfl) (by kernel_rfl) (by kernel_rfl) (And.intro (by exact rfl) ?_)
     repeat refine bK ?_ (by omega)
     exact HB1.out
structure cr (w : World) (rb : Nat) (v : Value) (data : List UInt8) (s : RS) : Prop where
 box:w.heap[rb]? =some (.cells #[v, .int .i64 (s.off:Int), .int .i64 (s.last:Int), .int .i64 s.err] 112 (0,0))
 row:aS (· ≠rb) w 1 v data.length (data.map au)
 le:s.off<=data.length
 small:data.length<=32768
theorem cr.lt {w:World} {rb:Nat} {v:Value} {data:List UInt8} {s:RS} (h:cr w rb v data s):rb<w.heap.size:=lt_of_block h.box
theorem cr.below {w w':World} {rb:Nat} {v:Value} {data:List UInt8} {s:RS} (h:cr w rb v data s) (hb:Below w.heap.size w w'):cr w' rb v data s:=
 ⟨by rw[hb.block _ h.lt]; exact h.box,h.row.below (by omega) hb,h.le,h.small⟩
theorem cr.grown {w w':World} {rb:Nat} {v:Value} {data:List UInt8} {s s':RS} (h:cr w rb v data s) (hg:w.grownBy w' (some rb)) (hbox:w'.heap[rb]? =some (.cells #[v, .int .i64 (s'.off:Int), .int .i64 (s'.last:Int), .int .i64 s'.err] 112 (0,0))) (hle:s'.off<=data.length):cr w' rb v data s':=
 ⟨hbox,((h.row.mono (T:=fun k=>k≠rb/\k<w.heap.size) (fun k hk hS=>⟨hS,hk⟩) (by omega)).same (fun k hk=>hg.block k hk.2 (fun e=>hk.1 (by simpa using e)))).weak (fun k hk=>hk.1),hle,h.small⟩
theorem cr.fin {w wf:World} {rb:Nat} {v:Value} {data:List UInt8} {s s':RS} (h:cr w rb v data s) (hg:w.grownBy wf (some rb)) (hbox:wf.heap[rb]? =some (.cells #[v, .int .i64 (s'.off:Int), .int .i64 (s'.last:Int), .int .i64 s'.err] 112 (0,0))) (hle:s'.off<=data.length) {b:Nat} (hb:w.heap.size<=b) {x0 x1 x2 x3 x4 x5:Value} :
  cr ((((((wf.setCell ⟨b,0,none⟩ x0).setCell ⟨b,1,none⟩ x1).setCell ⟨b,2,none⟩ x2).setCell ⟨b,3,none⟩ x3).setCell ⟨b,4,none⟩ x4).setCell ⟨b,5,none⟩ x5) rb v data s'/\
  w.grownBy ((((((wf.setCell ⟨b,0,none⟩ x0).setCell ⟨b,1,none⟩ x1).setCell ⟨b,2,none⟩ x2).setCell ⟨b,3,none⟩ x3).setCell ⟨b,4,none⟩ x4).setCell ⟨b,5,none⟩ x5) (some rb):=by
 have hlt:=h.lt;have hne:rb≠b:=by omega
 have h6:=bY (bY (bY (bY (bY (bY hg hb (k:=0) x0) hb (k:=1) x1) hb (k:=2) x2) hb (k:=3) x3) hb (k:=4) x4) hb (k:=5) x5;exact⟨h.grown h6 (bn (bn (bn (bn (bn (bn hbox hne _) hne _) hne _) hne _) hne _) hne _) hle,h6⟩
def rr {α:Type} (z:jg) (val:α->jg) (r:Except Int (α×Nat)) (s:RS):jg×RS:=if s.err=0 then match r with
 | .ok (x,o)=>(val x,⟨o,s.off,0⟩)
 | .error y=>(z,⟨s.off,s.last,y⟩)else(z,s)
def kU (p:jg×RS) (rb:Nat) (v:Value) (data:List UInt8) (w:World) (e:Ending) (w':World):Prop:=e= .returned (rvV p.1)/\cr w' rb v data p.2/\w.grownBy w' (some rb)
theorem yV {a:Act} {w:World} {b:Nat} {x0 x1 x2 x3 x4 x5:Value} (h:w.heap[b]? =some (.cells #[x0,x1,x2,x3,x4,x5] 96 (0,0)))
  (h6:a.tmps[6]? =some (.pointer (some ⟨b,0,none⟩))):(results Tryz.f65 a.tmps).run Tryz.prog w= .ok (.agg #[x0,x1,x2,x3,x4,x5]) w:=by
 have m0:=ah (k:=0) h;have m1:=ah (k:=1) h;have m2:=ah (k:=2) h;have m3:=ah (k:=3) h;have m4:=ah (k:=4) h;have m5:=ah (k:=5) h;simp only[aN]at m0 m1 m2 m3 m4 m5;simp[results,Tryz.results65,go_sem,h6,m0,m1,m2,m3,m4,m5]
theorem oa {a:Act} {w:World} {b:Nat} {a0 a1 a2 a3 a4 a5 x0 x1 x2 x3 x4 x5:Value} {Q:Ending->World->Prop} (h:w.heap[b]? =some (.cells #[a0,a1,a2,a3,a4,a5] 96 (0,0)))
  (h6:a.tmps[6]? =some (.pointer (some ⟨b,0,none⟩))) (hd:a.defers=[])
  (hQ:Q (.returned (.agg #[x0,x1,x2,x3,x4,x5])) ((((((w.setCell ⟨b,0,none⟩ x0).setCell ⟨b,1,none⟩ x1).setCell ⟨b,2,none⟩ x2).setCell ⟨b,3,none⟩ x3).setCell ⟨b,4,none⟩ x4).setCell ⟨b,5,none⟩ x5)):
  bodyPost Tryz.prog Tryz.f65 Q Exit.ret a ((((((w.setCell ⟨b,0,none⟩ x0).setCell ⟨b,1,none⟩ x1).setCell ⟨b,2,none⟩ x2).setCell ⟨b,3,none⟩ x3).setCell ⟨b,4,none⟩ x4).setCell ⟨b,5,none⟩ x5):=
 bodyPost_ret (yV (Fh h) h6) hd hQ
theorem yL {P:Program} {ops:Array Oper} {Q:Exit->Act->World->Prop} {S:World->Prop} {dst:Option Tmp} {op:Op} {ty:TypeId} {pos:String} {aft:Array Edge} {g:Option (Nat×Bool)} {fuel:Nat} {listed:Array Bool} {a:Act} {w:World} (i:Nat) (hi:ops[i]? =some ⟨dst,op,ty,pos,aft,g⟩)
  (hw:Region.wanted ⟨dst,op,ty,pos,aft,g⟩ (yielded ops a.tmps)=true)
  (h: ∀K:Act->World->Prop,(∀a w,S w/\lD P ops Q S fuel (listed.setIfInBounds i true) a w->K a w)->wpList P #[] (Exit.then K Q) [⟨dst,op,ty,pos, #[],none⟩] a w):
  wpOp P ops Q i (fun a' w'=>S w'/\wpAnyH P .any ops Q S fuel (listed.setIfInBounds i true) a' w') a w:=by
 have hb:nP P ops (fun a' w'=>S w'/\wpAnyH P .any ops Q S fuel (listed.setIfInBounds i true) a' w') Q [⟨dst,op,ty,pos,aft,g⟩] a w:=
  bw hw (fun K hK=>h K (fun a w hh=>hK a w ⟨hh.1,hh.2.out⟩))
 unfold wpOp;simp only[hi];exact nP.out hb
theorem BX {B:Nat} {a w:World} {b:Nat} {x0 x1 x2 x3 x4 x5:Value} (h:Below B a w) (hb:B<=b):Below B a ((((((w.setCell ⟨b,0,none⟩ x0).setCell ⟨b,1,none⟩ x1).setCell ⟨b,2,none⟩ x2).setCell ⟨b,3,none⟩ x3).setCell ⟨b,4,none⟩ x4).setCell ⟨b,5,none⟩ x5):=
 bK (bK (bK (bK (bK (bK h hb) hb) hb) hb) hb) hb
theorem tC {w:World} {b c:Nat} {o:Obj} {x0 x1 x2 x3 x4 x5:Value} (h:w.heap[c]? =some o) (hne:c≠b):((((((w.setCell ⟨b,0,none⟩ x0).setCell ⟨b,1,none⟩ x1).setCell ⟨b,2,none⟩ x2).setCell ⟨b,3,none⟩ x3).setCell ⟨b,4,none⟩ x4).setCell ⟨b,5,none⟩ x5).heap[c]? =some o:=
 bn (bn (bn (bn (bn (bn h hne _) hne _) hne _) hne _) hne _) hne _
def lL (q:jg) (o':Nat) (er:Int) (K most:Int) (s:RS):jg×RS:=if er=0 then(q,⟨o',s.off,0⟩)else(⟨K,0,0,false,⟨#[]⟩,most⟩,⟨s.off,s.last,er⟩)
theorem qU (rb:Nat) (v:Value) (data:List UInt8) (s:RS) (K most:Int) (q:jg) (o':Nat) (er:Int) (w:World) (hr:cr w rb v data s) (hK:(K == 0)=false) (he:s.err=0) (ho:o'<=data.length)
  (hrd: ∀W,aD (· ≠rb) W v data->Calls Tryz.prog 114 #[v, .int .i64 (s.off:Int), .int .i64 K, .int .i64 most] W fun e w'=>e= .returned (.tuple #[rvV q, .int .i64 (o':Int), .int .i64 er])/\Below W.heap.size W w'):
  Calls Tryz.prog 65 #[.pointer (some ⟨rb,0,none⟩), .int .i64 K, .int .i64 most] w (kU (lL q o' er K most s) rb v data w):=by
 obtain⟨qk,qu,qn,qb,qs,qm⟩:=q;have HR:=ab hr;have hlt:=hr.lt;have HE:=ab he;have HRD:=ab hrd;have c3:=ah (k:=3) hr.box;simp only[aN]at c3;rw[he]at c3;clear hr hrd he
 go_enter Tryz.func65,Tryz.ntmps65
 go_wp2_with fail;obtain⟨W,hW⟩: ∃W:World,W=(w.alloc (.cells #[.int .i64 0, .int .u64 0, .int .i64 0, .bool false, .string ⟨#[]⟩, .int .i64 0] 96)).alloc (.cells #[.int .i64 K, .int .u64 0, .int .i64 0, .bool false, .string ⟨#[]⟩, .int .i64 most] 96):=⟨_,rfl⟩;rw[<-hW];have HB0:=ab (show Below w.heap.size w W by rw[hW]; exact((Below.refl _ _).alloc (Nat.le_refl _) _).alloc (by simp) _)
 have HZ8:=ab (show W.heap[w.heap.size]? =some (.cells #[.int .i64 0, .int .u64 0, .int .i64 0, .bool false, .string ⟨#[]⟩, .int .i64 0] 96 (0,0)) by rw[hW]; exact cH (bN _ _) _);have HZ11:=ab (show W.heap[w.heap.size+1]? =some (.cells #[.int .i64 K, .int .u64 0, .int .i64 0, .bool false, .string ⟨#[]⟩, .int .i64 most] 96 (0,0)) by rw[hW]; exact dl _ _ _);clear hW c3
 refine cM (fun w'=>w'.cell? ⟨rb,0,none⟩=some v/\w'.cell? ⟨rb,1,none⟩=some (.int .i64 (s.off:Int))) (by kernel_rfl) ?_;obtain⟨W2,hW2⟩: ∃W2:World,W2=W.drew:=⟨_,rfl⟩;rw[<-hW2];have hbw:Below W.heap.size W W2:=by rw[hW2]; exact(Below.refl _ _).drew
 have HB2:=ab (ag HB0.out hbw);have HR2:=ab (HR.out.below HB2.out);have HY8:=ab ((hbw.block _ (lt_of_block HZ8.out)).trans HZ8.out);have HY11:=ab ((hbw.block _ (lt_of_block HZ11.out)).trans HZ11.out);clear hW2 hbw HZ8 HZ11 HB0;have c0:=ah (k:=0) HR2.out.box;have c1:=ah (k:=1) HR2.out.box;have c2:=ah (k:=2) HR2.out.box;have c3:=ah (k:=3) HR2.out.box;simp only[aN]at c0 c1 c2 c3
 refine af 0 rfl (by kernel_rfl) (by kernel_rfl) (by kernel_rfl) (fun _ _ _ h=>h) rfl (by go_simp) (by rintro w' ⟨hw1,hw2⟩; go_simp; rfl) ?_;simp only[Act.put,aA,aB,aC];refine af 1 rfl (by kernel_rfl) (by kernel_rfl) (by kernel_rfl) (fun _ _ _ h=>h) rfl (by go_simp) (by rintro w' ⟨hw1,hw2⟩; go_simp; rfl) ?_;simp only[Act.put,aA,aB,aC];refine af 2 rfl (by kernel_rfl) (by kernel_rfl) (by kernel_rfl) (fun _ _ _ h=>h) rfl (by go_simp) (by rintro w' ⟨hw1,hw2⟩; go_simp; rfl) ?_
 simp only[Act.put,aA,aB,aC];refine af 3 rfl (by kernel_rfl) (by kernel_rfl) (by kernel_rfl) (fun _ _ _ h=>h) rfl (by go_simp) (by rintro w' ⟨hw1,hw2⟩; go_simp; rfl) ?_;simp only[Act.put,aA,aB,aC];refine af 4 rfl (by kernel_rfl) (by kernel_rfl) (by kernel_rfl) (fun _ _ _ h=>h) rfl (by go_simp) (by rintro w' ⟨hw1,hw2⟩; go_simp; rfl) ?_;simp only[Act.put,aA,aB,aC]
 refine af 5 rfl (by kernel_rfl) (by kernel_rfl) (by kernel_rfl) (fun _ _ _ h=>h) rfl (by go_simp) (by rintro w' ⟨hw1,hw2⟩; go_simp; rfl) ?_;simp only[Act.put,aA,aB,aC];refine af 6 rfl (by kernel_rfl) (by kernel_rfl) (by kernel_rfl) (fun _ _ _ h=>h) rfl (by go_simp) (by rintro w' ⟨hw1,hw2⟩; go_simp; rfl) ?_;simp only[Act.put,aA,aB,aC];refine af 7 rfl (by kernel_rfl) (by kernel_rfl) (by kernel_rfl) (fun _ _ _ h=>h) rfl (by go_simp) (by rintro w' ⟨hw1,hw2⟩; go_simp; rfl) ?_
 simp only[Act.put,aA,aB,aC];refine af 8 rfl (by kernel_rfl) (by kernel_rfl) (by kernel_rfl) (fun _ _ _ h=>h) rfl (by go_simp) (by rintro w' ⟨hw1,hw2⟩; go_simp; rfl) ?_;simp only[Act.put,aA,aB,aC];refine af 9 rfl (by kernel_rfl) (by kernel_rfl) (by kernel_rfl) (fun _ _ _ h=>h) rfl (by go_simp) (by rintro w' ⟨hw1,hw2⟩; go_simp; rfl) ?_;simp only[Act.put,aA,aB,aC]
 refine lD.of (wpAnyH_all (rs:=[10,15]) (by kernel_rfl) (by simp) fun j hj=> ?_);simp only[List.mem_cons,List.not_mem_nil,or_false]at hj
 rcases hj with rfl | rfl
 ·refine yL 10 rfl rfl (fun K hK=> ?_);go_wp2_with (go_at_call 114; refine(HRD.out _ HR2.out.row).mono ?_; rintro e w1 ⟨rfl,hb1⟩; simp only[rvV]);have HB3:=ab (ag HB2.out hb1);have HR3:=ab (HR.out.below HB3.out);have HX8:=ab ((hb1.block _ (lt_of_block HY8.out)).trans HY8.out);have HX11:=ab ((hb1.block _ (lt_of_block HY11.out)).trans HY11.out);clear c0 c1 c2 c3;have c0:=ah (k:=0) HR3.out.box
  have c1:=ah (k:=1) HR3.out.box;have c2:=ah (k:=2) HR3.out.box;have c3:=ah (k:=3) HR3.out.box;simp only[aN]at c0 c1 c2 c3;refine⟨⟨c0,c1⟩, ?_⟩;refine af 11 rfl (by kernel_rfl) (by kernel_rfl) (by kernel_rfl) (fun _ _ _ h=>h) rfl (by go_simp) (by rintro w' ⟨hw1,hw2⟩; go_simp; rfl) ?_;simp only[Act.put,aA,aB,aC];refine af 12 rfl (by kernel_rfl) (by kernel_rfl) (by kernel_rfl) (fun _ _ _ h=>h) rfl (by go_simp) (by rintro w' ⟨hw1,hw2⟩; go_simp; rfl) ?_
  simp only[Act.put,aA,aB,aC];refine af 13 rfl (by kernel_rfl) (by kernel_rfl) (by kernel_rfl) (fun _ _ _ h=>h) rfl (by go_simp) (by rintro w' ⟨hw1,hw2⟩; go_simp; rfl) ?_;simp only[Act.put,aA,aB,aC];refine af 14 rfl (by kernel_rfl) (by kernel_rfl) (by kernel_rfl) (fun _ _ _ h=>h) rfl (by go_simp) (by rintro w' ⟨hw1,hw2⟩; go_simp; rfl) ?_;simp only[Act.put,aA,aB,aC]
  refine ar 15 rfl (by kernel_rfl) rfl (fun K hK=> ?_);go_wp2_with fail;obtain⟨w2,hw2⟩: ∃w2,w2=w1.alloc (.cells #[.int .i64 0, .int .u64 0, .int .i64 0, .bool false, .string ⟨#[]⟩, .int .i64 0] 96):=⟨_,rfl⟩;rw[<-hw2];have hb2:Below w1.heap.size w1 w2:=by rw[hw2]; exact(Below.refl _ _).alloc (Nat.le_refl _) _
  have HN8:=ab (show w2.heap[w1.heap.size]? =some (.cells #[.int .i64 0, .int .u64 0, .int .i64 0, .bool false, .string ⟨#[]⟩, .int .i64 0] 96 (0,0)) by rw[hw2]; exact bN _ _);obtain⟨b8,hb8⟩: ∃b8,b8=w1.heap.size:=⟨_,rfl⟩;have HL8:=ab (show w.heap.size+1<b8 by rw[hb8]; exact lt_of_block HX11.out);rw[<-hb8]at HN8 ⊢;clear hw2 hb8;have HB4:=ab (ag HB3.out hb2)
  have HR4:=ab (HR.out.below HB4.out);have HW8:=ab ((hb2.block _ (lt_of_block HX8.out)).trans HX8.out);have HW11:=ab ((hb2.block _ (lt_of_block HX11.out)).trans HX11.out);clear c0 c1 c2 c3;have c0:=ah (k:=0) HR4.out.box;have c1:=ah (k:=1) HR4.out.box;have c2:=ah (k:=2) HR4.out.box;have c3:=ah (k:=3) HR4.out.box;simp only[aN]at c0 c1 c2 c3;refine⟨⟨c0,c1⟩, ?_⟩
  have m0:=ah (k:=0) HN8.out;have m1:=ah (k:=1) HN8.out;have m2:=ah (k:=2) HN8.out;have m3:=ah (k:=3) HN8.out;have m4:=ah (k:=4) HN8.out;have m5:=ah (k:=5) HN8.out;simp only[aN]at m0 m1 m2 m3 m4 m5;have p0:=ai (k:=0) HN8.out;have p1:=ai (k:=1) HN8.out;have p2:=ai (k:=2) HN8.out;have p3:=ai (k:=3) HN8.out;have p4:=ai (k:=4) HN8.out
  have p5:=ai (k:=5) HN8.out;refine ar 16 rfl (by kernel_rfl) rfl (fun K hK=> ?_);go_wp2_with fail;obtain⟨wf,hwf⟩: ∃wf,wf=((((((w2.setCell ⟨b8,0,none⟩ (.int .i64 qk)).setCell ⟨b8,1,none⟩ (.int .u64 (qu:Int))).setCell ⟨b8,2,none⟩ (.int .i64 qn)).setCell ⟨b8,3,none⟩ (.bool qb)).setCell ⟨b8,4,none⟩ (.string qs)).setCell ⟨b8,5,none⟩ (.int .i64 qm)):=⟨_,rfl⟩;rw[<-hwf]
  have HBF:=ab (show Below w.heap.size w wf by rw[hwf]; exact BX HB4.out (by have:=HL8.out; omega));have HF8:=ab (show wf.heap[w.heap.size]? =some _ by rw[hwf]; exact tC HW8.out (by have:=HL8.out; omega));have HF11:=ab (show wf.heap[w.heap.size+1]? =some _ by rw[hwf]; exact tC HW11.out (by have:=HL8.out; omega));have HFN:=ab (show wf.heap[b8]? =some _ by rw[hwf]; exact Fh HN8.out)
  have HFR:=ab (HR.out.below HBF.out);clear hwf m0 m1 m2 m3 m4 m5 p0 p1 p2 p3 p4 p5 c0 c1 c2 c3;have c0:=ah (k:=0) HFR.out.box;have c1:=ah (k:=1) HFR.out.box;have c2:=ah (k:=2) HFR.out.box;have c3:=ah (k:=3) HFR.out.box;simp only[aN]at c0 c1 c2 c3;refine⟨⟨c0,c1⟩, ?_⟩;refine af 17 rfl (by kernel_rfl) (by kernel_rfl) (by kernel_rfl) (fun _ _ _ h=>h) rfl (by go_simp) (by rintro w' ⟨hw1,hw2⟩; go_simp; rfl) ?_
  simp only[Act.put,aA,aB,aC];refine af 18 rfl (by kernel_rfl) (by kernel_rfl) (by kernel_rfl) (fun _ _ _ h=>h) rfl (by go_simp) (by rintro w' ⟨hw1,hw2⟩; go_simp; rfl) ?_;simp only[Act.put,aA,aB,aC];refine aV (by kernel_rfl) ?_;rw[HE.out]at c3;have f1:=ai (k:=1) HFR.out.box;have f2:=ai (k:=2) HFR.out.box;have f3:=ai (k:=3) HFR.out.box;have m0:=ah (k:=0) HF8.out
  have m1:=ah (k:=1) HF8.out;have m2:=ah (k:=2) HF8.out;have m3:=ah (k:=3) HF8.out;have m4:=ah (k:=4) HF8.out;have m5:=ah (k:=5) HF8.out;simp only[aN]at m0 m1 m2 m3 m4 m5;have p0:=ai (k:=0) HF8.out;have p1:=ai (k:=1) HF8.out;have p2:=ai (k:=2) HF8.out;have p3:=ai (k:=3) HF8.out;have p4:=ai (k:=4) HF8.out;have p5:=ai (k:=5) HF8.out
  have k0:=ah (k:=0) HF11.out;have k1:=ah (k:=1) HF11.out;have k2:=ah (k:=2) HF11.out;have k3:=ah (k:=3) HF11.out;have k4:=ah (k:=4) HF11.out;have k5:=ah (k:=5) HF11.out;simp only[aN]at k0 k1 k2 k3 k4 k5;have n0:=ah (k:=0) HFN.out;have n1:=ah (k:=1) HFN.out;have n2:=ah (k:=2) HFN.out;have n3:=ah (k:=3) HFN.out;have n4:=ah (k:=4) HFN.out
  have n5:=ah (k:=5) HFN.out;simp only[aN]at n0 n1 n2 n3 n4 n5
  by_cases hz:er=0
  ·subst hz;have hl1:rb≠w.heap.size:=by omega
   have hl2:rb≠b8:=by have:=HL8.out; omega
   have hl3:b8≠w.heap.size:=by have:=HL8.out; omega
   go_wp2_with fail;refine oa (b:=w.heap.size) (bn (bn HF8.out hl1.symm _) hl1.symm _) (by kernel_rfl) (by kernel_rfl) ?_;have hfin:=HR.out.fin (wf:=(wf.setCell ⟨rb,2,none⟩ (.int .i64 (s.off:Int))).setCell ⟨rb,1,none⟩ (.int .i64 (o':Int))) (s':=⟨o',s.off,0⟩) (b:=w.heap.size) (ak (ak (aY HBF.out _) (aF _ _ _ _)) (aF _ _ _ _)) (by
    have h1:=tM (x:= .int .i64 (o':Int)) (tN (x:= .int .i64 (s.off:Int)) HFR.out.box);rw[HE.out]at h1;exact h1) ho (Nat.le_refl _) (x0:= .int .i64 qk) (x1:= .int .u64 (qu:Int)) (x2:= .int .i64 qn) (x3:= .bool qb) (x4:= .string qs) (x5:= .int .i64 qm)
   exact⟨by exact rfl,hfin.1,hfin.2⟩
  ·have e1:(er != 0)=true:=by simp[hz]
   have HZ:=ab hz;have hl1:rb≠w.heap.size:=by omega
   clear hz;go_wp2_with fail;refine oa (b:=w.heap.size) (bn HF8.out hl1.symm _) (by kernel_rfl) (by kernel_rfl) ?_;have hfin:=HR.out.fin (wf:=wf.setCell ⟨rb,3,none⟩ (.int .i64 er)) (s':=⟨s.off,s.last,er⟩) (b:=w.heap.size) (ak (aY HBF.out _) (aF _ _ _ _)) (tO HFR.out.box) HR.out.le (Nat.le_refl _) (x0:= .int .i64 K) (x1:= .int .u64 0) (x2:= .int .i64 0) (x3:= .bool false) (x4:= .string ⟨#[]⟩) (x5:= .int .i64 most)
   have hcp:lL ⟨qk,qu,qn,qb,qs,qm⟩ o' er K most s=(⟨K,0,0,false,⟨#[]⟩,most⟩,⟨s.off,s.last,er⟩):=by unfold lL; rw[if_neg HZ.out]
   rw[hcp];exact⟨by exact rfl,hfin.1,hfin.2⟩
 ·refine yL 15 rfl rfl (fun K hK=> ?_);go_wp2_with fail;obtain⟨w2,hw2⟩: ∃w2,w2=W2.alloc (.cells #[.int .i64 0, .int .u64 0, .int .i64 0, .bool false, .string ⟨#[]⟩, .int .i64 0] 96):=⟨_,rfl⟩;rw[<-hw2];have hb2:Below W2.heap.size W2 w2:=by rw[hw2]; exact(Below.refl _ _).alloc (Nat.le_refl _) _
  have HN7:=ab (show w2.heap[W2.heap.size]? =some (.cells #[.int .i64 0, .int .u64 0, .int .i64 0, .bool false, .string ⟨#[]⟩, .int .i64 0] 96 (0,0)) by rw[hw2]; exact bN _ _);obtain⟨b8,hb8⟩: ∃b8,b8=W2.heap.size:=⟨_,rfl⟩;have HL8:=ab (show w.heap.size+1<b8 by rw[hb8]; exact lt_of_block HY11.out);rw[<-hb8]at HN7 ⊢;clear hw2 hb8;have HB3:=ab (ag HB2.out hb2)
  have HR3:=ab (HR.out.below HB3.out);have HX8:=ab ((hb2.block _ (lt_of_block HY8.out)).trans HY8.out);have HX11:=ab ((hb2.block _ (lt_of_block HY11.out)).trans HY11.out);clear c0 c1 c2 c3;have c0:=ah (k:=0) HR3.out.box;have c1:=ah (k:=1) HR3.out.box;have c2:=ah (k:=2) HR3.out.box;have c3:=ah (k:=3) HR3.out.box;simp only[aN]at c0 c1 c2 c3;refine⟨⟨c0,c1⟩, ?_⟩
  refine ar 10 rfl (by kernel_rfl) rfl (fun K hK=> ?_);go_wp2_with (go_at_call 114; refine(HRD.out _ HR3.out.row).mono ?_; rintro e w1 ⟨rfl,hb1⟩; simp only[rvV]);have HN8:=ab ((hb1.block _ (lt_of_block HN7.out)).trans HN7.out);have HB4:=ab (ag HB3.out hb1);have HR4:=ab (HR.out.below HB4.out);have HW8:=ab ((hb1.block _ (lt_of_block HX8.out)).trans HX8.out);have HW11:=ab ((hb1.block _ (lt_of_block HX11.out)).trans HX11.out)
  clear c0 c1 c2 c3;have c0:=ah (k:=0) HR4.out.box;have c1:=ah (k:=1) HR4.out.box;have c2:=ah (k:=2) HR4.out.box;have c3:=ah (k:=3) HR4.out.box;simp only[aN]at c0 c1 c2 c3;refine⟨⟨c0,c1⟩, ?_⟩;refine af 11 rfl (by kernel_rfl) (by kernel_rfl) (by kernel_rfl) (fun _ _ _ h=>h) rfl (by go_simp) (by rintro w' ⟨hw1,hw2⟩; go_simp; rfl) ?_;simp only[Act.put,aA,aB,aC]
  refine af 12 rfl (by kernel_rfl) (by kernel_rfl) (by kernel_rfl) (fun _ _ _ h=>h) rfl (by go_simp) (by rintro w' ⟨hw1,hw2⟩; go_simp; rfl) ?_;simp only[Act.put,aA,aB,aC];refine af 13 rfl (by kernel_rfl) (by kernel_rfl) (by kernel_rfl) (fun _ _ _ h=>h) rfl (by go_simp) (by rintro w' ⟨hw1,hw2⟩; go_simp; rfl) ?_;simp only[Act.put,aA,aB,aC];refine af 14 rfl (by kernel_rfl) (by kernel_rfl) (by kernel_rfl) (fun _ _ _ h=>h) rfl (by go_simp) (by rintro w' ⟨hw1,hw2⟩; go_simp; rfl) ?_
  simp only[Act.put,aA,aB,aC];have m0:=ah (k:=0) HN8.out;have m1:=ah (k:=1) HN8.out;have m2:=ah (k:=2) HN8.out;have m3:=ah (k:=3) HN8.out;have m4:=ah (k:=4) HN8.out;have m5:=ah (k:=5) HN8.out;simp only[aN]at m0 m1 m2 m3 m4 m5;have p0:=ai (k:=0) HN8.out;have p1:=ai (k:=1) HN8.out;have p2:=ai (k:=2) HN8.out;have p3:=ai (k:=3) HN8.out
  have p4:=ai (k:=4) HN8.out;have p5:=ai (k:=5) HN8.out;refine ar 16 rfl (by kernel_rfl) rfl (fun K hK=> ?_);go_wp2_with fail;obtain⟨wf,hwf⟩: ∃wf,wf=((((((w1.setCell ⟨b8,0,none⟩ (.int .i64 qk)).setCell ⟨b8,1,none⟩ (.int .u64 (qu:Int))).setCell ⟨b8,2,none⟩ (.int .i64 qn)).setCell ⟨b8,3,none⟩ (.bool qb)).setCell ⟨b8,4,none⟩ (.string qs)).setCell ⟨b8,5,none⟩ (.int .i64 qm)):=⟨_,rfl⟩
  rw[<-hwf];have HBF:=ab (show Below w.heap.size w wf by rw[hwf]; exact BX HB4.out (by have:=HL8.out; omega));have HF8:=ab (show wf.heap[w.heap.size]? =some _ by rw[hwf]; exact tC HW8.out (by have:=HL8.out; omega));have HF11:=ab (show wf.heap[w.heap.size+1]? =some _ by rw[hwf]; exact tC HW11.out (by have:=HL8.out; omega));have HFN:=ab (show wf.heap[b8]? =some _ by rw[hwf]; exact Fh HN8.out)
  have HFR:=ab (HR.out.below HBF.out);clear hwf m0 m1 m2 m3 m4 m5 p0 p1 p2 p3 p4 p5 c0 c1 c2 c3;have c0:=ah (k:=0) HFR.out.box;have c1:=ah (k:=1) HFR.out.box;have c2:=ah (k:=2) HFR.out.box;have c3:=ah (k:=3) HFR.out.box;simp only[aN]at c0 c1 c2 c3;refine⟨⟨c0,c1⟩, ?_⟩;refine af 17 rfl (by kernel_rfl) (by kernel_rfl) (by kernel_rfl) (fun _ _ _ h=>h) rfl (by go_simp) (by rintro w' ⟨hw1,hw2⟩; go_simp; rfl) ?_
  simp only[Act.put,aA,aB,aC];refine af 18 rfl (by kernel_rfl) (by kernel_rfl) (by kernel_rfl) (fun _ _ _ h=>h) rfl (by go_simp) (by rintro w' ⟨hw1,hw2⟩; go_simp; rfl) ?_;simp only[Act.put,aA,aB,aC];refine aV (by kernel_rfl) ?_;rw[HE.out]at c3;have f1:=ai (k:=1) HFR.out.box;have f2:=ai (k:=2) HFR.out.box;have f3:=ai (k:=3) HFR.out.box;have m0:=ah (k:=0) HF8.out
  have m1:=ah (k:=1) HF8.out;have m2:=ah (k:=2) HF8.out;have m3:=ah (k:=3) HF8.out;have m4:=ah (k:=4) HF8.out;have m5:=ah (k:=5) HF8.out;simp only[aN]at m0 m1 m2 m3 m4 m5;have p0:=ai (k:=0) HF8.out;have p1:=ai (k:=1) HF8.out;have p2:=ai (k:=2) HF8.out;have p3:=ai (k:=3) HF8.out;have p4:=ai (k:=4) HF8.out;have p5:=ai (k:=5) HF8.out
  have k0:=ah (k:=0) HF11.out;have k1:=ah (k:=1) HF11.out;have k2:=ah (k:=2) HF11.out;have k3:=ah (k:=3) HF11.out;have k4:=ah (k:=4) HF11.out;have k5:=ah (k:=5) HF11.out;simp only[aN]at k0 k1 k2 k3 k4 k5;have n0:=ah (k:=0) HFN.out;have n1:=ah (k:=1) HFN.out;have n2:=ah (k:=2) HFN.out;have n3:=ah (k:=3) HFN.out;have n4:=ah (k:=4) HFN.out
  have n5:=ah (k:=5) HFN.out;simp only[aN]at n0 n1 n2 n3 n4 n5
  by_cases hz:er=0
  ·subst hz;have hl1:rb≠w.heap.size:=by omega
   have hl2:rb≠b8:=by have:=HL8.out; omega
   have hl3:b8≠w.heap.size:=by have:=HL8.out; omega
   go_wp2_with fail;refine oa (b:=w.heap.size) (bn (bn HF8.out hl1.symm _) hl1.symm _) (by kernel_rfl) (by kernel_rfl) ?_;have hfin:=HR.out.fin (wf:=(wf.setCell ⟨rb,2,none⟩ (.int .i64 (s.off:Int))).setCell ⟨rb,1,none⟩ (.int .i64 (o':Int))) (s':=⟨o',s.off,0⟩) (b:=w.heap.size) (ak (ak (aY HBF.out _) (aF _ _ _ _)) (aF _ _ _ _)) (by
    have h1:=tM (x:= .int .i64 (o':Int)) (tN (x:= .int .i64 (s.off:Int)) HFR.out.box);rw[HE.out]at h1;exact h1) ho (Nat.le_refl _) (x0:= .int .i64 qk) (x1:= .int .u64 (qu:Int)) (x2:= .int .i64 qn) (x3:= .bool qb) (x4:= .string qs) (x5:= .int .i64 qm)
   exact⟨by exact rfl,hfin.1,hfin.2⟩
  ·have e1:(er != 0)=true:=by simp[hz]
   have HZ:=ab hz;have hl1:rb≠w.heap.size:=by omega
   clear hz;go_wp2_with fail;refine oa (b:=w.heap.size) (bn HF8.out hl1.symm _) (by kernel_rfl) (by kernel_rfl) ?_;have hfin:=HR.out.fin (wf:=wf.setCell ⟨rb,3,none⟩ (.int .i64 er)) (s':=⟨s.off,s.last,er⟩) (b:=w.heap.size) (ak (aY HBF.out _) (aF _ _ _ _)) (tO HFR.out.box) HR.out.le (Nat.le_refl _) (x0:= .int .i64 K) (x1:= .int .u64 0) (x2:= .int .i64 0) (x3:= .bool false) (x4:= .string ⟨#[]⟩) (x5:= .int .i64 most)
   have hcp:lL ⟨qk,qu,qn,qb,qs,qm⟩ o' er K most s=(⟨K,0,0,false,⟨#[]⟩,most⟩,⟨s.off,s.last,er⟩):=by unfold lL; rw[if_neg HZ.out]
   rw[hcp];exact⟨by exact rfl,hfin.1,hfin.2⟩
theorem BH (rb:Nat) (v:Value) (data:List UInt8) (s:RS) (K most:Int) (w:World) (hr:cr w rb v data s) (he: ¬s.err=0):
  Calls Tryz.prog 65 #[.pointer (some ⟨rb,0,none⟩), .int .i64 K, .int .i64 most] w (kU (⟨K,0,0,false,⟨#[]⟩,most⟩,s) rb v data w):=by
 have HR:=ab hr;have hlt:=hr.lt;have c3:=ah (k:=3) hr.box;simp only[aN]at c3;have e1:(s.err != 0)=true:=by simp[he]
 clear he hr
 go_enter Tryz.func65,Tryz.ntmps65
 go_wp2_with fail;refine bodyPost_ret (yV (b:=w.heap.size) (cH (bN _ _) _) (by kernel_rfl)) (by kernel_rfl) ?_;refine⟨by exact rfl,HR.out.below ?_,aY ?_ _⟩
 ·exact((Below.refl w.heap.size w).alloc (Nat.le_refl _) _).alloc (by simp) _
 ·exact((Below.refl w.heap.size w).alloc (Nat.le_refl _) _).alloc (by simp) _
theorem lG {α:Type} (rb:Nat) (v:Value) (data:List UInt8) (s:RS) (K most:Int) (val:α->jg) (REX:Except Int (α×Nat)) (w:World) (hr:cr w rb v data s) (hK:(K == 0)=false)
  (hrd: ∀W,aD (· ≠rb) W v data->Calls Tryz.prog 114 #[v, .int .i64 (s.off:Int), .int .i64 K, .int .i64 most] W (lF ⟨K,0,0,false,⟨#[]⟩,most⟩ val s.off REX W))
  (hok: ∀x o,REX= .ok (x,o)->o<=data.length) (herr: ∀y,REX= .error y-> ¬y=0):
  Calls Tryz.prog 65 #[.pointer (some ⟨rb,0,none⟩), .int .i64 K, .int .i64 most] w (kU (rr ⟨K,0,0,false,⟨#[]⟩,most⟩ val REX s) rb v data w):=by
 by_cases he:s.err=0
 ·cases REX with
  | error y=>
   have h:=qU rb v data s K most ⟨K,0,0,false,⟨#[]⟩,most⟩ s.off y w hr hK he hr.le hrd;have h1:lL ⟨K,0,0,false,⟨#[]⟩,most⟩ s.off y K most s=rr ⟨K,0,0,false,⟨#[]⟩,most⟩ val (.error y) s:=by
    unfold lL rr; rw[if_neg (herr y rfl),if_pos he]
   rw[h1]at h; exact h
  | ok p=>
   obtain⟨x,o⟩:=p;have h:=qU rb v data s K most (val x) o 0 w hr hK he (hok x o rfl) hrd;have h1:lL (val x) o 0 K most s=rr ⟨K,0,0,false,⟨#[]⟩,most⟩ val (.ok (x,o)) s:=by
    unfold lL rr; rw[if_pos rfl,if_pos he]
   rw[h1]at h; exact h
 ·have h1:rr ⟨K,0,0,false,⟨#[]⟩,most⟩ val REX s=(⟨K,0,0,false,⟨#[]⟩,most⟩,s):=by unfold rr; rw[if_neg he]
  rw[h1];exact BH rb v data s K most w hr he
theorem wy {data:List UInt8} {off n o:Nat} {bs:List UInt8} (h0:off<=data.length) (h:cK data off n= .ok (bs,o)):o<=data.length:=by
 unfold cK at h
 split at h
 ·simp at h
 ·simp only[Except.ok.injEq,Prod.mk.injEq]at h; omega
theorem zz {data:List UInt8} {off most o:Nat} {bs:List UInt8} (h:cu data off most= .ok (bs,o)):o<=data.length:=by
 unfold cu at h
 cases hl:dQ data off most with
 | error y=>rw[hl]at h; simp at h
 | ok p=>
  obtain⟨n,o1⟩:=p;rw[hl]at h;exact wy (eX hl).2.2 h
def nz (data:List UInt8) (s:RS):jg×RS:=rr ⟨1,0,0,false,⟨#[]⟩,0⟩ (fun n=>⟨1,n,0,false,⟨#[]⟩,0⟩) (eu data s.off) s
def lu (data:List UInt8) (most:Nat) (s:RS):jg×RS:=rr ⟨5,0,0,false,⟨#[]⟩,most⟩ (fun bs:List UInt8=>⟨5,0,0,false,⟨bs.toArray⟩,most⟩) (cu data s.off most) s
def vU (data:List UInt8) (s:RS):jg×RS:=rr ⟨6,0,0,false,⟨#[]⟩,0⟩ (fun bs:List UInt8=>⟨6,0,0,false,⟨bs.toArray⟩,0⟩) (cK data s.off 32) s
def jG (data:List UInt8) (most:Nat) (s:RS):jg×RS:=rr ⟨7,0,0,false,⟨#[]⟩,most⟩ (fun n:Nat=>⟨7,0,(n:Int),false,⟨#[]⟩,most⟩) (dQ data s.off most) s
theorem Do (rb:Nat) (v:Value) (data:List UInt8) (s:RS) (w:World) (hr:cr w rb v data s):
  Calls Tryz.prog 65 #[.pointer (some ⟨rb,0,none⟩), .int .i64 1, .int .i64 0] w (kU (nz data s) rb v data w):=
 lG rb v data s 1 0 _ _ w hr rfl (fun W h=>Av _ v data s.off W h hr.le hr.small) (fun _ _ h=>(ew h).2.2) (fun _ h=>lV h)
theorem Gf (rb:Nat) (v:Value) (data:List UInt8) (most:Nat) (s:RS) (w:World) (hr:cr w rb v data s) (hm:most<=32768):
  Calls Tryz.prog 65 #[.pointer (some ⟨rb,0,none⟩), .int .i64 5, .int .i64 (most:Int)] w (kU (lu data most s) rb v data w):=
 lG rb v data s 5 most _ _ w hr rfl (fun W h=>Aw _ v data s.off most W h hr.le hr.small hm) (fun _ _ h=>zz h) (fun _ h=>kt h)
theorem Ge (rb:Nat) (v:Value) (data:List UInt8) (s:RS) (w:World) (hr:cr w rb v data s):
  Calls Tryz.prog 65 #[.pointer (some ⟨rb,0,none⟩), .int .i64 6, .int .i64 0] w (kU (vU data s) rb v data w):=
 lG rb v data s 6 0 _ _ w hr rfl (fun W h=>Ay _ v data s.off W h hr.le hr.small) (fun _ _ h=>wy hr.le h) (fun _ h=>jc h)
theorem Gb (rb:Nat) (v:Value) (data:List UInt8) (most:Nat) (s:RS) (w:World) (hr:cr w rb v data s) (hm:most<=32768):
  Calls Tryz.prog 65 #[.pointer (some ⟨rb,0,none⟩), .int .i64 7, .int .i64 (most:Int)] w (kU (jG data most s) rb v data w):=
 lG rb v data s 7 most _ _ w hr rfl (fun W h=>Az _ v data s.off most W h hr.le hr.small hm) (fun _ _ h=>(eX h).2.2) (fun _ h=>ij h)
def xh (n:Nat):Int:=if 1125899906842624<n then -1 else(n:Int)
def fy (data:List UInt8) (s:RS):Int×RS:=(xh (nz data s).1.u,(nz data s).2)
theorem Dn (data:List UInt8) (s:RS):(nz data s).1.u<18446744073709551616:=by
 unfold nz rr
 split
 ·cases h:eu data s.off with
  | error y=>show(0:Nat)<_; decide
  | ok p=>exact(ew h).1
 ·show(0:Nat)<_; decide
theorem jR (rb:Nat) (v:Value) (data:List UInt8) (s:RS) (w:World) (hr:cr w rb v data s):
  Calls Tryz.prog 66 #[.pointer (some ⟨rb,0,none⟩)] w fun e w'=>e= .returned (.int .i64 (fy data s).1)/\cr w' rb v data (fy data s).2/\w.grownBy w' (some rb):=by
 have HR:=ab hr;clear hr
 go_enter Tryz.func66,Tryz.ntmps66
 go_wp2_with fail;refine(Do rb v data s w HR.out).mono ?_;rintro e w1 ⟨rfl,h1,h2⟩;have H1:=ab h1;have H2:=ab h2;have hu:=Dn data s;obtain⟨p,hp⟩: ∃p,p=nz data s:=⟨_,rfl⟩;have HP:=ab hp;rw[<-hp]at H1 hu ⊢;clear hp h1 h2;obtain⟨⟨k,u,n,b,t,m⟩,s'⟩:=p;simp only[rvV]at hu ⊢
 by_cases hn:1125899906842624<u
 ·have HT:=ab (show(fy data s).1= -1 by unfold fy; rw[<-HP.out]; unfold xh; rw[if_pos hn]);have HS:=ab (show(fy data s).2=s' by unfold fy; rw[<-HP.out]);go_wp2_with fail;go_ret;exact⟨by rw[HT.out]; rfl,by rw[HS.out]; exact H1.out.below ((Below.refl _ _).alloc (Nat.le_refl _) _),ak H2.out (aY ((Below.refl _ _).alloc (Nat.le_refl _) _) _)⟩
 ·have HT:=ab (show(fy data s).1=(u:Int) by unfold fy; rw[<-HP.out]; unfold xh; rw[if_neg hn]);have HS:=ab (show(fy data s).2=s' by unfold fy; rw[<-HP.out]);go_wp2_with fail;go_ret;exact⟨by rw[HT.out]; rfl,by rw[HS.out]; exact H1.out.below ((Below.refl _ _).alloc (Nat.le_refl _) _),ak H2.out (aY ((Below.refl _ _).alloc (Nat.le_refl _) _) _)⟩
theorem rz (rb:Nat) (v:Value) (data:List UInt8) (s:RS) (w:World) (hr:cr w rb v data s):
  Calls Tryz.prog 68 #[.pointer (some ⟨rb,0,none⟩)] w fun e w'=>(∃p:Int,e= .returned (.tuple #[.int .i64 p, .int .i64 (fh data s)]))/\Below w.heap.size w w':=by
 obtain⟨_,a,cap,rfl,hc,hcm,-⟩:=hr.row;unfold maxLen at hcm;have c0:=ah (k:=0) hr.box;have c1:=ah (k:=1) hr.box;have c2:=ah (k:=2) hr.box;have c3:=ah (k:=3) hr.box;simp only[aN]at c0 c1 c2 c3;have hsm:=hr.small;have hle:=hr.le;clear hr
 by_cases he:s.err=0
 ·rw[he]at c3;have HE:=ab he;clear he
  by_cases hl:s.off<data.length
  ·have HR:=ab (show fh data s=3 by unfold fh; rw[if_pos HE.out,if_pos hl])
   go_enter Tryz.func68,Tryz.ntmps68
   go_wp2_with fail
   go_quiet (fail)
   go_wp2_with fail
   go_ret2
   exact⟨⟨(s.off:Int),by rw[HR.out]; rfl⟩,by first | exact bp (bp (Below.refl _ _) _) _ | exact bp (Below.refl _ _) _⟩
  ·have HR:=ab (show fh data s=0 by unfold fh; rw[if_pos HE.out,if_neg hl])
   go_enter Tryz.func68,Tryz.ntmps68
   go_wp2_with fail
   go_quiet (fail)
   go_wp2_with fail
   go_quiet (fail)
   go_wp2_with fail
   go_ret2
   exact⟨⟨(s.off:Int),by rw[HR.out]; rfl⟩,by first | exact bp (bp (Below.refl _ _) _) _ | exact bp (Below.refl _ _) _⟩
 ·have HR:=ab (show fh data s=s.err by unfold fh; rw[if_neg he])
  go_enter Tryz.func68,Tryz.ntmps68
  go_wp2_with fail
  go_quiet (fail)
  go_wp2_with fail
  go_quiet (fail)
  go_wp2_with fail
  go_ret2
  exact⟨⟨(s.off:Int),by rw[HR.out]; rfl⟩,by first | exact bp (bp (Below.refl _ _) _) _ | exact bp (Below.refl _ _) _⟩
def gP (data:List UInt8) (s:RS):aG×RS:=
 (⟨(vU data s).1.s,(fy data (vU data s).2).1,(fy data (fy data (vU data s).2).2).1⟩,(fy data (fy data (vU data s).2).2).2)
theorem set3 {w:World} {b:Nat} {a0 a1 a2 x0 x1 x2:Value} {t:TypeId} (h:w.heap[b]? =some (.cells #[a0,a1,a2] t (0,0))):
  (((w.setCell ⟨b,0,none⟩ x0).setCell ⟨b,1,none⟩ x1).setCell ⟨b,2,none⟩ x2).heap[b]? =some (.cells #[x0,x1,x2] t (0,0)):=cI (cI (cI h x0) x1) x2
theorem AC {a:Act} {w:World} {b:Nat} {a0 a1 a2 x0 x1 x2:Value} {Q:Ending->World->Prop} (h:w.heap[b]? =some (.cells #[a0,a1,a2] 26 (0,0)))
  (h2:a.tmps[2]? =some (.pointer (some ⟨b,0,none⟩))) (hd:a.defers=[])
  (hQ:Q (.returned (.agg #[x0,x1,x2])) (((w.setCell ⟨b,0,none⟩ x0).setCell ⟨b,1,none⟩ x1).setCell ⟨b,2,none⟩ x2)):
  bodyPost Tryz.prog Tryz.f67 Q Exit.ret a (((w.setCell ⟨b,0,none⟩ x0).setCell ⟨b,1,none⟩ x1).setCell ⟨b,2,none⟩ x2):=by
 have hs:=set3 (x0:=x0) (x1:=x1) (x2:=x2) h
 revert hQ
 generalize (((w.setCell ⟨b,0,none⟩ x0).setCell ⟨b,1,none⟩ x1).setCell ⟨b,2,none⟩ x2)=w3 at hs
 intro hQ;have m0:=ah (k:=0) hs;have m1:=ah (k:=1) hs;have m2:=ah (k:=2) hs;simp only[aN]at m0 m1 m2;exact bodyPost_ret (by simp[results,Tryz.results67,go_sem,h2,m0,m1,m2]) hd hQ
theorem AB (rb:Nat) (v:Value) (data:List UInt8) (s:RS) (w:World) (hr:cr w rb v data s):
  Calls Tryz.prog 67 #[.pointer (some ⟨rb,0,none⟩)] w fun e w'=>e= .returned (aX (gP data s).1)/\cr w' rb v data (gP data s).2/\w.grownBy w' (some rb):=by
 have HR:=ab hr;have hlt:=hr.lt;clear hr
 go_enter Tryz.func67,Tryz.ntmps67
 go_wp2_with fail;refine(Ge rb v data s _ (HR.out.below ((Below.refl _ _).alloc (Nat.le_refl _) _))).mono ?_;rintro e w1 ⟨rfl,h1,h2⟩;have H1:=ab h1;have hz:=wj h2;simp at hz;have HB:=ab (dE h2 (bN w _) (by omega));have HG:=ab (ak (aY ((Below.refl _ _).alloc (Nat.le_refl _) _) (some rb)) h2);clear h1 h2;obtain⟨p,hp⟩: ∃p,p=vU data s:=⟨_,rfl⟩
 have HP:=ab hp;rw[<-hp]at H1 ⊢;clear hp;obtain⟨⟨pk,pu,pn,pb,pt,pm⟩,s1⟩:=p;simp only[rvV];have hfd: ∀w:World,(Instr.field 96 (.agg #[.int .i64 pk, .int .u64 (pu:Int), .int .i64 pn, .bool pb, .string pt, .int .i64 pm]) 4).run Tryz.prog w= .ok (.string pt) w:=fun _=>by kernel_rfl
 go_wp2_with fail;refine(jR rb v data s1 _ H1.out).mono ?_;rintro e w2 ⟨rfl,h1,h2⟩;have H2:=ab h1;have hz2:=wj h2;have HB2:=ab (dE h2 HB.out (by omega));have HG2:=ab (ak HG.out h2);clear h1 h2;go_wp2_with fail;refine(jR rb v data (fy data s1).2 _ H2.out).mono ?_;rintro e w3 ⟨rfl,h1,h2⟩;have H3:=ab h1;have HB3:=ab (dE h2 HB2.out (by omega))
 have HG3:=ab (ak HG2.out h2);clear h1 h2;have b0:=ah (k:=0) HB3.out;have b1:=ah (k:=1) HB3.out;have b2:=ah (k:=2) HB3.out;have g0:=ai (k:=0) HB3.out;have g1:=ai (k:=1) HB3.out;have g2:=ai (k:=2) HB3.out;simp only[aN]at b0 b1 b2;obtain⟨i1,hi1⟩: ∃i1,i1=(fy data s1).1:=⟨_,rfl⟩;obtain⟨i2,hi2⟩: ∃i2,i2=(fy data (fy data s1).2).1:=⟨_,rfl⟩
 rw[<-hi1,<-hi2];have HI1:=ab hi1;have HI2:=ab hi2;clear hi1 hi2;go_wp2_with fail;refine AC HB3.out (by kernel_rfl) (by kernel_rfl) ?_;have e1:(vU data s).2=s1:=by rw[<-HP.out]
 have e2:(vU data s).1.s=pt:=by rw[<-HP.out]
 have h6:=bY (bY (bY HG3.out (Nat.le_refl _) (k:=0) (.string pt)) (Nat.le_refl _) (k:=1) (.int .i64 i1)) (Nat.le_refl _) (k:=2) (.int .i64 i2);have hne:rb≠w.heap.size:=by omega
 refine⟨?_, ?_,h6⟩
 ·unfold gP; rw[e1,e2,<-HI1.out,<-HI2.out]; rfl
 ·have e3:(gP data s).2=(fy data (fy data s1).2).2:=by unfold gP; rw[e1]
  rw[e3];exact HR.out.grown h6 (bn (bn (bn H3.out.box hne _) hne _) hne _) H3.out.le
def iy (s t:RS):Prop:=(s.err=0<->t.err=0)/\(s.err=0->s.off=t.off)
theorem iy.start :iy ⟨0,0,0⟩ ⟨0,0,0⟩:=⟨Iff.rfl,fun _=>rfl⟩
theorem mg {α:Type} {z:jg} {val:α->jg} {z0:α} (f:Nat->Except Int (α×Nat)) (hz:z=val z0) (hne: ∀o y,f o= .error y-> ¬y=0) {s t:RS} (h:iy s t):
  (rr z val (f s.off) s).1=val (rv z0 (f t.off) t).1/\iy (rr z val (f s.off) s).2 (rv z0 (f t.off) t).2:=by
 unfold rr rv
 by_cases he:s.err=0
 ·rw[if_pos he,if_pos (h.1.1 he),h.2 he]
  cases hf:f t.off with
  | error y=>exact⟨hz,⟨fun e=>absurd e (hne _ _ hf),fun e=>absurd e (hne _ _ hf)⟩,fun e=>absurd e (hne _ _ hf)⟩
  | ok p=>exact⟨rfl,Iff.rfl,fun _=>rfl⟩
 ·rw[if_neg he,if_neg (fun e=>he (h.1.2 e))];exact⟨hz,h⟩
theorem Dx {data:List UInt8} {s t:RS} (h:iy s t):(nz data s).1.u=(kk data t).1/\iy (nz data s).2 (kk data t).2:=by
 have:=mg (z0:=(0:Nat)) (val:=fun n=>⟨1,n,0,false,⟨#[]⟩,0⟩) (fun o=>eu data o) rfl (fun _ _ h=>lV h) h;exact⟨by have h1:=this.1; unfold nz kk; rw[h1],this.2⟩
theorem wh {data:List UInt8} {most:Nat} {s t:RS} (h:iy s t):(lu data most s).1.s=⟨(qO data most t).1.toArray⟩/\iy (lu data most s).2 (qO data most t).2:=by
 have:=mg (z0:=([]:List UInt8)) (val:=fun bs:List UInt8=>⟨5,0,0,false,⟨bs.toArray⟩,most⟩) (fun o=>cu data o most) rfl (fun _ _ h=>kt h) h;exact⟨by have h1:=this.1; unfold lu qO; rw[h1],this.2⟩
theorem Fy {data:List UInt8} {s t:RS} (h:iy s t):(vU data s).1.s=⟨(Bz data t).1.toArray⟩/\iy (vU data s).2 (Bz data t).2:=by
 have:=mg (z0:=([]:List UInt8)) (val:=fun bs:List UInt8=>⟨6,0,0,false,⟨bs.toArray⟩,0⟩) (fun o=>cK data o 32) rfl (fun _ _ h=>jc h) h;exact⟨by have h1:=this.1; unfold vU Bz; rw[h1],this.2⟩
theorem Fx {data:List UInt8} {most:Nat} {s t:RS} (h:iy s t):(jG data most s).1.n=((kY data most t).1:Int)/\iy (jG data most s).2 (kY data most t).2:=by
 have:=mg (z:=⟨7,0,0,false,⟨#[]⟩,most⟩) (z0:=(0:Nat)) (val:=fun n:Nat=>⟨7,0,(n:Int),false,⟨#[]⟩,most⟩) (fun o=>dQ data o most) rfl (fun _ _ h=>ij h) h;exact⟨by have h1:=this.1; unfold jG kY; rw[h1],this.2⟩
def gx (a b:Int):Prop:=a=b\/(a= -1/\(b<0\/1125899906842624<b))
theorem DM (data:List UInt8) (s:RS):(kk data s).1<18446744073709551616:=by
 unfold kk rv
 split
 ·cases h:eu data s.off with
  | error y=>show(0:Nat)<_; decide
  | ok p=>exact(ew h).1
 ·show(0:Nat)<_; decide
theorem ES {n:Nat} (h:n<18446744073709551616):gx (xh n) (eY n):=by
 unfold gx xh eY wrap64
 split<;> omega
theorem sw {data:List UInt8} {s t:RS} (h:iy s t):gx (fy data s).1 (eY (kk data t).1)/\iy (fy data s).2 (kk data t).2:=by
 obtain⟨h1,h2⟩:=Dx (data:=data) h;exact⟨by unfold fy; rw[h1]; exact ES (DM data t),h2⟩
def wI (a b:aG):Prop:=a.name=b.name/\gx a.gen b.gen/\gx a.size b.size
theorem zf {data:List UInt8} {s t:RS} (h:iy s t):wI (gP data s).1 (iG data t).1/\iy (gP data s).2 (iG data t).2:=by
 obtain⟨h1,h2⟩:=Fy (data:=data) h;obtain⟨h3,h4⟩:=sw (data:=data) h2;obtain⟨h5,h6⟩:=sw (data:=data) h4;exact⟨⟨h1,h3,h5⟩,h6⟩
theorem lX {a b:aG} (h:wI a b):dw a=dw b:=by
 obtain⟨h1,h2,h3⟩:=h;unfold dw;rw[h1];unfold gx at h2 h3;rw[Bool.eq_iff_iff];simp only[Bool.and_eq_true,decide_eq_true_eq]
 constructor<;> (rintro⟨⟨⟨⟨k1,k2⟩,k3⟩,k4⟩,k5⟩; exact⟨⟨⟨⟨k1,by omega⟩,by omega⟩,by omega⟩,by omega⟩)
theorem kC {a b:aG} (h:wI a b) (hv:dw a=true):a=b:=by
 obtain⟨h1,h2,h3⟩:=h;unfold gx at h2 h3;simp only[dw,Bool.and_eq_true,decide_eq_true_eq]at hv;obtain⟨n,g,z⟩:=a;obtain⟨n',g',z'⟩:=b;simp only at *;subst h1;have:g=g':=by omega
 have:z=z':=by omega
 subst_vars
 rfl
def bW (data:List UInt8):Nat->List aG->RS->List aG×RS
 | 0,l,s=>(l,s)
 | k+1,l,s=>if s.err=0 then bW data k (l++[(gP data s).1]) (gP data s).2 else(l,s)
def cY (data:List UInt8) (nm:ByteArray) (kd md td:Int) (s:RS):aE×RS:=
 if kd=1 then(⟨nm,kd,md,td,dt (bW data (jG data 32768 s).1.n.toNat [] (jG data 32768 s).2).1,⟨#[]⟩,(bW data (jG data 32768 s).1.n.toNat [] (jG data 32768 s).2).1,bi⟩,(bW data (jG data 32768 s).1.n.toNat [] (jG data 32768 s).2).2)
 else if kd=2 then(⟨nm,kd,md,td,0,⟨#[]⟩,[],(gP data s).1⟩,(gP data s).2)
 else(⟨nm,kd,md,td,0,(lu data 512 s).1.s,[],bi⟩,(lu data 512 s).2)
def mB (data:List UInt8) (nm:ByteArray) (kd md:Int) (td:Nat) (s:RS):Option (aE×RS):=
 if 9223372036854775807<td then none else some (cY data nm kd md td s)
def kM (data:List UInt8) (s:RS):Option (aE×RS):=
 mB data (lu data 64 s).1.s (fy data (lu data 64 s).2).1 (fy data (fy data (lu data 64 s).2).2).1 (nz data (fy data (fy data (lu data 64 s).2).2).2).1.u (nz data (fy data (fy data (lu data 64 s).2).2).2).2
def cw (data:List UInt8):Nat->List aE->RS->Option (List aE×RS)
 | 0,l,s=>some (l,s)
 | n+1,l,s=>if s.err=0 then(kM data s).bind fun p=>cw data n (l++[p.1]) p.2 else some (l,s)
def CN (data:List UInt8):Option (List aE):=
 if 32768<data.length then none else
 (cw data (jG data 4096 ⟨0,0,0⟩).1.n.toNat [] (jG data 4096 ⟨0,0,0⟩).2).bind fun p=>if fh data p.2=0/\cd p.1=true then some p.1 else none
theorem tK {α:Type} {z:jg} {val:α->jg} {r:Except Int (α×Nat)} {s:RS} (hne: ∀y,r= .error y-> ¬y=0) (h:(rr z val r s).2.err=0):s.err=0/\ ∃x o,r= .ok (x,o)/\(rr z val r s).2.off=o/\(rr z val r s).1=val x:=by
 unfold rr at h ⊢
 by_cases he:s.err=0
 ·rw[if_pos he]at h ⊢
  cases r with
  | error y=>exact absurd h (hne y rfl)
  | ok p=>exact⟨he,p.1,p.2,rfl,rfl,rfl⟩
 ·rw[if_neg he]at h;exact absurd h he
theorem pV {α:Type} {z:α} {r:Except Int (α×Nat)} {s:RS} (hne: ∀y,r= .error y-> ¬y=0) (h:(rv z r s).2.err=0):s.err=0/\ ∃x o,r= .ok (x,o)/\(rv z r s).2.off=o/\(rv z r s).1=x:=by
 unfold rv at h ⊢
 by_cases he:s.err=0
 ·rw[if_pos he]at h ⊢
  cases r with
  | error y=>exact absurd h (hne y rfl)
  | ok p=>exact⟨he,p.1,p.2,rfl,rfl,rfl⟩
 ·rw[if_neg he]at h;exact absurd h he
theorem Gd {data:List UInt8} {s:RS} (h:(vU data s).2.err=0):s.err=0/\(s.off<=data.length->s.off+32<=(vU data s).2.off/\(vU data s).2.off<=data.length):=by
 obtain⟨h1,x,o,h2,h3,_⟩:=tK (fun _ h=>jc h) h;refine⟨h1,fun hle=> ?_⟩;unfold vU;rw[h3];unfold cK at h2
 split at h2
 ·simp at h2
 ·simp only[Except.ok.injEq,Prod.mk.injEq]at h2; omega
theorem Gg {data:List UInt8} {s:RS} (h:(nz data s).2.err=0):s.err=0/\s.off+1<=(nz data s).2.off/\(nz data s).2.off<=data.length:=by
 obtain⟨h1,x,o,h2,h3,_⟩:=tK (fun _ h=>lV h) h;have h4:=ew h2;unfold nz;rw[h3];exact⟨h1,by omega,by omega⟩
theorem Cu {data:List UInt8} {s:RS} (h:(fy data s).2.err=0):s.err=0/\s.off+1<=(fy data s).2.off/\(fy data s).2.off<=data.length:=Gg h
theorem zi {data:List UInt8} {most:Nat} {s:RS} (h:(qO data most s).2.err=0):s.err=0:=(pV (fun _ h=>kt h) h).1
theorem mi {data:List UInt8} {s:RS} (h:(kk data s).2.err=0):s.err=0:=(pV (fun _ h=>lV h) h).1
theorem Fo {data:List UInt8} {s:RS} (h:(Bz data s).2.err=0):s.err=0:=(pV (fun _ h=>jc h) h).1
theorem Ez {data:List UInt8} {most:Nat} {s:RS} (h:(kY data most s).2.err=0):s.err=0:=(pV (fun _ h=>ij h) h).1
theorem Dh {data:List UInt8} {s:RS} (h:(gP data s).2.err=0):s.err=0/\(s.off<=data.length->s.off+34<=(gP data s).2.off/\(gP data s).2.off<=data.length):=by
 obtain⟨h1,h2,h3⟩:=Cu (s:=(fy data (vU data s).2).2) h;obtain⟨h4,h5,h6⟩:=Cu h1;obtain⟨h7,h8⟩:=Gd h4;refine⟨h7,fun hle=> ?_⟩;have:=h8 hle;unfold gP;simp only;omega
theorem mH {data:List UInt8} {s:RS} (h:(iG data s).2.err=0):s.err=0:=Fo (mi (mi h))
theorem gV {data:List UInt8} : ∀ {n:Nat} {l:List aG} {s:RS},(bW data n l s).2.err=0->s.err=0
 | 0,_,_,h=>h
 | n+1,l,s,h=>by
  rw[bW]at h
  split at h
  ·assumption
  ·exact h
theorem oK {data:List UInt8} : ∀ {n:Nat} {l:List aG} {s:RS} {r:aG},r∈l->r∈(bW data n l s).1
 | 0,_,_,_,h=>h
 | n+1,l,s,r,h=>by
  rw[bW]
  split
  ·exact oK (List.mem_append_left _ h)
  ·exact h
theorem oJ {data:List UInt8} : ∀ {n:Nat} {l:List aG} {s:RS},(bW data n l s).2.err=0->s.off<=data.length->s.off+34*n<=data.length
 | 0,_,_,_,h=>by omega
 | n+1,l,s,h,hle=>by
  have h0:=gV h;rw[bW,if_pos h0]at h;have h1:=(Dh (gV h)).2 hle;have h2:=oJ h h1.2;omega
def eh (data:List UInt8):Nat->List aG->RS->List aG×RS
 | 0,l,s=>(l,s)
 | k+1,l,s=>eh data k (l++[(iG data s).1]) (iG data s).2
theorem mZ (data:List UInt8): ∀(k:Nat) (l:List aG) (s:RS),eh data (k+1) l s=((eh data k l s).1++[(iG data (eh data k l s).2).1],(iG data (eh data k l s).2).2)
 | 0,_,_=>rfl
 | k+1,l,s=>by rw[eh,mZ data k]; rfl
theorem gd (data:List UInt8) (s0:RS): ∀k,dp data s0 k=eh data k [] s0
 | 0=>rfl
 | k+1=>by rw[mZ,<-gd data s0 k]; rfl
theorem gU {data:List UInt8} : ∀ {n:Nat} {l:List aG} {s:RS},(eh data n l s).2.err=0->s.err=0
 | 0,_,_,h=>h
 | n+1,_,_,h=>mH (gU (n:=n) h)
theorem oH {data:List UInt8} : ∀ {n:Nat} {l:List aG} {s:RS} {r:aG},r∈l->r∈(eh data n l s).1
 | 0,_,_,_,h=>h
 | n+1,_l,_s,_r,h=>oH (n:=n) (List.mem_append_left _ h)
theorem ut {data:List UInt8} : ∀ {n:Nat} {l:List aG} {s t:RS},iy s t->(bW data n l s).2.err=0->(∀r∈(bW data n l s).1,dw r=true)->(eh data n l t).1=(bW data n l s).1/\iy (bW data n l s).2 (eh data n l t).2
 | 0,_,_,_,hs,_,_=>⟨rfl,hs⟩
 | n+1,l,s,t,hs,he,hv=>by
  have h0:=gV he;rw[bW,if_pos h0]at he hv ⊢;obtain⟨h1,h2⟩:=zf (data:=data) hs;have h3:=kC h1 (hv _ (oK (by simp)));rw[eh,<-h3];exact ut h2 he hv
theorem oM {data:List UInt8} : ∀ {n:Nat} {l:List aG} {s t:RS},iy s t->(eh data n l t).2.err=0->(∀r∈(eh data n l t).1,dw r=true)->(bW data n l s).1=(eh data n l t).1/\iy (bW data n l s).2 (eh data n l t).2
 | 0,_,_,_,hs,_,_=>⟨rfl,hs⟩
 | n+1,l,s,t,hs,he,hv=>by
  rw[eh]at he hv ⊢;obtain⟨h1,h2⟩:=zf (data:=data) hs;have h3:=kC h1 (by rw[lX h1]; exact hv _ (oH (by simp)));rw[bW,if_pos (hs.1.2 (mH (gU he))),h3];exact oM h2 he hv
theorem pF {data:List UInt8} {off a b n o:Nat} (h:dQ data off a= .ok (n,o)) (hn:n<=b):dQ data off b= .ok (n,o):=by
 unfold dQ at h ⊢
 cases hx:eu data off with
 | error y=>rw[hx]at h; simp at h
 | ok p=>
  obtain⟨m,q⟩:=p;rw[hx]at h;simp only at h ⊢
  split at h
  ·simp at h
  ·simp only[Except.ok.injEq,Prod.mk.injEq]at h;obtain⟨rfl,rfl⟩:=h;rw[if_neg (by omega)]
theorem Ci {data:List UInt8} {a b:Nat} {s t:RS} (hs:iy s t) (he:(jG data a s).2.err=0) (hn:(jG data a s).1.n.toNat<=b):(kY data b t).1=(jG data a s).1.n.toNat/\iy (jG data a s).2 (kY data b t).2/\(jG data a s).2.off<=data.length:=by
 obtain⟨h1,x,o,h2,h3,h4⟩:=tK (fun _ h=>ij h) he;have h5:(jG data a s).1.n.toNat=x:=by unfold jG; rw[h4]; simp
 rw[h5]at hn ⊢;have h6:=pF h2 hn;have h7:kY data b t=(x,⟨o,t.off,0⟩):=by
  unfold kY rv;rw[if_pos (hs.1.1 h1),<-hs.2 h1,h6]
 rw[h7];refine⟨rfl,⟨⟨fun _=>rfl,fun _=>he⟩,fun _=>h3⟩, ?_⟩
 show(jG data a s).2.off<=_
 have h8:(jG data a s).2.off=o:=h3;rw[h8];exact(eX h2).2.2
theorem wS {data:List UInt8} {a b:Nat} (hab:b<=a) {s t:RS} (hs:iy s t) (he:(kY data b t).2.err=0):(jG data a s).1.n.toNat=(kY data b t).1/\iy (jG data a s).2 (kY data b t).2:=by
 obtain⟨h1,x,o,h2,h3,h4⟩:=pV (fun _ h=>ij h) he;have h5:(kY data b t).1=x:=h4;have h8:(kY data b t).2.off=o:=h3;have h6:=pF h2 (Nat.le_trans (eX h2).1 hab);have h7:jG data a s=(⟨7,0,(x:Int),false,⟨#[]⟩,a⟩,⟨o,s.off,0⟩):=by
  unfold jG rr;rw[if_pos (hs.1.2 h1),hs.2 (hs.1.2 h1),h6]
 rw[h7,h5];exact⟨by simp,⟨⟨fun _=>he,fun _=>rfl⟩,fun _=>h8.symm⟩⟩
theorem iq {it:aE} (h:cy it=true):(it.kind=1\/it.kind=2\/it.kind=3)/\0<=it.mode/\it.mode<=511/\0<=it.time/\(it.kind=1-> ∀c∈it.chunks,dw c=true)/\(it.kind=2->dw it.node=true):=by
 unfold cy mj bU at h;simp only[Bool.and_eq_true,decide_eq_true_eq]at h;obtain⟨⟨_,⟨h1,h2⟩,h3⟩,h4⟩:=h;refine⟨?_,h1,h2,h3,fun hk=> ?_,fun hk=> ?_⟩
 ·split at h4
  ·exact .inl (by assumption)
  ·split at h4
   ·exact .inr (.inl (by assumption))
   ·split at h4
    ·exact .inr (.inr (by assumption))
    ·simp at h4
 ·rw[if_pos hk]at h4;simp only[bV,fm,Bool.and_eq_true,List.all_eq_true]at h4;exact fun c hc=>(h4.2.1 c hc).1
 ·rw[if_neg (by omega),if_pos hk]at h4;simp only[Bool.and_eq_true]at h4;exact h4.2
theorem nk (data:List UInt8) (nm:ByteArray) (kd md td:Int) (s:RS):(cY data nm kd md td s).1.kind=kd/\(cY data nm kd md td s).1.mode=md/\(cY data nm kd md td s).1.time=td:=by
 unfold cY
 split
 ·exact⟨rfl,rfl,rfl⟩
 ·split
  ·exact⟨rfl,rfl,rfl⟩
  ·exact⟨rfl,rfl,rfl⟩
theorem pp {data nm:List UInt8} {kd md td:Nat} {s s1:RS} {a:aE} (h:eL data nm kd md td s=some (a,s1)):a.kind=eY kd/\a.mode=eY md/\a.time=eY td:=by
 unfold eL at h
 split at h
 ·simp only[Option.some.injEq,Prod.mk.injEq]at h; obtain⟨rfl,_⟩:=h; exact⟨rfl,rfl,rfl⟩
 ·split at h
  ·simp only[Option.some.injEq,Prod.mk.injEq]at h; obtain⟨rfl,_⟩:=h; exact⟨rfl,rfl,rfl⟩
  ·split at h
   ·simp only[Option.some.injEq,Prod.mk.injEq]at h; obtain⟨rfl,_⟩:=h; exact⟨rfl,rfl,rfl⟩
   ·simp at h
theorem xm {data nm:List UInt8} {kd md td:Nat} {s s1:RS} {a:aE} (h:eL data nm kd md td s=some (a,s1)) (he:s1.err=0):s.err=0:=by
 unfold eL at h
 split at h
 ·simp only[Option.some.injEq,Prod.mk.injEq]at h; obtain⟨_,rfl⟩:=h;rw[gd]at he;exact Ez (gU he)
 ·split at h
  ·simp only[Option.some.injEq,Prod.mk.injEq]at h; obtain⟨_,rfl⟩:=h; exact mH he
  ·split at h
   ·simp only[Option.some.injEq,Prod.mk.injEq]at h; obtain⟨_,rfl⟩:=h; exact zi he
   ·simp at h
theorem Cx {data nm:List UInt8} {nm':ByteArray} {kd md td:Nat} {kd' md' td':Int} {s t:RS} (hlen:data.length<=32768) (hs:iy s t) (hn:nm'=⟨nm.toArray⟩) (hk:kd'=eY kd) (hm:md'=eY md) (ht:td'=eY td)
  (he:(cY data nm' kd' md' td' s).2.err=0) (hv:cy (cY data nm' kd' md' td' s).1=true):
  ∃t',eL data nm kd md td t=some ((cY data nm' kd' md' td' s).1,t')/\iy (cY data nm' kd' md' td' s).2 t':=by
 obtain⟨hf,_,_,_,hf1,hf2⟩:=iq hv;rw[(nk data nm' kd' md' td' s).1]at hf hf1 hf2;subst hn hk hm ht
 rcases hf with h | h | h
 ·have hf1:=hf1 h;unfold cY eL at *;rw[if_pos h]at he hf1 ⊢;simp only at he hf1 ⊢;have h1:=gV he;obtain⟨h2,x,o,h3,h4,h5⟩:=tK (fun _ h=>ij h) h1;have h6:=oJ he (by show(jG data 32768 s).2.off<=_; unfold jG; rw[h4]; exact(eX h3).2.2);obtain⟨c1,c2,_⟩:=Ci (b:=963) hs h1 (by omega);obtain⟨d1,d2⟩:=ut c2 he hf1;rw[if_pos h,gd,c1,d1]
  exact⟨_,rfl,d2⟩
 ·have hf2:=hf2 h;have h0: ¬eY kd=1:=by omega
  unfold cY eL at *;rw[if_neg h0,if_pos h]at he hf2 ⊢;simp only at he hf2 ⊢;obtain⟨h1,h2⟩:=zf (data:=data) hs;rw[if_neg h0,if_pos h,kC h1 hf2];exact⟨_,rfl,h2⟩
 ·have h0: ¬eY kd=1:=by omega
  have h00: ¬eY kd=2:=by omega
  unfold cY eL at *;rw[if_neg h0,if_neg h00]at he ⊢;simp only at he ⊢;obtain⟨h1,h2⟩:=wh (data:=data) (most:=512) hs;rw[if_neg h0,if_neg h00,if_pos h,h1];exact⟨_,rfl,h2⟩
theorem xo {data nm:List UInt8} {nm':ByteArray} {kd md td:Nat} {kd' md' td':Int} {s t t':RS} {a:aE} (hs:iy s t) (hn:nm'=⟨nm.toArray⟩) (hk:kd'=eY kd) (hm:md'=eY md) (ht:td'=eY td)
  (h0:eL data nm kd md td t=some (a,t')) (he:t'.err=0) (hv:cy a=true):
  (cY data nm' kd' md' td' s).1=a/\iy (cY data nm' kd' md' td' s).2 t':=by
 obtain⟨hf,_,_,_,hf1,hf2⟩:=iq hv;rw[(pp h0).1]at hf hf1 hf2;subst hn hk hm ht;unfold eL at h0;unfold cY
 rcases hf with h | h | h
 ·have hf1:=hf1 h;rw[if_pos h]at h0 ⊢;simp only[Option.some.injEq,Prod.mk.injEq]at h0;obtain⟨rfl,rfl⟩:=h0;simp only at hf1 ⊢;rw[gd]at he hf1 ⊢;obtain⟨c1,c2⟩:=wS (a:=32768) (by omega) hs (gU he);obtain⟨d1,d2⟩:=oM c2 he hf1;rw[c1,d1];exact⟨rfl,d2⟩
 ·have hf2:=hf2 h;have h1: ¬eY kd=1:=by omega
  rw[if_neg h1,if_pos h]at h0 ⊢;simp only[Option.some.injEq,Prod.mk.injEq]at h0;obtain⟨rfl,rfl⟩:=h0;simp only at hf2 ⊢;obtain⟨h1,h2⟩:=zf (data:=data) hs;rw[kC h1 (by rw[lX h1]; exact hf2)];exact⟨rfl,h2⟩
 ·have h1: ¬eY kd=1:=by omega
  have h2: ¬eY kd=2:=by omega
  rw[if_neg h1,if_neg h2]at h0 ⊢;rw[if_pos h]at h0;simp only[Option.some.injEq,Prod.mk.injEq]at h0;obtain⟨rfl,rfl⟩:=h0;obtain⟨h3,h4⟩:=wh (data:=data) (most:=512) hs;rw[h3];exact⟨rfl,h4⟩
theorem CV {a b:Int} (h:gx a b) (h0:0<=a):a=b:=by unfold gx at h; omega
theorem vI {a b:Int} (h:gx a b) (h0:0<=b) (h1:b<=511):a=b:=by unfold gx at h; omega
theorem sB {n:Nat} (h:n<=9223372036854775807):eY n=(n:Int):=by unfold eY wrap64; omega
theorem Fq {n:Nat} (hn:n<18446744073709551616) (h:0<=eY n):n<=9223372036854775807:=by unfold eY wrap64 at h; omega
theorem EI {data:List UInt8} {s t s':RS} {a:aE} (hlen:data.length<=32768) (hs:iy s t) (h:kM data s=some (a,s')) (he:s'.err=0) (hv:cy a=true): ∃t',dY data t=some (a,t')/\iy s' t':=by
 obtain⟨n1,n2⟩:=wh (data:=data) (most:=64) hs;obtain⟨k1,k2⟩:=sw (data:=data) n2;obtain⟨m1,m2⟩:=sw (data:=data) k2;obtain⟨t1,t2⟩:=Dx (data:=data) m2;unfold kM mB at h
 split at h
 ·simp at h
 ·rename_i htd;simp only[Option.some.injEq]at h;obtain⟨hf,hm0,hm1,hti,_,_⟩:=iq hv;have hk:=nk data (lu data 64 s).1.s (fy data (lu data 64 s).2).1 (fy data (fy data (lu data 64 s).2).2).1 (nz data (fy data (fy data (lu data 64 s).2).2).2).1.u (nz data (fy data (fy data (lu data 64 s).2).2).2).2;rw[h]at hk;obtain⟨hk1,hk2,_⟩:=hk;simp only at hk1 hk2
  have r:=Cx (td:=(kk data (kk data (kk data (qO data 64 t).2).2).2).1) (td':=((nz data (fy data (fy data (lu data 64 s).2).2).2).1.u:Int)) hlen t2 n1 (CV k1 (by omega)) (CV m1 (by omega)) (by rw[t1]; exact(sB (by rw[<-t1]; omega)).symm) (by rw[h]; exact he) (by rw[h]; exact hv);rw[h]at r;exact r
theorem zV {data:List UInt8} {s t t':RS} {a:aE} (hs:iy s t) (h:dY data t=some (a,t')) (he:t'.err=0) (hv:cy a=true): ∃s',kM data s=some (a,s')/\iy s' t':=by
 obtain⟨n1,n2⟩:=wh (data:=data) (most:=64) hs;obtain⟨k1,k2⟩:=sw (data:=data) n2;obtain⟨m1,m2⟩:=sw (data:=data) k2;obtain⟨t1,t2⟩:=Dx (data:=data) m2;unfold dY at h;obtain⟨hf,hm0,hm1,hti,_,_⟩:=iq hv;obtain⟨hk1,hk2,hk3⟩:=pp h;have htd:=Fq (DM _ _) (by rw[<-hk3]; exact hti);obtain⟨r1,r2⟩:=xo (nm':=(lu data 64 s).1.s) (kd':=(fy data (lu data 64 s).2).1) (md':=(fy data (fy data (lu data 64 s).2).2).1) (td':=((nz data (fy data (fy data (lu data 64 s).2).2).2).1.u:Int)) t2 n1 (vI k1 (by omega) (by omega)) (vI m1 (by omega) (by omega)) (by rw[t1]; exact(sB htd).symm) h he hv
 unfold kM mB;rw[if_neg (by rw[t1]; omega)];exact⟨_,by rw[<-r1],r2⟩
theorem xr {data:List UInt8} {s s':RS} {a:aE} (h:dY data s=some (a,s')) (he:s'.err=0):s.err=0:=by
 unfold dY at h;exact zi (mi (mi (mi (xm h he))))
def itF {α β:Type} (f:β->Option (α×β)):Nat->List α->β->Option (List α×β)
 | 0,l,s=>some (l,s)
 | n+1,l,s=>(f s).bind fun p=>itF f n (l++[p.1]) p.2
theorem uT {α β:Type} (f:β->Option (α×β)): ∀(k:Nat) (l:List α) (s:β),itF f (k+1) l s=(itF f k l s).bind fun p=>(f p.2).map fun q=>(p.1++[q.1],q.2)
 | 0,l,s=>by
  show(f s).bind (fun p=>some (l++[p.1],p.2))=(f s).map fun q=>(l++[q.1],q.2)
  cases f s<;> rfl
 | k+1,l,s=>by
  show(f s).bind (fun p=>itF f (k+1) (l++[p.1]) p.2)=((f s).bind fun p=>itF f k (l++[p.1]) p.2).bind _
  cases f s with
  | none=>rfl
  | some p=>exact uT f k _ _
def iC (data:List UInt8) (n:Nat) (l:List aE) (s:RS):Option (List aE×RS):=itF (dY data) n l s
theorem jU (data:List UInt8) (l:List aE) (s:RS):iC data 0 l s=some (l,s):=rfl
theorem Cw {α β:Type} (f:β->Option (α×β)) (n:Nat) (l:List α) (s:β):itF f (n+1) l s=(f s).bind fun p=>itF f n (l++[p.1]) p.2:=rfl
theorem ig (data:List UInt8) (n:Nat) (l:List aE) (s:RS):iC data (n+1) l s=(dY data s).bind fun p=>iC data n (l++[p.1]) p.2:=Cw (dY data) n l s
theorem uX (data:List UInt8) (k:Nat) (l:List aE) (s:RS):iC data (k+1) l s=(iC data k l s).bind fun p=>(dY data p.2).map fun q=>(p.1++[q.1],q.2):=uT (dY data) k l s
theorem lQ (data:List UInt8) (s0:RS): ∀k,ei data s0 k=iC data k [] s0
 | 0=>rfl
 | k+1=>by rw[uX,<-lQ data s0 k,fJ]
theorem nn {data:List UInt8} : ∀ {n:Nat} {l:List aE} {s s':RS} {r:List aE},cw data n l s=some (r,s')->s'.err=0->s.err=0
 | 0,l,s,s',r,h,he=>by
  simp only[cw,Option.some.injEq,Prod.mk.injEq]at h;obtain⟨_,rfl⟩:=h;exact he
 | n+1,l,s,s',r,h,he=>by
  rw[cw]at h
  split at h
  ·assumption
  ·simp only[Option.some.injEq,Prod.mk.injEq]at h;obtain⟨_,rfl⟩:=h;exact he
theorem jT {data:List UInt8} : ∀ {n:Nat} {l:List aE} {s s':RS} {r:List aE},iC data n l s=some (r,s')->s'.err=0->s.err=0
 | 0,l,s,s',r,h,he=>by
  simp only[jU,Option.some.injEq,Prod.mk.injEq]at h;obtain⟨_,rfl⟩:=h;exact he
 | n+1,l,s,s',r,h,he=>by
  rw[ig,Option.bind_eq_some_iff]at h;obtain⟨⟨a,s1⟩,h1,h2⟩:=h;exact xr h1 (jT h2 he)
theorem px {data:List UInt8} : ∀ {n:Nat} {l:List aE} {s s':RS} {r:List aE} {a:aE},cw data n l s=some (r,s')->a∈l->a∈r
 | 0,l,s,s',r,a,h,ha=>by
  simp only[cw,Option.some.injEq,Prod.mk.injEq]at h;obtain⟨rfl,_⟩:=h;exact ha
 | n+1,l,s,s',r,a,h,ha=>by
  rw[cw]at h
  split at h
  ·rw[Option.bind_eq_some_iff]at h;obtain⟨⟨b,s1⟩,h1,h2⟩:=h;exact px h2 (List.mem_append_left _ ha)
  ·simp only[Option.some.injEq,Prod.mk.injEq]at h;obtain⟨rfl,_⟩:=h;exact ha
theorem pq {data:List UInt8} : ∀ {n:Nat} {l:List aE} {s s':RS} {r:List aE} {a:aE},iC data n l s=some (r,s')->a∈l->a∈r
 | 0,l,s,s',r,a,h,ha=>by
  simp only[jU,Option.some.injEq,Prod.mk.injEq]at h;obtain⟨rfl,_⟩:=h;exact ha
 | n+1,l,s,s',r,a,h,ha=>by
  rw[ig,Option.bind_eq_some_iff]at h;obtain⟨⟨b,s1⟩,h1,h2⟩:=h;exact pq h2 (List.mem_append_left _ ha)
theorem vh {data:List UInt8} (hlen:data.length<=32768): ∀ {n:Nat} {l r:List aE} {s t s':RS},iy s t->cw data n l s=some (r,s')->s'.err=0->(∀a∈r,cy a=true)-> ∃t',iC data n l t=some (r,t')/\iy s' t'
 | 0,l,r,s,t,s',hs,h,he,hv=>by
  simp only[cw,Option.some.injEq,Prod.mk.injEq]at h;obtain⟨rfl,rfl⟩:=h;exact⟨t,rfl,hs⟩
 | n+1,l,r,s,t,s',hs,h,he,hv=>by
  have h0:=nn h he;rw[cw,if_pos h0,Option.bind_eq_some_iff]at h;obtain⟨⟨a,s1⟩,h1,h2⟩:=h;obtain⟨t1,h3,h4⟩:=EI hlen hs h1 (nn h2 he) (hv a (px h2 (by simp)));obtain⟨t',h5,h6⟩:=vh hlen h4 h2 he hv;exact⟨t',by rw[ig,h3]; exact h5,h6⟩
theorem py {data:List UInt8} : ∀ {n:Nat} {l r:List aE} {s t t':RS},iy s t->iC data n l t=some (r,t')->t'.err=0->(∀a∈r,cy a=true)-> ∃s',cw data n l s=some (r,s')/\iy s' t'
 | 0,l,r,s,t,t',hs,h,he,hv=>by
  simp only[jU,Option.some.injEq,Prod.mk.injEq]at h;obtain⟨rfl,rfl⟩:=h;exact⟨s,rfl,hs⟩
 | n+1,l,r,s,t,t',hs,h,he,hv=>by
  have h0:=jT h he;rw[ig,Option.bind_eq_some_iff]at h;obtain⟨⟨a,t1⟩,h1,h2⟩:=h;obtain⟨s1,h3,h4⟩:=zV hs h1 (jT h2 he) (hv a (pq h2 (by simp)));obtain⟨s',h5,h6⟩:=py h4 h2 he hv;exact⟨s',by rw[cw,if_pos (hs.1.2 h0),h3]; exact h5,h6⟩
theorem ml : ∀ {l:List aE} {p:Option ByteArray},cz p l=true-> ∀a∈l,cy a=true
 | [],_,_=>by simp
 | it::r,p,h=>by
  simp only[cz,Bool.and_eq_true]at h;intro a ha
  rcases List.mem_cons.1 ha with rfl | ha
  ·exact h.1.1
  ·exact ml h.2 a ha
theorem nB {l:List aE} (h:cd l=true): ∀a∈l,cy a=true:=by
 unfold cd at h;simp only[Bool.and_eq_true]at h;exact ml h.2
theorem rA {data:List UInt8} {s:RS} (h:fh data s=0):s.err=0:=by
 unfold fh at h
 split at h
 ·assumption
 ·exact h
theorem uG {data:List UInt8} {s t:RS} (h:iy s t):fh data s=0<->fh data t=0:=by
 unfold fh
 by_cases he:s.err=0
 ·rw[if_pos he,if_pos (h.1.1 he),h.2 he]
 ·rw[if_neg he,if_neg (fun e=>he (h.1.2 e))];exact⟨fun e=>absurd e he,fun e=>absurd (h.1.2 e) he⟩
theorem CO (data:List UInt8):CN data=bE data:=by
 unfold CN bE
 by_cases hb:32768<data.length
 ·rw[if_pos hb,if_pos hb]
 rw[if_neg hb,if_neg hb];obtain⟨c1,c2⟩:=Fx (data:=data) (most:=4096) iy.start;have hn:(jG data 4096 ⟨0,0,0⟩).1.n.toNat=(kY data 4096 ⟨0,0,0⟩).1:=by rw[c1]; simp
 rw[hn,lQ]
 apply Option.ext
 intro l;rw[Option.bind_eq_some_iff,Option.bind_eq_some_iff]
 constructor
 ·rintro⟨⟨r,s'⟩,h1,h2⟩
  split at h2
  ·rename_i hh;simp only[Option.some.injEq]at h2;subst h2;obtain⟨t',h3,h4⟩:=vh (by omega) c2 h1 (rA hh.1) (nB hh.2);exact⟨(r,t'),h3,by rw[if_pos ⟨(uG h4).1 hh.1,hh.2⟩]⟩
  ·simp at h2
 ·rintro⟨⟨r,t'⟩,h1,h2⟩
  split at h2
  ·rename_i hh;simp only[Option.some.injEq]at h2;subst h2;obtain⟨s',h3,h4⟩:=py c2 h1 (rA hh.1) (nB hh.2);exact⟨(r,s'),h3,by rw[if_pos ⟨(uG h4).2 hh.1,hh.2⟩]⟩
  ·simp at h2
theorem pK : ∀(f n j:Nat),1<=j->n<2^(7*j)->(eV f n).length<=j
 | 0,n,j,hj,_=>by simpa [eV]using hj
 | f+1,n,j,hj,h=>by
  rw[eV]
  by_cases hn:127<n
  ·rw[if_pos hn,List.length_cons];obtain⟨j,rfl⟩: ∃k,j=k+1:=⟨j-1,by omega⟩;have hj1:1<=j:=by
    rcases Nat.eq_zero_or_pos j with e | e
    ·subst e; simp at h; omega
    ·exact e
   have:=pK f (n/128) j hj1 (by
    rw[show 7*(j+1)=7*j+7 by omega,Nat.pow_add]at h;exact Nat.div_lt_of_lt_mul (by omega))
   omega
  ·rw[if_neg hn]; simpa using hj
theorem dK {n:Nat} (h:n<18446744073709551616):(aP n).length<=10:=pK 10 n 10 (by decide) (Nat.lt_trans h (by decide))
def Ok (data:List UInt8) (s:RS):Prop:=s.err=0/\s.off<=data.length
def dL (r:aG):List UInt8:=bl r.name++(aP r.gen.toNat++aP r.size.toNat)
theorem qj {r:aG} :dw r=true<->r.name.size=32/\0<=r.gen/\r.gen<=1099511627776/\0<=r.size/\r.size<=32768:=by unfold dw; simp[and_assoc]
theorem oO (l:List UInt8):dD l=(bo l && !l.contains 47):=by
 by_cases h:(47:UInt8)∈l
 ·have h1:l.contains 47=true:=by simpa using h
  have h2:dD l=false:=by unfold dD; rw[h1]; simp
  rw[h1,h2]; simp
 ·have h1:l.contains 47=false:=by simpa using h
  rw[h1];unfold bo;rw[eA 47 l h]
  cases hc:dD l
  ·simp[hc]
  ·have h2:l.length<=64:=by
    unfold dD at hc;simp only[Bool.and_eq_true,decide_eq_true_eq]at hc;exact hc.1.1.1.1.2
   simp[hc]; omega
def lN (it:aE):List UInt8:=
 if it.kind=1 then aP it.chunks.length++it.chunks.flatMap dL else if it.kind=2 then dL it.node else aP it.link.size++bl it.link
def dJ (it:aE):List UInt8:=aP it.name.size++(bl it.name++(aP it.kind.toNat++(aP it.mode.toNat++(aP it.time.toNat++lN it))))
def dR (l:List aE):List UInt8:=aP l.length++l.flatMap dJ
structure FA (it : aE) : Prop where
 val:bo (bl it.name)=true
 nos:(bl it.name).contains 47=false
 md0:0<=it.mode
 md1:it.mode<=511
 tm0:0<=it.time
theorem uO {it:aE} :mj it=true<->FA it:=by
 unfold mj
 constructor
 ·intro h;simp only[Bool.and_eq_true,decide_eq_true_eq,Bool.not_eq_true']at h;exact⟨h.1.1,h.1.2,h.2.1.1,h.2.1.2,h.2.2⟩
 ·intro h;simp only[Bool.and_eq_true,decide_eq_true_eq,Bool.not_eq_true'];exact⟨⟨h.val,h.nos⟩,⟨h.md0,h.md1⟩,h.tm0⟩
theorem my {it:aE} (hk:it.kind=1) (h:bU it=true):it.link=⟨#[]⟩/\it.node=bi/\(∀c∈it.chunks,dw c=true/\1<=c.size)/\it.size=dt it.chunks/\it.size<=1048576:=by
 unfold bU at h;rw[if_pos hk]at h;unfold bV at h;simp only[Bool.and_eq_true,decide_eq_true_eq,List.all_eq_true]at h;refine⟨?_,h.1.2,fun c hc=> ?_,h.2.2.1,h.2.2.2⟩
 ·apply ft
  have:=h.1.1;rw[ay]at this;rw[List.eq_nil_of_length_eq_zero this]; rfl
 ·have:=h.2.1 c hc;unfold fm at this;simp only[Bool.and_eq_true,decide_eq_true_eq]at this;exact⟨this.1,by have:=this.2; omega⟩
theorem BZ {it:aE} (hk:it.kind=2) (h:bU it=true):it.link=⟨#[]⟩/\it.size=0/\it.chunks=[]/\dw it.node=true:=by
 unfold bU at h;rw[if_neg (by omega),if_pos hk]at h;simp only[Bool.and_eq_true,decide_eq_true_eq]at h;refine⟨?_,h.1.1.2,List.eq_nil_of_length_eq_zero h.1.2,h.2⟩
 apply ft
 have:=h.1.1.1;rw[ay]at this;rw[List.eq_nil_of_length_eq_zero this]; rfl
theorem zC {it:aE} (hk:it.kind=3) (h:bU it=true):it.size=0/\it.chunks=[]/\it.node=bi/\1<=it.link.size/\it.link.size<=512/\(bl it.link).contains 0=false:=by
 unfold bU at h;rw[if_neg (by omega),if_neg (by omega),if_pos hk]at h;simp only[Bool.and_eq_true,decide_eq_true_eq,Bool.not_eq_true']at h;exact⟨h.1.1.1,List.eq_nil_of_length_eq_zero h.1.1.2,h.1.2,h.2.1.1,h.2.1.2,h.2.2⟩
theorem zB {it:aE} (h:bU it=true):it.kind=1\/it.kind=2\/it.kind=3:=by
 unfold bU at h
 by_cases h1:it.kind=1
 ·exact .inl h1
 ·by_cases h2:it.kind=2
  ·exact .inr (.inl h2)
  ·by_cases h3:it.kind=3
   ·exact .inr (.inr h3)
   ·rw[if_neg h1,if_neg h2,if_neg h3]at h; cases h
theorem uw {l:List UInt8} (h:bo l=true) (h2:l.contains 47=false):l.length<=64:=by
 have:=oO l;rw[h,h2]at this;unfold dD at this;simp only[Bool.not_false,Bool.and_self,Bool.and_eq_true,decide_eq_true_eq]at this;omega
theorem qi : ∀ {l:List aE} {p:Option ByteArray},cz p l=true-> ∀it∈l,cy it=true
 | it::l,p,h,x,hx=>by
  rw[cz,Bool.and_eq_true,Bool.and_eq_true]at h
  rcases List.mem_cons.1 hx with rfl | hx
  ·exact h.1.1
  ·exact qi h.2 x hx
theorem sD {l:List aE} (h:cd l=true):l.length<=4096/\ ∀it∈l,cy it=true:=by
 unfold cd at h;rw[Bool.and_eq_true,decide_eq_true_eq]at h;exact⟨h.1,qi h.2⟩
open Go Go.RowKit
theorem GC {x:Nat} (h:x<256):x ||| 128=x%128+128:=by
 have: ∀y:Fin 256,y.val ||| 128=y.val%128+128:=by decide
 exact this ⟨x,h⟩
theorem zG (n:Nat):Value.int .u8 (bits BinOp.or IntKind.u8 ((n:Int)%256) 128)=au (UInt8.ofNat (n%128+128)):=by
 rw[iP (by omega),show((n:Int)%256)=((n%256:Nat):Int) by omega,show(128:Int)=((128:Nat):Int)from rfl,u8_or_nat _ _ (by omega) (by decide),GC (by omega)]
 congr 2
 omega
theorem zF {n:Nat} (h:n<256):Value.int .u8 (n:Int)=au (UInt8.ofNat n):=(iP h).symm
def iN (w:World) (base:Nat) (v:Value) (acc:List UInt8):Prop:=w.ownsRow base 5 1 v acc.length (acc.map au)
def FD (base:Nat) (v:Value) (acc:List UInt8) (w:World) (e:Ending) (w':World):Prop:= ∃v',e= .returned v'/\iN w' base v' acc/\w.grownBy w' v.ownBlock/\(∀k,v'.ownBlock=some k->v.ownBlock=some k\/w.heap.size<=k)
structure Ef (base : Nat) (v : Value) (w : World) (x : Value) (ac : List UInt8) (wr : World) : Prop where
 own:iN wr base x ac
 grown:w.grownBy wr v.ownBlock
 place: ∀k,x.ownBlock=some k->v.ownBlock=some k\/w.heap.size<=k
theorem Ef.next {base:Nat} {v:Value} {w:World} {x:Value} {ac:List UInt8} {wr wc:World} {v' u:Value} {n:Nat} {b:UInt8} (h:Ef base v w x ac wr) (h1:wc.ownsRow base 5 1 v' (n+1) (ac.map au++[u])) (h2:wr.grownBy wc x.ownBlock) (h3: ∀k,v'.ownBlock=some k->x.ownBlock=some k\/wr.heap.size<=k)
  (hn:n=ac.length) (hu:u=au b):Ef base v w v' (ac++[b]) wc:=by
 subst hn hu;refine⟨by unfold iN; simpa using h1,⟨h2.os.trans h.grown.os,h2.tape.trans h.grown.tape,h2.output.trans h.grown.output,Nat.le_trans h.grown.size h2.size,fun k hk hne=> ?_⟩,fun k hk=> ?_⟩
 ·rw[h2.block k (Nat.lt_of_lt_of_le hk h.grown.size) (fun e=> ?_)]
  ·exact h.grown.block k hk hne
  ·rcases h.place k e.symm with e2 | e2
   ·exact hne e2.symm
   ·omega
 ·rcases h3 k hk with e | e
  ·exact h.place k e
  ·exact .inr (Nat.le_trans h.grown.size e)
theorem lf (base:Nat) (v:Value) (acc:List UInt8) (n:Nat) (w:World) (hv:iN w base v acc) (hb:base<=w.heap.size) (hl:acc.length<1099511000000) (hn:n<18446744073709551616):
  Calls Tryz.prog 100 #[v, .int .u64 (n:Int)] w (FD base v (acc++aP n) w):=by
 have HV:=ab hv;obtain⟨a0,c0,rfl,h10,h20⟩:=aj hv;clear hv
 go_enter Tryz.func100,Tryz.ntmps100
 go_wp2_with fail
 go_loopw [0,1] (fun x y wr=> ∃(f m:Nat) (ac:List UInt8),y= .int .u64 (m:Int)/\m<18446744073709551616/\m<2^(7*f)/\ac++eV f m=acc++aP n/\Ef base (.slice a0 acc.length c0) w x ac wr) (fun _ y _=>(intOf y).toNat)
 case atStart=>exact⟨10,n,acc,rfl,hn,Nat.lt_trans hn (by decide),rfl,HV.out,jn _ _,fun k hk=> .inl hk⟩
 case round=>
  obtain⟨f,m,ac,rfl,hm,hmf,henc,hinv⟩:=hrel;obtain⟨ax,cx,rfl,h1,h2⟩:=aj hinv.own;obtain⟨xl,hxl⟩: ∃xl,xl=ac.length:=⟨_,rfl⟩;rw[<-hxl]at hinv h1 ⊢;have HI:=ab hinv;have HXL:=ab hxl;have HO:=ab (show wr.ownsRow base 5 1 (.slice ax xl cx) xl (ac.map au) by have:=hinv.own; unfold iN at this; rw[<-hxl]at this; exact this);have HE:=ab henc;have HMF:=ab hmf
  have hbz:base<=wr.heap.size:=by have:=hinv.grown.size; omega
  have hlen:=congrArg List.length henc;rw[List.length_append,List.length_append]at hlen;have:=cD n;have hxb:xl<1099511627775:=by omega
  clear hinv henc hmf hlen this hxl
  by_cases hlt:127<m
  ·have HV:=ab (zG m);have HZ:=ab (show ∀u∈[(Value.int .u8 (bits BinOp.or IntKind.u8 ((m:Int)%256) 128))],u.oneCell'=true by simp[Value.oneCell']);obtain⟨f,rfl⟩: ∃g,f=g+1:=⟨f-1,by
    cases f with
    | zero=>have:=HMF.out; simp at this; omega
    | succ g=>rfl⟩
   have HE2:=ab (show(ac++[UInt8.ofNat (m%128+128)])++eV f (m/128)=acc++aP n by rw[<-HE.out,eV,if_pos hlt]; simp);have HMF2:=ab (show m/128<2^(7*f) by
    have h3:=HMF.out;rw[show 7*(f+1)=7*f+7 by omega,Nat.pow_add]at h3;exact Nat.div_lt_of_lt_mul (by omega))
   go_wp2_with (at_builtin; go_loud (refine aK Tryz.appBytes rfl _ _ rfl base (.slice ax xl cx) xl (ac.map au) rfl wr [Value.int .u8 (bits BinOp.or IntKind.u8 ((m:Int)%256) 128)] _ rfl rfl HZ.out HO.out hxb hbz ?_); intro v' wc hown' hgrow' _ hpl'; go_loud (have HP:=ab (HI.out.next hown' hgrow' hpl' HXL.out HV.out)); obtain⟨ae,ce,rfl,-,-⟩:=aj hown'; clear hown' hgrow' hpl')
   go_roundw
   case rel=>exact⟨f,m/128,_,by simp,by omega,HMF2.out,HE2.out,HP.out⟩
   case measure=>simp[intOf]; omega
  ·have HV:=ab (zF (n:=m) (by omega));have HZ:=ab (show ∀u∈[(Value.int .u8 (m:Int))],u.oneCell'=true by simp[Value.oneCell']);have HE2:=ab (show ac++[UInt8.ofNat m]=acc++aP n by
    rw[<-HE.out]
    cases f with
    | zero=>rfl
    | succ f=>rw[eV,if_neg hlt])
   go_wp2_with (at_builtin; go_loud (refine aK Tryz.appBytes rfl _ _ rfl base (.slice ax xl cx) xl (ac.map au) rfl wr [Value.int .u8 (m:Int)] _ rfl rfl HZ.out HO.out hxb hbz ?_); intro v' wc hown' hgrow' _ hpl'; go_loud (have HP:=ab (HI.out.next hown' hgrow' hpl' HXL.out HV.out)); obtain⟨ae,ce,rfl,-,-⟩:=aj hown'; clear hown' hgrow' hpl');go_ret;rw[<-HE2.out];exact⟨_,rfl,HP.out.own,HP.out.grown,HP.out.place⟩
theorem oy (n:Nat) (w:World) (hn:n<18446744073709551616):
  Calls Tryz.prog 176 #[.slice none 0 0, .int .u64 (n:Int)] w fun e w'=> ∃v,e= .returned v/\iN w' w.heap.size v (aP n)/\Below w.heap.size w w':=by
 obtain⟨ht9,⟨i9,z9,h91,h92,h93,h94,h95⟩,-,-⟩:=Tryz.appBytes;have hb32:i9.bytes*10<=281474976710656:=by rw[h94]; decide
 have H9:=ab (And.intro h91 (And.intro h92 (And.intro h93 hb32)));clear h91 h92 h93 h94 h95 hb32
 go_enter Tryz.func176,Tryz.ntmps176
 go_wp2_with (first | (refine wpList_make_own _ rfl _ _ 29 rfl w.heap.size 5 i9 z9 1 Tryz.underlying29 H9.out.1 H9.out.2.1 H9.out.2.2.1 .i64 .i64 10 10 rfl rfl rfl H9.out.2.2.2 (by decide) (Nat.le_refl _) ?_; intro w4 hown4 hg4; have HO4:=ab hown4; have HG4:=ab hg4; clear hown4 hg4));refine(lf w.heap.size _ [] n w4 HO4.out HG4.out.size (by simp) hn).mono ?_;rintro e w5 ⟨v',rfl,ho5,hg5,-⟩
 rw[List.nil_append]at ho5;have HO5:=ab ho5;have HB5:=ab ((eI HG4.out).grown hg5 HG4.out.size (fun k hk=>by cases hk; exact Nat.le_refl _));obtain⟨a5,c5,rfl,-,-⟩:=aj ho5;clear ho5 hg5;go_wp2_with fail;go_ret;exact⟨_,rfl,HO5.out,HB5.out⟩
structure bI where
 nm:ByteArray
 st:ByteArray
 ck:ByteArray
 ix:ByteArray
 tk:ByteArray
def bI.list (k:bI):List ByteArray:=[k.nm,k.st,k.ck,k.ix,k.tk]
def dh (k:bI):List Value:=[.string k.nm, .string k.st, .string k.ck, .string k.ix, .string k.tk]
def iU (k:bI):Value:= .agg #[.string k.nm, .string k.st, .string k.ck, .string k.ix, .string k.tk]
def fP (k:bI):Bool:=k.list.all fun s=>decide (s.size=32)
theorem zX (k:bI) {j:Nat} (h:j<5): ∃s,k.list[j]? =some s/\(dh k)[j]? =some (.string s):=by
 have hc:j=0\/j=1\/j=2\/j=3\/j=4:=by omega
 rcases hc with rfl | rfl | rfl | rfl | rfl
 ·exact⟨_,rfl,rfl⟩
 ·exact⟨_,rfl,rfl⟩
 ·exact⟨_,rfl,rfl⟩
 ·exact⟨_,rfl,rfl⟩
 ·exact⟨_,rfl,rfl⟩
theorem qM (k:bI) (w:World):Calls Tryz.prog 115 #[iU k] w fun e w'=>e= .returned (.bool (fP k))/\Below w.heap.size w w':=by
 unfold iU
 go_enter Tryz.func115,Tryz.ntmps115
 go_wp2_with fail;obtain⟨W1,hW1⟩: ∃W1,W1=(w.alloc (.cells #[.string k.nm, .string k.st, .string k.ck, .string k.ix, .string k.tk] 42)).alloc (.cells #[.string k.nm, .string k.st, .string k.ck, .string k.ix, .string k.tk] 9):=⟨_,rfl⟩;rw[<-hW1];have HB1:=ab (show Below w.heap.size w W1 by rw[hW1]; exact((Below.refl _ _).alloc (Nat.le_refl _) _).alloc (by simp) _);have HX1:=ab (show W1.heap[w.heap.size+1]? =some (.cells (dh k).toArray 9 (0,0)) by
  rw[hW1];have:=heap_alloc_new (w.alloc (.cells #[.string k.nm, .string k.st, .string k.ck, .string k.ix, .string k.tk] 42)) (.cells #[.string k.nm, .string k.st, .string k.ck, .string k.ix, .string k.tk] 9);rw[show(w.alloc (.cells #[.string k.nm, .string k.st, .string k.ck, .string k.ix, .string k.tk] 42)).heap.size=w.heap.size+1 by simp]at this;exact this)
 clear hW1
 go_loopw [17] (fun i wr=> ∃j:Nat,j<=5/\i= .int .i64 (j:Int)/\wr=W1/\(k.list.take j).all (fun s=>decide (s.size=32))=true) (fun i _=>5-(intOf i).toNat)
 case atStart=>exact⟨0,by omega,rfl,rfl,rfl⟩
 case round=>
  obtain⟨j,hj,rfl,rfl,hall⟩:=hrel;have HA:=ab hall;clear hall
  by_cases h5:j<5
  ·obtain⟨s,hs1,hs2⟩:=zX k h5;have c0:wr.cell? ⟨w.heap.size+1,j,none⟩=some (.string s):=by rw[cell_of_row wr _ _ _ _ _ HX1.out,List.getElem?_toArray]; exact hs2
   have hji:(j:Int)<5:=by omega
   have HS:=ab hs1;clear hs1 hs2
   by_cases h32:s.size=32
   ·have h32i:(s.size:Int)=32:=by omega
    go_wp2_with fail
    go_roundw
    case rel=>exact⟨j+1,by omega,by simp,trivial,by rw[List.take_add_one,HS.out,List.all_append,HA.out]; simp[h32]⟩
    case measure=>simp[intOf]; omega
   ·have h32i: ¬(s.size:Int)=32:=by omega
    go_wp2_with fail;go_ret;have hf:fP k=false:=by
     unfold fP;rw[List.all_eq_false];exact⟨s,List.mem_of_getElem? HS.out,by simpa using h32⟩
    rw[hf];exact⟨rfl,HB1.out⟩
  ·obtain rfl:j=5:=by omega
   go_wp2_with fail;go_ret;have hf:fP k=true:=HA.out;rw[hf];exact⟨rfl,HB1.out⟩
theorem jx (k:bI) (b:Bool) (w:World) (h:fP k=b):Calls Tryz.prog 115 #[iU k] w fun e w'=>e= .returned (.bool b)/\Below w.heap.size w w':=by rw[<-h]; exact qM k w
theorem sC {k:bI} (h:fP k=true):k.nm.size=32/\k.st.size=32/\k.ck.size=32/\k.ix.size=32/\k.tk.size=32:=by
 unfold fP bI.list at h;simp only[List.all_cons,List.all_nil,Bool.and_true,Bool.and_eq_true,decide_eq_true_eq]at h;exact h
def lT (k:bI) (g:Nat) (c:List UInt8):ByteArray:=⟨(wu (bl k.nm) (aP g++c)).toArray⟩
theorem lp (k:bI) (g:Nat) (c:List UInt8):(lT k g c).size=32:=by unfold lT; rw[ay,ff,wv]
theorem me (S:Nat->Prop) (k:bI) (g:Nat) (c:List UInt8) (cv:Value) (w:World) (hk:fP k=true) (hg:g<=1099511627776) (hc:aD S w cv c) (hl:c.length<=32768) (hE:sO w):
  Calls Tryz.prog 156 #[iU k, .int .i64 (g:Int),cv] w fun e w'=>e= .returned (.tuple #[.string (lT k g c), .int .i64 0])/\Below w.heap.size w w':=by
 have HK:=ab hk;have HC:=ab hc;have HE:=ab hE;obtain⟨_,a,cap,rfl,hcap,hcm,-⟩:=id hc;obtain⟨cl,hcl⟩: ∃cl,cl=c.length:=⟨_,rfl⟩;rw[<-hcl]at hl HC ⊢;have HCL:=ab hcl;clear hk hc hE hcl hcap hcm;unfold iU
 go_enter Tryz.func156,Tryz.ntmps156
 go_wp2_with fail;obtain⟨W1,hW1⟩: ∃W1,W1=w.alloc (.cells #[.string k.nm, .string k.st, .string k.ck, .string k.ix, .string k.tk] 42):=⟨_,rfl⟩;rw[<-hW1];have HB1:=ab (show Below w.heap.size w W1 by rw[hW1]; exact(Below.refl _ _).alloc (Nat.le_refl _) _);have HX1:=ab (show W1.heap[w.heap.size]? =some (.cells (dh k).toArray 42 (0,0)) by rw[hW1]; exact heap_alloc_new w _);clear hW1
 refine(jx k true W1 HK.out).mono ?_;rintro e w1 ⟨rfl,hb1⟩;have HB2:=ab (ag HB1.out hb1);have HX2:=ab ((hb1.block _ (lt_of_block HX1.out)).trans HX1.out);clear hb1;go_wp2_with fail;refine cM (fun w'=>w'.cell? ⟨w.heap.size,0,none⟩=some (.string k.nm)) (by kernel_rfl) ?_;obtain⟨V,hV⟩: ∃V:World,V=w1.drew:=⟨_,rfl⟩;rw[<-hV];have HBV:=ab (show Below w.heap.size w V by rw[hV]; exact HB2.out.trans ((Below.refl _ _).drew))
 have HXV:=ab (show V.heap[w.heap.size]? =some (.cells (dh k).toArray 42 (0,0)) by rw[hV]; exact HX2.out);clear hV;have hSV:V.cell? ⟨w.heap.size,0,none⟩=some (.string k.nm):=(cell_of_row V _ _ _ _ _ HXV.out).trans rfl;refine af 0 rfl (by kernel_rfl) (by kernel_rfl) (by kernel_rfl) (fun _ _ _ h=>h) rfl hSV (by intro w' hw1; go_simp; rfl) ?_;simp only[Act.put,aA,aB,aC]
 refine af 1 rfl (by kernel_rfl) (by kernel_rfl) (by kernel_rfl) (fun _ _ _ h=>h) rfl hSV (by intro w' hw1; go_simp; rfl) ?_;simp only[Act.put,aA,aB,aC];refine af 2 rfl (by kernel_rfl) (by kernel_rfl) (by kernel_rfl) (fun _ _ _ h=>h) rfl hSV (by intro w' hw1; go_simp; rfl) ?_;simp only[Act.put,aA,aB,aC];refine af 3 rfl (by kernel_rfl) (by kernel_rfl) (by kernel_rfl) (fun _ _ _ h=>h) rfl hSV (by intro w' hw1; go_simp; rfl) ?_
 simp only[Act.put,aA,aB,aC];refine af 5 rfl (by kernel_rfl) (by kernel_rfl) (by kernel_rfl) (fun _ _ _ h=>h) rfl hSV (by intro w' hw1; go_simp; rfl) ?_;simp only[Act.put,aA,aB,aC];refine ar 4 rfl (by kernel_rfl) rfl (fun K hK=> ?_);go_wp2_with fail;refine(oy g V (by omega)).mono ?_;rintro e w3 ⟨v3,rfl,ho3,hb3⟩;obtain⟨a3,c3,rfl,-,-⟩:=aj ho3
 have HB3:=ab (ag HBV.out hb3);have hS3:w3.cell? ⟨w.heap.size,0,none⟩=some (.string k.nm):=(hb3.cell (p:=⟨w.heap.size,0,none⟩) (lt_of_block HXV.out)).trans hSV;have hVs:=HBV.out.size;have HO3:=ab ho3;have HLN:=ab (dK (n:=g) (by omega));have hbase:=hb3.size;clear ho3 hb3 hSV;go_wp2_with fail;refine⟨hS3, ?_⟩;refine ar 6 rfl (by kernel_rfl) rfl (fun K hK=> ?_)
 have HCB:=ab (show aD S w3 (.slice a cl cap) c from aS.below HC.out (by omega) HB3.out);have hnl:(aP g).length+cl<1099511627775:=by have:=HLN.out; omega
 have HRW:=ab (show aS S w3 1 (.slice a cl cap) cl (c.map au) by have h9:=HCB.out; unfold aD at h9; rw[<-HCL.out]at h9; exact h9);go_wp2_with (at_builtin; go_loud (refine fa Tryz.appBytes rfl _ _ rfl V.heap.size (.slice a3 (aP g).length c3) (aP g).length ((aP g).map au) rfl HO3.out (.slice a cl cap) cl (c.map au) rfl HRW.out (eq c) hnl hbase ?_); intro v' wc hown' hgrow'; have HO4:=ab hown'; have HG4:=ab hgrow'; obtain⟨a4,c4,rfl,-,-⟩:=aj hown'; clear hown' hgrow')
 have HB4:=ab (show Below w.heap.size w wc from cJ HB3.out HO3.out HG4.out hVs HB3.out.size);have hS4:wc.cell? ⟨w.heap.size,0,none⟩=some (.string k.nm):=by
  rw[<-hS3];exact World.cell?_of_block (HG4.out.block w.heap.size (by have:=lt_of_block HXV.out; omega) (fun e=>by have h1:=(HO3.out.lt _ e.symm).1; have:=lt_of_block HXV.out; omega))
 have HBY:=ab (show aD (fun _=>True) wc (.slice a4 ((aP g).length+cl) c4) (aP g++c) by
  have h9:=bq HO4.out;rw[<-List.map_append]at h9;unfold aD;rw[List.length_append,<-HCL.out];exact h9.weak (fun _ _=>trivial))
 have hml:(aP g++c).length<281474976710656:=by rw[List.length_append,<-HCL.out]; have:=HLN.out; omega
 clear hS3;refine⟨hS4, ?_⟩;refine ar 7 rfl (by kernel_rfl) rfl (fun K hK=> ?_);have hnm:=(sC HK.out).1;go_wp2_with fail;refine(ni (fun _=>True) k.nm (aP g++c) _ wc (by rw[hnm]; decide) HBY.out hml (HE.out.below HB4.out)).mono ?_;rintro e w5 ⟨rfl,hb5⟩;have HB5:=ab (ag HB4.out hb5);have hS5:w5.cell? ⟨w.heap.size,0,none⟩=some (.string k.nm):=(hb5.cell (p:=⟨w.heap.size,0,none⟩) (block_lt_of_cell hS4)).trans hS4
 clear hb5 hS4;go_wp2_with fail;refine⟨hS5, ?_⟩;refine af 8 rfl (by kernel_rfl) (by kernel_rfl) (by kernel_rfl) (fun _ _ _ h=>h) rfl hS5 (by intro w' hw1; go_simp; rfl) ?_;simp only[Act.put,aA,aB,aC];refine af 9 rfl (by kernel_rfl) (by kernel_rfl) (by kernel_rfl) (fun _ _ _ h=>h) rfl hS5 (by intro w' hw1; go_simp; rfl) ?_;simp only[Act.put,aA,aB,aC];refine aV (by kernel_rfl) ?_
 go_wp2_with fail
 go_ret2
 exact⟨rfl,HB5.out⟩
theorem qL (k:bI) (w:World) (hE:sO w):Calls Tryz.prog 69 #[iU k, .slice none 0 0] w fun e w'=>(∃v,e= .returned (.tuple #[v, .int .i64 (if fP k=true then 0 else 1)]))/\Below w.heap.size w w':=by
 have HE:=ab hE;clear hE;unfold iU
 by_cases hk:fP k=true
 ·rw[if_pos hk];have HK:=ab hk;clear hk
  go_enter Tryz.func69,Tryz.ntmps69
  go_wp2_with fail;obtain⟨W1,hW1⟩: ∃W1,W1=w.alloc (.cells #[.string k.nm, .string k.st, .string k.ck, .string k.ix, .string k.tk] 42):=⟨_,rfl⟩;rw[<-hW1];have HB1:=ab (show Below w.heap.size w W1 by rw[hW1]; exact(Below.refl _ _).alloc (Nat.le_refl _) _);have HX1:=ab (show W1.heap[w.heap.size]? =some (.cells (dh k).toArray 42 (0,0)) by rw[hW1]; exact heap_alloc_new w _);clear hW1
  refine(jx k true W1 HK.out).mono ?_;rintro e w1 ⟨rfl,hb1⟩;have HB2:=ab (ag HB1.out hb1);have HX2:=ab ((hb1.block _ (lt_of_block HX1.out)).trans HX1.out);have c2:w1.cell? ⟨w.heap.size,2,none⟩=some (.string k.ck):=(cell_of_row w1 _ _ _ _ _ HX2.out).trans rfl;have hck:=(sC HK.out).2.2.1;clear hb1;go_wp2_with fail;refine(ni (fun _=>True) k.ck [] _ w1 (by rw[hck]; decide) (aS.nil _ _ _) (by decide) (HE.out.below HB2.out)).mono ?_
  rintro e w2 ⟨rfl,hb2⟩;have HB3:=ab (ag HB2.out hb2);obtain⟨t,ht⟩: ∃t:ByteArray,t=⟨(wu (bl k.ck) []).toArray⟩:=⟨_,rfl⟩;have htz:t.size=32:=by rw[ht,ay,ff,wv]
  rw[<-ht];obtain⟨W3,cp,hcv,-,hbw,-⟩:=rm (t.extract 0 16) w2 (by have:=Lib.extract_data t 0 16; rw[ByteArray.size_extract]; unfold maxLen; omega);have HB4:=ab (ag HB3.out hbw);clear hb2 ht hbw c2;go_wp2_with fail
  go_ret2
  exact⟨⟨_,rfl⟩,HB4.out⟩
 ·rw[if_neg hk];have HK:=ab (show fP k=false by simpa using hk);clear hk
  go_enter Tryz.func69,Tryz.ntmps69
  go_wp2_with fail;obtain⟨W1,hW1⟩: ∃W1,W1=w.alloc (.cells #[.string k.nm, .string k.st, .string k.ck, .string k.ix, .string k.tk] 42):=⟨_,rfl⟩;rw[<-hW1];have HB1:=ab (show Below w.heap.size w W1 by rw[hW1]; exact(Below.refl _ _).alloc (Nat.le_refl _) _);have HX1:=ab (show W1.heap[w.heap.size]? =some (.cells (dh k).toArray 42 (0,0)) by rw[hW1]; exact heap_alloc_new w _);clear hW1
  refine(jx k false W1 HK.out).mono ?_;rintro e w1 ⟨rfl,hb1⟩;have HB2:=ab (ag HB1.out hb1);clear hb1;go_wp2_with fail
  go_ret2
  exact⟨⟨_,rfl⟩,HB2.out⟩
end Go.Proofs.YtpffpjbkbaleiaaGreatDoor
namespace Go.Proofs.YtpffpjbkbaleiaaGreatDoor
def dT (x k:Nat):Nat:=(x*2^k%18446744073709551616) ||| (x/2^(64-k))
def nK :Nat->Nat->Nat
 | 0,x=>x
 | n+1,x=>dT (nK n x) 1
theorem fA {x k:Nat} (_hk:k<=64) (i:Nat):(dT x k).testBit i=((decide (i<64) && decide (k<=i) && x.testBit (i-k)) || x.testBit (64-k+i)):=by
 unfold dT;rw[Nat.testBit_or,show(18446744073709551616:Nat)=2^64 from rfl,Nat.testBit_mod_two_pow,Nat.testBit_mul_two_pow,Nat.testBit_div_two_pow,Nat.add_comm i (64-k),Bool.and_assoc]
theorem gz {x:Nat} (hx:x<18446744073709551616) {i:Nat} (h:64<=i):x.testBit i=false:=
 Nat.testBit_lt_two_pow (Nat.lt_of_lt_of_le hx (Nat.pow_le_pow_right (by decide) h:2^64<=2^i))
theorem ja {x:Nat} (k:Nat) (hx:x<18446744073709551616):dT x k<18446744073709551616:=
 Nat.or_lt_two_pow (n:=64) (Nat.mod_lt _ (by decide)) (Nat.lt_of_le_of_lt (Nat.div_le_self _ _) hx)
theorem zb : ∀(n:Nat) {x:Nat},x<18446744073709551616->nK n x<18446744073709551616
 | 0,_,h=>h
 | n+1,_,h=>ja 1 (zb n h)
theorem pU {x:Nat} (hx:x<18446744073709551616):dT x 0=x:=by
 unfold dT;rw[show(2:Nat)^(64-0)=18446744073709551616 by decide,Nat.div_eq_of_lt hx,Nat.or_zero,Nat.pow_zero,Nat.mul_one,Nat.mod_eq_of_lt hx]
theorem xO {x k:Nat} (hx:x<18446744073709551616) (hk:k<64):dT (dT x k) 1=dT x (k+1):=by
 apply Nat.eq_of_testBit_eq
 intro i;rw[fA (by decide),fA (by omega),fA (by omega),fA (by omega)]
 by_cases h64:i<64
 ·by_cases h0:i=0
  ·subst h0;have e1:x.testBit (64-k+(64-1+0))=false:=gz hx (by omega);have e2:64-1+0-k=64-(k+1)+0:=by omega
   have e3:x.testBit (64-0+0-k+64)=false:=gz hx (by omega);simp only[e1,e2];simp;omega
  ·have e1:x.testBit (64-k+(64-1+i))=false:=gz hx (by omega);have e2:(64-1+i<64)=False:=by simp; omega
   have e3:i-1-k=i-(k+1):=by omega
   have e4:64-k+(i-1)=64-(k+1)+i:=by omega
   have e5:(decide (k<=i-1))=decide (k+1<=i):=by rw[decide_eq_decide]; omega
   have e6:decide (1<=i)=true:=by simp; omega
   have e7:decide (i-1<64)=true:=by simp; omega
   have e8:decide (i<64)=true:=by simp; omega
   have e9:decide (64-1+i<64)=false:=by simp; omega
   simp only[e1,e3,e4,e5,e6,e7,e8,e9,Bool.true_and,Bool.false_and,Bool.or_false]
 ·have e1:x.testBit (64-k+(64-1+i))=false:=gz hx (by omega);have e2:x.testBit (64-(k+1)+i)=false:=gz hx (by omega);have e8:decide (i<64)=false:=by simp; omega
  have e9:decide (64-1+i<64)=false:=by simp; omega
  simp only[e1,e2,e8,e9,Bool.false_and,Bool.or_false]
theorem ob {x:Nat} (hx:x<18446744073709551616): ∀ {k:Nat},k<=64->nK k x=dT x k
 | 0,_=>(pU hx).symm
 | k+1,h=>by rw[nK,ob hx (k:=k) (by omega),xO hx (by omega)]
theorem AR {x:Nat} (hx:x<18446744073709551616):nK 64 x=x:=by
 rw[ob hx (by decide)];unfold dT;rw[show(2:Nat)^64=18446744073709551616 by decide,Nat.mul_mod_left,Nat.zero_or];simp
theorem Fd {x y:Nat} (hx:x<18446744073709551616) (hy:y<18446744073709551616) {k:Nat} (hk:k<=64):dT (x^^^y) k=dT x k^^^dT y k:=by
 apply Nat.eq_of_testBit_eq
 intro i;rw[Nat.testBit_xor,fA hk,fA hk,fA hk,Nat.testBit_xor,Nat.testBit_xor]
 by_cases h:i<64/\k<=i
 ·have e:decide (i<64)=true/\decide (k<=i)=true:=by simpa using h
  rw[e.1,e.2,gz hx (i:=64-k+i) (by omega),gz hy (i:=64-k+i) (by omega)];simp
 ·have e:(decide (i<64) && decide (k<=i))=false:=by simp; omega
  rw[e]; simp
theorem ms {x y:Nat} (hx:x<18446744073709551616) (hy:y<18446744073709551616):x^^^y<18446744073709551616:=Nat.xor_lt_two_pow (n:=64) hx hy
def CD (z:Nat):Nat:=((z^^^(z/2^30))*13787848793156543929)%18446744073709551616
def CE (z:Nat):Nat:=((z^^^(z/2^27))*10723151780598845931)%18446744073709551616
def FW (z:Nat):Nat:=z^^^(z/2^31)
def vY (seed i:Nat):Nat:=(seed+(i+1)*11400714819323198485%18446744073709551616)%18446744073709551616
def tA (seed i:Nat):Nat:=FW (CE (CD (vY seed i)))
theorem nZ (seed i:Nat):tA seed i<18446744073709551616:=by
 unfold tA FW;have h:CE (CD (vY seed i))<18446744073709551616:=Nat.mod_lt _ (by decide);exact ms h (Nat.lt_of_le_of_lt (Nat.div_le_self _ _) h)
theorem uN {M:List UInt8->Prop} (h0:M []) (h1: ∀l b,M l->M (l++[b])) (l:List UInt8):M l:=by
 have: ∀r:List UInt8,M r.reverse:=by
  intro r
  induction r with
  | nil=>exact h0
  | cons b r ih=>rw[List.reverse_cons]; exact h1 _ _ ih
 have h:=this l.reverse;rw[List.reverse_reverse]at h; exact h
section
variable (T : Nat → Nat)
def eK (l:List UInt8):Nat:=l.foldl (fun s b=>dT s 1^^^T b.toNat) 0
theorem gD (l:List UInt8) (b:UInt8):eK T (l++[b])=dT (eK T l) 1^^^T b.toNat:=by
 unfold eK; rw[List.foldl_append,List.foldl_cons,List.foldl_nil]
theorem rE :eK T []=0:=rfl
theorem zS (x:UInt8):eK T [x]=T x.toNat:=by
 unfold eK; rw[List.foldl_cons,List.foldl_nil,show dT 0 1=0 by decide,Nat.zero_xor]
variable {T}
theorem uM (hT: ∀i,T i<18446744073709551616) (l:List UInt8):eK T l<18446744073709551616:=by
 refine uN (M:=fun l=>eK T l<18446744073709551616) ?_ (fun l b ih=> ?_) l
 ·show eK T []<_
  rw[rE]; decide
 ·show eK T (l++[b])<_
  rw[gD]; exact ms (ja 1 ih) (hT _)
theorem wY (hT: ∀i,T i<18446744073709551616) (x:UInt8) (l:List UInt8):eK T (x::l)=nK l.length (T x.toNat)^^^eK T l:=by
 refine uN (M:=fun l=>eK T (x::l)=nK l.length (T x.toNat)^^^eK T l) ?_ (fun l b ih=> ?_) l
 ·show eK T [x]=nK 0 (T x.toNat)^^^eK T []
  rw[zS,rE,Nat.xor_zero,nK]
 ·show eK T (x::(l++[b]))=nK (l++[b]).length (T x.toNat)^^^eK T (l++[b])
  rw[<-List.cons_append,gD,gD,List.length_append,List.length_singleton,nK,ih,Fd (zb _ (hT _)) (uM hT _) (by decide),Nat.xor_assoc]
theorem wZ (hT: ∀i,T i<18446744073709551616) (x b:UInt8) (l:List UInt8) (h:l.length+1<=64):(dT (eK T (x::l)) 1^^^T b.toNat)^^^dT (T x.toNat) (l.length+1)=eK T (l++[b]):=by
 rw[<-gD,List.cons_append,wY hT,List.length_append,List.length_singleton,<-ob (hT _) h,Nat.xor_comm (nK _ _),Nat.xor_assoc,Nat.xor_self,Nat.xor_zero]
end
def nh (seed:Nat) (l:List UInt8):Nat:=eK (tA seed) l
theorem uL (seed:Nat) (l:List UInt8):nh seed l<18446744073709551616:=uM (nZ seed) l
def jd (W:Nat) (d:List UInt8):List UInt8:=d.drop (d.length-W)
theorem ko (W:Nat) (d:List UInt8):(jd W d).length=min W d.length:=by unfold jd; rw[List.length_drop]; omega
theorem sI {W:Nat} {d:List UInt8} (h:d.length<W) (b:UInt8):jd W (d++[b])=jd W d++[b]:=by
 unfold jd;rw[List.length_append,List.length_singleton,show d.length+1-W=0 by omega,show d.length-W=0 by omega]; rfl
theorem sJ {W:Nat} {d:List UInt8} (hW:1<=W) (h:W<=d.length) (b:UInt8):jd W (d++[b])=(jd W d).tail++[b]:=by
 unfold jd;rw[List.length_append,List.length_singleton,List.tail_drop,List.drop_append_of_le_length (by omega)]
 congr 2; omega
def Fu (seed W bits:Nat) (d:List UInt8):Bool:=decide (W<=d.length) && decide (bits<=Lib.ctz 64 (nh seed (jd W d)))
section
variable (mk : Nat → Bool) (mn mx len : Nat)
def jE :Nat->Int
 | 0=> -(mn:Int)
 | p+1=>if mk (p+1)then((p+1:Nat):Int)else jE p
def pP :Nat->Bool
 | 0=>false
 | p+1=>mk (p+1) && decide ((mn:Int)<=((p+1:Nat):Int)-jE mk mn p)
def fK (l:List Nat):Nat:=l.getLast?.getD 0
def gN (s q:Nat):Bool:=pP mk mn q || decide (s+mx<=q) || decide (len<=q)
def eG :Nat->List Nat
 | 0=>[]
 | p+1=>if gN mk mn mx len (fK (eG p)) (p+1)then eG p++[p+1]else eG p
def uH :List Nat:=eG mk mn mx len len
end
section
variable {mk : Nat → Bool} {mn mx len : Nat}
theorem fz (l:List Nat) (p:Nat):fK (l++[p])=p:=by simp[fK]
theorem xA (p:Nat):(jE mk mn p= -(mn:Int)/\ ∀q,1<=q->q<=p->mk q=false)\/ ∃L,jE mk mn p=((L:Nat):Int)/\1<=L/\L<=p/\mk L=true/\ ∀q,L<q->q<=p->mk q=false:=by
 induction p with
 | zero=>exact .inl ⟨rfl,fun q h1 h2=>by omega⟩
 | succ p ih=>
  rw[jE]
  by_cases h:mk (p+1)=true
  ·rw[if_pos h];exact .inr ⟨p+1,rfl,by omega,by omega,h,fun q h1 h2=>by omega⟩
  ·rw[if_neg h];have h0:mk (p+1)=false:=by simpa using h
   rcases ih with⟨h1,h2⟩ | ⟨L,h1,h2,h3,h4,h5⟩
   ·exact .inl ⟨h1,fun q hq1 hq2=>by
     by_cases e:q=p+1
     ·rw[e]; exact h0
     ·exact h2 q hq1 (by omega)⟩
   ·exact .inr ⟨L,h1,h2,by omega,h4,fun q hq1 hq2=>by
     by_cases e:q=p+1
     ·rw[e]; exact h0
     ·exact h5 q hq1 (by omega)⟩
def FG (mk:Nat->Bool) (mn mx len s q:Nat):Prop:=s<q/\q<=len/\gN mk mn mx len s q=true/\ ∀r,s<r->r<q->gN mk mn mx len s r=false
inductive BG (mk : Nat → Bool) (mn mx len : Nat) : List Nat → Nat → Prop
 | nil:BG mk mn mx len [] 0
 | snoc {l:List Nat} {s q:Nat} :BG mk mn mx len l s->FG mk mn mx len s q->BG mk mn mx len (l++[q]) q
theorem BG.last {l:List Nat} {s:Nat} (h:BG mk mn mx len l s):fK l=s:=by
 cases h with
 | nil=>rfl
 | snoc _ _=>exact fz _ _
theorem BG.le {l:List Nat} {s:Nat} (h:BG mk mn mx len l s):s<=len:=by
 cases h with
 | nil=>omega
 | snoc _ h=>exact h.2.1
theorem oW : ∀ {p:Nat},p<=len-> ∃s,BG mk mn mx len (eG mk mn mx len p) s/\s<=p/\ ∀r,s<r->r<=p->gN mk mn mx len s r=false
 | 0,_=>⟨0, .nil,by omega,fun r h1 h2=>by omega⟩
 | p+1,hp=>by
  obtain⟨s,h1,h2,h3⟩:=oW (p:=p) (by omega);rw[eG,h1.last]
  by_cases h:gN mk mn mx len s (p+1)=true
  ·rw[if_pos h];exact⟨p+1,h1.snoc ⟨by omega,hp,h,fun r hr1 hr2=>h3 r hr1 (by omega)⟩,by omega,fun r hr1 hr2=>by omega⟩
  ·rw[if_neg h];exact⟨s,h1,by omega,fun r hr1 hr2=>by
    by_cases e:r=p+1
    ·rw[e]; simpa using h
    ·exact h3 r hr1 (by omega)⟩
theorem rB :BG mk mn mx len (uH mk mn mx len) len:=by
 obtain⟨s,h1,h2,h3⟩:=oW (mk:=mk) (mn:=mn) (mx:=mx) (len:=len) (Nat.le_refl len)
 by_cases e:s=len
 ·rw[e]at h1; exact h1
 ·have:=h3 len (by omega) (by omega);simp[gN]at this
theorem FG.reach {s q:Nat} (hm:1<=mx) (h:FG mk mn mx len s q):q<=s+mx:=by
 by_cases h1:s+mx<q
 ·have h2:=h.2.2.2 (s+mx) (by omega) h1;simp[gN]at h2
 ·omega
def fU (data:List UInt8) (s e:Nat):List UInt8:=(data.drop s).take (e-s)
def ey (data:List UInt8):Nat->List Nat->List (List UInt8)
 | _,[]=>[]
 | s,e::l=>fU data s e::ey data e l
theorem gj (data:List UInt8): ∀(l:List Nat) (s e:Nat),ey data s (l++[e])=ey data s l++[fU data (l.getLast?.getD s) e]
 | [],_,_=>rfl
 | x::l,s,e=>by
  rw[List.cons_append,ey,gj data l x e,ey,List.cons_append]
  congr 3
  rw[List.getLast?_cons]; rfl
theorem vK {data:List UInt8} {l:List Nat} {s:Nat} (h:BG mk mn mx data.length l s):(ey data 0 l).flatten=data.take s:=by
 induction h with
 | nil=>simp[ey]
 | snoc h1 h2 ih=>
  rename_i l s q;rw[gj,List.flatten_append,ih];have:=h1.last;unfold fK at this;rw[this,List.flatten_cons,List.flatten_nil,List.append_nil];unfold fU;have h3:=h2.1;rw[show q=s+(q-s) by omega,List.take_add,show s+(q-s)-s=q-s by omega]
theorem xH {data:List UInt8} :(ey data 0 (uH mk mn mx data.length)).flatten=data:=by
 rw[vK rB,List.take_length]
theorem At {data:List UInt8} {l:List Nat} {s:Nat} (hm:1<=mx) (h:BG mk mn mx data.length l s): ∀c∈ey data 0 l,1<=c.length/\c.length<=mx:=by
 induction h with
 | nil=>simp[ey]
 | snoc h1 h2 ih=>
  rename_i l s q;rw[gj];intro c hc
  rcases List.mem_append.1 hc with hc | hc
  ·exact ih c hc
  ·rw[List.mem_singleton.1 hc];have:=h1.last;unfold fK at this;rw[this];unfold fU;rw[List.length_take,List.length_drop];have h3:=h2.reach hm;have h4:=h2.1;have h5:=h2.2.1;omega
end
open Go Go.RowKit
theorem AU {x s:Nat} (hx:x<18446744073709551616):bits .or .u64 ((x:Int)*2^s%18446744073709551616) ((x:Int)/2^(64-s))=((dT x s:Nat):Int):=by
 have e1:((x:Int)*2^s%18446744073709551616)=((x*2^s%18446744073709551616:Nat):Int):=by simp
 have e2:((x:Int)/2^(64-s))=((x/2^(64-s):Nat):Int):=by simp
 rw[e1,e2,u64_or_nat _ _ (Nat.mod_lt _ (by decide)) (Nat.lt_of_le_of_lt (Nat.div_le_self _ _) hx)]
 rfl
theorem sj (x k:Nat) (w:World) (hx:x<18446744073709551616) (hk:k<=64):Calls Tryz.prog 211 #[.int .u64 (x:Int), .int .i64 (k:Int)] w fun e w'=>e= .returned (.int .u64 ((dT x k:Nat):Int))/\w=w':=by
 obtain⟨s,hs⟩: ∃s,s=k%64:=⟨_,rfl⟩;have h1:bits BinOp.and IntKind.u64 (k:Int) 63=(s:Int):=by
  rw[show(63:Int)=((63:Nat):Int)from rfl,u64_and_nat _ _ (by omega) (by decide),nat_mask6,hs]
 have hs64:s<64:=by omega
 have hmin:min s 64=s:=by omega
 have hmin2:min (64-s) 64=64-s:=by omega
 have HR:=ab (show dT x s=dT x k by
  by_cases h:k=64
  ·have e:s=0:=by rw[hs,h]
   rw[e,h,pU hx,<-ob hx (Nat.le_refl 64),AR hx]
  ·rw[show s=k by omega])
 clear hs
 go_enter Tryz.func211,Tryz.ntmps211
 go_wp2_with fail;go_ret;refine⟨?_,rfl⟩;rw[<-HR.out,<-AU hx,IntKind.wrap_u64]
 rfl
theorem FX (a c:Nat):((a:Int)*(c:Int))%18446744073709551616=((a*c%18446744073709551616:Nat):Int):=by simp
theorem qr (z d:Nat) (hz:z<18446744073709551616):bits BinOp.xor IntKind.u64 (z:Int) ((z:Int)/(d:Int))=((z^^^(z/d):Nat):Int):=by
 rw[show((z:Int)/(d:Int))=((z/d:Nat):Int) by simp,u64_xor_nat _ _ hz (Nat.lt_of_le_of_lt (Nat.div_le_self _ _) hz)]
theorem Ad (z:Nat) (hz:z<18446744073709551616):(bits BinOp.xor IntKind.u64 (z:Int) ((z:Int)/1073741824)*13787848793156543929)%18446744073709551616=((CD z:Nat):Int):=by
 have h:=qr z 1073741824 hz;rw[show((1073741824:Nat):Int)=1073741824 from rfl]at h;rw[h];exact FX (z^^^(z/1073741824)) 13787848793156543929
theorem Af (z:Nat) (hz:z<18446744073709551616):(bits BinOp.xor IntKind.u64 (z:Int) ((z:Int)/134217728)*10723151780598845931)%18446744073709551616=((CE z:Nat):Int):=by
 have h:=qr z 134217728 hz;rw[show((134217728:Nat):Int)=134217728 from rfl]at h;rw[h];exact FX (z^^^(z/134217728)) 10723151780598845931
theorem Ah (z:Nat) (hz:z<18446744073709551616):bits BinOp.xor IntKind.u64 (z:Int) ((z:Int)/2147483648)=((FW z:Nat):Int):=by
 have h:=qr z 2147483648 hz;rw[show((2147483648:Nat):Int)=2147483648 from rfl]at h;exact h
theorem AY (s k:Nat):IntKind.u64.wrap ((s:Int)+IntKind.u64.wrap (((k:Int)+1)*11400714819323198485))=((vY s k:Nat):Int):=by
 rw[IntKind.wrap_u64,IntKind.wrap_u64,show((k:Int)+1)=((k+1:Nat):Int) by omega,show(11400714819323198485:Int)=((11400714819323198485:Nat):Int)from rfl,FX];unfold vY;omega
theorem Ae (z:Nat) (hz:z<18446744073709551616):IntKind.u64.wrap (bits BinOp.xor IntKind.u64 (z:Int) ((z:Int)/1073741824)*13787848793156543929)=((CD z:Nat):Int):=by rw[IntKind.wrap_u64,Ad z hz]
theorem Ag (z:Nat) (hz:z<18446744073709551616):IntKind.u64.wrap (bits BinOp.xor IntKind.u64 (z:Int) ((z:Int)/134217728)*10723151780598845931)=((CE z:Nat):Int):=by rw[IntKind.wrap_u64,Af z hz]
theorem EL (z:Nat):CD z<18446744073709551616:=Nat.mod_lt _ (by decide)
theorem EM (z:Nat):CE z<18446744073709551616:=Nat.mod_lt _ (by decide)
theorem Dr (s i:Nat):vY s i<18446744073709551616:=Nat.mod_lt _ (by decide)
def Bn (x:Nat):Value:= .int .u64 (x:Int)
structure iz (w : World) (seed k : Nat) (wr : World) : Prop where
 box:wr.heap[w.heap.size]? =some (.cells ((List.range k).map (fun i=>Bn (tA seed i))++List.replicate (256-k) (Bn 0)).toArray 43 (0,0))
 below:Below w.heap.size w wr
theorem iz.here {w wr:World} {seed k:Nat} (h:iz w seed k wr) (hk:k<256):wr.cell? ⟨w.heap.size,k,none⟩=some (.int .u64 0):=by
 rw[cell_of_row wr _ _ _ _ _ h.box,List.getElem?_toArray,List.getElem?_append_right (by simp)];rw[List.length_map,List.length_range,Nat.sub_self,show 256-k=(256-(k+1))+1 by omega,List.replicate_succ]
 rfl
theorem iz.put {w wr:World} {seed k:Nat} (h:iz w seed k wr) (hk:k<256):iz w seed (k+1) (wr.setCell ⟨w.heap.size,k,none⟩ (Bn (tA seed k))):=by
 refine⟨?_,h.below.trans ⟨rfl,rfl,rfl,by simp[World.setCell],fun j hj=>heap_setCell_other wr _ j _ (by show j≠w.heap.size; omega)⟩⟩;rw[heap_setCell_same wr _ _ _ _ _ h.box]
 congr 2
 rw[List.setIfInBounds_toArray,List.set_append_right _ _ (by simp),List.length_map,List.length_range,Nat.sub_self,show 256-k=(256-(k+1))+1 by omega,List.replicate_succ,List.range_succ,List.map_append];simp
theorem EK (w:World):(Instr.makeSlice 262 (.int .i64 256) (.int .i64 256)).run Tryz.prog w= .ok (.slice (some ⟨w.heap.size,0,none⟩) 256 256) (w.alloc (.cells (List.replicate 256 (Bn 0)).toArray 43)):=by kernel_rfl
theorem Bl (seed:Nat) (w:World):Calls Tryz.prog 210 #[.int .u64 (seed:Int)] w fun e w'=>e= .returned (.slice (some ⟨w.heap.size,0,none⟩) 256 256)/\iz w seed 256 w':=by
 have hmk:=EK
 go_enter Tryz.func210,Tryz.ntmps210
 go_wp2_with fail;have HT0:=ab (show iz w seed 0 (w.alloc (.cells (List.replicate 256 (Bn 0)).toArray 43))from⟨by rw[heap_alloc_new]; rfl,(Below.refl _ _).alloc (Nat.le_refl _) _⟩);clear hmk
 go_loopw [9] (fun i wr=> ∃k:Nat,k<=256/\i= .int .i64 (k:Int)/\iz w seed k wr) (fun i _=>256-(intOf i).toNat)
 case atStart=>exact⟨0,by omega,rfl,HT0.out⟩
 case round=>
  obtain⟨k,hk,rfl,ht⟩:=hrel;have HT:=ab ht;have hz:=ht.below.size;clear ht
  by_cases h256:k<256
  ·have ch:=HT.out.here h256;have cf:=frozen_of_row wr _ k _ _ HT.out.box;have hki:(k:Int)<256:=by omega
   go_wp2_with fail
   go_roundw
   case rel=>
    rw[AY,Ae _ (Dr _ _),Ag _ (EL _),Ah _ (EM _)];exact⟨k+1,by omega,by simp,HT.out.put h256⟩
   case measure=>simp[intOf]; omega
  ·obtain rfl:k=256:=by omega
   go_wp2_with fail;go_ret;exact⟨rfl,HT.out⟩
def mM (seed:Nat):List Value:=(List.range 256).map fun i=>Bn (tA seed i)
theorem mh (seed:Nat):(mM seed).length=256:=by simp[mM]
def eQ (seed:Nat) (ring:List UInt8) (W s n h:Nat):List Value:=mM seed++(ring.map au++[.int .i64 (W:Int), .int .i64 (s:Int), .int .i64 (n:Int), .int .u64 (h:Int)])
theorem iz.full {w wr:World} {seed:Nat} (h:iz w seed 256 wr):wr.heap[w.heap.size]? =some (.cells (mM seed).toArray 43 (0,0)):=by
 rw[h.box,Nat.sub_self,List.replicate_zero,List.append_nil]; rfl
def ks (W:Nat):List Value:=List.replicate 256 (.int .u64 0)++((List.replicate 64 (0:UInt8)).map au++[.int .i64 (W:Int), .int .i64 0, .int .i64 0, .int .u64 0])
theorem vS (seed W:Nat) (w:World) (hW:1<=W) (hW2:W<=64):Calls Tryz.prog 199 #[.int .u64 (seed:Int), .int .i64 (W:Int)] w fun e w'=> ∃rb,e= .returned (.pointer (some ⟨rb,0,none⟩))/\w.heap.size<=rb/\
  w'.heap[rb]? =some (.cells (eQ seed (List.replicate 64 0) W 0 0 0).toArray 237 (0,0))/\Below w.heap.size w w':=by
 have hmax:max (W:Int) 1=(W:Int):=by omega
 have hmin:min (W:Int) 64=(W:Int):=by omega
 go_enter Tryz.func199,Tryz.ntmps199
 go_wp2_with fail;obtain⟨w1,hw1⟩: ∃w1,w1=w.alloc (.cells (Tryz.zeroCells237.setIfInBounds 320 (.int .i64 (W:Int))) 237):=⟨_,rfl⟩;rw[<-hw1];have HX1:=ab (show w1.heap[w.heap.size]? =some (.cells (ks W).toArray 237 (0,0)) by rw[hw1,heap_alloc_new,show Tryz.zeroCells237.setIfInBounds 320 (.int .i64 (W:Int))=(ks W).toArray by kernel_rfl]);have HB1:=ab (show Below w.heap.size w w1 by rw[hw1]; exact(Below.refl _ _).alloc (Nat.le_refl _) _)
 clear hw1 hmax hmin;refine cM (fun _=>True) (by kernel_rfl) ?_;obtain⟨V,hV⟩: ∃V:World,V=w1.drew:=⟨_,rfl⟩;rw[<-hV];have HXV:=ab (show V.heap[w.heap.size]? =some (.cells (ks W).toArray 237 (0,0)) by rw[hV]; exact HX1.out);have HBV:=ab (show Below w.heap.size w V by rw[hV]; exact HB1.out.trans (Below.refl _ _).drew);clear hV;refine af 0 rfl (by kernel_rfl) (by kernel_rfl) (by kernel_rfl) (fun _ _ _ h=>h) rfl trivial (by intro w' hw1; go_simp; rfl) ?_
 simp only[Act.put,aA,aB,aC];refine af 1 rfl (by kernel_rfl) (by kernel_rfl) (by kernel_rfl) (fun _ _ _ h=>h) rfl trivial (by intro w' hw1; go_simp; rfl) ?_;simp only[Act.put,aA,aB,aC];refine af 2 rfl (by kernel_rfl) (by kernel_rfl) (by kernel_rfl) (fun _ _ _ h=>h) rfl trivial (by intro w' hw1; go_simp; rfl) ?_;simp only[Act.put,aA,aB,aC];refine af 3 rfl (by kernel_rfl) (by kernel_rfl) (by kernel_rfl) (fun _ _ _ h=>h) rfl trivial (by intro w' hw1; go_simp; rfl) ?_
 simp only[Act.put,aA,aB,aC];refine af 4 rfl (by kernel_rfl) (by kernel_rfl) (by kernel_rfl) (fun _ _ _ h=>h) rfl trivial (by intro w' hw1; go_simp; rfl) ?_;simp only[Act.put,aA,aB,aC];refine ar 5 rfl (by kernel_rfl) rfl (fun K hK=> ?_);go_wp2_with fail;refine(Bl seed V).mono ?_;rintro e w2 ⟨rfl,ht⟩;have HTF:=ab ht.full;have HB2:=ab (ag HBV.out ht.below)
 have HX2:=ab ((ht.below.block _ (lt_of_block HXV.out)).trans HXV.out);have HLT:=ab (lt_of_block HXV.out);clear ht;go_wp2_with fail
 try refine⟨trivial, ?_⟩
 refine ar 6 rfl (by kernel_rfl) rfl (fun K hK=> ?_);have HSRC:=ab (show ∀j v,(mM seed)[j]? =some v->w2.cell? ((⟨V.heap.size,0,none⟩:Addr).add j)=some v from fun j v hj=>by rw[Addr.add_mid,Nat.zero_add,cell_of_row w2 _ _ _ _ _ HTF.out,List.getElem?_toArray]; exact hj);have HFIT:=ab (show 0+(mM seed).length<=(ks W).toArray.size by rw[mh,List.size_toArray]; simp[ks])
 have HONE:=ab (show ∀v∈mM seed,v.oneCell'=true from fun v hv=>by obtain⟨x,_,rfl⟩:=List.mem_map.1 hv; rfl);go_wp2_with (refine wpList_copy_own rfl _ _ 262 262 rfl 43 Tryz.underlying262 (by kernel_rfl) w.heap.size 0 256 256 ⟨V.heap.size,0,none⟩ 256 256 rfl rfl (ks W).toArray 237 HX2.out (mM seed) rfl HSRC.out HFIT.out HONE.out ?_);simp only[Act.put,aA,aB,aC];obtain⟨w3,hw3⟩: ∃w3,w3=w2.setRow w.heap.size (List.take 0 (ks W)++(mM seed++List.drop (0+(mM seed).length) (ks W))).toArray:=⟨_,rfl⟩
 have HX3:=ab (show w3.heap[w.heap.size]? =some (.cells (eQ seed (List.replicate 64 0) W 0 0 0).toArray 237 (0,0)) by
  rw[hw3,setRow_heap w2 _ _ _ _ _ HX2.out,List.take_zero,List.nil_append,Nat.zero_add,mh]
  congr 3)
 have HB3:=ab (show Below w.heap.size w w3 by rw[hw3]; exact below_setRow HB2.out (Nat.le_refl _) _);refine⟨trivial, ?_⟩;refine aV (by kernel_rfl) ?_
 change Exit.then _ _ _ _ (w2.setRow w.heap.size (List.take 0 (ks W)++(mM seed++List.drop (0+(mM seed).length) (ks W))).toArray)
 rw[<-hw3];clear hw3;go_wp2_with fail;go_ret;exact⟨_,rfl,Nat.le_refl _,HX3.out,HB3.out⟩
structure dN where
 mn:Int
 mx:Int
 win:Int
 bits:Int
 seed:Nat
def dA (c:dN):List Value:=[.int .i64 c.mn, .int .i64 c.mx, .int .i64 c.win, .int .i64 c.bits, .int .u64 (c.seed:Int)]
def fH (c:dN):Value:= .agg #[.int .i64 c.mn, .int .i64 c.mx, .int .i64 c.win, .int .i64 c.bits, .int .u64 (c.seed:Int)]
def iI (c:dN):Bool:=decide (1<=c.win) && decide (c.win<=64) && decide (c.win<=c.mn) && decide (c.mn<=c.mx) && decide (c.mx<=32768) && decide (0<=c.bits) && decide (c.bits<=20)
theorem km {c:dN} :iI c=true<->1<=c.win/\c.win<=64/\c.win<=c.mn/\c.mn<=c.mx/\c.mx<=32768/\0<=c.bits/\c.bits<=20:=by unfold iI; simp[and_assoc]
theorem th (c:dN) (w:World):Calls Tryz.prog 70 #[fH c] w fun e w'=>e= .returned (.bool (iI c))/\Below w.heap.size w w':=by
 unfold fH
 go_enter Tryz.func70,Tryz.ntmps70
 go_wp2_with fail
 all_goals (go_ret; refine⟨an ?_,(Below.refl _ _).alloc (Nat.le_refl _) _⟩; rw[Bool.eq_iff_iff,km]; simp; try omega)
theorem Co {place:Nat->Option (Nat×Nat)} {cells:Array Value} {i off:Nat} {v:Value} {rest:List (Nat×Value)} (hp:place i=some (off,1)) (hv:v.cells= #[v]) (hf:off<cells.size):
  Instr.fill place cells ((i,v)::rest)=Instr.fill place (cells.setIfInBounds off v) rest:=by
 rw[Instr.fill,hp];simp only[hv];rw[if_neg (by simp; omega)]
 rfl
def DX :List Value:=ks 0++([.int .i64 0, .int .i64 0, .int .i64 0, .int .i64 0, .int .u64 0]++[.int .i64 0, .int .i64 0])
theorem Bu :DX.length=331:=by kernel_rfl
theorem mI (seed:Nat) {ring:List UInt8} (h:ring.length=64) (W s n x:Nat):(eQ seed ring W s n x).length=324:=by unfold eQ; rw[List.length_append,mh,List.length_append,List.length_map,h]; rfl
theorem wO (r:List Value) (c:dN) (l:Int) (hr:r.length=324):Tryz.prog.built 239 [(0, .agg r.toArray),(1,fH c),(3, .int .i64 l)]=some (r++(dA c++[Value.int .i64 0,Value.int .i64 l])).toArray:=by
 have h: ∀parts,Tryz.prog.built 239 parts=Instr.fill (fun i=>(#[(0,324),(324,5),(329,1),(330,1)]:Array (Nat×Nat))[i]?) DX.toArray parts:=fun parts=>by kernel_rfl
 have e0:splice DX 0 r=r++([.int .i64 0, .int .i64 0, .int .i64 0, .int .i64 0, .int .u64 0]++[.int .i64 0, .int .i64 0]):=by
  unfold splice;rw[List.take_zero,List.nil_append,Nat.zero_add,hr]
  congr 1
 rw[h,iS (off:=0) (size:=324) rfl (by simpa using hr) (by rw[List.size_toArray,Bu]; decide)];simp only;rw[e0];unfold fH;rw[iS (off:=324) (size:=5) rfl rfl (by rw[List.size_toArray,List.length_append,hr]; decide),Co (off:=330) rfl rfl (by rw[List.size_toArray,length_splice _ _ _ (by rw[List.length_append,hr]; show 324+5<=324+7; decide),List.length_append,hr]; show 330<324+7; decide)]
 simp only[Instr.fill]
 congr 1
 unfold splice;rw[List.setIfInBounds_toArray]
 congr 1
 rw[List.take_append_of_le_length (by omega),List.take_of_length_le (by omega),List.drop_append,List.drop_eq_nil_of_le (by rw[hr]; show 324<=324+5; decide),List.set_append_right _ _ (by omega),hr]
 rfl
def kO (c:dN) (roll:List Value) (pos last:Int):List Value:=roll++(dA c++[Value.int .i64 pos,Value.int .i64 last])
theorem mE (c:dN) {roll:List Value} (h:roll.length=324) (p l:Int):(kO c roll p l).length=331:=by unfold kO; rw[List.length_append,h]; rfl
theorem AF (seed:Nat) (ring:List UInt8) (W s n x:Nat): ∀v∈eQ seed ring W s n x,v.oneCell'=true:=by
 intro v hv;unfold eQ at hv
 rcases List.mem_append.1 hv with hv | hv
 ·obtain⟨y,_,rfl⟩:=List.mem_map.1 hv; rfl
 ·rcases List.mem_append.1 hv with hv | hv
  ·obtain⟨y,_,rfl⟩:=List.mem_map.1 hv; rfl
  ·simp only[List.mem_cons,List.not_mem_nil,or_false]at hv
   rcases hv with rfl | rfl | rfl | rfl<;> rfl
theorem rR (c:dN) (seed:Nat) (W:Nat) (l:Int): ∀v∈eQ seed (List.replicate 64 0) W 0 0 0++(dA c++[Value.int .i64 0,Value.int .i64 l]),v.oneCell'=true:=by
 intro v hv
 rcases List.mem_append.1 hv with hv | hv
 ·exact AF _ _ _ _ _ _ v hv
 ·simp only[dA,List.mem_append,List.mem_cons,List.not_mem_nil,or_false]at hv
  rcases hv with(rfl | rfl | rfl | rfl | rfl) | rfl | rfl<;> rfl
theorem xN (seed W:Nat) (wi:Int) (w:World) (hwi:wi=(W:Int)) (hW:1<=W) (hW2:W<=64):Calls Tryz.prog 199 #[.int .u64 (seed:Int), .int .i64 wi] w fun e w'=> ∃rb,e= .returned (.pointer (some ⟨rb,0,none⟩))/\w.heap.size<=rb/\
  w'.heap[rb]? =some (.cells (eQ seed (List.replicate 64 0) W 0 0 0).toArray 237 (0,0))/\Below w.heap.size w w':=by
 subst hwi; exact vS seed W w hW hW2
theorem qE (c:dN) (W:Nat) (w:World) (_hs:c.seed<18446744073709551616) (hW:c.win=(W:Int)) (h1:1<=W) (h2:W<=64) (hm:0<=c.mn/\c.mn<=32768):
  Calls Tryz.prog 187 #[fH c] w fun e w'=>e= .returned (.agg (kO c (eQ c.seed (List.replicate 64 0) W 0 0 0) 0 (-c.mn)).toArray)/\Below w.heap.size w w':=by
 have HW:=ab hW;have hneg:IntKind.i64.wrap (-c.mn)= -c.mn:=by rw[IntKind.wrap_i64]; omega
 clear hW;unfold fH
 go_enter Tryz.func187,Tryz.ntmps187
 go_wp2_with fail;obtain⟨w1,hw1⟩: ∃w1,w1=(w.alloc (.cells #[.int .i64 c.mn, .int .i64 c.mx, .int .i64 c.win, .int .i64 c.bits, .int .u64 (c.seed:Int)] 45)).alloc (.cells Tryz.zeroCells239 239):=⟨_,rfl⟩;rw[<-hw1];have HX1:=ab (show w1.heap[w.heap.size]? =some (.cells (dA c).toArray 45 (0,0)) by rw[hw1]; exact heap_alloc2_old w _ _);have HZ1:=ab (show w1.heap[w.heap.size+1]? =some (.cells Tryz.zeroCells239 239 (0,0)) by rw[hw1]; exact heap_alloc2_new w _ _)
 have HB1:=ab (show Below w.heap.size w w1 by rw[hw1]; exact((Below.refl _ _).alloc (Nat.le_refl _) _).alloc (by simp) _);clear hw1;refine cM (fun w'=>w'.cell? ⟨w.heap.size,0,none⟩=some (.int .i64 c.mn)/\w'.cell? ⟨w.heap.size,1,none⟩=some (.int .i64 c.mx)/\w'.cell? ⟨w.heap.size,2,none⟩=some (.int .i64 c.win)/\w'.cell? ⟨w.heap.size,3,none⟩=some (.int .i64 c.bits)/\w'.cell? ⟨w.heap.size,4,none⟩=some (.int .u64 (c.seed:Int))) (by kernel_rfl) ?_
 obtain⟨V,hV⟩: ∃V:World,V=w1.drew:=⟨_,rfl⟩;rw[<-hV];have HXV:=ab (show V.heap[w.heap.size]? =some (.cells (dA c).toArray 45 (0,0)) by rw[hV]; exact HX1.out);have HZV:=ab (show V.heap[w.heap.size+1]? =some (.cells Tryz.zeroCells239 239 (0,0)) by rw[hV]; exact HZ1.out);have HBV:=ab (show Below w.heap.size w V by rw[hV]; exact HB1.out.trans (Below.refl _ _).drew);clear hV
 have c0:V.cell? ⟨w.heap.size,0,none⟩=some (.int .i64 c.mn):=(cell_of_row V _ _ _ _ _ HXV.out).trans rfl;have c1:V.cell? ⟨w.heap.size,1,none⟩=some (.int .i64 c.mx):=(cell_of_row V _ _ _ _ _ HXV.out).trans rfl;have c2:V.cell? ⟨w.heap.size,2,none⟩=some (.int .i64 c.win):=(cell_of_row V _ _ _ _ _ HXV.out).trans rfl;have c3:V.cell? ⟨w.heap.size,3,none⟩=some (.int .i64 c.bits):=(cell_of_row V _ _ _ _ _ HXV.out).trans rfl
 have c4:V.cell? ⟨w.heap.size,4,none⟩=some (.int .u64 (c.seed:Int)):=(cell_of_row V _ _ _ _ _ HXV.out).trans rfl;refine af 0 rfl (by kernel_rfl) (by kernel_rfl) (by kernel_rfl) (fun _ _ _ h=>h) rfl ⟨c0,c1,c2,c3,c4⟩ (by rintro w' ⟨hw1,hw2,hw3,hw4,hw5⟩; go_simp; rfl) ?_;simp only[Act.put,aA,aB,aC];refine af 1 rfl (by kernel_rfl) (by kernel_rfl) (by kernel_rfl) (fun _ _ _ h=>h) rfl ⟨c0,c1,c2,c3,c4⟩ (by rintro w' ⟨hw1,hw2,hw3,hw4,hw5⟩; go_simp; rfl) ?_
 simp only[Act.put,aA,aB,aC];refine af 2 rfl (by kernel_rfl) (by kernel_rfl) (by kernel_rfl) (fun _ _ _ h=>h) rfl ⟨c0,c1,c2,c3,c4⟩ (by rintro w' ⟨hw1,hw2,hw3,hw4,hw5⟩; go_simp; rfl) ?_;simp only[Act.put,aA,aB,aC];refine af 3 rfl (by kernel_rfl) (by kernel_rfl) (by kernel_rfl) (fun _ _ _ h=>h) rfl ⟨c0,c1,c2,c3,c4⟩ (by rintro w' ⟨hw1,hw2,hw3,hw4,hw5⟩; go_simp; rfl) ?_
 simp only[Act.put,aA,aB,aC];refine af 7 rfl (by kernel_rfl) (by kernel_rfl) (by kernel_rfl) (fun _ _ _ h=>h) rfl ⟨c0,c1,c2,c3,c4⟩ (by rintro w' ⟨hw1,hw2,hw3,hw4,hw5⟩; go_simp; rfl) ?_;simp only[Act.put,aA,aB,aC];refine af 8 rfl (by kernel_rfl) (by kernel_rfl) (by kernel_rfl) (fun _ _ _ h=>h) rfl ⟨c0,c1,c2,c3,c4⟩ (by rintro w' ⟨hw1,hw2,hw3,hw4,hw5⟩; go_simp; rfl) ?_
 simp only[Act.put,aA,aB,aC];refine af 9 rfl (by kernel_rfl) (by kernel_rfl) (by kernel_rfl) (fun _ _ _ h=>h) rfl ⟨c0,c1,c2,c3,c4⟩ (by rintro w' ⟨hw1,hw2,hw3,hw4,hw5⟩; go_simp; rfl) ?_;simp only[Act.put,aA,aB,aC];refine af 10 rfl (by kernel_rfl) (by kernel_rfl) (by kernel_rfl) (fun _ _ _ h=>h) rfl ⟨c0,c1,c2,c3,c4⟩ (by rintro w' ⟨hw1,hw2,hw3,hw4,hw5⟩; go_simp; rfl) ?_
 simp only[Act.put,aA,aB,aC];refine ar 4 rfl (by kernel_rfl) rfl (fun K hK=> ?_);go_wp2_with fail;refine(xN c.seed W c.win V HW.out h1 h2).mono ?_;rintro e w2 ⟨rb,rfl,hrb,hbx,hb2⟩;have HB2:=ab (ag HBV.out hb2);have HX2:=ab ((hb2.block _ (lt_of_block HXV.out)).trans HXV.out);have HZ2:=ab ((hb2.block _ (lt_of_block HZV.out)).trans HZV.out);have HRB:=ab hbx
 clear c0 c1 c2 c3 c4 hb2 hbx;have c0:w2.cell? ⟨w.heap.size,0,none⟩=some (.int .i64 c.mn):=(cell_of_row w2 _ _ _ _ _ HX2.out).trans rfl;have c1:w2.cell? ⟨w.heap.size,1,none⟩=some (.int .i64 c.mx):=(cell_of_row w2 _ _ _ _ _ HX2.out).trans rfl;have c2:w2.cell? ⟨w.heap.size,2,none⟩=some (.int .i64 c.win):=(cell_of_row w2 _ _ _ _ _ HX2.out).trans rfl;have c3:w2.cell? ⟨w.heap.size,3,none⟩=some (.int .i64 c.bits):=(cell_of_row w2 _ _ _ _ _ HX2.out).trans rfl
 have c4:w2.cell? ⟨w.heap.size,4,none⟩=some (.int .u64 (c.seed:Int)):=(cell_of_row w2 _ _ _ _ _ HX2.out).trans rfl;go_wp2_with fail;refine⟨⟨c0,c1,c2,c3,c4⟩, ?_⟩;refine af 5 rfl (by kernel_rfl) (by kernel_rfl) (by kernel_rfl) (fun _ _ _ h=>h) rfl ⟨c0,c1,c2,c3,c4⟩ (by rintro w' ⟨hw1,hw2,hw3,hw4,hw5⟩; go_simp; rfl) ?_;simp only[Act.put,aA,aB,aC];obtain⟨rc,hrc⟩: ∃rc,rc=eQ c.seed (List.replicate 64 0) W 0 0 0:=⟨_,rfl⟩
 have hrl:rc.length=324:=by rw[hrc]; exact mI _ (by simp) _ _ _ _
 rw[<-hrc]at HRB;have HRC:=ab hrc;clear hrc;have HI324:=ab (show(Tryz.prog.info? 237).map (·.size)=some rc.length by rw[hrl]; kernel_rfl);have HRG:=ab (kE HRB.out);have HBM:=ab (wO rc c (-c.mn) hrl);have HRL:=ab hrl;clear hrl;refine ar 6 rfl (by kernel_rfl) rfl (fun K hK=> ?_);go_wp2_with (refine wpList_load_mid rfl 237 _ rfl rb 0 rfl rc _ HRG.out Tryz.underlying237 rfl HI324.out ?_)
 refine⟨⟨c0,c1,c2,c3,c4⟩, ?_⟩;simp only[Act.put,aA,aB,aC];refine ar 11 rfl (by kernel_rfl) rfl (fun K hK=> ?_);go_wp2_with (go_loud (refine fo rfl 239 _ rfl [(0, .agg rc.toArray),(1,fH c),(3, .int .i64 (-c.mn))] (by kernel_rfl) _ HBM.out ?_));refine⟨⟨c0,c1,c2,c3,c4⟩, ?_⟩;simp only[Act.put,aA,aB,aC];refine ar 12 rfl (by kernel_rfl) rfl (fun K hK=> ?_)
 obtain⟨mc,hmc⟩: ∃mc,mc=rc++(dA c++[Value.int .i64 0,Value.int .i64 (-c.mn)]):=⟨_,rfl⟩;have hml:mc.length=331:=by rw[hmc]; exact mE c HRL.out 0 (-c.mn)
 rw[<-hmc];have HMC:=ab hmc;have HI331:=ab (show(Tryz.prog.info? 239).map (·.size)=some mc.toArray.size by rw[List.size_toArray,hml]; kernel_rfl);have HOLD:=ab (show Tryz.zeroCells239.size=mc.toArray.size by rw[show mc.toArray.size=331 from by rw[List.size_toArray]; exact hml]; kernel_rfl);have HONE:=ab (show mc.toArray.all (·.oneCell')=true from all_oneCell_toArray (by
  rw[hmc,HRC.out];exact rR c _ _ _))
 clear hml hmc;go_wp2_with (go_loud (refine wpList_store_row rfl 239 _ _ rfl (w.heap.size+1) _ rfl rfl _ _ HZ2.out HI331.out HOLD.out HONE.out ?_));simp only[Act.put];obtain⟨w3,hw3⟩: ∃w3,w3=w2.setRow (w.heap.size+1) mc.toArray:=⟨_,rfl⟩;rw[<-hw3];have hX3:w3.heap[w.heap.size]? =some (.cells (dA c).toArray 45 (0,0)):=by rw[hw3,setRow_other w2 _ _ _ (by omega)]; exact HX2.out
 have HM3:=ab (show w3.heap[w.heap.size+1]? =some (.cells mc.toArray 239 (0,0)) by rw[hw3]; exact setRow_heap w2 _ _ _ _ _ HZ2.out);have HB3:=ab (show Below w.heap.size w w3 by rw[hw3]; exact below_setRow HB2.out (by omega) _);clear hw3;refine⟨⟨(cell_of_row w3 _ _ _ _ _ hX3).trans rfl,(cell_of_row w3 _ _ _ _ _ hX3).trans rfl,(cell_of_row w3 _ _ _ _ _ hX3).trans rfl,(cell_of_row w3 _ _ _ _ _ hX3).trans rfl,(cell_of_row w3 _ _ _ _ _ hX3).trans rfl⟩, ?_⟩
 refine aV (by kernel_rfl) ?_;clear c0 c1 c2 c3 c4 hX3;have HFIN:=ab (show Ending.returned (.agg mc.toArray)=Ending.returned (.agg (kO c (eQ c.seed (List.replicate 64 0) W 0 0 0) 0 (-c.mn)).toArray) by rw[HMC.out,HRC.out]; rfl);go_wp2_with fail;refine bodyPost_ret (results_cell_row rfl _ _ (w.heap.size+1) _ _ _ _ rfl HM3.out Tryz.underlying239 rfl HI331.out) rfl ?_;exact⟨HFIN.out,HB3.out⟩
end Go.Proofs.YtpffpjbkbaleiaaGreatDoor
