/- Texts of this proof, one after the other: EncA, RNumP, RNum, EncB, EncC, RdrC, EncD, Codec, CompP, CodecB, SealA, SealB, RollP, ChkP, RollA, RollB, MarkA, MarkB, MarkC, Rng. -/
import Derived.Test.YtpffpjbkbaleiaaGreatDoorCNodesB
set_option maxRecDepth 100000
set_option maxHeartbeats 8000000
namespace Go.Proofs.YtpffpjbkbaleiaaGreatDoor
open Go.RowKit
def dX :Nat->Nat->List UInt8
 | 0,n=>[UInt8.ofNat n]
 | f+1,n=>if 127<n then UInt8.ofNat (n%128+128)::dX f (n/128)else [UInt8.ofNat n]
def au (n:Nat):List UInt8:=dX 10 n
theorem uf : ∀(f n:Nat),(dX f n).length<=f+1
 | 0,_=>by simp[dX]
 | f+1,n=>by
  rw[dX]
  split
  ·have:=uf f (n/128); simp; omega
  ·simp
theorem aX (n:Nat):(au n).length<=11:=uf 10 n
def zF (bs:List UInt8) (w:World) (e:Ending) (w':World):Prop:= ∃v,e= .returned v/\aF (w.heap.size<= ·) w' v bs/\Below w.heap.size w w'
theorem jS {n:Nat} (h:n<256):an (UInt8.ofNat n)= .int .u8 (n:Int):=by
 unfold an; rw[UInt8.toNat_ofNat_of_lt' (by exact h)]
theorem kS (b:UInt8): ∀u∈[an b],u.oneCell'=true:=by simp[an,Value.oneCell']
theorem fo (n:Nat) (w:World) (hn:n<18446744073709551616):Calls Tryz.prog 103 #[.int .u64 (n:Int)] w (zF (au n) w):=by
 have HO:=ab (World.ownsRow_lit (e:=5) (size:=1) (base:=w.heap.size) w #[] 0 (Nat.le_refl _) (Nat.zero_le _) (by simp));have HB:=ab ((Below.refl w.heap.size w).alloc (Nat.le_refl _) (.cells #[] 5))
 go_enter Tryz.func103,Tryz.ntmps103
 go_wp2_with fail
 go_loopw [0,3] (fun x o wr=> ∃(f m:Nat) (acc:List UInt8),x= .int .u64 (m:Int)/\m<18446744073709551616/\m<2^(7*f)/\acc++dX f m=au n/\wr.ownsRow w.heap.size 5 1 o acc.length (acc.map an)/\acc.length<=20/\Below w.heap.size w wr) (fun x _ _=>(intOf x).toNat)
 case atStart=>exact⟨10,n,[],rfl,hn,Nat.lt_trans hn (by decide),rfl,HO.out,by simp,HB.out⟩
 case round=>
  obtain⟨f,m,acc,rfl,hm,hmf,henc,hown,hal,hb⟩:=hrel;have HE:=ab henc;have HO2:=ab hown;have HB2:=ab hb;have HMF:=ab hmf;have hbz:=hb.size;obtain⟨ao,co,rfl,h1,h2⟩:=ak hown;clear henc hown hb hmf HO HB
  by_cases hlt:127<m
  ·have hv:Value.int .u8 ((m:Int)%128+128)=an (UInt8.ofNat (m%128+128)):=by rw[jS (by omega)]; simp
   have HV:=ab hv;obtain⟨f,rfl⟩: ∃g,f=g+1:=⟨f-1,by
    cases f with
    | zero=>have:=HMF.out; simp at this; omega
    | succ g=>rfl⟩
   have HE2:=ab (show(acc++[UInt8.ofNat (m%128+128)])++dX f (m/128)=au n by rw[<-HE.out,dX,if_pos hlt]; simp);have HMF2:=ab (show m/128<2^(7*f) by
    have h3:=HMF.out;rw[show 7*(f+1)=7*f+7 by omega,Nat.pow_add]at h3;exact Nat.div_lt_of_lt_mul (by omega))
   have hal2:acc.length<=10:=by
    have h4:=aX n;rw[<-HE.out,List.length_append,dX,if_pos hlt,List.length_cons]at h4;omega
   clear hv;go_wp2_with (at_builtin; go_must (refine dz Tryz.appBytes rfl _ _ rfl w.heap.size (.slice ao acc.length co) acc.length (acc.map an) rfl wr [.int .u8 ((m:Int)%128+128)] _ rfl rfl (by rw[HV.out]; exact kS _) HO2.out (by omega) hbz ?_); intro v' wc hown' hgrow' _; have HB3:=ab (bg HB2.out HO2.out hgrow' (Nat.le_refl _) hbz); have HO3:=ab (show wc.ownsRow w.heap.size 5 1 v' (acc++[UInt8.ofNat (m%128+128)]).length ((acc++[UInt8.ofNat (m%128+128)]).map an) by rw[List.length_append,List.map_append,List.map_cons,List.map_nil,<-HV.out]; exact hown'); obtain⟨ae,ce,rfl,-,-⟩:=ak hown'; clear hown' hgrow')
   go_roundw
   case rel=>exact⟨f,m/128,acc++[UInt8.ofNat (m%128+128)],by simp,by omega,HMF2.out,HE2.out,HO3.out,by simp; omega,HB3.out⟩
   case measure=>simp[intOf]; omega
  ·have hv:Value.int .u8 (m:Int)=an (UInt8.ofNat m):=by rw[jS (by omega)]
   have HV:=ab hv;have HE2:=ab (show acc++[UInt8.ofNat m]=au n by
    rw[<-HE.out]
    cases f with
    | zero=>rfl
    | succ f=>rw[dX,if_neg hlt])
   clear hv;go_wp2_with (at_builtin; go_must (refine dz Tryz.appBytes rfl _ _ rfl w.heap.size (.slice ao acc.length co) acc.length (acc.map an) rfl wr [.int .u8 (m:Int)] _ rfl rfl (by rw[HV.out]; exact kS _) HO2.out (by omega) hbz ?_); intro v' wc hown' hgrow' _; have HB3:=ab (bg HB2.out HO2.out hgrow' (Nat.le_refl _) hbz); have HO3:=ab (show wc.ownsRow w.heap.size 5 1 v' (acc++[UInt8.ofNat m]).length ((acc++[UInt8.ofNat m]).map an) by rw[List.length_append,List.map_append,List.map_cons,List.map_nil,<-HV.out]; exact hown'); obtain⟨ae,ce,rfl,-,-⟩:=ak hown'; clear hown' hgrow')
   go_ret;rw[<-HE2.out];exact⟨_,rfl,(ba HO3.out).weak (fun k hk=>hk.1),HB3.out⟩
end Go.Proofs.YtpffpjbkbaleiaaGreatDoor
namespace Go.Proofs.YtpffpjbkbaleiaaGreatDoor
open Go.RowKit
def eB :List UInt8->Nat
 | []=>0
 | b::l=>b.toNat%128+128*eB l
def lW (l:List UInt8):Nat:=eB l%18446744073709551616
def pT (data:List UInt8) (off:Nat):Nat->Nat->Except Int (Nat×Nat)
 | 0,_=> .error 3
 | f+1,k=>match data[off+k]? with
  | none=> .error 3
  | some b=>if 128<=b.toNat then pT data off f (k+1)
   else if au (lW ((data.drop off).take (k+1)))=(data.drop off).take (k+1)then .ok (lW ((data.drop off).take (k+1)),off+k+1)else .error 3
theorem sD : ∀l:List UInt8,eB l<2^(7*l.length)
 | []=>by simp[eB]
 | b::l=>by
  have:=sD l;rw[eB,List.length_cons,show 7*(l.length+1)=7*l.length+7 by omega,Nat.pow_add];omega
theorem lV : ∀(l:List UInt8) (b:UInt8),eB (l++[b])=eB l+b.toNat%128*2^(7*l.length)
 | [],b=>by simp[eB]
 | c::l,b=>by
  rw[List.cons_append,eB,lV l b,eB,List.length_cons,show 7*(l.length+1)=7*l.length+7 by omega,Nat.pow_add,Nat.mul_add];have:128*(b.toNat%128*2^(7*l.length))=b.toNat%128*(2^(7*l.length)*2^7):=by
   rw[Nat.mul_left_comm,Nat.mul_comm 128]
  omega
theorem pw : ∀(f n:Nat),n<2^(7*(f+1))->eB (dX f n)=n
 | 0,n,h=>by
  have h1:n<128:=h;rw[dX,eB,eB,UInt8.toNat_ofNat_of_lt' (by show n<256; omega)]; omega
 | f+1,n,h=>by
  rw[dX]
  split
  ·rw[eB,pw f (n/128) (by
    rw[show 7*(f+1+1)=7*(f+1)+7 by omega,Nat.pow_add]at h;exact Nat.div_lt_of_lt_mul (by omega)),UInt8.toNat_ofNat_of_lt' (by show _<256; omega)]
   omega
  ·rw[eB,eB,UInt8.toNat_ofNat_of_lt' (by show n<256; omega)]; omega
theorem tV : ∀(f n:Nat) (c:UInt8) (l:List UInt8),0<n->n<2^(7*(f+1))->dX f n=l++[c]->c.toNat≠0
 | 0,n,c,l,h0,h,he=>by
  have h1:n<128:=h;rw[dX]at he;have:c=UInt8.ofNat n:=by
   have:=congrArg List.getLast? he
   simpa using this.symm
  rw[this,UInt8.toNat_ofNat_of_lt' (by show n<256; omega)]; omega
 | f+1,n,c,l,h0,h,he=>by
  rw[dX]at he
  split at he
  ·cases l with
   | nil=>
    simp only[List.nil_append,List.cons.injEq]at he;have:=congrArg List.length he.2;have h3:(dX f (n/128)).length≠0:=by cases f<;> (rw[dX]; try split)<;> simp
    simp at this; exact absurd (by simp[this]) h3
   | cons d l=>
    simp only[List.cons_append,List.cons.injEq]at he;exact tV f (n/128) c l (by omega) (by
     rw[show 7*(f+1+1)=7*(f+1)+7 by omega,Nat.pow_add]at h;exact Nat.div_lt_of_lt_mul (by omega)) he.2
  ·have:c=UInt8.ofNat n:=by
    have:=congrArg List.getLast? he
    simpa using this.symm
   rw[this,UInt8.toNat_ofNat_of_lt' (by show n<256; omega)]; omega
theorem xi : ∀(f:Nat) (l:List UInt8) (c:UInt8),(∀b∈l,128<=b.toNat)->c.toNat<128->(l≠[]->c.toNat≠0)->l.length<=f->dX f (eB (l++[c]))=l++[c]
 | f,[],c,_,h2,_,_=>by
  have hv:eB ([]++[c])=c.toNat:=by simp[eB]; omega
  rw[hv];have hc:UInt8.ofNat c.toNat=c:=UInt8.ofNat_toNat
  cases f with
  | zero=>rw[dX,hc]; rfl
  | succ f=>rw[dX,if_neg (by omega),hc]; rfl
 | 0,b::l,c,_,_,_,h4=>by simp at h4
 | f+1,b::l,c,h1,h2,h3,h4=>by
  have hb:=h1 b (by simp);have hb8:=b.toNat_lt;have hr:=xi f l c (fun x hx=>h1 x (by simp[hx])) h2 (fun _=>h3 (by simp)) (by simpa using h4);have hp:0<eB (l++[c]):=by
   rw[lV];have hc:=h3 (by simp);have:0<c.toNat%128*2^(7*l.length):=Nat.mul_pos (by omega) (Nat.two_pow_pos _);omega
  rw[List.cons_append,dX,eB,if_pos (by omega),show(b.toNat%128+128*eB (l++[c]))/128=eB (l++[c]) by omega,hr,
   show(b.toNat%128+128*eB (l++[c]))%128+128=b.toNat by omega,UInt8.ofNat_toNat]
theorem AX (m x k:Nat) (h:m<2^k):m ||| (x*2^k)=m+x*2^k:=by
 rw[Nat.or_comm,Nat.mul_comm,<-Nat.two_pow_add_eq_or_of_lt h,Nat.add_comm]
theorem AU (m:Nat) (b:UInt8) (k:Nat) (hk:k<=9) (h:m<2^(7*k)):pS m b k=(m+b.toNat%128*2^(7*k))%18446744073709551616:=by
 unfold pS;have hb:b.toNat%128<128:=by omega
 generalize b.toNat%128=x at hb
 by_cases h9:k=9
 ·subst h9;have e:x*2^(7*9)%18446744073709551616=x%2*2^(7*9):=by
   simp only[Nat.reduceMul,Nat.reducePow]; omega
  rw[e,AX _ _ _ h];simp only[Nat.reduceMul,Nat.reducePow]at *;omega
 ·have hp:2^(7*k)*128<=18446744073709551616:=by
   rw[show(128:Nat)=2^7 from rfl,show(18446744073709551616:Nat)=2^64 from rfl,<-Nat.pow_add];exact Nat.pow_le_pow_right (by omega) (by omega)
  have hx:x*2^(7*k)+2^(7*k)<=2^(7*k)*128:=by
   rw[Nat.mul_comm (2^(7*k)),<-Nat.succ_mul]; exact Nat.mul_le_mul_right _ (by omega)
  rw[Nat.mod_eq_of_lt (by omega),AX _ _ _ h,Nat.mod_eq_of_lt (by omega)]
theorem ui (data:List UInt8) (off:Nat): ∀(f k:Nat),k+f=10->(∀b∈(data.drop off).take k,128<=b.toNat)->off+k<=data.length->
  gX data f k (off+k) (eB ((data.drop off).take k))=pT data off f k
 | 0,_,_,_,_=>rfl
 | f+1,k,hk,hp,hle=>by
  rw[gX,pT]
  cases hd:data[off+k]? with
  | none=>rfl
  | some b=>
   have hb8:=b.toNat_lt;have hlt:off+k<data.length:=(List.getElem?_eq_some_iff.1 hd).1;have hlen:((data.drop off).take k).length=k:=by simp; omega
   have htk:(data.drop off).take (k+1)=(data.drop off).take k++[b]:=by
    rw[List.take_add_one,List.getElem?_drop,hd]; rfl
   have hm:=sD ((data.drop off).take k);rw[hlen]at hm;have hs:=lV ((data.drop off).take k) b;rw[hlen,<-htk]at hs;have hnn:=AU _ b k (by omega) hm;rw[<-hs]at hnn;simp only
   by_cases h128:128<=b.toNat
   ·rw[if_pos h128,if_pos h128]
    by_cases hf:f=0
    ·subst hf; rfl
    ·have hlt2:eB ((data.drop off).take (k+1))<18446744073709551616:=by
      have:=sD ((data.drop off).take (k+1));refine Nat.lt_of_lt_of_le this ?_;rw[show(18446744073709551616:Nat)=2^64 from rfl];exact Nat.pow_le_pow_right (by omega) (by simp; omega)
     rw[hnn,Nat.mod_eq_of_lt hlt2];have:=ui data off f (k+1) (by omega) (by
      intro x hx;rw[htk,List.mem_append]at hx
      rcases hx with hx | hx
      ·exact hp x hx
      ·simp at hx; subst hx; exact h128) (by omega)
     exact this
   ·rw[if_neg h128,if_neg h128,hnn];have hval:lW ((data.drop off).take (k+1))=eB ((data.drop off).take (k+1))%18446744073709551616:=rfl;have hvl:lW ((data.drop off).take (k+1))<2^(7*(10+1)):=by rw[hval]; exact Nat.lt_trans (Nat.mod_lt _ (by decide)) (by decide)
    by_cases hbad:gW b k=true
    ·rw[if_pos hbad,if_neg];intro he;have h1:=pw 10 _ hvl;rw[show dX 10 _=_ from he]at h1;simp only[gW,Bool.or_eq_true,Bool.and_eq_true,decide_eq_true_eq]at hbad
     rcases hbad with⟨h2,h3⟩ | ⟨h2,h3⟩
     ·have hpos:0<eB ((data.drop off).take (k+1))%18446744073709551616:=by
       rcases Nat.eq_zero_or_pos (eB ((data.drop off).take (k+1))%18446744073709551616)with h0 | h0
       ·exfalso
        rw[hval,h0]at he;have:=congrArg List.length he;simp[au,dX]at this;omega
       ·exact h0
      exact tV 10 _ b ((data.drop off).take k) (by rw[hval]; exact hpos) hvl (by rw[<-htk]; exact he) h3
     ·subst h2;rw[hs]at h1;have h5:lW ((data.drop off).take (9+1))<18446744073709551616:=by rw[hval]; exact Nat.mod_lt _ (by decide)
      rw[<-h1]at h5;simp only[Nat.reduceMul,Nat.reducePow]at h5;omega
    ·rw[if_neg hbad];have hbad':gW b k=false:=by simpa using hbad
     simp only[gW,Bool.or_eq_false_iff,Bool.and_eq_false_iff,decide_eq_false_iff_not]at hbad';have hsm:eB ((data.drop off).take (k+1))<18446744073709551616:=by
      rw[hs]
      by_cases h9:k=9
      ·subst h9;have: ¬1<b.toNat:=hbad'.2.elim (fun h=>absurd rfl h) id;simp only[Nat.reduceMul,Nat.reducePow]at hm ⊢;omega
      ·have hp:2^(7*k)*128<=18446744073709551616:=by
        rw[show(128:Nat)=2^7 from rfl,show(18446744073709551616:Nat)=2^64 from rfl,<-Nat.pow_add];exact Nat.pow_le_pow_right (by omega) (by omega)
       have hx:b.toNat%128*2^(7*k)+2^(7*k)<=2^(7*k)*128:=by
        rw[Nat.mul_comm (2^(7*k)),<-Nat.succ_mul]; exact Nat.mul_le_mul_right _ (by omega)
       omega
     have hvv:lW ((data.drop off).take (k+1))=eB ((data.drop off).take (k+1)):=by rw[hval,Nat.mod_eq_of_lt hsm]
     have henc:au (lW ((data.drop off).take (k+1)))=(data.drop off).take (k+1):=by
      rw[hvv,htk];refine xi 10 _ b hp (by omega) ?_ (by omega);intro hne;have:0<k:=by
       rcases Nat.eq_zero_or_pos k with h0 | h0
       ·subst h0; simp at hne
       ·exact h0
      rcases hbad'.1 with h | h
      ·exact absurd this h
      ·exact h
     rw[if_pos henc,Nat.mod_eq_of_lt hsm,hvv]
theorem AQ (data:List UInt8) (off:Nat) (h:off<=data.length):gB data off=pT data off 10 0:=by
 have:=ui data off 10 0 rfl (by simp) (by omega)
 simpa [eB,gB]using this
end Go.Proofs.YtpffpjbkbaleiaaGreatDoor
namespace Go.Proofs.YtpffpjbkbaleiaaGreatDoor
open Go.RowKit
theorem CL {data:List UInt8} {off f k:Nat} {b:UInt8} (h:data[off+k]? =some b) (h1: ¬128<=b.toNat) (h2:au (lW ((data.drop off).take (k+1)))=(data.drop off).take (k+1)):pT data off (f+1) k= .ok (lW ((data.drop off).take (k+1)),off+(k+1)):=by
 rw[pT,h]; simp only[if_neg h1,if_pos h2]; rfl
theorem yB {data:List UInt8} {off f k:Nat} {b:UInt8} (h:data[off+k]? =some b) (h1:128<=b.toNat):pT data off (f+1) k=pT data off f (k+1):=by
 rw[pT,h]; simp only[if_pos h1]
end Go.Proofs.YtpffpjbkbaleiaaGreatDoor
namespace Go.Proofs.YtpffpjbkbaleiaaGreatDoor
open Go.RowKit
structure dl where
 kind:Int
 u:Nat
 n:Int
 b:Bool
 s:ByteArray
 most:Int
def kI (x:dl):List Value:=[.int .i64 x.kind, .int .u64 (x.u:Int), .int .i64 x.n, .bool x.b, .string x.s, .int .i64 x.most]
structure pE (x : dl) : Prop where
 u:x.u<18446744073709551616
 n: -9223372036854775808<=x.n/\x.n<=9223372036854775807
 s:x.s.size<=65536
 k:x.kind≠2
def Cg (c:List Value) (x:dl):Prop:=c=kI x/\pE x
theorem Cg.len (c:List Value) (x:dl) (h:Cg c x):c.length=6:=by rw[h.1]; rfl
def qg (S:Nat->Prop) (w:World) (v:Value) (l:List dl):Prop:=aJ S w 6 Cg v l
theorem DR {S:Nat->Prop} {w w':World} {a:Option Addr} {n cap:Nat} {l:List dl} (hv:qg S w (.slice a n cap) l) (hb:Below w.heap.size w w') {k:Nat} {x:dl} (hr:l[k]? =some x):
  ∃b o,a=some ⟨b,o,none⟩/\pE x/\ ∀j,j<6->w'.cell? ⟨b,o+k*6+j,none⟩=(kI x)[j]? :=by
 obtain⟨a',cap',hv',_,_,hx⟩:=aJ.shape hv Cg.len
 cases hv'
 obtain⟨b,o,c,rfl,hS,⟨rfl,hok⟩,_,hcl⟩:=hx k x hr;have q0:=hcl 0 (by omega);have hlt:b<w.heap.size:=aR (a:=⟨b,o+(k*6+0),none⟩) (v:= .int .i64 x.kind) q0;refine⟨b,o,rfl,hok,fun j hj=> ?_⟩;rw[Nat.add_assoc];exact(hb.cell (p:=⟨b,o+(k*6+j),none⟩) hlt).trans (hcl j hj)
def eI (x:dl):Except Int (List UInt8):=
 if x.kind=1 then .ok (au x.u)
 else if x.kind=3 then .ok [if x.b then 1 else 0]
 else if x.kind=4\/x.kind=5 then .ok (au x.s.size++bl x.s)
 else if x.kind=6 then(if x.s.size=32 then .ok (bl x.s)else .error 1)
 else if x.kind=7 then(if x.n<0 then .error 1 else .ok (au x.n.toNat))
 else .ok []
def bB :List dl->Except Int (List UInt8)
 | []=> .ok []
 | x::l=>match eI x with
  | .error e=> .error e
  | .ok a=>match bB l with
   | .error e=> .error e
   | .ok b=> .ok (a++b)
theorem kx {x:dl} {e:Int} : ∀ {l:List dl} {k:Nat} {a:List UInt8},bB (l.take k)= .ok a->l[k]? =some x->eI x= .error e->bB l= .error e
 | [],k,a,_,h2,_=>by simp at h2
 | y::l,0,a,_,h2,h3=>by
  simp at h2; subst h2;simp only[bB,h3]
 | y::l,k+1,a,h1,h2,h3=>by
  rw[List.take_succ_cons,bB]at h1
  cases hy:eI y with
  | error e=>rw[hy]at h1; simp at h1
  | ok b=>
   rw[hy]at h1;simp only at h1
   cases hk:bB (l.take k)with
   | error e=>rw[hk]at h1; simp at h1
   | ok c=>
    have:=kx hk (by simpa using h2) h3;simp only[bB,hy,this]
theorem cT {x:dl} {b:List UInt8} : ∀ {l:List dl} {a:List UInt8},bB l= .ok a->eI x= .ok b->bB (l++[x])= .ok (a++b)
 | [],a,h1,h2=>by
  simp only[bB,Except.ok.injEq]at h1;subst h1;simp[bB,h2]
 | y::l,a,h1,h2=>by
  rw[bB]at h1
  cases hy:eI y with
  | error e=>rw[hy]at h1; simp at h1
  | ok c=>
   rw[hy]at h1;simp only at h1
   cases hk:bB l with
   | error e=>rw[hk]at h1; simp at h1
   | ok d=>
    rw[hk]at h1;simp only[Except.ok.injEq]at h1;subst h1;simp only[List.cons_append,bB,hy,cT hk h2,List.append_assoc]
def pI (l:List dl):Except Int (List UInt8):=match bB l with
 | .error e=> .error e
 | .ok out=>if 1048576<out.length then .error 2 else .ok out
def Ds (res:Except Int (List UInt8)) (w:World) (e:Ending) (w':World):Prop:=Below w.heap.size w w'/\match res with
 | .error x=>e= .returned (.tuple #[.slice none 0 0, .int .i64 x])/\x≠0
 | .ok bs=> ∃v,e= .returned (.tuple #[v, .int .i64 0])/\aF (w.heap.size<= ·) w' v bs
theorem uG (s:ByteArray):Lib.strCells s=(bl s).map an:=rfl
theorem eC {ops:Array Oper} {rest:List Oper} {o:Oper} {a:Act} {Q:Exit->Act->World->Prop} {w:World} (hgd:o.guard=none) (sl x:Operand)
  (ho:o.op= .call {callee:= .builtin .append,args:= #[sl,x],argTypes:= #[29,9]}) (base:Nat) (v:Value) (acc:List UInt8) (hs:a.eval sl=v) (hown:w.ownsRow base 5 1 v acc.length (acc.map an)) (s:ByteArray) (hx:a.eval x= .string s)
  (hn:acc.length+s.size<1099511627775) (hbase:base<=w.heap.size)
  (h: ∀v' w',w'.ownsRow base 5 1 v' (acc.length+s.size) (acc.map an++(bl s).map an)->w.grownBy w' v.ownBlock->wpList Tryz.prog ops Q rest (a.put o.dst v') w'):wpList Tryz.prog ops Q (o::rest) a w:=by
 obtain⟨ht,⟨i,z,h11,h12,h13,h14,h15⟩,hpos,hsm⟩:=Tryz.appBytes;have hz:i.zero=some (.int .u8 0):=by
  have:(Tryz.prog.info? 5).map (fun i=>i.zero)=some (some (.int .u8 0)):=by kernel_rfl
  rw[h11]at this;exact Option.some.inj this
 refine Lib.wpList_append_own_string w hgd sl x 29 9 ho base 5 i ht Tryz.underlying9 h11 hz h13 h14 v acc.length _ hs hown s hx (by unfold maxLen; omega) (by omega) hbase fun v' w' h1 h2 _=>h v' w' ?_ h2
 rw[<-uG];exact h1
theorem kG {w:World} {base:Nat} {e:TypeId} {sz:Nat} {v:Value} {n:Nat} {xs:List Value} {k:Nat} (h:w.ownsRow base e sz v n xs) (hk:v.ownBlock=some k): ∃cs,w.heap[k]? =some (.cells cs e (0,0)):=by
 obtain⟨_,h2⟩:=h
 rcases h2 with⟨rfl,rfl⟩ | ⟨g,cap,cur,rfl,_,hh,_⟩
 ·cases hk
 ·have:g=k:=by simpa [Value.ownBlock]using hk
  subst this;exact⟨cur,hh⟩
theorem vh (S:Nat->Prop) (v:Value) (l:List dl) (w:World) (hv:qg S w v l) (hlen:l.length<=1000000):Calls Tryz.prog 57 #[v] w (Ds (pI l) w):=by
 obtain⟨a,cap,rfl,hc,hm,-⟩:=aJ.shape hv Cg.len;unfold maxLen at hm;have HV:=ab hv;have HO0:=ab (World.ownsRow_lit (e:=5) (size:=1) (base:=w.heap.size) w #[] 0 (Nat.le_refl _) (Nat.zero_le _) (by simp));have HB0:=ab ((Below.refl w.heap.size w).alloc (Nat.le_refl _) (.cells #[] 5));clear hv
 go_enter Tryz.func57,Tryz.ntmps57
 go_wp2_with fail
 go_loopw [4,5] (fun o i wr=> ∃(k:Nat) (acc:List UInt8),k<=l.length/\i= .int .i64 k/\bB (l.take k)= .ok acc/\wr.ownsRow w.heap.size 5 1 o acc.length (acc.map an)/\acc.length<=k*65556/\Below w.heap.size w wr) (fun _ i _=>l.length-(intOf i).toNat)
 case atStart=>exact⟨0,[],Nat.zero_le _,rfl,rfl,HO0.out,by simp,HB0.out⟩
 case round=>
  obtain⟨k,acc,hk,rfl,henc,hown,hal,hb⟩:=hrel;have HE:=ab henc;have HO:=ab hown;have HB:=ab hb;obtain⟨ao,co,rfl,hn1,hn2⟩:=ak hown;clear henc hown hb HO0 HB0
  by_cases hlt:k<l.length
  ·obtain⟨x,hx⟩: ∃x,l[k]? =some x:=⟨l[k],by simp[hlt]⟩;obtain⟨b0,o,rfl,hok,hcl⟩:=DR HV.out HB.out hx;have HG:=ab hx;have HSN:=ab (br hx);have hus:=hok.u;have hss:=hok.s;have hk2:=hok.k;obtain⟨hnw1,hnw2⟩:=hok.n;have q0:=hcl 0 (by omega);have q1:=hcl 1 (by omega);have q2:=hcl 2 (by omega);have q3:=hcl 3 (by omega);have q4:=hcl 4 (by omega);have q5:=hcl 5 (by omega)
   simp only[kI,vr,Nat.add_zero]at q0 q1 q2 q3 q4 q5;obtain⟨kd,u,n,b,s,mo⟩:=x;simp only at hus hss hk2 hnw1 hnw2 q0 q1 q2 q3 q4 q5;clear hx hcl hok;have HAL:=ab ((Below.refl wr.heap.size wr).alloc (Nat.le_refl _) (.cells #[.int .i64 kd, .int .u64 (u:Int), .int .i64 n, .bool b, .string s, .int .i64 mo] 96));have HO1:=ab (di HO.out HAL.out);have HB1:=ab (ah HB.out HAL.out)
   by_cases h1:kd=1
   ·subst h1;have HX:=ab (show eI ⟨1,u,n,b,s,mo⟩= .ok (au u)from rfl);have HBD:=ab (show acc.length+(au u).length<=(k+1)*65556 by have:=aX u; omega);have hnl:=aX u;go_wp2_with fail;refine(fo u _ (by omega)).mono ?_;rintro e w1 ⟨nv,rfl,hnv,hb1⟩;have HNV:=ab hnv;have HBL:=ab (ah HB1.out hb1);have HOL:=ab (di HO1.out hb1)
    have hbz:=HBL.out.size;obtain⟨_,na,nc,rfl,hnn1,hnn2,-⟩:=hnv;clear hb1 q0 q1 q2 q3 q4 q5;go_wp2_with (at_builtin; go_must (refine bT Tryz.appBytes rfl _ _ rfl w.heap.size (.slice ao acc.length co) acc.length (acc.map an) rfl HOL.out _ (au u).length ((au u).map an) rfl HNV.out (cD _) (by omega) hbz ?_); intro v' wc hown' hgrow'; have HO3:=ab hown'; have HB3:=ab (bg HBL.out HOL.out hgrow' (Nat.le_refl _) hbz); obtain⟨ae,ce,rfl,-,-⟩:=ak hown'; clear hown' hgrow')
    go_roundw
    case rel=>exact⟨k+1,acc++(au u),by omega,by go_num,by rw[HSN.out]; exact cT HE.out HX.out,by rw[List.length_append,List.map_append]; exact HO3.out,by rw[List.length_append]; exact HBD.out,HB3.out⟩
    case measure=>simp[intOf]; omega
   ·by_cases h3:kd=3
    ·subst h3;have hbz:=HB1.out.size
     cases b
     ·have HX:=ab (show eI ⟨3,u,n,false,s,mo⟩= .ok [0]from rfl);have HBD:=ab (show acc.length+([0]:List UInt8).length<=(k+1)*65556 by simp; omega);obtain⟨W,hW⟩: ∃W:World,W=wr.alloc (.cells #[.int .i64 3, .int .u64 (u:Int), .int .i64 n, .bool false, .string s, .int .i64 mo] 96):=⟨_,rfl⟩;rw[<-hW]at HO1 HB1 hbz;clear HAL
      go_upto_region 14 with(fail)
      rw[<-hW];clear hW q0 q1 q2 q3 q4 q5;go_wp2_with (at_builtin; go_must (refine dz Tryz.appBytes rfl _ _ rfl w.heap.size (.slice ao acc.length co) acc.length (acc.map an) rfl W [.int .u8 0] _ rfl rfl (kS 0) HO1.out (by omega) hbz ?_); intro v' wc hown' hgrow' _; have HO3:=ab (show wc.ownsRow w.heap.size 5 1 v' (acc.length+([0]:List UInt8).length) (acc.map an++([0]:List UInt8).map an)from hown'); have HB3:=ab (bg HB1.out HO1.out hgrow' (Nat.le_refl _) hbz); obtain⟨ae,ce,rfl,-,-⟩:=ak hown'; clear hown' hgrow')
      go_roundw
      case rel=>exact⟨k+1,acc++([0]:List UInt8),by omega,by go_num,by rw[HSN.out]; exact cT HE.out HX.out,by rw[List.length_append,List.map_append]; exact HO3.out,by rw[List.length_append]; exact HBD.out,HB3.out⟩
      case measure=>simp[intOf]; omega
     ·have HX:=ab (show eI ⟨3,u,n,true,s,mo⟩= .ok [1]from rfl);have HBD:=ab (show acc.length+([1]:List UInt8).length<=(k+1)*65556 by simp; omega);obtain⟨W,hW⟩: ∃W:World,W=wr.alloc (.cells #[.int .i64 3, .int .u64 (u:Int), .int .i64 n, .bool true, .string s, .int .i64 mo] 96):=⟨_,rfl⟩;rw[<-hW]at HO1 HB1 hbz;clear HAL
      go_upto_region 13 with(fail)
      rw[<-hW];clear hW q0 q1 q2 q3 q4 q5;go_wp2_with (at_builtin; go_must (refine dz Tryz.appBytes rfl _ _ rfl w.heap.size (.slice ao acc.length co) acc.length (acc.map an) rfl W [.int .u8 1] _ rfl rfl (kS 1) HO1.out (by omega) hbz ?_); intro v' wc hown' hgrow' _; have HO3:=ab (show wc.ownsRow w.heap.size 5 1 v' (acc.length+([1]:List UInt8).length) (acc.map an++([1]:List UInt8).map an)from hown'); have HB3:=ab (bg HB1.out HO1.out hgrow' (Nat.le_refl _) hbz); obtain⟨ae,ce,rfl,-,-⟩:=ak hown'; clear hown' hgrow')
      go_roundw
      case rel=>exact⟨k+1,acc++([1]:List UInt8),by omega,by go_num,by rw[HSN.out]; exact cT HE.out HX.out,by rw[List.length_append,List.map_append]; exact HO3.out,by rw[List.length_append]; exact HBD.out,HB3.out⟩
      case measure=>simp[intOf]; omega
    ·by_cases h4:kd=4\/kd=5
     ·have HX:=ab (show eI ⟨kd,u,n,b,s,mo⟩= .ok (au s.size++bl s) by simp only[eI,if_neg h1,if_neg h3,if_pos h4]);have HBD:=ab (show acc.length+(au s.size++bl s).length<=(k+1)*65556 by have:=aX s.size; rw[List.length_append,<-ay]; omega);have HBX:=ab (heap_alloc_new wr (.cells #[.int .i64 kd, .int .u64 (u:Int), .int .i64 n, .bool b, .string s, .int .i64 mo] 96))
      have hnl:=aX s.size;obtain⟨W,hW⟩: ∃W:World,W=wr.alloc (.cells #[.int .i64 kd, .int .u64 (u:Int), .int .i64 n, .bool b, .string s, .int .i64 mo] 96):=⟨_,rfl⟩;rw[<-hW]at HO1 HB1 HBX;clear h1 h3 hk2 HAL
      rcases h4 with rfl | rfl
      ·go_upto_region 17 with(fail)
       rw[<-hW];clear hW q0 q1 q2 q3 q4 q5;refine bX (fun w'=>w'.cell? ⟨wr.heap.size,4,none⟩=some (.string s)) (by kernel_rfl) ?_;obtain⟨W2,hW2⟩: ∃W2:World,W2=W.drew:=⟨_,rfl⟩;rw[<-hW2];have hbw:Below W.heap.size W W2:=by rw[hW2]; exact(Below.refl _ _).drew
       have HB2:=ab (ah HB1.out hbw);have HO2:=ab (di HO1.out hbw);have HBX2:=ab ((hbw.block wr.heap.size (lt_of_block HBX.out)).trans HBX.out);clear hW2 hbw HBX;have c0:=aj (k:=4) HBX2.out;simp only[aW]at c0;refine ag 0 rfl (by kernel_rfl) (by kernel_rfl) (by kernel_rfl) (fun _ _ _ h=>h) rfl (by go_simp) (by intro w' hw'; go_simp; rfl) ?_;simp only[Act.put,aB,aC,aD]
       refine ag 1 rfl (by kernel_rfl) (by kernel_rfl) (by kernel_rfl) (fun _ _ _ h=>h) rfl (by go_simp) (by intro w' hw'; go_simp; rfl) ?_;simp only[Act.put,aB,aC,aD];refine ag 2 rfl (by kernel_rfl) (by kernel_rfl) (by kernel_rfl) (fun _ _ _ h=>h) rfl (by go_simp) (by intro w' hw'; go_simp; rfl) ?_;simp only[Act.put,aB,aC,aD];refine ag 3 rfl (by kernel_rfl) (by kernel_rfl) (by kernel_rfl) (fun _ _ _ h=>h) rfl (by go_simp) (by intro w' hw'; go_simp; rfl) ?_
       simp only[Act.put,aB,aC,aD];refine ag 4 rfl (by kernel_rfl) (by kernel_rfl) (by kernel_rfl) (fun _ _ _ h=>h) rfl (by go_simp) (by intro w' hw'; go_simp; rfl) ?_;simp only[Act.put,aB,aC,aD];refine ag 7 rfl (by kernel_rfl) (by kernel_rfl) (by kernel_rfl) (fun _ _ _ h=>h) rfl (by go_simp) (by intro w' hw'; go_simp; rfl) ?_;simp only[Act.put,aB,aC,aD];refine ag 8 rfl (by kernel_rfl) (by kernel_rfl) (by kernel_rfl) (fun _ _ _ h=>h) rfl (by go_simp) (by intro w' hw'; go_simp; rfl) ?_
       simp only[Act.put,aB,aC,aD];refine ar 5 rfl (by kernel_rfl) rfl (fun K hK=> ?_);go_wp2_with (go_at_call 103; refine(fo s.size _ (by omega)).mono ?_; rintro e w1 ⟨nv,rfl,hnv,hb1⟩);have HNV:=ab hnv;have HBL:=ab (ah HB2.out hb1);have HOL:=ab (di HO2.out hb1);have HBX3:=ab ((hb1.block wr.heap.size (lt_of_block HBX2.out)).trans HBX2.out);have hbz:=HBL.out.size
       obtain⟨_,na,nc,rfl,hnn1,hnn2,-⟩:=hnv;have c1:=aj (k:=4) HBX3.out;simp only[aW]at c1;clear hb1 c0;refine⟨c1, ?_⟩;refine ar 6 rfl (by kernel_rfl) rfl (fun K hK=> ?_);go_wp2_with (at_builtin; go_must (refine bT Tryz.appBytes rfl _ _ rfl w.heap.size (.slice ao acc.length co) acc.length (acc.map an) rfl HOL.out _ (au s.size).length ((au s.size).map an) rfl HNV.out (cD _) (by omega) hbz ?_); intro v' wc hown' hgrow')
       have HBX4:=ab ((hgrow'.block wr.heap.size (lt_of_block HBX3.out) (fun e=>by have:=(HO.out.lt _ e.symm).2; omega)).trans HBX3.out);have HBL2:=ab (bg HBL.out HOL.out hgrow' (Nat.le_refl _) hbz);have HOL2:=ab (show wc.ownsRow w.heap.size 5 1 v' (acc++au s.size).length ((acc++au s.size).map an) by rw[List.length_append,List.map_append]; exact hown');have hbz2:=HBL2.out.size
       obtain⟨ae,ce,rfl,-,-⟩:=ak hown';have c2:=aj (k:=4) HBX4.out;simp only[aW]at c2;have hlen2:(acc++au s.size).length=acc.length+(au s.size).length:=List.length_append;clear hown' hgrow' c1;refine⟨c2, ?_⟩;refine ar 9 rfl (by kernel_rfl) rfl (fun K hK=> ?_);have hlt5:(acc++au s.size).length+s.size<1099511627775:=by omega
       have hvv:Value.slice ae (acc.length+(au s.size).length) ce= .slice ae (acc++au s.size).length ce:=by rw[hlen2]
       have HVV:=ab hvv;have HLT5:=ab hlt5;clear hlen2 hlt5 hvv;go_wp2_with (at_builtin; go_must (refine eC rfl _ _ rfl w.heap.size (.slice ae (acc.length+(au s.size).length) ce) (acc++au s.size) rfl HOL2.out s rfl HLT5.out hbz2 ?_); intro v' wd hown' hgrow');have HBX5:=ab ((hgrow'.block wr.heap.size (lt_of_block HBX4.out) (fun e=>by
        have h1:=HOL2.out;have h2:=(kG h1 e.symm);obtain⟨cs,h2⟩:=h2;have:=HBX4.out.symm.trans h2;simp at this)).trans HBX4.out)
       have HB3:=ab (bg HBL2.out HOL2.out hgrow' (Nat.le_refl _) hbz2);have HO3:=ab (show wd.ownsRow w.heap.size 5 1 v' (acc.length+(au s.size++bl s).length) (acc.map an++(au s.size++bl s).map an) by
        have h1:=hown';rw[List.length_append,ay,Nat.add_assoc,<-List.length_append,List.map_append,List.append_assoc,<-List.map_append]at h1;exact h1)
       obtain⟨nb,hnb⟩: ∃nb,nb=au s.size++bl s:=⟨_,rfl⟩;rw[<-hnb]at HO3 HX HBD;clear hnb;obtain⟨af,cf,rfl,-,-⟩:=ak HO3.out;have c3:=aj (k:=4) HBX5.out;simp only[aW]at c3;clear hown' hgrow' c2;refine⟨c3, ?_⟩;refine ag 10 rfl (by kernel_rfl) (by kernel_rfl) (by kernel_rfl) (fun _ _ _ h=>h) rfl (by go_simp) (by intro w' hw'; go_simp; rfl) ?_;simp only[Act.put,aB,aC,aD]
       refine aS (by kernel_rfl) ?_;go_wp2_with fail
       go_roundw
       case rel=>exact⟨k+1,acc++nb,by omega,by go_num,by rw[HSN.out]; exact cT HE.out HX.out,by rw[List.length_append,List.map_append]; exact HO3.out,by rw[List.length_append]; exact HBD.out,HB3.out⟩
       case measure=>simp[intOf]; omega
      ·go_upto_region 17 with(fail)
       rw[<-hW];clear hW q0 q1 q2 q3 q4 q5;refine bX (fun w'=>w'.cell? ⟨wr.heap.size,4,none⟩=some (.string s)) (by kernel_rfl) ?_;obtain⟨W2,hW2⟩: ∃W2:World,W2=W.drew:=⟨_,rfl⟩;rw[<-hW2];have hbw:Below W.heap.size W W2:=by rw[hW2]; exact(Below.refl _ _).drew
       have HB2:=ab (ah HB1.out hbw);have HO2:=ab (di HO1.out hbw);have HBX2:=ab ((hbw.block wr.heap.size (lt_of_block HBX.out)).trans HBX.out);clear hW2 hbw HBX;have c0:=aj (k:=4) HBX2.out;simp only[aW]at c0;refine ag 0 rfl (by kernel_rfl) (by kernel_rfl) (by kernel_rfl) (fun _ _ _ h=>h) rfl (by go_simp) (by intro w' hw'; go_simp; rfl) ?_;simp only[Act.put,aB,aC,aD]
       refine ag 1 rfl (by kernel_rfl) (by kernel_rfl) (by kernel_rfl) (fun _ _ _ h=>h) rfl (by go_simp) (by intro w' hw'; go_simp; rfl) ?_;simp only[Act.put,aB,aC,aD];refine ag 2 rfl (by kernel_rfl) (by kernel_rfl) (by kernel_rfl) (fun _ _ _ h=>h) rfl (by go_simp) (by intro w' hw'; go_simp; rfl) ?_;simp only[Act.put,aB,aC,aD];refine ag 3 rfl (by kernel_rfl) (by kernel_rfl) (by kernel_rfl) (fun _ _ _ h=>h) rfl (by go_simp) (by intro w' hw'; go_simp; rfl) ?_
       simp only[Act.put,aB,aC,aD];refine ag 4 rfl (by kernel_rfl) (by kernel_rfl) (by kernel_rfl) (fun _ _ _ h=>h) rfl (by go_simp) (by intro w' hw'; go_simp; rfl) ?_;simp only[Act.put,aB,aC,aD];refine ag 7 rfl (by kernel_rfl) (by kernel_rfl) (by kernel_rfl) (fun _ _ _ h=>h) rfl (by go_simp) (by intro w' hw'; go_simp; rfl) ?_;simp only[Act.put,aB,aC,aD];refine ag 8 rfl (by kernel_rfl) (by kernel_rfl) (by kernel_rfl) (fun _ _ _ h=>h) rfl (by go_simp) (by intro w' hw'; go_simp; rfl) ?_
       simp only[Act.put,aB,aC,aD];refine ar 5 rfl (by kernel_rfl) rfl (fun K hK=> ?_);go_wp2_with (go_at_call 103; refine(fo s.size _ (by omega)).mono ?_; rintro e w1 ⟨nv,rfl,hnv,hb1⟩);have HNV:=ab hnv;have HBL:=ab (ah HB2.out hb1);have HOL:=ab (di HO2.out hb1);have HBX3:=ab ((hb1.block wr.heap.size (lt_of_block HBX2.out)).trans HBX2.out);have hbz:=HBL.out.size
       obtain⟨_,na,nc,rfl,hnn1,hnn2,-⟩:=hnv;have c1:=aj (k:=4) HBX3.out;simp only[aW]at c1;clear hb1 c0;refine⟨c1, ?_⟩;refine ar 6 rfl (by kernel_rfl) rfl (fun K hK=> ?_);go_wp2_with (at_builtin; go_must (refine bT Tryz.appBytes rfl _ _ rfl w.heap.size (.slice ao acc.length co) acc.length (acc.map an) rfl HOL.out _ (au s.size).length ((au s.size).map an) rfl HNV.out (cD _) (by omega) hbz ?_); intro v' wc hown' hgrow')
       have HBX4:=ab ((hgrow'.block wr.heap.size (lt_of_block HBX3.out) (fun e=>by have:=(HO.out.lt _ e.symm).2; omega)).trans HBX3.out);have HBL2:=ab (bg HBL.out HOL.out hgrow' (Nat.le_refl _) hbz);have HOL2:=ab (show wc.ownsRow w.heap.size 5 1 v' (acc++au s.size).length ((acc++au s.size).map an) by rw[List.length_append,List.map_append]; exact hown');have hbz2:=HBL2.out.size
       obtain⟨ae,ce,rfl,-,-⟩:=ak hown';have c2:=aj (k:=4) HBX4.out;simp only[aW]at c2;have hlen2:(acc++au s.size).length=acc.length+(au s.size).length:=List.length_append;clear hown' hgrow' c1;refine⟨c2, ?_⟩;refine ar 9 rfl (by kernel_rfl) rfl (fun K hK=> ?_);have hlt5:(acc++au s.size).length+s.size<1099511627775:=by omega
       have hvv:Value.slice ae (acc.length+(au s.size).length) ce= .slice ae (acc++au s.size).length ce:=by rw[hlen2]
       have HVV:=ab hvv;have HLT5:=ab hlt5;clear hlen2 hlt5 hvv;go_wp2_with (at_builtin; go_must (refine eC rfl _ _ rfl w.heap.size (.slice ae (acc.length+(au s.size).length) ce) (acc++au s.size) rfl HOL2.out s rfl HLT5.out hbz2 ?_); intro v' wd hown' hgrow');have HBX5:=ab ((hgrow'.block wr.heap.size (lt_of_block HBX4.out) (fun e=>by
        have h1:=HOL2.out;have h2:=(kG h1 e.symm);obtain⟨cs,h2⟩:=h2;have:=HBX4.out.symm.trans h2;simp at this)).trans HBX4.out)
       have HB3:=ab (bg HBL2.out HOL2.out hgrow' (Nat.le_refl _) hbz2);have HO3:=ab (show wd.ownsRow w.heap.size 5 1 v' (acc.length+(au s.size++bl s).length) (acc.map an++(au s.size++bl s).map an) by
        have h1:=hown';rw[List.length_append,ay,Nat.add_assoc,<-List.length_append,List.map_append,List.append_assoc,<-List.map_append]at h1;exact h1)
       obtain⟨nb,hnb⟩: ∃nb,nb=au s.size++bl s:=⟨_,rfl⟩;rw[<-hnb]at HO3 HX HBD;clear hnb;obtain⟨af,cf,rfl,-,-⟩:=ak HO3.out;have c3:=aj (k:=4) HBX5.out;simp only[aW]at c3;clear hown' hgrow' c2;refine⟨c3, ?_⟩;refine ag 10 rfl (by kernel_rfl) (by kernel_rfl) (by kernel_rfl) (fun _ _ _ h=>h) rfl (by go_simp) (by intro w' hw'; go_simp; rfl) ?_;simp only[Act.put,aB,aC,aD]
       refine aS (by kernel_rfl) ?_;go_wp2_with fail
       go_roundw
       case rel=>exact⟨k+1,acc++nb,by omega,by go_num,by rw[HSN.out]; exact cT HE.out HX.out,by rw[List.length_append,List.map_append]; exact HO3.out,by rw[List.length_append]; exact HBD.out,HB3.out⟩
       case measure=>simp[intOf]; omega
     ·by_cases h6:kd=6
      ·subst h6
       by_cases hs32:s.size=32
       ·have HX:=ab (show eI ⟨6,u,n,b,s,mo⟩= .ok (bl s) by simp[eI,hs32]);have HBD:=ab (show acc.length+(bl s).length<=(k+1)*65556 by rw[<-ay]; omega);have e1:((s.size:Int) != 32)=false:=by simp; omega
        have hbz:=HB1.out.size;clear hs32;go_wp2_with (at_builtin; go_must (refine eC rfl _ _ rfl w.heap.size (.slice ao acc.length co) acc rfl HO1.out s rfl (by omega) hbz ?_); intro v' wc hown' hgrow'; have HO3:=ab (show wc.ownsRow w.heap.size 5 1 v' (acc.length+(bl s).length) (acc.map an++(bl s).map an) by rw[<-ay]; exact hown'); have HB3:=ab (bg HB1.out HO1.out hgrow' (Nat.le_refl _) hbz); obtain⟨ae,ce,rfl,-,-⟩:=ak hown'; clear hown' hgrow')
        go_roundw
        case rel=>exact⟨k+1,acc++(bl s),by omega,by go_num,by rw[HSN.out]; exact cT HE.out HX.out,by rw[List.length_append,List.map_append]; exact HO3.out,by rw[List.length_append]; exact HBD.out,HB3.out⟩
        case measure=>simp[intOf]; omega
       ·have HX:=ab (kx HE.out HG.out (show eI ⟨6,u,n,b,s,mo⟩= .error 1 by simp[eI,hs32]));have e1:((s.size:Int) != 32)=true:=by simp; omega
        clear hs32;go_wp2_with fail
        go_ret2
        exact⟨HB1.out,by unfold pI; rw[HX.out]; exact⟨rfl,by decide⟩⟩
      ·by_cases h7:kd=7
       ·subst h7
        by_cases hn0:n<0
        ·have HX:=ab (kx HE.out HG.out (show eI ⟨7,u,n,b,s,mo⟩= .error 1 by simp[eI,hn0]));go_wp2_with fail
         go_ret2
         exact⟨HB1.out,by unfold pI; rw[HX.out]; exact⟨rfl,by decide⟩⟩
        ·obtain⟨m,rfl⟩: ∃m:Nat,n=(m:Int):=⟨n.toNat,by omega⟩;have HX:=ab (show eI ⟨7,u,(m:Int),b,s,mo⟩= .ok (au m) by simp[eI]);have HBD:=ab (show acc.length+(au m).length<=(k+1)*65556 by have:=aX m; omega);have hnl:=aX m;go_wp2_with fail;refine(fo m _ (by omega)).mono ?_;rintro e w1 ⟨nv,rfl,hnv,hb1⟩;have HNV:=ab hnv
         have HBL:=ab (ah HB1.out hb1);have HOL:=ab (di HO1.out hb1);have hbz:=HBL.out.size;obtain⟨_,na,nc,rfl,hnn1,hnn2,-⟩:=hnv;clear hb1 q0 q1 q2 q3 q4 q5;go_wp2_with (at_builtin; go_must (refine bT Tryz.appBytes rfl _ _ rfl w.heap.size (.slice ao acc.length co) acc.length (acc.map an) rfl HOL.out _ (au m).length ((au m).map an) rfl HNV.out (cD _) (by omega) hbz ?_); intro v' wc hown' hgrow'; have HO3:=ab hown'; have HB3:=ab (bg HBL.out HOL.out hgrow' (Nat.le_refl _) hbz); obtain⟨ae,ce,rfl,-,-⟩:=ak hown'; clear hown' hgrow')
         go_roundw
         case rel=>exact⟨k+1,acc++(au m),by omega,by go_num,by rw[HSN.out]; exact cT HE.out HX.out,by rw[List.length_append,List.map_append]; exact HO3.out,by rw[List.length_append]; exact HBD.out,HB3.out⟩
         case measure=>simp[intOf]; omega
       ·have HX:=ab (show eI ⟨kd,u,n,b,s,mo⟩= .ok [] by simp only[eI,if_neg h1,if_neg h3,if_neg h4,if_neg h6,if_neg h7]);have HBD:=ab (show acc.length+([]:List UInt8).length<=(k+1)*65556 from Nat.le_trans hal (Nat.mul_le_mul_right _ (Nat.le_succ k)));have h4a: ¬kd=4:=fun e=>h4 (.inl e)
        have h5a: ¬kd=5:=fun e=>h4 (.inr e)
        have e1:(kd == 1)=false:=by simpa using h1
        have e2:(kd == 2)=false:=by simpa using hk2
        have e3:(kd == 3)=false:=by simpa using h3
        have e4:(kd == 4)=false:=by simpa using h4a
        have e5:(kd == 5)=false:=by simpa using h5a
        have e6:(kd == 6)=false:=by simpa using h6
        have e7:(kd == 7)=false:=by simpa using h7
        have HO3:=ab (show World.ownsRow (wr.alloc (.cells #[.int .i64 kd, .int .u64 (u:Int), .int .i64 n, .bool b, .string s, .int .i64 mo] 96)) w.heap.size 5 1 (.slice ao acc.length co) (acc.length+([]:List UInt8).length) (acc.map an++([]:List UInt8).map an) by simpa using HO1.out);have HB3:=HB1;clear h1 h3 h4 h6 h7 hk2 h4a h5a;go_wp2_with fail
        go_roundw
        case rel=>exact⟨k+1,acc++([]:List UInt8),by omega,by go_num,by rw[HSN.out]; exact cT HE.out HX.out,by rw[List.length_append,List.map_append]; exact HO3.out,by rw[List.length_append]; exact HBD.out,HB3.out⟩
        case measure=>simp[intOf]; omega
  ·obtain rfl:k=l.length:=by omega
   have HEL:=ab (show bB l= .ok acc by have:=HE.out; rwa [List.take_of_length_le (Nat.le_refl _)]at this)
   by_cases hbig:1048576<acc.length
   ·have HX:=ab (show pI l= .error 2 by unfold pI; rw[HEL.out]; simp only[if_pos hbig]);go_wp2_with fail
    go_ret2
    exact⟨HB.out,by rw[HX.out]; exact⟨rfl,by decide⟩⟩
   ·have HX:=ab (show pI l= .ok acc by unfold pI; rw[HEL.out]; simp only[if_neg hbig]);go_wp2_with fail
    go_ret2
    exact⟨HB.out,by rw[HX.out]; exact⟨_,rfl,(ba HO.out).weak (fun k hk=>hk.1)⟩⟩
end Go.Proofs.YtpffpjbkbaleiaaGreatDoor
namespace Go.Proofs.YtpffpjbkbaleiaaGreatDoor
open Go.RowKit
def rvV (x:dl):Value:= .agg #[.int .i64 x.kind, .int .u64 (x.u:Int), .int .i64 x.n, .bool x.b, .string x.s, .int .i64 x.most]
def cH (n:Int):dl:=⟨1,(n%18446744073709551616).toNat,0,false,⟨#[]⟩,0⟩
def wj (s:ByteArray):dl:=⟨6,0,0,false,s,0⟩
def gA (s:ByteArray):dl:=⟨5,0,0,false,s,0⟩
def dB (n:Nat):dl:=⟨7,0,(n:Int),false,⟨#[]⟩,0⟩
def bm (r:aN):List dl:=[wj r.name,cH r.gen,cH r.size]
theorem gO (n:Int):pE (cH n):=⟨by simp only[cH]; omega,by simp[cH],by simp only[cH]; decide,by simp[cH]⟩
theorem Di {s:ByteArray} (h:s.size<=65536):pE (wj s):=⟨by simp[wj],by simp[wj],h,by simp[wj]⟩
theorem lw {s:ByteArray} (h:s.size<=65536):pE (gA s):=⟨by simp[gA],by simp[gA],h,by simp[gA]⟩
theorem qu {n:Nat} (h:n<=1000000):pE (dB n):=⟨by simp[dB],by simp only[dB]; omega,by simp only[dB]; decide,by simp[dB]⟩
theorem iV {r:aN} (h:r.name.size<=65536): ∀x∈bm r,pE x:=by
 intro x hx;simp only[bm,List.mem_cons,List.not_mem_nil,or_false]at hx
 rcases hx with rfl | rfl | rfl
 ·exact Di h
 ·exact gO _
 ·exact gO _
theorem sx : ∀ {l:List dl},(∀x∈l,pE x)->bM Cg (l.flatMap kI) l
 | [],_=>rfl
 | x::l,h=>⟨kI x,l.flatMap kI,rfl,⟨rfl,h x (by simp)⟩,sx (fun y hy=>h y (by simp[hy]))⟩
theorem wrap_u64 (n:Int):IntKind.u64.wrap n=((n%18446744073709551616).toNat:Int):=by rw[IntKind.wrap_u64]; omega
theorem eQ (n:Int) (w:World):Calls Tryz.prog 55 #[.int .i64 n] w fun e w'=>e= .returned (rvV (cH n))/\Below w.heap.size w w':=by
 have hw:=wrap_u64 n;obtain⟨m,hm⟩: ∃m:Nat,m=(n%18446744073709551616).toNat:=⟨_,rfl⟩;have hnv:cH n=⟨1,m,0,false,⟨#[]⟩,0⟩:=by rw[hm]; rfl
 rw[<-hm]at hw;have HN:=ab hnv;clear hm hnv
 go_enter Tryz.func55,Tryz.ntmps55
 go_wp2_with fail;exact bodyPost_ret (v:= .agg #[.int .i64 1, .int .u64 (m:Int), .int .i64 0, .bool false, .string ⟨#[]⟩, .int .i64 0]) (by simp[results,Tryz.results55,go_sem]) rfl ⟨by rw[HN.out]; rfl,(Below.refl _ _).alloc (Nat.le_refl _) _⟩
def Dw (l:List dl) (w:World) (e:Ending) (w':World):Prop:= ∃v,e= .returned v/\qg (w.heap.size<= ·) w' v l/\Below w.heap.size w w'
theorem jf (r:aN) (w:World) (hs:r.name.size<=65536):Calls Tryz.prog 56 #[bJ r] w (Dw (bm r) w):=by
 have HB:=ab ((Below.refl w.heap.size w).alloc (Nat.le_refl _) (.cells #[.string r.name, .int .i64 r.gen, .int .i64 r.size] 26));have HBX:=ab (heap_alloc_new w (.cells #[.string r.name, .int .i64 r.gen, .int .i64 r.size] 26));have HOK:=ab (iV hs);unfold bJ;clear hs
 go_enter Tryz.func56,Tryz.ntmps56
 go_wp2_with fail;refine bX (fun w'=>w'.cell? ⟨w.heap.size,0,none⟩=some (.string r.name)/\w'.cell? ⟨w.heap.size,1,none⟩=some (.int .i64 r.gen)/\w'.cell? ⟨w.heap.size,2,none⟩=some (.int .i64 r.size)) (by kernel_rfl) ?_;obtain⟨W,hW⟩: ∃W:World,W=(w.alloc (.cells #[.string r.name, .int .i64 r.gen, .int .i64 r.size] 26)).drew:=⟨_,rfl⟩;rw[<-hW];have HB1:=ab (show Below w.heap.size w W by rw[hW]; exact HB.out.drew)
 have HBX1:=ab (show W.heap[w.heap.size]? =some (.cells #[.string r.name, .int .i64 r.gen, .int .i64 r.size] 26 (0,0)) by rw[hW]; exact HBX.out);clear hW HB HBX;have c0:=aj (k:=0) HBX1.out;have c1:=aj (k:=1) HBX1.out;have c2:=aj (k:=2) HBX1.out;simp only[aW]at c0 c1 c2;refine ag 0 rfl (by kernel_rfl) (by kernel_rfl) (by kernel_rfl) (fun _ _ _ h=>h) rfl (by go_simp) (by rintro w' ⟨hw1,hw2,hw3⟩; go_simp; rfl) ?_
 simp only[Act.put,aB,aC,aD];refine ag 1 rfl (by kernel_rfl) (by kernel_rfl) (by kernel_rfl) (fun _ _ _ h=>h) rfl (by go_simp) (by rintro w' ⟨hw1,hw2,hw3⟩; go_simp; rfl) ?_;simp only[Act.put,aB,aC,aD];refine ag 2 rfl (by kernel_rfl) (by kernel_rfl) (by kernel_rfl) (fun _ _ _ h=>h) rfl (by go_simp) (by rintro w' ⟨hw1,hw2,hw3⟩; go_simp; rfl) ?_;simp only[Act.put,aB,aC,aD]
 refine ag 3 rfl (by kernel_rfl) (by kernel_rfl) (by kernel_rfl) (fun _ _ _ h=>h) rfl (by go_simp) (by rintro w' ⟨hw1,hw2,hw3⟩; go_simp; rfl) ?_;simp only[Act.put,aB,aC,aD];refine ag 4 rfl (by kernel_rfl) (by kernel_rfl) (by kernel_rfl) (fun _ _ _ h=>h) rfl (by go_simp) (by rintro w' ⟨hw1,hw2,hw3⟩; go_simp; rfl) ?_;simp only[Act.put,aB,aC,aD];refine ag 6 rfl (by kernel_rfl) (by kernel_rfl) (by kernel_rfl) (fun _ _ _ h=>h) rfl (by go_simp) (by rintro w' ⟨hw1,hw2,hw3⟩; go_simp; rfl) ?_
 simp only[Act.put,aB,aC,aD];refine ag 7 rfl (by kernel_rfl) (by kernel_rfl) (by kernel_rfl) (fun _ _ _ h=>h) rfl (by go_simp) (by rintro w' ⟨hw1,hw2,hw3⟩; go_simp; rfl) ?_;simp only[Act.put,aB,aC,aD];refine ar 5 rfl (by kernel_rfl) rfl (fun K hK=> ?_);go_wp2_with (go_at_call 55; refine(eQ r.gen _).mono ?_; rintro e w1 ⟨rfl,hb1⟩);have HB2:=ab (ah HB1.out hb1)
 have HBX2:=ab ((hb1.block w.heap.size (lt_of_block HBX1.out)).trans HBX1.out);clear hb1 c0 c1 c2;have c0:=aj (k:=0) HBX2.out;have c1:=aj (k:=1) HBX2.out;have c2:=aj (k:=2) HBX2.out;simp only[aW]at c0 c1 c2;refine⟨⟨c0,c1,c2⟩, ?_⟩;refine ar 8 rfl (by kernel_rfl) rfl (fun K hK=> ?_);go_wp2_with (go_at_call 55; refine(eQ r.size _).mono ?_; rintro e w2 ⟨rfl,hb2⟩)
 have HB3:=ab (ah HB2.out hb2);have HBX3:=ab ((hb2.block w.heap.size (lt_of_block HBX2.out)).trans HBX2.out);clear hb2 c0 c1 c2;have c0:=aj (k:=0) HBX3.out;have c1:=aj (k:=1) HBX3.out;have c2:=aj (k:=2) HBX3.out;simp only[aW]at c0 c1 c2;refine⟨⟨c0,c1,c2⟩, ?_⟩;refine ar 9 rfl (by kernel_rfl) rfl (fun K hK=> ?_);unfold rvV;go_wp2_with fail;have hlt:=lt_of_block HBX3.out
 have hcells:(#[Value.int .i64 6, .int .u64 0, .int .i64 0, .bool false, .string r.name, .int .i64 0, .int .i64 (cH r.gen).kind, .int .u64 (cH r.gen).u, .int .i64 (cH r.gen).n, .bool (cH r.gen).b, .string (cH r.gen).s, .int .i64 (cH r.gen).most, .int .i64 (cH r.size).kind, .int .u64 (cH r.size).u, .int .i64 (cH r.size).n, .bool (cH r.size).b, .string (cH r.size).s, .int .i64 (cH r.size).most]:Array Value)=((bm r).flatMap kI).toArray:=rfl
 rw[hcells];obtain⟨w3,hw3⟩: ∃w3:World,w3=w2.alloc (.cells ((bm r).flatMap kI).toArray 96):=⟨_,rfl⟩;have HAL:=ab (show Below w2.heap.size w2 w3 by rw[hw3]; exact(Below.refl _ _).alloc (Nat.le_refl _) _);have HR:=ab (show qg (w.heap.size<= ·) w3 (.slice (some ⟨w2.heap.size,0,none⟩) 3 3) (bm r) by
  have h1:=ba (World.ownsRow_lit (base:=w2.heap.size) (e:=96) (size:=6) w2 ((bm r).flatMap kI).toArray 3 (Nat.le_refl _) (by unfold maxLen; omega) rfl);rw[hw3];exact⟨_,h1.weak (fun k hk=>Nat.le_trans HB3.out.size hk.1),sx HOK.out⟩)
 rw[<-hw3];clear hw3 hcells;refine⟨⟨(HAL.out.cell hlt).trans c0,(HAL.out.cell hlt).trans c1,(HAL.out.cell hlt).trans c2⟩, ?_⟩;refine ag 10 rfl (by kernel_rfl) (by kernel_rfl) (by kernel_rfl) (fun _ _ _ h=>h) rfl ⟨(HAL.out.cell hlt).trans c0,(HAL.out.cell hlt).trans c1,(HAL.out.cell hlt).trans c2⟩ (by rintro w' ⟨hw1,hw2,hw3⟩; go_simp; rfl) ?_;simp only[Act.put,aB,aC,aD];refine aS (by kernel_rfl) ?_
 go_wp2_with fail;go_ret;exact⟨_,rfl,HR.out,ah HB3.out HAL.out⟩
end Go.Proofs.YtpffpjbkbaleiaaGreatDoor
namespace Go.Proofs.YtpffpjbkbaleiaaGreatDoor
open Go.RowKit
theorem set3 {w:World} {b:Nat} {a0 a1 a2 x0 x1 x2:Value} {t:TypeId} (h:w.heap[b]? =some (.cells #[a0,a1,a2] t (0,0))):
  (((w.setCell ⟨b,0,none⟩ x0).setCell ⟨b,1,none⟩ x1).setCell ⟨b,2,none⟩ x2).heap[b]? =some (.cells #[x0,x1,x2] t (0,0)):=dq (dq (dq h x0) x1) x2
end Go.Proofs.YtpffpjbkbaleiaaGreatDoor
namespace Go.Proofs.YtpffpjbkbaleiaaGreatDoor
open Go.RowKit
def bN (it:aE):List dl:=
 [gA it.name,cH it.kind,cH it.mode,cH it.time]++
  (if it.kind=1 then dB it.chunks.length::it.chunks.flatMap bm else if it.kind=2 then bm it.node else [gA it.link])
def eX (l:List aE) (k:Nat):List dl:=dB l.length::(l.take k).flatMap bN
def cz (l:List aE):List dl:=dB l.length::l.flatMap bN
theorem mM {l:List aE} {k:Nat} {it:aE} (h:l[k]? =some it):eX l (k+1)=eX l k++bN it:=by
 unfold eX;obtain⟨hk,rfl⟩:=List.getElem?_eq_some_iff.1 h;rw[List.take_succ_eq_append_getElem hk,List.flatMap_append]; simp
theorem wu (l:List aE):eX l l.length=cz l:=by unfold eX cz; rw[List.take_of_length_le (Nat.le_refl _)]
theorem zz (l:List aE) (k:Nat):(eX l k).length<=(cz l).length:=by
 unfold eX cz;have h:l.flatMap bN=(l.take k).flatMap bN++(l.drop k).flatMap bN:=by rw[<-List.flatMap_append,List.take_append_drop]
 rw[h];simp
structure ng (it : aE) : Prop where
 nm:it.name.size<=65536
 lk:it.link.size<=65536
 nd:it.node.name.size<=65536
 ch: ∀c∈it.chunks,c.name.size<=65536
def oI (l:List aE):List UInt8:=match pI (cz l)with
 | .error _=>[]
 | .ok b=>b
structure rD (w : World) (xb : Nat) (cs : Array Value) (wq : World) (lv : Value) (vals : List dl) : Prop where
 row:wq.ownsRow w.heap.size 96 6 lv vals.length (vals.flatMap kI)
 box:wq.heap[xb]? =some (.cells cs 28 (0,0))
 below:Below w.heap.size w wq
section
variable {w wq w' : World} {xb : Nat} {cs : Array Value} {lv v' : Value} {vals news : List dl}
theorem rD.next (h:rD w xb cs wq lv vals) (hb:Below wq.heap.size wq w'):rD w xb cs w' lv vals:=
 ⟨di h.row hb,(hb.block xb (lt_of_block h.box)).trans h.box,ah h.below hb⟩
theorem rD.app (h:rD w xb cs wq lv vals) (ho:w'.ownsRow w.heap.size 96 6 v' (vals.length+news.length) (vals.flatMap kI++news.flatMap kI)) (hg:wq.grownBy w' lv.ownBlock):rD w xb cs w' v' (vals++news):=by
 refine⟨by rw[List.length_append,List.flatMap_append]; exact ho,(hg.block xb (lt_of_block h.box) (fun e=> ?_)).trans h.box,bg h.below h.row hg (Nat.le_refl _) h.below.size⟩;obtain⟨c,hc⟩:=kG h.row e.symm;have:=h.box.symm.trans hc;simp at this
end
theorem Tryz.appVals :ee Tryz.prog 97 96 6 56:=ee.mk' (z:= .agg #[.int .i64 0, .int .u64 0, .int .i64 0, .bool false, .string ⟨#[]⟩, .int .i64 0]) Tryz.underlying97 (by kernel_rfl) rfl (by decide) (by decide)
theorem lp {l:List dl} : ∀u∈l.flatMap kI,u.oneCell'=true:=by
 intro u hu;obtain⟨x,_,hx⟩:=List.mem_flatMap.1 hu;simp only[kI,List.mem_cons,List.not_mem_nil,or_false]at hx
 rcases hx with rfl | rfl | rfl | rfl | rfl | rfl<;> rfl
theorem aM.lts {S:Nat->Prop} {w:World} {v:Value} {l:List aE} (h:aM S w v l):aM (· <w.heap.size) w v l:=by
 obtain⟨cells,hr,hin⟩:=h;exact⟨cells,hr.mono (fun k hk hS=>hk) (by omega),hin.mono (fun c x _ ⟨cv,h1,⟨cells,h2,h3⟩,h4⟩=>⟨cv,h1,⟨cells,h2.mono (fun k hk _=>hk) (by omega),h3⟩,h4⟩)⟩
theorem gQ : ∀(l:List aN),(l.flatMap bm).length=3*l.length
 | []=>rfl
 | x::l=>by rw[List.flatMap_cons,List.length_append,gQ l,List.length_cons]; simp[bm]; omega
def wY (it:aE):List dl:=[gA it.name,cH it.kind,cH it.mode,cH it.time]
theorem my {it:aE} (h:it.kind=1):bN it=wY it++(dB it.chunks.length::it.chunks.flatMap bm):=by unfold bN wY; rw[if_pos h]
theorem vw {it:aE} (h:it.kind=2):bN it=wY it++bm it.node:=by unfold bN wY; rw[if_neg (by omega),if_pos h]
theorem tK {it:aE} (h1: ¬it.kind=1) (h2: ¬it.kind=2):bN it=wY it++[gA it.link]:=by unfold bN wY; rw[if_neg h1,if_neg h2]
theorem Cy (it:aE):(wY it).length=4:=rfl
theorem yg {it:aE} (h:ng it) (hc:it.chunks.length<=1000000): ∀x∈bN it,pE x:=by
 intro x hx;unfold bN at hx
 rcases List.mem_append.1 hx with hx | hx
 ·simp only[List.mem_cons,List.not_mem_nil,or_false]at hx
  rcases hx with rfl | rfl | rfl | rfl
  ·exact lw h.nm
  ·exact gO _
  ·exact gO _
  ·exact gO _
 ·split at hx
  ·rcases List.mem_cons.1 hx with rfl | hx
   ·exact qu hc
   ·obtain⟨c,hc1,hc2⟩:=List.mem_flatMap.1 hx;exact iV (h.ch c hc1) x hc2
  ·split at hx
   ·exact iV h.nd x hx
   ·simp only[List.mem_singleton]at hx; subst hx; exact lw h.lk
theorem ue {l:List aE} (hs: ∀it∈l,ng it) (hl:l.length<=1000000) (hn:(cz l).length<=1000000): ∀x∈cz l,pE x:=by
 intro x hx;unfold cz at hx
 rcases List.mem_cons.1 hx with rfl | hx
 ·exact qu hl
 ·obtain⟨it,h1,h2⟩:=List.mem_flatMap.1 hx
  by_cases hk:it.kind=1
  ·refine yg (hs it h1) ?_ x h2;have h3:(bN it).length<=(l.flatMap bN).length:=by
    obtain⟨a,b,rfl⟩:=List.append_of_mem h1;rw[List.flatMap_append,List.flatMap_cons,List.length_append,List.length_append]; omega
   have h4:it.chunks.length<=(bN it).length:=by rw[my hk,List.length_append,List.length_cons,gQ]; omega
   unfold cz at hn;rw[List.length_cons]at hn;omega
  ·unfold bN at h2;rw[if_neg hk]at h2
   rcases List.mem_append.1 h2 with hx | hx
   ·simp only[List.mem_cons,List.not_mem_nil,or_false]at hx
    rcases hx with rfl | rfl | rfl | rfl
    ·exact lw (hs it h1).nm
    ·exact gO _
    ·exact gO _
    ·exact gO _
   ·split at hx
    ·exact iV (hs it h1).nd x hx
    ·simp only[List.mem_singleton]at hx; subst hx; exact lw (hs it h1).lk
theorem xt {S:Nat->Prop} {w:World} {v:Value} {l:List dl} (h:qg S w v l):aO S w 6 v l.length (l.flatMap kI):=by
 obtain⟨cells,h1,h2⟩:=h;have: ∀(l:List dl) (cells:List Value),bM Cg cells l->cells=l.flatMap kI:=by
  intro l
  induction l with
  | nil=>intro cells h; exact h
  | cons x l ih=>
   rintro cells ⟨c,rest,rfl,⟨rfl,_⟩,hr⟩;rw[ih rest hr]; rfl
 rw[<-this l cells h2]; exact h1
def eP (v4:List dl) (cs:List aN) (j:Nat):List dl:=v4++(dB cs.length::(cs.take j).flatMap bm)
theorem tA {v4:List dl} {cs:List aN} {j:Nat} {c:aN} (h:cs[j]? =some c):eP v4 cs (j+1)=eP v4 cs j++bm c:=by
 unfold eP;rw[br h,List.flatMap_append]; simp
theorem vj (v4:List dl) (cs:List aN):eP v4 cs cs.length=v4++(dB cs.length::cs.flatMap bm):=by unfold eP; rw[List.take_of_length_le (Nat.le_refl _)]
theorem xX (v4:List dl) (cs:List aN) (j:Nat):(eP v4 cs j).length<=(v4++(dB cs.length::cs.flatMap bm)).length:=by
 unfold eP;rw[List.length_append,List.length_append,List.length_cons,List.length_cons,gQ,gQ,List.length_take];omega
def Ce (l:List aE) (w:World) (e:Ending) (w':World):Prop:= ∃v,e= .returned v/\aF (w.heap.size<= ·) w' v (oI l)/\Below w.heap.size w w'
theorem vL (S:Nat->Prop) (v:Value) (l:List aE) (w:World) (hv:aM S w v l) (hs: ∀it∈l,ng it) (hl:(cz l).length<=1000000) (hll:l.length<=1000000):Calls Tryz.prog 17 #[v] w (Ce l w):=by
 obtain⟨a,cap,rfl,hc,hm,-⟩:=aJ.shape hv cM.len;unfold maxLen at hm;have HV:=ab hv.lts;have HS:=ab hs;have HL:=ab hl;have HO0:=ab (World.ownsRow_lit (e:=96) (size:=6) (base:=w.heap.size) w #[.int .i64 7, .int .u64 0, .int .i64 (l.length:Int), .bool false, .string ⟨#[]⟩, .int .i64 0] 1 (Nat.le_refl _) (by unfold maxLen; omega) rfl);have HB0:=ab ((Below.refl w.heap.size w).alloc (Nat.le_refl _) (.cells #[.int .i64 7, .int .u64 0, .int .i64 (l.length:Int), .bool false, .string ⟨#[]⟩, .int .i64 0] 96))
 clear hv hs hl
 go_enter Tryz.func17,Tryz.ntmps17
 go_wp2_with fail
 go_loopw [3,4] (fun lv i wr=> ∃(k:Nat),k<=l.length/\i= .int .i64 k/\wr.ownsRow w.heap.size 96 6 lv (eX l k).length ((eX l k).flatMap kI)/\Below w.heap.size w wr) (fun _ i _=>l.length-(intOf i).toNat)
 case atStart=>exact⟨0,Nat.zero_le _,rfl,HO0.out,HB0.out⟩
 case round=>
  obtain⟨k,hk,rfl,hown,hb⟩:=hrel;have HO:=ab hown;have HB:=ab hb;obtain⟨ao,co,rfl,hn1,hn2⟩:=ak hown;clear hown hb HO0 HB0
  by_cases hlt:k<l.length
  ·obtain⟨it,hit⟩: ∃it,l[k]? =some it:=⟨l[k],by simp[hlt]⟩;obtain⟨b,o,ca,cc,rfl,hok,hrf,-,-,hcl⟩:=cW HV.out HB.out hit;have HIS:=ab (HS.out it (List.mem_of_getElem? hit));have HSN:=ab (mM hit);have HLE:=ab (show(eX l k++bN it).length<=1000000 by rw[<-mM hit]; exact Nat.le_trans (zz _ _) HL.out);have q0:=hcl 0 (by omega);have q1:=hcl 1 (by omega)
   have q2:=hcl 2 (by omega);have q3:=hcl 3 (by omega);have q4:=hcl 4 (by omega);have q5:=hcl 5 (by omega);have q6:=hcl 6 (by omega);have q7:=hcl 7 (by omega);have q8:=hcl 8 (by omega);have q9:=hcl 9 (by omega);simp only[cN,vr,Nat.add_zero]at q0 q1 q2 q3 q4 q5 q6 q7 q8 q9;obtain⟨W,hW⟩: ∃W:World,W=wr.alloc (.cells #[.string it.name, .int .i64 it.kind, .int .i64 it.mode, .int .i64 it.time, .int .i64 it.size, .string it.link, .slice ca it.chunks.length cc, .string it.node.name, .int .i64 it.node.gen, .int .i64 it.node.size] 28):=⟨_,rfl⟩
   have HAL:=ab (show Below wr.heap.size wr W by rw[hW]; exact(Below.refl _ _).alloc (Nat.le_refl _) _);have HN1:=ab (show rD w wr.heap.size #[.string it.name, .int .i64 it.kind, .int .i64 it.mode, .int .i64 it.time, .int .i64 it.size, .string it.link, .slice ca it.chunks.length cc, .string it.node.name, .int .i64 it.node.gen, .int .i64 it.node.size] W (.slice ao (eX l k).length co) (eX l k)from⟨di HO.out HAL.out,by rw[hW]; exact heap_alloc_new wr _,ah HB.out HAL.out⟩)
   have HRF:=ab hrf;have hol:=hok;clear hit hcl hok hol hrf;obtain⟨vk,hvk⟩: ∃vk,vk=eX l k:=⟨_,rfl⟩;rw[<-hvk]at HSN HLE HN1 hn1 ⊢;clear hvk
   go_upto_region 6 with(fail)
   rw[<-hW];clear hW q0 q1 q2 q3 q4 q5 q6 q7 q8 q9 HO;refine bX (fun w'=>w'.cell? ⟨wr.heap.size,0,none⟩=some (.string it.name)/\w'.cell? ⟨wr.heap.size,1,none⟩=some (.int .i64 it.kind)/\w'.cell? ⟨wr.heap.size,2,none⟩=some (.int .i64 it.mode)/\w'.cell? ⟨wr.heap.size,3,none⟩=some (.int .i64 it.time)) (by kernel_rfl) ?_;obtain⟨W2,hW2⟩: ∃W2:World,W2=W.drew:=⟨_,rfl⟩
   rw[<-hW2];have HN2:=ab (HN1.out.next (show Below W.heap.size W W2 by rw[hW2]; exact(Below.refl _ _).drew));clear hW2 HN1;have c0:=aj (k:=0) HN2.out.box;have c1:=aj (k:=1) HN2.out.box;have c2:=aj (k:=2) HN2.out.box;have c3:=aj (k:=3) HN2.out.box;simp only[aW]at c0 c1 c2 c3;refine ag 0 rfl (by kernel_rfl) (by kernel_rfl) (by kernel_rfl) (fun _ _ _ h=>h) rfl (by go_simp) (by rintro w' ⟨hw1,hw2,hw3,hw4⟩; go_simp; rfl) ?_
   simp only[Act.put,aB,aC,aD];refine ag 1 rfl (by kernel_rfl) (by kernel_rfl) (by kernel_rfl) (fun _ _ _ h=>h) rfl (by go_simp) (by rintro w' ⟨hw1,hw2,hw3,hw4⟩; go_simp; rfl) ?_;simp only[Act.put,aB,aC,aD];refine ag 2 rfl (by kernel_rfl) (by kernel_rfl) (by kernel_rfl) (fun _ _ _ h=>h) rfl (by go_simp) (by rintro w' ⟨hw1,hw2,hw3,hw4⟩; go_simp; rfl) ?_;simp only[Act.put,aB,aC,aD]
   refine ag 3 rfl (by kernel_rfl) (by kernel_rfl) (by kernel_rfl) (fun _ _ _ h=>h) rfl (by go_simp) (by rintro w' ⟨hw1,hw2,hw3,hw4⟩; go_simp; rfl) ?_;simp only[Act.put,aB,aC,aD];refine ag 4 rfl (by kernel_rfl) (by kernel_rfl) (by kernel_rfl) (fun _ _ _ h=>h) rfl (by go_simp) (by rintro w' ⟨hw1,hw2,hw3,hw4⟩; go_simp; rfl) ?_;simp only[Act.put,aB,aC,aD];refine ag 5 rfl (by kernel_rfl) (by kernel_rfl) (by kernel_rfl) (fun _ _ _ h=>h) rfl (by go_simp) (by rintro w' ⟨hw1,hw2,hw3,hw4⟩; go_simp; rfl) ?_
   simp only[Act.put,aB,aC,aD];refine ag 7 rfl (by kernel_rfl) (by kernel_rfl) (by kernel_rfl) (fun _ _ _ h=>h) rfl (by go_simp) (by rintro w' ⟨hw1,hw2,hw3,hw4⟩; go_simp; rfl) ?_;simp only[Act.put,aB,aC,aD];refine ag 8 rfl (by kernel_rfl) (by kernel_rfl) (by kernel_rfl) (fun _ _ _ h=>h) rfl (by go_simp) (by rintro w' ⟨hw1,hw2,hw3,hw4⟩; go_simp; rfl) ?_;simp only[Act.put,aB,aC,aD]
   refine ag 10 rfl (by kernel_rfl) (by kernel_rfl) (by kernel_rfl) (fun _ _ _ h=>h) rfl (by go_simp) (by rintro w' ⟨hw1,hw2,hw3,hw4⟩; go_simp; rfl) ?_;simp only[Act.put,aB,aC,aD];refine ag 11 rfl (by kernel_rfl) (by kernel_rfl) (by kernel_rfl) (fun _ _ _ h=>h) rfl (by go_simp) (by rintro w' ⟨hw1,hw2,hw3,hw4⟩; go_simp; rfl) ?_;simp only[Act.put,aB,aC,aD];refine ar 6 rfl (by kernel_rfl) rfl (fun K hK=> ?_)
   go_wp2_with (go_at_call 55; refine(eQ it.kind _).mono ?_; rintro e w1 ⟨rfl,hb1⟩);have HN3:=ab (HN2.out.next hb1);clear hb1 c0 c1 c2 c3;have c0:=aj (k:=0) HN3.out.box;have c1:=aj (k:=1) HN3.out.box;have c2:=aj (k:=2) HN3.out.box;have c3:=aj (k:=3) HN3.out.box;simp only[aW]at c0 c1 c2 c3;refine⟨⟨c0,c1,c2,c3⟩, ?_⟩;refine ar 9 rfl (by kernel_rfl) rfl (fun K hK=> ?_)
   go_wp2_with (go_at_call 55; refine(eQ it.mode _).mono ?_; rintro e w2 ⟨rfl,hb2⟩);have HN4:=ab (HN3.out.next hb2);clear hb2 c0 c1 c2 c3;have c0:=aj (k:=0) HN4.out.box;have c1:=aj (k:=1) HN4.out.box;have c2:=aj (k:=2) HN4.out.box;have c3:=aj (k:=3) HN4.out.box;simp only[aW]at c0 c1 c2 c3;refine⟨⟨c0,c1,c2,c3⟩, ?_⟩;refine ar 12 rfl (by kernel_rfl) rfl (fun K hK=> ?_)
   go_wp2_with (go_at_call 55; refine(eQ it.time _).mono ?_; rintro e w3 ⟨rfl,hb3⟩);have HN5:=ab (HN4.out.next hb3);clear hb3 c0 c1 c2 c3;have c0:=aj (k:=0) HN5.out.box;have c1:=aj (k:=1) HN5.out.box;have c2:=aj (k:=2) HN5.out.box;have c3:=aj (k:=3) HN5.out.box;simp only[aW]at c0 c1 c2 c3;refine⟨⟨c0,c1,c2,c3⟩, ?_⟩;refine ar 13 rfl (by kernel_rfl) rfl (fun K hK=> ?_)
   unfold rvV;go_wp2_with fail;have hcells:(#[Value.int .i64 5, .int .u64 0, .int .i64 0, .bool false, .string it.name, .int .i64 0, .int .i64 (cH it.kind).kind, .int .u64 (cH it.kind).u, .int .i64 (cH it.kind).n, .bool (cH it.kind).b, .string (cH it.kind).s, .int .i64 (cH it.kind).most, .int .i64 (cH it.mode).kind, .int .u64 (cH it.mode).u, .int .i64 (cH it.mode).n, .bool (cH it.mode).b, .string (cH it.mode).s, .int .i64 (cH it.mode).most, .int .i64 (cH it.time).kind, .int .u64 (cH it.time).u, .int .i64 (cH it.time).n, .bool (cH it.time).b, .string (cH it.time).s, .int .i64 (cH it.time).most]:Array Value)=((wY it).flatMap kI).toArray:=rfl
   rw[hcells];obtain⟨w4,hw4⟩: ∃w4:World,w4=w3.alloc (.cells ((wY it).flatMap kI).toArray 96):=⟨_,rfl⟩;have HN6:=ab (HN5.out.next (show Below w3.heap.size w3 w4 by rw[hw4]; exact(Below.refl _ _).alloc (Nat.le_refl _) _));have HNW:=ab (show aO (w.heap.size<= ·) w4 6 (.slice (some ⟨w3.heap.size,0,none⟩) 4 4) 4 ((wY it).flatMap kI) by
    have h1:=ba (World.ownsRow_lit (base:=w3.heap.size) (e:=96) (size:=6) w3 ((wY it).flatMap kI).toArray 4 (Nat.le_refl _) (by unfold maxLen; omega) rfl);rw[hw4];exact h1.weak (fun k hk=>Nat.le_trans HN5.out.below.size hk.1))
   rw[<-hw4];clear hw4 hcells HN2 HN3 HN4 HN5 c0 c1 c2 c3;have c0:=aj (k:=0) HN6.out.box;have c1:=aj (k:=1) HN6.out.box;have c2:=aj (k:=2) HN6.out.box;have c3:=aj (k:=3) HN6.out.box;simp only[aW]at c0 c1 c2 c3;have hll2:vk.length+4<=1000000:=by
    have h1:=HLE.out;rw[List.length_append]at h1;have h2:4<=(bN it).length:=by unfold bN; simp
    omega
   have hbz:=HN6.out.below.size;refine⟨⟨c0,c1,c2,c3⟩, ?_⟩;refine ar 14 rfl (by kernel_rfl) rfl (fun K hK=> ?_);go_wp2_with (at_builtin; go_must (refine bT Tryz.appVals rfl _ _ rfl w.heap.size (.slice ao vk.length co) vk.length (vk.flatMap kI) rfl HN6.out.row _ 4 ((wY it).flatMap kI) rfl HNW.out lp (by omega) hbz ?_); intro v' wc hown' hgrow');have h7:=HN6.out.app (news:=wY it) hown' hgrow'
   obtain⟨v4,hv4e⟩: ∃v4,v4=vk++wY it:=⟨_,rfl⟩;rw[<-hv4e]at h7;have HN7:=ab h7;have HV4:=ab hv4e;have hv4:v4.length<=1000000:=by rw[hv4e,List.length_append,Cy]; omega
   clear h7 hv4e;obtain⟨a7,c7',rfl,-,-⟩:=ak HN7.out.row;clear hown' hgrow' c0 c1 c2 c3 HNW HN6 hbz;have c0:=aj (k:=0) HN7.out.box;have c1:=aj (k:=1) HN7.out.box;have c2:=aj (k:=2) HN7.out.box;have c3:=aj (k:=3) HN7.out.box;simp only[aW]at c0 c1 c2 c3;refine⟨⟨c0,c1,c2,c3⟩, ?_⟩;refine ag 15 rfl (by kernel_rfl) (by kernel_rfl) (by kernel_rfl) (fun _ _ _ h=>h) rfl (by go_simp) (by rintro w' ⟨hw1,hw2,hw3,hw4⟩; go_simp; rfl) ?_
   simp only[Act.put,aB,aC,aD];refine aS (by kernel_rfl) ?_;clear c0 c1 c2 c3;have hbz:=HN7.out.below.size
   by_cases hk1:it.kind=1
   ·have HIV:=ab (show vk++bN it=v4++(dB it.chunks.length::it.chunks.flatMap bm) by rw[my hk1,HV4.out,List.append_assoc]);have HFL:=ab (show ∀j,(eP v4 it.chunks j).length<=1000000 from fun j=>Nat.le_trans (xX v4 it.chunks j) (by rw[<-HIV.out]; exact HLE.out));obtain⟨_,_,hcv,hcc1,hcc2,-⟩:=aJ.shape HRF.out fE.len
    cases hcv
    unfold maxLen at hcc2;have e1:(it.kind == 1)=true:=by simpa using hk1
    clear hk1;have c0:=aj (k:=0) HN7.out.box;have c1:=aj (k:=1) HN7.out.box;have c2:=aj (k:=2) HN7.out.box;have c3:=aj (k:=3) HN7.out.box;have c4:=aj (k:=4) HN7.out.box;have c5:=aj (k:=5) HN7.out.box;have c6:=aj (k:=6) HN7.out.box;have c7:=aj (k:=7) HN7.out.box;have c8:=aj (k:=8) HN7.out.box;have c9:=aj (k:=9) HN7.out.box;simp only[aW]at c0 c1 c2 c3 c4 c5 c6 c7 c8 c9
    go_wp2_with (at_builtin; go_must (refine dz Tryz.appVals rfl _ _ rfl w.heap.size (.slice a7 v4.length c7') v4.length (v4.flatMap kI) rfl wc (kI (dB it.chunks.length)) _ rfl rfl (by have:=lp (l:=[dB it.chunks.length]); simpa using this) HN7.out.row (by omega) hbz ?_); intro v' wd hown' hgrow' _; have h8:=HN7.out.app (news:=[dB it.chunks.length]) (by simpa using hown') hgrow'; have HN8:=ab (show rD w wr.heap.size _ wd v' (eP v4 it.chunks 0)from h8); obtain⟨a8,c8',rfl,-,-⟩:=ak HN8.out.row; clear hown' hgrow' h8)
    clear c0 c1 c2 c3 c4 c5 c6 c7 c8 c9;obtain⟨wo,hwo⟩: ∃wo:World,wo=wr:=⟨_,rfl⟩;subst hwo
    go_loopw [3,6] (fun lv i wq=> ∃j:Nat,j<=it.chunks.length/\i= .int .i64 j/\rD w wo.heap.size #[.string it.name, .int .i64 it.kind, .int .i64 it.mode, .int .i64 it.time, .int .i64 it.size, .string it.link, .slice ca it.chunks.length cc, .string it.node.name, .int .i64 it.node.gen, .int .i64 it.node.size] wq lv (eP v4 it.chunks j)) (fun _ i _=>it.chunks.length-(intOf i).toNat)
    case atStart=>exact⟨0,Nat.zero_le _,rfl,HN8.out⟩
    case round=>
     obtain⟨j,hj,rfl,hnd⟩:=hrel;have HND:=ab hnd;have hfl:=HFL.out j;have hbq:=hnd.below.size;obtain⟨a9,c9',rfl,-,-⟩:=ak hnd.row;have c6:=aj (k:=6) hnd.box;simp only[aW]at c6;clear hnd HN8 HN7
     by_cases hlt2:j<it.chunks.length
     ·obtain⟨c,hc⟩: ∃c,it.chunks[j]? =some c:=⟨it.chunks[j],by simp[hlt2]⟩;have HRQ:=ab (show aV (fun k=>k<w.heap.size) wr (.slice ca it.chunks.length cc) it.chunks from aV.same HRF.out (fun k hk hS=>⟨hS,(HND.out.below.block k hS).trans (HB.out.block k hS).symm⟩));obtain⟨b2,o2,rfl,hcok,p0,p1,p2⟩:=eS HRQ.out (Below.refl _ _) hc;have HFS:=ab (tA (v4:=v4) hc)
      have HCN:=ab (HIS.out.ch c (List.mem_of_getElem? hc));clear hc hcok;go_wp2_with fail;refine(jf c _ HCN.out).mono ?_;rintro e w8 ⟨rv,rfl,hrv,hb8⟩;have HN9:=ab (HND.out.next hb8);have HRW:=ab (xt hrv);have hbz8:=HN9.out.below.size;obtain⟨ra,rc,rfl,-,-,-⟩:=aJ.shape hrv Cg.len;clear hrv hb8 p0 p1 p2 c6;go_wp2_with (at_builtin; go_must (refine bT Tryz.appVals rfl _ _ rfl w.heap.size (.slice a9 (eP v4 it.chunks j).length c9') (eP v4 it.chunks j).length ((eP v4 it.chunks j).flatMap kI) rfl HN9.out.row _ (bm c).length ((bm c).flatMap kI) rfl HRW.out lp (by simp only[bm,List.length_cons,List.length_nil]; omega) hbz8 ?_); intro v' we hown' hgrow'; have h8:=HN9.out.app (news:=bm c) hown' hgrow'; rw[<-HFS.out]at h8; have HNE:=ab h8; obtain⟨ae,ce,rfl,-,-⟩:=ak h8.row; clear hown' hgrow' h8)
      go_roundw
      case rel=>exact⟨j+1,by omega,by go_num,HNE.out⟩
      case measure=>simp[intOf]; omega
     ·obtain rfl:j=it.chunks.length:=by omega
      have HFE:=ab (show vk++bN it=eP v4 it.chunks it.chunks.length by rw[vj,HIV.out]);go_wp2_with fail
      go_roundw
      case rel=>exact⟨k+1,by omega,by go_num,by rw[HSN.out,HFE.out]; exact HND.out.row,HND.out.below⟩
      case measure=>simp[intOf]; omega
   ·by_cases hk2:it.kind=2
    ·have HIV:=ab (show vk++bN it=v4++bm it.node by rw[vw hk2,HV4.out,List.append_assoc]);have e1:(it.kind == 1)=false:=by simpa using hk1
     have e2:(it.kind == 2)=true:=by simpa using hk2
     clear hk1 hk2;have c0:=aj (k:=0) HN7.out.box;have c1:=aj (k:=1) HN7.out.box;have c2:=aj (k:=2) HN7.out.box;have c3:=aj (k:=3) HN7.out.box;have c4:=aj (k:=4) HN7.out.box;have c5:=aj (k:=5) HN7.out.box;have c6:=aj (k:=6) HN7.out.box;have c7:=aj (k:=7) HN7.out.box;have c8:=aj (k:=8) HN7.out.box;have c9:=aj (k:=9) HN7.out.box;simp only[aW]at c0 c1 c2 c3 c4 c5 c6 c7 c8 c9
     go_wp2_with fail;refine(jf it.node _ HIS.out.nd).mono ?_;rintro e w8 ⟨rv,rfl,hrv,hb8⟩;have HN8:=ab (HN7.out.next hb8);have HRW:=ab (xt hrv);have hbz8:=HN8.out.below.size;obtain⟨ra,rc,rfl,-,-,-⟩:=aJ.shape hrv Cg.len;clear hrv hb8 c0 c1 c2 c3 c4 c5 c6 c7 c8 c9;go_wp2_with (at_builtin; go_must (refine bT Tryz.appVals rfl _ _ rfl w.heap.size (.slice a7 v4.length c7') v4.length (v4.flatMap kI) rfl HN8.out.row _ (bm it.node).length ((bm it.node).flatMap kI) rfl HRW.out lp (by simp only[bm,List.length_cons,List.length_nil]; omega) hbz8 ?_); intro v' wd hown' hgrow'; have h8:=HN8.out.app (news:=bm it.node) hown' hgrow'; rw[<-HIV.out]at h8; obtain⟨v8,hv8⟩: ∃v8,v8=vk++bN it:=⟨_,rfl⟩; have HV8:=ab hv8; rw[<-hv8]at h8; have HN9:=ab h8; obtain⟨a8,c8',rfl,-,-⟩:=ak h8.row; clear hown' hgrow' h8 hv8)
     go_roundw
     case rel=>exact⟨k+1,by omega,by go_num,by rw[HSN.out,<-HV8.out]; exact HN9.out.row,HN9.out.below⟩
     case measure=>simp[intOf]; omega
    ·have HIV:=ab (show vk++bN it=v4++[gA it.link] by rw[tK hk1 hk2,HV4.out,List.append_assoc]);have e1:(it.kind == 1)=false:=by simpa using hk1
     have e2:(it.kind == 2)=false:=by simpa using hk2
     clear hk1 hk2;have c0:=aj (k:=0) HN7.out.box;have c1:=aj (k:=1) HN7.out.box;have c2:=aj (k:=2) HN7.out.box;have c3:=aj (k:=3) HN7.out.box;have c4:=aj (k:=4) HN7.out.box;have c5:=aj (k:=5) HN7.out.box;have c6:=aj (k:=6) HN7.out.box;have c7:=aj (k:=7) HN7.out.box;have c8:=aj (k:=8) HN7.out.box;have c9:=aj (k:=9) HN7.out.box;simp only[aW]at c0 c1 c2 c3 c4 c5 c6 c7 c8 c9
     go_wp2_with (at_builtin; go_must (refine dz Tryz.appVals rfl _ _ rfl w.heap.size (.slice a7 v4.length c7') v4.length (v4.flatMap kI) rfl wc (kI (gA it.link)) _ rfl rfl (by have:=lp (l:=[gA it.link]); simpa using this) HN7.out.row (by omega) hbz ?_); intro v' wd hown' hgrow' _; have h8:=HN7.out.app (news:=[gA it.link]) (by simpa using hown') hgrow'; rw[<-HIV.out]at h8; obtain⟨v8,hv8⟩: ∃v8,v8=vk++bN it:=⟨_,rfl⟩; have HV8:=ab hv8; rw[<-hv8]at h8; have HN8:=ab h8; obtain⟨a8,c8',rfl,-,-⟩:=ak h8.row; clear hown' hgrow' h8 hv8)
     go_roundw
     case rel=>exact⟨k+1,by omega,by go_num,by rw[HSN.out,<-HV8.out]; exact HN8.out.row,HN8.out.below⟩
     case measure=>simp[intOf]; omega
  ·obtain rfl:k=l.length:=by omega
   have HRS:=ab (show qg (fun _=>True) wr (.slice ao (eX l l.length).length co) (cz l) by
    have h1:=ba HO.out;have h2:=wu l;rw[h2]at h1 ⊢;exact⟨_,h1.weak (fun _ _=>trivial),sx (ue HS.out (by omega) HL.out)⟩)
   have HLL:=HL;go_wp2_with fail;refine(vh _ _ _ _ HRS.out HLL.out).mono ?_;rintro e w1 ⟨hb1,hres⟩;have HB1:=ab (ah HB.out hb1);have hz:=HB.out.size;clear hb1
   cases hen:pI (cz l)with
   | error x=>
    rw[hen]at hres;obtain⟨rfl,hx⟩:=hres;have HX:=ab (show oI l=[] by unfold oI; rw[hen]);clear hen hx;go_wp2_with fail;go_ret;exact⟨_,rfl,by rw[HX.out]; exact aO.nil _ _ _,HB1.out⟩
   | ok bs=>
    rw[hen]at hres;obtain⟨v,rfl,hv⟩:=hres;have HX:=ab (show oI l=bs by unfold oI; rw[hen]);have HVB:=ab hv;obtain⟨_,va,vc,rfl,hv1,hv2,-⟩:=hv;clear hen;go_wp2_with fail;go_ret;exact⟨_,rfl,by rw[HX.out]; exact HVB.out.weak (fun k hk=>Nat.le_trans hz hk),HB1.out⟩
end Go.Proofs.YtpffpjbkbaleiaaGreatDoor
namespace Go.Proofs.YtpffpjbkbaleiaaGreatDoor
open Go.RowKit
theorem pn {n:Nat} (h:n<256):(UInt8.ofNat n).toNat=n:=UInt8.toNat_ofNat_of_lt' (by exact h)
theorem qV : ∀(f n:Nat),n<2^(7*(f+1))-> ∃l c,dX f n=l++[c]/\(∀b∈l,128<=b.toNat)/\c.toNat<128
 | 0,n,h=>⟨[],UInt8.ofNat n,rfl,by simp,by
  rw[pn (by simp at h; omega)]; simpa using h⟩
 | f+1,n,h=>by
  rw[dX]
  by_cases hn:127<n
  ·rw[if_pos hn];obtain⟨l,c,h1,h2,h3⟩:=qV f (n/128) (by
    rw[show 7*(f+1+1)=7*(f+1)+7 by omega,Nat.pow_add]at h;exact Nat.div_lt_of_lt_mul (by omega))
   refine⟨UInt8.ofNat (n%128+128)::l,c,by rw[h1]; rfl,fun b hb=> ?_,h3⟩
   rcases List.mem_cons.1 hb with rfl | hb
   ·rw[pn (by omega)]; omega
   ·exact h2 b hb
  ·rw[if_neg hn];exact⟨[],UInt8.ofNat n,rfl,by simp,by rw[pn (by omega)]; omega⟩
theorem oK : ∀(f n j:Nat),1<=j->n<2^(7*j)->(dX f n).length<=j
 | 0,n,j,hj,_=>by simpa [dX]using hj
 | f+1,n,j,hj,h=>by
  rw[dX]
  by_cases hn:127<n
  ·rw[if_pos hn,List.length_cons];obtain⟨j,rfl⟩: ∃k,j=k+1:=⟨j-1,by omega⟩;have hj1:1<=j:=by
    rcases Nat.eq_zero_or_pos j with e | e
    ·subst e; simp at h; omega
    ·exact e
   have:=oK f (n/128) j hj1 (by
    rw[show 7*(j+1)=7*j+7 by omega,Nat.pow_add]at h;exact Nat.div_lt_of_lt_mul (by omega))
   omega
  ·rw[if_neg hn]; simpa using hj
theorem cU {n:Nat} (h:n<18446744073709551616):(au n).length<=10:=oK 10 n 10 (by decide) (Nat.lt_trans h (by decide))
theorem nU (n:Nat):1<=(au n).length:=by
 unfold au dX; split<;> simp
theorem xh {data:List UInt8} {off:Nat} {c:UInt8} (hc:c.toNat<128) (rest:List UInt8): ∀(q p:List UInt8) (f:Nat),data.drop off=(p++q++[c])++rest->(∀b∈q,128<=b.toNat)->
  au (lW (p++q++[c]))=p++q++[c]->q.length<f->pT data off f p.length= .ok (lW (p++q++[c]),off+(p++q++[c]).length)
 | [],p,f,hd,_,he,hf=>by
  obtain⟨f,rfl⟩: ∃g,f=g+1:=⟨f-1,by simp at hf; omega⟩;rw[List.append_nil]at hd he ⊢;have h1:data[off+p.length]? =some c:=by rw[<-List.getElem?_drop,hd]; simp
  have h2:(data.drop off).take (p.length+1)=p++[c]:=by rw[hd,List.take_left' (by simp)]
  rw[CL h1 (by omega) (by rw[h2]; exact he),h2,List.length_append,List.length_singleton,<-Nat.add_assoc]
 | b::q,p,f,hd,hq,he,hf=>by
  obtain⟨f,rfl⟩: ∃g,f=g+1:=⟨f-1,by simp at hf; omega⟩;have h1:data[off+p.length]? =some b:=by rw[<-List.getElem?_drop,hd]; simp
  rw[yB h1 (hq b (by simp))];have:=xh hc rest q (p++[b]) f (by rw[hd]; simp) (fun x hx=>hq x (by simp[hx])) (by simpa using he) (by simp at hf; omega);rw[List.length_append,List.length_singleton]at this;rw[this]; simp
theorem oM {data rest:List UInt8} {off n:Nat} (ho:off<=data.length) (hn:n<18446744073709551616) (h:data.drop off=au n++rest):gB data off= .ok (n,off+(au n).length):=by
 obtain⟨l,c,h1,h2,h3⟩:=qV 10 n (Nat.lt_trans hn (by decide));have hv:lW (au n)=n:=by
  unfold lW au;rw[pw 10 n (Nat.lt_trans hn (by decide)),Nat.mod_eq_of_lt hn]
 have hs:=cU hn;have he:au n=l++[c]:=h1;rw[AQ data off ho];have:=xh (data:=data) (off:=off) h3 rest l [] 10 (by rw[h,he]; simp) h2 (by rw[List.nil_append,<-he,hv]) (by rw[he]at hs; simp at hs; omega);rw[List.length_nil,List.nil_append,<-he,hv]at this;exact this
def Ok (data:List UInt8) (s:RS):Prop:=s.err=0/\s.off<=data.length
theorem xr {α:Type} {z x:α} {r:Except Int (α×Nat)} {s:RS} {o:Nat} (h:s.err=0) (hr:r= .ok (x,o)):rv z r s=(x,⟨o,s.off,0⟩):=by unfold rv; rw[if_pos h,hr]
theorem gq {data a rest:List UInt8} {off:Nat} (ho:off<=data.length) (h:data.drop off=a++rest):off+a.length<=data.length/\data.drop (off+a.length)=rest:=by
 have h1:=congrArg List.length h;rw[List.length_drop,List.length_append]at h1;refine⟨by omega, ?_⟩;rw[<-List.drop_drop,h,List.drop_left]
theorem pq {data rest:List UInt8} {s:RS} {n:Nat} (hs:Ok data s) (hn:n<18446744073709551616) (h:data.drop s.off=au n++rest): ∃s',mX data s=(n,s')/\Ok data s'/\data.drop s'.off=rest:=by
 have h1:=gq hs.2 h;exact⟨_,xr hs.1 (oM hs.2 hn h),⟨rfl,h1.1⟩,h1.2⟩
theorem Ae {data rest:List UInt8} {s:RS} {n most:Nat} (hs:Ok data s) (hn:n<18446744073709551616) (hm:n<=most) (h:data.drop s.off=au n++rest): ∃s',sI data most s=(n,s')/\Ok data s'/\data.drop s'.off=rest:=by
 have h1:=gq hs.2 h;refine⟨_,xr hs.1 (o:=s.off+(au n).length) ?_,⟨rfl,h1.1⟩,h1.2⟩;unfold fH;rw[oM hs.2 hn h];simp only;rw[if_neg (by omega)]
theorem uL {data a rest:List UInt8} {off:Nat} (ho:off<=data.length) (h:data.drop off=a++rest):dS data off a.length= .ok (a,off+a.length):=by
 have h1:=(gq ho h).1;unfold dS;rw[if_neg (by omega),h,List.take_left]
theorem DS {data a rest:List UInt8} {s:RS} (hs:Ok data s) (ha:a.length=32) (h:data.drop s.off=a++rest): ∃s',smP data s=(a,s')/\Ok data s'/\data.drop s'.off=rest:=by
 have h1:=gq hs.2 h;have h2:=uL hs.2 h;rw[ha]at h2 h1;exact⟨_,xr hs.1 h2,⟨rfl,h1.1⟩,h1.2⟩
theorem BF {data a rest:List UInt8} {s:RS} {most:Nat} (hs:Ok data s) (ha:a.length<=most) (hm:most<18446744073709551616) (h:data.drop s.off=au a.length++(a++rest)): ∃s',uM data most s=(a,s')/\Ok data s'/\data.drop s'.off=rest:=by
 have h1:=gq hs.2 h;have h3:=gq h1.1 h1.2;refine⟨_,xr hs.1 (o:=s.off+(au a.length).length+a.length) ?_,⟨rfl,h3.1⟩,h3.2⟩;unfold dM fH;rw[oM hs.2 (by omega) h];simp only;rw[if_neg (by omega)];simp only;exact uL h1.1 h1.2
def bQ (r:aN):List UInt8:=bl r.name++(au r.gen.toNat++au r.size.toNat)
theorem lx {n:Nat} (h:n<9223372036854775808):gC n=(n:Int):=by unfold gC wrap64; omega
theorem eV {r:aN} :dT r=true<->r.name.size=32/\0<=r.gen/\r.gen<=1099511627776/\0<=r.size/\r.size<=32768:=by unfold dT; simp[and_assoc]
theorem xp {data rest:List UInt8} {s:RS} {r:aN} (hs:Ok data s) (hr:dT r=true) (h:data.drop s.off=bQ r++rest): ∃s',ki data s=(r,s')/\Ok data s'/\data.drop s'.off=rest:=by
 obtain⟨h1,h2,h3,h4,h5⟩:=eV.1 hr;unfold bQ at h;rw[List.append_assoc,List.append_assoc]at h;obtain⟨s1,e1,o1,d1⟩:=DS hs (by rw[<-ay]; exact h1) h;obtain⟨s2,e2,o2,d2⟩:=pq o1 (by omega) d1;obtain⟨s3,e3,o3,d3⟩:=pq o2 (by omega) d2;refine⟨s3, ?_,o3,d3⟩;unfold ki;rw[e1];simp only;rw[e2];simp only;rw[e3,oG,lx (by omega),lx (by omega)]
 congr 1
 cases r
 simp only[aN.mk.injEq,true_and]at *;omega
theorem nL {data:List UInt8} : ∀(l pre:List aN) (rest:List UInt8) (s0 s:RS),cQ data s0 pre.length=(pre,s)->Ok data s->(∀r∈l,dT r=true)->data.drop s.off=l.flatMap bQ++rest->
  ∃s',cQ data s0 (pre.length+l.length)=(pre++l,s')/\Ok data s'/\data.drop s'.off=rest
 | [],pre,rest,s0,s,h,hs,_,hd=>⟨s,by simpa using h,hs,by simpa using hd⟩
 | r::l,pre,rest,s0,s,h,hs,hv,hd=>by
  rw[List.flatMap_cons,List.append_assoc]at hd;obtain⟨s1,e1,o1,d1⟩:=xp hs (hv r (by simp)) hd;have h1:=mj h e1;obtain⟨s2,e2,o2,d2⟩:=nL l (pre++[r]) rest s0 s1 (by simpa using h1) o1 (fun x hx=>hv x (by simp[hx])) d1;refine⟨s2, ?_,o2,d2⟩;rw[List.length_append,List.length_singleton]at e2;rw[List.length_cons,show pre.length+(l.length+1)=pre.length+1+l.length by omega,e2]
  simp
end Go.Proofs.YtpffpjbkbaleiaaGreatDoor
namespace Go.Proofs.YtpffpjbkbaleiaaGreatDoor
open Go.RowKit
theorem nM (l:List UInt8):dx l=(bh l && !l.contains 47):=by
 by_cases h:(47:UInt8)∈l
 ·have h1:l.contains 47=true:=by simpa using h
  have h2:dx l=false:=by unfold dx; rw[h1]; simp
  rw[h1,h2]; simp
 ·have h1:l.contains 47=false:=by simpa using h
  rw[h1];unfold bh;rw[dZ 47 l h]
  cases hc:dx l
  ·simp[hc]
  ·have h2:l.length<=64:=by
    unfold dx at hc;simp only[Bool.and_eq_true,decide_eq_true_eq]at hc;exact hc.1.1.1.1.2
   simp[hc]; omega
end Go.Proofs.YtpffpjbkbaleiaaGreatDoor
namespace Go.Proofs.YtpffpjbkbaleiaaGreatDoor
open Go.RowKit
def eD (it:aE):List UInt8:=
 if it.kind=1 then au it.chunks.length++it.chunks.flatMap bQ else if it.kind=2 then bQ it.node else au it.link.size++bl it.link
def bU (it:aE):List UInt8:=au it.name.size++(bl it.name++(au it.kind.toNat++(au it.mode.toNat++(au it.time.toNat++eD it))))
def bu (l:List aE):List UInt8:=au l.length++l.flatMap bU
theorem vg {r:aN} (h:dT r=true):34<=(bQ r).length:=by
 obtain⟨h1,_⟩:=eV.1 h;unfold bQ;rw[List.length_append,List.length_append,<-ay,h1];have:=nU r.gen.toNat
 have:=nU r.size.toNat
 omega
theorem mp : ∀ {l:List aN},(∀r∈l,dT r=true)->34*l.length<=(l.flatMap bQ).length
 | [],_=>by simp
 | r::l,h=>by
  have h1:=vg (h r (by simp));have h2:=mp (l:=l) (fun x hx=>h x (by simp[hx]));rw[List.flatMap_cons,List.length_append,List.length_cons]; omega
structure zJ (it : aE) : Prop where
 val:bh (bl it.name)=true
 nos:(bl it.name).contains 47=false
 md0:0<=it.mode
 md1:it.mode<=511
 tm0:0<=it.time
theorem jw {it:aE} :mK it=true<->zJ it:=by
 unfold mK
 constructor
 ·intro h;simp only[Bool.and_eq_true,decide_eq_true_eq,Bool.not_eq_true']at h;exact⟨h.1.1,h.1.2,h.2.1.1,h.2.1.2,h.2.2⟩
 ·intro h;simp only[Bool.and_eq_true,decide_eq_true_eq,Bool.not_eq_true'];exact⟨⟨h.val,h.nos⟩,⟨h.md0,h.md1⟩,h.tm0⟩
theorem fd {it:aE} (hk:it.kind=1) (h:bP it=true):it.link=⟨#[]⟩/\it.node=bC/\(∀c∈it.chunks,dT c=true/\1<=c.size)/\it.size=fj it.chunks/\it.size<=1048576:=by
 unfold bP at h;rw[if_pos hk]at h;unfold bW at h;simp only[Bool.and_eq_true,decide_eq_true_eq,List.all_eq_true]at h;refine⟨?_,h.1.2,fun c hc=> ?_,h.2.2.1,h.2.2.2⟩
 ·apply eM
  have:=h.1.1;rw[ay]at this;rw[List.eq_nil_of_length_eq_zero this]; rfl
 ·have:=h.2.1 c hc;unfold fl at this;simp only[Bool.and_eq_true,decide_eq_true_eq]at this;exact⟨this.1,by have:=this.2; omega⟩
theorem jk {it:aE} (hk:it.kind=2) (h:bP it=true):it.link=⟨#[]⟩/\it.size=0/\it.chunks=[]/\dT it.node=true:=by
 unfold bP at h;rw[if_neg (by omega),if_pos hk]at h;simp only[Bool.and_eq_true,decide_eq_true_eq]at h;refine⟨?_,h.1.1.2,List.eq_nil_of_length_eq_zero h.1.2,h.2⟩
 apply eM
 have:=h.1.1.1;rw[ay]at this;rw[List.eq_nil_of_length_eq_zero this]; rfl
theorem jR {it:aE} (hk:it.kind=3) (h:bP it=true):it.size=0/\it.chunks=[]/\it.node=bC/\1<=it.link.size/\it.link.size<=512/\(bl it.link).contains 0=false:=by
 unfold bP at h;rw[if_neg (by omega),if_neg (by omega),if_pos hk]at h;simp only[Bool.and_eq_true,decide_eq_true_eq,Bool.not_eq_true']at h;exact⟨h.1.1.1,List.eq_nil_of_length_eq_zero h.1.1.2,h.1.2,h.2.1.1,h.2.1.2,h.2.2⟩
theorem iq {it:aE} (h:bP it=true):it.kind=1\/it.kind=2\/it.kind=3:=by
 unfold bP at h
 by_cases h1:it.kind=1
 ·exact .inl h1
 ·by_cases h2:it.kind=2
  ·exact .inr (.inl h2)
  ·by_cases h3:it.kind=3
   ·exact .inr (.inr h3)
   ·rw[if_neg h1,if_neg h2,if_neg h3]at h; cases h
theorem jn {l:List UInt8} (h:bh l=true) (h2:l.contains 47=false):l.length<=64:=by
 have:=nM l;rw[h,h2]at this;unfold dx at this;simp only[Bool.not_false,Bool.and_self,Bool.and_eq_true,decide_eq_true_eq]at this;omega
theorem Aw {data rest:List UInt8} {s:RS} {it:aE} (hs:Ok data s) (hv:cr it=true) (ht:it.time<9223372036854775808) (hl:data.length<=32768) (h:data.drop s.off=bU it++rest):
  ∃s',gp data s=some (it,s')/\Ok data s'/\data.drop s'.off=rest:=by
 unfold cr at hv;rw[Bool.and_eq_true]at hv;have hh:=jw.1 hv.1;have hk:=iq hv.2;unfold bU at h;simp only[List.append_assoc]at h;rw[ay]at h;obtain⟨s2,e2,o2,d2⟩:=BF (most:=64) hs (jn hh.val hh.nos) (by decide) h;have b0:=hh.md0;have b1:=hh.md1;have b2:=hh.tm0;obtain⟨s3,e3,o3,d3⟩:=pq o2 (by omega) d2;obtain⟨s4,e4,o4,d4⟩:=pq o3 (by omega) d3
 obtain⟨s5,e5,o5,d5⟩:=pq o4 (by omega) d4;rw[ox e2 e3 e4 e5];have tk:gC it.kind.toNat=it.kind:=by rw[lx (by omega)]; omega
 have tm:gC it.mode.toNat=it.mode:=by rw[lx (by omega)]; omega
 have tt:gC it.time.toNat=it.time:=by rw[lx (by omega)]; omega
 rcases hk with hk | hk | hk
 ·obtain⟨f1,f2,f3,f4,_⟩:=fd hk hv.2;unfold eD at d5;rw[if_pos hk,List.append_assoc]at d5;have h6:=gq o5.2 d5;have h7:34*it.chunks.length<=(it.chunks.flatMap bQ).length:=mp (fun r hr=>(f3 r hr).1);have h8:=congrArg List.length h6.2;rw[List.length_drop,List.length_append]at h8;obtain⟨s6,e6,o6,d6⟩:=Ae (most:=963) o5 (by omega) (by omega) d5
  obtain⟨s7,e7,o7,d7⟩:=nL it.chunks [] rest s6 s6 rfl o6 (fun r hr=>(f3 r hr).1) d6;rw[List.length_nil,Nat.zero_add,List.nil_append]at e7;refine⟨s7, ?_,o7,d7⟩;rw[ov (by rw[tk]; exact hk) e6 e7,tk,tm,tt,oG,<-f4,<-f1,<-f2]
 ·obtain⟨f1,f2,f3,f4⟩:=jk hk hv.2;unfold eD at d5;rw[if_neg (by omega),if_pos hk]at d5;obtain⟨s6,e6,o6,d6⟩:=xp o5 f4 d5;refine⟨s6, ?_,o6,d6⟩;rw[qJ (by rw[tk]; exact hk) e6,tk,tm,tt,oG,<-f1,<-f3];rw[show(0:Int)=it.size from f2.symm]
 ·obtain⟨f1,f2,f3,f4,f5,_⟩:=jR hk hv.2;unfold eD at d5;rw[if_neg (by omega),if_neg (by omega),List.append_assoc,ay]at d5;obtain⟨s6,e6,o6,d6⟩:=BF (most:=512) o5 (by rw[<-ay]; omega) (by decide) d5;refine⟨s6, ?_,o6,d6⟩;rw[ow (by rw[tk]; exact hk) e6,tk,tm,tt,oG,oG,<-f3,<-f2];rw[show(0:Int)=it.size from f1.symm]
theorem pu : ∀ {l:List aE} {p:Option ByteArray},cB p l=true-> ∀it∈l,cr it=true
 | it::l,p,h,x,hx=>by
  rw[cB,Bool.and_eq_true,Bool.and_eq_true]at h
  rcases List.mem_cons.1 hx with rfl | hx
  ·exact h.1.1
  ·exact pu h.2 x hx
theorem gg {l:List aE} (h:cb l=true):l.length<=4096/\ ∀it∈l,cr it=true:=by
 unfold cb at h;rw[Bool.and_eq_true,decide_eq_true_eq]at h;exact⟨h.1,pu h.2⟩
theorem qN {data:List UInt8} (hl:data.length<=32768): ∀(l pre:List aE) (rest:List UInt8) (s0 s:RS),dO data s0 pre.length=some (pre,s)->Ok data s->(∀it∈l,cr it=true/\it.time<9223372036854775808)->data.drop s.off=l.flatMap bU++rest->
  ∃s',dO data s0 (pre.length+l.length)=some (pre++l,s')/\Ok data s'/\data.drop s'.off=rest
 | [],pre,rest,s0,s,h,hs,_,hd=>⟨s,by simpa using h,hs,by simpa using hd⟩
 | it::l,pre,rest,s0,s,h,hs,hv,hd=>by
  rw[List.flatMap_cons,List.append_assoc]at hd;obtain⟨s1,e1,o1,d1⟩:=Aw hs (hv it (by simp)).1 (hv it (by simp)).2 hl hd;have h1:=gL h e1;obtain⟨s2,e2,o2,d2⟩:=qN hl l (pre++[it]) rest s0 s1 (by simpa using h1) o1 (fun x hx=>hv x (by simp[hx])) d1;refine⟨s2, ?_,o2,d2⟩;rw[List.length_append,List.length_singleton]at e2;rw[List.length_cons,show pre.length+(l.length+1)=pre.length+1+l.length by omega,e2]
  simp
theorem AP {l:List aE} (hv:cb l=true) (ht: ∀it∈l,it.time<9223372036854775808) (hl:(bu l).length<=32768):cG (bu l)=some l:=by
 obtain⟨h1,h2⟩:=gg hv;have hs:Ok (bu l) ⟨0,0,0⟩:=⟨rfl,Nat.zero_le _⟩;obtain⟨s1,e1,o1,d1⟩:=Ae (rest:=l.flatMap bU) (most:=4096) (n:=l.length) hs (by omega) h1 rfl;obtain⟨s2,e2,o2,d2⟩:=qN hl l [] [] s1 s1 rfl o1 (fun it hi=>⟨h2 it hi,ht it hi⟩) (by simpa using d1);rw[List.length_nil,Nat.zero_add,List.nil_append]at e2;rw[mz (by omega) e1 e2]
 have h3:=congrArg List.length d2;rw[List.length_drop,List.length_nil]at h3;have h4:lE (bu l) s2=0:=by unfold lE; rw[if_pos o2.1,if_neg (by omega)]
 rw[if_pos ⟨h4,hv⟩]
end Go.Proofs.YtpffpjbkbaleiaaGreatDoor
namespace Go.Proofs.YtpffpjbkbaleiaaGreatDoor
open Go Go.RowKit
theorem Ek {x:Nat} (h:x<256):x ||| 128=x%128+128:=by
 have: ∀y:Fin 256,y.val ||| 128=y.val%128+128:=by decide
 exact this ⟨x,h⟩
theorem xO (n:Nat):Value.int .u8 (bits BinOp.or IntKind.u8 ((n:Int)%256) 128)=an (UInt8.ofNat (n%128+128)):=by
 rw[jS (by omega),show((n:Int)%256)=((n%256:Nat):Int) by omega,show(128:Int)=((128:Nat):Int)from rfl,u8_or_nat _ _ (by omega) (by decide),Ek (by omega)]
 congr 2
 omega
theorem xN {n:Nat} (h:n<256):Value.int .u8 (n:Int)=an (UInt8.ofNat n):=(jS h).symm
def ik (w:World) (base:Nat) (v:Value) (acc:List UInt8):Prop:=w.ownsRow base 5 1 v acc.length (acc.map an)
def Dt (base:Nat) (v:Value) (acc:List UInt8) (w:World) (e:Ending) (w':World):Prop:= ∃v',e= .returned v'/\ik w' base v' acc/\w.grownBy w' v.ownBlock/\(∀k,v'.ownBlock=some k->v.ownBlock=some k\/w.heap.size<=k)
structure Ca (base : Nat) (v : Value) (w : World) (x : Value) (ac : List UInt8) (wr : World) : Prop where
 own:ik wr base x ac
 grown:w.grownBy wr v.ownBlock
 place: ∀k,x.ownBlock=some k->v.ownBlock=some k\/w.heap.size<=k
theorem Ca.next {base:Nat} {v:Value} {w:World} {x:Value} {ac:List UInt8} {wr wc:World} {v' u:Value} {n:Nat} {b:UInt8} (h:Ca base v w x ac wr) (h1:wc.ownsRow base 5 1 v' (n+1) (ac.map an++[u])) (h2:wr.grownBy wc x.ownBlock) (h3: ∀k,v'.ownBlock=some k->x.ownBlock=some k\/wr.heap.size<=k)
  (hn:n=ac.length) (hu:u=an b):Ca base v w v' (ac++[b]) wc:=by
 subst hn hu;refine⟨by unfold ik; simpa using h1,⟨h2.os.trans h.grown.os,h2.tape.trans h.grown.tape,h2.output.trans h.grown.output,Nat.le_trans h.grown.size h2.size,fun k hk hne=> ?_⟩,fun k hk=> ?_⟩
 ·rw[h2.block k (Nat.lt_of_lt_of_le hk h.grown.size) (fun e=> ?_)]
  ·exact h.grown.block k hk hne
  ·rcases h.place k e.symm with e2 | e2
   ·exact hne e2.symm
   ·omega
 ·rcases h3 k hk with e | e
  ·exact h.place k e
  ·exact .inr (Nat.le_trans h.grown.size e)
theorem ky (base:Nat) (v:Value) (acc:List UInt8) (n:Nat) (w:World) (hv:ik w base v acc) (hb:base<=w.heap.size) (hl:acc.length<1099511000000) (hn:n<18446744073709551616):
  Calls Tryz.prog 100 #[v, .int .u64 (n:Int)] w (Dt base v (acc++au n) w):=by
 have HV:=ab hv;obtain⟨a0,c0,rfl,h10,h20⟩:=ak hv;clear hv
 go_enter Tryz.func100,Tryz.ntmps100
 go_wp2_with fail
 go_loopw [0,1] (fun x y wr=> ∃(f m:Nat) (ac:List UInt8),y= .int .u64 (m:Int)/\m<18446744073709551616/\m<2^(7*f)/\ac++dX f m=acc++au n/\Ca base (.slice a0 acc.length c0) w x ac wr) (fun _ y _=>(intOf y).toNat)
 case atStart=>exact⟨10,n,acc,rfl,hn,Nat.lt_trans hn (by decide),rfl,HV.out,iO _ _,fun k hk=> .inl hk⟩
 case round=>
  obtain⟨f,m,ac,rfl,hm,hmf,henc,hinv⟩:=hrel;obtain⟨ax,cx,rfl,h1,h2⟩:=ak hinv.own;obtain⟨xl,hxl⟩: ∃xl,xl=ac.length:=⟨_,rfl⟩;rw[<-hxl]at hinv h1 ⊢;have HI:=ab hinv;have HXL:=ab hxl;have HO:=ab (show wr.ownsRow base 5 1 (.slice ax xl cx) xl (ac.map an) by have:=hinv.own; unfold ik at this; rw[<-hxl]at this; exact this);have HE:=ab henc;have HMF:=ab hmf
  have hbz:base<=wr.heap.size:=by have:=hinv.grown.size; omega
  have hlen:=congrArg List.length henc;rw[List.length_append,List.length_append]at hlen;have:=aX n;have hxb:xl<1099511627775:=by omega
  clear hinv henc hmf hlen this hxl
  by_cases hlt:127<m
  ·have HV:=ab (xO m);have HZ:=ab (show ∀u∈[(Value.int .u8 (bits BinOp.or IntKind.u8 ((m:Int)%256) 128))],u.oneCell'=true by simp[Value.oneCell']);obtain⟨f,rfl⟩: ∃g,f=g+1:=⟨f-1,by
    cases f with
    | zero=>have:=HMF.out; simp at this; omega
    | succ g=>rfl⟩
   have HE2:=ab (show(ac++[UInt8.ofNat (m%128+128)])++dX f (m/128)=acc++au n by rw[<-HE.out,dX,if_pos hlt]; simp);have HMF2:=ab (show m/128<2^(7*f) by
    have h3:=HMF.out;rw[show 7*(f+1)=7*f+7 by omega,Nat.pow_add]at h3;exact Nat.div_lt_of_lt_mul (by omega))
   go_wp2_with (at_builtin; go_loud (refine aP Tryz.appBytes rfl _ _ rfl base (.slice ax xl cx) xl (ac.map an) rfl wr [Value.int .u8 (bits BinOp.or IntKind.u8 ((m:Int)%256) 128)] _ rfl rfl HZ.out HO.out hxb hbz ?_); intro v' wc hown' hgrow' _ hpl'; go_loud (have HP:=ab (HI.out.next hown' hgrow' hpl' HXL.out HV.out)); obtain⟨ae,ce,rfl,-,-⟩:=ak hown'; clear hown' hgrow' hpl')
   go_roundw
   case rel=>exact⟨f,m/128,_,by simp,by omega,HMF2.out,HE2.out,HP.out⟩
   case measure=>simp[intOf]; omega
  ·have HV:=ab (xN (n:=m) (by omega));have HZ:=ab (show ∀u∈[(Value.int .u8 (m:Int))],u.oneCell'=true by simp[Value.oneCell']);have HE2:=ab (show ac++[UInt8.ofNat m]=acc++au n by
    rw[<-HE.out]
    cases f with
    | zero=>rfl
    | succ f=>rw[dX,if_neg hlt])
   go_wp2_with (at_builtin; go_loud (refine aP Tryz.appBytes rfl _ _ rfl base (.slice ax xl cx) xl (ac.map an) rfl wr [Value.int .u8 (m:Int)] _ rfl rfl HZ.out HO.out hxb hbz ?_); intro v' wc hown' hgrow' _ hpl'; go_loud (have HP:=ab (HI.out.next hown' hgrow' hpl' HXL.out HV.out)); obtain⟨ae,ce,rfl,-,-⟩:=ak hown'; clear hown' hgrow' hpl');go_ret;rw[<-HE2.out];exact⟨_,rfl,HP.out.own,HP.out.grown,HP.out.place⟩
theorem nC (n:Nat) (w:World) (hn:n<18446744073709551616):
  Calls Tryz.prog 176 #[.slice none 0 0, .int .u64 (n:Int)] w fun e w'=> ∃v,e= .returned v/\ik w' w.heap.size v (au n)/\Below w.heap.size w w':=by
 obtain⟨ht9,⟨i9,z9,h91,h92,h93,h94,h95⟩,-,-⟩:=Tryz.appBytes;have hb32:i9.bytes*10<=281474976710656:=by rw[h94]; decide
 have H9:=ab (And.intro h91 (And.intro h92 (And.intro h93 hb32)));clear h91 h92 h93 h94 h95 hb32
 go_enter Tryz.func176,Tryz.ntmps176
 go_wp2_with (first | (refine wpList_make_own _ rfl _ _ 29 rfl w.heap.size 5 i9 z9 1 Tryz.underlying29 H9.out.1 H9.out.2.1 H9.out.2.2.1 .i64 .i64 10 10 rfl rfl rfl H9.out.2.2.2 (by decide) (Nat.le_refl _) ?_; intro w4 hown4 hg4; have HO4:=ab hown4; have HG4:=ab hg4; clear hown4 hg4));refine(ky w.heap.size _ [] n w4 HO4.out HG4.out.size (by simp) hn).mono ?_;rintro e w5 ⟨v',rfl,ho5,hg5,-⟩
 rw[List.nil_append]at ho5;have HO5:=ab ho5;have HB5:=ab ((ep HG4.out).grown hg5 HG4.out.size (fun k hk=>by cases hk; exact Nat.le_refl _));obtain⟨a5,c5,rfl,-,-⟩:=ak ho5;clear ho5 hg5;go_wp2_with fail;go_ret;exact⟨_,rfl,HO5.out,HB5.out⟩
end Go.Proofs.YtpffpjbkbaleiaaGreatDoor
namespace Go.Proofs.YtpffpjbkbaleiaaGreatDoor
open Go Go.RowKit
structure bF where
 nm:ByteArray
 st:ByteArray
 ck:ByteArray
 ix:ByteArray
 tk:ByteArray
def bF.list (k:bF):List ByteArray:=[k.nm,k.st,k.ck,k.ix,k.tk]
def cY (k:bF):List Value:=[.string k.nm, .string k.st, .string k.ck, .string k.ix, .string k.tk]
def iy (k:bF):Value:= .agg #[.string k.nm, .string k.st, .string k.ck, .string k.ix, .string k.tk]
def fC (k:bF):Bool:=k.list.all fun s=>decide (s.size=32)
theorem yi (k:bF) {j:Nat} (h:j<5): ∃s,k.list[j]? =some s/\(cY k)[j]? =some (.string s):=by
 have hc:j=0\/j=1\/j=2\/j=3\/j=4:=by omega
 rcases hc with rfl | rfl | rfl | rfl | rfl
 ·exact⟨_,rfl,rfl⟩
 ·exact⟨_,rfl,rfl⟩
 ·exact⟨_,rfl,rfl⟩
 ·exact⟨_,rfl,rfl⟩
 ·exact⟨_,rfl,rfl⟩
theorem pZ (k:bF) (w:World):Calls Tryz.prog 115 #[iy k] w fun e w'=>e= .returned (.bool (fC k))/\Below w.heap.size w w':=by
 unfold iy
 go_enter Tryz.func115,Tryz.ntmps115
 go_wp2_with fail;obtain⟨W1,hW1⟩: ∃W1,W1=(w.alloc (.cells #[.string k.nm, .string k.st, .string k.ck, .string k.ix, .string k.tk] 42)).alloc (.cells #[.string k.nm, .string k.st, .string k.ck, .string k.ix, .string k.tk] 9):=⟨_,rfl⟩;rw[<-hW1];have HB1:=ab (show Below w.heap.size w W1 by rw[hW1]; exact((Below.refl _ _).alloc (Nat.le_refl _) _).alloc (by simp) _);have HX1:=ab (show W1.heap[w.heap.size+1]? =some (.cells (cY k).toArray 9 (0,0)) by
  rw[hW1];have:=heap_alloc_new (w.alloc (.cells #[.string k.nm, .string k.st, .string k.ck, .string k.ix, .string k.tk] 42)) (.cells #[.string k.nm, .string k.st, .string k.ck, .string k.ix, .string k.tk] 9);rw[show(w.alloc (.cells #[.string k.nm, .string k.st, .string k.ck, .string k.ix, .string k.tk] 42)).heap.size=w.heap.size+1 by simp]at this;exact this)
 clear hW1
 go_loopw [17] (fun i wr=> ∃j:Nat,j<=5/\i= .int .i64 (j:Int)/\wr=W1/\(k.list.take j).all (fun s=>decide (s.size=32))=true) (fun i _=>5-(intOf i).toNat)
 case atStart=>exact⟨0,by omega,rfl,rfl,rfl⟩
 case round=>
  obtain⟨j,hj,rfl,rfl,hall⟩:=hrel;have HA:=ab hall;clear hall
  by_cases h5:j<5
  ·obtain⟨s,hs1,hs2⟩:=yi k h5;have c0:wr.cell? ⟨w.heap.size+1,j,none⟩=some (.string s):=by rw[cell_of_row wr _ _ _ _ _ HX1.out,List.getElem?_toArray]; exact hs2
   have hji:(j:Int)<5:=by omega
   have HS:=ab hs1;clear hs1 hs2
   by_cases h32:s.size=32
   ·have h32i:(s.size:Int)=32:=by omega
    go_wp2_with fail
    go_roundw
    case rel=>exact⟨j+1,by omega,by simp,trivial,by rw[List.take_add_one,HS.out,List.all_append,HA.out]; simp[h32]⟩
    case measure=>simp[intOf]; omega
   ·have h32i: ¬(s.size:Int)=32:=by omega
    go_wp2_with fail;go_ret;have hf:fC k=false:=by
     unfold fC;rw[List.all_eq_false];exact⟨s,List.mem_of_getElem? HS.out,by simpa using h32⟩
    rw[hf];exact⟨rfl,HB1.out⟩
  ·obtain rfl:j=5:=by omega
   go_wp2_with fail;go_ret;have hf:fC k=true:=HA.out;rw[hf];exact⟨rfl,HB1.out⟩
theorem iX (k:bF) (b:Bool) (w:World) (h:fC k=b):Calls Tryz.prog 115 #[iy k] w fun e w'=>e= .returned (.bool b)/\Below w.heap.size w w':=by rw[<-h]; exact pZ k w
theorem ro {k:bF} (h:fC k=true):k.nm.size=32/\k.st.size=32/\k.ck.size=32/\k.ix.size=32/\k.tk.size=32:=by
 unfold fC bF.list at h;simp only[List.all_cons,List.all_nil,Bool.and_true,Bool.and_eq_true,decide_eq_true_eq]at h;exact h
def ld (k:bF) (g:Nat) (c:List UInt8):ByteArray:=⟨(uH (bl k.nm) (au g++c)).toArray⟩
theorem kE (k:bF) (g:Nat) (c:List UInt8):(ld k g c).size=32:=by unfold ld; rw[ay,eN,uI]
theorem lq (S:Nat->Prop) (k:bF) (g:Nat) (c:List UInt8) (cv:Value) (w:World) (hk:fC k=true) (hg:g<=1099511627776) (hc:aF S w cv c) (hl:c.length<=32768) (hE:rA w):
  Calls Tryz.prog 156 #[iy k, .int .i64 (g:Int),cv] w fun e w'=>e= .returned (.tuple #[.string (ld k g c), .int .i64 0])/\Below w.heap.size w w':=by
 have HK:=ab hk;have HC:=ab hc;have HE:=ab hE;obtain⟨_,a,cap,rfl,hcap,hcm,-⟩:=id hc;obtain⟨cl,hcl⟩: ∃cl,cl=c.length:=⟨_,rfl⟩;rw[<-hcl]at hl HC ⊢;have HCL:=ab hcl;clear hk hc hE hcl hcap hcm;unfold iy
 go_enter Tryz.func156,Tryz.ntmps156
 go_wp2_with fail;obtain⟨W1,hW1⟩: ∃W1,W1=w.alloc (.cells #[.string k.nm, .string k.st, .string k.ck, .string k.ix, .string k.tk] 42):=⟨_,rfl⟩;rw[<-hW1];have HB1:=ab (show Below w.heap.size w W1 by rw[hW1]; exact(Below.refl _ _).alloc (Nat.le_refl _) _);have HX1:=ab (show W1.heap[w.heap.size]? =some (.cells (cY k).toArray 42 (0,0)) by rw[hW1]; exact heap_alloc_new w _);clear hW1
 refine(iX k true W1 HK.out).mono ?_;rintro e w1 ⟨rfl,hb1⟩;have HB2:=ab (ah HB1.out hb1);have HX2:=ab ((hb1.block _ (lt_of_block HX1.out)).trans HX1.out);clear hb1;go_wp2_with fail;refine bX (fun w'=>w'.cell? ⟨w.heap.size,0,none⟩=some (.string k.nm)) (by kernel_rfl) ?_;obtain⟨V,hV⟩: ∃V:World,V=w1.drew:=⟨_,rfl⟩;rw[<-hV];have HBV:=ab (show Below w.heap.size w V by rw[hV]; exact HB2.out.trans ((Below.refl _ _).drew))
 have HXV:=ab (show V.heap[w.heap.size]? =some (.cells (cY k).toArray 42 (0,0)) by rw[hV]; exact HX2.out);clear hV;have hSV:V.cell? ⟨w.heap.size,0,none⟩=some (.string k.nm):=(cell_of_row V _ _ _ _ _ HXV.out).trans rfl;refine ag 0 rfl (by kernel_rfl) (by kernel_rfl) (by kernel_rfl) (fun _ _ _ h=>h) rfl hSV (by intro w' hw1; go_simp; rfl) ?_;simp only[Act.put,aB,aC,aD]
 refine ag 1 rfl (by kernel_rfl) (by kernel_rfl) (by kernel_rfl) (fun _ _ _ h=>h) rfl hSV (by intro w' hw1; go_simp; rfl) ?_;simp only[Act.put,aB,aC,aD];refine ag 2 rfl (by kernel_rfl) (by kernel_rfl) (by kernel_rfl) (fun _ _ _ h=>h) rfl hSV (by intro w' hw1; go_simp; rfl) ?_;simp only[Act.put,aB,aC,aD];refine ag 3 rfl (by kernel_rfl) (by kernel_rfl) (by kernel_rfl) (fun _ _ _ h=>h) rfl hSV (by intro w' hw1; go_simp; rfl) ?_
 simp only[Act.put,aB,aC,aD];refine ag 5 rfl (by kernel_rfl) (by kernel_rfl) (by kernel_rfl) (fun _ _ _ h=>h) rfl hSV (by intro w' hw1; go_simp; rfl) ?_;simp only[Act.put,aB,aC,aD];refine ar 4 rfl (by kernel_rfl) rfl (fun K hK=> ?_);go_wp2_with fail;refine(nC g V (by omega)).mono ?_;rintro e w3 ⟨v3,rfl,ho3,hb3⟩;obtain⟨a3,c3,rfl,-,-⟩:=ak ho3
 have HB3:=ab (ah HBV.out hb3);have hS3:w3.cell? ⟨w.heap.size,0,none⟩=some (.string k.nm):=(hb3.cell (p:=⟨w.heap.size,0,none⟩) (lt_of_block HXV.out)).trans hSV;have hVs:=HBV.out.size;have HO3:=ab ho3;have HLN:=ab (cU (n:=g) (by omega));have hbase:=hb3.size;clear ho3 hb3 hSV;go_wp2_with fail;refine⟨hS3, ?_⟩;refine ar 6 rfl (by kernel_rfl) rfl (fun K hK=> ?_)
 have HCB:=ab (show aF S w3 (.slice a cl cap) c from aO.below HC.out (by omega) HB3.out);have hnl:(au g).length+cl<1099511627775:=by have:=HLN.out; omega
 have HRW:=ab (show aO S w3 1 (.slice a cl cap) cl (c.map an) by have h9:=HCB.out; unfold aF at h9; rw[<-HCL.out]at h9; exact h9);go_wp2_with (at_builtin; go_loud (refine bT Tryz.appBytes rfl _ _ rfl V.heap.size (.slice a3 (au g).length c3) (au g).length ((au g).map an) rfl HO3.out (.slice a cl cap) cl (c.map an) rfl HRW.out (cD c) hnl hbase ?_); intro v' wc hown' hgrow'; have HO4:=ab hown'; have HG4:=ab hgrow'; obtain⟨a4,c4,rfl,-,-⟩:=ak hown'; clear hown' hgrow')
 have HB4:=ab (show Below w.heap.size w wc from bg HB3.out HO3.out HG4.out hVs HB3.out.size);have hS4:wc.cell? ⟨w.heap.size,0,none⟩=some (.string k.nm):=by
  rw[<-hS3];exact World.cell?_of_block (HG4.out.block w.heap.size (by have:=lt_of_block HXV.out; omega) (fun e=>by have h1:=(HO3.out.lt _ e.symm).1; have:=lt_of_block HXV.out; omega))
 have HBY:=ab (show aF (fun _=>True) wc (.slice a4 ((au g).length+cl) c4) (au g++c) by
  have h9:=ba HO4.out;rw[<-List.map_append]at h9;unfold aF;rw[List.length_append,<-HCL.out];exact h9.weak (fun _ _=>trivial))
 have hml:(au g++c).length<281474976710656:=by rw[List.length_append,<-HCL.out]; have:=HLN.out; omega
 clear hS3;refine⟨hS4, ?_⟩;refine ar 7 rfl (by kernel_rfl) rfl (fun K hK=> ?_);have hnm:=(ro HK.out).1;go_wp2_with fail;refine(mw (fun _=>True) k.nm (au g++c) _ wc (by rw[hnm]; decide) HBY.out hml (HE.out.below HB4.out)).mono ?_;rintro e w5 ⟨rfl,hb5⟩;have HB5:=ab (ah HB4.out hb5);have hS5:w5.cell? ⟨w.heap.size,0,none⟩=some (.string k.nm):=(hb5.cell (p:=⟨w.heap.size,0,none⟩) (block_lt_of_cell hS4)).trans hS4
 clear hb5 hS4;go_wp2_with fail;refine⟨hS5, ?_⟩;refine ag 8 rfl (by kernel_rfl) (by kernel_rfl) (by kernel_rfl) (fun _ _ _ h=>h) rfl hS5 (by intro w' hw1; go_simp; rfl) ?_;simp only[Act.put,aB,aC,aD];refine ag 9 rfl (by kernel_rfl) (by kernel_rfl) (by kernel_rfl) (fun _ _ _ h=>h) rfl hS5 (by intro w' hw1; go_simp; rfl) ?_;simp only[Act.put,aB,aC,aD];refine aS (by kernel_rfl) ?_
 go_wp2_with fail
 go_ret2
 exact⟨rfl,HB5.out⟩
theorem pY (k:bF) (w:World) (hE:rA w):Calls Tryz.prog 69 #[iy k, .slice none 0 0] w fun e w'=>(∃v,e= .returned (.tuple #[v, .int .i64 (if fC k=true then 0 else 1)]))/\Below w.heap.size w w':=by
 have HE:=ab hE;clear hE;unfold iy
 by_cases hk:fC k=true
 ·rw[if_pos hk];have HK:=ab hk;clear hk
  go_enter Tryz.func69,Tryz.ntmps69
  go_wp2_with fail;obtain⟨W1,hW1⟩: ∃W1,W1=w.alloc (.cells #[.string k.nm, .string k.st, .string k.ck, .string k.ix, .string k.tk] 42):=⟨_,rfl⟩;rw[<-hW1];have HB1:=ab (show Below w.heap.size w W1 by rw[hW1]; exact(Below.refl _ _).alloc (Nat.le_refl _) _);have HX1:=ab (show W1.heap[w.heap.size]? =some (.cells (cY k).toArray 42 (0,0)) by rw[hW1]; exact heap_alloc_new w _);clear hW1
  refine(iX k true W1 HK.out).mono ?_;rintro e w1 ⟨rfl,hb1⟩;have HB2:=ab (ah HB1.out hb1);have HX2:=ab ((hb1.block _ (lt_of_block HX1.out)).trans HX1.out);have c2:w1.cell? ⟨w.heap.size,2,none⟩=some (.string k.ck):=(cell_of_row w1 _ _ _ _ _ HX2.out).trans rfl;have hck:=(ro HK.out).2.2.1;clear hb1;go_wp2_with fail;refine(mw (fun _=>True) k.ck [] _ w1 (by rw[hck]; decide) (aO.nil _ _ _) (by decide) (HE.out.below HB2.out)).mono ?_
  rintro e w2 ⟨rfl,hb2⟩;have HB3:=ab (ah HB2.out hb2);obtain⟨t,ht⟩: ∃t:ByteArray,t=⟨(uH (bl k.ck) []).toArray⟩:=⟨_,rfl⟩;have htz:t.size=32:=by rw[ht,ay,eN,uI]
  rw[<-ht];obtain⟨W3,cp,hcv,-,hbw,-⟩:=qt (t.extract 0 16) w2 (by have:=Lib.extract_data t 0 16; rw[ByteArray.size_extract]; unfold maxLen; omega);have HB4:=ab (ah HB3.out hbw);clear hb2 ht hbw c2;go_wp2_with fail
  go_ret2
  exact⟨⟨_,rfl⟩,HB4.out⟩
 ·rw[if_neg hk];have HK:=ab (show fC k=false by simpa using hk);clear hk
  go_enter Tryz.func69,Tryz.ntmps69
  go_wp2_with fail;obtain⟨W1,hW1⟩: ∃W1,W1=w.alloc (.cells #[.string k.nm, .string k.st, .string k.ck, .string k.ix, .string k.tk] 42):=⟨_,rfl⟩;rw[<-hW1];have HB1:=ab (show Below w.heap.size w W1 by rw[hW1]; exact(Below.refl _ _).alloc (Nat.le_refl _) _);have HX1:=ab (show W1.heap[w.heap.size]? =some (.cells (cY k).toArray 42 (0,0)) by rw[hW1]; exact heap_alloc_new w _);clear hW1
  refine(iX k false W1 HK.out).mono ?_;rintro e w1 ⟨rfl,hb1⟩;have HB2:=ab (ah HB1.out hb1);clear hb1;go_wp2_with fail
  go_ret2
  exact⟨⟨_,rfl⟩,HB2.out⟩
end Go.Proofs.YtpffpjbkbaleiaaGreatDoor
namespace Go.Proofs.YtpffpjbkbaleiaaGreatDoor
def dI (x k:Nat):Nat:=(x*2^k%18446744073709551616) ||| (x/2^(64-k))
def mV :Nat->Nat->Nat
 | 0,x=>x
 | n+1,x=>dI (mV n x) 1
theorem fh {x k:Nat} (_hk:k<=64) (i:Nat):(dI x k).testBit i=((decide (i<64) && decide (k<=i) && x.testBit (i-k)) || x.testBit (64-k+i)):=by
 unfold dI;rw[Nat.testBit_or,show(18446744073709551616:Nat)=2^64 from rfl,Nat.testBit_mod_two_pow,Nat.testBit_mul_two_pow,Nat.testBit_div_two_pow,Nat.add_comm i (64-k),Bool.and_assoc]
theorem gj {x:Nat} (hx:x<18446744073709551616) {i:Nat} (h:64<=i):x.testBit i=false:=
 Nat.testBit_lt_two_pow (Nat.lt_of_lt_of_le hx (Nat.pow_le_pow_right (by decide) h:2^64<=2^i))
theorem iC {x:Nat} (k:Nat) (hx:x<18446744073709551616):dI x k<18446744073709551616:=
 Nat.or_lt_two_pow (n:=64) (Nat.mod_lt _ (by decide)) (Nat.lt_of_le_of_lt (Nat.div_le_self _ _) hx)
theorem xq : ∀(n:Nat) {x:Nat},x<18446744073709551616->mV n x<18446744073709551616
 | 0,_,h=>h
 | n+1,_,h=>iC 1 (xq n h)
theorem oW {x:Nat} (hx:x<18446744073709551616):dI x 0=x:=by
 unfold dI;rw[show(2:Nat)^(64-0)=18446744073709551616 by decide,Nat.div_eq_of_lt hx,Nat.or_zero,Nat.pow_zero,Nat.mul_one,Nat.mod_eq_of_lt hx]
theorem vW {x k:Nat} (hx:x<18446744073709551616) (hk:k<64):dI (dI x k) 1=dI x (k+1):=by
 apply Nat.eq_of_testBit_eq
 intro i;rw[fh (by decide),fh (by omega),fh (by omega),fh (by omega)]
 by_cases h64:i<64
 ·by_cases h0:i=0
  ·subst h0;have e1:x.testBit (64-k+(64-1+0))=false:=gj hx (by omega);have e2:64-1+0-k=64-(k+1)+0:=by omega
   have e3:x.testBit (64-0+0-k+64)=false:=gj hx (by omega);simp only[e1,e2];simp;omega
  ·have e1:x.testBit (64-k+(64-1+i))=false:=gj hx (by omega);have e2:(64-1+i<64)=False:=by simp; omega
   have e3:i-1-k=i-(k+1):=by omega
   have e4:64-k+(i-1)=64-(k+1)+i:=by omega
   have e5:(decide (k<=i-1))=decide (k+1<=i):=by rw[decide_eq_decide]; omega
   have e6:decide (1<=i)=true:=by simp; omega
   have e7:decide (i-1<64)=true:=by simp; omega
   have e8:decide (i<64)=true:=by simp; omega
   have e9:decide (64-1+i<64)=false:=by simp; omega
   simp only[e1,e3,e4,e5,e6,e7,e8,e9,Bool.true_and,Bool.false_and,Bool.or_false]
 ·have e1:x.testBit (64-k+(64-1+i))=false:=gj hx (by omega);have e2:x.testBit (64-(k+1)+i)=false:=gj hx (by omega);have e8:decide (i<64)=false:=by simp; omega
  have e9:decide (64-1+i<64)=false:=by simp; omega
  simp only[e1,e2,e8,e9,Bool.false_and,Bool.or_false]
theorem ns {x:Nat} (hx:x<18446744073709551616): ∀ {k:Nat},k<=64->mV k x=dI x k
 | 0,_=>(oW hx).symm
 | k+1,h=>by rw[mV,ns hx (k:=k) (by omega),vW hx (by omega)]
theorem yY {x:Nat} (hx:x<18446744073709551616):mV 64 x=x:=by
 rw[ns hx (by decide)];unfold dI;rw[show(2:Nat)^64=18446744073709551616 by decide,Nat.mul_mod_left,Nat.zero_or];simp
theorem CV {x y:Nat} (hx:x<18446744073709551616) (hy:y<18446744073709551616) {k:Nat} (hk:k<=64):dI (x^^^y) k=dI x k^^^dI y k:=by
 apply Nat.eq_of_testBit_eq
 intro i;rw[Nat.testBit_xor,fh hk,fh hk,fh hk,Nat.testBit_xor,Nat.testBit_xor]
 by_cases h:i<64/\k<=i
 ·have e:decide (i<64)=true/\decide (k<=i)=true:=by simpa using h
  rw[e.1,e.2,gj hx (i:=64-k+i) (by omega),gj hy (i:=64-k+i) (by omega)];simp
 ·have e:(decide (i<64) && decide (k<=i))=false:=by simp; omega
  rw[e]; simp
theorem lA {x y:Nat} (hx:x<18446744073709551616) (hy:y<18446744073709551616):x^^^y<18446744073709551616:=Nat.xor_lt_two_pow (n:=64) hx hy
def AC (z:Nat):Nat:=((z^^^(z/2^30))*13787848793156543929)%18446744073709551616
def AD (z:Nat):Nat:=((z^^^(z/2^27))*10723151780598845931)%18446744073709551616
def DM (z:Nat):Nat:=z^^^(z/2^31)
def uz (seed i:Nat):Nat:=(seed+(i+1)*11400714819323198485%18446744073709551616)%18446744073709551616
def rZ (seed i:Nat):Nat:=DM (AD (AC (uz seed i)))
theorem nr (seed i:Nat):rZ seed i<18446744073709551616:=by
 unfold rZ DM;have h:AD (AC (uz seed i))<18446744073709551616:=Nat.mod_lt _ (by decide);exact lA h (Nat.lt_of_le_of_lt (Nat.div_le_self _ _) h)
theorem tF {M:List UInt8->Prop} (h0:M []) (h1: ∀l b,M l->M (l++[b])) (l:List UInt8):M l:=by
 have: ∀r:List UInt8,M r.reverse:=by
  intro r
  induction r with
  | nil=>exact h0
  | cons b r ih=>rw[List.reverse_cons]; exact h1 _ _ ih
 have h:=this l.reverse;rw[List.reverse_reverse]at h; exact h
section
variable (T : Nat → Nat)
def et (l:List UInt8):Nat:=l.foldl (fun s b=>dI s 1^^^T b.toNat) 0
theorem go (l:List UInt8) (b:UInt8):et T (l++[b])=dI (et T l) 1^^^T b.toNat:=by
 unfold et; rw[List.foldl_append,List.foldl_cons,List.foldl_nil]
theorem qE :et T []=0:=rfl
theorem yd (x:UInt8):et T [x]=T x.toNat:=by
 unfold et; rw[List.foldl_cons,List.foldl_nil,show dI 0 1=0 by decide,Nat.zero_xor]
variable {T}
theorem tE (hT: ∀i,T i<18446744073709551616) (l:List UInt8):et T l<18446744073709551616:=by
 refine tF (M:=fun l=>et T l<18446744073709551616) ?_ (fun l b ih=> ?_) l
 ·show et T []<_
  rw[qE]; decide
 ·show et T (l++[b])<_
  rw[go]; exact lA (iC 1 ih) (hT _)
theorem vm (hT: ∀i,T i<18446744073709551616) (x:UInt8) (l:List UInt8):et T (x::l)=mV l.length (T x.toNat)^^^et T l:=by
 refine tF (M:=fun l=>et T (x::l)=mV l.length (T x.toNat)^^^et T l) ?_ (fun l b ih=> ?_) l
 ·show et T [x]=mV 0 (T x.toNat)^^^et T []
  rw[yd,qE,Nat.xor_zero,mV]
 ·show et T (x::(l++[b]))=mV (l++[b]).length (T x.toNat)^^^et T (l++[b])
  rw[<-List.cons_append,go,go,List.length_append,List.length_singleton,mV,ih,CV (xq _ (hT _)) (tE hT _) (by decide),Nat.xor_assoc]
theorem vn (hT: ∀i,T i<18446744073709551616) (x b:UInt8) (l:List UInt8) (h:l.length+1<=64):(dI (et T (x::l)) 1^^^T b.toNat)^^^dI (T x.toNat) (l.length+1)=et T (l++[b]):=by
 rw[<-go,List.cons_append,vm hT,List.length_append,List.length_singleton,<-ns (hT _) h,Nat.xor_comm (mV _ _),Nat.xor_assoc,Nat.xor_self,Nat.xor_zero]
end
def mu (seed:Nat) (l:List UInt8):Nat:=et (rZ seed) l
theorem tD (seed:Nat) (l:List UInt8):mu seed l<18446744073709551616:=tE (nr seed) l
def iF (W:Nat) (d:List UInt8):List UInt8:=d.drop (d.length-W)
theorem jN (W:Nat) (d:List UInt8):(iF W d).length=min W d.length:=by unfold iF; rw[List.length_drop]; omega
theorem rr {W:Nat} {d:List UInt8} (h:d.length<W) (b:UInt8):iF W (d++[b])=iF W d++[b]:=by
 unfold iF;rw[List.length_append,List.length_singleton,show d.length+1-W=0 by omega,show d.length-W=0 by omega]; rfl
theorem ru {W:Nat} {d:List UInt8} (hW:1<=W) (h:W<=d.length) (b:UInt8):iF W (d++[b])=(iF W d).tail++[b]:=by
 unfold iF;rw[List.length_append,List.length_singleton,List.tail_drop,List.drop_append_of_le_length (by omega)]
 congr 2; omega
def Dp (seed W bits:Nat) (d:List UInt8):Bool:=decide (W<=d.length) && decide (bits<=Lib.ctz 64 (mu seed (iF W d)))
end Go.Proofs.YtpffpjbkbaleiaaGreatDoor
namespace Go.Proofs.YtpffpjbkbaleiaaGreatDoor
section
variable (mk : Nat → Bool) (mn mx len : Nat)
def je :Nat->Int
 | 0=> -(mn:Int)
 | p+1=>if mk (p+1)then((p+1:Nat):Int)else je p
def oS :Nat->Bool
 | 0=>false
 | p+1=>mk (p+1) && decide ((mn:Int)<=((p+1:Nat):Int)-je mk mn p)
def fx (l:List Nat):Nat:=l.getLast?.getD 0
def gz (s q:Nat):Bool:=oS mk mn q || decide (s+mx<=q) || decide (len<=q)
def eo :Nat->List Nat
 | 0=>[]
 | p+1=>if gz mk mn mx len (fx (eo p)) (p+1)then eo p++[p+1]else eo p
def tz :List Nat:=eo mk mn mx len len
end
section
variable {mk : Nat → Bool} {mn mx len : Nat}
theorem fg (l:List Nat) (p:Nat):fx (l++[p])=p:=by simp[fx]
theorem vH (p:Nat):(je mk mn p= -(mn:Int)/\ ∀q,1<=q->q<=p->mk q=false)\/ ∃L,je mk mn p=((L:Nat):Int)/\1<=L/\L<=p/\mk L=true/\ ∀q,L<q->q<=p->mk q=false:=by
 induction p with
 | zero=>exact .inl ⟨rfl,fun q h1 h2=>by omega⟩
 | succ p ih=>
  rw[je]
  by_cases h:mk (p+1)=true
  ·rw[if_pos h];exact .inr ⟨p+1,rfl,by omega,by omega,h,fun q h1 h2=>by omega⟩
  ·rw[if_neg h];have h0:mk (p+1)=false:=by simpa using h
   rcases ih with⟨h1,h2⟩ | ⟨L,h1,h2,h3,h4,h5⟩
   ·exact .inl ⟨h1,fun q hq1 hq2=>by
     by_cases e:q=p+1
     ·rw[e]; exact h0
     ·exact h2 q hq1 (by omega)⟩
   ·exact .inr ⟨L,h1,h2,by omega,h4,fun q hq1 hq2=>by
     by_cases e:q=p+1
     ·rw[e]; exact h0
     ·exact h5 q hq1 (by omega)⟩
def Dx (mk:Nat->Bool) (mn mx len s q:Nat):Prop:=s<q/\q<=len/\gz mk mn mx len s q=true/\ ∀r,s<r->r<q->gz mk mn mx len s r=false
inductive zM (mk : Nat → Bool) (mn mx len : Nat) : List Nat → Nat → Prop
 | nil:zM mk mn mx len [] 0
 | snoc {l:List Nat} {s q:Nat} :zM mk mn mx len l s->Dx mk mn mx len s q->zM mk mn mx len (l++[q]) q
theorem zM.last {l:List Nat} {s:Nat} (h:zM mk mn mx len l s):fx l=s:=by
 cases h with
 | nil=>rfl
 | snoc _ _=>exact fg _ _
theorem zM.le {l:List Nat} {s:Nat} (h:zM mk mn mx len l s):s<=len:=by
 cases h with
 | nil=>omega
 | snoc _ h=>exact h.2.1
theorem oa : ∀ {p:Nat},p<=len-> ∃s,zM mk mn mx len (eo mk mn mx len p) s/\s<=p/\ ∀r,s<r->r<=p->gz mk mn mx len s r=false
 | 0,_=>⟨0, .nil,by omega,fun r h1 h2=>by omega⟩
 | p+1,hp=>by
  obtain⟨s,h1,h2,h3⟩:=oa (p:=p) (by omega);rw[eo,h1.last]
  by_cases h:gz mk mn mx len s (p+1)=true
  ·rw[if_pos h];exact⟨p+1,h1.snoc ⟨by omega,hp,h,fun r hr1 hr2=>h3 r hr1 (by omega)⟩,by omega,fun r hr1 hr2=>by omega⟩
  ·rw[if_neg h];exact⟨s,h1,by omega,fun r hr1 hr2=>by
    by_cases e:r=p+1
    ·rw[e]; simpa using h
    ·exact h3 r hr1 (by omega)⟩
theorem qB :zM mk mn mx len (tz mk mn mx len) len:=by
 obtain⟨s,h1,h2,h3⟩:=oa (mk:=mk) (mn:=mn) (mx:=mx) (len:=len) (Nat.le_refl len)
 by_cases e:s=len
 ·rw[e]at h1; exact h1
 ·have:=h3 len (by omega) (by omega);simp[gz]at this
theorem Dx.reach {s q:Nat} (hm:1<=mx) (h:Dx mk mn mx len s q):q<=s+mx:=by
 by_cases h1:s+mx<q
 ·have h2:=h.2.2.2 (s+mx) (by omega) h1;simp[gz]at h2
 ·omega
def fI (data:List UInt8) (s e:Nat):List UInt8:=(data.drop s).take (e-s)
def dY (data:List UInt8):Nat->List Nat->List (List UInt8)
 | _,[]=>[]
 | s,e::l=>fI data s e::dY data e l
theorem fU (data:List UInt8): ∀(l:List Nat) (s e:Nat),dY data s (l++[e])=dY data s l++[fI data (l.getLast?.getD s) e]
 | [],_,_=>rfl
 | x::l,s,e=>by
  rw[List.cons_append,dY,fU data l x e,dY,List.cons_append]
  congr 3
  rw[List.getLast?_cons]; rfl
theorem uj {data:List UInt8} {l:List Nat} {s:Nat} (h:zM mk mn mx data.length l s):(dY data 0 l).flatten=data.take s:=by
 induction h with
 | nil=>simp[dY]
 | snoc h1 h2 ih=>
  rename_i l s q;rw[fU,List.flatten_append,ih];have:=h1.last;unfold fx at this;rw[this,List.flatten_cons,List.flatten_nil,List.append_nil];unfold fI;have h3:=h2.1;rw[show q=s+(q-s) by omega,List.take_add,show s+(q-s)-s=q-s by omega]
theorem vR {data:List UInt8} :(dY data 0 (tz mk mn mx data.length)).flatten=data:=by
 rw[uj qB,List.take_length]
theorem yH {data:List UInt8} {l:List Nat} {s:Nat} (hm:1<=mx) (h:zM mk mn mx data.length l s): ∀c∈dY data 0 l,1<=c.length/\c.length<=mx:=by
 induction h with
 | nil=>simp[dY]
 | snoc h1 h2 ih=>
  rename_i l s q;rw[fU];intro c hc
  rcases List.mem_append.1 hc with hc | hc
  ·exact ih c hc
  ·rw[List.mem_singleton.1 hc];have:=h1.last;unfold fx at this;rw[this];unfold fI;rw[List.length_take,List.length_drop];have h3:=h2.reach hm;have h4:=h2.1;have h5:=h2.2.1;omega
end
end Go.Proofs.YtpffpjbkbaleiaaGreatDoor
namespace Go.Proofs.YtpffpjbkbaleiaaGreatDoor
open Go Go.RowKit
theorem yZ {x s:Nat} (hx:x<18446744073709551616):bits .or .u64 ((x:Int)*2^s%18446744073709551616) ((x:Int)/2^(64-s))=((dI x s:Nat):Int):=by
 have e1:((x:Int)*2^s%18446744073709551616)=((x*2^s%18446744073709551616:Nat):Int):=by simp
 have e2:((x:Int)/2^(64-s))=((x/2^(64-s):Nat):Int):=by simp
 rw[e1,e2,u64_or_nat _ _ (Nat.mod_lt _ (by decide)) (Nat.lt_of_le_of_lt (Nat.div_le_self _ _) hx)]
 rfl
theorem rg (x k:Nat) (w:World) (hx:x<18446744073709551616) (hk:k<=64):Calls Tryz.prog 211 #[.int .u64 (x:Int), .int .i64 (k:Int)] w fun e w'=>e= .returned (.int .u64 ((dI x k:Nat):Int))/\w=w':=by
 obtain⟨s,hs⟩: ∃s,s=k%64:=⟨_,rfl⟩;have h1:bits BinOp.and IntKind.u64 (k:Int) 63=(s:Int):=by
  rw[show(63:Int)=((63:Nat):Int)from rfl,u64_and_nat _ _ (by omega) (by decide),nat_mask6,hs]
 have hs64:s<64:=by omega
 have hmin:min s 64=s:=by omega
 have hmin2:min (64-s) 64=64-s:=by omega
 have HR:=ab (show dI x s=dI x k by
  by_cases h:k=64
  ·have e:s=0:=by rw[hs,h]
   rw[e,h,oW hx,<-ns hx (Nat.le_refl 64),yY hx]
  ·rw[show s=k by omega])
 clear hs
 go_enter Tryz.func211,Tryz.ntmps211
 go_wp2_with fail;go_ret;refine⟨?_,rfl⟩;rw[<-HR.out,<-yZ hx,IntKind.wrap_u64]
 rfl
theorem DN (a c:Nat):((a:Int)*(c:Int))%18446744073709551616=((a*c%18446744073709551616:Nat):Int):=by simp
theorem pB (z d:Nat) (hz:z<18446744073709551616):bits BinOp.xor IntKind.u64 (z:Int) ((z:Int)/(d:Int))=((z^^^(z/d):Nat):Int):=by
 rw[show((z:Int)/(d:Int))=((z/d:Nat):Int) by simp,u64_xor_nat _ _ hz (Nat.lt_of_le_of_lt (Nat.div_le_self _ _) hz)]
theorem yo (z:Nat) (hz:z<18446744073709551616):(bits BinOp.xor IntKind.u64 (z:Int) ((z:Int)/1073741824)*13787848793156543929)%18446744073709551616=((AC z:Nat):Int):=by
 have h:=pB z 1073741824 hz;rw[show((1073741824:Nat):Int)=1073741824 from rfl]at h;rw[h];exact DN (z^^^(z/1073741824)) 13787848793156543929
theorem yr (z:Nat) (hz:z<18446744073709551616):(bits BinOp.xor IntKind.u64 (z:Int) ((z:Int)/134217728)*10723151780598845931)%18446744073709551616=((AD z:Nat):Int):=by
 have h:=pB z 134217728 hz;rw[show((134217728:Nat):Int)=134217728 from rfl]at h;rw[h];exact DN (z^^^(z/134217728)) 10723151780598845931
theorem yu (z:Nat) (hz:z<18446744073709551616):bits BinOp.xor IntKind.u64 (z:Int) ((z:Int)/2147483648)=((DM z:Nat):Int):=by
 have h:=pB z 2147483648 hz;rw[show((2147483648:Nat):Int)=2147483648 from rfl]at h;exact h
theorem ze (s k:Nat):IntKind.u64.wrap ((s:Int)+IntKind.u64.wrap (((k:Int)+1)*11400714819323198485))=((uz s k:Nat):Int):=by
 rw[IntKind.wrap_u64,IntKind.wrap_u64,show((k:Int)+1)=((k+1:Nat):Int) by omega,show(11400714819323198485:Int)=((11400714819323198485:Nat):Int)from rfl,DN];unfold uz;omega
theorem yq (z:Nat) (hz:z<18446744073709551616):IntKind.u64.wrap (bits BinOp.xor IntKind.u64 (z:Int) ((z:Int)/1073741824)*13787848793156543929)=((AC z:Nat):Int):=by rw[IntKind.wrap_u64,yo z hz]
theorem yt (z:Nat) (hz:z<18446744073709551616):IntKind.u64.wrap (bits BinOp.xor IntKind.u64 (z:Int) ((z:Int)/134217728)*10723151780598845931)=((AD z:Nat):Int):=by rw[IntKind.wrap_u64,yr z hz]
theorem CD (z:Nat):AC z<18446744073709551616:=Nat.mod_lt _ (by decide)
theorem CE (z:Nat):AD z<18446744073709551616:=Nat.mod_lt _ (by decide)
theorem Bl (s i:Nat):uz s i<18446744073709551616:=Nat.mod_lt _ (by decide)
def zw (x:Nat):Value:= .int .u64 (x:Int)
structure gU (w : World) (seed k : Nat) (wr : World) : Prop where
 box:wr.heap[w.heap.size]? =some (.cells ((List.range k).map (fun i=>zw (rZ seed i))++List.replicate (256-k) (zw 0)).toArray 43 (0,0))
 below:Below w.heap.size w wr
theorem gU.here {w wr:World} {seed k:Nat} (h:gU w seed k wr) (hk:k<256):wr.cell? ⟨w.heap.size,k,none⟩=some (.int .u64 0):=by
 rw[cell_of_row wr _ _ _ _ _ h.box,List.getElem?_toArray,List.getElem?_append_right (by simp)];rw[List.length_map,List.length_range,Nat.sub_self,show 256-k=(256-(k+1))+1 by omega,List.replicate_succ]
 rfl
theorem gU.put {w wr:World} {seed k:Nat} (h:gU w seed k wr) (hk:k<256):gU w seed (k+1) (wr.setCell ⟨w.heap.size,k,none⟩ (zw (rZ seed k))):=by
 refine⟨?_,h.below.trans ⟨rfl,rfl,rfl,by simp[World.setCell],fun j hj=>heap_setCell_other wr _ j _ (by show j≠w.heap.size; omega)⟩⟩;rw[heap_setCell_same wr _ _ _ _ _ h.box]
 congr 2
 rw[List.setIfInBounds_toArray,List.set_append_right _ _ (by simp),List.length_map,List.length_range,Nat.sub_self,show 256-k=(256-(k+1))+1 by omega,List.replicate_succ,List.range_succ,List.map_append];simp
theorem CC (w:World):(Instr.makeSlice 262 (.int .i64 256) (.int .i64 256)).run Tryz.prog w= .ok (.slice (some ⟨w.heap.size,0,none⟩) 256 256) (w.alloc (.cells (List.replicate 256 (zw 0)).toArray 43)):=by kernel_rfl
theorem zu (seed:Nat) (w:World):Calls Tryz.prog 210 #[.int .u64 (seed:Int)] w fun e w'=>e= .returned (.slice (some ⟨w.heap.size,0,none⟩) 256 256)/\gU w seed 256 w':=by
 have hmk:=CC
 go_enter Tryz.func210,Tryz.ntmps210
 go_wp2_with fail;have HT0:=ab (show gU w seed 0 (w.alloc (.cells (List.replicate 256 (zw 0)).toArray 43))from⟨by rw[heap_alloc_new]; rfl,(Below.refl _ _).alloc (Nat.le_refl _) _⟩);clear hmk
 go_loopw [9] (fun i wr=> ∃k:Nat,k<=256/\i= .int .i64 (k:Int)/\gU w seed k wr) (fun i _=>256-(intOf i).toNat)
 case atStart=>exact⟨0,by omega,rfl,HT0.out⟩
 case round=>
  obtain⟨k,hk,rfl,ht⟩:=hrel;have HT:=ab ht;have hz:=ht.below.size;clear ht
  by_cases h256:k<256
  ·have ch:=HT.out.here h256;have cf:=frozen_of_row wr _ k _ _ HT.out.box;have hki:(k:Int)<256:=by omega
   go_wp2_with fail
   go_roundw
   case rel=>
    rw[ze,yq _ (Bl _ _),yt _ (CD _),yu _ (CE _)];exact⟨k+1,by omega,by simp,HT.out.put h256⟩
   case measure=>simp[intOf]; omega
  ·obtain rfl:k=256:=by omega
   go_wp2_with fail;go_ret;exact⟨rfl,HT.out⟩
end Go.Proofs.YtpffpjbkbaleiaaGreatDoor
namespace Go.Proofs.YtpffpjbkbaleiaaGreatDoor
open Go Go.RowKit
def lQ (seed:Nat):List Value:=(List.range 256).map fun i=>zw (rZ seed i)
theorem lu (seed:Nat):(lQ seed).length=256:=by simp[lQ]
def eA (seed:Nat) (ring:List UInt8) (W s n h:Nat):List Value:=lQ seed++(ring.map an++[.int .i64 (W:Int), .int .i64 (s:Int), .int .i64 (n:Int), .int .u64 (h:Int)])
theorem gU.full {w wr:World} {seed:Nat} (h:gU w seed 256 wr):wr.heap[w.heap.size]? =some (.cells (lQ seed).toArray 43 (0,0)):=by
 rw[h.box,Nat.sub_self,List.replicate_zero,List.append_nil]; rfl
def jQ (W:Nat):List Value:=List.replicate 256 (.int .u64 0)++((List.replicate 64 (0:UInt8)).map an++[.int .i64 (W:Int), .int .i64 0, .int .i64 0, .int .u64 0])
theorem ut (seed W:Nat) (w:World) (hW:1<=W) (hW2:W<=64):Calls Tryz.prog 199 #[.int .u64 (seed:Int), .int .i64 (W:Int)] w fun e w'=> ∃rb,e= .returned (.pointer (some ⟨rb,0,none⟩))/\w.heap.size<=rb/\
  w'.heap[rb]? =some (.cells (eA seed (List.replicate 64 0) W 0 0 0).toArray 237 (0,0))/\Below w.heap.size w w':=by
 have hmax:max (W:Int) 1=(W:Int):=by omega
 have hmin:min (W:Int) 64=(W:Int):=by omega
 go_enter Tryz.func199,Tryz.ntmps199
 go_wp2_with fail;obtain⟨w1,hw1⟩: ∃w1,w1=w.alloc (.cells (Tryz.zeroCells237.setIfInBounds 320 (.int .i64 (W:Int))) 237):=⟨_,rfl⟩;rw[<-hw1];have HX1:=ab (show w1.heap[w.heap.size]? =some (.cells (jQ W).toArray 237 (0,0)) by rw[hw1,heap_alloc_new,show Tryz.zeroCells237.setIfInBounds 320 (.int .i64 (W:Int))=(jQ W).toArray by kernel_rfl]);have HB1:=ab (show Below w.heap.size w w1 by rw[hw1]; exact(Below.refl _ _).alloc (Nat.le_refl _) _)
 clear hw1 hmax hmin;refine bX (fun _=>True) (by kernel_rfl) ?_;obtain⟨V,hV⟩: ∃V:World,V=w1.drew:=⟨_,rfl⟩;rw[<-hV];have HXV:=ab (show V.heap[w.heap.size]? =some (.cells (jQ W).toArray 237 (0,0)) by rw[hV]; exact HX1.out);have HBV:=ab (show Below w.heap.size w V by rw[hV]; exact HB1.out.trans (Below.refl _ _).drew);clear hV;refine ag 0 rfl (by kernel_rfl) (by kernel_rfl) (by kernel_rfl) (fun _ _ _ h=>h) rfl trivial (by intro w' hw1; go_simp; rfl) ?_
 simp only[Act.put,aB,aC,aD];refine ag 1 rfl (by kernel_rfl) (by kernel_rfl) (by kernel_rfl) (fun _ _ _ h=>h) rfl trivial (by intro w' hw1; go_simp; rfl) ?_;simp only[Act.put,aB,aC,aD];refine ag 2 rfl (by kernel_rfl) (by kernel_rfl) (by kernel_rfl) (fun _ _ _ h=>h) rfl trivial (by intro w' hw1; go_simp; rfl) ?_;simp only[Act.put,aB,aC,aD];refine ag 3 rfl (by kernel_rfl) (by kernel_rfl) (by kernel_rfl) (fun _ _ _ h=>h) rfl trivial (by intro w' hw1; go_simp; rfl) ?_
 simp only[Act.put,aB,aC,aD];refine ag 4 rfl (by kernel_rfl) (by kernel_rfl) (by kernel_rfl) (fun _ _ _ h=>h) rfl trivial (by intro w' hw1; go_simp; rfl) ?_;simp only[Act.put,aB,aC,aD];refine ar 5 rfl (by kernel_rfl) rfl (fun K hK=> ?_);go_wp2_with fail;refine(zu seed V).mono ?_;rintro e w2 ⟨rfl,ht⟩;have HTF:=ab ht.full;have HB2:=ab (ah HBV.out ht.below)
 have HX2:=ab ((ht.below.block _ (lt_of_block HXV.out)).trans HXV.out);have HLT:=ab (lt_of_block HXV.out);clear ht;go_wp2_with fail
 try refine⟨trivial, ?_⟩
 refine ar 6 rfl (by kernel_rfl) rfl (fun K hK=> ?_);have HSRC:=ab (show ∀j v,(lQ seed)[j]? =some v->w2.cell? ((⟨V.heap.size,0,none⟩:Addr).add j)=some v from fun j v hj=>by rw[Addr.add_mid,Nat.zero_add,cell_of_row w2 _ _ _ _ _ HTF.out,List.getElem?_toArray]; exact hj);have HFIT:=ab (show 0+(lQ seed).length<=(jQ W).toArray.size by rw[lu,List.size_toArray]; simp[jQ])
 have HONE:=ab (show ∀v∈lQ seed,v.oneCell'=true from fun v hv=>by obtain⟨x,_,rfl⟩:=List.mem_map.1 hv; rfl);go_wp2_with (refine wpList_copy_own rfl _ _ 262 262 rfl 43 Tryz.underlying262 (by kernel_rfl) w.heap.size 0 256 256 ⟨V.heap.size,0,none⟩ 256 256 rfl rfl (jQ W).toArray 237 HX2.out (lQ seed) rfl HSRC.out HFIT.out HONE.out ?_);simp only[Act.put,aB,aC,aD];obtain⟨w3,hw3⟩: ∃w3,w3=w2.setRow w.heap.size (List.take 0 (jQ W)++(lQ seed++List.drop (0+(lQ seed).length) (jQ W))).toArray:=⟨_,rfl⟩
 have HX3:=ab (show w3.heap[w.heap.size]? =some (.cells (eA seed (List.replicate 64 0) W 0 0 0).toArray 237 (0,0)) by
  rw[hw3,setRow_heap w2 _ _ _ _ _ HX2.out,List.take_zero,List.nil_append,Nat.zero_add,lu]
  congr 3)
 have HB3:=ab (show Below w.heap.size w w3 by rw[hw3]; exact below_setRow HB2.out (Nat.le_refl _) _);refine⟨trivial, ?_⟩;refine aS (by kernel_rfl) ?_
 change Exit.then _ _ _ _ (w2.setRow w.heap.size (List.take 0 (jQ W)++(lQ seed++List.drop (0+(lQ seed).length) (jQ W))).toArray)
 rw[<-hw3];clear hw3;go_wp2_with fail;go_ret;exact⟨_,rfl,Nat.le_refl _,HX3.out,HB3.out⟩
end Go.Proofs.YtpffpjbkbaleiaaGreatDoor
namespace Go.Proofs.YtpffpjbkbaleiaaGreatDoor
open Go Go.RowKit
structure dD where
 mn:Int
 mx:Int
 win:Int
 bits:Int
 seed:Nat
def dr (c:dD):List Value:=[.int .i64 c.mn, .int .i64 c.mx, .int .i64 c.win, .int .i64 c.bits, .int .u64 (c.seed:Int)]
def fu (c:dD):Value:= .agg #[.int .i64 c.mn, .int .i64 c.mx, .int .i64 c.win, .int .i64 c.bits, .int .u64 (c.seed:Int)]
def ie (c:dD):Bool:=decide (1<=c.win) && decide (c.win<=64) && decide (c.win<=c.mn) && decide (c.mn<=c.mx) && decide (c.mx<=32768) && decide (0<=c.bits) && decide (c.bits<=20)
theorem jL {c:dD} :ie c=true<->1<=c.win/\c.win<=64/\c.win<=c.mn/\c.mn<=c.mx/\c.mx<=32768/\0<=c.bits/\c.bits<=20:=by unfold ie; simp[and_assoc]
theorem rQ (c:dD) (w:World):Calls Tryz.prog 70 #[fu c] w fun e w'=>e= .returned (.bool (ie c))/\Below w.heap.size w w':=by
 unfold fu
 go_enter Tryz.func70,Tryz.ntmps70
 go_wp2_with fail
 all_goals (go_ret; refine⟨am ?_,(Below.refl _ _).alloc (Nat.le_refl _) _⟩; rw[Bool.eq_iff_iff,jL]; simp; try omega)
theorem Ao {place:Nat->Option (Nat×Nat)} {cells:Array Value} {i off:Nat} {v:Value} {rest:List (Nat×Value)} (hp:place i=some (off,1)) (hv:v.cells= #[v]) (hf:off<cells.size):
  Instr.fill place cells ((i,v)::rest)=Instr.fill place (cells.setIfInBounds off v) rest:=by
 rw[Instr.fill,hp];simp only[hv];rw[if_neg (by simp; omega)]
 rfl
def BR :List Value:=jQ 0++([.int .i64 0, .int .i64 0, .int .i64 0, .int .i64 0, .int .u64 0]++[.int .i64 0, .int .i64 0])
theorem zC :BR.length=331:=by kernel_rfl
theorem lM (seed:Nat) {ring:List UInt8} (h:ring.length=64) (W s n x:Nat):(eA seed ring W s n x).length=324:=by unfold eA; rw[List.length_append,lu,List.length_append,List.length_map,h]; rfl
theorem uW (r:List Value) (c:dD) (l:Int) (hr:r.length=324):Tryz.prog.built 239 [(0, .agg r.toArray),(1,fu c),(3, .int .i64 l)]=some (r++(dr c++[Value.int .i64 0,Value.int .i64 l])).toArray:=by
 have h: ∀parts,Tryz.prog.built 239 parts=Instr.fill (fun i=>(#[(0,324),(324,5),(329,1),(330,1)]:Array (Nat×Nat))[i]?) BR.toArray parts:=fun parts=>by kernel_rfl
 have e0:splice BR 0 r=r++([.int .i64 0, .int .i64 0, .int .i64 0, .int .i64 0, .int .u64 0]++[.int .i64 0, .int .i64 0]):=by
  unfold splice;rw[List.take_zero,List.nil_append,Nat.zero_add,hr]
  congr 1
 rw[h,iw (off:=0) (size:=324) rfl (by simpa using hr) (by rw[List.size_toArray,zC]; decide)];simp only;rw[e0];unfold fu;rw[iw (off:=324) (size:=5) rfl rfl (by rw[List.size_toArray,List.length_append,hr]; decide),Ao (off:=330) rfl rfl (by rw[List.size_toArray,length_splice _ _ _ (by rw[List.length_append,hr]; show 324+5<=324+7; decide),List.length_append,hr]; show 330<324+7; decide)]
 simp only[Instr.fill]
 congr 1
 unfold splice;rw[List.setIfInBounds_toArray]
 congr 1
 rw[List.take_append_of_le_length (by omega),List.take_of_length_le (by omega),List.drop_append,List.drop_eq_nil_of_le (by rw[hr]; show 324<=324+5; decide),List.set_append_right _ _ (by omega),hr]
 rfl
def ko (c:dD) (roll:List Value) (pos last:Int):List Value:=roll++(dr c++[Value.int .i64 pos,Value.int .i64 last])
theorem lL (c:dD) {roll:List Value} (h:roll.length=324) (p l:Int):(ko c roll p l).length=331:=by unfold ko; rw[List.length_append,h]; rfl
theorem yN (seed:Nat) (ring:List UInt8) (W s n x:Nat): ∀v∈eA seed ring W s n x,v.oneCell'=true:=by
 intro v hv;unfold eA at hv
 rcases List.mem_append.1 hv with hv | hv
 ·obtain⟨y,_,rfl⟩:=List.mem_map.1 hv; rfl
 ·rcases List.mem_append.1 hv with hv | hv
  ·obtain⟨y,_,rfl⟩:=List.mem_map.1 hv; rfl
  ·simp only[List.mem_cons,List.not_mem_nil,or_false]at hv
   rcases hv with rfl | rfl | rfl | rfl<;> rfl
theorem qR (c:dD) (seed:Nat) (W:Nat) (l:Int): ∀v∈eA seed (List.replicate 64 0) W 0 0 0++(dr c++[Value.int .i64 0,Value.int .i64 l]),v.oneCell'=true:=by
 intro v hv
 rcases List.mem_append.1 hv with hv | hv
 ·exact yN _ _ _ _ _ _ v hv
 ·simp only[dr,List.mem_append,List.mem_cons,List.not_mem_nil,or_false]at hv
  rcases hv with(rfl | rfl | rfl | rfl | rfl) | rfl | rfl<;> rfl
theorem vV (seed W:Nat) (wi:Int) (w:World) (hwi:wi=(W:Int)) (hW:1<=W) (hW2:W<=64):Calls Tryz.prog 199 #[.int .u64 (seed:Int), .int .i64 wi] w fun e w'=> ∃rb,e= .returned (.pointer (some ⟨rb,0,none⟩))/\w.heap.size<=rb/\
  w'.heap[rb]? =some (.cells (eA seed (List.replicate 64 0) W 0 0 0).toArray 237 (0,0))/\Below w.heap.size w w':=by
 subst hwi; exact ut seed W w hW hW2
theorem pP (c:dD) (W:Nat) (w:World) (_hs:c.seed<18446744073709551616) (hW:c.win=(W:Int)) (h1:1<=W) (h2:W<=64) (hm:0<=c.mn/\c.mn<=32768):
  Calls Tryz.prog 187 #[fu c] w fun e w'=>e= .returned (.agg (ko c (eA c.seed (List.replicate 64 0) W 0 0 0) 0 (-c.mn)).toArray)/\Below w.heap.size w w':=by
 have HW:=ab hW;have hneg:IntKind.i64.wrap (-c.mn)= -c.mn:=by rw[IntKind.wrap_i64]; omega
 clear hW;unfold fu
 go_enter Tryz.func187,Tryz.ntmps187
 go_wp2_with fail;obtain⟨w1,hw1⟩: ∃w1,w1=(w.alloc (.cells #[.int .i64 c.mn, .int .i64 c.mx, .int .i64 c.win, .int .i64 c.bits, .int .u64 (c.seed:Int)] 45)).alloc (.cells Tryz.zeroCells239 239):=⟨_,rfl⟩;rw[<-hw1];have HX1:=ab (show w1.heap[w.heap.size]? =some (.cells (dr c).toArray 45 (0,0)) by rw[hw1]; exact heap_alloc2_old w _ _);have HZ1:=ab (show w1.heap[w.heap.size+1]? =some (.cells Tryz.zeroCells239 239 (0,0)) by rw[hw1]; exact heap_alloc2_new w _ _)
 have HB1:=ab (show Below w.heap.size w w1 by rw[hw1]; exact((Below.refl _ _).alloc (Nat.le_refl _) _).alloc (by simp) _);clear hw1;refine bX (fun w'=>w'.cell? ⟨w.heap.size,0,none⟩=some (.int .i64 c.mn)/\w'.cell? ⟨w.heap.size,1,none⟩=some (.int .i64 c.mx)/\w'.cell? ⟨w.heap.size,2,none⟩=some (.int .i64 c.win)/\w'.cell? ⟨w.heap.size,3,none⟩=some (.int .i64 c.bits)/\w'.cell? ⟨w.heap.size,4,none⟩=some (.int .u64 (c.seed:Int))) (by kernel_rfl) ?_
 obtain⟨V,hV⟩: ∃V:World,V=w1.drew:=⟨_,rfl⟩;rw[<-hV];have HXV:=ab (show V.heap[w.heap.size]? =some (.cells (dr c).toArray 45 (0,0)) by rw[hV]; exact HX1.out);have HZV:=ab (show V.heap[w.heap.size+1]? =some (.cells Tryz.zeroCells239 239 (0,0)) by rw[hV]; exact HZ1.out);have HBV:=ab (show Below w.heap.size w V by rw[hV]; exact HB1.out.trans (Below.refl _ _).drew);clear hV
 have c0:V.cell? ⟨w.heap.size,0,none⟩=some (.int .i64 c.mn):=(cell_of_row V _ _ _ _ _ HXV.out).trans rfl;have c1:V.cell? ⟨w.heap.size,1,none⟩=some (.int .i64 c.mx):=(cell_of_row V _ _ _ _ _ HXV.out).trans rfl;have c2:V.cell? ⟨w.heap.size,2,none⟩=some (.int .i64 c.win):=(cell_of_row V _ _ _ _ _ HXV.out).trans rfl;have c3:V.cell? ⟨w.heap.size,3,none⟩=some (.int .i64 c.bits):=(cell_of_row V _ _ _ _ _ HXV.out).trans rfl
 have c4:V.cell? ⟨w.heap.size,4,none⟩=some (.int .u64 (c.seed:Int)):=(cell_of_row V _ _ _ _ _ HXV.out).trans rfl;refine ag 0 rfl (by kernel_rfl) (by kernel_rfl) (by kernel_rfl) (fun _ _ _ h=>h) rfl ⟨c0,c1,c2,c3,c4⟩ (by rintro w' ⟨hw1,hw2,hw3,hw4,hw5⟩; go_simp; rfl) ?_;simp only[Act.put,aB,aC,aD];refine ag 1 rfl (by kernel_rfl) (by kernel_rfl) (by kernel_rfl) (fun _ _ _ h=>h) rfl ⟨c0,c1,c2,c3,c4⟩ (by rintro w' ⟨hw1,hw2,hw3,hw4,hw5⟩; go_simp; rfl) ?_
 simp only[Act.put,aB,aC,aD];refine ag 2 rfl (by kernel_rfl) (by kernel_rfl) (by kernel_rfl) (fun _ _ _ h=>h) rfl ⟨c0,c1,c2,c3,c4⟩ (by rintro w' ⟨hw1,hw2,hw3,hw4,hw5⟩; go_simp; rfl) ?_;simp only[Act.put,aB,aC,aD];refine ag 3 rfl (by kernel_rfl) (by kernel_rfl) (by kernel_rfl) (fun _ _ _ h=>h) rfl ⟨c0,c1,c2,c3,c4⟩ (by rintro w' ⟨hw1,hw2,hw3,hw4,hw5⟩; go_simp; rfl) ?_
 simp only[Act.put,aB,aC,aD];refine ag 7 rfl (by kernel_rfl) (by kernel_rfl) (by kernel_rfl) (fun _ _ _ h=>h) rfl ⟨c0,c1,c2,c3,c4⟩ (by rintro w' ⟨hw1,hw2,hw3,hw4,hw5⟩; go_simp; rfl) ?_;simp only[Act.put,aB,aC,aD];refine ag 8 rfl (by kernel_rfl) (by kernel_rfl) (by kernel_rfl) (fun _ _ _ h=>h) rfl ⟨c0,c1,c2,c3,c4⟩ (by rintro w' ⟨hw1,hw2,hw3,hw4,hw5⟩; go_simp; rfl) ?_
 simp only[Act.put,aB,aC,aD];refine ag 9 rfl (by kernel_rfl) (by kernel_rfl) (by kernel_rfl) (fun _ _ _ h=>h) rfl ⟨c0,c1,c2,c3,c4⟩ (by rintro w' ⟨hw1,hw2,hw3,hw4,hw5⟩; go_simp; rfl) ?_;simp only[Act.put,aB,aC,aD];refine ag 10 rfl (by kernel_rfl) (by kernel_rfl) (by kernel_rfl) (fun _ _ _ h=>h) rfl ⟨c0,c1,c2,c3,c4⟩ (by rintro w' ⟨hw1,hw2,hw3,hw4,hw5⟩; go_simp; rfl) ?_
 simp only[Act.put,aB,aC,aD];refine ar 4 rfl (by kernel_rfl) rfl (fun K hK=> ?_);go_wp2_with fail;refine(vV c.seed W c.win V HW.out h1 h2).mono ?_;rintro e w2 ⟨rb,rfl,hrb,hbx,hb2⟩;have HB2:=ab (ah HBV.out hb2);have HX2:=ab ((hb2.block _ (lt_of_block HXV.out)).trans HXV.out);have HZ2:=ab ((hb2.block _ (lt_of_block HZV.out)).trans HZV.out);have HRB:=ab hbx
 clear c0 c1 c2 c3 c4 hb2 hbx;have c0:w2.cell? ⟨w.heap.size,0,none⟩=some (.int .i64 c.mn):=(cell_of_row w2 _ _ _ _ _ HX2.out).trans rfl;have c1:w2.cell? ⟨w.heap.size,1,none⟩=some (.int .i64 c.mx):=(cell_of_row w2 _ _ _ _ _ HX2.out).trans rfl;have c2:w2.cell? ⟨w.heap.size,2,none⟩=some (.int .i64 c.win):=(cell_of_row w2 _ _ _ _ _ HX2.out).trans rfl;have c3:w2.cell? ⟨w.heap.size,3,none⟩=some (.int .i64 c.bits):=(cell_of_row w2 _ _ _ _ _ HX2.out).trans rfl
 have c4:w2.cell? ⟨w.heap.size,4,none⟩=some (.int .u64 (c.seed:Int)):=(cell_of_row w2 _ _ _ _ _ HX2.out).trans rfl;go_wp2_with fail;refine⟨⟨c0,c1,c2,c3,c4⟩, ?_⟩;refine ag 5 rfl (by kernel_rfl) (by kernel_rfl) (by kernel_rfl) (fun _ _ _ h=>h) rfl ⟨c0,c1,c2,c3,c4⟩ (by rintro w' ⟨hw1,hw2,hw3,hw4,hw5⟩; go_simp; rfl) ?_;simp only[Act.put,aB,aC,aD];obtain⟨rc,hrc⟩: ∃rc,rc=eA c.seed (List.replicate 64 0) W 0 0 0:=⟨_,rfl⟩
 have hrl:rc.length=324:=by rw[hrc]; exact lM _ (by simp) _ _ _ _
 rw[<-hrc]at HRB;have HRC:=ab hrc;clear hrc;have HI324:=ab (show(Tryz.prog.info? 237).map (·.size)=some rc.length by rw[hrl]; kernel_rfl);have HRG:=ab (ke HRB.out);have HBM:=ab (uW rc c (-c.mn) hrl);have HRL:=ab hrl;clear hrl;refine ar 6 rfl (by kernel_rfl) rfl (fun K hK=> ?_);go_wp2_with (refine wpList_load_mid rfl 237 _ rfl rb 0 rfl rc _ HRG.out Tryz.underlying237 rfl HI324.out ?_)
 refine⟨⟨c0,c1,c2,c3,c4⟩, ?_⟩;simp only[Act.put,aB,aC,aD];refine ar 11 rfl (by kernel_rfl) rfl (fun K hK=> ?_);go_wp2_with (go_loud (refine eY rfl 239 _ rfl [(0, .agg rc.toArray),(1,fu c),(3, .int .i64 (-c.mn))] (by kernel_rfl) _ HBM.out ?_));refine⟨⟨c0,c1,c2,c3,c4⟩, ?_⟩;simp only[Act.put,aB,aC,aD];refine ar 12 rfl (by kernel_rfl) rfl (fun K hK=> ?_)
 obtain⟨mc,hmc⟩: ∃mc,mc=rc++(dr c++[Value.int .i64 0,Value.int .i64 (-c.mn)]):=⟨_,rfl⟩;have hml:mc.length=331:=by rw[hmc]; exact lL c HRL.out 0 (-c.mn)
 rw[<-hmc];have HMC:=ab hmc;have HI331:=ab (show(Tryz.prog.info? 239).map (·.size)=some mc.toArray.size by rw[List.size_toArray,hml]; kernel_rfl);have HOLD:=ab (show Tryz.zeroCells239.size=mc.toArray.size by rw[show mc.toArray.size=331 from by rw[List.size_toArray]; exact hml]; kernel_rfl);have HONE:=ab (show mc.toArray.all (·.oneCell')=true from all_oneCell_toArray (by
  rw[hmc,HRC.out];exact qR c _ _ _))
 clear hml hmc;go_wp2_with (go_loud (refine wpList_store_row rfl 239 _ _ rfl (w.heap.size+1) _ rfl rfl _ _ HZ2.out HI331.out HOLD.out HONE.out ?_));simp only[Act.put];obtain⟨w3,hw3⟩: ∃w3,w3=w2.setRow (w.heap.size+1) mc.toArray:=⟨_,rfl⟩;rw[<-hw3];have hX3:w3.heap[w.heap.size]? =some (.cells (dr c).toArray 45 (0,0)):=by rw[hw3,setRow_other w2 _ _ _ (by omega)]; exact HX2.out
 have HM3:=ab (show w3.heap[w.heap.size+1]? =some (.cells mc.toArray 239 (0,0)) by rw[hw3]; exact setRow_heap w2 _ _ _ _ _ HZ2.out);have HB3:=ab (show Below w.heap.size w w3 by rw[hw3]; exact below_setRow HB2.out (by omega) _);clear hw3;refine⟨⟨(cell_of_row w3 _ _ _ _ _ hX3).trans rfl,(cell_of_row w3 _ _ _ _ _ hX3).trans rfl,(cell_of_row w3 _ _ _ _ _ hX3).trans rfl,(cell_of_row w3 _ _ _ _ _ hX3).trans rfl,(cell_of_row w3 _ _ _ _ _ hX3).trans rfl⟩, ?_⟩
 refine aS (by kernel_rfl) ?_;clear c0 c1 c2 c3 c4 hX3;have HFIN:=ab (show Ending.returned (.agg mc.toArray)=Ending.returned (.agg (ko c (eA c.seed (List.replicate 64 0) W 0 0 0) 0 (-c.mn)).toArray) by rw[HMC.out,HRC.out]; rfl);go_wp2_with fail;refine bodyPost_ret (results_cell_row rfl _ _ (w.heap.size+1) _ _ _ _ rfl HM3.out Tryz.underlying239 rfl HI331.out) rfl ?_;exact⟨HFIN.out,HB3.out⟩
end Go.Proofs.YtpffpjbkbaleiaaGreatDoor
namespace Go.Proofs.YtpffpjbkbaleiaaGreatDoor
open Go Go.RowKit
structure kj (seed W : Nat) (d : List UInt8) (cs : List Value) : Prop where
 tab: ∀i,i<256->cs[i]? =some (.int .u64 ((rZ seed i:Nat):Int))
 rng: ∀j,j<64-> ∃b,cs[256+j]? =some (an b)
 win:cs[320]? =some (.int .i64 (W:Int))
 st: ∃s,s<64/\cs[321]? =some (.int .i64 (s:Int))/\ ∀j b,(iF W d)[j]? =some b->cs[256+(s+j)%64]? =some (an b)
 len:cs[322]? =some (.int .i64 ((min W d.length:Nat):Int))
 sum:cs[323]? =some (.int .u64 ((mu seed (iF W d):Nat):Int))
theorem kj.lt {seed W:Nat} {d:List UInt8} {cs:List Value} (h:kj seed W d cs):323<cs.length:=(List.getElem?_eq_some_iff.1 h.sum).1
theorem xA {x y:Nat} (hx:x<18446744073709551616) (hy:y<18446744073709551616):bits BinOp.xor IntKind.u64 (x:Int) (y:Int)=((x^^^y:Nat):Int):=u64_xor_nat x y hx hy
theorem bo {w:World} {b k:Nat} {cs:List Value} {ty:TypeId} (h:w.heap[b]? =some (.cells cs.toArray ty (0,0))):w.cell? ⟨b,k,none⟩=cs[k]? :=by rw[cell_of_row w _ _ _ _ _ h,List.getElem?_toArray]
theorem fm {w:World} {b k:Nat} {cs:List Value} {ty:TypeId} (h:w.heap[b]? =some (.cells cs.toArray ty (0,0))) (v:Value):(w.setCell ⟨b,k,none⟩ v).heap[b]? =some (.cells (cs.set k v).toArray ty (0,0)):=by
 rw[heap_setCell_same w _ _ _ _ _ h,List.setIfInBounds_toArray]
theorem bD {w V:World} {rb:Nat} (h:w.grownBy V (some rb)) (k:Nat) (v:Value):w.grownBy (V.setCell ⟨rb,k,none⟩ v) (some rb):=h.trans (aH _ _ _ _)
theorem kB {w V:World} {rb:Nat} (h:w.grownBy V (some rb)):w.grownBy V.drew (some rb):=h.trans ⟨rfl,rfl,rfl,Nat.le_refl _,fun _ _ _=>rfl⟩
theorem gK {w V:World} {rb:Nat} (h:w.grownBy V (some rb)) (n:Nat):w.grownBy (V.drewN n) (some rb):=h.trans ⟨rfl,rfl,rfl,Nat.le_refl _,fun _ _ _=>rfl⟩
theorem kj.push {seed W:Nat} {d:List UInt8} {cs cs2:List Value} (h:kj seed W d cs) {b:UInt8} {q:List UInt8} {s2 n2:Nat} (heq: ∀i,i<321->cs2[i]? =cs[i]?) (hs:cs2[321]? =some (.int .i64 (s2:Int))) (hs2:s2<64) (hl:323<cs2.length)
  (hsum:cs2[323]? =some (.int .u64 ((mu seed (iF W (d++[b])):Nat):Int))) (hq:iF W (d++[b])=q++[b]) (hqn:q.length=n2) (hn:n2<W) (hW:W<=64) (hring: ∀(j:Nat) (c:UInt8),q[j]? =some c->cs2[256+(s2+j)%64]? =some (an c)):
  kj seed W (d++[b]) ((cs2.set (256+(s2+n2)%64) (an b)).set 322 (.int .i64 ((n2+1:Nat):Int))) where
 tab i hi:=by rw[List.getElem?_set_ne (by omega),List.getElem?_set_ne (by omega),heq i (by omega)]; exact h.tab i hi
 rng j hj:=by
  rw[List.getElem?_set_ne (by omega)]
  by_cases e:(s2+n2)%64=j
  ·rw[e,List.getElem?_set_self (by omega)]; exact⟨b,rfl⟩
  ·rw[List.getElem?_set_ne (by omega),heq _ (by omega)]; exact h.rng j hj
 win:=by rw[List.getElem?_set_ne (by omega),List.getElem?_set_ne (by omega),heq _ (by omega)]; exact h.win
 st:=by
  refine⟨s2,hs2,by rw[List.getElem?_set_ne (by omega),List.getElem?_set_ne (by omega)]; exact hs,fun j c hc=> ?_⟩;rw[hq]at hc;rw[List.getElem?_set_ne (by omega)]
  rcases Nat.lt_trichotomy j n2 with hj | hj | hj
  ·rw[List.getElem?_append_left (by omega)]at hc;rw[List.getElem?_set_ne (by omega)];exact hring j c hc
  ·subst hj;rw[List.getElem?_append_right (by omega),hqn,Nat.sub_self,List.getElem?_cons_zero]at hc
   cases hc
   rw[List.getElem?_set_self (by omega)]
  ·rw[List.getElem?_eq_none (by simp; omega)]at hc; cases hc
 len:=by
  rw[List.getElem?_set_self (by simpa using by omega)];have:=jN W (d++[b]);rw[hq]at this;simp only[List.length_append,List.length_cons,List.length_nil]at this ⊢;rw[<-this,hqn]
 sum:=by rw[List.getElem?_set_ne (by omega),List.getElem?_set_ne (by omega)]; exact hsum
theorem Bc (rb:Nat) (ty:TypeId) (seed W:Nat) (d:List UInt8) (b:UInt8) (cs:List Value) (w:World) (hb:w.heap[rb]? =some (.cells cs.toArray ty (0,0))) (hr:kj seed W d cs) (hW:1<=W) (hW2:W<=64):
  Calls Tryz.prog 200 #[.pointer (some ⟨rb,0,none⟩), .int .u8 (b.toNat:Int)] w fun e w'=>e= .returned (.tuple #[])/\(∃cs',w'.heap[rb]? =some (.cells cs'.toArray ty (0,0))/\kj seed W (d++[b]) cs'/\cs'.length=cs.length/\ ∀i,324<=i->cs'[i]? =cs[i]?)/\w.grownBy w' (some rb):=by
 have HB:=ab hb;have HR:=ab hr;clear hb hr;have hbt:=b.toNat_lt;have hbti:(b.toNat:Int)<256:=by omega
 obtain⟨t,ht⟩: ∃t,t=rZ seed b.toNat:=⟨_,rfl⟩;obtain⟨h,hh⟩: ∃h,h=mu seed (iF W d):=⟨_,rfl⟩;have htl:t<18446744073709551616:=by rw[ht]; exact nr _ _
 have hhl:h<18446744073709551616:=by rw[hh]; exact tD _ _
 have c323:w.cell? ⟨rb,323,none⟩=some (.int .u64 (h:Int)):=by rw[bo HB.out,HR.out.sum,hh]
 have ct:w.cell? ⟨rb,b.toNat,none⟩=some (.int .u64 (t:Int)):=by rw[bo HB.out,HR.out.tab _ hbt,ht]
 have HT:=ab (And.intro ht hh);clear ht hh
 go_enter Tryz.func200,Tryz.ntmps200
 go_wp2_with fail;refine bS (fun w'=>w'.cell? ⟨rb,323,none⟩=some (.int .u64 (h:Int))/\w'.cell? ⟨rb,b.toNat,none⟩=some (.int .u64 (t:Int))) (by kernel_rfl) (by kernel_rfl) ?_;simp only[List.dropLast_cons_cons,List.dropLast_singleton,List.length_cons,List.length_nil,Nat.reduceAdd,Nat.reduceSub];obtain⟨V,hV⟩: ∃V:World,V=w.drew:=⟨_,rfl⟩;rw[<-hV];have HBV:=ab (show V.heap[rb]? =some (.cells cs.toArray ty (0,0)) by rw[hV]; exact HB.out)
 have HGV:=ab (show w.grownBy V (some rb) by rw[hV]; exact⟨rfl,rfl,rfl,Nat.le_refl _,fun _ _ _=>rfl⟩);clear c323 ct;have c323:V.cell? ⟨rb,323,none⟩=some (.int .u64 (h:Int)):=by rw[bo HBV.out,HR.out.sum,HT.out.2]
 have ct:V.cell? ⟨rb,b.toNat,none⟩=some (.int .u64 (t:Int)):=by rw[bo HBV.out,HR.out.tab _ hbt,HT.out.1]
 clear hV;refine ag 0 rfl (by kernel_rfl) (by kernel_rfl) (by kernel_rfl) (fun _ _ _ h=>h) rfl ⟨c323,ct⟩ (by rintro w' ⟨hw1,hw2⟩; go_simp; rfl) ?_;simp only[Act.put,aB,aC,aD];refine ag 1 rfl (by kernel_rfl) (by kernel_rfl) (by kernel_rfl) (fun _ _ _ h=>h) rfl ⟨c323,ct⟩ (by rintro w' ⟨hw1,hw2⟩; go_simp; rfl) ?_;simp only[Act.put,aB,aC,aD];refine ag 2 rfl (by kernel_rfl) (by kernel_rfl) (by kernel_rfl) (fun _ _ _ h=>h) rfl ⟨c323,ct⟩ (by rintro w' ⟨hw1,hw2⟩; go_simp; rfl) ?_
 simp only[Act.put,aB,aC,aD];refine ag 3 rfl (by kernel_rfl) (by kernel_rfl) (by kernel_rfl) (fun _ _ _ h=>h) rfl ⟨c323,ct⟩ (by rintro w' ⟨hw1,hw2⟩; go_simp; rfl) ?_;simp only[Act.put,aB,aC,aD];refine ag 4 rfl (by kernel_rfl) (by kernel_rfl) (by kernel_rfl) (fun _ _ _ h=>h) rfl ⟨c323,ct⟩ (by rintro w' ⟨hw1,hw2⟩; go_simp; rfl) ?_;simp only[Act.put,aB,aC,aD];refine ag 6 rfl (by kernel_rfl) (by kernel_rfl) (by kernel_rfl) (fun _ _ _ h=>h) rfl ⟨c323,ct⟩ (by rintro w' ⟨hw1,hw2⟩; go_simp; rfl) ?_
 simp only[Act.put,aB,aC,aD];refine ag 7 rfl (by kernel_rfl) (by kernel_rfl) (by kernel_rfl) (fun _ _ _ h=>h) rfl ⟨c323,ct⟩ (by rintro w' ⟨hw1,hw2⟩; go_simp; rfl) ?_;simp only[Act.put,aB,aC,aD];refine ag 8 rfl (by kernel_rfl) (by kernel_rfl) (by kernel_rfl) (fun _ _ _ h=>h) rfl ⟨c323,ct⟩ (by rintro w' ⟨hw1,hw2⟩; go_simp; rfl) ?_;simp only[Act.put,aB,aC,aD];refine ag 9 rfl (by kernel_rfl) (by kernel_rfl) (by kernel_rfl) (fun _ _ _ h=>h) rfl ⟨c323,ct⟩ (by rintro w' ⟨hw1,hw2⟩; go_simp; rfl) ?_
 simp only[Act.put,aB,aC,aD];refine ag 10 rfl (by kernel_rfl) (by kernel_rfl) (by kernel_rfl) (fun _ _ _ h=>h) rfl ⟨c323,ct⟩ (by rintro w' ⟨hw1,hw2⟩; go_simp; rfl) ?_;simp only[Act.put,aB,aC,aD];refine ag 11 rfl (by kernel_rfl) (by kernel_rfl) (by kernel_rfl) (fun _ _ _ h=>h) rfl ⟨c323,ct⟩ (by rintro w' ⟨hw1,hw2⟩; go_simp; rfl) ?_;simp only[Act.put,aB,aC,aD]
 refine ar 5 rfl (by kernel_rfl) rfl (fun K hK=> ?_);go_wp2_with fail;refine(rg h 1 V hhl (by decide)).mono ?_;rintro e w1 ⟨rfl,rfl⟩;go_wp2_with fail;refine⟨⟨c323,ct⟩, ?_⟩;refine ag 12 rfl (by kernel_rfl) (by kernel_rfl) (by kernel_rfl) (fun _ _ _ h=>h) rfl ⟨c323,ct⟩ (by rintro w' ⟨hw1,hw2⟩; go_simp; rfl) ?_;simp only[Act.put,aB,aC,aD];refine ag 13 rfl (by kernel_rfl) (by kernel_rfl) (by kernel_rfl) (fun _ _ _ h=>h) rfl ⟨c323,ct⟩ (by rintro w' ⟨hw1,hw2⟩; go_simp; rfl) ?_
 simp only[Act.put,aB,aC,aD];refine ag 14 rfl (by kernel_rfl) (by kernel_rfl) (by kernel_rfl) (fun _ _ _ h=>h) rfl ⟨c323,ct⟩ (by rintro w' ⟨hw1,hw2⟩; go_simp; rfl) ?_;simp only[Act.put,aB,aC,aD];rw[xA (iC 1 hhl) htl];obtain⟨h1,hh1⟩: ∃h1,h1=dI h 1^^^t:=⟨_,rfl⟩;rw[<-hh1];have hh1l:h1<18446744073709551616:=by rw[hh1]; exact lA (iC 1 hhl) htl
 have HH1:=ab hh1;clear hh1;have cf:V.frozen? ⟨rb,323,none⟩=false:=frozen_of_row V _ _ _ _ HBV.out;refine aS (by kernel_rfl) ?_;refine bZ rfl rfl (fun K hK=> ?_);go_wp2_with fail;obtain⟨U,hU⟩: ∃U:World,U=V.setCell ⟨rb,323,none⟩ (.int .u64 (h1:Int)):=⟨_,rfl⟩;rw[<-hU];obtain⟨cs1,hc1⟩: ∃cs1,cs1=cs.set 323 (.int .u64 (h1:Int)):=⟨_,rfl⟩;have HBU:=ab (show U.heap[rb]? =some (.cells cs1.toArray ty (0,0)) by rw[hU,hc1]; exact fm HBV.out _)
 have HGU:=ab (show w.grownBy U (some rb) by rw[hU]; exact bD HGV.out _ _);have HC1:=ab hc1;clear hU c323 ct cf hc1;obtain⟨n,hn⟩: ∃n,n=min W d.length:=⟨_,rfl⟩;obtain⟨s,hs,hsc,hsw⟩:=HR.out.st;have hl:=HR.out.lt;have c322:U.cell? ⟨rb,322,none⟩=some (.int .i64 (n:Int)):=by rw[bo HBU.out,HC1.out,List.getElem?_set_ne (by decide),HR.out.len,hn]
 have c320:U.cell? ⟨rb,320,none⟩=some (.int .i64 (W:Int)):=by rw[bo HBU.out,HC1.out,List.getElem?_set_ne (by decide),HR.out.win]
 have c321:U.cell? ⟨rb,321,none⟩=some (.int .i64 (s:Int)):=by rw[bo HBU.out,HC1.out,List.getElem?_set_ne (by decide),hsc]
 have HLN:=ab (show cs[322]? =some (.int .i64 (n:Int)) by rw[HR.out.len,hn]);have HN:=ab hn;have HSC:=ab hsc;clear hn hsc;have HSW:=ab hsw;clear hsw
 go_quiet (fail)
 have HBU1:=ab (show(U.drewN nq).heap[rb]? =some (.cells cs1.toArray ty (0,0))from HBU.out);have HGU1:=ab (show w.grownBy (U.drewN nq) (some rb)from gK HGU.out _);clear HBU HGU c322 c320 c321
 generalize U.drewN nq=U1 at *
 by_cases hf:n=W
 ·obtain⟨x,l,hxl⟩: ∃x l,iF W d=x::l:=by
   cases hw:iF W d with
   | nil=>have:=jN W d; rw[hw,<-HN.out,hf]at this; simp at this; omega
   | cons x l=>exact⟨x,l,rfl⟩
  have hll:l.length+1=W:=by have:=jN W d; rw[hxl,<-HN.out,hf]at this; simpa using this
  have hx:=HSW.out 0 x (by rw[hxl]; rfl);rw[Nat.add_zero,Nat.mod_eq_of_lt hs]at hx;have hxt:=x.toNat_lt;have hxti:(x.toNat:Int)<256:=by omega
  have hsi:(s:Int)<64:=by omega
  obtain⟨tx,htx⟩: ∃tx,tx=rZ seed x.toNat:=⟨_,rfl⟩;have htxl:tx<18446744073709551616:=by rw[htx]; exact nr _ _
  have cx:=HR.out.tab _ hxt;rw[<-htx]at cx;have HX:=ab (And.intro hxl (And.intro hx (And.intro htx cx)));clear hxl hx htx cx;subst hf;go_wp2_with fail;refine bS (fun w'=>w'.cell? ⟨rb,323,none⟩=some (.int .u64 (h1:Int))/\w'.cell? ⟨rb,321,none⟩=some (.int .i64 (s:Int))/\w'.cell? ⟨rb,256+s,none⟩=some (.int .u8 (x.toNat:Int))/\w'.cell? ⟨rb,x.toNat,none⟩=some (.int .u64 (tx:Int))/\w'.cell? ⟨rb,320,none⟩=some (.int .i64 (n:Int))) (by kernel_rfl) (by kernel_rfl) ?_
  simp only[List.dropLast_cons_cons,List.dropLast_singleton,List.length_cons,List.length_nil,Nat.reduceAdd,Nat.reduceSub];obtain⟨V2,hV2⟩: ∃V2:World,V2=U1.drew:=⟨_,rfl⟩;rw[<-hV2];have HBV2:=ab (show V2.heap[rb]? =some (.cells cs1.toArray ty (0,0)) by rw[hV2]; exact HBU1.out);have HGV2:=ab (show w.grownBy V2 (some rb) by rw[hV2]; exact kB HGU1.out);clear hV2;have c323:V2.cell? ⟨rb,323,none⟩=some (.int .u64 (h1:Int)):=by rw[bo HBV2.out,HC1.out,List.getElem?_set_self (by omega)]
  have c320:V2.cell? ⟨rb,320,none⟩=some (.int .i64 (n:Int)):=by rw[bo HBV2.out,HC1.out,List.getElem?_set_ne (by decide),HR.out.win]
  have c321:V2.cell? ⟨rb,321,none⟩=some (.int .i64 (s:Int)):=by rw[bo HBV2.out,HC1.out,List.getElem?_set_ne (by decide),HSC.out]
  have cx1:V2.cell? ⟨rb,256+s,none⟩=some (.int .u8 (x.toNat:Int)):=by rw[bo HBV2.out,HC1.out,List.getElem?_set_ne (by omega),HX.out.2.1]; rfl
  have ct1:V2.cell? ⟨rb,x.toNat,none⟩=some (.int .u64 (tx:Int)):=by rw[bo HBV2.out,HC1.out,List.getElem?_set_ne (by omega),HX.out.2.2.2]
  refine ag 0 rfl (by kernel_rfl) (by kernel_rfl) (by kernel_rfl) (fun _ _ _ h=>h) rfl ⟨c323,c321,cx1,ct1,c320⟩ (by rintro w' ⟨hw1,hw2,hw3,hw4,hw5⟩; go_simp; rfl) ?_;simp only[Act.put,aB,aC,aD];refine ag 1 rfl (by kernel_rfl) (by kernel_rfl) (by kernel_rfl) (fun _ _ _ h=>h) rfl ⟨c323,c321,cx1,ct1,c320⟩ (by rintro w' ⟨hw1,hw2,hw3,hw4,hw5⟩; go_simp; rfl) ?_;simp only[Act.put,aB,aC,aD]
  refine ag 2 rfl (by kernel_rfl) (by kernel_rfl) (by kernel_rfl) (fun _ _ _ h=>h) rfl ⟨c323,c321,cx1,ct1,c320⟩ (by rintro w' ⟨hw1,hw2,hw3,hw4,hw5⟩; go_simp; rfl) ?_;simp only[Act.put,aB,aC,aD];refine ag 3 rfl (by kernel_rfl) (by kernel_rfl) (by kernel_rfl) (fun _ _ _ h=>h) rfl ⟨c323,c321,cx1,ct1,c320⟩ (by rintro w' ⟨hw1,hw2,hw3,hw4,hw5⟩; go_simp; rfl) ?_;simp only[Act.put,aB,aC,aD]
  refine ag 4 rfl (by kernel_rfl) (by kernel_rfl) (by kernel_rfl) (fun _ _ _ h=>h) rfl ⟨c323,c321,cx1,ct1,c320⟩ (by rintro w' ⟨hw1,hw2,hw3,hw4,hw5⟩; go_simp; rfl) ?_;simp only[Act.put,aB,aC,aD];refine ag 5 rfl (by kernel_rfl) (by kernel_rfl) (by kernel_rfl) (fun _ _ _ h=>h) rfl ⟨c323,c321,cx1,ct1,c320⟩ (by rintro w' ⟨hw1,hw2,hw3,hw4,hw5⟩; go_simp; rfl) ?_;simp only[Act.put,aB,aC,aD]
  refine ag 6 rfl (by kernel_rfl) (by kernel_rfl) (by kernel_rfl) (fun _ _ _ h=>h) rfl ⟨c323,c321,cx1,ct1,c320⟩ (by rintro w' ⟨hw1,hw2,hw3,hw4,hw5⟩; go_simp; rfl) ?_;simp only[Act.put,aB,aC,aD];refine ag 7 rfl (by kernel_rfl) (by kernel_rfl) (by kernel_rfl) (fun _ _ _ h=>h) rfl ⟨c323,c321,cx1,ct1,c320⟩ (by rintro w' ⟨hw1,hw2,hw3,hw4,hw5⟩; go_simp; rfl) ?_;simp only[Act.put,aB,aC,aD]
  refine ag 8 rfl (by kernel_rfl) (by kernel_rfl) (by kernel_rfl) (fun _ _ _ h=>h) rfl ⟨c323,c321,cx1,ct1,c320⟩ (by rintro w' ⟨hw1,hw2,hw3,hw4,hw5⟩; go_simp; rfl) ?_;simp only[Act.put,aB,aC,aD];refine ag 9 rfl (by kernel_rfl) (by kernel_rfl) (by kernel_rfl) (fun _ _ _ h=>h) rfl ⟨c323,c321,cx1,ct1,c320⟩ (by rintro w' ⟨hw1,hw2,hw3,hw4,hw5⟩; go_simp; rfl) ?_;simp only[Act.put,aB,aC,aD]
  refine ag 10 rfl (by kernel_rfl) (by kernel_rfl) (by kernel_rfl) (fun _ _ _ h=>h) rfl ⟨c323,c321,cx1,ct1,c320⟩ (by rintro w' ⟨hw1,hw2,hw3,hw4,hw5⟩; go_simp; rfl) ?_;simp only[Act.put,aB,aC,aD];refine ag 11 rfl (by kernel_rfl) (by kernel_rfl) (by kernel_rfl) (fun _ _ _ h=>h) rfl ⟨c323,c321,cx1,ct1,c320⟩ (by rintro w' ⟨hw1,hw2,hw3,hw4,hw5⟩; go_simp; rfl) ?_;simp only[Act.put,aB,aC,aD]
  refine ag 12 rfl (by kernel_rfl) (by kernel_rfl) (by kernel_rfl) (fun _ _ _ h=>h) rfl ⟨c323,c321,cx1,ct1,c320⟩ (by rintro w' ⟨hw1,hw2,hw3,hw4,hw5⟩; go_simp; rfl) ?_;simp only[Act.put,aB,aC,aD];refine ag 13 rfl (by kernel_rfl) (by kernel_rfl) (by kernel_rfl) (fun _ _ _ h=>h) rfl ⟨c323,c321,cx1,ct1,c320⟩ (by rintro w' ⟨hw1,hw2,hw3,hw4,hw5⟩; go_simp; rfl) ?_;simp only[Act.put,aB,aC,aD]
  refine ag 14 rfl (by kernel_rfl) (by kernel_rfl) (by kernel_rfl) (fun _ _ _ h=>h) rfl ⟨c323,c321,cx1,ct1,c320⟩ (by rintro w' ⟨hw1,hw2,hw3,hw4,hw5⟩; go_simp; rfl) ?_;simp only[Act.put,aB,aC,aD];refine ag 15 rfl (by kernel_rfl) (by kernel_rfl) (by kernel_rfl) (fun _ _ _ h=>h) rfl ⟨c323,c321,cx1,ct1,c320⟩ (by rintro w' ⟨hw1,hw2,hw3,hw4,hw5⟩; go_simp; rfl) ?_;simp only[Act.put,aB,aC,aD]
  refine ag 16 rfl (by kernel_rfl) (by kernel_rfl) (by kernel_rfl) (fun _ _ _ h=>h) rfl ⟨c323,c321,cx1,ct1,c320⟩ (by rintro w' ⟨hw1,hw2,hw3,hw4,hw5⟩; go_simp; rfl) ?_;simp only[Act.put,aB,aC,aD];refine ag 17 rfl (by kernel_rfl) (by kernel_rfl) (by kernel_rfl) (fun _ _ _ h=>h) rfl ⟨c323,c321,cx1,ct1,c320⟩ (by rintro w' ⟨hw1,hw2,hw3,hw4,hw5⟩; go_simp; rfl) ?_;simp only[Act.put,aB,aC,aD]
  refine ag 18 rfl (by kernel_rfl) (by kernel_rfl) (by kernel_rfl) (fun _ _ _ h=>h) rfl ⟨c323,c321,cx1,ct1,c320⟩ (by rintro w' ⟨hw1,hw2,hw3,hw4,hw5⟩; go_simp; rfl) ?_;simp only[Act.put,aB,aC,aD];refine ag 19 rfl (by kernel_rfl) (by kernel_rfl) (by kernel_rfl) (fun _ _ _ h=>h) rfl ⟨c323,c321,cx1,ct1,c320⟩ (by rintro w' ⟨hw1,hw2,hw3,hw4,hw5⟩; go_simp; rfl) ?_;simp only[Act.put,aB,aC,aD]
  refine ag 20 rfl (by kernel_rfl) (by kernel_rfl) (by kernel_rfl) (fun _ _ _ h=>h) rfl ⟨c323,c321,cx1,ct1,c320⟩ (by rintro w' ⟨hw1,hw2,hw3,hw4,hw5⟩; go_simp; rfl) ?_;simp only[Act.put,aB,aC,aD];refine ag 21 rfl (by kernel_rfl) (by kernel_rfl) (by kernel_rfl) (fun _ _ _ h=>h) rfl ⟨c323,c321,cx1,ct1,c320⟩ (by rintro w' ⟨hw1,hw2,hw3,hw4,hw5⟩; go_simp; rfl) ?_;simp only[Act.put,aB,aC,aD]
  refine ar 22 rfl (by kernel_rfl) rfl (fun K hK=> ?_);go_wp2_with fail;refine(rg tx n V2 htxl hW2).mono ?_;rintro e w1 ⟨rfl,rfl⟩;go_wp2_with fail;refine⟨⟨c323,c321,cx1,ct1,c320⟩, ?_⟩;refine ag 23 rfl (by kernel_rfl) (by kernel_rfl) (by kernel_rfl) (fun _ _ _ h=>h) rfl ⟨c323,c321,cx1,ct1,c320⟩ (by rintro w' ⟨hw1,hw2,hw3,hw4,hw5⟩; go_simp; rfl) ?_;simp only[Act.put,aB,aC,aD]
  refine ag 24 rfl (by kernel_rfl) (by kernel_rfl) (by kernel_rfl) (fun _ _ _ h=>h) rfl ⟨c323,c321,cx1,ct1,c320⟩ (by rintro w' ⟨hw1,hw2,hw3,hw4,hw5⟩; go_simp; rfl) ?_;simp only[Act.put,aB,aC,aD];refine ag 25 rfl (by kernel_rfl) (by kernel_rfl) (by kernel_rfl) (fun _ _ _ h=>h) rfl ⟨c323,c321,cx1,ct1,c320⟩ (by rintro w' ⟨hw1,hw2,hw3,hw4,hw5⟩; go_simp; rfl) ?_;simp only[Act.put,aB,aC,aD]
  rw[xA hh1l (iC n htxl)];obtain⟨h2,hh2⟩: ∃h2,h2=h1^^^dI tx n:=⟨_,rfl⟩;rw[<-hh2];have hh2l:h2<18446744073709551616:=by rw[hh2]; exact lA hh1l (iC n htxl)
  have HH2:=ab hh2;have cf:V2.frozen? ⟨rb,323,none⟩=false:=frozen_of_row V2 _ _ _ _ HBV2.out;have cf1:V2.frozen? ⟨rb,321,none⟩=false:=frozen_of_row V2 _ _ _ _ HBV2.out;have cf2:V2.frozen? ⟨rb,322,none⟩=false:=frozen_of_row V2 _ _ _ _ HBV2.out;have c322:V2.cell? ⟨rb,322,none⟩=some (.int .i64 (n:Int)):=by rw[bo HBV2.out,HC1.out,List.getElem?_set_ne (by decide),HLN.out]
  obtain⟨s2,hs2⟩: ∃s2,s2=(s+1)%64:=⟨_,rfl⟩;obtain⟨n2,hn2⟩: ∃n2,n2=n-1:=⟨_,rfl⟩;have hsa:IntKind.i64.wrap ((s:Int)+1)=((s+1:Nat):Int):=by rw[IntKind.wrap_i64]; omega
  have hsb:((s:Int)+1)%64=(s2:Int):=by omega
  have hna:IntKind.i64.wrap ((n:Int)-1)=(n2:Int):=by rw[IntKind.wrap_i64]; omega
  have hs264:s2<64:=by omega
  have hn264:n2<64:=by omega
  have HS2:=ab hs2;have HN2:=ab hn2;clear hh2 hs2 hn2;refine aS (by kernel_rfl) ?_;refine bZ rfl rfl (fun K hK=> ?_);go_wp2_with fail;obtain⟨X,hX⟩: ∃X:World,X=((V2.setCell ⟨rb,323,none⟩ (.int .u64 (h2:Int))).setCell ⟨rb,321,none⟩ (.int .i64 (s2:Int))).setCell ⟨rb,322,none⟩ (.int .i64 (n2:Int)):=⟨_,rfl⟩;rw[<-hX];have HBX:=ab (show X.heap[rb]? =some (.cells (((cs1.set 323 (.int .u64 (h2:Int))).set 321 (.int .i64 (s2:Int))).set 322 (.int .i64 (n2:Int))).toArray ty (0,0)) by rw[hX]; exact fm (fm (fm HBV2.out _) _) _)
  have HGX:=ab (show w.grownBy X (some rb) by rw[hX]; exact bD (bD (bD HGV2.out _ _) _ _) _ _);have HCX:=ab (show(((cs1.set 323 (.int .u64 (h2:Int))).set 321 (.int .i64 (s2:Int))).set 322 (.int .i64 (n2:Int)))[321]? =some (.int .i64 (s2:Int))/\(((cs1.set 323 (.int .u64 (h2:Int))).set 321 (.int .i64 (s2:Int))).set 322 (.int .i64 (n2:Int)))[322]? =some (.int .i64 (n2:Int))from⟨by rw[List.getElem?_set_ne (by decide),List.getElem?_set_self (by rw[HC1.out]; simp; omega)],by rw[List.getElem?_set_self (by rw[HC1.out]; simp; omega)]⟩)
  have HRX:=ab (show ∀j,j<64-> ∃c,(((cs1.set 323 (.int .u64 (h2:Int))).set 321 (.int .i64 (s2:Int))).set 322 (.int .i64 (n2:Int)))[256+j]? =some (an c)from fun j hj=>by
   rw[List.getElem?_set_ne (by omega),List.getElem?_set_ne (by omega),List.getElem?_set_ne (by omega),HC1.out,List.getElem?_set_ne (by omega)];exact HR.out.rng j hj)
  clear hX c323 c320 c321 cx1 ct1 cf cf1 cf2 c322;have hbt2:=hbt;obtain⟨j2,hj2⟩: ∃j2,j2=(s2+n2)%64:=⟨_,rfl⟩;have hj64:j2<64:=by omega
  have hj64i:(j2:Int)<64:=by omega
  have hadd:IntKind.i64.wrap ((s2:Int)+(n2:Int))=(s2:Int)+(n2:Int):=by rw[IntKind.wrap_i64]; omega
  have hmod:((s2:Int)+(n2:Int))%64=(j2:Int):=by omega
  have hmod2:Int.tmod ((s2:Int)+(n2:Int)) 64=(j2:Int):=by rw[Int.tmod_eq_emod_of_nonneg (by omega)]; omega
  have hmod3:IntKind.i64.wrap (j2:Int)=(j2:Int):=by rw[IntKind.wrap_i64]; omega
  have hinc:IntKind.i64.wrap ((n2:Int)+1)=((n2+1:Nat):Int):=by rw[IntKind.wrap_i64]; omega
  have c321:X.cell? ⟨rb,321,none⟩=some (.int .i64 (s2:Int)):=by rw[bo HBX.out,HCX.out.1]
  have c322:X.cell? ⟨rb,322,none⟩=some (.int .i64 (n2:Int)):=by rw[bo HBX.out,HCX.out.2]
  have cf1:X.frozen? ⟨rb,256+j2,none⟩=false:=frozen_of_row X _ _ _ _ HBX.out;have cf2:X.frozen? ⟨rb,322,none⟩=false:=frozen_of_row X _ _ _ _ HBX.out;obtain⟨bj,hbj⟩:=HRX.out j2 hj64;have cbj:X.cell? ⟨rb,256+j2,none⟩=some (an bj):=by rw[bo HBX.out,hbj]
  clear hbj;have hne1: ¬(256+j2=322):=by omega
  have hne2: ¬(322=256+j2):=by omega
  have HJ2:=ab hj2;clear hj2;refine aw [some 15,none] (by kernel_rfl) (by kernel_rfl) (by kernel_rfl) ?_;simp only[bi,List.take_succ_cons,List.take_zero,List.drop_succ_cons,List.drop_zero]
  repeat (first | (refine aG rfl ?_; simp only[Act.put,aB,aC,aD]) | (refine aL rfl (fun K hK=> ?_); go_simp; refine hK _ ?_; clear hK K))
  refine aK ?_;refine bA rfl (fun K hK=> ?_);go_wp2_with fail
  go_end0
  refine⟨rfl,⟨_,fm (fm (show X.drew.heap[rb]? =_ from HBX.out) _) _, ?_, ?_, ?_⟩,bD (bD (kB HGX.out) _ _) _ _⟩
  ·rw[HJ2.out];have hlen:=(jN n d).symm;refine HR.out.push (b:=b) (q:=l) (s2:=s2) (n2:=n2) ?_ ?_ hs264 ?_ ?_ ?_ ?_ ?_ hW2 ?_
   ·intro i hi;rw[List.getElem?_set_ne (by omega),List.getElem?_set_ne (by omega),List.getElem?_set_ne (by omega),HC1.out,List.getElem?_set_ne (by omega)]
   ·exact HCX.out.1
   ·rw[HC1.out]; simp; omega
   ·rw[List.getElem?_set_ne (by omega),List.getElem?_set_ne (by omega),List.getElem?_set_self (by rw[HC1.out]; simp; omega),HH2.out,HH1.out,HT.out.1,HT.out.2,HX.out.2.2.1,ru hW (by have:=HN.out; omega),HX.out.1];have:=vn (nr seed) x b l (by omega);rw[hll]at this;unfold mu;rw[this]
    rfl
   ·rw[ru hW (by have:=HN.out; omega),HX.out.1]; rfl
   ·have:=HN2.out; omega
   ·have:=HN2.out; omega
   ·intro j c hc;have hjl:=(List.getElem?_eq_some_iff.1 hc).1;rw[List.getElem?_set_ne (by omega),List.getElem?_set_ne (by omega),List.getElem?_set_ne (by omega),HC1.out,List.getElem?_set_ne (by omega)];have:=HSW.out (j+1) c (by rw[HX.out.1]; exact hc);rw[show(s2+j)%64=(s+(j+1))%64 by have:=HS2.out; omega];exact this
  ·rw[HC1.out]; simp
  ·intro i hi;have:=HJ2.out;rw[List.getElem?_set_ne (by omega),List.getElem?_set_ne (by omega),List.getElem?_set_ne (by omega),List.getElem?_set_ne (by omega),List.getElem?_set_ne (by omega),HC1.out,List.getElem?_set_ne (by omega)]
 ·go_wp2_with fail;obtain⟨X,hX⟩: ∃X:World,X=U1:=⟨_,rfl⟩;rw[<-hX];obtain⟨s2,hs2⟩: ∃s2,s2=s:=⟨_,rfl⟩;obtain⟨n2,hn2⟩: ∃n2,n2=n:=⟨_,rfl⟩;have HBX:=ab (show X.heap[rb]? =some (.cells cs1.toArray ty (0,0)) by rw[hX]; exact HBU1.out);have HGX:=ab (show w.grownBy X (some rb) by rw[hX]; exact HGU1.out);have HCX:=ab (show cs1[321]? =some (.int .i64 (s2:Int))/\cs1[322]? =some (.int .i64 (n2:Int))from⟨by rw[HC1.out,List.getElem?_set_ne (by decide),HSC.out,hs2],by rw[HC1.out,List.getElem?_set_ne (by decide),HLN.out,hn2]⟩)
  have HRX:=ab (show ∀j,j<64-> ∃c,cs1[256+j]? =some (an c)from fun j hj=>by
   rw[HC1.out,List.getElem?_set_ne (by omega)];exact HR.out.rng j hj)
  have hs264:s2<64:=by omega
  have hn264:n2<64:=by have:=HN.out; omega
  have HS2:=ab hs2;have HN2:=ab hn2;clear hX hs2 hn2;have hbt2:=hbt;obtain⟨j2,hj2⟩: ∃j2,j2=(s2+n2)%64:=⟨_,rfl⟩;have hj64:j2<64:=by omega
  have hj64i:(j2:Int)<64:=by omega
  have hadd:IntKind.i64.wrap ((s2:Int)+(n2:Int))=(s2:Int)+(n2:Int):=by rw[IntKind.wrap_i64]; omega
  have hmod:((s2:Int)+(n2:Int))%64=(j2:Int):=by omega
  have hmod2:Int.tmod ((s2:Int)+(n2:Int)) 64=(j2:Int):=by rw[Int.tmod_eq_emod_of_nonneg (by omega)]; omega
  have hmod3:IntKind.i64.wrap (j2:Int)=(j2:Int):=by rw[IntKind.wrap_i64]; omega
  have hinc:IntKind.i64.wrap ((n2:Int)+1)=((n2+1:Nat):Int):=by rw[IntKind.wrap_i64]; omega
  have c321:X.cell? ⟨rb,321,none⟩=some (.int .i64 (s2:Int)):=by rw[bo HBX.out,HCX.out.1]
  have c322:X.cell? ⟨rb,322,none⟩=some (.int .i64 (n2:Int)):=by rw[bo HBX.out,HCX.out.2]
  have cf1:X.frozen? ⟨rb,256+j2,none⟩=false:=frozen_of_row X _ _ _ _ HBX.out;have cf2:X.frozen? ⟨rb,322,none⟩=false:=frozen_of_row X _ _ _ _ HBX.out;obtain⟨bj,hbj⟩:=HRX.out j2 hj64;have cbj:X.cell? ⟨rb,256+j2,none⟩=some (an bj):=by rw[bo HBX.out,hbj]
  clear hbj;have hne1: ¬(256+j2=322):=by omega
  have hne2: ¬(322=256+j2):=by omega
  have HJ2:=ab hj2;clear hj2;refine aw [some 15,none] (by kernel_rfl) (by kernel_rfl) (by kernel_rfl) ?_;simp only[bi,List.take_succ_cons,List.take_zero,List.drop_succ_cons,List.drop_zero]
  repeat (first | (refine aG rfl ?_; simp only[Act.put,aB,aC,aD]) | (refine aL rfl (fun K hK=> ?_); go_simp; refine hK _ ?_; clear hK K))
  refine aK ?_;refine bA rfl (fun K hK=> ?_);go_wp2_with fail
  go_end0
  have hdl:d.length<W:=by have:=HN.out; omega
  refine⟨rfl,⟨_,fm (fm (show X.drew.heap[rb]? =_ from HBX.out) _) _, ?_, ?_, ?_⟩,bD (bD (kB HGX.out) _ _) _ _⟩
  ·rw[HJ2.out];refine HR.out.push (b:=b) (q:=iF W d) (s2:=s2) (n2:=n2) ?_ ?_ hs264 ?_ ?_ (rr hdl b) ?_ ?_ hW2 ?_
   ·intro i hi;rw[HC1.out,List.getElem?_set_ne (by omega)]
   ·exact HCX.out.1
   ·rw[HC1.out]; simp; omega
   ·rw[HC1.out,List.getElem?_set_self (by omega),HH1.out,HT.out.1,HT.out.2,rr hdl];unfold mu;rw[go]
   ·rw[jN,<-HN.out,HN2.out]
   ·have:=HN2.out; have:=HN.out; omega
   ·intro j c hc;rw[HC1.out,List.getElem?_set_ne (by omega),HS2.out];exact HSW.out j c hc
  ·rw[HC1.out]; simp
  ·intro i hi;have:=HJ2.out;rw[List.getElem?_set_ne (by omega),List.getElem?_set_ne (by omega),HC1.out,List.getElem?_set_ne (by omega)]
end Go.Proofs.YtpffpjbkbaleiaaGreatDoor
namespace Go.Proofs.YtpffpjbkbaleiaaGreatDoor
open Go Go.RowKit
structure sL (w : World) : Prop where
 tab:TabAt 6 Lib.deBruijn64tab w
 lt:6<w.heap.size
theorem sL.block {w w':World} (h:sL w) (hb:w'.heap[6]? =w.heap[6]?) (hs:w.heap.size<=w'.heap.size):sL w':=
 ⟨fun j hj=>by rw[<-h.tab j hj]; exact World.cell?_of_block hb,Nat.lt_of_lt_of_le h.lt hs⟩
theorem sL.below {w0 w w':World} (h:sL w) (hb:Below w0.heap.size w w') (hlt:6<w0.heap.size):sL w':=h.block (hb.block _ hlt) hb.size
theorem sL.grown {w w':World} {r:Option Nat} (h:sL w) (hg:w.grownBy w' r) (hr:r≠some 6):sL w':=h.block (hg.block _ h.lt (fun e=>hr e.symm)) hg.size
theorem jH (rb n:Nat) (w:World) (h:w.cell? ⟨rb,322,none⟩=some (.int .i64 (n:Int))):Calls Tryz.prog 201 #[.pointer (some ⟨rb,0,none⟩)] w fun e w'=>e= .returned (.int .i64 (n:Int))/\w=w':=by
 go_enter Tryz.func201,Tryz.ntmps201
 go_wp2_with fail;go_ret;exact⟨rfl,rfl⟩
theorem jI (rb n:Nat) (w:World) (h:w.cell? ⟨rb,323,none⟩=some (.int .u64 (n:Int))):Calls Tryz.prog 203 #[.pointer (some ⟨rb,0,none⟩)] w fun e w'=>e= .returned (.int .u64 (n:Int))/\w=w':=by
 go_enter Tryz.func203,Tryz.ntmps203
 go_wp2_with fail;go_ret;exact⟨rfl,rfl⟩
theorem zD (x:Nat) (w:World) (hx:x<18446744073709551616) (hT:sL w):Calls Tryz.prog 202 #[.int .u64 (x:Int)] w fun e w'=>e= .returned (.int .i64 ((Lib.ctz 64 x:Nat):Int))/\w=w':=by
 go_enter Tryz.func202,Tryz.ntmps202
 go_wp2_with fail;refine(Tryz.bits_TrailingZeros64 x hx w (fun _=>hT.tab)).mono ?_;rintro e w' ⟨rfl,rfl⟩;go_wp2_with fail;go_ret;exact⟨rfl,rfl⟩
def rW (c:dD) (data:List UInt8) (p:Nat):Bool:=Dp c.seed c.win.toNat c.bits.toNat (data.take p)
structure lZ (c : dD) (data : List UInt8) (p : Nat) (cs : List Value) : Prop where
 roll:kj c.seed c.win.toNat (data.take p) cs
 len:cs.length=331
 cut: ∀i,i<5->cs[324+i]? =(dr c)[i]?
 pos:cs[329]? =some (.int .i64 (p:Int))
 last:cs[330]? =some (.int .i64 (je (rW c data) c.mn.toNat p))
theorem tU (mk:Nat->Bool) (mn p:Nat): -(mn:Int)<=je mk mn p/\je mk mn p<=(p:Int):=by
 rcases vH (mk:=mk) (mn:=mn) p with⟨h,_⟩ | ⟨L,h,h1,h2,_⟩<;> rw[h]<;> omega
theorem Br (c:dD) (data:List UInt8) (p:Nat) (b:UInt8) (mb:Nat) (ty:TypeId) (cs:List Value) (w:World) (hc:ie c=true) (hb:data[p]? =some b) (hp:data.length<=1048576) (hbox:w.heap[mb]? =some (.cells cs.toArray ty (0,0))) (hm:lZ c data p cs) (hT:sL w) (hmb:mb≠6):
  Calls Tryz.prog 188 #[.pointer (some ⟨mb,0,none⟩), .int .u8 (b.toNat:Int)] w fun e w'=>e= .returned (.bool (oS (rW c data) c.mn.toNat (p+1)))/\(∃cs',w'.heap[mb]? =some (.cells cs'.toArray ty (0,0))/\lZ c data (p+1) cs')/\w.grownBy w' (some mb):=by
 have hv:=jL.1 hc;have HV:=ab hv;have HM:=ab hm;have HBX:=ab hbox;have HT:=ab hT;have hpl:=(List.getElem?_eq_some_iff.1 hb).1;have htk:data.take (p+1)=data.take p++[b]:=by rw[List.take_add_one,hb]; rfl
 have HTK:=ab htk;obtain⟨W,hW⟩: ∃W,W=c.win.toNat:=⟨_,rfl⟩;obtain⟨B,hB⟩: ∃B,B=c.bits.toNat:=⟨_,rfl⟩;obtain⟨mn,hmn⟩: ∃mn,mn=c.mn.toNat:=⟨_,rfl⟩;have hWi:c.win=(W:Int):=by omega
 have hBi:c.bits=(B:Int):=by omega
 have hmi:c.mn=(mn:Int):=by omega
 have hW1:1<=W:=by omega
 have hW2:W<=64:=by omega
 have HI:=ab (And.intro hW (And.intro hB (And.intro hmn (And.intro hWi (And.intro hBi hmi)))));clear hc hm hbox hT hb htk hv hW hB hmn hWi hBi hmi
 go_enter Tryz.func188,Tryz.ntmps188
 go_wp2_with fail;refine(Bc mb ty c.seed W (data.take p) b cs w HBX.out (by have:=HM.out.roll; rw[<-HI.out.1]at this; exact this) hW1 hW2).mono ?_;rintro e w1 ⟨rfl,⟨cs1,hb1,hr1,hl1,hk1⟩,hg1⟩;have HB1:=ab hb1;have HR1:=ab hr1;have HK1:=ab hk1;have HL1:=ab (hl1.trans HM.out.len);have HG1:=ab hg1;have HT1:=ab (HT.out.grown hg1 (fun e=>hmb (Option.some.inj e)));clear hb1 hr1 hk1 hl1 hg1
 have c329:w1.cell? ⟨mb,329,none⟩=some (.int .i64 (p:Int)):=by rw[bo HB1.out,HK1.out _ (by decide),HM.out.pos]
 have cf:w1.frozen? ⟨mb,329,none⟩=false:=frozen_of_row w1 _ _ _ _ HB1.out;have hinc:IntKind.i64.wrap ((p:Int)+1)=((p+1:Nat):Int):=by rw[IntKind.wrap_i64]; omega
 go_wp2_with fail;obtain⟨cs2,hcs2⟩: ∃cs2,cs2=cs1.set 329 (.int .i64 (((p:Nat):Int)+1)):=⟨_,rfl⟩;obtain⟨U,hU⟩: ∃U:World,U=w1.setCell ⟨mb,329,none⟩ (.int .i64 (((p:Nat):Int)+1)):=⟨_,rfl⟩;rw[<-hU];have HBU:=ab (show U.heap[mb]? =some (.cells cs2.toArray ty (0,0)) by rw[hU,hcs2]; exact fm HB1.out _);have HGU:=ab (show w.grownBy U (some mb) by rw[hU]; exact bD HG1.out _ _)
 have HTU:=ab (show sL U by rw[hU]; exact HT1.out.grown (aH _ _ _ _) (fun e=>hmb (Option.some.inj e)));have HC2:=ab hcs2;have HL2:=ab (show cs2.length=331 by rw[hcs2,List.length_set]; exact HL1.out);clear hU hcs2 c329 cf hinc;obtain⟨n,hn⟩: ∃n,n=min W (p+1):=⟨_,rfl⟩;obtain⟨h,hh⟩: ∃h,h=mu c.seed (iF W (data.take (p+1))):=⟨_,rfl⟩;have hhl:h<18446744073709551616:=by rw[hh]; exact tD _ _
 obtain⟨z,hz⟩: ∃z,z=Lib.ctz 64 h:=⟨_,rfl⟩;obtain⟨la,hla⟩: ∃la,la=je (rW c data) mn p:=⟨_,rfl⟩;have hlr: -(mn:Int)<=la/\la<=(p:Int):=by rw[hla]; exact tU _ _ _
 have c322:U.cell? ⟨mb,322,none⟩=some (.int .i64 (n:Int)):=by
  rw[bo HBU.out,HC2.out,List.getElem?_set_ne (by decide),HR1.out.len,hn,List.length_append,List.length_take,List.length_cons,List.length_nil,Nat.min_eq_left (by omega:p<=data.length)]
 have c323:U.cell? ⟨mb,323,none⟩=some (.int .u64 (h:Int)):=by
  rw[bo HBU.out,HC2.out,List.getElem?_set_ne (by decide),HR1.out.sum,hh,HTK.out]
 have c324:U.cell? ⟨mb,324,none⟩=some (.int .i64 (mn:Int)):=by
  rw[bo HBU.out,HC2.out,List.getElem?_set_ne (by decide),HK1.out _ (by decide),HM.out.cut 0 (by decide),<-HI.out.2.2.2.2.2]; rfl
 have c326:U.cell? ⟨mb,326,none⟩=some (.int .i64 (W:Int)):=by
  rw[bo HBU.out,HC2.out,List.getElem?_set_ne (by decide),HK1.out _ (by decide),HM.out.cut 2 (by decide),<-HI.out.2.2.2.1]; rfl
 have c327:U.cell? ⟨mb,327,none⟩=some (.int .i64 (B:Int)):=by
  rw[bo HBU.out,HC2.out,List.getElem?_set_ne (by decide),HK1.out _ (by decide),HM.out.cut 3 (by decide),<-HI.out.2.2.2.2.1]; rfl
 have c329:U.cell? ⟨mb,329,none⟩=some (.int .i64 ((p:Int)+1)):=by
  rw[bo HBU.out,HC2.out,List.getElem?_set_self (by rw[HL1.out]; decide)]
 have c330:U.cell? ⟨mb,330,none⟩=some (.int .i64 la):=by
  rw[bo HBU.out,HC2.out,List.getElem?_set_ne (by decide),HK1.out _ (by decide),HM.out.last,hla,HI.out.2.2.1]
 have hmk:rW c data (p+1)=(decide (W<=n) && decide (B<=z)):=by
  unfold rW Dp;rw[<-HI.out.1,<-HI.out.2.1,hz,hh]
  congr 1
  rw[decide_eq_decide,List.length_take]; omega
 have HMK:=ab hmk;have HH:=ab (And.intro hn (And.intro hh (And.intro hz hla)));have HDQ:=ab (show ∀n,sL (U.drewN n)from fun n=>HTU.out.block rfl (Nat.le_refl _));clear hn hh hz hla hmk;have HZ:=ab (show ∀m,Calls Tryz.prog 202 #[.int .u64 (h:Int)] (U.drewN m) fun e w'=>e= .returned (.int .i64 (z:Int))/\U.drewN m=w' from fun m=>by rw[HH.out.2.2.1]; exact zD h (U.drewN m) hhl (HDQ.out m))
 have HRO:=ab (show kj c.seed c.win.toNat (data.take (p+1)) cs2 by
  rw[<-HI.out.1,HTK.out,HC2.out];have h:=HR1.out;refine⟨fun i hi=> ?_,fun j hj=> ?_, ?_, ?_, ?_, ?_⟩
  ·rw[List.getElem?_set_ne (by omega)]; exact h.tab i hi
  ·rw[List.getElem?_set_ne (by omega)]; exact h.rng j hj
  ·rw[List.getElem?_set_ne (by omega)]; exact h.win
  ·obtain⟨s,h1,h2,h3⟩:=h.st;refine⟨s,h1,by rw[List.getElem?_set_ne (by omega)]; exact h2,fun j b hb=>by rw[List.getElem?_set_ne (by omega)]; exact h3 j b hb⟩
  ·rw[List.getElem?_set_ne (by omega)]; exact h.len
  ·rw[List.getElem?_set_ne (by omega)]; exact h.sum)
 have HCU:=ab (show ∀i,i<5->cs2[324+i]? =(dr c)[i]? from fun i hi=>by
  rw[HC2.out,List.getElem?_set_ne (by omega),HK1.out _ (by omega)]; exact HM.out.cut i hi)
 have HPO:=ab (show cs2[329]? =some (.int .i64 ((p+1:Nat):Int)) by rw[HC2.out,List.getElem?_set_self (by rw[HL1.out]; decide)]; rfl);have HLA:=ab (show cs2[330]? =some (.int .i64 la) by rw[HC2.out,List.getElem?_set_ne (by decide),HK1.out _ (by decide),HM.out.last,HH.out.2.2.2,HI.out.2.2.1]);have HNO:=ab (show rW c data (p+1)=false->(oS (rW c data) c.mn.toNat (p+1)=false/\lZ c data (p+1) cs2)from fun h0=>⟨by rw[oS,h0]; rfl,{
  roll:=HRO.out
  len:=HL2.out
  cut:=HCU.out
  pos:=HPO.out
  last:=by rw[je,if_neg (by rw[h0]; decide),<-HI.out.2.2.1,<-HH.out.2.2.2]; exact HLA.out}⟩)
 by_cases h1:n<W
 ·have h1i:(n:Int)<(W:Int):=by omega
  go_quiet ((first | (go_at_call 201; refine gx (jH mb n _ c322)) | (go_at_call 203; refine gx (jI mb h _ c323)) | (go_at_call 202; refine gx (HZ.out _))))
  go_wp2_with fail;go_ret;have hno:=HNO.out (by rw[HMK.out,decide_eq_false (by omega)]; rfl);exact⟨am hno.1.symm,⟨cs2,HBU.out,hno.2⟩,gK HGU.out _⟩
 ·have h1i:(W:Int)<=(n:Int):=by omega
  have h1j: ¬(n:Int)<(W:Int):=by omega
  by_cases h2:z<B
  ·have h2i:(z:Int)<(B:Int):=by omega
   go_quiet ((first | (go_at_call 201; refine gx (jH mb n _ c322)) | (go_at_call 203; refine gx (jI mb h _ c323)) | (go_at_call 202; refine gx (HZ.out _))))
   go_wp2_with fail;go_ret;have hno:=HNO.out (by rw[HMK.out,decide_eq_false (by omega: ¬B<=z),Bool.and_false]);exact⟨am hno.1.symm,⟨cs2,HBU.out,hno.2⟩,gK HGU.out _⟩
  ·have h2i:(B:Int)<=(z:Int):=by omega
   have h2j: ¬(z:Int)<(B:Int):=by omega
   go_quiet ((first | (go_at_call 201; refine gx (jH mb n _ c322)) | (go_at_call 203; refine gx (jI mb h _ c323)) | (go_at_call 202; refine gx (HZ.out _))))
   go_wp2_with fail;have cf:U.frozen? ⟨mb,330,none⟩=false:=frozen_of_row U _ _ _ _ HBU.out;have hsub:IntKind.i64.wrap ((p:Int)+1-la)=(p:Int)+1-la:=by have:=HV.out; have:=HI.out; rw[IntKind.wrap_i64]; omega
   go_quiet (fail)
   go_wp2_with fail;go_ret;have hyes:rW c data (p+1)=true:=by rw[HMK.out,decide_eq_true (by omega:W<=n),decide_eq_true (by omega:B<=z)]; rfl
   refine⟨am ?_,⟨cs2.set 330 (.int .i64 ((p:Int)+1)),fm (show(U.drewN _).heap[mb]? =_ from HBU.out) _, ?_⟩,bD (gK HGU.out _) _ _⟩
   ·rw[oS,hyes,Bool.true_and,<-HI.out.2.2.1,<-HH.out.2.2.2,decide_eq_decide]; simp
   ·have h:=HRO.out;have hcu:=HCU.out;refine⟨⟨fun i hi=> ?_,fun j hj=> ?_, ?_, ?_, ?_, ?_⟩,by rw[List.length_set]; exact HL2.out,fun i hi=> ?_, ?_, ?_⟩
    ·rw[List.getElem?_set_ne (by omega)]; exact h.tab i hi
    ·rw[List.getElem?_set_ne (by omega)]; exact h.rng j hj
    ·rw[List.getElem?_set_ne (by omega)]; exact h.win
    ·obtain⟨s,h1,h2,h3⟩:=h.st;refine⟨s,h1,by rw[List.getElem?_set_ne (by omega)]; exact h2,fun j b hb=>by rw[List.getElem?_set_ne (by omega)]; exact h3 j b hb⟩
    ·rw[List.getElem?_set_ne (by omega)]; exact h.len
    ·rw[List.getElem?_set_ne (by omega)]; exact h.sum
    ·rw[List.getElem?_set_ne (by omega)]; exact hcu i hi
    ·rw[List.getElem?_set_ne (by omega)]; exact HPO.out
    ·rw[List.getElem?_set_self (by rw[HL2.out]; decide),je,if_pos hyes]; rfl
end Go.Proofs.YtpffpjbkbaleiaaGreatDoor
namespace Go.Proofs.YtpffpjbkbaleiaaGreatDoor
open Go Go.RowKit
def Bi {α:Type} (Kp:World->World->Prop) (I:List α->World->Prop) (Ix:Code->List α->World->Prop) (xs:List α) (W:World):Exit->Act->World->Prop
 | .normal,_,B=>KeepsOthers W B/\Kp W B/\I xs B
 | .ret,_,B=>KeepsOthers W B/\Ix .ret xs B
 | .exit id,_,B=>KeepsOthers W B/\Ix (.exit id) xs B
 | .goto t,_,B=>KeepsOthers W B/\Ix (.goto t) xs B
 | .panic _,_,_=>False
 | .outgrown,_,_=>False
section
variable {P : Program} {α : Type}
theorem uU {W W':World} (h:Below W.heap.size W W'):W.grownBy W' none:=⟨h.os,h.tape,h.output,h.size,fun k hk _=>h.block k hk⟩
theorem nF {W:World} {l:Nat} {r:Loop} (h:W.heap[l]? =some (.loop r)) (o:Obj):(W.putObj l o).heap[l]? =some o:=World.putObj_heap_same (Array.getElem?_eq_some_iff.1 h).1
end
end Go.Proofs.YtpffpjbkbaleiaaGreatDoor
