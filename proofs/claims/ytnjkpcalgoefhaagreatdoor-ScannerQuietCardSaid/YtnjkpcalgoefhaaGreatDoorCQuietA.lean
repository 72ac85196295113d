/- Texts of this proof, one after the other: Plain, Glob, PlainB, OrdP, RefP, Base, Libc, PathA, PathB, TreeP, TreeQ, LitP, BelP, Segs, ShaP, ShaA, ShaB, Own, Seq, App, Held, WireA, WireB, WireD, Map, RefV, ItemA, Last, ItemE, ShaC, ShaD, ShaE. -/
import Derived.Lib.ValidLaws
import Derived.Lib.TrimUEq
import Derived.Lib.MapLaws
import Derived.Lib.SplitLaws
import Derived.Lib.Join
import Derived.Lib.Small
import Derived.Laws.RangeAny
import Derived.Test.YtnjkpcalgoefhaaGreatDoorRows
import Derived.Test.YtnjkpcalgoefhaaGreatDoorShelf
import Derived.WalkKit
import Derived.WalkSpells
import Derived.WalkLawsBesides
import Derived.Lib.Hide
import Derived.WalkSmall
import Derived.Deep.QuietTactic
import Derived.BigQuiet
import Derived.StillTailTactics
import Derived.Laws.Bits64b
import Derived.Laws.BitsAllLaws
import Derived.Deep.MidRow
import Derived.Laws.OwnMore
import Derived.OrdersHeld
import Derived.Deep.RegionHeld
import Derived.Laws.BytesArg
import Derived.Defers
import Derived.Recover
import Derived.Maps.OwnSet
import Derived.Maps.OwnOps
import Derived.DeepKeys5
import Derived.Laws.StructEq
import Derived.Laws.CopyOwn
import Derived.Laws.Slices
import Derived.Lib.ConvBytes
import Derived.Lib.TrailingZeros
import Derived.Test.YtnjkpcalgoefhaaGreatDoorCtz
import Derived.Lib.BufferWrite
import Derived.Maps.RangeWalk
import Derived.Shelf.Bytes.SlClone
import Derived.Lib.LazyBuf
import Derived.Laws.MakeOwn
import Derived.RangeFuncNested
import Derived.RangeFuncLeaves
import Derived.RangeFuncGives
import Derived.Lib.AppendStr
import Derived.RangeFuncBox
import Derived.Shelf.Abstract
import Derived.OwnWalkIn
import Derived.TacticsInMore
import Derived.LoopNIn
import Derived.LoopIn
import Derived.OrdersIn
import Derived.Deep.RegionWith
import Derived.Deep.RegionHeld3
import Derived.Laws.EntriesVeiled
import Derived.Lib.SlBytesConst
import Derived.ProofKit
import Derived.Carry
import Derived.Lay
import Derived.PinnedBridge
import Derived.Lib.LaidU8T
import Derived.SevenTiedAt
import Derived.HandedShaped
import Derived.Shelf.Vars
import Derived.Test.YtnjkpcalgoefhaaGreatDoorTie
import Derived.Test.YtnjkpcalgoefhaaGreatDoorCards
import Derived.Lib.SmallJoins
set_option maxRecDepth 100000
set_option maxHeartbeats 8000000
namespace Go.Proofs.YtnjkpcalgoefhaaGreatDoor
open Go Go.RowKit
theorem aM {α:Type} (l:List α) (i:Nat) (x:α):l.toArray.setIfInBounds i x=(l.set i x).toArray:=List.setIfInBounds_toArray ..
theorem aN {α:Type} (x:α) (l:List α) (i:Nat) (y:α):(x::l).set (i+1) y=x::l.set i y:=rfl
theorem aO {α:Type} (x:α) (l:List α) (y:α):(x::l).set 0 y=y::l:=rfl
theorem bZ {α:Type} :(∀(x:α) (l:List α),(x::l)[0]? =some x)/\(∀(x:α) (l:List α) (i:Nat),(x::l)[i+1]? =l[i]?):=⟨fun _ _=>rfl,fun _ _ _=>rfl⟩
theorem kt {α:Type} :(∀(l:List α) (i:Nat),l.toArray[i]? =l[i]?)/\(∀(x:α) (l:List α) (i:Nat),(x::l)[i+1]? =l[i]?)/\(∀(x:α) (l:List α),(x::l)[0]? =some x):=⟨fun _ _=>List.getElem?_toArray ..,fun _ _ _=>rfl,fun _ _=>rfl⟩
theorem ab {p:Prop} (h:p):RowKit.Hid p:=h
end Go.Proofs.YtnjkpcalgoefhaaGreatDoor
namespace Go.Proofs.YtnjkpcalgoefhaaGreatDoor
def ju (l:List UInt8):Bool:=l.all fun c=>decide (32<=c.toNat)
def mm (l:List UInt8):Bool:=ju l && Lib.validD l
def iB (l:List UInt8):Bool:= !l.isEmpty && decide (l.length<=64) && (l != [46]) && (l != [46,46]) && !l.contains 47 && mm l
def aw (c:UInt8):List UInt8->List (List UInt8)
 | []=>[[]]
 | b::l=>if b=c then []::aw c l else
  match aw c l with
  | h::t=>(b::h)::t
  | []=>[[b]]
def gU (ps:List (List UInt8)):List UInt8:=Lib.join ps [47]
def bp (l:List UInt8):Bool:=decide (l.length<=512) && decide ((aw 47 l).length<=16) && (aw 47 l).all iB
def cJ (c:UInt8):Int:=if c=47 then -1 else c.toNat
def bE :List UInt8->List UInt8->Int
 | [],[]=>0
 | [],_::_=> -1
 | _::_,[]=>1
 | a::l,b::r=>if a=b then bE l r else Lib.compareInt (cJ a) (cJ b)
theorem dW (c:UInt8) (l:List UInt8):aw c l≠[]:=by
 cases l with
 | nil=>simp[aw]
 | cons b l=>
  unfold aw
  split
  ·simp
  ·split<;> simp
theorem rS (c:UInt8) (l:List UInt8):1<=(aw c l).length:=by
 have:=dW c l
 cases h:aw c l with
 | nil=>exact absurd h this
 | cons a t=>simp
theorem ed (c:UInt8) (l:List UInt8):(aw c l).length<=l.length+1:=by
 induction l with
 | nil=>simp[aw]
 | cons b l ih=>
  unfold aw
  split
  ·simp; omega
  ·split
   ·rename_i h t e; rw[e]at ih; simp at ih ⊢; omega
   ·simp
theorem iI (c:UInt8) (p q:List UInt8) (hp:c∉p):aw c (p++c::q)=p::aw c q:=by
 induction p with
 | nil=>simp[aw]
 | cons b p ih=>
  have hb:b≠c:=fun e=>hp (by simp[e])
  have ih:=ih (fun h=>hp (List.mem_cons_of_mem _ h));simp only[List.cons_append,aw,if_neg hb,ih]
theorem eF (c:UInt8) (p:List UInt8) (hp:c∉p):aw c p=[p]:=by
 induction p with
 | nil=>rfl
 | cons b p ih=>
  have hb:b≠c:=fun e=>hp (by simp[e])
  have ih:=ih (fun h=>hp (List.mem_cons_of_mem _ h));simp only[aw,if_neg hb,ih]
theorem rR (c:UInt8) (l:List UInt8): ∀p∈aw c l,c∉p:=by
 induction l with
 | nil=>simp[aw]
 | cons b l ih=>
  unfold aw
  split
  ·intro p hp; rcases List.mem_cons.1 hp with rfl | hp
   ·simp
   ·exact ih p hp
  ·rename_i hb
   split
   ·rename_i h t e;rw[e]at ih;intro p hp; rcases List.mem_cons.1 hp with rfl | hp
    ·have:=ih h (by simp); simp[this,Ne.symm hb]
    ·exact ih p (by simp[hp])
   ·rename_i e; exact absurd e (dW c l)
theorem kx (c:UInt8) (l:List UInt8):Lib.join (aw c l) [c]=l:=by
 induction l with
 | nil=>rfl
 | cons b l ih=>
  unfold aw
  split
  ·rename_i hb; subst hb
   cases h:aw b l with
   | nil=>exact absurd h (dW b l)
   | cons a t=>rw[h]at ih; rw[Lib.join_cons]at *; simp[Lib.joinTail]at *; exact ih
  ·split
   ·rename_i h t e; rw[e]at ih; rw[Lib.join_cons]at *; simp at *; exact ih
   ·rename_i e; exact absurd e (dW c l)
theorem qf (c:UInt8) (ps:List (List UInt8)) (h0:ps≠[]) (h: ∀p∈ps,c∉p):aw c (Lib.join ps [c])=ps:=by
 induction ps with
 | nil=>exact absurd rfl h0
 | cons p ps ih=>
  cases ps with
  | nil=>rw[Lib.join_one]; exact eF c p (h p (by simp))
  | cons q ps=>
   have e:Lib.join (p::q::ps) [c]=p++c::Lib.join (q::ps) [c]:=by
    rw[Lib.join_cons,Lib.join_cons]; simp[Lib.joinTail]
   rw[e,iI c _ _ (h p (by simp)),ih (by simp) (fun x hx=>h x (by simp[hx]))]
theorem tG (l:List UInt8) (c:UInt8) (h:c∈l): ∃p q,l=p++c::q/\c∉p:=by
 induction l with
 | nil=>simp at h
 | cons b l ih=>
  by_cases hb:b=c
  ·exact⟨[],l,by simp[hb],by simp⟩
  ·have:c∈l:=(List.mem_cons.1 h).resolve_left (Ne.symm hb);obtain⟨p,q,rfl,hp⟩:=ih this;exact⟨b::p,q,rfl,by simp[hp,Ne.symm hb]⟩
theorem tF (p q:List UInt8) (c:UInt8) (hp:c∉p):Lib.index (p++c::q) [c]=(p.length:Int):=by
 induction p with
 | nil=>simp[Lib.index,List.isPrefixOf]
 | cons b p ih=>
  have hb:b≠c:=fun e=>hp (by simp[e])
  have ih:=ih (fun h=>hp (List.mem_cons_of_mem _ h));rw[List.cons_append,Lib.index,ih];have h1:([c]:List UInt8).isPrefixOf (b::(p++c::q))=false:=by simp[List.isPrefixOf,Ne.symm hb]
  have h2:((p.length:Int) == -1)=false:=by rw[beq_eq_false_iff_ne]; omega
  rw[h1,h2]; simp
theorem nI (c:UInt8): ∀(k:Nat) (s:List UInt8),s.count c=k->Lib.splitK [c] 0 k s=aw c s
 | 0,s,h=>by
  have:c∉s:=List.count_eq_zero.1 h;rw[eF c s this]; rfl
 | k+1,s,h=>by
  have hc:c∈s:=List.count_pos_iff.1 (by omega);obtain⟨p,q,rfl,hp⟩:=tG s c hc;have hq:q.count c=k:=by
   have h0:p.count c=0:=List.count_eq_zero.2 hp;rw[List.count_append,h0,List.count_cons_self]at h; omega
  rw[iI c p q hp,Lib.splitK,tF p q c hp,if_neg (by simp)];simp only[Int.toNat_natCast,Nat.add_zero,List.length_cons,List.length_nil,Nat.zero_add];rw[List.take_left];have e:(p++c::q).drop (p.length+1)=q:=by rw[List.drop_append]; simp
  rw[e,nI c k q hq]
theorem uS (c:UInt8) (s:ByteArray):(Lib.splitB ⟨#[c]⟩ 0 (Lib.countB s ⟨#[c]⟩) s).map (·.data.toList)=aw c s.data.toList:=by
 rw[Lib.splitB_data];exact nI c _ _ (by rw[Lib.countB,Lib.count_one])
theorem rP (c:UInt8) (s:ByteArray):(Lib.splitB ⟨#[c]⟩ 0 (Lib.countB s ⟨#[c]⟩) s).length=Lib.countB s ⟨#[c]⟩+1:=
 Lib.splitB_all ⟨#[c]⟩ (by simp[ByteArray.size]) 0 _ s rfl
theorem eQ (l:List UInt8) (c:UInt8):decide (0<=Lib.indexByte l c)=l.contains c:=by
 induction l with
 | nil=>simp[Lib.indexByte]
 | cons b l ih=>
  have hge:=Lib.indexByte_ge l c;unfold Lib.indexByte
  by_cases hb:b=c
  ·subst hb; simp
  ·have h1:(b == c)=false:=by simpa using hb
   have h2:(c == b)=false:=by simpa using Ne.symm hb
   rw[h1];simp only[Bool.false_eq_true,if_false,List.contains_cons,h2,Bool.false_or,<-ih]
   by_cases hm:Lib.indexByte l c= -1
   ·simp[hm]
   ·rw[if_neg (by simpa using hm)]; congr 1; apply propext; omega
theorem ph (s:ByteArray) (pos:Nat) (h:pos<s.size) (ha:128<=(s.get! pos).toNat):
  pos+(Utf8.decode s pos).2<=s.size/\ ∀j,pos<=j->j<pos+(Utf8.decode s pos).2->128<=(s.get! j).toNat:=by
 have hn: ¬(s.get! (pos+0)).toNat<128:=by simpa using ha
 simp only[Utf8.decode,hn,if_false]
 repeat' split
 all_goals simp_all
 all_goals (refine⟨by omega,fun j h1 h2=> ?_⟩)
 all_goals (rcases Nat.lt_or_ge j (pos+1)with h3 | h3)
 all_goals (first | (rw[show j=pos by omega]; exact ha) | skip)
 all_goals (rcases Nat.lt_or_ge j (pos+2)with h4 | h4)
 all_goals (first | (rw[show j=pos+1 by omega]; omega) | skip)
 all_goals (rcases Nat.lt_or_ge j (pos+3)with h5 | h5)
 all_goals (first | (rw[show j=pos+2 by omega]; omega) | skip)
 all_goals (first | (rw[show j=pos+3 by omega]; omega) | skip)
 all_goals omega
theorem rQ (c:UInt8) (p q:List UInt8):aw c (p++c::q)=aw c p++aw c q:=by
 induction p with
 | nil=>simp[aw]
 | cons b p ih=>
  simp only[List.cons_append,aw]
  by_cases hb:b=c
  ·simp[hb,ih]
  ·rw[if_neg hb,if_neg hb,ih]
   cases h:aw c p with
   | nil=>exact absurd h (dW c p)
   | cons a t=>simp
def aI (l:List UInt8):List UInt8:=gU (aw 47 l).dropLast
theorem fU (l:List UInt8) (h:47∉l):aI l=[]:=by
 unfold aI; rw[eF 47 l h]; rfl
theorem fi (p q:List UInt8) (h:47∉q):aI (p++47::q)=p:=by
 unfold aI gU;rw[rQ,eF 47 q h,List.dropLast_concat,kx]
theorem iS (l:List UInt8) (h:47∈l): ∃p q,l=p++47::q/\47∉q:=by
 induction l with
 | nil=>simp at h
 | cons b l ih=>
  by_cases hm:(47:UInt8)∈l
  ·obtain⟨p,q,rfl,hq⟩:=ih hm;exact⟨b::p,q,rfl,hq⟩
  ·rcases List.mem_cons.1 h with rfl | h
   ·exact⟨[],l,rfl,hm⟩
   ·exact absurd h hm
theorem jv (l:List UInt8):aI l=l.take (aI l).length:=by
 by_cases h:(47:UInt8)∈l
 ·obtain⟨p,q,rfl,hq⟩:=iS l h;rw[fi p q hq]; simp
 ·rw[fU l h]; simp
def fk :Nat->List UInt8->List Int
 | 0,_=>[]
 | n+1,l=>if l=[]then []else((Lib.decodeL l).1:Int)::fk n (l.drop (Lib.decodeL l).2)
def aS (l:List UInt8):List Int:=fk l.length l
structure bd where
 star:Bool
 any:Bool
 neg:Bool
 ranges:List (Int×Int)
structure aB where
 dbl:Bool
 items:List bd
def yV :bd:=⟨true,false,false,[]⟩
def zw :bd:=⟨false,true,false,[]⟩
def yh (r:Int):bd:=⟨false,false,false,[(r,r)]⟩
def js :List Int->Option (Int×List Int)
 | []=>none
 | q::u=>some (q,u)
def gh :List Int->Option (Int×List Int)
 | []=>none
 | r::t=>if r=92 then js t else if r=93\/r=94\/r=45 then none else some (r,t)
def cg :Nat->List Int->List (Int×Int)->Option (List (Int×Int)×List Int)
 | 0,_,_=>none
 | f+1,l,acc=>
  if l.head? =some 93 then some (acc,l.tail)else
  match gh l with
  | none=>none
  | some (lo,t)=>
   if t.head? =some 45 then
    match gh t.tail with
    | none=>none
    | some (hi,u)=>if hi<lo then none else cg f u (acc++[(lo,hi)])
   else cg f t (acc++[(lo,lo)])
def jf (t:List Int):Option (bd×List Int):=
 let neg:=decide (t.head? =some 94)
 let t':=if neg then t.tail else t
 match cg (t'.length+1) t' []with
 | none=>none
 | some (rs,u)=>if rs=[]then none else some (⟨false,false,neg,rs⟩,u)
def dM :List Int->Option (bd×List Int)
 | []=>none
 | r::t=>
  if r=42 then some (yV,t)else if r=63 then some (zw,t)else if r=91 then jf t
  else if r=92 then(js t).map (fun x=>(yh x.1,x.2))else some (yh r,t)
def eR :Nat->List Int->Option (List bd)
 | 0,_=>none
 | f+1,l=>if l=[]then some []else
  match dM l with
  | none=>none
  | some (it,t)=>match eR f t with | none=>none | some its=>some (it::its)
def dD (l:List Int):Option (List bd):=eR (l.length+1) l
def gd (p:List UInt8):Option aB:=
 if p=[42,42]then some ⟨true,[]⟩else
 match dD (aS p)with
 | none=>none
 | some its=>if its=[]then none else some ⟨false,its⟩
def bN :List (List UInt8)->Option (List aB)
 | []=>some []
 | p::r=>match gd p with
  | none=>none
  | some c=>match bN r with | none=>none | some cs=>some (c::cs)
def fH (l:List UInt8):Option (List aB):=
 if 512<l.length\/mm l=false then none else if 16<(aw 47 l).length then none else bN (aw 47 l)
def eL {T:Type} (f:List T->Bool):List T->Bool
 | []=>f []
 | t::us=>f (t::us) || eL f us
def pB {T:Type} (m:T->Bool) (f:List T->Bool):List T->Bool
 | []=>false
 | t::us=>m t && f us
def dv {P T:Type} (star:P->Bool) (m:P->T->Bool):List P->List T->Bool
 | [],ts=>ts.isEmpty
 | p::ps,ts=>if star p then eL (dv star m ps) ts else pB (m p) (dv star m ps) ts
def vi (r:Int) (x:Int×Int):Bool:=decide (x.1<=r) && decide (r<=x.2)
def cZ (it:bd) (r:Int):Bool:=it.any || ((it.ranges.any (vi r)) != it.neg)
def sC (c:aB) (part:List UInt8):Bool:=dv (·.star) cZ c.items (aS part)
def fr (cs:List aB) (parts:List (List UInt8)):Bool:=dv (·.dbl) sC cs parts
theorem ic {l t:List Int} {r:Int} (h:gh l=some (r,t)):t.length<l.length:=by
 cases l with
 | nil=>simp[gh]at h
 | cons a l=>
  rw[gh]at h
  split at h
  ·cases l with
   | nil=>simp[js]at h
   | cons q u=>simp[js]at h; obtain⟨_,rfl⟩:=h; simp; omega
  ·split at h
   ·simp at h
   ·simp at h; obtain⟨_,rfl⟩:=h; simp
theorem iO : ∀(f:Nat) {l:List Int} {acc:List (Int×Int)} {rs:List (Int×Int)} {u:List Int},cg f l acc=some (rs,u)->u.length<=l.length
 | 0,_,_,_,_,h=>by simp[cg]at h
 | f+1,l,acc,rs,u,h=>by
  unfold cg at h
  split at h
  ·simp at h; obtain⟨_,rfl⟩:=h; simp
  ·split at h
   ·simp at h
   ·rename_i lo t e;have h1:=ic e
    split at h
    ·split at h
     ·simp at h
     ·rename_i hi v e2;have h2:=ic e2;rw[List.length_tail]at h2
      split at h
      ·simp at h
      ·have:=iO f h; omega
    ·have:=iO f h; omega
theorem vO {t u:List Int} {it:bd} (h:jf t=some (it,u)):u.length<=t.length:=by
 unfold jf at h;simp only at h
 split at h
 ·simp at h
 ·rename_i rs v e;have:=iO _ e
  split at h
  ·simp at h
  ·simp only[Option.some.injEq,Prod.mk.injEq]at h;obtain⟨_,rfl⟩:=h
   split at this
   ·rw[List.length_tail]at this; omega
   ·exact this
theorem im {l t:List Int} {it:bd} (h:dM l=some (it,t)):t.length<l.length:=by
 cases l with
 | nil=>simp[dM]at h
 | cons a l=>
  rw[dM]at h
  split at h
  ·simp at h; obtain⟨_,rfl⟩:=h; simp
  ·split at h
   ·simp at h; obtain⟨_,rfl⟩:=h; simp
   ·split at h
    ·have:=vO h; simp; omega
    ·split at h
     ·cases l with
      | nil=>simp[js]at h
      | cons q u=>simp[js]at h; obtain⟨_,rfl⟩:=h; simp; omega
     ·simp at h; obtain⟨_,rfl⟩:=h; simp
theorem kw : ∀(f g:Nat) (l:List Int),l.length<f->l.length<g->eR f l=eR g l
 | 0,_,_,h,_=>by omega
 | _,0,_,_,h=>by omega
 | f+1,g+1,l,h1,h2=>by
  unfold eR
  split
  ·rfl
  ·split
   ·rfl
   ·rename_i it t e;have:=im e;rw[kw f g t (by omega) (by omega)]
theorem pH {l t:List Int} {it:bd} (hl:l≠[]) (h:dM l=some (it,t)):dD l=match dD t with | none=>none | some its=>some (it::its):=by
 have:=im h;unfold dD;rw[eR,if_neg hl,h];simp only;rw[kw l.length (t.length+1) t (by omega) (by omega)]
theorem re {l:List Int} (hl:l≠[]) (h:dM l=none):dD l=none:=by
 unfold dD;rw[eR,if_neg hl,h]
theorem gN : ∀(n:Nat) (l:List UInt8),(fk n l).length<=n
 | 0,_=>by simp[fk]
 | n+1,l=>by
  unfold fk
  split
  ·simp
  ·have:=gN n (l.drop (Lib.decodeL l).2); simp; omega
theorem eb (l:List UInt8):(aS l).length<=l.length:=gN _ _
theorem jA (s:ByteArray): ∀(n i:Nat) (acc:Array Value),Conv.runesFrom s n i acc=acc++((fk n (s.data.toList.drop i)).map (Value.int .i32)).toArray
 | 0,i,acc=>by simp[Conv.runesFrom,fk]
 | n+1,i,acc=>by
  unfold Conv.runesFrom fk;have hsz:s.size=s.data.toList.length:=Lib.size_eq s
  by_cases h:i<s.size
  ·rw[if_pos h,if_neg (by intro e; have:=List.drop_eq_nil_iff.1 e; omega)];simp only;rw[jA s n,Lib.decodeL_drop,List.drop_drop]
   apply Array.ext'
   simp
  ·rw[if_neg h,if_pos (List.drop_eq_nil_iff.2 (by omega))];simp
theorem rF (s:ByteArray):Conv.runesFrom s s.size 0 #[]=((aS s.data.toList).map (Value.int .i32)).toArray:=by
 rw[jA,Lib.size_eq];simp[aS]
theorem iF : ∀(f:Nat) (l:List Int) (its:List bd),eR f l=some its->its.length<=l.length
 | 0,_,_,h=>by simp[eR]at h
 | f+1,l,its,h=>by
  unfold eR at h
  split at h
  ·simp at h; subst h; simp
  ·split at h
   ·simp at h
   ·rename_i it t e;have:=im e
    split at h
    ·simp at h
    ·rename_i its2 e2;have h2:=iF f t its2 e2;simp at h; subst h; simp; omega
theorem oY {p:List UInt8} {c:aB} (h:gd p=some c):c.items.length<=p.length:=by
 unfold gd at h
 split at h
 ·simp at h; subst h; simp
 ·split at h
  ·simp at h
  ·rename_i its e;have h1:=iF _ _ _ e;have h2:=eb p
   split at h
   ·simp at h
   ·simp at h; subst h; simp; omega
theorem lx : ∀ {ps:List (List UInt8)} {cs:List aB},bN ps=some cs->cs.length=ps.length
 | [],cs,h=>by simp[bN]at h; subst h; rfl
 | p::ps,cs,h=>by
  unfold bN at h
  split at h
  ·simp at h
  ·split at h
   ·simp at h
   ·rename_i cs2 e2;simp at h; subst h;simp[lx e2]
theorem ji : ∀ {ps:List (List UInt8)} {cs:List aB} {m:Nat},bN ps=some cs->(∀p∈ps,p.length<=m)-> ∀c∈cs,c.items.length<=m
 | [],cs,m,h,_=>by simp[bN]at h; subst h; simp
 | p::ps,cs,m,h,hm=>by
  unfold bN at h
  split at h
  ·simp at h
  ·rename_i c0 e0
   split at h
   ·simp at h
   ·rename_i cs2 e2;simp at h; subst h;intro c hc
    rcases List.mem_cons.1 hc with rfl | hc
    ·have:=oY e0; have:=hm p (by simp); omega
    ·exact ji e2 (fun q hq=>hm q (by simp[hq])) c hc
structure aF where
 pat:List UInt8
 keep:Bool
 dir:Bool
 rooted:Bool
def aK (r:aF):Option (List aB):=
 if Lib.hasPrefix r.pat [33] || Lib.hasPrefix r.pat [35]then none else if r.pat.contains 47 && !r.rooted then none else fH r.pat
def nD (l:List UInt8):aF:=
 let l1:=Lib.trimPrefix l [33]
 let l2:=Lib.trimPrefix l1 [47]
 let p:=Lib.trimSuffix l2 [47]
 ⟨p,Lib.hasPrefix l [33],Lib.hasSuffix l2 [47],Lib.hasPrefix l1 [47] || p.contains 47⟩
def bF (l:List UInt8):Option aF:=if(aK (nD l)).isSome then some (nD l)else none
def ci :List (List UInt8)->Nat->List aF->List aF×Int×Int
 | [],_,acc=>(acc,0,0)
 | l::ls,i,acc=>if l=[]\/Lib.hasPrefix l [35]=true then ci ls (i+1) acc else
  match bF l with
  | none=>([],i+1,3)
  | some r=>if acc.length=256 then([],i+1,2)else ci ls (i+1) (acc++[r])
def bC (l:List UInt8):List aF×Int×Int:=if 65536<l.length then([],0,2)else ci (aw 10 l) 0 []
def dF (dir:Bool) (r:aF) (cs:List aB) (parts:List (List UInt8)) (n:Nat):Bool:=
 (dir || decide (n<parts.length) || !r.dir) && fr cs (if r.rooted then parts.take n else(parts.take n).drop (n-1))
def dL (dir:Bool) (parts:List (List UInt8)) (n:Nat):List (aF×List aB)->Bool->Bool
 | [],b=>b
 | (r,cs)::t,b=>dL dir parts n t (if dF dir r cs parts n then !r.keep else b)
def bH (dir:Bool) (parts:List (List UInt8)) (rs:List (aF×List aB)):Nat->Nat->Bool
 | 0,_=>false
 | f+1,n=>if dL dir parts n rs false then true else bH dir parts rs f (n+1)
def aH :List aF->Option (List (aF×List aB))
 | []=>some []
 | r::t=>match aK r with
  | none=>none
  | some cs=>match aH t with | none=>none | some u=>some ((r,cs)::u)
def cA (rs:List aF) (path:List UInt8) (dir:Bool):Bool×Int:=
 if bp path=false\/256<rs.length then(false,1)else
 match aH rs with
 | none=>(false,1)
 | some u=>(bH dir (aw 47 path) u (aw 47 path).length 1,0)
theorem fI {a b:UInt8} (h:cJ a=cJ b):a=b:=by
 unfold cJ at h
 split at h<;> split at h
 ·simp[*]
 ·omega
 ·omega
 ·apply UInt8.toNat_inj.1; omega
theorem sB : ∀(a b:List UInt8),bE b a= -bE a b
 | [],[]=>by simp[bE]
 | [],_::_=>by simp[bE]
 | _::_,[]=>by simp[bE]
 | a::l,b::r=>by
  unfold bE
  by_cases h:a=b
  ·rw[if_pos h,if_pos h.symm]; exact sB l r
  ·rw[if_neg h,if_neg (Ne.symm h)];have:cJ a≠cJ b:=fun e=>h (fI e)
   unfold Lib.compareInt
   rcases Int.lt_trichotomy (cJ a) (cJ b)with h1 | h1 | h1
   ·rw[if_neg (by omega),if_pos (by omega),if_pos h1]; rfl
   ·exact absurd h1 this
   ·rw[if_pos (by omega),if_neg (by omega),if_pos (by omega)]
theorem jg : ∀(a b:List UInt8),bE a b=0<->a=b
 | [],[]=>by simp[bE]
 | [],_::_=>by simp[bE]
 | _::_,[]=>by simp[bE]
 | a::l,b::r=>by
  unfold bE
  by_cases h:a=b
  ·rw[if_pos h,jg l r]; simp[h]
  ·rw[if_neg h];have:cJ a≠cJ b:=fun e=>h (fI e)
   unfold Lib.compareInt
   constructor
   ·intro e; split at e
    ·omega
    ·split at e<;> omega
   ·intro e; simp at e; exact absurd e.1 h
theorem nd : ∀(a b c:List UInt8),bE a b<=0->bE b c<=0->bE a c<=0/\(bE a c=0->bE a b=0/\bE b c=0)
 | [],b,[],h1,h2=>by
  cases b with
  | nil=>simp[bE]
  | cons x b=>simp[bE]at h2
 | [],_,_::_,_,_=>by simp[bE]
 | _::_,[],_,h1,_=>by simp[bE]at h1
 | x::a,y::b,[],_,h2=>by simp[bE]at h2
 | x::a,y::b,z::c,h1,h2=>by
  unfold bE at h1 h2 ⊢
  by_cases hxy:x=y
  ·subst hxy;rw[if_pos rfl]at h1 ⊢
   by_cases hxz:x=z
   ·subst hxz;rw[if_pos rfl]at h2 ⊢;rw[if_pos rfl];exact nd a b c h1 h2
   ·rw[if_neg hxz]at h2 ⊢;rw[if_neg hxz];refine⟨h2,fun e=> ?_⟩
    exfalso
    have:cJ x≠cJ z:=fun e=>hxz (fI e)
    unfold Lib.compareInt at e
    split at e
    ·omega
    ·split at e<;> omega
  ·rw[if_neg hxy]at h1 ⊢;have n1:cJ x≠cJ y:=fun e=>hxy (fI e)
   have l1:cJ x<cJ y:=by
    unfold Lib.compareInt at h1
    split at h1
    ·assumption
    ·split at h1
     ·omega
     ·omega
   by_cases hyz:y=z
   ·subst hyz;rw[if_neg hxy];refine⟨h1,fun e=> ?_⟩
    exfalso
    unfold Lib.compareInt at e;rw[if_pos l1]at e; omega
   ·rw[if_neg hyz]at h2;have n2:cJ y≠cJ z:=fun e=>hyz (fI e)
    have l2:cJ y<cJ z:=by
     unfold Lib.compareInt at h2
     split at h2
     ·assumption
     ·split at h2<;> omega
    have n3:x≠z:=fun e=>by subst e; omega
    rw[if_neg n3];unfold Lib.compareInt;rw[if_pos (by omega)];exact⟨by omega,fun e=>by omega⟩
theorem sA : ∀(p q:List UInt8),bE p (p++q)<=0
 | [],[]=>by simp[bE]
 | [],_::_=>by simp[bE]
 | a::p,q=>by rw[List.cons_append,bE,if_pos rfl]; exact sA p q
theorem ql (ps:List (List UInt8)) (p:List UInt8):gU (ps++[p])=if ps=[]then p else gU ps++[47]++p:=by
 cases ps with
 | nil=>simp[gU,Lib.join_one]
 | cons q ps=>
  simp only[List.cons_append,gU,Lib.join_cons,if_neg (List.cons_ne_nil q ps)];have: ∀(l:List (List UInt8)),Lib.joinTail [47] (l++[p])=Lib.joinTail [47] l++47::p:=by
   intro l
   induction l with
   | nil=>simp[Lib.joinTail]
   | cons a l _=>simp only[List.cons_append,Lib.joinTail]; simp
  rw[this]; simp
open Go.RowKit
def bl (s:ByteArray):List UInt8:=s.data.toList
theorem xU (s:ByteArray):s.data.toList=bl s:=rfl
theorem bz (s:ByteArray):s.toList=bl s:=by rw[ByteArray.toList_eq]; rfl
theorem ki (l:List UInt8):bl ⟨l.toArray⟩=l:=by simp[bl]
theorem pL (s:ByteArray):(⟨(bl s).toArray⟩:ByteArray)=s:=by cases s; simp[bl]
theorem aJ (s:ByteArray):s.size=(bl s).length:=Lib.size_eq s
theorem qG (s:ByteArray) (a b:Nat):bl (s.extract a b)=((bl s).take b).drop a:=by unfold bl; rw[Lib.extract_data]; rw[List.drop_take]
theorem iM {s t:ByteArray} (h:bl s=bl t):s=t:=by rw[<-pL s,<-pL t,h]
def dN (S:Nat->Prop) (w w':World):Prop:= ∀k,S k->w'.heap[k]? =w.heap[k]?
theorem dN.refl (S:Nat->Prop) (w:World):dN S w w:=fun _ _=>rfl
theorem dN.trans {S:Nat->Prop} {a b c:World} (h:dN S a b) (k:dN S b c):dN S a c:=fun i hi=>(k i hi).trans (h i hi)
theorem dN.cell {S:Nat->Prop} {w w':World} (h:dN S w w') {a:Addr} (ha:S a.block):w'.cell? a=w.cell? a:=World.cell?_of_block (h a.block ha)
theorem dN.mono {S T:Nat->Prop} {w w':World} (h:dN S w w') (hT: ∀k,T k->S k):dN T w w':=fun k hk=>h k (hT k hk)
theorem ay {w:World} {a:Addr} {v:Value} (h:w.cell? a=some v):a.block<w.heap.size:=by
 rcases Nat.lt_or_ge a.block w.heap.size with h' | h'
 ·exact h'
 ·simp[World.cell?,Array.getElem?_eq_none h']at h
def aD (S:Nat->Prop) (w:World) (sz:Nat) (v:Value) (n:Nat) (cells:List Value):Prop:=
 cells.length=n*sz/\ ∃a cap,v= .slice a n cap/\n<=cap/\cap<=maxLen/\
  (n=0\/ ∃b o,a=some ⟨b,o,none⟩/\S b/\ ∀(j:Nat) u,cells[j]? =some u->w.cell? ⟨b,o+j,none⟩=some u)
theorem aD.same {S:Nat->Prop} {w w':World} {sz:Nat} {v:Value} {n:Nat} {cells:List Value} (h:aD S w sz v n cells) (hs:dN S w w'):aD S w' sz v n cells:=by
 obtain⟨hl,a,cap,hv,hn,hm,h0⟩:=h;refine⟨hl,a,cap,hv,hn,hm, ?_⟩
 rcases h0 with h0 | ⟨b,o,ha,hb,hc⟩
 ·exact .inl h0
 ·exact .inr ⟨b,o,ha,hb,fun j u hu=>(hs.cell (a:=⟨b,o+j,none⟩) hb).trans (hc j u hu)⟩
theorem aD.mono {S T:Nat->Prop} {w:World} {sz:Nat} {v:Value} {n:Nat} {cells:List Value} (h:aD S w sz v n cells) (hs: ∀k,k<w.heap.size->S k->T k):0<sz->aD T w sz v n cells:=by
 intro hsz;obtain⟨hl,a,cap,hv,hn,hm,h0⟩:=h;refine⟨hl,a,cap,hv,hn,hm, ?_⟩
 rcases h0 with h0 | ⟨b,o,ha,hb,hc⟩
 ·exact .inl h0
 ·rcases Nat.eq_zero_or_pos n with h | h
  ·exact .inl h
  ·refine .inr ⟨b,o,ha,hs b ?_ hb,hc⟩;have:0<cells.length:=by rw[hl]; exact Nat.mul_pos h hsz
   exact ay (a:=⟨b,o+0,none⟩) (hc 0 cells[0] (by simp[this]))
theorem aD.below {S:Nat->Prop} {w w':World} {sz:Nat} {v:Value} {n:Nat} {cells:List Value} (h:aD S w sz v n cells) (hsz:0<sz) (hb:Below w.heap.size w w'):aD S w' sz v n cells:=by
 have h2:=h.mono (T:=fun k=>S k/\k<w.heap.size) (fun k hk hS=>⟨hS,hk⟩) hsz;have h3:=h2.same (w':=w') (fun k hk=>hb.block k hk.2);obtain⟨hl,a,cap,hv,hn,hm,h0⟩:=h3;refine⟨hl,a,cap,hv,hn,hm, ?_⟩
 rcases h0 with h0 | ⟨b,o,ha,hb,hc⟩
 ·exact .inl h0
 ·exact .inr ⟨b,o,ha,hb.1,hc⟩
theorem aD.nil (S:Nat->Prop) (w:World) (sz:Nat):aD S w sz (.slice none 0 0) 0 []:=⟨by simp,none,0,rfl,Nat.le_refl _,by unfold maxLen; omega, .inl rfl⟩
def dg (S:Nat->Prop) (w:World) (v:Value) (xs:List ByteArray):Prop:=aD S w 1 v xs.length (xs.map Value.string)
theorem dg.shape {S:Nat->Prop} {w:World} {v:Value} {xs:List ByteArray} (h:dg S w v xs):
  ∃a cap,v= .slice a xs.length cap/\xs.length<=cap/\cap<=maxLen/\ ∀k x,xs[k]? =some x-> ∃b o,a=some ⟨b,o,none⟩/\S b/\w.cell? ⟨b,o+k,none⟩=some (.string x):=by
 obtain⟨_,a,cap,hv,hn,hm,h0⟩:=h;refine⟨a,cap,hv,hn,hm,fun k x hk=> ?_⟩
 rcases h0 with h0 | ⟨b,o,ha,hb,hc⟩
 ·simp[List.eq_nil_of_length_eq_zero h0]at hk
 ·exact⟨b,o,ha,hb,hc k _ (by simp[hk])⟩
structure iz (w : World) : Prop where
 maxLen: ∃m,w.cell? ⟨0,0,none⟩=some (.int .i64 m)
 tabs:Lib.Utf8Tabs 2 3 w
theorem iz.below {w w':World} (h:iz w) (hb:Below w.heap.size w w'):iz w':=by
 obtain⟨⟨m,hm⟩,ht⟩:=h;exact⟨⟨m,(hb.cell (ay hm)).trans hm⟩,Utf8Tabs_below ht hb⟩
theorem iz.lt {w:World} (h:iz w):0<w.heap.size/\2<w.heap.size/\3<w.heap.size:=by
 obtain⟨⟨m,hm⟩,ht⟩:=h;exact⟨ay hm,ay (ht.1 0 (by omega)),ay (ht.2 0 (by omega)).1⟩
theorem iz.belowB {B:Nat} {w w':World} (h:iz w) (hb:Below B w w') (h0:0<B) (h1:2<B) (h2:3<B):iz w':=by
 obtain⟨⟨m,hm⟩,ht⟩:=h;exact⟨⟨m,(hb.cell h0).trans hm⟩,fun c hc=>(hb.cell (p:=⟨2,c,none⟩) h1).trans (ht.1 c hc),fun i hi=>⟨(hb.cell (p:=⟨3,2*i,none⟩) h2).trans (ht.2 i hi).1,(hb.cell (p:=⟨3,2*i+1,none⟩) h2).trans (ht.2 i hi).2⟩⟩
theorem al {a b:Bool} (h:a=b):Ending.returned (.bool a)= .returned (.bool b):=by rw[h]
theorem cr {k:IntKind} {a b:Int} (h:a=b):Ending.returned (.int k a)= .returned (.int k b):=by rw[h]
theorem af {w w1 w2:World} (h:Below w.heap.size w w1) (k:Below w1.heap.size w1 w2):Below w.heap.size w w2:=h.trans (k.mono h.size)
theorem eU {P:Program} {f:FuncId} {args:Array Value} {w:World} {n:Nat} {v:Value}
  (h:Calls P f args (w.drewN n) fun e w'=>e= .returned v/\w.drewN n=w'):Calls P f args (w.drewN n) fun e w''=>e= .returned v/\ ∃m,w''=w.drewN m:=
 h.mono fun _ _ ⟨he,hm⟩=>⟨he,n,hm.symm⟩
theorem em {B:Nat} {a w:World} (h:Below B a w) (n:Nat):Below B a (w.drewN n):=h.trans ⟨rfl,rfl,rfl,Nat.le_refl _,fun _ _=>rfl⟩
theorem jk (s:ByteArray) (c:UInt8) (w:World):
  Calls Tryz.prog 111 #[.string s, .string ⟨#[c]⟩] w fun e w'=>e= .returned (.bool ((bl s).contains c))/\w=w':=
 (Tryz.strings_Contains_one s c w).mono fun _ _ ⟨he,hw⟩=>⟨by rw[he]; exact congrArg _ (congrArg _ (eQ (bl s) c)),hw.symm⟩
theorem kQ (s:ByteArray) (w:World) (he:iz w) (hs:s.size<=9223372036854775807):
  Calls Tryz.prog 169 #[.string s] w fun e w'=>e= .returned (.bool (Lib.validD (bl s)))/\Below w.heap.size w w':=Tryz.utf8_ValidString s w hs he.tabs
theorem mF (s p:ByteArray) (w:World):
  Calls Tryz.prog 71 #[.string s, .string p] w fun e w'=>e= .returned (.bool (Lib.hasPrefix (bl s) (bl p)))/\w=w':=
 (Tryz.strings_HasPrefix s p w).mono fun _ _ ⟨he,hw⟩=>⟨he,hw.symm⟩
theorem mD (s p:ByteArray) (w:World):
  Calls Tryz.prog 109 #[.string s, .string p] w fun e w'=>e= .returned (.tuple #[.string ⟨(Lib.trimPrefix (bl s) (bl p)).toArray⟩, .bool (Lib.hasPrefix (bl s) (bl p))])/\w=w':=
 (Tryz.strings_CutPrefix s p w).mono fun _ _ ⟨he,hw⟩=>⟨he,hw.symm⟩
theorem mE (s p:ByteArray) (w:World) (hs:s.size<=9223372036854775807):
  Calls Tryz.prog 110 #[.string s, .string p] w fun e w'=>e= .returned (.tuple #[.string ⟨(Lib.trimSuffix (bl s) (bl p)).toArray⟩, .bool (Lib.hasSuffix (bl s) (bl p))])/\w=w':=
 (Tryz.strings_CutSuffix s p w hs).mono fun _ _ ⟨he,hw⟩=>⟨he,hw.symm⟩
theorem gw (x y:Int) (w:World):
  Calls Tryz.prog 101 #[.int .i64 x, .int .i64 y] w fun e w'=>e= .returned (.int .i64 (Lib.compareInt x y))/\w=w':=
 (Tryz.cmp_Compare_int x y w).mono fun _ _ ⟨he,hw⟩=>⟨he,hw.symm⟩
def tf (c:UInt8) (s:ByteArray) (w:World) (e:Ending) (w':World):Prop:=
 ∃xs:List ByteArray,xs.map bl=aw c (bl s)/\e= .returned (.slice (some ⟨w.heap.size,0,none⟩) xs.length xs.length)/\w'=w.alloc (.cells (xs.map Value.string).toArray 9)
theorem jU (s:ByteArray) (c:UInt8) (w:World) (he:iz w) (hs:s.size<4294967281):
  Calls Tryz.prog 70 #[.string s, .string ⟨#[c]⟩] w (tf c s w):=by
 obtain⟨m,hm⟩:=he.maxLen;refine(Tryz.strings_Split s ⟨#[c]⟩ m w hs hm (by simp[ByteArray.size])).mono fun e w' ⟨h1,h2⟩=> ?_
 refine⟨Lib.splitB ⟨#[c]⟩ 0 (Lib.countB s ⟨#[c]⟩) s,uS c s, ?_,h2⟩;rw[rP]; exact h1
def eG (l:List UInt8):Int:=if 47∈l then((aI l).length:Int)else -1
theorem yZ (c:UInt8) (h:(c.toNat:Int)=47):c=47:=by
 apply UInt8.toNat_inj.1
 have:c.toNat=47:=by omega
 rw[this]; rfl
theorem ou (s:ByteArray):Lib.lastIndexByte s 47=eG (bl s):=by
 unfold Lib.lastIndexByte;have get: ∀j,(hj:j<(bl s).length)->s.data[j]! =(bl s)[j]:=fun j hj=>by
  have h2:j<s.data.size:=by rw[<-aJ]at hj; exact hj
  rw[getElem!_pos s.data j h2];exact(Array.getElem_toList (xs:=s.data) h2).symm
 rw[aJ]
 generalize hl:bl s=l at *
 rcases Lib.lastIdx_spec s 47 l.length with⟨h1,h2⟩ | ⟨i,h1,h2,h3,h4⟩
 ·rw[h1];have:47∉l:=by
   intro hm;obtain⟨j,hj,e⟩:=List.getElem_of_mem hm;refine h2 j hj ?_;rw[get j hj,e]; rfl
  simp[eG,this]
 ·have e:l=l.take i++47::l.drop (i+1):=by
   have:=yZ _ h3;rw[get i h1]at this;rw[<-this]; simp
  have hq:47∉l.drop (i+1):=by
   intro hm;obtain⟨j,hj,e⟩:=List.getElem_of_mem hm;rw[List.length_drop]at hj;refine h4 (i+1+j) (by omega) (by omega) ?_;rw[get _ (by omega)];rw[List.getElem_drop]at e;rw[e]; rfl
  have hp:aI l=l.take i:=by
   have:=fi (l.take i) _ hq;rw[<-e]at this; exact this
  have hm:47∈l:=by rw[e]; simp
  rw[h2,eG,if_pos hm,hp,List.length_take]
  congr 1; omega
theorem mK (s:ByteArray) (w:World) (hs:s.size<4611686018427387904):
  Calls Tryz.prog 102 #[.string s, .string ⟨#[47]⟩] w fun e w'=>e= .returned (.int .i64 (eG (bl s)))/\w=w':=
 (Tryz.strings_LastIndex_one s ⟨#[47]⟩ rfl hs w).mono fun _ _ ⟨he,hw⟩=>⟨by rw[he]; exact congrArg _ (congrArg _ (ou s)),hw.symm⟩
theorem xn {s:ByteArray} {p q:Nat} (h: ∀j,j<p->j<s.size->32<=(s.get! j).toNat) (h2: ∀j,p<=j->j<q->128<=(s.get! j).toNat): ∀j,j<q->j<s.size->32<=(s.get! j).toNat:=by
 intro j hj hs
 rcases Nat.lt_or_ge j p with h' | h'
 ·exact h j h' hs
 ·have:=h2 j h' hj; omega
theorem wn (s:ByteArray) (j:Nat) (h:j<s.size):s.get! j=(bl s)[j]'(by rw[<-aJ]; exact h):=by
 have e:s.get! j=s.data[j]! :=rfl;have h2:j<s.data.size:=h;rw[e,getElem!_pos s.data j h2];simp[bl]
theorem yi {s:ByteArray} (h: ∀j,j<s.size->32<=(s.get! j).toNat):ju (bl s)=true:=by
 unfold ju;rw[List.all_eq_true];intro c hc;obtain⟨j,hj,rfl⟩:=List.getElem_of_mem hc;have hj2:j<s.size:=by rw[aJ]; exact hj
 have:=h j hj2;rw[wn s j hj2]at this
 simpa using this
theorem ww {s:ByteArray} {j:Nat} (hj:j<s.size) (h:(s.get! j).toNat<32):ju (bl s)=false:=by
 unfold ju;rw[List.all_eq_false];rw[wn s j hj]at h;exact⟨(bl s)[j]'(by rw[<-aJ]; exact hj),List.getElem_mem _,by rw[decide_eq_true_eq]; omega⟩
theorem lA (s:ByteArray) (pos:Nat) (h:pos<s.size):
  ((s.get! pos).toNat<128/\Utf8.decode s pos=((s.get! pos).toNat,1))\/(128<=(s.get! pos).toNat/\128<=(Utf8.decode s pos).1):=by
 have e:=get_at s pos h;rw[Nat.add_zero]at e
 rcases Nat.lt_or_ge (s.get! pos).toNat 128 with h1 | h1
 ·exact .inl ⟨h1,by rw[decode_ascii s pos h (by rw[<-e]; exact h1),<-e]⟩
 ·exact .inr ⟨h1,(decode_high s pos h (by rw[<-e]; exact h1)).1⟩
theorem iR (s:ByteArray) (w:World) (he:iz w) (hs:s.size<=9223372036854775807):
  Calls Tryz.prog 138 #[.string s] w fun e w'=>e= .returned (.bool (mm (bl s)))/\Below w.heap.size w w':=by
 have HE:=ab he;clear he
 go_enter Tryz.func138,Tryz.ntmps138
 go_wp2
 go_loopw [4] (fun _ wr=> ∃pos:Nat,wr=w.iter s pos/\ ∀j,j<pos->j<s.size->32<=(s.get! j).toNat) (fun _ wr=>s.size-wr.iterPos w.heap.size)
 case atStart=>exact⟨0,rfl,fun j hj=>by omega⟩
 case round=>
  obtain⟨pos,rfl,hlow⟩:=hrel;have HL:=ab hlow;clear hlow
  by_cases hp:pos<s.size
  ·have hnx: ∀ty,(Instr.next (.pointer (some ⟨w.heap.size,0,none⟩)) true ty).run Tryz.prog (w.iter s pos)=_:=fun ty=>run_next_any w s pos ty hp
   go_wp2
   ·go_ret;refine⟨al ?_,(Below.refl _ _).alloc (Nat.le_refl _) _⟩;have hlt:((Utf8.decode s pos).1:Int)<32:=by assumption
    have hd:=lA s pos hp;have hd2:(s.get! pos).toNat<32:=by
     rcases hd with⟨_,h2⟩ | ⟨_,h2⟩
     ·rw[h2]at hlt; simp only at hlt; omega
     ·omega
    simp[mm,ww hp hd2]
   ·go_roundw
    case rel=>
     refine⟨pos+(Utf8.decode s pos).2,rfl, ?_⟩;have hge:(32:Int)<=(Utf8.decode s pos).1:=by assumption
     rcases lA s pos hp with⟨h1,h2⟩ | ⟨h1,h2⟩
     ·intro j hj hjs;rw[h2]at hge hj
      rcases Nat.lt_or_ge j pos with h3 | h3
      ·exact HL.out j h3 hjs
      ·rw[show j=pos by simp at hj; omega]; simp at hge; omega
     ·exact xn HL.out (ph s pos hp h1).2
    case measure=>
     rw[World.iterPos_iter,World.iterPos_iter];have:=Lib.width_pos s pos;omega
  ·have hnx: ∀ty,(Instr.next (.pointer (some ⟨w.heap.size,0,none⟩)) true ty).run Tryz.prog (w.iter s pos)=_:=fun ty=>run_next_end w s pos ty hp
   go_wp2_with (go_at_call 169; refine(kQ s _ (HE.out.below ((Below.refl _ _).alloc (Nat.le_refl _) _)) hs).mono ?_; rintro e w' ⟨rfl,hb⟩);go_ret;refine⟨al ?_,af ((Below.refl _ _).alloc (Nat.le_refl _) _) hb⟩;simp only[mm,yi (fun j hj=>HL.out j (by omega) hj),Bool.true_and]
theorem gi (s:ByteArray) (w:World) (he:iz w) (hs:s.size<=9223372036854775807):
  Calls Tryz.prog 112 #[.string s] w fun e w'=>e= .returned (.bool (iB (bl s)))/\Below w.heap.size w w':=by
 have HE:=ab he;clear he
 go_enter Tryz.func112,Tryz.ntmps112
 go_wp2_with (first
  | (go_at_call 111; refine(jk _ _ _).mono ?_; rintro e w' ⟨rfl,rfl⟩)
  | (go_at_call 138; refine(iR _ _ HE.out hs).mono ?_; rintro e w' ⟨rfl,hb⟩))
 all_goals (go_ret; refine⟨al ?_,by first | exact Below.refl _ _ | exact hb⟩)
 all_goals (rw[Bool.eq_iff_iff]; simp_all [iB,bz,aJ])
 all_goals first | omega | (intros; omega)
def xF (s:ByteArray) (w:World) (e:Ending) (w':World):Prop:=
 ∃v xs,e= .returned (.tuple #[v, .int .i64 0])/\xs.map bl=aw 47 (bl s)/\dg (w.heap.size<= ·) w' v xs/\Below w.heap.size w w'
def vq (w:World) (e:Ending) (w':World):Prop:=e= .returned (.tuple #[.slice none 0 0, .int .i64 1])/\Below w.heap.size w w'
def vr (s:ByteArray) (w:World) (e:Ending) (w':World):Prop:=(bp (bl s)=true/\xF s w e w')\/(bp (bl s)=false/\vq w e w')
theorem jx {w:World} {xs:List Value} {e:TypeId} {k:Nat} {x:Value} (hx:xs[k]? =some x):(w.alloc (.cells xs.toArray e)).cell? ⟨w.heap.size,k,none⟩=some x:=by
 have h:=heap_alloc_new w (.cells xs.toArray e);simp only[World.cell?,h];simp[hx]
theorem ov {xs:List ByteArray} {k:Nat} {x:ByteArray} (hx:xs[k]? =some x):(xs.map Value.string)[k]? =some (.string x):=by simp[hx]
theorem uT {xs:List ByteArray} {s:ByteArray} (hx:xs.map bl=aw 47 (bl s)) (h1:(bl s).length<=512) (h2:xs.length<=16) (h: ∀(j:Nat) x,j<xs.length->xs[j]? =some x->iB (bl x)=true):bp (bl s)=true:=by
 have hl:(aw 47 (bl s)).length=xs.length:=by rw[<-hx]; simp
 have ha:(aw 47 (bl s)).all iB=true:=by
  rw[<-hx,List.all_map,List.all_eq_true];intro x hm;obtain⟨j,hj,rfl⟩:=List.getElem_of_mem hm;exact h j _ hj (by simp)
 simp[bp,h1,hl,h2,ha]
theorem uV {xs:List ByteArray} {s:ByteArray} {j:Nat} {x:ByteArray} (hx:xs.map bl=aw 47 (bl s)) (h:xs[j]? =some x) (hc:iB (bl x)=false):bp (bl s)=false:=by
 have ha:(aw 47 (bl s)).all iB=false:=by
  rw[<-hx,List.all_map,List.all_eq_false];exact⟨x,List.mem_of_getElem? h,by simp[hc]⟩
 simp[bp,ha]
theorem uU {xs:List ByteArray} {s:ByteArray} (hx:xs.map bl=aw 47 (bl s)) (h: ¬xs.length<=16):bp (bl s)=false:=by
 have hl:(aw 47 (bl s)).length=xs.length:=by rw[<-hx]; simp
 simp[bp,hl,h]
theorem rT {s:ByteArray} (h: ¬(bl s).length<=512):bp (bl s)=false:=by simp[bp,h]
theorem fR (c:UInt8) (l:List UInt8): ∀p∈aw c l,p.length<=l.length:=by
 induction l with
 | nil=>simp[aw]
 | cons b l ih=>
  unfold aw
  split
  ·intro p hp; rcases List.mem_cons.1 hp with rfl | hp
   ·simp
   ·have:=ih p hp; simp; omega
  ·split
   ·rename_i h t e;rw[e]at ih;intro p hp; rcases List.mem_cons.1 hp with rfl | hp
    ·have:=ih h (by simp); simp; omega
    ·have:=ih p (by simp[hp]); simp; omega
   ·intro p hp; simp at hp; simp[hp]
theorem jQ {xs:List ByteArray} {s:ByteArray} {c:UInt8} {j:Nat} {x:ByteArray} (hx:xs.map bl=aw c (bl s)) (h:xs[j]? =some x):x.size<=s.size:=by
 rw[aJ,aJ];exact fR c (bl s) (bl x) (by rw[<-hx]; exact List.mem_map.2 ⟨x,List.mem_of_getElem? h,rfl⟩)
theorem xl {w w':World} {xs:List ByteArray} {e:TypeId} (hl:xs.length<=maxLen) (hb:Below (w.heap.size+1) (w.alloc (.cells (xs.map Value.string).toArray e)) w'):
  dg (w.heap.size<= ·) w' (.slice (some ⟨w.heap.size,0,none⟩) xs.length xs.length) xs:=by
 refine⟨by simp,some ⟨w.heap.size,0,none⟩,xs.length,rfl,Nat.le_refl _,hl, .inr ⟨w.heap.size,0,rfl,Nat.le_refl _,fun j u hu=> ?_⟩⟩;rw[hb.cell (p:=⟨w.heap.size,0+j,none⟩) (by simp),Nat.zero_add];exact jx hu
theorem kF (s:ByteArray) (w:World) (he:iz w):Calls Tryz.prog 73 #[.string s] w (vr s w):=by
 have HE:=ab he;clear he
 by_cases h5:s.size<=512
 ·go_enter Tryz.func73,Tryz.ntmps73
  go_wp2_with fail;refine(jU s 47 w HE.out (by omega)).mono ?_;rintro e w' ⟨xs,hx,rfl,rfl⟩;have hxl:xs.length<=513:=by
   have h1:(aw 47 (bl s)).length=xs.length:=by rw[<-hx]; simp
   have h2:=ed 47 (bl s);rw[<-aJ]at h2;omega
  have HX:=ab hx;clear hx
  by_cases h16:xs.length<=16
  ·go_wp2_with fail
   go_loopw [17] (fun i wr=> ∃k:Nat,k<=xs.length/\i= .int .i64 k/\Below (w.heap.size+1) (w.alloc (.cells (xs.map Value.string).toArray 9)) wr/\ ∀(j:Nat) x,j<k->xs[j]? =some x->iB (bl x)=true) (fun i _=>xs.length-(intOf i).toNat)
   case atStart=>exact⟨0,Nat.zero_le _,rfl,Below.refl _ _,fun j x hj=>by omega⟩
   case round=>
    obtain⟨k,hk,rfl,hb,hall⟩:=hrel;have HA:=ab hall;clear hall
    by_cases hlt:k<xs.length
    ·obtain⟨x,hx⟩: ∃x,xs[k]? =some x:=⟨xs[k],by simp[hlt]⟩;have hcell:wr.cell? ⟨w.heap.size,k,none⟩=some (.string x):=(hb.cell (p:=⟨w.heap.size,k,none⟩) (by simp)).trans (jx (ov hx));have hxs:x.size<=9223372036854775807:=by have:=jQ HX.out hx; omega
     have HK:=ab hx;have HB:=ab hb;clear hx hb
     cases hc:iB (bl x)
     ·have HC:=ab hc;clear hc;go_wp2_with (go_at_call 112; refine(gi x wr (HE.out.below (af ((Below.refl _ _).alloc (Nat.le_refl _) _) (by simpa using HB.out))) hxs).mono ?_; rintro e w' ⟨rfl,hb2⟩; rw[HC.out])
      go_ret2
      refine .inr ⟨uV HX.out HK.out HC.out,rfl, ?_⟩;exact af (af ((Below.refl _ _).alloc (Nat.le_refl _) _) (by simpa using HB.out)) hb2
     ·have HC:=ab hc;clear hc;go_wp2_with (go_at_call 112; refine(gi x wr (HE.out.below (af ((Below.refl _ _).alloc (Nat.le_refl _) _) (by simpa using HB.out))) hxs).mono ?_; rintro e w' ⟨rfl,hb2⟩; rw[HC.out])
      go_roundw
      case rel=>
       refine⟨k+1,by omega,by go_num,HB.out.trans (hb2.mono (by have:=HB.out.size; simpa using this)),fun j x' hj hx'=> ?_⟩
       rcases Nat.lt_or_ge j k with h | h
       ·exact HA.out j x' h hx'
       ·obtain rfl:j=k:=by omega
        have:=HK.out.symm.trans hx'
        cases this
        exact HC.out
      case measure=>simp[intOf]; omega
    ·have HB:=ab hb;clear hb
     go_wp2
     go_ret2
     refine .inl ⟨uT HX.out (by rw[<-aJ]; exact h5) h16 (fun j x hj hx=>HA.out j x (by omega) hx),_,xs,rfl,HX.out,xl (by unfold maxLen; omega) HB.out, ?_⟩;exact af ((Below.refl _ _).alloc (Nat.le_refl _) _) (by simpa using HB.out)
  ·go_wp2_with fail
   go_ret2
   exact .inr ⟨uU HX.out h16,rfl,(Below.refl _ _).alloc (Nat.le_refl _) _⟩
 ·go_enter Tryz.func73,Tryz.ntmps73
  go_wp2_with fail
  go_ret2
  exact .inr ⟨rT (by rw[<-aJ]; exact h5),rfl,Below.refl _ _⟩
theorem nL (s:ByteArray) (w:World) (he:iz w):
  Calls Tryz.prog 98 #[.string s] w fun e w'=>e= .returned (.bool (bp (bl s)))/\Below w.heap.size w w':=by
 go_enter Tryz.func98,Tryz.ntmps98
 go_wp2_with fail;refine(kF s w he).mono ?_;rintro e w' (⟨hv,v,xs,rfl,-,-,hb⟩ | ⟨hv,rfl,hb⟩)
 ·go_wp2
  go_ret;exact⟨al (by rw[hv]),hb⟩
 ·go_wp2
  go_ret;exact⟨al (by rw[hv]),hb⟩
def sS (c:Int):Int:=if c=47 then -1 else c
theorem wS (c:Int) (w:World) (h0:0<=c) (h1:c<=255):Calls Tryz.prog 100 #[.int .u8 c] w fun e w'=>e= .returned (.int .i64 (sS c))/\w=w':=by
 by_cases h:c=47
 ·subst h
  go_enter Tryz.func100,Tryz.ntmps100
  go_wp2
  go_ret;exact⟨rfl,rfl⟩
 ·have hr:sS c=c:=if_neg h;have HR:=ab hr;clear hr;have h2:(c == 47)=false:=by simpa using h
  go_enter Tryz.func100,Tryz.ntmps100
  go_wp2
  go_ret;exact⟨cr HR.out.symm,rfl⟩
theorem xT (l r:List UInt8) (h:l=[]\/r=[]):bE l r=Lib.compareInt (l.length:Int) r.length:=by
 rcases h with rfl | rfl
 ·cases r
  ·simp[bE,Lib.compareInt]
  ·rw[bE,Lib.compareInt,if_pos (by simp<;> omega)]
 ·cases l
  ·simp[bE,Lib.compareInt]
  ·rw[bE,Lib.compareInt,if_neg (by simp<;> omega),if_pos (by simp<;> omega)]
theorem lw (x y:Int) (k:Int):Lib.compareInt (x-k) (y-k)=Lib.compareInt x y:=by
 unfold Lib.compareInt;have h1:(x-k<y-k)<->(x<y):=by omega
 have h2:(x-k>y-k)<->(x>y):=by omega
 simp only[h1,h2]
theorem xS {l r:List UInt8} {k:Nat} (hk1:k<=l.length) (hk2:k<=r.length) (h:k=l.length\/k=r.length):bE (l.drop k) (r.drop k)=Lib.compareInt (l.length:Int) r.length:=by
 rw[xT _ _ (by rcases h with rfl | rfl<;> simp)];rw[List.length_drop,List.length_drop,<-lw (l.length:Int) r.length k]
 congr 1<;> omega
theorem vR {l r:List UInt8} {k:Nat} (hl:k<l.length) (hr:k<r.length) (h:l[k]=r[k]):bE (l.drop k) (r.drop k)=bE (l.drop (k+1)) (r.drop (k+1)):=by
 rw[List.drop_eq_getElem_cons hl,List.drop_eq_getElem_cons hr,bE,if_pos h]
theorem vQ {l r:List UInt8} {k:Nat} (hl:k<l.length) (hr:k<r.length) (h:l[k]≠r[k]):bE (l.drop k) (r.drop k)=Lib.compareInt (cJ l[k]) (cJ r[k]):=by
 rw[List.drop_eq_getElem_cons hl,List.drop_eq_getElem_cons hr,bE,if_neg h]
theorem ib (s:ByteArray) (k:Nat) (h:k<s.size):s[k]=(bl s)[k]'(by rw[<-aJ]; exact h):=by
 exact(Array.getElem_toList (xs:=s.data) h).symm
theorem pT (c:UInt8):sS c.toNat=cJ c:=by
 unfold sS cJ
 by_cases h:c=47
 ·subst h; rfl
 ·rw[if_neg h,if_neg];intro e; apply h; apply UInt8.toNat_inj.1; have:c.toNat=47:=by omega
  rw[this]; rfl
theorem oZ (a b:ByteArray) (w:World) (ha:a.size<=9223372036854775807):
  Calls Tryz.prog 65 #[.string a, .string b] w fun e w'=>e= .returned (.int .i64 (bE (bl a) (bl b)))/\Below w.heap.size w w':=by
 go_enter Tryz.func65,Tryz.ntmps65
 go_wp2_with fail;obtain⟨m,hm⟩: ∃m:Nat,min (a.size:Int) (b.size:Int)=m:=⟨min a.size b.size,by omega⟩;have hm1:m<=a.size:=by omega
 have hm2:m<=b.size:=by omega
 have hm3:m=a.size\/m=b.size:=by omega
 rw[hm];have HM:=ab hm3;clear hm hm3
 go_loopw [12] (fun i wr=> ∃k:Nat,k<=m/\i= .int .i64 k/\Below w.heap.size w wr/\bE (bl a) (bl b)=bE ((bl a).drop k) ((bl b).drop k)) (fun i _=>m-(intOf i).toNat)
 case atStart=>exact⟨0,Nat.zero_le _,rfl,Below.refl _ _,rfl⟩
 case round=>
  obtain⟨k,hk,rfl,hbw,hc⟩:=hrel;have HC:=ab hc;have HB:=ab hbw;clear hc hbw
  by_cases hlt:k<m
  ·have h1:(k:Int)<(a.size:Int):=by omega
   have h2:(k:Int)<(b.size:Int):=by omega
   have h3:k<a.size:=by omega
   have h4:k<b.size:=by omega
   by_cases hq:a[k]=b[k]
   ·have hq2:(((a[k]).toNat:Int) != (b[k]).toNat)=false:=by simp[hq]
    have HQ:=ab hq;clear hq;go_wp2_with fail
    go_quiet (fail)
    go_wp2_with fail
    go_roundw
    case rel=>
     refine⟨k+1,by omega,by go_num,em HB.out nq, ?_⟩;rw[HC.out];refine vR (by rw[<-aJ]; exact h3) (by rw[<-aJ]; exact h4) ?_;rw[<-ib,<-ib]; exact HQ.out
    case measure=>simp[intOf]; omega
   ·have hq2:(((a[k]).toNat:Int) != (b[k]).toNat)=true:=by
     rw[bne_iff_ne]; intro e; apply hq; exact UInt8.toNat_inj.1 (by omega)
    have HQ:=ab hq;clear hq;go_wp2_with fail
    go_quiet (fail)
    go_wp2_with fail;have hW: ∃W,W=wr.drewN nq/\Below w.heap.size w W:=⟨_,rfl,em HB.out nq⟩;obtain⟨W,hWe,hWb⟩:=hW;rw[<-hWe];have HB2:=ab hWb;clear hWe hWb HB;have hr1:=(a[k]).toNat_lt;have hr2:=(b[k]).toNat_lt
    go_quiet ((first | (go_at_call 100; refine eU (wS _ _ (by omega) (by omega))) | (go_at_call 101; refine eU (gw _ _ _))))
    go_wp2_with fail;go_ret;refine⟨cr ?_,em HB2.out _⟩;rw[pT,pT,HC.out,vQ (by rw[<-aJ]; exact h3) (by rw[<-aJ]; exact h4) (by rw[<-ib,<-ib]; exact HQ.out),<-ib,<-ib]
  ·go_wp2_with (go_at_call 101; refine(gw _ _ _).mono ?_; rintro e w' ⟨rfl,rfl⟩);go_ret;refine⟨cr ?_,HB.out⟩;have hM:=HM.out;rw[HC.out,xS (by rw[<-aJ]; omega) (by rw[<-aJ]; omega) (by rw[<-aJ,<-aJ]; omega),<-aJ,<-aJ]
theorem rq (s:ByteArray) (w:World) (he:iz w) (hv:bp (bl s)=true):
  Calls Tryz.prog 66 #[.string s] w fun e w'=>e= .returned (.tuple #[.string ⟨(aI (bl s)).toArray⟩, .bool true])/\Below w.heap.size w w':=by
 have HV:=ab hv;have h5:s.size<=512:=by simp only[bp,Bool.and_eq_true,decide_eq_true_eq]at hv; rw[aJ]; exact hv.1.1
 have hl:(aI (bl s)).length<=s.size:=by rw[jv,List.length_take,aJ]; omega
 clear hv
 go_enter Tryz.func66,Tryz.ntmps66
 go_wp2_with fail;refine(nL s w he).mono ?_;rintro e w1 ⟨rfl,hb1⟩;rw[HV.out];have HB1:=ab hb1;clear hb1;go_wp2_with fail;refine(mK s w1 (by omega)).mono ?_;rintro e w2 ⟨rfl,rfl⟩;obtain⟨n,hn⟩: ∃n:Nat,n=(aI (bl s)).length:=⟨_,rfl⟩;have hmax:max (eG (bl s)) 0=(n:Int):=by
  unfold eG
  split
  ·omega
  ·rename_i h; rw[hn,fU _ h]; rfl
 have hle:n<=s.size:=by omega
 have HN:=ab hn;clear hn hl;go_wp2_with fail
 go_ret2
 refine⟨?_,HB1.out⟩;have e:s.extract 0 n=⟨(aI (bl s)).toArray⟩:=iM (by rw[qG,ki (aI (bl s)),HN.out,List.drop_zero,<-jv]);rw[<-e]; rfl
structure aU where
 path:ByteArray
 kind:Int
 mode:Int
 time:Int
 data:List UInt8
 link:ByteArray
deriving DecidableEq
def mu (l:List UInt8):Bool:=decide (1<=l.length) && decide (l.length<=512) && !l.contains 0
def gl (e:aU):Bool:=
 if e.kind=1 then decide (e.data.length<=1048576) && decide (e.link.size=0)
 else if e.kind=2 then decide (e.data.length=0) && decide (e.link.size=0)
 else if e.kind=3 then decide (e.data.length=0) && mu (bl e.link)
 else false
def ms (e:aU):Bool:=decide (0<=e.mode) && decide (e.mode<=511) && decide (0<=e.time)
def dI (e:aU):Bool:=bp (bl e.path) && ms e && gl e
def fg (L:List aU) (p:ByteArray):Option aU:=L.find? fun e=>decide (e.path=p)
def jn (L:List aU) (p:List UInt8):Int:=if p=[]then 0 else match fg L ⟨p.toArray⟩with
 | none=>4
 | some e=>if e.kind=2 then 0 else 13
def iP (a b:aU):Int:=bE (bl a.path) (bl b.path)
def gr (pre:List aU) (e:aU):Bool:=match pre.getLast? with
 | none=>true
 | some f=>decide (iP f e<0)
def bX (pre:List aU) (e:aU):Int:=if(dI e && gr pre e)=true then jn pre (aI (bl e.path))else 1
def fq :List aU->List aU->Int
 | _,[]=>0
 | pre,e::r=>if bX pre e=0 then fq (pre++[e]) r else bX pre e
def cd (L:List aU):Int:=if 4096<L.length then 2 else fq [] L
theorem yu {p:ByteArray} {l:List UInt8} (h:bl p=l):p=⟨l.toArray⟩:=iM (by rw[h]; simp[bl])
theorem vP (a b:aU):iP b a= -iP a b:=sB _ _
theorem mZ {a b:aU} :iP a b=0<->a.path=b.path:=by
 unfold iP; rw[jg]; exact⟨iM,fun h=>by rw[h]⟩
theorem mC {a b c:aU} (h1:iP a b<0) (h2:iP b c<0):iP a c<0:=by
 obtain⟨h3,h4⟩:=nd (bl a.path) (bl b.path) (bl c.path) (by unfold iP at h1; omega) (by unfold iP at h2; omega)
 rcases Int.lt_or_eq_of_le h3 with h | h
 ·exact h
 ·have:=(h4 h).1; unfold iP at h1; omega
def cH (L:List aU):Prop:=L.Pairwise fun a b=>iP a b<0
theorem cH.nodup {L:List aU} (h:cH L):(L.map aU.path).Nodup:=by
 unfold List.Nodup;rw[List.pairwise_map];exact List.Pairwise.imp (fun h e=>by have:=mZ.2 e; omega) h
theorem cH.filter {L:List aU} (h:cH L) (p:aU->Bool):cH (L.filter p):=List.Pairwise.filter p h
theorem iQ {L:List aU} {p:ByteArray} {e:aU} (h:fg L p=some e):e∈L/\e.path=p:=by
 unfold fg at h;exact⟨List.mem_of_find?_eq_some h,by have:=List.find?_some h; simpa using this⟩
theorem lG {L:List aU} {p:ByteArray} (h:fg L p=none): ∀e∈L,e.path≠p:=by
 unfold fg at h;rw[List.find?_eq_none]at h;intro e he hp;exact h e he (by simp[hp])
theorem tD {L:List aU} (hn:(L.map aU.path).Nodup) {e:aU} (he:e∈L):fg L e.path=some e:=by
 cases h:fg L e.path with
 | none=>exact absurd rfl (lG h e he)
 | some f=>
  obtain⟨h1,h2⟩:=iQ h;have:f=e:=by
   unfold List.Nodup at hn;rw[List.pairwise_map,List.pairwise_iff_getElem]at hn;obtain⟨i,hi,rfl⟩:=List.getElem_of_mem h1;obtain⟨j,hj,rfl⟩:=List.getElem_of_mem he
   by_cases hij:i=j
   ·subst hij; rfl
   ·exfalso
    rcases Nat.lt_or_gt_of_ne hij with hlt | hlt
    ·exact hn i j hi hj hlt h2
    ·exact hn j i hj hi hlt h2.symm
  rw[this]
structure TOk (L : List aU) : Prop where
 ord:cH L
 val: ∀e∈L,dI e=true
 up: ∀e∈L,jn L (aI (bl e.path))=0
 len:L.length<=4096
theorem TOk.nil :TOk []:=⟨List.Pairwise.nil,by simp,by simp,by simp⟩
theorem TOk.nodup {L:List aU} (h:TOk L):(L.map aU.path).Nodup:=h.ord.nodup
theorem bJ {e:aU} (h:dI e=true):bp (bl e.path)=true:=by
 unfold dI at h; simp only[Bool.and_eq_true]at h; exact h.1.1
theorem xq {l:List UInt8} (h:bp l=true):l≠[]:=by
 intro e; subst e; exact absurd h (by decide)
theorem rY {l:List UInt8} (h:bp l=true):l.length<=512:=by
 simp only[bp,Bool.and_eq_true,decide_eq_true_eq]at h; exact h.1.1
theorem ni {L:List aU} {p:List UInt8} (h:jn L p=0) (hp:p≠[]): ∃f∈L,bl f.path=p/\f.kind=2:=by
 unfold jn at h;rw[if_neg hp]at h
 cases hf:fg L ⟨p.toArray⟩with
 | none=>rw[hf]at h; simp at h
 | some f=>
  rw[hf]at h;simp only at h;obtain⟨h1,h2⟩:=iQ hf
  split at h
  ·exact⟨f,h1,by rw[h2]; simp[bl],by assumption⟩
  ·simp at h
theorem jo {L:List aU} (hn:(L.map aU.path).Nodup) {p:List UInt8} (h:p=[]\/ ∃f∈L,bl f.path=p/\f.kind=2):jn L p=0:=by
 unfold jn
 by_cases hp:p=[]
 ·rw[if_pos hp]
 ·rw[if_neg hp]
  rcases h with h | ⟨f,h1,h2,h3⟩
  ·exact absurd h hp
  ·have:f.path=⟨p.toArray⟩:=yu h2;rw[<-this,tD hn h1];simp only[if_pos h3]
theorem eS {l:List UInt8} (h:bp l=true):(aI l).length<l.length:=by
 by_cases hm:(47:UInt8)∈l
 ·obtain⟨p,t,hq,ht⟩:=iS l hm;have:aI l=p:=by rw[hq]; exact fi p t ht
  rw[this,hq]; simp
 ·rw[fU l hm];have:=xq h
  cases l with
  | nil=>exact absurd rfl this
  | cons=>simp
def vj (M:List aU) (x:aU):Prop:=aI (bl x.path)=[]\/ ∃f∈M,bl f.path=aI (bl x.path)/\f.kind=2
theorem rV {L:List aU} {x:aU} (h:jn L (aI (bl x.path))=0):vj L x:=by
 by_cases hp:aI (bl x.path)=[]
 ·exact .inl hp
 ·obtain⟨f,h1,h2,h3⟩:=ni h hp;exact .inr ⟨f,h1,h2,h3⟩
theorem yI {M:List aU} (hs:cH M) (hv: ∀e∈M,dI e=true) (hu: ∀x∈M,vj M x) (hl:M.length<=4096):TOk M:=
 ⟨hs,hv,fun e he=>jo hs.nodup (hu e he),hl⟩
theorem TOk.has {L:List aU} (h:TOk L) {e:aU} (he:e∈L):vj L e:=rV (h.up e he)
theorem pN {l:List UInt8} (h:aI l≠[]): ∃t,l=aI l++47::t:=by
 by_cases hm:(47:UInt8)∈l
 ·obtain⟨p,q,rfl,hq⟩:=iS l hm;exact⟨q,by rw[fi p q hq]⟩
 ·exact absurd (fU l hm) h
theorem nh {L M:List aU} (hm:(M.map aU.path).Nodup) (hs: ∀x∈L,x∈M) {p:List UInt8} (h:jn L p=0):jn M p=0:=by
 by_cases hp:p=[]
 ·exact jo hm (.inl hp)
 ·obtain⟨f,h1,h2,h3⟩:=ni h hp;exact jo hm (.inr ⟨f,hs f h1,h2,h3⟩)
structure Tr (L : List aU) : Prop where
 ord:cH L
 val: ∀e∈L,dI e=true
 up: ∀e∈L,jn L (aI (bl e.path))=0
theorem mM {e f:aU} (hv:dI e=true) (hp:aI (bl e.path)≠[]) (hf:bl f.path=aI (bl e.path)):iP f e<0:=by
 obtain⟨t,ht⟩:=pN hp;have h1:iP f e<=0:=by
  unfold iP;rw[hf,ht];have:=sA (aI (bl e.path)) (47::t);have h2:aI (aI (bl e.path)++47::t)=aI (bl e.path):=by rw[<-ht]
  rw[h2]; exact this
 rcases Int.lt_or_eq_of_le h1 with h | h
 ·exact h
 ·have h2:=mZ.1 h;have h3:=eS (bJ hv);rw[<-hf,h2]at h3;omega
theorem Tr.pre {L M:List aU} (h:Tr (L++M)):Tr L:=by
 obtain⟨s1,s2,s3⟩:=List.pairwise_append.1 h.ord;refine⟨s1,fun e he=>h.val e (by simp[he]),fun e he=> ?_⟩;have hu:=rV (h.up e (by simp[he]));refine jo (cH.nodup s1) ?_
 rcases hu with hu | ⟨f,h1,h2,h3⟩
 ·exact .inl hu
 ·by_cases hp:aI (bl e.path)=[]
  ·exact .inl hp
  ·right
   have hb:=mM (h.val e (by simp[he])) hp h2
   rcases List.mem_append.1 h1 with h1 | h1
   ·exact⟨f,h1,h2,h3⟩
   ·have h4:=s3 e he f h1;have h5:=vP e f;omega
theorem ld {pre:List aU} (hs:cH pre) {e:aU} :gr pre e=true<->cH (pre++[e]):=by
 unfold gr
 cases hl:pre.getLast? with
 | none=>
  rw[List.getLast?_eq_none_iff]at hl;subst hl;simp[cH]
 | some f=>
  obtain⟨ys,hy⟩:=List.getLast?_eq_some_iff.1 hl;simp only[decide_eq_true_eq]
  constructor
  ·intro h;refine List.pairwise_append.2 ⟨hs,by simp,fun a ha b hb=> ?_⟩;simp only[List.mem_singleton]at hb;subst hb;rw[hy]at ha hs
   rcases List.mem_append.1 ha with ha | ha
   ·exact mC ((List.pairwise_append.1 hs).2.2 a ha f (by simp)) h
   ·simp only[List.mem_singleton]at ha; subst ha; exact h
  ·intro h;exact(List.pairwise_append.1 h).2.2 f (by rw[hy]; simp) e (by simp)
theorem gu {pre:List aU} (h:Tr pre) (e:aU):bX pre e=0<->Tr (pre++[e]):=by
 unfold bX
 constructor
 ·intro hc
  split at hc
  ·rename_i hva;rw[Bool.and_eq_true]at hva;have hs:=(ld h.ord).1 hva.2;have hm: ∀x∈pre,x∈pre++[e]:=fun x hx=>by simp[hx]
   refine⟨hs,fun x hx=> ?_,fun x hx=> ?_⟩
   ·rcases List.mem_append.1 hx with hx | hx
    ·exact h.val x hx
    ·simp only[List.mem_singleton]at hx; subst hx; exact hva.1
   ·rcases List.mem_append.1 hx with hx | hx
    ·exact nh hs.nodup hm (h.up x hx)
    ·simp only[List.mem_singleton]at hx; subst hx; exact nh hs.nodup hm hc
  ·simp at hc
 ·intro ht;have hv:=ht.val e (by simp);rw[if_pos (by rw[hv,(ld h.ord).2 ht.ord]; rfl)];refine jo h.ord.nodup ?_
  rcases rV (ht.up e (by simp))with hu | ⟨f,h1,h2,h3⟩
  ·exact .inl hu
  ·rcases List.mem_append.1 h1 with h1 | h1
   ·exact .inr ⟨f,h1,h2,h3⟩
   ·simp only[List.mem_singleton]at h1;subst h1;have:=eS (bJ hv);rw[<-h2]at this; omega
theorem lh : ∀ {r pre:List aU},Tr pre->(fq pre r=0<->Tr (pre++r))
 | [],pre,h=>by simp only[fq,List.append_nil]; exact⟨fun _=>h,fun _=>trivial⟩
 | e::r,pre,h=>by
  have h1:=gu h e;rw[fq]
  split
  ·rename_i hc;have:=lh (r:=r) (h1.1 hc);rw[this]; simp
  ·rename_i hc
   constructor
   ·intro h2; exact absurd h2 hc
   ·intro h2;have h3:Tr (pre++[e]):=Tr.pre (M:=r) (by simpa using h2);exact absurd (h1.2 h3) hc
theorem dP {L:List aU} :cd L=0<->TOk L:=by
 unfold cd
 split
 ·rename_i h;exact⟨fun h2=>by simp at h2,fun h2=>by have:=h2.len; omega⟩
 ·rename_i h;rw[lh (r:=L) (pre:=[]) ⟨List.Pairwise.nil,by simp,by simp⟩,List.nil_append];exact⟨fun t=>⟨t.ord,t.val,t.up,by omega⟩,fun t=>⟨t.ord,t.val,t.up⟩⟩
end Go.Proofs.YtnjkpcalgoefhaaGreatDoor
namespace Go.Proofs.YtnjkpcalgoefhaaGreatDoor
theorem qo {l:List UInt8} (h:bp l=true): ∀p∈aw 47 l,mm p=true/\p≠[]:=by
 simp only[bp,Bool.and_eq_true,List.all_eq_true]at h;intro p hp;have:=h.2 p hp;simp only[iB,Bool.and_eq_true]at this;exact⟨this.2,by have h1:=this.1.1.1.1.1; simpa using h1⟩
theorem gD (dir:Bool) (parts:List (List UInt8)) (us:List (aF×List aB)): ∀(f n:Nat),bH dir parts us f n=true<-> ∃m,n<=m/\m<n+f/\dL dir parts m us false=true
 | 0,n=>by simp[bH]; intro x h1 h2; omega
 | f+1,n=>by
  rw[bH];have ih:=gD dir parts us f (n+1)
  cases h:dL dir parts n us false
  ·simp only[Bool.false_eq_true,if_false];rw[ih]
   constructor
   ·rintro⟨m,h1,h2,h3⟩; exact⟨m,by omega,by omega,h3⟩
   ·rintro⟨m,h1,h2,h3⟩;refine⟨m, ?_,by omega,h3⟩
    rcases Nat.lt_or_ge n m with h4 | h4
    ·omega
    ·obtain rfl:m=n:=by omega
     rw[h]at h3; cases h3
  ·simp only[if_true,true_iff];exact⟨n,by omega,by omega,h⟩
theorem lL (dir:Bool) (parts:List (List UInt8)) (n:Nat) (hn:n<parts.length): ∀(us:List (aF×List aB)) (b:Bool),dL true parts.dropLast n us b=dL dir parts n us b
 | [],b=>rfl
 | (q,ds)::us,b=>by
  simp only[dL];have e:dF true q ds parts.dropLast n=dF dir q ds parts n:=by
   unfold dF;have ht:parts.dropLast.take n=parts.take n:=by
    rw[List.dropLast_eq_take,List.take_take]; congr 1; omega
   rw[ht];simp[hn]
  rw[e,lL dir parts n hn us]
def qA (parts:List (List UInt8)) (us:List (aF×List aB)):Bool:=bH true parts.dropLast us parts.dropLast.length 1
theorem th (dir:Bool) (parts:List (List UInt8)) (us:List (aF×List aB)):qA parts us=true<-> ∃m,1<=m/\m<parts.length/\dL dir parts m us false=true:=by
 unfold qA;rw[gD]
 constructor
 ·rintro⟨m,h1,h2,h3⟩;rw[List.length_dropLast]at h2;exact⟨m,h1,by omega,by rw[<-lL dir parts m (by omega)]; exact h3⟩
 ·rintro⟨m,h1,h2,h3⟩;exact⟨m,h1,by rw[List.length_dropLast]; omega,by rw[lL dir parts m h2]; exact h3⟩
theorem vF {dir:Bool} {parts:List (List UInt8)} {us:List (aF×List aB)} (h:qA parts us=true):bH dir parts us parts.length 1=true:=by
 obtain⟨m,h1,h2,h3⟩:=(th dir parts us).1 h;exact(gD _ _ _ _ _).2 ⟨m,h1,by omega,h3⟩
theorem gF : ∀(ls:List (List UInt8)) (i:Nat) (acc rs:List aF) (n:Int),(∀r∈acc,(aK r).isSome=true)->ci ls i acc=(rs,n,0)->(∀r∈rs,(aK r).isSome=true)/\rs.length<=acc.length+ls.length/\n=0
 | [],i,acc,rs,n,ha,h=>by
  simp only[ci,Prod.mk.injEq]at h;obtain⟨rfl,rfl,_⟩:=h;exact⟨ha,by simp,rfl⟩
 | l::ls,i,acc,rs,n,ha,h=>by
  rw[ci]at h
  split at h
  ·have:=gF ls (i+1) acc rs n ha h;exact⟨this.1,by have:=this.2.1; simp; omega,this.2.2⟩
  ·split at h
   ·simp at h
   ·rename_i r hr
    split at h
    ·simp at h
    ·have hc:(aK r).isSome=true:=by
      unfold bF at hr
      split at hr
      ·cases hr; assumption
      ·cases hr
     have:=gF ls (i+1) (acc++[r]) rs n (fun q hq=>by
      rcases List.mem_append.1 hq with hq | hq
      ·exact ha q hq
      ·simp at hq; subst hq; exact hc) h
     exact⟨this.1,by have:=this.2.1; simp at this ⊢; omega,this.2.2⟩
theorem gx : ∀(rs:List aF),(∀r∈rs,(aK r).isSome=true)-> ∃us,aH rs=some us
 | [],_=>⟨[],rfl⟩
 | r::rs,h=>by
  obtain⟨us,hu⟩:=gx rs (fun q hq=>h q (by simp[hq]));obtain⟨cs,hc⟩:=Option.isSome_iff_exists.1 (h r (by simp));exact⟨(r,cs)::us,by simp[aH,hc,hu]⟩
theorem pO {l:List UInt8} {rs:List aF} {n:Int} (h:bC l=(rs,n,0)):(∃us,aH rs=some us)/\rs.length<=l.length+1/\n=0/\ ∀r∈rs,r.pat.length<=512:=by
 unfold bC at h
 split at h
 ·simp at h
 ·have:=gF _ 0 [] rs n (by simp) h;have hl:=ed 10 l;refine⟨gx rs this.1,by have:=this.2.1; simp at this; omega,this.2.2,fun r hr=> ?_⟩;obtain⟨cs,hc⟩:=Option.isSome_iff_exists.1 (this.1 r hr);unfold aK at hc
  split at hc
  ·cases hc
  ·split at hc
   ·cases hc
   ·unfold fH at hc
    split at hc
    ·cases hc
    ·omega
theorem tV {l:List UInt8} (h:bp l=true):(aI l=[]/\(aw 47 l).dropLast=[])\/(aI l≠[]/\bp (aI l)=true/\aw 47 (aI l)=(aw 47 l).dropLast):=by
 unfold aI gU
 by_cases he:(aw 47 l).dropLast=[]
 ·left; exact⟨by rw[he]; rfl,he⟩
 ·right
  have hs:aw 47 (Lib.join (aw 47 l).dropLast [47])=(aw 47 l).dropLast:=qf 47 _ he (fun p hp=>rR 47 l p (List.dropLast_subset _ hp));have hne:Lib.join (aw 47 l).dropLast [47]≠[]:=by
   intro e;rw[e]at hs;have h1:aw 47 []=[[]]:=rfl;rw[h1]at hs;have:=(qo h [] (List.dropLast_subset _ (by rw[<-hs]; simp))).2;exact this rfl
  refine⟨hne, ?_,hs⟩;have hp:=h;simp only[bp,Bool.and_eq_true,decide_eq_true_eq,List.all_eq_true]at hp ⊢;rw[hs];refine⟨⟨?_,by rw[List.length_dropLast]; omega⟩,fun p hp'=>hp.2 p (List.dropLast_subset _ hp')⟩;have hl:(Lib.join (aw 47 l).dropLast [47]).length<=(Lib.join (aw 47 l) [47]).length:=by
   have e:=List.dropLast_concat_getLast (dW 47 l);have e2:=ql (aw 47 l).dropLast ((aw 47 l).getLast (dW 47 l));rw[e]at e2;unfold gU at e2;rw[e2,if_neg he];simp
  rw[kx]at hl;omega
open Go
section
variable {P : Program} {ops : Array Oper} {md : Region.Mode} {w : World}
def qN (md:Region.Mode) (ops:Array Oper) (m:Nat):Bool:=
 ((List.range m).all fun i=>decide (ops.size<=m) || (List.range (m+1)).any fun j=>decide (i<j) && Region.waitsFor md ops j i) &&
 ((List.range ops.size).all fun t=>decide (t<=m) || (List.range t).any fun u=>decide (m<=u) && Region.waitsFor md ops t u)
theorem jL {m:Nat} {listed:Array Bool} (hc:qN md ops m=true) (inv:HeadInv md ops m listed):
  ∀(d i:Nat),m-i=d->i<m->listed.getD i true=false-> ∀t,m<=t->t∉Region.ready md ops listed:=by
 simp only[qN,Bool.and_eq_true]at hc;obtain⟨hs,hch⟩:=hc;intro d
 induction d using Nat.strongRecOn with
 | _ d ih=>
  intro i hd hi hun t ht hr;obtain⟨_,ot,hot,hall⟩:=mem_ready.1 hr;have htlt:t<ops.size:=(Array.getElem?_eq_some_iff.1 hot).1
  rcases Nat.lt_or_ge m t with htm | htm
  ·have h1:=List.all_eq_true.1 hch t (List.mem_range.2 htlt);simp only[Bool.or_eq_true,decide_eq_true_eq]at h1
   rcases h1 with h1 | h1
   ·omega
   ·obtain⟨u,hu,hu2⟩:=List.any_eq_true.1 h1;simp only[Bool.and_eq_true,decide_eq_true_eq]at hu2;obtain⟨o',ho',e,he,hb,hon⟩:=Region.waitsFor_spec hu2.2;have ho:o'=ot:=Option.some.inj (ho'.symm.trans hot);subst ho;have h2:=hall e he hb;rw[hon,getD_both (inv.tail u hu2.1 (by have:=List.mem_range.1 hu; omega))]at h2
    cases h2
  ·have htm':t=m:=by omega
   subst htm';have h1:=List.all_eq_true.1 hs i (List.mem_range.2 hi);simp only[Bool.or_eq_true,decide_eq_true_eq]at h1
   rcases h1 with h1 | h1
   ·omega
   ·obtain⟨j,hj,hj2⟩:=List.any_eq_true.1 h1;simp only[Bool.and_eq_true,decide_eq_true_eq]at hj2;obtain⟨oj,hoj,e,he,hb,hon⟩:=Region.waitsFor_spec hj2.2;have hjle:=List.mem_range.1 hj
    rcases Nat.lt_or_ge j t with hjt | hjt
    ·cases hl:listed.getD j false with
     | true=>
      have h2:=inv.closed j oj hoj hl e he hb;rw[hon,getD_both hun]at h2
      cases h2
     | false=>
      exact ih (t-j) (by omega) j rfl hjt (getD_in (by rw[inv.size]; omega) hl) t (Nat.le_refl _) hr
    ·have hjt':j=t:=by omega
     subst hjt';have ho:oj=ot:=Option.some.inj (hoj.symm.trans hot);subst ho;have h2:=hall e he hb;rw[hon,getD_both hun]at h2
     cases h2
theorem uK {m i:Nat} {oi:Oper} {v:Value} {L:Array Bool->Act->Prop} (hi:ops[i]? =some oi) (hsel: ∀(j:Nat) (o:Oper) cs b,ops[j]? =some o->o.op≠ .select cs b)
  (hc:qN md ops m=true) (hin:i<m) (hdone: ∀listed a,L listed a-> ∀j∈Region.ready md ops listed,m<=j):
  ∀(f:Nat) (listed:Array Bool) (a:Act),HeadInv md ops m listed->
   (∀j oj,ops[j]? =some oj->j≠i->listed.getD j true=false->(∀e∈oj.after,Region.binds md e=true->e.on≠i)->oi.apart ops oj=true)->
   i∈Region.ready md ops listed->YieldsAt P ops w oi v a->
   wpAnyL P md ops w m L f (listed.setIfInBounds i true) (a.put oi.dst v)->wpAnyL P md ops w m L (f+1) listed a:=by
 intro f
 induction f with
 | zero=>
  intro listed a inv _ hr hy H;have hun:=(mem_ready.1 hr).1;refine⟨List.ne_nil_of_mem hr,fun j hj=> ?_⟩;have hjm:j<m:=Nat.lt_of_not_le fun h=>jL hc inv _ i rfl hin hun j h hj
  refine⟨hjm, ?_⟩
  by_cases hji:j=i
  ·subst hji; exact hy.stOp hi H
  ·have:=hdone _ _ H j (ready_mono hj hji);omega
 | succ f ih=>
  intro listed a inv hfree hr hy H;have hun:=(mem_ready.1 hr).1;refine⟨List.ne_nil_of_mem hr,fun j hj=> ?_⟩;have hjm:j<m:=Nat.lt_of_not_le fun h=>jL hc inv _ i rfl hin hun j h hj
  refine⟨hjm, ?_⟩
  by_cases hji:j=i
  ·subst hji; exact hy.stOp hi H
  ·have h1:=(H.2 j (ready_mono hj hji)).2;obtain⟨hjun,oj,hoj,hall⟩:=mem_ready.1 hj;have hnot: ∀e∈oj.after,Region.binds md e=true->e.on≠i:=fun e he hb heq=>by
    have h1:=hall e he hb;rw[heq,getD_both hun]at h1
    cases h1
   have h2:=stOp_put hoj (hfree j oj hoj hji hjun hnot) (fun cs b=>hsel i oi cs b hi) (fun cs b=>hsel j oj cs b hoj) hy h1;refine stOp_mono (fun a' h3=>ih (listed.setIfInBounds j true) a' (inv.set hj hjm) (fun k ok hk hki hunk hno=> ?_) (ready_mono hr (Ne.symm hji)) h3.1 ?_) h2
   ·refine hfree k ok hk hki ?_ hno
    by_cases hjk:j=k
    ·subst hjk; exact hjun
    ·rw[getD_set_ne true hjk]at hunk; exact hunk
   ·rw[Array.setIfInBounds_comm _ _ hji];exact h3.2
def nW :Nat->Nat->Array Bool->Array Bool
 | 0,_,listed=>listed
 | n+1,k,listed=>nW n (k+1) (listed.setIfInBounds k true)
def yB (md:Region.Mode) (ops:Array Oper):Nat->Nat->Array Bool->Bool
 | 0,k,listed=>(Region.ready md ops listed).all fun j=>decide (k<=j)
 | n+1,k,listed=>(Region.ready md ops listed).contains k && Region.free md ops listed k && yB md ops n (k+1) (listed.setIfInBounds k true)
theorem sU {m:Nat} {Lq:Act->Prop} (hsel:Region.noSelect ops=true) (hc:qN md ops m=true) (LM:Array Bool):
  ∀(l:List Oper) (k:Nat) (listed:Array Bool) (a:Act),(∀j,j<l.length->l[j]? =ops[k+j]?)->k+l.length=m->HeadInv md ops m listed->
  yB md ops l.length k listed=true->nW l.length k listed=LM->wpStill P ops w Lq l a->
  wpAnyL P md ops w m (fun listed' a'=>listed'=LM/\Lq a') l.length listed a/\ ∀j∈Region.ready md ops LM,m<=j
 | [],k,listed,a,_,hk,_,hB,hL,h=>by
  have hkm:k=m:=by simpa using hk
  subst hkm;have hLM:listed=LM:=hL;subst hLM;refine⟨⟨rfl,h⟩,fun j hj=> ?_⟩;have:=List.all_eq_true.1 hB j hj
  simpa using this
 | o::l,k,listed,a,hl,hk,inv,hB,hL,h=>by
  have h0:ops[k]? =some o:=by simpa using (hl 0 (by simp)).symm
  simp only[List.length_cons,yB,Bool.and_eq_true]at hB;obtain⟨⟨hr,hf⟩,hB'⟩:=hB;have hkm:k<m:=by simp only[List.length_cons]at hk; omega
  have hr':k∈Region.ready md ops listed:=by simpa using hr
  have hst:stOp P ops w k (wpStill P ops w Lq l) a:=by unfold stOp; simp only[h0]; exact h
  obtain⟨v,hy,hK⟩:=yieldsAt_of_stOp h0 hst;have IH:=sU hsel hc LM l (k+1) _ _ (fun j hj=>by have:=hl (j+1) (by simp; omega); simpa [Nat.add_assoc,Nat.add_comm 1 j]using this) (by simp only[List.length_cons]at hk; omega) (inv.set hr' hkm) hB' hL hK;refine⟨uK h0 (Region.noSelect_spec hsel) hc hkm (fun listed' a' hL'=> ?_) l.length listed a inv (Region.free_spec h0 hf) hr' hy IH.1,IH.2⟩
  rw[hL'.1]; exact IH.2
def wo (md:Region.Mode) (ops:Array Oper) (m:Nat) (listed:Array Bool):Bool:=
 decide (listed.size=ops.size) &&
 ((List.range ops.size).all fun j=> !listed.getD j false || match ops[j]? with | some oj=>oj.after.all (fun e=> !Region.binds md e || listed.getD e.on false) | none=>true) &&
 ((List.range ops.size).all fun t=>decide (t<m) || !listed.getD t true)
theorem qV {m:Nat} {listed:Array Bool} (h:wo md ops m listed=true):HeadInv md ops m listed:=by
 simp only[wo,Bool.and_eq_true,decide_eq_true_eq]at h;obtain⟨⟨h1,h2⟩,h3⟩:=h;refine⟨h1,fun j oj hj hl e he hb=> ?_,fun t ht ht2=> ?_⟩
 ·have:=List.all_eq_true.1 h2 j (List.mem_range.2 (Array.getElem?_eq_some_iff.1 hj).1);rw[hl,hj]at this;simp only[Bool.not_true,Bool.false_or]at this;have:=Array.all_eq_true'.1 this e he;rw[hb]at this
  simpa using this
 ·have:=List.all_eq_true.1 h3 t (List.mem_range.2 ht2);simp only[Bool.or_eq_true,decide_eq_true_eq]at this
  rcases this with h | h
  ·omega
  ·simpa using h
def mf (md:Region.Mode) (ops:Array Oper):List (Option Nat)->Nat->Array Bool->Bool
 | [],k,listed=>decide (k=ops.size) && (Region.ready md ops listed).isEmpty
 | some n::s,k,listed=>decide (k+n<=ops.size) && qN md ops (k+n) && wo md ops (k+n) listed && yB md ops n k listed && mf md ops s (k+n) (nW n k listed)
 | none::s,k,listed=>decide (k<ops.size) && decide (Region.ready md ops listed=[k]) && mf md ops s (k+1) (listed.setIfInBounds k true)
@[irreducible] def qw (P:Program) (ops:Array Oper) (w:World) (Q:Act->Prop) (l:List Oper) (a:Act):Prop:=wpStill P ops w Q l a
theorem qw.out {Q:Act->Prop} {l:List Oper} {a:Act} (h:qw P ops w Q l a):wpStill P ops w Q l a:=by unfold qw at h; exact h
theorem qw.of {Q:Act->Prop} {l:List Oper} {a:Act} (h:wpStill P ops w Q l a):qw P ops w Q l a:=by unfold qw; exact h
@[irreducible] def qu (P:Program) (ops:Array Oper) (next:Act->World->Prop) (Q:Exit->Act->World->Prop) (l:List Oper) (a:Act) (w:World):Prop:=wpList P ops (Exit.then next Q) l a w
theorem qu.out {next:Act->World->Prop} {Q:Exit->Act->World->Prop} {l:List Oper} {a:Act} (h:qu P ops next Q l a w):wpList P ops (Exit.then next Q) l a w:=by unfold qu at h; exact h
theorem qu.of {next:Act->World->Prop} {Q:Exit->Act->World->Prop} {l:List Oper} {a:Act} (h:wpList P ops (Exit.then next Q) l a w):qu P ops next Q l a w:=by unfold qu; exact h
def bh (P:Program) (ops:Array Oper) (Q:Exit->Act->World->Prop):List (Option Nat)->List Oper->Act->World->Prop
 | [],_,a,w=>Q .normal a w
 | some n::s,l,a,w=>qw P ops w (fun a'=>bh P ops Q s (l.drop n) a' w) (l.take n) a
 | none::s,l,a,w=>qu P ops (fun a' w'=>bh P ops Q s (l.drop 1) a' w') Q (l.take 1) a w
theorem ft {Q:Exit->Act->World->Prop} (hsel:Region.noSelect ops=true): ∀(s:List (Option Nat)) (l:List Oper) (k:Nat) (listed:Array Bool) (a:Act) (w:World),
  (∀j,l[j]? =ops[k+j]?)->mf md ops s k listed=true->bh P ops Q s l a w->wpAny P md ops Q (ops.size-k) listed a w
 | [],l,k,listed,a,w,hl,hB,h=>by
  simp only[mf,Bool.and_eq_true,decide_eq_true_eq]at hB;rw[hB.1,Nat.sub_self];exact⟨by simpa using hB.2,h⟩
 | some n::s,l,k,listed,a,w,hl,hB,h=>by
  simp only[mf,Bool.and_eq_true,decide_eq_true_eq]at hB;obtain⟨⟨⟨⟨hn,hc⟩,hh⟩,hs⟩,hB'⟩:=hB;have hll:l.length=ops.size-k:=by
   have h1: ∀j,j<l.length<->k+j<ops.size:=fun j=>by
    constructor
    ·intro hj; have:=hl j; rw[List.getElem?_eq_getElem hj]at this; exact(Array.getElem?_eq_some_iff.1 this.symm).1
    ·intro hj; have:=hl j; rw[Array.getElem?_eq_getElem hj]at this; exact(List.getElem?_eq_some_iff.1 this).1
   rcases Nat.lt_trichotomy l.length (ops.size-k)with h2 | h2 | h2
   ·have:=(h1 l.length).2 (by omega); omega
   ·exact h2
   ·have:=(h1 (ops.size-k)).1 h2; omega
  have htl:(l.take n).length=n:=by simp; omega
  have H:=sU (P:=P) (md:=md) (w:=w) hsel hc (nW n k listed) (l.take n) k listed a (fun j hj=>by
   rw[htl]at hj;rw[List.getElem?_take,if_pos hj]; exact hl j) (by rw[htl]) (qV hh) (by rw[htl]; exact hs) (by rw[htl]) (qw.out h)
  have:=wpAny_of_head (Q':=Q) (g:=ops.size-(k+n)) (fun listed' a' hL=>by
   rw[hL.1];exact ft hsel s (l.drop n) (k+n) _ a' w (fun j=>by rw[List.getElem?_drop,hl,Nat.add_assoc]) hB' hL.2) _ _ _ H.1
  rw[htl,show n+(ops.size-(k+n))=ops.size-k by omega]at this;exact this
 | none::s,l,k,listed,a,w,hl,hB,h=>by
  simp only[mf,Bool.and_eq_true,decide_eq_true_eq]at hB;obtain⟨⟨hk,hr⟩,hB'⟩:=hB;obtain⟨o,ho⟩: ∃o,ops[k]? =some o:=⟨ops[k],by simp[hk]⟩;have h0:l[0]? =some o:=by rw[hl]; exact ho
  obtain⟨l',rfl⟩: ∃l',l=o::l':=by
   cases l with
   | nil=>simp at h0
   | cons x y=>simp at h0; exact⟨y,by rw[h0]⟩
  rw[show ops.size-k=(ops.size-(k+1))+1 by omega];refine⟨fun h1=>(by rw[hr]at h1; cases h1),fun i hi=> ?_⟩;rw[hr]at hi;have hik:i=k:=by simpa using hi
  subst hik;have hw:wpOp P ops Q i (fun a' w'=>bh P ops Q s l' a' w') a w:=by
   unfold wpOp;simp only[ho];exact qu.out h
  exact wpOp_mono (fun a' w' h'=>ft hsel s l' (i+1) _ a' w' (fun j=>by have:=hl (j+1); simpa [Nat.add_assoc,Nat.add_comm 1 j]using this) hB' h') hw
theorem aj {id:Nat} {Q:Exit->Act->World->Prop} {a:Act} {w:World} {l:List Oper} (s:List (Option Nat)) (hm:P.follows .mixedOrders=true) (hsel:Region.noSelect l.toArray=true)
  (hB:mf .any l.toArray s 0 (Array.replicate l.toArray.size false)=true) (h:bh P l.toArray Q s l a w.drew):(Code.region id l.toArray true).wp P Q a w:=by
 refine wp_region_any hm ?_;have:=ft (md:= .any) (P:=P) (Q:=Q) hsel s l 0 _ a w.drew (by simp) hB h
 simpa using this
theorem az {Q:Act->Prop} {a:Act} (h:Q a):qw P ops w Q [] a:=qw.of h
theorem au {Q:Act->Prop} {a:Act} {o:Oper} {rest:List Oper} (hw:Region.wanted o (yielded ops a.tmps)=false) (h:qw P ops w Q rest (a.put o.dst undef)):qw P ops w Q (o::rest) a:=by
 refine qw.of ?_;unfold wpStill; rw[hw]; exact h.out
theorem aA {Q:Act->Prop} {a:Act} {dst:Option Tmp} {op:Op} {ty:TypeId} {pos:String} {aft:Array Edge} {g:Option (Nat×Bool)} {rest:List Oper} (hw:Region.wanted ⟨dst,op,ty,pos,aft,g⟩ (yielded ops a.tmps)=true)
  (h: ∀K:Act->Prop,(∀a,qw P ops w Q rest a->K a)->Oper.still P ⟨dst,op,ty,pos, #[],none⟩ a w K):qw P ops w Q (⟨dst,op,ty,pos,aft,g⟩::rest) a:=by
 refine qw.of ?_;unfold wpStill; rw[hw]; exact h _ (fun _ h=>h.out)
theorem jd {Q:Exit->Act->World->Prop} {next:Act->World->Prop} {a:Act} {o:Oper} (hw:Region.wanted o (yielded ops a.tmps)=false) (h:next (a.put o.dst undef) w):qu P ops next Q [o] a w:=by
 refine qu.of ?_;unfold wpList; rw[hw]; exact h
theorem bu {Q:Exit->Act->World->Prop} {next:Act->World->Prop} {a:Act} {dst:Option Tmp} {op:Op} {ty:TypeId} {pos:String} {aft:Array Edge} {g:Option (Nat×Bool)} (hw:Region.wanted ⟨dst,op,ty,pos,aft,g⟩ (yielded ops a.tmps)=true)
  (h: ∀K:Act->World->Prop,(∀a w,next a w->K a w)->wpList P #[] (Exit.then K Q) [⟨dst,op,ty,pos, #[],none⟩] a w):qu P ops next Q [⟨dst,op,ty,pos,aft,g⟩] a w:=by
 refine qu.of ?_;have:=h _ (fun _ _ h=>h);unfold wpList at this ⊢;rw[hw];simp only[Region.wanted,if_true]at this;exact this
end
end Go.Proofs.YtnjkpcalgoefhaaGreatDoor
namespace Go.Proofs.YtnjkpcalgoefhaaGreatDoor
def cI (x s:Nat):Nat:=(x*2^s%4294967296) ||| (x/2^(32-s))
def yG (x:Nat):Nat:=(cI x 15^^^cI x 13)^^^(x/2^10)
def yF (x:Nat):Nat:=(cI x 25^^^cI x 14)^^^(x/2^3)
def kz (l:List Nat):Nat:=(((yG (l.getD (l.length-2) 0)+l.getD (l.length-7) 0)%4294967296+yF (l.getD (l.length-15) 0))%4294967296+l.getD (l.length-16) 0)%4294967296
def eW :Nat->List Nat->List Nat
 | 0,l=>l
 | n+1,l=>eW n (l++[kz l])
def sY (a b c d:UInt8):Nat:=(((a.toNat*2^24%4294967296) ||| (b.toNat*2^16%4294967296)) ||| (c.toNat*2^8%4294967296)) ||| d.toNat
def qq (b:List UInt8) (t:Nat):Nat:=sY (b.getD (4*t) 0) (b.getD (4*t+1) 0) (b.getD (4*t+2) 0) (b.getD (4*t+3) 0)
def ga (b:List UInt8) (n:Nat):List Nat:=(List.range n).map (qq b)
structure V8 where
 a:Nat
 b:Nat
 c:Nat
 d:Nat
 e:Nat
 f:Nat
 g:Nat
 h:Nat
def kc :List Nat:=[0x428a2f98,0x71374491,0xb5c0fbcf,0xe9b5dba5,0x3956c25b,0x59f111f1,0x923f82a4,0xab1c5ed5,
 0xd807aa98,0x12835b01,0x243185be,0x550c7dc3,0x72be5d74,0x80deb1fe,0x9bdc06a7,0xc19bf174,
 0xe49b69c1,0xefbe4786,0x0fc19dc6,0x240ca1cc,0x2de92c6f,0x4a7484aa,0x5cb0a9dc,0x76f988da,
 0x983e5152,0xa831c66d,0xb00327c8,0xbf597fc7,0xc6e00bf3,0xd5a79147,0x06ca6351,0x14292967,
 0x27b70a85,0x2e1b2138,0x4d2c6dfc,0x53380d13,0x650a7354,0x766a0abb,0x81c2c92e,0x92722c85,
 0xa2bfe8a1,0xa81a664b,0xc24b8b70,0xc76c51a3,0xd192e819,0xd6990624,0xf40e3585,0x106aa070,
 0x19a4c116,0x1e376c08,0x2748774c,0x34b0bcb5,0x391c0cb3,0x4ed8aa4a,0x5b9cca4f,0x682e6ff3,
 0x748f82ee,0x78a5636f,0x84c87814,0x8cc70208,0x90befffa,0xa4506ceb,0xbef9a3f7,0xc67178f2]
def t1P (v:V8) (k w:Nat):Nat:=((((v.h+((cI v.e 26^^^cI v.e 21)^^^cI v.e 7))%4294967296+((v.e &&& v.f)^^^((4294967295-v.e) &&& v.g)))%4294967296+k)%4294967296+w)%4294967296
def t2P (v:V8):Nat:=(((cI v.a 30^^^cI v.a 19)^^^cI v.a 10)+(((v.a &&& v.b)^^^(v.a &&& v.c))^^^(v.b &&& v.c)))%4294967296
def ui (v:V8) (k w:Nat):V8:=⟨(t1P v k w+t2P v)%4294967296,v.a,v.b,v.c,(v.d+t1P v k w)%4294967296,v.e,v.f,v.g⟩
def jw (l:List (Nat×Nat)) (v:V8):V8:=l.foldl (fun v p=>ui v p.1 p.2) v
def lc (x y:Nat):Nat:=(x+y)%4294967296
def vw (v u:V8):V8:=⟨lc v.a u.a,lc v.b u.b,lc v.c u.c,lc v.d u.d,lc v.e u.e,lc v.f u.f,lc v.g u.g,lc v.h u.h⟩
def wsP (b:List UInt8):List Nat:=eW 48 (ga b 16)
def pS (v:V8) (b:List UInt8):V8:=vw v (jw (kc.zip (wsP b)) v)
def ke :V8:=⟨0x6a09e667,0xbb67ae85,0x3c6ef372,0xa54ff53a,0x510e527f,0x9b05688c,0x1f83d9ab,0x5be0cd19⟩
def dt (l:List UInt8):Nat->V8
 | 0=>ke
 | k+1=>pS (dt l k) ((l.drop (64*k)).take 64)
def qE (x:Nat):List UInt8:=[UInt8.ofNat (x/2^24),UInt8.ofNat (x/2^16),UInt8.ofNat (x/2^8),UInt8.ofNat x]
def nV (x:Nat):List UInt8:=[UInt8.ofNat (x/2^56),UInt8.ofNat (x/2^48),UInt8.ofNat (x/2^40),UInt8.ofNat (x/2^32),UInt8.ofNat (x/2^24),UInt8.ofNat (x/2^16),UInt8.ofNat (x/2^8),UInt8.ofNat x]
def fu (n:Nat):Nat:=(119-n%64)%64
def kL (n:Nat):List UInt8:=128::List.replicate (fu n) 0++nV (n*8%18446744073709551616)
def V8.list (v:V8):List Nat:=[v.a,v.b,v.c,v.d,v.e,v.f,v.g,v.h]
def V8.out (v:V8):List UInt8:=v.list.flatMap qE
def rL (l:List UInt8):List UInt8:=(dt (l++kL l.length) ((l++kL l.length).length/64)).out
theorem fT {x y:Nat} (hx:x<4294967296) (hy:y<4294967296):x ||| y<4294967296:=Nat.or_lt_two_pow (n:=32) hx hy
theorem gY {x y:Nat} (hx:x<4294967296) (hy:y<4294967296):x^^^y<4294967296:=Nat.xor_lt_two_pow (n:=32) hx hy
theorem eK {x:Nat} (y:Nat) (hx:x<4294967296):x &&& y<4294967296:=Nat.lt_of_le_of_lt Nat.and_le_left hx
theorem bY {x:Nat} (s:Nat) (hx:x<4294967296):cI x s<4294967296:=fT (Nat.mod_lt _ (by decide)) (Nat.lt_of_le_of_lt (Nat.div_le_self _ _) hx)
theorem wC (l:List Nat):kz l<4294967296:=Nat.mod_lt _ (by decide)
theorem sx {x:Nat} (b:UInt8) (h:x=b.toNat):x<4294967296:=by have:=b.toNat_lt; omega
theorem xu (a b c d:UInt8):sY a b c d<4294967296:=fT (fT (fT (Nat.mod_lt _ (by decide)) (Nat.mod_lt _ (by decide))) (Nat.mod_lt _ (by decide))) (sx _ rfl)
theorem xw (b:List UInt8) (t:Nat):qq b t<4294967296:=xu _ _ _ _
def tg (l:List Nat):Prop:= ∀x∈l,x<4294967296
theorem tg.get {l:List Nat} (h:tg l) (k:Nat):l.getD k 0<4294967296:=by
 rw[List.getD_eq_getElem?_getD]
 cases hk:l[k]? with
 | none=>simp
 | some x=>exact h x (List.mem_of_getElem? hk)
theorem my (b:List UInt8) (n:Nat):(ga b n).length=n:=by simp[ga]
theorem nO (b:List UInt8) (n:Nat):tg (ga b n):=by
 intro x hx;obtain⟨t,_,rfl⟩:=List.mem_map.1 hx;exact xw b t
theorem qr (b:List UInt8) (n:Nat):ga b (n+1)=ga b n++[qq b n]:=by simp[ga,List.range_succ]
theorem kD : ∀(n:Nat) (l:List Nat),eW (n+1) l=eW n l++[kz (eW n l)]
 | 0,_=>rfl
 | n+1,l=>by rw[eW,kD n (l++[kz l])]; rfl
theorem me : ∀(n:Nat) (l:List Nat),(eW n l).length=l.length+n
 | 0,_=>rfl
 | n+1,l=>by rw[eW,me n]; simp; omega
theorem nG : ∀(n:Nat) {l:List Nat},tg l->tg (eW n l)
 | 0,_,h=>h
 | n+1,l,h=>by
  rw[eW];refine nG n (fun x hx=> ?_)
  rcases List.mem_append.1 hx with hx | hx
  ·exact h x hx
  ·rw[List.mem_singleton.1 hx]; exact wC l
def kY (b:List UInt8) (t:Nat):List Nat:=if t<=16 then ga b t else eW (t-16) (ga b 16)
theorem fZ (b:List UInt8) (t:Nat):(kY b t).length=t:=by
 unfold kY; split
 ·exact my b t
 ·rw[me,my]; omega
theorem xt (b:List UInt8) (t:Nat):tg (kY b t):=by
 unfold kY; split
 ·exact nO b t
 ·exact nG _ (nO b 16)
theorem yL (b:List UInt8) {t:Nat} (h:t<16):kY b (t+1)=kY b t++[qq b t]:=by
 unfold kY; rw[if_pos (by omega),if_pos (by omega),qr]
theorem xr (b:List UInt8) {t:Nat} (h:16<=t):kY b (t+1)=kY b t++[kz (kY b t)]:=by
 unfold kY; rw[if_neg (by omega)]
 by_cases ht:t=16
 ·subst ht; rw[if_pos (by decide)]; rfl
 ·rw[if_neg (by omega),show t+1-16=(t-16)+1 by omega,kD]
theorem sX (b:List UInt8):kY b 64=wsP b:=by unfold kY wsP; rw[if_neg (by decide)]
theorem sZ (b:List UInt8):(wsP b).length=64:=by rw[<-sX]; exact fZ b 64
theorem rf :kc.length=64:=rfl
structure V8.Ok (v : V8) : Prop where
 a:v.a<4294967296
 b:v.b<4294967296
 c:v.c<4294967296
 d:v.d<4294967296
 e:v.e<4294967296
 f:v.f<4294967296
 g:v.g<4294967296
 h:v.h<4294967296
theorem yv {v:V8} (h:v.Ok) (k w:Nat):(ui v k w).Ok:=⟨Nat.mod_lt _ (by decide),h.a,h.b,h.c,Nat.mod_lt _ (by decide),h.e,h.f,h.g⟩
theorem wV (l:List (Nat×Nat)): ∀ {v:V8},v.Ok->(jw l v).Ok:=by
 induction l with
 | nil=>intro v h; exact h
 | cons p l ih=>
  intro v h;unfold jw at ih ⊢;rw[List.foldl_cons];exact ih (yv h p.1 p.2)
theorem rC (l:List (Nat×Nat)) (p:Nat×Nat) (v:V8):jw (l++[p]) v=ui (jw l v) p.1 p.2:=by
 unfold jw; rw[List.foldl_append,List.foldl_cons,List.foldl_nil]
theorem xG (v u:V8):(vw v u).Ok:=by constructor<;> exact Nat.mod_lt _ (by decide)
theorem uZ :ke.Ok:=by constructor<;> decide
theorem wM (v:V8) (b:List UInt8):(pS v b).Ok:=xG _ _
theorem nY (l:List UInt8): ∀k,(dt l k).Ok
 | 0=>uZ
 | _+1=>wM _ _
def rTo (b:List UInt8) (v:V8) (t:Nat):V8:=jw ((kc.zip (wsP b)).take t) v
theorem wQ (b:List UInt8) {v:V8} (t:Nat) (h:v.Ok):(rTo b v t).Ok:=wV _ h
theorem ij {l:List Nat} {t:Nat} (h:t<l.length):l[t]? =some (l.getD t 0):=by simp[List.getD_eq_getElem?_getD,h]
theorem xz {x y:List Nat} {t:Nat} (h1:t<x.length) (h2:t<y.length):(x.zip y)[t]? =some (x.getD t 0,y.getD t 0):=by
 rw[List.getElem?_zip_eq_some];exact⟨ij h1,ij h2⟩
theorem uj {x y:List Nat} (v:V8) {t:Nat} (h1:t<x.length) (h2:t<y.length):jw ((x.zip y).take (t+1)) v=ui (jw ((x.zip y).take t) v) (x.getD t 0) (y.getD t 0):=by
 rw[List.take_add_one,xz h1 h2,Option.toList_some,rC]
theorem wR (b:List UInt8) (v:V8) {t:Nat} (h:t<64):rTo b v (t+1)=ui (rTo b v t) (kc.getD t 0) ((wsP b).getD t 0):=
 uj v (by rw[rf]; exact h) (by rw[sZ]; exact h)
theorem wN (v:V8) (b:List UInt8):pS v b=vw v (rTo b v 64):=by
 unfold pS rTo; rw[List.take_of_length_le (by rw[List.length_zip,sZ,rf]; decide)]
theorem je {l:List UInt8} (r:List UInt8): ∀ {k:Nat},64*k<=l.length->dt (l++r) k=dt l k
 | 0,_=>rfl
 | k+1,h=>by
  rw[dt,dt,je r (k:=k) (by omega)]
  congr 1
  rw[List.drop_append_of_le_length (by omega),List.take_append_of_le_length (by rw[List.length_drop]; omega)]
theorem sw (x:Nat):(qE x).length=4:=rfl
theorem yr (v:V8):v.out.length=32:=by simp[V8.out,V8.list,qE]
theorem xh (l:List UInt8):(rL l).length=32:=by unfold rL; exact yr _
theorem wH (n:Nat):(kL n).length=1+fu n+8:=by unfold kL nV; simp; omega
open Go Go.RowKit
def er (x:Nat):Value:= .int .u32 (x:Int)
theorem cL {x a b:Nat} {s:Nat} (ha:2^s=a) (hb:2^(32-s)=b) (hx:x<4294967296):bits .or .u32 ((x:Int)*(a:Int)%4294967296) ((x:Int)/(b:Int))=((cI x s:Nat):Int):=by
 rw[show((x:Int)*(a:Int)%4294967296)=((x*a%4294967296:Nat):Int) by simp,show((x:Int)/(b:Int))=((x/b:Nat):Int) by simp,
  u32_or_nat _ _ (Nat.mod_lt _ (by decide)) (Nat.lt_of_le_of_lt (Nat.div_le_self _ _) hx)]
 unfold cI; rw[ha,hb]
theorem uq (x:Nat) (w:World) (hx:x<4294967296):Calls Tryz.prog 199 #[.int .u32 (x:Int), .int .i64 (-17)] w fun e w'=>e= .returned (.int .u32 ((cI x 15:Nat):Int))/\w=w':=by
 have h1:bits BinOp.and IntKind.u64 (IntKind.u64.wrap (-17)) 31=15:=by decide+kernel
 go_enter Tryz.func199,Tryz.ntmps199
 go_wp2_with fail;go_ret;refine⟨?_,rfl⟩;rw[<-cL (a:=32768) (b:=131072) (by decide) (by decide) hx]
 rfl
theorem un (x:Nat) (w:World) (hx:x<4294967296):Calls Tryz.prog 199 #[.int .u32 (x:Int), .int .i64 (-19)] w fun e w'=>e= .returned (.int .u32 ((cI x 13:Nat):Int))/\w=w':=by
 have h1:bits BinOp.and IntKind.u64 (IntKind.u64.wrap (-19)) 31=13:=by decide+kernel
 go_enter Tryz.func199,Tryz.ntmps199
 go_wp2_with fail;go_ret;refine⟨?_,rfl⟩;rw[<-cL (a:=8192) (b:=524288) (by decide) (by decide) hx]
 rfl
theorem uu (x:Nat) (w:World) (hx:x<4294967296):Calls Tryz.prog 199 #[.int .u32 (x:Int), .int .i64 (-7)] w fun e w'=>e= .returned (.int .u32 ((cI x 25:Nat):Int))/\w=w':=by
 have h1:bits BinOp.and IntKind.u64 (IntKind.u64.wrap (-7)) 31=25:=by decide+kernel
 go_enter Tryz.func199,Tryz.ntmps199
 go_wp2_with fail;go_ret;refine⟨?_,rfl⟩;rw[<-cL (a:=33554432) (b:=128) (by decide) (by decide) hx]
 rfl
theorem uo (x:Nat) (w:World) (hx:x<4294967296):Calls Tryz.prog 199 #[.int .u32 (x:Int), .int .i64 (-18)] w fun e w'=>e= .returned (.int .u32 ((cI x 14:Nat):Int))/\w=w':=by
 have h1:bits BinOp.and IntKind.u64 (IntKind.u64.wrap (-18)) 31=14:=by decide+kernel
 go_enter Tryz.func199,Tryz.ntmps199
 go_wp2_with fail;go_ret;refine⟨?_,rfl⟩;rw[<-cL (a:=16384) (b:=262144) (by decide) (by decide) hx]
 rfl
theorem uv (x:Nat) (w:World) (hx:x<4294967296):Calls Tryz.prog 199 #[.int .u32 (x:Int), .int .i64 (-6)] w fun e w'=>e= .returned (.int .u32 ((cI x 26:Nat):Int))/\w=w':=by
 have h1:bits BinOp.and IntKind.u64 (IntKind.u64.wrap (-6)) 31=26:=by decide+kernel
 go_enter Tryz.func199,Tryz.ntmps199
 go_wp2_with fail;go_ret;refine⟨?_,rfl⟩;rw[<-cL (a:=67108864) (b:=64) (by decide) (by decide) hx]
 rfl
theorem ut (x:Nat) (w:World) (hx:x<4294967296):Calls Tryz.prog 199 #[.int .u32 (x:Int), .int .i64 (-11)] w fun e w'=>e= .returned (.int .u32 ((cI x 21:Nat):Int))/\w=w':=by
 have h1:bits BinOp.and IntKind.u64 (IntKind.u64.wrap (-11)) 31=21:=by decide+kernel
 go_enter Tryz.func199,Tryz.ntmps199
 go_wp2_with fail;go_ret;refine⟨?_,rfl⟩;rw[<-cL (a:=2097152) (b:=2048) (by decide) (by decide) hx]
 rfl
theorem wW (x:Nat) (w:World) (hx:x<4294967296):Calls Tryz.prog 199 #[.int .u32 (x:Int), .int .i64 (-25)] w fun e w'=>e= .returned (.int .u32 ((cI x 7:Nat):Int))/\w=w':=by
 have h1:bits BinOp.and IntKind.u64 (IntKind.u64.wrap (-25)) 31=7:=by decide+kernel
 go_enter Tryz.func199,Tryz.ntmps199
 go_wp2_with fail;go_ret;refine⟨?_,rfl⟩;rw[<-cL (a:=128) (b:=33554432) (by decide) (by decide) hx]
 rfl
theorem uw (x:Nat) (w:World) (hx:x<4294967296):Calls Tryz.prog 199 #[.int .u32 (x:Int), .int .i64 (-2)] w fun e w'=>e= .returned (.int .u32 ((cI x 30:Nat):Int))/\w=w':=by
 have h1:bits BinOp.and IntKind.u64 (IntKind.u64.wrap (-2)) 31=30:=by decide+kernel
 go_enter Tryz.func199,Tryz.ntmps199
 go_wp2_with fail;go_ret;refine⟨?_,rfl⟩;rw[<-cL (a:=1073741824) (b:=4) (by decide) (by decide) hx]
 rfl
theorem ur (x:Nat) (w:World) (hx:x<4294967296):Calls Tryz.prog 199 #[.int .u32 (x:Int), .int .i64 (-13)] w fun e w'=>e= .returned (.int .u32 ((cI x 19:Nat):Int))/\w=w':=by
 have h1:bits BinOp.and IntKind.u64 (IntKind.u64.wrap (-13)) 31=19:=by decide+kernel
 go_enter Tryz.func199,Tryz.ntmps199
 go_wp2_with fail;go_ret;refine⟨?_,rfl⟩;rw[<-cL (a:=524288) (b:=8192) (by decide) (by decide) hx]
 rfl
theorem um (x:Nat) (w:World) (hx:x<4294967296):Calls Tryz.prog 199 #[.int .u32 (x:Int), .int .i64 (-22)] w fun e w'=>e= .returned (.int .u32 ((cI x 10:Nat):Int))/\w=w':=by
 have h1:bits BinOp.and IntKind.u64 (IntKind.u64.wrap (-22)) 31=10:=by decide+kernel
 go_enter Tryz.func199,Tryz.ntmps199
 go_wp2_with fail;go_ret;refine⟨?_,rfl⟩;rw[<-cL (a:=1024) (b:=4194304) (by decide) (by decide) hx]
 rfl
theorem tS {e:Nat} (h:e<4294967296):4294967295^^^e=4294967295-e:=by
 apply Nat.eq_of_testBit_eq
 intro i;rw[Nat.testBit_xor,show(4294967295:Nat)=2^32-1 by decide,Nat.testBit_two_pow_sub_one,show 2^32-1-e=2^32-(e+1) by omega,Nat.testBit_two_pow_sub_succ (by omega)]
 by_cases hi:i<32
 ·simp[hi]
 ·have:e.testBit i=false:=Nat.testBit_lt_two_pow (Nat.lt_of_lt_of_le h (Nat.pow_le_pow_right (by decide) (by omega):2^32<=2^i));simp[hi,this]
theorem zE {e:Nat} (h:e<4294967296):bits BinOp.xor IntKind.u32 (if IntKind.u32.signed=true then -1 else IntKind.u32.max) (e:Int)=((4294967295-e:Nat):Int):=by
 rw[show(if IntKind.u32.signed=true then(-1:Int)else IntKind.u32.max)=((4294967295:Nat):Int) by decide,u32_xor_nat _ _ (by decide) h,tS h]
def s1P (r:V8):Nat:=(cI r.e 26^^^cI r.e 21)^^^cI r.e 7
def chP (r:V8):Nat:=(r.e &&& r.f)^^^((4294967295-r.e) &&& r.g)
def s0P (r:V8):Nat:=(cI r.a 30^^^cI r.a 19)^^^cI r.a 10
def mjP (r:V8):Nat:=((r.a &&& r.b)^^^(r.a &&& r.c))^^^(r.b &&& r.c)
theorem yy {r:V8} (h:r.Ok):bits BinOp.xor IntKind.u32 (bits BinOp.xor IntKind.u32 ((cI r.e 26:Nat):Int) ((cI r.e 21:Nat):Int)) ((cI r.e 7:Nat):Int)=((s1P r:Nat):Int):=by
 rw[u32_xor_nat _ _ (bY _ h.e) (bY _ h.e),u32_xor_nat _ _ (gY (bY _ h.e) (bY _ h.e)) (bY _ h.e)]; rfl
theorem yx {r:V8} (h:r.Ok):bits BinOp.xor IntKind.u32 (bits BinOp.xor IntKind.u32 ((cI r.a 30:Nat):Int) ((cI r.a 19:Nat):Int)) ((cI r.a 10:Nat):Int)=((s0P r:Nat):Int):=by
 rw[u32_xor_nat _ _ (bY _ h.a) (bY _ h.a),u32_xor_nat _ _ (gY (bY _ h.a) (bY _ h.a)) (bY _ h.a)]; rfl
theorem xQ {r:V8} (h:r.Ok):bits BinOp.xor IntKind.u32 (bits BinOp.and IntKind.u32 (r.e:Int) (r.f:Int)) (bits BinOp.and IntKind.u32 (bits BinOp.xor IntKind.u32 (if IntKind.u32.signed=true then -1 else IntKind.u32.max) (r.e:Int)) (r.g:Int))=((chP r:Nat):Int):=by
 have h1:4294967295-r.e<4294967296:=by omega
 rw[zE h.e,u32_and_nat _ _ h.e h.f,u32_and_nat _ _ h1 h.g,u32_xor_nat _ _ (eK _ h.e) (eK _ h1)]; rfl
theorem yp {r:V8} (h:r.Ok):bits BinOp.xor IntKind.u32 (bits BinOp.xor IntKind.u32 (bits BinOp.and IntKind.u32 (r.a:Int) (r.b:Int)) (bits BinOp.and IntKind.u32 (r.a:Int) (r.c:Int))) (bits BinOp.and IntKind.u32 (r.b:Int) (r.c:Int))=((mjP r:Nat):Int):=by
 rw[u32_and_nat _ _ h.a h.b,u32_and_nat _ _ h.a h.c,u32_and_nat _ _ h.b h.c,u32_xor_nat _ _ (eK _ h.a) (eK _ h.a),u32_xor_nat _ _ (gY (eK _ h.a) (eK _ h.a)) (eK _ h.b)]; rfl
theorem xm (r:V8) (k x:Nat):t1P r k x=(r.h+s1P r+chP r+k+x)%4294967296:=by unfold t1P s1P chP; omega
theorem zp (r:V8):t2P r=(s0P r+mjP r)%4294967296:=rfl
def eI (w:World):Prop:= ∀j x,kc[j]? =some x->w.cell? ⟨4,j,none⟩=some (er x)
def u8W (b:UInt8):Value:= .int .u8 (b.toNat:Int)
structure dy (w : World) (bs : List UInt8) (t : Nat) (wr : World) : Prop where
 box:wr.heap[w.heap.size]? =some (.cells ((kY bs t).map er++List.replicate (64-t) (er 0)).toArray 156 (0,0))
 below:Below w.heap.size w wr
theorem dy.get {w wr:World} {bs:List UInt8} {t j:Nat} (h:dy w bs t wr) (hj:j<t):wr.cell? ⟨w.heap.size,j,none⟩=some (.int .u32 (((kY bs t).getD j 0:Nat):Int)):=by
 rw[cell_of_row wr _ j _ _ _ h.box];have h1:j<(kY bs t).length:=by rw[fZ]; exact hj
 rw[List.getElem?_toArray,List.getElem?_append_left (by simpa using h1),List.getElem?_map,ij h1]; rfl
theorem dy.free {w wr:World} {bs:List UInt8} {t:Nat} (h:dy w bs t wr) (j:Nat):wr.frozen? ⟨w.heap.size,j,none⟩=false:=frozen_of_row wr _ j _ _ h.box
theorem dy.here {w wr:World} {bs:List UInt8} {t:Nat} (h:dy w bs t wr) (ht:t<64):wr.cell? ⟨w.heap.size,t,none⟩=some (.int .u32 0):=by
 rw[cell_of_row wr _ t _ _ _ h.box,List.getElem?_toArray,List.getElem?_append_right (by simp[fZ])];rw[List.length_map,fZ,Nat.sub_self,show 64-t=(64-(t+1))+1 by omega,List.replicate_succ]; rfl
theorem dy.put {w wr:World} {bs:List UInt8} {t x:Nat} (h:dy w bs t wr) (ht:t<64) (hx:kY bs (t+1)=kY bs t++[x]):dy w bs (t+1) (wr.setCell ⟨w.heap.size,t,none⟩ (.int .u32 (x:Int))):=by
 refine⟨?_, ?_⟩
 ·rw[heap_setCell_same wr _ t _ _ _ h.box,hx]
  congr 2
  rw[List.setIfInBounds_toArray,List.set_append_right _ _ (by simp[fZ])];rw[List.map_append,List.append_assoc]
  congr 2
  rw[List.length_map,fZ,Nat.sub_self,show 64-t=(64-(t+1))+1 by omega,List.replicate_succ]
  rfl
 ·exact h.below.trans ⟨rfl,rfl,rfl,by simp[World.setCell],fun k hk=>heap_setCell_other wr _ k _ (by show k≠w.heap.size; omega)⟩
theorem dy.start (w:World) (bs:List UInt8):dy w bs 0 (w.alloc (.cells (List.replicate 64 (er 0)).toArray 156)):=
 ⟨by rw[heap_alloc_new]; rfl,(Below.refl _ _).alloc (Nat.le_refl _) _⟩
theorem rZ (a b c d:UInt8):bits BinOp.or IntKind.u32 (bits BinOp.or IntKind.u32 (bits BinOp.or IntKind.u32 ((a.toNat:Int)%4294967296*16777216%4294967296) ((b.toNat:Int)%4294967296*65536%4294967296)) ((c.toNat:Int)%4294967296*256%4294967296)) ((d.toNat:Int)%4294967296)=((sY a b c d:Nat):Int):=by
 have ha:=a.toNat_lt;have hb:=b.toNat_lt;have hc:=c.toNat_lt;have hd:=d.toNat_lt;rw[show((a.toNat:Int)%4294967296*16777216%4294967296)=((a.toNat*2^24%4294967296:Nat):Int) by omega,show((b.toNat:Int)%4294967296*65536%4294967296)=((b.toNat*2^16%4294967296:Nat):Int) by omega,
  show((c.toNat:Int)%4294967296*256%4294967296)=((c.toNat*2^8%4294967296:Nat):Int) by omega,show((d.toNat:Int)%4294967296)=((d.toNat:Nat):Int) by omega,
  u32_or_nat _ _ (Nat.mod_lt _ (by decide)) (Nat.mod_lt _ (by decide)),u32_or_nat _ _ (fT (Nat.mod_lt _ (by decide)) (Nat.mod_lt _ (by decide))) (Nat.mod_lt _ (by decide)),
  u32_or_nat _ _ (fT (fT (Nat.mod_lt _ (by decide)) (Nat.mod_lt _ (by decide))) (Nat.mod_lt _ (by decide))) (sx _ rfl)]
 rfl
theorem uP {x:Nat} (hx:x<4294967296):bits BinOp.xor IntKind.u32 (bits BinOp.xor IntKind.u32 ((cI x 15:Nat):Int) ((cI x 13:Nat):Int)) ((x:Int)/1024)=((yG x:Nat):Int):=by
 rw[show((x:Int)/1024)=((x/2^10:Nat):Int) by simp,u32_xor_nat _ _ (bY _ hx) (bY _ hx),u32_xor_nat _ _ (gY (bY _ hx) (bY _ hx)) (Nat.lt_of_le_of_lt (Nat.div_le_self _ _) hx)]
 rfl
theorem uO {x:Nat} (hx:x<4294967296):bits BinOp.xor IntKind.u32 (bits BinOp.xor IntKind.u32 ((cI x 25:Nat):Int) ((cI x 14:Nat):Int)) ((x:Int)/8)=((yF x:Nat):Int):=by
 rw[show((x:Int)/8)=((x/2^3:Nat):Int) by simp,u32_xor_nat _ _ (bY _ hx) (bY _ hx),u32_xor_nat _ _ (gY (bY _ hx) (bY _ hx)) (Nat.lt_of_le_of_lt (Nat.div_le_self _ _) hx)]
 rfl
theorem dy.next {w wr w2:World} {bs:List UInt8} {t:Nat} (h:dy w bs t wr) (hb:Below wr.heap.size wr w2):dy w bs t w2:=⟨(hb.block _ (lt_of_block h.box)).trans h.box,h.below.trans (hb.mono h.below.size)⟩
theorem dy.drew {w wr:World} {bs:List UInt8} {t:Nat} (h:dy w bs t wr):dy w bs t wr.drew:=⟨h.box,h.below.trans (Below.refl _ _).drew⟩
theorem yb {bs:List UInt8} {j:Nat} (h:j<bs.length):bs[j]? =some (bs.getD j 0):=by simp[List.getD_eq_getElem?_getD,h]
def wB (v r:V8) (j:Nat):List Nat:=(vw v r).list.take j++v.list.drop j
structure eA (sb : Nat) (v r : V8) (tl : List Value) (ty : TypeId) (W1 wq : World) (j : Nat) : Prop where
 box:wq.heap[sb]? =some (.cells ((wB v r j).map er++tl).toArray ty (0,0))
 grown:W1.grownBy wq (some sb)
theorem eA.start {sb:Nat} {v r:V8} {tl:List Value} {ty:TypeId} {W1 wq:World} (h:W1.heap[sb]? =some (.cells (v.list.map er++tl).toArray ty (0,0))) (hb:Below W1.heap.size W1 wq):eA sb v r tl ty W1 wq 0:=
 ⟨(hb.block sb (lt_of_block h)).trans h,⟨hb.os,hb.tape,hb.output,hb.size,fun k hk _=>hb.block k hk⟩⟩
theorem eA.keep {sb:Nat} {v r:V8} {tl:List Value} {ty:TypeId} {W1 wq:World} {j:Nat} (h:eA sb v r tl ty W1 wq j) {b:Nat} {o:Obj} (hb:W1.heap[b]? =some o) (hne:sb≠b):wq.heap[b]? =some o:=
 (h.grown.block b (lt_of_block hb) (fun e=>hne (Option.some.inj e).symm)).trans hb
theorem eA.free {sb:Nat} {v r:V8} {tl:List Value} {ty:TypeId} {W1 wq:World} {j:Nat} (h:eA sb v r tl ty W1 wq j) (k:Nat):wq.frozen? ⟨sb,k,none⟩=false:=frozen_of_row wq _ k _ _ h.box
theorem yn (v r:V8) {j:Nat} (h:j<8) (tl:List Value):((wB v r j).map er++tl)[j]? =some (er (v.list.getD j 0)):=by
 have hc:j=0\/j=1\/j=2\/j=3\/j=4\/j=5\/j=6\/j=7:=by omega
 rcases hc with rfl | rfl | rfl | rfl | rfl | rfl | rfl | rfl<;> rfl
theorem yo (v r:V8) {j:Nat} (h:j<8) (tl:List Value):((wB v r j).map er++tl).set j (er (lc (v.list.getD j 0) (r.list.getD j 0)))=(wB v r (j+1)).map er++tl:=by
 have hc:j=0\/j=1\/j=2\/j=3\/j=4\/j=5\/j=6\/j=7:=by omega
 rcases hc with rfl | rfl | rfl | rfl | rfl | rfl | rfl | rfl<;> rfl
theorem eA.here {sb:Nat} {v r:V8} {tl:List Value} {ty:TypeId} {W1 wq:World} {j:Nat} (h:eA sb v r tl ty W1 wq j) (hj:j<8):wq.cell? ⟨sb,j,none⟩=some (.int .u32 ((v.list.getD j 0:Nat):Int)):=by
 rw[cell_of_row wq _ _ _ _ _ h.box,List.getElem?_toArray,yn v r hj tl]; rfl
theorem eA.put {sb:Nat} {v r:V8} {tl:List Value} {ty:TypeId} {W1 wq:World} {j:Nat} (h:eA sb v r tl ty W1 wq j) (hj:j<8) {x:Value} (hx:x=er (lc (v.list.getD j 0) (r.list.getD j 0))):eA sb v r tl ty W1 (wq.setCell ⟨sb,j,none⟩ x) (j+1):=by
 subst hx;refine⟨?_, ?_⟩
 ·rw[heap_setCell_same wq _ _ _ _ _ h.box,List.setIfInBounds_toArray,yo v r hj tl]
 ·have h2:=h.grown;exact⟨h2.os,h2.tape,h2.output,by simpa [World.setCell]using h2.size,fun k hk hne=>(heap_setCell_other wq _ k _ (fun e=>hne (by rw[e]))).trans (h2.block k hk hne)⟩
theorem eA.drew {sb:Nat} {v r:V8} {tl:List Value} {ty:TypeId} {W1 wq:World} {j:Nat} (h:eA sb v r tl ty W1 wq j):eA sb v r tl ty W1 wq.drew j:=
 ⟨h.box,⟨h.grown.os,h.grown.tape,h.grown.output,h.grown.size,h.grown.block⟩⟩
theorem zJ (v:V8) {j:Nat} (h:j<8):([.int .u32 (v.a:Int), .int .u32 (v.b:Int), .int .u32 (v.c:Int), .int .u32 (v.d:Int), .int .u32 (v.e:Int), .int .u32 (v.f:Int), .int .u32 (v.g:Int), .int .u32 (v.h:Int)]:List Value)[j]? =some (.int .u32 ((v.list.getD j 0:Nat):Int)):=by
 have hc:j=0\/j=1\/j=2\/j=3\/j=4\/j=5\/j=6\/j=7:=by omega
 rcases hc with rfl | rfl | rfl | rfl | rfl | rfl | rfl | rfl<;> rfl
theorem wu (r:V8) {j:Nat} (h:j<8) (w:World):(Instr.index 101 (.agg #[.int .u32 (r.a:Int), .int .u32 (r.b:Int), .int .u32 (r.c:Int), .int .u32 (r.d:Int), .int .u32 (r.e:Int), .int .u32 (r.f:Int), .int .u32 (r.g:Int), .int .u32 (r.h:Int)]) (.int .i64 (j:Int))).run Tryz.prog w= .ok (.int .u32 ((r.list.getD j 0:Nat):Int)) w:=by
 have hc:j=0\/j=1\/j=2\/j=3\/j=4\/j=5\/j=6\/j=7:=by omega
 rcases hc with rfl | rfl | rfl | rfl | rfl | rfl | rfl | rfl<;> (show _=_; kernel_rfl)
theorem kG {w:World} {sb:Nat} {v:V8} {tl:List Value} {ty:TypeId} (h:w.heap[sb]? =some (.cells (v.list.map er++tl).toArray ty (0,0))):w.rangeAt sb 0 (v.list.map er):=by
 intro j x hj;rw[cell_of_row w _ _ _ _ _ h,Nat.zero_add,List.getElem?_toArray,List.getElem?_append_left (List.getElem?_eq_some_iff.1 hj).1];exact hj
theorem gH (sb:Nat) (v:V8) (tl:List Value) (ty:TypeId) (bk o cap:Nat) (bs:List UInt8) (w:World) (hbox:w.heap[sb]? =some (.cells (v.list.map er++tl).toArray ty (0,0))) (hv:v.Ok) (hl:bs.length=64) (hcap:64<=cap) (_hcapm:cap<=maxLen)
  (hbs: ∀j b,bs[j]? =some b->w.cell? ⟨bk,o+j,none⟩=some (u8W b)) (hK:eI w) (hKlt:4<w.heap.size):
  Calls Tryz.prog 177 #[.pointer (some ⟨sb,0,none⟩), .slice (some ⟨bk,o,none⟩) 64 cap] w fun e w'=>e= .returned (.tuple #[])/\w'.heap[sb]? =some (.cells ((pS v bs).list.map er++tl).toArray ty (0,0))/\w.grownBy w' (some sb):=by
 have HX:=ab hbox;have HS:=ab hbs;have HK:=ab hK;clear hbox hbs hK
 go_enter Tryz.func177,Tryz.ntmps177
 go_wp2_with fail;have HA0:=ab (dy.start w bs)
 go_loopw [27] (fun i wr=> ∃t:Nat,t<=64/\i= .int .i64 (t:Int)/\dy w bs t wr) (fun i _=>64-(intOf i).toNat)
 case atStart=>exact⟨0,by omega,rfl,HA0.out⟩
 case round=>
  obtain⟨t,ht,rfl,hs⟩:=hrel;have HA:=ab hs;have hz:=hs.below.size;clear hs
  by_cases h16:t<16
  ·obtain⟨b0,hb0⟩: ∃b,b=bs.getD (4*t) 0:=⟨_,rfl⟩;obtain⟨b1,hb1⟩: ∃b,b=bs.getD (4*t+1) 0:=⟨_,rfl⟩;obtain⟨b2,hb2⟩: ∃b,b=bs.getD (4*t+2) 0:=⟨_,rfl⟩;obtain⟨b3,hb3⟩: ∃b,b=bs.getD (4*t+3) 0:=⟨_,rfl⟩;have q0:=HS.out (4*t) (bs.getD (4*t) 0) (yb (by omega));have q1:=HS.out (4*t+1) (bs.getD (4*t+1) 0) (yb (by omega));have q2:=HS.out (4*t+2) (bs.getD (4*t+2) 0) (yb (by omega))
   have q3:=HS.out (4*t+3) (bs.getD (4*t+3) 0) (yb (by omega));have HW:=ab (show qq bs t=sY b0 b1 b2 b3 by rw[hb0,hb1,hb2,hb3]; rfl);rw[<-hb0]at q0;rw[<-hb1]at q1;rw[<-hb2]at q2;rw[<-hb3]at q3;have hbk:=block_lt_of_cell q0;simp only[u8W]at q0 q1 q2 q3;have c0:=(HA.out.below.cell (p:=⟨bk,o+4*t,none⟩) hbk).trans q0;have c1:=(HA.out.below.cell (p:=⟨bk,o+(4*t+1),none⟩) hbk).trans q1
   rw[<-Nat.add_assoc]at c1;have c2:=(HA.out.below.cell (p:=⟨bk,o+(4*t+2),none⟩) hbk).trans q2;rw[<-Nat.add_assoc]at c2;have c3:=(HA.out.below.cell (p:=⟨bk,o+(4*t+3),none⟩) hbk).trans q3;rw[<-Nat.add_assoc]at c3;have ch:=HA.out.here (by omega);have cf:=HA.out.free t;clear q0 q1 q2 q3 hb0 hb1 hb2 hb3;go_wp2_with fail;refine aj [some 24,none] (by kernel_rfl) (by kernel_rfl) (by kernel_rfl) ?_
   simp only[bh,List.take_succ_cons,List.take_zero,List.drop_succ_cons,List.drop_zero]
   repeat (first | (refine au rfl ?_; simp only[Act.put,aM,aN,aO]) | (refine aA rfl (fun K hK=> ?_); go_simp; refine hK _ ?_; clear hK K))
   refine az ?_;refine bu rfl (fun K hK=> ?_);go_wp2_with fail
   go_roundw
   case rel=>
    rw[rZ,<-HW.out];exact⟨t+1,by omega,by simp,(HA.out.put (by omega) (yL bs h16)).drew⟩
   case measure=>simp[intOf]; omega
  ·by_cases h64:t<64
   ·have h17:16<=t:=by omega
    obtain⟨j2,hj2⟩: ∃j,j=t-2:=⟨_,rfl⟩;obtain⟨j15,hj15⟩: ∃j,j=t-15:=⟨_,rfl⟩;obtain⟨j7,hj7⟩: ∃j,j=t-7:=⟨_,rfl⟩;obtain⟨j16,hj16⟩: ∃j,j=t-16:=⟨_,rfl⟩;have c2:=HA.out.get (j:=j2) (by omega);have c15:=HA.out.get (j:=j15) (by omega);have c7:=HA.out.get (j:=j7) (by omega);have c16:=HA.out.get (j:=j16) (by omega);have e2:IntKind.i64.wrap ((t:Int)-2)=(j2:Int):=by rw[IntKind.wrap_i64]; omega
    have e15:IntKind.i64.wrap ((t:Int)-15)=(j15:Int):=by rw[IntKind.wrap_i64]; omega
    have e7:IntKind.i64.wrap ((t:Int)-7)=(j7:Int):=by rw[IntKind.wrap_i64]; omega
    have e16:IntKind.i64.wrap ((t:Int)-16)=(j16:Int):=by rw[IntKind.wrap_i64]; omega
    have l2:(j2:Int)<64:=by omega
    have l15:(j15:Int)<64:=by omega
    have l7:(j7:Int)<64:=by omega
    have l16:(j16:Int)<64:=by omega
    have ch:=HA.out.here (by omega);have cf:=HA.out.free t;have HJ:=ab (show j2=t-2/\j15=t-15/\j7=t-7/\j16=t-16 from⟨hj2,hj15,hj7,hj16⟩);clear hj2 hj15 hj7 hj16;obtain⟨x2,hx2⟩: ∃x,x=(kY bs t).getD j2 0:=⟨_,rfl⟩;obtain⟨x15,hx15⟩: ∃x,x=(kY bs t).getD j15 0:=⟨_,rfl⟩;obtain⟨x7,hx7⟩: ∃x,x=(kY bs t).getD j7 0:=⟨_,rfl⟩;obtain⟨x16,hx16⟩: ∃x,x=(kY bs t).getD j16 0:=⟨_,rfl⟩
    rw[<-hx2]at c2;rw[<-hx15]at c15;rw[<-hx7]at c7;rw[<-hx16]at c16;have o2:x2<4294967296:=by rw[hx2]; exact(xt bs t).get j2
    have o15:x15<4294967296:=by rw[hx15]; exact(xt bs t).get j15
    have HN:=ab (show kz (kY bs t)=(((yG x2+x7)%4294967296+yF x15)%4294967296+x16)%4294967296 by
     unfold kz;rw[fZ,hx2,hx15,hx7,hx16,HJ.out.1,HJ.out.2.1,HJ.out.2.2.1,HJ.out.2.2.2])
    clear hx2 hx15 hx7 hx16;go_wp2_with fail;refine aj [some 10] (by kernel_rfl) (by kernel_rfl) (by kernel_rfl) ?_;simp only[bh,List.take_succ_cons,List.take_zero]
    repeat (first | (refine au rfl ?_; simp only[Act.put,aM,aN,aO]) | (refine aA rfl (fun K hK=> ?_); go_simp; refine hK _ ?_; clear hK K))
    refine az ?_;go_wp2_with fail;refine(uq _ _ o2).mono ?_;rintro e W1 ⟨rfl,rfl⟩;go_wp2_with fail;refine(un _ _ o2).mono ?_;rintro e W1 ⟨rfl,rfl⟩;go_wp2_with fail;refine(uu _ _ o15).mono ?_;rintro e W1 ⟨rfl,rfl⟩;go_wp2_with fail;refine(uo _ _ o15).mono ?_;rintro e W1 ⟨rfl,rfl⟩;rw[uP o2];go_wp2_with fail;refine aj [some 15,none] (by kernel_rfl) (by kernel_rfl) (by kernel_rfl) ?_
    simp only[bh,List.take_succ_cons,List.take_zero,List.drop_succ_cons,List.drop_zero]
    repeat (first | (refine au rfl ?_; simp only[Act.put,aM,aN,aO]) | (refine aA rfl (fun K hK=> ?_); go_simp; refine hK _ ?_; clear hK K))
    refine az ?_;refine bu rfl (fun K hK=> ?_);go_wp2_with fail
    go_roundw
    case rel=>
     rw[uO o15];have HV:((((yG x2:Nat):Int)+(x7:Int)+((yF x15:Nat):Int)+(x16:Int))%4294967296)=((kz (kY bs t):Nat):Int):=by rw[HN.out]; omega
     rw[HV];exact⟨t+1,by omega,by simp,(HA.out.put (by omega) (xr bs h17)).drew.drew⟩
    case measure=>simp[intOf]; omega
   ·obtain rfl:t=64:=by omega
    have HB1:=ab ((HX.out▸HA.out.below.block sb (lt_of_block HX.out):wr.heap[sb]? =some (.cells (v.list.map er++tl).toArray ty (0,0))));have HR:=ab (kG HB1.out);go_wp2_with (refine wpList_load_mid rfl 101 _ rfl sb 0 rfl [.int .u32 (v.a:Int), .int .u32 (v.b:Int), .int .u32 (v.c:Int), .int .u32 (v.d:Int), .int .u32 (v.e:Int), .int .u32 (v.f:Int), .int .u32 (v.g:Int), .int .u32 (v.h:Int)] _ HR.out Tryz.underlying101 rfl (by kernel_rfl) ?_)
    obtain⟨W1,hW1⟩: ∃W1,W1=wr.alloc (.cells #[.int .u32 (v.a:Int), .int .u32 (v.b:Int), .int .u32 (v.c:Int), .int .u32 (v.d:Int), .int .u32 (v.e:Int), .int .u32 (v.f:Int), .int .u32 (v.g:Int), .int .u32 (v.h:Int)] 101):=⟨_,rfl⟩;rw[<-hW1];obtain⟨vb,hvb⟩: ∃vb,wr.heap.size=vb:=⟨_,rfl⟩;have HVB:=ab (show W1.heap[vb]? =some (.cells #[.int .u32 (v.a:Int), .int .u32 (v.b:Int), .int .u32 (v.c:Int), .int .u32 (v.d:Int), .int .u32 (v.e:Int), .int .u32 (v.f:Int), .int .u32 (v.g:Int), .int .u32 (v.h:Int)] 101 (0,0)) by rw[hW1,<-hvb]; exact heap_alloc_new _ _)
    have HBW:=ab (show Below wr.heap.size wr W1 by rw[hW1]; exact(Below.refl _ _).alloc (Nat.le_refl _) _);have HA1:=ab (HA.out.next HBW.out);have HB2:=ab ((HBW.out.block sb (lt_of_block HB1.out)).trans HB1.out);rw[hvb];have HVL:=ab (show sb<vb by rw[<-hvb]; exact lt_of_block HB1.out);clear hW1 hvb;have HOK:=ab (wQ bs (v:=v) 0 hv);have v0:W1.cell? ⟨vb,0,none⟩=some (.int .u32 (v.a:Int)):=(cell_of_row W1 _ _ _ _ _ HVB.out).trans rfl
    have v1:W1.cell? ⟨vb,1,none⟩=some (.int .u32 (v.b:Int)):=(cell_of_row W1 _ _ _ _ _ HVB.out).trans rfl;have v2:W1.cell? ⟨vb,2,none⟩=some (.int .u32 (v.c:Int)):=(cell_of_row W1 _ _ _ _ _ HVB.out).trans rfl;have v3:W1.cell? ⟨vb,3,none⟩=some (.int .u32 (v.d:Int)):=(cell_of_row W1 _ _ _ _ _ HVB.out).trans rfl;have v4:W1.cell? ⟨vb,4,none⟩=some (.int .u32 (v.e:Int)):=(cell_of_row W1 _ _ _ _ _ HVB.out).trans rfl
    have v5:W1.cell? ⟨vb,5,none⟩=some (.int .u32 (v.f:Int)):=(cell_of_row W1 _ _ _ _ _ HVB.out).trans rfl;have v6:W1.cell? ⟨vb,6,none⟩=some (.int .u32 (v.g:Int)):=(cell_of_row W1 _ _ _ _ _ HVB.out).trans rfl;have v7:W1.cell? ⟨vb,7,none⟩=some (.int .u32 (v.h:Int)):=(cell_of_row W1 _ _ _ _ _ HVB.out).trans rfl;refine aj [some 24] (by kernel_rfl) (by kernel_rfl) (by kernel_rfl) ?_
    simp only[bh,List.take_succ_cons,List.take_zero]
    repeat (first | (refine au rfl ?_; simp only[Act.put,aM,aN,aO]) | (refine aA rfl (fun K hK=> ?_); go_simp; refine hK _ ?_; clear hK K))
    refine az ?_;go_wp2_with fail
    go_loopw [12,13,14,15,16,17,18,19,123] (fun sa sb2 sc sd se sf sg sh i wq=> ∃(t:Nat) (r:V8),t<=64/\i= .int .i64 (t:Int)/\r=rTo bs v t/\sa= .int .u32 (r.a:Int)/\sb2= .int .u32 (r.b:Int)/\sc= .int .u32 (r.c:Int)/\sd= .int .u32 (r.d:Int)/\se= .int .u32 (r.e:Int)/\sf= .int .u32 (r.f:Int)/\sg= .int .u32 (r.g:Int)/\sh= .int .u32 (r.h:Int)/\Below W1.heap.size W1 wq) (fun _ _ _ _ _ _ _ _ i _=>64-(intOf i).toNat)
    case atStart=>exact⟨0,v,by omega,rfl,rfl,rfl,rfl,rfl,rfl,rfl,rfl,rfl,rfl,(Below.refl _ _).drew⟩
    case round=>
     obtain⟨t,r,ht2,rfl,hr,rfl,rfl,rfl,rfl,rfl,rfl,rfl,rfl,hbq⟩:=hrel;have HRT:=ab hr;have HBQ:=ab hbq;have HRO:=ab (show r.Ok by rw[hr]; exact wQ bs t hv);clear hr hbq v0 v1 v2 v3 v4 v5 v6 v7
     by_cases h65:t<64
     ·obtain⟨k,hk⟩: ∃k,k=kc.getD t 0:=⟨_,rfl⟩;obtain⟨x,hx⟩: ∃x,x=(wsP bs).getD t 0:=⟨_,rfl⟩;have ck:=HK.out t k (by rw[hk]; exact ij (by rw[rf]; exact h65));have ck2:=(HBQ.out.cell (p:=⟨4,t,none⟩) (by have:=HA1.out.below.size; show 4<_; omega)).trans ((HA1.out.below.cell (p:=⟨4,t,none⟩) hKlt).trans ck);have cx:=(HBQ.out.cell (p:=⟨w.heap.size,t,none⟩) (lt_of_block HA1.out.box)).trans (HA1.out.get h65)
      rw[sX,<-hx]at cx;have HKX:=ab (And.intro hk hx);clear ck hk hx;unfold er at ck2;go_wp2_with fail;refine(uv _ _ HRO.out.e).mono ?_;rintro e W2 ⟨rfl,rfl⟩;go_wp2_with fail;refine(ut _ _ HRO.out.e).mono ?_;rintro e W2 ⟨rfl,rfl⟩;go_wp2_with fail;refine(wW _ _ HRO.out.e).mono ?_;rintro e W2 ⟨rfl,rfl⟩;go_wp2_with fail;refine(uw _ _ HRO.out.a).mono ?_;rintro e W2 ⟨rfl,rfl⟩
      go_wp2_with fail;refine(ur _ _ HRO.out.a).mono ?_;rintro e W2 ⟨rfl,rfl⟩;go_wp2_with fail;refine(um _ _ HRO.out.a).mono ?_;rintro e W2 ⟨rfl,rfl⟩;go_wp2_with fail;refine aj [some 21] (by kernel_rfl) (by kernel_rfl) (by kernel_rfl) ?_;simp only[bh,List.take_succ_cons,List.take_zero]
      repeat (first | (refine au rfl ?_; simp only[Act.put,aM,aN,aO]) | (refine aA rfl (fun K hK=> ?_); go_simp; refine hK _ ?_; clear hK K))
      refine az ?_;go_wp2_with fail
      go_roundw
      case rel=>
       rw[yy HRO.out,xQ HRO.out,yx HRO.out,yp HRO.out];refine⟨t+1,ui r k x,by omega,by simp, ?_, ?_,rfl,rfl,rfl, ?_,rfl,rfl,rfl, ?_⟩
       ·rw[wR bs v h65,HRT.out,HKX.out.1,HKX.out.2]
       ·show _=Value.int .u32 (((t1P r k x+t2P r)%4294967296:Nat):Int)
        exact congrArg (Value.int .u32) (by rw[xm,zp]; omega)
       ·show _=Value.int .u32 (((r.d+t1P r k x)%4294967296:Nat):Int)
        exact congrArg (Value.int .u32) (by rw[xm]; omega)
       ·exact HBQ.out.trans (Below.refl _ _).drew
      case measure=>simp[intOf]; omega
     ·obtain rfl:t=64:=by omega
      go_wp2_with (refine wpList_build rfl 101 _ rfl (by kernel_rfl) ?_);rw[show(Tryz.prog.built 101 [(0, .int .u32 (r.a:Int)),(1, .int .u32 (r.b:Int)),(2, .int .u32 (r.c:Int)),(3, .int .u32 (r.d:Int)),(4, .int .u32 (r.e:Int)),(5, .int .u32 (r.f:Int)),(6, .int .u32 (r.g:Int)),(7, .int .u32 (r.h:Int))]).getD #[]= #[.int .u32 (r.a:Int), .int .u32 (r.b:Int), .int .u32 (r.c:Int), .int .u32 (r.d:Int), .int .u32 (r.e:Int), .int .u32 (r.f:Int), .int .u32 (r.g:Int), .int .u32 (r.h:Int)] by kernel_rfl]
      have HM0:=ab (eA.start (r:=r) HB2.out HBQ.out)
      go_loopw [197] (fun i wq=> ∃j:Nat,j<=8/\i= .int .i64 (j:Int)/\eA sb v r tl ty W1 wq j) (fun i _=>8-(intOf i).toNat)
      case atStart=>exact⟨0,by omega,rfl,HM0.out⟩
      case round=>
       obtain⟨j,hj,rfl,hm⟩:=hrel;have HM:=ab hm;clear hm
       by_cases h8:j<8
       ·have cs:=HM.out.here h8;have cf:=HM.out.free j;have hI: ∀w,(Instr.index 101 (.agg #[.int .u32 (r.a:Int), .int .u32 (r.b:Int), .int .u32 (r.c:Int), .int .u32 (r.d:Int), .int .u32 (r.e:Int), .int .u32 (r.f:Int), .int .u32 (r.g:Int), .int .u32 (r.h:Int)]) (.int .i64 (j:Int))).run Tryz.prog w= .ok (.int .u32 ((r.list.getD j 0:Nat):Int)) w:=wu r h8;have cv:wr.cell? ⟨vb,j,none⟩=some (.int .u32 ((v.list.getD j 0:Nat):Int)):=(cell_of_row wr _ _ _ _ _ (HM.out.keep HVB.out (by have:=HVL.out; omega))).trans (by rw[List.getElem?_toArray]; exact zJ v h8)
        obtain⟨x,hx⟩: ∃x,x=r.list.getD j 0:=⟨_,rfl⟩;obtain⟨y,hy⟩: ∃y,y=v.list.getD j 0:=⟨_,rfl⟩;rw[<-hx]at hI;rw[<-hy]at cv cs;have HXY:=ab (And.intro hx hy);clear hx hy;have h8i:(j:Int)<8:=by omega
        go_wp2_with fail;refine aj [some 10,none] (by kernel_rfl) (by kernel_rfl) (by kernel_rfl) ?_;simp only[bh,List.take_succ_cons,List.take_zero,List.drop_succ_cons,List.drop_zero]
        repeat (first | (refine au rfl ?_; simp only[Act.put,aM,aN,aO]) | (refine aA rfl (fun K hK=> ?_); go_simp; refine hK _ ?_; clear hK K))
        refine az ?_;refine bu rfl (fun K hK=> ?_);go_wp2_with fail
        go_roundw
        case rel=>
         refine⟨j+1,by omega,by simp, ?_⟩;exact(HM.out.put h8 (by rw[<-HXY.out.1,<-HXY.out.2]; unfold er lc; simp)).drew
        case measure=>simp[intOf]; omega
       ·obtain rfl:j=8:=by omega
        go_wp2_with fail
        go_end0
        refine⟨rfl, ?_, ?_⟩
        ·rw[wN,<-HRT.out];have:=HM.out.box;rw[show wB v r 8=(vw v r).list from rfl]at this;exact this
        ·have h1:=HA1.out.below;have h2:=HM.out.grown;exact⟨h2.os.trans h1.os,h2.tape.trans h1.tape,h2.output.trans h1.output,Nat.le_trans h1.size h2.size,fun k hk hn=>(h2.block k (Nat.lt_of_lt_of_le hk h1.size) hn).trans (h1.block k hk)⟩
end Go.Proofs.YtnjkpcalgoefhaaGreatDoor
namespace Go.Proofs.YtnjkpcalgoefhaaGreatDoor
open Go.RowKit
structure cQ (P : Program) (t e : TypeId) (sz bytes : Nat) : Prop where
 ht:P.underlying t=some (.slice e)
 hi: ∃i z,P.info? e=some i/\i.zero=some z/\i.size=sz/\i.bytes=bytes/\z.cells.size=sz
 pos:0<sz
 small:bytes<=128
theorem cQ.mk' {P:Program} {t e:TypeId} {sz bytes:Nat} {z:Value} (ht:P.underlying t=some (.slice e)) (hi:(P.info? e).map (fun i=>(i.zero,i.size,i.bytes))=some (some z,sz,bytes)) (hz:z.cells.size=sz) (hp:0<sz) (hb:bytes<=128):cQ P t e sz bytes:=by
 obtain⟨i,h1,h2,h3,h4⟩:=info_parts hi;exact⟨ht,⟨i,z,h1,h2,h3,h4,hz⟩,hp,hb⟩
theorem jT {P:Program} (w:World) (base:Nat) (t ty e:TypeId) (i:TypeInfo) (z:Value) (size bytes:Nat) (ht:P.underlying t=some (.slice e)) (hi:P.info? e=some i) (hz:i.zero=some z)
  (hsize:i.size=size) (hby:i.bytes=bytes) (hzs:z.cells.size=size)
  (v:Value) (n:Nat) (xs:List Value) (hown:w.ownsRow base e size v n xs)
  (a:Addr) (m c:Nat) (news:List Value) (hl:news.length=m*size) (hm0:0<m) (hnews: ∀j u,news[j]? =some u->w.cell? (a.add j)=some u) (h1: ∀u∈news,u.oneCell'=true)
  (h63:n+m<=maxLen) (hbytes:(n+m)*bytes<=140737488355328) {v':Value} {w':World}
  (hrun:(Builtin.append_ #[t,t] ty #[v, .slice (some a) m c]).run P w= .ok v' w'):v'.ownBlock=v.ownBlock\/v'.ownBlock=some w.heap.size:=by
 subst hsize;subst hby
 have hsmall:n+m<=9223372036854775807:=by simp only[maxLen]at h63; omega
 rcases hown.2 with⟨rfl,rfl⟩ | ⟨g,cap,cur,rfl,hbg,hg,hnc,hcm,hcs,htake⟩
 ·have hx:xs=[]:=List.eq_nil_of_length_eq_zero (by simpa using hown.1);subst hx;have hr:=run_append_nil (P:=P) w t ty e i z ht hi hz a m c news hl hnews (by omega) (by omega) (by have hb:=hbytes; simp only[Nat.zero_add]at hb; omega);rw[hr]at hrun
  cases hrun
  exact .inr rfl
 ·by_cases hroom:n+m<=cap
  ·have hfit:n*i.size+news.length<=cur.size:=by rw[hl,hcs,<-Nat.add_mul]; exact Nat.mul_le_mul_right _ hroom
   have hr:=run_append_room (P:=P) w t ty e i ht hi g n cap cur hg a m c news hl hnews h1 hroom hfit;rw[hr]at hrun
   cases hrun
   exact .inl rfl
  ·have holds: ∀j u,xs[j]? =some u->w.cell? ((⟨g,0,none⟩:Addr).add j)=some u:=hown.cells (g:=g) rfl;have hr:=run_append_grow (P:=P) w t ty e i z ht hi hz ⟨g,0,none⟩ n cap xs hown.1 holds a m c news hl hnews (by omega) (by omega) (growslice_fits (by omega) hbytes);rw[hr]at hrun
   cases hrun
   exact .inr rfl
theorem bR {P:Program} {ops:Array Oper} {rest:List Oper} {o:Oper} {a:Act} {Q:Exit->Act->World->Prop} {t e:TypeId} {sz bytes:Nat} (T:cQ P t e sz bytes) (hgd:o.guard=none) (s x:Operand)
  (ho:o.op= .call {callee:= .builtin .append,args:= #[s,x],argTypes:= #[t,t]}) (base:Nat) (v:Value) (n:Nat) (xs:List Value) (hs:a.eval s=v) (w0:World) (news:List Value) (e2:TypeId)
  (hx:a.eval x= .slice (some ⟨w0.heap.size,0,none⟩) 1 1) (hl:news.length=sz) (h1: ∀u∈news,u.oneCell'=true) (hown:w0.ownsRow base e sz v n xs) (hn:n<1099511627775) (hbase:base<=w0.heap.size)
  (h: ∀v' w',w'.ownsRow base e sz v' (n+1) (xs++news)->w0.grownBy w' v.ownBlock->v'≠ .slice none 0 0->(∀k,v'.ownBlock=some k->v.ownBlock=some k\/w0.heap.size<=k)->wpList P ops Q rest (a.put o.dst v') w'):wpList P ops Q (o::rest) a (w0.alloc (.cells news.toArray e2)):=by
 obtain⟨ht,⟨i,z,h11,h12,h13,h14,h15⟩,hpos,hsm⟩:=T;have hnews: ∀(j:Nat) u,news[j]? =some u->(w0.alloc (.cells news.toArray e2)).cell? ((⟨w0.heap.size,0,none⟩:Addr).add j)=some u:=by
  intro j u hj;have hadd:(⟨w0.heap.size,0,none⟩:Addr).add j=⟨w0.heap.size,j,none⟩:=by unfold Addr.add; split<;> simp_all
  rw[hadd];have hh:=heap_alloc_new w0 (.cells news.toArray e2);simp only[World.cell?,hh];simp[hj]
 have h63:n+1<=maxLen:=by unfold maxLen; omega
 have hby:(n+1)*bytes<=140737488355328:=by
  have:(n+1)*bytes<=1099511627775*128:=Nat.mul_le_mul (by omega) hsm;omega
 have hl1:news.length=1*sz:=by rw[hl,Nat.one_mul]
 obtain⟨v',w',hr,h2,hg,hv⟩:=run_append_own (P:=P) (w0.alloc (.cells news.toArray e2)) base t o.type e i z sz bytes ht h11 h12 h13 h14 h15 hpos v n xs (hown.alloc _) ⟨w0.heap.size,0,none⟩ 1 1 news hl1 hnews h1 h63 hby (by simp; omega);have hpl:=jT (P:=P) (w0.alloc (.cells news.toArray e2)) base t o.type e i z sz bytes ht h11 h12 h13 h14 h15 v n xs (hown.alloc _) ⟨w0.heap.size,0,none⟩ 1 1 news hl1 (by omega) hnews h1 h63 hby hr
 refine wpList_plain hgd fun K hK=> ?_
 unfold Oper.wp execOp;simp only[ho,resolve,invoke,builtin,Sem.run_bind,Sem.run_pure,Result.andThen_ok,List.map_toArray,List.map_cons,List.map_nil,hs,hx,hr];refine hK _ _ (h v' w' h2 ⟨hg.os,hg.tape,hg.output,by have:=hg.size; simp at this; omega,fun k hk hne=> ?_⟩ (fun e=>by have:=(hv.1 e).2; omega) ?_)
 ·rw[hg.block k (by simp; omega) hne];exact Below.heap_alloc _ _ _ hk
 ·intro k hk
  rcases hpl with hp | hp
  ·left; rw[<-hp]; exact hk
  ·right; rw[hp]at hk; cases hk; simp
theorem gW {P:Program} {ops:Array Oper} {rest:List Oper} {o:Oper} {a:Act} {Q:Exit->Act->World->Prop} {t e:TypeId} {sz bytes:Nat} (T:cQ P t e sz bytes) (hgd:o.guard=none) (s x:Operand)
  (ho:o.op= .call {callee:= .builtin .append,args:= #[s,x],argTypes:= #[t,t]}) (base:Nat) (v:Value) (n:Nat) (xs:List Value) (hs:a.eval s=v) (w0:World) (news:List Value) (e2:TypeId)
  (hx:a.eval x= .slice (some ⟨w0.heap.size,0,none⟩) 1 1) (hl:news.length=sz) (h1: ∀u∈news,u.oneCell'=true) (hown:w0.ownsRow base e sz v n xs) (hn:n<1099511627775) (hbase:base<=w0.heap.size)
  (h: ∀v' w',w'.ownsRow base e sz v' (n+1) (xs++news)->w0.grownBy w' v.ownBlock->v'≠ .slice none 0 0->wpList P ops Q rest (a.put o.dst v') w'):wpList P ops Q (o::rest) a (w0.alloc (.cells news.toArray e2)):=
 bR T hgd s x ho base v n xs hs w0 news e2 hx hl h1 hown hn hbase fun v' w' h2 h3 h4 _=>h v' w' h2 h3 h4
theorem bw {w:World} {base:Nat} {e:TypeId} {sz:Nat} {v:Value} {n:Nat} {xs:List Value} (h:w.ownsRow base e sz v n xs):aD (fun k=>base<=k/\v.ownBlock=some k) w sz v n xs:=by
 obtain⟨hl,h2⟩:=h
 rcases h2 with⟨rfl,rfl⟩ | ⟨g,cap,cur,rfl,hg,hh,hn,hcap,hsz,htake⟩
 ·exact⟨hl,none,0,rfl,Nat.le_refl _,by unfold maxLen; omega, .inl rfl⟩
 ·refine⟨hl,_,cap,rfl,hn,hcap, .inr ⟨g,0,rfl,⟨hg,rfl⟩,fun j u hj=> ?_⟩⟩;rw[Nat.zero_add,cell_of_row w g j cur e (0,0) hh];rw[<-htake,List.getElem?_take]at hj
  split at hj
  ·simpa using hj
  ·cases hj
theorem aD.weak {S T:Nat->Prop} {w:World} {sz:Nat} {v:Value} {n:Nat} {cells:List Value} (h:aD S w sz v n cells) (hs: ∀k,S k->T k):aD T w sz v n cells:=by
 obtain⟨hl,a,cap,hv,hn,hm,h0⟩:=h;refine⟨hl,a,cap,hv,hn,hm, ?_⟩
 rcases h0 with h0 | ⟨b,o,ha,hb,hc⟩
 ·exact .inl h0
 ·exact .inr ⟨b,o,ha,hs b hb,hc⟩
theorem bG {B:Nat} {w0 w w':World} {base:Nat} {e:TypeId} {sz:Nat} {v:Value} {n:Nat} {xs:List Value} (hb:Below B w0 w) (ho:w.ownsRow base e sz v n xs) (hg:w.grownBy w' v.ownBlock) (h1:B<=base) (h2:B<=w.heap.size):Below B w0 w':=
 hb.grown hg h2 (fun k hk=>by have:=(ho.lt k hk).1; omega)
theorem ak {w:World} {base:Nat} {e:TypeId} {sz:Nat} {v:Value} {n:Nat} {xs:List Value} (h:w.ownsRow base e sz v n xs): ∃a cap,v= .slice a n cap/\n<=cap/\cap<=maxLen:=by
 obtain⟨_,h2⟩:=h
 rcases h2 with⟨rfl,rfl⟩ | ⟨g,cap,cur,rfl,hg,hh,hn,hcap,hsz,htake⟩
 ·exact⟨_,_,rfl,Nat.le_refl _,by unfold maxLen; omega⟩
 ·exact⟨_,_,rfl,hn,hcap⟩
def be {α:Type} (R:List Value->α->Prop):List Value->List α->Prop
 | cells,[]=>cells=[]
 | cells,x::xs=> ∃c rest,cells=c++rest/\R c x/\be R rest xs
section
variable {α : Type} {R R' : List Value → α → Prop} {sz : Nat}
theorem be.mono : ∀ {xs:List α} {cells:List Value},(∀c x,x∈xs->R c x->R' c x)->be R cells xs->be R' cells xs
 | [],_,_,h=>h
 | x::xs,cells,hm,h=>by
  obtain⟨c,rest,rfl,hc,hr⟩:=h;exact⟨c,rest,rfl,hm c x (by simp) hc,be.mono (fun c y hy=>hm c y (by simp[hy])) hr⟩
theorem be.snoc : ∀ {xs:List α} {cells c:List Value} {x:α},be R cells xs->R c x->be R (cells++c) (xs++[x])
 | [],cells,c,x,h,hc=>by
  have:cells=[]:=h;subst this;exact⟨c,[],by simp,hc,rfl⟩
 | y::xs,cells,c,x,h,hc=>by
  obtain⟨d,rest,rfl,hd,hr⟩:=h;exact⟨d,rest++c,by simp,hd,be.snoc hr hc⟩
theorem be.len (hs: ∀c x,R c x->c.length=sz): ∀ {xs:List α} {cells:List Value},be R cells xs->cells.length=xs.length*sz
 | [],cells,h=>by have:cells=[]:=h; subst this; simp
 | x::xs,cells,h=>by
  obtain⟨c,rest,rfl,hc,hr⟩:=h;rw[List.length_append,hs c x hc,be.len hs hr,List.length_cons,Nat.add_mul]; omega
theorem be.get (hs: ∀c x,R c x->c.length=sz): ∀ {xs:List α} {cells:List Value} {i:Nat} {x:α},be R cells xs->xs[i]? =some x-> ∃c,R c x/\ ∀j,j<sz->cells[i*sz+j]? =c[j]?
 | [],_,i,_,_,hi=>by simp at hi
 | y::xs,cells,0,x,h,hi=>by
  obtain⟨c,rest,rfl,hc,hr⟩:=h;simp at hi; subst hi;refine⟨c,hc,fun j hj=> ?_⟩;rw[Nat.zero_mul,Nat.zero_add,List.getElem?_append_left (by rw[hs c y hc]; exact hj)]
 | y::xs,cells,i+1,x,h,hi=>by
  obtain⟨c,rest,rfl,hc,hr⟩:=h;obtain⟨d,hd,hj⟩:=be.get hs hr (i:=i) (x:=x) (by simpa using hi);refine⟨d,hd,fun j hjs=> ?_⟩;have hl:=hs c y hc;rw[List.getElem?_append_right (by rw[hl,Nat.add_mul]; omega),hl,<-hj j hjs]
  congr 1
  rw[Nat.add_mul]; omega
theorem be.drop (hs: ∀c x,R c x->c.length=sz): ∀ {xs:List α} {cells:List Value} (i:Nat),be R cells xs->i<=xs.length->be R (cells.drop (i*sz)) (xs.drop i)
 | _,_,0,h,_=>by simpa using h
 | [],_,i+1,_,hi=>by simp at hi
 | y::xs,cells,i+1,h,hi=>by
  obtain⟨c,rest,rfl,hc,hr⟩:=h;have:=be.drop hs i hr (by simpa using hi);rw[List.drop_succ_cons,Nat.add_mul,Nat.one_mul,Nat.add_comm,List.drop_append,hs c y hc];simp only[Nat.add_sub_cancel_left];rw[List.drop_of_length_le (by rw[hs c y hc]; omega)];exact this
end
def aR {α:Type} (S:Nat->Prop) (w:World) (sz:Nat) (R:List Value->α->Prop) (v:Value) (xs:List α):Prop:=
 ∃cells,aD S w sz v xs.length cells/\be R cells xs
section
variable {α : Type} {S T : Nat → Prop} {w w' : World} {sz : Nat} {R R' : List Value → α → Prop} {v : Value} {xs : List α}
theorem aR.shape (h:aR S w sz R v xs) (hs: ∀c x,R c x->c.length=sz):
  ∃a cap,v= .slice a xs.length cap/\xs.length<=cap/\cap<=maxLen/\ ∀(k:Nat) x,xs[k]? =some x-> ∃b o c,a=some ⟨b,o,none⟩/\S b/\R c x/\c.length=sz/\ ∀j,j<sz->w.cell? ⟨b,o+(k*sz+j),none⟩=c[j]? :=by
 obtain⟨cells,⟨hl,a,cap,hv,hn,hm,h0⟩,hr⟩:=h;refine⟨a,cap,hv,hn,hm,fun k x hk=> ?_⟩
 rcases h0 with h0 | ⟨b,o,ha,hb,hc⟩
 ·simp[List.eq_nil_of_length_eq_zero h0]at hk
 ·obtain⟨c,hcx,hj⟩:=hr.get hs hk;refine⟨b,o,c,ha,hb,hcx,hs c x hcx,fun j hjs=> ?_⟩;have hlt:j<c.length:=by rw[hs c x hcx]; exact hjs
  rw[List.getElem?_eq_getElem hlt];exact hc _ _ (by rw[hj j hjs,List.getElem?_eq_getElem hlt])
theorem aR.same (h:aR S w sz R v xs) (hs:dN S w w') (hR: ∀c x,x∈xs->R c x->R' c x):aR S w' sz R' v xs:=by
 obtain⟨cells,h1,h2⟩:=h;exact⟨cells,h1.same hs,h2.mono hR⟩
theorem aR.below (h:aR S w sz R v xs) (hsz:0<sz) (hb:Below w.heap.size w w') (hR: ∀c x,x∈xs->R c x->R' c x):aR S w' sz R' v xs:=by
 obtain⟨cells,h1,h2⟩:=h;exact⟨cells,h1.below hsz hb,h2.mono hR⟩
theorem aR.mono (h:aR S w sz R v xs) (hsz:0<sz) (hs: ∀k,k<w.heap.size->S k->T k) (hR: ∀c x,x∈xs->R c x->R' c x):aR T w sz R' v xs:=by
 obtain⟨cells,h1,h2⟩:=h;exact⟨cells,h1.mono hs hsz,h2.mono hR⟩
theorem aR.nil :aR S w sz R (.slice none 0 0) ([]:List α):=⟨[],aD.nil _ _ _,rfl⟩
end
theorem nU (b o n:Nat):(⟨b,o,none⟩:Addr).add n=⟨b,o+n,none⟩:=by unfold Addr.add; split<;> simp_all
open Go Go.RowKit
theorem kO {P:Program} {w:World} (base:Nat) (t ty e:TypeId) (i:TypeInfo) (size:Nat) (ht:P.underlying t=some (.slice e)) (hi:P.info? e=some i)
  (v:Value) (n:Nat) (xs:List Value) (hown:w.ownsRow base e size v n xs) (a:Option Addr) (c:Nat):
  (Builtin.append_ #[t,t] ty #[v, .slice a 0 c]).run P w= .ok v w:=by
 rcases hown.2 with⟨rfl,rfl⟩ | ⟨g,cap,cur,rfl,_,_,hnc,_⟩
 ·cases a<;> simp[Builtin.append_,run_underlying ht,sizeOf,typeInfo,hi,Builtin.lenOf,Builtin.firstCells,loadCells,loadCellsFrom]
 ·cases a<;> simp[Builtin.append_,run_underlying ht,sizeOf,typeInfo,hi,Builtin.lenOf,Builtin.firstCells,hnc,storeCells,loadCells,loadCellsFrom]
theorem cF {P:Program} {ops:Array Oper} {rest:List Oper} {o:Oper} {a:Act} {Q:Exit->Act->World->Prop} {w:World} {t e:TypeId} {sz bytes:Nat} {S:Nat->Prop} (T:cQ P t e sz bytes) (hgd:o.guard=none) (s x:Operand)
  (ho:o.op= .call {callee:= .builtin .append,args:= #[s,x],argTypes:= #[t,t]}) (base:Nat) (v:Value) (n:Nat) (xs:List Value) (hs:a.eval s=v) (hown:w.ownsRow base e sz v n xs) (vx:Value) (m:Nat) (news:List Value)
  (hx:a.eval x=vx) (hrow:aD S w sz vx m news) (h1: ∀u∈news,u.oneCell'=true) (hn:n+m<1099511627775) (hbase:base<=w.heap.size)
  (h: ∀v' w',w'.ownsRow base e sz v' (n+m) (xs++news)->w.grownBy w' v.ownBlock->wpList P ops Q rest (a.put o.dst v') w'):wpList P ops Q (o::rest) a w:=by
 obtain⟨ht,⟨i,z,h11,h12,h13,h14,h15⟩,hpos,hsm⟩:=T;obtain⟨hl,ad,cap,rfl,_,_,h0⟩:=hrow;refine wpList_plain hgd fun K hK=> ?_
 have hz:m=0->o.wp P a w K Q:=by
  rintro rfl;have hn0:news=[]:=List.eq_nil_of_length_eq_zero (by rw[hl]; simp);subst hn0;have hrun:=kO (P:=P) (w:=w) base t o.type e i sz ht h11 v n xs hown ad cap;unfold Oper.wp execOp;simp only[ho,resolve,invoke,builtin,Sem.run_bind,Sem.run_pure,Result.andThen_ok,List.map_toArray,List.map_cons,List.map_nil,hs,hx,hrun];exact hK _ _ (h v w (by simpa using hown) ⟨rfl,rfl,rfl,Nat.le_refl _,fun _ _ _=>rfl⟩)
 rcases h0 with h0 | ⟨b,of,rfl,_,hc⟩
 ·exact hz h0
 ·have hnews: ∀(j:Nat) u,news[j]? =some u->w.cell? ((⟨b,of,none⟩:Addr).add j)=some u:=fun j u hj=>by rw[nU]; exact hc j u hj
  have h63:n+m<=maxLen:=by unfold maxLen; omega
  have hby:(n+m)*bytes<=140737488355328:=by
   have:(n+m)*bytes<=1099511627775*128:=Nat.mul_le_mul (by omega) hsm;omega
  obtain⟨v',w',hr,h2,hg,_⟩:=run_append_own (P:=P) w base t o.type e i z sz bytes ht h11 h12 h13 h14 h15 hpos v n xs hown ⟨b,of,none⟩ m cap news hl hnews h1 h63 hby hbase;unfold Oper.wp execOp;simp only[ho,resolve,invoke,builtin,Sem.run_bind,Sem.run_pure,Result.andThen_ok,List.map_toArray,List.map_cons,List.map_nil,hs,hx,hr];exact hK _ _ (h v' w' h2 hg)
end Go.Proofs.YtnjkpcalgoefhaaGreatDoor
namespace Go.Proofs.YtnjkpcalgoefhaaGreatDoor
open Go
section
variable {P : Program} {ops : Array Oper} {Q : Exit → Act → World → Prop} {S : World → Prop}
@[irreducible] def oJ (P:Program) (ops:Array Oper) (Q:Exit->Act->World->Prop) (S:World->Prop) (fuel:Nat) (listed:Array Bool) (a:Act) (w:World):Prop:=wpAnyH P .any ops Q S fuel listed a w
theorem oJ.of {fuel:Nat} {listed:Array Bool} {a:Act} {w:World} (h:wpAnyH P .any ops Q S fuel listed a w):oJ P ops Q S fuel listed a w:=by unfold oJ; exact h
theorem oJ.out {fuel:Nat} {listed:Array Bool} {a:Act} {w:World} (h:oJ P ops Q S fuel listed a w):wpAnyH P .any ops Q S fuel listed a w:=by unfold oJ at h; exact h
theorem ik {id:Nat} {a:Act} {w:World} {l:List Oper} (S:World->Prop) (hm:P.follows .mixedOrders=true) (h:oJ P l.toArray Q S l.length (Array.replicate l.length false) a w.drew):(Code.region id l.toArray true).wp P Q a w:=by
 refine wp_region_held (S:=S) hm ?_;have:=h.out
 simpa using this
theorem ah {dst:Option Tmp} {op:Op} {ty:TypeId} {pos:String} {aft:Array Edge} {g:Option (Nat×Bool)} {v:Value} {fuel:Nat} {listed:Array Bool} {a:Act} {w:World} (i:Nat) (hi:ops[i]? =some ⟨dst,op,ty,pos,aft,g⟩)
  (hs:Region.noSelect ops=true) (hf:Region.free .any ops listed i=true) (hr:(Region.ready .any ops listed).contains i=true)
  (hQ: ∀c a w,Q (.panic c) (a.put dst v) w->Q (.panic c) a w) (hw:Region.wanted ⟨dst,op,ty,pos,aft,g⟩ (yielded ops a.tmps)=true) (hS:S w)
  (hy: ∀w',S w'->(execOp a.eval ⟨dst,op,ty,pos,aft,g⟩).run P w'= .ok (.value v) w')
  (h:oJ P ops Q S fuel (listed.setIfInBounds i true) (a.put dst v) w):oJ P ops Q S (fuel+1) listed a w:=
 oJ.of (wpAnyH_take (oi:=⟨dst,op,ty,pos,aft,g⟩) hi hs hf hr hQ (.inl ⟨hw,hy⟩) hS h.out)
theorem bi {dst:Option Tmp} {op:Op} {ty:TypeId} {pos:String} {aft:Array Edge} {g:Option (Nat×Bool)} {fuel:Nat} {listed:Array Bool} {a:Act} {w:World} (i:Nat) (hi:ops[i]? =some ⟨dst,op,ty,pos,aft,g⟩) (hr:Region.ready .any ops listed=[i])
  (hw:Region.wanted ⟨dst,op,ty,pos,aft,g⟩ (yielded ops a.tmps)=true)
  (h: ∀K:Act->World->Prop,(∀a w,S w/\oJ P ops Q S fuel (listed.setIfInBounds i true) a w->K a w)->wpList P #[] (Exit.then K Q) [⟨dst,op,ty,pos, #[],none⟩] a w):oJ P ops Q S (fuel+1) listed a w:=by
 refine oJ.of (wpAnyH_all hr (by simp) fun j hj=> ?_);have hji:j=i:=by simpa using hj
 subst hji;have hb:qu P ops (fun a' w'=>S w'/\wpAnyH P .any ops Q S fuel (listed.setIfInBounds j true) a' w') Q [⟨dst,op,ty,pos,aft,g⟩] a w:=
  bu hw (fun K hK=>h K (fun a w hh=>hK a w ⟨hh.1,hh.2.out⟩))
 unfold wpOp;simp only[hi];exact qu.out hb
theorem cz {listed:Array Bool} {a:Act} {w:World} {fuel:Nat} (hr:Region.ready .any ops listed=[]) (h:Q .normal a w):oJ P ops Q S fuel listed a w:=oJ.of (wpAnyH_done hr h fuel)
end
end Go.Proofs.YtnjkpcalgoefhaaGreatDoor
namespace Go.Proofs.YtnjkpcalgoefhaaGreatDoor
open Go.RowKit
theorem ac {w:World} {b k:Nat} {cs:Array Value} {t:TypeId} {z:Nat×Nat} (h:w.heap[b]? =some (.cells cs t z)):w.cell? ⟨b,k,none⟩=cs[k]? :=by simp[World.cell?,h]
theorem aE {w:World} {b k:Nat} {cs:Array Value} {t:TypeId} (h:w.heap[b]? =some (.cells cs t (0,0))):w.frozen? ⟨b,k,none⟩=false:=by simp[World.frozen?,h]
def aP (b:UInt8):Value:= .int .u8 (b.toNat:Int)
theorem ba (w:World) (b o:Nat) (x:Value):w.grownBy (w.setCell ⟨b,o,none⟩ x) (some b):=
 ⟨rfl,rfl,rfl,by simp[World.setCell],fun k hk hne=>Below.heap_setCell _ _ _ _ (fun e=>hne (by simpa using e))⟩
theorem cD {a b c:World} {r:Option Nat} (h:a.grownBy b r) (k:b.grownBy c r):a.grownBy c r:=
 ⟨k.os.trans h.os,k.tape.trans h.tape,k.output.trans h.output,Nat.le_trans h.size k.size,fun i hi hne=>(k.block i (Nat.lt_of_lt_of_le hi h.size) hne).trans (h.block i hi hne)⟩
theorem qS (w:World) (r:Option Nat):w.grownBy w r:=⟨rfl,rfl,rfl,Nat.le_refl _,fun _ _ _=>rfl⟩
structure RS where
 off:Nat
 last:Nat
 err:Int
deriving DecidableEq
def rv {α:Type} (z:α) (r:Except Int (α×Nat)) (s:RS):α×RS:=if s.err=0 then match r with
 | .ok (x,o)=>(x,⟨o,s.off,0⟩)
 | .error y=>(z,⟨s.off,s.off,y⟩)else(z,s)
theorem pw {w w':World} (h:Below w.heap.size w w') (r:Option Nat):w.grownBy w' r:=⟨h.os,h.tape,h.output,h.size,fun k hk _=>h.block k hk⟩
theorem qg (bs:List UInt8):strOfNums (bs.map fun b=>(b.toNat:Int))=⟨bs.toArray⟩:=by
 simp only[strOfNums,List.map_map,Function.comp_def,Int.toNat_natCast];simp
open Go Go.RowKit Go.Maps
def dj (P:Program) (k:TypeId) (w:World) (b:Nat) (m:List (Value×Value)):Prop:=
 ∃es clock,w.heap[b]? =some (.map es clock)/\es.toList.map (fun e=>(e.key,e.val))=m/\(m.map Prod.fst).Nodup/\ ∀p∈m,∃l,keyOf P k p.1=some l
theorem lJ {w:World} {b:Nat} {x:Obj} (hb:w.heap[b]? =some x) (o:Obj):(ChangeMaps.setBlock w b o).heap[b]? =some o:=by
 have:=(Array.getElem?_eq_some_iff.1 hb).1;simp[ChangeMaps.setBlock,this]
theorem nr {w:World} {b:Nat} {x:Obj} (_:w.heap[b]? =some x) (o:Obj) {i:Nat} (h:i≠b):(ChangeMaps.setBlock w b o).heap[i]? =w.heap[i]? :=by
 simp[ChangeMaps.setBlock,Ne.symm h]
section
variable {P : Program} {k t e : TypeId} {w w' : World} {b : Nat} {m : List (Value × Value)} {key val z : Value}
theorem dj.lt (h:dj P k w b m):b<w.heap.size:=by
 obtain⟨es,clock,hb,_⟩:=h;exact(Array.getElem?_eq_some_iff.1 hb).1
theorem dj.same (h:dj P k w b m) (hs:w'.heap[b]? =w.heap[b]?):dj P k w' b m:=by
 obtain⟨es,clock,hb,h2⟩:=h;exact⟨es,clock,hs.trans hb,h2⟩
theorem dj.made (w:World):dj P k (w.alloc (.map #[] 0)) w.heap.size []:=⟨#[],0,(MapKept.heap_alloc w _).1,rfl,List.nodup_nil,by simp⟩
theorem dj.keys {es:Array MapEntry} (h:es.toList.map (fun e=>(e.key,e.val))=m) (hk: ∀p∈m,∃l,keyOf P k p.1=some l): ∀x∈es.toList,∃l,keyOf P k x.key=some l:=fun x hx=>hk (x.key,x.val) (by rw[<-h]; exact List.mem_map.2 ⟨x,hx,rfl⟩)
theorem ny : ∀ {m:List (Value×Value)} {key v v':Value},(m.map Prod.fst).Nodup->(key,v)∈m->(key,v')∈m->v=v'
 | [],_,_,_,_,h,_=>by simp at h
 | (a,x)::m,key,v,v',hn,h,h'=>by
  simp only[List.map_cons,List.nodup_cons]at hn
  rcases List.mem_cons.1 h with h | h<;> rcases List.mem_cons.1 h' with h' | h'
  ·cases h; cases h'; rfl
  ·cases h
   exact absurd (List.mem_map.2 ⟨_,h',rfl⟩) hn.1
  ·cases h'
   exact absurd (List.mem_map.2 ⟨_,h,rfl⟩) hn.1
  ·exact ny hn.2 h h'
theorem dj.hit (h:dj P k w b m) (K:Keyed P k) (ht:P.underlying t=some (.map k e)) (hkey: ∃l,keyOf P k key=some l) (hm:(key,val)∈m) (c:Bool):
  (Instr.lookup t (.map (some b)) key c).run P w= .ok (if c then .tuple #[val, .bool true]else val) w:=by
 obtain⟨es,clock,hb,he,hn,hk⟩:=h;obtain⟨kl,hkl⟩:=hkey
 rcases K.find w hkl es.toList (dj.keys he hk)with⟨h1,h2⟩ | ⟨j,e0,h1,h2,h3⟩
 ·rw[<-he]at hm;obtain⟨x,hx,hxe⟩:=List.mem_map.1 hm;exact absurd (congrArg Prod.fst hxe) (h2 x hx)
 ·have hv:e0.val=val:=by
   refine ny hn (key:=key) ?_ hm;rw[<-he,<-h3];exact List.mem_map.2 ⟨e0,List.mem_of_getElem? h2,rfl⟩
  cases c<;> simp[Instr.lookup,run_underlying ht,MapKept.run_getObj_map hb,K.check w _ hkl,h1,hv,Result.andThen]
theorem dj.miss (h:dj P k w b m) (K:Keyed P k) (ht:P.underlying t=some (.map k e)) (hz:(zeroValue e).run P w= .ok z w) (hkey: ∃l,keyOf P k key=some l) (hm: ∀p∈m,p.1≠key) (c:Bool):
  (Instr.lookup t (.map (some b)) key c).run P w= .ok (if c then .tuple #[z, .bool false]else z) w:=by
 obtain⟨es,clock,hb,he,hn,hk⟩:=h;obtain⟨kl,hkl⟩:=hkey
 rcases K.find w hkl es.toList (dj.keys he hk)with⟨h1,h2⟩ | ⟨j,e0,h1,h2,h3⟩
 ·cases c<;> simp[Instr.lookup,run_underlying ht,MapKept.run_getObj_map hb,K.check w _ hkl,h1,hz,Result.andThen]
 ·exact absurd h3 (hm (e0.key,e0.val) (by rw[<-he]; exact List.mem_map.2 ⟨e0,List.mem_of_getElem? h2,rfl⟩))
theorem dj.put (h:dj P k w b m) (K:Keyed P k) (ht:P.underlying t=some (.map k e)) (hkey: ∃l,keyOf P k key=some l) (hm: ∀p∈m,p.1≠key) (val:Value):
  ∃w',(Instr.mapUpdate t (.map (some b)) key val).run P w= .ok () w'/\dj P k w' b (m++[(key,val)])/\w.grownBy w' (some b):=by
 obtain⟨es,clock,hb,he,hn,hk⟩:=h;obtain⟨kl,hkl⟩:=hkey
 rcases K.find w hkl es.toList (dj.keys he hk)with⟨h1,h2⟩ | ⟨j,e0,h1,h2,h3⟩
 ·refine⟨ChangeMaps.setBlock w b (.map (es.push ⟨key,val,clock⟩) (clock+1)), ?_,⟨_,_,lJ hb _, ?_, ?_, ?_⟩,⟨rfl,rfl,rfl,by simp[ChangeMaps.setBlock],fun i _ hi=>nr hb _ (fun e=>hi (by rw[e]))⟩⟩
  ·simp[Instr.mapUpdate,run_underlying ht,MapKept.run_getObj_map hb,K.check w false hkl,h1,MapKept.run_setObj_map _ hb,Result.andThen,ChangeMaps.setBlock]
  ·simp[<-he]
  ·rw[List.map_append,List.nodup_append];refine⟨hn,by simp,fun a ha b' hb' e=> ?_⟩;obtain⟨p,hp,rfl⟩:=List.mem_map.1 ha;simp only[List.map_cons,List.map_nil,List.mem_singleton]at hb';exact hm p hp (e.trans hb')
  ·intro p hp
   rcases List.mem_append.1 hp with hp | hp
   ·exact hk p hp
   ·simp only[List.mem_singleton]at hp;subst hp;exact⟨kl,hkl⟩
 ·exact absurd h3 (hm (e0.key,e0.val) (by rw[<-he]; exact List.mem_map.2 ⟨e0,List.mem_of_getElem? h2,rfl⟩))
end
theorem iq :laidOutB Tryz.prog=true:=by kernel_rfl
end Go.Proofs.YtnjkpcalgoefhaaGreatDoor
namespace Go.Proofs.YtnjkpcalgoefhaaGreatDoor
open Go.RowKit
theorem jH {w:World} {b:Nat} {o:Obj} (h:w.heap[b]? =some o) (x:Obj):(w.alloc x).heap[b]? =some o:=by
 rw[Below.heap_alloc _ _ _ ((Array.getElem?_eq_some_iff.1 h).1)]; exact h
theorem mg {w:World} {b k:Nat} {cs:Array Value} {t:TypeId} (h:w.heap[b]? =some (.cells cs t (0,0))) (x:Value):(w.setCell ⟨b,k,none⟩ x).heap[b]? =some (.cells (cs.setIfInBounds k x) t (0,0)):=by
 simp only[World.setCell,Array.getElem?_modify,if_true,h,Option.map_some]; rfl
theorem aY {α:Type} {l:List α} {k:Nat} {x:α} (h:l[k]? =some x):l.take (k+1)=l.take k++[x]:=by
 obtain⟨hk,rfl⟩:=List.getElem?_eq_some_iff.1 h;exact List.take_succ_eq_append_getElem hk
theorem oP {α:Type} {p:α->Bool} {l:List α} {k:Nat} {x:α} (h:(l.take k).all p=true) (hx:l[k]? =some x) (hp:p x=true):(l.take (k+1)).all p=true:=by
 rw[aY hx,List.all_append,h]; simp[hp]
theorem vC {α:Type} {p:α->Bool} {l:List α} {k:Nat} {x:α} (hx:l[k]? =some x) (hp:p x=false):l.all p=false:=by
 rw[List.all_eq_false];exact⟨x,List.mem_of_getElem? hx,by rw[hp]; simp⟩
end Go.Proofs.YtnjkpcalgoefhaaGreatDoor
namespace Go.Proofs.YtnjkpcalgoefhaaGreatDoor
open Go
section
variable {P : Program} {md : Region.Mode} {Q : Exit → Act → World → Prop}
def mQ (P:Program) (ops:Array Oper) (m:Nat) (Q:Exit->Act->World->Prop):Exit->Act->World->Prop
 | .normal,a,w=>wpOp P ops Q m (fun a' w'=>Q .normal a' w') a w
 | e,a,w=>Q e a w
def pJ (md:Region.Mode) (L:List Oper):Bool:=
 qN md L.toArray (L.length-1) && decide (0<L.length) &&
 ((List.range L.length).all fun i=>match L[i]? with | some x=>x.after.all (fun e=>decide (e.on<i)) && (match x.guard with | none=>true | some (j,_)=>decide (j<i)) | none=>true)
theorem oB {L:List Oper} {i:Nat} (hi:i<L.length-1):L.dropLast.toArray[i]? =L.toArray[i]? :=by
 simp[hi]
theorem xx {L:List Oper} {i m:Nat} (hi:i<L.length-1) (hg: ∀(x:Oper) (j:Nat) (b:Bool),L[i]? =some x->x.guard=some (j,b)->j<i) {K:Act->World->Prop} {a:Act} {w:World}
  (h:wpOp P L.dropLast.toArray (mQ P L.toArray m Q) i K a w):wpOp P L.toArray Q i K a w:=by
 unfold wpOp at h ⊢;rw[oB hi]at h
 cases hx:L.toArray[i]? with
 | none=>rw[hx]at h; exact h
 | some x=>
  rw[hx]at h;simp only at h ⊢;have hw:Region.wanted x (yielded L.dropLast.toArray a.tmps)=Region.wanted x (yielded L.toArray a.tmps):=by
   unfold Region.wanted
   cases hgd:x.guard with
   | none=>rfl
   | some p=>
    obtain⟨j,b⟩:=p;have hj:=hg x j b (by simpa using hx) hgd;simp only[yielded];rw[oB (by omega)]
  rw[hw]at h
  split at h
  ·rename_i hh;rw[if_pos hh];exact h
  ·rename_i hh;rw[if_neg hh];exact h
theorem nP {ops:Array Oper} {listed:Array Bool} {a:Act} {w:World} (hr:Region.ready md ops listed=[]) (h:Q .normal a w): ∀fuel,wpAny P md ops Q fuel listed a w
 | 0=>⟨hr,h⟩
 | _+1=>⟨fun _=>h,by rw[hr]; simp⟩
theorem ir {L:List Oper} {i:Nat} {listed:Array Bool} (hi:i<L.length-1):i∈Region.ready md L.dropLast.toArray listed<->i∈Region.ready md L.toArray listed:=by
 rw[mem_ready,mem_ready,oB hi]
theorem sH {listed:Array Bool} {i:Nat} (hi:i<listed.size) (h:listed.getD i true=true):listed.getD i false=true:=by
 simp[hi]at h ⊢; exact h
theorem gI {L:List Oper} {i:Nat} {listed:Array Bool} (h:i∈Region.ready md L.toArray listed):i<L.length:=by
 obtain⟨_,o,ho,_⟩:=mem_ready.1 h
 simpa using (Array.getElem?_eq_some_iff.1 ho).1
theorem vB {L:List Oper} {listed:Array Bool} (hs:listed.size=L.length) (hback: ∀(i:Nat) (x:Oper),L[i]? =some x-> ∀e∈x.after,e.on<i) (hr:Region.ready md L.dropLast.toArray listed=[]):
  ∀(n i:Nat),i<n->i<L.length-1->listed.getD i true=true
 | 0,i,hn,_=>by omega
 | n+1,i,hn,hi=>by
  cases hg:listed.getD i true with
  | true=>rfl
  | false=>
   exfalso
   obtain⟨x,hx⟩: ∃x,L[i]? =some x:=⟨L[i]'(by omega),by simp⟩;have:i∈Region.ready md L.dropLast.toArray listed:=by
    rw[ir hi,mem_ready];refine⟨hg,x,by simpa using hx,fun e he _=> ?_⟩;have hb:=hback i x hx e he;exact sH (by omega) (vB hs hback hr n e.on (by omega) (by omega))
   rw[hr]at this
   cases this
theorem sr {L:List Oper} (hc:qN md L.toArray (L.length-1)=true) (hpos:0<L.length) (hback: ∀(i:Nat) (x:Oper),L[i]? =some x-> ∀e∈x.after,e.on<i) (hg: ∀(i:Nat) (x:Oper) (j:Nat) (b:Bool),L[i]? =some x->x.guard=some (j,b)->j<i):
  ∀(fuel:Nat) (listed:Array Bool) (a:Act) (w:World),HeadInv md L.toArray (L.length-1) listed->wpAny P md L.dropLast.toArray (mQ P L.toArray (L.length-1) Q) fuel listed a w->wpAny P md L.toArray Q (fuel+1) listed a w:=by
 have hlast: ∀listed:Array Bool,HeadInv md L.toArray (L.length-1) listed->Region.ready md L.dropLast.toArray listed=[]->(L.length-1)∈Region.ready md L.toArray listed:=fun listed inv hr=>by
  have hs:listed.size=L.length:=by simpa using inv.size
  obtain⟨x,hx⟩: ∃x,L[L.length-1]? =some x:=⟨L[L.length-1]'(by omega),by simp⟩;rw[mem_ready];refine⟨inv.tail _ (Nat.le_refl _) (by simp; omega),x,by simpa using hx,fun e he _=> ?_⟩;have hb:=hback _ x hx e he;exact sH (by omega) (vB hs hback hr L.length e.on (by omega) (by omega))
 have hne: ∀listed:Array Bool,HeadInv md L.toArray (L.length-1) listed->Region.ready md L.toArray listed≠[]:=fun listed inv e=>by
  cases hr:Region.ready md L.dropLast.toArray listed with
  | nil=>have:=hlast listed inv hr; rw[e]at this; cases this
  | cons i r=>
   have hi:i∈Region.ready md L.dropLast.toArray listed:=by rw[hr]; simp
   have hlt:=gI hi;simp only[List.length_dropLast]at hlt;rw[ir hlt,e]at hi
   cases hi
 have hfin: ∀listed:Array Bool,HeadInv md L.toArray (L.length-1) listed->(L.length-1)∈Region.ready md L.toArray listed->Region.ready md L.dropLast.toArray listed=[]/\Region.ready md L.toArray (listed.setIfInBounds (L.length-1) true)=[]:=fun listed inv hm=>by
  have hs:listed.size=L.length:=by simpa using inv.size
  have hall: ∀i,i<L.length-1->listed.getD i true=true:=fun i hi=>by
   cases hgd:listed.getD i true with
   | true=>rfl
   | false=>exact absurd hm (jL hc inv _ i rfl hi hgd _ (Nat.le_refl _))
  constructor
  ·rw[List.eq_nil_iff_forall_not_mem];intro i hi;have hlt:=gI hi;simp only[List.length_dropLast]at hlt;have:=(mem_ready.1 hi).1;rw[hall i hlt]at this
   cases this
  ·rw[List.eq_nil_iff_forall_not_mem];intro i hi;have hlt:=gI hi;have h1:=(mem_ready.1 hi).1
   by_cases e:i=L.length-1
   ·rw[e]at h1;simp[hs]at h1
   ·rw[getD_set_ne true (Ne.symm e),hall i (by omega)]at h1
    cases h1
 intro fuel
 induction fuel with
 | zero=>
  intro listed a w inv h;refine⟨fun e=>absurd e (hne listed inv),fun i hi=> ?_⟩;have hlt:=gI hi
  by_cases e:i=L.length-1
  ·subst e;exact wpOp_mono (fun a' w' h'=>nP (hfin listed inv hi).2 h' 0) h.2
  ·have:=(ir (by omega)).2 hi;rw[h.1]at this
   cases this
 | succ fuel ih=>
  intro listed a w inv h;refine⟨fun e=>absurd e (hne listed inv),fun i hi=> ?_⟩;have hlt:=gI hi
  by_cases e:i=L.length-1
  ·subst e;exact wpOp_mono (fun a' w' h'=>nP (hfin listed inv hi).2 h' (fuel+1)) (h.1 (hfin listed inv hi).1)
  ·have hi':i<L.length-1:=by omega
   refine xx hi' (fun x j b hx hgd=>hg i x j b hx hgd) (wpOp_mono (fun a' w' h'=>ih _ a' w' (inv.set hi hi') h') (h.2 i ((ir hi').2 hi)))
theorem pC {ops:Array Oper} {m:Nat} :HeadInv md ops m (Array.replicate ops.size false):=by
 refine⟨by simp,fun j oj hj hl=> ?_,fun t _ ht=>by simp[ht]⟩;have:=(Array.getElem?_eq_some_iff.1 hj).1;simp[this]at hl
theorem dw {id:Nat} {a:Act} {w:World} {L:List Oper} (S:World->Prop) (hm:P.follows .mixedOrders=true) (hB:pJ .any L=true)
  (h:oJ P L.dropLast.toArray (mQ P L.toArray (L.length-1) Q) S (L.length-1) (Array.replicate L.length false) a w.drew):(Code.region id L.toArray true).wp P Q a w:=by
 simp only[pJ,Bool.and_eq_true,decide_eq_true_eq]at hB;obtain⟨⟨hc,hpos⟩,hall⟩:=hB;have hall': ∀(i:Nat) (x:Oper),L[i]? =some x->(∀e∈x.after,e.on<i)/\ ∀j b,x.guard=some (j,b)->j<i:=fun i x hx=>by
  have:=List.all_eq_true.1 hall i (List.mem_range.2 (List.getElem?_eq_some_iff.1 hx).1);rw[hx]at this;simp only[Bool.and_eq_true]at this;refine⟨fun e he=> ?_,fun j b hg=> ?_⟩
  ·have:=Array.all_eq_true'.1 this.1 e he
   simpa using this
  ·have:=this.2;rw[hg]at this
   simpa using this
 refine wp_region_any hm ?_;have:=sr hc hpos (fun i x hx=>(hall' i x hx).1) (fun i x j b hx=>(hall' i x hx).2 j b) (L.length-1) _ a w.drew pC (wpAny_of_held _ _ _ _ (by simpa using h.out));rw[show L.length-1+1=L.length by omega]at this
 simpa using this
theorem dE {L:List Oper} {m:Nat} {a:Act} {w:World} {dst:Option Tmp} {op:Op} {ty:TypeId} {pos:String} {aft:Array Edge} {g:Option (Nat×Bool)} (hi:L[m]? =some ⟨dst,op,ty,pos,aft,g⟩) (hw:Region.wanted ⟨dst,op,ty,pos,aft,g⟩ (yielded L.toArray a.tmps)=true)
  (h: ∀K:Act->World->Prop,(∀a w,Q .normal a w->K a w)->wpList P #[] (Exit.then K Q) [⟨dst,op,ty,pos, #[],none⟩] a w):mQ P L.toArray m Q .normal a w:=by
 show wpOp P L.toArray Q m _ a w
 have hb:qu P L.toArray (fun a' w'=>Q .normal a' w') Q [⟨dst,op,ty,pos,aft,g⟩] a w:=bu hw (fun K hK=>h K (fun a w hh=>hK a w hh));unfold wpOp;have hi':L.toArray[m]? =some ⟨dst,op,ty,pos,aft,g⟩:=by simpa using hi
 simp only[hi'];exact qu.out hb
end
end Go.Proofs.YtnjkpcalgoefhaaGreatDoor
namespace Go.Proofs.YtnjkpcalgoefhaaGreatDoor
open Go.RowKit
theorem Tryz.appBytes :cQ Tryz.prog 28 5 1 1:=cQ.mk' (z:= .int .u8 0) Tryz.underlying28 (by kernel_rfl) rfl (by decide) (by decide)
def aV (S:Nat->Prop) (w:World) (v:Value) (bs:List UInt8):Prop:=aD S w 1 v bs.length (bs.map aP)
theorem tt (bs:List UInt8): ∀u∈bs.map aP,u.oneCell'=true:=fun u hu=>by
 obtain⟨b,_,rfl⟩:=List.mem_map.1 hu
 rfl
open Go Go.RowKit
def aL (v:V8) (buf:List UInt8) (n:Nat):List Value:=v.list.map er++(buf.map aP++[.int .i64 (n:Int)])
def jb (w:World) (sb:Nat) (ty:TypeId) (rest:List Value) (data:List UInt8):Prop:=
 ∃buf:List UInt8,buf.length=64/\buf.take (data.length%64)=data.drop (64*(data.length/64))/\w.heap[sb]? =some (.cells (aL (dt data (data.length/64)) buf data.length++rest).toArray ty (0,0))
theorem aV.call {w w':World} {sb:Nat} {v:Value} {bs:List UInt8} (h:aV (· ≠sb) w v bs) (hg:w.grownBy w' (some sb)):aV (· ≠sb) w' v bs:=by
 have h2:=aD.mono (T:=fun k=>k≠sb/\k<w.heap.size) h (fun k hk hS=>⟨hS,hk⟩) (by omega);exact(aD.same h2 (fun k hk=>hg.block k hk.2 (fun e=>hk.1 (Option.some.inj e)))).weak (fun k hk=>hk.1)
theorem iW {S:Nat->Prop} {w:World} {a:Option Addr} {n cap:Nat} {bs:List UInt8} (h:aV S w (.slice a n cap) bs) {k:Nat} (hk:k<=bs.length):
  ∃a' cap',(∀w',(Instr.slice 28 (.slice a n cap) (some (.int .i64 (k:Int))) none none).run Tryz.prog w'= .ok (.slice a' (bs.drop k).length cap') w')/\aV S w (.slice a' (bs.drop k).length cap') (bs.drop k):=by
 obtain⟨hl,a0,cap0,hv,hn,hm,h0⟩:=h;simp only[Value.slice.injEq]at hv;obtain⟨rfl,rfl,rfl⟩:=hv;have hz: ∀w',(sizeOf (Tryz.prog.elem 28)).run Tryz.prog w'= .ok 1 w':=fun _=>by kernel_rfl
 refine⟨if cap=k then a else a.map (fun p=>p.add k),cap-k,fun w'=> ?_, ?_⟩
 ·rw[run_slice_l _ _ _ _ _ Tryz.underlying28 _ _ (by omega) (by omega),hz];simp only[Result.andThen,sliced,Int.toNat_natCast,Nat.mul_one,List.length_drop]
 ·refine⟨by simp,_,_,rfl,by rw[List.length_drop]; omega,by omega, ?_⟩
  rcases h0 with h0 | ⟨b,o,rfl,hS,hc⟩
  ·exact .inl (by rw[List.length_drop]; omega)
  ·by_cases hlen:(bs.drop k).length=0
   ·exact .inl hlen
   ·rw[List.length_drop]at hlen;refine .inr ⟨b,o+k, ?_,hS,fun j x hj=> ?_⟩
    ·rw[if_neg (by omega),Option.map_some,Addr.add_mid]
    ·rw[Nat.add_assoc];exact hc (k+j) x (by rw[<-hj,List.map_drop,List.getElem?_drop])
theorem qb {S:Nat->Prop} {w:World} {a:Option Addr} {n cap:Nat} {bs:List UInt8} (h:aV S w (.slice a n cap) bs) {k:Nat} (hk:k<=bs.length) (h0:0<k):
  (∀w',(Instr.slice 28 (.slice a n cap) none (some (.int .i64 (k:Int))) none).run Tryz.prog w'= .ok (.slice a k cap) w')/\aV S w (.slice a (bs.take k).length cap) (bs.take k)/\ ∃b o,a=some ⟨b,o,none⟩:=by
 obtain⟨hl,a0,cap0,hv,hn,hm,h1⟩:=h;simp only[Value.slice.injEq]at hv;obtain⟨rfl,rfl,rfl⟩:=hv;have hz: ∀w',(sizeOf (Tryz.prog.elem 28)).run Tryz.prog w'= .ok 1 w':=fun _=>by kernel_rfl
 rcases h1 with h1 | ⟨b,o,rfl,hS,hc⟩
 ·omega
 ·refine⟨fun w'=> ?_,⟨by simp,_,_,rfl,by rw[List.length_take]; omega,hm, .inr ⟨b,o,rfl,hS,fun j x hj=> ?_⟩⟩,b,o,rfl⟩
  ·rw[run_slice_h _ _ _ _ _ Tryz.underlying28 _ _ (by omega) (by omega),hz];simp only[Result.andThen,sliced,Int.toNat_natCast,Nat.zero_mul,Nat.sub_zero]
   by_cases hcz:cap=0
   ·omega
   ·rw[if_neg hcz,Option.map_some,Addr.add_mid,Nat.add_zero]
  ·refine hc j x ?_;rw[List.map_take,List.getElem?_take]at hj
   split at hj
   ·exact hj
   ·cases hj
theorem cY {ops:Array Oper} {rest:List Oper} {o:Oper} {a:Act} {Q:Exit->Act->World->Prop} {w:World} (hgd:o.guard=none) (d s:Operand)
  (ho:o.op= .call {callee:= .builtin .copy,args:= #[d,s],argTypes:= #[28,28]}) (g off dLen dCap:Nat) (sp:Option Addr) (sLen sCap:Nat) (hd:a.eval d= .slice (some ⟨g,off,none⟩) dLen dCap) (hs:a.eval s= .slice sp sLen sCap)
  (cur:List Value) (t:TypeId) (hg:w.heap[g]? =some (.cells cur.toArray t (0,0))) (S:Nat->Prop) (bs:List UInt8) (hb:aV S w (.slice sp sLen sCap) bs) (k:Nat) (hk:k=Nat.min bs.length dLen) (hfit:off+dLen<=cur.length)
  (h: ∀w',w'.heap[g]? =some (.cells (splice cur off ((bs.take k).map aP)).toArray t (0,0))->w.grownBy w' (some g)->wpList Tryz.prog ops Q rest (a.put o.dst (.int .i64 (k:Int))) w'):wpList Tryz.prog ops Q (o::rest) a w:=by
 obtain⟨hl,a0,cap0,hv,hn,hm,h1⟩:=hb;simp only[Value.slice.injEq]at hv;obtain⟨rfl,rfl,rfl⟩:=hv
 by_cases hk0:k=0
 ·subst hk0;refine wpList_copy_nothing hgd d s _ _ ho 5 Tryz.underlying28 (by kernel_rfl) _ _ _ _ _ _ hd hs (by rw[<-hk]) ?_;refine h w ?_ (qS w _);rw[hg,List.take_zero,List.map_nil];simp[splice]
 ·have hkb:k<=bs.length:=by rw[hk]; exact Nat.min_le_left _ _
  have hkd:k<=dLen:=by rw[hk]; exact Nat.min_le_right _ _
  rcases h1 with h1 | ⟨b,o2,rfl,hS,hc⟩
  ·omega
  ·have hlen:((bs.take k).map aP).length=k:=by rw[List.length_map,List.length_take]; omega
   refine wpList_copy_own hgd d s _ _ ho 5 Tryz.underlying28 (by kernel_rfl) g off dLen dCap ⟨b,o2,none⟩ bs.length sCap hd hs cur.toArray t hg ((bs.take k).map aP) (by rw[hlen,hk]) (fun j x hj=> ?_) (by rw[hlen,List.size_toArray]; omega) (fun v hv=>by obtain⟨x,_,rfl⟩:=List.mem_map.1 hv; rfl) ?_
   ·rw[Addr.add_mid];refine hc j x ?_;rw[List.map_take,List.getElem?_take]at hj
    split at hj
    ·exact hj
    ·cases hj
   ·rw[hlen];refine h _ ?_ ?_
    ·rw[setRow_heap w g _ _ t _ hg];simp only[splice,hlen]
    ·exact⟨rfl,rfl,rfl,by simp[World.setRow],fun i _ hne=>setRow_other w g i _ (fun e=>hne (by rw[e]))⟩
theorem fW (v:V8) {buf:List UInt8} (h:buf.length=64) (n:Nat):(aL v buf n).length=73:=by unfold aL V8.list; simp[h]
theorem nH (v:V8) {buf:List UInt8} (h:buf.length=64) (n:Nat) (rest:List Value):(aL v buf n++rest).toArray[72]? =some (.int .i64 (n:Int)):=by
 rw[List.getElem?_toArray,List.getElem?_append_left (by rw[fW v h]; decide)];unfold aL;rw[List.getElem?_append_right (by simp[V8.list]),List.getElem?_append_right (by simp[V8.list,h])];simp[V8.list,h]
theorem uM (v:V8) {buf:List UInt8} (h:buf.length=64) (n n':Nat) (rest:List Value):(aL v buf n++rest).set 72 (.int .i64 (n':Int))=aL v buf n'++rest:=by
 rw[List.set_append_left _ _ (by rw[fW v h]; decide)]
 congr 1
 unfold aL;rw[List.set_append_right _ _ (by simp[V8.list]),List.set_append_right _ _ (by simp[V8.list,h])]
 congr 2
 simp[V8.list,h]
theorem cM (v:V8) (buf:List UInt8) (n:Nat) (rest:List Value):aL v buf n++rest=v.list.map er++(buf.map aP++([.int .i64 (n:Int)]++rest)):=by unfold aL; simp
theorem iV (v:V8) {buf:List UInt8} (h:buf.length=64) (n:Nat) (rest:List Value) {off:Nat} {xs:List UInt8} (ho:off+xs.length<=64):splice (aL v buf n++rest) (8+off) (xs.map aP)=aL v (splice buf off xs) n++rest:=by
 have e: ∀(A B C:List Value),A.length=8->B.length=64->splice (A++(B++C)) (8+off) (xs.map aP)=A++(splice B off (xs.map aP)++C):=by
  intro A B C hA hB;unfold splice;have hx:(xs.map aP).length=xs.length:=by simp
  rw[hx,List.take_append,List.drop_append,hA,show 8+off-8=off by omega,show 8+off+xs.length-8=off+xs.length by omega,List.take_of_length_le (by omega),List.drop_eq_nil_of_le (by omega),List.nil_append,List.take_append_of_le_length (by omega),List.drop_append_of_le_length (by omega)];simp
 rw[cM,e _ _ _ (by simp[V8.list]) (by simpa using h),cM]
 congr 2
 unfold splice;simp
theorem fP {buf xs:List UInt8} (h:buf.length=64) {off:Nat} (ho:off+xs.length<=64):(splice buf off xs).length=64:=by rw[length_splice _ _ _ (by omega),h]
structure oM (sb : Nat) (ty : TypeId) (rest : List Value) (D buf : List UInt8) (w wr : World) (j : Nat) : Prop where
 box:wr.heap[sb]? =some (.cells (aL (dt D j) buf D.length++rest).toArray ty (0,0))
 len:buf.length=64
 grown:w.grownBy wr (some sb)
theorem eI.grown {w wr:World} {sb:Nat} (h:eI w) (hne:sb≠4) (hg:w.grownBy wr (some sb)) (hlt:4<w.heap.size):eI wr:=by
 intro j x hj;rw[<-h j x hj];exact World.cell?_of_block (hg.block _ hlt (fun e=>hne (Option.some.inj e).symm))
theorem yD (v:V8) {buf:List UInt8} (n:Nat) (rest:List Value) {j:Nat} {x:UInt8} (hj:buf[j]? =some x):(aL v buf n++rest).toArray[8+j]? =some (aP x):=by
 have hlt:=(List.getElem?_eq_some_iff.1 hj).1;rw[List.getElem?_toArray,cM,List.getElem?_append_right (by simp[V8.list]),List.getElem?_append_left (by simp[V8.list]; omega)];rw[show 8+j-(List.map er v.list).length=j by simp[V8.list],List.getElem?_map,hj]; rfl
theorem nj {data xs:List UInt8} {q:Nat} (h:64*q<=data.length):(data++xs).drop (64*q)=data.drop (64*q)++xs:=List.drop_append_of_le_length h
theorem qd {buf xs:List UInt8} {u:Nat} (hb:buf.length=64) (hx:u+xs.length=64):splice buf u xs=buf.take u++xs:=by
 unfold splice;rw[hx,List.drop_eq_nil_of_le (by omega),List.append_nil]
def yg :Value->Nat
 | .slice _ n _=>n
 | _=>0
def so (sb:Nat) (ty:TypeId) (rest:List Value) (D:List UInt8) (w:World) (x:Value) (wr:World):Prop:=
 ∃(j rl cap:Nat) (a:Option Addr) (buf:List UInt8),rl=(D.drop (64*j)).length/\64*j<=D.length/\x= .slice a rl cap/\aV (· ≠sb) wr (.slice a rl cap) (D.drop (64*j))/\oM sb ty rest D buf w wr j
theorem oM.done {sb:Nat} {ty:TypeId} {rest:List Value} {D buf:List UInt8} {w wr w':World} {j:Nat} (h:oM sb ty rest D buf w wr j) (hj:64*j<=D.length) (hl:(D.drop (64*j)).length<64)
  (hb:w'.heap[sb]? =some (.cells (splice (aL (dt D j) buf D.length++rest) 8 (((D.drop (64*j)).take (D.drop (64*j)).length).map aP)).toArray ty (0,0))) (hg:wr.grownBy w' (some sb)):jb w' sb ty rest D/\w.grownBy w' (some sb):=by
 have e:D.length/64=j:=by rw[List.length_drop]at hl; omega
 have e2:D.length%64=(D.drop (64*j)).length:=by rw[List.length_drop]at hl ⊢; omega
 refine⟨⟨splice buf 0 (D.drop (64*j)),fP h.len (by omega), ?_, ?_⟩,cD h.grown hg⟩
 ·rw[e2,e];unfold splice;rw[List.take_zero,List.nil_append,List.take_left]
 ·rw[hb,List.take_length,e,iV _ h.len D.length rest (off:=0) (by omega)]
theorem jB (sb:Nat) (ty:TypeId) (rest:List Value) (data xs:List UInt8) (xv:Value) (w:World) (h:jb w sb ty rest data) (hx:aV (· ≠sb) w xv xs) (hlen:data.length+xs.length<1152921504606846976) (hK:eI w) (hKlt:4<w.heap.size) (hne:sb≠4):
  Calls Tryz.prog 148 #[.pointer (some ⟨sb,0,none⟩),xv] w fun e w'=>e= .returned (.tuple #[])/\jb w' sb ty rest (data++xs)/\w.grownBy w' (some sb):=by
 obtain⟨buf,hb64,htl,hbox⟩:=h;obtain⟨_,a,cap,rfl,hcap,hcm,-⟩:=id hx;have HX:=ab hx;have HBX:=ab hbox;have HTL:=ab htl;have HK:=ab hK;have HL64:=ab hb64;obtain⟨n,hn⟩: ∃n,n=data.length:=⟨_,rfl⟩;obtain⟨m,hm⟩: ∃m,m=xs.length:=⟨_,rfl⟩;rw[<-hn]at HBX hlen;rw[<-hm]at hlen hcap;have c72:=(cell_of_row w _ 72 _ _ _ HBX.out).trans (nH _ hb64 n rest)
 have f72:=frozen_of_row w _ 72 _ _ HBX.out;have HN:=ab (And.intro hn hm);clear hx hbox htl hK hb64;rw[<-hm];clear hn hm
 go_enter Tryz.func148,Tryz.ntmps148
 go_upto_region 2 with(fail)
 obtain⟨W1,hW1⟩: ∃W1,W1=w.setCell ⟨sb,72,none⟩ (.int .i64 ((n:Int)+(m:Int))):=⟨_,rfl⟩;rw[<-hW1];have HB1:=ab (show W1.heap[sb]? =some (.cells (aL (dt data (n/64)) buf (n+m)++rest).toArray ty (0,0)) by
  rw[hW1,heap_setCell_same w _ _ _ _ _ HBX.out,List.setIfInBounds_toArray,<-uM _ HL64.out n (n+m) rest];rw[Int.natCast_add])
 have HG1:=ab (show w.grownBy W1 (some sb) by rw[hW1]; exact ba w sb 72 _);have HX1:=ab (HX.out.call HG1.out);clear hW1 c72 f72
 by_cases hu:n%64=0
 ·have hui:(n:Int)%64=0:=by omega
  have HLS:=ab (show so sb ty rest (data++xs) w (.slice a m cap) W1 from by
   have e1:64*(n/64)=data.length:=by have:=HN.out.1; omega
   refine⟨n/64,m,cap,a,buf, ?_,by rw[List.length_append]; omega,rfl, ?_, ?_⟩
   ·rw[e1,List.drop_left]; exact HN.out.2
   ·rw[e1,List.drop_left];have:=HX1.out;rw[<-HN.out.2]at this;exact this
   ·refine⟨?_,HL64.out,HG1.out⟩;rw[je xs (by omega),List.length_append,<-HN.out.1,<-HN.out.2];exact HB1.out)
  go_wp2_with fail;clear hui hu
  go_loopw [1] (fun x wr=>so sb ty rest (data++xs) w x wr) (fun x _=>yg x)
  case atStart=>exact HLS.out
  case round=>
   obtain⟨j,rl,cap2,a2,bf,hrl,hj,rfl,hby,hmid⟩:=hrel;have HRL:=ab hrl;have HBY:=ab hby
   have HMD:=ab hmid;have hrl2:rl<1152921504606846976:=by
    have:=HN.out;rw[hrl,List.length_drop,List.length_append]; omega
   obtain⟨_,_,_,hveq,hcap2,hcm2,-⟩:=id hby
   simp only[Value.slice.injEq]at hveq;obtain⟨rfl,-,rfl⟩:=hveq;rw[<-hrl]at hcap2;clear hrl hby hmid
   by_cases h64:64<=rl
   ·obtain⟨s1,s2,b,o,rfl⟩:=qb HBY.out (k:=64) (by rw[<-HRL.out]; exact h64) (by decide);obtain⟨a3,cap3,s3,s4⟩:=iW HBY.out (k:=64) (by rw[<-HRL.out]; exact h64);have S1: ∀w',(Instr.slice 28 (.slice (some ⟨b,o,none⟩) rl cap2) none (some (.int .i64 64)) none).run Tryz.prog w'= .ok (.slice (some ⟨b,o,none⟩) 64 cap2) w':=s1;obtain⟨r3,hr3⟩: ∃r3,r3=((List.drop (64*j) (data++xs)).drop 64).length:=⟨_,rfl⟩
    have S3: ∀w',(Instr.slice 28 (.slice (some ⟨b,o,none⟩) rl cap2) (some (.int .i64 64)) none none).run Tryz.prog w'= .ok (.slice a3 r3 cap3) w':=by rw[hr3]; exact s3
    rw[<-hr3]at s4;have HR3:=ab hr3;have S2:=ab s2;have S4:=ab s4;clear s1 s2 s3 s4 hr3;go_wp2_with fail;refine(gH sb (dt (data++xs) j) (bf.map aP++([.int .i64 ((data++xs).length:Int)]++rest)) ty b o cap2 ((List.drop (64*j) (data++xs)).take 64) wr (by rw[<-cM]; exact HMD.out.box) (nY _ _) (by rw[List.length_take,<-HRL.out]; omega) (by omega) hcm2 ?_ (HK.out.grown hne HMD.out.grown hKlt) (by have:=HMD.out.grown.size; omega)).mono ?_
    ·intro i x hi;obtain⟨_,_,_,hv9,_,_,h9⟩:=S2.out;simp only[Value.slice.injEq]at hv9;rw[<-hv9.1]at h9
     rcases h9 with h9 | ⟨b9,o9,e9,_,h9⟩
     ·rw[List.length_take,<-HRL.out]at h9; omega
     ·simp only[Option.some.injEq,Addr.mk.injEq]at e9;rw[e9.1,e9.2.1];exact h9 i _ (by rw[List.getElem?_map,hi]; rfl)
    ·rintro e w2 ⟨rfl,hb2,hg2⟩;have HM2:=ab (show oM sb ty rest (data++xs) bf w w2 (j+1)from⟨by rw[cM]; exact hb2,HMD.out.len,cD HMD.out.grown hg2⟩);have HY2:=ab (S4.out.call hg2);clear hb2 hg2;go_wp2_with fail
     go_roundw
     case rel=>
      refine⟨j+1,r3,cap3,a3,bf, ?_, ?_,rfl, ?_,HM2.out⟩
      ·rw[HR3.out,List.drop_drop,show 64*j+64=64*(j+1) by omega]
      ·have:=HRL.out;rw[List.length_drop]at this; omega
      ·have:=HY2.out;rw[List.drop_drop,show 64*j+64=64*(j+1) by omega]at this;exact this
     case measure=>
      have h1:=HR3.out;rw[List.length_drop,<-HRL.out]at h1
      show r3<rl
      omega
   ·have hmin:rl=Nat.min (List.drop (64*j) (data++xs)).length 64:=by rw[<-HRL.out]; exact(Nat.min_eq_left (by omega)).symm
    have hfit:8+64<=(aL (dt (data++xs) j) bf (data++xs).length++rest).length:=by rw[List.length_append,fW _ HMD.out.len]; omega
    have HMIN:=ab hmin;have HFIT:=ab hfit;clear hmin hfit;go_wp2_with (refine cY rfl _ _ rfl sb 8 64 64 a2 rl cap2 rfl rfl (aL (dt (data++xs) j) bf (data++xs).length++rest) ty HMD.out.box (· ≠sb) (List.drop (64*j) (data++xs)) HBY.out rl HMIN.out HFIT.out ?_; intro w3 hb3 hg3; have HB3:=ab hb3; have HG3:=ab hg3; clear hb3 hg3)
    go_end0
    refine⟨rfl, ?_⟩;refine HMD.out.done hj (by rw[<-HRL.out]; omega) ?_ HG3.out;rw[<-HRL.out]; exact HB3.out
 ·obtain⟨u,hu2⟩: ∃u,u=n%64:=⟨_,rfl⟩;have hui:(n:Int)%64=(u:Int):=by omega
  have hupos:(0:Int)<(u:Int):=by omega
  have hule:(u:Int)<=64:=by omega
  obtain⟨k,hk⟩: ∃k,k=Nat.min xs.length (64-u):=⟨_,rfl⟩;have hkle:k<=xs.length:=by rw[hk]; exact Nat.min_le_left _ _
  have hkle2:k<=64-u:=by rw[hk]; exact Nat.min_le_right _ _
  have hk3:k=xs.length\/k=64-u:=by
   rw[hk]
   rcases Nat.le_total xs.length (64-u)with e | e
   ·exact .inl (Nat.min_eq_left e)
   ·exact .inr (Nat.min_eq_right e)
  have HU:=ab (And.intro hu2 hu);have HKK:=ab hk;have HK3:=ab hk3;have HKL:=ab (And.intro hkle hkle2);have hX1:=HX1.out;rw[<-HN.out.2]at hX1;obtain⟨a4,cap4,s4,y4⟩:=iW hX1 hkle;obtain⟨m4,hm4⟩: ∃m4,m4=(xs.drop k).length:=⟨_,rfl⟩;rw[<-hm4]at s4 y4;have HM4:=ab hm4;have Y4:=ab y4;have HXX:=ab hX1;have HFIT:=ab (show 8+u+(64-u)<=(aL (dt data (n/64)) buf (n+m)++rest).length by rw[List.length_append,fW _ HL64.out]; omega)
  clear hu hu2 hk hk3 hkle hkle2 hX1 hm4 y4;have hw64:wrap64 ((u:Int)+(k:Int))=(u:Int)+(k:Int):=by unfold wrap64; have:=HKL.out.2; omega
  by_cases hlt:u+k<64
  ·have hlti:(u:Int)+(k:Int)<64:=by omega
   go_wp2_with (refine cY rfl _ _ rfl sb (8+u) (64-u) (64-u) a m cap rfl rfl (aL (dt data (n/64)) buf (n+m)++rest) ty HB1.out (· ≠sb) xs HXX.out k HKK.out HFIT.out ?_; intro w3 hb3 hg3; have HB3:=ab hb3; have HG3:=ab hg3; clear hb3 hg3);refine bodyPost_ret (results_none rfl _ _ _) rfl ?_;have hk:k=xs.length:=by rcases HK3.out with e | e<;> omega
   have hnl:=HN.out.1;have hml:=HN.out.2;have hun:=HU.out.1;have hq:64*(n/64)<=data.length:=by omega
   refine⟨rfl,⟨splice buf u xs,fP HL64.out (by omega), ?_, ?_⟩,cD HG1.out HG3.out⟩
   ·rw[List.length_append,<-hnl,<-hml,show(n+m)/64=n/64 by omega,show(n+m)%64=u+xs.length by omega,nj hq];have:=HTL.out;rw[<-hnl,<-hun]at this;rw[<-this];unfold splice;rw[<-List.append_assoc,List.take_left' (by rw[List.length_append,List.length_take]; have:=HL64.out; omega)]
   ·rw[HB3.out,hk,List.take_length,iV _ HL64.out _ rest (by omega),List.length_append,<-hnl,<-hml,show(n+m)/64=n/64 by omega,je xs hq]
  ·have hge:64<=(u:Int)+(k:Int):=by omega
   have hk:k=64-u:=by have:=HKL.out.2; rcases HK3.out with e | e<;> omega
   have huk:u+k=64:=by have:=HKL.out.2; omega
   have HKE:=ab (And.intro hk huk);clear hk huk;go_wp2_with (refine cY rfl _ _ rfl sb (8+u) (64-u) (64-u) a m cap rfl rfl (aL (dt data (n/64)) buf (n+m)++rest) ty HB1.out (· ≠sb) xs HXX.out k HKK.out HFIT.out ?_; intro w3 hb3 hg3; have HB3:=ab hb3; have HG3:=ab hg3; clear hb3 hg3);obtain⟨B,hB⟩: ∃B,B=splice buf u (xs.take k):=⟨_,rfl⟩;have hkl:=HKL.out.1
   have htk:(xs.take k).length=k:=by rw[List.length_take]; omega
   have hun:=HU.out.1;have hnl:=HN.out.1;have hml:=HN.out.2;have hq:64*(n/64)<=data.length:=by omega
   have hBl:B.length=64:=by rw[hB]; exact fP HL64.out (by rw[htk]; have:=HKE.out.2; omega)
   have hB3:w3.heap[sb]? =some (.cells (aL (dt data (n/64)) B (n+m)++rest).toArray ty (0,0)):=by rw[HB3.out,iV _ HL64.out _ rest (by rw[htk]; have:=HKE.out.2; omega),<-hB]
   have hBD:B=((data++xs).drop (64*(n/64))).take 64:=by
    have ht:=HTL.out;rw[<-hnl,<-hun]at ht;rw[hB,qd HL64.out (by rw[htk]; exact HKE.out.2),nj hq,<-ht,List.take_append,List.length_take,HL64.out,Nat.min_eq_left (by omega),<-HKE.out.1,List.take_of_length_le (l:=List.take u buf) (by rw[List.length_take]; omega)]
   have HBL:=ab hBl;have HBD:=ab hBD;have HB4:=ab hB3;clear hkl htk hun hnl hml hq hBl hB3 hBD hB;refine(gH sb (dt data (n/64)) (B.map aP++([.int .i64 ((n+m:Nat):Int)]++rest)) ty sb 8 64 B w3 (by rw[<-cM]; exact HB4.out) (nY _ _) HBL.out (Nat.le_refl _) (by unfold maxLen; omega) ?_ (HK.out.grown hne (cD HG1.out HG3.out) hKlt) (by have:=HG1.out.size; have:=HG3.out.size; omega)).mono ?_
   ·intro i x hi;rw[cell_of_row w3 _ _ _ _ _ HB4.out,yD _ _ rest hi]; rfl
   ·rintro e w4 ⟨rfl,hb4,hg4⟩;have hnl:=HN.out.1;have hml:=HN.out.2;have hun:=HU.out.1;have hq:64*(n/64)<=data.length:=by omega
    have hke:=HKE.out.2;have hkl:=HKL.out.1;have HG4:=ab (cD HG1.out (cD HG3.out hg4));have hY:=(Y4.out.call HG3.out).call hg4;have hdr:(data++xs).drop (64*(n/64+1))=xs.drop k:=by
     rw[show 64*(n/64+1)=data.length+k by omega,<-List.drop_drop,List.drop_left]
    have HLS:=ab (show so sb ty rest (data++xs) w (.slice a4 m4 cap4) w4 from by
     refine⟨n/64+1,m4,cap4,a4,B, ?_,by rw[List.length_append]; omega,rfl, ?_, ?_⟩
     ·rw[hdr]; exact HM4.out
     ·rw[hdr]; exact hY
     ·refine⟨?_,HBL.out,HG4.out⟩;rw[cM,dt,<-HBD.out,je xs hq,List.length_append,<-hnl,<-hml];exact hb4)
    clear hb4 hg4 hnl hml hun hq hke hkl hY hdr;go_wp2_with fail;clear hw64 hlt hge hupos hule hui
    go_loopw [1] (fun x wr=>so sb ty rest (data++xs) w x wr) (fun x _=>yg x)
    case atStart=>exact HLS.out
    case round=>
     obtain⟨j,rl,cap2,a2,bf,hrl,hj,rfl,hby,hmid⟩:=hrel;have HRL:=ab hrl;have HBY:=ab hby
     have HMD:=ab hmid;have hrl2:rl<1152921504606846976:=by
      have:=HN.out;rw[hrl,List.length_drop,List.length_append]; omega
     obtain⟨_,_,_,hveq,hcap2,hcm2,-⟩:=id hby
     simp only[Value.slice.injEq]at hveq;obtain⟨rfl,-,rfl⟩:=hveq;rw[<-hrl]at hcap2;clear hrl hby hmid
     by_cases h64:64<=rl
     ·obtain⟨s1,s2,b,o,rfl⟩:=qb HBY.out (k:=64) (by rw[<-HRL.out]; exact h64) (by decide);obtain⟨a3,cap3,s3,s4⟩:=iW HBY.out (k:=64) (by rw[<-HRL.out]; exact h64);have S1: ∀w',(Instr.slice 28 (.slice (some ⟨b,o,none⟩) rl cap2) none (some (.int .i64 64)) none).run Tryz.prog w'= .ok (.slice (some ⟨b,o,none⟩) 64 cap2) w':=s1;obtain⟨r3,hr3⟩: ∃r3,r3=((List.drop (64*j) (data++xs)).drop 64).length:=⟨_,rfl⟩
      have S3: ∀w',(Instr.slice 28 (.slice (some ⟨b,o,none⟩) rl cap2) (some (.int .i64 64)) none none).run Tryz.prog w'= .ok (.slice a3 r3 cap3) w':=by rw[hr3]; exact s3
      rw[<-hr3]at s4;have HR3:=ab hr3;have S2:=ab s2;have S4:=ab s4;clear s1 s2 s3 s4 hr3;go_wp2_with fail;refine(gH sb (dt (data++xs) j) (bf.map aP++([.int .i64 ((data++xs).length:Int)]++rest)) ty b o cap2 ((List.drop (64*j) (data++xs)).take 64) wr (by rw[<-cM]; exact HMD.out.box) (nY _ _) (by rw[List.length_take,<-HRL.out]; omega) (by omega) hcm2 ?_ (HK.out.grown hne HMD.out.grown hKlt) (by have:=HMD.out.grown.size; omega)).mono ?_
      ·intro i x hi;obtain⟨_,_,_,hv9,_,_,h9⟩:=S2.out;simp only[Value.slice.injEq]at hv9;rw[<-hv9.1]at h9
       rcases h9 with h9 | ⟨b9,o9,e9,_,h9⟩
       ·rw[List.length_take,<-HRL.out]at h9; omega
       ·simp only[Option.some.injEq,Addr.mk.injEq]at e9;rw[e9.1,e9.2.1];exact h9 i _ (by rw[List.getElem?_map,hi]; rfl)
      ·rintro e w2 ⟨rfl,hb2,hg2⟩;have HM2:=ab (show oM sb ty rest (data++xs) bf w w2 (j+1)from⟨by rw[cM]; exact hb2,HMD.out.len,cD HMD.out.grown hg2⟩);have HY2:=ab (S4.out.call hg2);clear hb2 hg2;go_wp2_with fail
       go_roundw
       case rel=>
        refine⟨j+1,r3,cap3,a3,bf, ?_, ?_,rfl, ?_,HM2.out⟩
        ·rw[HR3.out,List.drop_drop,show 64*j+64=64*(j+1) by omega]
        ·have:=HRL.out;rw[List.length_drop]at this; omega
        ·have:=HY2.out;rw[List.drop_drop,show 64*j+64=64*(j+1) by omega]at this;exact this
       case measure=>
        have h1:=HR3.out;rw[List.length_drop,<-HRL.out]at h1
        show r3<rl
        omega
     ·have hmin:rl=Nat.min (List.drop (64*j) (data++xs)).length 64:=by rw[<-HRL.out]; exact(Nat.min_eq_left (by omega)).symm
      have hfit:8+64<=(aL (dt (data++xs) j) bf (data++xs).length++rest).length:=by rw[List.length_append,fW _ HMD.out.len]; omega
      have HMIN:=ab hmin;have HFIT:=ab hfit;clear hmin hfit;go_wp2_with (refine cY rfl _ _ rfl sb 8 64 64 a2 rl cap2 rfl rfl (aL (dt (data++xs) j) bf (data++xs).length++rest) ty HMD.out.box (· ≠sb) (List.drop (64*j) (data++xs)) HBY.out rl HMIN.out HFIT.out ?_; intro w3 hb3 hg3; have HB3:=ab hb3; have HG3:=ab hg3; clear hb3 hg3)
      go_end0
      refine⟨rfl, ?_⟩;refine HMD.out.done hj (by rw[<-HRL.out]; omega) ?_ HG3.out;rw[<-HRL.out]; exact HB3.out
theorem zd {S:Nat->Prop} {w:World} {v:Value} {bs:List UInt8} (hd:aV S w v bs):(convert 28 9 v).run Tryz.prog w= .ok (.string ⟨bs.toArray⟩) w:=by
 obtain⟨_,a,cap,rfl,hn,hm,h0⟩:=hd
 rcases h0 with h0 | ⟨b,o,rfl,_,hc⟩
 ·obtain rfl:=List.eq_nil_of_length_eq_zero h0
  show(convert 28 9 (.slice a 0 cap)).run Tryz.prog w=_
  cases a<;> kernel_rfl
 ·have h:=run_convert_bytes_arg (P:=Tryz.prog) w 28 5 Tryz.underlying28 Tryz.underlying5 b o bs.length cap (bs.map fun b=>(b.toNat:Int)) (by simp) (fun i hi=>by
   rw[hc i (aP bs[i]) (by simp[hi])];simp[aP,List.getD,hi]) 9 Tryz.underlying9
  rw[qg]at h;exact h
def gp (w:World):Prop:= ∀j x,ke.list[j]? =some x->w.cell? ⟨1,j,none⟩=some (er x)
def sK :List Value:=[.int .u32 1779033703, .int .u32 3144134277, .int .u32 1013904242, .int .u32 2773480762, .int .u32 1359893119, .int .u32 2600822924, .int .u32 528734635, .int .u32 1541459225]
theorem gp.range {w:World} (h:gp w):w.rangeAt 1 0 sK:=by
 intro j x hj;rw[Nat.zero_add];have h2:sK=ke.list.map er:=by kernel_rfl
 rw[h2,List.getElem?_map]at hj
 cases hq:ke.list[j]? with
 | none=>rw[hq]at hj; cases hj
 | some y=>
  rw[hq]at hj;rw[h j y hq];exact hj
theorem rK (w:World) (hI:gp w):Calls Tryz.prog 147 #[] w fun e w'=>e= .returned (.pointer (some ⟨w.heap.size,0,none⟩))/\jb w' w.heap.size 248 [] []/\Below w.heap.size w w'/\w.heap.size<w'.heap.size:=by
 have HR:=ab hI.range;clear hI
 go_enter Tryz.func147,Tryz.ntmps147
 go_wp2_with (first | (refine wpList_load_mid rfl 101 _ rfl 1 0 rfl sK _ HR.out Tryz.underlying101 rfl (by kernel_rfl) ?_) | (refine wpList_build rfl 248 _ rfl (by kernel_rfl) ?_));go_ret;refine⟨rfl,⟨List.replicate 64 0,by simp,by simp, ?_⟩,(Below.refl _ _).alloc (Nat.le_refl _) _,by simp⟩;rw[heap_alloc_new,show(Tryz.prog.built 248 [(0,Value.agg sK.toArray)]).getD #[]=(aL (dt [] (([]:List UInt8).length/64)) (List.replicate 64 0) ([]:List UInt8).length++[]).toArray by kernel_rfl]
theorem gX {ops:Array Oper} {rest:List Oper} {o:Oper} {a:Act} {Q:Exit->Act->World->Prop} (hgd:o.guard=none) (s x:Operand)
  (ho:o.op= .call {callee:= .builtin .append,args:= #[s,x],argTypes:= #[28,28]}) (base:Nat) (v:Value) (n m:Nat) (xs:List Value) (hs:a.eval s=v) (w0:World) (news:List Value) (e2:TypeId)
  (hx:a.eval x= .slice (some ⟨w0.heap.size,0,none⟩) m m) (hl:news.length=m) (h1: ∀u∈news,u.oneCell'=true) (hown:w0.ownsRow base 5 1 v n xs) (hn:n+m<1099511627775) (hbase:base<=w0.heap.size)
  (h: ∀v' w',w'.ownsRow base 5 1 v' (n+m) (xs++news)->w0.grownBy w' v.ownBlock->wpList Tryz.prog ops Q rest (a.put o.dst v') w'):wpList Tryz.prog ops Q (o::rest) a (w0.alloc (.cells news.toArray e2)):=by
 obtain⟨ht,⟨i,z,h11,h12,h13,h14,h15⟩,hpos,hsm⟩:=Tryz.appBytes;have hnews: ∀(j:Nat) u,news[j]? =some u->(w0.alloc (.cells news.toArray e2)).cell? ((⟨w0.heap.size,0,none⟩:Addr).add j)=some u:=by
  intro j u hj;rw[Addr.add_mid,Nat.zero_add,cell_of_row _ _ _ _ _ _ (heap_alloc_new w0 (.cells news.toArray e2))]
  simpa using hj
 have hl1:news.length=m*1:=by rw[hl,Nat.mul_one]
 obtain⟨v',w',hr,h2,hg,_⟩:=run_append_own (P:=Tryz.prog) (w0.alloc (.cells news.toArray e2)) base _ o.type _ i z 1 1 ht h11 h12 h13 h14 h15 hpos v n xs (hown.alloc _) ⟨w0.heap.size,0,none⟩ m m news hl1 hnews h1 (by unfold maxLen; omega) (by omega) (by simp; omega);refine wpList_plain hgd fun K hK=> ?_
 unfold Oper.wp execOp;simp only[ho,resolve,invoke,builtin,Sem.run_bind,Sem.run_pure,Result.andThen_ok,List.map_toArray,List.map_cons,List.map_nil,hs,hx,hr];refine hK _ _ (h v' w' h2 ⟨hg.os,hg.tape,hg.output,by have:=hg.size; simp at this; omega,fun k hk hne=> ?_⟩);rw[hg.block k (by simp; omega) hne];exact Below.heap_alloc _ _ _ hk
end Go.Proofs.YtnjkpcalgoefhaaGreatDoor
