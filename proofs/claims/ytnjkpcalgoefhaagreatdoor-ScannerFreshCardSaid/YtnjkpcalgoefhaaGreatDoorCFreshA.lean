/- Texts of this proof, one after the other: Plain, Glob, PlainB, OrdP, RefP, Base, Libc, PathA, PathB, TreeP, TreeQ, LitP, BelP, Segs, ShaP, ShaA, ShaB, Own, Seq, App, Held, WireA, WireB, WireD, Map, RefV, ItemA, Last, ItemE, ShaC, ShaD, ShaE. -/
import Derived.Lib.ValidLaws
import Derived.Lib.TrimUEq
import Derived.Lib.MapLaws
import Derived.Lib.SplitLaws
import Derived.Lib.Join
import Derived.Lib.Small
import Derived.Laws.RangeAny
import Derived.Test.YtnjkpcalgoefhaaGreatDoorRows
import Derived.Test.YtnjkpcalgoefhaaGreatDoorShelf
import Derived.WalkKit
import Derived.WalkSpells
import Derived.WalkLawsBesides
import Derived.Lib.Hide
import Derived.WalkSmall
import Derived.Deep.QuietTactic
import Derived.BigQuiet
import Derived.StillTailTactics
import Derived.Laws.Bits64b
import Derived.Laws.BitsAllLaws
import Derived.Deep.MidRow
import Derived.Laws.OwnMore
import Derived.OrdersHeld
import Derived.Deep.RegionHeld
import Derived.Laws.BytesArg
import Derived.Defers
import Derived.Recover
import Derived.Maps.OwnSet
import Derived.Maps.OwnOps
import Derived.DeepKeys5
import Derived.Laws.StructEq
import Derived.Laws.CopyOwn
import Derived.Laws.Slices
import Derived.Lib.ConvBytes
import Derived.Lib.TrailingZeros
import Derived.Test.YtnjkpcalgoefhaaGreatDoorCtz
import Derived.Lib.BufferWrite
import Derived.Maps.RangeWalk
import Derived.Shelf.Bytes.SlClone
import Derived.Lib.LazyBuf
import Derived.Laws.MakeOwn
import Derived.RangeFuncNested
import Derived.RangeFuncLeaves
import Derived.RangeFuncGives
import Derived.Lib.AppendStr
import Derived.RangeFuncBox
import Derived.Shelf.Abstract
import Derived.OwnWalkIn
import Derived.TacticsInMore
import Derived.LoopNIn
import Derived.LoopIn
import Derived.OrdersIn
import Derived.Deep.RegionWith
import Derived.Deep.RegionHeld3
import Derived.Laws.EntriesVeiled
import Derived.Lib.SlBytesConst
import Derived.Deep.Cut
import Derived.Laws.Tables
import Derived.Laws.Rows
import Derived.Laws.Cover4
import Derived.ProofKit
import Derived.Carry
import Derived.Lay
import Derived.PinnedBridge
import Derived.Lib.LaidU8T
import Derived.SevenTiedAt
import Derived.HandedShaped
import Derived.Shelf.Vars
import Derived.Test.YtnjkpcalgoefhaaGreatDoorTie
import Derived.Test.YtnjkpcalgoefhaaGreatDoorCards
import Derived.Lib.SmallJoins
set_option maxRecDepth 100000
set_option maxHeartbeats 8000000
namespace Go.Proofs.YtnjkpcalgoefhaaGreatDoor
open Go Go.RowKit
theorem aD {α:Type} (l:List α) (i:Nat) (x:α):l.toArray.setIfInBounds i x=(l.set i x).toArray:=List.setIfInBounds_toArray ..
theorem aE {α:Type} (x:α) (l:List α) (i:Nat) (y:α):(x::l).set (i+1) y=x::l.set i y:=rfl
theorem aF {α:Type} (x:α) (l:List α) (y:α):(x::l).set 0 y=y::l:=rfl
theorem cw {α:Type} :(∀(x:α) (l:List α),(x::l)[0]? =some x)/\(∀(x:α) (l:List α) (i:Nat),(x::l)[i+1]? =l[i]?):=⟨fun _ _=>rfl,fun _ _ _=>rfl⟩
theorem kJ {α:Type} :(∀(l:List α) (i:Nat),l.toArray[i]? =l[i]?)/\(∀(x:α) (l:List α) (i:Nat),(x::l)[i+1]? =l[i]?)/\(∀(x:α) (l:List α),(x::l)[0]? =some x):=⟨fun _ _=>List.getElem?_toArray ..,fun _ _ _=>rfl,fun _ _=>rfl⟩
theorem aa {p:Prop} (h:p):RowKit.Hid p:=h
end Go.Proofs.YtnjkpcalgoefhaaGreatDoor
namespace Go.Proofs.YtnjkpcalgoefhaaGreatDoor
def jH (l:List UInt8):Bool:=l.all fun c=>decide (32<=c.toNat)
def mC (l:List UInt8):Bool:=jH l && Lib.validD l
def iK (l:List UInt8):Bool:= !l.isEmpty && decide (l.length<=64) && (l != [46]) && (l != [46,46]) && !l.contains 47 && mC l
def aw (c:UInt8):List UInt8->List (List UInt8)
 | []=>[[]]
 | b::l=>if b=c then []::aw c l else
  match aw c l with
  | h::t=>(b::h)::t
  | []=>[[b]]
def ik (ps:List (List UInt8)):List UInt8:=Lib.join ps [47]
def bz (l:List UInt8):Bool:=decide (l.length<=512) && decide ((aw 47 l).length<=16) && (aw 47 l).all iK
def cL (c:UInt8):Int:=if c=47 then -1 else c.toNat
def bG :List UInt8->List UInt8->Int
 | [],[]=>0
 | [],_::_=> -1
 | _::_,[]=>1
 | a::l,b::r=>if a=b then bG l r else Lib.compareInt (cL a) (cL b)
theorem ek (c:UInt8) (l:List UInt8):aw c l≠[]:=by
 cases l with
 | nil=>simp[aw]
 | cons b l=>
  unfold aw
  split
  ·simp
  ·split<;> simp
theorem sF (c:UInt8) (l:List UInt8):1<=(aw c l).length:=by
 have:=ek c l
 cases h:aw c l with
 | nil=>exact absurd h this
 | cons a t=>simp
theorem eq (c:UInt8) (l:List UInt8):(aw c l).length<=l.length+1:=by
 induction l with
 | nil=>simp[aw]
 | cons b l ih=>
  unfold aw
  split
  ·simp; omega
  ·split
   ·rename_i h t e; rw[e]at ih; simp at ih ⊢; omega
   ·simp
theorem iS (c:UInt8) (p q:List UInt8) (hp:c∉p):aw c (p++c::q)=p::aw c q:=by
 induction p with
 | nil=>simp[aw]
 | cons b p ih=>
  have hb:b≠c:=fun e=>hp (by simp[e])
  have ih:=ih (fun h=>hp (List.mem_cons_of_mem _ h));simp only[List.cons_append,aw,if_neg hb,ih]
theorem eM (c:UInt8) (p:List UInt8) (hp:c∉p):aw c p=[p]:=by
 induction p with
 | nil=>rfl
 | cons b p ih=>
  have hb:b≠c:=fun e=>hp (by simp[e])
  have ih:=ih (fun h=>hp (List.mem_cons_of_mem _ h));simp only[aw,if_neg hb,ih]
theorem sE (c:UInt8) (l:List UInt8): ∀p∈aw c l,c∉p:=by
 induction l with
 | nil=>simp[aw]
 | cons b l ih=>
  unfold aw
  split
  ·intro p hp; rcases List.mem_cons.1 hp with rfl | hp
   ·simp
   ·exact ih p hp
  ·rename_i hb
   split
   ·rename_i h t e;rw[e]at ih;intro p hp; rcases List.mem_cons.1 hp with rfl | hp
    ·have:=ih h (by simp); simp[this,Ne.symm hb]
    ·exact ih p (by simp[hp])
   ·rename_i e; exact absurd e (ek c l)
theorem kO (c:UInt8) (l:List UInt8):Lib.join (aw c l) [c]=l:=by
 induction l with
 | nil=>rfl
 | cons b l ih=>
  unfold aw
  split
  ·rename_i hb; subst hb
   cases h:aw b l with
   | nil=>exact absurd h (ek b l)
   | cons a t=>rw[h]at ih; rw[Lib.join_cons]at *; simp[Lib.joinTail]at *; exact ih
  ·split
   ·rename_i h t e; rw[e]at ih; rw[Lib.join_cons]at *; simp at *; exact ih
   ·rename_i e; exact absurd e (ek c l)
theorem qB (c:UInt8) (ps:List (List UInt8)) (h0:ps≠[]) (h: ∀p∈ps,c∉p):aw c (Lib.join ps [c])=ps:=by
 induction ps with
 | nil=>exact absurd rfl h0
 | cons p ps ih=>
  cases ps with
  | nil=>rw[Lib.join_one]; exact eM c p (h p (by simp))
  | cons q ps=>
   have e:Lib.join (p::q::ps) [c]=p++c::Lib.join (q::ps) [c]:=by
    rw[Lib.join_cons,Lib.join_cons]; simp[Lib.joinTail]
   rw[e,iS c _ _ (h p (by simp)),ih (by simp) (fun x hx=>h x (by simp[hx]))]
theorem ui (l:List UInt8) (c:UInt8) (h:c∈l): ∃p q,l=p++c::q/\c∉p:=by
 induction l with
 | nil=>simp at h
 | cons b l ih=>
  by_cases hb:b=c
  ·exact⟨[],l,by simp[hb],by simp⟩
  ·have:c∈l:=(List.mem_cons.1 h).resolve_left (Ne.symm hb);obtain⟨p,q,rfl,hp⟩:=ih this;exact⟨b::p,q,rfl,by simp[hp,Ne.symm hb]⟩
theorem uh (p q:List UInt8) (c:UInt8) (hp:c∉p):Lib.index (p++c::q) [c]=(p.length:Int):=by
 induction p with
 | nil=>simp[Lib.index,List.isPrefixOf]
 | cons b p ih=>
  have hb:b≠c:=fun e=>hp (by simp[e])
  have ih:=ih (fun h=>hp (List.mem_cons_of_mem _ h));rw[List.cons_append,Lib.index,ih];have h1:([c]:List UInt8).isPrefixOf (b::(p++c::q))=false:=by simp[List.isPrefixOf,Ne.symm hb]
  have h2:((p.length:Int) == -1)=false:=by rw[beq_eq_false_iff_ne]; omega
  rw[h1,h2]; simp
theorem nY (c:UInt8): ∀(k:Nat) (s:List UInt8),s.count c=k->Lib.splitK [c] 0 k s=aw c s
 | 0,s,h=>by
  have:c∉s:=List.count_eq_zero.1 h;rw[eM c s this]; rfl
 | k+1,s,h=>by
  have hc:c∈s:=List.count_pos_iff.1 (by omega);obtain⟨p,q,rfl,hp⟩:=ui s c hc;have hq:q.count c=k:=by
   have h0:p.count c=0:=List.count_eq_zero.2 hp;rw[List.count_append,h0,List.count_cons_self]at h; omega
  rw[iS c p q hp,Lib.splitK,uh p q c hp,if_neg (by simp)];simp only[Int.toNat_natCast,Nat.add_zero,List.length_cons,List.length_nil,Nat.zero_add];rw[List.take_left];have e:(p++c::q).drop (p.length+1)=q:=by rw[List.drop_append]; simp
  rw[e,nY c k q hq]
theorem vy (c:UInt8) (s:ByteArray):(Lib.splitB ⟨#[c]⟩ 0 (Lib.countB s ⟨#[c]⟩) s).map (·.data.toList)=aw c s.data.toList:=by
 rw[Lib.splitB_data];exact nY c _ _ (by rw[Lib.countB,Lib.count_one])
theorem sC (c:UInt8) (s:ByteArray):(Lib.splitB ⟨#[c]⟩ 0 (Lib.countB s ⟨#[c]⟩) s).length=Lib.countB s ⟨#[c]⟩+1:=
 Lib.splitB_all ⟨#[c]⟩ (by simp[ByteArray.size]) 0 _ s rfl
theorem fd (l:List UInt8) (c:UInt8):decide (0<=Lib.indexByte l c)=l.contains c:=by
 induction l with
 | nil=>simp[Lib.indexByte]
 | cons b l ih=>
  have hge:=Lib.indexByte_ge l c;unfold Lib.indexByte
  by_cases hb:b=c
  ·subst hb; simp
  ·have h1:(b == c)=false:=by simpa using hb
   have h2:(c == b)=false:=by simpa using Ne.symm hb
   rw[h1];simp only[Bool.false_eq_true,if_false,List.contains_cons,h2,Bool.false_or,<-ih]
   by_cases hm:Lib.indexByte l c= -1
   ·simp[hm]
   ·rw[if_neg (by simpa using hm)]; congr 1; apply propext; omega
theorem pD (s:ByteArray) (pos:Nat) (h:pos<s.size) (ha:128<=(s.get! pos).toNat):
  pos+(Utf8.decode s pos).2<=s.size/\ ∀j,pos<=j->j<pos+(Utf8.decode s pos).2->128<=(s.get! j).toNat:=by
 have hn: ¬(s.get! (pos+0)).toNat<128:=by simpa using ha
 simp only[Utf8.decode,hn,if_false]
 repeat' split
 all_goals simp_all
 all_goals (refine⟨by omega,fun j h1 h2=> ?_⟩)
 all_goals (rcases Nat.lt_or_ge j (pos+1)with h3 | h3)
 all_goals (first | (rw[show j=pos by omega]; exact ha) | skip)
 all_goals (rcases Nat.lt_or_ge j (pos+2)with h4 | h4)
 all_goals (first | (rw[show j=pos+1 by omega]; omega) | skip)
 all_goals (rcases Nat.lt_or_ge j (pos+3)with h5 | h5)
 all_goals (first | (rw[show j=pos+2 by omega]; omega) | skip)
 all_goals (first | (rw[show j=pos+3 by omega]; omega) | skip)
 all_goals omega
theorem sD (c:UInt8) (p q:List UInt8):aw c (p++c::q)=aw c p++aw c q:=by
 induction p with
 | nil=>simp[aw]
 | cons b p ih=>
  simp only[List.cons_append,aw]
  by_cases hb:b=c
  ·simp[hb,ih]
  ·rw[if_neg hb,if_neg hb,ih]
   cases h:aw c p with
   | nil=>exact absurd h (ek c p)
   | cons a t=>simp
def aM (l:List UInt8):List UInt8:=ik (aw 47 l).dropLast
theorem gl (l:List UInt8) (h:47∉l):aM l=[]:=by
 unfold aM; rw[eM 47 l h]; rfl
theorem fu (p q:List UInt8) (h:47∉q):aM (p++47::q)=p:=by
 unfold aM ik;rw[sD,eM 47 q h,List.dropLast_concat,kO]
theorem jc (l:List UInt8) (h:47∈l): ∃p q,l=p++47::q/\47∉q:=by
 induction l with
 | nil=>simp at h
 | cons b l ih=>
  by_cases hm:(47:UInt8)∈l
  ·obtain⟨p,q,rfl,hq⟩:=ih hm;exact⟨b::p,q,rfl,hq⟩
  ·rcases List.mem_cons.1 h with rfl | h
   ·exact⟨[],l,rfl,hm⟩
   ·exact absurd h hm
theorem jI (l:List UInt8):aM l=l.take (aM l).length:=by
 by_cases h:(47:UInt8)∈l
 ·obtain⟨p,q,rfl,hq⟩:=jc l h;rw[fu p q hq]; simp
 ·rw[gl l h]; simp
def fA :Nat->List UInt8->List Int
 | 0,_=>[]
 | n+1,l=>if l=[]then []else((Lib.decodeL l).1:Int)::fA n (l.drop (Lib.decodeL l).2)
def aU (l:List UInt8):List Int:=fA l.length l
structure bi where
 star:Bool
 any:Bool
 neg:Bool
 ranges:List (Int×Int)
structure aG where
 dbl:Bool
 items:List bi
def zv :bi:=⟨true,false,false,[]⟩
def zV :bi:=⟨false,true,false,[]⟩
def yJ (r:Int):bi:=⟨false,false,false,[(r,r)]⟩
def jD :List Int->Option (Int×List Int)
 | []=>none
 | q::u=>some (q,u)
def gv :List Int->Option (Int×List Int)
 | []=>none
 | r::t=>if r=92 then jD t else if r=93\/r=94\/r=45 then none else some (r,t)
def cl :Nat->List Int->List (Int×Int)->Option (List (Int×Int)×List Int)
 | 0,_,_=>none
 | f+1,l,acc=>
  if l.head? =some 93 then some (acc,l.tail)else
  match gv l with
  | none=>none
  | some (lo,t)=>
   if t.head? =some 45 then
    match gv t.tail with
    | none=>none
    | some (hi,u)=>if hi<lo then none else cl f u (acc++[(lo,hi)])
   else cl f t (acc++[(lo,lo)])
def js (t:List Int):Option (bi×List Int):=
 let neg:=decide (t.head? =some 94)
 let t':=if neg then t.tail else t
 match cl (t'.length+1) t' []with
 | none=>none
 | some (rs,u)=>if rs=[]then none else some (⟨false,false,neg,rs⟩,u)
def dX :List Int->Option (bi×List Int)
 | []=>none
 | r::t=>
  if r=42 then some (zv,t)else if r=63 then some (zV,t)else if r=91 then js t
  else if r=92 then(jD t).map (fun x=>(yJ x.1,x.2))else some (yJ r,t)
def fe :Nat->List Int->Option (List bi)
 | 0,_=>none
 | f+1,l=>if l=[]then some []else
  match dX l with
  | none=>none
  | some (it,t)=>match fe f t with | none=>none | some its=>some (it::its)
def dO (l:List Int):Option (List bi):=fe (l.length+1) l
def gr (p:List UInt8):Option aG:=
 if p=[42,42]then some ⟨true,[]⟩else
 match dO (aU p)with
 | none=>none
 | some its=>if its=[]then none else some ⟨false,its⟩
def bQ :List (List UInt8)->Option (List aG)
 | []=>some []
 | p::r=>match gr p with
  | none=>none
  | some c=>match bQ r with | none=>none | some cs=>some (c::cs)
def fV (l:List UInt8):Option (List aG):=
 if 512<l.length\/mC l=false then none else if 16<(aw 47 l).length then none else bQ (aw 47 l)
def eT {T:Type} (f:List T->Bool):List T->Bool
 | []=>f []
 | t::us=>f (t::us) || eT f us
def pT {T:Type} (m:T->Bool) (f:List T->Bool):List T->Bool
 | []=>false
 | t::us=>m t && f us
def dv {P T:Type} (star:P->Bool) (m:P->T->Bool):List P->List T->Bool
 | [],ts=>ts.isEmpty
 | p::ps,ts=>if star p then eT (dv star m ps) ts else pT (m p) (dv star m ps) ts
def vM (r:Int) (x:Int×Int):Bool:=decide (x.1<=r) && decide (r<=x.2)
def dk (it:bi) (r:Int):Bool:=it.any || ((it.ranges.any (vM r)) != it.neg)
def tg (c:aG) (part:List UInt8):Bool:=dv (·.star) dk c.items (aU part)
def fG (cs:List aG) (parts:List (List UInt8)):Bool:=dv (·.dbl) tg cs parts
theorem iv {l t:List Int} {r:Int} (h:gv l=some (r,t)):t.length<l.length:=by
 cases l with
 | nil=>simp[gv]at h
 | cons a l=>
  rw[gv]at h
  split at h
  ·cases l with
   | nil=>simp[jD]at h
   | cons q u=>simp[jD]at h; obtain⟨_,rfl⟩:=h; simp; omega
  ·split at h
   ·simp at h
   ·simp at h; obtain⟨_,rfl⟩:=h; simp
theorem iX : ∀(f:Nat) {l:List Int} {acc:List (Int×Int)} {rs:List (Int×Int)} {u:List Int},cl f l acc=some (rs,u)->u.length<=l.length
 | 0,_,_,_,_,h=>by simp[cl]at h
 | f+1,l,acc,rs,u,h=>by
  unfold cl at h
  split at h
  ·simp at h; obtain⟨_,rfl⟩:=h; simp
  ·split at h
   ·simp at h
   ·rename_i lo t e;have h1:=iv e
    split at h
    ·split at h
     ·simp at h
     ·rename_i hi v e2;have h2:=iv e2;rw[List.length_tail]at h2
      split at h
      ·simp at h
      ·have:=iX f h; omega
    ·have:=iX f h; omega
theorem wt {t u:List Int} {it:bi} (h:js t=some (it,u)):u.length<=t.length:=by
 unfold js at h;simp only at h
 split at h
 ·simp at h
 ·rename_i rs v e;have:=iX _ e
  split at h
  ·simp at h
  ·simp only[Option.some.injEq,Prod.mk.injEq]at h;obtain⟨_,rfl⟩:=h
   split at this
   ·rw[List.length_tail]at this; omega
   ·exact this
theorem iz {l t:List Int} {it:bi} (h:dX l=some (it,t)):t.length<l.length:=by
 cases l with
 | nil=>simp[dX]at h
 | cons a l=>
  rw[dX]at h
  split at h
  ·simp at h; obtain⟨_,rfl⟩:=h; simp
  ·split at h
   ·simp at h; obtain⟨_,rfl⟩:=h; simp
   ·split at h
    ·have:=wt h; simp; omega
    ·split at h
     ·cases l with
      | nil=>simp[jD]at h
      | cons q u=>simp[jD]at h; obtain⟨_,rfl⟩:=h; simp; omega
     ·simp at h; obtain⟨_,rfl⟩:=h; simp
theorem kN : ∀(f g:Nat) (l:List Int),l.length<f->l.length<g->fe f l=fe g l
 | 0,_,_,h,_=>by omega
 | _,0,_,_,h=>by omega
 | f+1,g+1,l,h1,h2=>by
  unfold fe
  split
  ·rfl
  ·split
   ·rfl
   ·rename_i it t e;have:=iz e;rw[kN f g t (by omega) (by omega)]
theorem qb {l t:List Int} {it:bi} (hl:l≠[]) (h:dX l=some (it,t)):dO l=match dO t with | none=>none | some its=>some (it::its):=by
 have:=iz h;unfold dO;rw[fe,if_neg hl,h];simp only;rw[kN l.length (t.length+1) t (by omega) (by omega)]
theorem rE {l:List Int} (hl:l≠[]) (h:dX l=none):dO l=none:=by
 unfold dO;rw[fe,if_neg hl,h]
theorem ia : ∀(n:Nat) (l:List UInt8),(fA n l).length<=n
 | 0,_=>by simp[fA]
 | n+1,l=>by
  unfold fA
  split
  ·simp
  ·have:=ia n (l.drop (Lib.decodeL l).2); simp; omega
theorem ep (l:List UInt8):(aU l).length<=l.length:=ia _ _
theorem jN (s:ByteArray): ∀(n i:Nat) (acc:Array Value),Conv.runesFrom s n i acc=acc++((fA n (s.data.toList.drop i)).map (Value.int .i32)).toArray
 | 0,i,acc=>by simp[Conv.runesFrom,fA]
 | n+1,i,acc=>by
  unfold Conv.runesFrom fA;have hsz:s.size=s.data.toList.length:=Lib.size_eq s
  by_cases h:i<s.size
  ·rw[if_pos h,if_neg (by intro e; have:=List.drop_eq_nil_iff.1 e; omega)];simp only;rw[jN s n,Lib.decodeL_drop,List.drop_drop]
   apply Array.ext'
   simp
  ·rw[if_neg h,if_pos (List.drop_eq_nil_iff.2 (by omega))];simp
theorem sr (s:ByteArray):Conv.runesFrom s s.size 0 #[]=((aU s.data.toList).map (Value.int .i32)).toArray:=by
 rw[jN,Lib.size_eq];simp[aU]
theorem iO : ∀(f:Nat) (l:List Int) (its:List bi),fe f l=some its->its.length<=l.length
 | 0,_,_,h=>by simp[fe]at h
 | f+1,l,its,h=>by
  unfold fe at h
  split at h
  ·simp at h; subst h; simp
  ·split at h
   ·simp at h
   ·rename_i it t e;have:=iz e
    split at h
    ·simp at h
    ·rename_i its2 e2;have h2:=iO f t its2 e2;simp at h; subst h; simp; omega
theorem px {p:List UInt8} {c:aG} (h:gr p=some c):c.items.length<=p.length:=by
 unfold gr at h
 split at h
 ·simp at h; subst h; simp
 ·split at h
  ·simp at h
  ·rename_i its e;have h1:=iO _ _ _ e;have h2:=ep p
   split at h
   ·simp at h
   ·simp at h; subst h; simp; omega
theorem lH : ∀ {ps:List (List UInt8)} {cs:List aG},bQ ps=some cs->cs.length=ps.length
 | [],cs,h=>by simp[bQ]at h; subst h; rfl
 | p::ps,cs,h=>by
  unfold bQ at h
  split at h
  ·simp at h
  ·split at h
   ·simp at h
   ·rename_i cs2 e2;simp at h; subst h;simp[lH e2]
theorem jv : ∀ {ps:List (List UInt8)} {cs:List aG} {m:Nat},bQ ps=some cs->(∀p∈ps,p.length<=m)-> ∀c∈cs,c.items.length<=m
 | [],cs,m,h,_=>by simp[bQ]at h; subst h; simp
 | p::ps,cs,m,h,hm=>by
  unfold bQ at h
  split at h
  ·simp at h
  ·rename_i c0 e0
   split at h
   ·simp at h
   ·rename_i cs2 e2;simp at h; subst h;intro c hc
    rcases List.mem_cons.1 hc with rfl | hc
    ·have:=px e0; have:=hm p (by simp); omega
    ·exact jv e2 (fun q hq=>hm q (by simp[hq])) c hc
structure aJ where
 pat:List UInt8
 keep:Bool
 dir:Bool
 rooted:Bool
def aO (r:aJ):Option (List aG):=
 if Lib.hasPrefix r.pat [33] || Lib.hasPrefix r.pat [35]then none else if r.pat.contains 47 && !r.rooted then none else fV r.pat
def nP (l:List UInt8):aJ:=
 let l1:=Lib.trimPrefix l [33]
 let l2:=Lib.trimPrefix l1 [47]
 let p:=Lib.trimSuffix l2 [47]
 ⟨p,Lib.hasPrefix l [33],Lib.hasSuffix l2 [47],Lib.hasPrefix l1 [47] || p.contains 47⟩
def bI (l:List UInt8):Option aJ:=if(aO (nP l)).isSome then some (nP l)else none
def cr :List (List UInt8)->Nat->List aJ->List aJ×Int×Int
 | [],_,acc=>(acc,0,0)
 | l::ls,i,acc=>if l=[]\/Lib.hasPrefix l [35]=true then cr ls (i+1) acc else
  match bI l with
  | none=>([],i+1,3)
  | some r=>if acc.length=256 then([],i+1,2)else cr ls (i+1) (acc++[r])
def bH (l:List UInt8):List aJ×Int×Int:=if 65536<l.length then([],0,2)else cr (aw 10 l) 0 []
def dR (dir:Bool) (r:aJ) (cs:List aG) (parts:List (List UInt8)) (n:Nat):Bool:=
 (dir || decide (n<parts.length) || !r.dir) && fG cs (if r.rooted then parts.take n else(parts.take n).drop (n-1))
def dW (dir:Bool) (parts:List (List UInt8)) (n:Nat):List (aJ×List aG)->Bool->Bool
 | [],b=>b
 | (r,cs)::t,b=>dW dir parts n t (if dR dir r cs parts n then !r.keep else b)
def bE (dir:Bool) (parts:List (List UInt8)) (rs:List (aJ×List aG)):Nat->Nat->Bool
 | 0,_=>false
 | f+1,n=>if dW dir parts n rs false then true else bE dir parts rs f (n+1)
def aL :List aJ->Option (List (aJ×List aG))
 | []=>some []
 | r::t=>match aO r with
  | none=>none
  | some cs=>match aL t with | none=>none | some u=>some ((r,cs)::u)
def cy (rs:List aJ) (path:List UInt8) (dir:Bool):Bool×Int:=
 if bz path=false\/256<rs.length then(false,1)else
 match aL rs with
 | none=>(false,1)
 | some u=>(bE dir (aw 47 path) u (aw 47 path).length 1,0)
theorem fW {a b:UInt8} (h:cL a=cL b):a=b:=by
 unfold cL at h
 split at h<;> split at h
 ·simp[*]
 ·omega
 ·omega
 ·apply UInt8.toNat_inj.1; omega
theorem tf : ∀(a b:List UInt8),bG b a= -bG a b
 | [],[]=>by simp[bG]
 | [],_::_=>by simp[bG]
 | _::_,[]=>by simp[bG]
 | a::l,b::r=>by
  unfold bG
  by_cases h:a=b
  ·rw[if_pos h,if_pos h.symm]; exact tf l r
  ·rw[if_neg h,if_neg (Ne.symm h)];have:cL a≠cL b:=fun e=>h (fW e)
   unfold Lib.compareInt
   rcases Int.lt_trichotomy (cL a) (cL b)with h1 | h1 | h1
   ·rw[if_neg (by omega),if_pos (by omega),if_pos h1]; rfl
   ·exact absurd h1 this
   ·rw[if_pos (by omega),if_neg (by omega),if_pos (by omega)]
theorem jt : ∀(a b:List UInt8),bG a b=0<->a=b
 | [],[]=>by simp[bG]
 | [],_::_=>by simp[bG]
 | _::_,[]=>by simp[bG]
 | a::l,b::r=>by
  unfold bG
  by_cases h:a=b
  ·rw[if_pos h,jt l r]; simp[h]
  ·rw[if_neg h];have:cL a≠cL b:=fun e=>h (fW e)
   unfold Lib.compareInt
   constructor
   ·intro e; split at e
    ·omega
    ·split at e<;> omega
   ·intro e; simp at e; exact absurd e.1 h
theorem nr : ∀(a b c:List UInt8),bG a b<=0->bG b c<=0->bG a c<=0/\(bG a c=0->bG a b=0/\bG b c=0)
 | [],b,[],h1,h2=>by
  cases b with
  | nil=>simp[bG]
  | cons x b=>simp[bG]at h2
 | [],_,_::_,_,_=>by simp[bG]
 | _::_,[],_,h1,_=>by simp[bG]at h1
 | x::a,y::b,[],_,h2=>by simp[bG]at h2
 | x::a,y::b,z::c,h1,h2=>by
  unfold bG at h1 h2 ⊢
  by_cases hxy:x=y
  ·subst hxy;rw[if_pos rfl]at h1 ⊢
   by_cases hxz:x=z
   ·subst hxz;rw[if_pos rfl]at h2 ⊢;rw[if_pos rfl];exact nr a b c h1 h2
   ·rw[if_neg hxz]at h2 ⊢;rw[if_neg hxz];refine⟨h2,fun e=> ?_⟩
    exfalso
    have:cL x≠cL z:=fun e=>hxz (fW e)
    unfold Lib.compareInt at e
    split at e
    ·omega
    ·split at e<;> omega
  ·rw[if_neg hxy]at h1 ⊢;have n1:cL x≠cL y:=fun e=>hxy (fW e)
   have l1:cL x<cL y:=by
    unfold Lib.compareInt at h1
    split at h1
    ·assumption
    ·split at h1
     ·omega
     ·omega
   by_cases hyz:y=z
   ·subst hyz;rw[if_neg hxy];refine⟨h1,fun e=> ?_⟩
    exfalso
    unfold Lib.compareInt at e;rw[if_pos l1]at e; omega
   ·rw[if_neg hyz]at h2;have n2:cL y≠cL z:=fun e=>hyz (fW e)
    have l2:cL y<cL z:=by
     unfold Lib.compareInt at h2
     split at h2
     ·assumption
     ·split at h2<;> omega
    have n3:x≠z:=fun e=>by subst e; omega
    rw[if_neg n3];unfold Lib.compareInt;rw[if_pos (by omega)];exact⟨by omega,fun e=>by omega⟩
theorem te : ∀(p q:List UInt8),bG p (p++q)<=0
 | [],[]=>by simp[bG]
 | [],_::_=>by simp[bG]
 | a::p,q=>by rw[List.cons_append,bG,if_pos rfl]; exact te p q
theorem qF (ps:List (List UInt8)) (p:List UInt8):ik (ps++[p])=if ps=[]then p else ik ps++[47]++p:=by
 cases ps with
 | nil=>simp[ik,Lib.join_one]
 | cons q ps=>
  simp only[List.cons_append,ik,Lib.join_cons,if_neg (List.cons_ne_nil q ps)];have: ∀(l:List (List UInt8)),Lib.joinTail [47] (l++[p])=Lib.joinTail [47] l++47::p:=by
   intro l
   induction l with
   | nil=>simp[Lib.joinTail]
   | cons a l _=>simp only[List.cons_append,Lib.joinTail]; simp
  rw[this]; simp
open Go.RowKit
def bl (s:ByteArray):List UInt8:=s.data.toList
theorem yw (s:ByteArray):s.data.toList=bl s:=rfl
theorem bw (s:ByteArray):s.toList=bl s:=by rw[ByteArray.toList_eq]; rfl
theorem kA (l:List UInt8):bl ⟨l.toArray⟩=l:=by simp[bl]
theorem qg (s:ByteArray):(⟨(bl s).toArray⟩:ByteArray)=s:=by cases s; simp[bl]
theorem aN (s:ByteArray):s.size=(bl s).length:=Lib.size_eq s
theorem qW (s:ByteArray) (a b:Nat):bl (s.extract a b)=((bl s).take b).drop a:=by unfold bl; rw[Lib.extract_data]; rw[List.drop_take]
theorem gI {s t:ByteArray} (h:bl s=bl t):s=t:=by rw[<-qg s,<-qg t,h]
def dY (S:Nat->Prop) (w w':World):Prop:= ∀k,S k->w'.heap[k]? =w.heap[k]?
theorem dY.refl (S:Nat->Prop) (w:World):dY S w w:=fun _ _=>rfl
theorem dY.trans {S:Nat->Prop} {a b c:World} (h:dY S a b) (k:dY S b c):dY S a c:=fun i hi=>(k i hi).trans (h i hi)
theorem dY.cell {S:Nat->Prop} {w w':World} (h:dY S w w') {a:Addr} (ha:S a.block):w'.cell? a=w.cell? a:=World.cell?_of_block (h a.block ha)
theorem dY.mono {S T:Nat->Prop} {w w':World} (h:dY S w w') (hT: ∀k,T k->S k):dY T w w':=fun k hk=>h k (hT k hk)
theorem ax {w:World} {a:Addr} {v:Value} (h:w.cell? a=some v):a.block<w.heap.size:=by
 rcases Nat.lt_or_ge a.block w.heap.size with h' | h'
 ·exact h'
 ·simp[World.cell?,Array.getElem?_eq_none h']at h
def aB (S:Nat->Prop) (w:World) (sz:Nat) (v:Value) (n:Nat) (cells:List Value):Prop:=
 cells.length=n*sz/\ ∃a cap,v= .slice a n cap/\n<=cap/\cap<=maxLen/\
  (n=0\/ ∃b o,a=some ⟨b,o,none⟩/\S b/\ ∀(j:Nat) u,cells[j]? =some u->w.cell? ⟨b,o+j,none⟩=some u)
theorem aB.same {S:Nat->Prop} {w w':World} {sz:Nat} {v:Value} {n:Nat} {cells:List Value} (h:aB S w sz v n cells) (hs:dY S w w'):aB S w' sz v n cells:=by
 obtain⟨hl,a,cap,hv,hn,hm,h0⟩:=h;refine⟨hl,a,cap,hv,hn,hm, ?_⟩
 rcases h0 with h0 | ⟨b,o,ha,hb,hc⟩
 ·exact .inl h0
 ·exact .inr ⟨b,o,ha,hb,fun j u hu=>(hs.cell (a:=⟨b,o+j,none⟩) hb).trans (hc j u hu)⟩
theorem aB.mono {S T:Nat->Prop} {w:World} {sz:Nat} {v:Value} {n:Nat} {cells:List Value} (h:aB S w sz v n cells) (hs: ∀k,k<w.heap.size->S k->T k):0<sz->aB T w sz v n cells:=by
 intro hsz;obtain⟨hl,a,cap,hv,hn,hm,h0⟩:=h;refine⟨hl,a,cap,hv,hn,hm, ?_⟩
 rcases h0 with h0 | ⟨b,o,ha,hb,hc⟩
 ·exact .inl h0
 ·rcases Nat.eq_zero_or_pos n with h | h
  ·exact .inl h
  ·refine .inr ⟨b,o,ha,hs b ?_ hb,hc⟩;have:0<cells.length:=by rw[hl]; exact Nat.mul_pos h hsz
   exact ax (a:=⟨b,o+0,none⟩) (hc 0 cells[0] (by simp[this]))
theorem aB.below {S:Nat->Prop} {w w':World} {sz:Nat} {v:Value} {n:Nat} {cells:List Value} (h:aB S w sz v n cells) (hsz:0<sz) (hb:Below w.heap.size w w'):aB S w' sz v n cells:=by
 have h2:=h.mono (T:=fun k=>S k/\k<w.heap.size) (fun k hk hS=>⟨hS,hk⟩) hsz;have h3:=h2.same (w':=w') (fun k hk=>hb.block k hk.2);obtain⟨hl,a,cap,hv,hn,hm,h0⟩:=h3;refine⟨hl,a,cap,hv,hn,hm, ?_⟩
 rcases h0 with h0 | ⟨b,o,ha,hb,hc⟩
 ·exact .inl h0
 ·exact .inr ⟨b,o,ha,hb.1,hc⟩
theorem aB.nil (S:Nat->Prop) (w:World) (sz:Nat):aB S w sz (.slice none 0 0) 0 []:=⟨by simp,none,0,rfl,Nat.le_refl _,by unfold maxLen; omega, .inl rfl⟩
def dq (S:Nat->Prop) (w:World) (v:Value) (xs:List ByteArray):Prop:=aB S w 1 v xs.length (xs.map Value.string)
theorem dq.shape {S:Nat->Prop} {w:World} {v:Value} {xs:List ByteArray} (h:dq S w v xs):
  ∃a cap,v= .slice a xs.length cap/\xs.length<=cap/\cap<=maxLen/\ ∀k x,xs[k]? =some x-> ∃b o,a=some ⟨b,o,none⟩/\S b/\w.cell? ⟨b,o+k,none⟩=some (.string x):=by
 obtain⟨_,a,cap,hv,hn,hm,h0⟩:=h;refine⟨a,cap,hv,hn,hm,fun k x hk=> ?_⟩
 rcases h0 with h0 | ⟨b,o,ha,hb,hc⟩
 ·simp[List.eq_nil_of_length_eq_zero h0]at hk
 ·exact⟨b,o,ha,hb,hc k _ (by simp[hk])⟩
structure iI (w : World) : Prop where
 maxLen: ∃m,w.cell? ⟨0,0,none⟩=some (.int .i64 m)
 tabs:Lib.Utf8Tabs 2 3 w
theorem iI.below {w w':World} (h:iI w) (hb:Below w.heap.size w w'):iI w':=by
 obtain⟨⟨m,hm⟩,ht⟩:=h;exact⟨⟨m,(hb.cell (ax hm)).trans hm⟩,Utf8Tabs_below ht hb⟩
theorem iI.lt {w:World} (h:iI w):0<w.heap.size/\2<w.heap.size/\3<w.heap.size:=by
 obtain⟨⟨m,hm⟩,ht⟩:=h;exact⟨ax hm,ax (ht.1 0 (by omega)),ax (ht.2 0 (by omega)).1⟩
theorem iI.belowB {B:Nat} {w w':World} (h:iI w) (hb:Below B w w') (h0:0<B) (h1:2<B) (h2:3<B):iI w':=by
 obtain⟨⟨m,hm⟩,ht⟩:=h;exact⟨⟨m,(hb.cell h0).trans hm⟩,fun c hc=>(hb.cell (p:=⟨2,c,none⟩) h1).trans (ht.1 c hc),fun i hi=>⟨(hb.cell (p:=⟨3,2*i,none⟩) h2).trans (ht.2 i hi).1,(hb.cell (p:=⟨3,2*i+1,none⟩) h2).trans (ht.2 i hi).2⟩⟩
theorem al {a b:Bool} (h:a=b):Ending.returned (.bool a)= .returned (.bool b):=by rw[h]
theorem cC {k:IntKind} {a b:Int} (h:a=b):Ending.returned (.int k a)= .returned (.int k b):=by rw[h]
theorem ag {w w1 w2:World} (h:Below w.heap.size w w1) (k:Below w1.heap.size w1 w2):Below w.heap.size w w2:=h.trans (k.mono h.size)
theorem fg {P:Program} {f:FuncId} {args:Array Value} {w:World} {n:Nat} {v:Value}
  (h:Calls P f args (w.drewN n) fun e w'=>e= .returned v/\w.drewN n=w'):Calls P f args (w.drewN n) fun e w''=>e= .returned v/\ ∃m,w''=w.drewN m:=
 h.mono fun _ _ ⟨he,hm⟩=>⟨he,n,hm.symm⟩
theorem ex {B:Nat} {a w:World} (h:Below B a w) (n:Nat):Below B a (w.drewN n):=h.trans ⟨rfl,rfl,rfl,Nat.le_refl _,fun _ _=>rfl⟩
theorem jw (s:ByteArray) (c:UInt8) (w:World):
  Calls Tryz.prog 111 #[.string s, .string ⟨#[c]⟩] w fun e w'=>e= .returned (.bool ((bl s).contains c))/\w=w':=
 (Tryz.strings_Contains_one s c w).mono fun _ _ ⟨he,hw⟩=>⟨by rw[he]; exact congrArg _ (congrArg _ (fd (bl s) c)),hw.symm⟩
theorem lh (s:ByteArray) (w:World) (he:iI w) (hs:s.size<=9223372036854775807):
  Calls Tryz.prog 169 #[.string s] w fun e w'=>e= .returned (.bool (Lib.validD (bl s)))/\Below w.heap.size w w':=Tryz.utf8_ValidString s w hs he.tabs
theorem mT (s p:ByteArray) (w:World):
  Calls Tryz.prog 71 #[.string s, .string p] w fun e w'=>e= .returned (.bool (Lib.hasPrefix (bl s) (bl p)))/\w=w':=
 (Tryz.strings_HasPrefix s p w).mono fun _ _ ⟨he,hw⟩=>⟨he,hw.symm⟩
theorem mR (s p:ByteArray) (w:World):
  Calls Tryz.prog 109 #[.string s, .string p] w fun e w'=>e= .returned (.tuple #[.string ⟨(Lib.trimPrefix (bl s) (bl p)).toArray⟩, .bool (Lib.hasPrefix (bl s) (bl p))])/\w=w':=
 (Tryz.strings_CutPrefix s p w).mono fun _ _ ⟨he,hw⟩=>⟨he,hw.symm⟩
theorem mS (s p:ByteArray) (w:World) (hs:s.size<=9223372036854775807):
  Calls Tryz.prog 110 #[.string s, .string p] w fun e w'=>e= .returned (.tuple #[.string ⟨(Lib.trimSuffix (bl s) (bl p)).toArray⟩, .bool (Lib.hasSuffix (bl s) (bl p))])/\w=w':=
 (Tryz.strings_CutSuffix s p w hs).mono fun _ _ ⟨he,hw⟩=>⟨he,hw.symm⟩
theorem gL (x y:Int) (w:World):
  Calls Tryz.prog 101 #[.int .i64 x, .int .i64 y] w fun e w'=>e= .returned (.int .i64 (Lib.compareInt x y))/\w=w':=
 (Tryz.cmp_Compare_int x y w).mono fun _ _ ⟨he,hw⟩=>⟨he,hw.symm⟩
def tO (c:UInt8) (s:ByteArray) (w:World) (e:Ending) (w':World):Prop:=
 ∃xs:List ByteArray,xs.map bl=aw c (bl s)/\e= .returned (.slice (some ⟨w.heap.size,0,none⟩) xs.length xs.length)/\w'=w.alloc (.cells (xs.map Value.string).toArray 9)
theorem ks (s:ByteArray) (c:UInt8) (w:World) (he:iI w) (hs:s.size<4294967281):
  Calls Tryz.prog 70 #[.string s, .string ⟨#[c]⟩] w (tO c s w):=by
 obtain⟨m,hm⟩:=he.maxLen;refine(Tryz.strings_Split s ⟨#[c]⟩ m w hs hm (by simp[ByteArray.size])).mono fun e w' ⟨h1,h2⟩=> ?_
 refine⟨Lib.splitB ⟨#[c]⟩ 0 (Lib.countB s ⟨#[c]⟩) s,vy c s, ?_,h2⟩;rw[sC]; exact h1
def eN (l:List UInt8):Int:=if 47∈l then((aM l).length:Int)else -1
theorem zC (c:UInt8) (h:(c.toNat:Int)=47):c=47:=by
 apply UInt8.toNat_inj.1
 have:c.toNat=47:=by omega
 rw[this]; rfl
theorem oM (s:ByteArray):Lib.lastIndexByte s 47=eN (bl s):=by
 unfold Lib.lastIndexByte;have get: ∀j,(hj:j<(bl s).length)->s.data[j]! =(bl s)[j]:=fun j hj=>by
  have h2:j<s.data.size:=by rw[<-aN]at hj; exact hj
  rw[getElem!_pos s.data j h2];exact(Array.getElem_toList (xs:=s.data) h2).symm
 rw[aN]
 generalize hl:bl s=l at *
 rcases Lib.lastIdx_spec s 47 l.length with⟨h1,h2⟩ | ⟨i,h1,h2,h3,h4⟩
 ·rw[h1];have:47∉l:=by
   intro hm;obtain⟨j,hj,e⟩:=List.getElem_of_mem hm;refine h2 j hj ?_;rw[get j hj,e]; rfl
  simp[eN,this]
 ·have e:l=l.take i++47::l.drop (i+1):=by
   have:=zC _ h3;rw[get i h1]at this;rw[<-this]; simp
  have hq:47∉l.drop (i+1):=by
   intro hm;obtain⟨j,hj,e⟩:=List.getElem_of_mem hm;rw[List.length_drop]at hj;refine h4 (i+1+j) (by omega) (by omega) ?_;rw[get _ (by omega)];rw[List.getElem_drop]at e;rw[e]; rfl
  have hp:aM l=l.take i:=by
   have:=fu (l.take i) _ hq;rw[<-e]at this; exact this
  have hm:47∈l:=by rw[e]; simp
  rw[h2,eN,if_pos hm,hp,List.length_take]
  congr 1; omega
theorem mX (s:ByteArray) (w:World) (hs:s.size<4611686018427387904):
  Calls Tryz.prog 102 #[.string s, .string ⟨#[47]⟩] w fun e w'=>e= .returned (.int .i64 (eN (bl s)))/\w=w':=
 (Tryz.strings_LastIndex_one s ⟨#[47]⟩ rfl hs w).mono fun _ _ ⟨he,hw⟩=>⟨by rw[he]; exact congrArg _ (congrArg _ (oM s)),hw.symm⟩
theorem xN {s:ByteArray} {p q:Nat} (h: ∀j,j<p->j<s.size->32<=(s.get! j).toNat) (h2: ∀j,p<=j->j<q->128<=(s.get! j).toNat): ∀j,j<q->j<s.size->32<=(s.get! j).toNat:=by
 intro j hj hs
 rcases Nat.lt_or_ge j p with h' | h'
 ·exact h j h' hs
 ·have:=h2 j h' hj; omega
theorem wQ (s:ByteArray) (j:Nat) (h:j<s.size):s.get! j=(bl s)[j]'(by rw[<-aN]; exact h):=by
 have e:s.get! j=s.data[j]! :=rfl;have h2:j<s.data.size:=h;rw[e,getElem!_pos s.data j h2];simp[bl]
theorem yK {s:ByteArray} (h: ∀j,j<s.size->32<=(s.get! j).toNat):jH (bl s)=true:=by
 unfold jH;rw[List.all_eq_true];intro c hc;obtain⟨j,hj,rfl⟩:=List.getElem_of_mem hc;have hj2:j<s.size:=by rw[aN]; exact hj
 have:=h j hj2;rw[wQ s j hj2]at this
 simpa using this
theorem wW {s:ByteArray} {j:Nat} (hj:j<s.size) (h:(s.get! j).toNat<32):jH (bl s)=false:=by
 unfold jH;rw[List.all_eq_false];rw[wQ s j hj]at h;exact⟨(bl s)[j]'(by rw[<-aN]; exact hj),List.getElem_mem _,by rw[decide_eq_true_eq]; omega⟩
theorem lJ (s:ByteArray) (pos:Nat) (h:pos<s.size):
  ((s.get! pos).toNat<128/\Utf8.decode s pos=((s.get! pos).toNat,1))\/(128<=(s.get! pos).toNat/\128<=(Utf8.decode s pos).1):=by
 have e:=get_at s pos h;rw[Nat.add_zero]at e
 rcases Nat.lt_or_ge (s.get! pos).toNat 128 with h1 | h1
 ·exact .inl ⟨h1,by rw[decode_ascii s pos h (by rw[<-e]; exact h1),<-e]⟩
 ·exact .inr ⟨h1,(decode_high s pos h (by rw[<-e]; exact h1)).1⟩
theorem jb (s:ByteArray) (w:World) (he:iI w) (hs:s.size<=9223372036854775807):
  Calls Tryz.prog 138 #[.string s] w fun e w'=>e= .returned (.bool (mC (bl s)))/\Below w.heap.size w w':=by
 have HE:=aa he;clear he
 go_enter Tryz.func138,Tryz.ntmps138
 go_wp2
 go_loopw [4] (fun _ wr=> ∃pos:Nat,wr=w.iter s pos/\ ∀j,j<pos->j<s.size->32<=(s.get! j).toNat) (fun _ wr=>s.size-wr.iterPos w.heap.size)
 case atStart=>exact⟨0,rfl,fun j hj=>by omega⟩
 case round=>
  obtain⟨pos,rfl,hlow⟩:=hrel;have HL:=aa hlow;clear hlow
  by_cases hp:pos<s.size
  ·have hnx: ∀ty,(Instr.next (.pointer (some ⟨w.heap.size,0,none⟩)) true ty).run Tryz.prog (w.iter s pos)=_:=fun ty=>run_next_any w s pos ty hp
   go_wp2
   ·go_ret;refine⟨al ?_,(Below.refl _ _).alloc (Nat.le_refl _) _⟩;have hlt:((Utf8.decode s pos).1:Int)<32:=by assumption
    have hd:=lJ s pos hp;have hd2:(s.get! pos).toNat<32:=by
     rcases hd with⟨_,h2⟩ | ⟨_,h2⟩
     ·rw[h2]at hlt; simp only at hlt; omega
     ·omega
    simp[mC,wW hp hd2]
   ·go_roundw
    case rel=>
     refine⟨pos+(Utf8.decode s pos).2,rfl, ?_⟩;have hge:(32:Int)<=(Utf8.decode s pos).1:=by assumption
     rcases lJ s pos hp with⟨h1,h2⟩ | ⟨h1,h2⟩
     ·intro j hj hjs;rw[h2]at hge hj
      rcases Nat.lt_or_ge j pos with h3 | h3
      ·exact HL.out j h3 hjs
      ·rw[show j=pos by simp at hj; omega]; simp at hge; omega
     ·exact xN HL.out (pD s pos hp h1).2
    case measure=>
     rw[World.iterPos_iter,World.iterPos_iter];have:=Lib.width_pos s pos;omega
  ·have hnx: ∀ty,(Instr.next (.pointer (some ⟨w.heap.size,0,none⟩)) true ty).run Tryz.prog (w.iter s pos)=_:=fun ty=>run_next_end w s pos ty hp
   go_wp2_with (go_at_call 169; refine(lh s _ (HE.out.below ((Below.refl _ _).alloc (Nat.le_refl _) _)) hs).mono ?_; rintro e w' ⟨rfl,hb⟩);go_ret;refine⟨al ?_,ag ((Below.refl _ _).alloc (Nat.le_refl _) _) hb⟩;simp only[mC,yK (fun j hj=>HL.out j (by omega) hj),Bool.true_and]
theorem gw (s:ByteArray) (w:World) (he:iI w) (hs:s.size<=9223372036854775807):
  Calls Tryz.prog 112 #[.string s] w fun e w'=>e= .returned (.bool (iK (bl s)))/\Below w.heap.size w w':=by
 have HE:=aa he;clear he
 go_enter Tryz.func112,Tryz.ntmps112
 go_wp2_with (first
  | (go_at_call 111; refine(jw _ _ _).mono ?_; rintro e w' ⟨rfl,rfl⟩)
  | (go_at_call 138; refine(jb _ _ HE.out hs).mono ?_; rintro e w' ⟨rfl,hb⟩))
 all_goals (go_ret; refine⟨al ?_,by first | exact Below.refl _ _ | exact hb⟩)
 all_goals (rw[Bool.eq_iff_iff]; simp_all [iK,bw,aN])
 all_goals first | omega | (intros; omega)
def yf (s:ByteArray) (w:World) (e:Ending) (w':World):Prop:=
 ∃v xs,e= .returned (.tuple #[v, .int .i64 0])/\xs.map bl=aw 47 (bl s)/\dq (w.heap.size<= ·) w' v xs/\Below w.heap.size w w'
def vS (w:World) (e:Ending) (w':World):Prop:=e= .returned (.tuple #[.slice none 0 0, .int .i64 1])/\Below w.heap.size w w'
def vT (s:ByteArray) (w:World) (e:Ending) (w':World):Prop:=(bz (bl s)=true/\yf s w e w')\/(bz (bl s)=false/\vS w e w')
theorem jK {w:World} {xs:List Value} {e:TypeId} {k:Nat} {x:Value} (hx:xs[k]? =some x):(w.alloc (.cells xs.toArray e)).cell? ⟨w.heap.size,k,none⟩=some x:=by
 have h:=heap_alloc_new w (.cells xs.toArray e);simp only[World.cell?,h];simp[hx]
theorem oN {xs:List ByteArray} {k:Nat} {x:ByteArray} (hx:xs[k]? =some x):(xs.map Value.string)[k]? =some (.string x):=by simp[hx]
theorem vz {xs:List ByteArray} {s:ByteArray} (hx:xs.map bl=aw 47 (bl s)) (h1:(bl s).length<=512) (h2:xs.length<=16) (h: ∀(j:Nat) x,j<xs.length->xs[j]? =some x->iK (bl x)=true):bz (bl s)=true:=by
 have hl:(aw 47 (bl s)).length=xs.length:=by rw[<-hx]; simp
 have ha:(aw 47 (bl s)).all iK=true:=by
  rw[<-hx,List.all_map,List.all_eq_true];intro x hm;obtain⟨j,hj,rfl⟩:=List.getElem_of_mem hm;exact h j _ hj (by simp)
 simp[bz,h1,hl,h2,ha]
theorem vB {xs:List ByteArray} {s:ByteArray} {j:Nat} {x:ByteArray} (hx:xs.map bl=aw 47 (bl s)) (h:xs[j]? =some x) (hc:iK (bl x)=false):bz (bl s)=false:=by
 have ha:(aw 47 (bl s)).all iK=false:=by
  rw[<-hx,List.all_map,List.all_eq_false];exact⟨x,List.mem_of_getElem? h,by simp[hc]⟩
 simp[bz,ha]
theorem vA {xs:List ByteArray} {s:ByteArray} (hx:xs.map bl=aw 47 (bl s)) (h: ¬xs.length<=16):bz (bl s)=false:=by
 have hl:(aw 47 (bl s)).length=xs.length:=by rw[<-hx]; simp
 simp[bz,hl,h]
theorem sG {s:ByteArray} (h: ¬(bl s).length<=512):bz (bl s)=false:=by simp[bz,h]
theorem gi (c:UInt8) (l:List UInt8): ∀p∈aw c l,p.length<=l.length:=by
 induction l with
 | nil=>simp[aw]
 | cons b l ih=>
  unfold aw
  split
  ·intro p hp; rcases List.mem_cons.1 hp with rfl | hp
   ·simp
   ·have:=ih p hp; simp; omega
  ·split
   ·rename_i h t e;rw[e]at ih;intro p hp; rcases List.mem_cons.1 hp with rfl | hp
    ·have:=ih h (by simp); simp; omega
    ·have:=ih p (by simp[hp]); simp; omega
   ·intro p hp; simp at hp; simp[hp]
theorem km {xs:List ByteArray} {s:ByteArray} {c:UInt8} {j:Nat} {x:ByteArray} (hx:xs.map bl=aw c (bl s)) (h:xs[j]? =some x):x.size<=s.size:=by
 rw[aN,aN];exact gi c (bl s) (bl x) (by rw[<-hx]; exact List.mem_map.2 ⟨x,List.mem_of_getElem? h,rfl⟩)
theorem xJ {w w':World} {xs:List ByteArray} {e:TypeId} (hl:xs.length<=maxLen) (hb:Below (w.heap.size+1) (w.alloc (.cells (xs.map Value.string).toArray e)) w'):
  dq (w.heap.size<= ·) w' (.slice (some ⟨w.heap.size,0,none⟩) xs.length xs.length) xs:=by
 refine⟨by simp,some ⟨w.heap.size,0,none⟩,xs.length,rfl,Nat.le_refl _,hl, .inr ⟨w.heap.size,0,rfl,Nat.le_refl _,fun j u hu=> ?_⟩⟩;rw[hb.cell (p:=⟨w.heap.size,0+j,none⟩) (by simp),Nat.zero_add];exact jK hu
theorem kS (s:ByteArray) (w:World) (he:iI w):Calls Tryz.prog 73 #[.string s] w (vT s w):=by
 have HE:=aa he;clear he
 by_cases h5:s.size<=512
 ·go_enter Tryz.func73,Tryz.ntmps73
  go_wp2_with fail;refine(ks s 47 w HE.out (by omega)).mono ?_;rintro e w' ⟨xs,hx,rfl,rfl⟩;have hxl:xs.length<=513:=by
   have h1:(aw 47 (bl s)).length=xs.length:=by rw[<-hx]; simp
   have h2:=eq 47 (bl s);rw[<-aN]at h2;omega
  have HX:=aa hx;clear hx
  by_cases h16:xs.length<=16
  ·go_wp2_with fail
   go_loopw [17] (fun i wr=> ∃k:Nat,k<=xs.length/\i= .int .i64 k/\Below (w.heap.size+1) (w.alloc (.cells (xs.map Value.string).toArray 9)) wr/\ ∀(j:Nat) x,j<k->xs[j]? =some x->iK (bl x)=true) (fun i _=>xs.length-(intOf i).toNat)
   case atStart=>exact⟨0,Nat.zero_le _,rfl,Below.refl _ _,fun j x hj=>by omega⟩
   case round=>
    obtain⟨k,hk,rfl,hb,hall⟩:=hrel;have HA:=aa hall;clear hall
    by_cases hlt:k<xs.length
    ·obtain⟨x,hx⟩: ∃x,xs[k]? =some x:=⟨xs[k],by simp[hlt]⟩;have hcell:wr.cell? ⟨w.heap.size,k,none⟩=some (.string x):=(hb.cell (p:=⟨w.heap.size,k,none⟩) (by simp)).trans (jK (oN hx));have hxs:x.size<=9223372036854775807:=by have:=km HX.out hx; omega
     have HK:=aa hx;have HB:=aa hb;clear hx hb
     cases hc:iK (bl x)
     ·have HC:=aa hc;clear hc;go_wp2_with (go_at_call 112; refine(gw x wr (HE.out.below (ag ((Below.refl _ _).alloc (Nat.le_refl _) _) (by simpa using HB.out))) hxs).mono ?_; rintro e w' ⟨rfl,hb2⟩; rw[HC.out])
      go_ret2
      refine .inr ⟨vB HX.out HK.out HC.out,rfl, ?_⟩;exact ag (ag ((Below.refl _ _).alloc (Nat.le_refl _) _) (by simpa using HB.out)) hb2
     ·have HC:=aa hc;clear hc;go_wp2_with (go_at_call 112; refine(gw x wr (HE.out.below (ag ((Below.refl _ _).alloc (Nat.le_refl _) _) (by simpa using HB.out))) hxs).mono ?_; rintro e w' ⟨rfl,hb2⟩; rw[HC.out])
      go_roundw
      case rel=>
       refine⟨k+1,by omega,by go_num,HB.out.trans (hb2.mono (by have:=HB.out.size; simpa using this)),fun j x' hj hx'=> ?_⟩
       rcases Nat.lt_or_ge j k with h | h
       ·exact HA.out j x' h hx'
       ·obtain rfl:j=k:=by omega
        have:=HK.out.symm.trans hx'
        cases this
        exact HC.out
      case measure=>simp[intOf]; omega
    ·have HB:=aa hb;clear hb
     go_wp2
     go_ret2
     refine .inl ⟨vz HX.out (by rw[<-aN]; exact h5) h16 (fun j x hj hx=>HA.out j x (by omega) hx),_,xs,rfl,HX.out,xJ (by unfold maxLen; omega) HB.out, ?_⟩;exact ag ((Below.refl _ _).alloc (Nat.le_refl _) _) (by simpa using HB.out)
  ·go_wp2_with fail
   go_ret2
   exact .inr ⟨vA HX.out h16,rfl,(Below.refl _ _).alloc (Nat.le_refl _) _⟩
 ·go_enter Tryz.func73,Tryz.ntmps73
  go_wp2_with fail
  go_ret2
  exact .inr ⟨sG (by rw[<-aN]; exact h5),rfl,Below.refl _ _⟩
theorem oa (s:ByteArray) (w:World) (he:iI w):
  Calls Tryz.prog 98 #[.string s] w fun e w'=>e= .returned (.bool (bz (bl s)))/\Below w.heap.size w w':=by
 go_enter Tryz.func98,Tryz.ntmps98
 go_wp2_with fail;refine(kS s w he).mono ?_;rintro e w' (⟨hv,v,xs,rfl,-,-,hb⟩ | ⟨hv,rfl,hb⟩)
 ·go_wp2
  go_ret;exact⟨al (by rw[hv]),hb⟩
 ·go_wp2
  go_ret;exact⟨al (by rw[hv]),hb⟩
def tF (c:Int):Int:=if c=47 then -1 else c
theorem xp (c:Int) (w:World) (h0:0<=c) (h1:c<=255):Calls Tryz.prog 100 #[.int .u8 c] w fun e w'=>e= .returned (.int .i64 (tF c))/\w=w':=by
 by_cases h:c=47
 ·subst h
  go_enter Tryz.func100,Tryz.ntmps100
  go_wp2
  go_ret;exact⟨rfl,rfl⟩
 ·have hr:tF c=c:=if_neg h;have HR:=aa hr;clear hr;have h2:(c == 47)=false:=by simpa using h
  go_enter Tryz.func100,Tryz.ntmps100
  go_wp2
  go_ret;exact⟨cC HR.out.symm,rfl⟩
theorem yu (l r:List UInt8) (h:l=[]\/r=[]):bG l r=Lib.compareInt (l.length:Int) r.length:=by
 rcases h with rfl | rfl
 ·cases r
  ·simp[bG,Lib.compareInt]
  ·rw[bG,Lib.compareInt,if_pos (by simp<;> omega)]
 ·cases l
  ·simp[bG,Lib.compareInt]
  ·rw[bG,Lib.compareInt,if_neg (by simp<;> omega),if_pos (by simp<;> omega)]
theorem lG (x y:Int) (k:Int):Lib.compareInt (x-k) (y-k)=Lib.compareInt x y:=by
 unfold Lib.compareInt;have h1:(x-k<y-k)<->(x<y):=by omega
 have h2:(x-k>y-k)<->(x>y):=by omega
 simp only[h1,h2]
theorem yt {l r:List UInt8} {k:Nat} (hk1:k<=l.length) (hk2:k<=r.length) (h:k=l.length\/k=r.length):bG (l.drop k) (r.drop k)=Lib.compareInt (l.length:Int) r.length:=by
 rw[yu _ _ (by rcases h with rfl | rfl<;> simp)];rw[List.length_drop,List.length_drop,<-lG (l.length:Int) r.length k]
 congr 1<;> omega
theorem ww {l r:List UInt8} {k:Nat} (hl:k<l.length) (hr:k<r.length) (h:l[k]=r[k]):bG (l.drop k) (r.drop k)=bG (l.drop (k+1)) (r.drop (k+1)):=by
 rw[List.drop_eq_getElem_cons hl,List.drop_eq_getElem_cons hr,bG,if_pos h]
theorem wv {l r:List UInt8} {k:Nat} (hl:k<l.length) (hr:k<r.length) (h:l[k]≠r[k]):bG (l.drop k) (r.drop k)=Lib.compareInt (cL l[k]) (cL r[k]):=by
 rw[List.drop_eq_getElem_cons hl,List.drop_eq_getElem_cons hr,bG,if_neg h]
theorem ir (s:ByteArray) (k:Nat) (h:k<s.size):s[k]=(bl s)[k]'(by rw[<-aN]; exact h):=by
 exact(Array.getElem_toList (xs:=s.data) h).symm
theorem qo (c:UInt8):tF c.toNat=cL c:=by
 unfold tF cL
 by_cases h:c=47
 ·subst h; rfl
 ·rw[if_neg h,if_neg];intro e; apply h; apply UInt8.toNat_inj.1; have:c.toNat=47:=by omega
  rw[this]; rfl
theorem py (a b:ByteArray) (w:World) (ha:a.size<=9223372036854775807):
  Calls Tryz.prog 65 #[.string a, .string b] w fun e w'=>e= .returned (.int .i64 (bG (bl a) (bl b)))/\Below w.heap.size w w':=by
 go_enter Tryz.func65,Tryz.ntmps65
 go_wp2_with fail;obtain⟨m,hm⟩: ∃m:Nat,min (a.size:Int) (b.size:Int)=m:=⟨min a.size b.size,by omega⟩;have hm1:m<=a.size:=by omega
 have hm2:m<=b.size:=by omega
 have hm3:m=a.size\/m=b.size:=by omega
 rw[hm];have HM:=aa hm3;clear hm hm3
 go_loopw [12] (fun i wr=> ∃k:Nat,k<=m/\i= .int .i64 k/\Below w.heap.size w wr/\bG (bl a) (bl b)=bG ((bl a).drop k) ((bl b).drop k)) (fun i _=>m-(intOf i).toNat)
 case atStart=>exact⟨0,Nat.zero_le _,rfl,Below.refl _ _,rfl⟩
 case round=>
  obtain⟨k,hk,rfl,hbw,hc⟩:=hrel;have HC:=aa hc;have HB:=aa hbw;clear hc hbw
  by_cases hlt:k<m
  ·have h1:(k:Int)<(a.size:Int):=by omega
   have h2:(k:Int)<(b.size:Int):=by omega
   have h3:k<a.size:=by omega
   have h4:k<b.size:=by omega
   by_cases hq:a[k]=b[k]
   ·have hq2:(((a[k]).toNat:Int) != (b[k]).toNat)=false:=by simp[hq]
    have HQ:=aa hq;clear hq;go_wp2_with fail
    go_quiet (fail)
    go_wp2_with fail
    go_roundw
    case rel=>
     refine⟨k+1,by omega,by go_num,ex HB.out nq, ?_⟩;rw[HC.out];refine ww (by rw[<-aN]; exact h3) (by rw[<-aN]; exact h4) ?_;rw[<-ir,<-ir]; exact HQ.out
    case measure=>simp[intOf]; omega
   ·have hq2:(((a[k]).toNat:Int) != (b[k]).toNat)=true:=by
     rw[bne_iff_ne]; intro e; apply hq; exact UInt8.toNat_inj.1 (by omega)
    have HQ:=aa hq;clear hq;go_wp2_with fail
    go_quiet (fail)
    go_wp2_with fail;have hW: ∃W,W=wr.drewN nq/\Below w.heap.size w W:=⟨_,rfl,ex HB.out nq⟩;obtain⟨W,hWe,hWb⟩:=hW;rw[<-hWe];have HB2:=aa hWb;clear hWe hWb HB;have hr1:=(a[k]).toNat_lt;have hr2:=(b[k]).toNat_lt
    go_quiet ((first | (go_at_call 100; refine fg (xp _ _ (by omega) (by omega))) | (go_at_call 101; refine fg (gL _ _ _))))
    go_wp2_with fail;go_ret;refine⟨cC ?_,ex HB2.out _⟩;rw[qo,qo,HC.out,wv (by rw[<-aN]; exact h3) (by rw[<-aN]; exact h4) (by rw[<-ir,<-ir]; exact HQ.out),<-ir,<-ir]
  ·go_wp2_with (go_at_call 101; refine(gL _ _ _).mono ?_; rintro e w' ⟨rfl,rfl⟩);go_ret;refine⟨cC ?_,HB.out⟩;have hM:=HM.out;rw[HC.out,yt (by rw[<-aN]; omega) (by rw[<-aN]; omega) (by rw[<-aN,<-aN]; omega),<-aN,<-aN]
theorem rL (s:ByteArray) (w:World) (he:iI w) (hv:bz (bl s)=true):
  Calls Tryz.prog 66 #[.string s] w fun e w'=>e= .returned (.tuple #[.string ⟨(aM (bl s)).toArray⟩, .bool true])/\Below w.heap.size w w':=by
 have HV:=aa hv;have h5:s.size<=512:=by simp only[bz,Bool.and_eq_true,decide_eq_true_eq]at hv; rw[aN]; exact hv.1.1
 have hl:(aM (bl s)).length<=s.size:=by rw[jI,List.length_take,aN]; omega
 clear hv
 go_enter Tryz.func66,Tryz.ntmps66
 go_wp2_with fail;refine(oa s w he).mono ?_;rintro e w1 ⟨rfl,hb1⟩;rw[HV.out];have HB1:=aa hb1;clear hb1;go_wp2_with fail;refine(mX s w1 (by omega)).mono ?_;rintro e w2 ⟨rfl,rfl⟩;obtain⟨n,hn⟩: ∃n:Nat,n=(aM (bl s)).length:=⟨_,rfl⟩;have hmax:max (eN (bl s)) 0=(n:Int):=by
  unfold eN
  split
  ·omega
  ·rename_i h; rw[hn,gl _ h]; rfl
 have hle:n<=s.size:=by omega
 have HN:=aa hn;clear hn hl;go_wp2_with fail
 go_ret2
 refine⟨?_,HB1.out⟩;have e:s.extract 0 n=⟨(aM (bl s)).toArray⟩:=gI (by rw[qW,kA (aM (bl s)),HN.out,List.drop_zero,<-jI]);rw[<-e]; rfl
structure aX where
 path:ByteArray
 kind:Int
 mode:Int
 time:Int
 data:List UInt8
 link:ByteArray
deriving DecidableEq
def mH (l:List UInt8):Bool:=decide (1<=l.length) && decide (l.length<=512) && !l.contains 0
def gA (e:aX):Bool:=
 if e.kind=1 then decide (e.data.length<=1048576) && decide (e.link.size=0)
 else if e.kind=2 then decide (e.data.length=0) && decide (e.link.size=0)
 else if e.kind=3 then decide (e.data.length=0) && mH (bl e.link)
 else false
def mG (e:aX):Bool:=decide (0<=e.mode) && decide (e.mode<=511) && decide (0<=e.time)
def dC (e:aX):Bool:=bz (bl e.path) && mG e && gA e
def fr (L:List aX) (p:ByteArray):Option aX:=L.find? fun e=>decide (e.path=p)
def jz (L:List aX) (p:List UInt8):Int:=if p=[]then 0 else match fr L ⟨p.toArray⟩with
 | none=>4
 | some e=>if e.kind=2 then 0 else 13
def iY (a b:aX):Int:=bG (bl a.path) (bl b.path)
def gH (pre:List aX) (e:aX):Bool:=match pre.getLast? with
 | none=>true
 | some f=>decide (iY f e<0)
def cg (pre:List aX) (e:aX):Int:=if(dC e && gH pre e)=true then jz pre (aM (bl e.path))else 1
def fF :List aX->List aX->Int
 | _,[]=>0
 | pre,e::r=>if cg pre e=0 then fF (pre++[e]) r else cg pre e
def cj (L:List aX):Int:=if 4096<L.length then 2 else fF [] L
theorem yS {p:ByteArray} {l:List UInt8} (h:bl p=l):p=⟨l.toArray⟩:=gI (by rw[h]; simp[bl])
theorem wu (a b:aX):iY b a= -iY a b:=tf _ _
theorem np {a b:aX} :iY a b=0<->a.path=b.path:=by
 unfold iY; rw[jt]; exact⟨gI,fun h=>by rw[h]⟩
theorem mP {a b c:aX} (h1:iY a b<0) (h2:iY b c<0):iY a c<0:=by
 obtain⟨h3,h4⟩:=nr (bl a.path) (bl b.path) (bl c.path) (by unfold iY at h1; omega) (by unfold iY at h2; omega)
 rcases Int.lt_or_eq_of_le h3 with h | h
 ·exact h
 ·have:=(h4 h).1; unfold iY at h1; omega
def cK (L:List aX):Prop:=L.Pairwise fun a b=>iY a b<0
theorem cK.nodup {L:List aX} (h:cK L):(L.map aX.path).Nodup:=by
 unfold List.Nodup;rw[List.pairwise_map];exact List.Pairwise.imp (fun h e=>by have:=np.2 e; omega) h
theorem cK.filter {L:List aX} (h:cK L) (p:aX->Bool):cK (L.filter p):=List.Pairwise.filter p h
theorem ja {L:List aX} {p:ByteArray} {e:aX} (h:fr L p=some e):e∈L/\e.path=p:=by
 unfold fr at h;exact⟨List.mem_of_find?_eq_some h,by have:=List.find?_some h; simpa using this⟩
theorem lP {L:List aX} {p:ByteArray} (h:fr L p=none): ∀e∈L,e.path≠p:=by
 unfold fr at h;rw[List.find?_eq_none]at h;intro e he hp;exact h e he (by simp[hp])
theorem ue {L:List aX} (hn:(L.map aX.path).Nodup) {e:aX} (he:e∈L):fr L e.path=some e:=by
 cases h:fr L e.path with
 | none=>exact absurd rfl (lP h e he)
 | some f=>
  obtain⟨h1,h2⟩:=ja h;have:f=e:=by
   unfold List.Nodup at hn;rw[List.pairwise_map,List.pairwise_iff_getElem]at hn;obtain⟨i,hi,rfl⟩:=List.getElem_of_mem h1;obtain⟨j,hj,rfl⟩:=List.getElem_of_mem he
   by_cases hij:i=j
   ·subst hij; rfl
   ·exfalso
    rcases Nat.lt_or_gt_of_ne hij with hlt | hlt
    ·exact hn i j hi hj hlt h2
    ·exact hn j i hj hi hlt h2.symm
  rw[this]
structure TOk (L : List aX) : Prop where
 ord:cK L
 val: ∀e∈L,dC e=true
 up: ∀e∈L,jz L (aM (bl e.path))=0
 len:L.length<=4096
theorem TOk.nil :TOk []:=⟨List.Pairwise.nil,by simp,by simp,by simp⟩
theorem TOk.nodup {L:List aX} (h:TOk L):(L.map aX.path).Nodup:=h.ord.nodup
theorem bL {e:aX} (h:dC e=true):bz (bl e.path)=true:=by
 unfold dC at h; simp only[Bool.and_eq_true]at h; exact h.1.1
theorem xR {l:List UInt8} (h:bz l=true):l≠[]:=by
 intro e; subst e; exact absurd h (by decide)
theorem sO {l:List UInt8} (h:bz l=true):l.length<=512:=by
 simp only[bz,Bool.and_eq_true,decide_eq_true_eq]at h; exact h.1.1
theorem nw {L:List aX} {p:List UInt8} (h:jz L p=0) (hp:p≠[]): ∃f∈L,bl f.path=p/\f.kind=2:=by
 unfold jz at h;rw[if_neg hp]at h
 cases hf:fr L ⟨p.toArray⟩with
 | none=>rw[hf]at h; simp at h
 | some f=>
  rw[hf]at h;simp only at h;obtain⟨h1,h2⟩:=ja hf
  split at h
  ·exact⟨f,h1,by rw[h2]; simp[bl],by assumption⟩
  ·simp at h
theorem jA {L:List aX} (hn:(L.map aX.path).Nodup) {p:List UInt8} (h:p=[]\/ ∃f∈L,bl f.path=p/\f.kind=2):jz L p=0:=by
 unfold jz
 by_cases hp:p=[]
 ·rw[if_pos hp]
 ·rw[if_neg hp]
  rcases h with h | ⟨f,h1,h2,h3⟩
  ·exact absurd h hp
  ·have:f.path=⟨p.toArray⟩:=yS h2;rw[<-this,ue hn h1];simp only[if_pos h3]
theorem ff {l:List UInt8} (h:bz l=true):(aM l).length<l.length:=by
 by_cases hm:(47:UInt8)∈l
 ·obtain⟨p,t,hq,ht⟩:=jc l hm;have:aM l=p:=by rw[hq]; exact fu p t ht
  rw[this,hq]; simp
 ·rw[gl l hm];have:=xR h
  cases l with
  | nil=>exact absurd rfl this
  | cons=>simp
def vN (M:List aX) (x:aX):Prop:=aM (bl x.path)=[]\/ ∃f∈M,bl f.path=aM (bl x.path)/\f.kind=2
theorem sK {L:List aX} {x:aX} (h:jz L (aM (bl x.path))=0):vN L x:=by
 by_cases hp:aM (bl x.path)=[]
 ·exact .inl hp
 ·obtain⟨f,h1,h2,h3⟩:=nw h hp;exact .inr ⟨f,h1,h2,h3⟩
theorem zg {M:List aX} (hs:cK M) (hv: ∀e∈M,dC e=true) (hu: ∀x∈M,vN M x) (hl:M.length<=4096):TOk M:=
 ⟨hs,hv,fun e he=>jA hs.nodup (hu e he),hl⟩
theorem TOk.has {L:List aX} (h:TOk L) {e:aX} (he:e∈L):vN L e:=sK (h.up e he)
theorem qi {l:List UInt8} (h:aM l≠[]): ∃t,l=aM l++47::t:=by
 by_cases hm:(47:UInt8)∈l
 ·obtain⟨p,q,rfl,hq⟩:=jc l hm;exact⟨q,by rw[fu p q hq]⟩
 ·exact absurd (gl l hm) h
theorem nu {L M:List aX} (hm:(M.map aX.path).Nodup) (hs: ∀x∈L,x∈M) {p:List UInt8} (h:jz L p=0):jz M p=0:=by
 by_cases hp:p=[]
 ·exact jA hm (.inl hp)
 ·obtain⟨f,h1,h2,h3⟩:=nw h hp;exact jA hm (.inr ⟨f,hs f h1,h2,h3⟩)
structure Tr (L : List aX) : Prop where
 ord:cK L
 val: ∀e∈L,dC e=true
 up: ∀e∈L,jz L (aM (bl e.path))=0
theorem mZ {e f:aX} (hv:dC e=true) (hp:aM (bl e.path)≠[]) (hf:bl f.path=aM (bl e.path)):iY f e<0:=by
 obtain⟨t,ht⟩:=qi hp;have h1:iY f e<=0:=by
  unfold iY;rw[hf,ht];have:=te (aM (bl e.path)) (47::t);have h2:aM (aM (bl e.path)++47::t)=aM (bl e.path):=by rw[<-ht]
  rw[h2]; exact this
 rcases Int.lt_or_eq_of_le h1 with h | h
 ·exact h
 ·have h2:=np.1 h;have h3:=ff (bL hv);rw[<-hf,h2]at h3;omega
theorem Tr.pre {L M:List aX} (h:Tr (L++M)):Tr L:=by
 obtain⟨s1,s2,s3⟩:=List.pairwise_append.1 h.ord;refine⟨s1,fun e he=>h.val e (by simp[he]),fun e he=> ?_⟩;have hu:=sK (h.up e (by simp[he]));refine jA (cK.nodup s1) ?_
 rcases hu with hu | ⟨f,h1,h2,h3⟩
 ·exact .inl hu
 ·by_cases hp:aM (bl e.path)=[]
  ·exact .inl hp
  ·right
   have hb:=mZ (h.val e (by simp[he])) hp h2
   rcases List.mem_append.1 h1 with h1 | h1
   ·exact⟨f,h1,h2,h3⟩
   ·have h4:=s3 e he f h1;have h5:=wu e f;omega
theorem lu {pre:List aX} (hs:cK pre) {e:aX} :gH pre e=true<->cK (pre++[e]):=by
 unfold gH
 cases hl:pre.getLast? with
 | none=>
  rw[List.getLast?_eq_none_iff]at hl;subst hl;simp[cK]
 | some f=>
  obtain⟨ys,hy⟩:=List.getLast?_eq_some_iff.1 hl;simp only[decide_eq_true_eq]
  constructor
  ·intro h;refine List.pairwise_append.2 ⟨hs,by simp,fun a ha b hb=> ?_⟩;simp only[List.mem_singleton]at hb;subst hb;rw[hy]at ha hs
   rcases List.mem_append.1 ha with ha | ha
   ·exact mP ((List.pairwise_append.1 hs).2.2 a ha f (by simp)) h
   ·simp only[List.mem_singleton]at ha; subst ha; exact h
  ·intro h;exact(List.pairwise_append.1 h).2.2 f (by rw[hy]; simp) e (by simp)
theorem gJ {pre:List aX} (h:Tr pre) (e:aX):cg pre e=0<->Tr (pre++[e]):=by
 unfold cg
 constructor
 ·intro hc
  split at hc
  ·rename_i hva;rw[Bool.and_eq_true]at hva;have hs:=(lu h.ord).1 hva.2;have hm: ∀x∈pre,x∈pre++[e]:=fun x hx=>by simp[hx]
   refine⟨hs,fun x hx=> ?_,fun x hx=> ?_⟩
   ·rcases List.mem_append.1 hx with hx | hx
    ·exact h.val x hx
    ·simp only[List.mem_singleton]at hx; subst hx; exact hva.1
   ·rcases List.mem_append.1 hx with hx | hx
    ·exact nu hs.nodup hm (h.up x hx)
    ·simp only[List.mem_singleton]at hx; subst hx; exact nu hs.nodup hm hc
  ·simp at hc
 ·intro ht;have hv:=ht.val e (by simp);rw[if_pos (by rw[hv,(lu h.ord).2 ht.ord]; rfl)];refine jA h.ord.nodup ?_
  rcases sK (ht.up e (by simp))with hu | ⟨f,h1,h2,h3⟩
  ·exact .inl hu
  ·rcases List.mem_append.1 h1 with h1 | h1
   ·exact .inr ⟨f,h1,h2,h3⟩
   ·simp only[List.mem_singleton]at h1;subst h1;have:=ff (bL hv);rw[<-h2]at this; omega
theorem lx : ∀ {r pre:List aX},Tr pre->(fF pre r=0<->Tr (pre++r))
 | [],pre,h=>by simp only[fF,List.append_nil]; exact⟨fun _=>h,fun _=>trivial⟩
 | e::r,pre,h=>by
  have h1:=gJ h e;rw[fF]
  split
  ·rename_i hc;have:=lx (r:=r) (h1.1 hc);rw[this]; simp
  ·rename_i hc
   constructor
   ·intro h2; exact absurd h2 hc
   ·intro h2;have h3:Tr (pre++[e]):=Tr.pre (M:=r) (by simpa using h2);exact absurd (h1.2 h3) hc
theorem dZ {L:List aX} :cj L=0<->TOk L:=by
 unfold cj
 split
 ·rename_i h;exact⟨fun h2=>by simp at h2,fun h2=>by have:=h2.len; omega⟩
 ·rename_i h;rw[lx (r:=L) (pre:=[]) ⟨List.Pairwise.nil,by simp,by simp⟩,List.nil_append];exact⟨fun t=>⟨t.ord,t.val,t.up,by omega⟩,fun t=>⟨t.ord,t.val,t.up⟩⟩
end Go.Proofs.YtnjkpcalgoefhaaGreatDoor
namespace Go.Proofs.YtnjkpcalgoefhaaGreatDoor
theorem qI {l:List UInt8} (h:bz l=true): ∀p∈aw 47 l,mC p=true/\p≠[]:=by
 simp only[bz,Bool.and_eq_true,List.all_eq_true]at h;intro p hp;have:=h.2 p hp;simp only[iK,Bool.and_eq_true]at this;exact⟨this.2,by have h1:=this.1.1.1.1.1; simpa using h1⟩
theorem gQ (dir:Bool) (parts:List (List UInt8)) (us:List (aJ×List aG)): ∀(f n:Nat),bE dir parts us f n=true<-> ∃m,n<=m/\m<n+f/\dW dir parts m us false=true
 | 0,n=>by simp[bE]; intro x h1 h2; omega
 | f+1,n=>by
  rw[bE];have ih:=gQ dir parts us f (n+1)
  cases h:dW dir parts n us false
  ·simp only[Bool.false_eq_true,if_false];rw[ih]
   constructor
   ·rintro⟨m,h1,h2,h3⟩; exact⟨m,by omega,by omega,h3⟩
   ·rintro⟨m,h1,h2,h3⟩;refine⟨m, ?_,by omega,h3⟩
    rcases Nat.lt_or_ge n m with h4 | h4
    ·omega
    ·obtain rfl:m=n:=by omega
     rw[h]at h3; cases h3
  ·simp only[if_true,true_iff];exact⟨n,by omega,by omega,h⟩
theorem lU (dir:Bool) (parts:List (List UInt8)) (n:Nat) (hn:n<parts.length): ∀(us:List (aJ×List aG)) (b:Bool),dW true parts.dropLast n us b=dW dir parts n us b
 | [],b=>rfl
 | (q,ds)::us,b=>by
  simp only[dW];have e:dR true q ds parts.dropLast n=dR dir q ds parts n:=by
   unfold dR;have ht:parts.dropLast.take n=parts.take n:=by
    rw[List.dropLast_eq_take,List.take_take]; congr 1; omega
   rw[ht];simp[hn]
  rw[e,lU dir parts n hn us]
def qT (parts:List (List UInt8)) (us:List (aJ×List aG)):Bool:=bE true parts.dropLast us parts.dropLast.length 1
theorem tQ (dir:Bool) (parts:List (List UInt8)) (us:List (aJ×List aG)):qT parts us=true<-> ∃m,1<=m/\m<parts.length/\dW dir parts m us false=true:=by
 unfold qT;rw[gQ]
 constructor
 ·rintro⟨m,h1,h2,h3⟩;rw[List.length_dropLast]at h2;exact⟨m,h1,by omega,by rw[<-lU dir parts m (by omega)]; exact h3⟩
 ·rintro⟨m,h1,h2,h3⟩;exact⟨m,h1,by rw[List.length_dropLast]; omega,by rw[lU dir parts m h2]; exact h3⟩
theorem wg {dir:Bool} {parts:List (List UInt8)} {us:List (aJ×List aG)} (h:qT parts us=true):bE dir parts us parts.length 1=true:=by
 obtain⟨m,h1,h2,h3⟩:=(tQ dir parts us).1 h;exact(gQ _ _ _ _ _).2 ⟨m,h1,by omega,h3⟩
theorem gS : ∀(ls:List (List UInt8)) (i:Nat) (acc rs:List aJ) (n:Int),(∀r∈acc,(aO r).isSome=true)->cr ls i acc=(rs,n,0)->(∀r∈rs,(aO r).isSome=true)/\rs.length<=acc.length+ls.length/\n=0
 | [],i,acc,rs,n,ha,h=>by
  simp only[cr,Prod.mk.injEq]at h;obtain⟨rfl,rfl,_⟩:=h;exact⟨ha,by simp,rfl⟩
 | l::ls,i,acc,rs,n,ha,h=>by
  rw[cr]at h
  split at h
  ·have:=gS ls (i+1) acc rs n ha h;exact⟨this.1,by have:=this.2.1; simp; omega,this.2.2⟩
  ·split at h
   ·simp at h
   ·rename_i r hr
    split at h
    ·simp at h
    ·have hc:(aO r).isSome=true:=by
      unfold bI at hr
      split at hr
      ·cases hr; assumption
      ·cases hr
     have:=gS ls (i+1) (acc++[r]) rs n (fun q hq=>by
      rcases List.mem_append.1 hq with hq | hq
      ·exact ha q hq
      ·simp at hq; subst hq; exact hc) h
     exact⟨this.1,by have:=this.2.1; simp at this ⊢; omega,this.2.2⟩
theorem gM : ∀(rs:List aJ),(∀r∈rs,(aO r).isSome=true)-> ∃us,aL rs=some us
 | [],_=>⟨[],rfl⟩
 | r::rs,h=>by
  obtain⟨us,hu⟩:=gM rs (fun q hq=>h q (by simp[hq]));obtain⟨cs,hc⟩:=Option.isSome_iff_exists.1 (h r (by simp));exact⟨(r,cs)::us,by simp[aL,hc,hu]⟩
theorem qj {l:List UInt8} {rs:List aJ} {n:Int} (h:bH l=(rs,n,0)):(∃us,aL rs=some us)/\rs.length<=l.length+1/\n=0/\ ∀r∈rs,r.pat.length<=512:=by
 unfold bH at h
 split at h
 ·simp at h
 ·have:=gS _ 0 [] rs n (by simp) h;have hl:=eq 10 l;refine⟨gM rs this.1,by have:=this.2.1; simp at this; omega,this.2.2,fun r hr=> ?_⟩;obtain⟨cs,hc⟩:=Option.isSome_iff_exists.1 (this.1 r hr);unfold aO at hc
  split at hc
  ·cases hc
  ·split at hc
   ·cases hc
   ·unfold fV at hc
    split at hc
    ·cases hc
    ·omega
theorem uB {l:List UInt8} (h:bz l=true):(aM l=[]/\(aw 47 l).dropLast=[])\/(aM l≠[]/\bz (aM l)=true/\aw 47 (aM l)=(aw 47 l).dropLast):=by
 unfold aM ik
 by_cases he:(aw 47 l).dropLast=[]
 ·left; exact⟨by rw[he]; rfl,he⟩
 ·right
  have hs:aw 47 (Lib.join (aw 47 l).dropLast [47])=(aw 47 l).dropLast:=qB 47 _ he (fun p hp=>sE 47 l p (List.dropLast_subset _ hp));have hne:Lib.join (aw 47 l).dropLast [47]≠[]:=by
   intro e;rw[e]at hs;have h1:aw 47 []=[[]]:=rfl;rw[h1]at hs;have:=(qI h [] (List.dropLast_subset _ (by rw[<-hs]; simp))).2;exact this rfl
  refine⟨hne, ?_,hs⟩;have hp:=h;simp only[bz,Bool.and_eq_true,decide_eq_true_eq,List.all_eq_true]at hp ⊢;rw[hs];refine⟨⟨?_,by rw[List.length_dropLast]; omega⟩,fun p hp'=>hp.2 p (List.dropLast_subset _ hp')⟩;have hl:(Lib.join (aw 47 l).dropLast [47]).length<=(Lib.join (aw 47 l) [47]).length:=by
   have e:=List.dropLast_concat_getLast (ek 47 l);have e2:=qF (aw 47 l).dropLast ((aw 47 l).getLast (ek 47 l));rw[e]at e2;unfold ik at e2;rw[e2,if_neg he];simp
  rw[kO]at hl;omega
open Go
section
variable {P : Program} {ops : Array Oper} {md : Region.Mode} {w : World}
def rg (md:Region.Mode) (ops:Array Oper) (m:Nat):Bool:=
 ((List.range m).all fun i=>decide (ops.size<=m) || (List.range (m+1)).any fun j=>decide (i<j) && Region.waitsFor md ops j i) &&
 ((List.range ops.size).all fun t=>decide (t<=m) || (List.range t).any fun u=>decide (m<=u) && Region.waitsFor md ops t u)
theorem kg {m:Nat} {listed:Array Bool} (hc:rg md ops m=true) (inv:HeadInv md ops m listed):
  ∀(d i:Nat),m-i=d->i<m->listed.getD i true=false-> ∀t,m<=t->t∉Region.ready md ops listed:=by
 simp only[rg,Bool.and_eq_true]at hc;obtain⟨hs,hch⟩:=hc;intro d
 induction d using Nat.strongRecOn with
 | _ d ih=>
  intro i hd hi hun t ht hr;obtain⟨_,ot,hot,hall⟩:=mem_ready.1 hr;have htlt:t<ops.size:=(Array.getElem?_eq_some_iff.1 hot).1
  rcases Nat.lt_or_ge m t with htm | htm
  ·have h1:=List.all_eq_true.1 hch t (List.mem_range.2 htlt);simp only[Bool.or_eq_true,decide_eq_true_eq]at h1
   rcases h1 with h1 | h1
   ·omega
   ·obtain⟨u,hu,hu2⟩:=List.any_eq_true.1 h1;simp only[Bool.and_eq_true,decide_eq_true_eq]at hu2;obtain⟨o',ho',e,he,hb,hon⟩:=Region.waitsFor_spec hu2.2;have ho:o'=ot:=Option.some.inj (ho'.symm.trans hot);subst ho;have h2:=hall e he hb;rw[hon,getD_both (inv.tail u hu2.1 (by have:=List.mem_range.1 hu; omega))]at h2
    cases h2
  ·have htm':t=m:=by omega
   subst htm';have h1:=List.all_eq_true.1 hs i (List.mem_range.2 hi);simp only[Bool.or_eq_true,decide_eq_true_eq]at h1
   rcases h1 with h1 | h1
   ·omega
   ·obtain⟨j,hj,hj2⟩:=List.any_eq_true.1 h1;simp only[Bool.and_eq_true,decide_eq_true_eq]at hj2;obtain⟨oj,hoj,e,he,hb,hon⟩:=Region.waitsFor_spec hj2.2;have hjle:=List.mem_range.1 hj
    rcases Nat.lt_or_ge j t with hjt | hjt
    ·cases hl:listed.getD j false with
     | true=>
      have h2:=inv.closed j oj hoj hl e he hb;rw[hon,getD_both hun]at h2
      cases h2
     | false=>
      exact ih (t-j) (by omega) j rfl hjt (getD_in (by rw[inv.size]; omega) hl) t (Nat.le_refl _) hr
    ·have hjt':j=t:=by omega
     subst hjt';have ho:oj=ot:=Option.some.inj (hoj.symm.trans hot);subst ho;have h2:=hall e he hb;rw[hon,getD_both hun]at h2
     cases h2
theorem vo {m i:Nat} {oi:Oper} {v:Value} {L:Array Bool->Act->Prop} (hi:ops[i]? =some oi) (hsel: ∀(j:Nat) (o:Oper) cs b,ops[j]? =some o->o.op≠ .select cs b)
  (hc:rg md ops m=true) (hin:i<m) (hdone: ∀listed a,L listed a-> ∀j∈Region.ready md ops listed,m<=j):
  ∀(f:Nat) (listed:Array Bool) (a:Act),HeadInv md ops m listed->
   (∀j oj,ops[j]? =some oj->j≠i->listed.getD j true=false->(∀e∈oj.after,Region.binds md e=true->e.on≠i)->oi.apart ops oj=true)->
   i∈Region.ready md ops listed->YieldsAt P ops w oi v a->
   wpAnyL P md ops w m L f (listed.setIfInBounds i true) (a.put oi.dst v)->wpAnyL P md ops w m L (f+1) listed a:=by
 intro f
 induction f with
 | zero=>
  intro listed a inv _ hr hy H;have hun:=(mem_ready.1 hr).1;refine⟨List.ne_nil_of_mem hr,fun j hj=> ?_⟩;have hjm:j<m:=Nat.lt_of_not_le fun h=>kg hc inv _ i rfl hin hun j h hj
  refine⟨hjm, ?_⟩
  by_cases hji:j=i
  ·subst hji; exact hy.stOp hi H
  ·have:=hdone _ _ H j (ready_mono hj hji);omega
 | succ f ih=>
  intro listed a inv hfree hr hy H;have hun:=(mem_ready.1 hr).1;refine⟨List.ne_nil_of_mem hr,fun j hj=> ?_⟩;have hjm:j<m:=Nat.lt_of_not_le fun h=>kg hc inv _ i rfl hin hun j h hj
  refine⟨hjm, ?_⟩
  by_cases hji:j=i
  ·subst hji; exact hy.stOp hi H
  ·have h1:=(H.2 j (ready_mono hj hji)).2;obtain⟨hjun,oj,hoj,hall⟩:=mem_ready.1 hj;have hnot: ∀e∈oj.after,Region.binds md e=true->e.on≠i:=fun e he hb heq=>by
    have h1:=hall e he hb;rw[heq,getD_both hun]at h1
    cases h1
   have h2:=stOp_put hoj (hfree j oj hoj hji hjun hnot) (fun cs b=>hsel i oi cs b hi) (fun cs b=>hsel j oj cs b hoj) hy h1;refine stOp_mono (fun a' h3=>ih (listed.setIfInBounds j true) a' (inv.set hj hjm) (fun k ok hk hki hunk hno=> ?_) (ready_mono hr (Ne.symm hji)) h3.1 ?_) h2
   ·refine hfree k ok hk hki ?_ hno
    by_cases hjk:j=k
    ·subst hjk; exact hjun
    ·rw[getD_set_ne true hjk]at hunk; exact hunk
   ·rw[Array.setIfInBounds_comm _ _ hji];exact h3.2
def oy :Nat->Nat->Array Bool->Array Bool
 | 0,_,listed=>listed
 | n+1,k,listed=>oy n (k+1) (listed.setIfInBounds k true)
def yY (md:Region.Mode) (ops:Array Oper):Nat->Nat->Array Bool->Bool
 | 0,k,listed=>(Region.ready md ops listed).all fun j=>decide (k<=j)
 | n+1,k,listed=>(Region.ready md ops listed).contains k && Region.free md ops listed k && yY md ops n (k+1) (listed.setIfInBounds k true)
theorem tJ {m:Nat} {Lq:Act->Prop} (hsel:Region.noSelect ops=true) (hc:rg md ops m=true) (LM:Array Bool):
  ∀(l:List Oper) (k:Nat) (listed:Array Bool) (a:Act),(∀j,j<l.length->l[j]? =ops[k+j]?)->k+l.length=m->HeadInv md ops m listed->
  yY md ops l.length k listed=true->oy l.length k listed=LM->wpStill P ops w Lq l a->
  wpAnyL P md ops w m (fun listed' a'=>listed'=LM/\Lq a') l.length listed a/\ ∀j∈Region.ready md ops LM,m<=j
 | [],k,listed,a,_,hk,_,hB,hL,h=>by
  have hkm:k=m:=by simpa using hk
  subst hkm;have hLM:listed=LM:=hL;subst hLM;refine⟨⟨rfl,h⟩,fun j hj=> ?_⟩;have:=List.all_eq_true.1 hB j hj
  simpa using this
 | o::l,k,listed,a,hl,hk,inv,hB,hL,h=>by
  have h0:ops[k]? =some o:=by simpa using (hl 0 (by simp)).symm
  simp only[List.length_cons,yY,Bool.and_eq_true]at hB;obtain⟨⟨hr,hf⟩,hB'⟩:=hB;have hkm:k<m:=by simp only[List.length_cons]at hk; omega
  have hr':k∈Region.ready md ops listed:=by simpa using hr
  have hst:stOp P ops w k (wpStill P ops w Lq l) a:=by unfold stOp; simp only[h0]; exact h
  obtain⟨v,hy,hK⟩:=yieldsAt_of_stOp h0 hst;have IH:=tJ hsel hc LM l (k+1) _ _ (fun j hj=>by have:=hl (j+1) (by simp; omega); simpa [Nat.add_assoc,Nat.add_comm 1 j]using this) (by simp only[List.length_cons]at hk; omega) (inv.set hr' hkm) hB' hL hK;refine⟨vo h0 (Region.noSelect_spec hsel) hc hkm (fun listed' a' hL'=> ?_) l.length listed a inv (Region.free_spec h0 hf) hr' hy IH.1,IH.2⟩
  rw[hL'.1]; exact IH.2
def wR (md:Region.Mode) (ops:Array Oper) (m:Nat) (listed:Array Bool):Bool:=
 decide (listed.size=ops.size) &&
 ((List.range ops.size).all fun j=> !listed.getD j false || match ops[j]? with | some oj=>oj.after.all (fun e=> !Region.binds md e || listed.getD e.on false) | none=>true) &&
 ((List.range ops.size).all fun t=>decide (t<m) || !listed.getD t true)
theorem rz {m:Nat} {listed:Array Bool} (h:wR md ops m listed=true):HeadInv md ops m listed:=by
 simp only[wR,Bool.and_eq_true,decide_eq_true_eq]at h;obtain⟨⟨h1,h2⟩,h3⟩:=h;refine⟨h1,fun j oj hj hl e he hb=> ?_,fun t ht ht2=> ?_⟩
 ·have:=List.all_eq_true.1 h2 j (List.mem_range.2 (Array.getElem?_eq_some_iff.1 hj).1);rw[hl,hj]at this;simp only[Bool.not_true,Bool.false_or]at this;have:=Array.all_eq_true'.1 this e he;rw[hb]at this
  simpa using this
 ·have:=List.all_eq_true.1 h3 t (List.mem_range.2 ht2);simp only[Bool.or_eq_true,decide_eq_true_eq]at this
  rcases this with h | h
  ·omega
  ·simpa using h
def mu (md:Region.Mode) (ops:Array Oper):List (Option Nat)->Nat->Array Bool->Bool
 | [],k,listed=>decide (k=ops.size) && (Region.ready md ops listed).isEmpty
 | some n::s,k,listed=>decide (k+n<=ops.size) && rg md ops (k+n) && wR md ops (k+n) listed && yY md ops n k listed && mu md ops s (k+n) (oy n k listed)
 | none::s,k,listed=>decide (k<ops.size) && decide (Region.ready md ops listed=[k]) && mu md ops s (k+1) (listed.setIfInBounds k true)
@[irreducible] def qP (P:Program) (ops:Array Oper) (w:World) (Q:Act->Prop) (l:List Oper) (a:Act):Prop:=wpStill P ops w Q l a
theorem qP.out {Q:Act->Prop} {l:List Oper} {a:Act} (h:qP P ops w Q l a):wpStill P ops w Q l a:=by unfold qP at h; exact h
theorem qP.of {Q:Act->Prop} {l:List Oper} {a:Act} (h:wpStill P ops w Q l a):qP P ops w Q l a:=by unfold qP; exact h
@[irreducible] def qO (P:Program) (ops:Array Oper) (next:Act->World->Prop) (Q:Exit->Act->World->Prop) (l:List Oper) (a:Act) (w:World):Prop:=wpList P ops (Exit.then next Q) l a w
theorem qO.out {next:Act->World->Prop} {Q:Exit->Act->World->Prop} {l:List Oper} {a:Act} (h:qO P ops next Q l a w):wpList P ops (Exit.then next Q) l a w:=by unfold qO at h; exact h
theorem qO.of {next:Act->World->Prop} {Q:Exit->Act->World->Prop} {l:List Oper} {a:Act} (h:wpList P ops (Exit.then next Q) l a w):qO P ops next Q l a w:=by unfold qO; exact h
def bb (P:Program) (ops:Array Oper) (Q:Exit->Act->World->Prop):List (Option Nat)->List Oper->Act->World->Prop
 | [],_,a,w=>Q .normal a w
 | some n::s,l,a,w=>qP P ops w (fun a'=>bb P ops Q s (l.drop n) a' w) (l.take n) a
 | none::s,l,a,w=>qO P ops (fun a' w'=>bb P ops Q s (l.drop 1) a' w') Q (l.take 1) a w
theorem fH {Q:Exit->Act->World->Prop} (hsel:Region.noSelect ops=true): ∀(s:List (Option Nat)) (l:List Oper) (k:Nat) (listed:Array Bool) (a:Act) (w:World),
  (∀j,l[j]? =ops[k+j]?)->mu md ops s k listed=true->bb P ops Q s l a w->wpAny P md ops Q (ops.size-k) listed a w
 | [],l,k,listed,a,w,hl,hB,h=>by
  simp only[mu,Bool.and_eq_true,decide_eq_true_eq]at hB;rw[hB.1,Nat.sub_self];exact⟨by simpa using hB.2,h⟩
 | some n::s,l,k,listed,a,w,hl,hB,h=>by
  simp only[mu,Bool.and_eq_true,decide_eq_true_eq]at hB;obtain⟨⟨⟨⟨hn,hc⟩,hh⟩,hs⟩,hB'⟩:=hB;have hll:l.length=ops.size-k:=by
   have h1: ∀j,j<l.length<->k+j<ops.size:=fun j=>by
    constructor
    ·intro hj; have:=hl j; rw[List.getElem?_eq_getElem hj]at this; exact(Array.getElem?_eq_some_iff.1 this.symm).1
    ·intro hj; have:=hl j; rw[Array.getElem?_eq_getElem hj]at this; exact(List.getElem?_eq_some_iff.1 this).1
   rcases Nat.lt_trichotomy l.length (ops.size-k)with h2 | h2 | h2
   ·have:=(h1 l.length).2 (by omega); omega
   ·exact h2
   ·have:=(h1 (ops.size-k)).1 h2; omega
  have htl:(l.take n).length=n:=by simp; omega
  have H:=tJ (P:=P) (md:=md) (w:=w) hsel hc (oy n k listed) (l.take n) k listed a (fun j hj=>by
   rw[htl]at hj;rw[List.getElem?_take,if_pos hj]; exact hl j) (by rw[htl]) (rz hh) (by rw[htl]; exact hs) (by rw[htl]) (qP.out h)
  have:=wpAny_of_head (Q':=Q) (g:=ops.size-(k+n)) (fun listed' a' hL=>by
   rw[hL.1];exact fH hsel s (l.drop n) (k+n) _ a' w (fun j=>by rw[List.getElem?_drop,hl,Nat.add_assoc]) hB' hL.2) _ _ _ H.1
  rw[htl,show n+(ops.size-(k+n))=ops.size-k by omega]at this;exact this
 | none::s,l,k,listed,a,w,hl,hB,h=>by
  simp only[mu,Bool.and_eq_true,decide_eq_true_eq]at hB;obtain⟨⟨hk,hr⟩,hB'⟩:=hB;obtain⟨o,ho⟩: ∃o,ops[k]? =some o:=⟨ops[k],by simp[hk]⟩;have h0:l[0]? =some o:=by rw[hl]; exact ho
  obtain⟨l',rfl⟩: ∃l',l=o::l':=by
   cases l with
   | nil=>simp at h0
   | cons x y=>simp at h0; exact⟨y,by rw[h0]⟩
  rw[show ops.size-k=(ops.size-(k+1))+1 by omega];refine⟨fun h1=>(by rw[hr]at h1; cases h1),fun i hi=> ?_⟩;rw[hr]at hi;have hik:i=k:=by simpa using hi
  subst hik;have hw:wpOp P ops Q i (fun a' w'=>bb P ops Q s l' a' w') a w:=by
   unfold wpOp;simp only[ho];exact qO.out h
  exact wpOp_mono (fun a' w' h'=>fH hsel s l' (i+1) _ a' w' (fun j=>by have:=hl (j+1); simpa [Nat.add_assoc,Nat.add_comm 1 j]using this) hB' h') hw
theorem ak {id:Nat} {Q:Exit->Act->World->Prop} {a:Act} {w:World} {l:List Oper} (s:List (Option Nat)) (hm:P.follows .mixedOrders=true) (hsel:Region.noSelect l.toArray=true)
  (hB:mu .any l.toArray s 0 (Array.replicate l.toArray.size false)=true) (h:bb P l.toArray Q s l a w.drew):(Code.region id l.toArray true).wp P Q a w:=by
 refine wp_region_any hm ?_;have:=fH (md:= .any) (P:=P) (Q:=Q) hsel s l 0 _ a w.drew (by simp) hB h
 simpa using this
theorem az {Q:Act->Prop} {a:Act} (h:Q a):qP P ops w Q [] a:=qP.of h
theorem am {Q:Act->Prop} {a:Act} {o:Oper} {rest:List Oper} (hw:Region.wanted o (yielded ops a.tmps)=false) (h:qP P ops w Q rest (a.put o.dst undef)):qP P ops w Q (o::rest) a:=by
 refine qP.of ?_;unfold wpStill; rw[hw]; exact h.out
theorem aA {Q:Act->Prop} {a:Act} {dst:Option Tmp} {op:Op} {ty:TypeId} {pos:String} {aft:Array Edge} {g:Option (Nat×Bool)} {rest:List Oper} (hw:Region.wanted ⟨dst,op,ty,pos,aft,g⟩ (yielded ops a.tmps)=true)
  (h: ∀K:Act->Prop,(∀a,qP P ops w Q rest a->K a)->Oper.still P ⟨dst,op,ty,pos, #[],none⟩ a w K):qP P ops w Q (⟨dst,op,ty,pos,aft,g⟩::rest) a:=by
 refine qP.of ?_;unfold wpStill; rw[hw]; exact h _ (fun _ h=>h.out)
theorem jp {Q:Exit->Act->World->Prop} {next:Act->World->Prop} {a:Act} {o:Oper} (hw:Region.wanted o (yielded ops a.tmps)=false) (h:next (a.put o.dst undef) w):qO P ops next Q [o] a w:=by
 refine qO.of ?_;unfold wpList; rw[hw]; exact h
theorem bt {Q:Exit->Act->World->Prop} {next:Act->World->Prop} {a:Act} {dst:Option Tmp} {op:Op} {ty:TypeId} {pos:String} {aft:Array Edge} {g:Option (Nat×Bool)} (hw:Region.wanted ⟨dst,op,ty,pos,aft,g⟩ (yielded ops a.tmps)=true)
  (h: ∀K:Act->World->Prop,(∀a w,next a w->K a w)->wpList P #[] (Exit.then K Q) [⟨dst,op,ty,pos, #[],none⟩] a w):qO P ops next Q [⟨dst,op,ty,pos,aft,g⟩] a w:=by
 refine qO.of ?_;have:=h _ (fun _ _ h=>h);unfold wpList at this ⊢;rw[hw];simp only[Region.wanted,if_true]at this;exact this
end
end Go.Proofs.YtnjkpcalgoefhaaGreatDoor
namespace Go.Proofs.YtnjkpcalgoefhaaGreatDoor
def bD (x s:Nat):Nat:=(x*2^s%4294967296) ||| (x/2^(32-s))
def vu (x:Nat):Nat:=(bD x 15^^^bD x 13)^^^(x/2^10)
def vt (x:Nat):Nat:=(bD x 25^^^bD x 14)^^^(x/2^3)
def gR (l:List Nat):Nat:=(((vu (l.getD (l.length-2) 0)+l.getD (l.length-7) 0)%4294967296+vt (l.getD (l.length-15) 0))%4294967296+l.getD (l.length-16) 0)%4294967296
def fi :Nat->List Nat->List Nat
 | 0,l=>l
 | n+1,l=>fi n (l++[gR l])
def qL (a b c d:UInt8):Nat:=(((a.toNat*2^24%4294967296) ||| (b.toNat*2^16%4294967296)) ||| (c.toNat*2^8%4294967296)) ||| d.toNat
def oe (b:List UInt8) (t:Nat):Nat:=qL (b.getD (4*t) 0) (b.getD (4*t+1) 0) (b.getD (4*t+2) 0) (b.getD (4*t+3) 0)
def gp (b:List UInt8) (n:Nat):List Nat:=(List.range n).map (oe b)
structure V8 where
 a:Nat
 b:Nat
 c:Nat
 d:Nat
 e:Nat
 f:Nat
 g:Nat
 h:Nat
def kc :List Nat:=[0x428a2f98,0x71374491,0xb5c0fbcf,0xe9b5dba5,0x3956c25b,0x59f111f1,0x923f82a4,0xab1c5ed5,
 0xd807aa98,0x12835b01,0x243185be,0x550c7dc3,0x72be5d74,0x80deb1fe,0x9bdc06a7,0xc19bf174,
 0xe49b69c1,0xefbe4786,0x0fc19dc6,0x240ca1cc,0x2de92c6f,0x4a7484aa,0x5cb0a9dc,0x76f988da,
 0x983e5152,0xa831c66d,0xb00327c8,0xbf597fc7,0xc6e00bf3,0xd5a79147,0x06ca6351,0x14292967,
 0x27b70a85,0x2e1b2138,0x4d2c6dfc,0x53380d13,0x650a7354,0x766a0abb,0x81c2c92e,0x92722c85,
 0xa2bfe8a1,0xa81a664b,0xc24b8b70,0xc76c51a3,0xd192e819,0xd6990624,0xf40e3585,0x106aa070,
 0x19a4c116,0x1e376c08,0x2748774c,0x34b0bcb5,0x391c0cb3,0x4ed8aa4a,0x5b9cca4f,0x682e6ff3,
 0x748f82ee,0x78a5636f,0x84c87814,0x8cc70208,0x90befffa,0xa4506ceb,0xbef9a3f7,0xc67178f2]
def xX (v:V8) (k w:Nat):Nat:=((((v.h+((bD v.e 26^^^bD v.e 21)^^^bD v.e 7))%4294967296+((v.e &&& v.f)^^^((4294967295-v.e) &&& v.g)))%4294967296+k)%4294967296+w)%4294967296
def t2P (v:V8):Nat:=(((bD v.a 30^^^bD v.a 19)^^^bD v.a 10)+(((v.a &&& v.b)^^^(v.a &&& v.c))^^^(v.b &&& v.c)))%4294967296
def rS (v:V8) (k w:Nat):V8:=⟨(xX v k w+t2P v)%4294967296,v.a,v.b,v.c,(v.d+xX v k w)%4294967296,v.e,v.f,v.g⟩
def jJ (l:List (Nat×Nat)) (v:V8):V8:=l.foldl (fun v p=>rS v p.1 p.2) v
def jX (x y:Nat):Nat:=(x+y)%4294967296
def ov (v u:V8):V8:=⟨jX v.a u.a,jX v.b u.b,jX v.c u.c,jX v.d u.d,jX v.e u.e,jX v.f u.f,jX v.g u.g,jX v.h u.h⟩
def wsP (b:List UInt8):List Nat:=fi 48 (gp b 16)
def iR (v:V8) (b:List UInt8):V8:=ov v (jJ (kc.zip (wsP b)) v)
def gn :V8:=⟨0x6a09e667,0xbb67ae85,0x3c6ef372,0xa54ff53a,0x510e527f,0x9b05688c,0x1f83d9ab,0x5be0cd19⟩
def cT (l:List UInt8):Nat->V8
 | 0=>gn
 | k+1=>iR (cT l k) ((l.drop (64*k)).take 64)
def ox (x:Nat):List UInt8:=[UInt8.ofNat (x/2^24),UInt8.ofNat (x/2^16),UInt8.ofNat (x/2^8),UInt8.ofNat x]
def eU (x:Nat):List UInt8:=[UInt8.ofNat (x/2^56),UInt8.ofNat (x/2^48),UInt8.ofNat (x/2^40),UInt8.ofNat (x/2^32),UInt8.ofNat (x/2^24),UInt8.ofNat (x/2^16),UInt8.ofNat (x/2^8),UInt8.ofNat x]
def bU (n:Nat):Nat:=(119-n%64)%64
def fU (n:Nat):List UInt8:=128::List.replicate (bU n) 0++eU (n*8%18446744073709551616)
def V8.list (v:V8):List Nat:=[v.a,v.b,v.c,v.d,v.e,v.f,v.g,v.h]
def V8.out (v:V8):List UInt8:=v.list.flatMap ox
def jP (l:List UInt8):List UInt8:=(cT (l++fU l.length) ((l++fU l.length).length/64)).out
theorem gk {x y:Nat} (hx:x<4294967296) (hy:y<4294967296):x ||| y<4294967296:=Nat.or_lt_two_pow (n:=32) hx hy
theorem ip {x y:Nat} (hx:x<4294967296) (hy:y<4294967296):x^^^y<4294967296:=Nat.xor_lt_two_pow (n:=32) hx hy
theorem eS {x:Nat} (y:Nat) (hx:x<4294967296):x &&& y<4294967296:=Nat.lt_of_le_of_lt Nat.and_le_left hx
theorem ci {x:Nat} (s:Nat) (hx:x<4294967296):bD x s<4294967296:=gk (Nat.mod_lt _ (by decide)) (Nat.lt_of_le_of_lt (Nat.div_le_self _ _) hx)
theorem xb (l:List Nat):gR l<4294967296:=Nat.mod_lt _ (by decide)
theorem sY {x:Nat} (b:UInt8) (h:x=b.toNat):x<4294967296:=by have:=b.toNat_lt; omega
theorem xS (a b c d:UInt8):qL a b c d<4294967296:=gk (gk (gk (Nat.mod_lt _ (by decide)) (Nat.mod_lt _ (by decide))) (Nat.mod_lt _ (by decide))) (sY _ rfl)
theorem xT (b:List UInt8) (t:Nat):oe b t<4294967296:=xS _ _ _ _
def tP (l:List Nat):Prop:= ∀x∈l,x<4294967296
theorem tP.get {l:List Nat} (h:tP l) (k:Nat):l.getD k 0<4294967296:=by
 rw[List.getD_eq_getElem?_getD]
 cases hk:l[k]? with
 | none=>simp
 | some x=>exact h x (List.mem_of_getElem? hk)
theorem mK (b:List UInt8) (n:Nat):(gp b n).length=n:=by simp[gp]
theorem oh (b:List UInt8) (n:Nat):tP (gp b n):=by
 intro x hx;obtain⟨t,_,rfl⟩:=List.mem_map.1 hx;exact xT b t
theorem qM (b:List UInt8) (n:Nat):gp b (n+1)=gp b n++[oe b n]:=by simp[gp,List.range_succ]
theorem kR : ∀(n:Nat) (l:List Nat),fi (n+1) l=fi n l++[gR (fi n l)]
 | 0,_=>rfl
 | n+1,l=>by rw[fi,kR n (l++[gR l])]; rfl
theorem ms : ∀(n:Nat) (l:List Nat),(fi n l).length=l.length+n
 | 0,_=>rfl
 | n+1,l=>by rw[fi,ms n]; simp; omega
theorem nS : ∀(n:Nat) {l:List Nat},tP l->tP (fi n l)
 | 0,_,h=>h
 | n+1,l,h=>by
  rw[fi];refine nS n (fun x hx=> ?_)
  rcases List.mem_append.1 hx with hx | hx
  ·exact h x hx
  ·rw[List.mem_singleton.1 hx]; exact xb l
def jk (b:List UInt8) (t:Nat):List Nat:=if t<=16 then gp b t else fi (t-16) (gp b 16)
theorem fC (b:List UInt8) (t:Nat):(jk b t).length=t:=by
 unfold jk; split
 ·exact mK b t
 ·rw[ms,mK]; omega
theorem oY (b:List UInt8) (t:Nat):tP (jk b t):=by
 unfold jk; split
 ·exact oh b t
 ·exact nS _ (oh b 16)
theorem tK (b:List UInt8) {t:Nat} (h:t<16):jk b (t+1)=jk b t++[oe b t]:=by
 unfold jk; rw[if_pos (by omega),if_pos (by omega),qM]
theorem qK (b:List UInt8) {t:Nat} (h:16<=t):jk b (t+1)=jk b t++[gR (jk b t)]:=by
 unfold jk; rw[if_neg (by omega)]
 by_cases ht:t=16
 ·subst ht; rw[if_pos (by decide)]; rfl
 ·rw[if_neg (by omega),show t+1-16=(t-16)+1 by omega,kR]
theorem oX (b:List UInt8):jk b 64=wsP b:=by unfold jk wsP; rw[if_neg (by decide)]
theorem tL (b:List UInt8):(wsP b).length=64:=by rw[<-oX]; exact fC b 64
theorem oK :kc.length=64:=rfl
structure V8.Ok (v : V8) : Prop where
 a:v.a<4294967296
 b:v.b<4294967296
 c:v.c<4294967296
 d:v.d<4294967296
 e:v.e<4294967296
 f:v.f<4294967296
 g:v.g<4294967296
 h:v.h<4294967296
theorem yT {v:V8} (h:v.Ok) (k w:Nat):(rS v k w).Ok:=⟨Nat.mod_lt _ (by decide),h.a,h.b,h.c,Nat.mod_lt _ (by decide),h.e,h.f,h.g⟩
theorem xr (l:List (Nat×Nat)): ∀ {v:V8},v.Ok->(jJ l v).Ok:=by
 induction l with
 | nil=>intro v h; exact h
 | cons p l ih=>
  intro v h;unfold jJ at ih ⊢;rw[List.foldl_cons];exact ih (yT h p.1 p.2)
theorem rT (l:List (Nat×Nat)) (p:Nat×Nat) (v:V8):jJ (l++[p]) v=rS (jJ l v) p.1 p.2:=by
 unfold jJ; rw[List.foldl_append,List.foldl_cons,List.foldl_nil]
theorem yg (v u:V8):(ov v u).Ok:=by constructor<;> exact Nat.mod_lt _ (by decide)
theorem vG :gn.Ok:=by constructor<;> decide
theorem xn (v:V8) (b:List UInt8):(iR v b).Ok:=yg _ _
theorem jr (l:List UInt8): ∀k,(cT l k).Ok
 | 0=>vG
 | _+1=>xn _ _
def rTo (b:List UInt8) (v:V8) (t:Nat):V8:=jJ ((kc.zip (wsP b)).take t) v
theorem rQ (b:List UInt8) {v:V8} (t:Nat) (h:v.Ok):(rTo b v t).Ok:=xr _ h
theorem fQ {l:List Nat} {t:Nat} (h:t<l.length):l[t]? =some (l.getD t 0):=by simp[List.getD_eq_getElem?_getD,h]
theorem xW {x y:List Nat} {t:Nat} (h1:t<x.length) (h2:t<y.length):(x.zip y)[t]? =some (x.getD t 0,y.getD t 0):=by
 rw[List.getElem?_zip_eq_some];exact⟨fQ h1,fQ h2⟩
theorem uK {x y:List Nat} (v:V8) {t:Nat} (h1:t<x.length) (h2:t<y.length):jJ ((x.zip y).take (t+1)) v=rS (jJ ((x.zip y).take t) v) (x.getD t 0) (y.getD t 0):=by
 rw[List.take_add_one,xW h1 h2,Option.toList_some,rT]
theorem qn (b:List UInt8) (v:V8) {t:Nat} (h:t<64):rTo b v (t+1)=rS (rTo b v t) (kc.getD t 0) ((wsP b).getD t 0):=
 uK v (by rw[oK]; exact h) (by rw[tL]; exact h)
theorem qm (v:V8) (b:List UInt8):iR v b=ov v (rTo b v 64):=by
 unfold iR rTo; rw[List.take_of_length_le (by rw[List.length_zip,tL,oK]; decide)]
theorem jq {l:List UInt8} (r:List UInt8): ∀ {k:Nat},64*k<=l.length->cT (l++r) k=cT l k
 | 0,_=>rfl
 | k+1,h=>by
  rw[cT,cT,jq r (k:=k) (by omega)]
  congr 1
  rw[List.drop_append_of_le_length (by omega),List.take_append_of_le_length (by rw[List.length_drop]; omega)]
theorem sX (x:Nat):(ox x).length=4:=rfl
theorem tC (v:V8):v.out.length=32:=by simp[V8.out,V8.list,ox]
theorem xF (l:List UInt8):(jP l).length=32:=by unfold jP; exact tC _
theorem lY (n:Nat):(fU n).length=1+bU n+8:=by unfold fU eU; simp; omega
theorem uA (l:List UInt8):(l++fU l.length).length%64=0:=by rw[List.length_append,lY]; unfold bU; omega
open Go Go.RowKit
def bp (x:Nat):Value:= .int .u32 (x:Int)
theorem cO {x a b:Nat} {s:Nat} (ha:2^s=a) (hb:2^(32-s)=b) (hx:x<4294967296):bits .or .u32 ((x:Int)*(a:Int)%4294967296) ((x:Int)/(b:Int))=((bD x s:Nat):Int):=by
 rw[show((x:Int)*(a:Int)%4294967296)=((x*a%4294967296:Nat):Int) by simp,show((x:Int)/(b:Int))=((x/b:Nat):Int) by simp,
  u32_or_nat _ _ (Nat.mod_lt _ (by decide)) (Nat.lt_of_le_of_lt (Nat.div_le_self _ _) hx)]
 unfold bD; rw[ha,hb]
theorem uQ (x:Nat) (w:World) (hx:x<4294967296):Calls Tryz.prog 199 #[.int .u32 (x:Int), .int .i64 (-17)] w fun e w'=>e= .returned (.int .u32 ((bD x 15:Nat):Int))/\w=w':=by
 have h1:bits BinOp.and IntKind.u64 (IntKind.u64.wrap (-17)) 31=15:=by decide+kernel
 go_enter Tryz.func199,Tryz.ntmps199
 go_wp2_with fail;go_ret;refine⟨?_,rfl⟩;rw[<-cO (a:=32768) (b:=131072) (by decide) (by decide) hx]
 rfl
theorem uO (x:Nat) (w:World) (hx:x<4294967296):Calls Tryz.prog 199 #[.int .u32 (x:Int), .int .i64 (-19)] w fun e w'=>e= .returned (.int .u32 ((bD x 13:Nat):Int))/\w=w':=by
 have h1:bits BinOp.and IntKind.u64 (IntKind.u64.wrap (-19)) 31=13:=by decide+kernel
 go_enter Tryz.func199,Tryz.ntmps199
 go_wp2_with fail;go_ret;refine⟨?_,rfl⟩;rw[<-cO (a:=8192) (b:=524288) (by decide) (by decide) hx]
 rfl
theorem uT (x:Nat) (w:World) (hx:x<4294967296):Calls Tryz.prog 199 #[.int .u32 (x:Int), .int .i64 (-7)] w fun e w'=>e= .returned (.int .u32 ((bD x 25:Nat):Int))/\w=w':=by
 have h1:bits BinOp.and IntKind.u64 (IntKind.u64.wrap (-7)) 31=25:=by decide+kernel
 go_enter Tryz.func199,Tryz.ntmps199
 go_wp2_with fail;go_ret;refine⟨?_,rfl⟩;rw[<-cO (a:=33554432) (b:=128) (by decide) (by decide) hx]
 rfl
theorem uP (x:Nat) (w:World) (hx:x<4294967296):Calls Tryz.prog 199 #[.int .u32 (x:Int), .int .i64 (-18)] w fun e w'=>e= .returned (.int .u32 ((bD x 14:Nat):Int))/\w=w':=by
 have h1:bits BinOp.and IntKind.u64 (IntKind.u64.wrap (-18)) 31=14:=by decide+kernel
 go_enter Tryz.func199,Tryz.ntmps199
 go_wp2_with fail;go_ret;refine⟨?_,rfl⟩;rw[<-cO (a:=16384) (b:=262144) (by decide) (by decide) hx]
 rfl
theorem uU (x:Nat) (w:World) (hx:x<4294967296):Calls Tryz.prog 199 #[.int .u32 (x:Int), .int .i64 (-6)] w fun e w'=>e= .returned (.int .u32 ((bD x 26:Nat):Int))/\w=w':=by
 have h1:bits BinOp.and IntKind.u64 (IntKind.u64.wrap (-6)) 31=26:=by decide+kernel
 go_enter Tryz.func199,Tryz.ntmps199
 go_wp2_with fail;go_ret;refine⟨?_,rfl⟩;rw[<-cO (a:=67108864) (b:=64) (by decide) (by decide) hx]
 rfl
theorem uS (x:Nat) (w:World) (hx:x<4294967296):Calls Tryz.prog 199 #[.int .u32 (x:Int), .int .i64 (-11)] w fun e w'=>e= .returned (.int .u32 ((bD x 21:Nat):Int))/\w=w':=by
 have h1:bits BinOp.and IntKind.u64 (IntKind.u64.wrap (-11)) 31=21:=by decide+kernel
 go_enter Tryz.func199,Tryz.ntmps199
 go_wp2_with fail;go_ret;refine⟨?_,rfl⟩;rw[<-cO (a:=2097152) (b:=2048) (by decide) (by decide) hx]
 rfl
theorem xt (x:Nat) (w:World) (hx:x<4294967296):Calls Tryz.prog 199 #[.int .u32 (x:Int), .int .i64 (-25)] w fun e w'=>e= .returned (.int .u32 ((bD x 7:Nat):Int))/\w=w':=by
 have h1:bits BinOp.and IntKind.u64 (IntKind.u64.wrap (-25)) 31=7:=by decide+kernel
 go_enter Tryz.func199,Tryz.ntmps199
 go_wp2_with fail;go_ret;refine⟨?_,rfl⟩;rw[<-cO (a:=128) (b:=33554432) (by decide) (by decide) hx]
 rfl
theorem uV (x:Nat) (w:World) (hx:x<4294967296):Calls Tryz.prog 199 #[.int .u32 (x:Int), .int .i64 (-2)] w fun e w'=>e= .returned (.int .u32 ((bD x 30:Nat):Int))/\w=w':=by
 have h1:bits BinOp.and IntKind.u64 (IntKind.u64.wrap (-2)) 31=30:=by decide+kernel
 go_enter Tryz.func199,Tryz.ntmps199
 go_wp2_with fail;go_ret;refine⟨?_,rfl⟩;rw[<-cO (a:=1073741824) (b:=4) (by decide) (by decide) hx]
 rfl
theorem uR (x:Nat) (w:World) (hx:x<4294967296):Calls Tryz.prog 199 #[.int .u32 (x:Int), .int .i64 (-13)] w fun e w'=>e= .returned (.int .u32 ((bD x 19:Nat):Int))/\w=w':=by
 have h1:bits BinOp.and IntKind.u64 (IntKind.u64.wrap (-13)) 31=19:=by decide+kernel
 go_enter Tryz.func199,Tryz.ntmps199
 go_wp2_with fail;go_ret;refine⟨?_,rfl⟩;rw[<-cO (a:=524288) (b:=8192) (by decide) (by decide) hx]
 rfl
theorem uN (x:Nat) (w:World) (hx:x<4294967296):Calls Tryz.prog 199 #[.int .u32 (x:Int), .int .i64 (-22)] w fun e w'=>e= .returned (.int .u32 ((bD x 10:Nat):Int))/\w=w':=by
 have h1:bits BinOp.and IntKind.u64 (IntKind.u64.wrap (-22)) 31=10:=by decide+kernel
 go_enter Tryz.func199,Tryz.ntmps199
 go_wp2_with fail;go_ret;refine⟨?_,rfl⟩;rw[<-cO (a:=1024) (b:=4194304) (by decide) (by decide) hx]
 rfl
theorem ux {e:Nat} (h:e<4294967296):4294967295^^^e=4294967295-e:=by
 apply Nat.eq_of_testBit_eq
 intro i;rw[Nat.testBit_xor,show(4294967295:Nat)=2^32-1 by decide,Nat.testBit_two_pow_sub_one,show 2^32-1-e=2^32-(e+1) by omega,Nat.testBit_two_pow_sub_succ (by omega)]
 by_cases hi:i<32
 ·simp[hi]
 ·have:e.testBit i=false:=Nat.testBit_lt_two_pow (Nat.lt_of_lt_of_le h (Nat.pow_le_pow_right (by decide) (by omega):2^32<=2^i));simp[hi,this]
theorem Ac {e:Nat} (h:e<4294967296):bits BinOp.xor IntKind.u32 (if IntKind.u32.signed=true then -1 else IntKind.u32.max) (e:Int)=((4294967295-e:Nat):Int):=by
 rw[show(if IntKind.u32.signed=true then(-1:Int)else IntKind.u32.max)=((4294967295:Nat):Int) by decide,u32_xor_nat _ _ (by decide) h,ux h]
def s1P (r:V8):Nat:=(bD r.e 26^^^bD r.e 21)^^^bD r.e 7
def chP (r:V8):Nat:=(r.e &&& r.f)^^^((4294967295-r.e) &&& r.g)
def s0P (r:V8):Nat:=(bD r.a 30^^^bD r.a 19)^^^bD r.a 10
def mjP (r:V8):Nat:=((r.a &&& r.b)^^^(r.a &&& r.c))^^^(r.b &&& r.c)
theorem tI {r:V8} (h:r.Ok):bits BinOp.xor IntKind.u32 (bits BinOp.xor IntKind.u32 ((bD r.e 26:Nat):Int) ((bD r.e 21:Nat):Int)) ((bD r.e 7:Nat):Int)=((s1P r:Nat):Int):=by
 rw[u32_xor_nat _ _ (ci _ h.e) (ci _ h.e),u32_xor_nat _ _ (ip (ci _ h.e) (ci _ h.e)) (ci _ h.e)]; rfl
theorem tH {r:V8} (h:r.Ok):bits BinOp.xor IntKind.u32 (bits BinOp.xor IntKind.u32 ((bD r.a 30:Nat):Int) ((bD r.a 19:Nat):Int)) ((bD r.a 10:Nat):Int)=((s0P r:Nat):Int):=by
 rw[u32_xor_nat _ _ (ci _ h.a) (ci _ h.a),u32_xor_nat _ _ (ip (ci _ h.a) (ci _ h.a)) (ci _ h.a)]; rfl
theorem td {r:V8} (h:r.Ok):bits BinOp.xor IntKind.u32 (bits BinOp.and IntKind.u32 (r.e:Int) (r.f:Int)) (bits BinOp.and IntKind.u32 (bits BinOp.xor IntKind.u32 (if IntKind.u32.signed=true then -1 else IntKind.u32.max) (r.e:Int)) (r.g:Int))=((chP r:Nat):Int):=by
 have h1:4294967295-r.e<4294967296:=by omega
 rw[Ac h.e,u32_and_nat _ _ h.e h.f,u32_and_nat _ _ h1 h.g,u32_xor_nat _ _ (eS _ h.e) (eS _ h1)]; rfl
theorem tz {r:V8} (h:r.Ok):bits BinOp.xor IntKind.u32 (bits BinOp.xor IntKind.u32 (bits BinOp.and IntKind.u32 (r.a:Int) (r.b:Int)) (bits BinOp.and IntKind.u32 (r.a:Int) (r.c:Int))) (bits BinOp.and IntKind.u32 (r.b:Int) (r.c:Int))=((mjP r:Nat):Int):=by
 rw[u32_and_nat _ _ h.a h.b,u32_and_nat _ _ h.a h.c,u32_and_nat _ _ h.b h.c,u32_xor_nat _ _ (eS _ h.a) (eS _ h.a),u32_xor_nat _ _ (ip (eS _ h.a) (eS _ h.a)) (eS _ h.b)]; rfl
theorem sI (r:V8) (k x:Nat):xX r k x=(r.h+s1P r+chP r+k+x)%4294967296:=by unfold xX s1P chP; omega
theorem xM (r:V8):t2P r=(s0P r+mjP r)%4294967296:=rfl
def eP (w:World):Prop:= ∀j x,kc[j]? =some x->w.cell? ⟨4,j,none⟩=some (bp x)
def u8W (b:UInt8):Value:= .int .u8 (b.toNat:Int)
structure cW (w : World) (bs : List UInt8) (t : Nat) (wr : World) : Prop where
 box:wr.heap[w.heap.size]? =some (.cells ((jk bs t).map bp++List.replicate (64-t) (bp 0)).toArray 156 (0,0))
 below:Below w.heap.size w wr
theorem cW.get {w wr:World} {bs:List UInt8} {t j:Nat} (h:cW w bs t wr) (hj:j<t):wr.cell? ⟨w.heap.size,j,none⟩=some (.int .u32 (((jk bs t).getD j 0:Nat):Int)):=by
 rw[cell_of_row wr _ j _ _ _ h.box];have h1:j<(jk bs t).length:=by rw[fC]; exact hj
 rw[List.getElem?_toArray,List.getElem?_append_left (by simpa using h1),List.getElem?_map,fQ h1]; rfl
theorem cW.free {w wr:World} {bs:List UInt8} {t:Nat} (h:cW w bs t wr) (j:Nat):wr.frozen? ⟨w.heap.size,j,none⟩=false:=frozen_of_row wr _ j _ _ h.box
theorem cW.here {w wr:World} {bs:List UInt8} {t:Nat} (h:cW w bs t wr) (ht:t<64):wr.cell? ⟨w.heap.size,t,none⟩=some (.int .u32 0):=by
 rw[cell_of_row wr _ t _ _ _ h.box,List.getElem?_toArray,List.getElem?_append_right (by simp[fC])];rw[List.length_map,fC,Nat.sub_self,show 64-t=(64-(t+1))+1 by omega,List.replicate_succ]; rfl
theorem cW.put {w wr:World} {bs:List UInt8} {t x:Nat} (h:cW w bs t wr) (ht:t<64) (hx:jk bs (t+1)=jk bs t++[x]):cW w bs (t+1) (wr.setCell ⟨w.heap.size,t,none⟩ (.int .u32 (x:Int))):=by
 refine⟨?_, ?_⟩
 ·rw[heap_setCell_same wr _ t _ _ _ h.box,hx]
  congr 2
  rw[List.setIfInBounds_toArray,List.set_append_right _ _ (by simp[fC])];rw[List.map_append,List.append_assoc]
  congr 2
  rw[List.length_map,fC,Nat.sub_self,show 64-t=(64-(t+1))+1 by omega,List.replicate_succ]
  rfl
 ·exact h.below.trans ⟨rfl,rfl,rfl,by simp[World.setCell],fun k hk=>heap_setCell_other wr _ k _ (by show k≠w.heap.size; omega)⟩
theorem cW.start (w:World) (bs:List UInt8):cW w bs 0 (w.alloc (.cells (List.replicate 64 (bp 0)).toArray 156)):=
 ⟨by rw[heap_alloc_new]; rfl,(Below.refl _ _).alloc (Nat.le_refl _) _⟩
theorem mJ (a b c d:UInt8):bits BinOp.or IntKind.u32 (bits BinOp.or IntKind.u32 (bits BinOp.or IntKind.u32 ((a.toNat:Int)%4294967296*16777216%4294967296) ((b.toNat:Int)%4294967296*65536%4294967296)) ((c.toNat:Int)%4294967296*256%4294967296)) ((d.toNat:Int)%4294967296)=((qL a b c d:Nat):Int):=by
 have ha:=a.toNat_lt;have hb:=b.toNat_lt;have hc:=c.toNat_lt;have hd:=d.toNat_lt;rw[show((a.toNat:Int)%4294967296*16777216%4294967296)=((a.toNat*2^24%4294967296:Nat):Int) by omega,show((b.toNat:Int)%4294967296*65536%4294967296)=((b.toNat*2^16%4294967296:Nat):Int) by omega,
  show((c.toNat:Int)%4294967296*256%4294967296)=((c.toNat*2^8%4294967296:Nat):Int) by omega,show((d.toNat:Int)%4294967296)=((d.toNat:Nat):Int) by omega,
  u32_or_nat _ _ (Nat.mod_lt _ (by decide)) (Nat.mod_lt _ (by decide)),u32_or_nat _ _ (gk (Nat.mod_lt _ (by decide)) (Nat.mod_lt _ (by decide))) (Nat.mod_lt _ (by decide)),
  u32_or_nat _ _ (gk (gk (Nat.mod_lt _ (by decide)) (Nat.mod_lt _ (by decide))) (Nat.mod_lt _ (by decide))) (sY _ rfl)]
 rfl
theorem nW {x:Nat} (hx:x<4294967296):bits BinOp.xor IntKind.u32 (bits BinOp.xor IntKind.u32 ((bD x 15:Nat):Int) ((bD x 13:Nat):Int)) ((x:Int)/1024)=((vu x:Nat):Int):=by
 rw[show((x:Int)/1024)=((x/2^10:Nat):Int) by simp,u32_xor_nat _ _ (ci _ hx) (ci _ hx),u32_xor_nat _ _ (ip (ci _ hx) (ci _ hx)) (Nat.lt_of_le_of_lt (Nat.div_le_self _ _) hx)]
 rfl
theorem nV {x:Nat} (hx:x<4294967296):bits BinOp.xor IntKind.u32 (bits BinOp.xor IntKind.u32 ((bD x 25:Nat):Int) ((bD x 14:Nat):Int)) ((x:Int)/8)=((vt x:Nat):Int):=by
 rw[show((x:Int)/8)=((x/2^3:Nat):Int) by simp,u32_xor_nat _ _ (ci _ hx) (ci _ hx),u32_xor_nat _ _ (ip (ci _ hx) (ci _ hx)) (Nat.lt_of_le_of_lt (Nat.div_le_self _ _) hx)]
 rfl
theorem cW.next {w wr w2:World} {bs:List UInt8} {t:Nat} (h:cW w bs t wr) (hb:Below wr.heap.size wr w2):cW w bs t w2:=⟨(hb.block _ (lt_of_block h.box)).trans h.box,h.below.trans (hb.mono h.below.size)⟩
theorem cW.drew {w wr:World} {bs:List UInt8} {t:Nat} (h:cW w bs t wr):cW w bs t wr.drew:=⟨h.box,h.below.trans (Below.refl _ _).drew⟩
theorem pO {bs:List UInt8} {j:Nat} (h:j<bs.length):bs[j]? =some (bs.getD j 0):=by simp[List.getD_eq_getElem?_getD,h]
def uv (v r:V8) (j:Nat):List Nat:=(ov v r).list.take j++v.list.drop j
structure dK (sb : Nat) (v r : V8) (tl : List Value) (ty : TypeId) (W1 wq : World) (j : Nat) : Prop where
 box:wq.heap[sb]? =some (.cells ((uv v r j).map bp++tl).toArray ty (0,0))
 grown:W1.grownBy wq (some sb)
theorem dK.start {sb:Nat} {v r:V8} {tl:List Value} {ty:TypeId} {W1 wq:World} (h:W1.heap[sb]? =some (.cells (v.list.map bp++tl).toArray ty (0,0))) (hb:Below W1.heap.size W1 wq):dK sb v r tl ty W1 wq 0:=
 ⟨(hb.block sb (lt_of_block h)).trans h,⟨hb.os,hb.tape,hb.output,hb.size,fun k hk _=>hb.block k hk⟩⟩
theorem dK.keep {sb:Nat} {v r:V8} {tl:List Value} {ty:TypeId} {W1 wq:World} {j:Nat} (h:dK sb v r tl ty W1 wq j) {b:Nat} {o:Obj} (hb:W1.heap[b]? =some o) (hne:sb≠b):wq.heap[b]? =some o:=
 (h.grown.block b (lt_of_block hb) (fun e=>hne (Option.some.inj e).symm)).trans hb
theorem dK.free {sb:Nat} {v r:V8} {tl:List Value} {ty:TypeId} {W1 wq:World} {j:Nat} (h:dK sb v r tl ty W1 wq j) (k:Nat):wq.frozen? ⟨sb,k,none⟩=false:=frozen_of_row wq _ k _ _ h.box
theorem yP (v r:V8) {j:Nat} (h:j<8) (tl:List Value):((uv v r j).map bp++tl)[j]? =some (bp (v.list.getD j 0)):=by
 have hc:j=0\/j=1\/j=2\/j=3\/j=4\/j=5\/j=6\/j=7:=by omega
 rcases hc with rfl | rfl | rfl | rfl | rfl | rfl | rfl | rfl<;> rfl
theorem yQ (v r:V8) {j:Nat} (h:j<8) (tl:List Value):((uv v r j).map bp++tl).set j (bp (jX (v.list.getD j 0) (r.list.getD j 0)))=(uv v r (j+1)).map bp++tl:=by
 have hc:j=0\/j=1\/j=2\/j=3\/j=4\/j=5\/j=6\/j=7:=by omega
 rcases hc with rfl | rfl | rfl | rfl | rfl | rfl | rfl | rfl<;> rfl
theorem dK.here {sb:Nat} {v r:V8} {tl:List Value} {ty:TypeId} {W1 wq:World} {j:Nat} (h:dK sb v r tl ty W1 wq j) (hj:j<8):wq.cell? ⟨sb,j,none⟩=some (.int .u32 ((v.list.getD j 0:Nat):Int)):=by
 rw[cell_of_row wq _ _ _ _ _ h.box,List.getElem?_toArray,yP v r hj tl]; rfl
theorem dK.put {sb:Nat} {v r:V8} {tl:List Value} {ty:TypeId} {W1 wq:World} {j:Nat} (h:dK sb v r tl ty W1 wq j) (hj:j<8) {x:Value} (hx:x=bp (jX (v.list.getD j 0) (r.list.getD j 0))):dK sb v r tl ty W1 (wq.setCell ⟨sb,j,none⟩ x) (j+1):=by
 subst hx;refine⟨?_, ?_⟩
 ·rw[heap_setCell_same wq _ _ _ _ _ h.box,List.setIfInBounds_toArray,yQ v r hj tl]
 ·have h2:=h.grown;exact⟨h2.os,h2.tape,h2.output,by simpa [World.setCell]using h2.size,fun k hk hne=>(heap_setCell_other wq _ k _ (fun e=>hne (by rw[e]))).trans (h2.block k hk hne)⟩
theorem dK.drew {sb:Nat} {v r:V8} {tl:List Value} {ty:TypeId} {W1 wq:World} {j:Nat} (h:dK sb v r tl ty W1 wq j):dK sb v r tl ty W1 wq.drew j:=
 ⟨h.box,⟨h.grown.os,h.grown.tape,h.grown.output,h.grown.size,h.grown.block⟩⟩
theorem zw (v:V8) {j:Nat} (h:j<8):([.int .u32 (v.a:Int), .int .u32 (v.b:Int), .int .u32 (v.c:Int), .int .u32 (v.d:Int), .int .u32 (v.e:Int), .int .u32 (v.f:Int), .int .u32 (v.g:Int), .int .u32 (v.h:Int)]:List Value)[j]? =some (.int .u32 ((v.list.getD j 0:Nat):Int)):=by
 have hc:j=0\/j=1\/j=2\/j=3\/j=4\/j=5\/j=6\/j=7:=by omega
 rcases hc with rfl | rfl | rfl | rfl | rfl | rfl | rfl | rfl<;> rfl
theorem wU (r:V8) {j:Nat} (h:j<8) (w:World):(Instr.index 101 (.agg #[.int .u32 (r.a:Int), .int .u32 (r.b:Int), .int .u32 (r.c:Int), .int .u32 (r.d:Int), .int .u32 (r.e:Int), .int .u32 (r.f:Int), .int .u32 (r.g:Int), .int .u32 (r.h:Int)]) (.int .i64 (j:Int))).run Tryz.prog w= .ok (.int .u32 ((r.list.getD j 0:Nat):Int)) w:=by
 have hc:j=0\/j=1\/j=2\/j=3\/j=4\/j=5\/j=6\/j=7:=by omega
 rcases hc with rfl | rfl | rfl | rfl | rfl | rfl | rfl | rfl<;> (show _=_; kernel_rfl)
theorem kT {w:World} {sb:Nat} {v:V8} {tl:List Value} {ty:TypeId} (h:w.heap[sb]? =some (.cells (v.list.map bp++tl).toArray ty (0,0))):w.rangeAt sb 0 (v.list.map bp):=by
 intro j x hj;rw[cell_of_row w _ _ _ _ _ h,Nat.zero_add,List.getElem?_toArray,List.getElem?_append_left (List.getElem?_eq_some_iff.1 hj).1];exact hj
theorem gU (sb:Nat) (v:V8) (tl:List Value) (ty:TypeId) (bk o cap:Nat) (bs:List UInt8) (w:World) (hbox:w.heap[sb]? =some (.cells (v.list.map bp++tl).toArray ty (0,0))) (hv:v.Ok) (hl:bs.length=64) (hcap:64<=cap) (_hcapm:cap<=maxLen)
  (hbs: ∀j b,bs[j]? =some b->w.cell? ⟨bk,o+j,none⟩=some (u8W b)) (hK:eP w) (hKlt:4<w.heap.size):
  Calls Tryz.prog 177 #[.pointer (some ⟨sb,0,none⟩), .slice (some ⟨bk,o,none⟩) 64 cap] w fun e w'=>e= .returned (.tuple #[])/\w'.heap[sb]? =some (.cells ((iR v bs).list.map bp++tl).toArray ty (0,0))/\w.grownBy w' (some sb):=by
 have HX:=aa hbox;have HS:=aa hbs;have HK:=aa hK;clear hbox hbs hK
 go_enter Tryz.func177,Tryz.ntmps177
 go_wp2_with fail;have HA0:=aa (cW.start w bs)
 go_loopw [27] (fun i wr=> ∃t:Nat,t<=64/\i= .int .i64 (t:Int)/\cW w bs t wr) (fun i _=>64-(intOf i).toNat)
 case atStart=>exact⟨0,by omega,rfl,HA0.out⟩
 case round=>
  obtain⟨t,ht,rfl,hs⟩:=hrel;have HA:=aa hs;have hz:=hs.below.size;clear hs
  by_cases h16:t<16
  ·obtain⟨b0,hb0⟩: ∃b,b=bs.getD (4*t) 0:=⟨_,rfl⟩;obtain⟨b1,hb1⟩: ∃b,b=bs.getD (4*t+1) 0:=⟨_,rfl⟩;obtain⟨b2,hb2⟩: ∃b,b=bs.getD (4*t+2) 0:=⟨_,rfl⟩;obtain⟨b3,hb3⟩: ∃b,b=bs.getD (4*t+3) 0:=⟨_,rfl⟩;have q0:=HS.out (4*t) (bs.getD (4*t) 0) (pO (by omega));have q1:=HS.out (4*t+1) (bs.getD (4*t+1) 0) (pO (by omega));have q2:=HS.out (4*t+2) (bs.getD (4*t+2) 0) (pO (by omega))
   have q3:=HS.out (4*t+3) (bs.getD (4*t+3) 0) (pO (by omega));have HW:=aa (show oe bs t=qL b0 b1 b2 b3 by rw[hb0,hb1,hb2,hb3]; rfl);rw[<-hb0]at q0;rw[<-hb1]at q1;rw[<-hb2]at q2;rw[<-hb3]at q3;have hbk:=block_lt_of_cell q0;simp only[u8W]at q0 q1 q2 q3;have c0:=(HA.out.below.cell (p:=⟨bk,o+4*t,none⟩) hbk).trans q0;have c1:=(HA.out.below.cell (p:=⟨bk,o+(4*t+1),none⟩) hbk).trans q1
   rw[<-Nat.add_assoc]at c1;have c2:=(HA.out.below.cell (p:=⟨bk,o+(4*t+2),none⟩) hbk).trans q2;rw[<-Nat.add_assoc]at c2;have c3:=(HA.out.below.cell (p:=⟨bk,o+(4*t+3),none⟩) hbk).trans q3;rw[<-Nat.add_assoc]at c3;have ch:=HA.out.here (by omega);have cf:=HA.out.free t;clear q0 q1 q2 q3 hb0 hb1 hb2 hb3;go_wp2_with fail;refine ak [some 24,none] (by kernel_rfl) (by kernel_rfl) (by kernel_rfl) ?_
   simp only[bb,List.take_succ_cons,List.take_zero,List.drop_succ_cons,List.drop_zero]
   repeat (first | (refine am rfl ?_; simp only[Act.put,aD,aE,aF]) | (refine aA rfl (fun K hK=> ?_); go_simp; refine hK _ ?_; clear hK K))
   refine az ?_;refine bt rfl (fun K hK=> ?_);go_wp2_with fail
   go_roundw
   case rel=>
    rw[mJ,<-HW.out];exact⟨t+1,by omega,by simp,(HA.out.put (by omega) (tK bs h16)).drew⟩
   case measure=>simp[intOf]; omega
  ·by_cases h64:t<64
   ·have h17:16<=t:=by omega
    obtain⟨j2,hj2⟩: ∃j,j=t-2:=⟨_,rfl⟩;obtain⟨j15,hj15⟩: ∃j,j=t-15:=⟨_,rfl⟩;obtain⟨j7,hj7⟩: ∃j,j=t-7:=⟨_,rfl⟩;obtain⟨j16,hj16⟩: ∃j,j=t-16:=⟨_,rfl⟩;have c2:=HA.out.get (j:=j2) (by omega);have c15:=HA.out.get (j:=j15) (by omega);have c7:=HA.out.get (j:=j7) (by omega);have c16:=HA.out.get (j:=j16) (by omega);have e2:IntKind.i64.wrap ((t:Int)-2)=(j2:Int):=by rw[IntKind.wrap_i64]; omega
    have e15:IntKind.i64.wrap ((t:Int)-15)=(j15:Int):=by rw[IntKind.wrap_i64]; omega
    have e7:IntKind.i64.wrap ((t:Int)-7)=(j7:Int):=by rw[IntKind.wrap_i64]; omega
    have e16:IntKind.i64.wrap ((t:Int)-16)=(j16:Int):=by rw[IntKind.wrap_i64]; omega
    have l2:(j2:Int)<64:=by omega
    have l15:(j15:Int)<64:=by omega
    have l7:(j7:Int)<64:=by omega
    have l16:(j16:Int)<64:=by omega
    have ch:=HA.out.here (by omega);have cf:=HA.out.free t;have HJ:=aa (show j2=t-2/\j15=t-15/\j7=t-7/\j16=t-16 from⟨hj2,hj15,hj7,hj16⟩);clear hj2 hj15 hj7 hj16;obtain⟨x2,hx2⟩: ∃x,x=(jk bs t).getD j2 0:=⟨_,rfl⟩;obtain⟨x15,hx15⟩: ∃x,x=(jk bs t).getD j15 0:=⟨_,rfl⟩;obtain⟨x7,hx7⟩: ∃x,x=(jk bs t).getD j7 0:=⟨_,rfl⟩;obtain⟨x16,hx16⟩: ∃x,x=(jk bs t).getD j16 0:=⟨_,rfl⟩
    rw[<-hx2]at c2;rw[<-hx15]at c15;rw[<-hx7]at c7;rw[<-hx16]at c16;have o2:x2<4294967296:=by rw[hx2]; exact(oY bs t).get j2
    have o15:x15<4294967296:=by rw[hx15]; exact(oY bs t).get j15
    have HN:=aa (show gR (jk bs t)=(((vu x2+x7)%4294967296+vt x15)%4294967296+x16)%4294967296 by
     unfold gR;rw[fC,hx2,hx15,hx7,hx16,HJ.out.1,HJ.out.2.1,HJ.out.2.2.1,HJ.out.2.2.2])
    clear hx2 hx15 hx7 hx16;go_wp2_with fail;refine ak [some 10] (by kernel_rfl) (by kernel_rfl) (by kernel_rfl) ?_;simp only[bb,List.take_succ_cons,List.take_zero]
    repeat (first | (refine am rfl ?_; simp only[Act.put,aD,aE,aF]) | (refine aA rfl (fun K hK=> ?_); go_simp; refine hK _ ?_; clear hK K))
    refine az ?_;go_wp2_with fail;refine(uQ _ _ o2).mono ?_;rintro e W1 ⟨rfl,rfl⟩;go_wp2_with fail;refine(uO _ _ o2).mono ?_;rintro e W1 ⟨rfl,rfl⟩;go_wp2_with fail;refine(uT _ _ o15).mono ?_;rintro e W1 ⟨rfl,rfl⟩;go_wp2_with fail;refine(uP _ _ o15).mono ?_;rintro e W1 ⟨rfl,rfl⟩;rw[nW o2];go_wp2_with fail;refine ak [some 15,none] (by kernel_rfl) (by kernel_rfl) (by kernel_rfl) ?_
    simp only[bb,List.take_succ_cons,List.take_zero,List.drop_succ_cons,List.drop_zero]
    repeat (first | (refine am rfl ?_; simp only[Act.put,aD,aE,aF]) | (refine aA rfl (fun K hK=> ?_); go_simp; refine hK _ ?_; clear hK K))
    refine az ?_;refine bt rfl (fun K hK=> ?_);go_wp2_with fail
    go_roundw
    case rel=>
     rw[nV o15];have HV:((((vu x2:Nat):Int)+(x7:Int)+((vt x15:Nat):Int)+(x16:Int))%4294967296)=((gR (jk bs t):Nat):Int):=by rw[HN.out]; omega
     rw[HV];exact⟨t+1,by omega,by simp,(HA.out.put (by omega) (qK bs h17)).drew.drew⟩
    case measure=>simp[intOf]; omega
   ·obtain rfl:t=64:=by omega
    have HB1:=aa ((HX.out▸HA.out.below.block sb (lt_of_block HX.out):wr.heap[sb]? =some (.cells (v.list.map bp++tl).toArray ty (0,0))));have HR:=aa (kT HB1.out);go_wp2_with (refine wpList_load_mid rfl 101 _ rfl sb 0 rfl [.int .u32 (v.a:Int), .int .u32 (v.b:Int), .int .u32 (v.c:Int), .int .u32 (v.d:Int), .int .u32 (v.e:Int), .int .u32 (v.f:Int), .int .u32 (v.g:Int), .int .u32 (v.h:Int)] _ HR.out Tryz.underlying101 rfl (by kernel_rfl) ?_)
    obtain⟨W1,hW1⟩: ∃W1,W1=wr.alloc (.cells #[.int .u32 (v.a:Int), .int .u32 (v.b:Int), .int .u32 (v.c:Int), .int .u32 (v.d:Int), .int .u32 (v.e:Int), .int .u32 (v.f:Int), .int .u32 (v.g:Int), .int .u32 (v.h:Int)] 101):=⟨_,rfl⟩;rw[<-hW1];obtain⟨vb,hvb⟩: ∃vb,wr.heap.size=vb:=⟨_,rfl⟩;have HVB:=aa (show W1.heap[vb]? =some (.cells #[.int .u32 (v.a:Int), .int .u32 (v.b:Int), .int .u32 (v.c:Int), .int .u32 (v.d:Int), .int .u32 (v.e:Int), .int .u32 (v.f:Int), .int .u32 (v.g:Int), .int .u32 (v.h:Int)] 101 (0,0)) by rw[hW1,<-hvb]; exact heap_alloc_new _ _)
    have HBW:=aa (show Below wr.heap.size wr W1 by rw[hW1]; exact(Below.refl _ _).alloc (Nat.le_refl _) _);have HA1:=aa (HA.out.next HBW.out);have HB2:=aa ((HBW.out.block sb (lt_of_block HB1.out)).trans HB1.out);rw[hvb];have HVL:=aa (show sb<vb by rw[<-hvb]; exact lt_of_block HB1.out);clear hW1 hvb;have HOK:=aa (rQ bs (v:=v) 0 hv);have v0:W1.cell? ⟨vb,0,none⟩=some (.int .u32 (v.a:Int)):=(cell_of_row W1 _ _ _ _ _ HVB.out).trans rfl
    have v1:W1.cell? ⟨vb,1,none⟩=some (.int .u32 (v.b:Int)):=(cell_of_row W1 _ _ _ _ _ HVB.out).trans rfl;have v2:W1.cell? ⟨vb,2,none⟩=some (.int .u32 (v.c:Int)):=(cell_of_row W1 _ _ _ _ _ HVB.out).trans rfl;have v3:W1.cell? ⟨vb,3,none⟩=some (.int .u32 (v.d:Int)):=(cell_of_row W1 _ _ _ _ _ HVB.out).trans rfl;have v4:W1.cell? ⟨vb,4,none⟩=some (.int .u32 (v.e:Int)):=(cell_of_row W1 _ _ _ _ _ HVB.out).trans rfl
    have v5:W1.cell? ⟨vb,5,none⟩=some (.int .u32 (v.f:Int)):=(cell_of_row W1 _ _ _ _ _ HVB.out).trans rfl;have v6:W1.cell? ⟨vb,6,none⟩=some (.int .u32 (v.g:Int)):=(cell_of_row W1 _ _ _ _ _ HVB.out).trans rfl;have v7:W1.cell? ⟨vb,7,none⟩=some (.int .u32 (v.h:Int)):=(cell_of_row W1 _ _ _ _ _ HVB.out).trans rfl;refine ak [some 24] (by kernel_rfl) (by kernel_rfl) (by kernel_rfl) ?_
    simp only[bb,List.take_succ_cons,List.take_zero]
    repeat (first | (refine am rfl ?_; simp only[Act.put,aD,aE,aF]) | (refine aA rfl (fun K hK=> ?_); go_simp; refine hK _ ?_; clear hK K))
    refine az ?_;go_wp2_with fail
    go_loopw [12,13,14,15,16,17,18,19,123] (fun sa sb2 sc sd se sf sg sh i wq=> ∃(t:Nat) (r:V8),t<=64/\i= .int .i64 (t:Int)/\r=rTo bs v t/\sa= .int .u32 (r.a:Int)/\sb2= .int .u32 (r.b:Int)/\sc= .int .u32 (r.c:Int)/\sd= .int .u32 (r.d:Int)/\se= .int .u32 (r.e:Int)/\sf= .int .u32 (r.f:Int)/\sg= .int .u32 (r.g:Int)/\sh= .int .u32 (r.h:Int)/\Below W1.heap.size W1 wq) (fun _ _ _ _ _ _ _ _ i _=>64-(intOf i).toNat)
    case atStart=>exact⟨0,v,by omega,rfl,rfl,rfl,rfl,rfl,rfl,rfl,rfl,rfl,rfl,(Below.refl _ _).drew⟩
    case round=>
     obtain⟨t,r,ht2,rfl,hr,rfl,rfl,rfl,rfl,rfl,rfl,rfl,rfl,hbq⟩:=hrel;have HRT:=aa hr;have HBQ:=aa hbq;have HRO:=aa (show r.Ok by rw[hr]; exact rQ bs t hv);clear hr hbq v0 v1 v2 v3 v4 v5 v6 v7
     by_cases h65:t<64
     ·obtain⟨k,hk⟩: ∃k,k=kc.getD t 0:=⟨_,rfl⟩;obtain⟨x,hx⟩: ∃x,x=(wsP bs).getD t 0:=⟨_,rfl⟩;have ck:=HK.out t k (by rw[hk]; exact fQ (by rw[oK]; exact h65));have ck2:=(HBQ.out.cell (p:=⟨4,t,none⟩) (by have:=HA1.out.below.size; show 4<_; omega)).trans ((HA1.out.below.cell (p:=⟨4,t,none⟩) hKlt).trans ck);have cx:=(HBQ.out.cell (p:=⟨w.heap.size,t,none⟩) (lt_of_block HA1.out.box)).trans (HA1.out.get h65)
      rw[oX,<-hx]at cx;have HKX:=aa (And.intro hk hx);clear ck hk hx;unfold bp at ck2;go_wp2_with fail;refine(uU _ _ HRO.out.e).mono ?_;rintro e W2 ⟨rfl,rfl⟩;go_wp2_with fail;refine(uS _ _ HRO.out.e).mono ?_;rintro e W2 ⟨rfl,rfl⟩;go_wp2_with fail;refine(xt _ _ HRO.out.e).mono ?_;rintro e W2 ⟨rfl,rfl⟩;go_wp2_with fail;refine(uV _ _ HRO.out.a).mono ?_;rintro e W2 ⟨rfl,rfl⟩
      go_wp2_with fail;refine(uR _ _ HRO.out.a).mono ?_;rintro e W2 ⟨rfl,rfl⟩;go_wp2_with fail;refine(uN _ _ HRO.out.a).mono ?_;rintro e W2 ⟨rfl,rfl⟩;go_wp2_with fail;refine ak [some 21] (by kernel_rfl) (by kernel_rfl) (by kernel_rfl) ?_;simp only[bb,List.take_succ_cons,List.take_zero]
      repeat (first | (refine am rfl ?_; simp only[Act.put,aD,aE,aF]) | (refine aA rfl (fun K hK=> ?_); go_simp; refine hK _ ?_; clear hK K))
      refine az ?_;go_wp2_with fail
      go_roundw
      case rel=>
       rw[tI HRO.out,td HRO.out,tH HRO.out,tz HRO.out];refine⟨t+1,rS r k x,by omega,by simp, ?_, ?_,rfl,rfl,rfl, ?_,rfl,rfl,rfl, ?_⟩
       ·rw[qn bs v h65,HRT.out,HKX.out.1,HKX.out.2]
       ·show _=Value.int .u32 (((xX r k x+t2P r)%4294967296:Nat):Int)
        exact congrArg (Value.int .u32) (by rw[sI,xM]; omega)
       ·show _=Value.int .u32 (((r.d+xX r k x)%4294967296:Nat):Int)
        exact congrArg (Value.int .u32) (by rw[sI]; omega)
       ·exact HBQ.out.trans (Below.refl _ _).drew
      case measure=>simp[intOf]; omega
     ·obtain rfl:t=64:=by omega
      go_wp2_with (refine wpList_build rfl 101 _ rfl (by kernel_rfl) ?_);rw[show(Tryz.prog.built 101 [(0, .int .u32 (r.a:Int)),(1, .int .u32 (r.b:Int)),(2, .int .u32 (r.c:Int)),(3, .int .u32 (r.d:Int)),(4, .int .u32 (r.e:Int)),(5, .int .u32 (r.f:Int)),(6, .int .u32 (r.g:Int)),(7, .int .u32 (r.h:Int))]).getD #[]= #[.int .u32 (r.a:Int), .int .u32 (r.b:Int), .int .u32 (r.c:Int), .int .u32 (r.d:Int), .int .u32 (r.e:Int), .int .u32 (r.f:Int), .int .u32 (r.g:Int), .int .u32 (r.h:Int)] by kernel_rfl]
      have HM0:=aa (dK.start (r:=r) HB2.out HBQ.out)
      go_loopw [197] (fun i wq=> ∃j:Nat,j<=8/\i= .int .i64 (j:Int)/\dK sb v r tl ty W1 wq j) (fun i _=>8-(intOf i).toNat)
      case atStart=>exact⟨0,by omega,rfl,HM0.out⟩
      case round=>
       obtain⟨j,hj,rfl,hm⟩:=hrel;have HM:=aa hm;clear hm
       by_cases h8:j<8
       ·have cs:=HM.out.here h8;have cf:=HM.out.free j;have hI: ∀w,(Instr.index 101 (.agg #[.int .u32 (r.a:Int), .int .u32 (r.b:Int), .int .u32 (r.c:Int), .int .u32 (r.d:Int), .int .u32 (r.e:Int), .int .u32 (r.f:Int), .int .u32 (r.g:Int), .int .u32 (r.h:Int)]) (.int .i64 (j:Int))).run Tryz.prog w= .ok (.int .u32 ((r.list.getD j 0:Nat):Int)) w:=wU r h8;have cv:wr.cell? ⟨vb,j,none⟩=some (.int .u32 ((v.list.getD j 0:Nat):Int)):=(cell_of_row wr _ _ _ _ _ (HM.out.keep HVB.out (by have:=HVL.out; omega))).trans (by rw[List.getElem?_toArray]; exact zw v h8)
        obtain⟨x,hx⟩: ∃x,x=r.list.getD j 0:=⟨_,rfl⟩;obtain⟨y,hy⟩: ∃y,y=v.list.getD j 0:=⟨_,rfl⟩;rw[<-hx]at hI;rw[<-hy]at cv cs;have HXY:=aa (And.intro hx hy);clear hx hy;have h8i:(j:Int)<8:=by omega
        go_wp2_with fail;refine ak [some 10,none] (by kernel_rfl) (by kernel_rfl) (by kernel_rfl) ?_;simp only[bb,List.take_succ_cons,List.take_zero,List.drop_succ_cons,List.drop_zero]
        repeat (first | (refine am rfl ?_; simp only[Act.put,aD,aE,aF]) | (refine aA rfl (fun K hK=> ?_); go_simp; refine hK _ ?_; clear hK K))
        refine az ?_;refine bt rfl (fun K hK=> ?_);go_wp2_with fail
        go_roundw
        case rel=>
         refine⟨j+1,by omega,by simp, ?_⟩;exact(HM.out.put h8 (by rw[<-HXY.out.1,<-HXY.out.2]; unfold bp jX; simp)).drew
        case measure=>simp[intOf]; omega
       ·obtain rfl:j=8:=by omega
        go_wp2_with fail
        go_end0
        refine⟨rfl, ?_, ?_⟩
        ·rw[qm,<-HRT.out];have:=HM.out.box;rw[show uv v r 8=(ov v r).list from rfl]at this;exact this
        ·have h1:=HA1.out.below;have h2:=HM.out.grown;exact⟨h2.os.trans h1.os,h2.tape.trans h1.tape,h2.output.trans h1.output,Nat.le_trans h1.size h2.size,fun k hk hn=>(h2.block k (Nat.lt_of_lt_of_le hk h1.size) hn).trans (h1.block k hk)⟩
end Go.Proofs.YtnjkpcalgoefhaaGreatDoor
namespace Go.Proofs.YtnjkpcalgoefhaaGreatDoor
open Go.RowKit
structure cX (P : Program) (t e : TypeId) (sz bytes : Nat) : Prop where
 ht:P.underlying t=some (.slice e)
 hi: ∃i z,P.info? e=some i/\i.zero=some z/\i.size=sz/\i.bytes=bytes/\z.cells.size=sz
 pos:0<sz
 small:bytes<=128
theorem cX.mk' {P:Program} {t e:TypeId} {sz bytes:Nat} {z:Value} (ht:P.underlying t=some (.slice e)) (hi:(P.info? e).map (fun i=>(i.zero,i.size,i.bytes))=some (some z,sz,bytes)) (hz:z.cells.size=sz) (hp:0<sz) (hb:bytes<=128):cX P t e sz bytes:=by
 obtain⟨i,h1,h2,h3,h4⟩:=info_parts hi;exact⟨ht,⟨i,z,h1,h2,h3,h4,hz⟩,hp,hb⟩
theorem kr {P:Program} (w:World) (base:Nat) (t ty e:TypeId) (i:TypeInfo) (z:Value) (size bytes:Nat) (ht:P.underlying t=some (.slice e)) (hi:P.info? e=some i) (hz:i.zero=some z)
  (hsize:i.size=size) (hby:i.bytes=bytes) (hzs:z.cells.size=size)
  (v:Value) (n:Nat) (xs:List Value) (hown:w.ownsRow base e size v n xs)
  (a:Addr) (m c:Nat) (news:List Value) (hl:news.length=m*size) (hm0:0<m) (hnews: ∀j u,news[j]? =some u->w.cell? (a.add j)=some u) (h1: ∀u∈news,u.oneCell'=true)
  (h63:n+m<=maxLen) (hbytes:(n+m)*bytes<=140737488355328) {v':Value} {w':World}
  (hrun:(Builtin.append_ #[t,t] ty #[v, .slice (some a) m c]).run P w= .ok v' w'):v'.ownBlock=v.ownBlock\/v'.ownBlock=some w.heap.size:=by
 subst hsize;subst hby
 have hsmall:n+m<=9223372036854775807:=by simp only[maxLen]at h63; omega
 rcases hown.2 with⟨rfl,rfl⟩ | ⟨g,cap,cur,rfl,hbg,hg,hnc,hcm,hcs,htake⟩
 ·have hx:xs=[]:=List.eq_nil_of_length_eq_zero (by simpa using hown.1);subst hx;have hr:=run_append_nil (P:=P) w t ty e i z ht hi hz a m c news hl hnews (by omega) (by omega) (by have hb:=hbytes; simp only[Nat.zero_add]at hb; omega);rw[hr]at hrun
  cases hrun
  exact .inr rfl
 ·by_cases hroom:n+m<=cap
  ·have hfit:n*i.size+news.length<=cur.size:=by rw[hl,hcs,<-Nat.add_mul]; exact Nat.mul_le_mul_right _ hroom
   have hr:=run_append_room (P:=P) w t ty e i ht hi g n cap cur hg a m c news hl hnews h1 hroom hfit;rw[hr]at hrun
   cases hrun
   exact .inl rfl
  ·have holds: ∀j u,xs[j]? =some u->w.cell? ((⟨g,0,none⟩:Addr).add j)=some u:=hown.cells (g:=g) rfl;have hr:=run_append_grow (P:=P) w t ty e i z ht hi hz ⟨g,0,none⟩ n cap xs hown.1 holds a m c news hl hnews (by omega) (by omega) (growslice_fits (by omega) hbytes);rw[hr]at hrun
   cases hrun
   exact .inr rfl
theorem aS {P:Program} {ops:Array Oper} {rest:List Oper} {o:Oper} {a:Act} {Q:Exit->Act->World->Prop} {t e:TypeId} {sz bytes:Nat} (T:cX P t e sz bytes) (hgd:o.guard=none) (s x:Operand)
  (ho:o.op= .call {callee:= .builtin .append,args:= #[s,x],argTypes:= #[t,t]}) (base:Nat) (v:Value) (n:Nat) (xs:List Value) (hs:a.eval s=v) (w0:World) (news:List Value) (e2:TypeId)
  (hx:a.eval x= .slice (some ⟨w0.heap.size,0,none⟩) 1 1) (hl:news.length=sz) (h1: ∀u∈news,u.oneCell'=true) (hown:w0.ownsRow base e sz v n xs) (hn:n<1099511627775) (hbase:base<=w0.heap.size)
  (h: ∀v' w',w'.ownsRow base e sz v' (n+1) (xs++news)->w0.grownBy w' v.ownBlock->v'≠ .slice none 0 0->(∀k,v'.ownBlock=some k->v.ownBlock=some k\/w0.heap.size<=k)->wpList P ops Q rest (a.put o.dst v') w'):wpList P ops Q (o::rest) a (w0.alloc (.cells news.toArray e2)):=by
 obtain⟨ht,⟨i,z,h11,h12,h13,h14,h15⟩,hpos,hsm⟩:=T;have hnews: ∀(j:Nat) u,news[j]? =some u->(w0.alloc (.cells news.toArray e2)).cell? ((⟨w0.heap.size,0,none⟩:Addr).add j)=some u:=by
  intro j u hj;have hadd:(⟨w0.heap.size,0,none⟩:Addr).add j=⟨w0.heap.size,j,none⟩:=by unfold Addr.add; split<;> simp_all
  rw[hadd];have hh:=heap_alloc_new w0 (.cells news.toArray e2);simp only[World.cell?,hh];simp[hj]
 have h63:n+1<=maxLen:=by unfold maxLen; omega
 have hby:(n+1)*bytes<=140737488355328:=by
  have:(n+1)*bytes<=1099511627775*128:=Nat.mul_le_mul (by omega) hsm;omega
 have hl1:news.length=1*sz:=by rw[hl,Nat.one_mul]
 obtain⟨v',w',hr,h2,hg,hv⟩:=run_append_own (P:=P) (w0.alloc (.cells news.toArray e2)) base t o.type e i z sz bytes ht h11 h12 h13 h14 h15 hpos v n xs (hown.alloc _) ⟨w0.heap.size,0,none⟩ 1 1 news hl1 hnews h1 h63 hby (by simp; omega);have hpl:=kr (P:=P) (w0.alloc (.cells news.toArray e2)) base t o.type e i z sz bytes ht h11 h12 h13 h14 h15 v n xs (hown.alloc _) ⟨w0.heap.size,0,none⟩ 1 1 news hl1 (by omega) hnews h1 h63 hby hr
 refine wpList_plain hgd fun K hK=> ?_
 unfold Oper.wp execOp;simp only[ho,resolve,invoke,builtin,Sem.run_bind,Sem.run_pure,Result.andThen_ok,List.map_toArray,List.map_cons,List.map_nil,hs,hx,hr];refine hK _ _ (h v' w' h2 ⟨hg.os,hg.tape,hg.output,by have:=hg.size; simp at this; omega,fun k hk hne=> ?_⟩ (fun e=>by have:=(hv.1 e).2; omega) ?_)
 ·rw[hg.block k (by simp; omega) hne];exact Below.heap_alloc _ _ _ hk
 ·intro k hk
  rcases hpl with hp | hp
  ·left; rw[<-hp]; exact hk
  ·right; rw[hp]at hk; cases hk; simp
theorem im {P:Program} {ops:Array Oper} {rest:List Oper} {o:Oper} {a:Act} {Q:Exit->Act->World->Prop} {t e:TypeId} {sz bytes:Nat} (T:cX P t e sz bytes) (hgd:o.guard=none) (s x:Operand)
  (ho:o.op= .call {callee:= .builtin .append,args:= #[s,x],argTypes:= #[t,t]}) (base:Nat) (v:Value) (n:Nat) (xs:List Value) (hs:a.eval s=v) (w0:World) (news:List Value) (e2:TypeId)
  (hx:a.eval x= .slice (some ⟨w0.heap.size,0,none⟩) 1 1) (hl:news.length=sz) (h1: ∀u∈news,u.oneCell'=true) (hown:w0.ownsRow base e sz v n xs) (hn:n<1099511627775) (hbase:base<=w0.heap.size)
  (h: ∀v' w',w'.ownsRow base e sz v' (n+1) (xs++news)->w0.grownBy w' v.ownBlock->v'≠ .slice none 0 0->wpList P ops Q rest (a.put o.dst v') w'):wpList P ops Q (o::rest) a (w0.alloc (.cells news.toArray e2)):=
 aS T hgd s x ho base v n xs hs w0 news e2 hx hl h1 hown hn hbase fun v' w' h2 h3 h4 _=>h v' w' h2 h3 h4
theorem bu {w:World} {base:Nat} {e:TypeId} {sz:Nat} {v:Value} {n:Nat} {xs:List Value} (h:w.ownsRow base e sz v n xs):aB (fun k=>base<=k/\v.ownBlock=some k) w sz v n xs:=by
 obtain⟨hl,h2⟩:=h
 rcases h2 with⟨rfl,rfl⟩ | ⟨g,cap,cur,rfl,hg,hh,hn,hcap,hsz,htake⟩
 ·exact⟨hl,none,0,rfl,Nat.le_refl _,by unfold maxLen; omega, .inl rfl⟩
 ·refine⟨hl,_,cap,rfl,hn,hcap, .inr ⟨g,0,rfl,⟨hg,rfl⟩,fun j u hj=> ?_⟩⟩;rw[Nat.zero_add,cell_of_row w g j cur e (0,0) hh];rw[<-htake,List.getElem?_take]at hj
  split at hj
  ·simpa using hj
  ·cases hj
theorem aB.weak {S T:Nat->Prop} {w:World} {sz:Nat} {v:Value} {n:Nat} {cells:List Value} (h:aB S w sz v n cells) (hs: ∀k,S k->T k):aB T w sz v n cells:=by
 obtain⟨hl,a,cap,hv,hn,hm,h0⟩:=h;refine⟨hl,a,cap,hv,hn,hm, ?_⟩
 rcases h0 with h0 | ⟨b,o,ha,hb,hc⟩
 ·exact .inl h0
 ·exact .inr ⟨b,o,ha,hs b hb,hc⟩
theorem aP {B:Nat} {w0 w w':World} {base:Nat} {e:TypeId} {sz:Nat} {v:Value} {n:Nat} {xs:List Value} (hb:Below B w0 w) (ho:w.ownsRow base e sz v n xs) (hg:w.grownBy w' v.ownBlock) (h1:B<=base) (h2:B<=w.heap.size):Below B w0 w':=
 hb.grown hg h2 (fun k hk=>by have:=(ho.lt k hk).1; omega)
theorem aj {w:World} {base:Nat} {e:TypeId} {sz:Nat} {v:Value} {n:Nat} {xs:List Value} (h:w.ownsRow base e sz v n xs): ∃a cap,v= .slice a n cap/\n<=cap/\cap<=maxLen:=by
 obtain⟨_,h2⟩:=h
 rcases h2 with⟨rfl,rfl⟩ | ⟨g,cap,cur,rfl,hg,hh,hn,hcap,hsz,htake⟩
 ·exact⟨_,_,rfl,Nat.le_refl _,by unfold maxLen; omega⟩
 ·exact⟨_,_,rfl,hn,hcap⟩
def aV {α:Type} (R:List Value->α->Prop):List Value->List α->Prop
 | cells,[]=>cells=[]
 | cells,x::xs=> ∃c rest,cells=c++rest/\R c x/\aV R rest xs
section
variable {α : Type} {R R' : List Value → α → Prop} {sz : Nat}
theorem aV.mono : ∀ {xs:List α} {cells:List Value},(∀c x,x∈xs->R c x->R' c x)->aV R cells xs->aV R' cells xs
 | [],_,_,h=>h
 | x::xs,cells,hm,h=>by
  obtain⟨c,rest,rfl,hc,hr⟩:=h;exact⟨c,rest,rfl,hm c x (by simp) hc,aV.mono (fun c y hy=>hm c y (by simp[hy])) hr⟩
theorem aV.snoc : ∀ {xs:List α} {cells c:List Value} {x:α},aV R cells xs->R c x->aV R (cells++c) (xs++[x])
 | [],cells,c,x,h,hc=>by
  have:cells=[]:=h;subst this;exact⟨c,[],by simp,hc,rfl⟩
 | y::xs,cells,c,x,h,hc=>by
  obtain⟨d,rest,rfl,hd,hr⟩:=h;exact⟨d,rest++c,by simp,hd,aV.snoc hr hc⟩
theorem aV.len (hs: ∀c x,R c x->c.length=sz): ∀ {xs:List α} {cells:List Value},aV R cells xs->cells.length=xs.length*sz
 | [],cells,h=>by have:cells=[]:=h; subst this; simp
 | x::xs,cells,h=>by
  obtain⟨c,rest,rfl,hc,hr⟩:=h;rw[List.length_append,hs c x hc,aV.len hs hr,List.length_cons,Nat.add_mul]; omega
theorem aV.get (hs: ∀c x,R c x->c.length=sz): ∀ {xs:List α} {cells:List Value} {i:Nat} {x:α},aV R cells xs->xs[i]? =some x-> ∃c,R c x/\ ∀j,j<sz->cells[i*sz+j]? =c[j]?
 | [],_,i,_,_,hi=>by simp at hi
 | y::xs,cells,0,x,h,hi=>by
  obtain⟨c,rest,rfl,hc,hr⟩:=h;simp at hi; subst hi;refine⟨c,hc,fun j hj=> ?_⟩;rw[Nat.zero_mul,Nat.zero_add,List.getElem?_append_left (by rw[hs c y hc]; exact hj)]
 | y::xs,cells,i+1,x,h,hi=>by
  obtain⟨c,rest,rfl,hc,hr⟩:=h;obtain⟨d,hd,hj⟩:=aV.get hs hr (i:=i) (x:=x) (by simpa using hi);refine⟨d,hd,fun j hjs=> ?_⟩;have hl:=hs c y hc;rw[List.getElem?_append_right (by rw[hl,Nat.add_mul]; omega),hl,<-hj j hjs]
  congr 1
  rw[Nat.add_mul]; omega
theorem aV.drop (hs: ∀c x,R c x->c.length=sz): ∀ {xs:List α} {cells:List Value} (i:Nat),aV R cells xs->i<=xs.length->aV R (cells.drop (i*sz)) (xs.drop i)
 | _,_,0,h,_=>by simpa using h
 | [],_,i+1,_,hi=>by simp at hi
 | y::xs,cells,i+1,h,hi=>by
  obtain⟨c,rest,rfl,hc,hr⟩:=h;have:=aV.drop hs i hr (by simpa using hi);rw[List.drop_succ_cons,Nat.add_mul,Nat.one_mul,Nat.add_comm,List.drop_append,hs c y hc];simp only[Nat.add_sub_cancel_left];rw[List.drop_of_length_le (by rw[hs c y hc]; omega)];exact this
end
def aT {α:Type} (S:Nat->Prop) (w:World) (sz:Nat) (R:List Value->α->Prop) (v:Value) (xs:List α):Prop:=
 ∃cells,aB S w sz v xs.length cells/\aV R cells xs
section
variable {α : Type} {S T : Nat → Prop} {w w' : World} {sz : Nat} {R R' : List Value → α → Prop} {v : Value} {xs : List α}
theorem aT.shape (h:aT S w sz R v xs) (hs: ∀c x,R c x->c.length=sz):
  ∃a cap,v= .slice a xs.length cap/\xs.length<=cap/\cap<=maxLen/\ ∀(k:Nat) x,xs[k]? =some x-> ∃b o c,a=some ⟨b,o,none⟩/\S b/\R c x/\c.length=sz/\ ∀j,j<sz->w.cell? ⟨b,o+(k*sz+j),none⟩=c[j]? :=by
 obtain⟨cells,⟨hl,a,cap,hv,hn,hm,h0⟩,hr⟩:=h;refine⟨a,cap,hv,hn,hm,fun k x hk=> ?_⟩
 rcases h0 with h0 | ⟨b,o,ha,hb,hc⟩
 ·simp[List.eq_nil_of_length_eq_zero h0]at hk
 ·obtain⟨c,hcx,hj⟩:=hr.get hs hk;refine⟨b,o,c,ha,hb,hcx,hs c x hcx,fun j hjs=> ?_⟩;have hlt:j<c.length:=by rw[hs c x hcx]; exact hjs
  rw[List.getElem?_eq_getElem hlt];exact hc _ _ (by rw[hj j hjs,List.getElem?_eq_getElem hlt])
theorem aT.same (h:aT S w sz R v xs) (hs:dY S w w') (hR: ∀c x,x∈xs->R c x->R' c x):aT S w' sz R' v xs:=by
 obtain⟨cells,h1,h2⟩:=h;exact⟨cells,h1.same hs,h2.mono hR⟩
theorem aT.below (h:aT S w sz R v xs) (hsz:0<sz) (hb:Below w.heap.size w w') (hR: ∀c x,x∈xs->R c x->R' c x):aT S w' sz R' v xs:=by
 obtain⟨cells,h1,h2⟩:=h;exact⟨cells,h1.below hsz hb,h2.mono hR⟩
theorem aT.mono (h:aT S w sz R v xs) (hsz:0<sz) (hs: ∀k,k<w.heap.size->S k->T k) (hR: ∀c x,x∈xs->R c x->R' c x):aT T w sz R' v xs:=by
 obtain⟨cells,h1,h2⟩:=h;exact⟨cells,h1.mono hs hsz,h2.mono hR⟩
theorem aT.nil :aT S w sz R (.slice none 0 0) ([]:List α):=⟨[],aB.nil _ _ _,rfl⟩
end
theorem ow (b o n:Nat):(⟨b,o,none⟩:Addr).add n=⟨b,o+n,none⟩:=by unfold Addr.add; split<;> simp_all
open Go Go.RowKit
theorem lg {P:Program} {w:World} (base:Nat) (t ty e:TypeId) (i:TypeInfo) (size:Nat) (ht:P.underlying t=some (.slice e)) (hi:P.info? e=some i)
  (v:Value) (n:Nat) (xs:List Value) (hown:w.ownsRow base e size v n xs) (a:Option Addr) (c:Nat):
  (Builtin.append_ #[t,t] ty #[v, .slice a 0 c]).run P w= .ok v w:=by
 rcases hown.2 with⟨rfl,rfl⟩ | ⟨g,cap,cur,rfl,_,_,hnc,_⟩
 ·cases a<;> simp[Builtin.append_,run_underlying ht,sizeOf,typeInfo,hi,Builtin.lenOf,Builtin.firstCells,loadCells,loadCellsFrom]
 ·cases a<;> simp[Builtin.append_,run_underlying ht,sizeOf,typeInfo,hi,Builtin.lenOf,Builtin.firstCells,hnc,storeCells,loadCells,loadCellsFrom]
theorem bV {P:Program} {ops:Array Oper} {rest:List Oper} {o:Oper} {a:Act} {Q:Exit->Act->World->Prop} {w:World} {t e:TypeId} {sz bytes:Nat} {S:Nat->Prop} (T:cX P t e sz bytes) (hgd:o.guard=none) (s x:Operand)
  (ho:o.op= .call {callee:= .builtin .append,args:= #[s,x],argTypes:= #[t,t]}) (base:Nat) (v:Value) (n:Nat) (xs:List Value) (hs:a.eval s=v) (hown:w.ownsRow base e sz v n xs) (vx:Value) (m:Nat) (news:List Value)
  (hx:a.eval x=vx) (hrow:aB S w sz vx m news) (h1: ∀u∈news,u.oneCell'=true) (hn:n+m<1099511627775) (hbase:base<=w.heap.size)
  (h: ∀v' w',w'.ownsRow base e sz v' (n+m) (xs++news)->w.grownBy w' v.ownBlock->wpList P ops Q rest (a.put o.dst v') w'):wpList P ops Q (o::rest) a w:=by
 obtain⟨ht,⟨i,z,h11,h12,h13,h14,h15⟩,hpos,hsm⟩:=T;obtain⟨hl,ad,cap,rfl,_,_,h0⟩:=hrow;refine wpList_plain hgd fun K hK=> ?_
 have hz:m=0->o.wp P a w K Q:=by
  rintro rfl;have hn0:news=[]:=List.eq_nil_of_length_eq_zero (by rw[hl]; simp);subst hn0;have hrun:=lg (P:=P) (w:=w) base t o.type e i sz ht h11 v n xs hown ad cap;unfold Oper.wp execOp;simp only[ho,resolve,invoke,builtin,Sem.run_bind,Sem.run_pure,Result.andThen_ok,List.map_toArray,List.map_cons,List.map_nil,hs,hx,hrun];exact hK _ _ (h v w (by simpa using hown) ⟨rfl,rfl,rfl,Nat.le_refl _,fun _ _ _=>rfl⟩)
 rcases h0 with h0 | ⟨b,of,rfl,_,hc⟩
 ·exact hz h0
 ·have hnews: ∀(j:Nat) u,news[j]? =some u->w.cell? ((⟨b,of,none⟩:Addr).add j)=some u:=fun j u hj=>by rw[ow]; exact hc j u hj
  have h63:n+m<=maxLen:=by unfold maxLen; omega
  have hby:(n+m)*bytes<=140737488355328:=by
   have:(n+m)*bytes<=1099511627775*128:=Nat.mul_le_mul (by omega) hsm;omega
  obtain⟨v',w',hr,h2,hg,_⟩:=run_append_own (P:=P) w base t o.type e i z sz bytes ht h11 h12 h13 h14 h15 hpos v n xs hown ⟨b,of,none⟩ m cap news hl hnews h1 h63 hby hbase;unfold Oper.wp execOp;simp only[ho,resolve,invoke,builtin,Sem.run_bind,Sem.run_pure,Result.andThen_ok,List.map_toArray,List.map_cons,List.map_nil,hs,hx,hr];exact hK _ _ (h v' w' h2 hg)
end Go.Proofs.YtnjkpcalgoefhaaGreatDoor
namespace Go.Proofs.YtnjkpcalgoefhaaGreatDoor
open Go
section
variable {P : Program} {ops : Array Oper} {Q : Exit → Act → World → Prop} {S : World → Prop}
@[irreducible] def mN (P:Program) (ops:Array Oper) (Q:Exit->Act->World->Prop) (S:World->Prop) (fuel:Nat) (listed:Array Bool) (a:Act) (w:World):Prop:=wpAnyH P .any ops Q S fuel listed a w
theorem mN.of {fuel:Nat} {listed:Array Bool} {a:Act} {w:World} (h:wpAnyH P .any ops Q S fuel listed a w):mN P ops Q S fuel listed a w:=by unfold mN; exact h
theorem mN.out {fuel:Nat} {listed:Array Bool} {a:Act} {w:World} (h:mN P ops Q S fuel listed a w):wpAnyH P .any ops Q S fuel listed a w:=by unfold mN at h; exact h
theorem fR {id:Nat} {a:Act} {w:World} {l:List Oper} (S:World->Prop) (hm:P.follows .mixedOrders=true) (h:mN P l.toArray Q S l.length (Array.replicate l.length false) a w.drew):(Code.region id l.toArray true).wp P Q a w:=by
 refine wp_region_held (S:=S) hm ?_;have:=h.out
 simpa using this
theorem ac {dst:Option Tmp} {op:Op} {ty:TypeId} {pos:String} {aft:Array Edge} {g:Option (Nat×Bool)} {v:Value} {fuel:Nat} {listed:Array Bool} {a:Act} {w:World} (i:Nat) (hi:ops[i]? =some ⟨dst,op,ty,pos,aft,g⟩)
  (hs:Region.noSelect ops=true) (hf:Region.free .any ops listed i=true) (hr:(Region.ready .any ops listed).contains i=true)
  (hQ: ∀c a w,Q (.panic c) (a.put dst v) w->Q (.panic c) a w) (hw:Region.wanted ⟨dst,op,ty,pos,aft,g⟩ (yielded ops a.tmps)=true) (hS:S w)
  (hy: ∀w',S w'->(execOp a.eval ⟨dst,op,ty,pos,aft,g⟩).run P w'= .ok (.value v) w')
  (h:mN P ops Q S fuel (listed.setIfInBounds i true) (a.put dst v) w):mN P ops Q S (fuel+1) listed a w:=
 mN.of (wpAnyH_take (oi:=⟨dst,op,ty,pos,aft,g⟩) hi hs hf hr hQ (.inl ⟨hw,hy⟩) hS h.out)
theorem bc {dst:Option Tmp} {op:Op} {ty:TypeId} {pos:String} {aft:Array Edge} {g:Option (Nat×Bool)} {fuel:Nat} {listed:Array Bool} {a:Act} {w:World} (i:Nat) (hi:ops[i]? =some ⟨dst,op,ty,pos,aft,g⟩) (hr:Region.ready .any ops listed=[i])
  (hw:Region.wanted ⟨dst,op,ty,pos,aft,g⟩ (yielded ops a.tmps)=true)
  (h: ∀K:Act->World->Prop,(∀a w,S w/\mN P ops Q S fuel (listed.setIfInBounds i true) a w->K a w)->wpList P #[] (Exit.then K Q) [⟨dst,op,ty,pos, #[],none⟩] a w):mN P ops Q S (fuel+1) listed a w:=by
 refine mN.of (wpAnyH_all hr (by simp) fun j hj=> ?_);have hji:j=i:=by simpa using hj
 subst hji;have hb:qO P ops (fun a' w'=>S w'/\wpAnyH P .any ops Q S fuel (listed.setIfInBounds j true) a' w') Q [⟨dst,op,ty,pos,aft,g⟩] a w:=
  bt hw (fun K hK=>h K (fun a w hh=>hK a w ⟨hh.1,hh.2.out⟩))
 unfold wpOp;simp only[hi];exact qO.out hb
theorem bO {listed:Array Bool} {a:Act} {w:World} {fuel:Nat} (hr:Region.ready .any ops listed=[]) (h:Q .normal a w):mN P ops Q S fuel listed a w:=mN.of (wpAnyH_done hr h fuel)
end
end Go.Proofs.YtnjkpcalgoefhaaGreatDoor
namespace Go.Proofs.YtnjkpcalgoefhaaGreatDoor
open Go.RowKit
theorem af {w:World} {b k:Nat} {cs:Array Value} {t:TypeId} {z:Nat×Nat} (h:w.heap[b]? =some (.cells cs t z)):w.cell? ⟨b,k,none⟩=cs[k]? :=by simp[World.cell?,h]
theorem aI {w:World} {b k:Nat} {cs:Array Value} {t:TypeId} (h:w.heap[b]? =some (.cells cs t (0,0))):w.frozen? ⟨b,k,none⟩=false:=by simp[World.frozen?,h]
def aC (b:UInt8):Value:= .int .u8 (b.toNat:Int)
theorem be (w:World) (b o:Nat) (x:Value):w.grownBy (w.setCell ⟨b,o,none⟩ x) (some b):=
 ⟨rfl,rfl,rfl,by simp[World.setCell],fun k hk hne=>Below.heap_setCell _ _ _ _ (fun e=>hne (by simpa using e))⟩
theorem cI {a b c:World} {r:Option Nat} (h:a.grownBy b r) (k:b.grownBy c r):a.grownBy c r:=
 ⟨k.os.trans h.os,k.tape.trans h.tape,k.output.trans h.output,Nat.le_trans h.size k.size,fun i hi hne=>(k.block i (Nat.lt_of_lt_of_le hi h.size) hne).trans (h.block i hi hne)⟩
theorem rt (w:World) (r:Option Nat):w.grownBy w r:=⟨rfl,rfl,rfl,Nat.le_refl _,fun _ _ _=>rfl⟩
structure RS where
 off:Nat
 last:Nat
 err:Int
deriving DecidableEq
def rv {α:Type} (z:α) (r:Except Int (α×Nat)) (s:RS):α×RS:=if s.err=0 then match r with
 | .ok (x,o)=>(x,⟨o,s.off,0⟩)
 | .error y=>(z,⟨s.off,s.off,y⟩)else(z,s)
theorem pP {w w':World} (h:Below w.heap.size w w') (r:Option Nat):w.grownBy w' r:=⟨h.os,h.tape,h.output,h.size,fun k hk _=>h.block k hk⟩
theorem qC (bs:List UInt8):strOfNums (bs.map fun b=>(b.toNat:Int))=⟨bs.toArray⟩:=by
 simp only[strOfNums,List.map_map,Function.comp_def,Int.toNat_natCast];simp
open Go Go.RowKit Go.Maps
def dt (P:Program) (k:TypeId) (w:World) (b:Nat) (m:List (Value×Value)):Prop:=
 ∃es clock,w.heap[b]? =some (.map es clock)/\es.toList.map (fun e=>(e.key,e.val))=m/\(m.map Prod.fst).Nodup/\ ∀p∈m,∃l,keyOf P k p.1=some l
theorem lS {w:World} {b:Nat} {x:Obj} (hb:w.heap[b]? =some x) (o:Obj):(ChangeMaps.setBlock w b o).heap[b]? =some o:=by
 have:=(Array.getElem?_eq_some_iff.1 hb).1;simp[ChangeMaps.setBlock,this]
theorem nE {w:World} {b:Nat} {x:Obj} (_:w.heap[b]? =some x) (o:Obj) {i:Nat} (h:i≠b):(ChangeMaps.setBlock w b o).heap[i]? =w.heap[i]? :=by
 simp[ChangeMaps.setBlock,Ne.symm h]
section
variable {P : Program} {k t e : TypeId} {w w' : World} {b : Nat} {m : List (Value × Value)} {key val z : Value}
theorem dt.lt (h:dt P k w b m):b<w.heap.size:=by
 obtain⟨es,clock,hb,_⟩:=h;exact(Array.getElem?_eq_some_iff.1 hb).1
theorem dt.same (h:dt P k w b m) (hs:w'.heap[b]? =w.heap[b]?):dt P k w' b m:=by
 obtain⟨es,clock,hb,h2⟩:=h;exact⟨es,clock,hs.trans hb,h2⟩
theorem dt.made (w:World):dt P k (w.alloc (.map #[] 0)) w.heap.size []:=⟨#[],0,(MapKept.heap_alloc w _).1,rfl,List.nodup_nil,by simp⟩
theorem dt.keys {es:Array MapEntry} (h:es.toList.map (fun e=>(e.key,e.val))=m) (hk: ∀p∈m,∃l,keyOf P k p.1=some l): ∀x∈es.toList,∃l,keyOf P k x.key=some l:=fun x hx=>hk (x.key,x.val) (by rw[<-h]; exact List.mem_map.2 ⟨x,hx,rfl⟩)
theorem nJ : ∀ {m:List (Value×Value)} {key v v':Value},(m.map Prod.fst).Nodup->(key,v)∈m->(key,v')∈m->v=v'
 | [],_,_,_,_,h,_=>by simp at h
 | (a,x)::m,key,v,v',hn,h,h'=>by
  simp only[List.map_cons,List.nodup_cons]at hn
  rcases List.mem_cons.1 h with h | h<;> rcases List.mem_cons.1 h' with h' | h'
  ·cases h; cases h'; rfl
  ·cases h
   exact absurd (List.mem_map.2 ⟨_,h',rfl⟩) hn.1
  ·cases h'
   exact absurd (List.mem_map.2 ⟨_,h,rfl⟩) hn.1
  ·exact nJ hn.2 h h'
theorem dt.hit (h:dt P k w b m) (K:Keyed P k) (ht:P.underlying t=some (.map k e)) (hkey: ∃l,keyOf P k key=some l) (hm:(key,val)∈m) (c:Bool):
  (Instr.lookup t (.map (some b)) key c).run P w= .ok (if c then .tuple #[val, .bool true]else val) w:=by
 obtain⟨es,clock,hb,he,hn,hk⟩:=h;obtain⟨kl,hkl⟩:=hkey
 rcases K.find w hkl es.toList (dt.keys he hk)with⟨h1,h2⟩ | ⟨j,e0,h1,h2,h3⟩
 ·rw[<-he]at hm;obtain⟨x,hx,hxe⟩:=List.mem_map.1 hm;exact absurd (congrArg Prod.fst hxe) (h2 x hx)
 ·have hv:e0.val=val:=by
   refine nJ hn (key:=key) ?_ hm;rw[<-he,<-h3];exact List.mem_map.2 ⟨e0,List.mem_of_getElem? h2,rfl⟩
  cases c<;> simp[Instr.lookup,run_underlying ht,MapKept.run_getObj_map hb,K.check w _ hkl,h1,hv,Result.andThen]
theorem dt.miss (h:dt P k w b m) (K:Keyed P k) (ht:P.underlying t=some (.map k e)) (hz:(zeroValue e).run P w= .ok z w) (hkey: ∃l,keyOf P k key=some l) (hm: ∀p∈m,p.1≠key) (c:Bool):
  (Instr.lookup t (.map (some b)) key c).run P w= .ok (if c then .tuple #[z, .bool false]else z) w:=by
 obtain⟨es,clock,hb,he,hn,hk⟩:=h;obtain⟨kl,hkl⟩:=hkey
 rcases K.find w hkl es.toList (dt.keys he hk)with⟨h1,h2⟩ | ⟨j,e0,h1,h2,h3⟩
 ·cases c<;> simp[Instr.lookup,run_underlying ht,MapKept.run_getObj_map hb,K.check w _ hkl,h1,hz,Result.andThen]
 ·exact absurd h3 (hm (e0.key,e0.val) (by rw[<-he]; exact List.mem_map.2 ⟨e0,List.mem_of_getElem? h2,rfl⟩))
theorem dt.put (h:dt P k w b m) (K:Keyed P k) (ht:P.underlying t=some (.map k e)) (hkey: ∃l,keyOf P k key=some l) (hm: ∀p∈m,p.1≠key) (val:Value):
  ∃w',(Instr.mapUpdate t (.map (some b)) key val).run P w= .ok () w'/\dt P k w' b (m++[(key,val)])/\w.grownBy w' (some b):=by
 obtain⟨es,clock,hb,he,hn,hk⟩:=h;obtain⟨kl,hkl⟩:=hkey
 rcases K.find w hkl es.toList (dt.keys he hk)with⟨h1,h2⟩ | ⟨j,e0,h1,h2,h3⟩
 ·refine⟨ChangeMaps.setBlock w b (.map (es.push ⟨key,val,clock⟩) (clock+1)), ?_,⟨_,_,lS hb _, ?_, ?_, ?_⟩,⟨rfl,rfl,rfl,by simp[ChangeMaps.setBlock],fun i _ hi=>nE hb _ (fun e=>hi (by rw[e]))⟩⟩
  ·simp[Instr.mapUpdate,run_underlying ht,MapKept.run_getObj_map hb,K.check w false hkl,h1,MapKept.run_setObj_map _ hb,Result.andThen,ChangeMaps.setBlock]
  ·simp[<-he]
  ·rw[List.map_append,List.nodup_append];refine⟨hn,by simp,fun a ha b' hb' e=> ?_⟩;obtain⟨p,hp,rfl⟩:=List.mem_map.1 ha;simp only[List.map_cons,List.map_nil,List.mem_singleton]at hb';exact hm p hp (e.trans hb')
  ·intro p hp
   rcases List.mem_append.1 hp with hp | hp
   ·exact hk p hp
   ·simp only[List.mem_singleton]at hp;subst hp;exact⟨kl,hkl⟩
 ·exact absurd h3 (hm (e0.key,e0.val) (by rw[<-he]; exact List.mem_map.2 ⟨e0,List.mem_of_getElem? h2,rfl⟩))
end
theorem oL :laidOutB Tryz.prog=true:=by kernel_rfl
end Go.Proofs.YtnjkpcalgoefhaaGreatDoor
namespace Go.Proofs.YtnjkpcalgoefhaaGreatDoor
open Go.RowKit
theorem jY {w:World} {b:Nat} {o:Obj} (h:w.heap[b]? =some o) (x:Obj):(w.alloc x).heap[b]? =some o:=by
 rw[Below.heap_alloc _ _ _ ((Array.getElem?_eq_some_iff.1 h).1)]; exact h
theorem mw {w:World} {b k:Nat} {cs:Array Value} {t:TypeId} (h:w.heap[b]? =some (.cells cs t (0,0))) (x:Value):(w.setCell ⟨b,k,none⟩ x).heap[b]? =some (.cells (cs.setIfInBounds k x) t (0,0)):=by
 simp only[World.setCell,Array.getElem?_modify,if_true,h,Option.map_some]; rfl
theorem ba {α:Type} {l:List α} {k:Nat} {x:α} (h:l[k]? =some x):l.take (k+1)=l.take k++[x]:=by
 obtain⟨hk,rfl⟩:=List.getElem?_eq_some_iff.1 h;exact List.take_succ_eq_append_getElem hk
theorem pg {α:Type} {p:α->Bool} {l:List α} {k:Nat} {x:α} (h:(l.take k).all p=true) (hx:l[k]? =some x) (hp:p x=true):(l.take (k+1)).all p=true:=by
 rw[ba hx,List.all_append,h]; simp[hp]
theorem vY {α:Type} {p:α->Bool} {l:List α} {k:Nat} {x:α} (hx:l[k]? =some x) (hp:p x=false):l.all p=false:=by
 rw[List.all_eq_false];exact⟨x,List.mem_of_getElem? hx,by rw[hp]; simp⟩
end Go.Proofs.YtnjkpcalgoefhaaGreatDoor
namespace Go.Proofs.YtnjkpcalgoefhaaGreatDoor
open Go
section
variable {P : Program} {md : Region.Mode} {Q : Exit → Act → World → Prop}
def nh (P:Program) (ops:Array Oper) (m:Nat) (Q:Exit->Act->World->Prop):Exit->Act->World->Prop
 | .normal,a,w=>wpOp P ops Q m (fun a' w'=>Q .normal a' w') a w
 | e,a,w=>Q e a w
def qe (md:Region.Mode) (L:List Oper):Bool:=
 rg md L.toArray (L.length-1) && decide (0<L.length) &&
 ((List.range L.length).all fun i=>match L[i]? with | some x=>x.after.all (fun e=>decide (e.on<i)) && (match x.guard with | none=>true | some (j,_)=>decide (j<i)) | none=>true)
theorem oS {L:List Oper} {i:Nat} (hi:i<L.length-1):L.dropLast.toArray[i]? =L.toArray[i]? :=by
 simp[hi]
theorem xU {L:List Oper} {i m:Nat} (hi:i<L.length-1) (hg: ∀(x:Oper) (j:Nat) (b:Bool),L[i]? =some x->x.guard=some (j,b)->j<i) {K:Act->World->Prop} {a:Act} {w:World}
  (h:wpOp P L.dropLast.toArray (nh P L.toArray m Q) i K a w):wpOp P L.toArray Q i K a w:=by
 unfold wpOp at h ⊢;rw[oS hi]at h
 cases hx:L.toArray[i]? with
 | none=>rw[hx]at h; exact h
 | some x=>
  rw[hx]at h;simp only at h ⊢;have hw:Region.wanted x (yielded L.dropLast.toArray a.tmps)=Region.wanted x (yielded L.toArray a.tmps):=by
   unfold Region.wanted
   cases hgd:x.guard with
   | none=>rfl
   | some p=>
    obtain⟨j,b⟩:=p;have hj:=hg x j b (by simpa using hx) hgd;simp only[yielded];rw[oS (by omega)]
  rw[hw]at h
  split at h
  ·rename_i hh;rw[if_pos hh];exact h
  ·rename_i hh;rw[if_neg hh];exact h
theorem ol {ops:Array Oper} {listed:Array Bool} {a:Act} {w:World} (hr:Region.ready md ops listed=[]) (h:Q .normal a w): ∀fuel,wpAny P md ops Q fuel listed a w
 | 0=>⟨hr,h⟩
 | _+1=>⟨fun _=>h,by rw[hr]; simp⟩
theorem iC {L:List Oper} {i:Nat} {listed:Array Bool} (hi:i<L.length-1):i∈Region.ready md L.dropLast.toArray listed<->i∈Region.ready md L.toArray listed:=by
 rw[mem_ready,mem_ready,oS hi]
theorem tn {listed:Array Bool} {i:Nat} (hi:i<listed.size) (h:listed.getD i true=true):listed.getD i false=true:=by
 simp[hi]at h ⊢; exact h
theorem gV {L:List Oper} {i:Nat} {listed:Array Bool} (h:i∈Region.ready md L.toArray listed):i<L.length:=by
 obtain⟨_,o,ho,_⟩:=mem_ready.1 h
 simpa using (Array.getElem?_eq_some_iff.1 ho).1
theorem vX {L:List Oper} {listed:Array Bool} (hs:listed.size=L.length) (hback: ∀(i:Nat) (x:Oper),L[i]? =some x-> ∀e∈x.after,e.on<i) (hr:Region.ready md L.dropLast.toArray listed=[]):
  ∀(n i:Nat),i<n->i<L.length-1->listed.getD i true=true
 | 0,i,hn,_=>by omega
 | n+1,i,hn,hi=>by
  cases hg:listed.getD i true with
  | true=>rfl
  | false=>
   exfalso
   obtain⟨x,hx⟩: ∃x,L[i]? =some x:=⟨L[i]'(by omega),by simp⟩;have:i∈Region.ready md L.dropLast.toArray listed:=by
    rw[iC hi,mem_ready];refine⟨hg,x,by simpa using hx,fun e he _=> ?_⟩;have hb:=hback i x hx e he;exact tn (by omega) (vX hs hback hr n e.on (by omega) (by omega))
   rw[hr]at this
   cases this
theorem sV {L:List Oper} (hc:rg md L.toArray (L.length-1)=true) (hpos:0<L.length) (hback: ∀(i:Nat) (x:Oper),L[i]? =some x-> ∀e∈x.after,e.on<i) (hg: ∀(i:Nat) (x:Oper) (j:Nat) (b:Bool),L[i]? =some x->x.guard=some (j,b)->j<i):
  ∀(fuel:Nat) (listed:Array Bool) (a:Act) (w:World),HeadInv md L.toArray (L.length-1) listed->wpAny P md L.dropLast.toArray (nh P L.toArray (L.length-1) Q) fuel listed a w->wpAny P md L.toArray Q (fuel+1) listed a w:=by
 have hlast: ∀listed:Array Bool,HeadInv md L.toArray (L.length-1) listed->Region.ready md L.dropLast.toArray listed=[]->(L.length-1)∈Region.ready md L.toArray listed:=fun listed inv hr=>by
  have hs:listed.size=L.length:=by simpa using inv.size
  obtain⟨x,hx⟩: ∃x,L[L.length-1]? =some x:=⟨L[L.length-1]'(by omega),by simp⟩;rw[mem_ready];refine⟨inv.tail _ (Nat.le_refl _) (by simp; omega),x,by simpa using hx,fun e he _=> ?_⟩;have hb:=hback _ x hx e he;exact tn (by omega) (vX hs hback hr L.length e.on (by omega) (by omega))
 have hne: ∀listed:Array Bool,HeadInv md L.toArray (L.length-1) listed->Region.ready md L.toArray listed≠[]:=fun listed inv e=>by
  cases hr:Region.ready md L.dropLast.toArray listed with
  | nil=>have:=hlast listed inv hr; rw[e]at this; cases this
  | cons i r=>
   have hi:i∈Region.ready md L.dropLast.toArray listed:=by rw[hr]; simp
   have hlt:=gV hi;simp only[List.length_dropLast]at hlt;rw[iC hlt,e]at hi
   cases hi
 have hfin: ∀listed:Array Bool,HeadInv md L.toArray (L.length-1) listed->(L.length-1)∈Region.ready md L.toArray listed->Region.ready md L.dropLast.toArray listed=[]/\Region.ready md L.toArray (listed.setIfInBounds (L.length-1) true)=[]:=fun listed inv hm=>by
  have hs:listed.size=L.length:=by simpa using inv.size
  have hall: ∀i,i<L.length-1->listed.getD i true=true:=fun i hi=>by
   cases hgd:listed.getD i true with
   | true=>rfl
   | false=>exact absurd hm (kg hc inv _ i rfl hi hgd _ (Nat.le_refl _))
  constructor
  ·rw[List.eq_nil_iff_forall_not_mem];intro i hi;have hlt:=gV hi;simp only[List.length_dropLast]at hlt;have:=(mem_ready.1 hi).1;rw[hall i hlt]at this
   cases this
  ·rw[List.eq_nil_iff_forall_not_mem];intro i hi;have hlt:=gV hi;have h1:=(mem_ready.1 hi).1
   by_cases e:i=L.length-1
   ·rw[e]at h1;simp[hs]at h1
   ·rw[getD_set_ne true (Ne.symm e),hall i (by omega)]at h1
    cases h1
 intro fuel
 induction fuel with
 | zero=>
  intro listed a w inv h;refine⟨fun e=>absurd e (hne listed inv),fun i hi=> ?_⟩;have hlt:=gV hi
  by_cases e:i=L.length-1
  ·subst e;exact wpOp_mono (fun a' w' h'=>ol (hfin listed inv hi).2 h' 0) h.2
  ·have:=(iC (by omega)).2 hi;rw[h.1]at this
   cases this
 | succ fuel ih=>
  intro listed a w inv h;refine⟨fun e=>absurd e (hne listed inv),fun i hi=> ?_⟩;have hlt:=gV hi
  by_cases e:i=L.length-1
  ·subst e;exact wpOp_mono (fun a' w' h'=>ol (hfin listed inv hi).2 h' (fuel+1)) (h.1 (hfin listed inv hi).1)
  ·have hi':i<L.length-1:=by omega
   refine xU hi' (fun x j b hx hgd=>hg i x j b hx hgd) (wpOp_mono (fun a' w' h'=>ih _ a' w' (inv.set hi hi') h') (h.2 i ((iC hi').2 hi)))
theorem pU {ops:Array Oper} {m:Nat} :HeadInv md ops m (Array.replicate ops.size false):=by
 refine⟨by simp,fun j oj hj hl=> ?_,fun t _ ht=>by simp[ht]⟩;have:=(Array.getElem?_eq_some_iff.1 hj).1;simp[this]at hl
theorem cN {id:Nat} {a:Act} {w:World} {L:List Oper} (S:World->Prop) (hm:P.follows .mixedOrders=true) (hB:qe .any L=true)
  (h:mN P L.dropLast.toArray (nh P L.toArray (L.length-1) Q) S (L.length-1) (Array.replicate L.length false) a w.drew):(Code.region id L.toArray true).wp P Q a w:=by
 simp only[qe,Bool.and_eq_true,decide_eq_true_eq]at hB;obtain⟨⟨hc,hpos⟩,hall⟩:=hB;have hall': ∀(i:Nat) (x:Oper),L[i]? =some x->(∀e∈x.after,e.on<i)/\ ∀j b,x.guard=some (j,b)->j<i:=fun i x hx=>by
  have:=List.all_eq_true.1 hall i (List.mem_range.2 (List.getElem?_eq_some_iff.1 hx).1);rw[hx]at this;simp only[Bool.and_eq_true]at this;refine⟨fun e he=> ?_,fun j b hg=> ?_⟩
  ·have:=Array.all_eq_true'.1 this.1 e he
   simpa using this
  ·have:=this.2;rw[hg]at this
   simpa using this
 refine wp_region_any hm ?_;have:=sV hc hpos (fun i x hx=>(hall' i x hx).1) (fun i x j b hx=>(hall' i x hx).2 j b) (L.length-1) _ a w.drew pU (wpAny_of_held _ _ _ _ (by simpa using h.out));rw[show L.length-1+1=L.length by omega]at this
 simpa using this
theorem cZ {L:List Oper} {m:Nat} {a:Act} {w:World} {dst:Option Tmp} {op:Op} {ty:TypeId} {pos:String} {aft:Array Edge} {g:Option (Nat×Bool)} (hi:L[m]? =some ⟨dst,op,ty,pos,aft,g⟩) (hw:Region.wanted ⟨dst,op,ty,pos,aft,g⟩ (yielded L.toArray a.tmps)=true)
  (h: ∀K:Act->World->Prop,(∀a w,Q .normal a w->K a w)->wpList P #[] (Exit.then K Q) [⟨dst,op,ty,pos, #[],none⟩] a w):nh P L.toArray m Q .normal a w:=by
 show wpOp P L.toArray Q m _ a w
 have hb:qO P L.toArray (fun a' w'=>Q .normal a' w') Q [⟨dst,op,ty,pos,aft,g⟩] a w:=bt hw (fun K hK=>h K (fun a w hh=>hK a w hh));unfold wpOp;have hi':L.toArray[m]? =some ⟨dst,op,ty,pos,aft,g⟩:=by simpa using hi
 simp only[hi'];exact qO.out hb
end
end Go.Proofs.YtnjkpcalgoefhaaGreatDoor
namespace Go.Proofs.YtnjkpcalgoefhaaGreatDoor
open Go.RowKit
theorem Tryz.appBytes :cX Tryz.prog 28 5 1 1:=cX.mk' (z:= .int .u8 0) Tryz.underlying28 (by kernel_rfl) rfl (by decide) (by decide)
def aR (S:Nat->Prop) (w:World) (v:Value) (bs:List UInt8):Prop:=aB S w 1 v bs.length (bs.map aC)
theorem iu (bs:List UInt8): ∀u∈bs.map aC,u.oneCell'=true:=fun u hu=>by
 obtain⟨b,_,rfl⟩:=List.mem_map.1 hu
 rfl
open Go Go.RowKit
def aQ (v:V8) (buf:List UInt8) (n:Nat):List Value:=v.list.map bp++(buf.map aC++[.int .i64 (n:Int)])
def jn (w:World) (sb:Nat) (ty:TypeId) (rest:List Value) (data:List UInt8):Prop:=
 ∃buf:List UInt8,buf.length=64/\buf.take (data.length%64)=data.drop (64*(data.length/64))/\w.heap[sb]? =some (.cells (aQ (cT data (data.length/64)) buf data.length++rest).toArray ty (0,0))
theorem aR.call {w w':World} {sb:Nat} {v:Value} {bs:List UInt8} (h:aR (· ≠sb) w v bs) (hg:w.grownBy w' (some sb)):aR (· ≠sb) w' v bs:=by
 have h2:=aB.mono (T:=fun k=>k≠sb/\k<w.heap.size) h (fun k hk hS=>⟨hS,hk⟩) (by omega);exact(aB.same h2 (fun k hk=>hg.block k hk.2 (fun e=>hk.1 (Option.some.inj e)))).weak (fun k hk=>hk.1)
theorem jg {S:Nat->Prop} {w:World} {a:Option Addr} {n cap:Nat} {bs:List UInt8} (h:aR S w (.slice a n cap) bs) {k:Nat} (hk:k<=bs.length):
  ∃a' cap',(∀w',(Instr.slice 28 (.slice a n cap) (some (.int .i64 (k:Int))) none none).run Tryz.prog w'= .ok (.slice a' (bs.drop k).length cap') w')/\aR S w (.slice a' (bs.drop k).length cap') (bs.drop k):=by
 obtain⟨hl,a0,cap0,hv,hn,hm,h0⟩:=h;simp only[Value.slice.injEq]at hv;obtain⟨rfl,rfl,rfl⟩:=hv;have hz: ∀w',(sizeOf (Tryz.prog.elem 28)).run Tryz.prog w'= .ok 1 w':=fun _=>by kernel_rfl
 refine⟨if cap=k then a else a.map (fun p=>p.add k),cap-k,fun w'=> ?_, ?_⟩
 ·rw[run_slice_l _ _ _ _ _ Tryz.underlying28 _ _ (by omega) (by omega),hz];simp only[Result.andThen,sliced,Int.toNat_natCast,Nat.mul_one,List.length_drop]
 ·refine⟨by simp,_,_,rfl,by rw[List.length_drop]; omega,by omega, ?_⟩
  rcases h0 with h0 | ⟨b,o,rfl,hS,hc⟩
  ·exact .inl (by rw[List.length_drop]; omega)
  ·by_cases hlen:(bs.drop k).length=0
   ·exact .inl hlen
   ·rw[List.length_drop]at hlen;refine .inr ⟨b,o+k, ?_,hS,fun j x hj=> ?_⟩
    ·rw[if_neg (by omega),Option.map_some,Addr.add_mid]
    ·rw[Nat.add_assoc];exact hc (k+j) x (by rw[<-hj,List.map_drop,List.getElem?_drop])
theorem qy {S:Nat->Prop} {w:World} {a:Option Addr} {n cap:Nat} {bs:List UInt8} (h:aR S w (.slice a n cap) bs) {k:Nat} (hk:k<=bs.length) (h0:0<k):
  (∀w',(Instr.slice 28 (.slice a n cap) none (some (.int .i64 (k:Int))) none).run Tryz.prog w'= .ok (.slice a k cap) w')/\aR S w (.slice a (bs.take k).length cap) (bs.take k)/\ ∃b o,a=some ⟨b,o,none⟩:=by
 obtain⟨hl,a0,cap0,hv,hn,hm,h1⟩:=h;simp only[Value.slice.injEq]at hv;obtain⟨rfl,rfl,rfl⟩:=hv;have hz: ∀w',(sizeOf (Tryz.prog.elem 28)).run Tryz.prog w'= .ok 1 w':=fun _=>by kernel_rfl
 rcases h1 with h1 | ⟨b,o,rfl,hS,hc⟩
 ·omega
 ·refine⟨fun w'=> ?_,⟨by simp,_,_,rfl,by rw[List.length_take]; omega,hm, .inr ⟨b,o,rfl,hS,fun j x hj=> ?_⟩⟩,b,o,rfl⟩
  ·rw[run_slice_h _ _ _ _ _ Tryz.underlying28 _ _ (by omega) (by omega),hz];simp only[Result.andThen,sliced,Int.toNat_natCast,Nat.zero_mul,Nat.sub_zero]
   by_cases hcz:cap=0
   ·omega
   ·rw[if_neg hcz,Option.map_some,Addr.add_mid,Nat.add_zero]
  ·refine hc j x ?_;rw[List.map_take,List.getElem?_take]at hj
   split at hj
   ·exact hj
   ·cases hj
theorem dj {ops:Array Oper} {rest:List Oper} {o:Oper} {a:Act} {Q:Exit->Act->World->Prop} {w:World} (hgd:o.guard=none) (d s:Operand)
  (ho:o.op= .call {callee:= .builtin .copy,args:= #[d,s],argTypes:= #[28,28]}) (g off dLen dCap:Nat) (sp:Option Addr) (sLen sCap:Nat) (hd:a.eval d= .slice (some ⟨g,off,none⟩) dLen dCap) (hs:a.eval s= .slice sp sLen sCap)
  (cur:List Value) (t:TypeId) (hg:w.heap[g]? =some (.cells cur.toArray t (0,0))) (S:Nat->Prop) (bs:List UInt8) (hb:aR S w (.slice sp sLen sCap) bs) (k:Nat) (hk:k=Nat.min bs.length dLen) (hfit:off+dLen<=cur.length)
  (h: ∀w',w'.heap[g]? =some (.cells (splice cur off ((bs.take k).map aC)).toArray t (0,0))->w.grownBy w' (some g)->wpList Tryz.prog ops Q rest (a.put o.dst (.int .i64 (k:Int))) w'):wpList Tryz.prog ops Q (o::rest) a w:=by
 obtain⟨hl,a0,cap0,hv,hn,hm,h1⟩:=hb;simp only[Value.slice.injEq]at hv;obtain⟨rfl,rfl,rfl⟩:=hv
 by_cases hk0:k=0
 ·subst hk0;refine wpList_copy_nothing hgd d s _ _ ho 5 Tryz.underlying28 (by kernel_rfl) _ _ _ _ _ _ hd hs (by rw[<-hk]) ?_;refine h w ?_ (rt w _);rw[hg,List.take_zero,List.map_nil];simp[splice]
 ·have hkb:k<=bs.length:=by rw[hk]; exact Nat.min_le_left _ _
  have hkd:k<=dLen:=by rw[hk]; exact Nat.min_le_right _ _
  rcases h1 with h1 | ⟨b,o2,rfl,hS,hc⟩
  ·omega
  ·have hlen:((bs.take k).map aC).length=k:=by rw[List.length_map,List.length_take]; omega
   refine wpList_copy_own hgd d s _ _ ho 5 Tryz.underlying28 (by kernel_rfl) g off dLen dCap ⟨b,o2,none⟩ bs.length sCap hd hs cur.toArray t hg ((bs.take k).map aC) (by rw[hlen,hk]) (fun j x hj=> ?_) (by rw[hlen,List.size_toArray]; omega) (fun v hv=>by obtain⟨x,_,rfl⟩:=List.mem_map.1 hv; rfl) ?_
   ·rw[Addr.add_mid];refine hc j x ?_;rw[List.map_take,List.getElem?_take]at hj
    split at hj
    ·exact hj
    ·cases hj
   ·rw[hlen];refine h _ ?_ ?_
    ·rw[setRow_heap w g _ _ t _ hg];simp only[splice,hlen]
    ·exact⟨rfl,rfl,rfl,by simp[World.setRow],fun i _ hne=>setRow_other w g i _ (fun e=>hne (by rw[e]))⟩
theorem gm (v:V8) {buf:List UInt8} (h:buf.length=64) (n:Nat):(aQ v buf n).length=73:=by unfold aQ V8.list; simp[h]
theorem nU (v:V8) {buf:List UInt8} (h:buf.length=64) (n:Nat) (rest:List Value):(aQ v buf n++rest).toArray[72]? =some (.int .i64 (n:Int)):=by
 rw[List.getElem?_toArray,List.getElem?_append_left (by rw[gm v h]; decide)];unfold aQ;rw[List.getElem?_append_right (by simp[V8.list]),List.getElem?_append_right (by simp[V8.list,h])];simp[V8.list,h]
theorem vr (v:V8) {buf:List UInt8} (h:buf.length=64) (n n':Nat) (rest:List Value):(aQ v buf n++rest).set 72 (.int .i64 (n':Int))=aQ v buf n'++rest:=by
 rw[List.set_append_left _ _ (by rw[gm v h]; decide)]
 congr 1
 unfold aQ;rw[List.set_append_right _ _ (by simp[V8.list]),List.set_append_right _ _ (by simp[V8.list,h])]
 congr 2
 simp[V8.list,h]
theorem cQ (v:V8) (buf:List UInt8) (n:Nat) (rest:List Value):aQ v buf n++rest=v.list.map bp++(buf.map aC++([.int .i64 (n:Int)]++rest)):=by unfold aQ; simp
theorem jf (v:V8) {buf:List UInt8} (h:buf.length=64) (n:Nat) (rest:List Value) {off:Nat} {xs:List UInt8} (ho:off+xs.length<=64):splice (aQ v buf n++rest) (8+off) (xs.map aC)=aQ v (splice buf off xs) n++rest:=by
 have e: ∀(A B C:List Value),A.length=8->B.length=64->splice (A++(B++C)) (8+off) (xs.map aC)=A++(splice B off (xs.map aC)++C):=by
  intro A B C hA hB;unfold splice;have hx:(xs.map aC).length=xs.length:=by simp
  rw[hx,List.take_append,List.drop_append,hA,show 8+off-8=off by omega,show 8+off+xs.length-8=off+xs.length by omega,List.take_of_length_le (by omega),List.drop_eq_nil_of_le (by omega),List.nil_append,List.take_append_of_le_length (by omega),List.drop_append_of_le_length (by omega)];simp
 rw[cQ,e _ _ _ (by simp[V8.list]) (by simpa using h),cQ]
 congr 2
 unfold splice;simp
theorem gh {buf xs:List UInt8} (h:buf.length=64) {off:Nat} (ho:off+xs.length<=64):(splice buf off xs).length=64:=by rw[length_splice _ _ _ (by omega),h]
structure pf (sb : Nat) (ty : TypeId) (rest : List Value) (D buf : List UInt8) (w wr : World) (j : Nat) : Prop where
 box:wr.heap[sb]? =some (.cells (aQ (cT D j) buf D.length++rest).toArray ty (0,0))
 len:buf.length=64
 grown:w.grownBy wr (some sb)
theorem eP.grown {w wr:World} {sb:Nat} (h:eP w) (hne:sb≠4) (hg:w.grownBy wr (some sb)) (hlt:4<w.heap.size):eP wr:=by
 intro j x hj;rw[<-h j x hj];exact World.cell?_of_block (hg.block _ hlt (fun e=>hne (Option.some.inj e).symm))
theorem zb (v:V8) {buf:List UInt8} (n:Nat) (rest:List Value) {j:Nat} {x:UInt8} (hj:buf[j]? =some x):(aQ v buf n++rest).toArray[8+j]? =some (aC x):=by
 have hlt:=(List.getElem?_eq_some_iff.1 hj).1;rw[List.getElem?_toArray,cQ,List.getElem?_append_right (by simp[V8.list]),List.getElem?_append_left (by simp[V8.list]; omega)];rw[show 8+j-(List.map bp v.list).length=j by simp[V8.list],List.getElem?_map,hj]; rfl
theorem ny {data xs:List UInt8} {q:Nat} (h:64*q<=data.length):(data++xs).drop (64*q)=data.drop (64*q)++xs:=List.drop_append_of_le_length h
theorem qz {buf xs:List UInt8} {u:Nat} (hb:buf.length=64) (hx:u+xs.length=64):splice buf u xs=buf.take u++xs:=by
 unfold splice;rw[hx,List.drop_eq_nil_of_le (by omega),List.append_nil]
def yI :Value->Nat
 | .slice _ n _=>n
 | _=>0
def sS (sb:Nat) (ty:TypeId) (rest:List Value) (D:List UInt8) (w:World) (x:Value) (wr:World):Prop:=
 ∃(j rl cap:Nat) (a:Option Addr) (buf:List UInt8),rl=(D.drop (64*j)).length/\64*j<=D.length/\x= .slice a rl cap/\aR (· ≠sb) wr (.slice a rl cap) (D.drop (64*j))/\pf sb ty rest D buf w wr j
theorem pf.done {sb:Nat} {ty:TypeId} {rest:List Value} {D buf:List UInt8} {w wr w':World} {j:Nat} (h:pf sb ty rest D buf w wr j) (hj:64*j<=D.length) (hl:(D.drop (64*j)).length<64)
  (hb:w'.heap[sb]? =some (.cells (splice (aQ (cT D j) buf D.length++rest) 8 (((D.drop (64*j)).take (D.drop (64*j)).length).map aC)).toArray ty (0,0))) (hg:wr.grownBy w' (some sb)):jn w' sb ty rest D/\w.grownBy w' (some sb):=by
 have e:D.length/64=j:=by rw[List.length_drop]at hl; omega
 have e2:D.length%64=(D.drop (64*j)).length:=by rw[List.length_drop]at hl ⊢; omega
 refine⟨⟨splice buf 0 (D.drop (64*j)),gh h.len (by omega), ?_, ?_⟩,cI h.grown hg⟩
 ·rw[e2,e];unfold splice;rw[List.take_zero,List.nil_append,List.take_left]
 ·rw[hb,List.take_length,e,jf _ h.len D.length rest (off:=0) (by omega)]
theorem jQ (sb:Nat) (ty:TypeId) (rest:List Value) (data xs:List UInt8) (xv:Value) (w:World) (h:jn w sb ty rest data) (hx:aR (· ≠sb) w xv xs) (hlen:data.length+xs.length<1152921504606846976) (hK:eP w) (hKlt:4<w.heap.size) (hne:sb≠4):
  Calls Tryz.prog 148 #[.pointer (some ⟨sb,0,none⟩),xv] w fun e w'=>e= .returned (.tuple #[])/\jn w' sb ty rest (data++xs)/\w.grownBy w' (some sb):=by
 obtain⟨buf,hb64,htl,hbox⟩:=h;obtain⟨_,a,cap,rfl,hcap,hcm,-⟩:=id hx;have HX:=aa hx;have HBX:=aa hbox;have HTL:=aa htl;have HK:=aa hK;have HL64:=aa hb64;obtain⟨n,hn⟩: ∃n,n=data.length:=⟨_,rfl⟩;obtain⟨m,hm⟩: ∃m,m=xs.length:=⟨_,rfl⟩;rw[<-hn]at HBX hlen;rw[<-hm]at hlen hcap;have c72:=(cell_of_row w _ 72 _ _ _ HBX.out).trans (nU _ hb64 n rest)
 have f72:=frozen_of_row w _ 72 _ _ HBX.out;have HN:=aa (And.intro hn hm);clear hx hbox htl hK hb64;rw[<-hm];clear hn hm
 go_enter Tryz.func148,Tryz.ntmps148
 go_upto_region 2 with(fail)
 obtain⟨W1,hW1⟩: ∃W1,W1=w.setCell ⟨sb,72,none⟩ (.int .i64 ((n:Int)+(m:Int))):=⟨_,rfl⟩;rw[<-hW1];have HB1:=aa (show W1.heap[sb]? =some (.cells (aQ (cT data (n/64)) buf (n+m)++rest).toArray ty (0,0)) by
  rw[hW1,heap_setCell_same w _ _ _ _ _ HBX.out,List.setIfInBounds_toArray,<-vr _ HL64.out n (n+m) rest];rw[Int.natCast_add])
 have HG1:=aa (show w.grownBy W1 (some sb) by rw[hW1]; exact be w sb 72 _);have HX1:=aa (HX.out.call HG1.out);clear hW1 c72 f72
 by_cases hu:n%64=0
 ·have hui:(n:Int)%64=0:=by omega
  have HLS:=aa (show sS sb ty rest (data++xs) w (.slice a m cap) W1 from by
   have e1:64*(n/64)=data.length:=by have:=HN.out.1; omega
   refine⟨n/64,m,cap,a,buf, ?_,by rw[List.length_append]; omega,rfl, ?_, ?_⟩
   ·rw[e1,List.drop_left]; exact HN.out.2
   ·rw[e1,List.drop_left];have:=HX1.out;rw[<-HN.out.2]at this;exact this
   ·refine⟨?_,HL64.out,HG1.out⟩;rw[jq xs (by omega),List.length_append,<-HN.out.1,<-HN.out.2];exact HB1.out)
  go_wp2_with fail;clear hui hu
  go_loopw [1] (fun x wr=>sS sb ty rest (data++xs) w x wr) (fun x _=>yI x)
  case atStart=>exact HLS.out
  case round=>
   obtain⟨j,rl,cap2,a2,bf,hrl,hj,rfl,hby,hmid⟩:=hrel;have HRL:=aa hrl;have HBY:=aa hby
   have HMD:=aa hmid;have hrl2:rl<1152921504606846976:=by
    have:=HN.out;rw[hrl,List.length_drop,List.length_append]; omega
   obtain⟨_,_,_,hveq,hcap2,hcm2,-⟩:=id hby
   simp only[Value.slice.injEq]at hveq;obtain⟨rfl,-,rfl⟩:=hveq;rw[<-hrl]at hcap2;clear hrl hby hmid
   by_cases h64:64<=rl
   ·obtain⟨s1,s2,b,o,rfl⟩:=qy HBY.out (k:=64) (by rw[<-HRL.out]; exact h64) (by decide);obtain⟨a3,cap3,s3,s4⟩:=jg HBY.out (k:=64) (by rw[<-HRL.out]; exact h64);have S1: ∀w',(Instr.slice 28 (.slice (some ⟨b,o,none⟩) rl cap2) none (some (.int .i64 64)) none).run Tryz.prog w'= .ok (.slice (some ⟨b,o,none⟩) 64 cap2) w':=s1;obtain⟨r3,hr3⟩: ∃r3,r3=((List.drop (64*j) (data++xs)).drop 64).length:=⟨_,rfl⟩
    have S3: ∀w',(Instr.slice 28 (.slice (some ⟨b,o,none⟩) rl cap2) (some (.int .i64 64)) none none).run Tryz.prog w'= .ok (.slice a3 r3 cap3) w':=by rw[hr3]; exact s3
    rw[<-hr3]at s4;have HR3:=aa hr3;have S2:=aa s2;have S4:=aa s4;clear s1 s2 s3 s4 hr3;go_wp2_with fail;refine(gU sb (cT (data++xs) j) (bf.map aC++([.int .i64 ((data++xs).length:Int)]++rest)) ty b o cap2 ((List.drop (64*j) (data++xs)).take 64) wr (by rw[<-cQ]; exact HMD.out.box) (jr _ _) (by rw[List.length_take,<-HRL.out]; omega) (by omega) hcm2 ?_ (HK.out.grown hne HMD.out.grown hKlt) (by have:=HMD.out.grown.size; omega)).mono ?_
    ·intro i x hi;obtain⟨_,_,_,hv9,_,_,h9⟩:=S2.out;simp only[Value.slice.injEq]at hv9;rw[<-hv9.1]at h9
     rcases h9 with h9 | ⟨b9,o9,e9,_,h9⟩
     ·rw[List.length_take,<-HRL.out]at h9; omega
     ·simp only[Option.some.injEq,Addr.mk.injEq]at e9;rw[e9.1,e9.2.1];exact h9 i _ (by rw[List.getElem?_map,hi]; rfl)
    ·rintro e w2 ⟨rfl,hb2,hg2⟩;have HM2:=aa (show pf sb ty rest (data++xs) bf w w2 (j+1)from⟨by rw[cQ]; exact hb2,HMD.out.len,cI HMD.out.grown hg2⟩);have HY2:=aa (S4.out.call hg2);clear hb2 hg2;go_wp2_with fail
     go_roundw
     case rel=>
      refine⟨j+1,r3,cap3,a3,bf, ?_, ?_,rfl, ?_,HM2.out⟩
      ·rw[HR3.out,List.drop_drop,show 64*j+64=64*(j+1) by omega]
      ·have:=HRL.out;rw[List.length_drop]at this; omega
      ·have:=HY2.out;rw[List.drop_drop,show 64*j+64=64*(j+1) by omega]at this;exact this
     case measure=>
      have h1:=HR3.out;rw[List.length_drop,<-HRL.out]at h1
      show r3<rl
      omega
   ·have hmin:rl=Nat.min (List.drop (64*j) (data++xs)).length 64:=by rw[<-HRL.out]; exact(Nat.min_eq_left (by omega)).symm
    have hfit:8+64<=(aQ (cT (data++xs) j) bf (data++xs).length++rest).length:=by rw[List.length_append,gm _ HMD.out.len]; omega
    have HMIN:=aa hmin;have HFIT:=aa hfit;clear hmin hfit;go_wp2_with (refine dj rfl _ _ rfl sb 8 64 64 a2 rl cap2 rfl rfl (aQ (cT (data++xs) j) bf (data++xs).length++rest) ty HMD.out.box (· ≠sb) (List.drop (64*j) (data++xs)) HBY.out rl HMIN.out HFIT.out ?_; intro w3 hb3 hg3; have HB3:=aa hb3; have HG3:=aa hg3; clear hb3 hg3)
    go_end0
    refine⟨rfl, ?_⟩;refine HMD.out.done hj (by rw[<-HRL.out]; omega) ?_ HG3.out;rw[<-HRL.out]; exact HB3.out
 ·obtain⟨u,hu2⟩: ∃u,u=n%64:=⟨_,rfl⟩;have hui:(n:Int)%64=(u:Int):=by omega
  have hupos:(0:Int)<(u:Int):=by omega
  have hule:(u:Int)<=64:=by omega
  obtain⟨k,hk⟩: ∃k,k=Nat.min xs.length (64-u):=⟨_,rfl⟩;have hkle:k<=xs.length:=by rw[hk]; exact Nat.min_le_left _ _
  have hkle2:k<=64-u:=by rw[hk]; exact Nat.min_le_right _ _
  have hk3:k=xs.length\/k=64-u:=by
   rw[hk]
   rcases Nat.le_total xs.length (64-u)with e | e
   ·exact .inl (Nat.min_eq_left e)
   ·exact .inr (Nat.min_eq_right e)
  have HU:=aa (And.intro hu2 hu);have HKK:=aa hk;have HK3:=aa hk3;have HKL:=aa (And.intro hkle hkle2);have hX1:=HX1.out;rw[<-HN.out.2]at hX1;obtain⟨a4,cap4,s4,y4⟩:=jg hX1 hkle;obtain⟨m4,hm4⟩: ∃m4,m4=(xs.drop k).length:=⟨_,rfl⟩;rw[<-hm4]at s4 y4;have HM4:=aa hm4;have Y4:=aa y4;have HXX:=aa hX1;have HFIT:=aa (show 8+u+(64-u)<=(aQ (cT data (n/64)) buf (n+m)++rest).length by rw[List.length_append,gm _ HL64.out]; omega)
  clear hu hu2 hk hk3 hkle hkle2 hX1 hm4 y4;have hw64:wrap64 ((u:Int)+(k:Int))=(u:Int)+(k:Int):=by unfold wrap64; have:=HKL.out.2; omega
  by_cases hlt:u+k<64
  ·have hlti:(u:Int)+(k:Int)<64:=by omega
   go_wp2_with (refine dj rfl _ _ rfl sb (8+u) (64-u) (64-u) a m cap rfl rfl (aQ (cT data (n/64)) buf (n+m)++rest) ty HB1.out (· ≠sb) xs HXX.out k HKK.out HFIT.out ?_; intro w3 hb3 hg3; have HB3:=aa hb3; have HG3:=aa hg3; clear hb3 hg3);refine bodyPost_ret (results_none rfl _ _ _) rfl ?_;have hk:k=xs.length:=by rcases HK3.out with e | e<;> omega
   have hnl:=HN.out.1;have hml:=HN.out.2;have hun:=HU.out.1;have hq:64*(n/64)<=data.length:=by omega
   refine⟨rfl,⟨splice buf u xs,gh HL64.out (by omega), ?_, ?_⟩,cI HG1.out HG3.out⟩
   ·rw[List.length_append,<-hnl,<-hml,show(n+m)/64=n/64 by omega,show(n+m)%64=u+xs.length by omega,ny hq];have:=HTL.out;rw[<-hnl,<-hun]at this;rw[<-this];unfold splice;rw[<-List.append_assoc,List.take_left' (by rw[List.length_append,List.length_take]; have:=HL64.out; omega)]
   ·rw[HB3.out,hk,List.take_length,jf _ HL64.out _ rest (by omega),List.length_append,<-hnl,<-hml,show(n+m)/64=n/64 by omega,jq xs hq]
  ·have hge:64<=(u:Int)+(k:Int):=by omega
   have hk:k=64-u:=by have:=HKL.out.2; rcases HK3.out with e | e<;> omega
   have huk:u+k=64:=by have:=HKL.out.2; omega
   have HKE:=aa (And.intro hk huk);clear hk huk;go_wp2_with (refine dj rfl _ _ rfl sb (8+u) (64-u) (64-u) a m cap rfl rfl (aQ (cT data (n/64)) buf (n+m)++rest) ty HB1.out (· ≠sb) xs HXX.out k HKK.out HFIT.out ?_; intro w3 hb3 hg3; have HB3:=aa hb3; have HG3:=aa hg3; clear hb3 hg3);obtain⟨B,hB⟩: ∃B,B=splice buf u (xs.take k):=⟨_,rfl⟩;have hkl:=HKL.out.1
   have htk:(xs.take k).length=k:=by rw[List.length_take]; omega
   have hun:=HU.out.1;have hnl:=HN.out.1;have hml:=HN.out.2;have hq:64*(n/64)<=data.length:=by omega
   have hBl:B.length=64:=by rw[hB]; exact gh HL64.out (by rw[htk]; have:=HKE.out.2; omega)
   have hB3:w3.heap[sb]? =some (.cells (aQ (cT data (n/64)) B (n+m)++rest).toArray ty (0,0)):=by rw[HB3.out,jf _ HL64.out _ rest (by rw[htk]; have:=HKE.out.2; omega),<-hB]
   have hBD:B=((data++xs).drop (64*(n/64))).take 64:=by
    have ht:=HTL.out;rw[<-hnl,<-hun]at ht;rw[hB,qz HL64.out (by rw[htk]; exact HKE.out.2),ny hq,<-ht,List.take_append,List.length_take,HL64.out,Nat.min_eq_left (by omega),<-HKE.out.1,List.take_of_length_le (l:=List.take u buf) (by rw[List.length_take]; omega)]
   have HBL:=aa hBl;have HBD:=aa hBD;have HB4:=aa hB3;clear hkl htk hun hnl hml hq hBl hB3 hBD hB;refine(gU sb (cT data (n/64)) (B.map aC++([.int .i64 ((n+m:Nat):Int)]++rest)) ty sb 8 64 B w3 (by rw[<-cQ]; exact HB4.out) (jr _ _) HBL.out (Nat.le_refl _) (by unfold maxLen; omega) ?_ (HK.out.grown hne (cI HG1.out HG3.out) hKlt) (by have:=HG1.out.size; have:=HG3.out.size; omega)).mono ?_
   ·intro i x hi;rw[cell_of_row w3 _ _ _ _ _ HB4.out,zb _ _ rest hi]; rfl
   ·rintro e w4 ⟨rfl,hb4,hg4⟩;have hnl:=HN.out.1;have hml:=HN.out.2;have hun:=HU.out.1;have hq:64*(n/64)<=data.length:=by omega
    have hke:=HKE.out.2;have hkl:=HKL.out.1;have HG4:=aa (cI HG1.out (cI HG3.out hg4));have hY:=(Y4.out.call HG3.out).call hg4;have hdr:(data++xs).drop (64*(n/64+1))=xs.drop k:=by
     rw[show 64*(n/64+1)=data.length+k by omega,<-List.drop_drop,List.drop_left]
    have HLS:=aa (show sS sb ty rest (data++xs) w (.slice a4 m4 cap4) w4 from by
     refine⟨n/64+1,m4,cap4,a4,B, ?_,by rw[List.length_append]; omega,rfl, ?_, ?_⟩
     ·rw[hdr]; exact HM4.out
     ·rw[hdr]; exact hY
     ·refine⟨?_,HBL.out,HG4.out⟩;rw[cQ,cT,<-HBD.out,jq xs hq,List.length_append,<-hnl,<-hml];exact hb4)
    clear hb4 hg4 hnl hml hun hq hke hkl hY hdr;go_wp2_with fail;clear hw64 hlt hge hupos hule hui
    go_loopw [1] (fun x wr=>sS sb ty rest (data++xs) w x wr) (fun x _=>yI x)
    case atStart=>exact HLS.out
    case round=>
     obtain⟨j,rl,cap2,a2,bf,hrl,hj,rfl,hby,hmid⟩:=hrel;have HRL:=aa hrl;have HBY:=aa hby
     have HMD:=aa hmid;have hrl2:rl<1152921504606846976:=by
      have:=HN.out;rw[hrl,List.length_drop,List.length_append]; omega
     obtain⟨_,_,_,hveq,hcap2,hcm2,-⟩:=id hby
     simp only[Value.slice.injEq]at hveq;obtain⟨rfl,-,rfl⟩:=hveq;rw[<-hrl]at hcap2;clear hrl hby hmid
     by_cases h64:64<=rl
     ·obtain⟨s1,s2,b,o,rfl⟩:=qy HBY.out (k:=64) (by rw[<-HRL.out]; exact h64) (by decide);obtain⟨a3,cap3,s3,s4⟩:=jg HBY.out (k:=64) (by rw[<-HRL.out]; exact h64);have S1: ∀w',(Instr.slice 28 (.slice (some ⟨b,o,none⟩) rl cap2) none (some (.int .i64 64)) none).run Tryz.prog w'= .ok (.slice (some ⟨b,o,none⟩) 64 cap2) w':=s1;obtain⟨r3,hr3⟩: ∃r3,r3=((List.drop (64*j) (data++xs)).drop 64).length:=⟨_,rfl⟩
      have S3: ∀w',(Instr.slice 28 (.slice (some ⟨b,o,none⟩) rl cap2) (some (.int .i64 64)) none none).run Tryz.prog w'= .ok (.slice a3 r3 cap3) w':=by rw[hr3]; exact s3
      rw[<-hr3]at s4;have HR3:=aa hr3;have S2:=aa s2;have S4:=aa s4;clear s1 s2 s3 s4 hr3;go_wp2_with fail;refine(gU sb (cT (data++xs) j) (bf.map aC++([.int .i64 ((data++xs).length:Int)]++rest)) ty b o cap2 ((List.drop (64*j) (data++xs)).take 64) wr (by rw[<-cQ]; exact HMD.out.box) (jr _ _) (by rw[List.length_take,<-HRL.out]; omega) (by omega) hcm2 ?_ (HK.out.grown hne HMD.out.grown hKlt) (by have:=HMD.out.grown.size; omega)).mono ?_
      ·intro i x hi;obtain⟨_,_,_,hv9,_,_,h9⟩:=S2.out;simp only[Value.slice.injEq]at hv9;rw[<-hv9.1]at h9
       rcases h9 with h9 | ⟨b9,o9,e9,_,h9⟩
       ·rw[List.length_take,<-HRL.out]at h9; omega
       ·simp only[Option.some.injEq,Addr.mk.injEq]at e9;rw[e9.1,e9.2.1];exact h9 i _ (by rw[List.getElem?_map,hi]; rfl)
      ·rintro e w2 ⟨rfl,hb2,hg2⟩;have HM2:=aa (show pf sb ty rest (data++xs) bf w w2 (j+1)from⟨by rw[cQ]; exact hb2,HMD.out.len,cI HMD.out.grown hg2⟩);have HY2:=aa (S4.out.call hg2);clear hb2 hg2;go_wp2_with fail
       go_roundw
       case rel=>
        refine⟨j+1,r3,cap3,a3,bf, ?_, ?_,rfl, ?_,HM2.out⟩
        ·rw[HR3.out,List.drop_drop,show 64*j+64=64*(j+1) by omega]
        ·have:=HRL.out;rw[List.length_drop]at this; omega
        ·have:=HY2.out;rw[List.drop_drop,show 64*j+64=64*(j+1) by omega]at this;exact this
       case measure=>
        have h1:=HR3.out;rw[List.length_drop,<-HRL.out]at h1
        show r3<rl
        omega
     ·have hmin:rl=Nat.min (List.drop (64*j) (data++xs)).length 64:=by rw[<-HRL.out]; exact(Nat.min_eq_left (by omega)).symm
      have hfit:8+64<=(aQ (cT (data++xs) j) bf (data++xs).length++rest).length:=by rw[List.length_append,gm _ HMD.out.len]; omega
      have HMIN:=aa hmin;have HFIT:=aa hfit;clear hmin hfit;go_wp2_with (refine dj rfl _ _ rfl sb 8 64 64 a2 rl cap2 rfl rfl (aQ (cT (data++xs) j) bf (data++xs).length++rest) ty HMD.out.box (· ≠sb) (List.drop (64*j) (data++xs)) HBY.out rl HMIN.out HFIT.out ?_; intro w3 hb3 hg3; have HB3:=aa hb3; have HG3:=aa hg3; clear hb3 hg3)
      go_end0
      refine⟨rfl, ?_⟩;refine HMD.out.done hj (by rw[<-HRL.out]; omega) ?_ HG3.out;rw[<-HRL.out]; exact HB3.out
theorem zD {S:Nat->Prop} {w:World} {v:Value} {bs:List UInt8} (hd:aR S w v bs):(convert 28 9 v).run Tryz.prog w= .ok (.string ⟨bs.toArray⟩) w:=by
 obtain⟨_,a,cap,rfl,hn,hm,h0⟩:=hd
 rcases h0 with h0 | ⟨b,o,rfl,_,hc⟩
 ·obtain rfl:=List.eq_nil_of_length_eq_zero h0
  show(convert 28 9 (.slice a 0 cap)).run Tryz.prog w=_
  cases a<;> kernel_rfl
 ·have h:=run_convert_bytes_arg (P:=Tryz.prog) w 28 5 Tryz.underlying28 Tryz.underlying5 b o bs.length cap (bs.map fun b=>(b.toNat:Int)) (by simp) (fun i hi=>by
   rw[hc i (aC bs[i]) (by simp[hi])];simp[aC,List.getD,hi]) 9 Tryz.underlying9
  rw[qC]at h;exact h
def gE (w:World):Prop:= ∀j x,gn.list[j]? =some x->w.cell? ⟨1,j,none⟩=some (bp x)
def tt :List Value:=[.int .u32 1779033703, .int .u32 3144134277, .int .u32 1013904242, .int .u32 2773480762, .int .u32 1359893119, .int .u32 2600822924, .int .u32 528734635, .int .u32 1541459225]
theorem gE.range {w:World} (h:gE w):w.rangeAt 1 0 tt:=by
 intro j x hj;rw[Nat.zero_add];have h2:tt=gn.list.map bp:=by kernel_rfl
 rw[h2,List.getElem?_map]at hj
 cases hq:gn.list[j]? with
 | none=>rw[hq]at hj; cases hj
 | some y=>
  rw[hq]at hj;rw[h j y hq];exact hj
theorem sx (w:World) (hI:gE w):Calls Tryz.prog 147 #[] w fun e w'=>e= .returned (.pointer (some ⟨w.heap.size,0,none⟩))/\jn w' w.heap.size 248 [] []/\Below w.heap.size w w'/\w.heap.size<w'.heap.size:=by
 have HR:=aa hI.range;clear hI
 go_enter Tryz.func147,Tryz.ntmps147
 go_wp2_with (first | (refine wpList_load_mid rfl 101 _ rfl 1 0 rfl tt _ HR.out Tryz.underlying101 rfl (by kernel_rfl) ?_) | (refine wpList_build rfl 248 _ rfl (by kernel_rfl) ?_));go_ret;refine⟨rfl,⟨List.replicate 64 0,by simp,by simp, ?_⟩,(Below.refl _ _).alloc (Nat.le_refl _) _,by simp⟩;rw[heap_alloc_new,show(Tryz.prog.built 248 [(0,Value.agg tt.toArray)]).getD #[]=(aQ (cT [] (([]:List UInt8).length/64)) (List.replicate 64 0) ([]:List UInt8).length++[]).toArray by kernel_rfl]
theorem io {ops:Array Oper} {rest:List Oper} {o:Oper} {a:Act} {Q:Exit->Act->World->Prop} (hgd:o.guard=none) (s x:Operand)
  (ho:o.op= .call {callee:= .builtin .append,args:= #[s,x],argTypes:= #[28,28]}) (base:Nat) (v:Value) (n m:Nat) (xs:List Value) (hs:a.eval s=v) (w0:World) (news:List Value) (e2:TypeId)
  (hx:a.eval x= .slice (some ⟨w0.heap.size,0,none⟩) m m) (hl:news.length=m) (h1: ∀u∈news,u.oneCell'=true) (hown:w0.ownsRow base 5 1 v n xs) (hn:n+m<1099511627775) (hbase:base<=w0.heap.size)
  (h: ∀v' w',w'.ownsRow base 5 1 v' (n+m) (xs++news)->w0.grownBy w' v.ownBlock->wpList Tryz.prog ops Q rest (a.put o.dst v') w'):wpList Tryz.prog ops Q (o::rest) a (w0.alloc (.cells news.toArray e2)):=by
 obtain⟨ht,⟨i,z,h11,h12,h13,h14,h15⟩,hpos,hsm⟩:=Tryz.appBytes;have hnews: ∀(j:Nat) u,news[j]? =some u->(w0.alloc (.cells news.toArray e2)).cell? ((⟨w0.heap.size,0,none⟩:Addr).add j)=some u:=by
  intro j u hj;rw[Addr.add_mid,Nat.zero_add,cell_of_row _ _ _ _ _ _ (heap_alloc_new w0 (.cells news.toArray e2))]
  simpa using hj
 have hl1:news.length=m*1:=by rw[hl,Nat.mul_one]
 obtain⟨v',w',hr,h2,hg,_⟩:=run_append_own (P:=Tryz.prog) (w0.alloc (.cells news.toArray e2)) base _ o.type _ i z 1 1 ht h11 h12 h13 h14 h15 hpos v n xs (hown.alloc _) ⟨w0.heap.size,0,none⟩ m m news hl1 hnews h1 (by unfold maxLen; omega) (by omega) (by simp; omega);refine wpList_plain hgd fun K hK=> ?_
 unfold Oper.wp execOp;simp only[ho,resolve,invoke,builtin,Sem.run_bind,Sem.run_pure,Result.andThen_ok,List.map_toArray,List.map_cons,List.map_nil,hs,hx,hr];refine hK _ _ (h v' w' h2 ⟨hg.os,hg.tape,hg.output,by have:=hg.size; simp at this; omega,fun k hk hne=> ?_⟩);rw[hg.block k (by simp; omega) hne];exact Below.heap_alloc _ _ _ hk
end Go.Proofs.YtnjkpcalgoefhaaGreatDoor
