/- Texts of this proof, one after the other: Plain, Glob, PlainB, OrdP, RefP, Base, Libc, PathA, PathB, TreeP, TreeQ, LitP, BelP, Segs, ShaP, ShaA, ShaB, Own, Seq, App, Held, WireA, WireB, WireD, Map, RefV, ItemA, Last, ItemE, ShaC, ShaD. -/
import Derived.Lib.ValidLaws
import Derived.Lib.TrimUEq
import Derived.Lib.MapLaws
import Derived.Lib.SplitLaws
import Derived.Lib.Join
import Derived.Lib.Small
import Derived.Laws.RangeAny
import Derived.Test.YtnjkpcalgoefhaaGreatDoorRows
import Derived.Test.YtnjkpcalgoefhaaGreatDoorShelf
import Derived.WalkKit
import Derived.WalkSpells
import Derived.WalkLawsBesides
import Derived.Lib.Hide
import Derived.WalkSmall
import Derived.Deep.QuietTactic
import Derived.BigQuiet
import Derived.StillTailTactics
import Derived.Laws.Bits64b
import Derived.Laws.BitsAllLaws
import Derived.Deep.MidRow
import Derived.Laws.OwnMore
import Derived.OrdersHeld
import Derived.Deep.RegionHeld
import Derived.Laws.BytesArg
import Derived.Defers
import Derived.Recover
import Derived.Maps.OwnSet
import Derived.Maps.OwnOps
import Derived.DeepKeys5
import Derived.Laws.StructEq
import Derived.Laws.CopyOwn
import Derived.Laws.Slices
import Derived.Lib.ConvBytes
import Derived.Lib.TrailingZeros
import Derived.Test.YtnjkpcalgoefhaaGreatDoorCtz
import Derived.Lib.BufferWrite
import Derived.Maps.RangeWalk
import Derived.Shelf.Bytes.SlClone
import Derived.Lib.LazyBuf
import Derived.Laws.MakeOwn
import Derived.RangeFuncNested
import Derived.RangeFuncLeaves
import Derived.RangeFuncGives
import Derived.Lib.AppendStr
import Derived.RangeFuncBox
import Derived.Shelf.Abstract
import Derived.OwnWalkIn
import Derived.TacticsInMore
import Derived.LoopNIn
import Derived.LoopIn
import Derived.OrdersIn
import Derived.Deep.RegionWith
import Derived.Deep.RegionHeld3
import Derived.Laws.EntriesVeiled
import Derived.Laws.Cover4
import Derived.Test.YtnjkpcalgoefhaaGreatDoorIter
import Derived.Lib.SlBytesConst
import Derived.ProofKit
import Derived.Carry
import Derived.Lay
import Derived.PinnedBridge
import Derived.Lib.LaidU8T
import Derived.SevenTiedAt
import Derived.HandedShaped
import Derived.Shelf.Vars
import Derived.Test.YtnjkpcalgoefhaaGreatDoorTie
import Derived.Test.YtnjkpcalgoefhaaGreatDoorCards
import Derived.Lib.SmallJoins
import Derived.Deep.DeepHandedRow
set_option maxRecDepth 100000
set_option maxHeartbeats 8000000
namespace Go.Proofs.YtnjkpcalgoefhaaGreatDoor
open Go Go.RowKit
theorem aG {α:Type} (l:List α) (i:Nat) (x:α):l.toArray.setIfInBounds i x=(l.set i x).toArray:=List.setIfInBounds_toArray ..
theorem aH {α:Type} (x:α) (l:List α) (i:Nat) (y:α):(x::l).set (i+1) y=x::l.set i y:=rfl
theorem aI {α:Type} (x:α) (l:List α) (y:α):(x::l).set 0 y=y::l:=rfl
theorem cj {α:Type} :(∀(x:α) (l:List α),(x::l)[0]? =some x)/\(∀(x:α) (l:List α) (i:Nat),(x::l)[i+1]? =l[i]?):=⟨fun _ _=>rfl,fun _ _ _=>rfl⟩
theorem eX {α:Type} :(∀(l:List α) (i:Nat),l.toArray[i]? =l[i]?)/\(∀(x:α) (l:List α) (i:Nat),(x::l)[i+1]? =l[i]?)/\(∀(x:α) (l:List α),(x::l)[0]? =some x):=⟨fun _ _=>List.getElem?_toArray ..,fun _ _ _=>rfl,fun _ _=>rfl⟩
theorem aa {p:Prop} (h:p):RowKit.Hid p:=h
end Go.Proofs.YtnjkpcalgoefhaaGreatDoor
namespace Go.Proofs.YtnjkpcalgoefhaaGreatDoor
def ja (l:List UInt8):Bool:=l.all fun c=>decide (32<=c.toNat)
def ju (l:List UInt8):Bool:=ja l && Lib.validD l
def er (l:List UInt8):Bool:= !l.isEmpty && decide (l.length<=64) && (l != [46]) && (l != [46,46]) && !l.contains 47 && ju l
def ax (c:UInt8):List UInt8->List (List UInt8)
 | []=>[[]]
 | b::l=>if b=c then []::ax c l else
  match ax c l with
  | h::t=>(b::h)::t
  | []=>[[b]]
def cA (ps:List (List UInt8)):List UInt8:=Lib.join ps [47]
def bv (l:List UInt8):Bool:=decide (l.length<=512) && decide ((ax 47 l).length<=16) && (ax 47 l).all er
def cG (c:UInt8):Int:=if c=47 then -1 else c.toNat
def bH :List UInt8->List UInt8->Int
 | [],[]=>0
 | [],_::_=> -1
 | _::_,[]=>1
 | a::l,b::r=>if a=b then bH l r else Lib.compareInt (cG a) (cG b)
theorem dX (c:UInt8) (l:List UInt8):ax c l≠[]:=by
 cases l with
 | nil=>simp[ax]
 | cons b l=>
  unfold ax
  split
  ·simp
  ·split<;> simp
theorem jJ (c:UInt8) (l:List UInt8):1<=(ax c l).length:=by
 have:=dX c l
 cases h:ax c l with
 | nil=>exact absurd h this
 | cons a t=>simp
theorem dh (c:UInt8) (l:List UInt8):(ax c l).length<=l.length+1:=by
 induction l with
 | nil=>simp[ax]
 | cons b l ih=>
  unfold ax
  split
  ·simp; omega
  ·split
   ·rename_i h t e; rw[e]at ih; simp at ih ⊢; omega
   ·simp
theorem eI (c:UInt8) (p q:List UInt8) (hp:c∉p):ax c (p++c::q)=p::ax c q:=by
 induction p with
 | nil=>simp[ax]
 | cons b p ih=>
  have hb:b≠c:=fun e=>hp (by simp[e])
  have ih:=ih (fun h=>hp (List.mem_cons_of_mem _ h));simp only[List.cons_append,ax,if_neg hb,ih]
theorem dz (c:UInt8) (p:List UInt8) (hp:c∉p):ax c p=[p]:=by
 induction p with
 | nil=>rfl
 | cons b p ih=>
  have hb:b≠c:=fun e=>hp (by simp[e])
  have ih:=ih (fun h=>hp (List.mem_cons_of_mem _ h));simp only[ax,if_neg hb,ih]
theorem tV (c:UInt8) (l:List UInt8): ∀p∈ax c l,c∉p:=by
 induction l with
 | nil=>simp[ax]
 | cons b l ih=>
  unfold ax
  split
  ·intro p hp; rcases List.mem_cons.1 hp with rfl | hp
   ·simp
   ·exact ih p hp
  ·rename_i hb
   split
   ·rename_i h t e;rw[e]at ih;intro p hp; rcases List.mem_cons.1 hp with rfl | hp
    ·have:=ih h (by simp); simp[this,Ne.symm hb]
    ·exact ih p (by simp[hp])
   ·rename_i e; exact absurd e (dX c l)
theorem ln (c:UInt8) (l:List UInt8):Lib.join (ax c l) [c]=l:=by
 induction l with
 | nil=>rfl
 | cons b l ih=>
  unfold ax
  split
  ·rename_i hb; subst hb
   cases h:ax b l with
   | nil=>exact absurd h (dX b l)
   | cons a t=>rw[h]at ih; rw[Lib.join_cons]at *; simp[Lib.joinTail]at *; exact ih
  ·split
   ·rename_i h t e; rw[e]at ih; rw[Lib.join_cons]at *; simp at *; exact ih
   ·rename_i e; exact absurd e (dX c l)
theorem sk (c:UInt8) (ps:List (List UInt8)) (h0:ps≠[]) (h: ∀p∈ps,c∉p):ax c (Lib.join ps [c])=ps:=by
 induction ps with
 | nil=>exact absurd rfl h0
 | cons p ps ih=>
  cases ps with
  | nil=>rw[Lib.join_one]; exact dz c p (h p (by simp))
  | cons q ps=>
   have e:Lib.join (p::q::ps) [c]=p++c::Lib.join (q::ps) [c]:=by
    rw[Lib.join_cons,Lib.join_cons]; simp[Lib.joinTail]
   rw[e,eI c _ _ (h p (by simp)),ih (by simp) (fun x hx=>h x (by simp[hx]))]
theorem oN (l:List UInt8) (c:UInt8) (h:c∈l): ∃p q,l=p++c::q/\c∉p:=by
 induction l with
 | nil=>simp at h
 | cons b l ih=>
  by_cases hb:b=c
  ·exact⟨[],l,by simp[hb],by simp⟩
  ·have:c∈l:=(List.mem_cons.1 h).resolve_left (Ne.symm hb);obtain⟨p,q,rfl,hp⟩:=ih this;exact⟨b::p,q,rfl,by simp[hp,Ne.symm hb]⟩
theorem vt (p q:List UInt8) (c:UInt8) (hp:c∉p):Lib.index (p++c::q) [c]=(p.length:Int):=by
 induction p with
 | nil=>simp[Lib.index,List.isPrefixOf]
 | cons b p ih=>
  have hb:b≠c:=fun e=>hp (by simp[e])
  have ih:=ih (fun h=>hp (List.mem_cons_of_mem _ h));rw[List.cons_append,Lib.index,ih];have h1:([c]:List UInt8).isPrefixOf (b::(p++c::q))=false:=by simp[List.isPrefixOf,Ne.symm hb]
  have h2:((p.length:Int) == -1)=false:=by rw[beq_eq_false_iff_ne]; omega
  rw[h1,h2]; simp
theorem pj (c:UInt8): ∀(k:Nat) (s:List UInt8),s.count c=k->Lib.splitK [c] 0 k s=ax c s
 | 0,s,h=>by
  have:c∉s:=List.count_eq_zero.1 h;rw[dz c s this]; rfl
 | k+1,s,h=>by
  have hc:c∈s:=List.count_pos_iff.1 (by omega);obtain⟨p,q,rfl,hp⟩:=oN s c hc;have hq:q.count c=k:=by
   have h0:p.count c=0:=List.count_eq_zero.2 hp;rw[List.count_append,h0,List.count_cons_self]at h; omega
  rw[eI c p q hp,Lib.splitK,vt p q c hp,if_neg (by simp)];simp only[Int.toNat_natCast,Nat.add_zero,List.length_cons,List.length_nil,Nat.zero_add];rw[List.take_left];have e:(p++c::q).drop (p.length+1)=q:=by rw[List.drop_append]; simp
  rw[e,pj c k q hq]
theorem wM (c:UInt8) (s:ByteArray):(Lib.splitB ⟨#[c]⟩ 0 (Lib.countB s ⟨#[c]⟩) s).map (·.data.toList)=ax c s.data.toList:=by
 rw[Lib.splitB_data];exact pj c _ _ (by rw[Lib.countB,Lib.count_one])
theorem tT (c:UInt8) (s:ByteArray):(Lib.splitB ⟨#[c]⟩ 0 (Lib.countB s ⟨#[c]⟩) s).length=Lib.countB s ⟨#[c]⟩+1:=
 Lib.splitB_all ⟨#[c]⟩ (by simp[ByteArray.size]) 0 _ s rfl
theorem fH (l:List UInt8) (c:UInt8):decide (0<=Lib.indexByte l c)=l.contains c:=by
 induction l with
 | nil=>simp[Lib.indexByte]
 | cons b l ih=>
  have hge:=Lib.indexByte_ge l c;unfold Lib.indexByte
  by_cases hb:b=c
  ·subst hb; simp
  ·have h1:(b == c)=false:=by simpa using hb
   have h2:(c == b)=false:=by simpa using Ne.symm hb
   rw[h1];simp only[Bool.false_eq_true,if_false,List.contains_cons,h2,Bool.false_or,<-ih]
   by_cases hm:Lib.indexByte l c= -1
   ·simp[hm]
   ·rw[if_neg (by simpa using hm)]; congr 1; apply propext; omega
theorem qJ (s:ByteArray) (pos:Nat) (h:pos<s.size) (ha:128<=(s.get! pos).toNat):
  pos+(Utf8.decode s pos).2<=s.size/\ ∀j,pos<=j->j<pos+(Utf8.decode s pos).2->128<=(s.get! j).toNat:=by
 have hn: ¬(s.get! (pos+0)).toNat<128:=by simpa using ha
 simp only[Utf8.decode,hn,if_false]
 repeat' split
 all_goals simp_all
 all_goals (refine⟨by omega,fun j h1 h2=> ?_⟩)
 all_goals (rcases Nat.lt_or_ge j (pos+1)with h3 | h3)
 all_goals (first | (rw[show j=pos by omega]; exact ha) | skip)
 all_goals (rcases Nat.lt_or_ge j (pos+2)with h4 | h4)
 all_goals (first | (rw[show j=pos+1 by omega]; omega) | skip)
 all_goals (rcases Nat.lt_or_ge j (pos+3)with h5 | h5)
 all_goals (first | (rw[show j=pos+2 by omega]; omega) | skip)
 all_goals (first | (rw[show j=pos+3 by omega]; omega) | skip)
 all_goals omega
theorem tU (c:UInt8) (p q:List UInt8):ax c (p++c::q)=ax c p++ax c q:=by
 induction p with
 | nil=>simp[ax]
 | cons b p ih=>
  simp only[List.cons_append,ax]
  by_cases hb:b=c
  ·simp[hb,ih]
  ·rw[if_neg hb,if_neg hb,ih]
   cases h:ax c p with
   | nil=>exact absurd h (dX c p)
   | cons a t=>simp
def aL (l:List UInt8):List UInt8:=cA (ax 47 l).dropLast
theorem gI (l:List UInt8) (h:47∉l):aL l=[]:=by
 unfold aL; rw[dz 47 l h]; rfl
theorem fV (p q:List UInt8) (h:47∉q):aL (p++47::q)=p:=by
 unfold aL cA;rw[tU,dz 47 q h,List.dropLast_concat,ln]
theorem jF (l:List UInt8) (h:47∈l): ∃p q,l=p++47::q/\47∉q:=by
 induction l with
 | nil=>simp at h
 | cons b l ih=>
  by_cases hm:(47:UInt8)∈l
  ·obtain⟨p,q,rfl,hq⟩:=ih hm;exact⟨b::p,q,rfl,hq⟩
  ·rcases List.mem_cons.1 h with rfl | h
   ·exact⟨[],l,rfl,hm⟩
   ·exact absurd h hm
theorem kk (l:List UInt8):aL l=l.take (aL l).length:=by
 by_cases h:(47:UInt8)∈l
 ·obtain⟨p,q,rfl,hq⟩:=jF l h;rw[fV p q hq]; simp
 ·rw[gI l h]; simp
theorem ub (ps:List (List UInt8)) (m:Nat) (h: ∀p∈ps,p.length<=m):(cA ps).length<=ps.length*(m+1):=by
 induction ps with
 | nil=>simp[cA,Lib.join_nil]
 | cons p r ih=>
  have h1:=h p (by simp);have h2:=ih (fun x hx=>h x (by simp[hx]))
  cases r with
  | nil=>rw[cA,Lib.join_one]; simp; omega
  | cons q r=>
   have e:cA (p::q::r)=p++47::cA (q::r):=by
    unfold cA; rw[Lib.join_cons,Lib.join_cons]; simp[Lib.joinTail]
   rw[e,List.length_append,List.length_cons,List.length_cons (a:=p),Nat.add_mul];omega
def dm :Nat->List UInt8->List Int
 | 0,_=>[]
 | n+1,l=>if l=[]then []else((Lib.decodeL l).1:Int)::dm n (l.drop (Lib.decodeL l).2)
def aU (l:List UInt8):List Int:=dm l.length l
structure bq where
 star:Bool
 any:Bool
 neg:Bool
 ranges:List (Int×Int)
structure aJ where
 dbl:Bool
 items:List bq
def AB :bq:=⟨true,false,false,[]⟩
def Be :bq:=⟨false,true,false,[]⟩
def zJ (r:Int):bq:=⟨false,false,false,[(r,r)]⟩
def kh :List Int->Option (Int×List Int)
 | []=>none
 | q::u=>some (q,u)
def gS :List Int->Option (Int×List Int)
 | []=>none
 | r::t=>if r=92 then kh t else if r=93\/r=94\/r=45 then none else some (r,t)
def cy :Nat->List Int->List (Int×Int)->Option (List (Int×Int)×List Int)
 | 0,_,_=>none
 | f+1,l,acc=>
  if l.head? =some 93 then some (acc,l.tail)else
  match gS l with
  | none=>none
  | some (lo,t)=>
   if t.head? =some 45 then
    match gS t.tail with
    | none=>none
    | some (hi,u)=>if hi<lo then none else cy f u (acc++[(lo,hi)])
   else cy f t (acc++[(lo,lo)])
def jT (t:List Int):Option (bq×List Int):=
 let neg:=decide (t.head? =some 94)
 let t':=if neg then t.tail else t
 match cy (t'.length+1) t' []with
 | none=>none
 | some (rs,u)=>if rs=[]then none else some (⟨false,false,neg,rs⟩,u)
def ev :List Int->Option (bq×List Int)
 | []=>none
 | r::t=>
  if r=42 then some (AB,t)else if r=63 then some (Be,t)else if r=91 then jT t
  else if r=92 then(kh t).map (fun x=>(zJ x.1,x.2))else some (zJ r,t)
def fI :Nat->List Int->Option (List bq)
 | 0,_=>none
 | f+1,l=>if l=[]then some []else
  match ev l with
  | none=>none
  | some (it,t)=>match fI f t with | none=>none | some its=>some (it::its)
def ei (l:List Int):Option (List bq):=fI (l.length+1) l
def gP (p:List UInt8):Option aJ:=
 if p=[42,42]then some ⟨true,[]⟩else
 match ei (aU p)with
 | none=>none
 | some its=>if its=[]then none else some ⟨false,its⟩
def bW :List (List UInt8)->Option (List aJ)
 | []=>some []
 | p::r=>match gP p with
  | none=>none
  | some c=>match bW r with | none=>none | some cs=>some (c::cs)
def gv (l:List UInt8):Option (List aJ):=
 if 512<l.length\/ju l=false then none else if 16<(ax 47 l).length then none else bW (ax 47 l)
def fA {T:Type} (f:List T->Bool):List T->Bool
 | []=>f []
 | t::us=>f (t::us) || fA f us
def qZ {T:Type} (m:T->Bool) (f:List T->Bool):List T->Bool
 | []=>false
 | t::us=>m t && f us
def dv {P T:Type} (star:P->Bool) (m:P->T->Bool):List P->List T->Bool
 | [],ts=>ts.isEmpty
 | p::ps,ts=>if star p then fA (dv star m ps) ts else qZ (m p) (dv star m ps) ts
def xd (r:Int) (x:Int×Int):Bool:=decide (x.1<=r) && decide (r<=x.2)
def dE (it:bq) (r:Int):Bool:=it.any || ((it.ranges.any (xd r)) != it.neg)
def uu (c:aJ) (part:List UInt8):Bool:=dv (·.star) dE c.items (aU part)
def gg (cs:List aJ) (parts:List (List UInt8)):Bool:=dv (·.dbl) uu cs parts
theorem iU {l t:List Int} {r:Int} (h:gS l=some (r,t)):t.length<l.length:=by
 cases l with
 | nil=>simp[gS]at h
 | cons a l=>
  rw[gS]at h
  split at h
  ·cases l with
   | nil=>simp[kh]at h
   | cons q u=>simp[kh]at h; obtain⟨_,rfl⟩:=h; simp; omega
  ·split at h
   ·simp at h
   ·simp at h; obtain⟨_,rfl⟩:=h; simp
theorem jz : ∀(f:Nat) {l:List Int} {acc:List (Int×Int)} {rs:List (Int×Int)} {u:List Int},cy f l acc=some (rs,u)->u.length<=l.length
 | 0,_,_,_,_,h=>by simp[cy]at h
 | f+1,l,acc,rs,u,h=>by
  unfold cy at h
  split at h
  ·simp at h; obtain⟨_,rfl⟩:=h; simp
  ·split at h
   ·simp at h
   ·rename_i lo t e;have h1:=iU e
    split at h
    ·split at h
     ·simp at h
     ·rename_i hi v e2;have h2:=iU e2;rw[List.length_tail]at h2
      split at h
      ·simp at h
      ·have:=jz f h; omega
    ·have:=jz f h; omega
theorem xC {t u:List Int} {it:bq} (h:jT t=some (it,u)):u.length<=t.length:=by
 unfold jT at h;simp only at h
 split at h
 ·simp at h
 ·rename_i rs v e;have:=jz _ e
  split at h
  ·simp at h
  ·simp only[Option.some.injEq,Prod.mk.injEq]at h;obtain⟨_,rfl⟩:=h
   split at this
   ·rw[List.length_tail]at this; omega
   ·exact this
theorem iX {l t:List Int} {it:bq} (h:ev l=some (it,t)):t.length<l.length:=by
 cases l with
 | nil=>simp[ev]at h
 | cons a l=>
  rw[ev]at h
  split at h
  ·simp at h; obtain⟨_,rfl⟩:=h; simp
  ·split at h
   ·simp at h; obtain⟨_,rfl⟩:=h; simp
   ·split at h
    ·have:=xC h; simp; omega
    ·split at h
     ·cases l with
      | nil=>simp[kh]at h
      | cons q u=>simp[kh]at h; obtain⟨_,rfl⟩:=h; simp; omega
     ·simp at h; obtain⟨_,rfl⟩:=h; simp
theorem lm : ∀(f g:Nat) (l:List Int),l.length<f->l.length<g->fI f l=fI g l
 | 0,_,_,h,_=>by omega
 | _,0,_,_,h=>by omega
 | f+1,g+1,l,h1,h2=>by
  unfold fI
  split
  ·rfl
  ·split
   ·rfl
   ·rename_i it t e;have:=iX e;rw[lm f g t (by omega) (by omega)]
theorem rq {l t:List Int} {it:bq} (hl:l≠[]) (h:ev l=some (it,t)):ei l=match ei t with | none=>none | some its=>some (it::its):=by
 have:=iX h;unfold ei;rw[fI,if_neg hl,h];simp only;rw[lm l.length (t.length+1) t (by omega) (by omega)]
theorem ti {l:List Int} (hl:l≠[]) (h:ev l=none):ei l=none:=by
 unfold ei;rw[fI,if_neg hl,h]
theorem eW (l:List UInt8) (h:l≠[]):1<=(Lib.decodeL l).2/\(Lib.decodeL l).2<=l.length:=⟨Lib.decodeL_width l,Lib.decodeL_le l h⟩
theorem kt : ∀(n m:Nat) (l:List UInt8),l.length<=n->l.length<=m->dm n l=dm m l
 | 0,m,l,h,_=>by
  have:l=[]:=List.eq_nil_of_length_eq_zero (by omega);subst this; cases m<;> simp[dm]
 | n,0,l,_,h=>by
  have:l=[]:=List.eq_nil_of_length_eq_zero (by omega);subst this; cases n<;> simp[dm]
 | n+1,m+1,l,h1,h2=>by
  unfold dm
  split
  ·rfl
  ·rename_i hl;have:=eW l hl;rw[kt n m (l.drop (Lib.decodeL l).2) (by rw[List.length_drop]; omega) (by rw[List.length_drop]; omega)]
theorem rT (l:List UInt8) (h:l≠[]):aU l=((Lib.decodeL l).1:Int)::aU (l.drop (Lib.decodeL l).2):=by
 have h1:=eW l h;have hl:l.length=(l.length-1)+1:=by have:=List.length_pos_iff.2 h; omega
 unfold aU;rw[hl,dm,if_neg h,kt _ (l.drop (Lib.decodeL l).2).length (l.drop (Lib.decodeL l).2) (by rw[List.length_drop]; omega) (Nat.le_refl _)]
theorem iI : ∀(n:Nat) (l:List UInt8),(dm n l).length<=n
 | 0,_=>by simp[dm]
 | n+1,l=>by
  unfold dm
  split
  ·simp
  ·have:=iI n (l.drop (Lib.decodeL l).2); simp; omega
theorem dP (l:List UInt8):(aU l).length<=l.length:=iI _ _
theorem ks (s:ByteArray): ∀(n i:Nat) (acc:Array Value),Conv.runesFrom s n i acc=acc++((dm n (s.data.toList.drop i)).map (Value.int .i32)).toArray
 | 0,i,acc=>by simp[Conv.runesFrom,dm]
 | n+1,i,acc=>by
  unfold Conv.runesFrom dm;have hsz:s.size=s.data.toList.length:=Lib.size_eq s
  by_cases h:i<s.size
  ·rw[if_pos h,if_neg (by intro e; have:=List.drop_eq_nil_iff.1 e; omega)];simp only;rw[ks s n,Lib.decodeL_drop,List.drop_drop]
   apply Array.ext'
   simp
  ·rw[if_neg h,if_pos (List.drop_eq_nil_iff.2 (by omega))];simp
theorem tK (s:ByteArray):Conv.runesFrom s s.size 0 #[]=((aU s.data.toList).map (Value.int .i32)).toArray:=by
 rw[ks,Lib.size_eq];simp[aU]
theorem jr : ∀(f:Nat) (l:List Int) (its:List bq),fI f l=some its->its.length<=l.length
 | 0,_,_,h=>by simp[fI]at h
 | f+1,l,its,h=>by
  unfold fI at h
  split at h
  ·simp at h; subst h; simp
  ·split at h
   ·simp at h
   ·rename_i it t e;have:=iX e
    split at h
    ·simp at h
    ·rename_i its2 e2;have h2:=jr f t its2 e2;simp at h; subst h; simp; omega
theorem qC {p:List UInt8} {c:aJ} (h:gP p=some c):c.items.length<=p.length:=by
 unfold gP at h
 split at h
 ·simp at h; subst h; simp
 ·split at h
  ·simp at h
  ·rename_i its e;have h1:=jr _ _ _ e;have h2:=dP p
   split at h
   ·simp at h
   ·simp at h; subst h; simp; omega
theorem mu : ∀ {ps:List (List UInt8)} {cs:List aJ},bW ps=some cs->cs.length=ps.length
 | [],cs,h=>by simp[bW]at h; subst h; rfl
 | p::ps,cs,h=>by
  unfold bW at h
  split at h
  ·simp at h
  ·split at h
   ·simp at h
   ·rename_i cs2 e2;simp at h; subst h;simp[mu e2]
theorem jW : ∀ {ps:List (List UInt8)} {cs:List aJ} {m:Nat},bW ps=some cs->(∀p∈ps,p.length<=m)-> ∀c∈cs,c.items.length<=m
 | [],cs,m,h,_=>by simp[bW]at h; subst h; simp
 | p::ps,cs,m,h,hm=>by
  unfold bW at h
  split at h
  ·simp at h
  ·rename_i c0 e0
   split at h
   ·simp at h
   ·rename_i cs2 e2;simp at h; subst h;intro c hc
    rcases List.mem_cons.1 hc with rfl | hc
    ·have:=qC e0; have:=hm p (by simp); omega
    ·exact jW e2 (fun q hq=>hm q (by simp[hq])) c hc
structure aN where
 pat:List UInt8
 keep:Bool
 dir:Bool
 rooted:Bool
def aQ (r:aN):Option (List aJ):=
 if Lib.hasPrefix r.pat [33] || Lib.hasPrefix r.pat [35]then none else if r.pat.contains 47 && !r.rooted then none else gv r.pat
def pd (l:List UInt8):aN:=
 let l1:=Lib.trimPrefix l [33]
 let l2:=Lib.trimPrefix l1 [47]
 let p:=Lib.trimSuffix l2 [47]
 ⟨p,Lib.hasPrefix l [33],Lib.hasSuffix l2 [47],Lib.hasPrefix l1 [47] || p.contains 47⟩
def bO (l:List UInt8):Option aN:=if(aQ (pd l)).isSome then some (pd l)else none
def cz :List (List UInt8)->Nat->List aN->List aN×Int×Int
 | [],_,acc=>(acc,0,0)
 | l::ls,i,acc=>if l=[]\/Lib.hasPrefix l [35]=true then cz ls (i+1) acc else
  match bO l with
  | none=>([],i+1,3)
  | some r=>if acc.length=256 then([],i+1,2)else cz ls (i+1) (acc++[r])
def bS (l:List UInt8):List aN×Int×Int:=if 65536<l.length then([],0,2)else cz (ax 10 l) 0 []
def ek (dir:Bool) (r:aN) (cs:List aJ) (parts:List (List UInt8)) (n:Nat):Bool:=
 (dir || decide (n<parts.length) || !r.dir) && gg cs (if r.rooted then parts.take n else(parts.take n).drop (n-1))
def eu (dir:Bool) (parts:List (List UInt8)) (n:Nat):List (aN×List aJ)->Bool->Bool
 | [],b=>b
 | (r,cs)::t,b=>eu dir parts n t (if ek dir r cs parts n then !r.keep else b)
def bT (dir:Bool) (parts:List (List UInt8)) (rs:List (aN×List aJ)):Nat->Nat->Bool
 | 0,_=>false
 | f+1,n=>if eu dir parts n rs false then true else bT dir parts rs f (n+1)
def aO :List aN->Option (List (aN×List aJ))
 | []=>some []
 | r::t=>match aQ r with
  | none=>none
  | some cs=>match aO t with | none=>none | some u=>some ((r,cs)::u)
def cN (rs:List aN) (path:List UInt8) (dir:Bool):Bool×Int:=
 if bv path=false\/256<rs.length then(false,1)else
 match aO rs with
 | none=>(false,1)
 | some u=>(bT dir (ax 47 path) u (ax 47 path).length 1,0)
theorem fq {a b:UInt8} (h:cG a=cG b):a=b:=by
 unfold cG at h
 split at h<;> split at h
 ·simp[*]
 ·omega
 ·omega
 ·apply UInt8.toNat_inj.1; omega
theorem ut : ∀(a b:List UInt8),bH b a= -bH a b
 | [],[]=>by simp[bH]
 | [],_::_=>by simp[bH]
 | _::_,[]=>by simp[bH]
 | a::l,b::r=>by
  unfold bH
  by_cases h:a=b
  ·rw[if_pos h,if_pos h.symm]; exact ut l r
  ·rw[if_neg h,if_neg (Ne.symm h)];have:cG a≠cG b:=fun e=>h (fq e)
   unfold Lib.compareInt
   rcases Int.lt_trichotomy (cG a) (cG b)with h1 | h1 | h1
   ·rw[if_neg (by omega),if_pos (by omega),if_pos h1]; rfl
   ·exact absurd h1 this
   ·rw[if_pos (by omega),if_neg (by omega),if_pos (by omega)]
theorem jU : ∀(a b:List UInt8),bH a b=0<->a=b
 | [],[]=>by simp[bH]
 | [],_::_=>by simp[bH]
 | _::_,[]=>by simp[bH]
 | a::l,b::r=>by
  unfold bH
  by_cases h:a=b
  ·rw[if_pos h,jU l r]; simp[h]
  ·rw[if_neg h];have:cG a≠cG b:=fun e=>h (fq e)
   unfold Lib.compareInt
   constructor
   ·intro e; split at e
    ·omega
    ·split at e<;> omega
   ·intro e; simp at e; exact absurd e.1 h
theorem oA : ∀(a b c:List UInt8),bH a b<=0->bH b c<=0->bH a c<=0/\(bH a c=0->bH a b=0/\bH b c=0)
 | [],b,[],h1,h2=>by
  cases b with
  | nil=>simp[bH]
  | cons x b=>simp[bH]at h2
 | [],_,_::_,_,_=>by simp[bH]
 | _::_,[],_,h1,_=>by simp[bH]at h1
 | x::a,y::b,[],_,h2=>by simp[bH]at h2
 | x::a,y::b,z::c,h1,h2=>by
  unfold bH at h1 h2 ⊢
  by_cases hxy:x=y
  ·subst hxy;rw[if_pos rfl]at h1 ⊢
   by_cases hxz:x=z
   ·subst hxz;rw[if_pos rfl]at h2 ⊢;rw[if_pos rfl];exact oA a b c h1 h2
   ·rw[if_neg hxz]at h2 ⊢;rw[if_neg hxz];refine⟨h2,fun e=> ?_⟩
    exfalso
    have:cG x≠cG z:=fun e=>hxz (fq e)
    unfold Lib.compareInt at e
    split at e
    ·omega
    ·split at e<;> omega
  ·rw[if_neg hxy]at h1 ⊢;have n1:cG x≠cG y:=fun e=>hxy (fq e)
   have l1:cG x<cG y:=by
    unfold Lib.compareInt at h1
    split at h1
    ·assumption
    ·split at h1
     ·omega
     ·omega
   by_cases hyz:y=z
   ·subst hyz;rw[if_neg hxy];refine⟨h1,fun e=> ?_⟩
    exfalso
    unfold Lib.compareInt at e;rw[if_pos l1]at e; omega
   ·rw[if_neg hyz]at h2;have n2:cG y≠cG z:=fun e=>hyz (fq e)
    have l2:cG y<cG z:=by
     unfold Lib.compareInt at h2
     split at h2
     ·assumption
     ·split at h2<;> omega
    have n3:x≠z:=fun e=>by subst e; omega
    rw[if_neg n3];unfold Lib.compareInt;rw[if_pos (by omega)];exact⟨by omega,fun e=>by omega⟩
theorem ur : ∀(p q:List UInt8),bH p (p++q)<=0
 | [],[]=>by simp[bH]
 | [],_::_=>by simp[bH]
 | a::p,q=>by rw[List.cons_append,bH,if_pos rfl]; exact ur p q
theorem jQ (k n:Nat) (z:Int) (h:z=((k+n:Nat):Int)):UInt8.ofNat k+UInt8.ofNat n=UInt8.ofNat z.toNat:=by
 subst h; rw[Int.toNat_natCast,UInt8.ofNat_add]
theorem sU (r:Nat):(Utf8.encode (r:Int)).data.toList=Lib.encodeRune (r:Int):=by
 unfold Lib.encodeRune
 by_cases c1:r<128
 ·have v:Utf8.valid (r:Int)=true:=by simp[Utf8.valid]; omega
  rw[Lib.encodeRuneZ_one (by omega) (by omega)]; simp[Utf8.encode,v,c1]
 by_cases c2:r<2048
 ·have v:Utf8.valid (r:Int)=true:=by simp[Utf8.valid]; omega
  rw[Lib.encodeRuneZ_two (by omega) (by omega)]; simp[Utf8.encode,v,c1,c2]; exact⟨jQ 192 _ _ (by omega),jQ 128 _ _ (by omega)⟩
 by_cases hb:(55296<=r/\r<=57343)\/1114111<r
 ·have v:Utf8.valid (r:Int)=false:=by simp[Utf8.valid]; omega
  rw[Lib.encodeRuneZ_bad (by omega)]; simp[Utf8.encode,v,Utf8.runeError]
 by_cases c3:r<65536
 ·have v:Utf8.valid (r:Int)=true:=by simp[Utf8.valid]; omega
  rw[Lib.encodeRuneZ_three (by omega)]; simp[Utf8.encode,v,c1,c2,c3]; exact⟨jQ 224 _ _ (by omega),jQ 128 _ _ (by omega),jQ 128 _ _ (by omega)⟩
 ·have v:Utf8.valid (r:Int)=true:=by simp[Utf8.valid]; omega
  rw[Lib.encodeRuneZ_four (by omega) (by omega)]; simp[Utf8.encode,v,c1,c2,c3]; exact⟨jQ 240 _ _ (by omega),jQ 128 _ _ (by omega),jQ 128 _ _ (by omega),jQ 128 _ _ (by omega)⟩
def qd (l:List UInt8):List UInt8:=(aU l).flatMap Lib.encodeRune
theorem qe :qd []=[]:=rfl
theorem rP (l:List UInt8) (h:l≠[]):qd l=Lib.encodeRune ((Lib.decodeL l).1:Int)++qd (l.drop (Lib.decodeL l).2):=by
 unfold qd; rw[rT l h,List.flatMap_cons]
theorem mC (r:Int):(Lib.encodeRune r).length<=4:=by
 have:=(Lib.encodeRuneZ_length r).2; simpa [Lib.encodeRune]using this
theorem uP : ∀(n:Nat) (l:List UInt8),l.length<=n->l.length<=(qd l).length/\(qd l=l<->Lib.validD l=true)
 | 0,l,h=>by
  have:l=[]:=List.eq_nil_of_length_eq_zero (by omega);subst this;exact⟨by simp,by simp[qe,Lib.validD_nil]⟩
 | n+1,l,h=>by
  by_cases hl:l=[]
  ·subst hl;exact⟨by simp,by simp[qe,Lib.validD_nil]⟩
  ·have hw:=eW l hl;obtain⟨ih1,ih2⟩:=uP n (l.drop (Lib.decodeL l).2) (by rw[List.length_drop]; omega);rw[List.length_drop]at ih1;rw[rP l hl,Lib.validD_step l hl]
   by_cases hb:(Lib.decodeL l).1=65533/\(Lib.decodeL l).2=1
   ·have e3:(Lib.encodeRune ((Lib.decodeL l).1:Int)).length=3:=by rw[hb.1]; rfl
    rw[if_pos hb];refine⟨by rw[List.length_append,e3]; omega,⟨fun e=> ?_,fun e=>by cases e⟩⟩;have:=congrArg List.length e;rw[List.length_append,e3]at this;omega
   ·rw[if_neg hb,Lib.encode_decode l hl hb];refine⟨by rw[List.length_append,List.length_take]; omega, ?_⟩;rw[<-ih2]
    constructor
    ·intro e;have h2:l.take (Lib.decodeL l).2++qd (l.drop (Lib.decodeL l).2)=l.take (Lib.decodeL l).2++l.drop (Lib.decodeL l).2:=by rw[List.take_append_drop]; exact e
     exact List.append_cancel_left h2
    ·intro e; rw[e,List.take_append_drop]
theorem vT (l:List UInt8):(qd l == l)=Lib.validD l:=by
 rw[Bool.eq_iff_iff,beq_iff_eq]; exact(uP l.length l (Nat.le_refl _)).2
theorem qB (l:List UInt8):((ax 47 l).length == 1)= !l.contains 47:=by
 by_cases h:(47:UInt8)∈l
 ·obtain⟨p,q,rfl,hp⟩:=oN l 47 h;have:=jJ 47 q;rw[eI 47 p q hp];have h2:((p::ax 47 q).length == 1)=false:=by rw[beq_eq_false_iff_ne]; simp; exact dX 47 q
  rw[h2]; simp
 ·rw[dz 47 l h]; simp[h]
theorem lB (ps:List (List UInt8)) (p:List UInt8):cA (ps++[p])=if ps=[]then p else cA ps++[47]++p:=by
 cases ps with
 | nil=>simp[cA,Lib.join_one]
 | cons q ps=>
  simp only[List.cons_append,cA,Lib.join_cons,if_neg (List.cons_ne_nil q ps)];have: ∀(l:List (List UInt8)),Lib.joinTail [47] (l++[p])=Lib.joinTail [47] l++47::p:=by
   intro l
   induction l with
   | nil=>simp[Lib.joinTail]
   | cons a l _=>simp only[List.cons_append,Lib.joinTail]; simp
  rw[this]; simp
open Go.RowKit
def bl (s:ByteArray):List UInt8:=s.data.toList
theorem uv (s:ByteArray):s.data.toList=bl s:=rfl
theorem aX (s:ByteArray):s.toList=bl s:=by rw[ByteArray.toList_eq]; rfl
theorem jR (l:List UInt8):bl ⟨l.toArray⟩=l:=by simp[bl]
theorem lp (s:ByteArray):(⟨(bl s).toArray⟩:ByteArray)=s:=by cases s; simp[bl]
theorem am (s:ByteArray):s.size=(bl s).length:=Lib.size_eq s
theorem iT (s t:ByteArray):bl (s++t)=bl s++bl t:=by simp[bl]
theorem gB (s:ByteArray) (a b:Nat):bl (s.extract a b)=((bl s).take b).drop a:=by unfold bl; rw[Lib.extract_data]; rw[List.drop_take]
theorem fC {s t:ByteArray} (h:bl s=bl t):s=t:=by rw[<-lp s,<-lp t,h]
def ew (S:Nat->Prop) (w w':World):Prop:= ∀k,S k->w'.heap[k]? =w.heap[k]?
theorem ew.refl (S:Nat->Prop) (w:World):ew S w w:=fun _ _=>rfl
theorem ew.trans {S:Nat->Prop} {a b c:World} (h:ew S a b) (k:ew S b c):ew S a c:=fun i hi=>(k i hi).trans (h i hi)
theorem ew.cell {S:Nat->Prop} {w w':World} (h:ew S w w') {a:Addr} (ha:S a.block):w'.cell? a=w.cell? a:=World.cell?_of_block (h a.block ha)
theorem ew.mono {S T:Nat->Prop} {w w':World} (h:ew S w w') (hT: ∀k,T k->S k):ew T w w':=fun k hk=>h k (hT k hk)
theorem ay {w:World} {a:Addr} {v:Value} (h:w.cell? a=some v):a.block<w.heap.size:=by
 rcases Nat.lt_or_ge a.block w.heap.size with h' | h'
 ·exact h'
 ·simp[World.cell?,Array.getElem?_eq_none h']at h
def aD (S:Nat->Prop) (w:World) (sz:Nat) (v:Value) (n:Nat) (cells:List Value):Prop:=
 cells.length=n*sz/\ ∃a cap,v= .slice a n cap/\n<=cap/\cap<=maxLen/\
  (n=0\/ ∃b o,a=some ⟨b,o,none⟩/\S b/\ ∀(j:Nat) u,cells[j]? =some u->w.cell? ⟨b,o+j,none⟩=some u)
theorem aD.same {S:Nat->Prop} {w w':World} {sz:Nat} {v:Value} {n:Nat} {cells:List Value} (h:aD S w sz v n cells) (hs:ew S w w'):aD S w' sz v n cells:=by
 obtain⟨hl,a,cap,hv,hn,hm,h0⟩:=h;refine⟨hl,a,cap,hv,hn,hm, ?_⟩
 rcases h0 with h0 | ⟨b,o,ha,hb,hc⟩
 ·exact .inl h0
 ·exact .inr ⟨b,o,ha,hb,fun j u hu=>(hs.cell (a:=⟨b,o+j,none⟩) hb).trans (hc j u hu)⟩
theorem aD.mono {S T:Nat->Prop} {w:World} {sz:Nat} {v:Value} {n:Nat} {cells:List Value} (h:aD S w sz v n cells) (hs: ∀k,k<w.heap.size->S k->T k):0<sz->aD T w sz v n cells:=by
 intro hsz;obtain⟨hl,a,cap,hv,hn,hm,h0⟩:=h;refine⟨hl,a,cap,hv,hn,hm, ?_⟩
 rcases h0 with h0 | ⟨b,o,ha,hb,hc⟩
 ·exact .inl h0
 ·rcases Nat.eq_zero_or_pos n with h | h
  ·exact .inl h
  ·refine .inr ⟨b,o,ha,hs b ?_ hb,hc⟩;have:0<cells.length:=by rw[hl]; exact Nat.mul_pos h hsz
   exact ay (a:=⟨b,o+0,none⟩) (hc 0 cells[0] (by simp[this]))
theorem aD.below {S:Nat->Prop} {w w':World} {sz:Nat} {v:Value} {n:Nat} {cells:List Value} (h:aD S w sz v n cells) (hsz:0<sz) (hb:Below w.heap.size w w'):aD S w' sz v n cells:=by
 have h2:=h.mono (T:=fun k=>S k/\k<w.heap.size) (fun k hk hS=>⟨hS,hk⟩) hsz;have h3:=h2.same (w':=w') (fun k hk=>hb.block k hk.2);obtain⟨hl,a,cap,hv,hn,hm,h0⟩:=h3;refine⟨hl,a,cap,hv,hn,hm, ?_⟩
 rcases h0 with h0 | ⟨b,o,ha,hb,hc⟩
 ·exact .inl h0
 ·exact .inr ⟨b,o,ha,hb.1,hc⟩
theorem aD.nil (S:Nat->Prop) (w:World) (sz:Nat):aD S w sz (.slice none 0 0) 0 []:=⟨by simp,none,0,rfl,Nat.le_refl _,by unfold maxLen; omega, .inl rfl⟩
def bK (S:Nat->Prop) (w:World) (v:Value) (xs:List ByteArray):Prop:=aD S w 1 v xs.length (xs.map Value.string)
theorem bK.shape {S:Nat->Prop} {w:World} {v:Value} {xs:List ByteArray} (h:bK S w v xs):
  ∃a cap,v= .slice a xs.length cap/\xs.length<=cap/\cap<=maxLen/\ ∀k x,xs[k]? =some x-> ∃b o,a=some ⟨b,o,none⟩/\S b/\w.cell? ⟨b,o+k,none⟩=some (.string x):=by
 obtain⟨_,a,cap,hv,hn,hm,h0⟩:=h;refine⟨a,cap,hv,hn,hm,fun k x hk=> ?_⟩
 rcases h0 with h0 | ⟨b,o,ha,hb,hc⟩
 ·simp[List.eq_nil_of_length_eq_zero h0]at hk
 ·exact⟨b,o,ha,hb,hc k _ (by simp[hk])⟩
structure ie (w : World) : Prop where
 maxLen: ∃m,w.cell? ⟨0,0,none⟩=some (.int .i64 m)
 tabs:Lib.Utf8Tabs 2 3 w
theorem ie.below {w w':World} (h:ie w) (hb:Below w.heap.size w w'):ie w':=by
 obtain⟨⟨m,hm⟩,ht⟩:=h;exact⟨⟨m,(hb.cell (ay hm)).trans hm⟩,Utf8Tabs_below ht hb⟩
theorem ie.lt {w:World} (h:ie w):0<w.heap.size/\2<w.heap.size/\3<w.heap.size:=by
 obtain⟨⟨m,hm⟩,ht⟩:=h;exact⟨ay hm,ay (ht.1 0 (by omega)),ay (ht.2 0 (by omega)).1⟩
theorem ie.belowB {B:Nat} {w w':World} (h:ie w) (hb:Below B w w') (h0:0<B) (h1:2<B) (h2:3<B):ie w':=by
 obtain⟨⟨m,hm⟩,ht⟩:=h;exact⟨⟨m,(hb.cell h0).trans hm⟩,fun c hc=>(hb.cell (p:=⟨2,c,none⟩) h1).trans (ht.1 c hc),fun i hi=>⟨(hb.cell (p:=⟨3,2*i,none⟩) h2).trans (ht.2 i hi).1,(hb.cell (p:=⟨3,2*i+1,none⟩) h2).trans (ht.2 i hi).2⟩⟩
theorem ak {a b:Bool} (h:a=b):Ending.returned (.bool a)= .returned (.bool b):=by rw[h]
theorem bd {k:IntKind} {a b:Int} (h:a=b):Ending.returned (.int k a)= .returned (.int k b):=by rw[h]
theorem ac {w w1 w2:World} (h:Below w.heap.size w w1) (k:Below w1.heap.size w1 w2):Below w.heap.size w w2:=h.trans (k.mono h.size)
theorem dI {P:Program} {f:FuncId} {args:Array Value} {w:World} {n:Nat} {v:Value}
  (h:Calls P f args (w.drewN n) fun e w'=>e= .returned v/\w.drewN n=w'):Calls P f args (w.drewN n) fun e w''=>e= .returned v/\ ∃m,w''=w.drewN m:=
 h.mono fun _ _ ⟨he,hm⟩=>⟨he,n,hm.symm⟩
theorem cg {B:Nat} {a w:World} (h:Below B a w) (n:Nat):Below B a (w.drewN n):=h.trans ⟨rfl,rfl,rfl,Nat.le_refl _,fun _ _=>rfl⟩
theorem jX (s:ByteArray) (c:UInt8) (w:World):
  Calls Tryz.prog 111 #[.string s, .string ⟨#[c]⟩] w fun e w'=>e= .returned (.bool ((bl s).contains c))/\w=w':=
 (Tryz.strings_Contains_one s c w).mono fun _ _ ⟨he,hw⟩=>⟨by rw[he]; exact congrArg _ (congrArg _ (fH (bl s) c)),hw.symm⟩
theorem lK (s:ByteArray) (w:World) (he:ie w) (hs:s.size<=9223372036854775807):
  Calls Tryz.prog 169 #[.string s] w fun e w'=>e= .returned (.bool (Lib.validD (bl s)))/\Below w.heap.size w w':=Tryz.utf8_ValidString s w hs he.tabs
theorem nS (s p:ByteArray) (w:World):
  Calls Tryz.prog 71 #[.string s, .string p] w fun e w'=>e= .returned (.bool (Lib.hasPrefix (bl s) (bl p)))/\w=w':=
 (Tryz.strings_HasPrefix s p w).mono fun _ _ ⟨he,hw⟩=>⟨he,hw.symm⟩
theorem nQ (s p:ByteArray) (w:World):
  Calls Tryz.prog 109 #[.string s, .string p] w fun e w'=>e= .returned (.tuple #[.string ⟨(Lib.trimPrefix (bl s) (bl p)).toArray⟩, .bool (Lib.hasPrefix (bl s) (bl p))])/\w=w':=
 (Tryz.strings_CutPrefix s p w).mono fun _ _ ⟨he,hw⟩=>⟨he,hw.symm⟩
theorem nR (s p:ByteArray) (w:World) (hs:s.size<=9223372036854775807):
  Calls Tryz.prog 110 #[.string s, .string p] w fun e w'=>e= .returned (.tuple #[.string ⟨(Lib.trimSuffix (bl s) (bl p)).toArray⟩, .bool (Lib.hasSuffix (bl s) (bl p))])/\w=w':=
 (Tryz.strings_CutSuffix s p w hs).mono fun _ _ ⟨he,hw⟩=>⟨he,hw.symm⟩
theorem iq (x y:Int) (w:World):
  Calls Tryz.prog 101 #[.int .i64 x, .int .i64 y] w fun e w'=>e= .returned (.int .i64 (Lib.compareInt x y))/\w=w':=
 (Tryz.cmp_Compare_int x y w).mono fun _ _ ⟨he,hw⟩=>⟨he,hw.symm⟩
def uY (c:UInt8) (s:ByteArray) (w:World) (e:Ending) (w':World):Prop:=
 ∃xs:List ByteArray,xs.map bl=ax c (bl s)/\e= .returned (.slice (some ⟨w.heap.size,0,none⟩) xs.length xs.length)/\w'=w.alloc (.cells (xs.map Value.string).toArray 9)
theorem kQ (s:ByteArray) (c:UInt8) (w:World) (he:ie w) (hs:s.size<4294967281):
  Calls Tryz.prog 70 #[.string s, .string ⟨#[c]⟩] w (uY c s w):=by
 obtain⟨m,hm⟩:=he.maxLen;refine(Tryz.strings_Split s ⟨#[c]⟩ m w hs hm (by simp[ByteArray.size])).mono fun e w' ⟨h1,h2⟩=> ?_
 refine⟨Lib.splitB ⟨#[c]⟩ 0 (Lib.countB s ⟨#[c]⟩) s,wM c s, ?_,h2⟩;rw[tT]; exact h1
def fo (l:List UInt8):Int:=if 47∈l then((aL l).length:Int)else -1
theorem AG (c:UInt8) (h:(c.toNat:Int)=47):c=47:=by
 apply UInt8.toNat_inj.1
 have:c.toNat=47:=by omega
 rw[this]; rfl
theorem pS (s:ByteArray):Lib.lastIndexByte s 47=fo (bl s):=by
 unfold Lib.lastIndexByte;have get: ∀j,(hj:j<(bl s).length)->s.data[j]! =(bl s)[j]:=fun j hj=>by
  have h2:j<s.data.size:=by rw[<-am]at hj; exact hj
  rw[getElem!_pos s.data j h2];exact(Array.getElem_toList (xs:=s.data) h2).symm
 rw[am]
 generalize hl:bl s=l at *
 rcases Lib.lastIdx_spec s 47 l.length with⟨h1,h2⟩ | ⟨i,h1,h2,h3,h4⟩
 ·rw[h1];have:47∉l:=by
   intro hm;obtain⟨j,hj,e⟩:=List.getElem_of_mem hm;refine h2 j hj ?_;rw[get j hj,e]; rfl
  simp[fo,this]
 ·have e:l=l.take i++47::l.drop (i+1):=by
   have:=AG _ h3;rw[get i h1]at this;rw[<-this]; simp
  have hq:47∉l.drop (i+1):=by
   intro hm;obtain⟨j,hj,e⟩:=List.getElem_of_mem hm;rw[List.length_drop]at hj;refine h4 (i+1+j) (by omega) (by omega) ?_;rw[get _ (by omega)];rw[List.getElem_drop]at e;rw[e]; rfl
  have hp:aL l=l.take i:=by
   have:=fV (l.take i) _ hq;rw[<-e]at this; exact this
  have hm:47∈l:=by rw[e]; simp
  rw[h2,fo,if_pos hm,hp,List.length_take]
  congr 1; omega
theorem nX (s:ByteArray) (w:World) (hs:s.size<4611686018427387904):
  Calls Tryz.prog 102 #[.string s, .string ⟨#[47]⟩] w fun e w'=>e= .returned (.int .i64 (fo (bl s)))/\w=w':=
 (Tryz.strings_LastIndex_one s ⟨#[47]⟩ rfl hs w).mono fun _ _ ⟨he,hw⟩=>⟨by rw[he]; exact congrArg _ (congrArg _ (pS s)),hw.symm⟩
theorem yP {s:ByteArray} {p q:Nat} (h: ∀j,j<p->j<s.size->32<=(s.get! j).toNat) (h2: ∀j,p<=j->j<q->128<=(s.get! j).toNat): ∀j,j<q->j<s.size->32<=(s.get! j).toNat:=by
 intro j hj hs
 rcases Nat.lt_or_ge j p with h' | h'
 ·exact h j h' hs
 ·have:=h2 j h' hj; omega
theorem jD (s:ByteArray) (j:Nat) (h:j<s.size):s.get! j=(bl s)[j]'(by rw[<-am]; exact h):=by
 have e:s.get! j=s.data[j]! :=rfl;have h2:j<s.data.size:=h;rw[e,getElem!_pos s.data j h2];simp[bl]
theorem uK {s:ByteArray} (h: ∀j,j<s.size->32<=(s.get! j).toNat):ja (bl s)=true:=by
 unfold ja;rw[List.all_eq_true];intro c hc;obtain⟨j,hj,rfl⟩:=List.getElem_of_mem hc;have hj2:j<s.size:=by rw[am]; exact hj
 have:=h j hj2;rw[jD s j hj2]at this
 simpa using this
theorem rA {s:ByteArray} {j:Nat} (hj:j<s.size) (h:(s.get! j).toNat<32):ja (bl s)=false:=by
 unfold ja;rw[List.all_eq_false];rw[jD s j hj]at h;exact⟨(bl s)[j]'(by rw[<-am]; exact hj),List.getElem_mem _,by rw[decide_eq_true_eq]; omega⟩
theorem mz (s:ByteArray) (pos:Nat) (h:pos<s.size):
  ((s.get! pos).toNat<128/\Utf8.decode s pos=((s.get! pos).toNat,1))\/(128<=(s.get! pos).toNat/\128<=(Utf8.decode s pos).1):=by
 have e:=get_at s pos h;rw[Nat.add_zero]at e
 rcases Nat.lt_or_ge (s.get! pos).toNat 128 with h1 | h1
 ·exact .inl ⟨h1,by rw[decode_ascii s pos h (by rw[<-e]; exact h1),<-e]⟩
 ·exact .inr ⟨h1,(decode_high s pos h (by rw[<-e]; exact h1)).1⟩
theorem jE (s:ByteArray) (w:World) (he:ie w) (hs:s.size<=9223372036854775807):
  Calls Tryz.prog 138 #[.string s] w fun e w'=>e= .returned (.bool (ju (bl s)))/\Below w.heap.size w w':=by
 have HE:=aa he;clear he
 go_enter Tryz.func138,Tryz.ntmps138
 go_wp2
 go_loopw [4] (fun _ wr=> ∃pos:Nat,wr=w.iter s pos/\ ∀j,j<pos->j<s.size->32<=(s.get! j).toNat) (fun _ wr=>s.size-wr.iterPos w.heap.size)
 case atStart=>exact⟨0,rfl,fun j hj=>by omega⟩
 case round=>
  obtain⟨pos,rfl,hlow⟩:=hrel;have HL:=aa hlow;clear hlow
  by_cases hp:pos<s.size
  ·have hnx: ∀ty,(Instr.next (.pointer (some ⟨w.heap.size,0,none⟩)) true ty).run Tryz.prog (w.iter s pos)=_:=fun ty=>run_next_any w s pos ty hp
   go_wp2
   ·go_ret;refine⟨ak ?_,(Below.refl _ _).alloc (Nat.le_refl _) _⟩;have hlt:((Utf8.decode s pos).1:Int)<32:=by assumption
    have hd:=mz s pos hp;have hd2:(s.get! pos).toNat<32:=by
     rcases hd with⟨_,h2⟩ | ⟨_,h2⟩
     ·rw[h2]at hlt; simp only at hlt; omega
     ·omega
    simp[ju,rA hp hd2]
   ·go_roundw
    case rel=>
     refine⟨pos+(Utf8.decode s pos).2,rfl, ?_⟩;have hge:(32:Int)<=(Utf8.decode s pos).1:=by assumption
     rcases mz s pos hp with⟨h1,h2⟩ | ⟨h1,h2⟩
     ·intro j hj hjs;rw[h2]at hge hj
      rcases Nat.lt_or_ge j pos with h3 | h3
      ·exact HL.out j h3 hjs
      ·rw[show j=pos by simp at hj; omega]; simp at hge; omega
     ·exact yP HL.out (qJ s pos hp h1).2
    case measure=>
     rw[World.iterPos_iter,World.iterPos_iter];have:=Lib.width_pos s pos;omega
  ·have hnx: ∀ty,(Instr.next (.pointer (some ⟨w.heap.size,0,none⟩)) true ty).run Tryz.prog (w.iter s pos)=_:=fun ty=>run_next_end w s pos ty hp
   go_wp2_with (go_at_call 169; refine(lK s _ (HE.out.below ((Below.refl _ _).alloc (Nat.le_refl _) _)) hs).mono ?_; rintro e w' ⟨rfl,hb⟩);go_ret;refine⟨ak ?_,ac ((Below.refl _ _).alloc (Nat.le_refl _) _) hb⟩;simp only[ju,uK (fun j hj=>HL.out j (by omega) hj),Bool.true_and]
theorem gT (s:ByteArray) (w:World) (he:ie w) (hs:s.size<=9223372036854775807):
  Calls Tryz.prog 112 #[.string s] w fun e w'=>e= .returned (.bool (er (bl s)))/\Below w.heap.size w w':=by
 have HE:=aa he;clear he
 go_enter Tryz.func112,Tryz.ntmps112
 go_wp2_with (first
  | (go_at_call 111; refine(jX _ _ _).mono ?_; rintro e w' ⟨rfl,rfl⟩)
  | (go_at_call 138; refine(jE _ _ HE.out hs).mono ?_; rintro e w' ⟨rfl,hb⟩))
 all_goals (go_ret; refine⟨ak ?_,by first | exact Below.refl _ _ | exact hb⟩)
 all_goals (rw[Bool.eq_iff_iff]; simp_all [er,aX,am])
 all_goals first | omega | (intros; omega)
def zh (s:ByteArray) (w:World) (e:Ending) (w':World):Prop:=
 ∃v xs,e= .returned (.tuple #[v, .int .i64 0])/\xs.map bl=ax 47 (bl s)/\bK (w.heap.size<= ·) w' v xs/\Below w.heap.size w w'
def xm (w:World) (e:Ending) (w':World):Prop:=e= .returned (.tuple #[.slice none 0 0, .int .i64 1])/\Below w.heap.size w w'
def xn (s:ByteArray) (w:World) (e:Ending) (w':World):Prop:=(bv (bl s)=true/\zh s w e w')\/(bv (bl s)=false/\xm w e w')
theorem ko {w:World} {xs:List Value} {e:TypeId} {k:Nat} {x:Value} (hx:xs[k]? =some x):(w.alloc (.cells xs.toArray e)).cell? ⟨w.heap.size,k,none⟩=some x:=by
 have h:=heap_alloc_new w (.cells xs.toArray e);simp only[World.cell?,h];simp[hx]
theorem pT {xs:List ByteArray} {k:Nat} {x:ByteArray} (hx:xs[k]? =some x):(xs.map Value.string)[k]? =some (.string x):=by simp[hx]
theorem wN {xs:List ByteArray} {s:ByteArray} (hx:xs.map bl=ax 47 (bl s)) (h1:(bl s).length<=512) (h2:xs.length<=16) (h: ∀(j:Nat) x,j<xs.length->xs[j]? =some x->er (bl x)=true):bv (bl s)=true:=by
 have hl:(ax 47 (bl s)).length=xs.length:=by rw[<-hx]; simp
 have ha:(ax 47 (bl s)).all er=true:=by
  rw[<-hx,List.all_map,List.all_eq_true];intro x hm;obtain⟨j,hj,rfl⟩:=List.getElem_of_mem hm;exact h j _ hj (by simp)
 simp[bv,h1,hl,h2,ha]
theorem pk {xs:List ByteArray} {s:ByteArray} {j:Nat} {x:ByteArray} (hx:xs.map bl=ax 47 (bl s)) (h:xs[j]? =some x) (hc:er (bl x)=false):bv (bl s)=false:=by
 have ha:(ax 47 (bl s)).all er=false:=by
  rw[<-hx,List.all_map,List.all_eq_false];exact⟨x,List.mem_of_getElem? h,by simp[hc]⟩
 simp[bv,ha]
theorem wO {xs:List ByteArray} {s:ByteArray} (hx:xs.map bl=ax 47 (bl s)) (h: ¬xs.length<=16):bv (bl s)=false:=by
 have hl:(ax 47 (bl s)).length=xs.length:=by rw[<-hx]; simp
 simp[bv,hl,h]
theorem tW {s:ByteArray} (h: ¬(bl s).length<=512):bv (bl s)=false:=by simp[bv,h]
theorem fk (c:UInt8) (l:List UInt8): ∀p∈ax c l,p.length<=l.length:=by
 induction l with
 | nil=>simp[ax]
 | cons b l ih=>
  unfold ax
  split
  ·intro p hp; rcases List.mem_cons.1 hp with rfl | hp
   ·simp
   ·have:=ih p hp; simp; omega
  ·split
   ·rename_i h t e;rw[e]at ih;intro p hp; rcases List.mem_cons.1 hp with rfl | hp
    ·have:=ih h (by simp); simp; omega
    ·have:=ih p (by simp[hp]); simp; omega
   ·intro p hp; simp at hp; simp[hp]
theorem jb {xs:List ByteArray} {s:ByteArray} {c:UInt8} {j:Nat} {x:ByteArray} (hx:xs.map bl=ax c (bl s)) (h:xs[j]? =some x):x.size<=s.size:=by
 rw[am,am];exact fk c (bl s) (bl x) (by rw[<-hx]; exact List.mem_map.2 ⟨x,List.mem_of_getElem? h,rfl⟩)
theorem yN {w w':World} {xs:List ByteArray} {e:TypeId} (hl:xs.length<=maxLen) (hb:Below (w.heap.size+1) (w.alloc (.cells (xs.map Value.string).toArray e)) w'):
  bK (w.heap.size<= ·) w' (.slice (some ⟨w.heap.size,0,none⟩) xs.length xs.length) xs:=by
 refine⟨by simp,some ⟨w.heap.size,0,none⟩,xs.length,rfl,Nat.le_refl _,hl, .inr ⟨w.heap.size,0,rfl,Nat.le_refl _,fun j u hu=> ?_⟩⟩;rw[hb.cell (p:=⟨w.heap.size,0+j,none⟩) (by simp),Nat.zero_add];exact ko hu
theorem lA (s:ByteArray) (w:World) (he:ie w):Calls Tryz.prog 73 #[.string s] w (xn s w):=by
 have HE:=aa he;clear he
 by_cases h5:s.size<=512
 ·go_enter Tryz.func73,Tryz.ntmps73
  go_wp2_with fail;refine(kQ s 47 w HE.out (by omega)).mono ?_;rintro e w' ⟨xs,hx,rfl,rfl⟩;have hxl:xs.length<=513:=by
   have h1:(ax 47 (bl s)).length=xs.length:=by rw[<-hx]; simp
   have h2:=dh 47 (bl s);rw[<-am]at h2;omega
  have HX:=aa hx;clear hx
  by_cases h16:xs.length<=16
  ·go_wp2_with fail
   go_loopw [17] (fun i wr=> ∃k:Nat,k<=xs.length/\i= .int .i64 k/\Below (w.heap.size+1) (w.alloc (.cells (xs.map Value.string).toArray 9)) wr/\ ∀(j:Nat) x,j<k->xs[j]? =some x->er (bl x)=true) (fun i _=>xs.length-(intOf i).toNat)
   case atStart=>exact⟨0,Nat.zero_le _,rfl,Below.refl _ _,fun j x hj=>by omega⟩
   case round=>
    obtain⟨k,hk,rfl,hb,hall⟩:=hrel;have HA:=aa hall;clear hall
    by_cases hlt:k<xs.length
    ·obtain⟨x,hx⟩: ∃x,xs[k]? =some x:=⟨xs[k],by simp[hlt]⟩;have hcell:wr.cell? ⟨w.heap.size,k,none⟩=some (.string x):=(hb.cell (p:=⟨w.heap.size,k,none⟩) (by simp)).trans (ko (pT hx));have hxs:x.size<=9223372036854775807:=by have:=jb HX.out hx; omega
     have HK:=aa hx;have HB:=aa hb;clear hx hb
     cases hc:er (bl x)
     ·have HC:=aa hc;clear hc;go_wp2_with (go_at_call 112; refine(gT x wr (HE.out.below (ac ((Below.refl _ _).alloc (Nat.le_refl _) _) (by simpa using HB.out))) hxs).mono ?_; rintro e w' ⟨rfl,hb2⟩; rw[HC.out])
      go_ret2
      refine .inr ⟨pk HX.out HK.out HC.out,rfl, ?_⟩;exact ac (ac ((Below.refl _ _).alloc (Nat.le_refl _) _) (by simpa using HB.out)) hb2
     ·have HC:=aa hc;clear hc;go_wp2_with (go_at_call 112; refine(gT x wr (HE.out.below (ac ((Below.refl _ _).alloc (Nat.le_refl _) _) (by simpa using HB.out))) hxs).mono ?_; rintro e w' ⟨rfl,hb2⟩; rw[HC.out])
      go_roundw
      case rel=>
       refine⟨k+1,by omega,by go_num,HB.out.trans (hb2.mono (by have:=HB.out.size; simpa using this)),fun j x' hj hx'=> ?_⟩
       rcases Nat.lt_or_ge j k with h | h
       ·exact HA.out j x' h hx'
       ·obtain rfl:j=k:=by omega
        have:=HK.out.symm.trans hx'
        cases this
        exact HC.out
      case measure=>simp[intOf]; omega
    ·have HB:=aa hb;clear hb
     go_wp2
     go_ret2
     refine .inl ⟨wN HX.out (by rw[<-am]; exact h5) h16 (fun j x hj hx=>HA.out j x (by omega) hx),_,xs,rfl,HX.out,yN (by unfold maxLen; omega) HB.out, ?_⟩;exact ac ((Below.refl _ _).alloc (Nat.le_refl _) _) (by simpa using HB.out)
  ·go_wp2_with fail
   go_ret2
   exact .inr ⟨wO HX.out h16,rfl,(Below.refl _ _).alloc (Nat.le_refl _) _⟩
 ·go_enter Tryz.func73,Tryz.ntmps73
  go_wp2_with fail
  go_ret2
  exact .inr ⟨tW (by rw[<-am]; exact h5),rfl,Below.refl _ _⟩
theorem pu (s:ByteArray) (w:World) (he:ie w):
  Calls Tryz.prog 98 #[.string s] w fun e w'=>e= .returned (.bool (bv (bl s)))/\Below w.heap.size w w':=by
 go_enter Tryz.func98,Tryz.ntmps98
 go_wp2_with fail;refine(lA s w he).mono ?_;rintro e w' (⟨hv,v,xs,rfl,-,-,hb⟩ | ⟨hv,rfl,hb⟩)
 ·go_wp2
  go_ret;exact⟨ak (by rw[hv]),hb⟩
 ·go_wp2
  go_ret;exact⟨ak (by rw[hv]),hb⟩
def ff (c:Int):Int:=if c=47 then -1 else c
theorem yu (c:Int) (w:World) (h0:0<=c) (h1:c<=255):Calls Tryz.prog 100 #[.int .u8 c] w fun e w'=>e= .returned (.int .i64 (ff c))/\w=w':=by
 by_cases h:c=47
 ·subst h
  go_enter Tryz.func100,Tryz.ntmps100
  go_wp2
  go_ret;exact⟨rfl,rfl⟩
 ·have hr:ff c=c:=if_neg h;have HR:=aa hr;clear hr;have h2:(c == 47)=false:=by simpa using h
  go_enter Tryz.func100,Tryz.ntmps100
  go_wp2
  go_ret;exact⟨bd HR.out.symm,rfl⟩
theorem zu (l r:List UInt8) (h:l=[]\/r=[]):bH l r=Lib.compareInt (l.length:Int) r.length:=by
 rcases h with rfl | rfl
 ·cases r
  ·simp[bH,Lib.compareInt]
  ·rw[bH,Lib.compareInt,if_pos (by simp<;> omega)]
 ·cases l
  ·simp[bH,Lib.compareInt]
  ·rw[bH,Lib.compareInt,if_neg (by simp<;> omega),if_pos (by simp<;> omega)]
theorem ms (x y:Int) (k:Int):Lib.compareInt (x-k) (y-k)=Lib.compareInt x y:=by
 unfold Lib.compareInt;have h1:(x-k<y-k)<->(x<y):=by omega
 have h2:(x-k>y-k)<->(x>y):=by omega
 simp only[h1,h2]
theorem lM {l r:List UInt8} {k:Nat} (hk1:k<=l.length) (hk2:k<=r.length) (h:k=l.length\/k=r.length):bH (l.drop k) (r.drop k)=Lib.compareInt (l.length:Int) r.length:=by
 rw[zu _ _ (by rcases h with rfl | rfl<;> simp)];rw[List.length_drop,List.length_drop,<-ms (l.length:Int) r.length k]
 congr 1<;> omega
theorem qA {l r:List UInt8} {k:Nat} (hl:k<l.length) (hr:k<r.length) (h:l[k]=r[k]):bH (l.drop k) (r.drop k)=bH (l.drop (k+1)) (r.drop (k+1)):=by
 rw[List.drop_eq_getElem_cons hl,List.drop_eq_getElem_cons hr,bH,if_pos h]
theorem mr {l r:List UInt8} {k:Nat} (hl:k<l.length) (hr:k<r.length) (h:l[k]≠r[k]):bH (l.drop k) (r.drop k)=Lib.compareInt (cG l[k]) (cG r[k]):=by
 rw[List.drop_eq_getElem_cons hl,List.drop_eq_getElem_cons hr,bH,if_neg h]
theorem dR (s:ByteArray) (k:Nat) (h:k<s.size):s[k]=(bl s)[k]'(by rw[<-am]; exact h):=by
 exact(Array.getElem_toList (xs:=s.data) h).symm
theorem km (c:UInt8):ff c.toNat=cG c:=by
 unfold ff cG
 by_cases h:c=47
 ·subst h; rfl
 ·rw[if_neg h,if_neg];intro e; apply h; apply UInt8.toNat_inj.1; have:c.toNat=47:=by omega
  rw[this]; rfl
theorem qD (a b:ByteArray) (w:World) (ha:a.size<=9223372036854775807):
  Calls Tryz.prog 65 #[.string a, .string b] w fun e w'=>e= .returned (.int .i64 (bH (bl a) (bl b)))/\Below w.heap.size w w':=by
 go_enter Tryz.func65,Tryz.ntmps65
 go_wp2_with fail;obtain⟨m,hm⟩: ∃m:Nat,min (a.size:Int) (b.size:Int)=m:=⟨min a.size b.size,by omega⟩;have hm1:m<=a.size:=by omega
 have hm2:m<=b.size:=by omega
 have hm3:m=a.size\/m=b.size:=by omega
 rw[hm];have HM:=aa hm3;clear hm hm3
 go_loopw [12] (fun i wr=> ∃k:Nat,k<=m/\i= .int .i64 k/\Below w.heap.size w wr/\bH (bl a) (bl b)=bH ((bl a).drop k) ((bl b).drop k)) (fun i _=>m-(intOf i).toNat)
 case atStart=>exact⟨0,Nat.zero_le _,rfl,Below.refl _ _,rfl⟩
 case round=>
  obtain⟨k,hk,rfl,hbw,hc⟩:=hrel;have HC:=aa hc;have HB:=aa hbw;clear hc hbw
  by_cases hlt:k<m
  ·have h1:(k:Int)<(a.size:Int):=by omega
   have h2:(k:Int)<(b.size:Int):=by omega
   have h3:k<a.size:=by omega
   have h4:k<b.size:=by omega
   by_cases hq:a[k]=b[k]
   ·have hq2:(((a[k]).toNat:Int) != (b[k]).toNat)=false:=by simp[hq]
    have HQ:=aa hq;clear hq;go_wp2_with fail
    go_quiet (fail)
    go_wp2_with fail
    go_roundw
    case rel=>
     refine⟨k+1,by omega,by go_num,cg HB.out nq, ?_⟩;rw[HC.out];refine qA (by rw[<-am]; exact h3) (by rw[<-am]; exact h4) ?_;rw[<-dR,<-dR]; exact HQ.out
    case measure=>simp[intOf]; omega
   ·have hq2:(((a[k]).toNat:Int) != (b[k]).toNat)=true:=by
     rw[bne_iff_ne]; intro e; apply hq; exact UInt8.toNat_inj.1 (by omega)
    have HQ:=aa hq;clear hq;go_wp2_with fail
    go_quiet (fail)
    go_wp2_with fail;have hW: ∃W,W=wr.drewN nq/\Below w.heap.size w W:=⟨_,rfl,cg HB.out nq⟩;obtain⟨W,hWe,hWb⟩:=hW;rw[<-hWe];have HB2:=aa hWb;clear hWe hWb HB;have hr1:=(a[k]).toNat_lt;have hr2:=(b[k]).toNat_lt
    go_quiet ((first | (go_at_call 100; refine dI (yu _ _ (by omega) (by omega))) | (go_at_call 101; refine dI (iq _ _ _))))
    go_wp2_with fail;go_ret;refine⟨bd ?_,cg HB2.out _⟩;rw[km,km,HC.out,mr (by rw[<-am]; exact h3) (by rw[<-am]; exact h4) (by rw[<-dR,<-dR]; exact HQ.out),<-dR,<-dR]
  ·go_wp2_with (go_at_call 101; refine(iq _ _ _).mono ?_; rintro e w' ⟨rfl,rfl⟩);go_ret;refine⟨bd ?_,HB.out⟩;have hM:=HM.out;rw[HC.out,lM (by rw[<-am]; omega) (by rw[<-am]; omega) (by rw[<-am,<-am]; omega),<-am,<-am]
theorem tw (s:ByteArray) (w:World) (he:ie w) (hv:bv (bl s)=true):
  Calls Tryz.prog 66 #[.string s] w fun e w'=>e= .returned (.tuple #[.string ⟨(aL (bl s)).toArray⟩, .bool true])/\Below w.heap.size w w':=by
 have HV:=aa hv;have h5:s.size<=512:=by simp only[bv,Bool.and_eq_true,decide_eq_true_eq]at hv; rw[am]; exact hv.1.1
 have hl:(aL (bl s)).length<=s.size:=by rw[kk,List.length_take,am]; omega
 clear hv
 go_enter Tryz.func66,Tryz.ntmps66
 go_wp2_with fail;refine(pu s w he).mono ?_;rintro e w1 ⟨rfl,hb1⟩;rw[HV.out];have HB1:=aa hb1;clear hb1;go_wp2_with fail;refine(nX s w1 (by omega)).mono ?_;rintro e w2 ⟨rfl,rfl⟩;obtain⟨n,hn⟩: ∃n:Nat,n=(aL (bl s)).length:=⟨_,rfl⟩;have hmax:max (fo (bl s)) 0=(n:Int):=by
  unfold fo
  split
  ·omega
  ·rename_i h; rw[hn,gI _ h]; rfl
 have hle:n<=s.size:=by omega
 have HN:=aa hn;clear hn hl;go_wp2_with fail
 go_ret2
 refine⟨?_,HB1.out⟩;have e:s.extract 0 n=⟨(aL (bl s)).toArray⟩:=fC (by rw[gB,jR (aL (bl s)),HN.out,List.drop_zero,<-kk]);rw[<-e]; rfl
structure bi where
 path:ByteArray
 kind:Int
 mode:Int
 time:Int
 data:List UInt8
 link:ByteArray
deriving DecidableEq
def iO (l:List UInt8):Bool:=decide (1<=l.length) && decide (l.length<=512) && !l.contains 0
def dQ (e:bi):Bool:=
 if e.kind=1 then decide (e.data.length<=1048576) && decide (e.link.size=0)
 else if e.kind=2 then decide (e.data.length=0) && decide (e.link.size=0)
 else if e.kind=3 then decide (e.data.length=0) && iO (bl e.link)
 else false
def gL (e:bi):Bool:=decide (0<=e.mode) && decide (e.mode<=511) && decide (0<=e.time)
def bR (e:bi):Bool:=bv (bl e.path) && gL e && dQ e
def dD (L:List bi) (p:ByteArray):Option bi:=L.find? fun e=>decide (e.path=p)
def fi (L:List bi) (p:List UInt8):Int:=if p=[]then 0 else match dD L ⟨p.toArray⟩with
 | none=>4
 | some e=>if e.kind=2 then 0 else 13
def jA (a b:bi):Int:=bH (bl a.path) (bl b.path)
def fw (pre:List bi) (e:bi):Bool:=match pre.getLast? with
 | none=>true
 | some f=>decide (jA f e<0)
def bC (pre:List bi) (e:bi):Int:=if(bR e && fw pre e)=true then fi pre (aL (bl e.path))else 1
def gc :List bi->List bi->Int
 | _,[]=>0
 | pre,e::r=>if bC pre e=0 then gc (pre++[e]) r else bC pre e
def bL (L:List bi):Int:=if 4096<L.length then 2 else gc [] L
theorem zU {p:ByteArray} {l:List UInt8} (h:bl p=l):p=⟨l.toArray⟩:=fC (by rw[h]; simp[bl])
theorem xD (a b:bi):jA b a= -jA a b:=ut _ _
theorem oz {a b:bi} :jA a b=0<->a.path=b.path:=by
 unfold jA; rw[jU]; exact⟨fC,fun h=>by rw[h]⟩
theorem nP {a b c:bi} (h1:jA a b<0) (h2:jA b c<0):jA a c<0:=by
 obtain⟨h3,h4⟩:=oA (bl a.path) (bl b.path) (bl c.path) (by unfold jA at h1; omega) (by unfold jA at h2; omega)
 rcases Int.lt_or_eq_of_le h3 with h | h
 ·exact h
 ·have:=(h4 h).1; unfold jA at h1; omega
def cT (L:List bi):Prop:=L.Pairwise fun a b=>jA a b<0
theorem cT.nodup {L:List bi} (h:cT L):(L.map bi.path).Nodup:=by
 unfold List.Nodup;rw[List.pairwise_map];exact List.Pairwise.imp (fun h e=>by have:=oz.2 e; omega) h
theorem cT.filter {L:List bi} (h:cT L) (p:bi->Bool):cT (L.filter p):=List.Pairwise.filter p h
theorem jC {L:List bi} {p:ByteArray} {e:bi} (h:dD L p=some e):e∈L/\e.path=p:=by
 unfold dD at h;exact⟨List.mem_of_find?_eq_some h,by have:=List.find?_some h; simpa using this⟩
theorem mI {L:List bi} {p:ByteArray} (h:dD L p=none): ∀e∈L,e.path≠p:=by
 unfold dD at h;rw[List.find?_eq_none]at h;intro e he hp;exact h e he (by simp[hp])
theorem vo {L:List bi} (hn:(L.map bi.path).Nodup) {e:bi} (he:e∈L):dD L e.path=some e:=by
 cases h:dD L e.path with
 | none=>exact absurd rfl (mI h e he)
 | some f=>
  obtain⟨h1,h2⟩:=jC h;have:f=e:=by
   unfold List.Nodup at hn;rw[List.pairwise_map,List.pairwise_iff_getElem]at hn;obtain⟨i,hi,rfl⟩:=List.getElem_of_mem h1;obtain⟨j,hj,rfl⟩:=List.getElem_of_mem he
   by_cases hij:i=j
   ·subst hij; rfl
   ·exfalso
    rcases Nat.lt_or_gt_of_ne hij with hlt | hlt
    ·exact hn i j hi hj hlt h2
    ·exact hn j i hj hi hlt h2.symm
  rw[this]
structure TOk (L : List bi) : Prop where
 ord:cT L
 val: ∀e∈L,bR e=true
 up: ∀e∈L,fi L (aL (bl e.path))=0
 len:L.length<=4096
theorem TOk.nil :TOk []:=⟨List.Pairwise.nil,by simp,by simp,by simp⟩
theorem TOk.nodup {L:List bi} (h:TOk L):(L.map bi.path).Nodup:=h.ord.nodup
theorem bP {e:bi} (h:bR e=true):bv (bl e.path)=true:=by
 unfold bR at h; simp only[Bool.and_eq_true]at h; exact h.1.1
theorem yS {l:List UInt8} (h:bv l=true):l≠[]:=by
 intro e; subst e; exact absurd h (by decide)
theorem nJ {l:List UInt8} (h:bv l=true):l.length<=512:=by
 simp only[bv,Bool.and_eq_true,decide_eq_true_eq]at h; exact h.1.1
theorem oD {L:List bi} {p:List UInt8} (h:fi L p=0) (hp:p≠[]): ∃f∈L,bl f.path=p/\f.kind=2:=by
 unfold fi at h;rw[if_neg hp]at h
 cases hf:dD L ⟨p.toArray⟩with
 | none=>rw[hf]at h; simp at h
 | some f=>
  rw[hf]at h;simp only at h;obtain⟨h1,h2⟩:=jC hf
  split at h
  ·exact⟨f,h1,by rw[h2]; simp[bl],by assumption⟩
  ·simp at h
theorem ke {L:List bi} (hn:(L.map bi.path).Nodup) {p:List UInt8} (h:p=[]\/ ∃f∈L,bl f.path=p/\f.kind=2):fi L p=0:=by
 unfold fi
 by_cases hp:p=[]
 ·rw[if_pos hp]
 ·rw[if_neg hp]
  rcases h with h | ⟨f,h1,h2,h3⟩
  ·exact absurd h hp
  ·have:f.path=⟨p.toArray⟩:=zU h2;rw[<-this,vo hn h1];simp only[if_pos h3]
theorem fJ {l:List UInt8} (h:bv l=true):(aL l).length<l.length:=by
 by_cases hm:(47:UInt8)∈l
 ·obtain⟨p,t,hq,ht⟩:=jF l hm;have:aL l=p:=by rw[hq]; exact fV p t ht
  rw[this,hq]; simp
 ·rw[gI l hm];have:=yS h
  cases l with
  | nil=>exact absurd rfl this
  | cons=>simp
def xg (M:List bi) (x:bi):Prop:=aL (bl x.path)=[]\/ ∃f∈M,bl f.path=aL (bl x.path)/\f.kind=2
theorem uc {L:List bi} {x:bi} (h:fi L (aL (bl x.path))=0):xg L x:=by
 by_cases hp:aL (bl x.path)=[]
 ·exact .inl hp
 ·obtain⟨f,h1,h2,h3⟩:=oD h hp;exact .inr ⟨f,h1,h2,h3⟩
theorem Ak {M:List bi} (hs:cT M) (hv: ∀e∈M,bR e=true) (hu: ∀x∈M,xg M x) (hl:M.length<=4096):TOk M:=
 ⟨hs,hv,fun e he=>ke hs.nodup (hu e he),hl⟩
theorem TOk.has {L:List bi} (h:TOk L) {e:bi} (he:e∈L):xg L e:=uc (h.up e he)
theorem rC {l:List UInt8} (h:aL l≠[]): ∃t,l=aL l++47::t:=by
 by_cases hm:(47:UInt8)∈l
 ·obtain⟨p,q,rfl,hq⟩:=jF l hm;exact⟨q,by rw[fV p q hq]⟩
 ·exact absurd (gI l hm) h
theorem oC {L M:List bi} (hm:(M.map bi.path).Nodup) (hs: ∀x∈L,x∈M) {p:List UInt8} (h:fi L p=0):fi M p=0:=by
 by_cases hp:p=[]
 ·exact ke hm (.inl hp)
 ·obtain⟨f,h1,h2,h3⟩:=oD h hp;exact ke hm (.inr ⟨f,hs f h1,h2,h3⟩)
structure Tr (L : List bi) : Prop where
 ord:cT L
 val: ∀e∈L,bR e=true
 up: ∀e∈L,fi L (aL (bl e.path))=0
theorem oa {e f:bi} (hv:bR e=true) (hp:aL (bl e.path)≠[]) (hf:bl f.path=aL (bl e.path)):jA f e<0:=by
 obtain⟨t,ht⟩:=rC hp;have h1:jA f e<=0:=by
  unfold jA;rw[hf,ht];have:=ur (aL (bl e.path)) (47::t);have h2:aL (aL (bl e.path)++47::t)=aL (bl e.path):=by rw[<-ht]
  rw[h2]; exact this
 rcases Int.lt_or_eq_of_le h1 with h | h
 ·exact h
 ·have h2:=oz.1 h;have h3:=fJ (bP hv);rw[<-hf,h2]at h3;omega
theorem Tr.pre {L M:List bi} (h:Tr (L++M)):Tr L:=by
 obtain⟨s1,s2,s3⟩:=List.pairwise_append.1 h.ord;refine⟨s1,fun e he=>h.val e (by simp[he]),fun e he=> ?_⟩;have hu:=uc (h.up e (by simp[he]));refine ke (cT.nodup s1) ?_
 rcases hu with hu | ⟨f,h1,h2,h3⟩
 ·exact .inl hu
 ·by_cases hp:aL (bl e.path)=[]
  ·exact .inl hp
  ·right
   have hb:=oa (h.val e (by simp[he])) hp h2
   rcases List.mem_append.1 h1 with h1 | h1
   ·exact⟨f,h1,h2,h3⟩
   ·have h4:=s3 e he f h1;have h5:=xD e f;omega
theorem lX {pre:List bi} (hs:cT pre) {e:bi} :fw pre e=true<->cT (pre++[e]):=by
 unfold fw
 cases hl:pre.getLast? with
 | none=>
  rw[List.getLast?_eq_none_iff]at hl;subst hl;simp[cT]
 | some f=>
  obtain⟨ys,hy⟩:=List.getLast?_eq_some_iff.1 hl;simp only[decide_eq_true_eq]
  constructor
  ·intro h;refine List.pairwise_append.2 ⟨hs,by simp,fun a ha b hb=> ?_⟩;simp only[List.mem_singleton]at hb;subst hb;rw[hy]at ha hs
   rcases List.mem_append.1 ha with ha | ha
   ·exact nP ((List.pairwise_append.1 hs).2.2 a ha f (by simp)) h
   ·simp only[List.mem_singleton]at ha; subst ha; exact h
  ·intro h;exact(List.pairwise_append.1 h).2.2 f (by rw[hy]; simp) e (by simp)
theorem io {pre:List bi} (h:Tr pre) (e:bi):bC pre e=0<->Tr (pre++[e]):=by
 unfold bC
 constructor
 ·intro hc
  split at hc
  ·rename_i hva;rw[Bool.and_eq_true]at hva;have hs:=(lX h.ord).1 hva.2;have hm: ∀x∈pre,x∈pre++[e]:=fun x hx=>by simp[hx]
   refine⟨hs,fun x hx=> ?_,fun x hx=> ?_⟩
   ·rcases List.mem_append.1 hx with hx | hx
    ·exact h.val x hx
    ·simp only[List.mem_singleton]at hx; subst hx; exact hva.1
   ·rcases List.mem_append.1 hx with hx | hx
    ·exact oC hs.nodup hm (h.up x hx)
    ·simp only[List.mem_singleton]at hx; subst hx; exact oC hs.nodup hm hc
  ·simp at hc
 ·intro ht;have hv:=ht.val e (by simp);rw[if_pos (by rw[hv,(lX h.ord).2 ht.ord]; rfl)];refine ke h.ord.nodup ?_
  rcases uc (ht.up e (by simp))with hu | ⟨f,h1,h2,h3⟩
  ·exact .inl hu
  ·rcases List.mem_append.1 h1 with h1 | h1
   ·exact .inr ⟨f,h1,h2,h3⟩
   ·simp only[List.mem_singleton]at h1;subst h1;have:=fJ (bP hv);rw[<-h2]at this; omega
theorem me : ∀ {r pre:List bi},Tr pre->(gc pre r=0<->Tr (pre++r))
 | [],pre,h=>by simp only[gc,List.append_nil]; exact⟨fun _=>h,fun _=>trivial⟩
 | e::r,pre,h=>by
  have h1:=io h e;rw[gc]
  split
  ·rename_i hc;have:=me (r:=r) (h1.1 hc);rw[this]; simp
  ·rename_i hc
   constructor
   ·intro h2; exact absurd h2 hc
   ·intro h2;have h3:Tr (pre++[e]):=Tr.pre (M:=r) (by simpa using h2);exact absurd (h1.2 h3) hc
theorem fD {L:List bi} :bL L=0<->TOk L:=by
 unfold bL
 split
 ·rename_i h;exact⟨fun h2=>by simp at h2,fun h2=>by have:=h2.len; omega⟩
 ·rename_i h;rw[me (r:=L) (pre:=[]) ⟨List.Pairwise.nil,by simp,by simp⟩,List.nil_append];exact⟨fun t=>⟨t.ord,t.val,t.up,by omega⟩,fun t=>⟨t.ord,t.val,t.up⟩⟩
end Go.Proofs.YtnjkpcalgoefhaaGreatDoor
namespace Go.Proofs.YtnjkpcalgoefhaaGreatDoor
theorem sx {l:List UInt8} (h:bv l=true): ∀p∈ax 47 l,ju p=true/\p≠[]:=by
 simp only[bv,Bool.and_eq_true,List.all_eq_true]at h;intro p hp;have:=h.2 p hp;simp only[er,Bool.and_eq_true]at this;exact⟨this.2,by have h1:=this.1.1.1.1.1; simpa using h1⟩
theorem iy (dir:Bool) (parts:List (List UInt8)) (us:List (aN×List aJ)): ∀(f n:Nat),bT dir parts us f n=true<-> ∃m,n<=m/\m<n+f/\eu dir parts m us false=true
 | 0,n=>by simp[bT]; intro x h1 h2; omega
 | f+1,n=>by
  rw[bT];have ih:=iy dir parts us f (n+1)
  cases h:eu dir parts n us false
  ·simp only[Bool.false_eq_true,if_false];rw[ih]
   constructor
   ·rintro⟨m,h1,h2,h3⟩; exact⟨m,by omega,by omega,h3⟩
   ·rintro⟨m,h1,h2,h3⟩;refine⟨m, ?_,by omega,h3⟩
    rcases Nat.lt_or_ge n m with h4 | h4
    ·omega
    ·obtain rfl:m=n:=by omega
     rw[h]at h3; cases h3
  ·simp only[if_true,true_iff];exact⟨n,by omega,by omega,h⟩
theorem mN (dir:Bool) (parts:List (List UInt8)) (n:Nat) (hn:n<parts.length): ∀(us:List (aN×List aJ)) (b:Bool),eu true parts.dropLast n us b=eu dir parts n us b
 | [],b=>rfl
 | (q,ds)::us,b=>by
  simp only[eu];have e:ek true q ds parts.dropLast n=ek dir q ds parts n:=by
   unfold ek;have ht:parts.dropLast.take n=parts.take n:=by
    rw[List.dropLast_eq_take,List.take_take]; congr 1; omega
   rw[ht];simp[hn]
  rw[e,mN dir parts n hn us]
def sH (parts:List (List UInt8)) (us:List (aN×List aJ)):Bool:=bT true parts.dropLast us parts.dropLast.length 1
theorem vd (dir:Bool) (parts:List (List UInt8)) (us:List (aN×List aJ)):sH parts us=true<-> ∃m,1<=m/\m<parts.length/\eu dir parts m us false=true:=by
 unfold sH;rw[iy]
 constructor
 ·rintro⟨m,h1,h2,h3⟩;rw[List.length_dropLast]at h2;exact⟨m,h1,by omega,by rw[<-mN dir parts m (by omega)]; exact h3⟩
 ·rintro⟨m,h1,h2,h3⟩;exact⟨m,h1,by rw[List.length_dropLast]; omega,by rw[mN dir parts m h2]; exact h3⟩
theorem xu {dir:Bool} {parts:List (List UInt8)} {us:List (aN×List aJ)} (h:sH parts us=true):bT dir parts us parts.length 1=true:=by
 obtain⟨m,h1,h2,h3⟩:=(vd dir parts us).1 h;exact(iy _ _ _ _ _).2 ⟨m,h1,by omega,h3⟩
theorem iA : ∀(ls:List (List UInt8)) (i:Nat) (acc rs:List aN) (n:Int),(∀r∈acc,(aQ r).isSome=true)->cz ls i acc=(rs,n,0)->(∀r∈rs,(aQ r).isSome=true)/\rs.length<=acc.length+ls.length/\n=0
 | [],i,acc,rs,n,ha,h=>by
  simp only[cz,Prod.mk.injEq]at h;obtain⟨rfl,rfl,_⟩:=h;exact⟨ha,by simp,rfl⟩
 | l::ls,i,acc,rs,n,ha,h=>by
  rw[cz]at h
  split at h
  ·have:=iA ls (i+1) acc rs n ha h;exact⟨this.1,by have:=this.2.1; simp; omega,this.2.2⟩
  ·split at h
   ·simp at h
   ·rename_i r hr
    split at h
    ·simp at h
    ·have hc:(aQ r).isSome=true:=by
      unfold bO at hr
      split at hr
      ·cases hr; assumption
      ·cases hr
     have:=iA ls (i+1) (acc++[r]) rs n (fun q hq=>by
      rcases List.mem_append.1 hq with hq | hq
      ·exact ha q hq
      ·simp at hq; subst hq; exact hc) h
     exact⟨this.1,by have:=this.2.1; simp at this ⊢; omega,this.2.2⟩
theorem ir : ∀(rs:List aN),(∀r∈rs,(aQ r).isSome=true)-> ∃us,aO rs=some us
 | [],_=>⟨[],rfl⟩
 | r::rs,h=>by
  obtain⟨us,hu⟩:=ir rs (fun q hq=>h q (by simp[hq]));obtain⟨cs,hc⟩:=Option.isSome_iff_exists.1 (h r (by simp));exact⟨(r,cs)::us,by simp[aO,hc,hu]⟩
theorem rD {l:List UInt8} {rs:List aN} {n:Int} (h:bS l=(rs,n,0)):(∃us,aO rs=some us)/\rs.length<=l.length+1/\n=0/\ ∀r∈rs,r.pat.length<=512:=by
 unfold bS at h
 split at h
 ·simp at h
 ·have:=iA _ 0 [] rs n (by simp) h;have hl:=dh 10 l;refine⟨ir rs this.1,by have:=this.2.1; simp at this; omega,this.2.2,fun r hr=> ?_⟩;obtain⟨cs,hc⟩:=Option.isSome_iff_exists.1 (this.1 r hr);unfold aQ at hc
  split at hc
  ·cases hc
  ·split at hc
   ·cases hc
   ·unfold gv at hc
    split at hc
    ·cases hc
    ·omega
theorem vK {l:List UInt8} (h:bv l=true):(aL l=[]/\(ax 47 l).dropLast=[])\/(aL l≠[]/\bv (aL l)=true/\ax 47 (aL l)=(ax 47 l).dropLast):=by
 unfold aL cA
 by_cases he:(ax 47 l).dropLast=[]
 ·left; exact⟨by rw[he]; rfl,he⟩
 ·right
  have hs:ax 47 (Lib.join (ax 47 l).dropLast [47])=(ax 47 l).dropLast:=sk 47 _ he (fun p hp=>tV 47 l p (List.dropLast_subset _ hp));have hne:Lib.join (ax 47 l).dropLast [47]≠[]:=by
   intro e;rw[e]at hs;have h1:ax 47 []=[[]]:=rfl;rw[h1]at hs;have:=(sx h [] (List.dropLast_subset _ (by rw[<-hs]; simp))).2;exact this rfl
  refine⟨hne, ?_,hs⟩;have hp:=h;simp only[bv,Bool.and_eq_true,decide_eq_true_eq,List.all_eq_true]at hp ⊢;rw[hs];refine⟨⟨?_,by rw[List.length_dropLast]; omega⟩,fun p hp'=>hp.2 p (List.dropLast_subset _ hp')⟩;have hl:(Lib.join (ax 47 l).dropLast [47]).length<=(Lib.join (ax 47 l) [47]).length:=by
   have e:=List.dropLast_concat_getLast (dX 47 l);have e2:=lB (ax 47 l).dropLast ((ax 47 l).getLast (dX 47 l));rw[e]at e2;unfold cA at e2;rw[e2,if_neg he];simp
  rw[ln]at hl;omega
open Go
section
variable {P : Program} {ops : Array Oper} {md : Region.Mode} {w : World}
def sT (md:Region.Mode) (ops:Array Oper) (m:Nat):Bool:=
 ((List.range m).all fun i=>decide (ops.size<=m) || (List.range (m+1)).any fun j=>decide (i<j) && Region.waitsFor md ops j i) &&
 ((List.range ops.size).all fun t=>decide (t<=m) || (List.range t).any fun u=>decide (m<=u) && Region.waitsFor md ops t u)
theorem kH {m:Nat} {listed:Array Bool} (hc:sT md ops m=true) (inv:HeadInv md ops m listed):
  ∀(d i:Nat),m-i=d->i<m->listed.getD i true=false-> ∀t,m<=t->t∉Region.ready md ops listed:=by
 simp only[sT,Bool.and_eq_true]at hc;obtain⟨hs,hch⟩:=hc;intro d
 induction d using Nat.strongRecOn with
 | _ d ih=>
  intro i hd hi hun t ht hr;obtain⟨_,ot,hot,hall⟩:=mem_ready.1 hr;have htlt:t<ops.size:=(Array.getElem?_eq_some_iff.1 hot).1
  rcases Nat.lt_or_ge m t with htm | htm
  ·have h1:=List.all_eq_true.1 hch t (List.mem_range.2 htlt);simp only[Bool.or_eq_true,decide_eq_true_eq]at h1
   rcases h1 with h1 | h1
   ·omega
   ·obtain⟨u,hu,hu2⟩:=List.any_eq_true.1 h1;simp only[Bool.and_eq_true,decide_eq_true_eq]at hu2;obtain⟨o',ho',e,he,hb,hon⟩:=Region.waitsFor_spec hu2.2;have ho:o'=ot:=Option.some.inj (ho'.symm.trans hot);subst ho;have h2:=hall e he hb;rw[hon,getD_both (inv.tail u hu2.1 (by have:=List.mem_range.1 hu; omega))]at h2
    cases h2
  ·have htm':t=m:=by omega
   subst htm';have h1:=List.all_eq_true.1 hs i (List.mem_range.2 hi);simp only[Bool.or_eq_true,decide_eq_true_eq]at h1
   rcases h1 with h1 | h1
   ·omega
   ·obtain⟨j,hj,hj2⟩:=List.any_eq_true.1 h1;simp only[Bool.and_eq_true,decide_eq_true_eq]at hj2;obtain⟨oj,hoj,e,he,hb,hon⟩:=Region.waitsFor_spec hj2.2;have hjle:=List.mem_range.1 hj
    rcases Nat.lt_or_ge j t with hjt | hjt
    ·cases hl:listed.getD j false with
     | true=>
      have h2:=inv.closed j oj hoj hl e he hb;rw[hon,getD_both hun]at h2
      cases h2
     | false=>
      exact ih (t-j) (by omega) j rfl hjt (getD_in (by rw[inv.size]; omega) hl) t (Nat.le_refl _) hr
    ·have hjt':j=t:=by omega
     subst hjt';have ho:oj=ot:=Option.some.inj (hoj.symm.trans hot);subst ho;have h2:=hall e he hb;rw[hon,getD_both hun]at h2
     cases h2
theorem wE {m i:Nat} {oi:Oper} {v:Value} {L:Array Bool->Act->Prop} (hi:ops[i]? =some oi) (hsel: ∀(j:Nat) (o:Oper) cs b,ops[j]? =some o->o.op≠ .select cs b)
  (hc:sT md ops m=true) (hin:i<m) (hdone: ∀listed a,L listed a-> ∀j∈Region.ready md ops listed,m<=j):
  ∀(f:Nat) (listed:Array Bool) (a:Act),HeadInv md ops m listed->
   (∀j oj,ops[j]? =some oj->j≠i->listed.getD j true=false->(∀e∈oj.after,Region.binds md e=true->e.on≠i)->oi.apart ops oj=true)->
   i∈Region.ready md ops listed->YieldsAt P ops w oi v a->
   wpAnyL P md ops w m L f (listed.setIfInBounds i true) (a.put oi.dst v)->wpAnyL P md ops w m L (f+1) listed a:=by
 intro f
 induction f with
 | zero=>
  intro listed a inv _ hr hy H;have hun:=(mem_ready.1 hr).1;refine⟨List.ne_nil_of_mem hr,fun j hj=> ?_⟩;have hjm:j<m:=Nat.lt_of_not_le fun h=>kH hc inv _ i rfl hin hun j h hj
  refine⟨hjm, ?_⟩
  by_cases hji:j=i
  ·subst hji; exact hy.stOp hi H
  ·have:=hdone _ _ H j (ready_mono hj hji);omega
 | succ f ih=>
  intro listed a inv hfree hr hy H;have hun:=(mem_ready.1 hr).1;refine⟨List.ne_nil_of_mem hr,fun j hj=> ?_⟩;have hjm:j<m:=Nat.lt_of_not_le fun h=>kH hc inv _ i rfl hin hun j h hj
  refine⟨hjm, ?_⟩
  by_cases hji:j=i
  ·subst hji; exact hy.stOp hi H
  ·have h1:=(H.2 j (ready_mono hj hji)).2;obtain⟨hjun,oj,hoj,hall⟩:=mem_ready.1 hj;have hnot: ∀e∈oj.after,Region.binds md e=true->e.on≠i:=fun e he hb heq=>by
    have h1:=hall e he hb;rw[heq,getD_both hun]at h1
    cases h1
   have h2:=stOp_put hoj (hfree j oj hoj hji hjun hnot) (fun cs b=>hsel i oi cs b hi) (fun cs b=>hsel j oj cs b hoj) hy h1;refine stOp_mono (fun a' h3=>ih (listed.setIfInBounds j true) a' (inv.set hj hjm) (fun k ok hk hki hunk hno=> ?_) (ready_mono hr (Ne.symm hji)) h3.1 ?_) h2
   ·refine hfree k ok hk hki ?_ hno
    by_cases hjk:j=k
    ·subst hjk; exact hjun
    ·rw[getD_set_ne true hjk]at hunk; exact hunk
   ·rw[Array.setIfInBounds_comm _ _ hji];exact h3.2
def pH :Nat->Nat->Array Bool->Array Bool
 | 0,_,listed=>listed
 | n+1,k,listed=>pH n (k+1) (listed.setIfInBounds k true)
def Ac (md:Region.Mode) (ops:Array Oper):Nat->Nat->Array Bool->Bool
 | 0,k,listed=>(Region.ready md ops listed).all fun j=>decide (k<=j)
 | n+1,k,listed=>(Region.ready md ops listed).contains k && Region.free md ops listed k && Ac md ops n (k+1) (listed.setIfInBounds k true)
theorem uR {m:Nat} {Lq:Act->Prop} (hsel:Region.noSelect ops=true) (hc:sT md ops m=true) (LM:Array Bool):
  ∀(l:List Oper) (k:Nat) (listed:Array Bool) (a:Act),(∀j,j<l.length->l[j]? =ops[k+j]?)->k+l.length=m->HeadInv md ops m listed->
  Ac md ops l.length k listed=true->pH l.length k listed=LM->wpStill P ops w Lq l a->
  wpAnyL P md ops w m (fun listed' a'=>listed'=LM/\Lq a') l.length listed a/\ ∀j∈Region.ready md ops LM,m<=j
 | [],k,listed,a,_,hk,_,hB,hL,h=>by
  have hkm:k=m:=by simpa using hk
  subst hkm;have hLM:listed=LM:=hL;subst hLM;refine⟨⟨rfl,h⟩,fun j hj=> ?_⟩;have:=List.all_eq_true.1 hB j hj
  simpa using this
 | o::l,k,listed,a,hl,hk,inv,hB,hL,h=>by
  have h0:ops[k]? =some o:=by simpa using (hl 0 (by simp)).symm
  simp only[List.length_cons,Ac,Bool.and_eq_true]at hB;obtain⟨⟨hr,hf⟩,hB'⟩:=hB;have hkm:k<m:=by simp only[List.length_cons]at hk; omega
  have hr':k∈Region.ready md ops listed:=by simpa using hr
  have hst:stOp P ops w k (wpStill P ops w Lq l) a:=by unfold stOp; simp only[h0]; exact h
  obtain⟨v,hy,hK⟩:=yieldsAt_of_stOp h0 hst;have IH:=uR hsel hc LM l (k+1) _ _ (fun j hj=>by have:=hl (j+1) (by simp; omega); simpa [Nat.add_assoc,Nat.add_comm 1 j]using this) (by simp only[List.length_cons]at hk; omega) (inv.set hr' hkm) hB' hL hK;refine⟨wE h0 (Region.noSelect_spec hsel) hc hkm (fun listed' a' hL'=> ?_) l.length listed a inv (Region.free_spec h0 hf) hr' hy IH.1,IH.2⟩
  rw[hL'.1]; exact IH.2
def xU (md:Region.Mode) (ops:Array Oper) (m:Nat) (listed:Array Bool):Bool:=
 decide (listed.size=ops.size) &&
 ((List.range ops.size).all fun j=> !listed.getD j false || match ops[j]? with | some oj=>oj.after.all (fun e=> !Region.binds md e || listed.getD e.on false) | none=>true) &&
 ((List.range ops.size).all fun t=>decide (t<m) || !listed.getD t true)
theorem td {m:Nat} {listed:Array Bool} (h:xU md ops m listed=true):HeadInv md ops m listed:=by
 simp only[xU,Bool.and_eq_true,decide_eq_true_eq]at h;obtain⟨⟨h1,h2⟩,h3⟩:=h;refine⟨h1,fun j oj hj hl e he hb=> ?_,fun t ht ht2=> ?_⟩
 ·have:=List.all_eq_true.1 h2 j (List.mem_range.2 (Array.getElem?_eq_some_iff.1 hj).1);rw[hl,hj]at this;simp only[Bool.not_true,Bool.false_or]at this;have:=Array.all_eq_true'.1 this e he;rw[hb]at this
  simpa using this
 ·have:=List.all_eq_true.1 h3 t (List.mem_range.2 ht2);simp only[Bool.or_eq_true,decide_eq_true_eq]at this
  rcases this with h | h
  ·omega
  ·simpa using h
def nw (md:Region.Mode) (ops:Array Oper):List (Option Nat)->Nat->Array Bool->Bool
 | [],k,listed=>decide (k=ops.size) && (Region.ready md ops listed).isEmpty
 | some n::s,k,listed=>decide (k+n<=ops.size) && sT md ops (k+n) && xU md ops (k+n) listed && Ac md ops n k listed && nw md ops s (k+n) (pH n k listed)
 | none::s,k,listed=>decide (k<ops.size) && decide (Region.ready md ops listed=[k]) && nw md ops s (k+1) (listed.setIfInBounds k true)
@[irreducible] def sD (P:Program) (ops:Array Oper) (w:World) (Q:Act->Prop) (l:List Oper) (a:Act):Prop:=wpStill P ops w Q l a
theorem sD.out {Q:Act->Prop} {l:List Oper} {a:Act} (h:sD P ops w Q l a):wpStill P ops w Q l a:=by unfold sD at h; exact h
theorem sD.of {Q:Act->Prop} {l:List Oper} {a:Act} (h:wpStill P ops w Q l a):sD P ops w Q l a:=by unfold sD; exact h
@[irreducible] def qi (P:Program) (ops:Array Oper) (next:Act->World->Prop) (Q:Exit->Act->World->Prop) (l:List Oper) (a:Act) (w:World):Prop:=wpList P ops (Exit.then next Q) l a w
theorem qi.out {next:Act->World->Prop} {Q:Exit->Act->World->Prop} {l:List Oper} {a:Act} (h:qi P ops next Q l a w):wpList P ops (Exit.then next Q) l a w:=by unfold qi at h; exact h
theorem qi.of {next:Act->World->Prop} {Q:Exit->Act->World->Prop} {l:List Oper} {a:Act} (h:wpList P ops (Exit.then next Q) l a w):qi P ops next Q l a w:=by unfold qi; exact h
def bc (P:Program) (ops:Array Oper) (Q:Exit->Act->World->Prop):List (Option Nat)->List Oper->Act->World->Prop
 | [],_,a,w=>Q .normal a w
 | some n::s,l,a,w=>sD P ops w (fun a'=>bc P ops Q s (l.drop n) a' w) (l.take n) a
 | none::s,l,a,w=>qi P ops (fun a' w'=>bc P ops Q s (l.drop 1) a' w') Q (l.take 1) a w
theorem gh {Q:Exit->Act->World->Prop} (hsel:Region.noSelect ops=true): ∀(s:List (Option Nat)) (l:List Oper) (k:Nat) (listed:Array Bool) (a:Act) (w:World),
  (∀j,l[j]? =ops[k+j]?)->nw md ops s k listed=true->bc P ops Q s l a w->wpAny P md ops Q (ops.size-k) listed a w
 | [],l,k,listed,a,w,hl,hB,h=>by
  simp only[nw,Bool.and_eq_true,decide_eq_true_eq]at hB;rw[hB.1,Nat.sub_self];exact⟨by simpa using hB.2,h⟩
 | some n::s,l,k,listed,a,w,hl,hB,h=>by
  simp only[nw,Bool.and_eq_true,decide_eq_true_eq]at hB;obtain⟨⟨⟨⟨hn,hc⟩,hh⟩,hs⟩,hB'⟩:=hB;have hll:l.length=ops.size-k:=by
   have h1: ∀j,j<l.length<->k+j<ops.size:=fun j=>by
    constructor
    ·intro hj; have:=hl j; rw[List.getElem?_eq_getElem hj]at this; exact(Array.getElem?_eq_some_iff.1 this.symm).1
    ·intro hj; have:=hl j; rw[Array.getElem?_eq_getElem hj]at this; exact(List.getElem?_eq_some_iff.1 this).1
   rcases Nat.lt_trichotomy l.length (ops.size-k)with h2 | h2 | h2
   ·have:=(h1 l.length).2 (by omega); omega
   ·exact h2
   ·have:=(h1 (ops.size-k)).1 h2; omega
  have htl:(l.take n).length=n:=by simp; omega
  have H:=uR (P:=P) (md:=md) (w:=w) hsel hc (pH n k listed) (l.take n) k listed a (fun j hj=>by
   rw[htl]at hj;rw[List.getElem?_take,if_pos hj]; exact hl j) (by rw[htl]) (td hh) (by rw[htl]; exact hs) (by rw[htl]) (sD.out h)
  have:=wpAny_of_head (Q':=Q) (g:=ops.size-(k+n)) (fun listed' a' hL=>by
   rw[hL.1];exact gh hsel s (l.drop n) (k+n) _ a' w (fun j=>by rw[List.getElem?_drop,hl,Nat.add_assoc]) hB' hL.2) _ _ _ H.1
  rw[htl,show n+(ops.size-(k+n))=ops.size-k by omega]at this;exact this
 | none::s,l,k,listed,a,w,hl,hB,h=>by
  simp only[nw,Bool.and_eq_true,decide_eq_true_eq]at hB;obtain⟨⟨hk,hr⟩,hB'⟩:=hB;obtain⟨o,ho⟩: ∃o,ops[k]? =some o:=⟨ops[k],by simp[hk]⟩;have h0:l[0]? =some o:=by rw[hl]; exact ho
  obtain⟨l',rfl⟩: ∃l',l=o::l':=by
   cases l with
   | nil=>simp at h0
   | cons x y=>simp at h0; exact⟨y,by rw[h0]⟩
  rw[show ops.size-k=(ops.size-(k+1))+1 by omega];refine⟨fun h1=>(by rw[hr]at h1; cases h1),fun i hi=> ?_⟩;rw[hr]at hi;have hik:i=k:=by simpa using hi
  subst hik;have hw:wpOp P ops Q i (fun a' w'=>bc P ops Q s l' a' w') a w:=by
   unfold wpOp;simp only[ho];exact qi.out h
  exact wpOp_mono (fun a' w' h'=>gh hsel s l' (i+1) _ a' w' (fun j=>by have:=hl (j+1); simpa [Nat.add_assoc,Nat.add_comm 1 j]using this) hB' h') hw
theorem al {id:Nat} {Q:Exit->Act->World->Prop} {a:Act} {w:World} {l:List Oper} (s:List (Option Nat)) (hm:P.follows .mixedOrders=true) (hsel:Region.noSelect l.toArray=true)
  (hB:nw .any l.toArray s 0 (Array.replicate l.toArray.size false)=true) (h:bc P l.toArray Q s l a w.drew):(Code.region id l.toArray true).wp P Q a w:=by
 refine wp_region_any hm ?_;have:=gh (md:= .any) (P:=P) (Q:=Q) hsel s l 0 _ a w.drew (by simp) hB h
 simpa using this
theorem aA {Q:Act->Prop} {a:Act} (h:Q a):sD P ops w Q [] a:=sD.of h
theorem aw {Q:Act->Prop} {a:Act} {o:Oper} {rest:List Oper} (hw:Region.wanted o (yielded ops a.tmps)=false) (h:sD P ops w Q rest (a.put o.dst undef)):sD P ops w Q (o::rest) a:=by
 refine sD.of ?_;unfold wpStill; rw[hw]; exact h.out
theorem aB {Q:Act->Prop} {a:Act} {dst:Option Tmp} {op:Op} {ty:TypeId} {pos:String} {aft:Array Edge} {g:Option (Nat×Bool)} {rest:List Oper} (hw:Region.wanted ⟨dst,op,ty,pos,aft,g⟩ (yielded ops a.tmps)=true)
  (h: ∀K:Act->Prop,(∀a,sD P ops w Q rest a->K a)->Oper.still P ⟨dst,op,ty,pos, #[],none⟩ a w K):sD P ops w Q (⟨dst,op,ty,pos,aft,g⟩::rest) a:=by
 refine sD.of ?_;unfold wpStill; rw[hw]; exact h _ (fun _ h=>h.out)
theorem gm {Q:Exit->Act->World->Prop} {next:Act->World->Prop} {a:Act} {o:Oper} (hw:Region.wanted o (yielded ops a.tmps)=false) (h:next (a.put o.dst undef) w):qi P ops next Q [o] a w:=by
 refine qi.of ?_;unfold wpList; rw[hw]; exact h
theorem bg {Q:Exit->Act->World->Prop} {next:Act->World->Prop} {a:Act} {dst:Option Tmp} {op:Op} {ty:TypeId} {pos:String} {aft:Array Edge} {g:Option (Nat×Bool)} (hw:Region.wanted ⟨dst,op,ty,pos,aft,g⟩ (yielded ops a.tmps)=true)
  (h: ∀K:Act->World->Prop,(∀a w,next a w->K a w)->wpList P #[] (Exit.then K Q) [⟨dst,op,ty,pos, #[],none⟩] a w):qi P ops next Q [⟨dst,op,ty,pos,aft,g⟩] a w:=by
 refine qi.of ?_;have:=h _ (fun _ _ h=>h);unfold wpList at this ⊢;rw[hw];simp only[Region.wanted,if_true]at this;exact this
end
end Go.Proofs.YtnjkpcalgoefhaaGreatDoor
namespace Go.Proofs.YtnjkpcalgoefhaaGreatDoor
def cU (x s:Nat):Nat:=(x*2^s%4294967296) ||| (x/2^(32-s))
def Ah (x:Nat):Nat:=(cU x 15^^^cU x 13)^^^(x/2^10)
def Ag (x:Nat):Nat:=(cU x 25^^^cU x 14)^^^(x/2^3)
def lq (l:List Nat):Nat:=(((Ah (l.getD (l.length-2) 0)+l.getD (l.length-7) 0)%4294967296+Ag (l.getD (l.length-15) 0))%4294967296+l.getD (l.length-16) 0)%4294967296
def fM :Nat->List Nat->List Nat
 | 0,l=>l
 | n+1,l=>fM n (l++[lq l])
def uV (a b c d:UInt8):Nat:=(((a.toNat*2^24%4294967296) ||| (b.toNat*2^16%4294967296)) ||| (c.toNat*2^8%4294967296)) ||| d.toNat
def sA (b:List UInt8) (t:Nat):Nat:=uV (b.getD (4*t) 0) (b.getD (4*t+1) 0) (b.getD (4*t+2) 0) (b.getD (4*t+3) 0)
def gN (b:List UInt8) (n:Nat):List Nat:=(List.range n).map (sA b)
structure V8 where
 a:Nat
 b:Nat
 c:Nat
 d:Nat
 e:Nat
 f:Nat
 g:Nat
 h:Nat
def kc :List Nat:=[0x428a2f98,0x71374491,0xb5c0fbcf,0xe9b5dba5,0x3956c25b,0x59f111f1,0x923f82a4,0xab1c5ed5,
 0xd807aa98,0x12835b01,0x243185be,0x550c7dc3,0x72be5d74,0x80deb1fe,0x9bdc06a7,0xc19bf174,
 0xe49b69c1,0xefbe4786,0x0fc19dc6,0x240ca1cc,0x2de92c6f,0x4a7484aa,0x5cb0a9dc,0x76f988da,
 0x983e5152,0xa831c66d,0xb00327c8,0xbf597fc7,0xc6e00bf3,0xd5a79147,0x06ca6351,0x14292967,
 0x27b70a85,0x2e1b2138,0x4d2c6dfc,0x53380d13,0x650a7354,0x766a0abb,0x81c2c92e,0x92722c85,
 0xa2bfe8a1,0xa81a664b,0xc24b8b70,0xc76c51a3,0xd192e819,0xd6990624,0xf40e3585,0x106aa070,
 0x19a4c116,0x1e376c08,0x2748774c,0x34b0bcb5,0x391c0cb3,0x4ed8aa4a,0x5b9cca4f,0x682e6ff3,
 0x748f82ee,0x78a5636f,0x84c87814,0x8cc70208,0x90befffa,0xa4506ceb,0xbef9a3f7,0xc67178f2]
def t1P (v:V8) (k w:Nat):Nat:=((((v.h+((cU v.e 26^^^cU v.e 21)^^^cU v.e 7))%4294967296+((v.e &&& v.f)^^^((4294967295-v.e) &&& v.g)))%4294967296+k)%4294967296+w)%4294967296
def t2P (v:V8):Nat:=(((cU v.a 30^^^cU v.a 19)^^^cU v.a 10)+(((v.a &&& v.b)^^^(v.a &&& v.c))^^^(v.b &&& v.c)))%4294967296
def vU (v:V8) (k w:Nat):V8:=⟨(t1P v k w+t2P v)%4294967296,v.a,v.b,v.c,(v.d+t1P v k w)%4294967296,v.e,v.f,v.g⟩
def kn (l:List (Nat×Nat)) (v:V8):V8:=l.foldl (fun v p=>vU v p.1 p.2) v
def lW (x y:Nat):Nat:=(x+y)%4294967296
def xq (v u:V8):V8:=⟨lW v.a u.a,lW v.b u.b,lW v.c u.c,lW v.d u.d,lW v.e u.e,lW v.f u.f,lW v.g u.g,lW v.h u.h⟩
def wsP (b:List UInt8):List Nat:=fM 48 (gN b 16)
def rI (v:V8) (b:List UInt8):V8:=xq v (kn (kc.zip (wsP b)) v)
def kV :V8:=⟨0x6a09e667,0xbb67ae85,0x3c6ef372,0xa54ff53a,0x510e527f,0x9b05688c,0x1f83d9ab,0x5be0cd19⟩
def dT (l:List UInt8):Nat->V8
 | 0=>kV
 | k+1=>rI (dT l k) ((l.drop (64*k)).take 64)
def sJ (x:Nat):List UInt8:=[UInt8.ofNat (x/2^24),UInt8.ofNat (x/2^16),UInt8.ofNat (x/2^8),UInt8.ofNat x]
def pG (x:Nat):List UInt8:=[UInt8.ofNat (x/2^56),UInt8.ofNat (x/2^48),UInt8.ofNat (x/2^40),UInt8.ofNat (x/2^32),UInt8.ofNat (x/2^24),UInt8.ofNat (x/2^16),UInt8.ofNat (x/2^8),UInt8.ofNat x]
def gi (n:Nat):Nat:=(119-n%64)%64
def lG (n:Nat):List UInt8:=128::List.replicate (gi n) 0++pG (n*8%18446744073709551616)
def V8.list (v:V8):List Nat:=[v.a,v.b,v.c,v.d,v.e,v.f,v.g,v.h]
def V8.out (v:V8):List UInt8:=v.list.flatMap sJ
def tP (l:List UInt8):List UInt8:=(dT (l++lG l.length) ((l++lG l.length).length/64)).out
theorem gH {x y:Nat} (hx:x<4294967296) (hy:y<4294967296):x ||| y<4294967296:=Nat.or_lt_two_pow (n:=32) hx hy
theorem iR {x y:Nat} (hx:x<4294967296) (hy:y<4294967296):x^^^y<4294967296:=Nat.xor_lt_two_pow (n:=32) hx hy
theorem fy {x:Nat} (y:Nat) (hx:x<4294967296):x &&& y<4294967296:=Nat.lt_of_le_of_lt Nat.and_le_left hx
theorem cw {x:Nat} (s:Nat) (hx:x<4294967296):cU x s<4294967296:=gH (Nat.mod_lt _ (by decide)) (Nat.lt_of_le_of_lt (Nat.div_le_self _ _) hx)
theorem yg (l:List Nat):lq l<4294967296:=Nat.mod_lt _ (by decide)
theorem uo {x:Nat} (b:UInt8) (h:x=b.toNat):x<4294967296:=by have:=b.toNat_lt; omega
theorem yV (a b c d:UInt8):uV a b c d<4294967296:=gH (gH (gH (Nat.mod_lt _ (by decide)) (Nat.mod_lt _ (by decide))) (Nat.mod_lt _ (by decide))) (uo _ rfl)
theorem yW (b:List UInt8) (t:Nat):sA b t<4294967296:=yV _ _ _ _
def uZ (l:List Nat):Prop:= ∀x∈l,x<4294967296
theorem uZ.get {l:List Nat} (h:uZ l) (k:Nat):l.getD k 0<4294967296:=by
 rw[List.getD_eq_getElem?_getD]
 cases hk:l[k]? with
 | none=>simp
 | some x=>exact h x (List.mem_of_getElem? hk)
theorem nK (b:List UInt8) (n:Nat):(gN b n).length=n:=by simp[gN]
theorem py (b:List UInt8) (n:Nat):uZ (gN b n):=by
 intro x hx;obtain⟨t,_,rfl⟩:=List.mem_map.1 hx;exact yW b t
theorem sB (b:List UInt8) (n:Nat):gN b (n+1)=gN b n++[sA b n]:=by simp[gN,List.range_succ]
theorem lz : ∀(n:Nat) (l:List Nat),fM (n+1) l=fM n l++[lq (fM n l)]
 | 0,_=>rfl
 | n+1,l=>by rw[fM,lz n (l++[lq l])]; rfl
theorem ns : ∀(n:Nat) (l:List Nat),(fM n l).length=l.length+n
 | 0,_=>rfl
 | n+1,l=>by rw[fM,ns n]; simp; omega
theorem ph : ∀(n:Nat) {l:List Nat},uZ l->uZ (fM n l)
 | 0,_,h=>h
 | n+1,l,h=>by
  rw[fM];refine ph n (fun x hx=> ?_)
  rcases List.mem_append.1 hx with hx | hx
  ·exact h x hx
  ·rw[List.mem_singleton.1 hx]; exact yg l
def lU (b:List UInt8) (t:Nat):List Nat:=if t<=16 then gN b t else fM (t-16) (gN b 16)
theorem gM (b:List UInt8) (t:Nat):(lU b t).length=t:=by
 unfold lU; split
 ·exact nK b t
 ·rw[ns,nK]; omega
theorem yU (b:List UInt8) (t:Nat):uZ (lU b t):=by
 unfold lU; split
 ·exact py b t
 ·exact ph _ (py b 16)
theorem Ao (b:List UInt8) {t:Nat} (h:t<16):lU b (t+1)=lU b t++[sA b t]:=by
 unfold lU; rw[if_pos (by omega),if_pos (by omega),sB]
theorem yT (b:List UInt8) {t:Nat} (h:16<=t):lU b (t+1)=lU b t++[lq (lU b t)]:=by
 unfold lU; rw[if_neg (by omega)]
 by_cases ht:t=16
 ·subst ht; rw[if_pos (by decide)]; rfl
 ·rw[if_neg (by omega),show t+1-16=(t-16)+1 by omega,lz]
theorem uU (b:List UInt8):lU b 64=wsP b:=by unfold lU wsP; rw[if_neg (by decide)]
theorem uW (b:List UInt8):(wsP b).length=64:=by rw[<-uU]; exact gM b 64
theorem tj :kc.length=64:=rfl
structure V8.Ok (v : V8) : Prop where
 a:v.a<4294967296
 b:v.b<4294967296
 c:v.c<4294967296
 d:v.d<4294967296
 e:v.e<4294967296
 f:v.f<4294967296
 g:v.g<4294967296
 h:v.h<4294967296
theorem zW {v:V8} (h:v.Ok) (k w:Nat):(vU v k w).Ok:=⟨Nat.mod_lt _ (by decide),h.a,h.b,h.c,Nat.mod_lt _ (by decide),h.e,h.f,h.g⟩
theorem yx (l:List (Nat×Nat)): ∀ {v:V8},v.Ok->(kn l v).Ok:=by
 induction l with
 | nil=>intro v h; exact h
 | cons p l ih=>
  intro v h;unfold kn at ih ⊢;rw[List.foldl_cons];exact ih (zW h p.1 p.2)
theorem tH (l:List (Nat×Nat)) (p:Nat×Nat) (v:V8):kn (l++[p]) v=vU (kn l v) p.1 p.2:=by
 unfold kn; rw[List.foldl_append,List.foldl_cons,List.foldl_nil]
theorem zi (v u:V8):(xq v u).Ok:=by constructor<;> exact Nat.mod_lt _ (by decide)
theorem wV :kV.Ok:=by constructor<;> decide
theorem yo (v:V8) (b:List UInt8):(rI v b).Ok:=zi _ _
theorem pJ (l:List UInt8): ∀k,(dT l k).Ok
 | 0=>wV
 | _+1=>yo _ _
def rTo (b:List UInt8) (v:V8) (t:Nat):V8:=kn ((kc.zip (wsP b)).take t) v
theorem yr (b:List UInt8) {v:V8} (t:Nat) (h:v.Ok):(rTo b v t).Ok:=yx _ h
theorem iV {l:List Nat} {t:Nat} (h:t<l.length):l[t]? =some (l.getD t 0):=by simp[List.getD_eq_getElem?_getD,h]
theorem yZ {x y:List Nat} {t:Nat} (h1:t<x.length) (h2:t<y.length):(x.zip y)[t]? =some (x.getD t 0,y.getD t 0):=by
 rw[List.getElem?_zip_eq_some];exact⟨iV h1,iV h2⟩
theorem vV {x y:List Nat} (v:V8) {t:Nat} (h1:t<x.length) (h2:t<y.length):kn ((x.zip y).take (t+1)) v=vU (kn ((x.zip y).take t) v) (x.getD t 0) (y.getD t 0):=by
 rw[List.take_add_one,yZ h1 h2,Option.toList_some,tH]
theorem yt (b:List UInt8) (v:V8) {t:Nat} (h:t<64):rTo b v (t+1)=vU (rTo b v t) (kc.getD t 0) ((wsP b).getD t 0):=
 vV v (by rw[tj]; exact h) (by rw[uW]; exact h)
theorem yp (v:V8) (b:List UInt8):rI v b=xq v (rTo b v 64):=by
 unfold rI rTo; rw[List.take_of_length_le (by rw[List.length_zip,uW,tj]; decide)]
theorem jS {l:List UInt8} (r:List UInt8): ∀ {k:Nat},64*k<=l.length->dT (l++r) k=dT l k
 | 0,_=>rfl
 | k+1,h=>by
  rw[dT,dT,jS r (k:=k) (by omega)]
  congr 1
  rw[List.drop_append_of_le_length (by omega),List.take_append_of_le_length (by rw[List.length_drop]; omega)]
theorem un (x:Nat):(sJ x).length=4:=rfl
theorem zS (v:V8):v.out.length=32:=by simp[V8.out,V8.list,sJ]
theorem yJ (l:List UInt8):(tP l).length=32:=by unfold tP; exact zS _
theorem yj (n:Nat):(lG n).length=1+gi n+8:=by unfold lG pG; simp; omega
open Go Go.RowKit
def eQ (x:Nat):Value:= .int .u32 (x:Int)
theorem de {x a b:Nat} {s:Nat} (ha:2^s=a) (hb:2^(32-s)=b) (hx:x<4294967296):bits .or .u32 ((x:Int)*(a:Int)%4294967296) ((x:Int)/(b:Int))=((cU x s:Nat):Int):=by
 rw[show((x:Int)*(a:Int)%4294967296)=((x*a%4294967296:Nat):Int) by simp,show((x:Int)/(b:Int))=((x/b:Nat):Int) by simp,
  u32_or_nat _ _ (Nat.mod_lt _ (by decide)) (Nat.lt_of_le_of_lt (Nat.div_le_self _ _) hx)]
 unfold cU; rw[ha,hb]
theorem wg (x:Nat) (w:World) (hx:x<4294967296):Calls Tryz.prog 199 #[.int .u32 (x:Int), .int .i64 (-17)] w fun e w'=>e= .returned (.int .u32 ((cU x 15:Nat):Int))/\w=w':=by
 have h1:bits BinOp.and IntKind.u64 (IntKind.u64.wrap (-17)) 31=15:=by decide+kernel
 go_enter Tryz.func199,Tryz.ntmps199
 go_wp2_with fail;go_ret;refine⟨?_,rfl⟩;rw[<-de (a:=32768) (b:=131072) (by decide) (by decide) hx]
 rfl
theorem vZ (x:Nat) (w:World) (hx:x<4294967296):Calls Tryz.prog 199 #[.int .u32 (x:Int), .int .i64 (-19)] w fun e w'=>e= .returned (.int .u32 ((cU x 13:Nat):Int))/\w=w':=by
 have h1:bits BinOp.and IntKind.u64 (IntKind.u64.wrap (-19)) 31=13:=by decide+kernel
 go_enter Tryz.func199,Tryz.ntmps199
 go_wp2_with fail;go_ret;refine⟨?_,rfl⟩;rw[<-de (a:=8192) (b:=524288) (by decide) (by decide) hx]
 rfl
theorem wk (x:Nat) (w:World) (hx:x<4294967296):Calls Tryz.prog 199 #[.int .u32 (x:Int), .int .i64 (-7)] w fun e w'=>e= .returned (.int .u32 ((cU x 25:Nat):Int))/\w=w':=by
 have h1:bits BinOp.and IntKind.u64 (IntKind.u64.wrap (-7)) 31=25:=by decide+kernel
 go_enter Tryz.func199,Tryz.ntmps199
 go_wp2_with fail;go_ret;refine⟨?_,rfl⟩;rw[<-de (a:=33554432) (b:=128) (by decide) (by decide) hx]
 rfl
theorem we (x:Nat) (w:World) (hx:x<4294967296):Calls Tryz.prog 199 #[.int .u32 (x:Int), .int .i64 (-18)] w fun e w'=>e= .returned (.int .u32 ((cU x 14:Nat):Int))/\w=w':=by
 have h1:bits BinOp.and IntKind.u64 (IntKind.u64.wrap (-18)) 31=14:=by decide+kernel
 go_enter Tryz.func199,Tryz.ntmps199
 go_wp2_with fail;go_ret;refine⟨?_,rfl⟩;rw[<-de (a:=16384) (b:=262144) (by decide) (by decide) hx]
 rfl
theorem wl (x:Nat) (w:World) (hx:x<4294967296):Calls Tryz.prog 199 #[.int .u32 (x:Int), .int .i64 (-6)] w fun e w'=>e= .returned (.int .u32 ((cU x 26:Nat):Int))/\w=w':=by
 have h1:bits BinOp.and IntKind.u64 (IntKind.u64.wrap (-6)) 31=26:=by decide+kernel
 go_enter Tryz.func199,Tryz.ntmps199
 go_wp2_with fail;go_ret;refine⟨?_,rfl⟩;rw[<-de (a:=67108864) (b:=64) (by decide) (by decide) hx]
 rfl
theorem wj (x:Nat) (w:World) (hx:x<4294967296):Calls Tryz.prog 199 #[.int .u32 (x:Int), .int .i64 (-11)] w fun e w'=>e= .returned (.int .u32 ((cU x 21:Nat):Int))/\w=w':=by
 have h1:bits BinOp.and IntKind.u64 (IntKind.u64.wrap (-11)) 31=21:=by decide+kernel
 go_enter Tryz.func199,Tryz.ntmps199
 go_wp2_with fail;go_ret;refine⟨?_,rfl⟩;rw[<-de (a:=2097152) (b:=2048) (by decide) (by decide) hx]
 rfl
theorem yy (x:Nat) (w:World) (hx:x<4294967296):Calls Tryz.prog 199 #[.int .u32 (x:Int), .int .i64 (-25)] w fun e w'=>e= .returned (.int .u32 ((cU x 7:Nat):Int))/\w=w':=by
 have h1:bits BinOp.and IntKind.u64 (IntKind.u64.wrap (-25)) 31=7:=by decide+kernel
 go_enter Tryz.func199,Tryz.ntmps199
 go_wp2_with fail;go_ret;refine⟨?_,rfl⟩;rw[<-de (a:=128) (b:=33554432) (by decide) (by decide) hx]
 rfl
theorem wm (x:Nat) (w:World) (hx:x<4294967296):Calls Tryz.prog 199 #[.int .u32 (x:Int), .int .i64 (-2)] w fun e w'=>e= .returned (.int .u32 ((cU x 30:Nat):Int))/\w=w':=by
 have h1:bits BinOp.and IntKind.u64 (IntKind.u64.wrap (-2)) 31=30:=by decide+kernel
 go_enter Tryz.func199,Tryz.ntmps199
 go_wp2_with fail;go_ret;refine⟨?_,rfl⟩;rw[<-de (a:=1073741824) (b:=4) (by decide) (by decide) hx]
 rfl
theorem wh (x:Nat) (w:World) (hx:x<4294967296):Calls Tryz.prog 199 #[.int .u32 (x:Int), .int .i64 (-13)] w fun e w'=>e= .returned (.int .u32 ((cU x 19:Nat):Int))/\w=w':=by
 have h1:bits BinOp.and IntKind.u64 (IntKind.u64.wrap (-13)) 31=19:=by decide+kernel
 go_enter Tryz.func199,Tryz.ntmps199
 go_wp2_with fail;go_ret;refine⟨?_,rfl⟩;rw[<-de (a:=524288) (b:=8192) (by decide) (by decide) hx]
 rfl
theorem vY (x:Nat) (w:World) (hx:x<4294967296):Calls Tryz.prog 199 #[.int .u32 (x:Int), .int .i64 (-22)] w fun e w'=>e= .returned (.int .u32 ((cU x 10:Nat):Int))/\w=w':=by
 have h1:bits BinOp.and IntKind.u64 (IntKind.u64.wrap (-22)) 31=10:=by decide+kernel
 go_enter Tryz.func199,Tryz.ntmps199
 go_wp2_with fail;go_ret;refine⟨?_,rfl⟩;rw[<-de (a:=1024) (b:=4194304) (by decide) (by decide) hx]
 rfl
theorem vH {e:Nat} (h:e<4294967296):4294967295^^^e=4294967295-e:=by
 apply Nat.eq_of_testBit_eq
 intro i;rw[Nat.testBit_xor,show(4294967295:Nat)=2^32-1 by decide,Nat.testBit_two_pow_sub_one,show 2^32-1-e=2^32-(e+1) by omega,Nat.testBit_two_pow_sub_succ (by omega)]
 by_cases hi:i<32
 ·simp[hi]
 ·have:e.testBit i=false:=Nat.testBit_lt_two_pow (Nat.lt_of_lt_of_le h (Nat.pow_le_pow_right (by decide) (by omega):2^32<=2^i));simp[hi,this]
theorem Bk {e:Nat} (h:e<4294967296):bits BinOp.xor IntKind.u32 (if IntKind.u32.signed=true then -1 else IntKind.u32.max) (e:Int)=((4294967295-e:Nat):Int):=by
 rw[show(if IntKind.u32.signed=true then(-1:Int)else IntKind.u32.max)=((4294967295:Nat):Int) by decide,u32_xor_nat _ _ (by decide) h,vH h]
def s1P (r:V8):Nat:=(cU r.e 26^^^cU r.e 21)^^^cU r.e 7
def chP (r:V8):Nat:=(r.e &&& r.f)^^^((4294967295-r.e) &&& r.g)
def s0P (r:V8):Nat:=(cU r.a 30^^^cU r.a 19)^^^cU r.a 10
def mjP (r:V8):Nat:=((r.a &&& r.b)^^^(r.a &&& r.c))^^^(r.b &&& r.c)
theorem zZ {r:V8} (h:r.Ok):bits BinOp.xor IntKind.u32 (bits BinOp.xor IntKind.u32 ((cU r.e 26:Nat):Int) ((cU r.e 21:Nat):Int)) ((cU r.e 7:Nat):Int)=((s1P r:Nat):Int):=by
 rw[u32_xor_nat _ _ (cw _ h.e) (cw _ h.e),u32_xor_nat _ _ (iR (cw _ h.e) (cw _ h.e)) (cw _ h.e)]; rfl
theorem zY {r:V8} (h:r.Ok):bits BinOp.xor IntKind.u32 (bits BinOp.xor IntKind.u32 ((cU r.a 30:Nat):Int) ((cU r.a 19:Nat):Int)) ((cU r.a 10:Nat):Int)=((s0P r:Nat):Int):=by
 rw[u32_xor_nat _ _ (cw _ h.a) (cw _ h.a),u32_xor_nat _ _ (iR (cw _ h.a) (cw _ h.a)) (cw _ h.a)]; rfl
theorem zr {r:V8} (h:r.Ok):bits BinOp.xor IntKind.u32 (bits BinOp.and IntKind.u32 (r.e:Int) (r.f:Int)) (bits BinOp.and IntKind.u32 (bits BinOp.xor IntKind.u32 (if IntKind.u32.signed=true then -1 else IntKind.u32.max) (r.e:Int)) (r.g:Int))=((chP r:Nat):Int):=by
 have h1:4294967295-r.e<4294967296:=by omega
 rw[Bk h.e,u32_and_nat _ _ h.e h.f,u32_and_nat _ _ h1 h.g,u32_xor_nat _ _ (fy _ h.e) (fy _ h1)]; rfl
theorem zQ {r:V8} (h:r.Ok):bits BinOp.xor IntKind.u32 (bits BinOp.xor IntKind.u32 (bits BinOp.and IntKind.u32 (r.a:Int) (r.b:Int)) (bits BinOp.and IntKind.u32 (r.a:Int) (r.c:Int))) (bits BinOp.and IntKind.u32 (r.b:Int) (r.c:Int))=((mjP r:Nat):Int):=by
 rw[u32_and_nat _ _ h.a h.b,u32_and_nat _ _ h.a h.c,u32_and_nat _ _ h.b h.c,u32_xor_nat _ _ (fy _ h.a) (fy _ h.a),u32_xor_nat _ _ (iR (fy _ h.a) (fy _ h.a)) (fy _ h.b)]; rfl
theorem yO (r:V8) (k x:Nat):t1P r k x=(r.h+s1P r+chP r+k+x)%4294967296:=by unfold t1P s1P chP; omega
theorem AX (r:V8):t2P r=(s0P r+mjP r)%4294967296:=rfl
def ft (w:World):Prop:= ∀j x,kc[j]? =some x->w.cell? ⟨4,j,none⟩=some (eQ x)
def u8W (b:UInt8):Value:= .int .u8 (b.toNat:Int)
structure dZ (w : World) (bs : List UInt8) (t : Nat) (wr : World) : Prop where
 box:wr.heap[w.heap.size]? =some (.cells ((lU bs t).map eQ++List.replicate (64-t) (eQ 0)).toArray 156 (0,0))
 below:Below w.heap.size w wr
theorem dZ.get {w wr:World} {bs:List UInt8} {t j:Nat} (h:dZ w bs t wr) (hj:j<t):wr.cell? ⟨w.heap.size,j,none⟩=some (.int .u32 (((lU bs t).getD j 0:Nat):Int)):=by
 rw[cell_of_row wr _ j _ _ _ h.box];have h1:j<(lU bs t).length:=by rw[gM]; exact hj
 rw[List.getElem?_toArray,List.getElem?_append_left (by simpa using h1),List.getElem?_map,iV h1]; rfl
theorem dZ.free {w wr:World} {bs:List UInt8} {t:Nat} (h:dZ w bs t wr) (j:Nat):wr.frozen? ⟨w.heap.size,j,none⟩=false:=frozen_of_row wr _ j _ _ h.box
theorem dZ.here {w wr:World} {bs:List UInt8} {t:Nat} (h:dZ w bs t wr) (ht:t<64):wr.cell? ⟨w.heap.size,t,none⟩=some (.int .u32 0):=by
 rw[cell_of_row wr _ t _ _ _ h.box,List.getElem?_toArray,List.getElem?_append_right (by simp[gM])];rw[List.length_map,gM,Nat.sub_self,show 64-t=(64-(t+1))+1 by omega,List.replicate_succ]; rfl
theorem dZ.put {w wr:World} {bs:List UInt8} {t x:Nat} (h:dZ w bs t wr) (ht:t<64) (hx:lU bs (t+1)=lU bs t++[x]):dZ w bs (t+1) (wr.setCell ⟨w.heap.size,t,none⟩ (.int .u32 (x:Int))):=by
 refine⟨?_, ?_⟩
 ·rw[heap_setCell_same wr _ t _ _ _ h.box,hx]
  congr 2
  rw[List.setIfInBounds_toArray,List.set_append_right _ _ (by simp[gM])];rw[List.map_append,List.append_assoc]
  congr 2
  rw[List.length_map,gM,Nat.sub_self,show 64-t=(64-(t+1))+1 by omega,List.replicate_succ]
  rfl
 ·exact h.below.trans ⟨rfl,rfl,rfl,by simp[World.setCell],fun k hk=>heap_setCell_other wr _ k _ (by show k≠w.heap.size; omega)⟩
theorem dZ.start (w:World) (bs:List UInt8):dZ w bs 0 (w.alloc (.cells (List.replicate 64 (eQ 0)).toArray 156)):=
 ⟨by rw[heap_alloc_new]; rfl,(Below.refl _ _).alloc (Nat.le_refl _) _⟩
theorem uf (a b c d:UInt8):bits BinOp.or IntKind.u32 (bits BinOp.or IntKind.u32 (bits BinOp.or IntKind.u32 ((a.toNat:Int)%4294967296*16777216%4294967296) ((b.toNat:Int)%4294967296*65536%4294967296)) ((c.toNat:Int)%4294967296*256%4294967296)) ((d.toNat:Int)%4294967296)=((uV a b c d:Nat):Int):=by
 have ha:=a.toNat_lt;have hb:=b.toNat_lt;have hc:=c.toNat_lt;have hd:=d.toNat_lt;rw[show((a.toNat:Int)%4294967296*16777216%4294967296)=((a.toNat*2^24%4294967296:Nat):Int) by omega,show((b.toNat:Int)%4294967296*65536%4294967296)=((b.toNat*2^16%4294967296:Nat):Int) by omega,
  show((c.toNat:Int)%4294967296*256%4294967296)=((c.toNat*2^8%4294967296:Nat):Int) by omega,show((d.toNat:Int)%4294967296)=((d.toNat:Nat):Int) by omega,
  u32_or_nat _ _ (Nat.mod_lt _ (by decide)) (Nat.mod_lt _ (by decide)),u32_or_nat _ _ (gH (Nat.mod_lt _ (by decide)) (Nat.mod_lt _ (by decide))) (Nat.mod_lt _ (by decide)),
  u32_or_nat _ _ (gH (gH (Nat.mod_lt _ (by decide)) (Nat.mod_lt _ (by decide))) (Nat.mod_lt _ (by decide))) (uo _ rfl)]
 rfl
theorem wJ {x:Nat} (hx:x<4294967296):bits BinOp.xor IntKind.u32 (bits BinOp.xor IntKind.u32 ((cU x 15:Nat):Int) ((cU x 13:Nat):Int)) ((x:Int)/1024)=((Ah x:Nat):Int):=by
 rw[show((x:Int)/1024)=((x/2^10:Nat):Int) by simp,u32_xor_nat _ _ (cw _ hx) (cw _ hx),u32_xor_nat _ _ (iR (cw _ hx) (cw _ hx)) (Nat.lt_of_le_of_lt (Nat.div_le_self _ _) hx)]
 rfl
theorem wI {x:Nat} (hx:x<4294967296):bits BinOp.xor IntKind.u32 (bits BinOp.xor IntKind.u32 ((cU x 25:Nat):Int) ((cU x 14:Nat):Int)) ((x:Int)/8)=((Ag x:Nat):Int):=by
 rw[show((x:Int)/8)=((x/2^3:Nat):Int) by simp,u32_xor_nat _ _ (cw _ hx) (cw _ hx),u32_xor_nat _ _ (iR (cw _ hx) (cw _ hx)) (Nat.lt_of_le_of_lt (Nat.div_le_self _ _) hx)]
 rfl
theorem dZ.next {w wr w2:World} {bs:List UInt8} {t:Nat} (h:dZ w bs t wr) (hb:Below wr.heap.size wr w2):dZ w bs t w2:=⟨(hb.block _ (lt_of_block h.box)).trans h.box,h.below.trans (hb.mono h.below.size)⟩
theorem dZ.drew {w wr:World} {bs:List UInt8} {t:Nat} (h:dZ w bs t wr):dZ w bs t wr.drew:=⟨h.box,h.below.trans (Below.refl _ _).drew⟩
theorem zB {bs:List UInt8} {j:Nat} (h:j<bs.length):bs[j]? =some (bs.getD j 0):=by simp[List.getD_eq_getElem?_getD,h]
def yf (v r:V8) (j:Nat):List Nat:=(xq v r).list.take j++v.list.drop j
structure fb (sb : Nat) (v r : V8) (tl : List Value) (ty : TypeId) (W1 wq : World) (j : Nat) : Prop where
 box:wq.heap[sb]? =some (.cells ((yf v r j).map eQ++tl).toArray ty (0,0))
 grown:W1.grownBy wq (some sb)
theorem fb.start {sb:Nat} {v r:V8} {tl:List Value} {ty:TypeId} {W1 wq:World} (h:W1.heap[sb]? =some (.cells (v.list.map eQ++tl).toArray ty (0,0))) (hb:Below W1.heap.size W1 wq):fb sb v r tl ty W1 wq 0:=
 ⟨(hb.block sb (lt_of_block h)).trans h,⟨hb.os,hb.tape,hb.output,hb.size,fun k hk _=>hb.block k hk⟩⟩
theorem fb.keep {sb:Nat} {v r:V8} {tl:List Value} {ty:TypeId} {W1 wq:World} {j:Nat} (h:fb sb v r tl ty W1 wq j) {b:Nat} {o:Obj} (hb:W1.heap[b]? =some o) (hne:sb≠b):wq.heap[b]? =some o:=
 (h.grown.block b (lt_of_block hb) (fun e=>hne (Option.some.inj e).symm)).trans hb
theorem fb.free {sb:Nat} {v r:V8} {tl:List Value} {ty:TypeId} {W1 wq:World} {j:Nat} (h:fb sb v r tl ty W1 wq j) (k:Nat):wq.frozen? ⟨sb,k,none⟩=false:=frozen_of_row wq _ k _ _ h.box
theorem zO (v r:V8) {j:Nat} (h:j<8) (tl:List Value):((yf v r j).map eQ++tl)[j]? =some (eQ (v.list.getD j 0)):=by
 have hc:j=0\/j=1\/j=2\/j=3\/j=4\/j=5\/j=6\/j=7:=by omega
 rcases hc with rfl | rfl | rfl | rfl | rfl | rfl | rfl | rfl<;> rfl
theorem zP (v r:V8) {j:Nat} (h:j<8) (tl:List Value):((yf v r j).map eQ++tl).set j (eQ (lW (v.list.getD j 0) (r.list.getD j 0)))=(yf v r (j+1)).map eQ++tl:=by
 have hc:j=0\/j=1\/j=2\/j=3\/j=4\/j=5\/j=6\/j=7:=by omega
 rcases hc with rfl | rfl | rfl | rfl | rfl | rfl | rfl | rfl<;> rfl
theorem fb.here {sb:Nat} {v r:V8} {tl:List Value} {ty:TypeId} {W1 wq:World} {j:Nat} (h:fb sb v r tl ty W1 wq j) (hj:j<8):wq.cell? ⟨sb,j,none⟩=some (.int .u32 ((v.list.getD j 0:Nat):Int)):=by
 rw[cell_of_row wq _ _ _ _ _ h.box,List.getElem?_toArray,zO v r hj tl]; rfl
theorem fb.put {sb:Nat} {v r:V8} {tl:List Value} {ty:TypeId} {W1 wq:World} {j:Nat} (h:fb sb v r tl ty W1 wq j) (hj:j<8) {x:Value} (hx:x=eQ (lW (v.list.getD j 0) (r.list.getD j 0))):fb sb v r tl ty W1 (wq.setCell ⟨sb,j,none⟩ x) (j+1):=by
 subst hx;refine⟨?_, ?_⟩
 ·rw[heap_setCell_same wq _ _ _ _ _ h.box,List.setIfInBounds_toArray,zP v r hj tl]
 ·have h2:=h.grown;exact⟨h2.os,h2.tape,h2.output,by simpa [World.setCell]using h2.size,fun k hk hne=>(heap_setCell_other wq _ k _ (fun e=>hne (by rw[e]))).trans (h2.block k hk hne)⟩
theorem fb.drew {sb:Nat} {v r:V8} {tl:List Value} {ty:TypeId} {W1 wq:World} {j:Nat} (h:fb sb v r tl ty W1 wq j):fb sb v r tl ty W1 wq.drew j:=
 ⟨h.box,⟨h.grown.os,h.grown.tape,h.grown.output,h.grown.size,h.grown.block⟩⟩
theorem Bq (v:V8) {j:Nat} (h:j<8):([.int .u32 (v.a:Int), .int .u32 (v.b:Int), .int .u32 (v.c:Int), .int .u32 (v.d:Int), .int .u32 (v.e:Int), .int .u32 (v.f:Int), .int .u32 (v.g:Int), .int .u32 (v.h:Int)]:List Value)[j]? =some (.int .u32 ((v.list.getD j 0:Nat):Int)):=by
 have hc:j=0\/j=1\/j=2\/j=3\/j=4\/j=5\/j=6\/j=7:=by omega
 rcases hc with rfl | rfl | rfl | rfl | rfl | rfl | rfl | rfl<;> rfl
theorem xW (r:V8) {j:Nat} (h:j<8) (w:World):(Instr.index 101 (.agg #[.int .u32 (r.a:Int), .int .u32 (r.b:Int), .int .u32 (r.c:Int), .int .u32 (r.d:Int), .int .u32 (r.e:Int), .int .u32 (r.f:Int), .int .u32 (r.g:Int), .int .u32 (r.h:Int)]) (.int .i64 (j:Int))).run Tryz.prog w= .ok (.int .u32 ((r.list.getD j 0:Nat):Int)) w:=by
 have hc:j=0\/j=1\/j=2\/j=3\/j=4\/j=5\/j=6\/j=7:=by omega
 rcases hc with rfl | rfl | rfl | rfl | rfl | rfl | rfl | rfl<;> (show _=_; kernel_rfl)
theorem lC {w:World} {sb:Nat} {v:V8} {tl:List Value} {ty:TypeId} (h:w.heap[sb]? =some (.cells (v.list.map eQ++tl).toArray ty (0,0))):w.rangeAt sb 0 (v.list.map eQ):=by
 intro j x hj;rw[cell_of_row w _ _ _ _ _ h,Nat.zero_add,List.getElem?_toArray,List.getElem?_append_left (List.getElem?_eq_some_iff.1 hj).1];exact hj
theorem iC (sb:Nat) (v:V8) (tl:List Value) (ty:TypeId) (bk o cap:Nat) (bs:List UInt8) (w:World) (hbox:w.heap[sb]? =some (.cells (v.list.map eQ++tl).toArray ty (0,0))) (hv:v.Ok) (hl:bs.length=64) (hcap:64<=cap) (_hcapm:cap<=maxLen)
  (hbs: ∀j b,bs[j]? =some b->w.cell? ⟨bk,o+j,none⟩=some (u8W b)) (hK:ft w) (hKlt:4<w.heap.size):
  Calls Tryz.prog 177 #[.pointer (some ⟨sb,0,none⟩), .slice (some ⟨bk,o,none⟩) 64 cap] w fun e w'=>e= .returned (.tuple #[])/\w'.heap[sb]? =some (.cells ((rI v bs).list.map eQ++tl).toArray ty (0,0))/\w.grownBy w' (some sb):=by
 have HX:=aa hbox;have HS:=aa hbs;have HK:=aa hK;clear hbox hbs hK
 go_enter Tryz.func177,Tryz.ntmps177
 go_wp2_with fail;have HA0:=aa (dZ.start w bs)
 go_loopw [27] (fun i wr=> ∃t:Nat,t<=64/\i= .int .i64 (t:Int)/\dZ w bs t wr) (fun i _=>64-(intOf i).toNat)
 case atStart=>exact⟨0,by omega,rfl,HA0.out⟩
 case round=>
  obtain⟨t,ht,rfl,hs⟩:=hrel;have HA:=aa hs;have hz:=hs.below.size;clear hs
  by_cases h16:t<16
  ·obtain⟨b0,hb0⟩: ∃b,b=bs.getD (4*t) 0:=⟨_,rfl⟩;obtain⟨b1,hb1⟩: ∃b,b=bs.getD (4*t+1) 0:=⟨_,rfl⟩;obtain⟨b2,hb2⟩: ∃b,b=bs.getD (4*t+2) 0:=⟨_,rfl⟩;obtain⟨b3,hb3⟩: ∃b,b=bs.getD (4*t+3) 0:=⟨_,rfl⟩;have q0:=HS.out (4*t) (bs.getD (4*t) 0) (zB (by omega));have q1:=HS.out (4*t+1) (bs.getD (4*t+1) 0) (zB (by omega));have q2:=HS.out (4*t+2) (bs.getD (4*t+2) 0) (zB (by omega))
   have q3:=HS.out (4*t+3) (bs.getD (4*t+3) 0) (zB (by omega));have HW:=aa (show sA bs t=uV b0 b1 b2 b3 by rw[hb0,hb1,hb2,hb3]; rfl);rw[<-hb0]at q0;rw[<-hb1]at q1;rw[<-hb2]at q2;rw[<-hb3]at q3;have hbk:=block_lt_of_cell q0;simp only[u8W]at q0 q1 q2 q3;have c0:=(HA.out.below.cell (p:=⟨bk,o+4*t,none⟩) hbk).trans q0;have c1:=(HA.out.below.cell (p:=⟨bk,o+(4*t+1),none⟩) hbk).trans q1
   rw[<-Nat.add_assoc]at c1;have c2:=(HA.out.below.cell (p:=⟨bk,o+(4*t+2),none⟩) hbk).trans q2;rw[<-Nat.add_assoc]at c2;have c3:=(HA.out.below.cell (p:=⟨bk,o+(4*t+3),none⟩) hbk).trans q3;rw[<-Nat.add_assoc]at c3;have ch:=HA.out.here (by omega);have cf:=HA.out.free t;clear q0 q1 q2 q3 hb0 hb1 hb2 hb3;go_wp2_with fail;refine al [some 24,none] (by kernel_rfl) (by kernel_rfl) (by kernel_rfl) ?_
   simp only[bc,List.take_succ_cons,List.take_zero,List.drop_succ_cons,List.drop_zero]
   repeat (first | (refine aw rfl ?_; simp only[Act.put,aG,aH,aI]) | (refine aB rfl (fun K hK=> ?_); go_simp; refine hK _ ?_; clear hK K))
   refine aA ?_;refine bg rfl (fun K hK=> ?_);go_wp2_with fail
   go_roundw
   case rel=>
    rw[uf,<-HW.out];exact⟨t+1,by omega,by simp,(HA.out.put (by omega) (Ao bs h16)).drew⟩
   case measure=>simp[intOf]; omega
  ·by_cases h64:t<64
   ·have h17:16<=t:=by omega
    obtain⟨j2,hj2⟩: ∃j,j=t-2:=⟨_,rfl⟩;obtain⟨j15,hj15⟩: ∃j,j=t-15:=⟨_,rfl⟩;obtain⟨j7,hj7⟩: ∃j,j=t-7:=⟨_,rfl⟩;obtain⟨j16,hj16⟩: ∃j,j=t-16:=⟨_,rfl⟩;have c2:=HA.out.get (j:=j2) (by omega);have c15:=HA.out.get (j:=j15) (by omega);have c7:=HA.out.get (j:=j7) (by omega);have c16:=HA.out.get (j:=j16) (by omega);have e2:IntKind.i64.wrap ((t:Int)-2)=(j2:Int):=by rw[IntKind.wrap_i64]; omega
    have e15:IntKind.i64.wrap ((t:Int)-15)=(j15:Int):=by rw[IntKind.wrap_i64]; omega
    have e7:IntKind.i64.wrap ((t:Int)-7)=(j7:Int):=by rw[IntKind.wrap_i64]; omega
    have e16:IntKind.i64.wrap ((t:Int)-16)=(j16:Int):=by rw[IntKind.wrap_i64]; omega
    have l2:(j2:Int)<64:=by omega
    have l15:(j15:Int)<64:=by omega
    have l7:(j7:Int)<64:=by omega
    have l16:(j16:Int)<64:=by omega
    have ch:=HA.out.here (by omega);have cf:=HA.out.free t;have HJ:=aa (show j2=t-2/\j15=t-15/\j7=t-7/\j16=t-16 from⟨hj2,hj15,hj7,hj16⟩);clear hj2 hj15 hj7 hj16;obtain⟨x2,hx2⟩: ∃x,x=(lU bs t).getD j2 0:=⟨_,rfl⟩;obtain⟨x15,hx15⟩: ∃x,x=(lU bs t).getD j15 0:=⟨_,rfl⟩;obtain⟨x7,hx7⟩: ∃x,x=(lU bs t).getD j7 0:=⟨_,rfl⟩;obtain⟨x16,hx16⟩: ∃x,x=(lU bs t).getD j16 0:=⟨_,rfl⟩
    rw[<-hx2]at c2;rw[<-hx15]at c15;rw[<-hx7]at c7;rw[<-hx16]at c16;have o2:x2<4294967296:=by rw[hx2]; exact(yU bs t).get j2
    have o15:x15<4294967296:=by rw[hx15]; exact(yU bs t).get j15
    have HN:=aa (show lq (lU bs t)=(((Ah x2+x7)%4294967296+Ag x15)%4294967296+x16)%4294967296 by
     unfold lq;rw[gM,hx2,hx15,hx7,hx16,HJ.out.1,HJ.out.2.1,HJ.out.2.2.1,HJ.out.2.2.2])
    clear hx2 hx15 hx7 hx16;go_wp2_with fail;refine al [some 10] (by kernel_rfl) (by kernel_rfl) (by kernel_rfl) ?_;simp only[bc,List.take_succ_cons,List.take_zero]
    repeat (first | (refine aw rfl ?_; simp only[Act.put,aG,aH,aI]) | (refine aB rfl (fun K hK=> ?_); go_simp; refine hK _ ?_; clear hK K))
    refine aA ?_;go_wp2_with fail;refine(wg _ _ o2).mono ?_;rintro e W1 ⟨rfl,rfl⟩;go_wp2_with fail;refine(vZ _ _ o2).mono ?_;rintro e W1 ⟨rfl,rfl⟩;go_wp2_with fail;refine(wk _ _ o15).mono ?_;rintro e W1 ⟨rfl,rfl⟩;go_wp2_with fail;refine(we _ _ o15).mono ?_;rintro e W1 ⟨rfl,rfl⟩;rw[wJ o2];go_wp2_with fail;refine al [some 15,none] (by kernel_rfl) (by kernel_rfl) (by kernel_rfl) ?_
    simp only[bc,List.take_succ_cons,List.take_zero,List.drop_succ_cons,List.drop_zero]
    repeat (first | (refine aw rfl ?_; simp only[Act.put,aG,aH,aI]) | (refine aB rfl (fun K hK=> ?_); go_simp; refine hK _ ?_; clear hK K))
    refine aA ?_;refine bg rfl (fun K hK=> ?_);go_wp2_with fail
    go_roundw
    case rel=>
     rw[wI o15];have HV:((((Ah x2:Nat):Int)+(x7:Int)+((Ag x15:Nat):Int)+(x16:Int))%4294967296)=((lq (lU bs t):Nat):Int):=by rw[HN.out]; omega
     rw[HV];exact⟨t+1,by omega,by simp,(HA.out.put (by omega) (yT bs h17)).drew.drew⟩
    case measure=>simp[intOf]; omega
   ·obtain rfl:t=64:=by omega
    have HB1:=aa ((HX.out▸HA.out.below.block sb (lt_of_block HX.out):wr.heap[sb]? =some (.cells (v.list.map eQ++tl).toArray ty (0,0))));have HR:=aa (lC HB1.out);go_wp2_with (refine wpList_load_mid rfl 101 _ rfl sb 0 rfl [.int .u32 (v.a:Int), .int .u32 (v.b:Int), .int .u32 (v.c:Int), .int .u32 (v.d:Int), .int .u32 (v.e:Int), .int .u32 (v.f:Int), .int .u32 (v.g:Int), .int .u32 (v.h:Int)] _ HR.out Tryz.underlying101 rfl (by kernel_rfl) ?_)
    obtain⟨W1,hW1⟩: ∃W1,W1=wr.alloc (.cells #[.int .u32 (v.a:Int), .int .u32 (v.b:Int), .int .u32 (v.c:Int), .int .u32 (v.d:Int), .int .u32 (v.e:Int), .int .u32 (v.f:Int), .int .u32 (v.g:Int), .int .u32 (v.h:Int)] 101):=⟨_,rfl⟩;rw[<-hW1];obtain⟨vb,hvb⟩: ∃vb,wr.heap.size=vb:=⟨_,rfl⟩;have HVB:=aa (show W1.heap[vb]? =some (.cells #[.int .u32 (v.a:Int), .int .u32 (v.b:Int), .int .u32 (v.c:Int), .int .u32 (v.d:Int), .int .u32 (v.e:Int), .int .u32 (v.f:Int), .int .u32 (v.g:Int), .int .u32 (v.h:Int)] 101 (0,0)) by rw[hW1,<-hvb]; exact heap_alloc_new _ _)
    have HBW:=aa (show Below wr.heap.size wr W1 by rw[hW1]; exact(Below.refl _ _).alloc (Nat.le_refl _) _);have HA1:=aa (HA.out.next HBW.out);have HB2:=aa ((HBW.out.block sb (lt_of_block HB1.out)).trans HB1.out);rw[hvb];have HVL:=aa (show sb<vb by rw[<-hvb]; exact lt_of_block HB1.out);clear hW1 hvb;have HOK:=aa (yr bs (v:=v) 0 hv);have v0:W1.cell? ⟨vb,0,none⟩=some (.int .u32 (v.a:Int)):=(cell_of_row W1 _ _ _ _ _ HVB.out).trans rfl
    have v1:W1.cell? ⟨vb,1,none⟩=some (.int .u32 (v.b:Int)):=(cell_of_row W1 _ _ _ _ _ HVB.out).trans rfl;have v2:W1.cell? ⟨vb,2,none⟩=some (.int .u32 (v.c:Int)):=(cell_of_row W1 _ _ _ _ _ HVB.out).trans rfl;have v3:W1.cell? ⟨vb,3,none⟩=some (.int .u32 (v.d:Int)):=(cell_of_row W1 _ _ _ _ _ HVB.out).trans rfl;have v4:W1.cell? ⟨vb,4,none⟩=some (.int .u32 (v.e:Int)):=(cell_of_row W1 _ _ _ _ _ HVB.out).trans rfl
    have v5:W1.cell? ⟨vb,5,none⟩=some (.int .u32 (v.f:Int)):=(cell_of_row W1 _ _ _ _ _ HVB.out).trans rfl;have v6:W1.cell? ⟨vb,6,none⟩=some (.int .u32 (v.g:Int)):=(cell_of_row W1 _ _ _ _ _ HVB.out).trans rfl;have v7:W1.cell? ⟨vb,7,none⟩=some (.int .u32 (v.h:Int)):=(cell_of_row W1 _ _ _ _ _ HVB.out).trans rfl;refine al [some 24] (by kernel_rfl) (by kernel_rfl) (by kernel_rfl) ?_
    simp only[bc,List.take_succ_cons,List.take_zero]
    repeat (first | (refine aw rfl ?_; simp only[Act.put,aG,aH,aI]) | (refine aB rfl (fun K hK=> ?_); go_simp; refine hK _ ?_; clear hK K))
    refine aA ?_;go_wp2_with fail
    go_loopw [12,13,14,15,16,17,18,19,123] (fun sa sb2 sc sd se sf sg sh i wq=> ∃(t:Nat) (r:V8),t<=64/\i= .int .i64 (t:Int)/\r=rTo bs v t/\sa= .int .u32 (r.a:Int)/\sb2= .int .u32 (r.b:Int)/\sc= .int .u32 (r.c:Int)/\sd= .int .u32 (r.d:Int)/\se= .int .u32 (r.e:Int)/\sf= .int .u32 (r.f:Int)/\sg= .int .u32 (r.g:Int)/\sh= .int .u32 (r.h:Int)/\Below W1.heap.size W1 wq) (fun _ _ _ _ _ _ _ _ i _=>64-(intOf i).toNat)
    case atStart=>exact⟨0,v,by omega,rfl,rfl,rfl,rfl,rfl,rfl,rfl,rfl,rfl,rfl,(Below.refl _ _).drew⟩
    case round=>
     obtain⟨t,r,ht2,rfl,hr,rfl,rfl,rfl,rfl,rfl,rfl,rfl,rfl,hbq⟩:=hrel;have HRT:=aa hr;have HBQ:=aa hbq;have HRO:=aa (show r.Ok by rw[hr]; exact yr bs t hv);clear hr hbq v0 v1 v2 v3 v4 v5 v6 v7
     by_cases h65:t<64
     ·obtain⟨k,hk⟩: ∃k,k=kc.getD t 0:=⟨_,rfl⟩;obtain⟨x,hx⟩: ∃x,x=(wsP bs).getD t 0:=⟨_,rfl⟩;have ck:=HK.out t k (by rw[hk]; exact iV (by rw[tj]; exact h65));have ck2:=(HBQ.out.cell (p:=⟨4,t,none⟩) (by have:=HA1.out.below.size; show 4<_; omega)).trans ((HA1.out.below.cell (p:=⟨4,t,none⟩) hKlt).trans ck);have cx:=(HBQ.out.cell (p:=⟨w.heap.size,t,none⟩) (lt_of_block HA1.out.box)).trans (HA1.out.get h65)
      rw[uU,<-hx]at cx;have HKX:=aa (And.intro hk hx);clear ck hk hx;unfold eQ at ck2;go_wp2_with fail;refine(wl _ _ HRO.out.e).mono ?_;rintro e W2 ⟨rfl,rfl⟩;go_wp2_with fail;refine(wj _ _ HRO.out.e).mono ?_;rintro e W2 ⟨rfl,rfl⟩;go_wp2_with fail;refine(yy _ _ HRO.out.e).mono ?_;rintro e W2 ⟨rfl,rfl⟩;go_wp2_with fail;refine(wm _ _ HRO.out.a).mono ?_;rintro e W2 ⟨rfl,rfl⟩
      go_wp2_with fail;refine(wh _ _ HRO.out.a).mono ?_;rintro e W2 ⟨rfl,rfl⟩;go_wp2_with fail;refine(vY _ _ HRO.out.a).mono ?_;rintro e W2 ⟨rfl,rfl⟩;go_wp2_with fail;refine al [some 21] (by kernel_rfl) (by kernel_rfl) (by kernel_rfl) ?_;simp only[bc,List.take_succ_cons,List.take_zero]
      repeat (first | (refine aw rfl ?_; simp only[Act.put,aG,aH,aI]) | (refine aB rfl (fun K hK=> ?_); go_simp; refine hK _ ?_; clear hK K))
      refine aA ?_;go_wp2_with fail
      go_roundw
      case rel=>
       rw[zZ HRO.out,zr HRO.out,zY HRO.out,zQ HRO.out];refine⟨t+1,vU r k x,by omega,by simp, ?_, ?_,rfl,rfl,rfl, ?_,rfl,rfl,rfl, ?_⟩
       ·rw[yt bs v h65,HRT.out,HKX.out.1,HKX.out.2]
       ·show _=Value.int .u32 (((t1P r k x+t2P r)%4294967296:Nat):Int)
        exact congrArg (Value.int .u32) (by rw[yO,AX]; omega)
       ·show _=Value.int .u32 (((r.d+t1P r k x)%4294967296:Nat):Int)
        exact congrArg (Value.int .u32) (by rw[yO]; omega)
       ·exact HBQ.out.trans (Below.refl _ _).drew
      case measure=>simp[intOf]; omega
     ·obtain rfl:t=64:=by omega
      go_wp2_with (refine wpList_build rfl 101 _ rfl (by kernel_rfl) ?_);rw[show(Tryz.prog.built 101 [(0, .int .u32 (r.a:Int)),(1, .int .u32 (r.b:Int)),(2, .int .u32 (r.c:Int)),(3, .int .u32 (r.d:Int)),(4, .int .u32 (r.e:Int)),(5, .int .u32 (r.f:Int)),(6, .int .u32 (r.g:Int)),(7, .int .u32 (r.h:Int))]).getD #[]= #[.int .u32 (r.a:Int), .int .u32 (r.b:Int), .int .u32 (r.c:Int), .int .u32 (r.d:Int), .int .u32 (r.e:Int), .int .u32 (r.f:Int), .int .u32 (r.g:Int), .int .u32 (r.h:Int)] by kernel_rfl]
      have HM0:=aa (fb.start (r:=r) HB2.out HBQ.out)
      go_loopw [197] (fun i wq=> ∃j:Nat,j<=8/\i= .int .i64 (j:Int)/\fb sb v r tl ty W1 wq j) (fun i _=>8-(intOf i).toNat)
      case atStart=>exact⟨0,by omega,rfl,HM0.out⟩
      case round=>
       obtain⟨j,hj,rfl,hm⟩:=hrel;have HM:=aa hm;clear hm
       by_cases h8:j<8
       ·have cs:=HM.out.here h8;have cf:=HM.out.free j;have hI: ∀w,(Instr.index 101 (.agg #[.int .u32 (r.a:Int), .int .u32 (r.b:Int), .int .u32 (r.c:Int), .int .u32 (r.d:Int), .int .u32 (r.e:Int), .int .u32 (r.f:Int), .int .u32 (r.g:Int), .int .u32 (r.h:Int)]) (.int .i64 (j:Int))).run Tryz.prog w= .ok (.int .u32 ((r.list.getD j 0:Nat):Int)) w:=xW r h8;have cv:wr.cell? ⟨vb,j,none⟩=some (.int .u32 ((v.list.getD j 0:Nat):Int)):=(cell_of_row wr _ _ _ _ _ (HM.out.keep HVB.out (by have:=HVL.out; omega))).trans (by rw[List.getElem?_toArray]; exact Bq v h8)
        obtain⟨x,hx⟩: ∃x,x=r.list.getD j 0:=⟨_,rfl⟩;obtain⟨y,hy⟩: ∃y,y=v.list.getD j 0:=⟨_,rfl⟩;rw[<-hx]at hI;rw[<-hy]at cv cs;have HXY:=aa (And.intro hx hy);clear hx hy;have h8i:(j:Int)<8:=by omega
        go_wp2_with fail;refine al [some 10,none] (by kernel_rfl) (by kernel_rfl) (by kernel_rfl) ?_;simp only[bc,List.take_succ_cons,List.take_zero,List.drop_succ_cons,List.drop_zero]
        repeat (first | (refine aw rfl ?_; simp only[Act.put,aG,aH,aI]) | (refine aB rfl (fun K hK=> ?_); go_simp; refine hK _ ?_; clear hK K))
        refine aA ?_;refine bg rfl (fun K hK=> ?_);go_wp2_with fail
        go_roundw
        case rel=>
         refine⟨j+1,by omega,by simp, ?_⟩;exact(HM.out.put h8 (by rw[<-HXY.out.1,<-HXY.out.2]; unfold eQ lW; simp)).drew
        case measure=>simp[intOf]; omega
       ·obtain rfl:j=8:=by omega
        go_wp2_with fail
        go_end0
        refine⟨rfl, ?_, ?_⟩
        ·rw[yp,<-HRT.out];have:=HM.out.box;rw[show yf v r 8=(xq v r).list from rfl]at this;exact this
        ·have h1:=HA1.out.below;have h2:=HM.out.grown;exact⟨h2.os.trans h1.os,h2.tape.trans h1.tape,h2.output.trans h1.output,Nat.le_trans h1.size h2.size,fun k hk hn=>(h2.block k (Nat.lt_of_lt_of_le hk h1.size) hn).trans (h1.block k hk)⟩
end Go.Proofs.YtnjkpcalgoefhaaGreatDoor
namespace Go.Proofs.YtnjkpcalgoefhaaGreatDoor
open Go.RowKit
structure cB (P : Program) (t e : TypeId) (sz bytes : Nat) : Prop where
 ht:P.underlying t=some (.slice e)
 hi: ∃i z,P.info? e=some i/\i.zero=some z/\i.size=sz/\i.bytes=bytes/\z.cells.size=sz
 pos:0<sz
 small:bytes<=128
theorem cB.mk' {P:Program} {t e:TypeId} {sz bytes:Nat} {z:Value} (ht:P.underlying t=some (.slice e)) (hi:(P.info? e).map (fun i=>(i.zero,i.size,i.bytes))=some (some z,sz,bytes)) (hz:z.cells.size=sz) (hp:0<sz) (hb:bytes<=128):cB P t e sz bytes:=by
 obtain⟨i,h1,h2,h3,h4⟩:=info_parts hi;exact⟨ht,⟨i,z,h1,h2,h3,h4,hz⟩,hp,hb⟩
theorem kP {P:Program} (w:World) (base:Nat) (t ty e:TypeId) (i:TypeInfo) (z:Value) (size bytes:Nat) (ht:P.underlying t=some (.slice e)) (hi:P.info? e=some i) (hz:i.zero=some z)
  (hsize:i.size=size) (hby:i.bytes=bytes) (hzs:z.cells.size=size)
  (v:Value) (n:Nat) (xs:List Value) (hown:w.ownsRow base e size v n xs)
  (a:Addr) (m c:Nat) (news:List Value) (hl:news.length=m*size) (hm0:0<m) (hnews: ∀j u,news[j]? =some u->w.cell? (a.add j)=some u) (h1: ∀u∈news,u.oneCell'=true)
  (h63:n+m<=maxLen) (hbytes:(n+m)*bytes<=140737488355328) {v':Value} {w':World}
  (hrun:(Builtin.append_ #[t,t] ty #[v, .slice (some a) m c]).run P w= .ok v' w'):v'.ownBlock=v.ownBlock\/v'.ownBlock=some w.heap.size:=by
 subst hsize;subst hby
 have hsmall:n+m<=9223372036854775807:=by simp only[maxLen]at h63; omega
 rcases hown.2 with⟨rfl,rfl⟩ | ⟨g,cap,cur,rfl,hbg,hg,hnc,hcm,hcs,htake⟩
 ·have hx:xs=[]:=List.eq_nil_of_length_eq_zero (by simpa using hown.1);subst hx;have hr:=run_append_nil (P:=P) w t ty e i z ht hi hz a m c news hl hnews (by omega) (by omega) (by have hb:=hbytes; simp only[Nat.zero_add]at hb; omega);rw[hr]at hrun
  cases hrun
  exact .inr rfl
 ·by_cases hroom:n+m<=cap
  ·have hfit:n*i.size+news.length<=cur.size:=by rw[hl,hcs,<-Nat.add_mul]; exact Nat.mul_le_mul_right _ hroom
   have hr:=run_append_room (P:=P) w t ty e i ht hi g n cap cur hg a m c news hl hnews h1 hroom hfit;rw[hr]at hrun
   cases hrun
   exact .inl rfl
  ·have holds: ∀j u,xs[j]? =some u->w.cell? ((⟨g,0,none⟩:Addr).add j)=some u:=hown.cells (g:=g) rfl;have hr:=run_append_grow (P:=P) w t ty e i z ht hi hz ⟨g,0,none⟩ n cap xs hown.1 holds a m c news hl hnews (by omega) (by omega) (growslice_fits (by omega) hbytes);rw[hr]at hrun
   cases hrun
   exact .inr rfl
theorem bJ {P:Program} {ops:Array Oper} {rest:List Oper} {o:Oper} {a:Act} {Q:Exit->Act->World->Prop} {t e:TypeId} {sz bytes:Nat} (T:cB P t e sz bytes) (hgd:o.guard=none) (s x:Operand)
  (ho:o.op= .call {callee:= .builtin .append,args:= #[s,x],argTypes:= #[t,t]}) (base:Nat) (v:Value) (n:Nat) (xs:List Value) (hs:a.eval s=v) (w0:World) (news:List Value) (e2:TypeId)
  (hx:a.eval x= .slice (some ⟨w0.heap.size,0,none⟩) 1 1) (hl:news.length=sz) (h1: ∀u∈news,u.oneCell'=true) (hown:w0.ownsRow base e sz v n xs) (hn:n<1099511627775) (hbase:base<=w0.heap.size)
  (h: ∀v' w',w'.ownsRow base e sz v' (n+1) (xs++news)->w0.grownBy w' v.ownBlock->v'≠ .slice none 0 0->(∀k,v'.ownBlock=some k->v.ownBlock=some k\/w0.heap.size<=k)->wpList P ops Q rest (a.put o.dst v') w'):wpList P ops Q (o::rest) a (w0.alloc (.cells news.toArray e2)):=by
 obtain⟨ht,⟨i,z,h11,h12,h13,h14,h15⟩,hpos,hsm⟩:=T;have hnews: ∀(j:Nat) u,news[j]? =some u->(w0.alloc (.cells news.toArray e2)).cell? ((⟨w0.heap.size,0,none⟩:Addr).add j)=some u:=by
  intro j u hj;have hadd:(⟨w0.heap.size,0,none⟩:Addr).add j=⟨w0.heap.size,j,none⟩:=by unfold Addr.add; split<;> simp_all
  rw[hadd];have hh:=heap_alloc_new w0 (.cells news.toArray e2);simp only[World.cell?,hh];simp[hj]
 have h63:n+1<=maxLen:=by unfold maxLen; omega
 have hby:(n+1)*bytes<=140737488355328:=by
  have:(n+1)*bytes<=1099511627775*128:=Nat.mul_le_mul (by omega) hsm;omega
 have hl1:news.length=1*sz:=by rw[hl,Nat.one_mul]
 obtain⟨v',w',hr,h2,hg,hv⟩:=run_append_own (P:=P) (w0.alloc (.cells news.toArray e2)) base t o.type e i z sz bytes ht h11 h12 h13 h14 h15 hpos v n xs (hown.alloc _) ⟨w0.heap.size,0,none⟩ 1 1 news hl1 hnews h1 h63 hby (by simp; omega);have hpl:=kP (P:=P) (w0.alloc (.cells news.toArray e2)) base t o.type e i z sz bytes ht h11 h12 h13 h14 h15 v n xs (hown.alloc _) ⟨w0.heap.size,0,none⟩ 1 1 news hl1 (by omega) hnews h1 h63 hby hr
 refine wpList_plain hgd fun K hK=> ?_
 unfold Oper.wp execOp;simp only[ho,resolve,invoke,builtin,Sem.run_bind,Sem.run_pure,Result.andThen_ok,List.map_toArray,List.map_cons,List.map_nil,hs,hx,hr];refine hK _ _ (h v' w' h2 ⟨hg.os,hg.tape,hg.output,by have:=hg.size; simp at this; omega,fun k hk hne=> ?_⟩ (fun e=>by have:=(hv.1 e).2; omega) ?_)
 ·rw[hg.block k (by simp; omega) hne];exact Below.heap_alloc _ _ _ hk
 ·intro k hk
  rcases hpl with hp | hp
  ·left; rw[<-hp]; exact hk
  ·right; rw[hp]at hk; cases hk; simp
theorem eR {P:Program} {ops:Array Oper} {rest:List Oper} {o:Oper} {a:Act} {Q:Exit->Act->World->Prop} {t e:TypeId} {sz bytes:Nat} (T:cB P t e sz bytes) (hgd:o.guard=none) (s x:Operand)
  (ho:o.op= .call {callee:= .builtin .append,args:= #[s,x],argTypes:= #[t,t]}) (base:Nat) (v:Value) (n:Nat) (xs:List Value) (hs:a.eval s=v) (w0:World) (news:List Value) (e2:TypeId)
  (hx:a.eval x= .slice (some ⟨w0.heap.size,0,none⟩) 1 1) (hl:news.length=sz) (h1: ∀u∈news,u.oneCell'=true) (hown:w0.ownsRow base e sz v n xs) (hn:n<1099511627775) (hbase:base<=w0.heap.size)
  (h: ∀v' w',w'.ownsRow base e sz v' (n+1) (xs++news)->w0.grownBy w' v.ownBlock->v'≠ .slice none 0 0->wpList P ops Q rest (a.put o.dst v') w'):wpList P ops Q (o::rest) a (w0.alloc (.cells news.toArray e2)):=
 bJ T hgd s x ho base v n xs hs w0 news e2 hx hl h1 hown hn hbase fun v' w' h2 h3 h4 _=>h v' w' h2 h3 h4
theorem ba {w:World} {base:Nat} {e:TypeId} {sz:Nat} {v:Value} {n:Nat} {xs:List Value} (h:w.ownsRow base e sz v n xs):aD (fun k=>base<=k/\v.ownBlock=some k) w sz v n xs:=by
 obtain⟨hl,h2⟩:=h
 rcases h2 with⟨rfl,rfl⟩ | ⟨g,cap,cur,rfl,hg,hh,hn,hcap,hsz,htake⟩
 ·exact⟨hl,none,0,rfl,Nat.le_refl _,by unfold maxLen; omega, .inl rfl⟩
 ·refine⟨hl,_,cap,rfl,hn,hcap, .inr ⟨g,0,rfl,⟨hg,rfl⟩,fun j u hj=> ?_⟩⟩;rw[Nat.zero_add,cell_of_row w g j cur e (0,0) hh];rw[<-htake,List.getElem?_take]at hj
  split at hj
  ·simpa using hj
  ·cases hj
theorem aD.weak {S T:Nat->Prop} {w:World} {sz:Nat} {v:Value} {n:Nat} {cells:List Value} (h:aD S w sz v n cells) (hs: ∀k,S k->T k):aD T w sz v n cells:=by
 obtain⟨hl,a,cap,hv,hn,hm,h0⟩:=h;refine⟨hl,a,cap,hv,hn,hm, ?_⟩
 rcases h0 with h0 | ⟨b,o,ha,hb,hc⟩
 ·exact .inl h0
 ·exact .inr ⟨b,o,ha,hs b hb,hc⟩
theorem aZ {B:Nat} {w0 w w':World} {base:Nat} {e:TypeId} {sz:Nat} {v:Value} {n:Nat} {xs:List Value} (hb:Below B w0 w) (ho:w.ownsRow base e sz v n xs) (hg:w.grownBy w' v.ownBlock) (h1:B<=base) (h2:B<=w.heap.size):Below B w0 w':=
 hb.grown hg h2 (fun k hk=>by have:=(ho.lt k hk).1; omega)
theorem aj {w:World} {base:Nat} {e:TypeId} {sz:Nat} {v:Value} {n:Nat} {xs:List Value} (h:w.ownsRow base e sz v n xs): ∃a cap,v= .slice a n cap/\n<=cap/\cap<=maxLen:=by
 obtain⟨_,h2⟩:=h
 rcases h2 with⟨rfl,rfl⟩ | ⟨g,cap,cur,rfl,hg,hh,hn,hcap,hsz,htake⟩
 ·exact⟨_,_,rfl,Nat.le_refl _,by unfold maxLen; omega⟩
 ·exact⟨_,_,rfl,hn,hcap⟩
theorem Tryz.appStrings :cB Tryz.prog 78 9 1 16:=cB.mk' (z:= .string ByteArray.empty) Tryz.underlying78 (by kernel_rfl) rfl (by decide) (by decide)
def bb {α:Type} (R:List Value->α->Prop):List Value->List α->Prop
 | cells,[]=>cells=[]
 | cells,x::xs=> ∃c rest,cells=c++rest/\R c x/\bb R rest xs
section
variable {α : Type} {R R' : List Value → α → Prop} {sz : Nat}
theorem bb.mono : ∀ {xs:List α} {cells:List Value},(∀c x,x∈xs->R c x->R' c x)->bb R cells xs->bb R' cells xs
 | [],_,_,h=>h
 | x::xs,cells,hm,h=>by
  obtain⟨c,rest,rfl,hc,hr⟩:=h;exact⟨c,rest,rfl,hm c x (by simp) hc,bb.mono (fun c y hy=>hm c y (by simp[hy])) hr⟩
theorem bb.snoc : ∀ {xs:List α} {cells c:List Value} {x:α},bb R cells xs->R c x->bb R (cells++c) (xs++[x])
 | [],cells,c,x,h,hc=>by
  have:cells=[]:=h;subst this;exact⟨c,[],by simp,hc,rfl⟩
 | y::xs,cells,c,x,h,hc=>by
  obtain⟨d,rest,rfl,hd,hr⟩:=h;exact⟨d,rest++c,by simp,hd,bb.snoc hr hc⟩
theorem bb.len (hs: ∀c x,R c x->c.length=sz): ∀ {xs:List α} {cells:List Value},bb R cells xs->cells.length=xs.length*sz
 | [],cells,h=>by have:cells=[]:=h; subst this; simp
 | x::xs,cells,h=>by
  obtain⟨c,rest,rfl,hc,hr⟩:=h;rw[List.length_append,hs c x hc,bb.len hs hr,List.length_cons,Nat.add_mul]; omega
theorem bb.get (hs: ∀c x,R c x->c.length=sz): ∀ {xs:List α} {cells:List Value} {i:Nat} {x:α},bb R cells xs->xs[i]? =some x-> ∃c,R c x/\ ∀j,j<sz->cells[i*sz+j]? =c[j]?
 | [],_,i,_,_,hi=>by simp at hi
 | y::xs,cells,0,x,h,hi=>by
  obtain⟨c,rest,rfl,hc,hr⟩:=h;simp at hi; subst hi;refine⟨c,hc,fun j hj=> ?_⟩;rw[Nat.zero_mul,Nat.zero_add,List.getElem?_append_left (by rw[hs c y hc]; exact hj)]
 | y::xs,cells,i+1,x,h,hi=>by
  obtain⟨c,rest,rfl,hc,hr⟩:=h;obtain⟨d,hd,hj⟩:=bb.get hs hr (i:=i) (x:=x) (by simpa using hi);refine⟨d,hd,fun j hjs=> ?_⟩;have hl:=hs c y hc;rw[List.getElem?_append_right (by rw[hl,Nat.add_mul]; omega),hl,<-hj j hjs]
  congr 1
  rw[Nat.add_mul]; omega
theorem bb.drop (hs: ∀c x,R c x->c.length=sz): ∀ {xs:List α} {cells:List Value} (i:Nat),bb R cells xs->i<=xs.length->bb R (cells.drop (i*sz)) (xs.drop i)
 | _,_,0,h,_=>by simpa using h
 | [],_,i+1,_,hi=>by simp at hi
 | y::xs,cells,i+1,h,hi=>by
  obtain⟨c,rest,rfl,hc,hr⟩:=h;have:=bb.drop hs i hr (by simpa using hi);rw[List.drop_succ_cons,Nat.add_mul,Nat.one_mul,Nat.add_comm,List.drop_append,hs c y hc];simp only[Nat.add_sub_cancel_left];rw[List.drop_of_length_le (by rw[hs c y hc]; omega)];exact this
end
def aP {α:Type} (S:Nat->Prop) (w:World) (sz:Nat) (R:List Value->α->Prop) (v:Value) (xs:List α):Prop:=
 ∃cells,aD S w sz v xs.length cells/\bb R cells xs
section
variable {α : Type} {S T : Nat → Prop} {w w' : World} {sz : Nat} {R R' : List Value → α → Prop} {v : Value} {xs : List α}
theorem aP.shape (h:aP S w sz R v xs) (hs: ∀c x,R c x->c.length=sz):
  ∃a cap,v= .slice a xs.length cap/\xs.length<=cap/\cap<=maxLen/\ ∀(k:Nat) x,xs[k]? =some x-> ∃b o c,a=some ⟨b,o,none⟩/\S b/\R c x/\c.length=sz/\ ∀j,j<sz->w.cell? ⟨b,o+(k*sz+j),none⟩=c[j]? :=by
 obtain⟨cells,⟨hl,a,cap,hv,hn,hm,h0⟩,hr⟩:=h;refine⟨a,cap,hv,hn,hm,fun k x hk=> ?_⟩
 rcases h0 with h0 | ⟨b,o,ha,hb,hc⟩
 ·simp[List.eq_nil_of_length_eq_zero h0]at hk
 ·obtain⟨c,hcx,hj⟩:=hr.get hs hk;refine⟨b,o,c,ha,hb,hcx,hs c x hcx,fun j hjs=> ?_⟩;have hlt:j<c.length:=by rw[hs c x hcx]; exact hjs
  rw[List.getElem?_eq_getElem hlt];exact hc _ _ (by rw[hj j hjs,List.getElem?_eq_getElem hlt])
theorem aP.same (h:aP S w sz R v xs) (hs:ew S w w') (hR: ∀c x,x∈xs->R c x->R' c x):aP S w' sz R' v xs:=by
 obtain⟨cells,h1,h2⟩:=h;exact⟨cells,h1.same hs,h2.mono hR⟩
theorem aP.below (h:aP S w sz R v xs) (hsz:0<sz) (hb:Below w.heap.size w w') (hR: ∀c x,x∈xs->R c x->R' c x):aP S w' sz R' v xs:=by
 obtain⟨cells,h1,h2⟩:=h;exact⟨cells,h1.below hsz hb,h2.mono hR⟩
theorem aP.mono (h:aP S w sz R v xs) (hsz:0<sz) (hs: ∀k,k<w.heap.size->S k->T k) (hR: ∀c x,x∈xs->R c x->R' c x):aP T w sz R' v xs:=by
 obtain⟨cells,h1,h2⟩:=h;exact⟨cells,h1.mono hs hsz,h2.mono hR⟩
theorem aP.nil :aP S w sz R (.slice none 0 0) ([]:List α):=⟨[],aD.nil _ _ _,rfl⟩
end
theorem pF (b o n:Nat):(⟨b,o,none⟩:Addr).add n=⟨b,o+n,none⟩:=by unfold Addr.add; split<;> simp_all
open Go Go.RowKit
theorem lJ {P:Program} {w:World} (base:Nat) (t ty e:TypeId) (i:TypeInfo) (size:Nat) (ht:P.underlying t=some (.slice e)) (hi:P.info? e=some i)
  (v:Value) (n:Nat) (xs:List Value) (hown:w.ownsRow base e size v n xs) (a:Option Addr) (c:Nat):
  (Builtin.append_ #[t,t] ty #[v, .slice a 0 c]).run P w= .ok v w:=by
 rcases hown.2 with⟨rfl,rfl⟩ | ⟨g,cap,cur,rfl,_,_,hnc,_⟩
 ·cases a<;> simp[Builtin.append_,run_underlying ht,sizeOf,typeInfo,hi,Builtin.lenOf,Builtin.firstCells,loadCells,loadCellsFrom]
 ·cases a<;> simp[Builtin.append_,run_underlying ht,sizeOf,typeInfo,hi,Builtin.lenOf,Builtin.firstCells,hnc,storeCells,loadCells,loadCellsFrom]
theorem bD {P:Program} {ops:Array Oper} {rest:List Oper} {o:Oper} {a:Act} {Q:Exit->Act->World->Prop} {w:World} {t e:TypeId} {sz bytes:Nat} {S:Nat->Prop} (T:cB P t e sz bytes) (hgd:o.guard=none) (s x:Operand)
  (ho:o.op= .call {callee:= .builtin .append,args:= #[s,x],argTypes:= #[t,t]}) (base:Nat) (v:Value) (n:Nat) (xs:List Value) (hs:a.eval s=v) (hown:w.ownsRow base e sz v n xs) (vx:Value) (m:Nat) (news:List Value)
  (hx:a.eval x=vx) (hrow:aD S w sz vx m news) (h1: ∀u∈news,u.oneCell'=true) (hn:n+m<1099511627775) (hbase:base<=w.heap.size)
  (h: ∀v' w',w'.ownsRow base e sz v' (n+m) (xs++news)->w.grownBy w' v.ownBlock->wpList P ops Q rest (a.put o.dst v') w'):wpList P ops Q (o::rest) a w:=by
 obtain⟨ht,⟨i,z,h11,h12,h13,h14,h15⟩,hpos,hsm⟩:=T;obtain⟨hl,ad,cap,rfl,_,_,h0⟩:=hrow;refine wpList_plain hgd fun K hK=> ?_
 have hz:m=0->o.wp P a w K Q:=by
  rintro rfl;have hn0:news=[]:=List.eq_nil_of_length_eq_zero (by rw[hl]; simp);subst hn0;have hrun:=lJ (P:=P) (w:=w) base t o.type e i sz ht h11 v n xs hown ad cap;unfold Oper.wp execOp;simp only[ho,resolve,invoke,builtin,Sem.run_bind,Sem.run_pure,Result.andThen_ok,List.map_toArray,List.map_cons,List.map_nil,hs,hx,hrun];exact hK _ _ (h v w (by simpa using hown) ⟨rfl,rfl,rfl,Nat.le_refl _,fun _ _ _=>rfl⟩)
 rcases h0 with h0 | ⟨b,of,rfl,_,hc⟩
 ·exact hz h0
 ·have hnews: ∀(j:Nat) u,news[j]? =some u->w.cell? ((⟨b,of,none⟩:Addr).add j)=some u:=fun j u hj=>by rw[pF]; exact hc j u hj
  have h63:n+m<=maxLen:=by unfold maxLen; omega
  have hby:(n+m)*bytes<=140737488355328:=by
   have:(n+m)*bytes<=1099511627775*128:=Nat.mul_le_mul (by omega) hsm;omega
  obtain⟨v',w',hr,h2,hg,_⟩:=run_append_own (P:=P) w base t o.type e i z sz bytes ht h11 h12 h13 h14 h15 hpos v n xs hown ⟨b,of,none⟩ m cap news hl hnews h1 h63 hby hbase;unfold Oper.wp execOp;simp only[ho,resolve,invoke,builtin,Sem.run_bind,Sem.run_pure,Result.andThen_ok,List.map_toArray,List.map_cons,List.map_nil,hs,hx,hr];exact hK _ _ (h v' w' h2 hg)
end Go.Proofs.YtnjkpcalgoefhaaGreatDoor
namespace Go.Proofs.YtnjkpcalgoefhaaGreatDoor
open Go
section
variable {P : Program} {ops : Array Oper} {Q : Exit → Act → World → Prop} {S : World → Prop}
@[irreducible] def nM (P:Program) (ops:Array Oper) (Q:Exit->Act->World->Prop) (S:World->Prop) (fuel:Nat) (listed:Array Bool) (a:Act) (w:World):Prop:=wpAnyH P .any ops Q S fuel listed a w
theorem nM.of {fuel:Nat} {listed:Array Bool} {a:Act} {w:World} (h:wpAnyH P .any ops Q S fuel listed a w):nM P ops Q S fuel listed a w:=by unfold nM; exact h
theorem nM.out {fuel:Nat} {listed:Array Bool} {a:Act} {w:World} (h:nM P ops Q S fuel listed a w):wpAnyH P .any ops Q S fuel listed a w:=by unfold nM at h; exact h
theorem dW {id:Nat} {a:Act} {w:World} {l:List Oper} (S:World->Prop) (hm:P.follows .mixedOrders=true) (h:nM P l.toArray Q S l.length (Array.replicate l.length false) a w.drew):(Code.region id l.toArray true).wp P Q a w:=by
 refine wp_region_held (S:=S) hm ?_;have:=h.out
 simpa using this
theorem ag {dst:Option Tmp} {op:Op} {ty:TypeId} {pos:String} {aft:Array Edge} {g:Option (Nat×Bool)} {v:Value} {fuel:Nat} {listed:Array Bool} {a:Act} {w:World} (i:Nat) (hi:ops[i]? =some ⟨dst,op,ty,pos,aft,g⟩)
  (hs:Region.noSelect ops=true) (hf:Region.free .any ops listed i=true) (hr:(Region.ready .any ops listed).contains i=true)
  (hQ: ∀c a w,Q (.panic c) (a.put dst v) w->Q (.panic c) a w) (hw:Region.wanted ⟨dst,op,ty,pos,aft,g⟩ (yielded ops a.tmps)=true) (hS:S w)
  (hy: ∀w',S w'->(execOp a.eval ⟨dst,op,ty,pos,aft,g⟩).run P w'= .ok (.value v) w')
  (h:nM P ops Q S fuel (listed.setIfInBounds i true) (a.put dst v) w):nM P ops Q S (fuel+1) listed a w:=
 nM.of (wpAnyH_take (oi:=⟨dst,op,ty,pos,aft,g⟩) hi hs hf hr hQ (.inl ⟨hw,hy⟩) hS h.out)
theorem aR {dst:Option Tmp} {op:Op} {ty:TypeId} {pos:String} {aft:Array Edge} {g:Option (Nat×Bool)} {fuel:Nat} {listed:Array Bool} {a:Act} {w:World} (i:Nat) (hi:ops[i]? =some ⟨dst,op,ty,pos,aft,g⟩) (hr:Region.ready .any ops listed=[i])
  (hw:Region.wanted ⟨dst,op,ty,pos,aft,g⟩ (yielded ops a.tmps)=true)
  (h: ∀K:Act->World->Prop,(∀a w,S w/\nM P ops Q S fuel (listed.setIfInBounds i true) a w->K a w)->wpList P #[] (Exit.then K Q) [⟨dst,op,ty,pos, #[],none⟩] a w):nM P ops Q S (fuel+1) listed a w:=by
 refine nM.of (wpAnyH_all hr (by simp) fun j hj=> ?_);have hji:j=i:=by simpa using hj
 subst hji;have hb:qi P ops (fun a' w'=>S w'/\wpAnyH P .any ops Q S fuel (listed.setIfInBounds j true) a' w') Q [⟨dst,op,ty,pos,aft,g⟩] a w:=
  bg hw (fun K hK=>h K (fun a w hh=>hK a w ⟨hh.1,hh.2.out⟩))
 unfold wpOp;simp only[hi];exact qi.out hb
theorem bN {listed:Array Bool} {a:Act} {w:World} {fuel:Nat} (hr:Region.ready .any ops listed=[]) (h:Q .normal a w):nM P ops Q S fuel listed a w:=nM.of (wpAnyH_done hr h fuel)
end
end Go.Proofs.YtnjkpcalgoefhaaGreatDoor
namespace Go.Proofs.YtnjkpcalgoefhaaGreatDoor
open Go.RowKit
theorem af {w:World} {b k:Nat} {cs:Array Value} {t:TypeId} {z:Nat×Nat} (h:w.heap[b]? =some (.cells cs t z)):w.cell? ⟨b,k,none⟩=cs[k]? :=by simp[World.cell?,h]
theorem aF {w:World} {b k:Nat} {cs:Array Value} {t:TypeId} (h:w.heap[b]? =some (.cells cs t (0,0))):w.frozen? ⟨b,k,none⟩=false:=by simp[World.frozen?,h]
def aW (b:UInt8):Value:= .int .u8 (b.toNat:Int)
theorem bm (w:World) (b o:Nat) (x:Value):w.grownBy (w.setCell ⟨b,o,none⟩ x) (some b):=
 ⟨rfl,rfl,rfl,by simp[World.setCell],fun k hk hne=>Below.heap_setCell _ _ _ _ (fun e=>hne (by simpa using e))⟩
theorem cQ {a b c:World} {r:Option Nat} (h:a.grownBy b r) (k:b.grownBy c r):a.grownBy c r:=
 ⟨k.os.trans h.os,k.tape.trans h.tape,k.output.trans h.output,Nat.le_trans h.size k.size,fun i hi hne=>(k.block i (Nat.lt_of_lt_of_le hi h.size) hne).trans (h.block i hi hne)⟩
theorem sX (w:World) (r:Option Nat):w.grownBy w r:=⟨rfl,rfl,rfl,Nat.le_refl _,fun _ _ _=>rfl⟩
structure RS where
 off:Nat
 last:Nat
 err:Int
deriving DecidableEq
def rv {α:Type} (z:α) (r:Except Int (α×Nat)) (s:RS):α×RS:=if s.err=0 then match r with
 | .ok (x,o)=>(x,⟨o,s.off,0⟩)
 | .error y=>(z,⟨s.off,s.off,y⟩)else(z,s)
theorem qV {w w':World} (h:Below w.heap.size w w') (r:Option Nat):w.grownBy w' r:=⟨h.os,h.tape,h.output,h.size,fun k hk _=>h.block k hk⟩
theorem so (bs:List UInt8):strOfNums (bs.map fun b=>(b.toNat:Int))=⟨bs.toArray⟩:=by
 simp only[strOfNums,List.map_map,Function.comp_def,Int.toNat_natCast];simp
open Go Go.RowKit Go.Maps
def dJ (P:Program) (k:TypeId) (w:World) (b:Nat) (m:List (Value×Value)):Prop:=
 ∃es clock,w.heap[b]? =some (.map es clock)/\es.toList.map (fun e=>(e.key,e.val))=m/\(m.map Prod.fst).Nodup/\ ∀p∈m,∃l,keyOf P k p.1=some l
theorem mL {w:World} {b:Nat} {x:Obj} (hb:w.heap[b]? =some x) (o:Obj):(ChangeMaps.setBlock w b o).heap[b]? =some o:=by
 have:=(Array.getElem?_eq_some_iff.1 hb).1;simp[ChangeMaps.setBlock,this]
theorem oL {w:World} {b:Nat} {x:Obj} (_:w.heap[b]? =some x) (o:Obj) {i:Nat} (h:i≠b):(ChangeMaps.setBlock w b o).heap[i]? =w.heap[i]? :=by
 simp[ChangeMaps.setBlock,Ne.symm h]
section
variable {P : Program} {k t e : TypeId} {w w' : World} {b : Nat} {m : List (Value × Value)} {key val z : Value}
theorem dJ.lt (h:dJ P k w b m):b<w.heap.size:=by
 obtain⟨es,clock,hb,_⟩:=h;exact(Array.getElem?_eq_some_iff.1 hb).1
theorem dJ.same (h:dJ P k w b m) (hs:w'.heap[b]? =w.heap[b]?):dJ P k w' b m:=by
 obtain⟨es,clock,hb,h2⟩:=h;exact⟨es,clock,hs.trans hb,h2⟩
theorem dJ.made (w:World):dJ P k (w.alloc (.map #[] 0)) w.heap.size []:=⟨#[],0,(MapKept.heap_alloc w _).1,rfl,List.nodup_nil,by simp⟩
theorem dJ.keys {es:Array MapEntry} (h:es.toList.map (fun e=>(e.key,e.val))=m) (hk: ∀p∈m,∃l,keyOf P k p.1=some l): ∀x∈es.toList,∃l,keyOf P k x.key=some l:=fun x hx=>hk (x.key,x.val) (by rw[<-h]; exact List.mem_map.2 ⟨x,hx,rfl⟩)
theorem oT : ∀ {m:List (Value×Value)} {key v v':Value},(m.map Prod.fst).Nodup->(key,v)∈m->(key,v')∈m->v=v'
 | [],_,_,_,_,h,_=>by simp at h
 | (a,x)::m,key,v,v',hn,h,h'=>by
  simp only[List.map_cons,List.nodup_cons]at hn
  rcases List.mem_cons.1 h with h | h<;> rcases List.mem_cons.1 h' with h' | h'
  ·cases h; cases h'; rfl
  ·cases h
   exact absurd (List.mem_map.2 ⟨_,h',rfl⟩) hn.1
  ·cases h'
   exact absurd (List.mem_map.2 ⟨_,h,rfl⟩) hn.1
  ·exact oT hn.2 h h'
theorem dJ.hit (h:dJ P k w b m) (K:Keyed P k) (ht:P.underlying t=some (.map k e)) (hkey: ∃l,keyOf P k key=some l) (hm:(key,val)∈m) (c:Bool):
  (Instr.lookup t (.map (some b)) key c).run P w= .ok (if c then .tuple #[val, .bool true]else val) w:=by
 obtain⟨es,clock,hb,he,hn,hk⟩:=h;obtain⟨kl,hkl⟩:=hkey
 rcases K.find w hkl es.toList (dJ.keys he hk)with⟨h1,h2⟩ | ⟨j,e0,h1,h2,h3⟩
 ·rw[<-he]at hm;obtain⟨x,hx,hxe⟩:=List.mem_map.1 hm;exact absurd (congrArg Prod.fst hxe) (h2 x hx)
 ·have hv:e0.val=val:=by
   refine oT hn (key:=key) ?_ hm;rw[<-he,<-h3];exact List.mem_map.2 ⟨e0,List.mem_of_getElem? h2,rfl⟩
  cases c<;> simp[Instr.lookup,run_underlying ht,MapKept.run_getObj_map hb,K.check w _ hkl,h1,hv,Result.andThen]
theorem dJ.miss (h:dJ P k w b m) (K:Keyed P k) (ht:P.underlying t=some (.map k e)) (hz:(zeroValue e).run P w= .ok z w) (hkey: ∃l,keyOf P k key=some l) (hm: ∀p∈m,p.1≠key) (c:Bool):
  (Instr.lookup t (.map (some b)) key c).run P w= .ok (if c then .tuple #[z, .bool false]else z) w:=by
 obtain⟨es,clock,hb,he,hn,hk⟩:=h;obtain⟨kl,hkl⟩:=hkey
 rcases K.find w hkl es.toList (dJ.keys he hk)with⟨h1,h2⟩ | ⟨j,e0,h1,h2,h3⟩
 ·cases c<;> simp[Instr.lookup,run_underlying ht,MapKept.run_getObj_map hb,K.check w _ hkl,h1,hz,Result.andThen]
 ·exact absurd h3 (hm (e0.key,e0.val) (by rw[<-he]; exact List.mem_map.2 ⟨e0,List.mem_of_getElem? h2,rfl⟩))
theorem dJ.put (h:dJ P k w b m) (K:Keyed P k) (ht:P.underlying t=some (.map k e)) (hkey: ∃l,keyOf P k key=some l) (hm: ∀p∈m,p.1≠key) (val:Value):
  ∃w',(Instr.mapUpdate t (.map (some b)) key val).run P w= .ok () w'/\dJ P k w' b (m++[(key,val)])/\w.grownBy w' (some b):=by
 obtain⟨es,clock,hb,he,hn,hk⟩:=h;obtain⟨kl,hkl⟩:=hkey
 rcases K.find w hkl es.toList (dJ.keys he hk)with⟨h1,h2⟩ | ⟨j,e0,h1,h2,h3⟩
 ·refine⟨ChangeMaps.setBlock w b (.map (es.push ⟨key,val,clock⟩) (clock+1)), ?_,⟨_,_,mL hb _, ?_, ?_, ?_⟩,⟨rfl,rfl,rfl,by simp[ChangeMaps.setBlock],fun i _ hi=>oL hb _ (fun e=>hi (by rw[e]))⟩⟩
  ·simp[Instr.mapUpdate,run_underlying ht,MapKept.run_getObj_map hb,K.check w false hkl,h1,MapKept.run_setObj_map _ hb,Result.andThen,ChangeMaps.setBlock]
  ·simp[<-he]
  ·rw[List.map_append,List.nodup_append];refine⟨hn,by simp,fun a ha b' hb' e=> ?_⟩;obtain⟨p,hp,rfl⟩:=List.mem_map.1 ha;simp only[List.map_cons,List.map_nil,List.mem_singleton]at hb';exact hm p hp (e.trans hb')
  ·intro p hp
   rcases List.mem_append.1 hp with hp | hp
   ·exact hk p hp
   ·simp only[List.mem_singleton]at hp;subst hp;exact⟨kl,hkl⟩
 ·exact absurd h3 (hm (e0.key,e0.val) (by rw[<-he]; exact List.mem_map.2 ⟨e0,List.mem_of_getElem? h2,rfl⟩))
end
theorem zH :laidOutB Tryz.prog=true:=by kernel_rfl
end Go.Proofs.YtnjkpcalgoefhaaGreatDoor
namespace Go.Proofs.YtnjkpcalgoefhaaGreatDoor
open Go.RowKit
theorem kC {w:World} {b:Nat} {o:Obj} (h:w.heap[b]? =some o) (x:Obj):(w.alloc x).heap[b]? =some o:=by
 rw[Below.heap_alloc _ _ _ ((Array.getElem?_eq_some_iff.1 h).1)]; exact h
theorem ny {w:World} {b k:Nat} {cs:Array Value} {t:TypeId} (h:w.heap[b]? =some (.cells cs t (0,0))) (x:Value):(w.setCell ⟨b,k,none⟩ x).heap[b]? =some (.cells (cs.setIfInBounds k x) t (0,0)):=by
 simp only[World.setCell,Array.getElem?_modify,if_true,h,Option.map_some]; rfl
theorem aS {α:Type} {l:List α} {k:Nat} {x:α} (h:l[k]? =some x):l.take (k+1)=l.take k++[x]:=by
 obtain⟨hk,rfl⟩:=List.getElem?_eq_some_iff.1 h;exact List.take_succ_eq_append_getElem hk
theorem il {α:Type} {p:α->Bool} {l:List α} {k:Nat} {x:α} (h:(l.take k).all p=true) (hx:l[k]? =some x) (hp:p x=true):(l.take (k+1)).all p=true:=by
 rw[aS hx,List.all_append,h]; simp[hp]
theorem gz {α:Type} {p:α->Bool} {l:List α} {k:Nat} {x:α} (hx:l[k]? =some x) (hp:p x=false):l.all p=false:=by
 rw[List.all_eq_false];exact⟨x,List.mem_of_getElem? hx,by rw[hp]; simp⟩
end Go.Proofs.YtnjkpcalgoefhaaGreatDoor
namespace Go.Proofs.YtnjkpcalgoefhaaGreatDoor
open Go
section
variable {P : Program} {md : Region.Mode} {Q : Exit → Act → World → Prop}
def ol (P:Program) (ops:Array Oper) (m:Nat) (Q:Exit->Act->World->Prop):Exit->Act->World->Prop
 | .normal,a,w=>wpOp P ops Q m (fun a' w'=>Q .normal a' w') a w
 | e,a,w=>Q e a w
def rt (md:Region.Mode) (L:List Oper):Bool:=
 sT md L.toArray (L.length-1) && decide (0<L.length) &&
 ((List.range L.length).all fun i=>match L[i]? with | some x=>x.after.all (fun e=>decide (e.on<i)) && (match x.guard with | none=>true | some (j,_)=>decide (j<i)) | none=>true)
theorem pY {L:List Oper} {i:Nat} (hi:i<L.length-1):L.dropLast.toArray[i]? =L.toArray[i]? :=by
 simp[hi]
theorem yX {L:List Oper} {i m:Nat} (hi:i<L.length-1) (hg: ∀(x:Oper) (j:Nat) (b:Bool),L[i]? =some x->x.guard=some (j,b)->j<i) {K:Act->World->Prop} {a:Act} {w:World}
  (h:wpOp P L.dropLast.toArray (ol P L.toArray m Q) i K a w):wpOp P L.toArray Q i K a w:=by
 unfold wpOp at h ⊢;rw[pY hi]at h
 cases hx:L.toArray[i]? with
 | none=>rw[hx]at h; exact h
 | some x=>
  rw[hx]at h;simp only at h ⊢;have hw:Region.wanted x (yielded L.dropLast.toArray a.tmps)=Region.wanted x (yielded L.toArray a.tmps):=by
   unfold Region.wanted
   cases hgd:x.guard with
   | none=>rfl
   | some p=>
    obtain⟨j,b⟩:=p;have hj:=hg x j b (by simpa using hx) hgd;simp only[yielded];rw[pY (by omega)]
  rw[hw]at h
  split at h
  ·rename_i hh;rw[if_pos hh];exact h
  ·rename_i hh;rw[if_neg hh];exact h
theorem pA {ops:Array Oper} {listed:Array Bool} {a:Act} {w:World} (hr:Region.ready md ops listed=[]) (h:Q .normal a w): ∀fuel,wpAny P md ops Q fuel listed a w
 | 0=>⟨hr,h⟩
 | _+1=>⟨fun _=>h,by rw[hr]; simp⟩
theorem jc {L:List Oper} {i:Nat} {listed:Array Bool} (hi:i<L.length-1):i∈Region.ready md L.dropLast.toArray listed<->i∈Region.ready md L.toArray listed:=by
 rw[mem_ready,mem_ready,pY hi]
theorem uB {listed:Array Bool} {i:Nat} (hi:i<listed.size) (h:listed.getD i true=true):listed.getD i false=true:=by
 simp[hi]at h ⊢; exact h
theorem iD {L:List Oper} {i:Nat} {listed:Array Bool} (h:i∈Region.ready md L.toArray listed):i<L.length:=by
 obtain⟨_,o,ho,_⟩:=mem_ready.1 h
 simpa using (Array.getElem?_eq_some_iff.1 ho).1
theorem xr {L:List Oper} {listed:Array Bool} (hs:listed.size=L.length) (hback: ∀(i:Nat) (x:Oper),L[i]? =some x-> ∀e∈x.after,e.on<i) (hr:Region.ready md L.dropLast.toArray listed=[]):
  ∀(n i:Nat),i<n->i<L.length-1->listed.getD i true=true
 | 0,i,hn,_=>by omega
 | n+1,i,hn,hi=>by
  cases hg:listed.getD i true with
  | true=>rfl
  | false=>
   exfalso
   obtain⟨x,hx⟩: ∃x,L[i]? =some x:=⟨L[i]'(by omega),by simp⟩;have:i∈Region.ready md L.dropLast.toArray listed:=by
    rw[jc hi,mem_ready];refine⟨hg,x,by simpa using hx,fun e he _=> ?_⟩;have hb:=hback i x hx e he;exact uB (by omega) (xr hs hback hr n e.on (by omega) (by omega))
   rw[hr]at this
   cases this
theorem ul {L:List Oper} (hc:sT md L.toArray (L.length-1)=true) (hpos:0<L.length) (hback: ∀(i:Nat) (x:Oper),L[i]? =some x-> ∀e∈x.after,e.on<i) (hg: ∀(i:Nat) (x:Oper) (j:Nat) (b:Bool),L[i]? =some x->x.guard=some (j,b)->j<i):
  ∀(fuel:Nat) (listed:Array Bool) (a:Act) (w:World),HeadInv md L.toArray (L.length-1) listed->wpAny P md L.dropLast.toArray (ol P L.toArray (L.length-1) Q) fuel listed a w->wpAny P md L.toArray Q (fuel+1) listed a w:=by
 have hlast: ∀listed:Array Bool,HeadInv md L.toArray (L.length-1) listed->Region.ready md L.dropLast.toArray listed=[]->(L.length-1)∈Region.ready md L.toArray listed:=fun listed inv hr=>by
  have hs:listed.size=L.length:=by simpa using inv.size
  obtain⟨x,hx⟩: ∃x,L[L.length-1]? =some x:=⟨L[L.length-1]'(by omega),by simp⟩;rw[mem_ready];refine⟨inv.tail _ (Nat.le_refl _) (by simp; omega),x,by simpa using hx,fun e he _=> ?_⟩;have hb:=hback _ x hx e he;exact uB (by omega) (xr hs hback hr L.length e.on (by omega) (by omega))
 have hne: ∀listed:Array Bool,HeadInv md L.toArray (L.length-1) listed->Region.ready md L.toArray listed≠[]:=fun listed inv e=>by
  cases hr:Region.ready md L.dropLast.toArray listed with
  | nil=>have:=hlast listed inv hr; rw[e]at this; cases this
  | cons i r=>
   have hi:i∈Region.ready md L.dropLast.toArray listed:=by rw[hr]; simp
   have hlt:=iD hi;simp only[List.length_dropLast]at hlt;rw[jc hlt,e]at hi
   cases hi
 have hfin: ∀listed:Array Bool,HeadInv md L.toArray (L.length-1) listed->(L.length-1)∈Region.ready md L.toArray listed->Region.ready md L.dropLast.toArray listed=[]/\Region.ready md L.toArray (listed.setIfInBounds (L.length-1) true)=[]:=fun listed inv hm=>by
  have hs:listed.size=L.length:=by simpa using inv.size
  have hall: ∀i,i<L.length-1->listed.getD i true=true:=fun i hi=>by
   cases hgd:listed.getD i true with
   | true=>rfl
   | false=>exact absurd hm (kH hc inv _ i rfl hi hgd _ (Nat.le_refl _))
  constructor
  ·rw[List.eq_nil_iff_forall_not_mem];intro i hi;have hlt:=iD hi;simp only[List.length_dropLast]at hlt;have:=(mem_ready.1 hi).1;rw[hall i hlt]at this
   cases this
  ·rw[List.eq_nil_iff_forall_not_mem];intro i hi;have hlt:=iD hi;have h1:=(mem_ready.1 hi).1
   by_cases e:i=L.length-1
   ·rw[e]at h1;simp[hs]at h1
   ·rw[getD_set_ne true (Ne.symm e),hall i (by omega)]at h1
    cases h1
 intro fuel
 induction fuel with
 | zero=>
  intro listed a w inv h;refine⟨fun e=>absurd e (hne listed inv),fun i hi=> ?_⟩;have hlt:=iD hi
  by_cases e:i=L.length-1
  ·subst e;exact wpOp_mono (fun a' w' h'=>pA (hfin listed inv hi).2 h' 0) h.2
  ·have:=(jc (by omega)).2 hi;rw[h.1]at this
   cases this
 | succ fuel ih=>
  intro listed a w inv h;refine⟨fun e=>absurd e (hne listed inv),fun i hi=> ?_⟩;have hlt:=iD hi
  by_cases e:i=L.length-1
  ·subst e;exact wpOp_mono (fun a' w' h'=>pA (hfin listed inv hi).2 h' (fuel+1)) (h.1 (hfin listed inv hi).1)
  ·have hi':i<L.length-1:=by omega
   refine yX hi' (fun x j b hx hgd=>hg i x j b hx hgd) (wpOp_mono (fun a' w' h'=>ih _ a' w' (inv.set hi hi') h') (h.2 i ((jc hi').2 hi)))
theorem re {ops:Array Oper} {m:Nat} :HeadInv md ops m (Array.replicate ops.size false):=by
 refine⟨by simp,fun j oj hj hl=> ?_,fun t _ ht=>by simp[ht]⟩;have:=(Array.getElem?_eq_some_iff.1 hj).1;simp[this]at hl
theorem dd {id:Nat} {a:Act} {w:World} {L:List Oper} (S:World->Prop) (hm:P.follows .mixedOrders=true) (hB:rt .any L=true)
  (h:nM P L.dropLast.toArray (ol P L.toArray (L.length-1) Q) S (L.length-1) (Array.replicate L.length false) a w.drew):(Code.region id L.toArray true).wp P Q a w:=by
 simp only[rt,Bool.and_eq_true,decide_eq_true_eq]at hB;obtain⟨⟨hc,hpos⟩,hall⟩:=hB;have hall': ∀(i:Nat) (x:Oper),L[i]? =some x->(∀e∈x.after,e.on<i)/\ ∀j b,x.guard=some (j,b)->j<i:=fun i x hx=>by
  have:=List.all_eq_true.1 hall i (List.mem_range.2 (List.getElem?_eq_some_iff.1 hx).1);rw[hx]at this;simp only[Bool.and_eq_true]at this;refine⟨fun e he=> ?_,fun j b hg=> ?_⟩
  ·have:=Array.all_eq_true'.1 this.1 e he
   simpa using this
  ·have:=this.2;rw[hg]at this
   simpa using this
 refine wp_region_any hm ?_;have:=ul hc hpos (fun i x hx=>(hall' i x hx).1) (fun i x j b hx=>(hall' i x hx).2 j b) (L.length-1) _ a w.drew re (wpAny_of_held _ _ _ _ (by simpa using h.out));rw[show L.length-1+1=L.length by omega]at this
 simpa using this
theorem dr {L:List Oper} {m:Nat} {a:Act} {w:World} {dst:Option Tmp} {op:Op} {ty:TypeId} {pos:String} {aft:Array Edge} {g:Option (Nat×Bool)} (hi:L[m]? =some ⟨dst,op,ty,pos,aft,g⟩) (hw:Region.wanted ⟨dst,op,ty,pos,aft,g⟩ (yielded L.toArray a.tmps)=true)
  (h: ∀K:Act->World->Prop,(∀a w,Q .normal a w->K a w)->wpList P #[] (Exit.then K Q) [⟨dst,op,ty,pos, #[],none⟩] a w):ol P L.toArray m Q .normal a w:=by
 show wpOp P L.toArray Q m _ a w
 have hb:qi P L.toArray (fun a' w'=>Q .normal a' w') Q [⟨dst,op,ty,pos,aft,g⟩] a w:=bg hw (fun K hK=>h K (fun a w hh=>hK a w hh));unfold wpOp;have hi':L.toArray[m]? =some ⟨dst,op,ty,pos,aft,g⟩:=by simpa using hi
 simp only[hi'];exact qi.out hb
end
end Go.Proofs.YtnjkpcalgoefhaaGreatDoor
namespace Go.Proofs.YtnjkpcalgoefhaaGreatDoor
open Go.RowKit
theorem Tryz.appBytes :cB Tryz.prog 28 5 1 1:=cB.mk' (z:= .int .u8 0) Tryz.underlying28 (by kernel_rfl) rfl (by decide) (by decide)
def bp (S:Nat->Prop) (w:World) (v:Value) (bs:List UInt8):Prop:=aD S w 1 v bs.length (bs.map aW)
theorem vi (bs:List UInt8): ∀u∈bs.map aW,u.oneCell'=true:=fun u hu=>by
 obtain⟨b,_,rfl⟩:=List.mem_map.1 hu
 rfl
open Go Go.RowKit
def aT (v:V8) (buf:List UInt8) (n:Nat):List Value:=v.list.map eQ++(buf.map aW++[.int .i64 (n:Int)])
def jP (w:World) (sb:Nat) (ty:TypeId) (rest:List Value) (data:List UInt8):Prop:=
 ∃buf:List UInt8,buf.length=64/\buf.take (data.length%64)=data.drop (64*(data.length/64))/\w.heap[sb]? =some (.cells (aT (dT data (data.length/64)) buf data.length++rest).toArray ty (0,0))
theorem bp.call {w w':World} {sb:Nat} {v:Value} {bs:List UInt8} (h:bp (· ≠sb) w v bs) (hg:w.grownBy w' (some sb)):bp (· ≠sb) w' v bs:=by
 have h2:=aD.mono (T:=fun k=>k≠sb/\k<w.heap.size) h (fun k hk hS=>⟨hS,hk⟩) (by omega);exact(aD.same h2 (fun k hk=>hg.block k hk.2 (fun e=>hk.1 (Option.some.inj e)))).weak (fun k hk=>hk.1)
theorem jI {S:Nat->Prop} {w:World} {a:Option Addr} {n cap:Nat} {bs:List UInt8} (h:bp S w (.slice a n cap) bs) {k:Nat} (hk:k<=bs.length):
  ∃a' cap',(∀w',(Instr.slice 28 (.slice a n cap) (some (.int .i64 (k:Int))) none none).run Tryz.prog w'= .ok (.slice a' (bs.drop k).length cap') w')/\bp S w (.slice a' (bs.drop k).length cap') (bs.drop k):=by
 obtain⟨hl,a0,cap0,hv,hn,hm,h0⟩:=h;simp only[Value.slice.injEq]at hv;obtain⟨rfl,rfl,rfl⟩:=hv;have hz: ∀w',(sizeOf (Tryz.prog.elem 28)).run Tryz.prog w'= .ok 1 w':=fun _=>by kernel_rfl
 refine⟨if cap=k then a else a.map (fun p=>p.add k),cap-k,fun w'=> ?_, ?_⟩
 ·rw[run_slice_l _ _ _ _ _ Tryz.underlying28 _ _ (by omega) (by omega),hz];simp only[Result.andThen,sliced,Int.toNat_natCast,Nat.mul_one,List.length_drop]
 ·refine⟨by simp,_,_,rfl,by rw[List.length_drop]; omega,by omega, ?_⟩
  rcases h0 with h0 | ⟨b,o,rfl,hS,hc⟩
  ·exact .inl (by rw[List.length_drop]; omega)
  ·by_cases hlen:(bs.drop k).length=0
   ·exact .inl hlen
   ·rw[List.length_drop]at hlen;refine .inr ⟨b,o+k, ?_,hS,fun j x hj=> ?_⟩
    ·rw[if_neg (by omega),Option.map_some,Addr.add_mid]
    ·rw[Nat.add_assoc];exact hc (k+j) x (by rw[<-hj,List.map_drop,List.getElem?_drop])
theorem rY {S:Nat->Prop} {w:World} {a:Option Addr} {n cap:Nat} {bs:List UInt8} (h:bp S w (.slice a n cap) bs) {k:Nat} (hk:k<=bs.length) (h0:0<k):
  (∀w',(Instr.slice 28 (.slice a n cap) none (some (.int .i64 (k:Int))) none).run Tryz.prog w'= .ok (.slice a k cap) w')/\bp S w (.slice a (bs.take k).length cap) (bs.take k)/\ ∃b o,a=some ⟨b,o,none⟩:=by
 obtain⟨hl,a0,cap0,hv,hn,hm,h1⟩:=h;simp only[Value.slice.injEq]at hv;obtain⟨rfl,rfl,rfl⟩:=hv;have hz: ∀w',(sizeOf (Tryz.prog.elem 28)).run Tryz.prog w'= .ok 1 w':=fun _=>by kernel_rfl
 rcases h1 with h1 | ⟨b,o,rfl,hS,hc⟩
 ·omega
 ·refine⟨fun w'=> ?_,⟨by simp,_,_,rfl,by rw[List.length_take]; omega,hm, .inr ⟨b,o,rfl,hS,fun j x hj=> ?_⟩⟩,b,o,rfl⟩
  ·rw[run_slice_h _ _ _ _ _ Tryz.underlying28 _ _ (by omega) (by omega),hz];simp only[Result.andThen,sliced,Int.toNat_natCast,Nat.zero_mul,Nat.sub_zero]
   by_cases hcz:cap=0
   ·omega
   ·rw[if_neg hcz,Option.map_some,Addr.add_mid,Nat.add_zero]
  ·refine hc j x ?_;rw[List.map_take,List.getElem?_take]at hj
   split at hj
   ·exact hj
   ·cases hj
theorem dA {ops:Array Oper} {rest:List Oper} {o:Oper} {a:Act} {Q:Exit->Act->World->Prop} {w:World} (hgd:o.guard=none) (d s:Operand)
  (ho:o.op= .call {callee:= .builtin .copy,args:= #[d,s],argTypes:= #[28,28]}) (g off dLen dCap:Nat) (sp:Option Addr) (sLen sCap:Nat) (hd:a.eval d= .slice (some ⟨g,off,none⟩) dLen dCap) (hs:a.eval s= .slice sp sLen sCap)
  (cur:List Value) (t:TypeId) (hg:w.heap[g]? =some (.cells cur.toArray t (0,0))) (S:Nat->Prop) (bs:List UInt8) (hb:bp S w (.slice sp sLen sCap) bs) (k:Nat) (hk:k=Nat.min bs.length dLen) (hfit:off+dLen<=cur.length)
  (h: ∀w',w'.heap[g]? =some (.cells (splice cur off ((bs.take k).map aW)).toArray t (0,0))->w.grownBy w' (some g)->wpList Tryz.prog ops Q rest (a.put o.dst (.int .i64 (k:Int))) w'):wpList Tryz.prog ops Q (o::rest) a w:=by
 obtain⟨hl,a0,cap0,hv,hn,hm,h1⟩:=hb;simp only[Value.slice.injEq]at hv;obtain⟨rfl,rfl,rfl⟩:=hv
 by_cases hk0:k=0
 ·subst hk0;refine wpList_copy_nothing hgd d s _ _ ho 5 Tryz.underlying28 (by kernel_rfl) _ _ _ _ _ _ hd hs (by rw[<-hk]) ?_;refine h w ?_ (sX w _);rw[hg,List.take_zero,List.map_nil];simp[splice]
 ·have hkb:k<=bs.length:=by rw[hk]; exact Nat.min_le_left _ _
  have hkd:k<=dLen:=by rw[hk]; exact Nat.min_le_right _ _
  rcases h1 with h1 | ⟨b,o2,rfl,hS,hc⟩
  ·omega
  ·have hlen:((bs.take k).map aW).length=k:=by rw[List.length_map,List.length_take]; omega
   refine wpList_copy_own hgd d s _ _ ho 5 Tryz.underlying28 (by kernel_rfl) g off dLen dCap ⟨b,o2,none⟩ bs.length sCap hd hs cur.toArray t hg ((bs.take k).map aW) (by rw[hlen,hk]) (fun j x hj=> ?_) (by rw[hlen,List.size_toArray]; omega) (fun v hv=>by obtain⟨x,_,rfl⟩:=List.mem_map.1 hv; rfl) ?_
   ·rw[Addr.add_mid];refine hc j x ?_;rw[List.map_take,List.getElem?_take]at hj
    split at hj
    ·exact hj
    ·cases hj
   ·rw[hlen];refine h _ ?_ ?_
    ·rw[setRow_heap w g _ _ t _ hg];simp only[splice,hlen]
    ·exact⟨rfl,rfl,rfl,by simp[World.setRow],fun i _ hne=>setRow_other w g i _ (fun e=>hne (by rw[e]))⟩
theorem gK (v:V8) {buf:List UInt8} (h:buf.length=64) (n:Nat):(aT v buf n).length=73:=by unfold aT V8.list; simp[h]
theorem pi (v:V8) {buf:List UInt8} (h:buf.length=64) (n:Nat) (rest:List Value):(aT v buf n++rest).toArray[72]? =some (.int .i64 (n:Int)):=by
 rw[List.getElem?_toArray,List.getElem?_append_left (by rw[gK v h]; decide)];unfold aT;rw[List.getElem?_append_right (by simp[V8.list]),List.getElem?_append_right (by simp[V8.list,h])];simp[V8.list,h]
theorem wG (v:V8) {buf:List UInt8} (h:buf.length=64) (n n':Nat) (rest:List Value):(aT v buf n++rest).set 72 (.int .i64 (n':Int))=aT v buf n'++rest:=by
 rw[List.set_append_left _ _ (by rw[gK v h]; decide)]
 congr 1
 unfold aT;rw[List.set_append_right _ _ (by simp[V8.list]),List.set_append_right _ _ (by simp[V8.list,h])]
 congr 2
 simp[V8.list,h]
theorem dg (v:V8) (buf:List UInt8) (n:Nat) (rest:List Value):aT v buf n++rest=v.list.map eQ++(buf.map aW++([.int .i64 (n:Int)]++rest)):=by unfold aT; simp
theorem jH (v:V8) {buf:List UInt8} (h:buf.length=64) (n:Nat) (rest:List Value) {off:Nat} {xs:List UInt8} (ho:off+xs.length<=64):splice (aT v buf n++rest) (8+off) (xs.map aW)=aT v (splice buf off xs) n++rest:=by
 have e: ∀(A B C:List Value),A.length=8->B.length=64->splice (A++(B++C)) (8+off) (xs.map aW)=A++(splice B off (xs.map aW)++C):=by
  intro A B C hA hB;unfold splice;have hx:(xs.map aW).length=xs.length:=by simp
  rw[hx,List.take_append,List.drop_append,hA,show 8+off-8=off by omega,show 8+off+xs.length-8=off+xs.length by omega,List.take_of_length_le (by omega),List.drop_eq_nil_of_le (by omega),List.nil_append,List.take_append_of_le_length (by omega),List.drop_append_of_le_length (by omega)];simp
 rw[dg,e _ _ _ (by simp[V8.list]) (by simpa using h),dg]
 congr 2
 unfold splice;simp
theorem gF {buf xs:List UInt8} (h:buf.length=64) {off:Nat} (ho:off+xs.length<=64):(splice buf off xs).length=64:=by rw[length_splice _ _ _ (by omega),h]
structure ql (sb : Nat) (ty : TypeId) (rest : List Value) (D buf : List UInt8) (w wr : World) (j : Nat) : Prop where
 box:wr.heap[sb]? =some (.cells (aT (dT D j) buf D.length++rest).toArray ty (0,0))
 len:buf.length=64
 grown:w.grownBy wr (some sb)
theorem ft.grown {w wr:World} {sb:Nat} (h:ft w) (hne:sb≠4) (hg:w.grownBy wr (some sb)) (hlt:4<w.heap.size):ft wr:=by
 intro j x hj;rw[<-h j x hj];exact World.cell?_of_block (hg.block _ hlt (fun e=>hne (Option.some.inj e).symm))
theorem Ae (v:V8) {buf:List UInt8} (n:Nat) (rest:List Value) {j:Nat} {x:UInt8} (hj:buf[j]? =some x):(aT v buf n++rest).toArray[8+j]? =some (aW x):=by
 have hlt:=(List.getElem?_eq_some_iff.1 hj).1;rw[List.getElem?_toArray,dg,List.getElem?_append_right (by simp[V8.list]),List.getElem?_append_left (by simp[V8.list]; omega)];rw[show 8+j-(List.map eQ v.list).length=j by simp[V8.list],List.getElem?_map,hj]; rfl
theorem oE {data xs:List UInt8} {q:Nat} (h:64*q<=data.length):(data++xs).drop (64*q)=data.drop (64*q)++xs:=List.drop_append_of_le_length h
theorem si {buf xs:List UInt8} {u:Nat} (hb:buf.length=64) (hx:u+xs.length=64):splice buf u xs=buf.take u++xs:=by
 unfold splice;rw[hx,List.drop_eq_nil_of_le (by omega),List.append_nil]
def zI :Value->Nat
 | .slice _ n _=>n
 | _=>0
def uj (sb:Nat) (ty:TypeId) (rest:List Value) (D:List UInt8) (w:World) (x:Value) (wr:World):Prop:=
 ∃(j rl cap:Nat) (a:Option Addr) (buf:List UInt8),rl=(D.drop (64*j)).length/\64*j<=D.length/\x= .slice a rl cap/\bp (· ≠sb) wr (.slice a rl cap) (D.drop (64*j))/\ql sb ty rest D buf w wr j
theorem ql.done {sb:Nat} {ty:TypeId} {rest:List Value} {D buf:List UInt8} {w wr w':World} {j:Nat} (h:ql sb ty rest D buf w wr j) (hj:64*j<=D.length) (hl:(D.drop (64*j)).length<64)
  (hb:w'.heap[sb]? =some (.cells (splice (aT (dT D j) buf D.length++rest) 8 (((D.drop (64*j)).take (D.drop (64*j)).length).map aW)).toArray ty (0,0))) (hg:wr.grownBy w' (some sb)):jP w' sb ty rest D/\w.grownBy w' (some sb):=by
 have e:D.length/64=j:=by rw[List.length_drop]at hl; omega
 have e2:D.length%64=(D.drop (64*j)).length:=by rw[List.length_drop]at hl ⊢; omega
 refine⟨⟨splice buf 0 (D.drop (64*j)),gF h.len (by omega), ?_, ?_⟩,cQ h.grown hg⟩
 ·rw[e2,e];unfold splice;rw[List.take_zero,List.nil_append,List.take_left]
 ·rw[hb,List.take_length,e,jH _ h.len D.length rest (off:=0) (by omega)]
theorem kw (sb:Nat) (ty:TypeId) (rest:List Value) (data xs:List UInt8) (xv:Value) (w:World) (h:jP w sb ty rest data) (hx:bp (· ≠sb) w xv xs) (hlen:data.length+xs.length<1152921504606846976) (hK:ft w) (hKlt:4<w.heap.size) (hne:sb≠4):
  Calls Tryz.prog 148 #[.pointer (some ⟨sb,0,none⟩),xv] w fun e w'=>e= .returned (.tuple #[])/\jP w' sb ty rest (data++xs)/\w.grownBy w' (some sb):=by
 obtain⟨buf,hb64,htl,hbox⟩:=h;obtain⟨_,a,cap,rfl,hcap,hcm,-⟩:=id hx;have HX:=aa hx;have HBX:=aa hbox;have HTL:=aa htl;have HK:=aa hK;have HL64:=aa hb64;obtain⟨n,hn⟩: ∃n,n=data.length:=⟨_,rfl⟩;obtain⟨m,hm⟩: ∃m,m=xs.length:=⟨_,rfl⟩;rw[<-hn]at HBX hlen;rw[<-hm]at hlen hcap;have c72:=(cell_of_row w _ 72 _ _ _ HBX.out).trans (pi _ hb64 n rest)
 have f72:=frozen_of_row w _ 72 _ _ HBX.out;have HN:=aa (And.intro hn hm);clear hx hbox htl hK hb64;rw[<-hm];clear hn hm
 go_enter Tryz.func148,Tryz.ntmps148
 go_upto_region 2 with(fail)
 obtain⟨W1,hW1⟩: ∃W1,W1=w.setCell ⟨sb,72,none⟩ (.int .i64 ((n:Int)+(m:Int))):=⟨_,rfl⟩;rw[<-hW1];have HB1:=aa (show W1.heap[sb]? =some (.cells (aT (dT data (n/64)) buf (n+m)++rest).toArray ty (0,0)) by
  rw[hW1,heap_setCell_same w _ _ _ _ _ HBX.out,List.setIfInBounds_toArray,<-wG _ HL64.out n (n+m) rest];rw[Int.natCast_add])
 have HG1:=aa (show w.grownBy W1 (some sb) by rw[hW1]; exact bm w sb 72 _);have HX1:=aa (HX.out.call HG1.out);clear hW1 c72 f72
 by_cases hu:n%64=0
 ·have hui:(n:Int)%64=0:=by omega
  have HLS:=aa (show uj sb ty rest (data++xs) w (.slice a m cap) W1 from by
   have e1:64*(n/64)=data.length:=by have:=HN.out.1; omega
   refine⟨n/64,m,cap,a,buf, ?_,by rw[List.length_append]; omega,rfl, ?_, ?_⟩
   ·rw[e1,List.drop_left]; exact HN.out.2
   ·rw[e1,List.drop_left];have:=HX1.out;rw[<-HN.out.2]at this;exact this
   ·refine⟨?_,HL64.out,HG1.out⟩;rw[jS xs (by omega),List.length_append,<-HN.out.1,<-HN.out.2];exact HB1.out)
  go_wp2_with fail;clear hui hu
  go_loopw [1] (fun x wr=>uj sb ty rest (data++xs) w x wr) (fun x _=>zI x)
  case atStart=>exact HLS.out
  case round=>
   obtain⟨j,rl,cap2,a2,bf,hrl,hj,rfl,hby,hmid⟩:=hrel;have HRL:=aa hrl;have HBY:=aa hby
   have HMD:=aa hmid;have hrl2:rl<1152921504606846976:=by
    have:=HN.out;rw[hrl,List.length_drop,List.length_append]; omega
   obtain⟨_,_,_,hveq,hcap2,hcm2,-⟩:=id hby
   simp only[Value.slice.injEq]at hveq;obtain⟨rfl,-,rfl⟩:=hveq;rw[<-hrl]at hcap2;clear hrl hby hmid
   by_cases h64:64<=rl
   ·obtain⟨s1,s2,b,o,rfl⟩:=rY HBY.out (k:=64) (by rw[<-HRL.out]; exact h64) (by decide);obtain⟨a3,cap3,s3,s4⟩:=jI HBY.out (k:=64) (by rw[<-HRL.out]; exact h64);have S1: ∀w',(Instr.slice 28 (.slice (some ⟨b,o,none⟩) rl cap2) none (some (.int .i64 64)) none).run Tryz.prog w'= .ok (.slice (some ⟨b,o,none⟩) 64 cap2) w':=s1;obtain⟨r3,hr3⟩: ∃r3,r3=((List.drop (64*j) (data++xs)).drop 64).length:=⟨_,rfl⟩
    have S3: ∀w',(Instr.slice 28 (.slice (some ⟨b,o,none⟩) rl cap2) (some (.int .i64 64)) none none).run Tryz.prog w'= .ok (.slice a3 r3 cap3) w':=by rw[hr3]; exact s3
    rw[<-hr3]at s4;have HR3:=aa hr3;have S2:=aa s2;have S4:=aa s4;clear s1 s2 s3 s4 hr3;go_wp2_with fail;refine(iC sb (dT (data++xs) j) (bf.map aW++([.int .i64 ((data++xs).length:Int)]++rest)) ty b o cap2 ((List.drop (64*j) (data++xs)).take 64) wr (by rw[<-dg]; exact HMD.out.box) (pJ _ _) (by rw[List.length_take,<-HRL.out]; omega) (by omega) hcm2 ?_ (HK.out.grown hne HMD.out.grown hKlt) (by have:=HMD.out.grown.size; omega)).mono ?_
    ·intro i x hi;obtain⟨_,_,_,hv9,_,_,h9⟩:=S2.out;simp only[Value.slice.injEq]at hv9;rw[<-hv9.1]at h9
     rcases h9 with h9 | ⟨b9,o9,e9,_,h9⟩
     ·rw[List.length_take,<-HRL.out]at h9; omega
     ·simp only[Option.some.injEq,Addr.mk.injEq]at e9;rw[e9.1,e9.2.1];exact h9 i _ (by rw[List.getElem?_map,hi]; rfl)
    ·rintro e w2 ⟨rfl,hb2,hg2⟩;have HM2:=aa (show ql sb ty rest (data++xs) bf w w2 (j+1)from⟨by rw[dg]; exact hb2,HMD.out.len,cQ HMD.out.grown hg2⟩);have HY2:=aa (S4.out.call hg2);clear hb2 hg2;go_wp2_with fail
     go_roundw
     case rel=>
      refine⟨j+1,r3,cap3,a3,bf, ?_, ?_,rfl, ?_,HM2.out⟩
      ·rw[HR3.out,List.drop_drop,show 64*j+64=64*(j+1) by omega]
      ·have:=HRL.out;rw[List.length_drop]at this; omega
      ·have:=HY2.out;rw[List.drop_drop,show 64*j+64=64*(j+1) by omega]at this;exact this
     case measure=>
      have h1:=HR3.out;rw[List.length_drop,<-HRL.out]at h1
      show r3<rl
      omega
   ·have hmin:rl=Nat.min (List.drop (64*j) (data++xs)).length 64:=by rw[<-HRL.out]; exact(Nat.min_eq_left (by omega)).symm
    have hfit:8+64<=(aT (dT (data++xs) j) bf (data++xs).length++rest).length:=by rw[List.length_append,gK _ HMD.out.len]; omega
    have HMIN:=aa hmin;have HFIT:=aa hfit;clear hmin hfit;go_wp2_with (refine dA rfl _ _ rfl sb 8 64 64 a2 rl cap2 rfl rfl (aT (dT (data++xs) j) bf (data++xs).length++rest) ty HMD.out.box (· ≠sb) (List.drop (64*j) (data++xs)) HBY.out rl HMIN.out HFIT.out ?_; intro w3 hb3 hg3; have HB3:=aa hb3; have HG3:=aa hg3; clear hb3 hg3)
    go_end0
    refine⟨rfl, ?_⟩;refine HMD.out.done hj (by rw[<-HRL.out]; omega) ?_ HG3.out;rw[<-HRL.out]; exact HB3.out
 ·obtain⟨u,hu2⟩: ∃u,u=n%64:=⟨_,rfl⟩;have hui:(n:Int)%64=(u:Int):=by omega
  have hupos:(0:Int)<(u:Int):=by omega
  have hule:(u:Int)<=64:=by omega
  obtain⟨k,hk⟩: ∃k,k=Nat.min xs.length (64-u):=⟨_,rfl⟩;have hkle:k<=xs.length:=by rw[hk]; exact Nat.min_le_left _ _
  have hkle2:k<=64-u:=by rw[hk]; exact Nat.min_le_right _ _
  have hk3:k=xs.length\/k=64-u:=by
   rw[hk]
   rcases Nat.le_total xs.length (64-u)with e | e
   ·exact .inl (Nat.min_eq_left e)
   ·exact .inr (Nat.min_eq_right e)
  have HU:=aa (And.intro hu2 hu);have HKK:=aa hk;have HK3:=aa hk3;have HKL:=aa (And.intro hkle hkle2);have hX1:=HX1.out;rw[<-HN.out.2]at hX1;obtain⟨a4,cap4,s4,y4⟩:=jI hX1 hkle;obtain⟨m4,hm4⟩: ∃m4,m4=(xs.drop k).length:=⟨_,rfl⟩;rw[<-hm4]at s4 y4;have HM4:=aa hm4;have Y4:=aa y4;have HXX:=aa hX1;have HFIT:=aa (show 8+u+(64-u)<=(aT (dT data (n/64)) buf (n+m)++rest).length by rw[List.length_append,gK _ HL64.out]; omega)
  clear hu hu2 hk hk3 hkle hkle2 hX1 hm4 y4;have hw64:wrap64 ((u:Int)+(k:Int))=(u:Int)+(k:Int):=by unfold wrap64; have:=HKL.out.2; omega
  by_cases hlt:u+k<64
  ·have hlti:(u:Int)+(k:Int)<64:=by omega
   go_wp2_with (refine dA rfl _ _ rfl sb (8+u) (64-u) (64-u) a m cap rfl rfl (aT (dT data (n/64)) buf (n+m)++rest) ty HB1.out (· ≠sb) xs HXX.out k HKK.out HFIT.out ?_; intro w3 hb3 hg3; have HB3:=aa hb3; have HG3:=aa hg3; clear hb3 hg3);refine bodyPost_ret (results_none rfl _ _ _) rfl ?_;have hk:k=xs.length:=by rcases HK3.out with e | e<;> omega
   have hnl:=HN.out.1;have hml:=HN.out.2;have hun:=HU.out.1;have hq:64*(n/64)<=data.length:=by omega
   refine⟨rfl,⟨splice buf u xs,gF HL64.out (by omega), ?_, ?_⟩,cQ HG1.out HG3.out⟩
   ·rw[List.length_append,<-hnl,<-hml,show(n+m)/64=n/64 by omega,show(n+m)%64=u+xs.length by omega,oE hq];have:=HTL.out;rw[<-hnl,<-hun]at this;rw[<-this];unfold splice;rw[<-List.append_assoc,List.take_left' (by rw[List.length_append,List.length_take]; have:=HL64.out; omega)]
   ·rw[HB3.out,hk,List.take_length,jH _ HL64.out _ rest (by omega),List.length_append,<-hnl,<-hml,show(n+m)/64=n/64 by omega,jS xs hq]
  ·have hge:64<=(u:Int)+(k:Int):=by omega
   have hk:k=64-u:=by have:=HKL.out.2; rcases HK3.out with e | e<;> omega
   have huk:u+k=64:=by have:=HKL.out.2; omega
   have HKE:=aa (And.intro hk huk);clear hk huk;go_wp2_with (refine dA rfl _ _ rfl sb (8+u) (64-u) (64-u) a m cap rfl rfl (aT (dT data (n/64)) buf (n+m)++rest) ty HB1.out (· ≠sb) xs HXX.out k HKK.out HFIT.out ?_; intro w3 hb3 hg3; have HB3:=aa hb3; have HG3:=aa hg3; clear hb3 hg3);obtain⟨B,hB⟩: ∃B,B=splice buf u (xs.take k):=⟨_,rfl⟩;have hkl:=HKL.out.1
   have htk:(xs.take k).length=k:=by rw[List.length_take]; omega
   have hun:=HU.out.1;have hnl:=HN.out.1;have hml:=HN.out.2;have hq:64*(n/64)<=data.length:=by omega
   have hBl:B.length=64:=by rw[hB]; exact gF HL64.out (by rw[htk]; have:=HKE.out.2; omega)
   have hB3:w3.heap[sb]? =some (.cells (aT (dT data (n/64)) B (n+m)++rest).toArray ty (0,0)):=by rw[HB3.out,jH _ HL64.out _ rest (by rw[htk]; have:=HKE.out.2; omega),<-hB]
   have hBD:B=((data++xs).drop (64*(n/64))).take 64:=by
    have ht:=HTL.out;rw[<-hnl,<-hun]at ht;rw[hB,si HL64.out (by rw[htk]; exact HKE.out.2),oE hq,<-ht,List.take_append,List.length_take,HL64.out,Nat.min_eq_left (by omega),<-HKE.out.1,List.take_of_length_le (l:=List.take u buf) (by rw[List.length_take]; omega)]
   have HBL:=aa hBl;have HBD:=aa hBD;have HB4:=aa hB3;clear hkl htk hun hnl hml hq hBl hB3 hBD hB;refine(iC sb (dT data (n/64)) (B.map aW++([.int .i64 ((n+m:Nat):Int)]++rest)) ty sb 8 64 B w3 (by rw[<-dg]; exact HB4.out) (pJ _ _) HBL.out (Nat.le_refl _) (by unfold maxLen; omega) ?_ (HK.out.grown hne (cQ HG1.out HG3.out) hKlt) (by have:=HG1.out.size; have:=HG3.out.size; omega)).mono ?_
   ·intro i x hi;rw[cell_of_row w3 _ _ _ _ _ HB4.out,Ae _ _ rest hi]; rfl
   ·rintro e w4 ⟨rfl,hb4,hg4⟩;have hnl:=HN.out.1;have hml:=HN.out.2;have hun:=HU.out.1;have hq:64*(n/64)<=data.length:=by omega
    have hke:=HKE.out.2;have hkl:=HKL.out.1;have HG4:=aa (cQ HG1.out (cQ HG3.out hg4));have hY:=(Y4.out.call HG3.out).call hg4;have hdr:(data++xs).drop (64*(n/64+1))=xs.drop k:=by
     rw[show 64*(n/64+1)=data.length+k by omega,<-List.drop_drop,List.drop_left]
    have HLS:=aa (show uj sb ty rest (data++xs) w (.slice a4 m4 cap4) w4 from by
     refine⟨n/64+1,m4,cap4,a4,B, ?_,by rw[List.length_append]; omega,rfl, ?_, ?_⟩
     ·rw[hdr]; exact HM4.out
     ·rw[hdr]; exact hY
     ·refine⟨?_,HBL.out,HG4.out⟩;rw[dg,dT,<-HBD.out,jS xs hq,List.length_append,<-hnl,<-hml];exact hb4)
    clear hb4 hg4 hnl hml hun hq hke hkl hY hdr;go_wp2_with fail;clear hw64 hlt hge hupos hule hui
    go_loopw [1] (fun x wr=>uj sb ty rest (data++xs) w x wr) (fun x _=>zI x)
    case atStart=>exact HLS.out
    case round=>
     obtain⟨j,rl,cap2,a2,bf,hrl,hj,rfl,hby,hmid⟩:=hrel;have HRL:=aa hrl;have HBY:=aa hby
     have HMD:=aa hmid;have hrl2:rl<1152921504606846976:=by
      have:=HN.out;rw[hrl,List.length_drop,List.length_append]; omega
     obtain⟨_,_,_,hveq,hcap2,hcm2,-⟩:=id hby
     simp only[Value.slice.injEq]at hveq;obtain⟨rfl,-,rfl⟩:=hveq;rw[<-hrl]at hcap2;clear hrl hby hmid
     by_cases h64:64<=rl
     ·obtain⟨s1,s2,b,o,rfl⟩:=rY HBY.out (k:=64) (by rw[<-HRL.out]; exact h64) (by decide);obtain⟨a3,cap3,s3,s4⟩:=jI HBY.out (k:=64) (by rw[<-HRL.out]; exact h64);have S1: ∀w',(Instr.slice 28 (.slice (some ⟨b,o,none⟩) rl cap2) none (some (.int .i64 64)) none).run Tryz.prog w'= .ok (.slice (some ⟨b,o,none⟩) 64 cap2) w':=s1;obtain⟨r3,hr3⟩: ∃r3,r3=((List.drop (64*j) (data++xs)).drop 64).length:=⟨_,rfl⟩
      have S3: ∀w',(Instr.slice 28 (.slice (some ⟨b,o,none⟩) rl cap2) (some (.int .i64 64)) none none).run Tryz.prog w'= .ok (.slice a3 r3 cap3) w':=by rw[hr3]; exact s3
      rw[<-hr3]at s4;have HR3:=aa hr3;have S2:=aa s2;have S4:=aa s4;clear s1 s2 s3 s4 hr3;go_wp2_with fail;refine(iC sb (dT (data++xs) j) (bf.map aW++([.int .i64 ((data++xs).length:Int)]++rest)) ty b o cap2 ((List.drop (64*j) (data++xs)).take 64) wr (by rw[<-dg]; exact HMD.out.box) (pJ _ _) (by rw[List.length_take,<-HRL.out]; omega) (by omega) hcm2 ?_ (HK.out.grown hne HMD.out.grown hKlt) (by have:=HMD.out.grown.size; omega)).mono ?_
      ·intro i x hi;obtain⟨_,_,_,hv9,_,_,h9⟩:=S2.out;simp only[Value.slice.injEq]at hv9;rw[<-hv9.1]at h9
       rcases h9 with h9 | ⟨b9,o9,e9,_,h9⟩
       ·rw[List.length_take,<-HRL.out]at h9; omega
       ·simp only[Option.some.injEq,Addr.mk.injEq]at e9;rw[e9.1,e9.2.1];exact h9 i _ (by rw[List.getElem?_map,hi]; rfl)
      ·rintro e w2 ⟨rfl,hb2,hg2⟩;have HM2:=aa (show ql sb ty rest (data++xs) bf w w2 (j+1)from⟨by rw[dg]; exact hb2,HMD.out.len,cQ HMD.out.grown hg2⟩);have HY2:=aa (S4.out.call hg2);clear hb2 hg2;go_wp2_with fail
       go_roundw
       case rel=>
        refine⟨j+1,r3,cap3,a3,bf, ?_, ?_,rfl, ?_,HM2.out⟩
        ·rw[HR3.out,List.drop_drop,show 64*j+64=64*(j+1) by omega]
        ·have:=HRL.out;rw[List.length_drop]at this; omega
        ·have:=HY2.out;rw[List.drop_drop,show 64*j+64=64*(j+1) by omega]at this;exact this
       case measure=>
        have h1:=HR3.out;rw[List.length_drop,<-HRL.out]at h1
        show r3<rl
        omega
     ·have hmin:rl=Nat.min (List.drop (64*j) (data++xs)).length 64:=by rw[<-HRL.out]; exact(Nat.min_eq_left (by omega)).symm
      have hfit:8+64<=(aT (dT (data++xs) j) bf (data++xs).length++rest).length:=by rw[List.length_append,gK _ HMD.out.len]; omega
      have HMIN:=aa hmin;have HFIT:=aa hfit;clear hmin hfit;go_wp2_with (refine dA rfl _ _ rfl sb 8 64 64 a2 rl cap2 rfl rfl (aT (dT (data++xs) j) bf (data++xs).length++rest) ty HMD.out.box (· ≠sb) (List.drop (64*j) (data++xs)) HBY.out rl HMIN.out HFIT.out ?_; intro w3 hb3 hg3; have HB3:=aa hb3; have HG3:=aa hg3; clear hb3 hg3)
      go_end0
      refine⟨rfl, ?_⟩;refine HMD.out.done hj (by rw[<-HRL.out]; omega) ?_ HG3.out;rw[<-HRL.out]; exact HB3.out
end Go.Proofs.YtnjkpcalgoefhaaGreatDoor
