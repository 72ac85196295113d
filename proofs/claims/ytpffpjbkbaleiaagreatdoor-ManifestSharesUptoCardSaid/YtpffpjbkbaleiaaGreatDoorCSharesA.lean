/- Texts of this proof, one after the other: Segs, ShaP, ShaA, ShaB, Base, Own, Seq, App, Held, WireA, WireB, WireC, WireD, Map, RefV, Plain, Libc. -/
import Derived.StillTailTactics
import Derived.WalkKit
import Derived.Test.YtpffpjbkbaleiaaGreatDoorRows
import Derived.WalkSpells
import Derived.WalkLawsBesides
import Derived.Lib.Hide
import Derived.WalkSmall
import Derived.Laws.Bits64b
import Derived.Laws.BitsAllLaws
import Derived.Deep.MidRow
import Derived.Test.YtpffpjbkbaleiaaGreatDoorCSharesS
import Derived.Deep.QuietTactic
import Derived.BigQuiet
import Derived.Laws.OwnMore
import Derived.OrdersHeld
import Derived.Deep.RegionHeld
import Derived.Laws.BytesArg
import Derived.Defers
import Derived.Recover
import Derived.Maps.OwnSet
import Derived.Maps.OwnOps
import Derived.DeepKeys5
import Derived.Laws.StructEq
import Derived.Lib.ValidLaws
import Derived.Lib.TrimUEq
import Derived.Lib.MapLaws
import Derived.Lib.SplitLaws
import Derived.Lib.Join
import Derived.Lib.Small
import Derived.Laws.RangeAny
import Derived.Laws.CopyOwn
import Derived.Laws.Slices
import Derived.Lib.ConvBytes
import Derived.Lib.BufferWrite
import Derived.Lib.AppendStr
import Derived.Lib.TrailingZeros
import Derived.Test.YtpffpjbkbaleiaaGreatDoorCtz
import Derived.RangeFuncNested
import Derived.RangeFuncLeaves
import Derived.RangeFuncGives
import Derived.RangeFuncBox
import Derived.Shelf.Abstract
import Derived.OwnWalkIn
import Derived.TacticsInMore
import Derived.LoopNIn
import Derived.LoopIn
import Derived.Maps.RangeWalk
import Derived.Shelf.Bytes.SlClone
import Derived.OrdersIn
import Derived.Laws.Cover4
import Derived.Deep.Cut
import Derived.Laws.Tables
import Derived.Laws.Rows
import Derived.Lib.LazyBuf
import Derived.Lib.SmallJoins
import Derived.ProofKit
import Derived.Carry
import Derived.Lay
import Derived.PinnedBridge
import Derived.Lib.LaidU8T
import Derived.SevenTiedAt
import Derived.HandedShaped
import Derived.Shelf.Vars
import Derived.Test.YtpffpjbkbaleiaaGreatDoorTie
import Derived.Test.YtpffpjbkbaleiaaGreatDoorCards
import Derived.Deep.DeepHandedRow
set_option maxRecDepth 100000
set_option maxHeartbeats 8000000
namespace Go.Proofs.YtpffpjbkbaleiaaGreatDoor
section
open Go Go.RowKit
theorem pzA {α:Type} (l:List α) (i:Nat) (x:α):l.toArray.setIfInBounds i x=(l.set i x).toArray:=List.setIfInBounds_toArray ..
theorem pzB {α:Type} (x:α) (l:List α) (i:Nat) (y:α):(x::l).set (i+1) y=x::l.set i y:=rfl
theorem pzC {α:Type} (x:α) (l:List α) (y:α):(x::l).set 0 y=y::l:=rfl
theorem hzS {α:Type} :(∀(x:α) (l:List α),(x::l)[0]? =some x)/\(∀(x:α) (l:List α) (i:Nat),(x::l)[i+1]? =l[i]?):=⟨fun _ _=>rfl,fun _ _ _=>rfl⟩
theorem fV {α:Type} :(∀(l:List α) (i:Nat),l.toArray[i]? =l[i]?)/\(∀(x:α) (l:List α) (i:Nat),(x::l)[i+1]? =l[i]?)/\(∀(x:α) (l:List α),(x::l)[0]? =some x):=⟨fun _ _=>List.getElem?_toArray ..,fun _ _ _=>rfl,fun _ _=>rfl⟩
structure HdS (p : Prop) : Prop where
  o:p
theorem HdS.out {p:Prop} (h:HdS p):p:=h.o
theorem ag {p:Prop} (h:p):HdS p:=⟨h⟩
theorem bH {α:Sort _} (x:α): ∃y,y=x:=⟨_,rfl⟩
theorem bM :(∀(a:Act) (d:Tmp) (v:Value),a.put (some d) v=⟨a.tmps.setIfInBounds d v,a.defers⟩)/\(∀(a:Act) (v:Value),a.put none v=a)/\(∀(l:List Value) (i:Nat) (x:Value),l.toArray.setIfInBounds i x=(l.set i x).toArray)/\(∀(x:Value) (l:List Value) (i:Nat) (y:Value),(x::l).set (i+1) y=x::l.set i y)/\ ∀(x:Value) (l:List Value) (y:Value),(x::l).set 0 y=y::l:=⟨fun _ _ _=>rfl,fun _ _=>rfl,fun _ _ _=>List.setIfInBounds_toArray ..,fun _ _ _ _=>rfl,fun _ _ _=>rfl⟩
def Qm (w:World) (b:Nat):List Value->Prop
  | [x0]=>w.cell? ⟨b,0,none⟩=some x0/\True
  | [x0,x1]=>w.cell? ⟨b,0,none⟩=some x0/\w.cell? ⟨b,1,none⟩=some x1/\True
  | [x0,x1,x2]=>w.cell? ⟨b,0,none⟩=some x0/\w.cell? ⟨b,1,none⟩=some x1/\w.cell? ⟨b,2,none⟩=some x2/\True
  | [x0,x1,x2,x3]=>w.cell? ⟨b,0,none⟩=some x0/\w.cell? ⟨b,1,none⟩=some x1/\w.cell? ⟨b,2,none⟩=some x2/\w.cell? ⟨b,3,none⟩=some x3/\True
  | [x0,x1,x2,x3,x4]=>w.cell? ⟨b,0,none⟩=some x0/\w.cell? ⟨b,1,none⟩=some x1/\w.cell? ⟨b,2,none⟩=some x2/\w.cell? ⟨b,3,none⟩=some x3/\w.cell? ⟨b,4,none⟩=some x4/\True
  | [x0,x1,x2,x3,x4,x5]=>w.cell? ⟨b,0,none⟩=some x0/\w.cell? ⟨b,1,none⟩=some x1/\w.cell? ⟨b,2,none⟩=some x2/\w.cell? ⟨b,3,none⟩=some x3/\w.cell? ⟨b,4,none⟩=some x4/\w.cell? ⟨b,5,none⟩=some x5/\True
  | [x0,x1,x2,x3,x4,x5,x6]=>w.cell? ⟨b,0,none⟩=some x0/\w.cell? ⟨b,1,none⟩=some x1/\w.cell? ⟨b,2,none⟩=some x2/\w.cell? ⟨b,3,none⟩=some x3/\w.cell? ⟨b,4,none⟩=some x4/\w.cell? ⟨b,5,none⟩=some x5/\w.cell? ⟨b,6,none⟩=some x6/\True
  | [x0,x1,x2,x3,x4,x5,x6,x7]=>w.cell? ⟨b,0,none⟩=some x0/\w.cell? ⟨b,1,none⟩=some x1/\w.cell? ⟨b,2,none⟩=some x2/\w.cell? ⟨b,3,none⟩=some x3/\w.cell? ⟨b,4,none⟩=some x4/\w.cell? ⟨b,5,none⟩=some x5/\w.cell? ⟨b,6,none⟩=some x6/\w.cell? ⟨b,7,none⟩=some x7/\True
  | [x0,x1,x2,x3,x4,x5,x6,x7,x8]=>w.cell? ⟨b,0,none⟩=some x0/\w.cell? ⟨b,1,none⟩=some x1/\w.cell? ⟨b,2,none⟩=some x2/\w.cell? ⟨b,3,none⟩=some x3/\w.cell? ⟨b,4,none⟩=some x4/\w.cell? ⟨b,5,none⟩=some x5/\w.cell? ⟨b,6,none⟩=some x6/\w.cell? ⟨b,7,none⟩=some x7/\w.cell? ⟨b,8,none⟩=some x8/\True
  | [x0,x1,x2,x3,x4,x5,x6,x7,x8,x9]=>w.cell? ⟨b,0,none⟩=some x0/\w.cell? ⟨b,1,none⟩=some x1/\w.cell? ⟨b,2,none⟩=some x2/\w.cell? ⟨b,3,none⟩=some x3/\w.cell? ⟨b,4,none⟩=some x4/\w.cell? ⟨b,5,none⟩=some x5/\w.cell? ⟨b,6,none⟩=some x6/\w.cell? ⟨b,7,none⟩=some x7/\w.cell? ⟨b,8,none⟩=some x8/\w.cell? ⟨b,9,none⟩=some x9/\True
  | [x0,x1,x2,x3,x4,x5,x6,x7,x8,x9,x10,x11,x12,x13]=>w.cell? ⟨b,0,none⟩=some x0/\w.cell? ⟨b,1,none⟩=some x1/\w.cell? ⟨b,2,none⟩=some x2/\w.cell? ⟨b,3,none⟩=some x3/\w.cell? ⟨b,4,none⟩=some x4/\w.cell? ⟨b,5,none⟩=some x5/\w.cell? ⟨b,6,none⟩=some x6/\w.cell? ⟨b,7,none⟩=some x7/\w.cell? ⟨b,8,none⟩=some x8/\w.cell? ⟨b,9,none⟩=some x9/\w.cell? ⟨b,10,none⟩=some x10/\w.cell? ⟨b,11,none⟩=some x11/\w.cell? ⟨b,12,none⟩=some x12/\w.cell? ⟨b,13,none⟩=some x13/\True
  | [x0,x1,x2,x3,x4,x5,x6,x7,x8,x9,x10,x11,x12,x13,x14]=>w.cell? ⟨b,0,none⟩=some x0/\w.cell? ⟨b,1,none⟩=some x1/\w.cell? ⟨b,2,none⟩=some x2/\w.cell? ⟨b,3,none⟩=some x3/\w.cell? ⟨b,4,none⟩=some x4/\w.cell? ⟨b,5,none⟩=some x5/\w.cell? ⟨b,6,none⟩=some x6/\w.cell? ⟨b,7,none⟩=some x7/\w.cell? ⟨b,8,none⟩=some x8/\w.cell? ⟨b,9,none⟩=some x9/\w.cell? ⟨b,10,none⟩=some x10/\w.cell? ⟨b,11,none⟩=some x11/\w.cell? ⟨b,12,none⟩=some x12/\w.cell? ⟨b,13,none⟩=some x13/\w.cell? ⟨b,14,none⟩=some x14/\True
  | _=>True
theorem aT {w:World} {b:Nat} {cs:Array Value} {t:TypeId} {z:Nat×Nat} (h:w.heap[b]? =some (.cells cs t z)):Qm w b cs.toList:=by
  obtain⟨l⟩:=cs
  have key: ∀k,w.cell? ⟨b,k,none⟩=l[k]? :=fun k=>by simp[World.cell?,h]
  show Qm w b l
  clear h
  unfold Qm
  split<;> simp[key]
def QQ (w:World) (b:Nat):List Value->Prop
  | [_]=>w.frozen? ⟨b,0,none⟩=false/\True
  | [_,_]=>w.frozen? ⟨b,0,none⟩=false/\w.frozen? ⟨b,1,none⟩=false/\True
  | [_,_,_]=>w.frozen? ⟨b,0,none⟩=false/\w.frozen? ⟨b,1,none⟩=false/\w.frozen? ⟨b,2,none⟩=false/\True
  | [_,_,_,_]=>w.frozen? ⟨b,0,none⟩=false/\w.frozen? ⟨b,1,none⟩=false/\w.frozen? ⟨b,2,none⟩=false/\w.frozen? ⟨b,3,none⟩=false/\True
  | [_,_,_,_,_]=>w.frozen? ⟨b,0,none⟩=false/\w.frozen? ⟨b,1,none⟩=false/\w.frozen? ⟨b,2,none⟩=false/\w.frozen? ⟨b,3,none⟩=false/\w.frozen? ⟨b,4,none⟩=false/\True
  | [_,_,_,_,_,_]=>w.frozen? ⟨b,0,none⟩=false/\w.frozen? ⟨b,1,none⟩=false/\w.frozen? ⟨b,2,none⟩=false/\w.frozen? ⟨b,3,none⟩=false/\w.frozen? ⟨b,4,none⟩=false/\w.frozen? ⟨b,5,none⟩=false/\True
  | [_,_,_,_,_,_,_]=>w.frozen? ⟨b,0,none⟩=false/\w.frozen? ⟨b,1,none⟩=false/\w.frozen? ⟨b,2,none⟩=false/\w.frozen? ⟨b,3,none⟩=false/\w.frozen? ⟨b,4,none⟩=false/\w.frozen? ⟨b,5,none⟩=false/\w.frozen? ⟨b,6,none⟩=false/\True
  | [_,_,_,_,_,_,_,_]=>w.frozen? ⟨b,0,none⟩=false/\w.frozen? ⟨b,1,none⟩=false/\w.frozen? ⟨b,2,none⟩=false/\w.frozen? ⟨b,3,none⟩=false/\w.frozen? ⟨b,4,none⟩=false/\w.frozen? ⟨b,5,none⟩=false/\w.frozen? ⟨b,6,none⟩=false/\w.frozen? ⟨b,7,none⟩=false/\True
  | [_,_,_,_,_,_,_,_,_]=>w.frozen? ⟨b,0,none⟩=false/\w.frozen? ⟨b,1,none⟩=false/\w.frozen? ⟨b,2,none⟩=false/\w.frozen? ⟨b,3,none⟩=false/\w.frozen? ⟨b,4,none⟩=false/\w.frozen? ⟨b,5,none⟩=false/\w.frozen? ⟨b,6,none⟩=false/\w.frozen? ⟨b,7,none⟩=false/\w.frozen? ⟨b,8,none⟩=false/\True
  | [_,_,_,_,_,_,_,_,_,_]=>w.frozen? ⟨b,0,none⟩=false/\w.frozen? ⟨b,1,none⟩=false/\w.frozen? ⟨b,2,none⟩=false/\w.frozen? ⟨b,3,none⟩=false/\w.frozen? ⟨b,4,none⟩=false/\w.frozen? ⟨b,5,none⟩=false/\w.frozen? ⟨b,6,none⟩=false/\w.frozen? ⟨b,7,none⟩=false/\w.frozen? ⟨b,8,none⟩=false/\w.frozen? ⟨b,9,none⟩=false/\True
  | [_,_,_,_,_,_,_,_,_,_,_,_,_,_]=>w.frozen? ⟨b,0,none⟩=false/\w.frozen? ⟨b,1,none⟩=false/\w.frozen? ⟨b,2,none⟩=false/\w.frozen? ⟨b,3,none⟩=false/\w.frozen? ⟨b,4,none⟩=false/\w.frozen? ⟨b,5,none⟩=false/\w.frozen? ⟨b,6,none⟩=false/\w.frozen? ⟨b,7,none⟩=false/\w.frozen? ⟨b,8,none⟩=false/\w.frozen? ⟨b,9,none⟩=false/\w.frozen? ⟨b,10,none⟩=false/\w.frozen? ⟨b,11,none⟩=false/\w.frozen? ⟨b,12,none⟩=false/\w.frozen? ⟨b,13,none⟩=false/\True
  | [_,_,_,_,_,_,_,_,_,_,_,_,_,_,_]=>w.frozen? ⟨b,0,none⟩=false/\w.frozen? ⟨b,1,none⟩=false/\w.frozen? ⟨b,2,none⟩=false/\w.frozen? ⟨b,3,none⟩=false/\w.frozen? ⟨b,4,none⟩=false/\w.frozen? ⟨b,5,none⟩=false/\w.frozen? ⟨b,6,none⟩=false/\w.frozen? ⟨b,7,none⟩=false/\w.frozen? ⟨b,8,none⟩=false/\w.frozen? ⟨b,9,none⟩=false/\w.frozen? ⟨b,10,none⟩=false/\w.frozen? ⟨b,11,none⟩=false/\w.frozen? ⟨b,12,none⟩=false/\w.frozen? ⟨b,13,none⟩=false/\w.frozen? ⟨b,14,none⟩=false/\True
  | _=>True
theorem gT {w:World} {b:Nat} {cs:Array Value} {t:TypeId} (h:w.heap[b]? =some (.cells cs t (0,0))):QQ w b cs.toList:=by
  have key: ∀k,w.frozen? ⟨b,k,none⟩=false:=fun k=>by simp[World.frozen?,h]
  unfold QQ
  split<;> simp[key]
theorem eA {w w':World} {b:Nat} {o:Obj} (hb:Below w.heap.size w w') (hx:w.heap[b]? =some o):w'.heap[b]? =some o:=(hb.block b (Array.getElem?_eq_some_iff.1 hx).1).trans hx
theorem eT {w:World} {o:Obj} :Below w.heap.size w (w.alloc o):=(Below.refl _ _).alloc (Nat.le_refl _) _
theorem jU :type_of% @Go.Addr.add_mid:= @Go.Addr.add_mid
theorem iK :type_of% @Go.Addr.mk.injEq:= @Go.Addr.mk.injEq
theorem aB :type_of% @And.intro:= @And.intro
theorem aN :type_of% @Array.getElem?_eq_some_iff:= @Array.getElem?_eq_some_iff
theorem gR :type_of% @Array.getElem?_modify:= @Array.getElem?_modify
theorem cN :type_of% @Go.RowKit.Below.heap_alloc:= @Go.RowKit.Below.heap_alloc
theorem az :type_of% @Go.RowKit.Below.heap_setCell:= @Go.RowKit.Below.heap_setCell
theorem ak :type_of% @Go.RowKit.Below.refl:= @Go.RowKit.Below.refl
theorem cz :type_of% @Go.RowKit.Below.setCell:= @Go.RowKit.Below.setCell
theorem aE :type_of% @Bool.and_eq_true:= @Bool.and_eq_true
theorem fw :type_of% @Bool.eq_false_iff:= @Bool.eq_false_iff
theorem dy :type_of% @Bool.eq_iff_iff:= @Bool.eq_iff_iff
theorem gh :type_of% @Bool.not_eq_true':= @Bool.not_eq_true'
theorem fX :type_of% @Bool.or_eq_false_iff:= @Bool.or_eq_false_iff
theorem gU :type_of% @Bool.or_eq_true:= @Bool.or_eq_true
theorem ie :type_of% @Bool.true_and:= @Bool.true_and
theorem ff :type_of% @Except.error.injEq:= @Except.error.injEq
theorem dj :type_of% @Except.ok.injEq:= @Except.ok.injEq
theorem fx :type_of% @Int.toNat_natCast:= @Int.toNat_natCast
theorem bI :type_of% @Go.IntKind.wrap_i64:= @Go.IntKind.wrap_i64
theorem cX :type_of% @Go.IntKind.wrap_u64:= @Go.IntKind.wrap_u64
theorem jf :type_of% @Go.Joins.ownsRow_le:= @Go.Joins.ownsRow_le
theorem gY :type_of% @Go.Lib.laidMet.reads:= @Go.Lib.laidMet.reads
theorem fy :type_of% @List.Pairwise.nil:= @List.Pairwise.nil
theorem cB :type_of% @List.all_eq_true:= @List.all_eq_true
theorem bg :type_of% @List.append_assoc:= @List.append_assoc
theorem cg :type_of% @List.append_nil:= @List.append_nil
theorem iE :type_of% @List.append_of_mem:= @List.append_of_mem
theorem gt :type_of% @List.cons.injEq:= @List.cons.injEq
theorem aK :type_of% @List.cons_append:= @List.cons_append
theorem bu :type_of% @List.dropLast_cons_cons:= @List.dropLast_cons_cons
theorem bw :type_of% @List.dropLast_singleton:= @List.dropLast_singleton
theorem jg :type_of% @List.drop_append:= @List.drop_append
theorem fG :type_of% @List.drop_append_of_le_length:= @List.drop_append_of_le_length
theorem fY :type_of% @List.drop_drop:= @List.drop_drop
theorem cD :type_of% @List.drop_eq_getElem_cons:= @List.drop_eq_getElem_cons
theorem ee :type_of% @List.drop_eq_nil_of_le:= @List.drop_eq_nil_of_le
theorem jh :type_of% @List.drop_length:= @List.drop_length
theorem fq :type_of% @List.drop_of_length_le:= @List.drop_of_length_le
theorem bA :type_of% @List.drop_succ_cons:= @List.drop_succ_cons
theorem bQ :type_of% @List.drop_zero:= @List.drop_zero
theorem bq :type_of% @List.eq_nil_of_length_eq_zero:= @List.eq_nil_of_length_eq_zero
theorem fM :type_of% @List.filter_append:= @List.filter_append
theorem iN :type_of% @List.find?_append:= @List.find?_append
theorem fg :type_of% @List.find?_eq_none:= @List.find?_eq_none
theorem jB :type_of% @List.find?_some:= @List.find?_some
theorem bV :type_of% @List.flatMap_append:= @List.flatMap_append
theorem bC :type_of% @List.flatMap_cons:= @List.flatMap_cons
theorem iO :type_of% @List.flatten_cons:= @List.flatten_cons
theorem dW :type_of% @List.foldl_append:= @List.foldl_append
theorem ei :type_of% @List.foldl_cons:= @List.foldl_cons
theorem cL :type_of% @List.getD_eq_getElem?_getD:= @List.getD_eq_getElem?_getD
theorem bJ :type_of% @List.getElem?_append_left:= @List.getElem?_append_left
theorem bE :type_of% @List.getElem?_append_right:= @List.getElem?_append_right
theorem cI :type_of% @List.getElem?_cons_succ:= @List.getElem?_cons_succ
theorem aD :type_of% @List.getElem?_cons_zero:= @List.getElem?_cons_zero
theorem fN :type_of% @List.getElem?_drop:= @List.getElem?_drop
theorem bn :type_of% @List.getElem?_eq_getElem:= @List.getElem?_eq_getElem
theorem dP :type_of% @List.getElem?_eq_none:= @List.getElem?_eq_none
theorem aA :type_of% @List.getElem?_eq_some_iff:= @List.getElem?_eq_some_iff
theorem bm :type_of% @List.getElem?_map:= @List.getElem?_map
theorem au :type_of% @List.getElem?_set_ne:= @List.getElem?_set_ne
theorem di :type_of% @List.getElem?_set_self:= @List.getElem?_set_self
theorem eF :type_of% @List.getElem?_take:= @List.getElem?_take
theorem aF :type_of% @List.getElem?_toArray:= @List.getElem?_toArray
theorem eq :type_of% @List.getElem_of_mem:= @List.getElem_of_mem
theorem ai :type_of% @List.length_append:= @List.length_append
theorem ay :type_of% @List.length_cons:= @List.length_cons
theorem bz :type_of% @List.length_drop:= @List.length_drop
theorem fZ :type_of% @List.length_dropLast:= @List.length_dropLast
theorem dI :type_of% @List.length_filter_le:= @List.length_filter_le
theorem aw :type_of% @List.length_map:= @List.length_map
theorem bp :type_of% @List.length_nil:= @List.length_nil
theorem bT :type_of% @List.length_singleton:= @List.length_singleton
theorem aW :type_of% @List.length_take:= @List.length_take
theorem aI :type_of% @List.map_append:= @List.map_append
theorem bS :type_of% @List.map_cons:= @List.map_cons
theorem gV :type_of% @List.map_map:= @List.map_map
theorem eY :type_of% @List.map_nil:= @List.map_nil
theorem fh :type_of% @List.map_singleton:= @List.map_singleton
theorem ji :type_of% @List.map_toArray:= @List.map_toArray
theorem aP :type_of% @List.mem_append:= @List.mem_append
theorem gd :type_of% @List.mem_append_left:= @List.mem_append_left
theorem jV :type_of% @List.mem_append_right:= @List.mem_append_right
theorem aU :type_of% @List.mem_cons:= @List.mem_cons
theorem eG :type_of% @List.mem_cons_of_mem:= @List.mem_cons_of_mem
theorem dQ :type_of% @List.mem_filter:= @List.mem_filter
theorem dt :type_of% @List.mem_flatMap:= @List.mem_flatMap
theorem aQ :type_of% @List.mem_map:= @List.mem_map
theorem ed :type_of% @List.mem_of_find?_eq_some:= @List.mem_of_find?_eq_some
theorem aM :type_of% @List.mem_of_getElem? := @List.mem_of_getElem?
theorem eh :type_of% @List.mem_range:= @List.mem_range
theorem aL :type_of% @List.mem_singleton:= @List.mem_singleton
theorem aJ :type_of% @List.nil_append:= @List.nil_append
theorem dX :type_of% @List.nodup_append:= @List.nodup_append
theorem gu :type_of% @List.nodup_cons:= @List.nodup_cons
theorem du :type_of% @List.not_mem_nil:= @List.not_mem_nil
theorem eH :type_of% @List.pairwise_append:= @List.pairwise_append
theorem fO :type_of% @List.pairwise_cons:= @List.pairwise_cons
theorem fz :type_of% @List.pairwise_map:= @List.pairwise_map
theorem mh :type_of% @List.range_succ:= @List.range_succ
theorem iq :type_of% @List.replicate_succ:= @List.replicate_succ
theorem aX :type_of% @List.setIfInBounds_toArray:= @List.setIfInBounds_toArray
theorem et :type_of% @List.set_append_right:= @List.set_append_right
theorem cG :type_of% @List.set_cons_succ:= @List.set_cons_succ
theorem cr :type_of% @List.set_cons_zero:= @List.set_cons_zero
theorem bR :type_of% @List.size_toArray:= @List.size_toArray
theorem cw :type_of% @List.take_add_one:= @List.take_add_one
theorem dA :type_of% @List.take_append_drop:= @List.take_append_drop
theorem fH :type_of% @List.take_append_of_le_length:= @List.take_append_of_le_length
theorem dw :type_of% @List.take_length:= @List.take_length
theorem bo :type_of% @List.take_of_length_le:= @List.take_of_length_le
theorem aS :type_of% @List.take_succ_cons:= @List.take_succ_cons
theorem aY :type_of% @List.take_zero:= @List.take_zero
theorem dp :type_of% @Nat.add_assoc:= @Nat.add_assoc
theorem mi :type_of% @Nat.add_comm:= @Nat.add_comm
theorem iY :type_of% @Nat.add_mul:= @Nat.add_mul
theorem jC :type_of% @Nat.add_sub_cancel:= @Nat.add_sub_cancel
theorem gg :type_of% @Nat.add_sub_cancel_left:= @Nat.add_sub_cancel_left
theorem dh :type_of% @Nat.add_zero:= @Nat.add_zero
theorem fc :type_of% @Nat.div_le_self:= @Nat.div_le_self
theorem fo :type_of% @Nat.div_lt_of_lt_mul:= @Nat.div_lt_of_lt_mul
theorem eI :type_of% @Nat.eq_zero_or_pos:= @Nat.eq_zero_or_pos
theorem eZ :type_of% @Nat.le_of_lt:= @Nat.le_of_lt
theorem ah :type_of% @Nat.le_refl:= @Nat.le_refl
theorem an :type_of% @Nat.le_trans:= @Nat.le_trans
theorem dM :type_of% @Nat.lt_of_le_of_lt:= @Nat.lt_of_le_of_lt
theorem aO :type_of% @Nat.lt_of_lt_of_le:= @Nat.lt_of_lt_of_le
theorem dN :type_of% @Nat.lt_or_ge:= @Nat.lt_or_ge
theorem jk :type_of% @Nat.lt_trans:= @Nat.lt_trans
theorem fC :type_of% @Nat.min_eq_left:= @Nat.min_eq_left
theorem eM :type_of% @Nat.mod_eq_of_lt:= @Nat.mod_eq_of_lt
theorem cZ :type_of% @Nat.mod_lt:= @Nat.mod_lt
theorem dl :type_of% @Nat.mul_le_mul_right:= @Nat.mul_le_mul_right
theorem kr :type_of% @Nat.mul_one:= @Nat.mul_one
theorem gD :type_of% @Nat.pow_add:= @Nat.pow_add
theorem gW :type_of% @Nat.pow_le_pow_right:= @Nat.pow_le_pow_right
theorem fa :type_of% @Nat.sub_self:= @Nat.sub_self
theorem bO :type_of% @Nat.zero_add:= @Nat.zero_add
theorem aR :type_of% @Nat.zero_le:= @Nat.zero_le
theorem jl :type_of% @Nat.zero_mul:= @Nat.zero_mul
theorem ks :type_of% @Ne.symm:= @Ne.symm
theorem dz :type_of% @Option.bind_eq_some_iff:= @Option.bind_eq_some_iff
theorem ft :type_of% @Option.map_eq_some_iff:= @Option.map_eq_some_iff
theorem dE :type_of% @Option.map_some:= @Option.map_some
theorem bt :type_of% @Option.some.inj:= @Option.some.inj
theorem aV :type_of% @Option.some.injEq:= @Option.some.injEq
theorem gE :type_of% @Prod.mk.inj:= @Prod.mk.inj
theorem cM :type_of% @Prod.mk.injEq:= @Prod.mk.injEq
theorem iP :type_of% @Go.Result.andThen_ok:= @Go.Result.andThen_ok
theorem gF :type_of% @Go.Proofs.Tryz.func198:= @Go.Proofs.Tryz.func198
theorem gG :type_of% @Go.Proofs.Tryz.func218:= @Go.Proofs.Tryz.func218
theorem gS :type_of% @Go.Proofs.Tryz.func89:= @Go.Proofs.Tryz.func89
theorem fS :type_of% @Go.Proofs.Tryz.ntmps198:= @Go.Proofs.Tryz.ntmps198
theorem fT :type_of% @Go.Proofs.Tryz.ntmps218:= @Go.Proofs.Tryz.ntmps218
theorem gH :type_of% @Go.Proofs.Tryz.ntmps89:= @Go.Proofs.Tryz.ntmps89
theorem fP :type_of% @Go.Proofs.Tryz.underlying216:= @Go.Proofs.Tryz.underlying216
theorem cV :type_of% @Go.Proofs.Tryz.underlying29:= @Go.Proofs.Tryz.underlying29
theorem gN :type_of% @Go.Proofs.Tryz.underlying3:= @Go.Proofs.Tryz.underlying3
theorem ll :type_of% @Go.Proofs.Tryz.underlying55:= @Go.Proofs.Tryz.underlying55
theorem gj :type_of% @Go.Proofs.Tryz.underlying79:= @Go.Proofs.Tryz.underlying79
theorem eo :type_of% @Go.Proofs.Tryz.underlying9:= @Go.Proofs.Tryz.underlying9
theorem gw :type_of% @UInt8.toNat_inj:= @UInt8.toNat_inj
theorem ep :type_of% @UInt8.toNat_ofNat_of_lt':= @UInt8.toNat_ofNat_of_lt'
theorem df :type_of% @Go.Value.slice.injEq:= @Go.Value.slice.injEq
theorem eJ :type_of% @Go.Value.string.injEq:= @Go.Value.string.injEq
theorem cC :type_of% @Go.World.cell?_of_block:= @Go.World.cell?_of_block
theorem cW :type_of% @Go.World.ownsRow_lit:= @Go.World.ownsRow_lit
theorem bN :type_of% @Go.World.ownsRow_nil:= @Go.World.ownsRow_nil
theorem ik :type_of% @Go.World.putObj_heap_other:= @Go.World.putObj_heap_other
theorem er :type_of% @Go.all_oneCell_toArray:= @Go.all_oneCell_toArray
theorem eK :type_of% @Go.below_setRow:= @Go.below_setRow
theorem ir :type_of% @beq_eq_false_iff_ne:= @beq_eq_false_iff_ne
theorem kf :type_of% @beq_iff_eq:= @beq_iff_eq
theorem cS :type_of% @Go.bodyPost_ret:= @Go.bodyPost_ret
theorem bh :type_of% @Go.cell_of_one:= @Go.cell_of_one
theorem br :type_of% @Go.cell_of_row:= @Go.cell_of_row
theorem jm :type_of% @decide_eq_decide:= @decide_eq_decide
theorem cE :type_of% @decide_eq_false:= @decide_eq_false
theorem fm :type_of% @decide_eq_false_iff_not:= @decide_eq_false_iff_not
theorem de :type_of% @decide_eq_true:= @decide_eq_true
theorem aG :type_of% @decide_eq_true_eq:= @decide_eq_true_eq
theorem eN :type_of% @Go.free_of_one:= @Go.free_of_one
theorem dT :type_of% @Go.frozen_of_row:= @Go.frozen_of_row
theorem aC :type_of% @Go.heap_alloc_new:= @Go.heap_alloc_new
theorem gZ :type_of% @Go.heap_setCell_same:= @Go.heap_setCell_same
theorem iZ :type_of% @Go.leaves_cons:= @Go.leaves_cons
theorem am :type_of% @Go.lt_of_block:= @Go.lt_of_block
theorem iF :type_of% @Go.mem_ready:= @Go.mem_ready
theorem eS :type_of% @of_decide_eq_true:= @of_decide_eq_true
theorem gI :type_of% @Go.results_none:= @Go.results_none
theorem eu :type_of% @Go.setRow_heap:= @Go.setRow_heap
theorem fU :type_of% @Go.u32_xor_nat:= @Go.u32_xor_nat
theorem el :type_of% @Go.wpList_load_mid:= @Go.wpList_load_mid
theorem gJ :type_of% @Go.wpList_plain:= @Go.wpList_plain
theorem dF :type_of% @Go.wpList_store_row:= @Go.wpList_store_row
end
section
open Go
section
variable {P : Program} {ops : Array Oper} {md : Region.Mode} {w : World}
def Fl (md:Region.Mode) (ops:Array Oper) (m:Nat):Bool:=
 ((List.range m).all fun i=>decide (ops.size<=m) || (List.range (m+1)).any fun j=>decide (i<j) && Region.waitsFor md ops j i) &&
 ((List.range ops.size).all fun t=>decide (t<=m) || (List.range t).any fun u=>decide (m<=u) && Region.waitsFor md ops t u)
theorem uz {m:Nat} {listed:Array Bool} (hc:Fl md ops m=true) (inv:HeadInv md ops m listed):
  ∀(d i:Nat),m-i=d->i<m->listed.getD i true=false-> ∀t,m<=t->t∉Region.ready md ops listed:=by
 simp only[Fl,aE]at hc;obtain⟨hs,hx⟩:=hc;intro d
 induction d using Nat.strongRecOn with
 | _ d ih=>
  intro i hd hi hw t ht hr;obtain⟨_,ot,hh,ha⟩:=iF.1 hr;have hk:t<ops.size:=(aN.1 hh).1
  rcases dN m t with hA | hA
  ·have h1:=cB.1 hx t (eh.2 hk);simp only[gU,aG]at h1
   rcases h1 with h1 | h1
   ·omega
   ·obtain⟨u,hu,hn⟩:=List.any_eq_true.1 h1;simp only[aE,aG]at hn;obtain⟨o',hz,e,he,hb,hf⟩:=Region.waitsFor_spec hn.2;have ho:o'=ot:=bt (hz.symm.trans hh);subst ho;have h2:=ha e he hb;rw[hf,getD_both (inv.tail u hn.1 (by have:=eh.1 hu; omega))]at h2
    cases h2
  ·have hm:t=m:=by omega
   subst hm;have h1:=cB.1 hs i (eh.2 hi);simp only[gU,aG]at h1
   rcases h1 with h1 | h1
   ·omega
   ·obtain⟨j,hj,hp⟩:=List.any_eq_true.1 h1;simp only[aE,aG]at hp;obtain⟨oj,hv,e,he,hb,hf⟩:=Region.waitsFor_spec hp.2;have hy:=eh.1 hj
    rcases dN j t with hq | hq
    ·cases hl:listed.getD j false with
     | true=>
      have h2:=inv.closed j oj hv hl e he hb;rw[hf,getD_both hw]at h2
      cases h2
     | false=>
      exact ih (t-j) (by omega) j rfl hq (getD_in (by rw[inv.size]; omega) hl) t (ah _) hr
    ·have hg:j=t:=by omega
     subst hg;have ho:oj=ot:=bt (hv.symm.trans hh);subst ho;have h2:=ha e he hb;rw[hf,getD_both hw]at h2
     cases h2
theorem Lj {m i:Nat} {oi:Oper} {v:Value} {L:Array Bool->Act->Prop} (hi:ops[i]? =some oi) (hsel: ∀(j:Nat) (o:Oper) cs b,ops[j]? =some o->o.op≠ .select cs b)
  (hc:Fl md ops m=true) (hin:i<m) (hdone: ∀listed a,L listed a-> ∀j∈Region.ready md ops listed,m<=j):
  ∀(f:Nat) (listed:Array Bool) (a:Act),HeadInv md ops m listed->
   (∀j oj,ops[j]? =some oj->j≠i->listed.getD j true=false->(∀e∈oj.after,Region.binds md e=true->e.on≠i)->oi.apart ops oj=true)->
   i∈Region.ready md ops listed->YieldsAt P ops w oi v a->
   wpAnyL P md ops w m L f (listed.setIfInBounds i true) (a.put oi.dst v)->wpAnyL P md ops w m L (f+1) listed a:=by
 intro f
 induction f with
 | zero=>
  intro listed a inv _ hr hy H;have hl:=(iF.1 hr).1;refine⟨List.ne_nil_of_mem hr,fun j hj=> ?_⟩;have hh:j<m:=Nat.lt_of_not_le fun h=>uz hc inv _ i rfl hin hl j h hj
  refine⟨hh, ?_⟩
  by_cases hd:j=i
  ·subst hd; exact hy.stOp hi H
  ·have:=hdone _ _ H j (ready_mono hj hd);omega
 | succ f ih=>
  intro listed a inv ha hr hy H;have hl:=(iF.1 hr).1;refine⟨List.ne_nil_of_mem hr,fun j hj=> ?_⟩;have hh:j<m:=Nat.lt_of_not_le fun h=>uz hc inv _ i rfl hin hl j h hj
  refine⟨hh, ?_⟩
  by_cases hd:j=i
  ·subst hd; exact hy.stOp hi H
  ·have h1:=(H.2 j (ready_mono hj hd)).2;obtain⟨hf,oj,ho,hm⟩:=iF.1 hj;have hn: ∀e∈oj.after,Region.binds md e=true->e.on≠i:=fun e he hb hq=>by
    have h1:=hm e he hb;rw[hq,getD_both hl]at h1
    cases h1
   have h2:=stOp_put ho (ha j oj ho hd hf hn) (fun cs b=>hsel i oi cs b hi) (fun cs b=>hsel j oj cs b ho) hy h1;refine stOp_mono (fun a' h3=>ih (listed.setIfInBounds j true) a' (inv.set hj hh) (fun k ok hk hs hg hu=> ?_) (ready_mono hr (ks hd)) h3.1 ?_) h2
   ·refine ha k ok hk hs ?_ hu
    by_cases hp:j=k
    ·subst hp; exact hf
    ·rw[getD_set_ne true hp]at hg; exact hg
   ·rw[Array.setIfInBounds_comm _ _ hd];exact h3.2
def BD :Nat->Nat->Array Bool->Array Bool
 | 0,_,listed=>listed
 | n+1,k,listed=>BD n (k+1) (listed.setIfInBounds k true)
def PQ (md:Region.Mode) (ops:Array Oper):Nat->Nat->Array Bool->Bool
 | 0,k,listed=>(Region.ready md ops listed).all fun j=>decide (k<=j)
 | n+1,k,listed=>(Region.ready md ops listed).contains k && Region.free md ops listed k && PQ md ops n (k+1) (listed.setIfInBounds k true)
theorem Jk {m:Nat} {Lq:Act->Prop} (hsel:Region.noSelect ops=true) (hc:Fl md ops m=true) (LM:Array Bool):
  ∀(l:List Oper) (k:Nat) (listed:Array Bool) (a:Act),(∀j,j<l.length->l[j]? =ops[k+j]?)->k+l.length=m->HeadInv md ops m listed->
  PQ md ops l.length k listed=true->BD l.length k listed=LM->wpStill P ops w Lq l a->
  wpAnyL P md ops w m (fun listed' a'=>listed'=LM/\Lq a') l.length listed a/\ ∀j∈Region.ready md ops LM,m<=j
 | [],k,listed,a,_,hk,_,hB,hL,h=>by
  have hkm:k=m:=by simpa using hk
  subst hkm;have he:listed=LM:=hL;subst he;refine⟨⟨rfl,h⟩,fun j hj=> ?_⟩;have:=cB.1 hB j hj
  simpa using this
 | o::l,k,listed,a,hl,hk,inv,hB,hL,h=>by
  have h0:ops[k]? =some o:=by simpa using (hl 0 (by simp)).symm
  simp only[ay,PQ,aE]at hB;obtain⟨⟨hr,hf⟩,hb⟩:=hB;have hkm:k<m:=by simp only[ay]at hk; omega
  have ha:k∈Region.ready md ops listed:=by simpa using hr
  have hg:stOp P ops w k (wpStill P ops w Lq l) a:=by unfold stOp; simp only[h0]; exact h
  obtain⟨v,hy,hK⟩:=yieldsAt_of_stOp h0 hg;have IH:=Jk hsel hc LM l (k+1) _ _ (fun j hj=>by have:=hl (j+1) (by simp; omega); simpa [Nat.add_assoc,Nat.add_comm 1 j]using this) (by simp only[ay]at hk; omega) (inv.set ha hkm) hb hL hK;refine⟨Lj h0 (Region.noSelect_spec hsel) hc hkm (fun listed' a' hd=> ?_) l.length listed a inv (Region.free_spec h0 hf) ha hy IH.1,IH.2⟩
  rw[hd.1]; exact IH.2
def MN (md:Region.Mode) (ops:Array Oper) (m:Nat) (listed:Array Bool):Bool:=
 decide (listed.size=ops.size) &&
 ((List.range ops.size).all fun j=> !listed.getD j false || match ops[j]? with | some oj=>oj.after.all (fun e=> !Region.binds md e || listed.getD e.on false) | none=>true) &&
 ((List.range ops.size).all fun t=>decide (t<m) || !listed.getD t true)
theorem FA {m:Nat} {listed:Array Bool} (h:MN md ops m listed=true):HeadInv md ops m listed:=by
 simp only[MN,aE,aG]at h;obtain⟨⟨h1,h2⟩,h3⟩:=h;refine⟨h1,fun j oj hj hl e he hb=> ?_,fun t ht ha=> ?_⟩
 ·have:=cB.1 h2 j (eh.2 (aN.1 hj).1);rw[hl,hj]at this;simp only[Bool.not_true,Bool.false_or]at this;have:=Array.all_eq_true'.1 this e he;rw[hb]at this
  simpa using this
 ·have:=cB.1 h3 t (eh.2 ha);simp only[gU,aG]at this
  rcases this with h | h
  ·omega
  ·simpa using h
def yo (md:Region.Mode) (ops:Array Oper):List (Option Nat)->Nat->Array Bool->Bool
 | [],k,listed=>decide (k=ops.size) && (Region.ready md ops listed).isEmpty
 | some n::s,k,listed=>decide (k+n<=ops.size) && Fl md ops (k+n) && MN md ops (k+n) listed && PQ md ops n k listed && yo md ops s (k+n) (BD n k listed)
 | none::s,k,listed=>decide (k<ops.size) && decide (Region.ready md ops listed=[k]) && yo md ops s (k+1) (listed.setIfInBounds k true)
@[irreducible] def Cr (P:Program) (ops:Array Oper) (w:World) (Q:Act->Prop) (l:List Oper) (a:Act):Prop:=wpStill P ops w Q l a
theorem Cr.out {Q:Act->Prop} {l:List Oper} {a:Act} (h:Cr P ops w Q l a):wpStill P ops w Q l a:=by unfold Cr at h; exact h
theorem Cr.of {Q:Act->Prop} {l:List Oper} {a:Act} (h:wpStill P ops w Q l a):Cr P ops w Q l a:=by unfold Cr; exact h
@[irreducible] def yP (P:Program) (ops:Array Oper) (next:Act->World->Prop) (Q:Exit->Act->World->Prop) (l:List Oper) (a:Act) (w:World):Prop:=wpList P ops (Exit.then next Q) l a w
theorem yP.out {next:Act->World->Prop} {Q:Exit->Act->World->Prop} {l:List Oper} {a:Act} (h:yP P ops next Q l a w):wpList P ops (Exit.then next Q) l a w:=by unfold yP at h; exact h
theorem yP.of {next:Act->World->Prop} {Q:Exit->Act->World->Prop} {l:List Oper} {a:Act} (h:wpList P ops (Exit.then next Q) l a w):yP P ops next Q l a w:=by unfold yP; exact h
def ef (P:Program) (ops:Array Oper) (Q:Exit->Act->World->Prop):List (Option Nat)->List Oper->Act->World->Prop
 | [],_,a,w=>Q .normal a w
 | some n::s,l,a,w=>Cr P ops w (fun a'=>ef P ops Q s (l.drop n) a' w) (l.take n) a
 | none::s,l,a,w=>yP P ops (fun a' w'=>ef P ops Q s (l.drop 1) a' w') Q (l.take 1) a w
theorem px {Q:Exit->Act->World->Prop} (hsel:Region.noSelect ops=true): ∀(s:List (Option Nat)) (l:List Oper) (k:Nat) (listed:Array Bool) (a:Act) (w:World),
  (∀j,l[j]? =ops[k+j]?)->yo md ops s k listed=true->ef P ops Q s l a w->wpAny P md ops Q (ops.size-k) listed a w
 | [],l,k,listed,a,w,hl,hB,h=>by simp only[yo,aE,aG]at hB;rw[hB.1,fa];exact⟨by simpa using hB.2,h⟩
 | some n::s,l,k,listed,a,w,hl,hB,h=>by
  simp only[yo,aE,aG]at hB;obtain⟨⟨⟨⟨hn,hc⟩,hh⟩,hs⟩,hB'⟩:=hB;have hll:l.length=ops.size-k:=by
   have h1: ∀j,j<l.length<->k+j<ops.size:=fun j=>by
    constructor
    ·intro hj; have:=hl j; rw[bn hj]at this; exact(aN.1 this.symm).1
    ·intro hj; have:=hl j; rw[Array.getElem?_eq_getElem hj]at this; exact(aA.1 this).1
   rcases Nat.lt_trichotomy l.length (ops.size-k)with h2 | h2 | h2
   ·have:=(h1 l.length).2 (by omega); omega
   ·exact h2
   ·have:=(h1 (ops.size-k)).1 h2; omega
  have ha:(l.take n).length=n:=by simp; omega
  have H:=Jk (P:=P) (md:=md) (w:=w) hsel hc (BD n k listed) (l.take n) k listed a (fun j hj=>by rw[ha]at hj;rw[eF,if_pos hj]; exact hl j) (by rw[ha]) (FA hh) (by rw[ha]; exact hs) (by rw[ha]) (Cr.out h)
  have:=wpAny_of_head (Q':=Q) (g:=ops.size-(k+n)) (fun listed' a' hL=>by rw[hL.1];exact px hsel s (l.drop n) (k+n) _ a' w (fun j=>by rw[fN,hl,dp]) hB' hL.2) _ _ _ H.1
  rw[ha,show n+(ops.size-(k+n))=ops.size-k by omega]at this;exact this
 | none::s,l,k,listed,a,w,hl,hB,h=>by
  simp only[yo,aE,aG]at hB;obtain⟨⟨hk,hr⟩,hB'⟩:=hB;obtain⟨o,ho⟩: ∃o,ops[k]? =some o:=⟨ops[k],by simp[hk]⟩;have h0:l[0]? =some o:=by rw[hl]; exact ho
  obtain⟨l',rfl⟩: ∃l',l=o::l':=by
   cases l with
   | nil=>simp at h0
   | cons x y=>simp at h0; exact⟨y,by rw[h0]⟩
  rw[show ops.size-k=(ops.size-(k+1))+1 by omega];refine⟨fun h1=>(by rw[hr]at h1; cases h1),fun i hi=> ?_⟩;rw[hr]at hi;have hb:i=k:=by simpa using hi
  subst hb;have hw:wpOp P ops Q i (fun a' w'=>ef P ops Q s l' a' w') a w:=by unfold wpOp;simp only[ho];exact yP.out h
  exact wpOp_mono (fun a' w' h'=>px hsel s l' (i+1) _ a' w' (fun j=>by have:=hl (j+1); simpa [Nat.add_assoc,Nat.add_comm 1 j]using this) hB' h') hw
theorem bL {id:Nat} {Q:Exit->Act->World->Prop} {a:Act} {w:World} {l:List Oper} (s:List (Option Nat)) (hm:P.follows .mixedOrders=true) (hsel:Region.noSelect l.toArray=true)
  (hB:yo .any l.toArray s 0 (Array.replicate l.toArray.size false)=true) (h:ef P l.toArray Q s l a w.drew):(Code.region id l.toArray true).wp P Q a w:=by
 refine wp_region_any hm ?_;have:=px (md:= .any) (P:=P) (Q:=Q) hsel s l 0 _ a w.drew (by simp) hB h
 simpa using this
theorem cO {Q:Act->Prop} {a:Act} (h:Q a):Cr P ops w Q [] a:=Cr.of h
theorem cy {Q:Act->Prop} {a:Act} {o:Oper} {rest:List Oper} (hw:Region.wanted o (yielded ops a.tmps)=false) (h:Cr P ops w Q rest (a.put o.dst undef)):Cr P ops w Q (o::rest) a:=by refine Cr.of ?_;unfold wpStill; rw[hw]; exact h.out
theorem cP {Q:Act->Prop} {a:Act} {dst:Option Tmp} {op:Op} {ty:TypeId} {pos:String} {aft:Array Edge} {g:Option (Nat×Bool)} {rest:List Oper} (hw:Region.wanted ⟨dst,op,ty,pos,aft,g⟩ (yielded ops a.tmps)=true)
  (h: ∀K:Act->Prop,(∀a,Cr P ops w Q rest a->K a)->Oper.still P ⟨dst,op,ty,pos, #[],none⟩ a w K):Cr P ops w Q (⟨dst,op,ty,pos,aft,g⟩::rest) a:=by
 refine Cr.of ?_;unfold wpStill; rw[hw]; exact h _ (fun _ h=>h.out)
theorem wI {Q:Exit->Act->World->Prop} {next:Act->World->Prop} {a:Act} {o:Oper} (hw:Region.wanted o (yielded ops a.tmps)=false) (h:next (a.put o.dst undef) w):yP P ops next Q [o] a w:=by refine yP.of ?_;unfold wpList; rw[hw]; exact h
theorem eE {Q:Exit->Act->World->Prop} {next:Act->World->Prop} {a:Act} {dst:Option Tmp} {op:Op} {ty:TypeId} {pos:String} {aft:Array Edge} {g:Option (Nat×Bool)} (hw:Region.wanted ⟨dst,op,ty,pos,aft,g⟩ (yielded ops a.tmps)=true)
  (h: ∀K:Act->World->Prop,(∀a w,next a w->K a w)->wpList P #[] (Exit.then K Q) [⟨dst,op,ty,pos, #[],none⟩] a w):yP P ops next Q [⟨dst,op,ty,pos,aft,g⟩] a w:=by
 refine yP.of ?_;have:=h _ (fun _ _ h=>h);unfold wpList at this ⊢;rw[hw];simp only[Region.wanted,if_true]at this;exact this
end
end
section
def gQ (x s:Nat):Nat:=(x*2^s%4294967296) ||| (x/2^(32-s))
def Lp (x:Nat):Nat:=(gQ x 15^^^gQ x 13)^^^(x/2^10)
def Lo (x:Nat):Nat:=(gQ x 25^^^gQ x 14)^^^(x/2^3)
def rh (l:List Nat):Nat:=(((Lp (l.getD (l.length-2) 0)+l.getD (l.length-7) 0)%4294967296+Lo (l.getD (l.length-15) 0))%4294967296+l.getD (l.length-16) 0)%4294967296
def ou :Nat->List Nat->List Nat
 | 0,l=>l
 | n+1,l=>ou n (l++[rh l])
def ET (a b c d:UInt8):Nat:=(((a.toNat*2^24%4294967296) ||| (b.toNat*2^16%4294967296)) ||| (c.toNat*2^8%4294967296)) ||| d.toNat
def Bp (b:List UInt8) (t:Nat):Nat:=ET (b.getD (4*t) 0) (b.getD (4*t+1) 0) (b.getD (4*t+2) 0) (b.getD (4*t+3) 0)
def qz (b:List UInt8) (n:Nat):List Nat:=(List.range n).map (Bp b)
structure V8 where
 a:Nat
 b:Nat
 c:Nat
 d:Nat
 e:Nat
 f:Nat
 g:Nat
 h:Nat
def kc :List Nat:=[0x428a2f98,0x71374491,0xb5c0fbcf,0xe9b5dba5,0x3956c25b,0x59f111f1,0x923f82a4,0xab1c5ed5,
 0xd807aa98,0x12835b01,0x243185be,0x550c7dc3,0x72be5d74,0x80deb1fe,0x9bdc06a7,0xc19bf174,
 0xe49b69c1,0xefbe4786,0x0fc19dc6,0x240ca1cc,0x2de92c6f,0x4a7484aa,0x5cb0a9dc,0x76f988da,
 0x983e5152,0xa831c66d,0xb00327c8,0xbf597fc7,0xc6e00bf3,0xd5a79147,0x06ca6351,0x14292967,
 0x27b70a85,0x2e1b2138,0x4d2c6dfc,0x53380d13,0x650a7354,0x766a0abb,0x81c2c92e,0x92722c85,
 0xa2bfe8a1,0xa81a664b,0xc24b8b70,0xc76c51a3,0xd192e819,0xd6990624,0xf40e3585,0x106aa070,
 0x19a4c116,0x1e376c08,0x2748774c,0x34b0bcb5,0x391c0cb3,0x4ed8aa4a,0x5b9cca4f,0x682e6ff3,
 0x748f82ee,0x78a5636f,0x84c87814,0x8cc70208,0x90befffa,0xa4506ceb,0xbef9a3f7,0xc67178f2]
def OI (v:V8) (k w:Nat):Nat:=((((v.h+((gQ v.e 26^^^gQ v.e 21)^^^gQ v.e 7))%4294967296+((v.e &&& v.f)^^^((4294967295-v.e) &&& v.g)))%4294967296+k)%4294967296+w)%4294967296
def t2P (v:V8):Nat:=(((gQ v.a 30^^^gQ v.a 19)^^^gQ v.a 10)+(((v.a &&& v.b)^^^(v.a &&& v.c))^^^(v.b &&& v.c)))%4294967296
def Gm (v:V8) (k w:Nat):V8:=⟨(OI v k w+t2P v)%4294967296,v.a,v.b,v.c,(v.d+OI v k w)%4294967296,v.e,v.f,v.g⟩
def ua (l:List (Nat×Nat)) (v:V8):V8:=l.foldl (fun v p=>Gm v p.1 p.2) v
def uq (x y:Nat):Nat:=(x+y)%4294967296
def BB (v u:V8):V8:=⟨uq v.a u.a,uq v.b u.b,uq v.c u.c,uq v.d u.d,uq v.e u.e,uq v.f u.f,uq v.g u.g,uq v.h u.h⟩
def wsP (b:List UInt8):List Nat:=ou 48 (qz b 16)
def sF (v:V8) (b:List UInt8):V8:=BB v (ua (kc.zip (wsP b)) v)
def qx :V8:=⟨0x6a09e667,0xbb67ae85,0x3c6ef372,0xa54ff53a,0x510e527f,0x9b05688c,0x1f83d9ab,0x5be0cd19⟩
def jY (l:List UInt8):Nat->V8
 | 0=>qx
 | k+1=>sF (jY l k) ((l.drop (64*k)).take 64)
def BC (x:Nat):List UInt8:=[UInt8.ofNat (x/2^24),UInt8.ofNat (x/2^16),UInt8.ofNat (x/2^8),UInt8.ofNat x]
def nR (x:Nat):List UInt8:=[UInt8.ofNat (x/2^56),UInt8.ofNat (x/2^48),UInt8.ofNat (x/2^40),UInt8.ofNat (x/2^32),UInt8.ofNat (x/2^24),UInt8.ofNat (x/2^16),UInt8.ofNat (x/2^8),UInt8.ofNat x]
def iT (n:Nat):Nat:=(119-n%64)%64
def pN (n:Nat):List UInt8:=128::List.replicate (iT n) 0++nR (n*8%18446744073709551616)
def V8.list (v:V8):List Nat:=[v.a,v.b,v.c,v.d,v.e,v.f,v.g,v.h]
def V8.out (v:V8):List UInt8:=v.list.flatMap BC
def qv (l:List UInt8):List UInt8:=(jY (l++pN l.length) ((l++pN l.length).length/64)).out
def ja (k:List UInt8):List UInt8:=(if 64<k.length then qv k else k)++List.replicate (64-(if 64<k.length then qv k else k).length) 0
def zq (k l:List UInt8):List UInt8:=qv ((ja k).map (fun x=>x^^^0x5c)++qv ((ja k).map (fun x=>x^^^0x36)++l))
theorem qo {x y:Nat} (hx:x<4294967296) (hy:y<4294967296):x ||| y<4294967296:=Nat.or_lt_two_pow (n:=32) hx hy
theorem rC {x y:Nat} (hx:x<4294967296) (hy:y<4294967296):x^^^y<4294967296:=Nat.xor_lt_two_pow (n:=32) hx hy
theorem nQ {x:Nat} (y:Nat) (hx:x<4294967296):x &&& y<4294967296:=dM Nat.and_le_left hx
theorem jo {x:Nat} (s:Nat) (hx:x<4294967296):gQ x s<4294967296:=qo (cZ _ (by decide)) (dM (fc _ _) hx)
theorem Ni (l:List Nat):rh l<4294967296:=cZ _ (by decide)
theorem Io {x:Nat} (b:UInt8) (h:x=b.toNat):x<4294967296:=by have:=b.toNat_lt; omega
theorem OC (a b c d:UInt8):ET a b c d<4294967296:=qo (qo (qo (cZ _ (by decide)) (cZ _ (by decide))) (cZ _ (by decide))) (Io _ rfl)
theorem OD (b:List UInt8) (t:Nat):Bp b t<4294967296:=OC _ _ _ _
def Jv (l:List Nat):Prop:= ∀x∈l,x<4294967296
theorem Jv.get {l:List Nat} (h:Jv l) (k:Nat):l.getD k 0<4294967296:=by
 rw[cL]
 cases hk:l[k]? with
 | none=>simp
 | some x=>exact h x (aM hk)
theorem yN (b:List UInt8) (n:Nat):(qz b n).length=n:=by simp[qz]
theorem Bq (b:List UInt8) (n:Nat):Jv (qz b n):=by intro x hx;obtain⟨t,_,rfl⟩:=aQ.1 hx;exact OD b t
theorem EU (b:List UInt8) (n:Nat):qz b (n+1)=qz b n++[Bp b n]:=by simp[qz,List.range_succ]
theorem vJ : ∀(n:Nat) (l:List Nat),ou (n+1) l=ou n l++[rh (ou n l)]
 | 0,_=>rfl
 | n+1,l=>by rw[ou,vJ n (l++[rh l])]; rfl
theorem ym : ∀(n:Nat) (l:List Nat),(ou n l).length=l.length+n
 | 0,_=>rfl
 | n+1,l=>by rw[ou,ym n]; simp; omega
theorem AZ : ∀(n:Nat) {l:List Nat},Jv l->Jv (ou n l)
 | 0,_,h=>h
 | n+1,l,h=>by
  rw[ou];refine AZ n (fun x hx=> ?_)
  rcases aP.1 hx with hx | hx
  ·exact h x hx
  ·rw[aL.1 hx]; exact Ni l
def tp (b:List UInt8) (t:Nat):List Nat:=if t<=16 then qz b t else ou (t-16) (qz b 16)
theorem pg (b:List UInt8) (t:Nat):(tp b t).length=t:=by
 unfold tp; split
 ·exact yN b t
 ·rw[ym,yN]; omega
theorem Cn (b:List UInt8) (t:Nat):Jv (tp b t):=by
 unfold tp; split
 ·exact Bq b t
 ·exact AZ _ (Bq b 16)
theorem Jp (b:List UInt8) {t:Nat} (h:t<16):tp b (t+1)=tp b t++[Bp b t]:=by unfold tp; rw[if_pos (by omega),if_pos (by omega),EU]
theorem ER (b:List UInt8) {t:Nat} (h:16<=t):tp b (t+1)=tp b t++[rh (tp b t)]:=by
 unfold tp; rw[if_neg (by omega)]
 by_cases ht:t=16
 ·subst ht; rw[if_pos (by decide)]; rfl
 ·rw[if_neg (by omega),show t+1-16=(t-16)+1 by omega,vJ]
theorem Cm (b:List UInt8):tp b 64=wsP b:=by unfold tp wsP; rw[if_neg (by decide)]
theorem Js (b:List UInt8):(wsP b).length=64:=by rw[<-Cm]; exact pg b 64
theorem BR :kc.length=64:=rfl
structure V8.Ok (v : V8) : Prop where
 a:v.a<4294967296
 b:v.b<4294967296
 c:v.c<4294967296
 d:v.d<4294967296
 e:v.e<4294967296
 f:v.f<4294967296
 g:v.g<4294967296
 h:v.h<4294967296
theorem PO {v:V8} (h:v.Ok) (k w:Nat):(Gm v k w).Ok:=⟨cZ _ (by decide),h.a,h.b,h.c,cZ _ (by decide),h.e,h.f,h.g⟩
theorem NP (l:List (Nat×Nat)): ∀ {v:V8},v.Ok->(ua l v).Ok:=by
 induction l with
 | nil=>intro v h; exact h
 | cons p l ih=>
  intro v h;unfold ua at ih ⊢;rw[ei];exact ih (PO h p.1 p.2)
theorem Gn (l:List (Nat×Nat)) (p:Nat×Nat) (v:V8):ua (l++[p]) v=Gm (ua l v) p.1 p.2:=by unfold ua; rw[dW,ei,List.foldl_nil]
theorem OX (v u:V8):(BB v u).Ok:=by constructor<;> exact cZ _ (by decide)
theorem LB :qx.Ok:=by constructor<;> decide
theorem NE (v:V8) (b:List UInt8):(sF v b).Ok:=OX _ _
theorem tD (l:List UInt8): ∀k,(jY l k).Ok
 | 0=>LB
 | _+1=>NE _ _
def rTo (b:List UInt8) (v:V8) (t:Nat):V8:=ua ((kc.zip (wsP b)).take t) v
theorem Gh (b:List UInt8) {v:V8} (t:Nat) (h:v.Ok):(rTo b v t).Ok:=NP _ h
theorem getD_some {l:List Nat} {t:Nat} (h:t<l.length):l[t]? =some (l.getD t 0):=by simp[List.getD_eq_getElem?_getD,h]
theorem OH {x y:List Nat} {t:Nat} (h1:t<x.length) (h2:t<y.length):(x.zip y)[t]? =some (x.getD t 0,y.getD t 0):=by rw[List.getElem?_zip_eq_some];exact⟨getD_some h1,getD_some h2⟩
theorem KT {x y:List Nat} (v:V8) {t:Nat} (h1:t<x.length) (h2:t<y.length):ua ((x.zip y).take (t+1)) v=Gm (ua ((x.zip y).take t) v) (x.getD t 0) (y.getD t 0):=by rw[cw,OH h1 h2,Option.toList_some,Gn]
theorem Ej (b:List UInt8) (v:V8) {t:Nat} (h:t<64):rTo b v (t+1)=Gm (rTo b v t) (kc.getD t 0) ((wsP b).getD t 0):=
 KT v (by rw[BR]; exact h) (by rw[Js]; exact h)
theorem Eh (v:V8) (b:List UInt8):sF v b=BB v (rTo b v 64):=by unfold sF rTo; rw[bo (by rw[List.length_zip,Js,BR]; decide)]
theorem tC {l:List UInt8} (r:List UInt8): ∀ {k:Nat},64*k<=l.length->jY (l++r) k=jY l k
 | 0,_=>rfl
 | k+1,h=>by
  rw[jY,jY,tC r (k:=k) (by omega)]
  congr 1
  rw[fG (by omega),fH (by rw[bz]; omega)]
theorem Ik (x:Nat):(BC x).length=4:=rfl
theorem IX (v:V8):v.out.length=32:=by simp[V8.out,V8.list,BC]
theorem uf (l:List UInt8):(qv l).length=32:=by unfold qv; exact IX _
theorem EJ (k l:List UInt8):(zq k l).length=32:=by unfold zq; exact uf _
theorem xW (n:Nat):(pN n).length=1+iT n+8:=by unfold pN nR; simp; omega
theorem KK (l:List UInt8):(l++pN l.length).length%64=0:=by rw[ai,xW]; unfold iT; omega
theorem jy (k:List UInt8):(ja k).length=64:=by
 unfold ja; rw[ai,List.length_replicate]
 by_cases h:64<k.length
 ·rw[if_pos h,uf]
 ·rw[if_neg h]; omega
open Go Go.RowKit
def fp (x:Nat):Value:= .int .u32 (x:Int)
theorem km {x a b:Nat} {s:Nat} (ha:2^s=a) (hb:2^(32-s)=b) (hx:x<4294967296):bits .or .u32 ((x:Int)*(a:Int)%4294967296) ((x:Int)/(b:Int))=((gQ x s:Nat):Int):=by
 rw[show((x:Int)*(a:Int)%4294967296)=((x*a%4294967296:Nat):Int) by simp,show((x:Int)/(b:Int))=((x/b:Nat):Int) by simp,
  u32_or_nat _ _ (cZ _ (by decide)) (dM (fc _ _) hx)]
 unfold gQ; rw[ha,hb]
theorem KZ (x:Nat) (w:World) (hx:x<4294967296):Calls Tryz.prog 198 #[.int .u32 (x:Int), .int .i64 (-17)] w fun e w'=>e= .returned (.int .u32 ((gQ x 15:Nat):Int))/\w=w':=by
 have h1:bits BinOp.and IntKind.u64 (IntKind.u64.wrap (-17)) 31=15:=by decide+kernel
 go_enter gF,fS
 go_wp2_with fail;go_ret;refine⟨?_,rfl⟩;rw[<-km (a:=32768) (b:=131072) (by decide) (by decide) hx]
 rfl
theorem KX (x:Nat) (w:World) (hx:x<4294967296):Calls Tryz.prog 198 #[.int .u32 (x:Int), .int .i64 (-19)] w fun e w'=>e= .returned (.int .u32 ((gQ x 13:Nat):Int))/\w=w':=by
 have h1:bits BinOp.and IntKind.u64 (IntKind.u64.wrap (-19)) 31=13:=by decide+kernel
 go_enter gF,fS
 go_wp2_with fail;go_ret;refine⟨?_,rfl⟩;rw[<-km (a:=8192) (b:=524288) (by decide) (by decide) hx]
 rfl
theorem Lc (x:Nat) (w:World) (hx:x<4294967296):Calls Tryz.prog 198 #[.int .u32 (x:Int), .int .i64 (-7)] w fun e w'=>e= .returned (.int .u32 ((gQ x 25:Nat):Int))/\w=w':=by
 have h1:bits BinOp.and IntKind.u64 (IntKind.u64.wrap (-7)) 31=25:=by decide+kernel
 go_enter gF,fS
 go_wp2_with fail;go_ret;refine⟨?_,rfl⟩;rw[<-km (a:=33554432) (b:=128) (by decide) (by decide) hx]
 rfl
theorem KY (x:Nat) (w:World) (hx:x<4294967296):Calls Tryz.prog 198 #[.int .u32 (x:Int), .int .i64 (-18)] w fun e w'=>e= .returned (.int .u32 ((gQ x 14:Nat):Int))/\w=w':=by
 have h1:bits BinOp.and IntKind.u64 (IntKind.u64.wrap (-18)) 31=14:=by decide+kernel
 go_enter gF,fS
 go_wp2_with fail;go_ret;refine⟨?_,rfl⟩;rw[<-km (a:=16384) (b:=262144) (by decide) (by decide) hx]
 rfl
theorem Ld (x:Nat) (w:World) (hx:x<4294967296):Calls Tryz.prog 198 #[.int .u32 (x:Int), .int .i64 (-6)] w fun e w'=>e= .returned (.int .u32 ((gQ x 26:Nat):Int))/\w=w':=by
 have h1:bits BinOp.and IntKind.u64 (IntKind.u64.wrap (-6)) 31=26:=by decide+kernel
 go_enter gF,fS
 go_wp2_with fail;go_ret;refine⟨?_,rfl⟩;rw[<-km (a:=67108864) (b:=64) (by decide) (by decide) hx]
 rfl
theorem Lb (x:Nat) (w:World) (hx:x<4294967296):Calls Tryz.prog 198 #[.int .u32 (x:Int), .int .i64 (-11)] w fun e w'=>e= .returned (.int .u32 ((gQ x 21:Nat):Int))/\w=w':=by
 have h1:bits BinOp.and IntKind.u64 (IntKind.u64.wrap (-11)) 31=21:=by decide+kernel
 go_enter gF,fS
 go_wp2_with fail;go_ret;refine⟨?_,rfl⟩;rw[<-km (a:=2097152) (b:=2048) (by decide) (by decide) hx]
 rfl
theorem NQ (x:Nat) (w:World) (hx:x<4294967296):Calls Tryz.prog 198 #[.int .u32 (x:Int), .int .i64 (-25)] w fun e w'=>e= .returned (.int .u32 ((gQ x 7:Nat):Int))/\w=w':=by
 have h1:bits BinOp.and IntKind.u64 (IntKind.u64.wrap (-25)) 31=7:=by decide+kernel
 go_enter gF,fS
 go_wp2_with fail;go_ret;refine⟨?_,rfl⟩;rw[<-km (a:=128) (b:=33554432) (by decide) (by decide) hx]
 rfl
theorem Le (x:Nat) (w:World) (hx:x<4294967296):Calls Tryz.prog 198 #[.int .u32 (x:Int), .int .i64 (-2)] w fun e w'=>e= .returned (.int .u32 ((gQ x 30:Nat):Int))/\w=w':=by
 have h1:bits BinOp.and IntKind.u64 (IntKind.u64.wrap (-2)) 31=30:=by decide+kernel
 go_enter gF,fS
 go_wp2_with fail;go_ret;refine⟨?_,rfl⟩;rw[<-km (a:=1073741824) (b:=4) (by decide) (by decide) hx]
 rfl
theorem La (x:Nat) (w:World) (hx:x<4294967296):Calls Tryz.prog 198 #[.int .u32 (x:Int), .int .i64 (-13)] w fun e w'=>e= .returned (.int .u32 ((gQ x 19:Nat):Int))/\w=w':=by
 have h1:bits BinOp.and IntKind.u64 (IntKind.u64.wrap (-13)) 31=19:=by decide+kernel
 go_enter gF,fS
 go_wp2_with fail;go_ret;refine⟨?_,rfl⟩;rw[<-km (a:=524288) (b:=8192) (by decide) (by decide) hx]
 rfl
theorem KW (x:Nat) (w:World) (hx:x<4294967296):Calls Tryz.prog 198 #[.int .u32 (x:Int), .int .i64 (-22)] w fun e w'=>e= .returned (.int .u32 ((gQ x 10:Nat):Int))/\w=w':=by
 have h1:bits BinOp.and IntKind.u64 (IntKind.u64.wrap (-22)) 31=10:=by decide+kernel
 go_enter gF,fS
 go_wp2_with fail;go_ret;refine⟨?_,rfl⟩;rw[<-km (a:=1024) (b:=4194304) (by decide) (by decide) hx]
 rfl
theorem KD {e:Nat} (h:e<4294967296):4294967295^^^e=4294967295-e:=by
 apply Nat.eq_of_testBit_eq
 intro i;rw[Nat.testBit_xor,show(4294967295:Nat)=2^32-1 by decide,Nat.testBit_two_pow_sub_one,show 2^32-1-e=2^32-(e+1) by omega,Nat.testBit_two_pow_sub_succ (by omega)]
 by_cases hi:i<32
 ·simp[hi]
 ·have:e.testBit i=false:=Nat.testBit_lt_two_pow (aO h (gW (by decide) (by omega):2^32<=2^i));simp[hi,this]
theorem Rg {e:Nat} (h:e<4294967296):bits BinOp.xor IntKind.u32 (if IntKind.u32.signed=true then -1 else IntKind.u32.max) (e:Int)=((4294967295-e:Nat):Int):=by rw[show(if IntKind.u32.signed=true then(-1:Int)else IntKind.u32.max)=((4294967295:Nat):Int) by decide,fU _ _ (by decide) h,KD h]
def s1P (r:V8):Nat:=(gQ r.e 26^^^gQ r.e 21)^^^gQ r.e 7
def chP (r:V8):Nat:=(r.e &&& r.f)^^^((4294967295-r.e) &&& r.g)
def s0P (r:V8):Nat:=(gQ r.a 30^^^gQ r.a 19)^^^gQ r.a 10
def mjP (r:V8):Nat:=((r.a &&& r.b)^^^(r.a &&& r.c))^^^(r.b &&& r.c)
theorem Jj {r:V8} (h:r.Ok):bits BinOp.xor IntKind.u32 (bits BinOp.xor IntKind.u32 ((gQ r.e 26:Nat):Int) ((gQ r.e 21:Nat):Int)) ((gQ r.e 7:Nat):Int)=((s1P r:Nat):Int):=by rw[fU _ _ (jo _ h.e) (jo _ h.e),fU _ _ (rC (jo _ h.e) (jo _ h.e)) (jo _ h.e)]; rfl
theorem Ji {r:V8} (h:r.Ok):bits BinOp.xor IntKind.u32 (bits BinOp.xor IntKind.u32 ((gQ r.a 30:Nat):Int) ((gQ r.a 19:Nat):Int)) ((gQ r.a 10:Nat):Int)=((s0P r:Nat):Int):=by rw[fU _ _ (jo _ h.a) (jo _ h.a),fU _ _ (rC (jo _ h.a) (jo _ h.a)) (jo _ h.a)]; rfl
theorem Ir {r:V8} (h:r.Ok):bits BinOp.xor IntKind.u32 (bits BinOp.and IntKind.u32 (r.e:Int) (r.f:Int)) (bits BinOp.and IntKind.u32 (bits BinOp.xor IntKind.u32 (if IntKind.u32.signed=true then -1 else IntKind.u32.max) (r.e:Int)) (r.g:Int))=((chP r:Nat):Int):=by
 have h1:4294967295-r.e<4294967296:=by omega
 rw[Rg h.e,u32_and_nat _ _ h.e h.f,u32_and_nat _ _ h1 h.g,fU _ _ (nQ _ h.e) (nQ _ h1)]; rfl
theorem IP {r:V8} (h:r.Ok):bits BinOp.xor IntKind.u32 (bits BinOp.xor IntKind.u32 (bits BinOp.and IntKind.u32 (r.a:Int) (r.b:Int)) (bits BinOp.and IntKind.u32 (r.a:Int) (r.c:Int))) (bits BinOp.and IntKind.u32 (r.b:Int) (r.c:Int))=((mjP r:Nat):Int):=by rw[u32_and_nat _ _ h.a h.b,u32_and_nat _ _ h.a h.c,u32_and_nat _ _ h.b h.c,fU _ _ (nQ _ h.a) (nQ _ h.a),fU _ _ (rC (nQ _ h.a) (nQ _ h.a)) (nQ _ h.b)]; rfl
theorem GI (r:V8) (k x:Nat):OI r k x=(r.h+s1P r+chP r+k+x)%4294967296:=by unfold OI s1P chP; omega
theorem Oj (r:V8):t2P r=(s0P r+mjP r)%4294967296:=rfl
def mw (w:World):Prop:= ∀j x,kc[j]? =some x->w.cell? ⟨5,j,none⟩=some (fp x)
def u8W (b:UInt8):Value:= .int .u8 (b.toNat:Int)
structure kA (w : World) (bs : List UInt8) (t : Nat) (wr : World) : Prop where
 box:wr.heap[w.heap.size]? =some (.cells ((tp bs t).map fp++List.replicate (64-t) (fp 0)).toArray 252 (0,0))
 below:Below w.heap.size w wr
theorem kA.get {w wr:World} {bs:List UInt8} {t j:Nat} (h:kA w bs t wr) (hj:j<t):wr.cell? ⟨w.heap.size,j,none⟩=some (.int .u32 (((tp bs t).getD j 0:Nat):Int)):=by
 rw[br wr _ j _ _ _ h.box];have h1:j<(tp bs t).length:=by rw[pg]; exact hj
 rw[aF,bJ (by simpa using h1),bm,getD_some h1]; rfl
theorem kA.free {w wr:World} {bs:List UInt8} {t:Nat} (h:kA w bs t wr) (j:Nat):wr.frozen? ⟨w.heap.size,j,none⟩=false:=dT wr _ j _ _ h.box
theorem kA.here {w wr:World} {bs:List UInt8} {t:Nat} (h:kA w bs t wr) (ht:t<64):wr.cell? ⟨w.heap.size,t,none⟩=some (.int .u32 0):=by rw[br wr _ t _ _ _ h.box,aF,bE (by simp[pg])];rw[aw,pg,fa,show 64-t=(64-(t+1))+1 by omega,iq]; rfl
theorem kA.put {w wr:World} {bs:List UInt8} {t x:Nat} (h:kA w bs t wr) (ht:t<64) (hx:tp bs (t+1)=tp bs t++[x]):kA w bs (t+1) (wr.setCell ⟨w.heap.size,t,none⟩ (.int .u32 (x:Int))):=by
 refine⟨?_, ?_⟩
 ·rw[gZ wr _ t _ _ _ h.box,hx]
  congr 2
  rw[aX,et _ _ (by simp[pg])];rw[aI,bg]
  congr 2
  rw[aw,pg,fa,show 64-t=(64-(t+1))+1 by omega,iq]
  rfl
 ·exact h.below.trans ⟨rfl,rfl,rfl,by simp[World.setCell],fun k hk=>heap_setCell_other wr _ k _ (by show k≠w.heap.size; omega)⟩
theorem kA.start (w:World) (bs:List UInt8):kA w bs 0 (w.alloc (.cells (List.replicate 64 (fp 0)).toArray 252)):=
 ⟨by rw[aC]; rfl,eT⟩
theorem yM (a b c d:UInt8):bits BinOp.or IntKind.u32 (bits BinOp.or IntKind.u32 (bits BinOp.or IntKind.u32 ((a.toNat:Int)%4294967296*16777216%4294967296) ((b.toNat:Int)%4294967296*65536%4294967296)) ((c.toNat:Int)%4294967296*256%4294967296)) ((d.toNat:Int)%4294967296)=((ET a b c d:Nat):Int):=by
 have ha:=a.toNat_lt;have hb:=b.toNat_lt;have hc:=c.toNat_lt;have hd:=d.toNat_lt;rw[show((a.toNat:Int)%4294967296*16777216%4294967296)=((a.toNat*2^24%4294967296:Nat):Int) by omega,show((b.toNat:Int)%4294967296*65536%4294967296)=((b.toNat*2^16%4294967296:Nat):Int) by omega,
  show((c.toNat:Int)%4294967296*256%4294967296)=((c.toNat*2^8%4294967296:Nat):Int) by omega,show((d.toNat:Int)%4294967296)=((d.toNat:Nat):Int) by omega,
  u32_or_nat _ _ (cZ _ (by decide)) (cZ _ (by decide)),u32_or_nat _ _ (qo (cZ _ (by decide)) (cZ _ (by decide))) (cZ _ (by decide)),
  u32_or_nat _ _ (qo (qo (cZ _ (by decide)) (cZ _ (by decide))) (cZ _ (by decide))) (Io _ rfl)]
 rfl
theorem Bd {x:Nat} (hx:x<4294967296):bits BinOp.xor IntKind.u32 (bits BinOp.xor IntKind.u32 ((gQ x 15:Nat):Int) ((gQ x 13:Nat):Int)) ((x:Int)/1024)=((Lp x:Nat):Int):=by
 rw[show((x:Int)/1024)=((x/2^10:Nat):Int) by simp,fU _ _ (jo _ hx) (jo _ hx),fU _ _ (rC (jo _ hx) (jo _ hx)) (dM (fc _ _) hx)]
 rfl
theorem Bc {x:Nat} (hx:x<4294967296):bits BinOp.xor IntKind.u32 (bits BinOp.xor IntKind.u32 ((gQ x 25:Nat):Int) ((gQ x 14:Nat):Int)) ((x:Int)/8)=((Lo x:Nat):Int):=by
 rw[show((x:Int)/8)=((x/2^3:Nat):Int) by simp,fU _ _ (jo _ hx) (jo _ hx),fU _ _ (rC (jo _ hx) (jo _ hx)) (dM (fc _ _) hx)]
 rfl
theorem kA.next {w wr w2:World} {bs:List UInt8} {t:Nat} (h:kA w bs t wr) (hb:Below wr.heap.size wr w2):kA w bs t w2:=⟨(hb.block _ (am h.box)).trans h.box,h.below.trans (hb.mono h.below.size)⟩
theorem kA.drew {w wr:World} {bs:List UInt8} {t:Nat} (h:kA w bs t wr):kA w bs t wr.drew:=⟨h.box,h.below.trans (ak _ _).drew⟩
theorem Dk {bs:List UInt8} {j:Nat} (h:j<bs.length):bs[j]? =some (bs.getD j 0):=by simp[List.getD_eq_getElem?_getD,h]
def Kx (v r:V8) (j:Nat):List Nat:=(BB v r).list.take j++v.list.drop j
structure lO (sb : Nat) (v r : V8) (tl : List Value) (ty : TypeId) (W1 wq : World) (j : Nat) : Prop where
 box:wq.heap[sb]? =some (.cells ((Kx v r j).map fp++tl).toArray ty (0,0))
 grown:W1.grownBy wq (some sb)
theorem lO.start {sb:Nat} {v r:V8} {tl:List Value} {ty:TypeId} {W1 wq:World} (h:W1.heap[sb]? =some (.cells (v.list.map fp++tl).toArray ty (0,0))) (hb:Below W1.heap.size W1 wq):lO sb v r tl ty W1 wq 0:=
 ⟨eA hb h,⟨hb.os,hb.tape,hb.output,hb.size,fun k hk _=>hb.block k hk⟩⟩
theorem lO.keep {sb:Nat} {v r:V8} {tl:List Value} {ty:TypeId} {W1 wq:World} {j:Nat} (h:lO sb v r tl ty W1 wq j) {b:Nat} {o:Obj} (hb:W1.heap[b]? =some o) (hne:sb≠b):wq.heap[b]? =some o:=
 (h.grown.block b (am hb) (fun e=>hne (bt e).symm)).trans hb
theorem lO.free {sb:Nat} {v r:V8} {tl:List Value} {ty:TypeId} {W1 wq:World} {j:Nat} (h:lO sb v r tl ty W1 wq j) (k:Nat):wq.frozen? ⟨sb,k,none⟩=false:=dT wq _ k _ _ h.box
theorem Px (v r:V8) {j:Nat} (h:j<8) (tl:List Value):((Kx v r j).map fp++tl)[j]? =some (fp (v.list.getD j 0)):=by
 have hc:j=0\/j=1\/j=2\/j=3\/j=4\/j=5\/j=6\/j=7:=by omega
 rcases hc with rfl | rfl | rfl | rfl | rfl | rfl | rfl | rfl<;> rfl
theorem Py (v r:V8) {j:Nat} (h:j<8) (tl:List Value):((Kx v r j).map fp++tl).set j (fp (uq (v.list.getD j 0) (r.list.getD j 0)))=(Kx v r (j+1)).map fp++tl:=by
 have hc:j=0\/j=1\/j=2\/j=3\/j=4\/j=5\/j=6\/j=7:=by omega
 rcases hc with rfl | rfl | rfl | rfl | rfl | rfl | rfl | rfl<;> rfl
theorem lO.here {sb:Nat} {v r:V8} {tl:List Value} {ty:TypeId} {W1 wq:World} {j:Nat} (h:lO sb v r tl ty W1 wq j) (hj:j<8):wq.cell? ⟨sb,j,none⟩=some (.int .u32 ((v.list.getD j 0:Nat):Int)):=by rw[br wq _ _ _ _ _ h.box,aF,Px v r hj tl]; rfl
theorem lO.put {sb:Nat} {v r:V8} {tl:List Value} {ty:TypeId} {W1 wq:World} {j:Nat} (h:lO sb v r tl ty W1 wq j) (hj:j<8) {x:Value} (hx:x=fp (uq (v.list.getD j 0) (r.list.getD j 0))):lO sb v r tl ty W1 (wq.setCell ⟨sb,j,none⟩ x) (j+1):=by
 subst hx;refine⟨?_, ?_⟩
 ·rw[gZ wq _ _ _ _ _ h.box,aX,Py v r hj tl]
 ·have h2:=h.grown;exact⟨h2.os,h2.tape,h2.output,by simpa [World.setCell]using h2.size,fun k hk ha=>(heap_setCell_other wq _ k _ (fun e=>ha (by rw[e]))).trans (h2.block k hk ha)⟩
theorem lO.drew {sb:Nat} {v r:V8} {tl:List Value} {ty:TypeId} {W1 wq:World} {j:Nat} (h:lO sb v r tl ty W1 wq j):lO sb v r tl ty W1 wq.drew j:=
 ⟨h.box,⟨h.grown.os,h.grown.tape,h.grown.output,h.grown.size,h.grown.block⟩⟩
theorem Ql (v:V8) {j:Nat} (h:j<8):([.int .u32 (v.a:Int), .int .u32 (v.b:Int), .int .u32 (v.c:Int), .int .u32 (v.d:Int), .int .u32 (v.e:Int), .int .u32 (v.f:Int), .int .u32 (v.g:Int), .int .u32 (v.h:Int)]:List Value)[j]? =some (.int .u32 ((v.list.getD j 0:Nat):Int)):=by
 have hc:j=0\/j=1\/j=2\/j=3\/j=4\/j=5\/j=6\/j=7:=by omega
 rcases hc with rfl | rfl | rfl | rfl | rfl | rfl | rfl | rfl<;> rfl
theorem MR (r:V8) {j:Nat} (h:j<8) (w:World):(Instr.index 216 (.agg #[.int .u32 (r.a:Int), .int .u32 (r.b:Int), .int .u32 (r.c:Int), .int .u32 (r.d:Int), .int .u32 (r.e:Int), .int .u32 (r.f:Int), .int .u32 (r.g:Int), .int .u32 (r.h:Int)]) (.int .i64 (j:Int))).run Tryz.prog w= .ok (.int .u32 ((r.list.getD j 0:Nat):Int)) w:=by
 have hc:j=0\/j=1\/j=2\/j=3\/j=4\/j=5\/j=6\/j=7:=by omega
 rcases hc with rfl | rfl | rfl | rfl | rfl | rfl | rfl | rfl<;> (show _=_; kernel_rfl)
theorem vO {w:World} {sb:Nat} {v:V8} {tl:List Value} {ty:TypeId} (h:w.heap[sb]? =some (.cells (v.list.map fp++tl).toArray ty (0,0))):w.rangeAt sb 0 (v.list.map fp):=by intro j x hj;rw[br w _ _ _ _ _ h,bO,aF,bJ (aA.1 hj).1];exact hj
theorem rj (sb:Nat) (v:V8) (tl:List Value) (ty:TypeId) (bk o cap:Nat) (bs:List UInt8) (w:World) (hbox:w.heap[sb]? =some (.cells (v.list.map fp++tl).toArray ty (0,0))) (hv:v.Ok) (hl:bs.length=64) (hcap:64<=cap) (_hcapm:cap<=maxLen)
  (hbs: ∀j b,bs[j]? =some b->w.cell? ⟨bk,o+j,none⟩=some (u8W b)) (hK:mw w) (hKlt:5<w.heap.size):
  Calls Tryz.prog 184 #[.pointer (some ⟨sb,0,none⟩), .slice (some ⟨bk,o,none⟩) 64 cap] w fun e w'=>e= .returned (.tuple #[])/\w'.heap[sb]? =some (.cells ((sF v bs).list.map fp++tl).toArray ty (0,0))/\w.grownBy w' (some sb):=by
 have HX:=ag hbox;have HS:=ag hbs;have HK:=ag hK;clear hbox hbs hK
 go_enter Tryz.func184,Tryz.ntmps184
 go_wp2_with fail;have hP:=ag (kA.start w bs)
 go_loopw [27] (fun i wr=> ∃t:Nat,t<=64/\i= .int .i64 (t:Int)/\kA w bs t wr) (fun i _=>64-(intOf i).toNat)
 ·exact⟨0,by omega,rfl,hP.o⟩
 ·obtain⟨t,ht,rfl,hs⟩:=hrel;have HA:=ag hs;have hz:=hs.below.size;clear hs
  by_cases hU:t<16
  ·obtain⟨b0,hB⟩:=bH (bs.getD (4*t) 0);obtain⟨b1,hC⟩:=bH (bs.getD (4*t+1) 0);obtain⟨b2,hD⟩:=bH (bs.getD (4*t+2) 0);obtain⟨b3,hE⟩:=bH (bs.getD (4*t+3) 0);have q0:=HS.o (4*t) (bs.getD (4*t) 0) (Dk (by omega));have q1:=HS.o (4*t+1) (bs.getD (4*t+1) 0) (Dk (by omega));have q2:=HS.o (4*t+2) (bs.getD (4*t+2) 0) (Dk (by omega));have q3:=HS.o (4*t+3) (bs.getD (4*t+3) 0) (Dk (by omega))
   have HW:=ag (show Bp bs t=ET b0 b1 b2 b3 by rw[hB,hC,hD,hE]; rfl);rw[<-hB]at q0;rw[<-hC]at q1;rw[<-hD]at q2;rw[<-hE]at q3;have hp:=block_lt_of_cell q0;simp only[u8W]at q0 q1 q2 q3;have c0:=(HA.o.below.cell (p:=⟨bk,o+4*t,none⟩) hp).trans q0;have c1:=(HA.o.below.cell (p:=⟨bk,o+(4*t+1),none⟩) hp).trans q1;rw[<-dp]at c1;have c2:=(HA.o.below.cell (p:=⟨bk,o+(4*t+2),none⟩) hp).trans q2
   rw[<-dp]at c2;have c3:=(HA.o.below.cell (p:=⟨bk,o+(4*t+3),none⟩) hp).trans q3;rw[<-dp]at c3;have ch:=HA.o.here (by omega);have cf:=HA.o.free t;clear q0 q1 q2 q3 hB hC hD hE;go_wp2_with fail;refine bL [some 24,none] (by kernel_rfl) (by kernel_rfl) (by kernel_rfl) ?_;simp only[ef,aS,aY,bA,bQ]
   repeat (first | (refine cy rfl ?_; simp only[bM]) | (refine cP rfl (fun K hK=> ?_); go_simp; refine hK _ ?_; clear hK K))
   refine cO ?_;refine eE rfl (fun K hK=> ?_);go_wp2_with fail
   go_roundw
   ·rw[yM,<-HW.o];exact⟨t+1,by omega,by simp,(HA.o.put (by omega) (Jp bs hU)).drew⟩
   simp[intOf]; omega
  ·by_cases hX:t<64
   ·have hV:16<=t:=by omega
    obtain⟨j2,hN⟩:=bH (t-2);obtain⟨j15,hf⟩:=bH (t-15);obtain⟨j7,hO⟩:=bH (t-7);obtain⟨j16,hg⟩:=bH (t-16);have c2:=HA.o.get (j:=j2) (by omega);have c15:=HA.o.get (j:=j15) (by omega);have c7:=HA.o.get (j:=j7) (by omega);have c16:=HA.o.get (j:=j16) (by omega);have e2:IntKind.i64.wrap ((t:Int)-2)=(j2:Int):=by rw[bI]; omega
    have e15:IntKind.i64.wrap ((t:Int)-15)=(j15:Int):=by rw[bI]; omega
    have e7:IntKind.i64.wrap ((t:Int)-7)=(j7:Int):=by rw[bI]; omega
    have e16:IntKind.i64.wrap ((t:Int)-16)=(j16:Int):=by rw[bI]; omega
    have l2:(j2:Int)<64:=by omega
    have l15:(j15:Int)<64:=by omega
    have l7:(j7:Int)<64:=by omega
    have l16:(j16:Int)<64:=by omega
    have ch:=HA.o.here (by omega);have cf:=HA.o.free t;have HJ:=ag (show j2=t-2/\j15=t-15/\j7=t-7/\j16=t-16 from⟨hN,hf,hO,hg⟩);clear hN hf hO hg;obtain⟨x2,hu⟩:=bH ((tp bs t).getD j2 0);obtain⟨x15,hc⟩:=bH ((tp bs t).getD j15 0);obtain⟨x7,hF⟩:=bH ((tp bs t).getD j7 0);obtain⟨x16,hd⟩:=bH ((tp bs t).getD j16 0);rw[<-hu]at c2;rw[<-hc]at c15
    rw[<-hF]at c7;rw[<-hd]at c16;have o2:x2<4294967296:=by rw[hu]; exact(Cn bs t).get j2
    have o15:x15<4294967296:=by rw[hc]; exact(Cn bs t).get j15
    have HN:=ag (show rh (tp bs t)=(((Lp x2+x7)%4294967296+Lo x15)%4294967296+x16)%4294967296 by unfold rh;rw[pg,hu,hc,hF,hd,HJ.o.1,HJ.o.2.1,HJ.o.2.2.1,HJ.o.2.2.2])
    clear hu hc hF hd;go_wp2_with fail;refine bL [some 10] (by kernel_rfl) (by kernel_rfl) (by kernel_rfl) ?_;simp only[ef,aS,aY]
    repeat (first | (refine cy rfl ?_; simp only[bM]) | (refine cP rfl (fun K hK=> ?_); go_simp; refine hK _ ?_; clear hK K))
    refine cO ?_;go_wp2_with fail;refine(KZ _ _ o2).mono ?_;rintro e W1 ⟨rfl,rfl⟩;go_wp2_with fail;refine(KX _ _ o2).mono ?_;rintro e W1 ⟨rfl,rfl⟩;go_wp2_with fail;refine(Lc _ _ o15).mono ?_;rintro e W1 ⟨rfl,rfl⟩;go_wp2_with fail;refine(KY _ _ o15).mono ?_;rintro e W1 ⟨rfl,rfl⟩;rw[Bd o2];go_wp2_with fail;refine bL [some 15,none] (by kernel_rfl) (by kernel_rfl) (by kernel_rfl) ?_
    simp only[ef,aS,aY,bA,bQ]
    repeat (first | (refine cy rfl ?_; simp only[bM]) | (refine cP rfl (fun K hK=> ?_); go_simp; refine hK _ ?_; clear hK K))
    refine cO ?_;refine eE rfl (fun K hK=> ?_);go_wp2_with fail
    go_roundw
    ·rw[Bc o15];have HV:((((Lp x2:Nat):Int)+(x7:Int)+((Lo x15:Nat):Int)+(x16:Int))%4294967296)=((rh (tp bs t):Nat):Int):=by rw[HN.o]; omega
     rw[HV];exact⟨t+1,by omega,by simp,(HA.o.put (by omega) (ER bs hV)).drew.drew⟩
    simp[intOf]; omega
   ·obtain rfl:t=64:=by omega
    have hw:=ag ((HX.o▸HA.o.below.block sb (am HX.o):wr.heap[sb]? =some (.cells (v.list.map fp++tl).toArray ty (0,0))));have HR:=ag (vO hw.o);go_wp2_with (refine el rfl 216 _ rfl sb 0 rfl [.int .u32 (v.a:Int), .int .u32 (v.b:Int), .int .u32 (v.c:Int), .int .u32 (v.d:Int), .int .u32 (v.e:Int), .int .u32 (v.f:Int), .int .u32 (v.g:Int), .int .u32 (v.h:Int)] _ HR.o fP rfl (by kernel_rfl) ?_)
    obtain⟨W1,ho⟩:=bH (wr.alloc (.cells #[.int .u32 (v.a:Int), .int .u32 (v.b:Int), .int .u32 (v.c:Int), .int .u32 (v.d:Int), .int .u32 (v.e:Int), .int .u32 (v.f:Int), .int .u32 (v.g:Int), .int .u32 (v.h:Int)] 216));rw[<-ho];obtain⟨vb,hq⟩: ∃vb,wr.heap.size=vb:=⟨_,rfl⟩;have hb:=ag (show W1.heap[vb]? =some (.cells #[.int .u32 (v.a:Int), .int .u32 (v.b:Int), .int .u32 (v.c:Int), .int .u32 (v.d:Int), .int .u32 (v.e:Int), .int .u32 (v.f:Int), .int .u32 (v.g:Int), .int .u32 (v.h:Int)] 216 (0,0)) by rw[ho,<-hq]; exact aC _ _)
    have hG:=ag (show Below wr.heap.size wr W1 by rw[ho]; exact eT);have he:=ag (HA.o.next hG.o);have hR:=ag (eA hG.o hw.o);rw[hq];have hT:=ag (show sb<vb by rw[<-hq]; exact am hw.o);clear ho hq;have hW:=ag (Gh bs (v:=v) 0 hv);have v0:W1.cell? ⟨vb,0,none⟩=some (.int .u32 (v.a:Int)):=(br W1 _ _ _ _ _ hb.o).trans rfl;have v1:W1.cell? ⟨vb,1,none⟩=some (.int .u32 (v.b:Int)):=(br W1 _ _ _ _ _ hb.o).trans rfl
    have v2:W1.cell? ⟨vb,2,none⟩=some (.int .u32 (v.c:Int)):=(br W1 _ _ _ _ _ hb.o).trans rfl;have v3:W1.cell? ⟨vb,3,none⟩=some (.int .u32 (v.d:Int)):=(br W1 _ _ _ _ _ hb.o).trans rfl;have v4:W1.cell? ⟨vb,4,none⟩=some (.int .u32 (v.e:Int)):=(br W1 _ _ _ _ _ hb.o).trans rfl;have v5:W1.cell? ⟨vb,5,none⟩=some (.int .u32 (v.f:Int)):=(br W1 _ _ _ _ _ hb.o).trans rfl
    have v6:W1.cell? ⟨vb,6,none⟩=some (.int .u32 (v.g:Int)):=(br W1 _ _ _ _ _ hb.o).trans rfl;have v7:W1.cell? ⟨vb,7,none⟩=some (.int .u32 (v.h:Int)):=(br W1 _ _ _ _ _ hb.o).trans rfl;refine bL [some 24] (by kernel_rfl) (by kernel_rfl) (by kernel_rfl) ?_;simp only[ef,aS,aY]
    repeat (first | (refine cy rfl ?_; simp only[bM]) | (refine cP rfl (fun K hK=> ?_); go_simp; refine hK _ ?_; clear hK K))
    refine cO ?_;go_wp2_with fail
    go_loopw [12,13,14,15,16,17,18,19,123] (fun sa sb2 sc sd se sf sg sh i wq=> ∃(t:Nat) (r:V8),t<=64/\i= .int .i64 (t:Int)/\r=rTo bs v t/\sa= .int .u32 (r.a:Int)/\sb2= .int .u32 (r.b:Int)/\sc= .int .u32 (r.c:Int)/\sd= .int .u32 (r.d:Int)/\se= .int .u32 (r.e:Int)/\sf= .int .u32 (r.f:Int)/\sg= .int .u32 (r.g:Int)/\sh= .int .u32 (r.h:Int)/\Below W1.heap.size W1 wq) (fun _ _ _ _ _ _ _ _ i _=>64-(intOf i).toNat)
    ·exact⟨0,v,by omega,rfl,rfl,rfl,rfl,rfl,rfl,rfl,rfl,rfl,rfl,(ak _ _).drew⟩
    ·obtain⟨t,r,hZ,rfl,hr,rfl,rfl,rfl,rfl,rfl,rfl,rfl,rfl,hM⟩:=hrel;have hJ:=ag hr;have hh:=ag hM;have ha:=ag (show r.Ok by rw[hr]; exact Gh bs t hv);clear hr hM v0 v1 v2 v3 v4 v5 v6 v7
     by_cases hA:t<64
     ·obtain⟨k,hk⟩:=bH (kc.getD t 0);obtain⟨x,hx⟩:=bH ((wsP bs).getD t 0);have ck:=HK.o t k (by rw[hk]; exact getD_some (by rw[BR]; exact hA));have ck2:=(hh.o.cell (p:=⟨5,t,none⟩) (by have:=he.o.below.size; show 5<_; omega)).trans ((he.o.below.cell (p:=⟨5,t,none⟩) hKlt).trans ck);have cx:=(hh.o.cell (p:=⟨w.heap.size,t,none⟩) (am he.o.box)).trans (he.o.get hA)
      rw[Cm,<-hx]at cx;have hH:=ag (aB hk hx);clear ck hk hx;unfold fp at ck2;go_wp2_with fail;refine(Ld _ _ ha.o.e).mono ?_;rintro e W2 ⟨rfl,rfl⟩;go_wp2_with fail;refine(Lb _ _ ha.o.e).mono ?_;rintro e W2 ⟨rfl,rfl⟩;go_wp2_with fail;refine(NQ _ _ ha.o.e).mono ?_;rintro e W2 ⟨rfl,rfl⟩;go_wp2_with fail;refine(Le _ _ ha.o.a).mono ?_;rintro e W2 ⟨rfl,rfl⟩
      go_wp2_with fail;refine(La _ _ ha.o.a).mono ?_;rintro e W2 ⟨rfl,rfl⟩;go_wp2_with fail;refine(KW _ _ ha.o.a).mono ?_;rintro e W2 ⟨rfl,rfl⟩;go_wp2_with fail;refine bL [some 21] (by kernel_rfl) (by kernel_rfl) (by kernel_rfl) ?_;simp only[ef,aS,aY]
      repeat (first | (refine cy rfl ?_; simp only[bM]) | (refine cP rfl (fun K hK=> ?_); go_simp; refine hK _ ?_; clear hK K))
      refine cO ?_;go_wp2_with fail
      go_roundw
      ·rw[Jj ha.o,Ir ha.o,Ji ha.o,IP ha.o];refine⟨t+1,Gm r k x,by omega,by simp, ?_, ?_,rfl,rfl,rfl, ?_,rfl,rfl,rfl, ?_⟩
       ·rw[Ej bs v hA,hJ.o,hH.o.1,hH.o.2]
       ·show _=Value.int .u32 (((OI r k x+t2P r)%4294967296:Nat):Int)
        exact congrArg (Value.int .u32) (by rw[GI,Oj]; omega)
       ·show _=Value.int .u32 (((r.d+OI r k x)%4294967296:Nat):Int)
        exact congrArg (Value.int .u32) (by rw[GI]; omega)
       ·exact hh.o.trans (ak _ _).drew
      simp[intOf]; omega
     ·obtain rfl:t=64:=by omega
      go_wp2_with (refine wpList_build rfl 216 _ rfl (by kernel_rfl) ?_);rw[show(Tryz.prog.built 216 [(0, .int .u32 (r.a:Int)),(1, .int .u32 (r.b:Int)),(2, .int .u32 (r.c:Int)),(3, .int .u32 (r.d:Int)),(4, .int .u32 (r.e:Int)),(5, .int .u32 (r.f:Int)),(6, .int .u32 (r.g:Int)),(7, .int .u32 (r.h:Int))]).getD #[]= #[.int .u32 (r.a:Int), .int .u32 (r.b:Int), .int .u32 (r.c:Int), .int .u32 (r.d:Int), .int .u32 (r.e:Int), .int .u32 (r.f:Int), .int .u32 (r.g:Int), .int .u32 (r.h:Int)] by kernel_rfl]
      have hS:=ag (lO.start (r:=r) hR.o hh.o)
      go_loopw [197] (fun i wq=> ∃j:Nat,j<=8/\i= .int .i64 (j:Int)/\lO sb v r tl ty W1 wq j) (fun i _=>8-(intOf i).toNat)
      ·exact⟨0,by omega,rfl,hS.o⟩
      ·obtain⟨j,hj,rfl,hm⟩:=hrel;have HM:=ag hm;clear hm
       by_cases h8:j<8
       ·have cs:=HM.o.here h8;have cf:=HM.o.free j;have hI: ∀w,(Instr.index 216 (.agg #[.int .u32 (r.a:Int), .int .u32 (r.b:Int), .int .u32 (r.c:Int), .int .u32 (r.d:Int), .int .u32 (r.e:Int), .int .u32 (r.f:Int), .int .u32 (r.g:Int), .int .u32 (r.h:Int)]) (.int .i64 (j:Int))).run Tryz.prog w= .ok (.int .u32 ((r.list.getD j 0:Nat):Int)) w:=MR r h8;have cv:wr.cell? ⟨vb,j,none⟩=some (.int .u32 ((v.list.getD j 0:Nat):Int)):=(br wr _ _ _ _ _ (HM.o.keep hb.o (by have:=hT.o; omega))).trans (by rw[aF]; exact Ql v h8)
        obtain⟨x,hx⟩:=bH (r.list.getD j 0);obtain⟨y,hy⟩:=bH (v.list.getD j 0);rw[<-hx]at hI;rw[<-hy]at cv cs;have hL:=ag (aB hx hy);clear hx hy;have hY:(j:Int)<8:=by omega
        go_wp2_with fail;refine bL [some 10,none] (by kernel_rfl) (by kernel_rfl) (by kernel_rfl) ?_;simp only[ef,aS,aY,bA,bQ]
        repeat (first | (refine cy rfl ?_; simp only[bM]) | (refine cP rfl (fun K hK=> ?_); go_simp; refine hK _ ?_; clear hK K))
        refine cO ?_;refine eE rfl (fun K hK=> ?_);go_wp2_with fail
        go_roundw
        ·refine⟨j+1,by omega,by simp, ?_⟩;exact(HM.o.put h8 (by rw[<-hL.o.1,<-hL.o.2]; unfold fp uq; simp)).drew
        simp[intOf]; omega
       ·obtain rfl:j=8:=by omega
        go_wp2_with fail
        go_end0
        refine⟨rfl, ?_, ?_⟩
        ·rw[Eh,<-hJ.o];have:=HM.o.box;rw[show Kx v r 8=(BB v r).list from rfl]at this;exact this
        ·have h1:=he.o.below;have h2:=HM.o.grown;exact⟨h2.os.trans h1.os,h2.tape.trans h1.tape,h2.output.trans h1.output,an h1.size h2.size,fun k hk hn=>(h2.block k (aO hk h1.size) hn).trans (h1.block k hk)⟩
end
section
open Go.RowKit
def bl (s:ByteArray):List UInt8:=s.data.toList
theorem Pl (s:ByteArray):s.data.toList=bl s:=rfl
theorem fF (s:ByteArray):s.toList=bl s:=by rw[ByteArray.toList_eq]; rfl
theorem jQ (l:List UInt8):bl ⟨l.toArray⟩=l:=by simp[bl]
theorem tS (s:ByteArray):(⟨(bl s).toArray⟩:ByteArray)=s:=by cases s; simp[bl]
theorem bi (s:ByteArray):s.size=(bl s).length:=Lib.size_eq s
theorem rH (s t:ByteArray):bl (s++t)=bl s++bl t:=by simp[bl]
theorem pY (s:ByteArray) (a b:Nat):bl (s.extract a b)=((bl s).take b).drop a:=by unfold bl; rw[Lib.extract_data]; rw[List.drop_take]
theorem kF {s t:ByteArray} (h:bl s=bl t):s=t:=by rw[<-tS s,<-tS t,h]
def my (S:Nat->Prop) (w w':World):Prop:= ∀k,S k->w'.heap[k]? =w.heap[k]?
theorem my.refl (S:Nat->Prop) (w:World):my S w w:=fun _ _=>rfl
theorem my.trans {S:Nat->Prop} {a b c:World} (h:my S a b) (k:my S b c):my S a c:=fun i hi=>(k i hi).trans (h i hi)
theorem my.cell {S:Nat->Prop} {w w':World} (h:my S w w') {a:Addr} (ha:S a.block):w'.cell? a=w.cell? a:=cC (h a.block ha)
theorem my.mono {S T:Nat->Prop} {w w':World} (h:my S w w') (hT: ∀k,T k->S k):my T w w':=fun k hk=>h k (hT k hk)
theorem cR {w:World} {a:Addr} {v:Value} (h:w.cell? a=some v):a.block<w.heap.size:=by
 rcases dN a.block w.heap.size with h' | h'
 ·exact h'
 ·simp[World.cell?,Array.getElem?_eq_none h']at h
def bX (S:Nat->Prop) (w:World) (sz:Nat) (v:Value) (n:Nat) (cells:List Value):Prop:=
 cells.length=n*sz/\ ∃a cap,v= .slice a n cap/\n<=cap/\cap<=maxLen/\
  (n=0\/ ∃b o,a=some ⟨b,o,none⟩/\S b/\ ∀(j:Nat) u,cells[j]? =some u->w.cell? ⟨b,o+j,none⟩=some u)
theorem bX.same {S:Nat->Prop} {w w':World} {sz:Nat} {v:Value} {n:Nat} {cells:List Value} (h:bX S w sz v n cells) (hs:my S w w'):bX S w' sz v n cells:=by
 obtain⟨hl,a,cap,hv,hn,hm,h0⟩:=h;refine⟨hl,a,cap,hv,hn,hm, ?_⟩
 rcases h0 with h0 | ⟨b,o,ha,hb,hc⟩
 ·exact .inl h0
 ·exact .inr ⟨b,o,ha,hb,fun j u hu=>(hs.cell (a:=⟨b,o+j,none⟩) hb).trans (hc j u hu)⟩
theorem bX.mono {S T:Nat->Prop} {w:World} {sz:Nat} {v:Value} {n:Nat} {cells:List Value} (h:bX S w sz v n cells) (hs: ∀k,k<w.heap.size->S k->T k):0<sz->bX T w sz v n cells:=by
 intro hd;obtain⟨hl,a,cap,hv,hn,hm,h0⟩:=h;refine⟨hl,a,cap,hv,hn,hm, ?_⟩
 rcases h0 with h0 | ⟨b,o,ha,hb,hc⟩
 ·exact .inl h0
 ·rcases eI n with h | h
  ·exact .inl h
  ·refine .inr ⟨b,o,ha,hs b ?_ hb,hc⟩;have:0<cells.length:=by rw[hl]; exact Nat.mul_pos h hd
   exact cR (a:=⟨b,o+0,none⟩) (hc 0 cells[0] (by simp[this]))
theorem bX.below {S:Nat->Prop} {w w':World} {sz:Nat} {v:Value} {n:Nat} {cells:List Value} (h:bX S w sz v n cells) (hsz:0<sz) (hb:Below w.heap.size w w'):bX S w' sz v n cells:=by
 have h2:=h.mono (T:=fun k=>S k/\k<w.heap.size) (fun k hk hS=>⟨hS,hk⟩) hsz;have h3:=h2.same (w':=w') (fun k hk=>hb.block k hk.2);obtain⟨hl,a,cap,hv,hn,hm,h0⟩:=h3;refine⟨hl,a,cap,hv,hn,hm, ?_⟩
 rcases h0 with h0 | ⟨b,o,ha,hb,hc⟩
 ·exact .inl h0
 ·exact .inr ⟨b,o,ha,hb.1,hc⟩
theorem bX.nil (S:Nat->Prop) (w:World) (sz:Nat):bX S w sz (.slice none 0 0) 0 []:=⟨by simp,none,0,rfl,ah _,by unfold maxLen; omega, .inl rfl⟩
def lP (S:Nat->Prop) (w:World) (v:Value) (xs:List ByteArray):Prop:=bX S w 1 v xs.length (xs.map Value.string)
theorem lP.shape {S:Nat->Prop} {w:World} {v:Value} {xs:List ByteArray} (h:lP S w v xs):
  ∃a cap,v= .slice a xs.length cap/\xs.length<=cap/\cap<=maxLen/\ ∀k x,xs[k]? =some x-> ∃b o,a=some ⟨b,o,none⟩/\S b/\w.cell? ⟨b,o+k,none⟩=some (.string x):=by
 obtain⟨_,a,cap,hv,hn,hm,h0⟩:=h;refine⟨a,cap,hv,hn,hm,fun k x hk=> ?_⟩
 rcases h0 with h0 | ⟨b,o,ha,hb,hc⟩
 ·simp[List.eq_nil_of_length_eq_zero h0]at hk
 ·exact⟨b,o,ha,hb,hc k _ (by simp[hk])⟩
structure nJ (w : World) : Prop where
 maxLen: ∃m,w.cell? ⟨1,0,none⟩=some (.int .i64 m)
 tabs:Lib.Utf8Tabs 3 4 w
theorem nJ.below {w w':World} (h:nJ w) (hb:Below w.heap.size w w'):nJ w':=by obtain⟨⟨m,hm⟩,ht⟩:=h;exact⟨⟨m,(hb.cell (cR hm)).trans hm⟩,Utf8Tabs_below ht hb⟩
theorem nJ.lt {w:World} (h:nJ w):1<w.heap.size/\3<w.heap.size/\4<w.heap.size:=by obtain⟨⟨m,hm⟩,ht⟩:=h;exact⟨cR hm,cR (ht.1 0 (by omega)),cR (ht.2 0 (by omega)).1⟩
theorem nJ.belowB {B:Nat} {w w':World} (h:nJ w) (hb:Below B w w') (h0:1<B) (h1:3<B) (h2:4<B):nJ w':=by obtain⟨⟨m,hm⟩,ht⟩:=h;exact⟨⟨m,(hb.cell h0).trans hm⟩,fun c hc=>(hb.cell (p:=⟨3,c,none⟩) h1).trans (ht.1 c hc),fun i hi=>⟨(hb.cell (p:=⟨4,2*i,none⟩) h2).trans (ht.2 i hi).1,(hb.cell (p:=⟨4,2*i+1,none⟩) h2).trans (ht.2 i hi).2⟩⟩
theorem cj {a b:Bool} (h:a=b):Ending.returned (.bool a)= .returned (.bool b):=by rw[h]
theorem dK {k:IntKind} {a b:Int} (h:a=b):Ending.returned (.int k a)= .returned (.int k b):=by rw[h]
theorem aj {w w1 w2:World} (h:Below w.heap.size w w1) (k:Below w1.heap.size w1 w2):Below w.heap.size w w2:=h.trans (k.mono h.size)
theorem lh {P:Program} {f:FuncId} {args:Array Value} {w:World} {n:Nat} {v:Value}
  (h:Calls P f args (w.drewN n) fun e w'=>e= .returned v/\w.drewN n=w'):Calls P f args (w.drewN n) fun e w''=>e= .returned v/\ ∃m,w''=w.drewN m:=
 h.mono fun _ _ ⟨he,hm⟩=>⟨he,n,hm.symm⟩
theorem gk {B:Nat} {a w:World} (h:Below B a w) (n:Nat):Below B a (w.drewN n):=h.trans ⟨rfl,rfl,rfl,ah _,fun _ _=>rfl⟩
structure kz (P : Program) (t e : TypeId) (sz bytes : Nat) : Prop where
 ht:P.underlying t=some (.slice e)
 hi: ∃i z,P.info? e=some i/\i.zero=some z/\i.size=sz/\i.bytes=bytes/\z.cells.size=sz
 pos:0<sz
 small:bytes<=128
theorem kz.mk' {P:Program} {t e:TypeId} {sz bytes:Nat} {z:Value} (ht:P.underlying t=some (.slice e)) (hi:(P.info? e).map (fun i=>(i.zero,i.size,i.bytes))=some (some z,sz,bytes)) (hz:z.cells.size=sz) (hp:0<sz) (hb:bytes<=128):kz P t e sz bytes:=by obtain⟨i,h1,h2,h3,h4⟩:=info_parts hi;exact⟨ht,⟨i,z,h1,h2,h3,h4,hz⟩,hp,hb⟩
theorem uQ {P:Program} (w:World) (base:Nat) (t ty e:TypeId) (i:TypeInfo) (z:Value) (size bytes:Nat) (ht:P.underlying t=some (.slice e)) (hi:P.info? e=some i) (hz:i.zero=some z)
  (hsize:i.size=size) (hby:i.bytes=bytes) (hzs:z.cells.size=size)
  (v:Value) (n:Nat) (xs:List Value) (hown:w.ownsRow base e size v n xs)
  (a:Addr) (m c:Nat) (news:List Value) (hl:news.length=m*size) (hm0:0<m) (hnews: ∀j u,news[j]? =some u->w.cell? (a.add j)=some u) (h1: ∀u∈news,u.oneCell'=true)
  (h63:n+m<=maxLen) (hbytes:(n+m)*bytes<=140737488355328) {v':Value} {w':World}
  (hrun:(Builtin.append_ #[t,t] ty #[v, .slice (some a) m c]).run P w= .ok v' w'):v'.ownBlock=v.ownBlock\/v'.ownBlock=some w.heap.size:=by
 subst hsize;subst hby
 have hd:n+m<=9223372036854775807:=by simp only[maxLen]at h63; omega
 rcases hown.2 with⟨rfl,rfl⟩ | ⟨g,cap,cur,rfl,hh,hg,hk,hj,hf,he⟩
 ·have hx:xs=[]:=bq (by simpa using hown.1);subst hx;have hr:=run_append_nil (P:=P) w t ty e i z ht hi hz a m c news hl hnews (by omega) (by omega) (by have hb:=hbytes; simp only[bO]at hb; omega);rw[hr]at hrun
  cases hrun
  exact .inr rfl
 ·by_cases ha:n+m<=cap
  ·have hc:n*i.size+news.length<=cur.size:=by rw[hl,hf,<-iY]; exact dl _ ha
   have hr:=run_append_room (P:=P) w t ty e i ht hi g n cap cur hg a m c news hl hnews h1 ha hc;rw[hr]at hrun
   cases hrun
   exact .inl rfl
  ·have holds: ∀j u,xs[j]? =some u->w.cell? ((⟨g,0,none⟩:Addr).add j)=some u:=hown.cells (g:=g) rfl;have hr:=run_append_grow (P:=P) w t ty e i z ht hi hz ⟨g,0,none⟩ n cap xs hown.1 holds a m c news hl hnews (by omega) (by omega) (growslice_fits (by omega) hbytes);rw[hr]at hrun
   cases hrun
   exact .inr rfl
theorem bP {P:Program} {ops:Array Oper} {rest:List Oper} {o:Oper} {a:Act} {Q:Exit->Act->World->Prop} {t e:TypeId} {sz bytes:Nat} (T:kz P t e sz bytes) (hgd:o.guard=none) (s x:Operand)
  (ho:o.op= .call {callee:= .builtin .append,args:= #[s,x],argTypes:= #[t,t]}) (base:Nat) (v:Value) (n:Nat) (xs:List Value) (hs:a.eval s=v) (w0:World) (news:List Value) (e2:TypeId)
  (hx:a.eval x= .slice (some ⟨w0.heap.size,0,none⟩) 1 1) (hl:news.length=sz) (h1: ∀u∈news,u.oneCell'=true) (hown:w0.ownsRow base e sz v n xs) (hn:n<1099511627775) (hbase:base<=w0.heap.size)
  (h: ∀v' w',w'.ownsRow base e sz v' (n+1) (xs++news)->w0.grownBy w' v.ownBlock->v'≠ .slice none 0 0->(∀k,v'.ownBlock=some k->v.ownBlock=some k\/w0.heap.size<=k)->wpList P ops Q rest (a.put o.dst v') w'):wpList P ops Q (o::rest) a (w0.alloc (.cells news.toArray e2)):=by
 obtain⟨ht,⟨i,z,hd,he,hf,hm,hq⟩,hc,hB⟩:=T;have ha: ∀(j:Nat) u,news[j]? =some u->(w0.alloc (.cells news.toArray e2)).cell? ((⟨w0.heap.size,0,none⟩:Addr).add j)=some u:=by
  intro j u hj;have hb:(⟨w0.heap.size,0,none⟩:Addr).add j=⟨w0.heap.size,j,none⟩:=by unfold Addr.add; split<;> simp_all
  rw[hb];have hh:=aC w0 (.cells news.toArray e2);simp only[World.cell?,hh];simp[hj]
 have hu:n+1<=maxLen:=by unfold maxLen; omega
 have hw:(n+1)*bytes<=140737488355328:=by have:(n+1)*bytes<=1099511627775*128:=Nat.mul_le_mul (by omega) hB;omega
 have hy:news.length=1*sz:=by rw[hl,Nat.one_mul]
 obtain⟨v',w',hr,h2,hg,hv⟩:=run_append_own (P:=P) (w0.alloc (.cells news.toArray e2)) base t o.type e i z sz bytes ht hd he hf hm hq hc v n xs (hown.alloc _) ⟨w0.heap.size,0,none⟩ 1 1 news hy ha h1 hu hw (by simp; omega);have hA:=uQ (P:=P) (w0.alloc (.cells news.toArray e2)) base t o.type e i z sz bytes ht hd he hf hm hq v n xs (hown.alloc _) ⟨w0.heap.size,0,none⟩ 1 1 news hy (by omega) ha h1 hu hw hr
 refine gJ hgd fun K hK=> ?_
 unfold Oper.wp execOp;simp only[ho,resolve,invoke,builtin,Sem.run_bind,Sem.run_pure,iP,ji,bS,eY,hs,hx,hr];refine hK _ _ (h v' w' h2 ⟨hg.os,hg.tape,hg.output,by have:=hg.size; simp at this; omega,fun k hk hz=> ?_⟩ (fun e=>by have:=(hv.1 e).2; omega) ?_)
 ·rw[hg.block k (by simp; omega) hz];exact cN _ _ _ hk
 ·intro k hk
  rcases hA with hp | hp
  ·left; rw[<-hp]; exact hk
  ·right; rw[hp]at hk; cases hk; simp
theorem iX {P:Program} {ops:Array Oper} {rest:List Oper} {o:Oper} {a:Act} {Q:Exit->Act->World->Prop} {t e:TypeId} {sz bytes:Nat} (T:kz P t e sz bytes) (hgd:o.guard=none) (s x:Operand)
  (ho:o.op= .call {callee:= .builtin .append,args:= #[s,x],argTypes:= #[t,t]}) (base:Nat) (v:Value) (n:Nat) (xs:List Value) (hs:a.eval s=v) (w0:World) (news:List Value) (e2:TypeId)
  (hx:a.eval x= .slice (some ⟨w0.heap.size,0,none⟩) 1 1) (hl:news.length=sz) (h1: ∀u∈news,u.oneCell'=true) (hown:w0.ownsRow base e sz v n xs) (hn:n<1099511627775) (hbase:base<=w0.heap.size)
  (h: ∀v' w',w'.ownsRow base e sz v' (n+1) (xs++news)->w0.grownBy w' v.ownBlock->v'≠ .slice none 0 0->wpList P ops Q rest (a.put o.dst v') w'):wpList P ops Q (o::rest) a (w0.alloc (.cells news.toArray e2)):=
 bP T hgd s x ho base v n xs hs w0 news e2 hx hl h1 hown hn hbase fun v' w' h2 h3 h4 _=>h v' w' h2 h3 h4
theorem cK {w:World} {base:Nat} {e:TypeId} {sz:Nat} {v:Value} {n:Nat} {xs:List Value} (h:w.ownsRow base e sz v n xs):bX (fun k=>base<=k/\v.ownBlock=some k) w sz v n xs:=by
 obtain⟨hl,h2⟩:=h
 rcases h2 with⟨rfl,rfl⟩ | ⟨g,cap,cur,rfl,hg,hh,hn,hb,hc,ha⟩
 ·exact⟨hl,none,0,rfl,ah _,by unfold maxLen; omega, .inl rfl⟩
 ·refine⟨hl,_,cap,rfl,hn,hb, .inr ⟨g,0,rfl,⟨hg,rfl⟩,fun j u hj=> ?_⟩⟩;rw[bO,br w g j cur e (0,0) hh];rw[<-ha,eF]at hj
  split at hj
  ·simpa using hj
  ·cases hj
theorem bX.weak {S T:Nat->Prop} {w:World} {sz:Nat} {v:Value} {n:Nat} {cells:List Value} (h:bX S w sz v n cells) (hs: ∀k,S k->T k):bX T w sz v n cells:=by
 obtain⟨hl,a,cap,hv,hn,hm,h0⟩:=h;refine⟨hl,a,cap,hv,hn,hm, ?_⟩
 rcases h0 with h0 | ⟨b,o,ha,hb,hc⟩
 ·exact .inl h0
 ·exact .inr ⟨b,o,ha,hs b hb,hc⟩
theorem bZ {B:Nat} {w0 w w':World} {base:Nat} {e:TypeId} {sz:Nat} {v:Value} {n:Nat} {xs:List Value} (hb:Below B w0 w) (ho:w.ownsRow base e sz v n xs) (hg:w.grownBy w' v.ownBlock) (h1:B<=base) (h2:B<=w.heap.size):Below B w0 w':=
 hb.grown hg h2 (fun k hk=>by have:=(ho.lt k hk).1; omega)
theorem aH {w:World} {base:Nat} {e:TypeId} {sz:Nat} {v:Value} {n:Nat} {xs:List Value} (h:w.ownsRow base e sz v n xs): ∃a cap,v= .slice a n cap/\n<=cap/\cap<=maxLen:=by
 obtain⟨_,h2⟩:=h
 rcases h2 with⟨rfl,rfl⟩ | ⟨g,cap,cur,rfl,hg,hh,hn,ha,hc,hb⟩
 ·exact⟨_,_,rfl,ah _,by unfold maxLen; omega⟩
 ·exact⟨_,_,rfl,hn,ha⟩
theorem Tryz.appStrings :kz Tryz.prog 138 9 1 16:=kz.mk' (z:= .string ByteArray.empty) Tryz.underlying138 (by kernel_rfl) rfl (by decide) (by decide)
def em {α:Type} (R:List Value->α->Prop):List Value->List α->Prop
 | cells,[]=>cells=[]
 | cells,x::xs=> ∃c rest,cells=c++rest/\R c x/\em R rest xs
section
variable {α : Type} {R R' : List Value → α → Prop} {sz : Nat}
theorem em.mono : ∀ {xs:List α} {cells:List Value},(∀c x,x∈xs->R c x->R' c x)->em R cells xs->em R' cells xs
 | [],_,_,h=>h
 | x::xs,cells,hm,h=>by obtain⟨c,rest,rfl,hc,hr⟩:=h;exact⟨c,rest,rfl,hm c x (by simp) hc,em.mono (fun c y hy=>hm c y (by simp[hy])) hr⟩
theorem em.snoc : ∀ {xs:List α} {cells c:List Value} {x:α},em R cells xs->R c x->em R (cells++c) (xs++[x])
 | [],cells,c,x,h,hc=>by have:cells=[]:=h;subst this;exact⟨c,[],by simp,hc,rfl⟩
 | y::xs,cells,c,x,h,hc=>by obtain⟨d,rest,rfl,hd,hr⟩:=h;exact⟨d,rest++c,by simp,hd,em.snoc hr hc⟩
theorem em.len (hs: ∀c x,R c x->c.length=sz): ∀ {xs:List α} {cells:List Value},em R cells xs->cells.length=xs.length*sz
 | [],cells,h=>by have:cells=[]:=h; subst this; simp
 | x::xs,cells,h=>by obtain⟨c,rest,rfl,hc,hr⟩:=h;rw[ai,hs c x hc,em.len hs hr,ay,iY]; omega
theorem em.get (hs: ∀c x,R c x->c.length=sz): ∀ {xs:List α} {cells:List Value} {i:Nat} {x:α},em R cells xs->xs[i]? =some x-> ∃c,R c x/\ ∀j,j<sz->cells[i*sz+j]? =c[j]?
 | [],_,i,_,_,hi=>by simp at hi
 | y::xs,cells,0,x,h,hi=>by obtain⟨c,rest,rfl,hc,hr⟩:=h;simp at hi; subst hi;refine⟨c,hc,fun j hj=> ?_⟩;rw[jl,bO,bJ (by rw[hs c y hc]; exact hj)]
 | y::xs,cells,i+1,x,h,hi=>by
  obtain⟨c,rest,rfl,hc,hr⟩:=h;obtain⟨d,hd,hj⟩:=em.get hs hr (i:=i) (x:=x) (by simpa using hi);refine⟨d,hd,fun j hjs=> ?_⟩;have hl:=hs c y hc;rw[bE (by rw[hl,iY]; omega),hl,<-hj j hjs]
  congr 1
  rw[iY]; omega
theorem em.drop (hs: ∀c x,R c x->c.length=sz): ∀ {xs:List α} {cells:List Value} (i:Nat),em R cells xs->i<=xs.length->em R (cells.drop (i*sz)) (xs.drop i)
 | _,_,0,h,_=>by simpa using h
 | [],_,i+1,_,hi=>by simp at hi
 | y::xs,cells,i+1,h,hi=>by obtain⟨c,rest,rfl,hc,hr⟩:=h;have:=em.drop hs i hr (by simpa using hi);rw[bA,iY,Nat.one_mul,mi,jg,hs c y hc];simp only[gg];rw[fq (by rw[hs c y hc]; omega)];exact this
end
def cU {α:Type} (S:Nat->Prop) (w:World) (sz:Nat) (R:List Value->α->Prop) (v:Value) (xs:List α):Prop:=
 ∃cells,bX S w sz v xs.length cells/\em R cells xs
section
variable {α : Type} {S T : Nat → Prop} {w w' : World} {sz : Nat} {R R' : List Value → α → Prop} {v : Value} {xs : List α}
theorem cU.shape (h:cU S w sz R v xs) (hs: ∀c x,R c x->c.length=sz):
  ∃a cap,v= .slice a xs.length cap/\xs.length<=cap/\cap<=maxLen/\ ∀(k:Nat) x,xs[k]? =some x-> ∃b o c,a=some ⟨b,o,none⟩/\S b/\R c x/\c.length=sz/\ ∀j,j<sz->w.cell? ⟨b,o+(k*sz+j),none⟩=c[j]? :=by
 obtain⟨cells,⟨hl,a,cap,hv,hn,hm,h0⟩,hr⟩:=h;refine⟨a,cap,hv,hn,hm,fun k x hk=> ?_⟩
 rcases h0 with h0 | ⟨b,o,ha,hb,hc⟩
 ·simp[List.eq_nil_of_length_eq_zero h0]at hk
 ·obtain⟨c,hd,hj⟩:=hr.get hs hk;refine⟨b,o,c,ha,hb,hd,hs c x hd,fun j he=> ?_⟩;have hf:j<c.length:=by rw[hs c x hd]; exact he
  rw[bn hf];exact hc _ _ (by rw[hj j he,bn hf])
theorem cU.same (h:cU S w sz R v xs) (hs:my S w w') (hR: ∀c x,x∈xs->R c x->R' c x):cU S w' sz R' v xs:=by obtain⟨cells,h1,h2⟩:=h;exact⟨cells,h1.same hs,h2.mono hR⟩
theorem cU.below (h:cU S w sz R v xs) (hsz:0<sz) (hb:Below w.heap.size w w') (hR: ∀c x,x∈xs->R c x->R' c x):cU S w' sz R' v xs:=by obtain⟨cells,h1,h2⟩:=h;exact⟨cells,h1.below hsz hb,h2.mono hR⟩
theorem cU.mono (h:cU S w sz R v xs) (hsz:0<sz) (hs: ∀k,k<w.heap.size->S k->T k) (hR: ∀c x,x∈xs->R c x->R' c x):cU T w sz R' v xs:=by obtain⟨cells,h1,h2⟩:=h;exact⟨cells,h1.mono hs hsz,h2.mono hR⟩
theorem cU.nil :cU S w sz R (.slice none 0 0) ([]:List α):=⟨[],bX.nil _ _ _,rfl⟩
end
theorem tA (b o n:Nat):(⟨b,o,none⟩:Addr).add n=⟨b,o+n,none⟩:=by unfold Addr.add; split<;> simp_all
open Go Go.RowKit
theorem vU {P:Program} {w:World} (base:Nat) (t ty e:TypeId) (i:TypeInfo) (size:Nat) (ht:P.underlying t=some (.slice e)) (hi:P.info? e=some i)
  (v:Value) (n:Nat) (xs:List Value) (hown:w.ownsRow base e size v n xs) (a:Option Addr) (c:Nat):
  (Builtin.append_ #[t,t] ty #[v, .slice a 0 c]).run P w= .ok v w:=by
 rcases hown.2 with⟨rfl,rfl⟩ | ⟨g,cap,cur,rfl,_,_,ha,_⟩
 ·cases a<;> simp[Builtin.append_,run_underlying ht,sizeOf,typeInfo,hi,Builtin.lenOf,Builtin.firstCells,loadCells,loadCellsFrom]
 ·cases a<;> simp[Builtin.append_,run_underlying ht,sizeOf,typeInfo,hi,Builtin.lenOf,Builtin.firstCells,ha,storeCells,loadCells,loadCellsFrom]
theorem dV {P:Program} {ops:Array Oper} {rest:List Oper} {o:Oper} {a:Act} {Q:Exit->Act->World->Prop} {w:World} {t e:TypeId} {sz bytes:Nat} {S:Nat->Prop} (T:kz P t e sz bytes) (hgd:o.guard=none) (s x:Operand)
  (ho:o.op= .call {callee:= .builtin .append,args:= #[s,x],argTypes:= #[t,t]}) (base:Nat) (v:Value) (n:Nat) (xs:List Value) (hs:a.eval s=v) (hown:w.ownsRow base e sz v n xs) (vx:Value) (m:Nat) (news:List Value)
  (hx:a.eval x=vx) (hrow:bX S w sz vx m news) (h1: ∀u∈news,u.oneCell'=true) (hn:n+m<1099511627775) (hbase:base<=w.heap.size)
  (h: ∀v' w',w'.ownsRow base e sz v' (n+m) (xs++news)->w.grownBy w' v.ownBlock->wpList P ops Q rest (a.put o.dst v') w'):wpList P ops Q (o::rest) a w:=by
 obtain⟨ht,⟨i,z,he,hf,hh,hk,hm⟩,hb,hv⟩:=T;obtain⟨hl,ad,cap,rfl,_,_,h0⟩:=hrow;refine gJ hgd fun K hK=> ?_
 have hz:m=0->o.wp P a w K Q:=by rintro rfl;have hu:news=[]:=bq (by rw[hl]; simp);subst hu;have hd:=vU (P:=P) (w:=w) base t o.type e i sz ht he v n xs hown ad cap;unfold Oper.wp execOp;simp only[ho,resolve,invoke,builtin,Sem.run_bind,Sem.run_pure,iP,ji,bS,eY,hs,hx,hd];exact hK _ _ (h v w (by simpa using hown) ⟨rfl,rfl,rfl,ah _,fun _ _ _=>rfl⟩)
 rcases h0 with h0 | ⟨b,of,rfl,_,hc⟩
 ·exact hz h0
 ·have ha: ∀(j:Nat) u,news[j]? =some u->w.cell? ((⟨b,of,none⟩:Addr).add j)=some u:=fun j u hj=>by rw[tA]; exact hc j u hj
  have hp:n+m<=maxLen:=by unfold maxLen; omega
  have hq:(n+m)*bytes<=140737488355328:=by have:(n+m)*bytes<=1099511627775*128:=Nat.mul_le_mul (by omega) hv;omega
  obtain⟨v',w',hr,h2,hg,_⟩:=run_append_own (P:=P) w base t o.type e i z sz bytes ht he hf hh hk hm hb v n xs hown ⟨b,of,none⟩ m cap news hl ha h1 hp hq hbase;unfold Oper.wp execOp;simp only[ho,resolve,invoke,builtin,Sem.run_bind,Sem.run_pure,iP,ji,bS,eY,hs,hx,hr];exact hK _ _ (h v' w' h2 hg)
end
section
open Go
section
variable {P : Program} {ops : Array Oper} {Q : Exit → Act → World → Prop} {S : World → Prop}
@[irreducible] def pV (P:Program) (ops:Array Oper) (Q:Exit->Act->World->Prop) (S:World->Prop) (fuel:Nat) (listed:Array Bool) (a:Act) (w:World):Prop:=wpAnyH P .any ops Q S fuel listed a w
theorem pV.of {fuel:Nat} {listed:Array Bool} {a:Act} {w:World} (h:wpAnyH P .any ops Q S fuel listed a w):pV P ops Q S fuel listed a w:=by unfold pV; exact h
theorem pV.out {fuel:Nat} {listed:Array Bool} {a:Act} {w:World} (h:pV P ops Q S fuel listed a w):wpAnyH P .any ops Q S fuel listed a w:=by unfold pV at h; exact h
theorem eV {id:Nat} {a:Act} {w:World} {l:List Oper} (S:World->Prop) (hm:P.follows .mixedOrders=true) (h:pV P l.toArray Q S l.length (Array.replicate l.length false) a w.drew):(Code.region id l.toArray true).wp P Q a w:=by
 refine wp_region_held (S:=S) hm ?_;have:=h.out
 simpa using this
theorem MQ {dst:Option Tmp} {op:Op} {ty:TypeId} {pos:String} {aft:Array Edge} {g:Option (Nat×Bool)} {v:Value} {fuel:Nat} {listed:Array Bool} {a:Act} {w:World} (i:Nat) (hi:ops[i]? =some ⟨dst,op,ty,pos,aft,g⟩)
  (hs:Region.noSelect ops=true) (hf:Region.free .any ops listed i=true) (hr:(Region.ready .any ops listed).contains i=true)
  (hQ: ∀c a w,Q (.panic c) (a.put dst v) w->Q (.panic c) a w) (hw:Region.wanted ⟨dst,op,ty,pos,aft,g⟩ (yielded ops a.tmps)=true) (hS:S w)
  (hy: ∀w',S w'->(execOp a.eval ⟨dst,op,ty,pos,aft,g⟩).run P w'= .ok (.value v) w')
  (h:pV P ops Q S fuel (listed.setIfInBounds i true) (a.put dst v) w):pV P ops Q S (fuel+1) listed a w:=
 pV.of (wpAnyH_take (oi:=⟨dst,op,ty,pos,aft,g⟩) hi hs hf hr hQ (.inl ⟨hw,hy⟩) hS h.out)
theorem MP {dst:Option Tmp} {op:Op} {ty:TypeId} {pos:String} {aft:Array Edge} {g:Option (Nat×Bool)} {fuel:Nat} {listed:Array Bool} {a:Act} {w:World} (i:Nat) (hi:ops[i]? =some ⟨dst,op,ty,pos,aft,g⟩)
  (hs:Region.noSelect ops=true) (hf:Region.free .any ops listed i=true) (hr:(Region.ready .any ops listed).contains i=true)
  (hQ: ∀c a w,Q (.panic c) (a.put dst undef) w->Q (.panic c) a w) (hw:Region.wanted ⟨dst,op,ty,pos,aft,g⟩ (yielded ops a.tmps)=false) (hS:S w)
  (h:pV P ops Q S fuel (listed.setIfInBounds i true) (a.put dst undef) w):pV P ops Q S (fuel+1) listed a w:=
 pV.of (wpAnyH_take (oi:=⟨dst,op,ty,pos,aft,g⟩) hi hs hf hr hQ (.inr ⟨hw,rfl⟩) hS h.out)
theorem dx {dst:Option Tmp} {op:Op} {ty:TypeId} {pos:String} {aft:Array Edge} {g:Option (Nat×Bool)} {v:Value} {fuel:Nat} {listed:Array Bool} {a:Act} {w:World} (i:Nat) (hi:ops[i]? =some ⟨dst,op,ty,pos,aft,g⟩) (hS:S w)
  (hy: ∀w',S w'->(execOp a.eval ⟨dst,op,ty,pos,aft,g⟩).run P w'= .ok (.value v) w')
  (h:pV P ops Q S fuel (listed.setIfInBounds i true) (a.put dst v) w)
  (hk:(Region.noSelect ops && Region.free .any ops listed i && (Region.ready .any ops listed).contains i)=true:=by kernel_rfl)
  (hQ: ∀c a w,Q (.panic c) (a.put dst v) w->Q (.panic c) a w:=by exact fun _ _ _ h=>h) (hw:Region.wanted ⟨dst,op,ty,pos,aft,g⟩ (yielded ops a.tmps)=true:=by rfl):pV P ops Q S (fuel+1) listed a w:=by
 rw[aE,aE]at hk;exact MQ _ hi hk.1.1 hk.1.2 hk.2 hQ hw hS hy h
theorem cF {dst:Option Tmp} {op:Op} {ty:TypeId} {pos:String} {aft:Array Edge} {g:Option (Nat×Bool)} {v:Value} {fuel:Nat} {listed:Array Bool} {a:Act} {w:World} (hi:ops[ops.size-(fuel+1)]? =some ⟨dst,op,ty,pos,aft,g⟩) (hS:S w)
  (hy: ∀w',S w'->(execOp a.eval ⟨dst,op,ty,pos,aft,g⟩).run P w'= .ok (.value v) w')
  (h:pV P ops Q S fuel (listed.setIfInBounds (ops.size-(fuel+1)) true) (a.put dst v) w)
  (hk:(Region.noSelect ops && Region.free .any ops listed (ops.size-(fuel+1)) && (Region.ready .any ops listed).contains (ops.size-(fuel+1)))=true:=by kernel_rfl)
  (hQ: ∀c a w,Q (.panic c) (a.put dst v) w->Q (.panic c) a w:=by exact fun _ _ _ h=>h) (hw:Region.wanted ⟨dst,op,ty,pos,aft,g⟩ (yielded ops a.tmps)=true:=by rfl):pV P ops Q S (fuel+1) listed a w:=dx _ hi hS hy h hk hQ hw
theorem IE {dst:Option Tmp} {op:Op} {ty:TypeId} {pos:String} {aft:Array Edge} {g:Option (Nat×Bool)} {fuel:Nat} {listed:Array Bool} {a:Act} {w:World} (i:Nat) (hi:ops[i]? =some ⟨dst,op,ty,pos,aft,g⟩) (hS:S w)
  (h:pV P ops Q S fuel (listed.setIfInBounds i true) (a.put dst undef) w)
  (hk:(Region.noSelect ops && Region.free .any ops listed i && (Region.ready .any ops listed).contains i)=true:=by kernel_rfl)
  (hQ: ∀c a w,Q (.panic c) (a.put dst undef) w->Q (.panic c) a w:=by exact fun _ _ _ h=>h) (hw:Region.wanted ⟨dst,op,ty,pos,aft,g⟩ (yielded ops a.tmps)=false:=by rfl):pV P ops Q S (fuel+1) listed a w:=by
 rw[aE,aE]at hk;exact MP _ hi hk.1.1 hk.1.2 hk.2 hQ hw hS h
theorem MO {dst:Option Tmp} {op:Op} {ty:TypeId} {pos:String} {aft:Array Edge} {g:Option (Nat×Bool)} {fuel:Nat} {listed:Array Bool} {a:Act} {w:World} (hi:ops[ops.size-(fuel+1)]? =some ⟨dst,op,ty,pos,aft,g⟩) (hS:S w)
  (h:pV P ops Q S fuel (listed.setIfInBounds (ops.size-(fuel+1)) true) (a.put dst undef) w)
  (hk:(Region.noSelect ops && Region.free .any ops listed (ops.size-(fuel+1)) && (Region.ready .any ops listed).contains (ops.size-(fuel+1)))=true:=by kernel_rfl)
  (hQ: ∀c a w,Q (.panic c) (a.put dst undef) w->Q (.panic c) a w:=by exact fun _ _ _ h=>h) (hw:Region.wanted ⟨dst,op,ty,pos,aft,g⟩ (yielded ops a.tmps)=false:=by rfl):pV P ops Q S (fuel+1) listed a w:=IE _ hi hS h hk hQ hw
theorem Pt {dst:Option Tmp} {op:Op} {ty:TypeId} {pos:String} {aft:Array Edge} {g:Option (Nat×Bool)} {fuel:Nat} {listed:Array Bool} {a:Act} {w:World} (i:Nat) (hi:ops[i]? =some ⟨dst,op,ty,pos,aft,g⟩) (hr:Region.ready .any ops listed=[i])
  (hw:Region.wanted ⟨dst,op,ty,pos,aft,g⟩ (yielded ops a.tmps)=true)
  (h: ∀K:Act->World->Prop,(∀a w,S w/\pV P ops Q S fuel (listed.setIfInBounds i true) a w->K a w)->wpList P #[] (Exit.then K Q) [⟨dst,op,ty,pos, #[],none⟩] a w):pV P ops Q S (fuel+1) listed a w:=by
 refine pV.of (wpAnyH_all hr (by simp) fun j hj=> ?_);have ha:j=i:=by simpa using hj
 subst ha;have hb:yP P ops (fun a' w'=>S w'/\wpAnyH P .any ops Q S fuel (listed.setIfInBounds j true) a' w') Q [⟨dst,op,ty,pos,aft,g⟩] a w:=
  eE hw (fun K hK=>h K (fun a w hh=>hK a w ⟨hh.1,hh.2.out⟩))
 unfold wpOp;simp only[hi];exact yP.out hb
theorem cA {dst:Option Tmp} {op:Op} {ty:TypeId} {pos:String} {aft:Array Edge} {g:Option (Nat×Bool)} {fuel:Nat} {listed:Array Bool} {a:Act} {w:World} (i:Nat) (hi:ops[i]? =some ⟨dst,op,ty,pos,aft,g⟩)
  (h: ∀K:Act->World->Prop,(∀a w,S w/\pV P ops Q S fuel (listed.setIfInBounds i true) a w->K a w)->wpList P #[] (Exit.then K Q) [⟨dst,op,ty,pos, #[],none⟩] a w) (hr:Region.ready .any ops listed=[i]:=by kernel_rfl) (hw:Region.wanted ⟨dst,op,ty,pos,aft,g⟩ (yielded ops a.tmps)=true:=by rfl):pV P ops Q S (fuel+1) listed a w:=Pt i hi hr hw h
theorem cH {listed:Array Bool} {a:Act} {w:World} {fuel:Nat} (hr:Region.ready .any ops listed=[]) (h:Q .normal a w):pV P ops Q S fuel listed a w:=pV.of (wpAnyH_done hr h fuel)
end
end
section
open Go.RowKit
theorem bD {w:World} {b k:Nat} {cs:Array Value} {t:TypeId} {z:Nat×Nat} (h:w.heap[b]? =some (.cells cs t z)):w.cell? ⟨b,k,none⟩=cs[k]? :=by simp[World.cell?,h]
theorem dD {w:World} {b k:Nat} {cs:Array Value} {t:TypeId} (h:w.heap[b]? =some (.cells cs t (0,0))):w.frozen? ⟨b,k,none⟩=false:=by simp[World.frozen?,h]
def aZ (b:UInt8):Value:= .int .u8 (b.toNat:Int)
structure dr (w : World) (rb : Nat) (v : Value) (data : List UInt8) (off last : Nat) (err : Int) : Prop where
 box:w.heap[rb]? =some (.cells #[v, .int .i64 (off:Int), .int .i64 (last:Int), .int .i64 err] 165 (0,0))
 row:bX (· ≠rb) w 1 v data.length (data.map aZ)
 le:off<=data.length
 ls:last<=data.length
 small:data.length<=32768
theorem PR {w:World} {b:Nat} {a0 a1 a2 a3 x:Value} {t:TypeId} (h:w.heap[b]? =some (.cells #[a0,a1,a2,a3] t (0,0))):(w.setCell ⟨b,1,none⟩ x).heap[b]? =some (.cells #[a0,x,a2,a3] t (0,0)):=by simp only[World.setCell,gR,if_true,h,dE]; rfl
theorem PS {w:World} {b:Nat} {a0 a1 a2 a3 x:Value} {t:TypeId} (h:w.heap[b]? =some (.cells #[a0,a1,a2,a3] t (0,0))):(w.setCell ⟨b,2,none⟩ x).heap[b]? =some (.cells #[a0,a1,x,a3] t (0,0)):=by simp only[World.setCell,gR,if_true,h,dE]; rfl
theorem PT {w:World} {b:Nat} {a0 a1 a2 a3 x:Value} {t:TypeId} (h:w.heap[b]? =some (.cells #[a0,a1,a2,a3] t (0,0))):(w.setCell ⟨b,3,none⟩ x).heap[b]? =some (.cells #[a0,a1,a2,x] t (0,0)):=by simp only[World.setCell,gR,if_true,h,dE]; rfl
theorem dr.c0 {w:World} {rb:Nat} {v:Value} {data:List UInt8} {off last:Nat} {err:Int} (h:dr w rb v data off last err):w.cell? ⟨rb,0,none⟩=some v:=by rw[bD h.box]; rfl
theorem dr.c1 {w:World} {rb:Nat} {v:Value} {data:List UInt8} {off last:Nat} {err:Int} (h:dr w rb v data off last err):w.cell? ⟨rb,1,none⟩=some (.int .i64 (off:Int)):=by rw[bD h.box]; rfl
theorem dr.c2 {w:World} {rb:Nat} {v:Value} {data:List UInt8} {off last:Nat} {err:Int} (h:dr w rb v data off last err):w.cell? ⟨rb,2,none⟩=some (.int .i64 (last:Int)):=by rw[bD h.box]; rfl
theorem dr.c3 {w:World} {rb:Nat} {v:Value} {data:List UInt8} {off last:Nat} {err:Int} (h:dr w rb v data off last err):w.cell? ⟨rb,3,none⟩=some (.int .i64 err):=by rw[bD h.box]; rfl
theorem dr.free {w:World} {rb:Nat} {v:Value} {data:List UInt8} {off last:Nat} {err:Int} (h:dr w rb v data off last err) (k:Nat):w.frozen? ⟨rb,k,none⟩=false:=dD h.box
theorem dr.set1 {w:World} {rb:Nat} {v:Value} {data:List UInt8} {off last:Nat} {err:Int} (h:dr w rb v data off last err) (o:Nat) (ho:o<=data.length):dr (w.setCell ⟨rb,1,none⟩ (.int .i64 (o:Int))) rb v data o last err:=
 ⟨PR h.box,h.row.same (fun _ hk=>az _ _ _ _ hk),ho,h.ls,h.small⟩
theorem dr.set2 {w:World} {rb:Nat} {v:Value} {data:List UInt8} {off last:Nat} {err:Int} (h:dr w rb v data off last err) (o:Nat) (ho:o<=data.length):dr (w.setCell ⟨rb,2,none⟩ (.int .i64 (o:Int))) rb v data off o err:=
 ⟨PS h.box,h.row.same (fun _ hk=>az _ _ _ _ hk),h.le,ho,h.small⟩
theorem dr.set3 {w:World} {rb:Nat} {v:Value} {data:List UInt8} {off last:Nat} {err:Int} (h:dr w rb v data off last err) (e:Int):dr (w.setCell ⟨rb,3,none⟩ (.int .i64 e)) rb v data off last e:=
 ⟨PT h.box,h.row.same (fun _ hk=>az _ _ _ _ hk),h.le,h.ls,h.small⟩
theorem dr.lt {w:World} {rb:Nat} {v:Value} {data:List UInt8} {off last:Nat} {err:Int} (h:dr w rb v data off last err):rb<w.heap.size:=am h.box
theorem dr.below {w w':World} {rb:Nat} {v:Value} {data:List UInt8} {off last:Nat} {err:Int} (h:dr w rb v data off last err) (hb:Below w.heap.size w w'):dr w' rb v data off last err:=
 ⟨by rw[hb.block _ h.lt]; exact h.box,h.row.below (by omega) hb,h.le,h.ls,h.small⟩
theorem cJ (w:World) (b o:Nat) (x:Value):w.grownBy (w.setCell ⟨b,o,none⟩ x) (some b):=
 ⟨rfl,rfl,rfl,by simp[World.setCell],fun k hk hne=>az _ _ _ _ (fun e=>hne (by simpa using e))⟩
theorem bW {a b c:World} {r:Option Nat} (h:a.grownBy b r) (k:b.grownBy c r):a.grownBy c r:=
 ⟨k.os.trans h.os,k.tape.trans h.tape,k.output.trans h.output,an h.size k.size,fun i hi hne=>(k.block i (aO hi h.size) hne).trans (h.block i hi hne)⟩
theorem qe (w:World) (r:Option Nat):w.grownBy w r:=⟨rfl,rfl,rfl,ah _,fun _ _ _=>rfl⟩
theorem dr.draws {w:World} {rb:Nat} {v:Value} {data:List UInt8} {off last:Nat} {err:Int} (h:dr w rb v data off last err) (n:Nat):dr (w.drewN n) rb v data off last err:=h.below (gk (ak _ _) n)
theorem gp {a w:World} {r:Option Nat} (h:a.grownBy w r) (n:Nat):a.grownBy (w.drewN n) r:=bW h ⟨rfl,rfl,rfl,ah _,fun _ _ _=>rfl⟩
theorem dr.shape {w:World} {rb:Nat} {v:Value} {data:List UInt8} {off last:Nat} {err:Int} (h:dr w rb v data off last err): ∃a cap,v= .slice a data.length cap/\data.length<=cap/\cap<=maxLen/\
  ∀(k:Nat) b,data[k]? =some b-> ∃bk o,a=some ⟨bk,o,none⟩/\bk≠rb/\w.cell? ⟨bk,o+k,none⟩=some (aZ b):=by
 obtain⟨_,a,cap,hv,hn,hm,h0⟩:=h.row;refine⟨a,cap,hv,hn,hm,fun k b hk=> ?_⟩
 rcases h0 with h0 | ⟨bk,o,ha,hb,hc⟩
 ·simp[List.eq_nil_of_length_eq_zero h0]at hk
 ·exact⟨bk,o,ha,hb,hc k _ (by simp[hk])⟩
def zg (m:Nat) (b:UInt8) (k:Nat):Nat:=m ||| (b.toNat%128*2^(7*k)%18446744073709551616)
theorem BW {m:Nat} (b:UInt8) (k:Nat) (h:m<18446744073709551616):zg m b k<18446744073709551616:=by unfold zg;exact Nat.or_lt_two_pow (n:=64) h (cZ _ (by decide))
theorem KF (m:Nat) (b:UInt8) (k:Nat) (h:m<18446744073709551616):bits BinOp.or IntKind.u64 (m:Int) (IntKind.u64.wrap (IntKind.u64.wrap (bits BinOp.and IntKind.u8 (b.toNat:Int) 127)*2^(7*k)))=(zg m b k:Int):=by
 have hb:=b.toNat_lt;rw[show(127:Int)=((127:Nat):Int)from rfl,u8_and_nat _ _ hb (by omega),show(127:Nat)=2^7-1 from rfl,Nat.and_two_pow_sub_one_eq_mod,cX,cX,
  show((2:Int)^(7*k))=((2^(7*k):Nat):Int) by push_cast; rfl]
 have e:((((b.toNat%2^7:Nat):Int)%18446744073709551616)*((2^(7*k):Nat):Int))%18446744073709551616=((b.toNat%128*2^(7*k)%18446744073709551616:Nat):Int):=by
  rw[show(((b.toNat%2^7:Nat):Int)%18446744073709551616)=((b.toNat%128:Nat):Int) by omega]
  show _%((18446744073709551616:Nat):Int)=_
  rw[<-Int.natCast_mul,<-Int.natCast_emod]
 rw[e,bits_or_u64_nat _ _ h (cZ _ (by decide))]; rfl
def pm (b:UInt8) (k:Nat):Bool:=(decide (0<k) && decide (b.toNat=0)) || (decide (k=9) && decide (1<b.toNat))
def pn (data:List UInt8):Nat->Nat->Nat->Nat->Except Int (Nat×Nat)
 | 0,_,_,_=> .error 3
 | f+1,k,o,m=>match data[o]? with
  | none=> .error 3
  | some b=>if 128<=b.toNat then pn data f (k+1) (o+1) (zg m b k)else if pm b k then .error 3 else .ok (zg m b k,o+1)
def oD (data:List UInt8) (off:Nat):Except Int (Nat×Nat):=pn data 10 0 off 0
theorem KE {data:List UInt8} {f k o m:Nat} {b:UInt8} (h:data[o]? =some b) (h2:128<=b.toNat):pn data (f+1) k o m=pn data f (k+1) (o+1) (zg m b k):=by rw[pn,h]; simp only[if_pos h2]
theorem Eb {data:List UInt8} {f k o m:Nat} {b:UInt8} (h:data[o]? =some b) (h2: ¬128<=b.toNat) (h3:pm b k=true):pn data (f+1) k o m= .error 3:=by rw[pn,h]; simp only[if_neg h2,if_pos h3]
theorem PC {data:List UInt8} {f k o m:Nat} {b:UInt8} (h:data[o]? =some b) (h2: ¬128<=b.toNat) (h3:pm b k=false):pn data (f+1) k o m= .ok (zg m b k,o+1):=by rw[pn,h]; simp only[if_neg h2,h3]; rfl
theorem Nr {data:List UInt8} {f k o m:Nat} (h:data.length<=o):pn data f k o m= .error 3:=by
 cases f with
 | zero=>rfl
 | succ f=>rw[pn,dP h]
theorem AG (data:List UInt8): ∀(f k o m n o':Nat),m<18446744073709551616->pn data f k o m= .ok (n,o')->n<18446744073709551616/\o<o'/\o'<=data.length
 | 0,_,_,_,_,_,_,h=>by simp[pn]at h
 | f+1,k,o,m,n,o',hm,h=>by
  rw[pn]at h
  cases hd:data[o]? with
  | none=>rw[hd]at h; simp at h
  | some b=>
   have hl:=(aA.1 hd).1;rw[hd]at h;simp only at h
   split at h
   ·obtain⟨h1,h2,h3⟩:=AG data f (k+1) (o+1) _ n o' (BW b k hm) h;exact⟨h1,by omega,h3⟩
   ·split at h
    ·simp at h
    ·simp only[dj,cM]at h;obtain⟨rfl,rfl⟩:=h;exact⟨BW b k hm,by omega,by omega⟩
theorem AF {data:List UInt8} {off n o':Nat} (h:oD data off= .ok (n,o')):n<18446744073709551616/\off<o'/\o'<=data.length:=AG data 10 0 off 0 n o' (by decide) h
theorem Ec (data:List UInt8): ∀(f k o m:Nat) (x:Int),pn data f k o m= .error x->x=3
 | 0,_,_,_,_,h=>by simp only[pn,ff]at h; exact h.symm
 | f+1,k,o,m,x,h=>by
  rw[pn]at h
  split at h
  ·simp only[ff]at h; exact h.symm
  ·split at h
   ·exact Ec data f _ _ _ x h
   ·split at h
    ·simp only[ff]at h; exact h.symm
    ·simp at h
theorem xS {data:List UInt8} {off:Nat} {x:Int} (h:oD data off= .error x):x=3:=Ec data 10 0 off 0 x h
def OJ (kd:IntKind) (w:World) (rb:Nat) (v:Value) (data:List UInt8) (last:Nat) (err:Int) (r:Except Int (Nat×Nat)) (e:Ending) (w':World):Prop:=
 ∃o',dr w' rb v data o' last err/\w.grownBy w' (some rb)/\match r with
  | .ok (n,o)=>e= .returned (.tuple #[.int kd (n:Int), .int .i64 0])/\o'=o
  | .error x=>e= .returned (.tuple #[.int kd 0, .int .i64 x])
theorem xU (rb:Nat) (v:Value) (data:List UInt8) (off last:Nat) (err:Int) (w:World) (hr:dr w rb v data off last err):
  Calls Tryz.prog 112 #[.pointer (some ⟨rb,0,none⟩)] w (OJ .u64 w rb v data last err (oD data off)):=by
 obtain⟨a,cap,rfl,hc,hE,-⟩:=hr.shape;unfold maxLen at hE;have HR:=ag hr;clear hr
 go_enter Tryz.func112,Tryz.ntmps112
 go_wp2_with fail
 go_loopw [2,6] (fun n i wr=> ∃(k o m:Nat),k<=10/\i= .int .i64 k/\n= .int .u64 (m:Int)/\m<18446744073709551616/\dr wr rb (.slice a data.length cap) data o last err/\w.grownBy wr (some rb)/\pn data 10 0 off 0=pn data (10-k) k o m) (fun _ i _=>10-(intOf i).toNat)
 ·exact⟨0,off,0,aR _,rfl,rfl,by decide,HR.o,qe _ _,rfl⟩
 ·obtain⟨k,o,m,hk,rfl,rfl,hm,hv,hg,hn⟩:=hrel;have hh:=ag hv;have HG:=ag hg;have HN:=ag hn;have HM:=ag hm;have hH:=hv.le;have hJ:=hv.small;have c0:=hv.c0;have c1:=hv.c1;have f1:=hv.free 1;clear hg hn hm
  by_cases hI:k<10
  ·obtain⟨f,hf⟩: ∃f,10-k=f+1:=⟨9-k,by omega⟩
   by_cases hF:o<data.length
   ·obtain⟨b,hb⟩: ∃b,data[o]? =some b:=⟨data[o],by simp[hF]⟩;have hG:=b.toNat_lt;obtain⟨a2,cap2,hs,_,_,ha⟩:=hv.shape
    cases hs
    obtain⟨bk,ok,rfl,hy,hp⟩:=ha o b hb;have hu:=ag hb;clear hv ha hb;rw[hf]at HN;have hB:=KF m b k HM.o
    by_cases hq:128<=b.toNat
    ·go_wp2_with fail
     go_quiet (fail)
     go_wp2_with fail;clear c0 c1 f1;obtain⟨W,hj⟩:=bH (wr.drewN nq);have he:=hh.o.draws nq;have hl:=gp HG.o nq
     try rw[<-hj]
     rw[<-hj]at he hl;clear hh HG hj;have hh:=ag he;have HG:=ag hl;have c0:=he.c0;have c1:=he.c1;have f1:=he.free 1;clear he hl;have hw:W.cell? ⟨bk,ok+o,none⟩=some (.int .u8 (b.toNat:Int)):=by
      obtain⟨a2,cap2,hs,_,_,ha⟩:=hh.o.shape
      cases hs
      obtain⟨bk,ok,e,hy,hp⟩:=ha o b hu.o
      cases e
      exact hp
     clear hp
     go_quiet (fail)
     go_wp2_with fail;have h1:=(hh.o.draws nq).set1 (o+1) (by omega);refine⟨⟨k+1,o+1,zg m b k,by omega,by go_num,rfl,BW b k HM.o,h1,bW (gp HG.o nq) (cJ _ _ _ _), ?_⟩,by simp[intOf]; omega⟩;rw[HN.o,KE hu.o hq]
     congr 1; omega
    ·cases ho:pm b k
     ·have hx:=ag ho;simp only[pm,fX,Bool.and_eq_false_iff,fm]at ho;obtain⟨hC,hD⟩:=ho;have HD:=ag (show k=0\/(k=9/\b.toNat<=1/\b.toNat≠0)\/(0<k/\k<9/\b.toNat≠0) by omega);clear hC hD;go_wp2_with fail
      go_quiet (fail)
      go_wp2_with fail;clear c0 c1 f1;obtain⟨W,hj⟩:=bH (wr.drewN nq);have he:=hh.o.draws nq;have hl:=gp HG.o nq
      try rw[<-hj]
      rw[<-hj]at he hl;clear hh HG hj;have hh:=ag he;have HG:=ag hl;have c0:=he.c0;have c1:=he.c1;have f1:=he.free 1;clear he hl;have hw:W.cell? ⟨bk,ok+o,none⟩=some (.int .u8 (b.toNat:Int)):=by
       obtain⟨a2,cap2,hs,_,_,ha⟩:=hh.o.shape
       cases hs
       obtain⟨bk,ok,e,hy,hp⟩:=ha o b hu.o
       cases e
       exact hp
      clear hp
      go_quiet (fail)
      go_wp2_with fail
      all_goals first
       | (exfalso; have hd:=HD.o; omega)
       | (exfalso; have hd:=HD.o; rename_i hA; rcases hA with hA | hA<;> first | omega | (rw[kf]at hA; omega))
       | (
        go_ret2
        have h1:=(hh.o.draws nq).set1 (o+1) (by omega);refine⟨o+1,h1,bW (gp HG.o nq) (cJ _ _ _ _), ?_⟩;rw[oD,HN.o];rw[PC hu.o hq hx.o];exact⟨rfl,rfl⟩)
     ·have hx:=ag ho;simp only[pm,gU,aE,aG]at ho
      rcases ho with⟨h0,hz⟩ | ⟨rfl,h1⟩
      ·go_wp2_with fail
       go_quiet (fail)
       go_wp2_with fail;clear c0 c1 f1;obtain⟨W,hj⟩:=bH (wr.drewN nq);have he:=hh.o.draws nq;have hl:=gp HG.o nq
       try rw[<-hj]
       rw[<-hj]at he hl;clear hh HG hj;have hh:=ag he;have HG:=ag hl;have c0:=he.c0;have c1:=he.c1;have f1:=he.free 1;clear he hl;have hw:W.cell? ⟨bk,ok+o,none⟩=some (.int .u8 (b.toNat:Int)):=by
        obtain⟨a2,cap2,hs,_,_,ha⟩:=hh.o.shape
        cases hs
        obtain⟨bk,ok,e,hy,hp⟩:=ha o b hu.o
        cases e
        exact hp
       clear hp
       go_quiet (fail)
       go_wp2_with fail
       all_goals (
        go_ret2
        have h1:=(hh.o.draws nq).set1 (o+1) (by omega);refine⟨o+1,h1,bW (gp HG.o nq) (cJ _ _ _ _), ?_⟩;rw[oD,HN.o];rw[Eb hu.o hq hx.o]
        try rfl)
      ·go_wp2_with fail
       go_quiet (fail)
       go_wp2_with fail;clear c0 c1 f1;obtain⟨W,hj⟩:=bH (wr.drewN nq);have he:=hh.o.draws nq;have hl:=gp HG.o nq
       try rw[<-hj]
       rw[<-hj]at he hl;clear hh HG hj;have hh:=ag he;have HG:=ag hl;have c0:=he.c0;have c1:=he.c1;have f1:=he.free 1;clear he hl;have hw:W.cell? ⟨bk,ok+o,none⟩=some (.int .u8 (b.toNat:Int)):=by
        obtain⟨a2,cap2,hs,_,_,ha⟩:=hh.o.shape
        cases hs
        obtain⟨bk,ok,e,hy,hp⟩:=ha o b hu.o
        cases e
        exact hp
       clear hp
       go_quiet (fail)
       go_wp2_with fail
       all_goals (
        go_ret2
        have h1:=(hh.o.draws nq).set1 (o+1) (by omega);refine⟨o+1,h1,bW (gp HG.o nq) (cJ _ _ _ _), ?_⟩;rw[oD,HN.o];rw[Eb hu.o hq hx.o]
        try rfl)
   ·obtain rfl:o=data.length:=by omega
    go_wp2_with fail
    go_quiet (fail)
    go_wp2_with fail
    go_ret2
    exact⟨data.length,hh.o.draws nq,gp HG.o nq,by rw[oD,HN.o,Nr (ah _)]; rfl⟩
  ·obtain rfl:k=10:=by omega
   go_wp2_with fail
   go_ret2
   exact⟨o,hh.o,HG.o,by rw[oD,HN.o]; rfl⟩
def nr (data:List UInt8) (off most:Nat):Except Int (Nat×Nat):=match oD data off with
 | .error x=> .error x
 | .ok (n,o)=>if most<n then .error 2 else .ok (n,o)
theorem uH {data:List UInt8} {off most n o':Nat} (h:nr data off most= .ok (n,o')):n<=most/\off<o'/\o'<=data.length:=by
 unfold nr at h
 cases hn:oD data off with
 | error x=>rw[hn]at h; simp at h
 | ok p=>
  obtain⟨m,o⟩:=p;rw[hn]at h;simp only at h
  split at h
  ·simp at h
  ·simp only[dj,cM]at h;obtain⟨rfl,rfl⟩:=h;have:=AF hn;omega
theorem DJ {data:List UInt8} {off most:Nat} {x:Int} (h:nr data off most= .error x):x=3\/x=2:=by
 unfold nr at h
 split at h
 ·rename_i y hy;simp only[ff]at h;exact .inl (h▸xS hy)
 ·split at h
  ·simp only[ff]at h; exact .inr h.symm
  ·simp at h
theorem vC (rb:Nat) (v:Value) (data:List UInt8) (off last most:Nat) (err:Int) (w:World) (hr:dr w rb v data off last err) (hm:most<=2000000):
  Calls Tryz.prog 107 #[.pointer (some ⟨rb,0,none⟩), .int .i64 (most:Int)] w (OJ .i64 w rb v data last err (nr data off most)):=by
 have HR:=ag hr;clear hr
 go_enter Tryz.func107,Tryz.ntmps107
 go_wp2_with fail;refine(xU rb v data off last err w HR.o).mono ?_;rintro e w1 ⟨o',hf,hd,ha⟩;have hc:=ag hf;have hb:=ag hd;clear hf hd
 cases hn:oD data off with
 | error x=>
  have hx:x=3:=xS hn;subst hx;have HL:=ag (show nr data off most= .error 3 by unfold nr; rw[hn]);rw[hn]at ha;simp only at ha;subst ha;clear hn;go_wp2_with fail
  go_ret2
  exact⟨o',hc.o,hb.o,by rw[HL.o]; rfl⟩
 | ok p=>
  obtain⟨n,o⟩:=p;have hh:=AF hn;have HN:=ag hn;rw[hn]at ha;simp only at ha;obtain⟨rfl,rfl⟩:=ha;clear hn;have hg:max (most:Int) 0=(most:Int):=by omega
  by_cases he:most<n
  ·have HL:=ag (show nr data off most= .error 2 by unfold nr; rw[HN.o]; simp only[if_pos he]);go_wp2_with fail
   go_ret2
   exact⟨o',hc.o,hb.o,by rw[HL.o]; rfl⟩
  ·have HL:=ag (show nr data off most= .ok (n,o') by unfold nr; rw[HN.o]; simp only[if_neg he]);go_wp2_with fail
   go_ret2
   exact⟨o',hc.o,hb.o,by rw[HL.o]; exact⟨rfl,rfl⟩⟩
def kN (data:List UInt8) (off n:Nat):Except Int (List UInt8×Nat):=if data.length-off<n then .error 3 else .ok ((data.drop off).take n,off+n)
def kt (data:List UInt8) (off most:Nat):Except Int (List UInt8×Nat):=match nr data off most with
 | .error x=> .error x
 | .ok (n,o)=>kN data o n
def GU (w:World) (rb:Nat) (v:Value) (bs:List UInt8):Prop:= ∃bk o c,v= .slice (some ⟨bk,o,none⟩) bs.length c/\bs.length<=c/\bk≠rb/\ ∀(j:Nat) b,bs[j]? =some b->w.cell? ⟨bk,o+j,none⟩=some (aZ b)
def QR (w:World) (rb:Nat) (v:Value) (data:List UInt8) (last:Nat) (err:Int) (r:Except Int (List UInt8×Nat)) (e:Ending) (w':World):Prop:=
 ∃o',dr w' rb v data o' last err/\w.grownBy w' (some rb)/\match r with
  | .ok (bs,o)=>(∃pv,e= .returned (.tuple #[pv, .int .i64 0])/\GU w' rb pv bs)/\o'=o
  | .error x=>e= .returned (.tuple #[.slice none 0 0, .int .i64 x])
theorem Om {data:List UInt8} {off n j:Nat} {b:UInt8} (h:((data.drop off).take n)[j]? =some b):data[off+j]? =some b:=by
 rw[eF]at h
 split at h
 ·rw[fN]at h; exact h
 ·simp at h
theorem EL (rb:Nat) (v:Value) (data:List UInt8) (off last n:Nat) (err:Int) (w:World) (hr:dr w rb v data off last err) (hn:n<=2000000) (hpos:0<data.length\/0<n):
  Calls Tryz.prog 141 #[.pointer (some ⟨rb,0,none⟩), .int .i64 (n:Int)] w (QR w rb v data last err (kN data off n)):=by
 have hd:=ag hr;have HG:=ag (qe w (some rb));obtain⟨a,cap,rfl,hc,hp,ha⟩:=hr.shape;unfold maxLen at hp;have c0:=hr.c0;have c1:=hr.c1;have f1:=hr.free 1;have hu:=hr.le;have hw:=hr.small
 by_cases hl:data.length-off<n
 ·have HT:=ag (show kN data off n= .error 3 by unfold kN; rw[if_pos hl]);clear hr ha
  go_enter Tryz.func141,Tryz.ntmps141
  go_wp2_with fail
  go_quiet (fail)
  go_wp2_with fail
  go_ret2
  exact⟨off,hd.o.draws nq,gp HG.o nq,by rw[HT.o]; rfl⟩
 ·have hs:0<data.length:=by omega
  obtain⟨bk,ok,rfl,hk,-⟩:=ha 0 data[0] (by simp);have HT:=ag (show kN data off n= .ok ((data.drop off).take n,off+n) by unfold kN; rw[if_neg hl]);have hg:((data.drop off).take n).length=n:=by simp; omega
  have hh:=ag hg;clear hr ha hg
  by_cases hv:off<cap
  ·go_enter Tryz.func141,Tryz.ntmps141
   go_wp2_with fail
   go_quiet (fail)
   go_wp2_with fail;clear c0 c1 f1;obtain⟨W,he⟩:=bH (w.drewN nq);have hb:=hd.o.draws nq;have hf:=gp HG.o nq
   try rw[<-he]
   rw[<-he]at hb hf;clear hd HG he;have hd:=ag hb;have HG:=ag hf;have c0:=hb.c0;have c1:=hb.c1;have f1:=hb.free 1;clear hb hf
   go_quiet (fail)
   go_wp2_with fail
   go_ret2
   have h1:=(hd.o.draws nq).set1 (off+n) (by omega);rw[Int.natCast_add]at h1;refine⟨off+n,h1,bW (gp HG.o nq) (cJ _ _ _ _), ?_⟩;rw[HT.o];refine⟨⟨_,rfl,bk,ok+off,cap-off, ?_, ?_,hk,fun j b hj=> ?_⟩,rfl⟩
   ·rw[hh.o]; show Value.slice _ (off+n-off) _=_; rw[gg]
   ·rw[hh.o]; omega
   ·obtain⟨a2,cap2,hq,_,_,ha⟩:=h1.shape
    cases hq
    obtain⟨bk2,ok2,e,hm,ho⟩:=ha (off+j) b (Om hj)
    cases e
    rw[dp]; exact ho
  ·obtain rfl:off=cap:=by omega
   obtain rfl:n=0:=by omega
   go_enter Tryz.func141,Tryz.ntmps141
   go_wp2_with fail
   go_quiet (fail)
   go_wp2_with fail;clear c0 c1 f1;obtain⟨W,he⟩:=bH (w.drewN nq);have hb:=hd.o.draws nq;have hf:=gp HG.o nq
   try rw[<-he]
   rw[<-he]at hb hf;clear hd HG he;have hd:=ag hb;have HG:=ag hf;have c0:=hb.c0;have c1:=hb.c1;have f1:=hb.free 1;clear hb hf
   go_quiet (fail)
   go_wp2_with fail
   go_ret2
   have h1:=(hd.o.draws nq).set1 off (by omega);refine⟨off,h1,bW (gp HG.o nq) (cJ _ _ _ _), ?_⟩;rw[HT.o];exact⟨⟨_,rfl,bk,ok,0,by rw[hh.o]; rfl,by rw[hh.o]; exact ah _,hk,fun j b hj=>by simp at hj⟩,rfl⟩
theorem JE (rb:Nat) (v:Value) (data:List UInt8) (off last most:Nat) (err:Int) (w:World) (hr:dr w rb v data off last err) (hm:most<=2000000):
  Calls Tryz.prog 110 #[.pointer (some ⟨rb,0,none⟩), .int .i64 (most:Int)] w (QR w rb v data last err (kt data off most)):=by
 have HR:=ag hr;clear hr
 go_enter Tryz.func110,Tryz.ntmps110
 go_wp2_with fail;refine(vC rb v data off last most err w HR.o hm).mono ?_;rintro e w1 ⟨o',hj,hf,ha⟩;have hc:=ag hj;have hb:=ag hf;clear hj hf
 cases hn:nr data off most with
 | error x=>
  have hx:x=3\/x=2:=DJ hn;have HL:=ag (show kt data off most= .error x by unfold kt; rw[hn]);rw[hn]at ha;simp only at ha;subst ha;clear hn
  rcases hx with rfl | rfl
  ·go_wp2_with fail
   go_ret2
   exact⟨o',hc.o,hb.o,by rw[HL.o]; rfl⟩
  ·go_wp2_with fail
   go_ret2
   exact⟨o',hc.o,hb.o,by rw[HL.o]; rfl⟩
 | ok p=>
  obtain⟨n,o⟩:=p;have hl:=uH hn;have HL:=ag (show kt data off most=kN data o n by unfold kt; rw[hn]);rw[hn]at ha;simp only at ha;obtain⟨rfl,rfl⟩:=ha;clear hn;go_wp2_with fail;refine(EL rb v data o' last n err w1 hc.o (by omega) (.inl (by omega))).mono ?_;rintro e w2 ⟨o2,hk,hg,ha⟩;have he:=ag hk;have hd:=ag (bW hb.o hg);clear hk hg
  cases ht:kN data o' n with
  | error x=>
   have HT:=ag ht;rw[ht]at ha;simp only at ha;subst ha;clear ht;go_wp2_with fail
   go_ret2
   exact⟨o2,he.o,hd.o,by rw[HL.o,HT.o]; rfl⟩
  | ok p=>
   obtain⟨bs,o3⟩:=p;have HT:=ag ht;rw[ht]at ha;simp only at ha;obtain⟨⟨pv,rfl,hh⟩,rfl⟩:=ha;have HP:=ag hh;obtain⟨pb,po,pc,rfl,-,-,-⟩:=hh;clear ht;go_wp2_with fail
   go_ret2
   exact⟨o2,he.o,hd.o,by rw[HL.o,HT.o]; exact⟨⟨_,rfl,HP.o⟩,rfl⟩⟩
structure RS where
 off:Nat
 last:Nat
 err:Int
deriving DecidableEq
def tr (w:World) (rb:Nat) (v:Value) (data:List UInt8) (s:RS):Prop:=dr w rb v data s.off s.last s.err
def rv {α:Type} (z:α) (r:Except Int (α×Nat)) (s:RS):α×RS:=if s.err=0 then match r with
 | .ok (x,o)=>(x,⟨o,s.off,0⟩)
 | .error y=>(z,⟨s.off,s.off,y⟩)else(z,s)
def OK {α:Type} (zero:Value) (val:α->Value) (w:World) (rb:Nat) (v:Value) (data:List UInt8) (last:Nat) (err:Int) (r:Except Int (α×Nat)) (e:Ending) (w':World):Prop:=
 ∃o',dr w' rb v data o' last err/\w.grownBy w' (some rb)/\match r with
  | .ok (x,o)=>e= .returned (.tuple #[val x, .int .i64 0])/\o'=o
  | .error y=>e= .returned (.tuple #[zero, .int .i64 y])
theorem OJ.v {kd:IntKind} {w:World} {rb:Nat} {v:Value} {data:List UInt8} {last:Nat} {err:Int} {r:Except Int (Nat×Nat)} {e:Ending} {w':World} (h:OJ kd w rb v data last err r e w'):
  OK (.int kd 0) (fun n:Nat=> .int kd (n:Int)) w rb v data last err r e w':=by
 obtain⟨o',h1,h2,h3⟩:=h;refine⟨o',h1,h2, ?_⟩
 cases r with
 | error x=>exact h3
 | ok p=>exact h3
def vg {α:Type} (z:α) (val:α->Value) (w:World) (rb:Nat) (v:Value) (data:List UInt8) (r:Except Int (α×Nat)) (s:RS) (e:Ending) (w':World):Prop:=
 e= .returned (val (rv z r s).1)/\tr w' rb v data (rv z r s).2/\w.grownBy w' (some rb)
structure fd (w W : World) (rb : Nat) (x : Value) (t : TypeId) (start : Nat) : Prop where
 bx:W.heap[w.heap.size]? =some (.cells #[.pointer (some ⟨rb,0,none⟩)] 101 (0,0))
 bv:W.heap[w.heap.size+1]? =some (.cells #[x] t (0,0))
 bs:W.heap[w.heap.size+2]? =some (.cells #[.int .i64 (start:Int)] 3 (0,0))
 grown:w.grownBy W (some rb)
 lt:rb<w.heap.size
theorem fd.step {w W W':World} {rb:Nat} {x:Value} {t:TypeId} {start:Nat} (h:fd w W rb x t start) (hg:W.grownBy W' (some rb)):fd w W' rb x t start:=by
 have h1:=h.lt;refine⟨?_, ?_, ?_,bW h.grown hg,h.lt⟩
 ·rw[hg.block _ (am h.bx) (by simp; omega)]; exact h.bx
 ·rw[hg.block _ (am h.bv) (by simp; omega)]; exact h.bv
 ·rw[hg.block _ (am h.bs) (by simp; omega)]; exact h.bs
theorem fd.setv {w W:World} {rb:Nat} {x:Value} {t:TypeId} {start:Nat} (h:fd w W rb x t start) (y:Value):fd w (W.setCell ⟨w.heap.size+1,0,none⟩ y) rb y t start:=by
 refine⟨?_,one_setCell h.bv, ?_, ?_,h.lt⟩
 ·rw[az _ _ _ _ (by simp)]; exact h.bx
 ·rw[az _ _ _ _ (by simp)]; exact h.bs
 ·exact⟨h.grown.os,h.grown.tape,h.grown.output,by have:=h.grown.size; simpa [World.setCell]using this,fun k hk ha=>by rw[az _ _ _ _ (by simp; omega)]; exact h.grown.block k hk ha⟩
theorem dr.setOther {w0 w:World} {rb:Nat} {v:Value} {data:List UInt8} {off last off0 last0:Nat} {err err0:Int} (h0:dr w0 rb v data off0 last0 err0) (h:dr w rb v data off last err) {b k:Nat} (hb:w0.heap.size<=b) (y:Value):
  dr (w.setCell ⟨b,k,none⟩ y) rb v data off last err:=by
 have h1:=h0.lt;have he:=h0.row.mono (T:=fun k=>k≠rb/\k<w0.heap.size) (fun k hk hS=>⟨hS,hk⟩) (by omega);obtain⟨_,a0,cap0,hf,_,_,ha⟩:=he;obtain⟨hl,a,cap,hv,hn,hm,h2⟩:=h.row;refine⟨by rw[az _ _ _ _ (by simp; omega)]; exact h.box,⟨hl,a,cap,hv,hn,hm, ?_⟩,h.le,h.ls,h.small⟩
 rcases h2 with h2 | ⟨bk,o,rfl,hk,hc⟩
 ·exact .inl h2
 ·rcases ha with ha | ⟨bk0,o0,rfl,hd,_⟩
  ·exact .inl ha
  ·rw[hf]at hv
   cases hv
   refine .inr ⟨bk,o,rfl,hk,fun j u hj=> ?_⟩;rw[<-hc j u hj];exact cC (az _ _ _ _ (by have:=hd.2; show bk≠b; omega))
theorem Fj (xb mb rb:Nat) (v:Value) (data:List UInt8) (off last most:Nat) (err:Int) (w:World) (hr:dr w rb v data off last err) (hm:most<=2000000)
  (hx:w.cell? ⟨xb,0,none⟩=some (.pointer (some ⟨rb,0,none⟩))) (hmb:w.cell? ⟨mb,0,none⟩=some (.int .i64 (most:Int))):
  Calls Tryz.prog 106 #[.pointer (some ⟨xb,0,none⟩), .pointer (some ⟨mb,0,none⟩)] w (OK (.int .i64 0) (fun n:Nat=> .int .i64 (n:Int)) w rb v data last err (nr data off most)):=by
 have HR:=ag hr;clear hr
 go_enter Tryz.func106,Tryz.ntmps106
 go_wp2_with fail;refine(vC rb v data off last most err w HR.o hm).mono ?_;intro e w1 hd;obtain⟨o',h1,h2,h3⟩:=hd.v;have H1:=ag h1;have H2:=ag h2;clear hd h1 h2
 cases hl:nr data off most with
 | error y=>
  rw[hl]at h3; simp only at h3; subst h3;have HL:=ag hl;clear hl;go_wp2_with fail
  go_ret2
  exact⟨o',H1.o,H2.o,by rw[HL.o]; rfl⟩
 | ok p=>
  obtain⟨n,o⟩:=p;rw[hl]at h3; simp only at h3; obtain⟨rfl,rfl⟩:=h3;have HL:=ag hl;clear hl;go_wp2_with fail
  go_ret2
  exact⟨o',H1.o,H2.o,by rw[HL.o]; exact⟨rfl,rfl⟩⟩
theorem gO {w w':World} (h:Below w.heap.size w w') (r:Option Nat):w.grownBy w' r:=⟨h.os,h.tape,h.output,h.size,fun k hk _=>h.block k hk⟩
def NoP (Q:Exit->Act->World->Prop) (e:Exit) (a:Act) (w:World):Prop:=match e with
 | .panic _=>False
 | e=>Q e a w
theorem rQ {P:Program} {Q:Exit->Act->World->Prop} {c:Code} {a:Act} {w:World} (h:c.wp P (NoP Q) a w):c.wp P Q a w:=wp_mono h (fun e a w hn=>by cases e<;> first | exact hn | exact False.elim hn)
theorem kL {Q:Exit->Act->World->Prop} {a:Act} {w:World} (h:Q .normal a w):NoP Q .normal a w:=h
theorem fd.start {w:World} {rb:Nat} (h:rb<w.heap.size) (x:Value) (t:TypeId) (o:Nat):fd w (((w.alloc (.cells #[.pointer (some ⟨rb,0,none⟩)] 101)).alloc (.cells #[x] t)).alloc (.cells #[.int .i64 (o:Int)] 3)) rb x t o:=by
 refine⟨?_, ?_, ?_, ?_,h⟩
 ·rw[cN _ _ _ (by simp; omega),cN _ _ _ (by simp)]; exact aC w _
 ·rw[cN _ _ _ (by simp)];have:=aC (w.alloc (.cells #[.pointer (some ⟨rb,0,none⟩)] 101)) (.cells #[x] t)
  simpa using this
 ·have:=aC ((w.alloc (.cells #[.pointer (some ⟨rb,0,none⟩)] 101)).alloc (.cells #[x] t)) (.cells #[.int .i64 (o:Int)] 3)
  simpa using this
 ·exact gO (((eT).alloc (by simp) _).alloc (by simp; omega) _) _
theorem fd.below0 {w:World} (a b c:Obj):Below w.heap.size w (((w.alloc a).alloc b).alloc c):=((eT).alloc (by simp) _).alloc (by simp; omega) _
theorem IG {data:List UInt8} {off most:Nat} {x:Int} (h:nr data off most= .error x): ¬x=0:=by rcases DJ h with rfl | rfl<;> decide
theorem PB {data:List UInt8} {off:Nat} {x:Int} (h:oD data off= .error x): ¬x=0:=by rw[xS h]; decide
theorem NT (sb xb vb rb:Nat) (v:Value) (data:List UInt8) (off last start:Nat) (u:FrameMode) (w:World) (hr:dr w rb v data off last 0)
  (hs:w.cell? ⟨sb,0,none⟩=some (.int .i64 (start:Int))) (hx:w.cell? ⟨xb,0,none⟩=some (.pointer (some ⟨rb,0,none⟩))) (_:sb≠rb) (_:xb≠rb):
  CallsD Tryz.prog 139 #[.pointer (some ⟨sb,0,none⟩), .pointer (some ⟨xb,0,none⟩), .pointer (some ⟨vb,0,none⟩)] u w fun e u' w'=>u'=u/\(e= .returned (.tuple #[])/\w'=w.setCell ⟨rb,2,none⟩ (.int .i64 (start:Int))):=by
 have c3:=hr.c3;have c2:=hr.c2;have f2:=hr.free 2;clear hr
 go_enter_d Tryz.func139,Tryz.ntmps139
 go_wp2_with fail
 first | go_end0 | refine cS (gI rfl _ _ _) rfl ?_
 exact⟨rfl,rfl⟩
theorem Lh (sb xb vb rb:Nat) (v:Value) (data:List UInt8) (off last start:Nat) (err:Int) (x:Value) (t:TypeId) (u:FrameMode) (w:World) (hr:dr w rb v data off last err) (he: ¬err=0)
  (hs:w.cell? ⟨sb,0,none⟩=some (.int .i64 (start:Int))) (hx:w.cell? ⟨xb,0,none⟩=some (.pointer (some ⟨rb,0,none⟩))) (hv:w.heap[vb]? =some (.cells #[x] t (0,0))) (hsr:sb≠rb) (hxr:xb≠rb) (hvr:vb≠rb) (hvs:vb≠sb) (hvx:vb≠xb):
  CallsD Tryz.prog 139 #[.pointer (some ⟨sb,0,none⟩), .pointer (some ⟨xb,0,none⟩), .pointer (some ⟨vb,0,none⟩)] u w fun e u' w'=>u'=u/\(e= .returned (.tuple #[])/\w'=((w.setCell ⟨rb,2,none⟩ (.int .i64 (start:Int))).setCell ⟨rb,1,none⟩ (.int .i64 (start:Int))).setCell ⟨vb,0,none⟩ (.int .i64 0)):=by
 have c3:=hr.c3;have c2:=hr.c2;have c1:=hr.c1;have f2:=hr.free 2;have f1:=hr.free 1;have v0:=bh hv;have fv:=eN hv;clear hr
 go_enter_d Tryz.func139,Tryz.ntmps139
 go_wp2_with fail
 first | go_end0 | refine cS (gI rfl _ _ _) rfl ?_
 exact⟨rfl,rfl⟩
theorem Ey (sb xb vb rb:Nat) (v:Value) (data:List UInt8) (off last start:Nat) (u:FrameMode) (w:World) (hr:dr w rb v data off last 0)
  (hs:w.cell? ⟨sb,0,none⟩=some (.int .i64 (start:Int))) (hx:w.cell? ⟨xb,0,none⟩=some (.pointer (some ⟨rb,0,none⟩))) (_:sb≠rb) (_:xb≠rb):
  CallsD Tryz.prog 140 #[.pointer (some ⟨sb,0,none⟩), .pointer (some ⟨xb,0,none⟩), .pointer (some ⟨vb,0,none⟩)] u w fun e u' w'=>u'=u/\(e= .returned (.tuple #[])/\w'=w.setCell ⟨rb,2,none⟩ (.int .i64 (start:Int))):=by
 have c3:=hr.c3;have c2:=hr.c2;have f2:=hr.free 2;clear hr
 go_enter_d Tryz.func140,Tryz.ntmps140
 go_wp2_with fail
 first | go_end0 | refine cS (gI rfl _ _ _) rfl ?_
 exact⟨rfl,rfl⟩
theorem AY (sb xb vb rb:Nat) (v:Value) (data:List UInt8) (off last start:Nat) (err:Int) (x:Value) (t:TypeId) (u:FrameMode) (w:World) (hr:dr w rb v data off last err) (he: ¬err=0)
  (hs:w.cell? ⟨sb,0,none⟩=some (.int .i64 (start:Int))) (hx:w.cell? ⟨xb,0,none⟩=some (.pointer (some ⟨rb,0,none⟩))) (hv:w.heap[vb]? =some (.cells #[x] t (0,0))) (hsr:sb≠rb) (hxr:xb≠rb) (hvr:vb≠rb) (hvs:vb≠sb) (hvx:vb≠xb):
  CallsD Tryz.prog 140 #[.pointer (some ⟨sb,0,none⟩), .pointer (some ⟨xb,0,none⟩), .pointer (some ⟨vb,0,none⟩)] u w fun e u' w'=>u'=u/\(e= .returned (.tuple #[])/\w'=((w.setCell ⟨rb,2,none⟩ (.int .i64 (start:Int))).setCell ⟨rb,1,none⟩ (.int .i64 (start:Int))).setCell ⟨vb,0,none⟩ (.string ⟨#[]⟩)):=by
 have c3:=hr.c3;have c2:=hr.c2;have c1:=hr.c1;have f2:=hr.free 2;have f1:=hr.free 1;have v0:=bh hv;have fv:=eN hv;clear hr
 go_enter_d Tryz.func140,Tryz.ntmps140
 go_wp2_with fail
 first | go_end0 | refine cS (gI rfl _ _ _) rfl ?_
 exact⟨rfl,rfl⟩
theorem NU (sb xb vb rb:Nat) (v:Value) (data:List UInt8) (off last start:Nat) (u:FrameMode) (w:World) (hr:dr w rb v data off last 0)
  (hs:w.cell? ⟨sb,0,none⟩=some (.int .i64 (start:Int))) (hx:w.cell? ⟨xb,0,none⟩=some (.pointer (some ⟨rb,0,none⟩))) (_:sb≠rb) (_:xb≠rb):
  CallsD Tryz.prog 142 #[.pointer (some ⟨sb,0,none⟩), .pointer (some ⟨xb,0,none⟩), .pointer (some ⟨vb,0,none⟩)] u w fun e u' w'=>u'=u/\(e= .returned (.tuple #[])/\w'=w.setCell ⟨rb,2,none⟩ (.int .i64 (start:Int))):=by
 have c3:=hr.c3;have c2:=hr.c2;have f2:=hr.free 2;clear hr
 go_enter_d Tryz.func142,Tryz.ntmps142
 go_wp2_with fail
 first | go_end0 | refine cS (gI rfl _ _ _) rfl ?_
 exact⟨rfl,rfl⟩
theorem Li (sb xb vb rb:Nat) (v:Value) (data:List UInt8) (off last start:Nat) (err:Int) (x:Value) (t:TypeId) (u:FrameMode) (w:World) (hr:dr w rb v data off last err) (he: ¬err=0)
  (hs:w.cell? ⟨sb,0,none⟩=some (.int .i64 (start:Int))) (hx:w.cell? ⟨xb,0,none⟩=some (.pointer (some ⟨rb,0,none⟩))) (hv:w.heap[vb]? =some (.cells #[x] t (0,0))) (hsr:sb≠rb) (hxr:xb≠rb) (hvr:vb≠rb) (hvs:vb≠sb) (hvx:vb≠xb):
  CallsD Tryz.prog 142 #[.pointer (some ⟨sb,0,none⟩), .pointer (some ⟨xb,0,none⟩), .pointer (some ⟨vb,0,none⟩)] u w fun e u' w'=>u'=u/\(e= .returned (.tuple #[])/\w'=((w.setCell ⟨rb,2,none⟩ (.int .i64 (start:Int))).setCell ⟨rb,1,none⟩ (.int .i64 (start:Int))).setCell ⟨vb,0,none⟩ (.int .u64 0)):=by
 have c3:=hr.c3;have c2:=hr.c2;have c1:=hr.c1;have f2:=hr.free 2;have f1:=hr.free 1;have v0:=bh hv;have fv:=eN hv;clear hr
 go_enter_d Tryz.func142,Tryz.ntmps142
 go_wp2_with fail
 first | go_end0 | refine cS (gI rfl _ _ _) rfl ?_
 exact⟨rfl,rfl⟩
theorem vT (cx cm rb:Nat) (v:Value) (data:List UInt8) (s:RS) (most:Nat) (w:World) (hr:tr w rb v data s) (hm:most<=2000000)
  (hx:w.cell? ⟨cx,0,none⟩=some (.pointer (some ⟨rb,0,none⟩))) (hmb:w.cell? ⟨cm,0,none⟩=some (.int .i64 (most:Int))):
  Calls Tryz.prog 105 #[.pointer (some ⟨rb,0,none⟩), .func (.func 106) #[] #[.pointer (some ⟨cx,0,none⟩), .pointer (some ⟨cm,0,none⟩)]] w
   (vg 0 (fun n:Nat=> .int .i64 (n:Int)) w rb v data (nr data s.off most) s):=by
 have HX:=ag hx;have HM:=ag hmb;clear hx hmb;have hI: ∀(fn:Fn) (first cap:Array Value) (w:World),(Instr.makeFunc fn first cap).run Tryz.prog w= .ok (.func fn first cap) w:=fun _ _ _ _=>rfl
 have hv:dr w rb v data s.off s.last s.err:=hr;have HR:=ag hv;have hH:=hv.lt;have c1:=hv.c1;have c3:=hv.c3;clear hr hv
 go_enter_defers Tryz.func105,Tryz.ntmps105
 by_cases he:s.err=0
 ·rw[he]at c3;go_wp2_with fail;obtain⟨W,hW⟩:=bH (((w.alloc (.cells #[.pointer (some ⟨rb,0,none⟩)] 101)).alloc (.cells #[.int .i64 0] 3)).alloc (.cells #[.int .i64 (s.off:Int)] 3));rw[<-hW];have hB:fd w W rb (.int .i64 0) 3 s.off:=by rw[hW]; exact fd.start hH _ _ _
  have hn:Below w.heap.size w W:=by rw[hW]; exact fd.below0 _ _ _
  have hF:dr W rb v data s.off s.last 0:=by have:=HR.o.below hn; rw[he]at this; exact this
  have HB:=ag hB;have hG:=ag hF;have hz:=ag hn;have HE:=ag he;have x0:=bh hB.bx;have hJ:w.heap.size≠rb:=by omega
  clear hW hB hF hn c1 c3 he;refine rQ ?_;refine eV (fun w'=>w'.cell? ⟨w.heap.size,0,none⟩=some (.pointer (some ⟨rb,0,none⟩))) (by kernel_rfl) ?_
  iterate 2 (refine cF rfl (by go_simp) (by intro w' ho; go_simp; rfl) ?_ (hQ:=fun _ _ _ h=>False.elim h); simp only[bM])
  refine cA 2 rfl (fun K hK=> ?_);have hj:Below w.heap.size w W.drew:=hz.o.trans ⟨rfl,rfl,rfl,ah _,fun _ _=>rfl⟩;have hD:=ag (show dr W.drew rb v data s.off s.last 0 from hG.o.draws 1);have hh:=ag hj;clear hj;go_wp2_with fail;refine(Fj cx cm rb v data s.off s.last most 0 _ hD.o hm ((hh.o.cell (cR HX.o)).trans HX.o) ((hh.o.cell (cR HM.o)).trans HM.o)).mono ?_
  rintro e w1 ⟨o',h1,h2,h3⟩;have hp:=ag (HB.o.step (bW (b:=W.drew) ⟨rfl,rfl,rfl,ah _,fun _ _ _=>rfl⟩ h2));have x1:=bh hp.o.bx;have v1:=bh hp.o.bv;have fv1:=eN hp.o.bv;have hE:=ag h1;have e3:=h1.c3;have f3:=h1.free 3;clear h1 h2 x0
  cases hd:nr data s.off most with
  | error y=>
   have hy: ¬y=0:=IG hd;have HD:=ag hd;rw[hd]at h3;simp only at h3;subst h3;clear hd;go_wp2_with fail;refine⟨x1, ?_⟩
   iterate 3 (refine cF rfl (by go_simp) (by intro w' ho; go_simp; rfl) ?_ (hQ:=fun _ _ _ h=>False.elim h); simp only[bM])
   refine cA 6 rfl (fun K hK=> ?_);go_wp2_with fail;obtain⟨w2,hb⟩:=bH (w1.setCell ⟨w.heap.size+1,0,none⟩ (.int .i64 0));rw[<-hb];have hq:=ag (show fd w w2 rb (.int .i64 0) 3 s.off by rw[hb]; exact hp.o.setv _);have hl:=ag (show dr w2 rb v data o' s.last 0 by rw[hb]; exact HR.o.setOther hE.o (by omega) _);have x2:=bh hq.o.bx;have e4:=hl.o.c3;have f4:=hl.o.free 3
   clear hb x1 v1 fv1 e3 f3;refine⟨x2, ?_⟩
   iterate 2 (refine cF rfl (by go_simp) (by intro w' ho; go_simp; rfl) ?_ (hQ:=fun _ _ _ h=>False.elim h); simp only[bM])
   refine cA 9 rfl (fun K hK=> ?_);go_wp2_with fail;obtain⟨w3,hc⟩:=bH (w2.setCell ⟨rb,3,none⟩ (.int .i64 (y)));rw[<-hc];have ha:=ag (show fd w w3 rb (.int .i64 0) 3 s.off by rw[hc]; exact hq.o.step (cJ _ _ _ _));have hA:=ag (show dr w3 rb v data o' s.last (y) by rw[hc]; exact hl.o.set3 _);have x3:=bh ha.o.bx;have v3:=bh ha.o.bv;have fv3:=eN ha.o.bv
   clear hc x2 e4 f4;refine⟨x3, ?_⟩;refine cH (by kernel_rfl) ?_;refine kL ?_;go_wp2_with fail;obtain⟨w5,hf⟩:=bH (w3.setCell ⟨w.heap.size+1,0,none⟩ (.int .i64 0));rw[<-hf];have hg:=ag (show fd w w5 rb (.int .i64 0) 3 s.off by rw[hf]; exact ha.o.setv _);have hu:=ag (show dr w5 rb v data o' s.last (y) by rw[hf]; exact HR.o.setOther hA.o (by omega) _);clear hf
   refine iZ (f:=139) (args:= #[.pointer (some ⟨w.heap.size+1+1,0,none⟩), .pointer (some ⟨w.heap.size,0,none⟩), .pointer (some ⟨w.heap.size+1,0,none⟩)]) (by simp) (by simp[go_sem]) ?_;refine(Lh (w.heap.size+1+1) w.heap.size (w.heap.size+1) rb v data o' s.last s.off y _ _ .returning _ hu.o hy (bh hg.o.bs) (bh hg.o.bx) hg.o.bv (by omega) (by omega) (by omega) (by omega) (by omega)).mono ?_
   rintro e u' w'' ⟨rfl,rfl,hw⟩;have hs:=ag (show fd w w'' rb (.int .i64 0) 3 s.off by rw[hw]; exact(hg.o.step (bW (cJ _ _ _ _) (cJ _ _ _ _))).setv _);have hC:=ag (show dr w'' rb v data s.off s.off y by rw[hw]; exact HR.o.setOther ((hu.o.set2 s.off HR.o.le).set1 s.off HR.o.le) (by omega) _);have m0:=bh hs.o.bv;simp only[Leaves,settle];refine⟨_,by simp[results,Tryz.results105,go_sem,m0]<;> rfl, ?_⟩
   have hk:rv ((0:Nat)) (nr data s.off most) s=((0:Nat),⟨s.off,s.off,y⟩):=by unfold rv; rw[if_pos HE.o,HD.o]
   exact⟨by rw[hk]<;> rfl,by rw[hk]; exact hC.o,hs.o.grown⟩
  | ok p=>
   obtain⟨n,o⟩:=p;have HD:=ag hd;rw[hd]at h3;simp only at h3;obtain⟨rfl,rfl⟩:=h3;clear hd;go_wp2_with fail;refine⟨x1, ?_⟩;refine dx 3 rfl (by go_simp) (by intro w' ho; go_simp; rfl) ?_ (hQ:=fun _ _ _ h=>False.elim h);simp only[bM];refine dx 4 rfl (by go_simp) (by intro w' ho; go_simp; rfl) ?_ (hQ:=fun _ _ _ h=>False.elim h);simp only[bM];refine dx 5 rfl (by go_simp) (by intro w' ho; go_simp; rfl) ?_ (hQ:=fun _ _ _ h=>False.elim h)
   simp only[bM];refine cA 6 rfl (fun K hK=> ?_);go_wp2_with fail;obtain⟨w2,hb⟩:=bH (w1.setCell ⟨w.heap.size+1,0,none⟩ (.int .i64 (n:Int)));rw[<-hb];have hq:=ag (show fd w w2 rb (.int .i64 (n:Int)) 3 s.off by rw[hb]; exact hp.o.setv _);have hl:=ag (show dr w2 rb v data o' s.last 0 by rw[hb]; exact HR.o.setOther hE.o (by omega) _);have x2:=bh hq.o.bx
   have e4:=hl.o.c3;have f4:=hl.o.free 3;clear hb x1 v1 fv1 e3 f3;refine⟨x2, ?_⟩;refine dx 7 rfl (by go_simp) (by intro w' ho; go_simp; rfl) ?_ (hQ:=fun _ _ _ h=>False.elim h);simp only[bM];refine dx 8 rfl (by go_simp) (by intro w' ho; go_simp; rfl) ?_ (hQ:=fun _ _ _ h=>False.elim h);simp only[bM];refine cA 9 rfl (fun K hK=> ?_);go_wp2_with fail;obtain⟨w3,hc⟩:=bH (w2.setCell ⟨rb,3,none⟩ (.int .i64 (0)))
   rw[<-hc];have ha:=ag (show fd w w3 rb (.int .i64 (n:Int)) 3 s.off by rw[hc]; exact hq.o.step (cJ _ _ _ _));have hA:=ag (show dr w3 rb v data o' s.last (0) by rw[hc]; exact hl.o.set3 _);have x3:=bh ha.o.bx;have v3:=bh ha.o.bv;have fv3:=eN ha.o.bv;clear hc x2 e4 f4;refine⟨x3, ?_⟩;refine cH (by kernel_rfl) ?_;refine kL ?_
   go_wp2_with fail;obtain⟨w5,hf⟩:=bH (w3.setCell ⟨w.heap.size+1,0,none⟩ (.int .i64 (n:Int)));rw[<-hf];have hg:=ag (show fd w w5 rb (.int .i64 (n:Int)) 3 s.off by rw[hf]; exact ha.o.setv _);have hu:=ag (show dr w5 rb v data o' s.last (0) by rw[hf]; exact HR.o.setOther hA.o (by omega) _);clear hf;refine iZ (f:=139) (args:= #[.pointer (some ⟨w.heap.size+1+1,0,none⟩), .pointer (some ⟨w.heap.size,0,none⟩), .pointer (some ⟨w.heap.size+1,0,none⟩)]) (by simp) (by simp[go_sem]) ?_
   refine(NT (w.heap.size+1+1) w.heap.size (w.heap.size+1) rb v data o' s.last s.off .returning _ hu.o (bh hg.o.bs) (bh hg.o.bx) (by omega) (by omega)).mono ?_;rintro e u' w'' ⟨rfl,rfl,hw⟩;have hs:=ag (show fd w w'' rb (.int .i64 (n:Int)) 3 s.off by rw[hw]; exact hg.o.step (cJ _ _ _ _));have hC:=ag (show dr w'' rb v data o' s.off 0 by rw[hw]; exact hu.o.set2 s.off HR.o.le)
   have m0:=bh hs.o.bv;simp only[Leaves,settle];refine⟨_,by simp[results,Tryz.results105,go_sem,m0]<;> rfl, ?_⟩;have hk:rv ((0:Nat)) (nr data s.off most) s=(n,⟨o',s.off,0⟩):=by unfold rv; rw[if_pos HE.o,HD.o]
   exact⟨by rw[hk]<;> rfl,by rw[hk]; exact hC.o,hs.o.grown⟩
 ·have HE:=ag he;go_wp2_with fail;simp only[bodyPostD];refine⟨_,by simp[results,Tryz.results105,go_sem]<;> rfl, ?_⟩;have hk:rv ((0:Nat)) (nr data s.off most) s=((0:Nat),s):=by unfold rv; rw[if_neg HE.o]
  refine⟨by rw[hk]<;> rfl,by rw[hk]; exact HR.o.below ((eT).alloc (by simp) _),gO ((eT).alloc (by simp) _) _⟩
theorem yh (rb:Nat) (v:Value) (data:List UInt8) (s:RS) (w:World) (hr:tr w rb v data s):
  Calls Tryz.prog 111 #[.pointer (some ⟨rb,0,none⟩), .func (.func 112) #[.pointer (some ⟨rb,0,none⟩)] #[]] w
   (vg 0 (fun n:Nat=> .int .u64 (n:Int)) w rb v data (oD data s.off) s):=by
 have hG: ∀(fn:Fn) (first cap:Array Value) (w:World),(Instr.makeFunc fn first cap).run Tryz.prog w= .ok (.func fn first cap) w:=fun _ _ _ _=>rfl
 have hs:dr w rb v data s.off s.last s.err:=hr;have HR:=ag hs;have hF:=hs.lt;have c1:=hs.c1;have c3:=hs.c3;clear hr hs
 go_enter_defers Tryz.func111,Tryz.ntmps111
 by_cases he:s.err=0
 ·rw[he]at c3;go_wp2_with fail;obtain⟨W,hW⟩:=bH (((w.alloc (.cells #[.pointer (some ⟨rb,0,none⟩)] 101)).alloc (.cells #[.int .u64 0] 43)).alloc (.cells #[.int .i64 (s.off:Int)] 3));rw[<-hW];have hB:fd w W rb (.int .u64 0) 43 s.off:=by rw[hW]; exact fd.start hF _ _ _
  have hl:Below w.heap.size w W:=by rw[hW]; exact fd.below0 _ _ _
  have hD:dr W rb v data s.off s.last 0:=by have:=HR.o.below hl; rw[he]at this; exact this
  have HB:=ag hB;have hE:=ag hD;have hv:=ag hl;have HE:=ag he;have x0:=bh hB.bx;have hH:w.heap.size≠rb:=by omega
  clear hW hB hD hl c1 c3 he;refine rQ ?_;refine eV (fun w'=>w'.cell? ⟨w.heap.size,0,none⟩=some (.pointer (some ⟨rb,0,none⟩))) (by kernel_rfl) ?_
  iterate 2 (refine cF rfl (by go_simp) (by intro w' hm; go_simp; rfl) ?_ (hQ:=fun _ _ _ h=>False.elim h); simp only[bM])
  refine cA 2 rfl (fun K hK=> ?_);have hh:Below w.heap.size w W.drew:=hv.o.trans ⟨rfl,rfl,rfl,ah _,fun _ _=>rfl⟩;have hz:=ag (show dr W.drew rb v data s.off s.last 0 from hE.o.draws 1);have hA:=ag hh;clear hh;go_wp2_with fail;refine((xU rb v data s.off s.last 0 _ hz.o).mono fun _ _ h=>h.v).mono ?_;rintro e w1 ⟨o',h1,h2,h3⟩;have hn:=ag (HB.o.step (bW (b:=W.drew) ⟨rfl,rfl,rfl,ah _,fun _ _ _=>rfl⟩ h2))
  have x1:=bh hn.o.bx;have v1:=bh hn.o.bv;have fv1:=eN hn.o.bv;have hC:=ag h1;have e3:=h1.c3;have f3:=h1.free 3;clear h1 h2 x0
  cases hd:oD data s.off with
  | error y=>
   have hy: ¬y=0:=PB hd;have HD:=ag hd;rw[hd]at h3;simp only at h3;subst h3;clear hd;go_wp2_with fail;refine⟨x1, ?_⟩
   iterate 3 (refine cF rfl (by go_simp) (by intro w' hm; go_simp; rfl) ?_ (hQ:=fun _ _ _ h=>False.elim h); simp only[bM])
   refine cA 6 rfl (fun K hK=> ?_);go_wp2_with fail;obtain⟨w2,hb⟩:=bH (w1.setCell ⟨w.heap.size+1,0,none⟩ (.int .u64 0));rw[<-hb];have ho:=ag (show fd w w2 rb (.int .u64 0) 43 s.off by rw[hb]; exact hn.o.setv _);have hk:=ag (show dr w2 rb v data o' s.last 0 by rw[hb]; exact HR.o.setOther hC.o (by omega) _);have x2:=bh ho.o.bx;have e4:=hk.o.c3;have f4:=hk.o.free 3
   clear hb x1 v1 fv1 e3 f3;refine⟨x2, ?_⟩
   iterate 2 (refine cF rfl (by go_simp) (by intro w' hm; go_simp; rfl) ?_ (hQ:=fun _ _ _ h=>False.elim h); simp only[bM])
   refine cA 9 rfl (fun K hK=> ?_);go_wp2_with fail;obtain⟨w3,hc⟩:=bH (w2.setCell ⟨rb,3,none⟩ (.int .i64 (y)));rw[<-hc];have ha:=ag (show fd w w3 rb (.int .u64 0) 43 s.off by rw[hc]; exact ho.o.step (cJ _ _ _ _));have hw:=ag (show dr w3 rb v data o' s.last (y) by rw[hc]; exact hk.o.set3 _);have x3:=bh ha.o.bx;have v3:=bh ha.o.bv;have fv3:=eN ha.o.bv
   clear hc x2 e4 f4;refine⟨x3, ?_⟩;refine cH (by kernel_rfl) ?_;refine kL ?_;go_wp2_with fail;obtain⟨w5,hf⟩:=bH (w3.setCell ⟨w.heap.size+1,0,none⟩ (.int .u64 0));rw[<-hf];have hg:=ag (show fd w w5 rb (.int .u64 0) 43 s.off by rw[hf]; exact ha.o.setv _);have hq:=ag (show dr w5 rb v data o' s.last (y) by rw[hf]; exact HR.o.setOther hw.o (by omega) _);clear hf
   refine iZ (f:=142) (args:= #[.pointer (some ⟨w.heap.size+1+1,0,none⟩), .pointer (some ⟨w.heap.size,0,none⟩), .pointer (some ⟨w.heap.size+1,0,none⟩)]) (by simp) (by simp[go_sem]) ?_;refine(Li (w.heap.size+1+1) w.heap.size (w.heap.size+1) rb v data o' s.last s.off y _ _ .returning _ hq.o hy (bh hg.o.bs) (bh hg.o.bx) hg.o.bv (by omega) (by omega) (by omega) (by omega) (by omega)).mono ?_
   rintro e u' w'' ⟨rfl,rfl,hu⟩;have hp:=ag (show fd w w'' rb (.int .u64 0) 43 s.off by rw[hu]; exact(hg.o.step (bW (cJ _ _ _ _) (cJ _ _ _ _))).setv _);have hx:=ag (show dr w'' rb v data s.off s.off y by rw[hu]; exact HR.o.setOther ((hq.o.set2 s.off HR.o.le).set1 s.off HR.o.le) (by omega) _);have m0:=bh hp.o.bv;simp only[Leaves,settle];refine⟨_,by simp[results,Tryz.results111,go_sem,m0]<;> rfl, ?_⟩
   have hj:rv ((0:Nat)) (oD data s.off) s=((0:Nat),⟨s.off,s.off,y⟩):=by unfold rv; rw[if_pos HE.o,HD.o]
   exact⟨by rw[hj]<;> rfl,by rw[hj]; exact hx.o,hp.o.grown⟩
  | ok p=>
   obtain⟨n,o⟩:=p;have HD:=ag hd;rw[hd]at h3;simp only at h3;obtain⟨rfl,rfl⟩:=h3;clear hd;go_wp2_with fail;refine⟨x1, ?_⟩;refine dx 3 rfl (by go_simp) (by intro w' hm; go_simp; rfl) ?_ (hQ:=fun _ _ _ h=>False.elim h);simp only[bM];refine dx 4 rfl (by go_simp) (by intro w' hm; go_simp; rfl) ?_ (hQ:=fun _ _ _ h=>False.elim h);simp only[bM];refine dx 5 rfl (by go_simp) (by intro w' hm; go_simp; rfl) ?_ (hQ:=fun _ _ _ h=>False.elim h)
   simp only[bM];refine cA 6 rfl (fun K hK=> ?_);go_wp2_with fail;obtain⟨w2,hb⟩:=bH (w1.setCell ⟨w.heap.size+1,0,none⟩ (.int .u64 (n:Int)));rw[<-hb];have ho:=ag (show fd w w2 rb (.int .u64 (n:Int)) 43 s.off by rw[hb]; exact hn.o.setv _);have hk:=ag (show dr w2 rb v data o' s.last 0 by rw[hb]; exact HR.o.setOther hC.o (by omega) _);have x2:=bh ho.o.bx
   have e4:=hk.o.c3;have f4:=hk.o.free 3;clear hb x1 v1 fv1 e3 f3;refine⟨x2, ?_⟩;refine dx 7 rfl (by go_simp) (by intro w' hm; go_simp; rfl) ?_ (hQ:=fun _ _ _ h=>False.elim h);simp only[bM];refine dx 8 rfl (by go_simp) (by intro w' hm; go_simp; rfl) ?_ (hQ:=fun _ _ _ h=>False.elim h);simp only[bM];refine cA 9 rfl (fun K hK=> ?_);go_wp2_with fail;obtain⟨w3,hc⟩:=bH (w2.setCell ⟨rb,3,none⟩ (.int .i64 (0)))
   rw[<-hc];have ha:=ag (show fd w w3 rb (.int .u64 (n:Int)) 43 s.off by rw[hc]; exact ho.o.step (cJ _ _ _ _));have hw:=ag (show dr w3 rb v data o' s.last (0) by rw[hc]; exact hk.o.set3 _);have x3:=bh ha.o.bx;have v3:=bh ha.o.bv;have fv3:=eN ha.o.bv;clear hc x2 e4 f4;refine⟨x3, ?_⟩;refine cH (by kernel_rfl) ?_;refine kL ?_
   go_wp2_with fail;obtain⟨w5,hf⟩:=bH (w3.setCell ⟨w.heap.size+1,0,none⟩ (.int .u64 (n:Int)));rw[<-hf];have hg:=ag (show fd w w5 rb (.int .u64 (n:Int)) 43 s.off by rw[hf]; exact ha.o.setv _);have hq:=ag (show dr w5 rb v data o' s.last (0) by rw[hf]; exact HR.o.setOther hw.o (by omega) _);clear hf;refine iZ (f:=142) (args:= #[.pointer (some ⟨w.heap.size+1+1,0,none⟩), .pointer (some ⟨w.heap.size,0,none⟩), .pointer (some ⟨w.heap.size+1,0,none⟩)]) (by simp) (by simp[go_sem]) ?_
   refine(NU (w.heap.size+1+1) w.heap.size (w.heap.size+1) rb v data o' s.last s.off .returning _ hq.o (bh hg.o.bs) (bh hg.o.bx) (by omega) (by omega)).mono ?_;rintro e u' w'' ⟨rfl,rfl,hu⟩;have hp:=ag (show fd w w'' rb (.int .u64 (n:Int)) 43 s.off by rw[hu]; exact hg.o.step (cJ _ _ _ _));have hx:=ag (show dr w'' rb v data o' s.off 0 by rw[hu]; exact hq.o.set2 s.off HR.o.le)
   have m0:=bh hp.o.bv;simp only[Leaves,settle];refine⟨_,by simp[results,Tryz.results111,go_sem,m0]<;> rfl, ?_⟩;have hj:rv ((0:Nat)) (oD data s.off) s=(n,⟨o',s.off,0⟩):=by unfold rv; rw[if_pos HE.o,HD.o]
   exact⟨by rw[hj]<;> rfl,by rw[hj]; exact hx.o,hp.o.grown⟩
 ·have HE:=ag he;go_wp2_with fail;simp only[bodyPostD];refine⟨_,by simp[results,Tryz.results111,go_sem]<;> rfl, ?_⟩;have hj:rv ((0:Nat)) (oD data s.off) s=((0:Nat),s):=by unfold rv; rw[if_neg HE.o]
  refine⟨by rw[hj]<;> rfl,by rw[hj]; exact HR.o.below ((eT).alloc (by simp) _),gO ((eT).alloc (by simp) _) _⟩
theorem Oy (rb:Nat) (v:Value) (data:List UInt8) (s:RS) (w:World) (hr:tr w rb v data s):
  Calls Tryz.prog 61 #[.pointer (some ⟨rb,0,none⟩)] w (vg 0 (fun n:Nat=> .int .u64 (n:Int)) w rb v data (oD data s.off) s):=by
 have ha: ∀(fn:Fn) (first cap:Array Value) (w:World),(Instr.makeFunc fn first cap).run Tryz.prog w= .ok (.func fn first cap) w:=fun _ _ _ _=>rfl
 go_enter Tryz.func61,Tryz.ntmps61
 go_wp2_with fail;refine(yh rb v data s w hr).mono ?_;rintro e w1 ⟨rfl,h1,h2⟩;have H1:=ag h1;have H2:=ag h2;clear h1 h2;go_wp2_with fail;go_ret;exact⟨rfl,H1.o,H2.o⟩
theorem JS (rb:Nat) (v:Value) (data:List UInt8) (s:RS) (most:Nat) (w:World) (hr:tr w rb v data s) (hm:most<=2000000):
  Calls Tryz.prog 59 #[.pointer (some ⟨rb,0,none⟩), .int .i64 (most:Int)] w (vg 0 (fun n:Nat=> .int .i64 (n:Int)) w rb v data (nr data s.off most) s):=by
 have ha: ∀(fn:Fn) (first cap:Array Value) (w:World),(Instr.makeFunc fn first cap).run Tryz.prog w= .ok (.func fn first cap) w:=fun _ _ _ _=>rfl
 have HR:=ag hr;clear hr
 go_enter Tryz.func59,Tryz.ntmps59
 go_wp2_with fail;have hb:Below w.heap.size w ((w.alloc (.cells #[.pointer (some ⟨rb,0,none⟩)] 101)).alloc (.cells #[.int .i64 (most:Int)] 3)):=(eT).alloc (by simp) _;have HB:=ag hb;clear hb;refine(vT w.heap.size (w.heap.size+1) rb v data s most _ (dr.below HR.o HB.o) hm (by simp[go_sem]) (by simp[go_sem])).mono ?_;rintro e w1 ⟨rfl,h1,h2⟩;have H1:=ag h1;have H2:=ag (bW (gO HB.o (some rb)) h2)
 clear h1 h2;go_wp2_with fail;go_ret;exact⟨rfl,H1.o,H2.o⟩
theorem yx (bs:List UInt8):strOfNums (bs.map fun b=>(b.toNat:Int))=⟨bs.toArray⟩:=by simp only[strOfNums,gV,Function.comp_def,fx];simp
theorem It {w:World} {rb:Nat} {pv:Value} {bs:List UInt8} (h:GU w rb pv bs):(convert 29 9 pv).run Tryz.prog w= .ok (.string ⟨bs.toArray⟩) w:=by
 obtain⟨bk,o,c,rfl,_,_,hc⟩:=h;have h:=run_convert_bytes_arg (P:=Tryz.prog) w 29 5 cV Tryz.underlying5 bk o bs.length c (bs.map fun b=>(b.toNat:Int)) (by simp) (fun i hi=>by rw[hc i bs[i] (by simp[hi])];simp[aZ,List.getD,hi]) 9 eo
 rw[yx]at h;exact h
theorem CU (w:World):(convert 29 9 (.slice none 0 0)).run Tryz.prog w= .ok (.string ⟨#[]⟩) w:=by kernel_rfl
theorem EK {data:List UInt8} {off n:Nat} {x:Int} (h:kN data off n= .error x): ¬x=0:=by
 unfold kN at h
 split at h
 ·simp only[ff]at h; omega
 ·simp at h
theorem JD {data:List UInt8} {off most:Nat} {x:Int} (h:kt data off most= .error x): ¬x=0:=by
 unfold kt at h
 split at h
 ·rename_i y hy;simp only[ff]at h;exact h▸IG hy
 ·exact EK h
theorem Ly (xb mb rb:Nat) (v:Value) (data:List UInt8) (off last most:Nat) (err:Int) (w:World) (hr:dr w rb v data off last err) (hm:most<=2000000)
  (hx:w.cell? ⟨xb,0,none⟩=some (.pointer (some ⟨rb,0,none⟩))) (hmb:w.cell? ⟨mb,0,none⟩=some (.int .i64 (most:Int))):
  Calls Tryz.prog 109 #[.pointer (some ⟨xb,0,none⟩), .pointer (some ⟨mb,0,none⟩)] w (OK (.string ⟨#[]⟩) (fun bs:List UInt8=>Value.string ⟨bs.toArray⟩) w rb v data last err (kt data off most)):=by
 have HR:=ag hr;clear hr
 go_enter Tryz.func109,Tryz.ntmps109
 go_wp2_with fail;refine(JE rb v data off last most err w HR.o hm).mono ?_;intro e w1 hd;obtain⟨o',h1,h2,h3⟩:=hd;have H1:=ag h1;have H2:=ag h2;clear h1 h2
 cases hl:kt data off most with
 | error y=>
  rw[hl]at h3; simp only at h3; subst h3;have HL:=ag hl;clear hl;have hb:=CU;go_wp2_with fail
  go_ret2
  exact⟨o',H1.o,H2.o,by rw[HL.o]; rfl⟩
 | ok p=>
  obtain⟨bs,o⟩:=p;rw[hl]at h3; simp only at h3;obtain⟨⟨pv,rfl,ha⟩,rfl⟩:=h3;have HL:=ag hl;clear hl;have hb:=It ha;clear ha;go_wp2_with fail
  go_ret2
  exact⟨o',H1.o,H2.o,by rw[HL.o]; exact⟨rfl,rfl⟩⟩
theorem Oh (xb rb:Nat) (v:Value) (data:List UInt8) (off last:Nat) (err:Int) (w:World) (hr:dr w rb v data off last err)
  (hx:w.cell? ⟨xb,0,none⟩=some (.pointer (some ⟨rb,0,none⟩))):
  Calls Tryz.prog 143 #[.pointer (some ⟨xb,0,none⟩)] w (OK (.string ⟨#[]⟩) (fun bs:List UInt8=>Value.string ⟨bs.toArray⟩) w rb v data last err (kN data off 32)):=by
 have HR:=ag hr;clear hr
 go_enter Tryz.func143,Tryz.ntmps143
 go_wp2_with fail;refine(EL rb v data off last 32 err w HR.o (by omega) (.inr (by omega))).mono ?_;intro e w1 hd;obtain⟨o',h1,h2,h3⟩:=hd;have H1:=ag h1;have H2:=ag h2;clear h1 h2
 cases hl:kN data off 32 with
 | error y=>
  rw[hl]at h3; simp only at h3; subst h3;have HL:=ag hl;clear hl;have hb:=CU;go_wp2_with fail
  go_ret2
  exact⟨o',H1.o,H2.o,by rw[HL.o]; rfl⟩
 | ok p=>
  obtain⟨bs,o⟩:=p;rw[hl]at h3; simp only at h3;obtain⟨⟨pv,rfl,ha⟩,rfl⟩:=h3;have HL:=ag hl;clear hl;have hb:=It ha;clear ha;go_wp2_with fail
  go_ret2
  exact⟨o',H1.o,H2.o,by rw[HL.o]; exact⟨rfl,rfl⟩⟩
theorem yg (cx cm rb:Nat) (v:Value) (data:List UInt8) (s:RS) (most:Nat) (w:World) (hr:tr w rb v data s) (hm:most<=2000000)
  (hx:w.cell? ⟨cx,0,none⟩=some (.pointer (some ⟨rb,0,none⟩))) (hmb:w.cell? ⟨cm,0,none⟩=some (.int .i64 (most:Int))):
  Calls Tryz.prog 108 #[.pointer (some ⟨rb,0,none⟩), .func (.func 109) #[] #[.pointer (some ⟨cx,0,none⟩), .pointer (some ⟨cm,0,none⟩)]] w
   (vg [] (fun bs:List UInt8=>Value.string ⟨bs.toArray⟩) w rb v data (kt data s.off most) s):=by
 have HX:=ag hx;have HM:=ag hmb;clear hx hmb;have hI: ∀(fn:Fn) (first cap:Array Value) (w:World),(Instr.makeFunc fn first cap).run Tryz.prog w= .ok (.func fn first cap) w:=fun _ _ _ _=>rfl
 have hv:dr w rb v data s.off s.last s.err:=hr;have HR:=ag hv;have hH:=hv.lt;have c1:=hv.c1;have c3:=hv.c3;clear hr hv
 go_enter_defers Tryz.func108,Tryz.ntmps108
 by_cases he:s.err=0
 ·rw[he]at c3;go_wp2_with fail;obtain⟨W,hW⟩:=bH (((w.alloc (.cells #[.pointer (some ⟨rb,0,none⟩)] 101)).alloc (.cells #[.string ⟨#[]⟩] 9)).alloc (.cells #[.int .i64 (s.off:Int)] 3));rw[<-hW];have hB:fd w W rb (.string ⟨#[]⟩) 9 s.off:=by rw[hW]; exact fd.start hH _ _ _
  have hn:Below w.heap.size w W:=by rw[hW]; exact fd.below0 _ _ _
  have hF:dr W rb v data s.off s.last 0:=by have:=HR.o.below hn; rw[he]at this; exact this
  have HB:=ag hB;have hG:=ag hF;have hz:=ag hn;have HE:=ag he;have x0:=bh hB.bx;have hJ:w.heap.size≠rb:=by omega
  clear hW hB hF hn c1 c3 he;refine rQ ?_;refine eV (fun w'=>w'.cell? ⟨w.heap.size,0,none⟩=some (.pointer (some ⟨rb,0,none⟩))) (by kernel_rfl) ?_
  iterate 2 (refine cF rfl (by go_simp) (by intro w' ho; go_simp; rfl) ?_ (hQ:=fun _ _ _ h=>False.elim h); simp only[bM])
  refine cA 2 rfl (fun K hK=> ?_);have hj:Below w.heap.size w W.drew:=hz.o.trans ⟨rfl,rfl,rfl,ah _,fun _ _=>rfl⟩;have hD:=ag (show dr W.drew rb v data s.off s.last 0 from hG.o.draws 1);have hh:=ag hj;clear hj;go_wp2_with fail;refine(Ly cx cm rb v data s.off s.last most 0 _ hD.o hm ((hh.o.cell (cR HX.o)).trans HX.o) ((hh.o.cell (cR HM.o)).trans HM.o)).mono ?_
  rintro e w1 ⟨o',h1,h2,h3⟩;have hp:=ag (HB.o.step (bW (b:=W.drew) ⟨rfl,rfl,rfl,ah _,fun _ _ _=>rfl⟩ h2));have x1:=bh hp.o.bx;have v1:=bh hp.o.bv;have fv1:=eN hp.o.bv;have hE:=ag h1;have e3:=h1.c3;have f3:=h1.free 3;clear h1 h2 x0
  cases hd:kt data s.off most with
  | error y=>
   have hy: ¬y=0:=JD hd;have HD:=ag hd;rw[hd]at h3;simp only at h3;subst h3;clear hd;go_wp2_with fail;refine⟨x1, ?_⟩
   iterate 3 (refine cF rfl (by go_simp) (by intro w' ho; go_simp; rfl) ?_ (hQ:=fun _ _ _ h=>False.elim h); simp only[bM])
   refine cA 6 rfl (fun K hK=> ?_);go_wp2_with fail;obtain⟨w2,hb⟩:=bH (w1.setCell ⟨w.heap.size+1,0,none⟩ (.string ⟨#[]⟩));rw[<-hb];have hq:=ag (show fd w w2 rb (.string ⟨#[]⟩) 9 s.off by rw[hb]; exact hp.o.setv _);have hl:=ag (show dr w2 rb v data o' s.last 0 by rw[hb]; exact HR.o.setOther hE.o (by omega) _);have x2:=bh hq.o.bx;have e4:=hl.o.c3;have f4:=hl.o.free 3
   clear hb x1 v1 fv1 e3 f3;refine⟨x2, ?_⟩
   iterate 2 (refine cF rfl (by go_simp) (by intro w' ho; go_simp; rfl) ?_ (hQ:=fun _ _ _ h=>False.elim h); simp only[bM])
   refine cA 9 rfl (fun K hK=> ?_);go_wp2_with fail;obtain⟨w3,hc⟩:=bH (w2.setCell ⟨rb,3,none⟩ (.int .i64 (y)));rw[<-hc];have ha:=ag (show fd w w3 rb (.string ⟨#[]⟩) 9 s.off by rw[hc]; exact hq.o.step (cJ _ _ _ _));have hA:=ag (show dr w3 rb v data o' s.last (y) by rw[hc]; exact hl.o.set3 _);have x3:=bh ha.o.bx;have v3:=bh ha.o.bv;have fv3:=eN ha.o.bv
   clear hc x2 e4 f4;refine⟨x3, ?_⟩;refine cH (by kernel_rfl) ?_;refine kL ?_;go_wp2_with fail;obtain⟨w5,hf⟩:=bH (w3.setCell ⟨w.heap.size+1,0,none⟩ (.string ⟨#[]⟩));rw[<-hf];have hg:=ag (show fd w w5 rb (.string ⟨#[]⟩) 9 s.off by rw[hf]; exact ha.o.setv _);have hu:=ag (show dr w5 rb v data o' s.last (y) by rw[hf]; exact HR.o.setOther hA.o (by omega) _)
   clear hf;refine iZ (f:=140) (args:= #[.pointer (some ⟨w.heap.size+1+1,0,none⟩), .pointer (some ⟨w.heap.size,0,none⟩), .pointer (some ⟨w.heap.size+1,0,none⟩)]) (by simp) (by simp[go_sem]) ?_;refine(AY (w.heap.size+1+1) w.heap.size (w.heap.size+1) rb v data o' s.last s.off y _ _ .returning _ hu.o hy (bh hg.o.bs) (bh hg.o.bx) hg.o.bv (by omega) (by omega) (by omega) (by omega) (by omega)).mono ?_
   rintro e u' w'' ⟨rfl,rfl,hw⟩;have hs:=ag (show fd w w'' rb (.string ⟨#[]⟩) 9 s.off by rw[hw]; exact(hg.o.step (bW (cJ _ _ _ _) (cJ _ _ _ _))).setv _);have hC:=ag (show dr w'' rb v data s.off s.off y by rw[hw]; exact HR.o.setOther ((hu.o.set2 s.off HR.o.le).set1 s.off HR.o.le) (by omega) _);have m0:=bh hs.o.bv;simp only[Leaves,settle]
   refine⟨_,by simp[results,Tryz.results108,go_sem,m0]<;> rfl, ?_⟩;have hk:rv (([]:List UInt8)) (kt data s.off most) s=(([]:List UInt8),⟨s.off,s.off,y⟩):=by unfold rv; rw[if_pos HE.o,HD.o]
   exact⟨by rw[hk]<;> rfl,by rw[hk]; exact hC.o,hs.o.grown⟩
  | ok p=>
   obtain⟨n,o⟩:=p;have HD:=ag hd;rw[hd]at h3;simp only at h3;obtain⟨rfl,rfl⟩:=h3;clear hd;go_wp2_with fail;refine⟨x1, ?_⟩;refine dx 3 rfl (by go_simp) (by intro w' ho; go_simp; rfl) ?_ (hQ:=fun _ _ _ h=>False.elim h);simp only[bM];refine dx 4 rfl (by go_simp) (by intro w' ho; go_simp; rfl) ?_ (hQ:=fun _ _ _ h=>False.elim h);simp only[bM];refine dx 5 rfl (by go_simp) (by intro w' ho; go_simp; rfl) ?_ (hQ:=fun _ _ _ h=>False.elim h)
   simp only[bM];refine cA 6 rfl (fun K hK=> ?_);go_wp2_with fail;obtain⟨w2,hb⟩:=bH (w1.setCell ⟨w.heap.size+1,0,none⟩ (.string ⟨n.toArray⟩));rw[<-hb];have hq:=ag (show fd w w2 rb (.string ⟨n.toArray⟩) 9 s.off by rw[hb]; exact hp.o.setv _);have hl:=ag (show dr w2 rb v data o' s.last 0 by rw[hb]; exact HR.o.setOther hE.o (by omega) _);have x2:=bh hq.o.bx
   have e4:=hl.o.c3;have f4:=hl.o.free 3;clear hb x1 v1 fv1 e3 f3;refine⟨x2, ?_⟩;refine dx 7 rfl (by go_simp) (by intro w' ho; go_simp; rfl) ?_ (hQ:=fun _ _ _ h=>False.elim h);simp only[bM];refine dx 8 rfl (by go_simp) (by intro w' ho; go_simp; rfl) ?_ (hQ:=fun _ _ _ h=>False.elim h);simp only[bM];refine cA 9 rfl (fun K hK=> ?_);go_wp2_with fail;obtain⟨w3,hc⟩:=bH (w2.setCell ⟨rb,3,none⟩ (.int .i64 (0)))
   rw[<-hc];have ha:=ag (show fd w w3 rb (.string ⟨n.toArray⟩) 9 s.off by rw[hc]; exact hq.o.step (cJ _ _ _ _));have hA:=ag (show dr w3 rb v data o' s.last (0) by rw[hc]; exact hl.o.set3 _);have x3:=bh ha.o.bx;have v3:=bh ha.o.bv;have fv3:=eN ha.o.bv;clear hc x2 e4 f4;refine⟨x3, ?_⟩;refine cH (by kernel_rfl) ?_;refine kL ?_
   go_wp2_with fail;obtain⟨w5,hf⟩:=bH (w3.setCell ⟨w.heap.size+1,0,none⟩ (.string ⟨n.toArray⟩));rw[<-hf];have hg:=ag (show fd w w5 rb (.string ⟨n.toArray⟩) 9 s.off by rw[hf]; exact ha.o.setv _);have hu:=ag (show dr w5 rb v data o' s.last (0) by rw[hf]; exact HR.o.setOther hA.o (by omega) _);clear hf;refine iZ (f:=140) (args:= #[.pointer (some ⟨w.heap.size+1+1,0,none⟩), .pointer (some ⟨w.heap.size,0,none⟩), .pointer (some ⟨w.heap.size+1,0,none⟩)]) (by simp) (by simp[go_sem]) ?_
   refine(Ey (w.heap.size+1+1) w.heap.size (w.heap.size+1) rb v data o' s.last s.off .returning _ hu.o (bh hg.o.bs) (bh hg.o.bx) (by omega) (by omega)).mono ?_;rintro e u' w'' ⟨rfl,rfl,hw⟩;have hs:=ag (show fd w w'' rb (.string ⟨n.toArray⟩) 9 s.off by rw[hw]; exact hg.o.step (cJ _ _ _ _));have hC:=ag (show dr w'' rb v data o' s.off 0 by rw[hw]; exact hu.o.set2 s.off HR.o.le)
   have m0:=bh hs.o.bv;simp only[Leaves,settle];refine⟨_,by simp[results,Tryz.results108,go_sem,m0]<;> rfl, ?_⟩;have hk:rv (([]:List UInt8)) (kt data s.off most) s=(n,⟨o',s.off,0⟩):=by unfold rv; rw[if_pos HE.o,HD.o]
   exact⟨by rw[hk]<;> rfl,by rw[hk]; exact hC.o,hs.o.grown⟩
 ·have HE:=ag he;go_wp2_with fail;simp only[bodyPostD];refine⟨_,by simp[results,Tryz.results108,go_sem]<;> rfl, ?_⟩;have hk:rv (([]:List UInt8)) (kt data s.off most) s=(([]:List UInt8),s):=by unfold rv; rw[if_neg HE.o]
  refine⟨by rw[hk]<;> rfl,by rw[hk]; exact HR.o.below ((eT).alloc (by simp) _),gO ((eT).alloc (by simp) _) _⟩
theorem zm (cx rb:Nat) (v:Value) (data:List UInt8) (s:RS) (w:World) (hr:tr w rb v data s)
  (hx:w.cell? ⟨cx,0,none⟩=some (.pointer (some ⟨rb,0,none⟩))):
  Calls Tryz.prog 108 #[.pointer (some ⟨rb,0,none⟩), .func (.func 143) #[] #[.pointer (some ⟨cx,0,none⟩)]] w
   (vg [] (fun bs:List UInt8=>Value.string ⟨bs.toArray⟩) w rb v data (kN data s.off 32) s):=by
 have HX:=ag hx;clear hx;have hH: ∀(fn:Fn) (first cap:Array Value) (w:World),(Instr.makeFunc fn first cap).run Tryz.prog w= .ok (.func fn first cap) w:=fun _ _ _ _=>rfl
 have hu:dr w rb v data s.off s.last s.err:=hr;have HR:=ag hu;have hG:=hu.lt;have c1:=hu.c1;have c3:=hu.c3;clear hr hu
 go_enter_defers Tryz.func108,Tryz.ntmps108
 by_cases he:s.err=0
 ·rw[he]at c3;go_wp2_with fail;obtain⟨W,hW⟩:=bH (((w.alloc (.cells #[.pointer (some ⟨rb,0,none⟩)] 101)).alloc (.cells #[.string ⟨#[]⟩] 9)).alloc (.cells #[.int .i64 (s.off:Int)] 3));rw[<-hW];have hB:fd w W rb (.string ⟨#[]⟩) 9 s.off:=by rw[hW]; exact fd.start hG _ _ _
  have hl:Below w.heap.size w W:=by rw[hW]; exact fd.below0 _ _ _
  have hE:dr W rb v data s.off s.last 0:=by have:=HR.o.below hl; rw[he]at this; exact this
  have HB:=ag hB;have hF:=ag hE;have hw:=ag hl;have HE:=ag he;have x0:=bh hB.bx;have hI:w.heap.size≠rb:=by omega
  clear hW hB hE hl c1 c3 he;refine rQ ?_;refine eV (fun w'=>w'.cell? ⟨w.heap.size,0,none⟩=some (.pointer (some ⟨rb,0,none⟩))) (by kernel_rfl) ?_
  iterate 2 (refine cF rfl (by go_simp) (by intro w' hm; go_simp; rfl) ?_ (hQ:=fun _ _ _ h=>False.elim h); simp only[bM])
  refine cA 2 rfl (fun K hK=> ?_);have hh:Below w.heap.size w W.drew:=hw.o.trans ⟨rfl,rfl,rfl,ah _,fun _ _=>rfl⟩;have hC:=ag (show dr W.drew rb v data s.off s.last 0 from hF.o.draws 1);have hq:=ag hh;clear hh;go_wp2_with fail;refine(Oh cx rb v data s.off s.last 0 _ hC.o ((hq.o.cell (cR HX.o)).trans HX.o)).mono ?_;rintro e w1 ⟨o',h1,h2,h3⟩
  have hn:=ag (HB.o.step (bW (b:=W.drew) ⟨rfl,rfl,rfl,ah _,fun _ _ _=>rfl⟩ h2));have x1:=bh hn.o.bx;have v1:=bh hn.o.bv;have fv1:=eN hn.o.bv;have hD:=ag h1;have e3:=h1.c3;have f3:=h1.free 3;clear h1 h2 x0
  cases hd:kN data s.off 32 with
  | error y=>
   have hy: ¬y=0:=EK hd;have HD:=ag hd;rw[hd]at h3;simp only at h3;subst h3;clear hd;go_wp2_with fail;refine⟨x1, ?_⟩
   iterate 3 (refine cF rfl (by go_simp) (by intro w' hm; go_simp; rfl) ?_ (hQ:=fun _ _ _ h=>False.elim h); simp only[bM])
   refine cA 6 rfl (fun K hK=> ?_);go_wp2_with fail;obtain⟨w2,hb⟩:=bH (w1.setCell ⟨w.heap.size+1,0,none⟩ (.string ⟨#[]⟩));rw[<-hb];have ho:=ag (show fd w w2 rb (.string ⟨#[]⟩) 9 s.off by rw[hb]; exact hn.o.setv _);have hk:=ag (show dr w2 rb v data o' s.last 0 by rw[hb]; exact HR.o.setOther hD.o (by omega) _);have x2:=bh ho.o.bx;have e4:=hk.o.c3;have f4:=hk.o.free 3
   clear hb x1 v1 fv1 e3 f3;refine⟨x2, ?_⟩
   iterate 2 (refine cF rfl (by go_simp) (by intro w' hm; go_simp; rfl) ?_ (hQ:=fun _ _ _ h=>False.elim h); simp only[bM])
   refine cA 9 rfl (fun K hK=> ?_);go_wp2_with fail;obtain⟨w3,hc⟩:=bH (w2.setCell ⟨rb,3,none⟩ (.int .i64 (y)));rw[<-hc];have ha:=ag (show fd w w3 rb (.string ⟨#[]⟩) 9 s.off by rw[hc]; exact ho.o.step (cJ _ _ _ _));have hz:=ag (show dr w3 rb v data o' s.last (y) by rw[hc]; exact hk.o.set3 _);have x3:=bh ha.o.bx;have v3:=bh ha.o.bv;have fv3:=eN ha.o.bv
   clear hc x2 e4 f4;refine⟨x3, ?_⟩;refine cH (by kernel_rfl) ?_;refine kL ?_;go_wp2_with fail;obtain⟨w5,hf⟩:=bH (w3.setCell ⟨w.heap.size+1,0,none⟩ (.string ⟨#[]⟩));rw[<-hf];have hg:=ag (show fd w w5 rb (.string ⟨#[]⟩) 9 s.off by rw[hf]; exact ha.o.setv _);have hs:=ag (show dr w5 rb v data o' s.last (y) by rw[hf]; exact HR.o.setOther hz.o (by omega) _)
   clear hf;refine iZ (f:=140) (args:= #[.pointer (some ⟨w.heap.size+1+1,0,none⟩), .pointer (some ⟨w.heap.size,0,none⟩), .pointer (some ⟨w.heap.size+1,0,none⟩)]) (by simp) (by simp[go_sem]) ?_;refine(AY (w.heap.size+1+1) w.heap.size (w.heap.size+1) rb v data o' s.last s.off y _ _ .returning _ hs.o hy (bh hg.o.bs) (bh hg.o.bx) hg.o.bv (by omega) (by omega) (by omega) (by omega) (by omega)).mono ?_
   rintro e u' w'' ⟨rfl,rfl,hv⟩;have hp:=ag (show fd w w'' rb (.string ⟨#[]⟩) 9 s.off by rw[hv]; exact(hg.o.step (bW (cJ _ _ _ _) (cJ _ _ _ _))).setv _);have hA:=ag (show dr w'' rb v data s.off s.off y by rw[hv]; exact HR.o.setOther ((hs.o.set2 s.off HR.o.le).set1 s.off HR.o.le) (by omega) _);have m0:=bh hp.o.bv;simp only[Leaves,settle]
   refine⟨_,by simp[results,Tryz.results108,go_sem,m0]<;> rfl, ?_⟩;have hj:rv (([]:List UInt8)) (kN data s.off 32) s=(([]:List UInt8),⟨s.off,s.off,y⟩):=by unfold rv; rw[if_pos HE.o,HD.o]
   exact⟨by rw[hj]<;> rfl,by rw[hj]; exact hA.o,hp.o.grown⟩
  | ok p=>
   obtain⟨n,o⟩:=p;have HD:=ag hd;rw[hd]at h3;simp only at h3;obtain⟨rfl,rfl⟩:=h3;clear hd;go_wp2_with fail;refine⟨x1, ?_⟩;refine dx 3 rfl (by go_simp) (by intro w' hm; go_simp; rfl) ?_ (hQ:=fun _ _ _ h=>False.elim h);simp only[bM];refine dx 4 rfl (by go_simp) (by intro w' hm; go_simp; rfl) ?_ (hQ:=fun _ _ _ h=>False.elim h);simp only[bM];refine dx 5 rfl (by go_simp) (by intro w' hm; go_simp; rfl) ?_ (hQ:=fun _ _ _ h=>False.elim h)
   simp only[bM];refine cA 6 rfl (fun K hK=> ?_);go_wp2_with fail;obtain⟨w2,hb⟩:=bH (w1.setCell ⟨w.heap.size+1,0,none⟩ (.string ⟨n.toArray⟩));rw[<-hb];have ho:=ag (show fd w w2 rb (.string ⟨n.toArray⟩) 9 s.off by rw[hb]; exact hn.o.setv _);have hk:=ag (show dr w2 rb v data o' s.last 0 by rw[hb]; exact HR.o.setOther hD.o (by omega) _);have x2:=bh ho.o.bx
   have e4:=hk.o.c3;have f4:=hk.o.free 3;clear hb x1 v1 fv1 e3 f3;refine⟨x2, ?_⟩;refine dx 7 rfl (by go_simp) (by intro w' hm; go_simp; rfl) ?_ (hQ:=fun _ _ _ h=>False.elim h);simp only[bM];refine dx 8 rfl (by go_simp) (by intro w' hm; go_simp; rfl) ?_ (hQ:=fun _ _ _ h=>False.elim h);simp only[bM];refine cA 9 rfl (fun K hK=> ?_);go_wp2_with fail;obtain⟨w3,hc⟩:=bH (w2.setCell ⟨rb,3,none⟩ (.int .i64 (0)))
   rw[<-hc];have ha:=ag (show fd w w3 rb (.string ⟨n.toArray⟩) 9 s.off by rw[hc]; exact ho.o.step (cJ _ _ _ _));have hz:=ag (show dr w3 rb v data o' s.last (0) by rw[hc]; exact hk.o.set3 _);have x3:=bh ha.o.bx;have v3:=bh ha.o.bv;have fv3:=eN ha.o.bv;clear hc x2 e4 f4;refine⟨x3, ?_⟩;refine cH (by kernel_rfl) ?_;refine kL ?_
   go_wp2_with fail;obtain⟨w5,hf⟩:=bH (w3.setCell ⟨w.heap.size+1,0,none⟩ (.string ⟨n.toArray⟩));rw[<-hf];have hg:=ag (show fd w w5 rb (.string ⟨n.toArray⟩) 9 s.off by rw[hf]; exact ha.o.setv _);have hs:=ag (show dr w5 rb v data o' s.last (0) by rw[hf]; exact HR.o.setOther hz.o (by omega) _);clear hf;refine iZ (f:=140) (args:= #[.pointer (some ⟨w.heap.size+1+1,0,none⟩), .pointer (some ⟨w.heap.size,0,none⟩), .pointer (some ⟨w.heap.size+1,0,none⟩)]) (by simp) (by simp[go_sem]) ?_
   refine(Ey (w.heap.size+1+1) w.heap.size (w.heap.size+1) rb v data o' s.last s.off .returning _ hs.o (bh hg.o.bs) (bh hg.o.bx) (by omega) (by omega)).mono ?_;rintro e u' w'' ⟨rfl,rfl,hv⟩;have hp:=ag (show fd w w'' rb (.string ⟨n.toArray⟩) 9 s.off by rw[hv]; exact hg.o.step (cJ _ _ _ _));have hA:=ag (show dr w'' rb v data o' s.off 0 by rw[hv]; exact hs.o.set2 s.off HR.o.le)
   have m0:=bh hp.o.bv;simp only[Leaves,settle];refine⟨_,by simp[results,Tryz.results108,go_sem,m0]<;> rfl, ?_⟩;have hj:rv (([]:List UInt8)) (kN data s.off 32) s=(n,⟨o',s.off,0⟩):=by unfold rv; rw[if_pos HE.o,HD.o]
   exact⟨by rw[hj]<;> rfl,by rw[hj]; exact hA.o,hp.o.grown⟩
 ·have HE:=ag he;go_wp2_with fail;simp only[bodyPostD];refine⟨_,by simp[results,Tryz.results108,go_sem]<;> rfl, ?_⟩;have hj:rv (([]:List UInt8)) (kN data s.off 32) s=(([]:List UInt8),s):=by unfold rv; rw[if_neg HE.o]
  refine⟨by rw[hj]<;> rfl,by rw[hj]; exact HR.o.below ((eT).alloc (by simp) _),gO ((eT).alloc (by simp) _) _⟩
theorem Oo (rb:Nat) (v:Value) (data:List UInt8) (s:RS) (most:Nat) (w:World) (hr:tr w rb v data s) (hm:most<=2000000):
  Calls Tryz.prog 60 #[.pointer (some ⟨rb,0,none⟩), .int .i64 (most:Int)] w (vg [] (fun bs:List UInt8=>Value.string ⟨bs.toArray⟩) w rb v data (kt data s.off most) s):=by
 have ha: ∀(fn:Fn) (first cap:Array Value) (w:World),(Instr.makeFunc fn first cap).run Tryz.prog w= .ok (.func fn first cap) w:=fun _ _ _ _=>rfl
 have HR:=ag hr;clear hr
 go_enter Tryz.func60,Tryz.ntmps60
 go_wp2_with fail;have hb:Below w.heap.size w ((w.alloc (.cells #[.pointer (some ⟨rb,0,none⟩)] 101)).alloc (.cells #[.int .i64 (most:Int)] 3)):=(eT).alloc (by simp) _;have HB:=ag hb;clear hb;refine(yg w.heap.size (w.heap.size+1) rb v data s most _ (dr.below HR.o HB.o) hm (by simp[go_sem]) (by simp[go_sem])).mono ?_;rintro e w1 ⟨rfl,h1,h2⟩;have H1:=ag h1;have H2:=ag (bW (gO HB.o (some rb)) h2)
 clear h1 h2;go_wp2_with fail;go_ret;exact⟨rfl,H1.o,H2.o⟩
theorem Qb (rb:Nat) (v:Value) (data:List UInt8) (s:RS) (w:World) (hr:tr w rb v data s):
  Calls Tryz.prog 113 #[.pointer (some ⟨rb,0,none⟩)] w (vg [] (fun bs:List UInt8=>Value.string ⟨bs.toArray⟩) w rb v data (kN data s.off 32) s):=by
 have ha: ∀(fn:Fn) (first cap:Array Value) (w:World),(Instr.makeFunc fn first cap).run Tryz.prog w= .ok (.func fn first cap) w:=fun _ _ _ _=>rfl
 have HR:=ag hr;clear hr
 go_enter Tryz.func113,Tryz.ntmps113
 go_wp2_with fail;have hb:Below w.heap.size w (w.alloc (.cells #[.pointer (some ⟨rb,0,none⟩)] 101)):=eT;have HB:=ag hb;clear hb;refine(zm w.heap.size rb v data s _ (dr.below HR.o HB.o) (by simp[go_sem])).mono ?_;rintro e w1 ⟨rfl,h1,h2⟩;have H1:=ag h1;have H2:=ag (bW (gO HB.o (some rb)) h2);clear h1 h2;go_wp2_with fail;go_ret;exact⟨rfl,H1.o,H2.o⟩
def uB (data:List UInt8) (s:RS):Int:=if s.err=0 then(if s.off<data.length then 3 else 0)else s.err
theorem Pq (rb:Nat) (v:Value) (data:List UInt8) (s:RS) (w:World) (hr:tr w rb v data s):
  Calls Tryz.prog 64 #[.pointer (some ⟨rb,0,none⟩)] w fun e w'=>e= .returned (.tuple #[.int .i64 (s.off:Int), .int .i64 (uB data s)])/\ ∃n,w'=w.drewN n:=by
 obtain⟨a,cap,rfl,hc,ha,-⟩:=dr.shape hr;unfold maxLen at ha;have c0:=dr.c0 hr;have c1:=dr.c1 hr;have c3:=dr.c3 hr;have hd:=dr.small hr;have hb:=dr.le hr;clear hr
 by_cases he:s.err=0
 ·rw[he]at c3;have HE:=ag he;clear he
  by_cases hl:s.off<data.length
  ·have HR:=ag (show uB data s=3 by unfold uB; rw[if_pos HE.o,if_pos hl])
   go_enter Tryz.func64,Tryz.ntmps64
   go_wp2_with fail
   go_quiet (fail)
   go_wp2_with fail
   go_ret2
   exact⟨by rw[HR.o]; rfl,_,rfl⟩
  ·have HR:=ag (show uB data s=0 by unfold uB; rw[if_pos HE.o,if_neg hl])
   go_enter Tryz.func64,Tryz.ntmps64
   go_wp2_with fail
   go_quiet (fail)
   go_wp2_with fail
   go_ret2
   exact⟨by rw[HR.o]; rfl,_,rfl⟩
 ·have HR:=ag (show uB data s=s.err by unfold uB; rw[if_neg he])
  go_enter Tryz.func64,Tryz.ntmps64
  go_wp2_with fail
  go_quiet (fail)
  go_wp2_with fail
  go_ret2
  exact⟨by rw[HR.o]; rfl,_,rfl⟩
open Go Go.RowKit Go.Maps
def jX (P:Program) (k:TypeId) (w:World) (b:Nat) (m:List (Value×Value)):Prop:=
 ∃es clock,w.heap[b]? =some (.map es clock)/\es.toList.map (fun e=>(e.key,e.val))=m/\(m.map Prod.fst).Nodup/\ ∀p∈m,∃l,keyOf P k p.1=some l
theorem xw {w:World} {b:Nat} {x:Obj} (hb:w.heap[b]? =some x) (o:Obj):(ChangeMaps.setBlock w b o).heap[b]? =some o:=by have:=(aN.1 hb).1;simp[ChangeMaps.setBlock,this]
theorem Ae {w:World} {b:Nat} {x:Obj} (_:w.heap[b]? =some x) (o:Obj) {i:Nat} (h:i≠b):(ChangeMaps.setBlock w b o).heap[i]? =w.heap[i]? :=by simp[ChangeMaps.setBlock,Ne.symm h]
section
variable {P : Program} {k t e : TypeId} {w w' : World} {b : Nat} {m : List (Value × Value)} {key val z : Value}
theorem jX.lt (h:jX P k w b m):b<w.heap.size:=by obtain⟨es,clock,hb,_⟩:=h;exact(aN.1 hb).1
theorem jX.same (h:jX P k w b m) (hs:w'.heap[b]? =w.heap[b]?):jX P k w' b m:=by obtain⟨es,clock,hb,h2⟩:=h;exact⟨es,clock,hs.trans hb,h2⟩
theorem jX.made (w:World):jX P k (w.alloc (.map #[] 0)) w.heap.size []:=⟨#[],0,(MapKept.heap_alloc w _).1,rfl,List.nodup_nil,by simp⟩
theorem jX.keys {es:Array MapEntry} (h:es.toList.map (fun e=>(e.key,e.val))=m) (hk: ∀p∈m,∃l,keyOf P k p.1=some l): ∀x∈es.toList,∃l,keyOf P k x.key=some l:=fun x hx=>hk (x.key,x.val) (by rw[<-h]; exact aQ.2 ⟨x,hx,rfl⟩)
theorem AD : ∀ {m:List (Value×Value)} {key v v':Value},(m.map Prod.fst).Nodup->(key,v)∈m->(key,v')∈m->v=v'
 | [],_,_,_,_,h,_=>by simp at h
 | (a,x)::m,key,v,v',hn,h,h'=>by
  simp only[bS,gu]at hn
  rcases aU.1 h with h | h<;> rcases aU.1 h' with h' | h'
  ·cases h; cases h'; rfl
  ·cases h
   exact absurd (aQ.2 ⟨_,h',rfl⟩) hn.1
  ·cases h'
   exact absurd (aQ.2 ⟨_,h,rfl⟩) hn.1
  ·exact AD hn.2 h h'
theorem jX.hit (h:jX P k w b m) (K:Keyed P k) (ht:P.underlying t=some (.map k e)) (hkey: ∃l,keyOf P k key=some l) (hm:(key,val)∈m) (c:Bool):
  (Instr.lookup t (.map (some b)) key c).run P w= .ok (if c then .tuple #[val, .bool true]else val) w:=by
 obtain⟨es,clock,hb,he,hn,hk⟩:=h;obtain⟨kl,ha⟩:=hkey
 rcases K.find w ha es.toList (jX.keys he hk)with⟨h1,h2⟩ | ⟨j,e0,h1,h2,h3⟩
 ·rw[<-he]at hm;obtain⟨x,hx,hc⟩:=aQ.1 hm;exact absurd (congrArg Prod.fst hc) (h2 x hx)
 ·have hv:e0.val=val:=by refine AD hn (key:=key) ?_ hm;rw[<-he,<-h3];exact aQ.2 ⟨e0,aM h2,rfl⟩
  cases c<;> simp[Instr.lookup,run_underlying ht,MapKept.run_getObj_map hb,K.check w _ ha,h1,hv,Result.andThen]
theorem jX.miss (h:jX P k w b m) (K:Keyed P k) (ht:P.underlying t=some (.map k e)) (hz:(zeroValue e).run P w= .ok z w) (hkey: ∃l,keyOf P k key=some l) (hm: ∀p∈m,p.1≠key) (c:Bool):
  (Instr.lookup t (.map (some b)) key c).run P w= .ok (if c then .tuple #[z, .bool false]else z) w:=by
 obtain⟨es,clock,hb,he,hn,hk⟩:=h;obtain⟨kl,ha⟩:=hkey
 rcases K.find w ha es.toList (jX.keys he hk)with⟨h1,h2⟩ | ⟨j,e0,h1,h2,h3⟩
 ·cases c<;> simp[Instr.lookup,run_underlying ht,MapKept.run_getObj_map hb,K.check w _ ha,h1,hz,Result.andThen]
 ·exact absurd h3 (hm (e0.key,e0.val) (by rw[<-he]; exact aQ.2 ⟨e0,aM h2,rfl⟩))
theorem jX.put (h:jX P k w b m) (K:Keyed P k) (ht:P.underlying t=some (.map k e)) (hkey: ∃l,keyOf P k key=some l) (hm: ∀p∈m,p.1≠key) (val:Value):
  ∃w',(Instr.mapUpdate t (.map (some b)) key val).run P w= .ok () w'/\jX P k w' b (m++[(key,val)])/\w.grownBy w' (some b):=by
 obtain⟨es,clock,hb,he,hn,hk⟩:=h;obtain⟨kl,hc⟩:=hkey
 rcases K.find w hc es.toList (jX.keys he hk)with⟨h1,h2⟩ | ⟨j,e0,h1,h2,h3⟩
 ·refine⟨ChangeMaps.setBlock w b (.map (es.push ⟨key,val,clock⟩) (clock+1)), ?_,⟨_,_,xw hb _, ?_, ?_, ?_⟩,⟨rfl,rfl,rfl,by simp[ChangeMaps.setBlock],fun i _ hi=>Ae hb _ (fun e=>hi (by rw[e]))⟩⟩
  ·simp[Instr.mapUpdate,run_underlying ht,MapKept.run_getObj_map hb,K.check w false hc,h1,MapKept.run_setObj_map _ hb,Result.andThen,ChangeMaps.setBlock]
  ·simp[<-he]
  ·rw[aI,dX];refine⟨hn,by simp,fun a ha b' hd e=> ?_⟩;obtain⟨p,hp,rfl⟩:=aQ.1 ha;simp only[bS,eY,aL]at hd;exact hm p hp (e.trans hd)
  ·intro p hp
   rcases aP.1 hp with hp | hp
   ·exact hk p hp
   ·simp only[aL]at hp;subst hp;exact⟨kl,hc⟩
 ·exact absurd h3 (hm (e0.key,e0.val) (by rw[<-he]; exact aQ.2 ⟨e0,aM h2,rfl⟩))
end
theorem GR {P:Program} {w:World} {ops:Array Oper} {rest:List Oper} {o:Oper} {a:Act} {Q:Exit->Act->World->Prop} {k e:TypeId} (K:Keyed P k) (hg:o.guard=none) (mo x v:Operand) (t:TypeId) (hop:o.op=Op.mapUpdate t mo x v)
  (ht:P.underlying t=some (.map k e)) (b:Nat) (m:List (Value×Value)) (h:jX P k w b m) (hmo:a.eval mo= .map (some b)) (key val:Value) (hx:a.eval x=key) (hv:a.eval v=val) (hkey: ∃l,keyOf P k key=some l) (hnew: ∀p∈m,p.1≠key)
  (hK: ∀w',jX P k w' b (m++[(key,val)])->w.grownBy w' (some b)->wpList P ops Q rest (a.put o.dst undef) w'):wpList P ops Q (o::rest) a w:=by
 refine gJ hg fun K' hb=> ?_
 obtain⟨w',ha,r1,r2⟩:=h.put K ht hkey hnew val;unfold Oper.wp;simp[execOp,hop,hmo,hx,hv,ha,Result.andThen];exact hb _ _ (hK w' r1 r2)
structure bY where
 name:ByteArray
 gen:Int
 size:Int
deriving DecidableEq
def eC (r:bY):Value:= .agg #[.string r.name, .int .i64 r.gen, .int .i64 r.size]
def jt (r:bY):List Value:=[.string r.name, .int .i64 r.gen, .int .i64 r.size]
structure dZ (r : bY) : Prop where
 nm:r.name.size<=maxLen
 gn:(Lit.int .i64 r.gen).wf=true
 sz:(Lit.int .i64 r.size).wf=true
theorem Et {r r':bY} (h:eC r=eC r'):r=r':=by
 cases r; cases r'
 simp only[eC,Value.agg.injEq,Array.mk.injEq,gt,eJ,Value.int.injEq,true_and,and_true]at h;obtain⟨h1,h2,h3⟩:=h;rw[h1,h2,h3]
def pA (c:List Value) (r:bY):Prop:=c=jt r/\dZ r
theorem pA.len (c:List Value) (r:bY) (h:pA c r):c.length=3:=by rw[h.1]; rfl
def dJ (S:Nat->Prop) (w:World) (v:Value) (rs:List bY):Prop:=cU S w 3 pA v rs
theorem tP :laidOutB Tryz.prog=true:=by kernel_rfl
theorem QL :(26:TypeId)<Tryz.prog.types.size:=eS (by kernel_rfl)
theorem CJ :Tryz.prog.cellsOf 26=3:=by kernel_rfl
theorem Pm :Tryz.prog.keyTypeAt 2 26=true:=by kernel_rfl
theorem FN :Tryz.prog.keyType 26=true:=by kernel_rfl
theorem FP :Keyed Tryz.prog 26:=Keyed.of_law (deep_law_laid tP (m:=2) (by omega) QL Pm (by rw[Tryz.underlying26]))
theorem PY : ∃n,Tryz.prog.types.size+1=n+3:=⟨Tryz.prog.types.size-2,by have:2<=Tryz.prog.types.size:=eS (by kernel_rfl); omega⟩
theorem FM {r:bY} (h:dZ r): ∃l,keyOf Tryz.prog 26 (eC r)=some l:=by
 obtain⟨h1,h2,h3⟩:=h;have c1:Tryz.prog.cellsOf 9=1:=by kernel_rfl
 have c2:Tryz.prog.cellsOf 3=1:=by kernel_rfl
 have hl: ∃ls,Tryz.prog.keyLits (Tryz.prog.types.size+1) 26 (jt r)=some ls:=by obtain⟨n,hn⟩:=PY;rw[hn];simp[Program.keyLits,Tryz.underlying26,Tryz.underlying9,Tryz.underlying3,jt,CJ,c1,c2,h1,h2,h3]
 obtain⟨ls,ha⟩:=hl;refine⟨.string (keyBytes ls), ?_⟩;have hf:(eC r).formed Tryz.prog 26=true:=by simp[eC,Value.formed,Tryz.underlying26,CJ]
 have hc:(eC r).cells.toList=jt r:=rfl;unfold keyOf;rw[Tryz.underlying26];simp only[FN,hf,hc,ha,Bool.and_self,if_true,dE]
theorem Qg (r r':bY) (w:World):(Op.equalIn 10000 26 (eC r) (eC r')).run Tryz.prog w= .ok (decide (r=r')) w:=by
 have u1:=eo;have u2:=gN;have hS:Tryz.prog.underlying 26=some (.struct (Tryz.prog.fieldsOf 26)):=by kernel_rfl
 rw[show(10000:Nat)=9999+1 from rfl];unfold eC;rw[run_equalIn_struct w 9999 26 _ _ hS (by kernel_rfl)];simp only[Program.fieldsOf,Tryz.underlying26]
 go_simp
 obtain⟨n,g,s⟩:=r;obtain⟨n',g',s'⟩:=r';have hn:n.toList=n'.toList<->n=n':=⟨fun h=>kF (by rw[<-fF,<-fF,h]),fun h=>by rw[h]⟩;simp only[bY.mk.injEq,hn]
 by_cases h1:n=n'<;> by_cases h2:g=g'<;> by_cases h3:s=s'<;> simp[h1,h2,h3]
structure iU (w : World) (b : Nat) (l : List bY) : Prop where
 map:jX Tryz.prog 26 w b (l.map fun r=>(eC r, .bool true))
 ok: ∀r∈l,dZ r
theorem iU.same {w w':World} {b:Nat} {l:List bY} (h:iU w b l) (hs:w'.heap[b]? =w.heap[b]?):iU w' b l:=⟨h.map.same hs,h.ok⟩
theorem iU.nodup {w:World} {b:Nat} {l:List bY} (h:iU w b l):l.Nodup:=by obtain⟨es,clock,_,_,hn,_⟩:=h.map;rw[gV]at hn;exact(fz.1 hn).imp (fun h e=>h (by rw[e]))
theorem iU.look {w:World} {b:Nat} {l:List bY} (h:iU w b l) {r:bY} (hr:dZ r):(Instr.lookup 120 (.map (some b)) (eC r) false).run Tryz.prog w= .ok (.bool (decide (r∈l))) w:=by
 by_cases hm:r∈l
 ·rw[h.map.hit FP Tryz.underlying120 (FM hr) (val:= .bool true) (aQ.2 ⟨r,hm,rfl⟩) false];simp[hm]
 ·rw[h.map.miss FP Tryz.underlying120 (z:= .bool false) (by kernel_rfl) (FM hr) (fun p hp e=> ?_) false]
  ·simp[hm]
  ·obtain⟨x,hx,rfl⟩:=aQ.1 hp;exact hm (Et e▸hx)
theorem kq {w:World} {ops:Array Oper} {rest:List Oper} {o:Oper} {a:Act} {Q:Exit->Act->World->Prop} (hg:o.guard=none) (mo x v:Operand) (hop:o.op=Op.mapUpdate 120 mo x v) (b:Nat) (l:List bY) (h:iU w b l) (hmo:a.eval mo= .map (some b)) (r:bY) (hr:dZ r) (hx:a.eval x=eC r) (hv:a.eval v= .bool true) (hnew:r∉l)
  (hK: ∀w',iU w' b (l++[r])->w.grownBy w' (some b)->wpList Tryz.prog ops Q rest (a.put o.dst undef) w'):wpList Tryz.prog ops Q (o::rest) a w:=
 GR FP hg mo x v _ hop Tryz.underlying120 b _ h.map hmo _ _ hx hv (FM hr) (fun p hp e=>by
  obtain⟨y,hy,rfl⟩:=aQ.1 hp;exact hnew (Et e▸hy)) (fun w' h1 h2=>hK w' ⟨by rw[aI]; exact h1,fun y hy=>by
   rcases aP.1 hy with hy | hy
   ·exact h.ok y hy
   ·simp only[aL]at hy; subst hy; exact hr⟩ h2)
theorem iU.made (w:World):iU (w.alloc (.map #[] 0)) w.heap.size []:=⟨jX.made w,by simp⟩
structure gy (S : Nat → Prop) (w w' : World) : Prop where
 os:w'.os=w.os
 tape:w'.tape=w.tape
 output:w'.output=w.output
 size:w.heap.size<=w'.heap.size
 block: ∀k,k<w.heap.size-> ¬S k->w'.heap[k]? =w.heap[k]?
theorem gy.refl (S:Nat->Prop) (w:World):gy S w w:=⟨rfl,rfl,rfl,ah _,fun _ _ _=>rfl⟩
theorem gy.trans {S T:Nat->Prop} {a b c:World} (h:gy S a b) (k:gy T b c) (hT: ∀i,i<a.heap.size->T i->S i):gy S a c:=
 ⟨k.os.trans h.os,k.tape.trans h.tape,k.output.trans h.output,an h.size k.size,fun i hi hn=>(k.block i (aO hi h.size) (fun ht=>hn (hT i hi ht))).trans (h.block i hi hn)⟩
theorem gy.of_below {S:Nat->Prop} {w w':World} (h:Below w.heap.size w w'):gy S w w':=⟨h.os,h.tape,h.output,h.size,fun k hk _=>h.block k hk⟩
theorem gy.of_grown {S:Nat->Prop} {w w':World} {r:Option Nat} (h:w.grownBy w' r) (hr: ∀k,r=some k->S k):gy S w w':=⟨h.os,h.tape,h.output,h.size,fun k hk hn=>h.block k hk (fun e=>hn (hr k e.symm))⟩
theorem gy.below {S:Nat->Prop} {w w':World} (h:gy S w w') {B:Nat} (hB:B<=w.heap.size) (hS: ∀k,S k->B<=k):Below B w w':=⟨h.os,h.tape,h.output,h.size,fun k hk=>h.block k (by omega) (fun hs=>by have:=hS k hs; omega)⟩
end
section
def rO (l:List UInt8):Bool:=l.all fun c=>decide (32<=c.toNat)
def yB (l:List UInt8):Bool:=rO l && Lib.validD l
def iV (l:List UInt8):Bool:= !l.isEmpty && decide (l.length<=64) && (l != [46]) && (l != [46,46]) && !l.contains 47 && yB l
def dd (c:UInt8):List UInt8->List (List UInt8)
 | []=>[[]]
 | b::l=>if b=c then []::dd c l else
  match dd c l with
  | h::t=>(b::h)::t
  | []=>[[b]]
def jS (ps:List (List UInt8)):List UInt8:=Lib.join ps [47]
def dH (l:List UInt8):Bool:=decide (l.length<=512) && decide ((dd 47 l).length<=16) && (dd 47 l).all iV
def iB (c:UInt8):Int:=if c=47 then -1 else c.toNat
def fA :List UInt8->List UInt8->Int
 | [],[]=>0
 | [],_::_=> -1
 | _::_,[]=>1
 | a::l,b::r=>if a=b then fA l r else Lib.compareInt (iB a) (iB b)
theorem pR (c:UInt8) (l:List UInt8):dd c l≠[]:=by
 cases l with
 | nil=>simp[dd]
 | cons b l=>
  unfold dd
  split
  ·simp
  ·split<;> simp
theorem ov (c:UInt8) (l:List UInt8):1<=(dd c l).length:=by
 have:=pR c l
 cases h:dd c l with
 | nil=>exact absurd h this
 | cons a t=>simp
theorem pu (c:UInt8) (l:List UInt8):(dd c l).length<=l.length+1:=by
 induction l with
 | nil=>simp[dd]
 | cons b l ih=>
  unfold dd
  split
  ·simp; omega
  ·split
   ·rename_i h t e; rw[e]at ih; simp at ih ⊢; omega
   ·simp
theorem lx (c:UInt8) (p q:List UInt8) (hp:c∉p):dd c (p++c::q)=p::dd c q:=by
 induction p with
 | nil=>simp[dd]
 | cons b p ih=>
  have hb:b≠c:=fun e=>hp (by simp[e])
  have ih:=ih (fun h=>hp (eG _ h));simp only[aK,dd,if_neg hb,ih]
theorem fW (c:UInt8) (p:List UInt8) (hp:c∉p):dd c p=[p]:=by
 induction p with
 | nil=>rfl
 | cons b p ih=>
  have hb:b≠c:=fun e=>hp (by simp[e])
  have ih:=ih (fun h=>hp (eG _ h));simp only[dd,if_neg hb,ih]
theorem DA (c:UInt8) (l:List UInt8):Lib.join (dd c l) [c]=l:=by
 induction l with
 | nil=>rfl
 | cons b l ih=>
  unfold dd
  split
  ·rename_i hb; subst hb
   cases h:dd b l with
   | nil=>exact absurd h (pR b l)
   | cons a t=>rw[h]at ih; rw[Lib.join_cons]at *; simp[Lib.joinTail]at *; exact ih
  ·split
   ·rename_i h t e; rw[e]at ih; rw[Lib.join_cons]at *; simp at *; exact ih
   ·rename_i e; exact absurd e (pR c l)
theorem Ah (l:List UInt8) (c:UInt8) (h:c∈l): ∃p q,l=p++c::q/\c∉p:=by
 induction l with
 | nil=>simp at h
 | cons b l ih=>
  by_cases hb:b=c
  ·exact⟨[],l,by simp[hb],by simp⟩
  ·have:c∈l:=(aU.1 h).resolve_left (ks hb);obtain⟨p,q,rfl,hp⟩:=ih this;exact⟨b::p,q,rfl,by simp[hp,Ne.symm hb]⟩
theorem Kd (p q:List UInt8) (c:UInt8) (hp:c∉p):Lib.index (p++c::q) [c]=(p.length:Int):=by
 induction p with
 | nil=>simp[Lib.index,List.isPrefixOf]
 | cons b p ih=>
  have hb:b≠c:=fun e=>hp (by simp[e])
  have ih:=ih (fun h=>hp (eG _ h));rw[aK,Lib.index,ih];have h1:([c]:List UInt8).isPrefixOf (b::(p++c::q))=false:=by simp[List.isPrefixOf,Ne.symm hb]
  have h2:((p.length:Int) == -1)=false:=by rw[ir]; omega
  rw[h1,h2]; simp
theorem Be (c:UInt8): ∀(k:Nat) (s:List UInt8),s.count c=k->Lib.splitK [c] 0 k s=dd c s
 | 0,s,h=>by have:c∉s:=List.count_eq_zero.1 h;rw[fW c s this]; rfl
 | k+1,s,h=>by
  have hc:c∈s:=List.count_pos_iff.1 (by omega);obtain⟨p,q,rfl,hp⟩:=Ah s c hc;have hq:q.count c=k:=by have h0:p.count c=0:=List.count_eq_zero.2 hp;rw[List.count_append,h0,List.count_cons_self]at h; omega
  rw[lx c p q hp,Lib.splitK,Kd p q c hp,if_neg (by simp)];simp only[fx,dh,ay,bp,bO];rw[List.take_left];have e:(p++c::q).drop (p.length+1)=q:=by rw[jg]; simp
  rw[e,Be c k q hq]
theorem Ls (c:UInt8) (s:ByteArray):(Lib.splitB ⟨#[c]⟩ 0 (Lib.countB s ⟨#[c]⟩) s).map (·.data.toList)=dd c s.data.toList:=by rw[Lib.splitB_data];exact Be c _ _ (by rw[Lib.countB,Lib.count_one])
theorem GC (c:UInt8) (s:ByteArray):(Lib.splitB ⟨#[c]⟩ 0 (Lib.countB s ⟨#[c]⟩) s).length=Lib.countB s ⟨#[c]⟩+1:=
 Lib.splitB_all ⟨#[c]⟩ (by simp[ByteArray.size]) 0 _ s rfl
theorem lF (l:List UInt8) (c:UInt8):decide (0<=Lib.indexByte l c)=l.contains c:=by
 induction l with
 | nil=>simp[Lib.indexByte]
 | cons b l ih=>
  have ha:=Lib.indexByte_ge l c;unfold Lib.indexByte
  by_cases hb:b=c
  ·subst hb; simp
  ·have h1:(b == c)=false:=by simpa using hb
   have h2:(c == b)=false:=by simpa using ks hb
   rw[h1];simp only[Bool.false_eq_true,if_false,List.contains_cons,h2,Bool.false_or,<-ih]
   by_cases hm:Lib.indexByte l c= -1
   ·simp[hm]
   ·rw[if_neg (by simpa using hm)]; congr 1; apply propext; omega
theorem CX (s:ByteArray) (pos:Nat) (h:pos<s.size) (ha:128<=(s.get! pos).toNat):
  pos+(Utf8.decode s pos).2<=s.size/\ ∀j,pos<=j->j<pos+(Utf8.decode s pos).2->128<=(s.get! j).toNat:=by
 have hn: ¬(s.get! (pos+0)).toNat<128:=by simpa using ha
 simp only[Utf8.decode,hn,if_false]
 repeat' split
 all_goals simp_all
 all_goals (refine⟨by omega,fun j h1 h2=> ?_⟩)
 all_goals (rcases dN j (pos+1)with h3 | h3)
 all_goals (first | (rw[show j=pos by omega]; exact ha) | skip)
 all_goals (rcases dN j (pos+2)with h4 | h4)
 all_goals (first | (rw[show j=pos+1 by omega]; omega) | skip)
 all_goals (rcases dN j (pos+3)with h5 | h5)
 all_goals (first | (rw[show j=pos+2 by omega]; omega) | skip)
 all_goals (first | (rw[show j=pos+3 by omega]; omega) | skip)
 all_goals omega
theorem mK (c:UInt8) (p q:List UInt8):dd c (p++c::q)=dd c p++dd c q:=by
 induction p with
 | nil=>simp[dd]
 | cons b p ih=>
  simp only[aK,dd]
  by_cases hb:b=c
  ·simp[hb,ih]
  ·rw[if_neg hb,if_neg hb,ih]
   cases h:dd c p with
   | nil=>exact absurd h (pR c p)
   | cons a t=>simp
def cu (l:List UInt8):List UInt8:=jS (dd 47 l).dropLast
theorem oh (l:List UInt8) (h:47∉l):cu l=[]:=by unfold cu; rw[fW 47 l h]; rfl
theorem lJ (p q:List UInt8) (h:47∉q):cu (p++47::q)=p:=by unfold cu jS;rw[mK,fW 47 q h,List.dropLast_concat,DA]
theorem ob (l:List UInt8) (h:47∈l): ∃p q,l=p++47::q/\47∉q:=by
 induction l with
 | nil=>simp at h
 | cons b l ih=>
  by_cases hm:(47:UInt8)∈l
  ·obtain⟨p,q,rfl,hq⟩:=ih hm;exact⟨b::p,q,rfl,hq⟩
  ·rcases aU.1 h with rfl | h
   ·exact⟨[],l,rfl,hm⟩
   ·exact absurd h hm
theorem tX (l:List UInt8):cu l=l.take (cu l).length:=by
 by_cases h:(47:UInt8)∈l
 ·obtain⟨p,q,rfl,hq⟩:=ob l h;rw[lJ p q hq]; simp
 ·rw[oh l h]; simp
theorem GK (ps:List (List UInt8)) (m:Nat) (h: ∀p∈ps,p.length<=m):(jS ps).length<=ps.length*(m+1):=by
 induction ps with
 | nil=>simp[jS,Lib.join_nil]
 | cons p r ih=>
  have h1:=h p (by simp);have h2:=ih (fun x hx=>h x (by simp[hx]))
  cases r with
  | nil=>rw[jS,Lib.join_one]; simp; omega
  | cons q r=>
   have e:jS (p::q::r)=p++47::jS (q::r):=by unfold jS; rw[Lib.join_cons,Lib.join_cons]; simp[Lib.joinTail]
   rw[e,ai,ay,ay (a:=p),iY];omega
open Go.RowKit
theorem tI (s:ByteArray) (c:UInt8) (w:World):
  Calls Tryz.prog 134 #[.string s, .string ⟨#[c]⟩] w fun e w'=>e= .returned (.bool ((bl s).contains c))/\w=w':=
 (Tryz.strings_Contains_one s c w).mono fun _ _ ⟨he,hw⟩=>⟨by rw[he]; exact congrArg _ (congrArg _ (lF (bl s) c)),hw.symm⟩
theorem vX (s:ByteArray) (w:World) (he:nJ w) (hs:s.size<=9223372036854775807):
  Calls Tryz.prog 181 #[.string s] w fun e w'=>e= .returned (.bool (Lib.validD (bl s)))/\Below w.heap.size w w':=Tryz.utf8_ValidString s w hs he.tabs
theorem qP (x y:Int) (w:World):
  Calls Tryz.prog 151 #[.int .i64 x, .int .i64 y] w fun e w'=>e= .returned (.int .i64 (Lib.compareInt x y))/\w=w':=
 (Tryz.cmp_Compare_int x y w).mono fun _ _ ⟨he,hw⟩=>⟨he,hw.symm⟩
def Ju (c:UInt8) (s:ByteArray) (w:World) (e:Ending) (w':World):Prop:=
 ∃xs:List ByteArray,xs.map bl=dd c (bl s)/\e= .returned (.slice (some ⟨w.heap.size,0,none⟩) xs.length xs.length)/\w'=w.alloc (.cells (xs.map Value.string).toArray 9)
theorem Lu (s:ByteArray) (c:UInt8) (w:World) (he:nJ w) (hs:s.size<4294967281):
  Calls Tryz.prog 127 #[.string s, .string ⟨#[c]⟩] w (Ju c s w):=by
 obtain⟨m,hm⟩:=he.maxLen;refine(Tryz.strings_Split s ⟨#[c]⟩ m w hs hm (by simp[ByteArray.size])).mono fun e w' ⟨h1,h2⟩=> ?_
 refine⟨Lib.splitB ⟨#[c]⟩ 0 (Lib.countB s ⟨#[c]⟩) s,Ls c s, ?_,h2⟩;rw[GC]; exact h1
def nM (l:List UInt8):Int:=if 47∈l then((cu l).length:Int)else -1
theorem Qw (c:UInt8) (h:(c.toNat:Int)=47):c=47:=by
 apply gw.1
 have:c.toNat=47:=by omega
 rw[this]; rfl
theorem BS (s:ByteArray):Lib.lastIndexByte s 47=nM (bl s):=by
 unfold Lib.lastIndexByte;have get: ∀j,(hj:j<(bl s).length)->s.data[j]! =(bl s)[j]:=fun j hj=>by
  have h2:j<s.data.size:=by rw[<-bi]at hj; exact hj
  rw[getElem!_pos s.data j h2];exact(Array.getElem_toList (xs:=s.data) h2).symm
 rw[bi]
 generalize hl:bl s=l at *
 rcases Lib.lastIdx_spec s 47 l.length with⟨h1,h2⟩ | ⟨i,h1,h2,h3,h4⟩
 ·rw[h1];have:47∉l:=by intro hm;obtain⟨j,hj,e⟩:=eq hm;refine h2 j hj ?_;rw[get j hj,e]; rfl
  simp[nM,this]
 ·have e:l=l.take i++47::l.drop (i+1):=by have:=Qw _ h3;rw[get i h1]at this;rw[<-this]; simp
  have hq:47∉l.drop (i+1):=by intro hm;obtain⟨j,hj,e⟩:=eq hm;rw[bz]at hj;refine h4 (i+1+j) (by omega) (by omega) ?_;rw[get _ (by omega)];rw[List.getElem_drop]at e;rw[e]; rfl
  have hp:cu l=l.take i:=by have:=lJ (l.take i) _ hq;rw[<-e]at this; exact this
  have hm:47∈l:=by rw[e]; simp
  rw[h2,nM,if_pos hm,hp,aW]
  congr 1; omega
theorem yZ (s:ByteArray) (w:World) (hs:s.size<4611686018427387904):
  Calls Tryz.prog 120 #[.string s, .string ⟨#[47]⟩] w fun e w'=>e= .returned (.int .i64 (nM (bl s)))/\w=w':=
 (Tryz.strings_LastIndex_one s ⟨#[47]⟩ rfl hs w).mono fun _ _ ⟨he,hw⟩=>⟨by rw[he]; exact congrArg _ (congrArg _ (BS s)),hw.symm⟩
end
end Go.Proofs.YtpffpjbkbaleiaaGreatDoor
