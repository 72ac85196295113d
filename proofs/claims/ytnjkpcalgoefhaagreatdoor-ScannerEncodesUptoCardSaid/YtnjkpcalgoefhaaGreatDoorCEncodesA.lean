/- Texts of this proof, one after the other: Plain, Glob, PlainB, OrdP, RefP, Base, Libc, PathA, PathB, TreeP, TreeQ, LitP, BelP, Segs, ShaP, ShaA, ShaB, Own, Seq, App, Held, WireA. -/
import Derived.Lib.ValidLaws
import Derived.Lib.TrimUEq
import Derived.Lib.MapLaws
import Derived.Lib.SplitLaws
import Derived.Lib.Join
import Derived.Lib.Small
import Derived.Laws.RangeAny
import Derived.Test.YtnjkpcalgoefhaaGreatDoorRows
import Derived.Test.YtnjkpcalgoefhaaGreatDoorShelf
import Derived.WalkKit
import Derived.WalkSpells
import Derived.WalkLawsBesides
import Derived.Lib.Hide
import Derived.WalkSmall
import Derived.Deep.QuietTactic
import Derived.BigQuiet
import Derived.StillTailTactics
import Derived.Laws.Bits64b
import Derived.Laws.BitsAllLaws
import Derived.Deep.MidRow
import Derived.Laws.OwnMore
import Derived.OrdersHeld
import Derived.Deep.RegionHeld
import Derived.Laws.BytesArg
import Derived.Defers
import Derived.Recover
import Derived.Maps.OwnSet
import Derived.Maps.OwnOps
import Derived.DeepKeys5
import Derived.Laws.StructEq
import Derived.Laws.CopyOwn
import Derived.Laws.Slices
import Derived.Lib.ConvBytes
import Derived.Lib.TrailingZeros
import Derived.Test.YtnjkpcalgoefhaaGreatDoorCtz
import Derived.Lib.BufferWrite
import Derived.Maps.RangeWalk
import Derived.Shelf.Bytes.SlClone
import Derived.Lib.LazyBuf
import Derived.Laws.MakeOwn
import Derived.RangeFuncNested
import Derived.RangeFuncLeaves
import Derived.RangeFuncGives
import Derived.Lib.AppendStr
import Derived.RangeFuncBox
import Derived.Shelf.Abstract
import Derived.OwnWalkIn
import Derived.TacticsInMore
import Derived.LoopNIn
import Derived.LoopIn
import Derived.OrdersIn
import Derived.Deep.RegionWith
import Derived.Deep.RegionHeld3
import Derived.Laws.EntriesVeiled
import Derived.Laws.Cover4
import Derived.Lib.SlBytesConst
import Derived.ProofKit
import Derived.Carry
import Derived.Lay
import Derived.PinnedBridge
import Derived.Lib.LaidU8T
import Derived.SevenTiedAt
import Derived.HandedShaped
import Derived.Shelf.Vars
import Derived.Test.YtnjkpcalgoefhaaGreatDoorTie
import Derived.Test.YtnjkpcalgoefhaaGreatDoorCards
import Derived.Lib.SmallJoins
import Derived.Deep.DeepHandedRow
set_option maxRecDepth 100000
set_option maxHeartbeats 8000000
namespace Go.Proofs.YtnjkpcalgoefhaaGreatDoor
open Go Go.RowKit
theorem aH {α:Type} (l:List α) (i:Nat) (x:α):l.toArray.setIfInBounds i x=(l.set i x).toArray:=List.setIfInBounds_toArray ..
theorem aI {α:Type} (x:α) (l:List α) (i:Nat) (y:α):(x::l).set (i+1) y=x::l.set i y:=rfl
theorem aJ {α:Type} (x:α) (l:List α) (y:α):(x::l).set 0 y=y::l:=rfl
theorem bV {α:Type} :(∀(x:α) (l:List α),(x::l)[0]? =some x)/\(∀(x:α) (l:List α) (i:Nat),(x::l)[i+1]? =l[i]?):=⟨fun _ _=>rfl,fun _ _ _=>rfl⟩
theorem eE {α:Type} :(∀(l:List α) (i:Nat),l.toArray[i]? =l[i]?)/\(∀(x:α) (l:List α) (i:Nat),(x::l)[i+1]? =l[i]?)/\(∀(x:α) (l:List α),(x::l)[0]? =some x):=⟨fun _ _=>List.getElem?_toArray ..,fun _ _ _=>rfl,fun _ _=>rfl⟩
theorem ab {p:Prop} (h:p):RowKit.Hid p:=h
end Go.Proofs.YtnjkpcalgoefhaaGreatDoor
namespace Go.Proofs.YtnjkpcalgoefhaaGreatDoor
def kM (l:List UInt8):Bool:=l.all fun c=>decide (32<=c.toNat)
def lx (l:List UInt8):Bool:=kM l && Lib.validD l
def fu (l:List UInt8):Bool:= !l.isEmpty && decide (l.length<=64) && (l != [46]) && (l != [46,46]) && !l.contains 47 && lx l
def aF (c:UInt8):List UInt8->List (List UInt8)
 | []=>[[]]
 | b::l=>if b=c then []::aF c l else
  match aF c l with
  | h::t=>(b::h)::t
  | []=>[[b]]
def dp (ps:List (List UInt8)):List UInt8:=Lib.join ps [47]
def bJ (l:List UInt8):Bool:=decide (l.length<=512) && decide ((aF 47 l).length<=16) && (aF 47 l).all fu
def dA (c:UInt8):Int:=if c=47 then -1 else c.toNat
def cz :List UInt8->List UInt8->Int
 | [],[]=>0
 | [],_::_=> -1
 | _::_,[]=>1
 | a::l,b::r=>if a=b then cz l r else Lib.compareInt (dA a) (dA b)
theorem eV (c:UInt8) (l:List UInt8):aF c l≠[]:=by
 cases l with
 | nil=>simp[aF]
 | cons b l=>
  unfold aF
  split
  ·simp
  ·split<;> simp
theorem lP (c:UInt8) (l:List UInt8):1<=(aF c l).length:=by
 have:=eV c l
 cases h:aF c l with
 | nil=>exact absurd h this
 | cons a t=>simp
theorem dY (c:UInt8) (l:List UInt8):(aF c l).length<=l.length+1:=by
 induction l with
 | nil=>simp[aF]
 | cons b l ih=>
  unfold aF
  split
  ·simp; omega
  ·split
   ·rename_i h t e; rw[e]at ih; simp at ih ⊢; omega
   ·simp
theorem fT (c:UInt8) (p q:List UInt8) (hp:c∉p):aF c (p++c::q)=p::aF c q:=by
 induction p with
 | nil=>simp[aF]
 | cons b p ih=>
  have hb:b≠c:=fun e=>hp (by simp[e])
  have ih:=ih (fun h=>hp (List.mem_cons_of_mem _ h));simp only[List.cons_append,aF,if_neg hb,ih]
theorem et (c:UInt8) (p:List UInt8) (hp:c∉p):aF c p=[p]:=by
 induction p with
 | nil=>rfl
 | cons b p ih=>
  have hb:b≠c:=fun e=>hp (by simp[e])
  have ih:=ih (fun h=>hp (List.mem_cons_of_mem _ h));simp only[aF,if_neg hb,ih]
theorem xW (c:UInt8) (l:List UInt8): ∀p∈aF c l,c∉p:=by
 induction l with
 | nil=>simp[aF]
 | cons b l ih=>
  unfold aF
  split
  ·intro p hp; rcases List.mem_cons.1 hp with rfl | hp
   ·simp
   ·exact ih p hp
  ·rename_i hb
   split
   ·rename_i h t e;rw[e]at ih;intro p hp; rcases List.mem_cons.1 hp with rfl | hp
    ·have:=ih h (by simp); simp[this,Ne.symm hb]
    ·exact ih p (by simp[hp])
   ·rename_i e; exact absurd e (eV c l)
theorem nO (c:UInt8) (l:List UInt8):Lib.join (aF c l) [c]=l:=by
 induction l with
 | nil=>rfl
 | cons b l ih=>
  unfold aF
  split
  ·rename_i hb; subst hb
   cases h:aF b l with
   | nil=>exact absurd h (eV b l)
   | cons a t=>rw[h]at ih; rw[Lib.join_cons]at *; simp[Lib.joinTail]at *; exact ih
  ·split
   ·rename_i h t e; rw[e]at ih; rw[Lib.join_cons]at *; simp at *; exact ih
   ·rename_i e; exact absurd e (eV c l)
theorem vX (c:UInt8) (ps:List (List UInt8)) (h0:ps≠[]) (h: ∀p∈ps,c∉p):aF c (Lib.join ps [c])=ps:=by
 induction ps with
 | nil=>exact absurd rfl h0
 | cons p ps ih=>
  cases ps with
  | nil=>rw[Lib.join_one]; exact et c p (h p (by simp))
  | cons q ps=>
   have e:Lib.join (p::q::ps) [c]=p++c::Lib.join (q::ps) [c]:=by
    rw[Lib.join_cons,Lib.join_cons]; simp[Lib.joinTail]
   rw[e,fT c _ _ (h p (by simp)),ih (by simp) (fun x hx=>h x (by simp[hx]))]
theorem rU (l:List UInt8) (c:UInt8) (h:c∈l): ∃p q,l=p++c::q/\c∉p:=by
 induction l with
 | nil=>simp at h
 | cons b l ih=>
  by_cases hb:b=c
  ·exact⟨[],l,by simp[hb],by simp⟩
  ·have:c∈l:=(List.mem_cons.1 h).resolve_left (Ne.symm hb);obtain⟨p,q,rfl,hp⟩:=ih this;exact⟨b::p,q,rfl,by simp[hp,Ne.symm hb]⟩
theorem zN (p q:List UInt8) (c:UInt8) (hp:c∉p):Lib.index (p++c::q) [c]=(p.length:Int):=by
 induction p with
 | nil=>simp[Lib.index,List.isPrefixOf]
 | cons b p ih=>
  have hb:b≠c:=fun e=>hp (by simp[e])
  have ih:=ih (fun h=>hp (List.mem_cons_of_mem _ h));rw[List.cons_append,Lib.index,ih];have h1:([c]:List UInt8).isPrefixOf (b::(p++c::q))=false:=by simp[List.isPrefixOf,Ne.symm hb]
  have h2:((p.length:Int) == -1)=false:=by rw[beq_eq_false_iff_ne]; omega
  rw[h1,h2]; simp
theorem sD (c:UInt8): ∀(k:Nat) (s:List UInt8),s.count c=k->Lib.splitK [c] 0 k s=aF c s
 | 0,s,h=>by
  have:c∉s:=List.count_eq_zero.1 h;rw[et c s this]; rfl
 | k+1,s,h=>by
  have hc:c∈s:=List.count_pos_iff.1 (by omega);obtain⟨p,q,rfl,hp⟩:=rU s c hc;have hq:q.count c=k:=by
   have h0:p.count c=0:=List.count_eq_zero.2 hp;rw[List.count_append,h0,List.count_cons_self]at h; omega
  rw[fT c p q hp,Lib.splitK,zN p q c hp,if_neg (by simp)];simp only[Int.toNat_natCast,Nat.add_zero,List.length_cons,List.length_nil,Nat.zero_add];rw[List.take_left];have e:(p++c::q).drop (p.length+1)=q:=by rw[List.drop_append]; simp
  rw[e,sD c k q hq]
theorem Bf (c:UInt8) (s:ByteArray):(Lib.splitB ⟨#[c]⟩ 0 (Lib.countB s ⟨#[c]⟩) s).map (·.data.toList)=aF c s.data.toList:=by
 rw[Lib.splitB_data];exact sD c _ _ (by rw[Lib.countB,Lib.count_one])
theorem xU (c:UInt8) (s:ByteArray):(Lib.splitB ⟨#[c]⟩ 0 (Lib.countB s ⟨#[c]⟩) s).length=Lib.countB s ⟨#[c]⟩+1:=
 Lib.splitB_all ⟨#[c]⟩ (by simp[ByteArray.size]) 0 _ s rfl
theorem gS (l:List UInt8) (c:UInt8):decide (0<=Lib.indexByte l c)=l.contains c:=by
 induction l with
 | nil=>simp[Lib.indexByte]
 | cons b l ih=>
  have hge:=Lib.indexByte_ge l c;unfold Lib.indexByte
  by_cases hb:b=c
  ·subst hb; simp
  ·have h1:(b == c)=false:=by simpa using hb
   have h2:(c == b)=false:=by simpa using Ne.symm hb
   rw[h1];simp only[Bool.false_eq_true,if_false,List.contains_cons,h2,Bool.false_or,<-ih]
   by_cases hm:Lib.indexByte l c= -1
   ·simp[hm]
   ·rw[if_neg (by simpa using hm)]; congr 1; apply propext; omega
theorem ux (s:ByteArray) (pos:Nat) (h:pos<s.size) (ha:128<=(s.get! pos).toNat):
  pos+(Utf8.decode s pos).2<=s.size/\ ∀j,pos<=j->j<pos+(Utf8.decode s pos).2->128<=(s.get! j).toNat:=by
 have hn: ¬(s.get! (pos+0)).toNat<128:=by simpa using ha
 simp only[Utf8.decode,hn,if_false]
 repeat' split
 all_goals simp_all
 all_goals (refine⟨by omega,fun j h1 h2=> ?_⟩)
 all_goals (rcases Nat.lt_or_ge j (pos+1)with h3 | h3)
 all_goals (first | (rw[show j=pos by omega]; exact ha) | skip)
 all_goals (rcases Nat.lt_or_ge j (pos+2)with h4 | h4)
 all_goals (first | (rw[show j=pos+1 by omega]; omega) | skip)
 all_goals (rcases Nat.lt_or_ge j (pos+3)with h5 | h5)
 all_goals (first | (rw[show j=pos+2 by omega]; omega) | skip)
 all_goals (first | (rw[show j=pos+3 by omega]; omega) | skip)
 all_goals omega
theorem xV (c:UInt8) (p q:List UInt8):aF c (p++c::q)=aF c p++aF c q:=by
 induction p with
 | nil=>simp[aF]
 | cons b p ih=>
  simp only[List.cons_append,aF]
  by_cases hb:b=c
  ·simp[hb,ih]
  ·rw[if_neg hb,if_neg hb,ih]
   cases h:aF c p with
   | nil=>exact absurd h (eV c p)
   | cons a t=>simp
def bb (l:List UInt8):List UInt8:=dp (aF 47 l).dropLast
theorem jk (l:List UInt8) (h:47∉l):bb l=[]:=by
 unfold bb; rw[et 47 l h]; rfl
theorem ip (p q:List UInt8) (h:47∉q):bb (p++47::q)=p:=by
 unfold bb dp;rw[xV,et 47 q h,List.dropLast_concat,nO]
theorem lK (l:List UInt8) (h:47∈l): ∃p q,l=p++47::q/\47∉q:=by
 induction l with
 | nil=>simp at h
 | cons b l ih=>
  by_cases hm:(47:UInt8)∈l
  ·obtain⟨p,q,rfl,hq⟩:=ih hm;exact⟨b::p,q,rfl,hq⟩
  ·rcases List.mem_cons.1 h with rfl | h
   ·exact⟨[],l,rfl,hm⟩
   ·exact absurd h hm
theorem mC (l:List UInt8):bb l=l.take (bb l).length:=by
 by_cases h:(47:UInt8)∈l
 ·obtain⟨p,q,rfl,hq⟩:=lK l h;rw[ip p q hq]; simp
 ·rw[jk l h]; simp
theorem yf (ps:List (List UInt8)) (m:Nat) (h: ∀p∈ps,p.length<=m):(dp ps).length<=ps.length*(m+1):=by
 induction ps with
 | nil=>simp[dp,Lib.join_nil]
 | cons p r ih=>
  have h1:=h p (by simp);have h2:=ih (fun x hx=>h x (by simp[hx]))
  cases r with
  | nil=>rw[dp,Lib.join_one]; simp; omega
  | cons q r=>
   have e:dp (p::q::r)=p++47::dp (q::r):=by
    unfold dp; rw[Lib.join_cons,Lib.join_cons]; simp[Lib.joinTail]
   rw[e,List.length_append,List.length_cons,List.length_cons (a:=p),Nat.add_mul];omega
def eb :Nat->List UInt8->List Int
 | 0,_=>[]
 | n+1,l=>if l=[]then []else((Lib.decodeL l).1:Int)::eb n (l.drop (Lib.decodeL l).2)
def bt (l:List UInt8):List Int:=eb l.length l
structure bL where
 star:Bool
 any:Bool
 neg:Bool
 ranges:List (Int×Int)
structure aU where
 dbl:Bool
 items:List bL
def FF :bL:=⟨true,false,false,[]⟩
def Gm :bL:=⟨false,true,false,[]⟩
def EB (r:Int):bL:=⟨false,false,false,[(r,r)]⟩
def mz :List Int->Option (Int×List Int)
 | []=>none
 | q::u=>some (q,u)
def jx :List Int->Option (Int×List Int)
 | []=>none
 | r::t=>if r=92 then mz t else if r=93\/r=94\/r=45 then none else some (r,t)
def dm :Nat->List Int->List (Int×Int)->Option (List (Int×Int)×List Int)
 | 0,_,_=>none
 | f+1,l,acc=>
  if l.head? =some 93 then some (acc,l.tail)else
  match jx l with
  | none=>none
  | some (lo,t)=>
   if t.head? =some 45 then
    match jx t.tail with
    | none=>none
    | some (hi,u)=>if hi<lo then none else dm f u (acc++[(lo,hi)])
   else dm f t (acc++[(lo,lo)])
def ma (t:List Int):Option (bL×List Int):=
 let neg:=decide (t.head? =some 94)
 let t':=if neg then t.tail else t
 match dm (t'.length+1) t' []with
 | none=>none
 | some (rs,u)=>if rs=[]then none else some (⟨false,false,neg,rs⟩,u)
def fA :List Int->Option (bL×List Int)
 | []=>none
 | r::t=>
  if r=42 then some (FF,t)else if r=63 then some (Gm,t)else if r=91 then ma t
  else if r=92 then(mz t).map (fun x=>(EB x.1,x.2))else some (EB r,t)
def gT :Nat->List Int->Option (List bL)
 | 0,_=>none
 | f+1,l=>if l=[]then some []else
  match fA l with
  | none=>none
  | some (it,t)=>match gT f t with | none=>none | some its=>some (it::its)
def fh (l:List Int):Option (List bL):=gT (l.length+1) l
def ju (p:List UInt8):Option aU:=
 if p=[42,42]then some ⟨true,[]⟩else
 match fh (bt p)with
 | none=>none
 | some its=>if its=[]then none else some ⟨false,its⟩
def cS :List (List UInt8)->Option (List aU)
 | []=>some []
 | p::r=>match ju p with
  | none=>none
  | some c=>match cS r with | none=>none | some cs=>some (c::cs)
def iP (l:List UInt8):Option (List aU):=
 if 512<l.length\/lx l=false then none else if 16<(aF 47 l).length then none else cS (aF 47 l)
def gL {T:Type} (f:List T->Bool):List T->Bool
 | []=>f []
 | t::us=>f (t::us) || gL f us
def uS {T:Type} (m:T->Bool) (f:List T->Bool):List T->Bool
 | []=>false
 | t::us=>m t && f us
def dv {P T:Type} (star:P->Bool) (m:P->T->Bool):List P->List T->Bool
 | [],ts=>ts.isEmpty
 | p::ps,ts=>if star p then gL (dv star m ps) ts else uS (m p) (dv star m ps) ts
def Bs (r:Int) (x:Int×Int):Bool:=decide (x.1<=r) && decide (r<=x.2)
def ex (it:bL) (r:Int):Bool:=it.any || ((it.ranges.any (Bs r)) != it.neg)
def yy (c:aU) (part:List UInt8):Bool:=dv (·.star) ex c.items (bt part)
def iy (cs:List aU) (parts:List (List UInt8)):Bool:=dv (·.dbl) yy cs parts
theorem kF {l t:List Int} {r:Int} (h:jx l=some (r,t)):t.length<l.length:=by
 cases l with
 | nil=>simp[jx]at h
 | cons a l=>
  rw[jx]at h
  split at h
  ·cases l with
   | nil=>simp[mz]at h
   | cons q u=>simp[mz]at h; obtain⟨_,rfl⟩:=h; simp; omega
  ·split at h
   ·simp at h
   ·simp at h; obtain⟨_,rfl⟩:=h; simp
theorem lD : ∀(f:Nat) {l:List Int} {acc:List (Int×Int)} {rs:List (Int×Int)} {u:List Int},dm f l acc=some (rs,u)->u.length<=l.length
 | 0,_,_,_,_,h=>by simp[dm]at h
 | f+1,l,acc,rs,u,h=>by
  unfold dm at h
  split at h
  ·simp at h; obtain⟨_,rfl⟩:=h; simp
  ·split at h
   ·simp at h
   ·rename_i lo t e;have h1:=kF e
    split at h
    ·split at h
     ·simp at h
     ·rename_i hi v e2;have h2:=kF e2;rw[List.length_tail]at h2
      split at h
      ·simp at h
      ·have:=lD f h; omega
    ·have:=lD f h; omega
theorem BU {t u:List Int} {it:bL} (h:ma t=some (it,u)):u.length<=t.length:=by
 unfold ma at h;simp only at h
 split at h
 ·simp at h
 ·rename_i rs v e;have:=lD _ e
  split at h
  ·simp at h
  ·simp only[Option.some.injEq,Prod.mk.injEq]at h;obtain⟨_,rfl⟩:=h
   split at this
   ·rw[List.length_tail]at this; omega
   ·exact this
theorem kJ {l t:List Int} {it:bL} (h:fA l=some (it,t)):t.length<l.length:=by
 cases l with
 | nil=>simp[fA]at h
 | cons a l=>
  rw[fA]at h
  split at h
  ·simp at h; obtain⟨_,rfl⟩:=h; simp
  ·split at h
   ·simp at h; obtain⟨_,rfl⟩:=h; simp
   ·split at h
    ·have:=BU h; simp; omega
    ·split at h
     ·cases l with
      | nil=>simp[mz]at h
      | cons q u=>simp[mz]at h; obtain⟨_,rfl⟩:=h; simp; omega
     ·simp at h; obtain⟨_,rfl⟩:=h; simp
theorem nN : ∀(f g:Nat) (l:List Int),l.length<f->l.length<g->gT f l=gT g l
 | 0,_,_,h,_=>by omega
 | _,0,_,_,h=>by omega
 | f+1,g+1,l,h1,h2=>by
  unfold gT
  split
  ·rfl
  ·split
   ·rfl
   ·rename_i it t e;have:=kJ e;rw[nN f g t (by omega) (by omega)]
theorem uZ {l t:List Int} {it:bL} (hl:l≠[]) (h:fA l=some (it,t)):fh l=match fh t with | none=>none | some its=>some (it::its):=by
 have:=kJ h;unfold fh;rw[gT,if_neg hl,h];simp only;rw[nN l.length (t.length+1) t (by omega) (by omega)]
theorem xq {l:List Int} (hl:l≠[]) (h:fA l=none):fh l=none:=by
 unfold fh;rw[gT,if_neg hl,h]
theorem gn (l:List UInt8) (h:l≠[]):1<=(Lib.decodeL l).2/\(Lib.decodeL l).2<=l.length:=⟨Lib.decodeL_width l,Lib.decodeL_le l h⟩
theorem mK : ∀(n m:Nat) (l:List UInt8),l.length<=n->l.length<=m->eb n l=eb m l
 | 0,m,l,h,_=>by
  have:l=[]:=List.eq_nil_of_length_eq_zero (by omega);subst this; cases m<;> simp[eb]
 | n,0,l,_,h=>by
  have:l=[]:=List.eq_nil_of_length_eq_zero (by omega);subst this; cases n<;> simp[eb]
 | n+1,m+1,l,h1,h2=>by
  unfold eb
  split
  ·rfl
  ·rename_i hl;have:=gn l hl;rw[mK n m (l.drop (Lib.decodeL l).2) (by rw[List.length_drop]; omega) (by rw[List.length_drop]; omega)]
theorem vP (l:List UInt8) (h:l≠[]):bt l=((Lib.decodeL l).1:Int)::bt (l.drop (Lib.decodeL l).2):=by
 have h1:=gn l h;have hl:l.length=(l.length-1)+1:=by have:=List.length_pos_iff.2 h; omega
 unfold bt;rw[hl,eb,if_neg h,mK _ (l.drop (Lib.decodeL l).2).length (l.drop (Lib.decodeL l).2) (by rw[List.length_drop]; omega) (Nat.le_refl _)]
theorem ks : ∀(n:Nat) (l:List UInt8),(eb n l).length<=n
 | 0,_=>by simp[eb]
 | n+1,l=>by
  unfold eb
  split
  ·simp
  ·have:=ks n (l.drop (Lib.decodeL l).2); simp; omega
theorem eL (l:List UInt8):(bt l).length<=l.length:=ks _ _
theorem mJ (s:ByteArray): ∀(n i:Nat) (acc:Array Value),Conv.runesFrom s n i acc=acc++((eb n (s.data.toList.drop i)).map (Value.int .i32)).toArray
 | 0,i,acc=>by simp[Conv.runesFrom,eb]
 | n+1,i,acc=>by
  unfold Conv.runesFrom eb;have hsz:s.size=s.data.toList.length:=Lib.size_eq s
  by_cases h:i<s.size
  ·rw[if_pos h,if_neg (by intro e; have:=List.drop_eq_nil_iff.1 e; omega)];simp only;rw[mJ s n,Lib.decodeL_drop,List.drop_drop]
   apply Array.ext'
   simp
  ·rw[if_neg h,if_pos (List.drop_eq_nil_iff.2 (by omega))];simp
theorem xM (s:ByteArray):Conv.runesFrom s s.size 0 #[]=((bt s.data.toList).map (Value.int .i32)).toArray:=by
 rw[mJ,Lib.size_eq];simp[bt]
theorem lp : ∀(f:Nat) (l:List Int) (its:List bL),gT f l=some its->its.length<=l.length
 | 0,_,_,h=>by simp[gT]at h
 | f+1,l,its,h=>by
  unfold gT at h
  split at h
  ·simp at h; subst h; simp
  ·split at h
   ·simp at h
   ·rename_i it t e;have:=kJ e
    split at h
    ·simp at h
    ·rename_i its2 e2;have h2:=lp f t its2 e2;simp at h; subst h; simp; omega
theorem un {p:List UInt8} {c:aU} (h:ju p=some c):c.items.length<=p.length:=by
 unfold ju at h
 split at h
 ·simp at h; subst h; simp
 ·split at h
  ·simp at h
  ·rename_i its e;have h1:=lp _ _ _ e;have h2:=eL p
   split at h
   ·simp at h
   ·simp at h; subst h; simp; omega
theorem oZ : ∀ {ps:List (List UInt8)} {cs:List aU},cS ps=some cs->cs.length=ps.length
 | [],cs,h=>by simp[cS]at h; subst h; rfl
 | p::ps,cs,h=>by
  unfold cS at h
  split at h
  ·simp at h
  ·split at h
   ·simp at h
   ·rename_i cs2 e2;simp at h; subst h;simp[oZ e2]
theorem mg : ∀ {ps:List (List UInt8)} {cs:List aU} {m:Nat},cS ps=some cs->(∀p∈ps,p.length<=m)-> ∀c∈cs,c.items.length<=m
 | [],cs,m,h,_=>by simp[cS]at h; subst h; simp
 | p::ps,cs,m,h,hm=>by
  unfold cS at h
  split at h
  ·simp at h
  ·rename_i c0 e0
   split at h
   ·simp at h
   ·rename_i cs2 e2;simp at h; subst h;intro c hc
    rcases List.mem_cons.1 hc with rfl | hc
    ·have:=un e0; have:=hm p (by simp); omega
    ·exact mg e2 (fun q hq=>hm q (by simp[hq])) c hc
structure bd where
 pat:List UInt8
 keep:Bool
 dir:Bool
 rooted:Bool
def bo (r:bd):Option (List aU):=
 if Lib.hasPrefix r.pat [33] || Lib.hasPrefix r.pat [35]then none else if r.pat.contains 47 && !r.rooted then none else iP r.pat
def sw (l:List UInt8):bd:=
 let l1:=Lib.trimPrefix l [33]
 let l2:=Lib.trimPrefix l1 [47]
 let p:=Lib.trimSuffix l2 [47]
 ⟨p,Lib.hasPrefix l [33],Lib.hasSuffix l2 [47],Lib.hasPrefix l1 [47] || p.contains 47⟩
def cF (l:List UInt8):Option bd:=if(bo (sw l)).isSome then some (sw l)else none
def dn :List (List UInt8)->Nat->List bd->List bd×Int×Int
 | [],_,acc=>(acc,0,0)
 | l::ls,i,acc=>if l=[]\/Lib.hasPrefix l [35]=true then dn ls (i+1) acc else
  match cF l with
  | none=>([],i+1,3)
  | some r=>if acc.length=256 then([],i+1,2)else dn ls (i+1) (acc++[r])
def cI (l:List UInt8):List bd×Int×Int:=if 65536<l.length then([],0,2)else dn (aF 10 l) 0 []
def fj (dir:Bool) (r:bd) (cs:List aU) (parts:List (List UInt8)) (n:Nat):Bool:=
 (dir || decide (n<parts.length) || !r.dir) && iy cs (if r.rooted then parts.take n else(parts.take n).drop (n-1))
def fy (dir:Bool) (parts:List (List UInt8)) (n:Nat):List (bd×List aU)->Bool->Bool
 | [],b=>b
 | (r,cs)::t,b=>fy dir parts n t (if fj dir r cs parts n then !r.keep else b)
def cM (dir:Bool) (parts:List (List UInt8)) (rs:List (bd×List aU)):Nat->Nat->Bool
 | 0,_=>false
 | f+1,n=>if fy dir parts n rs false then true else cM dir parts rs f (n+1)
def bh :List bd->Option (List (bd×List aU))
 | []=>some []
 | r::t=>match bo r with
  | none=>none
  | some cs=>match bh t with | none=>none | some u=>some ((r,cs)::u)
def dJ (rs:List bd) (path:List UInt8) (dir:Bool):Bool×Int:=
 if bJ path=false\/256<rs.length then(false,1)else
 match bh rs with
 | none=>(false,1)
 | some u=>(cM dir (aF 47 path) u (aF 47 path).length 1,0)
theorem gF {a b:UInt8} (h:dA a=dA b):a=b:=by
 unfold dA at h
 split at h<;> split at h
 ·simp[*]
 ·omega
 ·omega
 ·apply UInt8.toNat_inj.1; omega
theorem yx : ∀(a b:List UInt8),cz b a= -cz a b
 | [],[]=>by simp[cz]
 | [],_::_=>by simp[cz]
 | _::_,[]=>by simp[cz]
 | a::l,b::r=>by
  unfold cz
  by_cases h:a=b
  ·rw[if_pos h,if_pos h.symm]; exact yx l r
  ·rw[if_neg h,if_neg (Ne.symm h)];have:dA a≠dA b:=fun e=>h (gF e)
   unfold Lib.compareInt
   rcases Int.lt_trichotomy (dA a) (dA b)with h1 | h1 | h1
   ·rw[if_neg (by omega),if_pos (by omega),if_pos h1]; rfl
   ·exact absurd h1 this
   ·rw[if_pos (by omega),if_neg (by omega),if_pos (by omega)]
theorem me : ∀(a b:List UInt8),cz a b=0<->a=b
 | [],[]=>by simp[cz]
 | [],_::_=>by simp[cz]
 | _::_,[]=>by simp[cz]
 | a::l,b::r=>by
  unfold cz
  by_cases h:a=b
  ·rw[if_pos h,me l r]; simp[h]
  ·rw[if_neg h];have:dA a≠dA b:=fun e=>h (gF e)
   unfold Lib.compareInt
   constructor
   ·intro e; split at e
    ·omega
    ·split at e<;> omega
   ·intro e; simp at e; exact absurd e.1 h
theorem rA : ∀(a b c:List UInt8),cz a b<=0->cz b c<=0->cz a c<=0/\(cz a c=0->cz a b=0/\cz b c=0)
 | [],b,[],h1,h2=>by
  cases b with
  | nil=>simp[cz]
  | cons x b=>simp[cz]at h2
 | [],_,_::_,_,_=>by simp[cz]
 | _::_,[],_,h1,_=>by simp[cz]at h1
 | x::a,y::b,[],_,h2=>by simp[cz]at h2
 | x::a,y::b,z::c,h1,h2=>by
  unfold cz at h1 h2 ⊢
  by_cases hxy:x=y
  ·subst hxy;rw[if_pos rfl]at h1 ⊢
   by_cases hxz:x=z
   ·subst hxz;rw[if_pos rfl]at h2 ⊢;rw[if_pos rfl];exact rA a b c h1 h2
   ·rw[if_neg hxz]at h2 ⊢;rw[if_neg hxz];refine⟨h2,fun e=> ?_⟩
    exfalso
    have:dA x≠dA z:=fun e=>hxz (gF e)
    unfold Lib.compareInt at e
    split at e
    ·omega
    ·split at e<;> omega
  ·rw[if_neg hxy]at h1 ⊢;have n1:dA x≠dA y:=fun e=>hxy (gF e)
   have l1:dA x<dA y:=by
    unfold Lib.compareInt at h1
    split at h1
    ·assumption
    ·split at h1
     ·omega
     ·omega
   by_cases hyz:y=z
   ·subst hyz;rw[if_neg hxy];refine⟨h1,fun e=> ?_⟩
    exfalso
    unfold Lib.compareInt at e;rw[if_pos l1]at e; omega
   ·rw[if_neg hyz]at h2;have n2:dA y≠dA z:=fun e=>hyz (gF e)
    have l2:dA y<dA z:=by
     unfold Lib.compareInt at h2
     split at h2
     ·assumption
     ·split at h2<;> omega
    have n3:x≠z:=fun e=>by subst e; omega
    rw[if_neg n3];unfold Lib.compareInt;rw[if_pos (by omega)];exact⟨by omega,fun e=>by omega⟩
theorem yw : ∀(p q:List UInt8),cz p (p++q)<=0
 | [],[]=>by simp[cz]
 | [],_::_=>by simp[cz]
 | a::p,q=>by rw[List.cons_append,cz,if_pos rfl]; exact yw p q
theorem lX (k n:Nat) (z:Int) (h:z=((k+n:Nat):Int)):UInt8.ofNat k+UInt8.ofNat n=UInt8.ofNat z.toNat:=by
 subst h; rw[Int.toNat_natCast,UInt8.ofNat_add]
theorem wY (r:Nat):(Utf8.encode (r:Int)).data.toList=Lib.encodeRune (r:Int):=by
 unfold Lib.encodeRune
 by_cases c1:r<128
 ·have v:Utf8.valid (r:Int)=true:=by simp[Utf8.valid]; omega
  rw[Lib.encodeRuneZ_one (by omega) (by omega)]; simp[Utf8.encode,v,c1]
 by_cases c2:r<2048
 ·have v:Utf8.valid (r:Int)=true:=by simp[Utf8.valid]; omega
  rw[Lib.encodeRuneZ_two (by omega) (by omega)]; simp[Utf8.encode,v,c1,c2]; exact⟨lX 192 _ _ (by omega),lX 128 _ _ (by omega)⟩
 by_cases hb:(55296<=r/\r<=57343)\/1114111<r
 ·have v:Utf8.valid (r:Int)=false:=by simp[Utf8.valid]; omega
  rw[Lib.encodeRuneZ_bad (by omega)]; simp[Utf8.encode,v,Utf8.runeError]
 by_cases c3:r<65536
 ·have v:Utf8.valid (r:Int)=true:=by simp[Utf8.valid]; omega
  rw[Lib.encodeRuneZ_three (by omega)]; simp[Utf8.encode,v,c1,c2,c3]; exact⟨lX 224 _ _ (by omega),lX 128 _ _ (by omega),lX 128 _ _ (by omega)⟩
 ·have v:Utf8.valid (r:Int)=true:=by simp[Utf8.valid]; omega
  rw[Lib.encodeRuneZ_four (by omega) (by omega)]; simp[Utf8.encode,v,c1,c2,c3]; exact⟨lX 240 _ _ (by omega),lX 128 _ _ (by omega),lX 128 _ _ (by omega),lX 128 _ _ (by omega)⟩
def tL (l:List UInt8):List UInt8:=(bt l).flatMap Lib.encodeRune
theorem tM :tL []=[]:=rfl
theorem vL (l:List UInt8) (h:l≠[]):tL l=Lib.encodeRune ((Lib.decodeL l).1:Int)++tL (l.drop (Lib.decodeL l).2):=by
 unfold tL; rw[vP l h,List.flatMap_cons]
theorem pk (r:Int):(Lib.encodeRune r).length<=4:=by
 have:=(Lib.encodeRuneZ_length r).2; simpa [Lib.encodeRune]using this
theorem yV : ∀(n:Nat) (l:List UInt8),l.length<=n->l.length<=(tL l).length/\(tL l=l<->Lib.validD l=true)
 | 0,l,h=>by
  have:l=[]:=List.eq_nil_of_length_eq_zero (by omega);subst this;exact⟨by simp,by simp[tM,Lib.validD_nil]⟩
 | n+1,l,h=>by
  by_cases hl:l=[]
  ·subst hl;exact⟨by simp,by simp[tM,Lib.validD_nil]⟩
  ·have hw:=gn l hl;obtain⟨ih1,ih2⟩:=yV n (l.drop (Lib.decodeL l).2) (by rw[List.length_drop]; omega);rw[List.length_drop]at ih1;rw[vL l hl,Lib.validD_step l hl]
   by_cases hb:(Lib.decodeL l).1=65533/\(Lib.decodeL l).2=1
   ·have e3:(Lib.encodeRune ((Lib.decodeL l).1:Int)).length=3:=by rw[hb.1]; rfl
    rw[if_pos hb];refine⟨by rw[List.length_append,e3]; omega,⟨fun e=> ?_,fun e=>by cases e⟩⟩;have:=congrArg List.length e;rw[List.length_append,e3]at this;omega
   ·rw[if_neg hb,Lib.encode_decode l hl hb];refine⟨by rw[List.length_append,List.length_take]; omega, ?_⟩;rw[<-ih2]
    constructor
    ·intro e;have h2:l.take (Lib.decodeL l).2++tL (l.drop (Lib.decodeL l).2)=l.take (Lib.decodeL l).2++l.drop (Lib.decodeL l).2:=by rw[List.take_append_drop]; exact e
     exact List.append_cancel_left h2
    ·intro e; rw[e,List.take_append_drop]
theorem Ap (l:List UInt8):(tL l == l)=Lib.validD l:=by
 rw[Bool.eq_iff_iff,beq_iff_eq]; exact(yV l.length l (Nat.le_refl _)).2
theorem um (l:List UInt8):((aF 47 l).length == 1)= !l.contains 47:=by
 by_cases h:(47:UInt8)∈l
 ·obtain⟨p,q,rfl,hp⟩:=rU l 47 h;have:=lP 47 q;rw[fT 47 p q hp];have h2:((p::aF 47 q).length == 1)=false:=by rw[beq_eq_false_iff_ne]; simp; exact eV 47 q
  rw[h2]; simp
 ·rw[et 47 l h]; simp[h]
theorem nW (ps:List (List UInt8)) (p:List UInt8):dp (ps++[p])=if ps=[]then p else dp ps++[47]++p:=by
 cases ps with
 | nil=>simp[dp,Lib.join_one]
 | cons q ps=>
  simp only[List.cons_append,dp,Lib.join_cons,if_neg (List.cons_ne_nil q ps)];have: ∀(l:List (List UInt8)),Lib.joinTail [47] (l++[p])=Lib.joinTail [47] l++47::p:=by
   intro l
   induction l with
   | nil=>simp[Lib.joinTail]
   | cons a l _=>simp only[List.cons_append,Lib.joinTail]; simp
  rw[this]; simp
open Go.RowKit
def bl (s:ByteArray):List UInt8:=s.data.toList
theorem yB (s:ByteArray):s.data.toList=bl s:=rfl
theorem bD (s:ByteArray):s.toList=bl s:=by rw[ByteArray.toList_eq]; rfl
theorem lY (l:List UInt8):bl ⟨l.toArray⟩=l:=by simp[bl]
theorem lr (s:ByteArray):(⟨(bl s).toArray⟩:ByteArray)=s:=by cases s; simp[bl]
theorem ay (s:ByteArray):s.size=(bl s).length:=Lib.size_eq s
theorem kD (s t:ByteArray):bl (s++t)=bl s++bl t:=by simp[bl]
theorem iX (s:ByteArray) (a b:Nat):bl (s.extract a b)=((bl s).take b).drop a:=by unfold bl; rw[Lib.extract_data]; rw[List.drop_take]
theorem iY {s t:ByteArray} (h:bl s=bl t):s=t:=by rw[<-lr s,<-lr t,h]
def fB (S:Nat->Prop) (w w':World):Prop:= ∀k,S k->w'.heap[k]? =w.heap[k]?
theorem fB.refl (S:Nat->Prop) (w:World):fB S w w:=fun _ _=>rfl
theorem fB.trans {S:Nat->Prop} {a b c:World} (h:fB S a b) (k:fB S b c):fB S a c:=fun i hi=>(k i hi).trans (h i hi)
theorem fB.cell {S:Nat->Prop} {w w':World} (h:fB S w w') {a:Addr} (ha:S a.block):w'.cell? a=w.cell? a:=World.cell?_of_block (h a.block ha)
theorem fB.mono {S T:Nat->Prop} {w w':World} (h:fB S w w') (hT: ∀k,T k->S k):fB T w w':=fun k hk=>h k (hT k hk)
theorem aE {w:World} {a:Addr} {v:Value} (h:w.cell? a=some v):a.block<w.heap.size:=by
 rcases Nat.lt_or_ge a.block w.heap.size with h' | h'
 ·exact h'
 ·simp[World.cell?,Array.getElem?_eq_none h']at h
def aS (S:Nat->Prop) (w:World) (sz:Nat) (v:Value) (n:Nat) (cells:List Value):Prop:=
 cells.length=n*sz/\ ∃a cap,v= .slice a n cap/\n<=cap/\cap<=maxLen/\
  (n=0\/ ∃b o,a=some ⟨b,o,none⟩/\S b/\ ∀(j:Nat) u,cells[j]? =some u->w.cell? ⟨b,o+j,none⟩=some u)
theorem aS.same {S:Nat->Prop} {w w':World} {sz:Nat} {v:Value} {n:Nat} {cells:List Value} (h:aS S w sz v n cells) (hs:fB S w w'):aS S w' sz v n cells:=by
 obtain⟨hl,a,cap,hv,hn,hm,h0⟩:=h;refine⟨hl,a,cap,hv,hn,hm, ?_⟩
 rcases h0 with h0 | ⟨b,o,ha,hb,hc⟩
 ·exact .inl h0
 ·exact .inr ⟨b,o,ha,hb,fun j u hu=>(hs.cell (a:=⟨b,o+j,none⟩) hb).trans (hc j u hu)⟩
theorem aS.mono {S T:Nat->Prop} {w:World} {sz:Nat} {v:Value} {n:Nat} {cells:List Value} (h:aS S w sz v n cells) (hs: ∀k,k<w.heap.size->S k->T k):0<sz->aS T w sz v n cells:=by
 intro hsz;obtain⟨hl,a,cap,hv,hn,hm,h0⟩:=h;refine⟨hl,a,cap,hv,hn,hm, ?_⟩
 rcases h0 with h0 | ⟨b,o,ha,hb,hc⟩
 ·exact .inl h0
 ·rcases Nat.eq_zero_or_pos n with h | h
  ·exact .inl h
  ·refine .inr ⟨b,o,ha,hs b ?_ hb,hc⟩;have:0<cells.length:=by rw[hl]; exact Nat.mul_pos h hsz
   exact aE (a:=⟨b,o+0,none⟩) (hc 0 cells[0] (by simp[this]))
theorem aS.below {S:Nat->Prop} {w w':World} {sz:Nat} {v:Value} {n:Nat} {cells:List Value} (h:aS S w sz v n cells) (hsz:0<sz) (hb:Below w.heap.size w w'):aS S w' sz v n cells:=by
 have h2:=h.mono (T:=fun k=>S k/\k<w.heap.size) (fun k hk hS=>⟨hS,hk⟩) hsz;have h3:=h2.same (w':=w') (fun k hk=>hb.block k hk.2);obtain⟨hl,a,cap,hv,hn,hm,h0⟩:=h3;refine⟨hl,a,cap,hv,hn,hm, ?_⟩
 rcases h0 with h0 | ⟨b,o,ha,hb,hc⟩
 ·exact .inl h0
 ·exact .inr ⟨b,o,ha,hb.1,hc⟩
theorem aS.nil (S:Nat->Prop) (w:World) (sz:Nat):aS S w sz (.slice none 0 0) 0 []:=⟨by simp,none,0,rfl,Nat.le_refl _,by unfold maxLen; omega, .inl rfl⟩
def dH (S:Nat->Prop) (w:World) (v:Value) (xs:List ByteArray):Prop:=aS S w 1 v xs.length (xs.map Value.string)
theorem dH.shape {S:Nat->Prop} {w:World} {v:Value} {xs:List ByteArray} (h:dH S w v xs):
  ∃a cap,v= .slice a xs.length cap/\xs.length<=cap/\cap<=maxLen/\ ∀k x,xs[k]? =some x-> ∃b o,a=some ⟨b,o,none⟩/\S b/\w.cell? ⟨b,o+k,none⟩=some (.string x):=by
 obtain⟨_,a,cap,hv,hn,hm,h0⟩:=h;refine⟨a,cap,hv,hn,hm,fun k x hk=> ?_⟩
 rcases h0 with h0 | ⟨b,o,ha,hb,hc⟩
 ·simp[List.eq_nil_of_length_eq_zero h0]at hk
 ·exact⟨b,o,ha,hb,hc k _ (by simp[hk])⟩
structure jE (w : World) : Prop where
 maxLen: ∃m,w.cell? ⟨0,0,none⟩=some (.int .i64 m)
 tabs:Lib.Utf8Tabs 2 3 w
theorem jE.below {w w':World} (h:jE w) (hb:Below w.heap.size w w'):jE w':=by
 obtain⟨⟨m,hm⟩,ht⟩:=h;exact⟨⟨m,(hb.cell (aE hm)).trans hm⟩,Utf8Tabs_below ht hb⟩
theorem jE.lt {w:World} (h:jE w):0<w.heap.size/\2<w.heap.size/\3<w.heap.size:=by
 obtain⟨⟨m,hm⟩,ht⟩:=h;exact⟨aE hm,aE (ht.1 0 (by omega)),aE (ht.2 0 (by omega)).1⟩
theorem jE.belowB {B:Nat} {w w':World} (h:jE w) (hb:Below B w w') (h0:0<B) (h1:2<B) (h2:3<B):jE w':=by
 obtain⟨⟨m,hm⟩,ht⟩:=h;exact⟨⟨m,(hb.cell h0).trans hm⟩,fun c hc=>(hb.cell (p:=⟨2,c,none⟩) h1).trans (ht.1 c hc),fun i hi=>⟨(hb.cell (p:=⟨3,2*i,none⟩) h2).trans (ht.2 i hi).1,(hb.cell (p:=⟨3,2*i+1,none⟩) h2).trans (ht.2 i hi).2⟩⟩
theorem az {a b:Bool} (h:a=b):Ending.returned (.bool a)= .returned (.bool b):=by rw[h]
theorem bC {k:IntKind} {a b:Int} (h:a=b):Ending.returned (.int k a)= .returned (.int k b):=by rw[h]
theorem ak {w w1 w2:World} (h:Below w.heap.size w w1) (k:Below w1.heap.size w1 w2):Below w.heap.size w w2:=h.trans (k.mono h.size)
theorem eF {P:Program} {f:FuncId} {args:Array Value} {w:World} {n:Nat} {v:Value}
  (h:Calls P f args (w.drewN n) fun e w'=>e= .returned v/\w.drewN n=w'):Calls P f args (w.drewN n) fun e w''=>e= .returned v/\ ∃m,w''=w.drewN m:=
 h.mono fun _ _ ⟨he,hm⟩=>⟨he,n,hm.symm⟩
theorem cu {B:Nat} {a w:World} (h:Below B a w) (n:Nat):Below B a (w.drewN n):=h.trans ⟨rfl,rfl,rfl,Nat.le_refl _,fun _ _=>rfl⟩
theorem mi (s:ByteArray) (c:UInt8) (w:World):
  Calls Tryz.prog 111 #[.string s, .string ⟨#[c]⟩] w fun e w'=>e= .returned (.bool ((bl s).contains c))/\w=w':=
 (Tryz.strings_Contains_one s c w).mono fun _ _ ⟨he,hw⟩=>⟨by rw[he]; exact congrArg _ (congrArg _ (gS (bl s) c)),hw.symm⟩
theorem ou (s:ByteArray) (w:World) (he:jE w) (hs:s.size<=9223372036854775807):
  Calls Tryz.prog 169 #[.string s] w fun e w'=>e= .returned (.bool (Lib.validD (bl s)))/\Below w.heap.size w w':=Tryz.utf8_ValidString s w hs he.tabs
theorem qK (s p:ByteArray) (w:World):
  Calls Tryz.prog 71 #[.string s, .string p] w fun e w'=>e= .returned (.bool (Lib.hasPrefix (bl s) (bl p)))/\w=w':=
 (Tryz.strings_HasPrefix s p w).mono fun _ _ ⟨he,hw⟩=>⟨he,hw.symm⟩
theorem qG (s p:ByteArray) (w:World):
  Calls Tryz.prog 109 #[.string s, .string p] w fun e w'=>e= .returned (.tuple #[.string ⟨(Lib.trimPrefix (bl s) (bl p)).toArray⟩, .bool (Lib.hasPrefix (bl s) (bl p))])/\w=w':=
 (Tryz.strings_CutPrefix s p w).mono fun _ _ ⟨he,hw⟩=>⟨he,hw.symm⟩
theorem qH (s p:ByteArray) (w:World) (hs:s.size<=9223372036854775807):
  Calls Tryz.prog 110 #[.string s, .string p] w fun e w'=>e= .returned (.tuple #[.string ⟨(Lib.trimSuffix (bl s) (bl p)).toArray⟩, .bool (Lib.hasSuffix (bl s) (bl p))])/\w=w':=
 (Tryz.strings_CutSuffix s p w hs).mono fun _ _ ⟨he,hw⟩=>⟨he,hw.symm⟩
theorem jU (x y:Int) (w:World):
  Calls Tryz.prog 101 #[.int .i64 x, .int .i64 y] w fun e w'=>e= .returned (.int .i64 (Lib.compareInt x y))/\w=w':=
 (Tryz.cmp_Compare_int x y w).mono fun _ _ ⟨he,hw⟩=>⟨he,hw.symm⟩
def zn (c:UInt8) (s:ByteArray) (w:World) (e:Ending) (w':World):Prop:=
 ∃xs:List ByteArray,xs.map bl=aF c (bl s)/\e= .returned (.slice (some ⟨w.heap.size,0,none⟩) xs.length xs.length)/\w'=w.alloc (.cells (xs.map Value.string).toArray 9)
theorem no (s:ByteArray) (c:UInt8) (w:World) (he:jE w) (hs:s.size<4294967281):
  Calls Tryz.prog 70 #[.string s, .string ⟨#[c]⟩] w (zn c s w):=by
 obtain⟨m,hm⟩:=he.maxLen;refine(Tryz.strings_Split s ⟨#[c]⟩ m w hs hm (by simp[ByteArray.size])).mono fun e w' ⟨h1,h2⟩=> ?_
 refine⟨Lib.splitB ⟨#[c]⟩ 0 (Lib.countB s ⟨#[c]⟩) s,Bf c s, ?_,h2⟩;rw[xU]; exact h1
def gD (l:List UInt8):Int:=if 47∈l then((bb l).length:Int)else -1
theorem FL (c:UInt8) (h:(c.toNat:Int)=47):c=47:=by
 apply UInt8.toNat_inj.1
 have:c.toNat=47:=by omega
 rw[this]; rfl
theorem tC (s:ByteArray):Lib.lastIndexByte s 47=gD (bl s):=by
 unfold Lib.lastIndexByte;have get: ∀j,(hj:j<(bl s).length)->s.data[j]! =(bl s)[j]:=fun j hj=>by
  have h2:j<s.data.size:=by rw[<-ay]at hj; exact hj
  rw[getElem!_pos s.data j h2];exact(Array.getElem_toList (xs:=s.data) h2).symm
 rw[ay]
 generalize hl:bl s=l at *
 rcases Lib.lastIdx_spec s 47 l.length with⟨h1,h2⟩ | ⟨i,h1,h2,h3,h4⟩
 ·rw[h1];have:47∉l:=by
   intro hm;obtain⟨j,hj,e⟩:=List.getElem_of_mem hm;refine h2 j hj ?_;rw[get j hj,e]; rfl
  simp[gD,this]
 ·have e:l=l.take i++47::l.drop (i+1):=by
   have:=FL _ h3;rw[get i h1]at this;rw[<-this]; simp
  have hq:47∉l.drop (i+1):=by
   intro hm;obtain⟨j,hj,e⟩:=List.getElem_of_mem hm;rw[List.length_drop]at hj;refine h4 (i+1+j) (by omega) (by omega) ?_;rw[get _ (by omega)];rw[List.getElem_drop]at e;rw[e]; rfl
  have hp:bb l=l.take i:=by
   have:=ip (l.take i) _ hq;rw[<-e]at this; exact this
  have hm:47∈l:=by rw[e]; simp
  rw[h2,gD,if_pos hm,hp,List.length_take]
  congr 1; omega
theorem qP (s:ByteArray) (w:World) (hs:s.size<4611686018427387904):
  Calls Tryz.prog 102 #[.string s, .string ⟨#[47]⟩] w fun e w'=>e= .returned (.int .i64 (gD (bl s)))/\w=w':=
 (Tryz.strings_LastIndex_one s ⟨#[47]⟩ rfl hs w).mono fun _ _ ⟨he,hw⟩=>⟨by rw[he]; exact congrArg _ (congrArg _ (tC s)),hw.symm⟩
theorem Dv {s:ByteArray} {p q:Nat} (h: ∀j,j<p->j<s.size->32<=(s.get! j).toNat) (h2: ∀j,p<=j->j<q->128<=(s.get! j).toNat): ∀j,j<q->j<s.size->32<=(s.get! j).toNat:=by
 intro j hj hs
 rcases Nat.lt_or_ge j p with h' | h'
 ·exact h j h' hs
 ·have:=h2 j h' hj; omega
theorem lI (s:ByteArray) (j:Nat) (h:j<s.size):s.get! j=(bl s)[j]'(by rw[<-ay]; exact h):=by
 have e:s.get! j=s.data[j]! :=rfl;have h2:j<s.data.size:=h;rw[e,getElem!_pos s.data j h2];simp[bl]
theorem yO {s:ByteArray} (h: ∀j,j<s.size->32<=(s.get! j).toNat):kM (bl s)=true:=by
 unfold kM;rw[List.all_eq_true];intro c hc;obtain⟨j,hj,rfl⟩:=List.getElem_of_mem hc;have hj2:j<s.size:=by rw[ay]; exact hj
 have:=h j hj2;rw[lI s j hj2]at this
 simpa using this
theorem vj {s:ByteArray} {j:Nat} (hj:j<s.size) (h:(s.get! j).toNat<32):kM (bl s)=false:=by
 unfold kM;rw[List.all_eq_false];rw[lI s j hj]at h;exact⟨(bl s)[j]'(by rw[<-ay]; exact hj),List.getElem_mem _,by rw[decide_eq_true_eq]; omega⟩
theorem pf (s:ByteArray) (pos:Nat) (h:pos<s.size):
  ((s.get! pos).toNat<128/\Utf8.decode s pos=((s.get! pos).toNat,1))\/(128<=(s.get! pos).toNat/\128<=(Utf8.decode s pos).1):=by
 have e:=get_at s pos h;rw[Nat.add_zero]at e
 rcases Nat.lt_or_ge (s.get! pos).toNat 128 with h1 | h1
 ·exact .inl ⟨h1,by rw[decode_ascii s pos h (by rw[<-e]; exact h1),<-e]⟩
 ·exact .inr ⟨h1,(decode_high s pos h (by rw[<-e]; exact h1)).1⟩
theorem lJ (s:ByteArray) (w:World) (he:jE w) (hs:s.size<=9223372036854775807):
  Calls Tryz.prog 138 #[.string s] w fun e w'=>e= .returned (.bool (lx (bl s)))/\Below w.heap.size w w':=by
 have HE:=ab he;clear he
 go_enter Tryz.func138,Tryz.ntmps138
 go_wp2
 go_loopw [4] (fun _ wr=> ∃pos:Nat,wr=w.iter s pos/\ ∀j,j<pos->j<s.size->32<=(s.get! j).toNat) (fun _ wr=>s.size-wr.iterPos w.heap.size)
 case atStart=>exact⟨0,rfl,fun j hj=>by omega⟩
 case round=>
  obtain⟨pos,rfl,hlow⟩:=hrel;have HL:=ab hlow;clear hlow
  by_cases hp:pos<s.size
  ·have hnx: ∀ty,(Instr.next (.pointer (some ⟨w.heap.size,0,none⟩)) true ty).run Tryz.prog (w.iter s pos)=_:=fun ty=>run_next_any w s pos ty hp
   go_wp2
   ·go_ret;refine⟨az ?_,(Below.refl _ _).alloc (Nat.le_refl _) _⟩;have hlt:((Utf8.decode s pos).1:Int)<32:=by assumption
    have hd:=pf s pos hp;have hd2:(s.get! pos).toNat<32:=by
     rcases hd with⟨_,h2⟩ | ⟨_,h2⟩
     ·rw[h2]at hlt; simp only at hlt; omega
     ·omega
    simp[lx,vj hp hd2]
   ·go_roundw
    case rel=>
     refine⟨pos+(Utf8.decode s pos).2,rfl, ?_⟩;have hge:(32:Int)<=(Utf8.decode s pos).1:=by assumption
     rcases pf s pos hp with⟨h1,h2⟩ | ⟨h1,h2⟩
     ·intro j hj hjs;rw[h2]at hge hj
      rcases Nat.lt_or_ge j pos with h3 | h3
      ·exact HL.out j h3 hjs
      ·rw[show j=pos by simp at hj; omega]; simp at hge; omega
     ·exact Dv HL.out (ux s pos hp h1).2
    case measure=>
     rw[World.iterPos_iter,World.iterPos_iter];have:=Lib.width_pos s pos;omega
  ·have hnx: ∀ty,(Instr.next (.pointer (some ⟨w.heap.size,0,none⟩)) true ty).run Tryz.prog (w.iter s pos)=_:=fun ty=>run_next_end w s pos ty hp
   go_wp2_with (go_at_call 169; refine(ou s _ (HE.out.below ((Below.refl _ _).alloc (Nat.le_refl _) _)) hs).mono ?_; rintro e w' ⟨rfl,hb⟩);go_ret;refine⟨az ?_,ak ((Below.refl _ _).alloc (Nat.le_refl _) _) hb⟩;simp only[lx,yO (fun j hj=>HL.out j (by omega) hj),Bool.true_and]
theorem jy (s:ByteArray) (w:World) (he:jE w) (hs:s.size<=9223372036854775807):
  Calls Tryz.prog 112 #[.string s] w fun e w'=>e= .returned (.bool (fu (bl s)))/\Below w.heap.size w w':=by
 have HE:=ab he;clear he
 go_enter Tryz.func112,Tryz.ntmps112
 go_wp2_with (first
  | (go_at_call 111; refine(mi _ _ _).mono ?_; rintro e w' ⟨rfl,rfl⟩)
  | (go_at_call 138; refine(lJ _ _ HE.out hs).mono ?_; rintro e w' ⟨rfl,hb⟩))
 all_goals (go_ret; refine⟨az ?_,by first | exact Below.refl _ _ | exact hb⟩)
 all_goals (rw[Bool.eq_iff_iff]; simp_all [fu,bD,ay])
 all_goals first | omega | (intros; omega)
def DT (s:ByteArray) (w:World) (e:Ending) (w':World):Prop:=
 ∃v xs,e= .returned (.tuple #[v, .int .i64 0])/\xs.map bl=aF 47 (bl s)/\dH (w.heap.size<= ·) w' v xs/\Below w.heap.size w w'
def BF (w:World) (e:Ending) (w':World):Prop:=e= .returned (.tuple #[.slice none 0 0, .int .i64 1])/\Below w.heap.size w w'
def BG (s:ByteArray) (w:World) (e:Ending) (w':World):Prop:=(bJ (bl s)=true/\DT s w e w')\/(bJ (bl s)=false/\BF w e w')
theorem mG {w:World} {xs:List Value} {e:TypeId} {k:Nat} {x:Value} (hx:xs[k]? =some x):(w.alloc (.cells xs.toArray e)).cell? ⟨w.heap.size,k,none⟩=some x:=by
 have h:=heap_alloc_new w (.cells xs.toArray e);simp only[World.cell?,h];simp[hx]
theorem tD {xs:List ByteArray} {k:Nat} {x:ByteArray} (hx:xs[k]? =some x):(xs.map Value.string)[k]? =some (.string x):=by simp[hx]
theorem Bg {xs:List ByteArray} {s:ByteArray} (hx:xs.map bl=aF 47 (bl s)) (h1:(bl s).length<=512) (h2:xs.length<=16) (h: ∀(j:Nat) x,j<xs.length->xs[j]? =some x->fu (bl x)=true):bJ (bl s)=true:=by
 have hl:(aF 47 (bl s)).length=xs.length:=by rw[<-hx]; simp
 have ha:(aF 47 (bl s)).all fu=true:=by
  rw[<-hx,List.all_map,List.all_eq_true];intro x hm;obtain⟨j,hj,rfl⟩:=List.getElem_of_mem hm;exact h j _ hj (by simp)
 simp[bJ,h1,hl,h2,ha]
theorem sE {xs:List ByteArray} {s:ByteArray} {j:Nat} {x:ByteArray} (hx:xs.map bl=aF 47 (bl s)) (h:xs[j]? =some x) (hc:fu (bl x)=false):bJ (bl s)=false:=by
 have ha:(aF 47 (bl s)).all fu=false:=by
  rw[<-hx,List.all_map,List.all_eq_false];exact⟨x,List.mem_of_getElem? h,by simp[hc]⟩
 simp[bJ,ha]
theorem Bh {xs:List ByteArray} {s:ByteArray} (hx:xs.map bl=aF 47 (bl s)) (h: ¬xs.length<=16):bJ (bl s)=false:=by
 have hl:(aF 47 (bl s)).length=xs.length:=by rw[<-hx]; simp
 simp[bJ,hl,h]
theorem xX {s:ByteArray} (h: ¬(bl s).length<=512):bJ (bl s)=false:=by simp[bJ,h]
theorem gz (c:UInt8) (l:List UInt8): ∀p∈aF c l,p.length<=l.length:=by
 induction l with
 | nil=>simp[aF]
 | cons b l ih=>
  unfold aF
  split
  ·intro p hp; rcases List.mem_cons.1 hp with rfl | hp
   ·simp
   ·have:=ih p hp; simp; omega
  ·split
   ·rename_i h t e;rw[e]at ih;intro p hp; rcases List.mem_cons.1 hp with rfl | hp
    ·have:=ih h (by simp); simp; omega
    ·have:=ih p (by simp[hp]); simp; omega
   ·intro p hp; simp at hp; simp[hp]
theorem kQ {xs:List ByteArray} {s:ByteArray} {c:UInt8} {j:Nat} {x:ByteArray} (hx:xs.map bl=aF c (bl s)) (h:xs[j]? =some x):x.size<=s.size:=by
 rw[ay,ay];exact gz c (bl s) (bl x) (by rw[<-hx]; exact List.mem_map.2 ⟨x,List.mem_of_getElem? h,rfl⟩)
theorem Dr {w w':World} {xs:List ByteArray} {e:TypeId} (hl:xs.length<=maxLen) (hb:Below (w.heap.size+1) (w.alloc (.cells (xs.map Value.string).toArray e)) w'):
  dH (w.heap.size<= ·) w' (.slice (some ⟨w.heap.size,0,none⟩) xs.length xs.length) xs:=by
 refine⟨by simp,some ⟨w.heap.size,0,none⟩,xs.length,rfl,Nat.le_refl _,hl, .inr ⟨w.heap.size,0,rfl,Nat.le_refl _,fun j u hu=> ?_⟩⟩;rw[hb.cell (p:=⟨w.heap.size,0+j,none⟩) (by simp),Nat.zero_add];exact mG hu
theorem nV (s:ByteArray) (w:World) (he:jE w):Calls Tryz.prog 73 #[.string s] w (BG s w):=by
 have HE:=ab he;clear he
 by_cases h5:s.size<=512
 ·go_enter Tryz.func73,Tryz.ntmps73
  go_wp2_with fail;refine(no s 47 w HE.out (by omega)).mono ?_;rintro e w' ⟨xs,hx,rfl,rfl⟩;have hxl:xs.length<=513:=by
   have h1:(aF 47 (bl s)).length=xs.length:=by rw[<-hx]; simp
   have h2:=dY 47 (bl s);rw[<-ay]at h2;omega
  have HX:=ab hx;clear hx
  by_cases h16:xs.length<=16
  ·go_wp2_with fail
   go_loopw [17] (fun i wr=> ∃k:Nat,k<=xs.length/\i= .int .i64 k/\Below (w.heap.size+1) (w.alloc (.cells (xs.map Value.string).toArray 9)) wr/\ ∀(j:Nat) x,j<k->xs[j]? =some x->fu (bl x)=true) (fun i _=>xs.length-(intOf i).toNat)
   case atStart=>exact⟨0,Nat.zero_le _,rfl,Below.refl _ _,fun j x hj=>by omega⟩
   case round=>
    obtain⟨k,hk,rfl,hb,hall⟩:=hrel;have HA:=ab hall;clear hall
    by_cases hlt:k<xs.length
    ·obtain⟨x,hx⟩: ∃x,xs[k]? =some x:=⟨xs[k],by simp[hlt]⟩;have hcell:wr.cell? ⟨w.heap.size,k,none⟩=some (.string x):=(hb.cell (p:=⟨w.heap.size,k,none⟩) (by simp)).trans (mG (tD hx));have hxs:x.size<=9223372036854775807:=by have:=kQ HX.out hx; omega
     have HK:=ab hx;have HB:=ab hb;clear hx hb
     cases hc:fu (bl x)
     ·have HC:=ab hc;clear hc;go_wp2_with (go_at_call 112; refine(jy x wr (HE.out.below (ak ((Below.refl _ _).alloc (Nat.le_refl _) _) (by simpa using HB.out))) hxs).mono ?_; rintro e w' ⟨rfl,hb2⟩; rw[HC.out])
      go_ret2
      refine .inr ⟨sE HX.out HK.out HC.out,rfl, ?_⟩;exact ak (ak ((Below.refl _ _).alloc (Nat.le_refl _) _) (by simpa using HB.out)) hb2
     ·have HC:=ab hc;clear hc;go_wp2_with (go_at_call 112; refine(jy x wr (HE.out.below (ak ((Below.refl _ _).alloc (Nat.le_refl _) _) (by simpa using HB.out))) hxs).mono ?_; rintro e w' ⟨rfl,hb2⟩; rw[HC.out])
      go_roundw
      case rel=>
       refine⟨k+1,by omega,by go_num,HB.out.trans (hb2.mono (by have:=HB.out.size; simpa using this)),fun j x' hj hx'=> ?_⟩
       rcases Nat.lt_or_ge j k with h | h
       ·exact HA.out j x' h hx'
       ·obtain rfl:j=k:=by omega
        have:=HK.out.symm.trans hx'
        cases this
        exact HC.out
      case measure=>simp[intOf]; omega
    ·have HB:=ab hb;clear hb
     go_wp2
     go_ret2
     refine .inl ⟨Bg HX.out (by rw[<-ay]; exact h5) h16 (fun j x hj hx=>HA.out j x (by omega) hx),_,xs,rfl,HX.out,Dr (by unfold maxLen; omega) HB.out, ?_⟩;exact ak ((Below.refl _ _).alloc (Nat.le_refl _) _) (by simpa using HB.out)
  ·go_wp2_with fail
   go_ret2
   exact .inr ⟨Bh HX.out h16,rfl,(Below.refl _ _).alloc (Nat.le_refl _) _⟩
 ·go_enter Tryz.func73,Tryz.ntmps73
  go_wp2_with fail
  go_ret2
  exact .inr ⟨xX (by rw[<-ay]; exact h5),rfl,Below.refl _ _⟩
theorem sJ (s:ByteArray) (w:World) (he:jE w):
  Calls Tryz.prog 98 #[.string s] w fun e w'=>e= .returned (.bool (bJ (bl s)))/\Below w.heap.size w w':=by
 go_enter Tryz.func98,Tryz.ntmps98
 go_wp2_with fail;refine(nV s w he).mono ?_;rintro e w' (⟨hv,v,xs,rfl,-,-,hb⟩ | ⟨hv,rfl,hb⟩)
 ·go_wp2
  go_ret;exact⟨az (by rw[hv]),hb⟩
 ·go_wp2
  go_ret;exact⟨az (by rw[hv]),hb⟩
def gu (c:Int):Int:=if c=47 then -1 else c
theorem CW (c:Int) (w:World) (h0:0<=c) (h1:c<=255):Calls Tryz.prog 100 #[.int .u8 c] w fun e w'=>e= .returned (.int .i64 (gu c))/\w=w':=by
 by_cases h:c=47
 ·subst h
  go_enter Tryz.func100,Tryz.ntmps100
  go_wp2
  go_ret;exact⟨rfl,rfl⟩
 ·have hr:gu c=c:=if_neg h;have HR:=ab hr;clear hr;have h2:(c == 47)=false:=by simpa using h
  go_enter Tryz.func100,Tryz.ntmps100
  go_wp2
  go_ret;exact⟨bC HR.out.symm,rfl⟩
theorem Ee (l r:List UInt8) (h:l=[]\/r=[]):cz l r=Lib.compareInt (l.length:Int) r.length:=by
 rcases h with rfl | rfl
 ·cases r
  ·simp[cz,Lib.compareInt]
  ·rw[cz,Lib.compareInt,if_pos (by simp<;> omega)]
 ·cases l
  ·simp[cz,Lib.compareInt]
  ·rw[cz,Lib.compareInt,if_neg (by simp<;> omega),if_pos (by simp<;> omega)]
theorem oY (x y:Int) (k:Int):Lib.compareInt (x-k) (y-k)=Lib.compareInt x y:=by
 unfold Lib.compareInt;have h1:(x-k<y-k)<->(x<y):=by omega
 have h2:(x-k>y-k)<->(x>y):=by omega
 simp only[h1,h2]
theorem ow {l r:List UInt8} {k:Nat} (hk1:k<=l.length) (hk2:k<=r.length) (h:k=l.length\/k=r.length):cz (l.drop k) (r.drop k)=Lib.compareInt (l.length:Int) r.length:=by
 rw[Ee _ _ (by rcases h with rfl | rfl<;> simp)];rw[List.length_drop,List.length_drop,<-oY (l.length:Int) r.length k]
 congr 1<;> omega
theorem ul {l r:List UInt8} {k:Nat} (hl:k<l.length) (hr:k<r.length) (h:l[k]=r[k]):cz (l.drop k) (r.drop k)=cz (l.drop (k+1)) (r.drop (k+1)):=by
 rw[List.drop_eq_getElem_cons hl,List.drop_eq_getElem_cons hr,cz,if_pos h]
theorem oX {l r:List UInt8} {k:Nat} (hl:k<l.length) (hr:k<r.length) (h:l[k]≠r[k]):cz (l.drop k) (r.drop k)=Lib.compareInt (dA l[k]) (dA r[k]):=by
 rw[List.drop_eq_getElem_cons hl,List.drop_eq_getElem_cons hr,cz,if_neg h]
theorem eO (s:ByteArray) (k:Nat) (h:k<s.size):s[k]=(bl s)[k]'(by rw[<-ay]; exact h):=by
 exact(Array.getElem_toList (xs:=s.data) h).symm
theorem mE (c:UInt8):gu c.toNat=dA c:=by
 unfold gu dA
 by_cases h:c=47
 ·subst h; rfl
 ·rw[if_neg h,if_neg];intro e; apply h; apply UInt8.toNat_inj.1; have:c.toNat=47:=by omega
  rw[this]; rfl
theorem uo (a b:ByteArray) (w:World) (ha:a.size<=9223372036854775807):
  Calls Tryz.prog 65 #[.string a, .string b] w fun e w'=>e= .returned (.int .i64 (cz (bl a) (bl b)))/\Below w.heap.size w w':=by
 go_enter Tryz.func65,Tryz.ntmps65
 go_wp2_with fail;obtain⟨m,hm⟩: ∃m:Nat,min (a.size:Int) (b.size:Int)=m:=⟨min a.size b.size,by omega⟩;have hm1:m<=a.size:=by omega
 have hm2:m<=b.size:=by omega
 have hm3:m=a.size\/m=b.size:=by omega
 rw[hm];have HM:=ab hm3;clear hm hm3
 go_loopw [12] (fun i wr=> ∃k:Nat,k<=m/\i= .int .i64 k/\Below w.heap.size w wr/\cz (bl a) (bl b)=cz ((bl a).drop k) ((bl b).drop k)) (fun i _=>m-(intOf i).toNat)
 case atStart=>exact⟨0,Nat.zero_le _,rfl,Below.refl _ _,rfl⟩
 case round=>
  obtain⟨k,hk,rfl,hbw,hc⟩:=hrel;have HC:=ab hc;have HB:=ab hbw;clear hc hbw
  by_cases hlt:k<m
  ·have h1:(k:Int)<(a.size:Int):=by omega
   have h2:(k:Int)<(b.size:Int):=by omega
   have h3:k<a.size:=by omega
   have h4:k<b.size:=by omega
   by_cases hq:a[k]=b[k]
   ·have hq2:(((a[k]).toNat:Int) != (b[k]).toNat)=false:=by simp[hq]
    have HQ:=ab hq;clear hq;go_wp2_with fail
    go_quiet (fail)
    go_wp2_with fail
    go_roundw
    case rel=>
     refine⟨k+1,by omega,by go_num,cu HB.out nq, ?_⟩;rw[HC.out];refine ul (by rw[<-ay]; exact h3) (by rw[<-ay]; exact h4) ?_;rw[<-eO,<-eO]; exact HQ.out
    case measure=>simp[intOf]; omega
   ·have hq2:(((a[k]).toNat:Int) != (b[k]).toNat)=true:=by
     rw[bne_iff_ne]; intro e; apply hq; exact UInt8.toNat_inj.1 (by omega)
    have HQ:=ab hq;clear hq;go_wp2_with fail
    go_quiet (fail)
    go_wp2_with fail;have hW: ∃W,W=wr.drewN nq/\Below w.heap.size w W:=⟨_,rfl,cu HB.out nq⟩;obtain⟨W,hWe,hWb⟩:=hW;rw[<-hWe];have HB2:=ab hWb;clear hWe hWb HB;have hr1:=(a[k]).toNat_lt;have hr2:=(b[k]).toNat_lt
    go_quiet ((first | (go_at_call 100; refine eF (CW _ _ (by omega) (by omega))) | (go_at_call 101; refine eF (jU _ _ _))))
    go_wp2_with fail;go_ret;refine⟨bC ?_,cu HB2.out _⟩;rw[mE,mE,HC.out,oX (by rw[<-ay]; exact h3) (by rw[<-ay]; exact h4) (by rw[<-eO,<-eO]; exact HQ.out),<-eO,<-eO]
  ·go_wp2_with (go_at_call 101; refine(jU _ _ _).mono ?_; rintro e w' ⟨rfl,rfl⟩);go_ret;refine⟨bC ?_,HB.out⟩;have hM:=HM.out;rw[HC.out,ow (by rw[<-ay]; omega) (by rw[<-ay]; omega) (by rw[<-ay,<-ay]; omega),<-ay,<-ay]
theorem xA (s:ByteArray) (w:World) (he:jE w) (hv:bJ (bl s)=true):
  Calls Tryz.prog 66 #[.string s] w fun e w'=>e= .returned (.tuple #[.string ⟨(bb (bl s)).toArray⟩, .bool true])/\Below w.heap.size w w':=by
 have HV:=ab hv;have h5:s.size<=512:=by simp only[bJ,Bool.and_eq_true,decide_eq_true_eq]at hv; rw[ay]; exact hv.1.1
 have hl:(bb (bl s)).length<=s.size:=by rw[mC,List.length_take,ay]; omega
 clear hv
 go_enter Tryz.func66,Tryz.ntmps66
 go_wp2_with fail;refine(sJ s w he).mono ?_;rintro e w1 ⟨rfl,hb1⟩;rw[HV.out];have HB1:=ab hb1;clear hb1;go_wp2_with fail;refine(qP s w1 (by omega)).mono ?_;rintro e w2 ⟨rfl,rfl⟩;obtain⟨n,hn⟩: ∃n:Nat,n=(bb (bl s)).length:=⟨_,rfl⟩;have hmax:max (gD (bl s)) 0=(n:Int):=by
  unfold gD
  split
  ·omega
  ·rename_i h; rw[hn,jk _ h]; rfl
 have hle:n<=s.size:=by omega
 have HN:=ab hn;clear hn hl;go_wp2_with fail
 go_ret2
 refine⟨?_,HB1.out⟩;have e:s.extract 0 n=⟨(bb (bl s)).toArray⟩:=iY (by rw[iX,lY (bb (bl s)),HN.out,List.drop_zero,<-mC]);rw[<-e]; rfl
structure bG where
 path:ByteArray
 kind:Int
 mode:Int
 time:Int
 data:List UInt8
 link:ByteArray
deriving DecidableEq
def jp (l:List UInt8):Bool:=decide (1<=l.length) && decide (l.length<=512) && !l.contains 0
def ez (e:bG):Bool:=
 if e.kind=1 then decide (e.data.length<=1048576) && decide (e.link.size=0)
 else if e.kind=2 then decide (e.data.length=0) && decide (e.link.size=0)
 else if e.kind=3 then decide (e.data.length=0) && jp (bl e.link)
 else false
def iB (e:bG):Bool:=decide (0<=e.mode) && decide (e.mode<=511) && decide (0<=e.time)
def cC (e:bG):Bool:=bJ (bl e.path) && iB e && ez e
def ew (L:List bG) (p:ByteArray):Option bG:=L.find? fun e=>decide (e.path=p)
def gx (L:List bG) (p:List UInt8):Int:=if p=[]then 0 else match ew L ⟨p.toArray⟩with
 | none=>4
 | some e=>if e.kind=2 then 0 else 13
def lE (a b:bG):Int:=cz (bl a.path) (bl b.path)
def gJ (pre:List bG) (e:bG):Bool:=match pre.getLast? with
 | none=>true
 | some f=>decide (lE f e<0)
def bY (pre:List bG) (e:bG):Int:=if(cC e && gJ pre e)=true then gx pre (bb (bl e.path))else 1
def iv :List bG->List bG->Int
 | _,[]=>0
 | pre,e::r=>if bY pre e=0 then iv (pre++[e]) r else bY pre e
def cD (L:List bG):Int:=if 4096<L.length then 2 else iv [] L
theorem EP {p:ByteArray} {l:List UInt8} (h:bl p=l):p=⟨l.toArray⟩:=iY (by rw[h]; simp[bl])
theorem BV (a b:bG):lE b a= -lE a b:=yx _ _
theorem rz {a b:bG} :lE a b=0<->a.path=b.path:=by
 unfold lE; rw[me]; exact⟨iY,fun h=>by rw[h]⟩
theorem qF {a b c:bG} (h1:lE a b<0) (h2:lE b c<0):lE a c<0:=by
 obtain⟨h3,h4⟩:=rA (bl a.path) (bl b.path) (bl c.path) (by unfold lE at h1; omega) (by unfold lE at h2; omega)
 rcases Int.lt_or_eq_of_le h3 with h | h
 ·exact h
 ·have:=(h4 h).1; unfold lE at h1; omega
def dO (L:List bG):Prop:=L.Pairwise fun a b=>lE a b<0
theorem dO.nodup {L:List bG} (h:dO L):(L.map bG.path).Nodup:=by
 unfold List.Nodup;rw[List.pairwise_map];exact List.Pairwise.imp (fun h e=>by have:=rz.2 e; omega) h
theorem dO.filter {L:List bG} (h:dO L) (p:bG->Bool):dO (L.filter p):=List.Pairwise.filter p h
theorem lH {L:List bG} {p:ByteArray} {e:bG} (h:ew L p=some e):e∈L/\e.path=p:=by
 unfold ew at h;exact⟨List.mem_of_find?_eq_some h,by have:=List.find?_some h; simpa using this⟩
theorem px {L:List bG} {p:ByteArray} (h:ew L p=none): ∀e∈L,e.path≠p:=by
 unfold ew at h;rw[List.find?_eq_none]at h;intro e he hp;exact h e he (by simp[hp])
theorem zI {L:List bG} (hn:(L.map bG.path).Nodup) {e:bG} (he:e∈L):ew L e.path=some e:=by
 cases h:ew L e.path with
 | none=>exact absurd rfl (px h e he)
 | some f=>
  obtain⟨h1,h2⟩:=lH h;have:f=e:=by
   unfold List.Nodup at hn;rw[List.pairwise_map,List.pairwise_iff_getElem]at hn;obtain⟨i,hi,rfl⟩:=List.getElem_of_mem h1;obtain⟨j,hj,rfl⟩:=List.getElem_of_mem he
   by_cases hij:i=j
   ·subst hij; rfl
   ·exfalso
    rcases Nat.lt_or_gt_of_ne hij with hlt | hlt
    ·exact hn i j hi hj hlt h2
    ·exact hn j i hj hi hlt h2.symm
  rw[this]
structure TOk (L : List bG) : Prop where
 ord:dO L
 val: ∀e∈L,cC e=true
 up: ∀e∈L,gx L (bb (bl e.path))=0
 len:L.length<=4096
theorem TOk.nil :TOk []:=⟨List.Pairwise.nil,by simp,by simp,by simp⟩
theorem TOk.nodup {L:List bG} (h:TOk L):(L.map bG.path).Nodup:=h.ord.nodup
theorem cB {e:bG} (h:cC e=true):bJ (bl e.path)=true:=by
 unfold cC at h; simp only[Bool.and_eq_true]at h; exact h.1.1
theorem DD {l:List UInt8} (h:bJ l=true):l≠[]:=by
 intro e; subst e; exact absurd h (by decide)
theorem qz {l:List UInt8} (h:bJ l=true):l.length<=512:=by
 simp only[bJ,Bool.and_eq_true,decide_eq_true_eq]at h; exact h.1.1
theorem rG {L:List bG} {p:List UInt8} (h:gx L p=0) (hp:p≠[]): ∃f∈L,bl f.path=p/\f.kind=2:=by
 unfold gx at h;rw[if_neg hp]at h
 cases hf:ew L ⟨p.toArray⟩with
 | none=>rw[hf]at h; simp at h
 | some f=>
  rw[hf]at h;simp only at h;obtain⟨h1,h2⟩:=lH hf
  split at h
  ·exact⟨f,h1,by rw[h2]; simp[bl],by assumption⟩
  ·simp at h
theorem mr {L:List bG} (hn:(L.map bG.path).Nodup) {p:List UInt8} (h:p=[]\/ ∃f∈L,bl f.path=p/\f.kind=2):gx L p=0:=by
 unfold gx
 by_cases hp:p=[]
 ·rw[if_pos hp]
 ·rw[if_neg hp]
  rcases h with h | ⟨f,h1,h2,h3⟩
  ·exact absurd h hp
  ·have:f.path=⟨p.toArray⟩:=EP h2;rw[<-this,zI hn h1];simp only[if_pos h3]
theorem gU {l:List UInt8} (h:bJ l=true):(bb l).length<l.length:=by
 by_cases hm:(47:UInt8)∈l
 ·obtain⟨p,t,hq,ht⟩:=lK l hm;have:bb l=p:=by rw[hq]; exact ip p t ht
  rw[this,hq]; simp
 ·rw[jk l hm];have:=DD h
  cases l with
  | nil=>exact absurd rfl this
  | cons=>simp
def Bx (M:List bG) (x:bG):Prop:=bb (bl x.path)=[]\/ ∃f∈M,bl f.path=bb (bl x.path)/\f.kind=2
theorem yg {L:List bG} {x:bG} (h:gx L (bb (bl x.path))=0):Bx L x:=by
 by_cases hp:bb (bl x.path)=[]
 ·exact .inl hp
 ·obtain⟨f,h1,h2,h3⟩:=rG h hp;exact .inr ⟨f,h1,h2,h3⟩
theorem Fl {M:List bG} (hs:dO M) (hv: ∀e∈M,cC e=true) (hu: ∀x∈M,Bx M x) (hl:M.length<=4096):TOk M:=
 ⟨hs,hv,fun e he=>mr hs.nodup (hu e he),hl⟩
theorem TOk.has {L:List bG} (h:TOk L) {e:bG} (he:e∈L):Bx L e:=yg (h.up e he)
theorem vr {l:List UInt8} (h:bb l≠[]): ∃t,l=bb l++47::t:=by
 by_cases hm:(47:UInt8)∈l
 ·obtain⟨p,q,rfl,hq⟩:=lK l hm;exact⟨q,by rw[ip p q hq]⟩
 ·exact absurd (jk l hm) h
theorem rF {L M:List bG} (hm:(M.map bG.path).Nodup) (hs: ∀x∈L,x∈M) {p:List UInt8} (h:gx L p=0):gx M p=0:=by
 by_cases hp:p=[]
 ·exact mr hm (.inl hp)
 ·obtain⟨f,h1,h2,h3⟩:=rG h hp;exact mr hm (.inr ⟨f,hs f h1,h2,h3⟩)
structure Tr (L : List bG) : Prop where
 ord:dO L
 val: ∀e∈L,cC e=true
 up: ∀e∈L,gx L (bb (bl e.path))=0
theorem qU {e f:bG} (hv:cC e=true) (hp:bb (bl e.path)≠[]) (hf:bl f.path=bb (bl e.path)):lE f e<0:=by
 obtain⟨t,ht⟩:=vr hp;have h1:lE f e<=0:=by
  unfold lE;rw[hf,ht];have:=yw (bb (bl e.path)) (47::t);have h2:bb (bb (bl e.path)++47::t)=bb (bl e.path):=by rw[<-ht]
  rw[h2]; exact this
 rcases Int.lt_or_eq_of_le h1 with h | h
 ·exact h
 ·have h2:=rz.1 h;have h3:=gU (cB hv);rw[<-hf,h2]at h3;omega
theorem Tr.pre {L M:List bG} (h:Tr (L++M)):Tr L:=by
 obtain⟨s1,s2,s3⟩:=List.pairwise_append.1 h.ord;refine⟨s1,fun e he=>h.val e (by simp[he]),fun e he=> ?_⟩;have hu:=yg (h.up e (by simp[he]));refine mr (dO.nodup s1) ?_
 rcases hu with hu | ⟨f,h1,h2,h3⟩
 ·exact .inl hu
 ·by_cases hp:bb (bl e.path)=[]
  ·exact .inl hp
  ·right
   have hb:=qU (h.val e (by simp[he])) hp h2
   rcases List.mem_append.1 h1 with h1 | h1
   ·exact⟨f,h1,h2,h3⟩
   ·have h4:=s3 e he f h1;have h5:=BV e f;omega
theorem oH {pre:List bG} (hs:dO pre) {e:bG} :gJ pre e=true<->dO (pre++[e]):=by
 unfold gJ
 cases hl:pre.getLast? with
 | none=>
  rw[List.getLast?_eq_none_iff]at hl;subst hl;simp[dO]
 | some f=>
  obtain⟨ys,hy⟩:=List.getLast?_eq_some_iff.1 hl;simp only[decide_eq_true_eq]
  constructor
  ·intro h;refine List.pairwise_append.2 ⟨hs,by simp,fun a ha b hb=> ?_⟩;simp only[List.mem_singleton]at hb;subst hb;rw[hy]at ha hs
   rcases List.mem_append.1 ha with ha | ha
   ·exact qF ((List.pairwise_append.1 hs).2.2 a ha f (by simp)) h
   ·simp only[List.mem_singleton]at ha; subst ha; exact h
  ·intro h;exact(List.pairwise_append.1 h).2.2 f (by rw[hy]; simp) e (by simp)
theorem jS {pre:List bG} (h:Tr pre) (e:bG):bY pre e=0<->Tr (pre++[e]):=by
 unfold bY
 constructor
 ·intro hc
  split at hc
  ·rename_i hva;rw[Bool.and_eq_true]at hva;have hs:=(oH h.ord).1 hva.2;have hm: ∀x∈pre,x∈pre++[e]:=fun x hx=>by simp[hx]
   refine⟨hs,fun x hx=> ?_,fun x hx=> ?_⟩
   ·rcases List.mem_append.1 hx with hx | hx
    ·exact h.val x hx
    ·simp only[List.mem_singleton]at hx; subst hx; exact hva.1
   ·rcases List.mem_append.1 hx with hx | hx
    ·exact rF hs.nodup hm (h.up x hx)
    ·simp only[List.mem_singleton]at hx; subst hx; exact rF hs.nodup hm hc
  ·simp at hc
 ·intro ht;have hv:=ht.val e (by simp);rw[if_pos (by rw[hv,(oH h.ord).2 ht.ord]; rfl)];refine mr h.ord.nodup ?_
  rcases yg (ht.up e (by simp))with hu | ⟨f,h1,h2,h3⟩
  ·exact .inl hu
  ·rcases List.mem_append.1 h1 with h1 | h1
   ·exact .inr ⟨f,h1,h2,h3⟩
   ·simp only[List.mem_singleton]at h1;subst h1;have:=gU (cB hv);rw[<-h2]at this; omega
theorem oN : ∀ {r pre:List bG},Tr pre->(iv pre r=0<->Tr (pre++r))
 | [],pre,h=>by simp only[iv,List.append_nil]; exact⟨fun _=>h,fun _=>trivial⟩
 | e::r,pre,h=>by
  have h1:=jS h e;rw[iv]
  split
  ·rename_i hc;have:=oN (r:=r) (h1.1 hc);rw[this]; simp
  ·rename_i hc
   constructor
   ·intro h2; exact absurd h2 hc
   ·intro h2;have h3:Tr (pre++[e]):=Tr.pre (M:=r) (by simpa using h2);exact absurd (h1.2 h3) hc
theorem fE {L:List bG} :cD L=0<->TOk L:=by
 unfold cD
 split
 ·rename_i h;exact⟨fun h2=>by simp at h2,fun h2=>by have:=h2.len; omega⟩
 ·rename_i h;rw[oN (r:=L) (pre:=[]) ⟨List.Pairwise.nil,by simp,by simp⟩,List.nil_append];exact⟨fun t=>⟨t.ord,t.val,t.up,by omega⟩,fun t=>⟨t.ord,t.val,t.up⟩⟩
end Go.Proofs.YtnjkpcalgoefhaaGreatDoor
namespace Go.Proofs.YtnjkpcalgoefhaaGreatDoor
theorem wt {l:List UInt8} (h:bJ l=true): ∀p∈aF 47 l,lx p=true/\p≠[]:=by
 simp only[bJ,Bool.and_eq_true,List.all_eq_true]at h;intro p hp;have:=h.2 p hp;simp only[fu,Bool.and_eq_true]at this;exact⟨this.2,by have h1:=this.1.1.1.1.1; simpa using h1⟩
theorem kh (dir:Bool) (parts:List (List UInt8)) (us:List (bd×List aU)): ∀(f n:Nat),cM dir parts us f n=true<-> ∃m,n<=m/\m<n+f/\fy dir parts m us false=true
 | 0,n=>by simp[cM]; intro x h1 h2; omega
 | f+1,n=>by
  rw[cM];have ih:=kh dir parts us f (n+1)
  cases h:fy dir parts n us false
  ·simp only[Bool.false_eq_true,if_false];rw[ih]
   constructor
   ·rintro⟨m,h1,h2,h3⟩; exact⟨m,by omega,by omega,h3⟩
   ·rintro⟨m,h1,h2,h3⟩;refine⟨m, ?_,by omega,h3⟩
    rcases Nat.lt_or_ge n m with h4 | h4
    ·omega
    ·obtain rfl:m=n:=by omega
     rw[h]at h3; cases h3
  ·simp only[if_true,true_iff];exact⟨n,by omega,by omega,h⟩
theorem pE (dir:Bool) (parts:List (List UInt8)) (n:Nat) (hn:n<parts.length): ∀(us:List (bd×List aU)) (b:Bool),fy true parts.dropLast n us b=fy dir parts n us b
 | [],b=>rfl
 | (q,ds)::us,b=>by
  simp only[fy];have e:fj true q ds parts.dropLast n=fj dir q ds parts n:=by
   unfold fj;have ht:parts.dropLast.take n=parts.take n:=by
    rw[List.dropLast_eq_take,List.take_take]; congr 1; omega
   rw[ht];simp[hn]
  rw[e,pE dir parts n hn us]
def wH (parts:List (List UInt8)) (us:List (bd×List aU)):Bool:=cM true parts.dropLast us parts.dropLast.length 1
theorem zp (dir:Bool) (parts:List (List UInt8)) (us:List (bd×List aU)):wH parts us=true<-> ∃m,1<=m/\m<parts.length/\fy dir parts m us false=true:=by
 unfold wH;rw[kh]
 constructor
 ·rintro⟨m,h1,h2,h3⟩;rw[List.length_dropLast]at h2;exact⟨m,h1,by omega,by rw[<-pE dir parts m (by omega)]; exact h3⟩
 ·rintro⟨m,h1,h2,h3⟩;exact⟨m,h1,by rw[List.length_dropLast]; omega,by rw[pE dir parts m h2]; exact h3⟩
theorem BM {dir:Bool} {parts:List (List UInt8)} {us:List (bd×List aU)} (h:wH parts us=true):cM dir parts us parts.length 1=true:=by
 obtain⟨m,h1,h2,h3⟩:=(zp dir parts us).1 h;exact(kh _ _ _ _ _).2 ⟨m,h1,by omega,h3⟩
theorem ki : ∀(ls:List (List UInt8)) (i:Nat) (acc rs:List bd) (n:Int),(∀r∈acc,(bo r).isSome=true)->dn ls i acc=(rs,n,0)->(∀r∈rs,(bo r).isSome=true)/\rs.length<=acc.length+ls.length/\n=0
 | [],i,acc,rs,n,ha,h=>by
  simp only[dn,Prod.mk.injEq]at h;obtain⟨rfl,rfl,_⟩:=h;exact⟨ha,by simp,rfl⟩
 | l::ls,i,acc,rs,n,ha,h=>by
  rw[dn]at h
  split at h
  ·have:=ki ls (i+1) acc rs n ha h;exact⟨this.1,by have:=this.2.1; simp; omega,this.2.2⟩
  ·split at h
   ·simp at h
   ·rename_i r hr
    split at h
    ·simp at h
    ·have hc:(bo r).isSome=true:=by
      unfold cF at hr
      split at hr
      ·cases hr; assumption
      ·cases hr
     have:=ki ls (i+1) (acc++[r]) rs n (fun q hq=>by
      rcases List.mem_append.1 hq with hq | hq
      ·exact ha q hq
      ·simp at hq; subst hq; exact hc) h
     exact⟨this.1,by have:=this.2.1; simp at this ⊢; omega,this.2.2⟩
theorem jV : ∀(rs:List bd),(∀r∈rs,(bo r).isSome=true)-> ∃us,bh rs=some us
 | [],_=>⟨[],rfl⟩
 | r::rs,h=>by
  obtain⟨us,hu⟩:=jV rs (fun q hq=>h q (by simp[hq]));obtain⟨cs,hc⟩:=Option.isSome_iff_exists.1 (h r (by simp));exact⟨(r,cs)::us,by simp[bh,hc,hu]⟩
theorem vt {l:List UInt8} {rs:List bd} {n:Int} (h:cI l=(rs,n,0)):(∃us,bh rs=some us)/\rs.length<=l.length+1/\n=0/\ ∀r∈rs,r.pat.length<=512:=by
 unfold cI at h
 split at h
 ·simp at h
 ·have:=ki _ 0 [] rs n (by simp) h;have hl:=dY 10 l;refine⟨jV rs this.1,by have:=this.2.1; simp at this; omega,this.2.2,fun r hr=> ?_⟩;obtain⟨cs,hc⟩:=Option.isSome_iff_exists.1 (this.1 r hr);unfold bo at hc
  split at hc
  ·cases hc
  ·split at hc
   ·cases hc
   ·unfold iP at hc
    split at hc
    ·cases hc
    ·omega
theorem Ag {l:List UInt8} (h:bJ l=true):(bb l=[]/\(aF 47 l).dropLast=[])\/(bb l≠[]/\bJ (bb l)=true/\aF 47 (bb l)=(aF 47 l).dropLast):=by
 unfold bb dp
 by_cases he:(aF 47 l).dropLast=[]
 ·left; exact⟨by rw[he]; rfl,he⟩
 ·right
  have hs:aF 47 (Lib.join (aF 47 l).dropLast [47])=(aF 47 l).dropLast:=vX 47 _ he (fun p hp=>xW 47 l p (List.dropLast_subset _ hp));have hne:Lib.join (aF 47 l).dropLast [47]≠[]:=by
   intro e;rw[e]at hs;have h1:aF 47 []=[[]]:=rfl;rw[h1]at hs;have:=(wt h [] (List.dropLast_subset _ (by rw[<-hs]; simp))).2;exact this rfl
  refine⟨hne, ?_,hs⟩;have hp:=h;simp only[bJ,Bool.and_eq_true,decide_eq_true_eq,List.all_eq_true]at hp ⊢;rw[hs];refine⟨⟨?_,by rw[List.length_dropLast]; omega⟩,fun p hp'=>hp.2 p (List.dropLast_subset _ hp')⟩;have hl:(Lib.join (aF 47 l).dropLast [47]).length<=(Lib.join (aF 47 l) [47]).length:=by
   have e:=List.dropLast_concat_getLast (eV 47 l);have e2:=nW (aF 47 l).dropLast ((aF 47 l).getLast (eV 47 l));rw[e]at e2;unfold dp at e2;rw[e2,if_neg he];simp
  rw[nO]at hl;omega
open Go
section
variable {P : Program} {ops : Array Oper} {md : Region.Mode} {w : World}
def wU (md:Region.Mode) (ops:Array Oper) (m:Nat):Bool:=
 ((List.range m).all fun i=>decide (ops.size<=m) || (List.range (m+1)).any fun j=>decide (i<j) && Region.waitsFor md ops j i) &&
 ((List.range ops.size).all fun t=>decide (t<=m) || (List.range t).any fun u=>decide (m<=u) && Region.waitsFor md ops t u)
theorem mW {m:Nat} {listed:Array Bool} (hc:wU md ops m=true) (inv:HeadInv md ops m listed):
  ∀(d i:Nat),m-i=d->i<m->listed.getD i true=false-> ∀t,m<=t->t∉Region.ready md ops listed:=by
 simp only[wU,Bool.and_eq_true]at hc;obtain⟨hs,hch⟩:=hc;intro d
 induction d using Nat.strongRecOn with
 | _ d ih=>
  intro i hd hi hun t ht hr;obtain⟨_,ot,hot,hall⟩:=mem_ready.1 hr;have htlt:t<ops.size:=(Array.getElem?_eq_some_iff.1 hot).1
  rcases Nat.lt_or_ge m t with htm | htm
  ·have h1:=List.all_eq_true.1 hch t (List.mem_range.2 htlt);simp only[Bool.or_eq_true,decide_eq_true_eq]at h1
   rcases h1 with h1 | h1
   ·omega
   ·obtain⟨u,hu,hu2⟩:=List.any_eq_true.1 h1;simp only[Bool.and_eq_true,decide_eq_true_eq]at hu2;obtain⟨o',ho',e,he,hb,hon⟩:=Region.waitsFor_spec hu2.2;have ho:o'=ot:=Option.some.inj (ho'.symm.trans hot);subst ho;have h2:=hall e he hb;rw[hon,getD_both (inv.tail u hu2.1 (by have:=List.mem_range.1 hu; omega))]at h2
    cases h2
  ·have htm':t=m:=by omega
   subst htm';have h1:=List.all_eq_true.1 hs i (List.mem_range.2 hi);simp only[Bool.or_eq_true,decide_eq_true_eq]at h1
   rcases h1 with h1 | h1
   ·omega
   ·obtain⟨j,hj,hj2⟩:=List.any_eq_true.1 h1;simp only[Bool.and_eq_true,decide_eq_true_eq]at hj2;obtain⟨oj,hoj,e,he,hb,hon⟩:=Region.waitsFor_spec hj2.2;have hjle:=List.mem_range.1 hj
    rcases Nat.lt_or_ge j t with hjt | hjt
    ·cases hl:listed.getD j false with
     | true=>
      have h2:=inv.closed j oj hoj hl e he hb;rw[hon,getD_both hun]at h2
      cases h2
     | false=>
      exact ih (t-j) (by omega) j rfl hjt (getD_in (by rw[inv.size]; omega) hl) t (Nat.le_refl _) hr
    ·have hjt':j=t:=by omega
     subst hjt';have ho:oj=ot:=Option.some.inj (hoj.symm.trans hot);subst ho;have h2:=hall e he hb;rw[hon,getD_both hun]at h2
     cases h2
theorem AW {m i:Nat} {oi:Oper} {v:Value} {L:Array Bool->Act->Prop} (hi:ops[i]? =some oi) (hsel: ∀(j:Nat) (o:Oper) cs b,ops[j]? =some o->o.op≠ .select cs b)
  (hc:wU md ops m=true) (hin:i<m) (hdone: ∀listed a,L listed a-> ∀j∈Region.ready md ops listed,m<=j):
  ∀(f:Nat) (listed:Array Bool) (a:Act),HeadInv md ops m listed->
   (∀j oj,ops[j]? =some oj->j≠i->listed.getD j true=false->(∀e∈oj.after,Region.binds md e=true->e.on≠i)->oi.apart ops oj=true)->
   i∈Region.ready md ops listed->YieldsAt P ops w oi v a->
   wpAnyL P md ops w m L f (listed.setIfInBounds i true) (a.put oi.dst v)->wpAnyL P md ops w m L (f+1) listed a:=by
 intro f
 induction f with
 | zero=>
  intro listed a inv _ hr hy H;have hun:=(mem_ready.1 hr).1;refine⟨List.ne_nil_of_mem hr,fun j hj=> ?_⟩;have hjm:j<m:=Nat.lt_of_not_le fun h=>mW hc inv _ i rfl hin hun j h hj
  refine⟨hjm, ?_⟩
  by_cases hji:j=i
  ·subst hji; exact hy.stOp hi H
  ·have:=hdone _ _ H j (ready_mono hj hji);omega
 | succ f ih=>
  intro listed a inv hfree hr hy H;have hun:=(mem_ready.1 hr).1;refine⟨List.ne_nil_of_mem hr,fun j hj=> ?_⟩;have hjm:j<m:=Nat.lt_of_not_le fun h=>mW hc inv _ i rfl hin hun j h hj
  refine⟨hjm, ?_⟩
  by_cases hji:j=i
  ·subst hji; exact hy.stOp hi H
  ·have h1:=(H.2 j (ready_mono hj hji)).2;obtain⟨hjun,oj,hoj,hall⟩:=mem_ready.1 hj;have hnot: ∀e∈oj.after,Region.binds md e=true->e.on≠i:=fun e he hb heq=>by
    have h1:=hall e he hb;rw[heq,getD_both hun]at h1
    cases h1
   have h2:=stOp_put hoj (hfree j oj hoj hji hjun hnot) (fun cs b=>hsel i oi cs b hi) (fun cs b=>hsel j oj cs b hoj) hy h1;refine stOp_mono (fun a' h3=>ih (listed.setIfInBounds j true) a' (inv.set hj hjm) (fun k ok hk hki hunk hno=> ?_) (ready_mono hr (Ne.symm hji)) h3.1 ?_) h2
   ·refine hfree k ok hk hki ?_ hno
    by_cases hjk:j=k
    ·subst hjk; exact hjun
    ·rw[getD_set_ne true hjk]at hunk; exact hunk
   ·rw[Array.setIfInBounds_comm _ _ hji];exact h3.2
def sZ :Nat->Nat->Array Bool->Array Bool
 | 0,_,listed=>listed
 | n+1,k,listed=>sZ n (k+1) (listed.setIfInBounds k true)
def EX (md:Region.Mode) (ops:Array Oper):Nat->Nat->Array Bool->Bool
 | 0,k,listed=>(Region.ready md ops listed).all fun j=>decide (k<=j)
 | n+1,k,listed=>(Region.ready md ops listed).contains k && Region.free md ops listed k && EX md ops n (k+1) (listed.setIfInBounds k true)
theorem zb {m:Nat} {Lq:Act->Prop} (hsel:Region.noSelect ops=true) (hc:wU md ops m=true) (LM:Array Bool):
  ∀(l:List Oper) (k:Nat) (listed:Array Bool) (a:Act),(∀j,j<l.length->l[j]? =ops[k+j]?)->k+l.length=m->HeadInv md ops m listed->
  EX md ops l.length k listed=true->sZ l.length k listed=LM->wpStill P ops w Lq l a->
  wpAnyL P md ops w m (fun listed' a'=>listed'=LM/\Lq a') l.length listed a/\ ∀j∈Region.ready md ops LM,m<=j
 | [],k,listed,a,_,hk,_,hB,hL,h=>by
  have hkm:k=m:=by simpa using hk
  subst hkm;have hLM:listed=LM:=hL;subst hLM;refine⟨⟨rfl,h⟩,fun j hj=> ?_⟩;have:=List.all_eq_true.1 hB j hj
  simpa using this
 | o::l,k,listed,a,hl,hk,inv,hB,hL,h=>by
  have h0:ops[k]? =some o:=by simpa using (hl 0 (by simp)).symm
  simp only[List.length_cons,EX,Bool.and_eq_true]at hB;obtain⟨⟨hr,hf⟩,hB'⟩:=hB;have hkm:k<m:=by simp only[List.length_cons]at hk; omega
  have hr':k∈Region.ready md ops listed:=by simpa using hr
  have hst:stOp P ops w k (wpStill P ops w Lq l) a:=by unfold stOp; simp only[h0]; exact h
  obtain⟨v,hy,hK⟩:=yieldsAt_of_stOp h0 hst;have IH:=zb hsel hc LM l (k+1) _ _ (fun j hj=>by have:=hl (j+1) (by simp; omega); simpa [Nat.add_assoc,Nat.add_comm 1 j]using this) (by simp only[List.length_cons]at hk; omega) (inv.set hr' hkm) hB' hL hK;refine⟨AW h0 (Region.noSelect_spec hsel) hc hkm (fun listed' a' hL'=> ?_) l.length listed a inv (Region.free_spec h0 hf) hr' hy IH.1,IH.2⟩
  rw[hL'.1]; exact IH.2
def Cv (md:Region.Mode) (ops:Array Oper) (m:Nat) (listed:Array Bool):Bool:=
 decide (listed.size=ops.size) &&
 ((List.range ops.size).all fun j=> !listed.getD j false || match ops[j]? with | some oj=>oj.after.all (fun e=> !Region.binds md e || listed.getD e.on false) | none=>true) &&
 ((List.range ops.size).all fun t=>decide (t<m) || !listed.getD t true)
theorem xj {m:Nat} {listed:Array Bool} (h:Cv md ops m listed=true):HeadInv md ops m listed:=by
 simp only[Cv,Bool.and_eq_true,decide_eq_true_eq]at h;obtain⟨⟨h1,h2⟩,h3⟩:=h;refine⟨h1,fun j oj hj hl e he hb=> ?_,fun t ht ht2=> ?_⟩
 ·have:=List.all_eq_true.1 h2 j (List.mem_range.2 (Array.getElem?_eq_some_iff.1 hj).1);rw[hl,hj]at this;simp only[Bool.not_true,Bool.false_or]at this;have:=Array.all_eq_true'.1 this e he;rw[hb]at this
  simpa using this
 ·have:=List.all_eq_true.1 h3 t (List.mem_range.2 ht2);simp only[Bool.or_eq_true,decide_eq_true_eq]at this
  rcases this with h | h
  ·omega
  ·simpa using h
def qk (md:Region.Mode) (ops:Array Oper):List (Option Nat)->Nat->Array Bool->Bool
 | [],k,listed=>decide (k=ops.size) && (Region.ready md ops listed).isEmpty
 | some n::s,k,listed=>decide (k+n<=ops.size) && wU md ops (k+n) && Cv md ops (k+n) listed && EX md ops n k listed && qk md ops s (k+n) (sZ n k listed)
 | none::s,k,listed=>decide (k<ops.size) && decide (Region.ready md ops listed=[k]) && qk md ops s (k+1) (listed.setIfInBounds k true)
@[irreducible] def wD (P:Program) (ops:Array Oper) (w:World) (Q:Act->Prop) (l:List Oper) (a:Act):Prop:=wpStill P ops w Q l a
theorem wD.out {Q:Act->Prop} {l:List Oper} {a:Act} (h:wD P ops w Q l a):wpStill P ops w Q l a:=by unfold wD at h; exact h
theorem wD.of {Q:Act->Prop} {l:List Oper} {a:Act} (h:wpStill P ops w Q l a):wD P ops w Q l a:=by unfold wD; exact h
@[irreducible] def wB (P:Program) (ops:Array Oper) (next:Act->World->Prop) (Q:Exit->Act->World->Prop) (l:List Oper) (a:Act) (w:World):Prop:=wpList P ops (Exit.then next Q) l a w
theorem wB.out {next:Act->World->Prop} {Q:Exit->Act->World->Prop} {l:List Oper} {a:Act} (h:wB P ops next Q l a w):wpList P ops (Exit.then next Q) l a w:=by unfold wB at h; exact h
theorem wB.of {next:Act->World->Prop} {Q:Exit->Act->World->Prop} {l:List Oper} {a:Act} (h:wpList P ops (Exit.then next Q) l a w):wB P ops next Q l a w:=by unfold wB; exact h
def bz (P:Program) (ops:Array Oper) (Q:Exit->Act->World->Prop):List (Option Nat)->List Oper->Act->World->Prop
 | [],_,a,w=>Q .normal a w
 | some n::s,l,a,w=>wD P ops w (fun a'=>bz P ops Q s (l.drop n) a' w) (l.take n) a
 | none::s,l,a,w=>wB P ops (fun a' w'=>bz P ops Q s (l.drop 1) a' w') Q (l.take 1) a w
theorem iC {Q:Exit->Act->World->Prop} (hsel:Region.noSelect ops=true): ∀(s:List (Option Nat)) (l:List Oper) (k:Nat) (listed:Array Bool) (a:Act) (w:World),
  (∀j,l[j]? =ops[k+j]?)->qk md ops s k listed=true->bz P ops Q s l a w->wpAny P md ops Q (ops.size-k) listed a w
 | [],l,k,listed,a,w,hl,hB,h=>by
  simp only[qk,Bool.and_eq_true,decide_eq_true_eq]at hB;rw[hB.1,Nat.sub_self];exact⟨by simpa using hB.2,h⟩
 | some n::s,l,k,listed,a,w,hl,hB,h=>by
  simp only[qk,Bool.and_eq_true,decide_eq_true_eq]at hB;obtain⟨⟨⟨⟨hn,hc⟩,hh⟩,hs⟩,hB'⟩:=hB;have hll:l.length=ops.size-k:=by
   have h1: ∀j,j<l.length<->k+j<ops.size:=fun j=>by
    constructor
    ·intro hj; have:=hl j; rw[List.getElem?_eq_getElem hj]at this; exact(Array.getElem?_eq_some_iff.1 this.symm).1
    ·intro hj; have:=hl j; rw[Array.getElem?_eq_getElem hj]at this; exact(List.getElem?_eq_some_iff.1 this).1
   rcases Nat.lt_trichotomy l.length (ops.size-k)with h2 | h2 | h2
   ·have:=(h1 l.length).2 (by omega); omega
   ·exact h2
   ·have:=(h1 (ops.size-k)).1 h2; omega
  have htl:(l.take n).length=n:=by simp; omega
  have H:=zb (P:=P) (md:=md) (w:=w) hsel hc (sZ n k listed) (l.take n) k listed a (fun j hj=>by
   rw[htl]at hj;rw[List.getElem?_take,if_pos hj]; exact hl j) (by rw[htl]) (xj hh) (by rw[htl]; exact hs) (by rw[htl]) (wD.out h)
  have:=wpAny_of_head (Q':=Q) (g:=ops.size-(k+n)) (fun listed' a' hL=>by
   rw[hL.1];exact iC hsel s (l.drop n) (k+n) _ a' w (fun j=>by rw[List.getElem?_drop,hl,Nat.add_assoc]) hB' hL.2) _ _ _ H.1
  rw[htl,show n+(ops.size-(k+n))=ops.size-k by omega]at this;exact this
 | none::s,l,k,listed,a,w,hl,hB,h=>by
  simp only[qk,Bool.and_eq_true,decide_eq_true_eq]at hB;obtain⟨⟨hk,hr⟩,hB'⟩:=hB;obtain⟨o,ho⟩: ∃o,ops[k]? =some o:=⟨ops[k],by simp[hk]⟩;have h0:l[0]? =some o:=by rw[hl]; exact ho
  obtain⟨l',rfl⟩: ∃l',l=o::l':=by
   cases l with
   | nil=>simp at h0
   | cons x y=>simp at h0; exact⟨y,by rw[h0]⟩
  rw[show ops.size-k=(ops.size-(k+1))+1 by omega];refine⟨fun h1=>(by rw[hr]at h1; cases h1),fun i hi=> ?_⟩;rw[hr]at hi;have hik:i=k:=by simpa using hi
  subst hik;have hw:wpOp P ops Q i (fun a' w'=>bz P ops Q s l' a' w') a w:=by
   unfold wpOp;simp only[ho];exact wB.out h
  exact wpOp_mono (fun a' w' h'=>iC hsel s l' (i+1) _ a' w' (fun j=>by have:=hl (j+1); simpa [Nat.add_assoc,Nat.add_comm 1 j]using this) hB' h') hw
theorem aA {id:Nat} {Q:Exit->Act->World->Prop} {a:Act} {w:World} {l:List Oper} (s:List (Option Nat)) (hm:P.follows .mixedOrders=true) (hsel:Region.noSelect l.toArray=true)
  (hB:qk .any l.toArray s 0 (Array.replicate l.toArray.size false)=true) (h:bz P l.toArray Q s l a w.drew):(Code.region id l.toArray true).wp P Q a w:=by
 refine wp_region_any hm ?_;have:=iC (md:= .any) (P:=P) (Q:=Q) hsel s l 0 _ a w.drew (by simp) hB h
 simpa using this
theorem aL {Q:Act->Prop} {a:Act} (h:Q a):wD P ops w Q [] a:=wD.of h
theorem aD {Q:Act->Prop} {a:Act} {o:Oper} {rest:List Oper} (hw:Region.wanted o (yielded ops a.tmps)=false) (h:wD P ops w Q rest (a.put o.dst undef)):wD P ops w Q (o::rest) a:=by
 refine wD.of ?_;unfold wpStill; rw[hw]; exact h.out
theorem aM {Q:Act->Prop} {a:Act} {dst:Option Tmp} {op:Op} {ty:TypeId} {pos:String} {aft:Array Edge} {g:Option (Nat×Bool)} {rest:List Oper} (hw:Region.wanted ⟨dst,op,ty,pos,aft,g⟩ (yielded ops a.tmps)=true)
  (h: ∀K:Act->Prop,(∀a,wD P ops w Q rest a->K a)->Oper.still P ⟨dst,op,ty,pos, #[],none⟩ a w K):wD P ops w Q (⟨dst,op,ty,pos,aft,g⟩::rest) a:=by
 refine wD.of ?_;unfold wpStill; rw[hw]; exact h _ (fun _ h=>h.out)
theorem iH {Q:Exit->Act->World->Prop} {next:Act->World->Prop} {a:Act} {o:Oper} (hw:Region.wanted o (yielded ops a.tmps)=false) (h:next (a.put o.dst undef) w):wB P ops next Q [o] a w:=by
 refine wB.of ?_;unfold wpList; rw[hw]; exact h
theorem bE {Q:Exit->Act->World->Prop} {next:Act->World->Prop} {a:Act} {dst:Option Tmp} {op:Op} {ty:TypeId} {pos:String} {aft:Array Edge} {g:Option (Nat×Bool)} (hw:Region.wanted ⟨dst,op,ty,pos,aft,g⟩ (yielded ops a.tmps)=true)
  (h: ∀K:Act->World->Prop,(∀a w,next a w->K a w)->wpList P #[] (Exit.then K Q) [⟨dst,op,ty,pos, #[],none⟩] a w):wB P ops next Q [⟨dst,op,ty,pos,aft,g⟩] a w:=by
 refine wB.of ?_;have:=h _ (fun _ _ h=>h);unfold wpList at this ⊢;rw[hw];simp only[Region.wanted,if_true]at this;exact this
end
end Go.Proofs.YtnjkpcalgoefhaaGreatDoor
namespace Go.Proofs.YtnjkpcalgoefhaaGreatDoor
def dR (x s:Nat):Nat:=(x*2^s%4294967296) ||| (x/2^(32-s))
def Ff (x:Nat):Nat:=(dR x 15^^^dR x 13)^^^(x/2^10)
def Fe (x:Nat):Nat:=(dR x 25^^^dR x 14)^^^(x/2^3)
def nQ (l:List Nat):Nat:=(((Ff (l.getD (l.length-2) 0)+l.getD (l.length-7) 0)%4294967296+Fe (l.getD (l.length-15) 0))%4294967296+l.getD (l.length-16) 0)%4294967296
def gX :Nat->List Nat->List Nat
 | 0,l=>l
 | n+1,l=>gX n (l++[nQ l])
def zj (a b c d:UInt8):Nat:=(((a.toNat*2^24%4294967296) ||| (b.toNat*2^16%4294967296)) ||| (c.toNat*2^8%4294967296)) ||| d.toNat
def ww (b:List UInt8) (t:Nat):Nat:=zj (b.getD (4*t) 0) (b.getD (4*t+1) 0) (b.getD (4*t+2) 0) (b.getD (4*t+3) 0)
def js (b:List UInt8) (n:Nat):List Nat:=(List.range n).map (ww b)
structure V8 where
 a:Nat
 b:Nat
 c:Nat
 d:Nat
 e:Nat
 f:Nat
 g:Nat
 h:Nat
def kc :List Nat:=[0x428a2f98,0x71374491,0xb5c0fbcf,0xe9b5dba5,0x3956c25b,0x59f111f1,0x923f82a4,0xab1c5ed5,
 0xd807aa98,0x12835b01,0x243185be,0x550c7dc3,0x72be5d74,0x80deb1fe,0x9bdc06a7,0xc19bf174,
 0xe49b69c1,0xefbe4786,0x0fc19dc6,0x240ca1cc,0x2de92c6f,0x4a7484aa,0x5cb0a9dc,0x76f988da,
 0x983e5152,0xa831c66d,0xb00327c8,0xbf597fc7,0xc6e00bf3,0xd5a79147,0x06ca6351,0x14292967,
 0x27b70a85,0x2e1b2138,0x4d2c6dfc,0x53380d13,0x650a7354,0x766a0abb,0x81c2c92e,0x92722c85,
 0xa2bfe8a1,0xa81a664b,0xc24b8b70,0xc76c51a3,0xd192e819,0xd6990624,0xf40e3585,0x106aa070,
 0x19a4c116,0x1e376c08,0x2748774c,0x34b0bcb5,0x391c0cb3,0x4ed8aa4a,0x5b9cca4f,0x682e6ff3,
 0x748f82ee,0x78a5636f,0x84c87814,0x8cc70208,0x90befffa,0xa4506ceb,0xbef9a3f7,0xc67178f2]
def t1P (v:V8) (k w:Nat):Nat:=((((v.h+((dR v.e 26^^^dR v.e 21)^^^dR v.e 7))%4294967296+((v.e &&& v.f)^^^((4294967295-v.e) &&& v.g)))%4294967296+k)%4294967296+w)%4294967296
def t2P (v:V8):Nat:=(((dR v.a 30^^^dR v.a 19)^^^dR v.a 10)+(((v.a &&& v.b)^^^(v.a &&& v.c))^^^(v.b &&& v.c)))%4294967296
def Aq (v:V8) (k w:Nat):V8:=⟨(t1P v k w+t2P v)%4294967296,v.a,v.b,v.c,(v.d+t1P v k w)%4294967296,v.e,v.f,v.g⟩
def mF (l:List (Nat×Nat)) (v:V8):V8:=l.foldl (fun v p=>Aq v p.1 p.2) v
def oG (x y:Nat):Nat:=(x+y)%4294967296
def BJ (v u:V8):V8:=⟨oG v.a u.a,oG v.b u.b,oG v.c u.c,oG v.d u.d,oG v.e u.e,oG v.f u.f,oG v.g u.g,oG v.h u.h⟩
def wsP (b:List UInt8):List Nat:=gX 48 (js b 16)
def vE (v:V8) (b:List UInt8):V8:=BJ v (mF (kc.zip (wsP b)) v)
def nz :V8:=⟨0x6a09e667,0xbb67ae85,0x3c6ef372,0xa54ff53a,0x510e527f,0x9b05688c,0x1f83d9ab,0x5be0cd19⟩
def eQ (l:List UInt8):Nat->V8
 | 0=>nz
 | k+1=>vE (eQ l k) ((l.drop (64*k)).take 64)
def wK (x:Nat):List UInt8:=[UInt8.ofNat (x/2^24),UInt8.ofNat (x/2^16),UInt8.ofNat (x/2^8),UInt8.ofNat x]
def sY (x:Nat):List UInt8:=[UInt8.ofNat (x/2^56),UInt8.ofNat (x/2^48),UInt8.ofNat (x/2^40),UInt8.ofNat (x/2^32),UInt8.ofNat (x/2^24),UInt8.ofNat (x/2^16),UInt8.ofNat (x/2^8),UInt8.ofNat x]
def iD (n:Nat):Nat:=(119-n%64)%64
def od (n:Nat):List UInt8:=128::List.replicate (iD n) 0++sY (n*8%18446744073709551616)
def V8.list (v:V8):List Nat:=[v.a,v.b,v.c,v.d,v.e,v.f,v.g,v.h]
def V8.out (v:V8):List UInt8:=v.list.flatMap wK
def xR (l:List UInt8):List UInt8:=(eQ (l++od l.length) ((l++od l.length).length/64)).out
theorem ji {x y:Nat} (hx:x<4294967296) (hy:y<4294967296):x ||| y<4294967296:=Nat.or_lt_two_pow (n:=32) hx hy
theorem kB {x y:Nat} (hx:x<4294967296) (hy:y<4294967296):x^^^y<4294967296:=Nat.xor_lt_two_pow (n:=32) hx hy
theorem gK {x:Nat} (y:Nat) (hx:x<4294967296):x &&& y<4294967296:=Nat.lt_of_le_of_lt Nat.and_le_left hx
theorem di {x:Nat} (s:Nat) (hx:x<4294967296):dR x s<4294967296:=ji (Nat.mod_lt _ (by decide)) (Nat.lt_of_le_of_lt (Nat.div_le_self _ _) hx)
theorem CD (l:List Nat):nQ l<4294967296:=Nat.mod_lt _ (by decide)
theorem yu {x:Nat} (b:UInt8) (h:x=b.toNat):x<4294967296:=by have:=b.toNat_lt; omega
theorem DG (a b c d:UInt8):zj a b c d<4294967296:=ji (ji (ji (Nat.mod_lt _ (by decide)) (Nat.mod_lt _ (by decide))) (Nat.mod_lt _ (by decide))) (yu _ rfl)
theorem DH (b:List UInt8) (t:Nat):ww b t<4294967296:=DG _ _ _ _
def zo (l:List Nat):Prop:= ∀x∈l,x<4294967296
theorem zo.get {l:List Nat} (h:zo l) (k:Nat):l.getD k 0<4294967296:=by
 rw[List.getD_eq_getElem?_getD]
 cases hk:l[k]? with
 | none=>simp
 | some x=>exact h x (List.mem_of_getElem? hk)
theorem qB (b:List UInt8) (n:Nat):(js b n).length=n:=by simp[js]
theorem sO (b:List UInt8) (n:Nat):zo (js b n):=by
 intro x hx;obtain⟨t,_,rfl⟩:=List.mem_map.1 hx;exact DH b t
theorem wy (b:List UInt8) (n:Nat):js b (n+1)=js b n++[ww b n]:=by simp[js,List.range_succ]
theorem nU : ∀(n:Nat) (l:List Nat),gX (n+1) l=gX n l++[nQ (gX n l)]
 | 0,_=>rfl
 | n+1,l=>by rw[gX,nU n (l++[nQ l])]; rfl
theorem qj : ∀(n:Nat) (l:List Nat),(gX n l).length=l.length+n
 | 0,_=>rfl
 | n+1,l=>by rw[gX,qj n]; simp; omega
theorem sB : ∀(n:Nat) {l:List Nat},zo l->zo (gX n l)
 | 0,_,h=>h
 | n+1,l,h=>by
  rw[gX];refine sB n (fun x hx=> ?_)
  rcases List.mem_append.1 hx with hx | hx
  ·exact h x hx
  ·rw[List.mem_singleton.1 hx]; exact CD l
def oD (b:List UInt8) (t:Nat):List Nat:=if t<=16 then js b t else gX (t-16) (js b 16)
theorem jr (b:List UInt8) (t:Nat):(oD b t).length=t:=by
 unfold oD; split
 ·exact qB b t
 ·rw[qj,qB]; omega
theorem DF (b:List UInt8) (t:Nat):zo (oD b t):=by
 unfold oD; split
 ·exact sO b t
 ·exact sB _ (sO b 16)
theorem Fr (b:List UInt8) {t:Nat} (h:t<16):oD b (t+1)=oD b t++[ww b t]:=by
 unfold oD; rw[if_pos (by omega),if_pos (by omega),wy]
theorem DE (b:List UInt8) {t:Nat} (h:16<=t):oD b (t+1)=oD b t++[nQ (oD b t)]:=by
 unfold oD; rw[if_neg (by omega)]
 by_cases ht:t=16
 ·subst ht; rw[if_pos (by decide)]; rfl
 ·rw[if_neg (by omega),show t+1-16=(t-16)+1 by omega,nU]
theorem zi (b:List UInt8):oD b 64=wsP b:=by unfold oD wsP; rw[if_neg (by decide)]
theorem zk (b:List UInt8):(wsP b).length=64:=by rw[<-zi]; exact jr b 64
theorem xr :kc.length=64:=rfl
structure V8.Ok (v : V8) : Prop where
 a:v.a<4294967296
 b:v.b<4294967296
 c:v.c<4294967296
 d:v.d<4294967296
 e:v.e<4294967296
 f:v.f<4294967296
 g:v.g<4294967296
 h:v.h<4294967296
theorem ER {v:V8} (h:v.Ok) (k w:Nat):(Aq v k w).Ok:=⟨Nat.mod_lt _ (by decide),h.a,h.b,h.c,Nat.mod_lt _ (by decide),h.e,h.f,h.g⟩
theorem CY (l:List (Nat×Nat)): ∀ {v:V8},v.Ok->(mF l v).Ok:=by
 induction l with
 | nil=>intro v h; exact h
 | cons p l ih=>
  intro v h;unfold mF at ih ⊢;rw[List.foldl_cons];exact ih (ER h p.1 p.2)
theorem xJ (l:List (Nat×Nat)) (p:Nat×Nat) (v:V8):mF (l++[p]) v=Aq (mF l v) p.1 p.2:=by
 unfold mF; rw[List.foldl_append,List.foldl_cons,List.foldl_nil]
theorem DU (v u:V8):(BJ v u).Ok:=by constructor<;> exact Nat.mod_lt _ (by decide)
theorem Bn :nz.Ok:=by constructor<;> decide
theorem CQ (v:V8) (b:List UInt8):(vE v b).Ok:=DU _ _
theorem tg (l:List UInt8): ∀k,(eQ l k).Ok
 | 0=>Bn
 | _+1=>CQ _ _
def rTo (b:List UInt8) (v:V8) (t:Nat):V8:=mF ((kc.zip (wsP b)).take t) v
theorem CU (b:List UInt8) {v:V8} (t:Nat) (h:v.Ok):(rTo b v t).Ok:=CY _ h
theorem kH {l:List Nat} {t:Nat} (h:t<l.length):l[t]? =some (l.getD t 0):=by simp[List.getD_eq_getElem?_getD,h]
theorem DK {x y:List Nat} {t:Nat} (h1:t<x.length) (h2:t<y.length):(x.zip y)[t]? =some (x.getD t 0,y.getD t 0):=by
 rw[List.getElem?_zip_eq_some];exact⟨kH h1,kH h2⟩
theorem Ar {x y:List Nat} (v:V8) {t:Nat} (h1:t<x.length) (h2:t<y.length):mF ((x.zip y).take (t+1)) v=Aq (mF ((x.zip y).take t) v) (x.getD t 0) (y.getD t 0):=by
 rw[List.take_add_one,DK h1 h2,Option.toList_some,xJ]
theorem CV (b:List UInt8) (v:V8) {t:Nat} (h:t<64):rTo b v (t+1)=Aq (rTo b v t) (kc.getD t 0) ((wsP b).getD t 0):=
 Ar v (by rw[xr]; exact h) (by rw[zk]; exact h)
theorem CR (v:V8) (b:List UInt8):vE v b=BJ v (rTo b v 64):=by
 unfold vE rTo; rw[List.take_of_length_le (by rw[List.length_zip,zk,xr]; decide)]
theorem lZ {l:List UInt8} (r:List UInt8): ∀ {k:Nat},64*k<=l.length->eQ (l++r) k=eQ l k
 | 0,_=>rfl
 | k+1,h=>by
  rw[eQ,eQ,lZ r (k:=k) (by omega)]
  congr 1
  rw[List.drop_append_of_le_length (by omega),List.take_append_of_le_length (by rw[List.length_drop]; omega)]
theorem yt (x:Nat):(wK x).length=4:=rfl
theorem EN (v:V8):v.out.length=32:=by simp[V8.out,V8.list,wK]
theorem Dn (l:List UInt8):(xR l).length=32:=by unfold xR; exact EN _
theorem CK (n:Nat):(od n).length=1+iD n+8:=by unfold od sY; simp; omega
open Go Go.RowKit
def gi (x:Nat):Value:= .int .u32 (x:Int)
theorem dW {x a b:Nat} {s:Nat} (ha:2^s=a) (hb:2^(32-s)=b) (hx:x<4294967296):bits .or .u32 ((x:Int)*(a:Int)%4294967296) ((x:Int)/(b:Int))=((dR x s:Nat):Int):=by
 rw[show((x:Int)*(a:Int)%4294967296)=((x*a%4294967296:Nat):Int) by simp,show((x:Int)/(b:Int))=((x/b:Nat):Int) by simp,
  u32_or_nat _ _ (Nat.mod_lt _ (by decide)) (Nat.lt_of_le_of_lt (Nat.div_le_self _ _) hx)]
 unfold dR; rw[ha,hb]
theorem Ay (x:Nat) (w:World) (hx:x<4294967296):Calls Tryz.prog 199 #[.int .u32 (x:Int), .int .i64 (-17)] w fun e w'=>e= .returned (.int .u32 ((dR x 15:Nat):Int))/\w=w':=by
 have h1:bits BinOp.and IntKind.u64 (IntKind.u64.wrap (-17)) 31=15:=by decide+kernel
 go_enter Tryz.func199,Tryz.ntmps199
 go_wp2_with fail;go_ret;refine⟨?_,rfl⟩;rw[<-dW (a:=32768) (b:=131072) (by decide) (by decide) hx]
 rfl
theorem Av (x:Nat) (w:World) (hx:x<4294967296):Calls Tryz.prog 199 #[.int .u32 (x:Int), .int .i64 (-19)] w fun e w'=>e= .returned (.int .u32 ((dR x 13:Nat):Int))/\w=w':=by
 have h1:bits BinOp.and IntKind.u64 (IntKind.u64.wrap (-19)) 31=13:=by decide+kernel
 go_enter Tryz.func199,Tryz.ntmps199
 go_wp2_with fail;go_ret;refine⟨?_,rfl⟩;rw[<-dW (a:=8192) (b:=524288) (by decide) (by decide) hx]
 rfl
theorem AB (x:Nat) (w:World) (hx:x<4294967296):Calls Tryz.prog 199 #[.int .u32 (x:Int), .int .i64 (-7)] w fun e w'=>e= .returned (.int .u32 ((dR x 25:Nat):Int))/\w=w':=by
 have h1:bits BinOp.and IntKind.u64 (IntKind.u64.wrap (-7)) 31=25:=by decide+kernel
 go_enter Tryz.func199,Tryz.ntmps199
 go_wp2_with fail;go_ret;refine⟨?_,rfl⟩;rw[<-dW (a:=33554432) (b:=128) (by decide) (by decide) hx]
 rfl
theorem Aw (x:Nat) (w:World) (hx:x<4294967296):Calls Tryz.prog 199 #[.int .u32 (x:Int), .int .i64 (-18)] w fun e w'=>e= .returned (.int .u32 ((dR x 14:Nat):Int))/\w=w':=by
 have h1:bits BinOp.and IntKind.u64 (IntKind.u64.wrap (-18)) 31=14:=by decide+kernel
 go_enter Tryz.func199,Tryz.ntmps199
 go_wp2_with fail;go_ret;refine⟨?_,rfl⟩;rw[<-dW (a:=16384) (b:=262144) (by decide) (by decide) hx]
 rfl
theorem AC (x:Nat) (w:World) (hx:x<4294967296):Calls Tryz.prog 199 #[.int .u32 (x:Int), .int .i64 (-6)] w fun e w'=>e= .returned (.int .u32 ((dR x 26:Nat):Int))/\w=w':=by
 have h1:bits BinOp.and IntKind.u64 (IntKind.u64.wrap (-6)) 31=26:=by decide+kernel
 go_enter Tryz.func199,Tryz.ntmps199
 go_wp2_with fail;go_ret;refine⟨?_,rfl⟩;rw[<-dW (a:=67108864) (b:=64) (by decide) (by decide) hx]
 rfl
theorem AA (x:Nat) (w:World) (hx:x<4294967296):Calls Tryz.prog 199 #[.int .u32 (x:Int), .int .i64 (-11)] w fun e w'=>e= .returned (.int .u32 ((dR x 21:Nat):Int))/\w=w':=by
 have h1:bits BinOp.and IntKind.u64 (IntKind.u64.wrap (-11)) 31=21:=by decide+kernel
 go_enter Tryz.func199,Tryz.ntmps199
 go_wp2_with fail;go_ret;refine⟨?_,rfl⟩;rw[<-dW (a:=2097152) (b:=2048) (by decide) (by decide) hx]
 rfl
theorem CZ (x:Nat) (w:World) (hx:x<4294967296):Calls Tryz.prog 199 #[.int .u32 (x:Int), .int .i64 (-25)] w fun e w'=>e= .returned (.int .u32 ((dR x 7:Nat):Int))/\w=w':=by
 have h1:bits BinOp.and IntKind.u64 (IntKind.u64.wrap (-25)) 31=7:=by decide+kernel
 go_enter Tryz.func199,Tryz.ntmps199
 go_wp2_with fail;go_ret;refine⟨?_,rfl⟩;rw[<-dW (a:=128) (b:=33554432) (by decide) (by decide) hx]
 rfl
theorem AD (x:Nat) (w:World) (hx:x<4294967296):Calls Tryz.prog 199 #[.int .u32 (x:Int), .int .i64 (-2)] w fun e w'=>e= .returned (.int .u32 ((dR x 30:Nat):Int))/\w=w':=by
 have h1:bits BinOp.and IntKind.u64 (IntKind.u64.wrap (-2)) 31=30:=by decide+kernel
 go_enter Tryz.func199,Tryz.ntmps199
 go_wp2_with fail;go_ret;refine⟨?_,rfl⟩;rw[<-dW (a:=1073741824) (b:=4) (by decide) (by decide) hx]
 rfl
theorem Az (x:Nat) (w:World) (hx:x<4294967296):Calls Tryz.prog 199 #[.int .u32 (x:Int), .int .i64 (-13)] w fun e w'=>e= .returned (.int .u32 ((dR x 19:Nat):Int))/\w=w':=by
 have h1:bits BinOp.and IntKind.u64 (IntKind.u64.wrap (-13)) 31=19:=by decide+kernel
 go_enter Tryz.func199,Tryz.ntmps199
 go_wp2_with fail;go_ret;refine⟨?_,rfl⟩;rw[<-dW (a:=524288) (b:=8192) (by decide) (by decide) hx]
 rfl
theorem Au (x:Nat) (w:World) (hx:x<4294967296):Calls Tryz.prog 199 #[.int .u32 (x:Int), .int .i64 (-22)] w fun e w'=>e= .returned (.int .u32 ((dR x 10:Nat):Int))/\w=w':=by
 have h1:bits BinOp.and IntKind.u64 (IntKind.u64.wrap (-22)) 31=10:=by decide+kernel
 go_enter Tryz.func199,Tryz.ntmps199
 go_wp2_with fail;go_ret;refine⟨?_,rfl⟩;rw[<-dW (a:=1024) (b:=4194304) (by decide) (by decide) hx]
 rfl
theorem zZ {e:Nat} (h:e<4294967296):4294967295^^^e=4294967295-e:=by
 apply Nat.eq_of_testBit_eq
 intro i;rw[Nat.testBit_xor,show(4294967295:Nat)=2^32-1 by decide,Nat.testBit_two_pow_sub_one,show 2^32-1-e=2^32-(e+1) by omega,Nat.testBit_two_pow_sub_succ (by omega)]
 by_cases hi:i<32
 ·simp[hi]
 ·have:e.testBit i=false:=Nat.testBit_lt_two_pow (Nat.lt_of_lt_of_le h (Nat.pow_le_pow_right (by decide) (by omega):2^32<=2^i));simp[hi,this]
theorem Gu {e:Nat} (h:e<4294967296):bits BinOp.xor IntKind.u32 (if IntKind.u32.signed=true then -1 else IntKind.u32.max) (e:Int)=((4294967295-e:Nat):Int):=by
 rw[show(if IntKind.u32.signed=true then(-1:Int)else IntKind.u32.max)=((4294967295:Nat):Int) by decide,u32_xor_nat _ _ (by decide) h,zZ h]
def s1P (r:V8):Nat:=(dR r.e 26^^^dR r.e 21)^^^dR r.e 7
def chP (r:V8):Nat:=(r.e &&& r.f)^^^((4294967295-r.e) &&& r.g)
def s0P (r:V8):Nat:=(dR r.a 30^^^dR r.a 19)^^^dR r.a 10
def mjP (r:V8):Nat:=((r.a &&& r.b)^^^(r.a &&& r.c))^^^(r.b &&& r.c)
theorem EU {r:V8} (h:r.Ok):bits BinOp.xor IntKind.u32 (bits BinOp.xor IntKind.u32 ((dR r.e 26:Nat):Int) ((dR r.e 21:Nat):Int)) ((dR r.e 7:Nat):Int)=((s1P r:Nat):Int):=by
 rw[u32_xor_nat _ _ (di _ h.e) (di _ h.e),u32_xor_nat _ _ (kB (di _ h.e) (di _ h.e)) (di _ h.e)]; rfl
theorem ET {r:V8} (h:r.Ok):bits BinOp.xor IntKind.u32 (bits BinOp.xor IntKind.u32 ((dR r.a 30:Nat):Int) ((dR r.a 19:Nat):Int)) ((dR r.a 10:Nat):Int)=((s0P r:Nat):Int):=by
 rw[u32_xor_nat _ _ (di _ h.a) (di _ h.a),u32_xor_nat _ _ (kB (di _ h.a) (di _ h.a)) (di _ h.a)]; rfl
theorem Ec {r:V8} (h:r.Ok):bits BinOp.xor IntKind.u32 (bits BinOp.and IntKind.u32 (r.e:Int) (r.f:Int)) (bits BinOp.and IntKind.u32 (bits BinOp.xor IntKind.u32 (if IntKind.u32.signed=true then -1 else IntKind.u32.max) (r.e:Int)) (r.g:Int))=((chP r:Nat):Int):=by
 have h1:4294967295-r.e<4294967296:=by omega
 rw[Gu h.e,u32_and_nat _ _ h.e h.f,u32_and_nat _ _ h1 h.g,u32_xor_nat _ _ (gK _ h.e) (gK _ h1)]; rfl
theorem EI {r:V8} (h:r.Ok):bits BinOp.xor IntKind.u32 (bits BinOp.xor IntKind.u32 (bits BinOp.and IntKind.u32 (r.a:Int) (r.b:Int)) (bits BinOp.and IntKind.u32 (r.a:Int) (r.c:Int))) (bits BinOp.and IntKind.u32 (r.b:Int) (r.c:Int))=((mjP r:Nat):Int):=by
 rw[u32_and_nat _ _ h.a h.b,u32_and_nat _ _ h.a h.c,u32_and_nat _ _ h.b h.c,u32_xor_nat _ _ (gK _ h.a) (gK _ h.a),u32_xor_nat _ _ (kB (gK _ h.a) (gK _ h.a)) (gK _ h.b)]; rfl
theorem Dt (r:V8) (k x:Nat):t1P r k x=(r.h+s1P r+chP r+k+x)%4294967296:=by unfold t1P s1P chP; omega
theorem Gb (r:V8):t2P r=(s0P r+mjP r)%4294967296:=rfl
def gH (w:World):Prop:= ∀j x,kc[j]? =some x->w.cell? ⟨4,j,none⟩=some (gi x)
def u8W (b:UInt8):Value:= .int .u8 (b.toNat:Int)
structure eW (w : World) (bs : List UInt8) (t : Nat) (wr : World) : Prop where
 box:wr.heap[w.heap.size]? =some (.cells ((oD bs t).map gi++List.replicate (64-t) (gi 0)).toArray 156 (0,0))
 below:Below w.heap.size w wr
theorem eW.get {w wr:World} {bs:List UInt8} {t j:Nat} (h:eW w bs t wr) (hj:j<t):wr.cell? ⟨w.heap.size,j,none⟩=some (.int .u32 (((oD bs t).getD j 0:Nat):Int)):=by
 rw[cell_of_row wr _ j _ _ _ h.box];have h1:j<(oD bs t).length:=by rw[jr]; exact hj
 rw[List.getElem?_toArray,List.getElem?_append_left (by simpa using h1),List.getElem?_map,kH h1]; rfl
theorem eW.free {w wr:World} {bs:List UInt8} {t:Nat} (h:eW w bs t wr) (j:Nat):wr.frozen? ⟨w.heap.size,j,none⟩=false:=frozen_of_row wr _ j _ _ h.box
theorem eW.here {w wr:World} {bs:List UInt8} {t:Nat} (h:eW w bs t wr) (ht:t<64):wr.cell? ⟨w.heap.size,t,none⟩=some (.int .u32 0):=by
 rw[cell_of_row wr _ t _ _ _ h.box,List.getElem?_toArray,List.getElem?_append_right (by simp[jr])];rw[List.length_map,jr,Nat.sub_self,show 64-t=(64-(t+1))+1 by omega,List.replicate_succ]; rfl
theorem eW.put {w wr:World} {bs:List UInt8} {t x:Nat} (h:eW w bs t wr) (ht:t<64) (hx:oD bs (t+1)=oD bs t++[x]):eW w bs (t+1) (wr.setCell ⟨w.heap.size,t,none⟩ (.int .u32 (x:Int))):=by
 refine⟨?_, ?_⟩
 ·rw[heap_setCell_same wr _ t _ _ _ h.box,hx]
  congr 2
  rw[List.setIfInBounds_toArray,List.set_append_right _ _ (by simp[jr])];rw[List.map_append,List.append_assoc]
  congr 2
  rw[List.length_map,jr,Nat.sub_self,show 64-t=(64-(t+1))+1 by omega,List.replicate_succ]
  rfl
 ·exact h.below.trans ⟨rfl,rfl,rfl,by simp[World.setCell],fun k hk=>heap_setCell_other wr _ k _ (by show k≠w.heap.size; omega)⟩
theorem eW.start (w:World) (bs:List UInt8):eW w bs 0 (w.alloc (.cells (List.replicate 64 (gi 0)).toArray 156)):=
 ⟨by rw[heap_alloc_new]; rfl,(Below.refl _ _).alloc (Nat.le_refl _) _⟩
theorem yj (a b c d:UInt8):bits BinOp.or IntKind.u32 (bits BinOp.or IntKind.u32 (bits BinOp.or IntKind.u32 ((a.toNat:Int)%4294967296*16777216%4294967296) ((b.toNat:Int)%4294967296*65536%4294967296)) ((c.toNat:Int)%4294967296*256%4294967296)) ((d.toNat:Int)%4294967296)=((zj a b c d:Nat):Int):=by
 have ha:=a.toNat_lt;have hb:=b.toNat_lt;have hc:=c.toNat_lt;have hd:=d.toNat_lt;rw[show((a.toNat:Int)%4294967296*16777216%4294967296)=((a.toNat*2^24%4294967296:Nat):Int) by omega,show((b.toNat:Int)%4294967296*65536%4294967296)=((b.toNat*2^16%4294967296:Nat):Int) by omega,
  show((c.toNat:Int)%4294967296*256%4294967296)=((c.toNat*2^8%4294967296:Nat):Int) by omega,show((d.toNat:Int)%4294967296)=((d.toNat:Nat):Int) by omega,
  u32_or_nat _ _ (Nat.mod_lt _ (by decide)) (Nat.mod_lt _ (by decide)),u32_or_nat _ _ (ji (Nat.mod_lt _ (by decide)) (Nat.mod_lt _ (by decide))) (Nat.mod_lt _ (by decide)),
  u32_or_nat _ _ (ji (ji (Nat.mod_lt _ (by decide)) (Nat.mod_lt _ (by decide))) (Nat.mod_lt _ (by decide))) (yu _ rfl)]
 rfl
theorem Bc {x:Nat} (hx:x<4294967296):bits BinOp.xor IntKind.u32 (bits BinOp.xor IntKind.u32 ((dR x 15:Nat):Int) ((dR x 13:Nat):Int)) ((x:Int)/1024)=((Ff x:Nat):Int):=by
 rw[show((x:Int)/1024)=((x/2^10:Nat):Int) by simp,u32_xor_nat _ _ (di _ hx) (di _ hx),u32_xor_nat _ _ (kB (di _ hx) (di _ hx)) (Nat.lt_of_le_of_lt (Nat.div_le_self _ _) hx)]
 rfl
theorem Bb {x:Nat} (hx:x<4294967296):bits BinOp.xor IntKind.u32 (bits BinOp.xor IntKind.u32 ((dR x 25:Nat):Int) ((dR x 14:Nat):Int)) ((x:Int)/8)=((Fe x:Nat):Int):=by
 rw[show((x:Int)/8)=((x/2^3:Nat):Int) by simp,u32_xor_nat _ _ (di _ hx) (di _ hx),u32_xor_nat _ _ (kB (di _ hx) (di _ hx)) (Nat.lt_of_le_of_lt (Nat.div_le_self _ _) hx)]
 rfl
theorem eW.next {w wr w2:World} {bs:List UInt8} {t:Nat} (h:eW w bs t wr) (hb:Below wr.heap.size wr w2):eW w bs t w2:=⟨(hb.block _ (lt_of_block h.box)).trans h.box,h.below.trans (hb.mono h.below.size)⟩
theorem eW.drew {w wr:World} {bs:List UInt8} {t:Nat} (h:eW w bs t wr):eW w bs t wr.drew:=⟨h.box,h.below.trans (Below.refl _ _).drew⟩
theorem Er {bs:List UInt8} {j:Nat} (h:j<bs.length):bs[j]? =some (bs.getD j 0):=by simp[List.getD_eq_getElem?_getD,h]
def CC (v r:V8) (j:Nat):List Nat:=(BJ v r).list.take j++v.list.drop j
structure gr (sb : Nat) (v r : V8) (tl : List Value) (ty : TypeId) (W1 wq : World) (j : Nat) : Prop where
 box:wq.heap[sb]? =some (.cells ((CC v r j).map gi++tl).toArray ty (0,0))
 grown:W1.grownBy wq (some sb)
theorem gr.start {sb:Nat} {v r:V8} {tl:List Value} {ty:TypeId} {W1 wq:World} (h:W1.heap[sb]? =some (.cells (v.list.map gi++tl).toArray ty (0,0))) (hb:Below W1.heap.size W1 wq):gr sb v r tl ty W1 wq 0:=
 ⟨(hb.block sb (lt_of_block h)).trans h,⟨hb.os,hb.tape,hb.output,hb.size,fun k hk _=>hb.block k hk⟩⟩
theorem gr.keep {sb:Nat} {v r:V8} {tl:List Value} {ty:TypeId} {W1 wq:World} {j:Nat} (h:gr sb v r tl ty W1 wq j) {b:Nat} {o:Obj} (hb:W1.heap[b]? =some o) (hne:sb≠b):wq.heap[b]? =some o:=
 (h.grown.block b (lt_of_block hb) (fun e=>hne (Option.some.inj e).symm)).trans hb
theorem gr.free {sb:Nat} {v r:V8} {tl:List Value} {ty:TypeId} {W1 wq:World} {j:Nat} (h:gr sb v r tl ty W1 wq j) (k:Nat):wq.frozen? ⟨sb,k,none⟩=false:=frozen_of_row wq _ k _ _ h.box
theorem EG (v r:V8) {j:Nat} (h:j<8) (tl:List Value):((CC v r j).map gi++tl)[j]? =some (gi (v.list.getD j 0)):=by
 have hc:j=0\/j=1\/j=2\/j=3\/j=4\/j=5\/j=6\/j=7:=by omega
 rcases hc with rfl | rfl | rfl | rfl | rfl | rfl | rfl | rfl<;> rfl
theorem EH (v r:V8) {j:Nat} (h:j<8) (tl:List Value):((CC v r j).map gi++tl).set j (gi (oG (v.list.getD j 0) (r.list.getD j 0)))=(CC v r (j+1)).map gi++tl:=by
 have hc:j=0\/j=1\/j=2\/j=3\/j=4\/j=5\/j=6\/j=7:=by omega
 rcases hc with rfl | rfl | rfl | rfl | rfl | rfl | rfl | rfl<;> rfl
theorem gr.here {sb:Nat} {v r:V8} {tl:List Value} {ty:TypeId} {W1 wq:World} {j:Nat} (h:gr sb v r tl ty W1 wq j) (hj:j<8):wq.cell? ⟨sb,j,none⟩=some (.int .u32 ((v.list.getD j 0:Nat):Int)):=by
 rw[cell_of_row wq _ _ _ _ _ h.box,List.getElem?_toArray,EG v r hj tl]; rfl
theorem gr.put {sb:Nat} {v r:V8} {tl:List Value} {ty:TypeId} {W1 wq:World} {j:Nat} (h:gr sb v r tl ty W1 wq j) (hj:j<8) {x:Value} (hx:x=gi (oG (v.list.getD j 0) (r.list.getD j 0))):gr sb v r tl ty W1 (wq.setCell ⟨sb,j,none⟩ x) (j+1):=by
 subst hx;refine⟨?_, ?_⟩
 ·rw[heap_setCell_same wq _ _ _ _ _ h.box,List.setIfInBounds_toArray,EH v r hj tl]
 ·have h2:=h.grown;exact⟨h2.os,h2.tape,h2.output,by simpa [World.setCell]using h2.size,fun k hk hne=>(heap_setCell_other wq _ k _ (fun e=>hne (by rw[e]))).trans (h2.block k hk hne)⟩
theorem gr.drew {sb:Nat} {v r:V8} {tl:List Value} {ty:TypeId} {W1 wq:World} {j:Nat} (h:gr sb v r tl ty W1 wq j):gr sb v r tl ty W1 wq.drew j:=
 ⟨h.box,⟨h.grown.os,h.grown.tape,h.grown.output,h.grown.size,h.grown.block⟩⟩
theorem GC (v:V8) {j:Nat} (h:j<8):([.int .u32 (v.a:Int), .int .u32 (v.b:Int), .int .u32 (v.c:Int), .int .u32 (v.d:Int), .int .u32 (v.e:Int), .int .u32 (v.f:Int), .int .u32 (v.g:Int), .int .u32 (v.h:Int)]:List Value)[j]? =some (.int .u32 ((v.list.getD j 0:Nat):Int)):=by
 have hc:j=0\/j=1\/j=2\/j=3\/j=4\/j=5\/j=6\/j=7:=by omega
 rcases hc with rfl | rfl | rfl | rfl | rfl | rfl | rfl | rfl<;> rfl
theorem Cx (r:V8) {j:Nat} (h:j<8) (w:World):(Instr.index 101 (.agg #[.int .u32 (r.a:Int), .int .u32 (r.b:Int), .int .u32 (r.c:Int), .int .u32 (r.d:Int), .int .u32 (r.e:Int), .int .u32 (r.f:Int), .int .u32 (r.g:Int), .int .u32 (r.h:Int)]) (.int .i64 (j:Int))).run Tryz.prog w= .ok (.int .u32 ((r.list.getD j 0:Nat):Int)) w:=by
 have hc:j=0\/j=1\/j=2\/j=3\/j=4\/j=5\/j=6\/j=7:=by omega
 rcases hc with rfl | rfl | rfl | rfl | rfl | rfl | rfl | rfl<;> (show _=_; kernel_rfl)
theorem nX {w:World} {sb:Nat} {v:V8} {tl:List Value} {ty:TypeId} (h:w.heap[sb]? =some (.cells (v.list.map gi++tl).toArray ty (0,0))):w.rangeAt sb 0 (v.list.map gi):=by
 intro j x hj;rw[cell_of_row w _ _ _ _ _ h,Nat.zero_add,List.getElem?_toArray,List.getElem?_append_left (List.getElem?_eq_some_iff.1 hj).1];exact hj
theorem kk (sb:Nat) (v:V8) (tl:List Value) (ty:TypeId) (bk o cap:Nat) (bs:List UInt8) (w:World) (hbox:w.heap[sb]? =some (.cells (v.list.map gi++tl).toArray ty (0,0))) (hv:v.Ok) (hl:bs.length=64) (hcap:64<=cap) (_hcapm:cap<=maxLen)
  (hbs: ∀j b,bs[j]? =some b->w.cell? ⟨bk,o+j,none⟩=some (u8W b)) (hK:gH w) (hKlt:4<w.heap.size):
  Calls Tryz.prog 177 #[.pointer (some ⟨sb,0,none⟩), .slice (some ⟨bk,o,none⟩) 64 cap] w fun e w'=>e= .returned (.tuple #[])/\w'.heap[sb]? =some (.cells ((vE v bs).list.map gi++tl).toArray ty (0,0))/\w.grownBy w' (some sb):=by
 have HX:=ab hbox;have HS:=ab hbs;have HK:=ab hK;clear hbox hbs hK
 go_enter Tryz.func177,Tryz.ntmps177
 go_wp2_with fail;have HA0:=ab (eW.start w bs)
 go_loopw [27] (fun i wr=> ∃t:Nat,t<=64/\i= .int .i64 (t:Int)/\eW w bs t wr) (fun i _=>64-(intOf i).toNat)
 case atStart=>exact⟨0,by omega,rfl,HA0.out⟩
 case round=>
  obtain⟨t,ht,rfl,hs⟩:=hrel;have HA:=ab hs;have hz:=hs.below.size;clear hs
  by_cases h16:t<16
  ·obtain⟨b0,hb0⟩: ∃b,b=bs.getD (4*t) 0:=⟨_,rfl⟩;obtain⟨b1,hb1⟩: ∃b,b=bs.getD (4*t+1) 0:=⟨_,rfl⟩;obtain⟨b2,hb2⟩: ∃b,b=bs.getD (4*t+2) 0:=⟨_,rfl⟩;obtain⟨b3,hb3⟩: ∃b,b=bs.getD (4*t+3) 0:=⟨_,rfl⟩;have q0:=HS.out (4*t) (bs.getD (4*t) 0) (Er (by omega));have q1:=HS.out (4*t+1) (bs.getD (4*t+1) 0) (Er (by omega));have q2:=HS.out (4*t+2) (bs.getD (4*t+2) 0) (Er (by omega))
   have q3:=HS.out (4*t+3) (bs.getD (4*t+3) 0) (Er (by omega));have HW:=ab (show ww bs t=zj b0 b1 b2 b3 by rw[hb0,hb1,hb2,hb3]; rfl);rw[<-hb0]at q0;rw[<-hb1]at q1;rw[<-hb2]at q2;rw[<-hb3]at q3;have hbk:=block_lt_of_cell q0;simp only[u8W]at q0 q1 q2 q3;have c0:=(HA.out.below.cell (p:=⟨bk,o+4*t,none⟩) hbk).trans q0;have c1:=(HA.out.below.cell (p:=⟨bk,o+(4*t+1),none⟩) hbk).trans q1
   rw[<-Nat.add_assoc]at c1;have c2:=(HA.out.below.cell (p:=⟨bk,o+(4*t+2),none⟩) hbk).trans q2;rw[<-Nat.add_assoc]at c2;have c3:=(HA.out.below.cell (p:=⟨bk,o+(4*t+3),none⟩) hbk).trans q3;rw[<-Nat.add_assoc]at c3;have ch:=HA.out.here (by omega);have cf:=HA.out.free t;clear q0 q1 q2 q3 hb0 hb1 hb2 hb3;go_wp2_with fail;refine aA [some 24,none] (by kernel_rfl) (by kernel_rfl) (by kernel_rfl) ?_
   simp only[bz,List.take_succ_cons,List.take_zero,List.drop_succ_cons,List.drop_zero]
   repeat (first | (refine aD rfl ?_; simp only[Act.put,aH,aI,aJ]) | (refine aM rfl (fun K hK=> ?_); go_simp; refine hK _ ?_; clear hK K))
   refine aL ?_;refine bE rfl (fun K hK=> ?_);go_wp2_with fail
   go_roundw
   case rel=>
    rw[yj,<-HW.out];exact⟨t+1,by omega,by simp,(HA.out.put (by omega) (Fr bs h16)).drew⟩
   case measure=>simp[intOf]; omega
  ·by_cases h64:t<64
   ·have h17:16<=t:=by omega
    obtain⟨j2,hj2⟩: ∃j,j=t-2:=⟨_,rfl⟩;obtain⟨j15,hj15⟩: ∃j,j=t-15:=⟨_,rfl⟩;obtain⟨j7,hj7⟩: ∃j,j=t-7:=⟨_,rfl⟩;obtain⟨j16,hj16⟩: ∃j,j=t-16:=⟨_,rfl⟩;have c2:=HA.out.get (j:=j2) (by omega);have c15:=HA.out.get (j:=j15) (by omega);have c7:=HA.out.get (j:=j7) (by omega);have c16:=HA.out.get (j:=j16) (by omega);have e2:IntKind.i64.wrap ((t:Int)-2)=(j2:Int):=by rw[IntKind.wrap_i64]; omega
    have e15:IntKind.i64.wrap ((t:Int)-15)=(j15:Int):=by rw[IntKind.wrap_i64]; omega
    have e7:IntKind.i64.wrap ((t:Int)-7)=(j7:Int):=by rw[IntKind.wrap_i64]; omega
    have e16:IntKind.i64.wrap ((t:Int)-16)=(j16:Int):=by rw[IntKind.wrap_i64]; omega
    have l2:(j2:Int)<64:=by omega
    have l15:(j15:Int)<64:=by omega
    have l7:(j7:Int)<64:=by omega
    have l16:(j16:Int)<64:=by omega
    have ch:=HA.out.here (by omega);have cf:=HA.out.free t;have HJ:=ab (show j2=t-2/\j15=t-15/\j7=t-7/\j16=t-16 from⟨hj2,hj15,hj7,hj16⟩);clear hj2 hj15 hj7 hj16;obtain⟨x2,hx2⟩: ∃x,x=(oD bs t).getD j2 0:=⟨_,rfl⟩;obtain⟨x15,hx15⟩: ∃x,x=(oD bs t).getD j15 0:=⟨_,rfl⟩;obtain⟨x7,hx7⟩: ∃x,x=(oD bs t).getD j7 0:=⟨_,rfl⟩;obtain⟨x16,hx16⟩: ∃x,x=(oD bs t).getD j16 0:=⟨_,rfl⟩
    rw[<-hx2]at c2;rw[<-hx15]at c15;rw[<-hx7]at c7;rw[<-hx16]at c16;have o2:x2<4294967296:=by rw[hx2]; exact(DF bs t).get j2
    have o15:x15<4294967296:=by rw[hx15]; exact(DF bs t).get j15
    have HN:=ab (show nQ (oD bs t)=(((Ff x2+x7)%4294967296+Fe x15)%4294967296+x16)%4294967296 by
     unfold nQ;rw[jr,hx2,hx15,hx7,hx16,HJ.out.1,HJ.out.2.1,HJ.out.2.2.1,HJ.out.2.2.2])
    clear hx2 hx15 hx7 hx16;go_wp2_with fail;refine aA [some 10] (by kernel_rfl) (by kernel_rfl) (by kernel_rfl) ?_;simp only[bz,List.take_succ_cons,List.take_zero]
    repeat (first | (refine aD rfl ?_; simp only[Act.put,aH,aI,aJ]) | (refine aM rfl (fun K hK=> ?_); go_simp; refine hK _ ?_; clear hK K))
    refine aL ?_;go_wp2_with fail;refine(Ay _ _ o2).mono ?_;rintro e W1 ⟨rfl,rfl⟩;go_wp2_with fail;refine(Av _ _ o2).mono ?_;rintro e W1 ⟨rfl,rfl⟩;go_wp2_with fail;refine(AB _ _ o15).mono ?_;rintro e W1 ⟨rfl,rfl⟩;go_wp2_with fail;refine(Aw _ _ o15).mono ?_;rintro e W1 ⟨rfl,rfl⟩;rw[Bc o2];go_wp2_with fail;refine aA [some 15,none] (by kernel_rfl) (by kernel_rfl) (by kernel_rfl) ?_
    simp only[bz,List.take_succ_cons,List.take_zero,List.drop_succ_cons,List.drop_zero]
    repeat (first | (refine aD rfl ?_; simp only[Act.put,aH,aI,aJ]) | (refine aM rfl (fun K hK=> ?_); go_simp; refine hK _ ?_; clear hK K))
    refine aL ?_;refine bE rfl (fun K hK=> ?_);go_wp2_with fail
    go_roundw
    case rel=>
     rw[Bb o15];have HV:((((Ff x2:Nat):Int)+(x7:Int)+((Fe x15:Nat):Int)+(x16:Int))%4294967296)=((nQ (oD bs t):Nat):Int):=by rw[HN.out]; omega
     rw[HV];exact⟨t+1,by omega,by simp,(HA.out.put (by omega) (DE bs h17)).drew.drew⟩
    case measure=>simp[intOf]; omega
   ·obtain rfl:t=64:=by omega
    have HB1:=ab ((HX.out▸HA.out.below.block sb (lt_of_block HX.out):wr.heap[sb]? =some (.cells (v.list.map gi++tl).toArray ty (0,0))));have HR:=ab (nX HB1.out);go_wp2_with (refine wpList_load_mid rfl 101 _ rfl sb 0 rfl [.int .u32 (v.a:Int), .int .u32 (v.b:Int), .int .u32 (v.c:Int), .int .u32 (v.d:Int), .int .u32 (v.e:Int), .int .u32 (v.f:Int), .int .u32 (v.g:Int), .int .u32 (v.h:Int)] _ HR.out Tryz.underlying101 rfl (by kernel_rfl) ?_)
    obtain⟨W1,hW1⟩: ∃W1,W1=wr.alloc (.cells #[.int .u32 (v.a:Int), .int .u32 (v.b:Int), .int .u32 (v.c:Int), .int .u32 (v.d:Int), .int .u32 (v.e:Int), .int .u32 (v.f:Int), .int .u32 (v.g:Int), .int .u32 (v.h:Int)] 101):=⟨_,rfl⟩;rw[<-hW1];obtain⟨vb,hvb⟩: ∃vb,wr.heap.size=vb:=⟨_,rfl⟩;have HVB:=ab (show W1.heap[vb]? =some (.cells #[.int .u32 (v.a:Int), .int .u32 (v.b:Int), .int .u32 (v.c:Int), .int .u32 (v.d:Int), .int .u32 (v.e:Int), .int .u32 (v.f:Int), .int .u32 (v.g:Int), .int .u32 (v.h:Int)] 101 (0,0)) by rw[hW1,<-hvb]; exact heap_alloc_new _ _)
    have HBW:=ab (show Below wr.heap.size wr W1 by rw[hW1]; exact(Below.refl _ _).alloc (Nat.le_refl _) _);have HA1:=ab (HA.out.next HBW.out);have HB2:=ab ((HBW.out.block sb (lt_of_block HB1.out)).trans HB1.out);rw[hvb];have HVL:=ab (show sb<vb by rw[<-hvb]; exact lt_of_block HB1.out);clear hW1 hvb;have HOK:=ab (CU bs (v:=v) 0 hv);have v0:W1.cell? ⟨vb,0,none⟩=some (.int .u32 (v.a:Int)):=(cell_of_row W1 _ _ _ _ _ HVB.out).trans rfl
    have v1:W1.cell? ⟨vb,1,none⟩=some (.int .u32 (v.b:Int)):=(cell_of_row W1 _ _ _ _ _ HVB.out).trans rfl;have v2:W1.cell? ⟨vb,2,none⟩=some (.int .u32 (v.c:Int)):=(cell_of_row W1 _ _ _ _ _ HVB.out).trans rfl;have v3:W1.cell? ⟨vb,3,none⟩=some (.int .u32 (v.d:Int)):=(cell_of_row W1 _ _ _ _ _ HVB.out).trans rfl;have v4:W1.cell? ⟨vb,4,none⟩=some (.int .u32 (v.e:Int)):=(cell_of_row W1 _ _ _ _ _ HVB.out).trans rfl
    have v5:W1.cell? ⟨vb,5,none⟩=some (.int .u32 (v.f:Int)):=(cell_of_row W1 _ _ _ _ _ HVB.out).trans rfl;have v6:W1.cell? ⟨vb,6,none⟩=some (.int .u32 (v.g:Int)):=(cell_of_row W1 _ _ _ _ _ HVB.out).trans rfl;have v7:W1.cell? ⟨vb,7,none⟩=some (.int .u32 (v.h:Int)):=(cell_of_row W1 _ _ _ _ _ HVB.out).trans rfl;refine aA [some 24] (by kernel_rfl) (by kernel_rfl) (by kernel_rfl) ?_
    simp only[bz,List.take_succ_cons,List.take_zero]
    repeat (first | (refine aD rfl ?_; simp only[Act.put,aH,aI,aJ]) | (refine aM rfl (fun K hK=> ?_); go_simp; refine hK _ ?_; clear hK K))
    refine aL ?_;go_wp2_with fail
    go_loopw [12,13,14,15,16,17,18,19,123] (fun sa sb2 sc sd se sf sg sh i wq=> ∃(t:Nat) (r:V8),t<=64/\i= .int .i64 (t:Int)/\r=rTo bs v t/\sa= .int .u32 (r.a:Int)/\sb2= .int .u32 (r.b:Int)/\sc= .int .u32 (r.c:Int)/\sd= .int .u32 (r.d:Int)/\se= .int .u32 (r.e:Int)/\sf= .int .u32 (r.f:Int)/\sg= .int .u32 (r.g:Int)/\sh= .int .u32 (r.h:Int)/\Below W1.heap.size W1 wq) (fun _ _ _ _ _ _ _ _ i _=>64-(intOf i).toNat)
    case atStart=>exact⟨0,v,by omega,rfl,rfl,rfl,rfl,rfl,rfl,rfl,rfl,rfl,rfl,(Below.refl _ _).drew⟩
    case round=>
     obtain⟨t,r,ht2,rfl,hr,rfl,rfl,rfl,rfl,rfl,rfl,rfl,rfl,hbq⟩:=hrel;have HRT:=ab hr;have HBQ:=ab hbq;have HRO:=ab (show r.Ok by rw[hr]; exact CU bs t hv);clear hr hbq v0 v1 v2 v3 v4 v5 v6 v7
     by_cases h65:t<64
     ·obtain⟨k,hk⟩: ∃k,k=kc.getD t 0:=⟨_,rfl⟩;obtain⟨x,hx⟩: ∃x,x=(wsP bs).getD t 0:=⟨_,rfl⟩;have ck:=HK.out t k (by rw[hk]; exact kH (by rw[xr]; exact h65));have ck2:=(HBQ.out.cell (p:=⟨4,t,none⟩) (by have:=HA1.out.below.size; show 4<_; omega)).trans ((HA1.out.below.cell (p:=⟨4,t,none⟩) hKlt).trans ck);have cx:=(HBQ.out.cell (p:=⟨w.heap.size,t,none⟩) (lt_of_block HA1.out.box)).trans (HA1.out.get h65)
      rw[zi,<-hx]at cx;have HKX:=ab (And.intro hk hx);clear ck hk hx;unfold gi at ck2;go_wp2_with fail;refine(AC _ _ HRO.out.e).mono ?_;rintro e W2 ⟨rfl,rfl⟩;go_wp2_with fail;refine(AA _ _ HRO.out.e).mono ?_;rintro e W2 ⟨rfl,rfl⟩;go_wp2_with fail;refine(CZ _ _ HRO.out.e).mono ?_;rintro e W2 ⟨rfl,rfl⟩;go_wp2_with fail;refine(AD _ _ HRO.out.a).mono ?_;rintro e W2 ⟨rfl,rfl⟩
      go_wp2_with fail;refine(Az _ _ HRO.out.a).mono ?_;rintro e W2 ⟨rfl,rfl⟩;go_wp2_with fail;refine(Au _ _ HRO.out.a).mono ?_;rintro e W2 ⟨rfl,rfl⟩;go_wp2_with fail;refine aA [some 21] (by kernel_rfl) (by kernel_rfl) (by kernel_rfl) ?_;simp only[bz,List.take_succ_cons,List.take_zero]
      repeat (first | (refine aD rfl ?_; simp only[Act.put,aH,aI,aJ]) | (refine aM rfl (fun K hK=> ?_); go_simp; refine hK _ ?_; clear hK K))
      refine aL ?_;go_wp2_with fail
      go_roundw
      case rel=>
       rw[EU HRO.out,Ec HRO.out,ET HRO.out,EI HRO.out];refine⟨t+1,Aq r k x,by omega,by simp, ?_, ?_,rfl,rfl,rfl, ?_,rfl,rfl,rfl, ?_⟩
       ·rw[CV bs v h65,HRT.out,HKX.out.1,HKX.out.2]
       ·show _=Value.int .u32 (((t1P r k x+t2P r)%4294967296:Nat):Int)
        exact congrArg (Value.int .u32) (by rw[Dt,Gb]; omega)
       ·show _=Value.int .u32 (((r.d+t1P r k x)%4294967296:Nat):Int)
        exact congrArg (Value.int .u32) (by rw[Dt]; omega)
       ·exact HBQ.out.trans (Below.refl _ _).drew
      case measure=>simp[intOf]; omega
     ·obtain rfl:t=64:=by omega
      go_wp2_with (refine wpList_build rfl 101 _ rfl (by kernel_rfl) ?_);rw[show(Tryz.prog.built 101 [(0, .int .u32 (r.a:Int)),(1, .int .u32 (r.b:Int)),(2, .int .u32 (r.c:Int)),(3, .int .u32 (r.d:Int)),(4, .int .u32 (r.e:Int)),(5, .int .u32 (r.f:Int)),(6, .int .u32 (r.g:Int)),(7, .int .u32 (r.h:Int))]).getD #[]= #[.int .u32 (r.a:Int), .int .u32 (r.b:Int), .int .u32 (r.c:Int), .int .u32 (r.d:Int), .int .u32 (r.e:Int), .int .u32 (r.f:Int), .int .u32 (r.g:Int), .int .u32 (r.h:Int)] by kernel_rfl]
      have HM0:=ab (gr.start (r:=r) HB2.out HBQ.out)
      go_loopw [197] (fun i wq=> ∃j:Nat,j<=8/\i= .int .i64 (j:Int)/\gr sb v r tl ty W1 wq j) (fun i _=>8-(intOf i).toNat)
      case atStart=>exact⟨0,by omega,rfl,HM0.out⟩
      case round=>
       obtain⟨j,hj,rfl,hm⟩:=hrel;have HM:=ab hm;clear hm
       by_cases h8:j<8
       ·have cs:=HM.out.here h8;have cf:=HM.out.free j;have hI: ∀w,(Instr.index 101 (.agg #[.int .u32 (r.a:Int), .int .u32 (r.b:Int), .int .u32 (r.c:Int), .int .u32 (r.d:Int), .int .u32 (r.e:Int), .int .u32 (r.f:Int), .int .u32 (r.g:Int), .int .u32 (r.h:Int)]) (.int .i64 (j:Int))).run Tryz.prog w= .ok (.int .u32 ((r.list.getD j 0:Nat):Int)) w:=Cx r h8;have cv:wr.cell? ⟨vb,j,none⟩=some (.int .u32 ((v.list.getD j 0:Nat):Int)):=(cell_of_row wr _ _ _ _ _ (HM.out.keep HVB.out (by have:=HVL.out; omega))).trans (by rw[List.getElem?_toArray]; exact GC v h8)
        obtain⟨x,hx⟩: ∃x,x=r.list.getD j 0:=⟨_,rfl⟩;obtain⟨y,hy⟩: ∃y,y=v.list.getD j 0:=⟨_,rfl⟩;rw[<-hx]at hI;rw[<-hy]at cv cs;have HXY:=ab (And.intro hx hy);clear hx hy;have h8i:(j:Int)<8:=by omega
        go_wp2_with fail;refine aA [some 10,none] (by kernel_rfl) (by kernel_rfl) (by kernel_rfl) ?_;simp only[bz,List.take_succ_cons,List.take_zero,List.drop_succ_cons,List.drop_zero]
        repeat (first | (refine aD rfl ?_; simp only[Act.put,aH,aI,aJ]) | (refine aM rfl (fun K hK=> ?_); go_simp; refine hK _ ?_; clear hK K))
        refine aL ?_;refine bE rfl (fun K hK=> ?_);go_wp2_with fail
        go_roundw
        case rel=>
         refine⟨j+1,by omega,by simp, ?_⟩;exact(HM.out.put h8 (by rw[<-HXY.out.1,<-HXY.out.2]; unfold gi oG; simp)).drew
        case measure=>simp[intOf]; omega
       ·obtain rfl:j=8:=by omega
        go_wp2_with fail
        go_end0
        refine⟨rfl, ?_, ?_⟩
        ·rw[CR,<-HRT.out];have:=HM.out.box;rw[show CC v r 8=(BJ v r).list from rfl]at this;exact this
        ·have h1:=HA1.out.below;have h2:=HM.out.grown;exact⟨h2.os.trans h1.os,h2.tape.trans h1.tape,h2.output.trans h1.output,Nat.le_trans h1.size h2.size,fun k hk hn=>(h2.block k (Nat.lt_of_lt_of_le hk h1.size) hn).trans (h1.block k hk)⟩
end Go.Proofs.YtnjkpcalgoefhaaGreatDoor
namespace Go.Proofs.YtnjkpcalgoefhaaGreatDoor
open Go.RowKit
structure cY (P : Program) (t e : TypeId) (sz bytes : Nat) : Prop where
 ht:P.underlying t=some (.slice e)
 hi: ∃i z,P.info? e=some i/\i.zero=some z/\i.size=sz/\i.bytes=bytes/\z.cells.size=sz
 pos:0<sz
 small:bytes<=128
theorem cY.mk' {P:Program} {t e:TypeId} {sz bytes:Nat} {z:Value} (ht:P.underlying t=some (.slice e)) (hi:(P.info? e).map (fun i=>(i.zero,i.size,i.bytes))=some (some z,sz,bytes)) (hz:z.cells.size=sz) (hp:0<sz) (hb:bytes<=128):cY P t e sz bytes:=by
 obtain⟨i,h1,h2,h3,h4⟩:=info_parts hi;exact⟨ht,⟨i,z,h1,h2,h3,h4,hz⟩,hp,hb⟩
theorem nl {P:Program} (w:World) (base:Nat) (t ty e:TypeId) (i:TypeInfo) (z:Value) (size bytes:Nat) (ht:P.underlying t=some (.slice e)) (hi:P.info? e=some i) (hz:i.zero=some z)
  (hsize:i.size=size) (hby:i.bytes=bytes) (hzs:z.cells.size=size)
  (v:Value) (n:Nat) (xs:List Value) (hown:w.ownsRow base e size v n xs)
  (a:Addr) (m c:Nat) (news:List Value) (hl:news.length=m*size) (hm0:0<m) (hnews: ∀j u,news[j]? =some u->w.cell? (a.add j)=some u) (h1: ∀u∈news,u.oneCell'=true)
  (h63:n+m<=maxLen) (hbytes:(n+m)*bytes<=140737488355328) {v':Value} {w':World}
  (hrun:(Builtin.append_ #[t,t] ty #[v, .slice (some a) m c]).run P w= .ok v' w'):v'.ownBlock=v.ownBlock\/v'.ownBlock=some w.heap.size:=by
 subst hsize;subst hby
 have hsmall:n+m<=9223372036854775807:=by simp only[maxLen]at h63; omega
 rcases hown.2 with⟨rfl,rfl⟩ | ⟨g,cap,cur,rfl,hbg,hg,hnc,hcm,hcs,htake⟩
 ·have hx:xs=[]:=List.eq_nil_of_length_eq_zero (by simpa using hown.1);subst hx;have hr:=run_append_nil (P:=P) w t ty e i z ht hi hz a m c news hl hnews (by omega) (by omega) (by have hb:=hbytes; simp only[Nat.zero_add]at hb; omega);rw[hr]at hrun
  cases hrun
  exact .inr rfl
 ·by_cases hroom:n+m<=cap
  ·have hfit:n*i.size+news.length<=cur.size:=by rw[hl,hcs,<-Nat.add_mul]; exact Nat.mul_le_mul_right _ hroom
   have hr:=run_append_room (P:=P) w t ty e i ht hi g n cap cur hg a m c news hl hnews h1 hroom hfit;rw[hr]at hrun
   cases hrun
   exact .inl rfl
  ·have holds: ∀j u,xs[j]? =some u->w.cell? ((⟨g,0,none⟩:Addr).add j)=some u:=hown.cells (g:=g) rfl;have hr:=run_append_grow (P:=P) w t ty e i z ht hi hz ⟨g,0,none⟩ n cap xs hown.1 holds a m c news hl hnews (by omega) (by omega) (growslice_fits (by omega) hbytes);rw[hr]at hrun
   cases hrun
   exact .inr rfl
theorem bK {P:Program} {ops:Array Oper} {rest:List Oper} {o:Oper} {a:Act} {Q:Exit->Act->World->Prop} {t e:TypeId} {sz bytes:Nat} (T:cY P t e sz bytes) (hgd:o.guard=none) (s x:Operand)
  (ho:o.op= .call {callee:= .builtin .append,args:= #[s,x],argTypes:= #[t,t]}) (base:Nat) (v:Value) (n:Nat) (xs:List Value) (hs:a.eval s=v) (w0:World) (news:List Value) (e2:TypeId)
  (hx:a.eval x= .slice (some ⟨w0.heap.size,0,none⟩) 1 1) (hl:news.length=sz) (h1: ∀u∈news,u.oneCell'=true) (hown:w0.ownsRow base e sz v n xs) (hn:n<1099511627775) (hbase:base<=w0.heap.size)
  (h: ∀v' w',w'.ownsRow base e sz v' (n+1) (xs++news)->w0.grownBy w' v.ownBlock->v'≠ .slice none 0 0->(∀k,v'.ownBlock=some k->v.ownBlock=some k\/w0.heap.size<=k)->wpList P ops Q rest (a.put o.dst v') w'):wpList P ops Q (o::rest) a (w0.alloc (.cells news.toArray e2)):=by
 obtain⟨ht,⟨i,z,h11,h12,h13,h14,h15⟩,hpos,hsm⟩:=T;have hnews: ∀(j:Nat) u,news[j]? =some u->(w0.alloc (.cells news.toArray e2)).cell? ((⟨w0.heap.size,0,none⟩:Addr).add j)=some u:=by
  intro j u hj;have hadd:(⟨w0.heap.size,0,none⟩:Addr).add j=⟨w0.heap.size,j,none⟩:=by unfold Addr.add; split<;> simp_all
  rw[hadd];have hh:=heap_alloc_new w0 (.cells news.toArray e2);simp only[World.cell?,hh];simp[hj]
 have h63:n+1<=maxLen:=by unfold maxLen; omega
 have hby:(n+1)*bytes<=140737488355328:=by
  have:(n+1)*bytes<=1099511627775*128:=Nat.mul_le_mul (by omega) hsm;omega
 have hl1:news.length=1*sz:=by rw[hl,Nat.one_mul]
 obtain⟨v',w',hr,h2,hg,hv⟩:=run_append_own (P:=P) (w0.alloc (.cells news.toArray e2)) base t o.type e i z sz bytes ht h11 h12 h13 h14 h15 hpos v n xs (hown.alloc _) ⟨w0.heap.size,0,none⟩ 1 1 news hl1 hnews h1 h63 hby (by simp; omega);have hpl:=nl (P:=P) (w0.alloc (.cells news.toArray e2)) base t o.type e i z sz bytes ht h11 h12 h13 h14 h15 v n xs (hown.alloc _) ⟨w0.heap.size,0,none⟩ 1 1 news hl1 (by omega) hnews h1 h63 hby hr
 refine wpList_plain hgd fun K hK=> ?_
 unfold Oper.wp execOp;simp only[ho,resolve,invoke,builtin,Sem.run_bind,Sem.run_pure,Result.andThen_ok,List.map_toArray,List.map_cons,List.map_nil,hs,hx,hr];refine hK _ _ (h v' w' h2 ⟨hg.os,hg.tape,hg.output,by have:=hg.size; simp at this; omega,fun k hk hne=> ?_⟩ (fun e=>by have:=(hv.1 e).2; omega) ?_)
 ·rw[hg.block k (by simp; omega) hne];exact Below.heap_alloc _ _ _ hk
 ·intro k hk
  rcases hpl with hp | hp
  ·left; rw[<-hp]; exact hk
  ·right; rw[hp]at hk; cases hk; simp
theorem dB {P:Program} {ops:Array Oper} {rest:List Oper} {o:Oper} {a:Act} {Q:Exit->Act->World->Prop} {t e:TypeId} {sz bytes:Nat} (T:cY P t e sz bytes) (hgd:o.guard=none) (s x:Operand)
  (ho:o.op= .call {callee:= .builtin .append,args:= #[s,x],argTypes:= #[t,t]}) (base:Nat) (v:Value) (n:Nat) (xs:List Value) (hs:a.eval s=v) (w0:World) (news:List Value) (e2:TypeId)
  (hx:a.eval x= .slice (some ⟨w0.heap.size,0,none⟩) 1 1) (hl:news.length=sz) (h1: ∀u∈news,u.oneCell'=true) (hown:w0.ownsRow base e sz v n xs) (hn:n<1099511627775) (hbase:base<=w0.heap.size)
  (h: ∀v' w',w'.ownsRow base e sz v' (n+1) (xs++news)->w0.grownBy w' v.ownBlock->v'≠ .slice none 0 0->wpList P ops Q rest (a.put o.dst v') w'):wpList P ops Q (o::rest) a (w0.alloc (.cells news.toArray e2)):=
 bK T hgd s x ho base v n xs hs w0 news e2 hx hl h1 hown hn hbase fun v' w' h2 h3 h4 _=>h v' w' h2 h3 h4
theorem bp {w:World} {base:Nat} {e:TypeId} {sz:Nat} {v:Value} {n:Nat} {xs:List Value} (h:w.ownsRow base e sz v n xs):aS (fun k=>base<=k/\v.ownBlock=some k) w sz v n xs:=by
 obtain⟨hl,h2⟩:=h
 rcases h2 with⟨rfl,rfl⟩ | ⟨g,cap,cur,rfl,hg,hh,hn,hcap,hsz,htake⟩
 ·exact⟨hl,none,0,rfl,Nat.le_refl _,by unfold maxLen; omega, .inl rfl⟩
 ·refine⟨hl,_,cap,rfl,hn,hcap, .inr ⟨g,0,rfl,⟨hg,rfl⟩,fun j u hj=> ?_⟩⟩;rw[Nat.zero_add,cell_of_row w g j cur e (0,0) hh];rw[<-htake,List.getElem?_take]at hj
  split at hj
  ·simpa using hj
  ·cases hj
theorem aS.weak {S T:Nat->Prop} {w:World} {sz:Nat} {v:Value} {n:Nat} {cells:List Value} (h:aS S w sz v n cells) (hs: ∀k,S k->T k):aS T w sz v n cells:=by
 obtain⟨hl,a,cap,hv,hn,hm,h0⟩:=h;refine⟨hl,a,cap,hv,hn,hm, ?_⟩
 rcases h0 with h0 | ⟨b,o,ha,hb,hc⟩
 ·exact .inl h0
 ·exact .inr ⟨b,o,ha,hs b hb,hc⟩
theorem aZ {B:Nat} {w0 w w':World} {base:Nat} {e:TypeId} {sz:Nat} {v:Value} {n:Nat} {xs:List Value} (hb:Below B w0 w) (ho:w.ownsRow base e sz v n xs) (hg:w.grownBy w' v.ownBlock) (h1:B<=base) (h2:B<=w.heap.size):Below B w0 w':=
 hb.grown hg h2 (fun k hk=>by have:=(ho.lt k hk).1; omega)
theorem au {w:World} {base:Nat} {e:TypeId} {sz:Nat} {v:Value} {n:Nat} {xs:List Value} (h:w.ownsRow base e sz v n xs): ∃a cap,v= .slice a n cap/\n<=cap/\cap<=maxLen:=by
 obtain⟨_,h2⟩:=h
 rcases h2 with⟨rfl,rfl⟩ | ⟨g,cap,cur,rfl,hg,hh,hn,hcap,hsz,htake⟩
 ·exact⟨_,_,rfl,Nat.le_refl _,by unfold maxLen; omega⟩
 ·exact⟨_,_,rfl,hn,hcap⟩
theorem Tryz.appStrings :cY Tryz.prog 78 9 1 16:=cY.mk' (z:= .string ByteArray.empty) Tryz.underlying78 (by kernel_rfl) rfl (by decide) (by decide)
def bB {α:Type} (R:List Value->α->Prop):List Value->List α->Prop
 | cells,[]=>cells=[]
 | cells,x::xs=> ∃c rest,cells=c++rest/\R c x/\bB R rest xs
section
variable {α : Type} {R R' : List Value → α → Prop} {sz : Nat}
theorem bB.mono : ∀ {xs:List α} {cells:List Value},(∀c x,x∈xs->R c x->R' c x)->bB R cells xs->bB R' cells xs
 | [],_,_,h=>h
 | x::xs,cells,hm,h=>by
  obtain⟨c,rest,rfl,hc,hr⟩:=h;exact⟨c,rest,rfl,hm c x (by simp) hc,bB.mono (fun c y hy=>hm c y (by simp[hy])) hr⟩
theorem bB.snoc : ∀ {xs:List α} {cells c:List Value} {x:α},bB R cells xs->R c x->bB R (cells++c) (xs++[x])
 | [],cells,c,x,h,hc=>by
  have:cells=[]:=h;subst this;exact⟨c,[],by simp,hc,rfl⟩
 | y::xs,cells,c,x,h,hc=>by
  obtain⟨d,rest,rfl,hd,hr⟩:=h;exact⟨d,rest++c,by simp,hd,bB.snoc hr hc⟩
theorem bB.len (hs: ∀c x,R c x->c.length=sz): ∀ {xs:List α} {cells:List Value},bB R cells xs->cells.length=xs.length*sz
 | [],cells,h=>by have:cells=[]:=h; subst this; simp
 | x::xs,cells,h=>by
  obtain⟨c,rest,rfl,hc,hr⟩:=h;rw[List.length_append,hs c x hc,bB.len hs hr,List.length_cons,Nat.add_mul]; omega
theorem bB.get (hs: ∀c x,R c x->c.length=sz): ∀ {xs:List α} {cells:List Value} {i:Nat} {x:α},bB R cells xs->xs[i]? =some x-> ∃c,R c x/\ ∀j,j<sz->cells[i*sz+j]? =c[j]?
 | [],_,i,_,_,hi=>by simp at hi
 | y::xs,cells,0,x,h,hi=>by
  obtain⟨c,rest,rfl,hc,hr⟩:=h;simp at hi; subst hi;refine⟨c,hc,fun j hj=> ?_⟩;rw[Nat.zero_mul,Nat.zero_add,List.getElem?_append_left (by rw[hs c y hc]; exact hj)]
 | y::xs,cells,i+1,x,h,hi=>by
  obtain⟨c,rest,rfl,hc,hr⟩:=h;obtain⟨d,hd,hj⟩:=bB.get hs hr (i:=i) (x:=x) (by simpa using hi);refine⟨d,hd,fun j hjs=> ?_⟩;have hl:=hs c y hc;rw[List.getElem?_append_right (by rw[hl,Nat.add_mul]; omega),hl,<-hj j hjs]
  congr 1
  rw[Nat.add_mul]; omega
theorem bB.drop (hs: ∀c x,R c x->c.length=sz): ∀ {xs:List α} {cells:List Value} (i:Nat),bB R cells xs->i<=xs.length->bB R (cells.drop (i*sz)) (xs.drop i)
 | _,_,0,h,_=>by simpa using h
 | [],_,i+1,_,hi=>by simp at hi
 | y::xs,cells,i+1,h,hi=>by
  obtain⟨c,rest,rfl,hc,hr⟩:=h;have:=bB.drop hs i hr (by simpa using hi);rw[List.drop_succ_cons,Nat.add_mul,Nat.one_mul,Nat.add_comm,List.drop_append,hs c y hc];simp only[Nat.add_sub_cancel_left];rw[List.drop_of_length_le (by rw[hs c y hc]; omega)];exact this
end
def aY {α:Type} (S:Nat->Prop) (w:World) (sz:Nat) (R:List Value->α->Prop) (v:Value) (xs:List α):Prop:=
 ∃cells,aS S w sz v xs.length cells/\bB R cells xs
section
variable {α : Type} {S T : Nat → Prop} {w w' : World} {sz : Nat} {R R' : List Value → α → Prop} {v : Value} {xs : List α}
theorem aY.shape (h:aY S w sz R v xs) (hs: ∀c x,R c x->c.length=sz):
  ∃a cap,v= .slice a xs.length cap/\xs.length<=cap/\cap<=maxLen/\ ∀(k:Nat) x,xs[k]? =some x-> ∃b o c,a=some ⟨b,o,none⟩/\S b/\R c x/\c.length=sz/\ ∀j,j<sz->w.cell? ⟨b,o+(k*sz+j),none⟩=c[j]? :=by
 obtain⟨cells,⟨hl,a,cap,hv,hn,hm,h0⟩,hr⟩:=h;refine⟨a,cap,hv,hn,hm,fun k x hk=> ?_⟩
 rcases h0 with h0 | ⟨b,o,ha,hb,hc⟩
 ·simp[List.eq_nil_of_length_eq_zero h0]at hk
 ·obtain⟨c,hcx,hj⟩:=hr.get hs hk;refine⟨b,o,c,ha,hb,hcx,hs c x hcx,fun j hjs=> ?_⟩;have hlt:j<c.length:=by rw[hs c x hcx]; exact hjs
  rw[List.getElem?_eq_getElem hlt];exact hc _ _ (by rw[hj j hjs,List.getElem?_eq_getElem hlt])
theorem aY.same (h:aY S w sz R v xs) (hs:fB S w w') (hR: ∀c x,x∈xs->R c x->R' c x):aY S w' sz R' v xs:=by
 obtain⟨cells,h1,h2⟩:=h;exact⟨cells,h1.same hs,h2.mono hR⟩
theorem aY.below (h:aY S w sz R v xs) (hsz:0<sz) (hb:Below w.heap.size w w') (hR: ∀c x,x∈xs->R c x->R' c x):aY S w' sz R' v xs:=by
 obtain⟨cells,h1,h2⟩:=h;exact⟨cells,h1.below hsz hb,h2.mono hR⟩
theorem aY.mono (h:aY S w sz R v xs) (hsz:0<sz) (hs: ∀k,k<w.heap.size->S k->T k) (hR: ∀c x,x∈xs->R c x->R' c x):aY T w sz R' v xs:=by
 obtain⟨cells,h1,h2⟩:=h;exact⟨cells,h1.mono hs hsz,h2.mono hR⟩
theorem aY.nil :aY S w sz R (.slice none 0 0) ([]:List α):=⟨[],aS.nil _ _ _,rfl⟩
end
theorem sX (b o n:Nat):(⟨b,o,none⟩:Addr).add n=⟨b,o+n,none⟩:=by unfold Addr.add; split<;> simp_all
open Go Go.RowKit
theorem ol {P:Program} {w:World} (base:Nat) (t ty e:TypeId) (i:TypeInfo) (size:Nat) (ht:P.underlying t=some (.slice e)) (hi:P.info? e=some i)
  (v:Value) (n:Nat) (xs:List Value) (hown:w.ownsRow base e size v n xs) (a:Option Addr) (c:Nat):
  (Builtin.append_ #[t,t] ty #[v, .slice a 0 c]).run P w= .ok v w:=by
 rcases hown.2 with⟨rfl,rfl⟩ | ⟨g,cap,cur,rfl,_,_,hnc,_⟩
 ·cases a<;> simp[Builtin.append_,run_underlying ht,sizeOf,typeInfo,hi,Builtin.lenOf,Builtin.firstCells,loadCells,loadCellsFrom]
 ·cases a<;> simp[Builtin.append_,run_underlying ht,sizeOf,typeInfo,hi,Builtin.lenOf,Builtin.firstCells,hnc,storeCells,loadCells,loadCellsFrom]
theorem bI {P:Program} {ops:Array Oper} {rest:List Oper} {o:Oper} {a:Act} {Q:Exit->Act->World->Prop} {w:World} {t e:TypeId} {sz bytes:Nat} {S:Nat->Prop} (T:cY P t e sz bytes) (hgd:o.guard=none) (s x:Operand)
  (ho:o.op= .call {callee:= .builtin .append,args:= #[s,x],argTypes:= #[t,t]}) (base:Nat) (v:Value) (n:Nat) (xs:List Value) (hs:a.eval s=v) (hown:w.ownsRow base e sz v n xs) (vx:Value) (m:Nat) (news:List Value)
  (hx:a.eval x=vx) (hrow:aS S w sz vx m news) (h1: ∀u∈news,u.oneCell'=true) (hn:n+m<1099511627775) (hbase:base<=w.heap.size)
  (h: ∀v' w',w'.ownsRow base e sz v' (n+m) (xs++news)->w.grownBy w' v.ownBlock->wpList P ops Q rest (a.put o.dst v') w'):wpList P ops Q (o::rest) a w:=by
 obtain⟨ht,⟨i,z,h11,h12,h13,h14,h15⟩,hpos,hsm⟩:=T;obtain⟨hl,ad,cap,rfl,_,_,h0⟩:=hrow;refine wpList_plain hgd fun K hK=> ?_
 have hz:m=0->o.wp P a w K Q:=by
  rintro rfl;have hn0:news=[]:=List.eq_nil_of_length_eq_zero (by rw[hl]; simp);subst hn0;have hrun:=ol (P:=P) (w:=w) base t o.type e i sz ht h11 v n xs hown ad cap;unfold Oper.wp execOp;simp only[ho,resolve,invoke,builtin,Sem.run_bind,Sem.run_pure,Result.andThen_ok,List.map_toArray,List.map_cons,List.map_nil,hs,hx,hrun];exact hK _ _ (h v w (by simpa using hown) ⟨rfl,rfl,rfl,Nat.le_refl _,fun _ _ _=>rfl⟩)
 rcases h0 with h0 | ⟨b,of,rfl,_,hc⟩
 ·exact hz h0
 ·have hnews: ∀(j:Nat) u,news[j]? =some u->w.cell? ((⟨b,of,none⟩:Addr).add j)=some u:=fun j u hj=>by rw[sX]; exact hc j u hj
  have h63:n+m<=maxLen:=by unfold maxLen; omega
  have hby:(n+m)*bytes<=140737488355328:=by
   have:(n+m)*bytes<=1099511627775*128:=Nat.mul_le_mul (by omega) hsm;omega
  obtain⟨v',w',hr,h2,hg,_⟩:=run_append_own (P:=P) w base t o.type e i z sz bytes ht h11 h12 h13 h14 h15 hpos v n xs hown ⟨b,of,none⟩ m cap news hl hnews h1 h63 hby hbase;unfold Oper.wp execOp;simp only[ho,resolve,invoke,builtin,Sem.run_bind,Sem.run_pure,Result.andThen_ok,List.map_toArray,List.map_cons,List.map_nil,hs,hx,hr];exact hK _ _ (h v' w' h2 hg)
end Go.Proofs.YtnjkpcalgoefhaaGreatDoor
namespace Go.Proofs.YtnjkpcalgoefhaaGreatDoor
open Go
section
variable {P : Program} {ops : Array Oper} {Q : Exit → Act → World → Prop} {S : World → Prop}
@[irreducible] def tU (P:Program) (ops:Array Oper) (Q:Exit->Act->World->Prop) (S:World->Prop) (fuel:Nat) (listed:Array Bool) (a:Act) (w:World):Prop:=wpAnyH P .any ops Q S fuel listed a w
theorem tU.of {fuel:Nat} {listed:Array Bool} {a:Act} {w:World} (h:wpAnyH P .any ops Q S fuel listed a w):tU P ops Q S fuel listed a w:=by unfold tU; exact h
theorem tU.out {fuel:Nat} {listed:Array Bool} {a:Act} {w:World} (h:tU P ops Q S fuel listed a w):wpAnyH P .any ops Q S fuel listed a w:=by unfold tU at h; exact h
theorem cX {id:Nat} {a:Act} {w:World} {l:List Oper} (S:World->Prop) (hm:P.follows .mixedOrders=true) (h:tU P l.toArray Q S l.length (Array.replicate l.length false) a w.drew):(Code.region id l.toArray true).wp P Q a w:=by
 refine wp_region_held (S:=S) hm ?_;have:=h.out
 simpa using this
theorem ag {dst:Option Tmp} {op:Op} {ty:TypeId} {pos:String} {aft:Array Edge} {g:Option (Nat×Bool)} {v:Value} {fuel:Nat} {listed:Array Bool} {a:Act} {w:World} (i:Nat) (hi:ops[i]? =some ⟨dst,op,ty,pos,aft,g⟩)
  (hs:Region.noSelect ops=true) (hf:Region.free .any ops listed i=true) (hr:(Region.ready .any ops listed).contains i=true)
  (hQ: ∀c a w,Q (.panic c) (a.put dst v) w->Q (.panic c) a w) (hw:Region.wanted ⟨dst,op,ty,pos,aft,g⟩ (yielded ops a.tmps)=true) (hS:S w)
  (hy: ∀w',S w'->(execOp a.eval ⟨dst,op,ty,pos,aft,g⟩).run P w'= .ok (.value v) w')
  (h:tU P ops Q S fuel (listed.setIfInBounds i true) (a.put dst v) w):tU P ops Q S (fuel+1) listed a w:=
 tU.of (wpAnyH_take (oi:=⟨dst,op,ty,pos,aft,g⟩) hi hs hf hr hQ (.inl ⟨hw,hy⟩) hS h.out)
theorem aC {dst:Option Tmp} {op:Op} {ty:TypeId} {pos:String} {aft:Array Edge} {g:Option (Nat×Bool)} {fuel:Nat} {listed:Array Bool} {a:Act} {w:World} (i:Nat) (hi:ops[i]? =some ⟨dst,op,ty,pos,aft,g⟩) (hr:Region.ready .any ops listed=[i])
  (hw:Region.wanted ⟨dst,op,ty,pos,aft,g⟩ (yielded ops a.tmps)=true)
  (h: ∀K:Act->World->Prop,(∀a w,S w/\tU P ops Q S fuel (listed.setIfInBounds i true) a w->K a w)->wpList P #[] (Exit.then K Q) [⟨dst,op,ty,pos, #[],none⟩] a w):tU P ops Q S (fuel+1) listed a w:=by
 refine tU.of (wpAnyH_all hr (by simp) fun j hj=> ?_);have hji:j=i:=by simpa using hj
 subst hji;have hb:wB P ops (fun a' w'=>S w'/\wpAnyH P .any ops Q S fuel (listed.setIfInBounds j true) a' w') Q [⟨dst,op,ty,pos,aft,g⟩] a w:=
  bE hw (fun K hK=>h K (fun a w hh=>hK a w ⟨hh.1,hh.2.out⟩))
 unfold wpOp;simp only[hi];exact wB.out hb
theorem bu {listed:Array Bool} {a:Act} {w:World} {fuel:Nat} (hr:Region.ready .any ops listed=[]) (h:Q .normal a w):tU P ops Q S fuel listed a w:=tU.of (wpAnyH_done hr h fuel)
end
end Go.Proofs.YtnjkpcalgoefhaaGreatDoor
namespace Go.Proofs.YtnjkpcalgoefhaaGreatDoor
open Go.RowKit
theorem ai {w:World} {b k:Nat} {cs:Array Value} {t:TypeId} {z:Nat×Nat} (h:w.heap[b]? =some (.cells cs t z)):w.cell? ⟨b,k,none⟩=cs[k]? :=by simp[World.cell?,h]
theorem aO {w:World} {b k:Nat} {cs:Array Value} {t:TypeId} (h:w.heap[b]? =some (.cells cs t (0,0))):w.frozen? ⟨b,k,none⟩=false:=by simp[World.frozen?,h]
def aN (b:UInt8):Value:= .int .u8 (b.toNat:Int)
structure aW (w : World) (rb : Nat) (v : Value) (data : List UInt8) (off last : Nat) (err : Int) : Prop where
 box:w.heap[rb]? =some (.cells #[v, .int .i64 (off:Int), .int .i64 (last:Int), .int .i64 err] 161 (0,0))
 row:aS (· ≠rb) w 1 v data.length (data.map aN)
 le:off<=data.length
 ls:last<=data.length
 small:data.length<=32768
theorem EZ {w:World} {b:Nat} {a0 a1 a2 a3 x:Value} {t:TypeId} (h:w.heap[b]? =some (.cells #[a0,a1,a2,a3] t (0,0))):(w.setCell ⟨b,1,none⟩ x).heap[b]? =some (.cells #[a0,x,a2,a3] t (0,0)):=by
 simp only[World.setCell,Array.getElem?_modify,if_true,h,Option.map_some]; rfl
theorem Fa {w:World} {b:Nat} {a0 a1 a2 a3 x:Value} {t:TypeId} (h:w.heap[b]? =some (.cells #[a0,a1,a2,a3] t (0,0))):(w.setCell ⟨b,2,none⟩ x).heap[b]? =some (.cells #[a0,a1,x,a3] t (0,0)):=by
 simp only[World.setCell,Array.getElem?_modify,if_true,h,Option.map_some]; rfl
theorem Fb {w:World} {b:Nat} {a0 a1 a2 a3 x:Value} {t:TypeId} (h:w.heap[b]? =some (.cells #[a0,a1,a2,a3] t (0,0))):(w.setCell ⟨b,3,none⟩ x).heap[b]? =some (.cells #[a0,a1,a2,x] t (0,0)):=by
 simp only[World.setCell,Array.getElem?_modify,if_true,h,Option.map_some]; rfl
theorem aW.c0 {w:World} {rb:Nat} {v:Value} {data:List UInt8} {off last:Nat} {err:Int} (h:aW w rb v data off last err):w.cell? ⟨rb,0,none⟩=some v:=by rw[ai h.box]; rfl
theorem aW.c1 {w:World} {rb:Nat} {v:Value} {data:List UInt8} {off last:Nat} {err:Int} (h:aW w rb v data off last err):w.cell? ⟨rb,1,none⟩=some (.int .i64 (off:Int)):=by rw[ai h.box]; rfl
theorem aW.c2 {w:World} {rb:Nat} {v:Value} {data:List UInt8} {off last:Nat} {err:Int} (h:aW w rb v data off last err):w.cell? ⟨rb,2,none⟩=some (.int .i64 (last:Int)):=by rw[ai h.box]; rfl
theorem aW.c3 {w:World} {rb:Nat} {v:Value} {data:List UInt8} {off last:Nat} {err:Int} (h:aW w rb v data off last err):w.cell? ⟨rb,3,none⟩=some (.int .i64 err):=by rw[ai h.box]; rfl
theorem aW.free {w:World} {rb:Nat} {v:Value} {data:List UInt8} {off last:Nat} {err:Int} (h:aW w rb v data off last err) (k:Nat):w.frozen? ⟨rb,k,none⟩=false:=aO h.box
theorem aW.set1 {w:World} {rb:Nat} {v:Value} {data:List UInt8} {off last:Nat} {err:Int} (h:aW w rb v data off last err) (o:Nat) (ho:o<=data.length):aW (w.setCell ⟨rb,1,none⟩ (.int .i64 (o:Int))) rb v data o last err:=
 ⟨EZ h.box,h.row.same (fun _ hk=>Below.heap_setCell _ _ _ _ hk),ho,h.ls,h.small⟩
theorem aW.set2 {w:World} {rb:Nat} {v:Value} {data:List UInt8} {off last:Nat} {err:Int} (h:aW w rb v data off last err) (o:Nat) (ho:o<=data.length):aW (w.setCell ⟨rb,2,none⟩ (.int .i64 (o:Int))) rb v data off o err:=
 ⟨Fa h.box,h.row.same (fun _ hk=>Below.heap_setCell _ _ _ _ hk),h.le,ho,h.small⟩
theorem aW.set3 {w:World} {rb:Nat} {v:Value} {data:List UInt8} {off last:Nat} {err:Int} (h:aW w rb v data off last err) (e:Int):aW (w.setCell ⟨rb,3,none⟩ (.int .i64 e)) rb v data off last e:=
 ⟨Fb h.box,h.row.same (fun _ hk=>Below.heap_setCell _ _ _ _ hk),h.le,h.ls,h.small⟩
theorem aW.lt {w:World} {rb:Nat} {v:Value} {data:List UInt8} {off last:Nat} {err:Int} (h:aW w rb v data off last err):rb<w.heap.size:=lt_of_block h.box
theorem aW.below {w w':World} {rb:Nat} {v:Value} {data:List UInt8} {off last:Nat} {err:Int} (h:aW w rb v data off last err) (hb:Below w.heap.size w w'):aW w' rb v data off last err:=
 ⟨by rw[hb.block _ h.lt]; exact h.box,h.row.below (by omega) hb,h.le,h.ls,h.small⟩
theorem aG (w:World) (b o:Nat) (x:Value):w.grownBy (w.setCell ⟨b,o,none⟩ x) (some b):=
 ⟨rfl,rfl,rfl,by simp[World.setCell],fun k hk hne=>Below.heap_setCell _ _ _ _ (fun e=>hne (by simpa using e))⟩
theorem aR {a b c:World} {r:Option Nat} (h:a.grownBy b r) (k:b.grownBy c r):a.grownBy c r:=
 ⟨k.os.trans h.os,k.tape.trans h.tape,k.output.trans h.output,Nat.le_trans h.size k.size,fun i hi hne=>(k.block i (Nat.lt_of_lt_of_le hi h.size) hne).trans (h.block i hi hne)⟩
theorem jf (w:World) (r:Option Nat):w.grownBy w r:=⟨rfl,rfl,rfl,Nat.le_refl _,fun _ _ _=>rfl⟩
theorem aW.draws {w:World} {rb:Nat} {v:Value} {data:List UInt8} {off last:Nat} {err:Int} (h:aW w rb v data off last err) (n:Nat):aW (w.drewN n) rb v data off last err:=h.below (cu (Below.refl _ _) n)
theorem bZ {a w:World} {r:Option Nat} (h:a.grownBy w r) (n:Nat):a.grownBy (w.drewN n) r:=aR h ⟨rfl,rfl,rfl,Nat.le_refl _,fun _ _ _=>rfl⟩
theorem aW.shape {w:World} {rb:Nat} {v:Value} {data:List UInt8} {off last:Nat} {err:Int} (h:aW w rb v data off last err): ∃a cap,v= .slice a data.length cap/\data.length<=cap/\cap<=maxLen/\
  ∀(k:Nat) b,data[k]? =some b-> ∃bk o,a=some ⟨bk,o,none⟩/\bk≠rb/\w.cell? ⟨bk,o+k,none⟩=some (aN b):=by
 obtain⟨_,a,cap,hv,hn,hm,h0⟩:=h.row;refine⟨a,cap,hv,hn,hm,fun k b hk=> ?_⟩
 rcases h0 with h0 | ⟨bk,o,ha,hb,hc⟩
 ·simp[List.eq_nil_of_length_eq_zero h0]at hk
 ·exact⟨bk,o,ha,hb,hc k _ (by simp[hk])⟩
def qS (m:Nat) (b:UInt8) (k:Nat):Nat:=m ||| (b.toNat%128*2^(7*k)%18446744073709551616)
theorem tG {m:Nat} (b:UInt8) (k:Nat) (h:m<18446744073709551616):qS m b k<18446744073709551616:=by
 unfold qS;exact Nat.or_lt_two_pow (n:=64) h (Nat.mod_lt _ (by decide))
theorem Ac (m:Nat) (b:UInt8) (k:Nat) (h:m<18446744073709551616):bits BinOp.or IntKind.u64 (m:Int) (IntKind.u64.wrap (IntKind.u64.wrap (bits BinOp.and IntKind.u8 (b.toNat:Int) 127)*2^(7*k)))=(qS m b k:Int):=by
 have hb:=b.toNat_lt;rw[show(127:Int)=((127:Nat):Int)from rfl,u8_and_nat _ _ hb (by omega),show(127:Nat)=2^7-1 from rfl,Nat.and_two_pow_sub_one_eq_mod,IntKind.wrap_u64,IntKind.wrap_u64,
  show((2:Int)^(7*k))=((2^(7*k):Nat):Int) by push_cast; rfl]
 have e:((((b.toNat%2^7:Nat):Int)%18446744073709551616)*((2^(7*k):Nat):Int))%18446744073709551616=((b.toNat%128*2^(7*k)%18446744073709551616:Nat):Int):=by
  rw[show(((b.toNat%2^7:Nat):Int)%18446744073709551616)=((b.toNat%128:Nat):Int) by omega]
  show _%((18446744073709551616:Nat):Int)=_
  rw[<-Int.natCast_mul,<-Int.natCast_emod]
 rw[e,bits_or_u64_nat _ _ h (Nat.mod_lt _ (by decide))]; rfl
def iz (b:UInt8) (k:Nat):Bool:=(decide (0<k) && decide (b.toNat=0)) || (decide (k=9) && decide (1<b.toNat))
def iA (data:List UInt8):Nat->Nat->Nat->Nat->Except Int (Nat×Nat)
 | 0,_,_,_=> .error 3
 | f+1,k,o,m=>match data[o]? with
  | none=> .error 3
  | some b=>if 128<=b.toNat then iA data f (k+1) (o+1) (qS m b k)else if iz b k then .error 3 else .ok (qS m b k,o+1)
def ic (data:List UInt8) (off:Nat):Except Int (Nat×Nat):=iA data 10 0 off 0
theorem Ab {data:List UInt8} {f k o m:Nat} {b:UInt8} (h:data[o]? =some b) (h2:128<=b.toNat):iA data (f+1) k o m=iA data f (k+1) (o+1) (qS m b k):=by
 rw[iA,h]; simp only[if_pos h2]
theorem vl {data:List UInt8} {f k o m:Nat} {b:UInt8} (h:data[o]? =some b) (h2: ¬128<=b.toNat) (h3:iz b k=true):iA data (f+1) k o m= .error 3:=by
 rw[iA,h]; simp only[if_neg h2,if_pos h3]
theorem EL {data:List UInt8} {f k o m:Nat} {b:UInt8} (h:data[o]? =some b) (h2: ¬128<=b.toNat) (h3:iz b k=false):iA data (f+1) k o m= .ok (qS m b k,o+1):=by
 rw[iA,h]; simp only[if_neg h2,h3]; rfl
theorem CG {data:List UInt8} {f k o m:Nat} (h:data.length<=o):iA data f k o m= .error 3:=by
 cases f with
 | zero=>rfl
 | succ f=>rw[iA,List.getElem?_eq_none h]
theorem si (data:List UInt8): ∀(f k o m n o':Nat),m<18446744073709551616->iA data f k o m= .ok (n,o')->n<18446744073709551616/\o<o'/\o'<=data.length
 | 0,_,_,_,_,_,_,h=>by simp[iA]at h
 | f+1,k,o,m,n,o',hm,h=>by
  rw[iA]at h
  cases hd:data[o]? with
  | none=>rw[hd]at h; simp at h
  | some b=>
   have hl:=(List.getElem?_eq_some_iff.1 hd).1;rw[hd]at h;simp only at h
   split at h
   ·obtain⟨h1,h2,h3⟩:=si data f (k+1) (o+1) _ n o' (tG b k hm) h;exact⟨h1,by omega,h3⟩
   ·split at h
    ·simp at h
    ·simp only[Except.ok.injEq,Prod.mk.injEq]at h;obtain⟨rfl,rfl⟩:=h;exact⟨tG b k hm,by omega,by omega⟩
theorem rZ {data:List UInt8} {off n o':Nat} (h:ic data off= .ok (n,o')):n<18446744073709551616/\off<o'/\o'<=data.length:=si data 10 0 off 0 n o' (by decide) h
theorem vm (data:List UInt8): ∀(f k o m:Nat) (x:Int),iA data f k o m= .error x->x=3
 | 0,_,_,_,_,h=>by simp only[iA,Except.error.injEq]at h; exact h.symm
 | f+1,k,o,m,x,h=>by
  rw[iA]at h
  split at h
  ·simp only[Except.error.injEq]at h; exact h.symm
  ·split at h
   ·exact vm data f _ _ _ x h
   ·split at h
    ·simp only[Except.error.injEq]at h; exact h.symm
    ·simp at h
theorem pJ {data:List UInt8} {off:Nat} {x:Int} (h:ic data off= .error x):x=3:=vm data 10 0 off 0 x h
def DL (kd:IntKind) (w:World) (rb:Nat) (v:Value) (data:List UInt8) (last:Nat) (err:Int) (r:Except Int (Nat×Nat)) (e:Ending) (w':World):Prop:=
 ∃o',aW w' rb v data o' last err/\w.grownBy w' (some rb)/\match r with
  | .ok (n,o)=>e= .returned (.tuple #[.int kd (n:Int), .int .i64 0])/\o'=o
  | .error x=>e= .returned (.tuple #[.int kd 0, .int .i64 x])
theorem pL (rb:Nat) (v:Value) (data:List UInt8) (off last:Nat) (err:Int) (w:World) (hr:aW w rb v data off last err):
  Calls Tryz.prog 83 #[.pointer (some ⟨rb,0,none⟩)] w (DL .u64 w rb v data last err (ic data off)):=by
 obtain⟨a,cap,rfl,hc,hcm,-⟩:=hr.shape;unfold maxLen at hcm;have HR:=ab hr;clear hr
 go_enter Tryz.func83,Tryz.ntmps83
 go_wp2_with fail
 go_loopw [2,6] (fun n i wr=> ∃(k o m:Nat),k<=10/\i= .int .i64 k/\n= .int .u64 (m:Int)/\m<18446744073709551616/\aW wr rb (.slice a data.length cap) data o last err/\w.grownBy wr (some rb)/\iA data 10 0 off 0=iA data (10-k) k o m) (fun _ i _=>10-(intOf i).toNat)
 case atStart=>exact⟨0,off,0,Nat.zero_le _,rfl,rfl,by decide,HR.out,jf _ _,rfl⟩
 case round=>
  obtain⟨k,o,m,hk,rfl,rfl,hm,hrd,hg,hn⟩:=hrel;have HRD:=ab hrd;have HG:=ab hg;have HN:=ab hn;have HM:=ab hm;have hle:=hrd.le;have hsm:=hrd.small;have c0:=hrd.c0;have c1:=hrd.c1;have f1:=hrd.free 1;clear hg hn hm
  by_cases hlt:k<10
  ·obtain⟨f,hf⟩: ∃f,10-k=f+1:=⟨9-k,by omega⟩
   by_cases hol:o<data.length
   ·obtain⟨b,hb⟩: ∃b,data[o]? =some b:=⟨data[o],by simp[hol]⟩;have hb8:=b.toNat_lt;obtain⟨a2,cap2,hv2,_,_,hcell⟩:=hrd.shape
    cases hv2
    obtain⟨bk,ok,rfl,hbk,hcl⟩:=hcell o b hb;have HBB:=ab hb;clear hrd hcell hb;rw[hf]at HN;have hbits:=Ac m b k HM.out
    by_cases h128:128<=b.toNat
    ·go_wp2_with fail
     go_quiet (fail)
     go_wp2_with fail;clear c0 c1 f1;obtain⟨W,hWe⟩: ∃W,W=wr.drewN nq:=⟨_,rfl⟩;have hWr:=HRD.out.draws nq;have hWg:=bZ HG.out nq
     try rw[<-hWe]
     rw[<-hWe]at hWr hWg;clear HRD HG hWe;have HRD:=ab hWr;have HG:=ab hWg;have c0:=hWr.c0;have c1:=hWr.c1;have f1:=hWr.free 1;clear hWr hWg;have hcl2:W.cell? ⟨bk,ok+o,none⟩=some (.int .u8 (b.toNat:Int)):=by
      obtain⟨a2,cap2,hv2,_,_,hcell⟩:=HRD.out.shape
      cases hv2
      obtain⟨bk,ok,e,hbk,hcl⟩:=hcell o b HBB.out
      cases e
      exact hcl
     clear hcl
     go_quiet (fail)
     go_wp2_with fail;have h1:=(HRD.out.draws nq).set1 (o+1) (by omega);refine⟨⟨k+1,o+1,qS m b k,by omega,by go_num,rfl,tG b k HM.out,h1,aR (bZ HG.out nq) (aG _ _ _ _), ?_⟩,by simp[intOf]; omega⟩;rw[HN.out,Ab HBB.out h128]
     congr 1; omega
    ·cases hbad:iz b k
     ·have HBD:=ab hbad;simp only[iz,Bool.or_eq_false_iff,Bool.and_eq_false_iff,decide_eq_false_iff_not]at hbad;obtain⟨hb1,hb2⟩:=hbad;have HD:=ab (show k=0\/(k=9/\b.toNat<=1/\b.toNat≠0)\/(0<k/\k<9/\b.toNat≠0) by omega);clear hb1 hb2;go_wp2_with fail
      go_quiet (fail)
      go_wp2_with fail;clear c0 c1 f1;obtain⟨W,hWe⟩: ∃W,W=wr.drewN nq:=⟨_,rfl⟩;have hWr:=HRD.out.draws nq;have hWg:=bZ HG.out nq
      try rw[<-hWe]
      rw[<-hWe]at hWr hWg;clear HRD HG hWe;have HRD:=ab hWr;have HG:=ab hWg;have c0:=hWr.c0;have c1:=hWr.c1;have f1:=hWr.free 1;clear hWr hWg;have hcl2:W.cell? ⟨bk,ok+o,none⟩=some (.int .u8 (b.toNat:Int)):=by
       obtain⟨a2,cap2,hv2,_,_,hcell⟩:=HRD.out.shape
       cases hv2
       obtain⟨bk,ok,e,hbk,hcl⟩:=hcell o b HBB.out
       cases e
       exact hcl
      clear hcl
      go_quiet (fail)
      go_wp2_with fail
      all_goals first
       | (exfalso; have hd:=HD.out; omega)
       | (exfalso; have hd:=HD.out; rename_i hor; rcases hor with hor | hor<;> first | omega | (rw[beq_iff_eq]at hor; omega))
       | (
        go_ret2
        have h1:=(HRD.out.draws nq).set1 (o+1) (by omega);refine⟨o+1,h1,aR (bZ HG.out nq) (aG _ _ _ _), ?_⟩;rw[ic,HN.out];rw[EL HBB.out h128 HBD.out];exact⟨rfl,rfl⟩)
     ·have HBD:=ab hbad;simp only[iz,Bool.or_eq_true,Bool.and_eq_true,decide_eq_true_eq]at hbad
      rcases hbad with⟨h0,hz⟩ | ⟨rfl,h1⟩
      ·go_wp2_with fail
       go_quiet (fail)
       go_wp2_with fail;clear c0 c1 f1;obtain⟨W,hWe⟩: ∃W,W=wr.drewN nq:=⟨_,rfl⟩;have hWr:=HRD.out.draws nq;have hWg:=bZ HG.out nq
       try rw[<-hWe]
       rw[<-hWe]at hWr hWg;clear HRD HG hWe;have HRD:=ab hWr;have HG:=ab hWg;have c0:=hWr.c0;have c1:=hWr.c1;have f1:=hWr.free 1;clear hWr hWg;have hcl2:W.cell? ⟨bk,ok+o,none⟩=some (.int .u8 (b.toNat:Int)):=by
        obtain⟨a2,cap2,hv2,_,_,hcell⟩:=HRD.out.shape
        cases hv2
        obtain⟨bk,ok,e,hbk,hcl⟩:=hcell o b HBB.out
        cases e
        exact hcl
       clear hcl
       go_quiet (fail)
       go_wp2_with fail
       all_goals (
        go_ret2
        have h1:=(HRD.out.draws nq).set1 (o+1) (by omega);refine⟨o+1,h1,aR (bZ HG.out nq) (aG _ _ _ _), ?_⟩;rw[ic,HN.out];rw[vl HBB.out h128 HBD.out]
        try rfl)
      ·go_wp2_with fail
       go_quiet (fail)
       go_wp2_with fail;clear c0 c1 f1;obtain⟨W,hWe⟩: ∃W,W=wr.drewN nq:=⟨_,rfl⟩;have hWr:=HRD.out.draws nq;have hWg:=bZ HG.out nq
       try rw[<-hWe]
       rw[<-hWe]at hWr hWg;clear HRD HG hWe;have HRD:=ab hWr;have HG:=ab hWg;have c0:=hWr.c0;have c1:=hWr.c1;have f1:=hWr.free 1;clear hWr hWg;have hcl2:W.cell? ⟨bk,ok+o,none⟩=some (.int .u8 (b.toNat:Int)):=by
        obtain⟨a2,cap2,hv2,_,_,hcell⟩:=HRD.out.shape
        cases hv2
        obtain⟨bk,ok,e,hbk,hcl⟩:=hcell o b HBB.out
        cases e
        exact hcl
       clear hcl
       go_quiet (fail)
       go_wp2_with fail
       all_goals (
        go_ret2
        have h1:=(HRD.out.draws nq).set1 (o+1) (by omega);refine⟨o+1,h1,aR (bZ HG.out nq) (aG _ _ _ _), ?_⟩;rw[ic,HN.out];rw[vl HBB.out h128 HBD.out]
        try rfl)
   ·obtain rfl:o=data.length:=by omega
    go_wp2_with fail
    go_quiet (fail)
    go_wp2_with fail
    go_ret2
    exact⟨data.length,HRD.out.draws nq,bZ HG.out nq,by rw[ic,HN.out,CG (Nat.le_refl _)]; rfl⟩
  ·obtain rfl:k=10:=by omega
   go_wp2_with fail
   go_ret2
   exact⟨o,HRD.out,HG.out,by rw[ic,HN.out]; rfl⟩
def go (data:List UInt8) (off most:Nat):Except Int (Nat×Nat):=match ic data off with
 | .error x=> .error x
 | .ok (n,o)=>if most<n then .error 2 else .ok (n,o)
theorem mY {data:List UInt8} {off most n o':Nat} (h:go data off most= .ok (n,o')):n<=most/\off<o'/\o'<=data.length:=by
 unfold go at h
 cases hn:ic data off with
 | error x=>rw[hn]at h; simp at h
 | ok p=>
  obtain⟨m,o⟩:=p;rw[hn]at h;simp only at h
  split at h
  ·simp at h
  ·simp only[Except.ok.injEq,Prod.mk.injEq]at h;obtain⟨rfl,rfl⟩:=h;have:=rZ hn;omega
theorem vh {data:List UInt8} {off most:Nat} {x:Int} (h:go data off most= .error x):x=3\/x=2:=by
 unfold go at h
 split at h
 ·rename_i y hy;simp only[Except.error.injEq]at h;exact .inl (h▸pJ hy)
 ·split at h
  ·simp only[Except.error.injEq]at h; exact .inr h.symm
  ·simp at h
theorem nP (rb:Nat) (v:Value) (data:List UInt8) (off last most:Nat) (err:Int) (w:World) (hr:aW w rb v data off last err) (hm:most<=2000000):
  Calls Tryz.prog 86 #[.pointer (some ⟨rb,0,none⟩), .int .i64 (most:Int)] w (DL .i64 w rb v data last err (go data off most)):=by
 have HR:=ab hr;clear hr
 go_enter Tryz.func86,Tryz.ntmps86
 go_wp2_with fail;refine(pL rb v data off last err w HR.out).mono ?_;rintro e w1 ⟨o',hr1,hg1,hres⟩;have HR1:=ab hr1;have HG1:=ab hg1;clear hr1 hg1
 cases hn:ic data off with
 | error x=>
  have hx:x=3:=pJ hn;subst hx;have HL:=ab (show go data off most= .error 3 by unfold go; rw[hn]);rw[hn]at hres;simp only at hres;subst hres;clear hn;go_wp2_with fail
  go_ret2
  exact⟨o',HR1.out,HG1.out,by rw[HL.out]; rfl⟩
 | ok p=>
  obtain⟨n,o⟩:=p;have hsp:=rZ hn;have HN:=ab hn;rw[hn]at hres;simp only at hres;obtain⟨rfl,rfl⟩:=hres;clear hn;have hmax:max (most:Int) 0=(most:Int):=by omega
  by_cases hlt:most<n
  ·have HL:=ab (show go data off most= .error 2 by unfold go; rw[HN.out]; simp only[if_pos hlt]);go_wp2_with fail
   go_ret2
   exact⟨o',HR1.out,HG1.out,by rw[HL.out]; rfl⟩
  ·have HL:=ab (show go data off most= .ok (n,o') by unfold go; rw[HN.out]; simp only[if_neg hlt]);go_wp2_with fail
   go_ret2
   exact⟨o',HR1.out,HG1.out,by rw[HL.out]; exact⟨rfl,rfl⟩⟩
def el (data:List UInt8) (off n:Nat):Except Int (List UInt8×Nat):=if data.length-off<n then .error 3 else .ok ((data.drop off).take n,off+n)
def dZ (data:List UInt8) (off most:Nat):Except Int (List UInt8×Nat):=match go data off most with
 | .error x=> .error x
 | .ok (n,o)=>el data o n
def ym (w:World) (rb:Nat) (v:Value) (bs:List UInt8):Prop:= ∃bk o c,v= .slice (some ⟨bk,o,none⟩) bs.length c/\bs.length<=c/\bk≠rb/\ ∀(j:Nat) b,bs[j]? =some b->w.cell? ⟨bk,o+j,none⟩=some (aN b)
def Gf (w:World) (rb:Nat) (v:Value) (data:List UInt8) (last:Nat) (err:Int) (r:Except Int (List UInt8×Nat)) (e:Ending) (w':World):Prop:=
 ∃o',aW w' rb v data o' last err/\w.grownBy w' (some rb)/\match r with
  | .ok (bs,o)=>(∃pv,e= .returned (.tuple #[pv, .int .i64 0])/\ym w' rb pv bs)/\o'=o
  | .error x=>e= .returned (.tuple #[.slice none 0 0, .int .i64 x])
theorem Du {data:List UInt8} {off n j:Nat} {b:UInt8} (h:((data.drop off).take n)[j]? =some b):data[off+j]? =some b:=by
 rw[List.getElem?_take]at h
 split at h
 ·rw[List.getElem?_drop]at h; exact h
 ·simp at h
theorem wg (rb:Nat) (v:Value) (data:List UInt8) (off last n:Nat) (err:Int) (w:World) (hr:aW w rb v data off last err) (hn:n<=2000000) (hpos:0<data.length\/0<n):
  Calls Tryz.prog 91 #[.pointer (some ⟨rb,0,none⟩), .int .i64 (n:Int)] w (Gf w rb v data last err (el data off n)):=by
 have HRD:=ab hr;have HG:=ab (jf w (some rb));obtain⟨a,cap,rfl,hc,hcm,hcell⟩:=hr.shape;unfold maxLen at hcm;have c0:=hr.c0;have c1:=hr.c1;have f1:=hr.free 1;have hle:=hr.le;have hsm:=hr.small
 by_cases hlt:data.length-off<n
 ·have HT:=ab (show el data off n= .error 3 by unfold el; rw[if_pos hlt]);clear hr hcell
  go_enter Tryz.func91,Tryz.ntmps91
  go_wp2_with fail
  go_quiet (fail)
  go_wp2_with fail
  go_ret2
  exact⟨off,HRD.out.draws nq,bZ HG.out nq,by rw[HT.out]; rfl⟩
 ·have hdl:0<data.length:=by omega
  obtain⟨bk,ok,rfl,hbk,-⟩:=hcell 0 data[0] (by simp);have HT:=ab (show el data off n= .ok ((data.drop off).take n,off+n) by unfold el; rw[if_neg hlt]);have hlen:((data.drop off).take n).length=n:=by simp; omega
  have HLN:=ab hlen;clear hr hcell hlen
  by_cases hoc:off<cap
  ·go_enter Tryz.func91,Tryz.ntmps91
   go_wp2_with fail
   go_quiet (fail)
   go_wp2_with fail;clear c0 c1 f1;obtain⟨W,hWe⟩: ∃W,W=w.drewN nq:=⟨_,rfl⟩;have hWr:=HRD.out.draws nq;have hWg:=bZ HG.out nq
   try rw[<-hWe]
   rw[<-hWe]at hWr hWg;clear HRD HG hWe;have HRD:=ab hWr;have HG:=ab hWg;have c0:=hWr.c0;have c1:=hWr.c1;have f1:=hWr.free 1;clear hWr hWg
   go_quiet (fail)
   go_wp2_with fail
   go_ret2
   have h1:=(HRD.out.draws nq).set1 (off+n) (by omega);rw[Int.natCast_add]at h1;refine⟨off+n,h1,aR (bZ HG.out nq) (aG _ _ _ _), ?_⟩;rw[HT.out];refine⟨⟨_,rfl,bk,ok+off,cap-off, ?_, ?_,hbk,fun j b hj=> ?_⟩,rfl⟩
   ·rw[HLN.out]; show Value.slice _ (off+n-off) _=_; rw[Nat.add_sub_cancel_left]
   ·rw[HLN.out]; omega
   ·obtain⟨a2,cap2,hv2,_,_,hcell⟩:=h1.shape
    cases hv2
    obtain⟨bk2,ok2,e,hbk2,hcl⟩:=hcell (off+j) b (Du hj)
    cases e
    rw[Nat.add_assoc]; exact hcl
  ·obtain rfl:off=cap:=by omega
   obtain rfl:n=0:=by omega
   go_enter Tryz.func91,Tryz.ntmps91
   go_wp2_with fail
   go_quiet (fail)
   go_wp2_with fail;clear c0 c1 f1;obtain⟨W,hWe⟩: ∃W,W=w.drewN nq:=⟨_,rfl⟩;have hWr:=HRD.out.draws nq;have hWg:=bZ HG.out nq
   try rw[<-hWe]
   rw[<-hWe]at hWr hWg;clear HRD HG hWe;have HRD:=ab hWr;have HG:=ab hWg;have c0:=hWr.c0;have c1:=hWr.c1;have f1:=hWr.free 1;clear hWr hWg
   go_quiet (fail)
   go_wp2_with fail
   go_ret2
   have h1:=(HRD.out.draws nq).set1 off (by omega);refine⟨off,h1,aR (bZ HG.out nq) (aG _ _ _ _), ?_⟩;rw[HT.out];exact⟨⟨_,rfl,bk,ok,0,by rw[HLN.out]; rfl,by rw[HLN.out]; exact Nat.le_refl _,hbk,fun j b hj=>by simp at hj⟩,rfl⟩
theorem zw (rb:Nat) (v:Value) (data:List UInt8) (off last most:Nat) (err:Int) (w:World) (hr:aW w rb v data off last err) (hm:most<=2000000):
  Calls Tryz.prog 89 #[.pointer (some ⟨rb,0,none⟩), .int .i64 (most:Int)] w (Gf w rb v data last err (dZ data off most)):=by
 have HR:=ab hr;clear hr
 go_enter Tryz.func89,Tryz.ntmps89
 go_wp2_with fail;refine(nP rb v data off last most err w HR.out hm).mono ?_;rintro e w1 ⟨o',hr1,hg1,hres⟩;have HR1:=ab hr1;have HG1:=ab hg1;clear hr1 hg1
 cases hn:go data off most with
 | error x=>
  have hx:x=3\/x=2:=vh hn;have HL:=ab (show dZ data off most= .error x by unfold dZ; rw[hn]);rw[hn]at hres;simp only at hres;subst hres;clear hn
  rcases hx with rfl | rfl
  ·go_wp2_with fail
   go_ret2
   exact⟨o',HR1.out,HG1.out,by rw[HL.out]; rfl⟩
  ·go_wp2_with fail
   go_ret2
   exact⟨o',HR1.out,HG1.out,by rw[HL.out]; rfl⟩
 | ok p=>
  obtain⟨n,o⟩:=p;have hsp:=mY hn;have HL:=ab (show dZ data off most=el data o n by unfold dZ; rw[hn]);rw[hn]at hres;simp only at hres;obtain⟨rfl,rfl⟩:=hres;clear hn;go_wp2_with fail;refine(wg rb v data o' last n err w1 HR1.out (by omega) (.inl (by omega))).mono ?_;rintro e w2 ⟨o2,hr2,hg2,hres⟩;have HR2:=ab hr2;have HG2:=ab (aR HG1.out hg2)
  clear hr2 hg2
  cases ht:el data o' n with
  | error x=>
   have HT:=ab ht;rw[ht]at hres;simp only at hres;subst hres;clear ht;go_wp2_with fail
   go_ret2
   exact⟨o2,HR2.out,HG2.out,by rw[HL.out,HT.out]; rfl⟩
  | ok p=>
   obtain⟨bs,o3⟩:=p;have HT:=ab ht;rw[ht]at hres;simp only at hres;obtain⟨⟨pv,rfl,hpv⟩,rfl⟩:=hres;have HP:=ab hpv;obtain⟨pb,po,pc,rfl,-,-,-⟩:=hpv;clear ht;go_wp2_with fail
   go_ret2
   exact⟨o2,HR2.out,HG2.out,by rw[HL.out,HT.out]; exact⟨⟨_,rfl,HP.out⟩,rfl⟩⟩
end Go.Proofs.YtnjkpcalgoefhaaGreatDoor
