/- Texts of this proof, one after the other: Plain, Glob, PlainB, OrdP, RefP, Base, Libc, PathA, PathB, TreeP, TreeQ, LitP, BelP, Segs, ShaP, ShaA, ShaB, Own, Seq, App, Held, WireA. -/
import Derived.Lib.ValidLaws
import Derived.Lib.TrimUEq
import Derived.Lib.MapLaws
import Derived.Lib.SplitLaws
import Derived.Lib.Join
import Derived.Lib.Small
import Derived.Laws.RangeAny
import Derived.Test.YtnjkpcalgoefhaaGreatDoorRows
import Derived.Test.YtnjkpcalgoefhaaGreatDoorShelf
import Derived.WalkKit
import Derived.WalkSpells
import Derived.WalkLawsBesides
import Derived.Lib.Hide
import Derived.WalkSmall
import Derived.Deep.QuietTactic
import Derived.BigQuiet
import Derived.StillTailTactics
import Derived.Laws.Bits64b
import Derived.Laws.BitsAllLaws
import Derived.Deep.MidRow
import Derived.Laws.OwnMore
import Derived.OrdersHeld
import Derived.Deep.RegionHeld
import Derived.Laws.BytesArg
import Derived.Defers
import Derived.Recover
import Derived.Maps.OwnSet
import Derived.Maps.OwnOps
import Derived.DeepKeys5
import Derived.Laws.StructEq
import Derived.Laws.CopyOwn
import Derived.Laws.Slices
import Derived.Lib.ConvBytes
import Derived.Lib.TrailingZeros
import Derived.Test.YtnjkpcalgoefhaaGreatDoorCtz
import Derived.Lib.BufferWrite
import Derived.Maps.RangeWalk
import Derived.Shelf.Bytes.SlClone
import Derived.Lib.LazyBuf
import Derived.Laws.MakeOwn
import Derived.RangeFuncNested
import Derived.RangeFuncLeaves
import Derived.RangeFuncGives
import Derived.Lib.AppendStr
import Derived.RangeFuncBox
import Derived.Shelf.Abstract
import Derived.OwnWalkIn
import Derived.TacticsInMore
import Derived.LoopNIn
import Derived.LoopIn
import Derived.OrdersIn
import Derived.Deep.RegionWith
import Derived.Deep.RegionHeld3
import Derived.Laws.EntriesVeiled
import Derived.Laws.Cover4
import Derived.Lib.SlBytesConst
import Derived.ProofKit
import Derived.Carry
import Derived.Lay
import Derived.PinnedBridge
import Derived.Lib.LaidU8T
import Derived.SevenTiedAt
import Derived.HandedShaped
import Derived.Shelf.Vars
import Derived.Test.YtnjkpcalgoefhaaGreatDoorTie
import Derived.Test.YtnjkpcalgoefhaaGreatDoorCards
import Derived.Lib.SmallJoins
set_option maxRecDepth 100000
set_option maxHeartbeats 8000000
namespace Go.Proofs.YtnjkpcalgoefhaaGreatDoor
open Go Go.RowKit
theorem aD {α:Type} (l:List α) (i:Nat) (x:α):l.toArray.setIfInBounds i x=(l.set i x).toArray:=List.setIfInBounds_toArray ..
theorem aE {α:Type} (x:α) (l:List α) (i:Nat) (y:α):(x::l).set (i+1) y=x::l.set i y:=rfl
theorem aF {α:Type} (x:α) (l:List α) (y:α):(x::l).set 0 y=y::l:=rfl
theorem ci {α:Type} :(∀(x:α) (l:List α),(x::l)[0]? =some x)/\(∀(x:α) (l:List α) (i:Nat),(x::l)[i+1]? =l[i]?):=⟨fun _ _=>rfl,fun _ _ _=>rfl⟩
theorem eB {α:Type} :(∀(l:List α) (i:Nat),l.toArray[i]? =l[i]?)/\(∀(x:α) (l:List α) (i:Nat),(x::l)[i+1]? =l[i]?)/\(∀(x:α) (l:List α),(x::l)[0]? =some x):=⟨fun _ _=>List.getElem?_toArray ..,fun _ _ _=>rfl,fun _ _=>rfl⟩
theorem aa {p:Prop} (h:p):RowKit.Hid p:=h
end Go.Proofs.YtnjkpcalgoefhaaGreatDoor
namespace Go.Proofs.YtnjkpcalgoefhaaGreatDoor
def kj (l:List UInt8):Bool:=l.all fun c=>decide (32<=c.toNat)
def kG (l:List UInt8):Bool:=kj l && Lib.validD l
def eV (l:List UInt8):Bool:= !l.isEmpty && decide (l.length<=64) && (l != [46]) && (l != [46,46]) && !l.contains 47 && kG l
def aA (c:UInt8):List UInt8->List (List UInt8)
 | []=>[[]]
 | b::l=>if b=c then []::aA c l else
  match aA c l with
  | h::t=>(b::h)::t
  | []=>[[b]]
def cT (ps:List (List UInt8)):List UInt8:=Lib.join ps [47]
def bB (l:List UInt8):Bool:=decide (l.length<=512) && decide ((aA 47 l).length<=16) && (aA 47 l).all eV
def cZ (c:UInt8):Int:=if c=47 then -1 else c.toNat
def bV :List UInt8->List UInt8->Int
 | [],[]=>0
 | [],_::_=> -1
 | _::_,[]=>1
 | a::l,b::r=>if a=b then bV l r else Lib.compareInt (cZ a) (cZ b)
theorem eG (c:UInt8) (l:List UInt8):aA c l≠[]:=by
 cases l with
 | nil=>simp[aA]
 | cons b l=>
  unfold aA
  split
  ·simp
  ·split<;> simp
theorem kY (c:UInt8) (l:List UInt8):1<=(aA c l).length:=by
 have:=eG c l
 cases h:aA c l with
 | nil=>exact absurd h this
 | cons a t=>simp
theorem dE (c:UInt8) (l:List UInt8):(aA c l).length<=l.length+1:=by
 induction l with
 | nil=>simp[aA]
 | cons b l ih=>
  unfold aA
  split
  ·simp; omega
  ·split
   ·rename_i h t e; rw[e]at ih; simp at ih ⊢; omega
   ·simp
theorem fA (c:UInt8) (p q:List UInt8) (hp:c∉p):aA c (p++c::q)=p::aA c q:=by
 induction p with
 | nil=>simp[aA]
 | cons b p ih=>
  have hb:b≠c:=fun e=>hp (by simp[e])
  have ih:=ih (fun h=>hp (List.mem_cons_of_mem _ h));simp only[List.cons_append,aA,if_neg hb,ih]
theorem dT (c:UInt8) (p:List UInt8) (hp:c∉p):aA c p=[p]:=by
 induction p with
 | nil=>rfl
 | cons b p ih=>
  have hb:b≠c:=fun e=>hp (by simp[e])
  have ih:=ih (fun h=>hp (List.mem_cons_of_mem _ h));simp only[aA,if_neg hb,ih]
theorem wO (c:UInt8) (l:List UInt8): ∀p∈aA c l,c∉p:=by
 induction l with
 | nil=>simp[aA]
 | cons b l ih=>
  unfold aA
  split
  ·intro p hp; rcases List.mem_cons.1 hp with rfl | hp
   ·simp
   ·exact ih p hp
  ·rename_i hb
   split
   ·rename_i h t e;rw[e]at ih;intro p hp; rcases List.mem_cons.1 hp with rfl | hp
    ·have:=ih h (by simp); simp[this,Ne.symm hb]
    ·exact ih p (by simp[hp])
   ·rename_i e; exact absurd e (eG c l)
theorem mX (c:UInt8) (l:List UInt8):Lib.join (aA c l) [c]=l:=by
 induction l with
 | nil=>rfl
 | cons b l ih=>
  unfold aA
  split
  ·rename_i hb; subst hb
   cases h:aA b l with
   | nil=>exact absurd h (eG b l)
   | cons a t=>rw[h]at ih; rw[Lib.join_cons]at *; simp[Lib.joinTail]at *; exact ih
  ·split
   ·rename_i h t e; rw[e]at ih; rw[Lib.join_cons]at *; simp at *; exact ih
   ·rename_i e; exact absurd e (eG c l)
theorem uP (c:UInt8) (ps:List (List UInt8)) (h0:ps≠[]) (h: ∀p∈ps,c∉p):aA c (Lib.join ps [c])=ps:=by
 induction ps with
 | nil=>exact absurd rfl h0
 | cons p ps ih=>
  cases ps with
  | nil=>rw[Lib.join_one]; exact dT c p (h p (by simp))
  | cons q ps=>
   have e:Lib.join (p::q::ps) [c]=p++c::Lib.join (q::ps) [c]:=by
    rw[Lib.join_cons,Lib.join_cons]; simp[Lib.joinTail]
   rw[e,fA c _ _ (h p (by simp)),ih (by simp) (fun x hx=>h x (by simp[hx]))]
theorem qP (l:List UInt8) (c:UInt8) (h:c∈l): ∃p q,l=p++c::q/\c∉p:=by
 induction l with
 | nil=>simp at h
 | cons b l ih=>
  by_cases hb:b=c
  ·exact⟨[],l,by simp[hb],by simp⟩
  ·have:c∈l:=(List.mem_cons.1 h).resolve_left (Ne.symm hb);obtain⟨p,q,rfl,hp⟩:=ih this;exact⟨b::p,q,rfl,by simp[hp,Ne.symm hb]⟩
theorem yx (p q:List UInt8) (c:UInt8) (hp:c∉p):Lib.index (p++c::q) [c]=(p.length:Int):=by
 induction p with
 | nil=>simp[Lib.index,List.isPrefixOf]
 | cons b p ih=>
  have hb:b≠c:=fun e=>hp (by simp[e])
  have ih:=ih (fun h=>hp (List.mem_cons_of_mem _ h));rw[List.cons_append,Lib.index,ih];have h1:([c]:List UInt8).isPrefixOf (b::(p++c::q))=false:=by simp[List.isPrefixOf,Ne.symm hb]
  have h2:((p.length:Int) == -1)=false:=by rw[beq_eq_false_iff_ne]; omega
  rw[h1,h2]; simp
theorem rt (c:UInt8): ∀(k:Nat) (s:List UInt8),s.count c=k->Lib.splitK [c] 0 k s=aA c s
 | 0,s,h=>by
  have:c∉s:=List.count_eq_zero.1 h;rw[dT c s this]; rfl
 | k+1,s,h=>by
  have hc:c∈s:=List.count_pos_iff.1 (by omega);obtain⟨p,q,rfl,hp⟩:=qP s c hc;have hq:q.count c=k:=by
   have h0:p.count c=0:=List.count_eq_zero.2 hp;rw[List.count_append,h0,List.count_cons_self]at h; omega
  rw[fA c p q hp,Lib.splitK,yx p q c hp,if_neg (by simp)];simp only[Int.toNat_natCast,Nat.add_zero,List.length_cons,List.length_nil,Nat.zero_add];rw[List.take_left];have e:(p++c::q).drop (p.length+1)=q:=by rw[List.drop_append]; simp
  rw[e,rt c k q hq]
theorem zP (c:UInt8) (s:ByteArray):(Lib.splitB ⟨#[c]⟩ 0 (Lib.countB s ⟨#[c]⟩) s).map (·.data.toList)=aA c s.data.toList:=by
 rw[Lib.splitB_data];exact rt c _ _ (by rw[Lib.countB,Lib.count_one])
theorem wM (c:UInt8) (s:ByteArray):(Lib.splitB ⟨#[c]⟩ 0 (Lib.countB s ⟨#[c]⟩) s).length=Lib.countB s ⟨#[c]⟩+1:=
 Lib.splitB_all ⟨#[c]⟩ (by simp[ByteArray.size]) 0 _ s rfl
theorem gB (l:List UInt8) (c:UInt8):decide (0<=Lib.indexByte l c)=l.contains c:=by
 induction l with
 | nil=>simp[Lib.indexByte]
 | cons b l ih=>
  have hge:=Lib.indexByte_ge l c;unfold Lib.indexByte
  by_cases hb:b=c
  ·subst hb; simp
  ·have h1:(b == c)=false:=by simpa using hb
   have h2:(c == b)=false:=by simpa using Ne.symm hb
   rw[h1];simp only[Bool.false_eq_true,if_false,List.contains_cons,h2,Bool.false_or,<-ih]
   by_cases hm:Lib.indexByte l c= -1
   ·simp[hm]
   ·rw[if_neg (by simpa using hm)]; congr 1; apply propext; omega
theorem tu (s:ByteArray) (pos:Nat) (h:pos<s.size) (ha:128<=(s.get! pos).toNat):
  pos+(Utf8.decode s pos).2<=s.size/\ ∀j,pos<=j->j<pos+(Utf8.decode s pos).2->128<=(s.get! j).toNat:=by
 have hn: ¬(s.get! (pos+0)).toNat<128:=by simpa using ha
 simp only[Utf8.decode,hn,if_false]
 repeat' split
 all_goals simp_all
 all_goals (refine⟨by omega,fun j h1 h2=> ?_⟩)
 all_goals (rcases Nat.lt_or_ge j (pos+1)with h3 | h3)
 all_goals (first | (rw[show j=pos by omega]; exact ha) | skip)
 all_goals (rcases Nat.lt_or_ge j (pos+2)with h4 | h4)
 all_goals (first | (rw[show j=pos+1 by omega]; omega) | skip)
 all_goals (rcases Nat.lt_or_ge j (pos+3)with h5 | h5)
 all_goals (first | (rw[show j=pos+2 by omega]; omega) | skip)
 all_goals (first | (rw[show j=pos+3 by omega]; omega) | skip)
 all_goals omega
theorem wN (c:UInt8) (p q:List UInt8):aA c (p++c::q)=aA c p++aA c q:=by
 induction p with
 | nil=>simp[aA]
 | cons b p ih=>
  simp only[List.cons_append,aA]
  by_cases hb:b=c
  ·simp[hb,ih]
  ·rw[if_neg hb,if_neg hb,ih]
   cases h:aA c p with
   | nil=>exact absurd h (eG c p)
   | cons a t=>simp
def aS (l:List UInt8):List UInt8:=cT (aA 47 l).dropLast
theorem iM (l:List UInt8) (h:47∉l):aS l=[]:=by
 unfold aS; rw[dT 47 l h]; rfl
theorem gQ (p q:List UInt8) (h:47∉q):aS (p++47::q)=p:=by
 unfold aS cT;rw[wN,dT 47 q h,List.dropLast_concat,mX]
theorem kT (l:List UInt8) (h:47∈l): ∃p q,l=p++47::q/\47∉q:=by
 induction l with
 | nil=>simp at h
 | cons b l ih=>
  by_cases hm:(47:UInt8)∈l
  ·obtain⟨p,q,rfl,hq⟩:=ih hm;exact⟨b::p,q,rfl,hq⟩
  ·rcases List.mem_cons.1 h with rfl | h
   ·exact⟨[],l,rfl,hm⟩
   ·exact absurd h hm
theorem lH (l:List UInt8):aS l=l.take (aS l).length:=by
 by_cases h:(47:UInt8)∈l
 ·obtain⟨p,q,rfl,hq⟩:=kT l h;rw[gQ p q hq]; simp
 ·rw[iM l h]; simp
theorem wU (ps:List (List UInt8)) (m:Nat) (h: ∀p∈ps,p.length<=m):(cT ps).length<=ps.length*(m+1):=by
 induction ps with
 | nil=>simp[cT,Lib.join_nil]
 | cons p r ih=>
  have h1:=h p (by simp);have h2:=ih (fun x hx=>h x (by simp[hx]))
  cases r with
  | nil=>rw[cT,Lib.join_one]; simp; omega
  | cons q r=>
   have e:cT (p::q::r)=p++47::cT (q::r):=by
    unfold cT; rw[Lib.join_cons,Lib.join_cons]; simp[Lib.joinTail]
   rw[e,List.length_append,List.length_cons,List.length_cons (a:=p),Nat.add_mul];omega
def dG :Nat->List UInt8->List Int
 | 0,_=>[]
 | n+1,l=>if l=[]then []else((Lib.decodeL l).1:Int)::dG n (l.drop (Lib.decodeL l).2)
def bg (l:List UInt8):List Int:=dG l.length l
structure bC where
 star:Bool
 any:Bool
 neg:Bool
 ranges:List (Int×Int)
structure aP where
 dbl:Bool
 items:List bC
def Ef :bC:=⟨true,false,false,[]⟩
def EJ :bC:=⟨false,true,false,[]⟩
def Dg (r:Int):bC:=⟨false,false,false,[(r,r)]⟩
def lE :List Int->Option (Int×List Int)
 | []=>none
 | q::u=>some (q,u)
def iY :List Int->Option (Int×List Int)
 | []=>none
 | r::t=>if r=92 then lE t else if r=93\/r=94\/r=45 then none else some (r,t)
def cR :Nat->List Int->List (Int×Int)->Option (List (Int×Int)×List Int)
 | 0,_,_=>none
 | f+1,l,acc=>
  if l.head? =some 93 then some (acc,l.tail)else
  match iY l with
  | none=>none
  | some (lo,t)=>
   if t.head? =some 45 then
    match iY t.tail with
    | none=>none
    | some (hi,u)=>if hi<lo then none else cR f u (acc++[(lo,hi)])
   else cR f t (acc++[(lo,lo)])
def lm (t:List Int):Option (bC×List Int):=
 let neg:=decide (t.head? =some 94)
 let t':=if neg then t.tail else t
 match cR (t'.length+1) t' []with
 | none=>none
 | some (rs,u)=>if rs=[]then none else some (⟨false,false,neg,rs⟩,u)
def eY :List Int->Option (bC×List Int)
 | []=>none
 | r::t=>
  if r=42 then some (Ef,t)else if r=63 then some (EJ,t)else if r=91 then lm t
  else if r=92 then(lE t).map (fun x=>(Dg x.1,x.2))else some (Dg r,t)
def gC :Nat->List Int->Option (List bC)
 | 0,_=>none
 | f+1,l=>if l=[]then some []else
  match eY l with
  | none=>none
  | some (it,t)=>match gC f t with | none=>none | some its=>some (it::its)
def eO (l:List Int):Option (List bC):=gC (l.length+1) l
def iV (p:List UInt8):Option aP:=
 if p=[42,42]then some ⟨true,[]⟩else
 match eO (bg p)with
 | none=>none
 | some its=>if its=[]then none else some ⟨false,its⟩
def cE :List (List UInt8)->Option (List aP)
 | []=>some []
 | p::r=>match iV p with
  | none=>none
  | some c=>match cE r with | none=>none | some cs=>some (c::cs)
def iw (l:List UInt8):Option (List aP):=
 if 512<l.length\/kG l=false then none else if 16<(aA 47 l).length then none else cE (aA 47 l)
def gv {T:Type} (f:List T->Bool):List T->Bool
 | []=>f []
 | t::us=>f (t::us) || gv f us
def tR {T:Type} (m:T->Bool) (f:List T->Bool):List T->Bool
 | []=>false
 | t::us=>m t && f us
def dv {P T:Type} (star:P->Bool) (m:P->T->Bool):List P->List T->Bool
 | [],ts=>ts.isEmpty
 | p::ps,ts=>if star p then gv (dv star m ps) ts else tR (m p) (dv star m ps) ts
def Ab (r:Int) (x:Int×Int):Bool:=decide (x.1<=r) && decide (r<=x.2)
def dX (it:bC) (r:Int):Bool:=it.any || ((it.ranges.any (Ab r)) != it.neg)
def xq (c:aP) (part:List UInt8):Bool:=dv (·.star) dX c.items (bg part)
def gW (cs:List aP) (parts:List (List UInt8)):Bool:=dv (·.dbl) xq cs parts
theorem jZ {l t:List Int} {r:Int} (h:iY l=some (r,t)):t.length<l.length:=by
 cases l with
 | nil=>simp[iY]at h
 | cons a l=>
  rw[iY]at h
  split at h
  ·cases l with
   | nil=>simp[lE]at h
   | cons q u=>simp[lE]at h; obtain⟨_,rfl⟩:=h; simp; omega
  ·split at h
   ·simp at h
   ·simp at h; obtain⟨_,rfl⟩:=h; simp
theorem kL : ∀(f:Nat) {l:List Int} {acc:List (Int×Int)} {rs:List (Int×Int)} {u:List Int},cR f l acc=some (rs,u)->u.length<=l.length
 | 0,_,_,_,_,h=>by simp[cR]at h
 | f+1,l,acc,rs,u,h=>by
  unfold cR at h
  split at h
  ·simp at h; obtain⟨_,rfl⟩:=h; simp
  ·split at h
   ·simp at h
   ·rename_i lo t e;have h1:=jZ e
    split at h
    ·split at h
     ·simp at h
     ·rename_i hi v e2;have h2:=jZ e2;rw[List.length_tail]at h2
      split at h
      ·simp at h
      ·have:=kL f h; omega
    ·have:=kL f h; omega
theorem AB {t u:List Int} {it:bC} (h:lm t=some (it,u)):u.length<=t.length:=by
 unfold lm at h;simp only at h
 split at h
 ·simp at h
 ·rename_i rs v e;have:=kL _ e
  split at h
  ·simp at h
  ·simp only[Option.some.injEq,Prod.mk.injEq]at h;obtain⟨_,rfl⟩:=h
   split at this
   ·rw[List.length_tail]at this; omega
   ·exact this
theorem kg {l t:List Int} {it:bC} (h:eY l=some (it,t)):t.length<l.length:=by
 cases l with
 | nil=>simp[eY]at h
 | cons a l=>
  rw[eY]at h
  split at h
  ·simp at h; obtain⟨_,rfl⟩:=h; simp
  ·split at h
   ·simp at h; obtain⟨_,rfl⟩:=h; simp
   ·split at h
    ·have:=AB h; simp; omega
    ·split at h
     ·cases l with
      | nil=>simp[lE]at h
      | cons q u=>simp[lE]at h; obtain⟨_,rfl⟩:=h; simp; omega
     ·simp at h; obtain⟨_,rfl⟩:=h; simp
theorem mW : ∀(f g:Nat) (l:List Int),l.length<f->l.length<g->gC f l=gC g l
 | 0,_,_,h,_=>by omega
 | _,0,_,_,h=>by omega
 | f+1,g+1,l,h1,h2=>by
  unfold gC
  split
  ·rfl
  ·split
   ·rfl
   ·rename_i it t e;have:=kg e;rw[mW f g t (by omega) (by omega)]
theorem tY {l t:List Int} {it:bC} (hl:l≠[]) (h:eY l=some (it,t)):eO l=match eO t with | none=>none | some its=>some (it::its):=by
 have:=kg h;unfold eO;rw[gC,if_neg hl,h];simp only;rw[mW l.length (t.length+1) t (by omega) (by omega)]
theorem vX {l:List Int} (hl:l≠[]) (h:eY l=none):eO l=none:=by
 unfold eO;rw[gC,if_neg hl,h]
theorem fR (l:List UInt8) (h:l≠[]):1<=(Lib.decodeL l).2/\(Lib.decodeL l).2<=l.length:=⟨Lib.decodeL_width l,Lib.decodeL_le l h⟩
theorem lP : ∀(n m:Nat) (l:List UInt8),l.length<=n->l.length<=m->dG n l=dG m l
 | 0,m,l,h,_=>by
  have:l=[]:=List.eq_nil_of_length_eq_zero (by omega);subst this; cases m<;> simp[dG]
 | n,0,l,_,h=>by
  have:l=[]:=List.eq_nil_of_length_eq_zero (by omega);subst this; cases n<;> simp[dG]
 | n+1,m+1,l,h1,h2=>by
  unfold dG
  split
  ·rfl
  ·rename_i hl;have:=fR l hl;rw[lP n m (l.drop (Lib.decodeL l).2) (by rw[List.length_drop]; omega) (by rw[List.length_drop]; omega)]
theorem uG (l:List UInt8) (h:l≠[]):bg l=((Lib.decodeL l).1:Int)::bg (l.drop (Lib.decodeL l).2):=by
 have h1:=fR l h;have hl:l.length=(l.length-1)+1:=by have:=List.length_pos_iff.2 h; omega
 unfold bg;rw[hl,dG,if_neg h,lP _ (l.drop (Lib.decodeL l).2).length (l.drop (Lib.decodeL l).2) (by rw[List.length_drop]; omega) (Nat.le_refl _)]
theorem jN : ∀(n:Nat) (l:List UInt8),(dG n l).length<=n
 | 0,_=>by simp[dG]
 | n+1,l=>by
  unfold dG
  split
  ·simp
  ·have:=jN n (l.drop (Lib.decodeL l).2); simp; omega
theorem er (l:List UInt8):(bg l).length<=l.length:=jN _ _
theorem lO (s:ByteArray): ∀(n i:Nat) (acc:Array Value),Conv.runesFrom s n i acc=acc++((dG n (s.data.toList.drop i)).map (Value.int .i32)).toArray
 | 0,i,acc=>by simp[Conv.runesFrom,dG]
 | n+1,i,acc=>by
  unfold Conv.runesFrom dG;have hsz:s.size=s.data.toList.length:=Lib.size_eq s
  by_cases h:i<s.size
  ·rw[if_pos h,if_neg (by intro e; have:=List.drop_eq_nil_iff.1 e; omega)];simp only;rw[lO s n,Lib.decodeL_drop,List.drop_drop]
   apply Array.ext'
   simp
  ·rw[if_neg h,if_pos (List.drop_eq_nil_iff.2 (by omega))];simp
theorem wE (s:ByteArray):Conv.runesFrom s s.size 0 #[]=((bg s.data.toList).map (Value.int .i32)).toArray:=by
 rw[lO,Lib.size_eq];simp[bg]
theorem kC : ∀(f:Nat) (l:List Int) (its:List bC),gC f l=some its->its.length<=l.length
 | 0,_,_,h=>by simp[gC]at h
 | f+1,l,its,h=>by
  unfold gC at h
  split at h
  ·simp at h; subst h; simp
  ·split at h
   ·simp at h
   ·rename_i it t e;have:=kg e
    split at h
    ·simp at h
    ·rename_i its2 e2;have h2:=kC f t its2 e2;simp at h; subst h; simp; omega
theorem th {p:List UInt8} {c:aP} (h:iV p=some c):c.items.length<=p.length:=by
 unfold iV at h
 split at h
 ·simp at h; subst h; simp
 ·split at h
  ·simp at h
  ·rename_i its e;have h1:=kC _ _ _ e;have h2:=er p
   split at h
   ·simp at h
   ·simp at h; subst h; simp; omega
theorem og : ∀ {ps:List (List UInt8)} {cs:List aP},cE ps=some cs->cs.length=ps.length
 | [],cs,h=>by simp[cE]at h; subst h; rfl
 | p::ps,cs,h=>by
  unfold cE at h
  split at h
  ·simp at h
  ·split at h
   ·simp at h
   ·rename_i cs2 e2;simp at h; subst h;simp[og e2]
theorem lr : ∀ {ps:List (List UInt8)} {cs:List aP} {m:Nat},cE ps=some cs->(∀p∈ps,p.length<=m)-> ∀c∈cs,c.items.length<=m
 | [],cs,m,h,_=>by simp[cE]at h; subst h; simp
 | p::ps,cs,m,h,hm=>by
  unfold cE at h
  split at h
  ·simp at h
  ·rename_i c0 e0
   split at h
   ·simp at h
   ·rename_i cs2 e2;simp at h; subst h;intro c hc
    rcases List.mem_cons.1 hc with rfl | hc
    ·have:=th e0; have:=hm p (by simp); omega
    ·exact lr e2 (fun q hq=>hm q (by simp[hq])) c hc
structure aU where
 pat:List UInt8
 keep:Bool
 dir:Bool
 rooted:Bool
def ba (r:aU):Option (List aP):=
 if Lib.hasPrefix r.pat [33] || Lib.hasPrefix r.pat [35]then none else if r.pat.contains 47 && !r.rooted then none else iw r.pat
def rh (l:List UInt8):aU:=
 let l1:=Lib.trimPrefix l [33]
 let l2:=Lib.trimPrefix l1 [47]
 let p:=Lib.trimSuffix l2 [47]
 ⟨p,Lib.hasPrefix l [33],Lib.hasSuffix l2 [47],Lib.hasPrefix l1 [47] || p.contains 47⟩
def cu (l:List UInt8):Option aU:=if(ba (rh l)).isSome then some (rh l)else none
def cS :List (List UInt8)->Nat->List aU->List aU×Int×Int
 | [],_,acc=>(acc,0,0)
 | l::ls,i,acc=>if l=[]\/Lib.hasPrefix l [35]=true then cS ls (i+1) acc else
  match cu l with
  | none=>([],i+1,3)
  | some r=>if acc.length=256 then([],i+1,2)else cS ls (i+1) (acc++[r])
def cz (l:List UInt8):List aU×Int×Int:=if 65536<l.length then([],0,2)else cS (aA 10 l) 0 []
def eP (dir:Bool) (r:aU) (cs:List aP) (parts:List (List UInt8)) (n:Nat):Bool:=
 (dir || decide (n<parts.length) || !r.dir) && gW cs (if r.rooted then parts.take n else(parts.take n).drop (n-1))
def eX (dir:Bool) (parts:List (List UInt8)) (n:Nat):List (aU×List aP)->Bool->Bool
 | [],b=>b
 | (r,cs)::t,b=>eX dir parts n t (if eP dir r cs parts n then !r.keep else b)
def cB (dir:Bool) (parts:List (List UInt8)) (rs:List (aU×List aP)):Nat->Nat->Bool
 | 0,_=>false
 | f+1,n=>if eX dir parts n rs false then true else cB dir parts rs f (n+1)
def aW :List aU->Option (List (aU×List aP))
 | []=>some []
 | r::t=>match ba r with
  | none=>none
  | some cs=>match aW t with | none=>none | some u=>some ((r,cs)::u)
def dq (rs:List aU) (path:List UInt8) (dir:Bool):Bool×Int:=
 if bB path=false\/256<rs.length then(false,1)else
 match aW rs with
 | none=>(false,1)
 | some u=>(cB dir (aA 47 path) u (aA 47 path).length 1,0)
theorem go {a b:UInt8} (h:cZ a=cZ b):a=b:=by
 unfold cZ at h
 split at h<;> split at h
 ·simp[*]
 ·omega
 ·omega
 ·apply UInt8.toNat_inj.1; omega
theorem xp : ∀(a b:List UInt8),bV b a= -bV a b
 | [],[]=>by simp[bV]
 | [],_::_=>by simp[bV]
 | _::_,[]=>by simp[bV]
 | a::l,b::r=>by
  unfold bV
  by_cases h:a=b
  ·rw[if_pos h,if_pos h.symm]; exact xp l r
  ·rw[if_neg h,if_neg (Ne.symm h)];have:cZ a≠cZ b:=fun e=>h (go e)
   unfold Lib.compareInt
   rcases Int.lt_trichotomy (cZ a) (cZ b)with h1 | h1 | h1
   ·rw[if_neg (by omega),if_pos (by omega),if_pos h1]; rfl
   ·exact absurd h1 this
   ·rw[if_pos (by omega),if_neg (by omega),if_pos (by omega)]
theorem lp : ∀(a b:List UInt8),bV a b=0<->a=b
 | [],[]=>by simp[bV]
 | [],_::_=>by simp[bV]
 | _::_,[]=>by simp[bV]
 | a::l,b::r=>by
  unfold bV
  by_cases h:a=b
  ·rw[if_pos h,lp l r]; simp[h]
  ·rw[if_neg h];have:cZ a≠cZ b:=fun e=>h (go e)
   unfold Lib.compareInt
   constructor
   ·intro e; split at e
    ·omega
    ·split at e<;> omega
   ·intro e; simp at e; exact absurd e.1 h
theorem qu : ∀(a b c:List UInt8),bV a b<=0->bV b c<=0->bV a c<=0/\(bV a c=0->bV a b=0/\bV b c=0)
 | [],b,[],h1,h2=>by
  cases b with
  | nil=>simp[bV]
  | cons x b=>simp[bV]at h2
 | [],_,_::_,_,_=>by simp[bV]
 | _::_,[],_,h1,_=>by simp[bV]at h1
 | x::a,y::b,[],_,h2=>by simp[bV]at h2
 | x::a,y::b,z::c,h1,h2=>by
  unfold bV at h1 h2 ⊢
  by_cases hxy:x=y
  ·subst hxy;rw[if_pos rfl]at h1 ⊢
   by_cases hxz:x=z
   ·subst hxz;rw[if_pos rfl]at h2 ⊢;rw[if_pos rfl];exact qu a b c h1 h2
   ·rw[if_neg hxz]at h2 ⊢;rw[if_neg hxz];refine⟨h2,fun e=> ?_⟩
    exfalso
    have:cZ x≠cZ z:=fun e=>hxz (go e)
    unfold Lib.compareInt at e
    split at e
    ·omega
    ·split at e<;> omega
  ·rw[if_neg hxy]at h1 ⊢;have n1:cZ x≠cZ y:=fun e=>hxy (go e)
   have l1:cZ x<cZ y:=by
    unfold Lib.compareInt at h1
    split at h1
    ·assumption
    ·split at h1
     ·omega
     ·omega
   by_cases hyz:y=z
   ·subst hyz;rw[if_neg hxy];refine⟨h1,fun e=> ?_⟩
    exfalso
    unfold Lib.compareInt at e;rw[if_pos l1]at e; omega
   ·rw[if_neg hyz]at h2;have n2:cZ y≠cZ z:=fun e=>hyz (go e)
    have l2:cZ y<cZ z:=by
     unfold Lib.compareInt at h2
     split at h2
     ·assumption
     ·split at h2<;> omega
    have n3:x≠z:=fun e=>by subst e; omega
    rw[if_neg n3];unfold Lib.compareInt;rw[if_pos (by omega)];exact⟨by omega,fun e=>by omega⟩
theorem xo : ∀(p q:List UInt8),bV p (p++q)<=0
 | [],[]=>by simp[bV]
 | [],_::_=>by simp[bV]
 | a::p,q=>by rw[List.cons_append,bV,if_pos rfl]; exact xo p q
theorem lj (k n:Nat) (z:Int) (h:z=((k+n:Nat):Int)):UInt8.ofNat k+UInt8.ofNat n=UInt8.ofNat z.toNat:=by
 subst h; rw[Int.toNat_natCast,UInt8.ofNat_add]
theorem vK (r:Nat):(Utf8.encode (r:Int)).data.toList=Lib.encodeRune (r:Int):=by
 unfold Lib.encodeRune
 by_cases c1:r<128
 ·have v:Utf8.valid (r:Int)=true:=by simp[Utf8.valid]; omega
  rw[Lib.encodeRuneZ_one (by omega) (by omega)]; simp[Utf8.encode,v,c1]
 by_cases c2:r<2048
 ·have v:Utf8.valid (r:Int)=true:=by simp[Utf8.valid]; omega
  rw[Lib.encodeRuneZ_two (by omega) (by omega)]; simp[Utf8.encode,v,c1,c2]; exact⟨lj 192 _ _ (by omega),lj 128 _ _ (by omega)⟩
 by_cases hb:(55296<=r/\r<=57343)\/1114111<r
 ·have v:Utf8.valid (r:Int)=false:=by simp[Utf8.valid]; omega
  rw[Lib.encodeRuneZ_bad (by omega)]; simp[Utf8.encode,v,Utf8.runeError]
 by_cases c3:r<65536
 ·have v:Utf8.valid (r:Int)=true:=by simp[Utf8.valid]; omega
  rw[Lib.encodeRuneZ_three (by omega)]; simp[Utf8.encode,v,c1,c2,c3]; exact⟨lj 224 _ _ (by omega),lj 128 _ _ (by omega),lj 128 _ _ (by omega)⟩
 ·have v:Utf8.valid (r:Int)=true:=by simp[Utf8.valid]; omega
  rw[Lib.encodeRuneZ_four (by omega) (by omega)]; simp[Utf8.encode,v,c1,c2,c3]; exact⟨lj 240 _ _ (by omega),lj 128 _ _ (by omega),lj 128 _ _ (by omega),lj 128 _ _ (by omega)⟩
def sE (l:List UInt8):List UInt8:=(bg l).flatMap Lib.encodeRune
theorem sF :sE []=[]:=rfl
theorem uC (l:List UInt8) (h:l≠[]):sE l=Lib.encodeRune ((Lib.decodeL l).1:Int)++sE (l.drop (Lib.decodeL l).2):=by
 unfold sE; rw[uG l h,List.flatMap_cons]
theorem oq (r:Int):(Lib.encodeRune r).length<=4:=by
 have:=(Lib.encodeRuneZ_length r).2; simpa [Lib.encodeRune]using this
theorem xO : ∀(n:Nat) (l:List UInt8),l.length<=n->l.length<=(sE l).length/\(sE l=l<->Lib.validD l=true)
 | 0,l,h=>by
  have:l=[]:=List.eq_nil_of_length_eq_zero (by omega);subst this;exact⟨by simp,by simp[sF,Lib.validD_nil]⟩
 | n+1,l,h=>by
  by_cases hl:l=[]
  ·subst hl;exact⟨by simp,by simp[sF,Lib.validD_nil]⟩
  ·have hw:=fR l hl;obtain⟨ih1,ih2⟩:=xO n (l.drop (Lib.decodeL l).2) (by rw[List.length_drop]; omega);rw[List.length_drop]at ih1;rw[uC l hl,Lib.validD_step l hl]
   by_cases hb:(Lib.decodeL l).1=65533/\(Lib.decodeL l).2=1
   ·have e3:(Lib.encodeRune ((Lib.decodeL l).1:Int)).length=3:=by rw[hb.1]; rfl
    rw[if_pos hb];refine⟨by rw[List.length_append,e3]; omega,⟨fun e=> ?_,fun e=>by cases e⟩⟩;have:=congrArg List.length e;rw[List.length_append,e3]at this;omega
   ·rw[if_neg hb,Lib.encode_decode l hl hb];refine⟨by rw[List.length_append,List.length_take]; omega, ?_⟩;rw[<-ih2]
    constructor
    ·intro e;have h2:l.take (Lib.decodeL l).2++sE (l.drop (Lib.decodeL l).2)=l.take (Lib.decodeL l).2++l.drop (Lib.decodeL l).2:=by rw[List.take_append_drop]; exact e
     exact List.append_cancel_left h2
    ·intro e; rw[e,List.take_append_drop]
theorem yX (l:List UInt8):(sE l == l)=Lib.validD l:=by
 rw[Bool.eq_iff_iff,beq_iff_eq]; exact(xO l.length l (Nat.le_refl _)).2
theorem tg (l:List UInt8):((aA 47 l).length == 1)= !l.contains 47:=by
 by_cases h:(47:UInt8)∈l
 ·obtain⟨p,q,rfl,hp⟩:=qP l 47 h;have:=kY 47 q;rw[fA 47 p q hp];have h2:((p::aA 47 q).length == 1)=false:=by rw[beq_eq_false_iff_ne]; simp; exact eG 47 q
  rw[h2]; simp
 ·rw[dT 47 l h]; simp[h]
theorem nl (ps:List (List UInt8)) (p:List UInt8):cT (ps++[p])=if ps=[]then p else cT ps++[47]++p:=by
 cases ps with
 | nil=>simp[cT,Lib.join_one]
 | cons q ps=>
  simp only[List.cons_append,cT,Lib.join_cons,if_neg (List.cons_ne_nil q ps)];have: ∀(l:List (List UInt8)),Lib.joinTail [47] (l++[p])=Lib.joinTail [47] l++47::p:=by
   intro l
   induction l with
   | nil=>simp[Lib.joinTail]
   | cons a l _=>simp only[List.cons_append,Lib.joinTail]; simp
  rw[this]; simp
open Go.RowKit
def bl (s:ByteArray):List UInt8:=s.data.toList
theorem xu (s:ByteArray):s.data.toList=bl s:=rfl
theorem bA (s:ByteArray):s.toList=bl s:=by rw[ByteArray.toList_eq]; rfl
theorem io (l:List UInt8):bl ⟨l.toArray⟩=l:=by simp[bl]
theorem oN (s:ByteArray):(⟨(bl s).toArray⟩:ByteArray)=s:=by cases s; simp[bl]
theorem am (s:ByteArray):s.size=(bl s).length:=Lib.size_eq s
theorem jY (s t:ByteArray):bl (s++t)=bl s++bl t:=by simp[bl]
theorem iF (s:ByteArray) (a b:Nat):bl (s.extract a b)=((bl s).take b).drop a:=by unfold bl; rw[Lib.extract_data]; rw[List.drop_take]
theorem jr {s t:ByteArray} (h:bl s=bl t):s=t:=by rw[<-oN s,<-oN t,h]
def eZ (S:Nat->Prop) (w w':World):Prop:= ∀k,S k->w'.heap[k]? =w.heap[k]?
theorem eZ.refl (S:Nat->Prop) (w:World):eZ S w w:=fun _ _=>rfl
theorem eZ.trans {S:Nat->Prop} {a b c:World} (h:eZ S a b) (k:eZ S b c):eZ S a c:=fun i hi=>(k i hi).trans (h i hi)
theorem eZ.cell {S:Nat->Prop} {w w':World} (h:eZ S w w') {a:Addr} (ha:S a.block):w'.cell? a=w.cell? a:=World.cell?_of_block (h a.block ha)
theorem eZ.mono {S T:Nat->Prop} {w w':World} (h:eZ S w w') (hT: ∀k,T k->S k):eZ T w w':=fun k hk=>h k (hT k hk)
theorem ay {w:World} {a:Addr} {v:Value} (h:w.cell? a=some v):a.block<w.heap.size:=by
 rcases Nat.lt_or_ge a.block w.heap.size with h' | h'
 ·exact h'
 ·simp[World.cell?,Array.getElem?_eq_none h']at h
def aO (S:Nat->Prop) (w:World) (sz:Nat) (v:Value) (n:Nat) (cells:List Value):Prop:=
 cells.length=n*sz/\ ∃a cap,v= .slice a n cap/\n<=cap/\cap<=maxLen/\
  (n=0\/ ∃b o,a=some ⟨b,o,none⟩/\S b/\ ∀(j:Nat) u,cells[j]? =some u->w.cell? ⟨b,o+j,none⟩=some u)
theorem aO.same {S:Nat->Prop} {w w':World} {sz:Nat} {v:Value} {n:Nat} {cells:List Value} (h:aO S w sz v n cells) (hs:eZ S w w'):aO S w' sz v n cells:=by
 obtain⟨hl,a,cap,hv,hn,hm,h0⟩:=h;refine⟨hl,a,cap,hv,hn,hm, ?_⟩
 rcases h0 with h0 | ⟨b,o,ha,hb,hc⟩
 ·exact .inl h0
 ·exact .inr ⟨b,o,ha,hb,fun j u hu=>(hs.cell (a:=⟨b,o+j,none⟩) hb).trans (hc j u hu)⟩
theorem aO.mono {S T:Nat->Prop} {w:World} {sz:Nat} {v:Value} {n:Nat} {cells:List Value} (h:aO S w sz v n cells) (hs: ∀k,k<w.heap.size->S k->T k):0<sz->aO T w sz v n cells:=by
 intro hsz;obtain⟨hl,a,cap,hv,hn,hm,h0⟩:=h;refine⟨hl,a,cap,hv,hn,hm, ?_⟩
 rcases h0 with h0 | ⟨b,o,ha,hb,hc⟩
 ·exact .inl h0
 ·rcases Nat.eq_zero_or_pos n with h | h
  ·exact .inl h
  ·refine .inr ⟨b,o,ha,hs b ?_ hb,hc⟩;have:0<cells.length:=by rw[hl]; exact Nat.mul_pos h hsz
   exact ay (a:=⟨b,o+0,none⟩) (hc 0 cells[0] (by simp[this]))
theorem aO.below {S:Nat->Prop} {w w':World} {sz:Nat} {v:Value} {n:Nat} {cells:List Value} (h:aO S w sz v n cells) (hsz:0<sz) (hb:Below w.heap.size w w'):aO S w' sz v n cells:=by
 have h2:=h.mono (T:=fun k=>S k/\k<w.heap.size) (fun k hk hS=>⟨hS,hk⟩) hsz;have h3:=h2.same (w':=w') (fun k hk=>hb.block k hk.2);obtain⟨hl,a,cap,hv,hn,hm,h0⟩:=h3;refine⟨hl,a,cap,hv,hn,hm, ?_⟩
 rcases h0 with h0 | ⟨b,o,ha,hb,hc⟩
 ·exact .inl h0
 ·exact .inr ⟨b,o,ha,hb.1,hc⟩
theorem aO.nil (S:Nat->Prop) (w:World) (sz:Nat):aO S w sz (.slice none 0 0) 0 []:=⟨by simp,none,0,rfl,Nat.le_refl _,by unfold maxLen; omega, .inl rfl⟩
def dm (S:Nat->Prop) (w:World) (v:Value) (xs:List ByteArray):Prop:=aO S w 1 v xs.length (xs.map Value.string)
theorem dm.shape {S:Nat->Prop} {w:World} {v:Value} {xs:List ByteArray} (h:dm S w v xs):
  ∃a cap,v= .slice a xs.length cap/\xs.length<=cap/\cap<=maxLen/\ ∀k x,xs[k]? =some x-> ∃b o,a=some ⟨b,o,none⟩/\S b/\w.cell? ⟨b,o+k,none⟩=some (.string x):=by
 obtain⟨_,a,cap,hv,hn,hm,h0⟩:=h;refine⟨a,cap,hv,hn,hm,fun k x hk=> ?_⟩
 rcases h0 with h0 | ⟨b,o,ha,hb,hc⟩
 ·simp[List.eq_nil_of_length_eq_zero h0]at hk
 ·exact⟨b,o,ha,hb,hc k _ (by simp[hk])⟩
structure jl (w : World) : Prop where
 maxLen: ∃m,w.cell? ⟨0,0,none⟩=some (.int .i64 m)
 tabs:Lib.Utf8Tabs 2 3 w
theorem jl.below {w w':World} (h:jl w) (hb:Below w.heap.size w w'):jl w':=by
 obtain⟨⟨m,hm⟩,ht⟩:=h;exact⟨⟨m,(hb.cell (ay hm)).trans hm⟩,Utf8Tabs_below ht hb⟩
theorem jl.lt {w:World} (h:jl w):0<w.heap.size/\2<w.heap.size/\3<w.heap.size:=by
 obtain⟨⟨m,hm⟩,ht⟩:=h;exact⟨ay hm,ay (ht.1 0 (by omega)),ay (ht.2 0 (by omega)).1⟩
theorem jl.belowB {B:Nat} {w w':World} (h:jl w) (hb:Below B w w') (h0:0<B) (h1:2<B) (h2:3<B):jl w':=by
 obtain⟨⟨m,hm⟩,ht⟩:=h;exact⟨⟨m,(hb.cell h0).trans hm⟩,fun c hc=>(hb.cell (p:=⟨2,c,none⟩) h1).trans (ht.1 c hc),fun i hi=>⟨(hb.cell (p:=⟨3,2*i,none⟩) h2).trans (ht.2 i hi).1,(hb.cell (p:=⟨3,2*i+1,none⟩) h2).trans (ht.2 i hi).2⟩⟩
theorem au {a b:Bool} (h:a=b):Ending.returned (.bool a)= .returned (.bool b):=by rw[h]
theorem bp {k:IntKind} {a b:Int} (h:a=b):Ending.returned (.int k a)= .returned (.int k b):=by rw[h]
theorem ag {w w1 w2:World} (h:Below w.heap.size w w1) (k:Below w1.heap.size w1 w2):Below w.heap.size w w2:=h.trans (k.mono h.size)
theorem ei {P:Program} {f:FuncId} {args:Array Value} {w:World} {n:Nat} {v:Value}
  (h:Calls P f args (w.drewN n) fun e w'=>e= .returned v/\w.drewN n=w'):Calls P f args (w.drewN n) fun e w''=>e= .returned v/\ ∃m,w''=w.drewN m:=
 h.mono fun _ _ ⟨he,hm⟩=>⟨he,n,hm.symm⟩
theorem bS {B:Nat} {a w:World} (h:Below B a w) (n:Nat):Below B a (w.drewN n):=h.trans ⟨rfl,rfl,rfl,Nat.le_refl _,fun _ _=>rfl⟩
theorem lw (s:ByteArray) (c:UInt8) (w:World):
  Calls Tryz.prog 111 #[.string s, .string ⟨#[c]⟩] w fun e w'=>e= .returned (.bool ((bl s).contains c))/\w=w':=
 (Tryz.strings_Contains_one s c w).mono fun _ _ ⟨he,hw⟩=>⟨by rw[he]; exact congrArg _ (congrArg _ (gB (bl s) c)),hw.symm⟩
theorem nB (s:ByteArray) (w:World) (he:jl w) (hs:s.size<=9223372036854775807):
  Calls Tryz.prog 169 #[.string s] w fun e w'=>e= .returned (.bool (Lib.validD (bl s)))/\Below w.heap.size w w':=Tryz.utf8_ValidString s w hs he.tabs
theorem pT (s p:ByteArray) (w:World):
  Calls Tryz.prog 71 #[.string s, .string p] w fun e w'=>e= .returned (.bool (Lib.hasPrefix (bl s) (bl p)))/\w=w':=
 (Tryz.strings_HasPrefix s p w).mono fun _ _ ⟨he,hw⟩=>⟨he,hw.symm⟩
theorem pQ (s p:ByteArray) (w:World):
  Calls Tryz.prog 109 #[.string s, .string p] w fun e w'=>e= .returned (.tuple #[.string ⟨(Lib.trimPrefix (bl s) (bl p)).toArray⟩, .bool (Lib.hasPrefix (bl s) (bl p))])/\w=w':=
 (Tryz.strings_CutPrefix s p w).mono fun _ _ ⟨he,hw⟩=>⟨he,hw.symm⟩
theorem pR (s p:ByteArray) (w:World) (hs:s.size<=9223372036854775807):
  Calls Tryz.prog 110 #[.string s, .string p] w fun e w'=>e= .returned (.tuple #[.string ⟨(Lib.trimSuffix (bl s) (bl p)).toArray⟩, .bool (Lib.hasSuffix (bl s) (bl p))])/\w=w':=
 (Tryz.strings_CutSuffix s p w hs).mono fun _ _ ⟨he,hw⟩=>⟨he,hw.symm⟩
theorem ju (x y:Int) (w:World):
  Calls Tryz.prog 101 #[.int .i64 x, .int .i64 y] w fun e w'=>e= .returned (.int .i64 (Lib.compareInt x y))/\w=w':=
 (Tryz.cmp_Compare_int x y w).mono fun _ _ ⟨he,hw⟩=>⟨he,hw.symm⟩
def yb (c:UInt8) (s:ByteArray) (w:World) (e:Ending) (w':World):Prop:=
 ∃xs:List ByteArray,xs.map bl=aA c (bl s)/\e= .returned (.slice (some ⟨w.heap.size,0,none⟩) xs.length xs.length)/\w'=w.alloc (.cells (xs.map Value.string).toArray 9)
theorem mA (s:ByteArray) (c:UInt8) (w:World) (he:jl w) (hs:s.size<4294967281):
  Calls Tryz.prog 70 #[.string s, .string ⟨#[c]⟩] w (yb c s w):=by
 obtain⟨m,hm⟩:=he.maxLen;refine(Tryz.strings_Split s ⟨#[c]⟩ m w hs hm (by simp[ByteArray.size])).mono fun e w' ⟨h1,h2⟩=> ?_
 refine⟨Lib.splitB ⟨#[c]⟩ 0 (Lib.countB s ⟨#[c]⟩) s,zP c s, ?_,h2⟩;rw[wM]; exact h1
def gl (l:List UInt8):Int:=if 47∈l then((aS l).length:Int)else -1
theorem Ej (c:UInt8) (h:(c.toNat:Int)=47):c=47:=by
 apply UInt8.toNat_inj.1
 have:c.toNat=47:=by omega
 rw[this]; rfl
theorem sq (s:ByteArray):Lib.lastIndexByte s 47=gl (bl s):=by
 unfold Lib.lastIndexByte;have get: ∀j,(hj:j<(bl s).length)->s.data[j]! =(bl s)[j]:=fun j hj=>by
  have h2:j<s.data.size:=by rw[<-am]at hj; exact hj
  rw[getElem!_pos s.data j h2];exact(Array.getElem_toList (xs:=s.data) h2).symm
 rw[am]
 generalize hl:bl s=l at *
 rcases Lib.lastIdx_spec s 47 l.length with⟨h1,h2⟩ | ⟨i,h1,h2,h3,h4⟩
 ·rw[h1];have:47∉l:=by
   intro hm;obtain⟨j,hj,e⟩:=List.getElem_of_mem hm;refine h2 j hj ?_;rw[get j hj,e]; rfl
  simp[gl,this]
 ·have e:l=l.take i++47::l.drop (i+1):=by
   have:=Ej _ h3;rw[get i h1]at this;rw[<-this]; simp
  have hq:47∉l.drop (i+1):=by
   intro hm;obtain⟨j,hj,e⟩:=List.getElem_of_mem hm;rw[List.length_drop]at hj;refine h4 (i+1+j) (by omega) (by omega) ?_;rw[get _ (by omega)];rw[List.getElem_drop]at e;rw[e]; rfl
  have hp:aS l=l.take i:=by
   have:=gQ (l.take i) _ hq;rw[<-e]at this; exact this
  have hm:47∈l:=by rw[e]; simp
  rw[h2,gl,if_pos hm,hp,List.length_take]
  congr 1; omega
theorem pY (s:ByteArray) (w:World) (hs:s.size<4611686018427387904):
  Calls Tryz.prog 102 #[.string s, .string ⟨#[47]⟩] w fun e w'=>e= .returned (.int .i64 (gl (bl s)))/\w=w':=
 (Tryz.strings_LastIndex_one s ⟨#[47]⟩ rfl hs w).mono fun _ _ ⟨he,hw⟩=>⟨by rw[he]; exact congrArg _ (congrArg _ (sq s)),hw.symm⟩
theorem Ca {s:ByteArray} {p q:Nat} (h: ∀j,j<p->j<s.size->32<=(s.get! j).toNat) (h2: ∀j,p<=j->j<q->128<=(s.get! j).toNat): ∀j,j<q->j<s.size->32<=(s.get! j).toNat:=by
 intro j hj hs
 rcases Nat.lt_or_ge j p with h' | h'
 ·exact h j h' hs
 ·have:=h2 j h' hj; omega
theorem kQ (s:ByteArray) (j:Nat) (h:j<s.size):s.get! j=(bl s)[j]'(by rw[<-am]; exact h):=by
 have e:s.get! j=s.data[j]! :=rfl;have h2:j<s.data.size:=h;rw[e,getElem!_pos s.data j h2];simp[bl]
theorem xI {s:ByteArray} (h: ∀j,j<s.size->32<=(s.get! j).toNat):kj (bl s)=true:=by
 unfold kj;rw[List.all_eq_true];intro c hc;obtain⟨j,hj,rfl⟩:=List.getElem_of_mem hc;have hj2:j<s.size:=by rw[am]; exact hj
 have:=h j hj2;rw[kQ s j hj2]at this
 simpa using this
theorem uf {s:ByteArray} {j:Nat} (hj:j<s.size) (h:(s.get! j).toNat<32):kj (bl s)=false:=by
 unfold kj;rw[List.all_eq_false];rw[kQ s j hj]at h;exact⟨(bl s)[j]'(by rw[<-am]; exact hj),List.getElem_mem _,by rw[decide_eq_true_eq]; omega⟩
theorem ol (s:ByteArray) (pos:Nat) (h:pos<s.size):
  ((s.get! pos).toNat<128/\Utf8.decode s pos=((s.get! pos).toNat,1))\/(128<=(s.get! pos).toNat/\128<=(Utf8.decode s pos).1):=by
 have e:=get_at s pos h;rw[Nat.add_zero]at e
 rcases Nat.lt_or_ge (s.get! pos).toNat 128 with h1 | h1
 ·exact .inl ⟨h1,by rw[decode_ascii s pos h (by rw[<-e]; exact h1),<-e]⟩
 ·exact .inr ⟨h1,(decode_high s pos h (by rw[<-e]; exact h1)).1⟩
theorem kS (s:ByteArray) (w:World) (he:jl w) (hs:s.size<=9223372036854775807):
  Calls Tryz.prog 138 #[.string s] w fun e w'=>e= .returned (.bool (kG (bl s)))/\Below w.heap.size w w':=by
 have HE:=aa he;clear he
 go_enter Tryz.func138,Tryz.ntmps138
 go_wp2
 go_loopw [4] (fun _ wr=> ∃pos:Nat,wr=w.iter s pos/\ ∀j,j<pos->j<s.size->32<=(s.get! j).toNat) (fun _ wr=>s.size-wr.iterPos w.heap.size)
 case atStart=>exact⟨0,rfl,fun j hj=>by omega⟩
 case round=>
  obtain⟨pos,rfl,hlow⟩:=hrel;have HL:=aa hlow;clear hlow
  by_cases hp:pos<s.size
  ·have hnx: ∀ty,(Instr.next (.pointer (some ⟨w.heap.size,0,none⟩)) true ty).run Tryz.prog (w.iter s pos)=_:=fun ty=>run_next_any w s pos ty hp
   go_wp2
   ·go_ret;refine⟨au ?_,(Below.refl _ _).alloc (Nat.le_refl _) _⟩;have hlt:((Utf8.decode s pos).1:Int)<32:=by assumption
    have hd:=ol s pos hp;have hd2:(s.get! pos).toNat<32:=by
     rcases hd with⟨_,h2⟩ | ⟨_,h2⟩
     ·rw[h2]at hlt; simp only at hlt; omega
     ·omega
    simp[kG,uf hp hd2]
   ·go_roundw
    case rel=>
     refine⟨pos+(Utf8.decode s pos).2,rfl, ?_⟩;have hge:(32:Int)<=(Utf8.decode s pos).1:=by assumption
     rcases ol s pos hp with⟨h1,h2⟩ | ⟨h1,h2⟩
     ·intro j hj hjs;rw[h2]at hge hj
      rcases Nat.lt_or_ge j pos with h3 | h3
      ·exact HL.out j h3 hjs
      ·rw[show j=pos by simp at hj; omega]; simp at hge; omega
     ·exact Ca HL.out (tu s pos hp h1).2
    case measure=>
     rw[World.iterPos_iter,World.iterPos_iter];have:=Lib.width_pos s pos;omega
  ·have hnx: ∀ty,(Instr.next (.pointer (some ⟨w.heap.size,0,none⟩)) true ty).run Tryz.prog (w.iter s pos)=_:=fun ty=>run_next_end w s pos ty hp
   go_wp2_with (go_at_call 169; refine(nB s _ (HE.out.below ((Below.refl _ _).alloc (Nat.le_refl _) _)) hs).mono ?_; rintro e w' ⟨rfl,hb⟩);go_ret;refine⟨au ?_,ag ((Below.refl _ _).alloc (Nat.le_refl _) _) hb⟩;simp only[kG,xI (fun j hj=>HL.out j (by omega) hj),Bool.true_and]
theorem iZ (s:ByteArray) (w:World) (he:jl w) (hs:s.size<=9223372036854775807):
  Calls Tryz.prog 112 #[.string s] w fun e w'=>e= .returned (.bool (eV (bl s)))/\Below w.heap.size w w':=by
 have HE:=aa he;clear he
 go_enter Tryz.func112,Tryz.ntmps112
 go_wp2_with (first
  | (go_at_call 111; refine(lw _ _ _).mono ?_; rintro e w' ⟨rfl,rfl⟩)
  | (go_at_call 138; refine(kS _ _ HE.out hs).mono ?_; rintro e w' ⟨rfl,hb⟩))
 all_goals (go_ret; refine⟨au ?_,by first | exact Below.refl _ _ | exact hb⟩)
 all_goals (rw[Bool.eq_iff_iff]; simp_all [eV,bA,am])
 all_goals first | omega | (intros; omega)
def Cx (s:ByteArray) (w:World) (e:Ending) (w':World):Prop:=
 ∃v xs,e= .returned (.tuple #[v, .int .i64 0])/\xs.map bl=aA 47 (bl s)/\dm (w.heap.size<= ·) w' v xs/\Below w.heap.size w w'
def An (w:World) (e:Ending) (w':World):Prop:=e= .returned (.tuple #[.slice none 0 0, .int .i64 1])/\Below w.heap.size w w'
def Ao (s:ByteArray) (w:World) (e:Ending) (w':World):Prop:=(bB (bl s)=true/\Cx s w e w')\/(bB (bl s)=false/\An w e w')
theorem lL {w:World} {xs:List Value} {e:TypeId} {k:Nat} {x:Value} (hx:xs[k]? =some x):(w.alloc (.cells xs.toArray e)).cell? ⟨w.heap.size,k,none⟩=some x:=by
 have h:=heap_alloc_new w (.cells xs.toArray e);simp only[World.cell?,h];simp[hx]
theorem sr {xs:List ByteArray} {k:Nat} {x:ByteArray} (hx:xs[k]? =some x):(xs.map Value.string)[k]? =some (.string x):=by simp[hx]
theorem zQ {xs:List ByteArray} {s:ByteArray} (hx:xs.map bl=aA 47 (bl s)) (h1:(bl s).length<=512) (h2:xs.length<=16) (h: ∀(j:Nat) x,j<xs.length->xs[j]? =some x->eV (bl x)=true):bB (bl s)=true:=by
 have hl:(aA 47 (bl s)).length=xs.length:=by rw[<-hx]; simp
 have ha:(aA 47 (bl s)).all eV=true:=by
  rw[<-hx,List.all_map,List.all_eq_true];intro x hm;obtain⟨j,hj,rfl⟩:=List.getElem_of_mem hm;exact h j _ hj (by simp)
 simp[bB,h1,hl,h2,ha]
theorem ru {xs:List ByteArray} {s:ByteArray} {j:Nat} {x:ByteArray} (hx:xs.map bl=aA 47 (bl s)) (h:xs[j]? =some x) (hc:eV (bl x)=false):bB (bl s)=false:=by
 have ha:(aA 47 (bl s)).all eV=false:=by
  rw[<-hx,List.all_map,List.all_eq_false];exact⟨x,List.mem_of_getElem? h,by simp[hc]⟩
 simp[bB,ha]
theorem zR {xs:List ByteArray} {s:ByteArray} (hx:xs.map bl=aA 47 (bl s)) (h: ¬xs.length<=16):bB (bl s)=false:=by
 have hl:(aA 47 (bl s)).length=xs.length:=by rw[<-hx]; simp
 simp[bB,hl,h]
theorem wP {s:ByteArray} (h: ¬(bl s).length<=512):bB (bl s)=false:=by simp[bB,h]
theorem gh (c:UInt8) (l:List UInt8): ∀p∈aA c l,p.length<=l.length:=by
 induction l with
 | nil=>simp[aA]
 | cons b l ih=>
  unfold aA
  split
  ·intro p hp; rcases List.mem_cons.1 hp with rfl | hp
   ·simp
   ·have:=ih p hp; simp; omega
  ·split
   ·rename_i h t e;rw[e]at ih;intro p hp; rcases List.mem_cons.1 hp with rfl | hp
    ·have:=ih h (by simp); simp; omega
    ·have:=ih p (by simp[hp]); simp; omega
   ·intro p hp; simp at hp; simp[hp]
theorem ko {xs:List ByteArray} {s:ByteArray} {c:UInt8} {j:Nat} {x:ByteArray} (hx:xs.map bl=aA c (bl s)) (h:xs[j]? =some x):x.size<=s.size:=by
 rw[am,am];exact gh c (bl s) (bl x) (by rw[<-hx]; exact List.mem_map.2 ⟨x,List.mem_of_getElem? h,rfl⟩)
theorem BV {w w':World} {xs:List ByteArray} {e:TypeId} (hl:xs.length<=maxLen) (hb:Below (w.heap.size+1) (w.alloc (.cells (xs.map Value.string).toArray e)) w'):
  dm (w.heap.size<= ·) w' (.slice (some ⟨w.heap.size,0,none⟩) xs.length xs.length) xs:=by
 refine⟨by simp,some ⟨w.heap.size,0,none⟩,xs.length,rfl,Nat.le_refl _,hl, .inr ⟨w.heap.size,0,rfl,Nat.le_refl _,fun j u hu=> ?_⟩⟩;rw[hb.cell (p:=⟨w.heap.size,0+j,none⟩) (by simp),Nat.zero_add];exact lL hu
theorem nk (s:ByteArray) (w:World) (he:jl w):Calls Tryz.prog 73 #[.string s] w (Ao s w):=by
 have HE:=aa he;clear he
 by_cases h5:s.size<=512
 ·go_enter Tryz.func73,Tryz.ntmps73
  go_wp2_with fail;refine(mA s 47 w HE.out (by omega)).mono ?_;rintro e w' ⟨xs,hx,rfl,rfl⟩;have hxl:xs.length<=513:=by
   have h1:(aA 47 (bl s)).length=xs.length:=by rw[<-hx]; simp
   have h2:=dE 47 (bl s);rw[<-am]at h2;omega
  have HX:=aa hx;clear hx
  by_cases h16:xs.length<=16
  ·go_wp2_with fail
   go_loopw [17] (fun i wr=> ∃k:Nat,k<=xs.length/\i= .int .i64 k/\Below (w.heap.size+1) (w.alloc (.cells (xs.map Value.string).toArray 9)) wr/\ ∀(j:Nat) x,j<k->xs[j]? =some x->eV (bl x)=true) (fun i _=>xs.length-(intOf i).toNat)
   case atStart=>exact⟨0,Nat.zero_le _,rfl,Below.refl _ _,fun j x hj=>by omega⟩
   case round=>
    obtain⟨k,hk,rfl,hb,hall⟩:=hrel;have HA:=aa hall;clear hall
    by_cases hlt:k<xs.length
    ·obtain⟨x,hx⟩: ∃x,xs[k]? =some x:=⟨xs[k],by simp[hlt]⟩;have hcell:wr.cell? ⟨w.heap.size,k,none⟩=some (.string x):=(hb.cell (p:=⟨w.heap.size,k,none⟩) (by simp)).trans (lL (sr hx));have hxs:x.size<=9223372036854775807:=by have:=ko HX.out hx; omega
     have HK:=aa hx;have HB:=aa hb;clear hx hb
     cases hc:eV (bl x)
     ·have HC:=aa hc;clear hc;go_wp2_with (go_at_call 112; refine(iZ x wr (HE.out.below (ag ((Below.refl _ _).alloc (Nat.le_refl _) _) (by simpa using HB.out))) hxs).mono ?_; rintro e w' ⟨rfl,hb2⟩; rw[HC.out])
      go_ret2
      refine .inr ⟨ru HX.out HK.out HC.out,rfl, ?_⟩;exact ag (ag ((Below.refl _ _).alloc (Nat.le_refl _) _) (by simpa using HB.out)) hb2
     ·have HC:=aa hc;clear hc;go_wp2_with (go_at_call 112; refine(iZ x wr (HE.out.below (ag ((Below.refl _ _).alloc (Nat.le_refl _) _) (by simpa using HB.out))) hxs).mono ?_; rintro e w' ⟨rfl,hb2⟩; rw[HC.out])
      go_roundw
      case rel=>
       refine⟨k+1,by omega,by go_num,HB.out.trans (hb2.mono (by have:=HB.out.size; simpa using this)),fun j x' hj hx'=> ?_⟩
       rcases Nat.lt_or_ge j k with h | h
       ·exact HA.out j x' h hx'
       ·obtain rfl:j=k:=by omega
        have:=HK.out.symm.trans hx'
        cases this
        exact HC.out
      case measure=>simp[intOf]; omega
    ·have HB:=aa hb;clear hb
     go_wp2
     go_ret2
     refine .inl ⟨zQ HX.out (by rw[<-am]; exact h5) h16 (fun j x hj hx=>HA.out j x (by omega) hx),_,xs,rfl,HX.out,BV (by unfold maxLen; omega) HB.out, ?_⟩;exact ag ((Below.refl _ _).alloc (Nat.le_refl _) _) (by simpa using HB.out)
  ·go_wp2_with fail
   go_ret2
   exact .inr ⟨zR HX.out h16,rfl,(Below.refl _ _).alloc (Nat.le_refl _) _⟩
 ·go_enter Tryz.func73,Tryz.ntmps73
  go_wp2_with fail
  go_ret2
  exact .inr ⟨wP (by rw[<-am]; exact h5),rfl,Below.refl _ _⟩
theorem rC (s:ByteArray) (w:World) (he:jl w):
  Calls Tryz.prog 98 #[.string s] w fun e w'=>e= .returned (.bool (bB (bl s)))/\Below w.heap.size w w':=by
 go_enter Tryz.func98,Tryz.ntmps98
 go_wp2_with fail;refine(nk s w he).mono ?_;rintro e w' (⟨hv,v,xs,rfl,-,-,hb⟩ | ⟨hv,rfl,hb⟩)
 ·go_wp2
  go_ret;exact⟨au (by rw[hv]),hb⟩
 ·go_wp2
  go_ret;exact⟨au (by rw[hv]),hb⟩
def fZ (c:Int):Int:=if c=47 then -1 else c
theorem BD (c:Int) (w:World) (h0:0<=c) (h1:c<=255):Calls Tryz.prog 100 #[.int .u8 c] w fun e w'=>e= .returned (.int .i64 (fZ c))/\w=w':=by
 by_cases h:c=47
 ·subst h
  go_enter Tryz.func100,Tryz.ntmps100
  go_wp2
  go_ret;exact⟨rfl,rfl⟩
 ·have hr:fZ c=c:=if_neg h;have HR:=aa hr;clear hr;have h2:(c == 47)=false:=by simpa using h
  go_enter Tryz.func100,Tryz.ntmps100
  go_wp2
  go_ret;exact⟨bp HR.out.symm,rfl⟩
theorem CK (l r:List UInt8) (h:l=[]\/r=[]):bV l r=Lib.compareInt (l.length:Int) r.length:=by
 rcases h with rfl | rfl
 ·cases r
  ·simp[bV,Lib.compareInt]
  ·rw[bV,Lib.compareInt,if_pos (by simp<;> omega)]
 ·cases l
  ·simp[bV,Lib.compareInt]
  ·rw[bV,Lib.compareInt,if_neg (by simp<;> omega),if_pos (by simp<;> omega)]
theorem oe (x y:Int) (k:Int):Lib.compareInt (x-k) (y-k)=Lib.compareInt x y:=by
 unfold Lib.compareInt;have h1:(x-k<y-k)<->(x<y):=by omega
 have h2:(x-k>y-k)<->(x>y):=by omega
 simp only[h1,h2]
theorem nD {l r:List UInt8} {k:Nat} (hk1:k<=l.length) (hk2:k<=r.length) (h:k=l.length\/k=r.length):bV (l.drop k) (r.drop k)=Lib.compareInt (l.length:Int) r.length:=by
 rw[CK _ _ (by rcases h with rfl | rfl<;> simp)];rw[List.length_drop,List.length_drop,<-oe (l.length:Int) r.length k]
 congr 1<;> omega
theorem tf {l r:List UInt8} {k:Nat} (hl:k<l.length) (hr:k<r.length) (h:l[k]=r[k]):bV (l.drop k) (r.drop k)=bV (l.drop (k+1)) (r.drop (k+1)):=by
 rw[List.drop_eq_getElem_cons hl,List.drop_eq_getElem_cons hr,bV,if_pos h]
theorem od {l r:List UInt8} {k:Nat} (hl:k<l.length) (hr:k<r.length) (h:l[k]≠r[k]):bV (l.drop k) (r.drop k)=Lib.compareInt (cZ l[k]) (cZ r[k]):=by
 rw[List.drop_eq_getElem_cons hl,List.drop_eq_getElem_cons hr,bV,if_neg h]
theorem eu (s:ByteArray) (k:Nat) (h:k<s.size):s[k]=(bl s)[k]'(by rw[<-am]; exact h):=by
 exact(Array.getElem_toList (xs:=s.data) h).symm
theorem lJ (c:UInt8):fZ c.toNat=cZ c:=by
 unfold fZ cZ
 by_cases h:c=47
 ·subst h; rfl
 ·rw[if_neg h,if_neg];intro e; apply h; apply UInt8.toNat_inj.1; have:c.toNat=47:=by omega
  rw[this]; rfl
theorem ti (a b:ByteArray) (w:World) (ha:a.size<=9223372036854775807):
  Calls Tryz.prog 65 #[.string a, .string b] w fun e w'=>e= .returned (.int .i64 (bV (bl a) (bl b)))/\Below w.heap.size w w':=by
 go_enter Tryz.func65,Tryz.ntmps65
 go_wp2_with fail;obtain⟨m,hm⟩: ∃m:Nat,min (a.size:Int) (b.size:Int)=m:=⟨min a.size b.size,by omega⟩;have hm1:m<=a.size:=by omega
 have hm2:m<=b.size:=by omega
 have hm3:m=a.size\/m=b.size:=by omega
 rw[hm];have HM:=aa hm3;clear hm hm3
 go_loopw [12] (fun i wr=> ∃k:Nat,k<=m/\i= .int .i64 k/\Below w.heap.size w wr/\bV (bl a) (bl b)=bV ((bl a).drop k) ((bl b).drop k)) (fun i _=>m-(intOf i).toNat)
 case atStart=>exact⟨0,Nat.zero_le _,rfl,Below.refl _ _,rfl⟩
 case round=>
  obtain⟨k,hk,rfl,hbw,hc⟩:=hrel;have HC:=aa hc;have HB:=aa hbw;clear hc hbw
  by_cases hlt:k<m
  ·have h1:(k:Int)<(a.size:Int):=by omega
   have h2:(k:Int)<(b.size:Int):=by omega
   have h3:k<a.size:=by omega
   have h4:k<b.size:=by omega
   by_cases hq:a[k]=b[k]
   ·have hq2:(((a[k]).toNat:Int) != (b[k]).toNat)=false:=by simp[hq]
    have HQ:=aa hq;clear hq;go_wp2_with fail
    go_quiet (fail)
    go_wp2_with fail
    go_roundw
    case rel=>
     refine⟨k+1,by omega,by go_num,bS HB.out nq, ?_⟩;rw[HC.out];refine tf (by rw[<-am]; exact h3) (by rw[<-am]; exact h4) ?_;rw[<-eu,<-eu]; exact HQ.out
    case measure=>simp[intOf]; omega
   ·have hq2:(((a[k]).toNat:Int) != (b[k]).toNat)=true:=by
     rw[bne_iff_ne]; intro e; apply hq; exact UInt8.toNat_inj.1 (by omega)
    have HQ:=aa hq;clear hq;go_wp2_with fail
    go_quiet (fail)
    go_wp2_with fail;have hW: ∃W,W=wr.drewN nq/\Below w.heap.size w W:=⟨_,rfl,bS HB.out nq⟩;obtain⟨W,hWe,hWb⟩:=hW;rw[<-hWe];have HB2:=aa hWb;clear hWe hWb HB;have hr1:=(a[k]).toNat_lt;have hr2:=(b[k]).toNat_lt
    go_quiet ((first | (go_at_call 100; refine ei (BD _ _ (by omega) (by omega))) | (go_at_call 101; refine ei (ju _ _ _))))
    go_wp2_with fail;go_ret;refine⟨bp ?_,bS HB2.out _⟩;rw[lJ,lJ,HC.out,od (by rw[<-am]; exact h3) (by rw[<-am]; exact h4) (by rw[<-eu,<-eu]; exact HQ.out),<-eu,<-eu]
  ·go_wp2_with (go_at_call 101; refine(ju _ _ _).mono ?_; rintro e w' ⟨rfl,rfl⟩);go_ret;refine⟨bp ?_,HB.out⟩;have hM:=HM.out;rw[HC.out,nD (by rw[<-am]; omega) (by rw[<-am]; omega) (by rw[<-am,<-am]; omega),<-am,<-am]
theorem wn (s:ByteArray) (w:World) (he:jl w) (hv:bB (bl s)=true):
  Calls Tryz.prog 66 #[.string s] w fun e w'=>e= .returned (.tuple #[.string ⟨(aS (bl s)).toArray⟩, .bool true])/\Below w.heap.size w w':=by
 have HV:=aa hv;have h5:s.size<=512:=by simp only[bB,Bool.and_eq_true,decide_eq_true_eq]at hv; rw[am]; exact hv.1.1
 have hl:(aS (bl s)).length<=s.size:=by rw[lH,List.length_take,am]; omega
 clear hv
 go_enter Tryz.func66,Tryz.ntmps66
 go_wp2_with fail;refine(rC s w he).mono ?_;rintro e w1 ⟨rfl,hb1⟩;rw[HV.out];have HB1:=aa hb1;clear hb1;go_wp2_with fail;refine(pY s w1 (by omega)).mono ?_;rintro e w2 ⟨rfl,rfl⟩;obtain⟨n,hn⟩: ∃n:Nat,n=(aS (bl s)).length:=⟨_,rfl⟩;have hmax:max (gl (bl s)) 0=(n:Int):=by
  unfold gl
  split
  ·omega
  ·rename_i h; rw[hn,iM _ h]; rfl
 have hle:n<=s.size:=by omega
 have HN:=aa hn;clear hn hl;go_wp2_with fail
 go_ret2
 refine⟨?_,HB1.out⟩;have e:s.extract 0 n=⟨(aS (bl s)).toArray⟩:=jr (by rw[iF,io (aS (bl s)),HN.out,List.drop_zero,<-lH]);rw[<-e]; rfl
structure bu where
 path:ByteArray
 kind:Int
 mode:Int
 time:Int
 data:List UInt8
 link:ByteArray
deriving DecidableEq
def iQ (l:List UInt8):Bool:=decide (1<=l.length) && decide (l.length<=512) && !l.contains 0
def dZ (e:bu):Bool:=
 if e.kind=1 then decide (e.data.length<=1048576) && decide (e.link.size=0)
 else if e.kind=2 then decide (e.data.length=0) && decide (e.link.size=0)
 else if e.kind=3 then decide (e.data.length=0) && iQ (bl e.link)
 else false
def gZ (e:bu):Bool:=decide (0<=e.mode) && decide (e.mode<=511) && decide (0<=e.time)
def bW (e:bu):Bool:=bB (bl e.path) && gZ e && dZ e
def dW (L:List bu) (p:ByteArray):Option bu:=L.find? fun e=>decide (e.path=p)
def gc (L:List bu) (p:List UInt8):Int:=if p=[]then 0 else match dW L ⟨p.toArray⟩with
 | none=>4
 | some e=>if e.kind=2 then 0 else 13
def kM (a b:bu):Int:=bV (bl a.path) (bl b.path)
def gt (pre:List bu) (e:bu):Bool:=match pre.getLast? with
 | none=>true
 | some f=>decide (kM f e<0)
def bM (pre:List bu) (e:bu):Int:=if(bW e && gt pre e)=true then gc pre (aS (bl e.path))else 1
def gU :List bu->List bu->Int
 | _,[]=>0
 | pre,e::r=>if bM pre e=0 then gU (pre++[e]) r else bM pre e
def bZ (L:List bu):Int:=if 4096<L.length then 2 else gU [] L
theorem Dt {p:ByteArray} {l:List UInt8} (h:bl p=l):p=⟨l.toArray⟩:=jr (by rw[h]; simp[bl])
theorem AC (a b:bu):kM b a= -kM a b:=xp _ _
theorem qt {a b:bu} :kM a b=0<->a.path=b.path:=by
 unfold kM; rw[lp]; exact⟨jr,fun h=>by rw[h]⟩
theorem pP {a b c:bu} (h1:kM a b<0) (h2:kM b c<0):kM a c<0:=by
 obtain⟨h3,h4⟩:=qu (bl a.path) (bl b.path) (bl c.path) (by unfold kM at h1; omega) (by unfold kM at h2; omega)
 rcases Int.lt_or_eq_of_le h3 with h | h
 ·exact h
 ·have:=(h4 h).1; unfold kM at h1; omega
def dx (L:List bu):Prop:=L.Pairwise fun a b=>kM a b<0
theorem dx.nodup {L:List bu} (h:dx L):(L.map bu.path).Nodup:=by
 unfold List.Nodup;rw[List.pairwise_map];exact List.Pairwise.imp (fun h e=>by have:=qt.2 e; omega) h
theorem dx.filter {L:List bu} (h:dx L) (p:bu->Bool):dx (L.filter p):=List.Pairwise.filter p h
theorem kP {L:List bu} {p:ByteArray} {e:bu} (h:dW L p=some e):e∈L/\e.path=p:=by
 unfold dW at h;exact⟨List.mem_of_find?_eq_some h,by have:=List.find?_some h; simpa using this⟩
theorem oE {L:List bu} {p:ByteArray} (h:dW L p=none): ∀e∈L,e.path≠p:=by
 unfold dW at h;rw[List.find?_eq_none]at h;intro e he hp;exact h e he (by simp[hp])
theorem yr {L:List bu} (hn:(L.map bu.path).Nodup) {e:bu} (he:e∈L):dW L e.path=some e:=by
 cases h:dW L e.path with
 | none=>exact absurd rfl (oE h e he)
 | some f=>
  obtain⟨h1,h2⟩:=kP h;have:f=e:=by
   unfold List.Nodup at hn;rw[List.pairwise_map,List.pairwise_iff_getElem]at hn;obtain⟨i,hi,rfl⟩:=List.getElem_of_mem h1;obtain⟨j,hj,rfl⟩:=List.getElem_of_mem he
   by_cases hij:i=j
   ·subst hij; rfl
   ·exfalso
    rcases Nat.lt_or_gt_of_ne hij with hlt | hlt
    ·exact hn i j hi hj hlt h2
    ·exact hn j i hj hi hlt h2.symm
  rw[this]
structure TOk (L : List bu) : Prop where
 ord:dx L
 val: ∀e∈L,bW e=true
 up: ∀e∈L,gc L (aS (bl e.path))=0
 len:L.length<=4096
theorem TOk.nil :TOk []:=⟨List.Pairwise.nil,by simp,by simp,by simp⟩
theorem TOk.nodup {L:List bu} (h:TOk L):(L.map bu.path).Nodup:=h.ord.nodup
theorem bY {e:bu} (h:bW e=true):bB (bl e.path)=true:=by
 unfold bW at h; simp only[Bool.and_eq_true]at h; exact h.1.1
theorem Ci {l:List UInt8} (h:bB l=true):l≠[]:=by
 intro e; subst e; exact absurd h (by decide)
theorem pI {l:List UInt8} (h:bB l=true):l.length<=512:=by
 simp only[bB,Bool.and_eq_true,decide_eq_true_eq]at h; exact h.1.1
theorem qB {L:List bu} {p:List UInt8} (h:gc L p=0) (hp:p≠[]): ∃f∈L,bl f.path=p/\f.kind=2:=by
 unfold gc at h;rw[if_neg hp]at h
 cases hf:dW L ⟨p.toArray⟩with
 | none=>rw[hf]at h; simp at h
 | some f=>
  rw[hf]at h;simp only at h;obtain⟨h1,h2⟩:=kP hf
  split at h
  ·exact⟨f,h1,by rw[h2]; simp[bl],by assumption⟩
  ·simp at h
theorem lA {L:List bu} (hn:(L.map bu.path).Nodup) {p:List UInt8} (h:p=[]\/ ∃f∈L,bl f.path=p/\f.kind=2):gc L p=0:=by
 unfold gc
 by_cases hp:p=[]
 ·rw[if_pos hp]
 ·rw[if_neg hp]
  rcases h with h | ⟨f,h1,h2,h3⟩
  ·exact absurd h hp
  ·have:f.path=⟨p.toArray⟩:=Dt h2;rw[<-this,yr hn h1];simp only[if_pos h3]
theorem gD {l:List UInt8} (h:bB l=true):(aS l).length<l.length:=by
 by_cases hm:(47:UInt8)∈l
 ·obtain⟨p,t,hq,ht⟩:=kT l hm;have:aS l=p:=by rw[hq]; exact gQ p t ht
  rw[this,hq]; simp
 ·rw[iM l hm];have:=Ci h
  cases l with
  | nil=>exact absurd rfl this
  | cons=>simp
def Ag (M:List bu) (x:bu):Prop:=aS (bl x.path)=[]\/ ∃f∈M,bl f.path=aS (bl x.path)/\f.kind=2
theorem wV {L:List bu} {x:bu} (h:gc L (aS (bl x.path))=0):Ag L x:=by
 by_cases hp:aS (bl x.path)=[]
 ·exact .inl hp
 ·obtain⟨f,h1,h2,h3⟩:=qB h hp;exact .inr ⟨f,h1,h2,h3⟩
theorem DP {M:List bu} (hs:dx M) (hv: ∀e∈M,bW e=true) (hu: ∀x∈M,Ag M x) (hl:M.length<=4096):TOk M:=
 ⟨hs,hv,fun e he=>lA hs.nodup (hu e he),hl⟩
theorem TOk.has {L:List bu} (h:TOk L) {e:bu} (he:e∈L):Ag L e:=wV (h.up e he)
theorem um {l:List UInt8} (h:aS l≠[]): ∃t,l=aS l++47::t:=by
 by_cases hm:(47:UInt8)∈l
 ·obtain⟨p,q,rfl,hq⟩:=kT l hm;exact⟨q,by rw[gQ p q hq]⟩
 ·exact absurd (iM l hm) h
theorem qA {L M:List bu} (hm:(M.map bu.path).Nodup) (hs: ∀x∈L,x∈M) {p:List UInt8} (h:gc L p=0):gc M p=0:=by
 by_cases hp:p=[]
 ·exact lA hm (.inl hp)
 ·obtain⟨f,h1,h2,h3⟩:=qB h hp;exact lA hm (.inr ⟨f,hs f h1,h2,h3⟩)
structure Tr (L : List bu) : Prop where
 ord:dx L
 val: ∀e∈L,bW e=true
 up: ∀e∈L,gc L (aS (bl e.path))=0
theorem qe {e f:bu} (hv:bW e=true) (hp:aS (bl e.path)≠[]) (hf:bl f.path=aS (bl e.path)):kM f e<0:=by
 obtain⟨t,ht⟩:=um hp;have h1:kM f e<=0:=by
  unfold kM;rw[hf,ht];have:=xo (aS (bl e.path)) (47::t);have h2:aS (aS (bl e.path)++47::t)=aS (bl e.path):=by rw[<-ht]
  rw[h2]; exact this
 rcases Int.lt_or_eq_of_le h1 with h | h
 ·exact h
 ·have h2:=qt.1 h;have h3:=gD (bY hv);rw[<-hf,h2]at h3;omega
theorem Tr.pre {L M:List bu} (h:Tr (L++M)):Tr L:=by
 obtain⟨s1,s2,s3⟩:=List.pairwise_append.1 h.ord;refine⟨s1,fun e he=>h.val e (by simp[he]),fun e he=> ?_⟩;have hu:=wV (h.up e (by simp[he]));refine lA (dx.nodup s1) ?_
 rcases hu with hu | ⟨f,h1,h2,h3⟩
 ·exact .inl hu
 ·by_cases hp:aS (bl e.path)=[]
  ·exact .inl hp
  ·right
   have hb:=qe (h.val e (by simp[he])) hp h2
   rcases List.mem_append.1 h1 with h1 | h1
   ·exact⟨f,h1,h2,h3⟩
   ·have h4:=s3 e he f h1;have h5:=AC e f;omega
theorem nP {pre:List bu} (hs:dx pre) {e:bu} :gt pre e=true<->dx (pre++[e]):=by
 unfold gt
 cases hl:pre.getLast? with
 | none=>
  rw[List.getLast?_eq_none_iff]at hl;subst hl;simp[dx]
 | some f=>
  obtain⟨ys,hy⟩:=List.getLast?_eq_some_iff.1 hl;simp only[decide_eq_true_eq]
  constructor
  ·intro h;refine List.pairwise_append.2 ⟨hs,by simp,fun a ha b hb=> ?_⟩;simp only[List.mem_singleton]at hb;subst hb;rw[hy]at ha hs
   rcases List.mem_append.1 ha with ha | ha
   ·exact pP ((List.pairwise_append.1 hs).2.2 a ha f (by simp)) h
   ·simp only[List.mem_singleton]at ha; subst ha; exact h
  ·intro h;exact(List.pairwise_append.1 h).2.2 f (by rw[hy]; simp) e (by simp)
theorem js {pre:List bu} (h:Tr pre) (e:bu):bM pre e=0<->Tr (pre++[e]):=by
 unfold bM
 constructor
 ·intro hc
  split at hc
  ·rename_i hva;rw[Bool.and_eq_true]at hva;have hs:=(nP h.ord).1 hva.2;have hm: ∀x∈pre,x∈pre++[e]:=fun x hx=>by simp[hx]
   refine⟨hs,fun x hx=> ?_,fun x hx=> ?_⟩
   ·rcases List.mem_append.1 hx with hx | hx
    ·exact h.val x hx
    ·simp only[List.mem_singleton]at hx; subst hx; exact hva.1
   ·rcases List.mem_append.1 hx with hx | hx
    ·exact qA hs.nodup hm (h.up x hx)
    ·simp only[List.mem_singleton]at hx; subst hx; exact qA hs.nodup hm hc
  ·simp at hc
 ·intro ht;have hv:=ht.val e (by simp);rw[if_pos (by rw[hv,(nP h.ord).2 ht.ord]; rfl)];refine lA h.ord.nodup ?_
  rcases wV (ht.up e (by simp))with hu | ⟨f,h1,h2,h3⟩
  ·exact .inl hu
  ·rcases List.mem_append.1 h1 with h1 | h1
   ·exact .inr ⟨f,h1,h2,h3⟩
   ·simp only[List.mem_singleton]at h1;subst h1;have:=gD (bY hv);rw[<-h2]at this; omega
theorem nS : ∀ {r pre:List bu},Tr pre->(gU pre r=0<->Tr (pre++r))
 | [],pre,h=>by simp only[gU,List.append_nil]; exact⟨fun _=>h,fun _=>trivial⟩
 | e::r,pre,h=>by
  have h1:=js h e;rw[gU]
  split
  ·rename_i hc;have:=nS (r:=r) (h1.1 hc);rw[this]; simp
  ·rename_i hc
   constructor
   ·intro h2; exact absurd h2 hc
   ·intro h2;have h3:Tr (pre++[e]):=Tr.pre (M:=r) (by simpa using h2);exact absurd (h1.2 h3) hc
theorem fd {L:List bu} :bZ L=0<->TOk L:=by
 unfold bZ
 split
 ·rename_i h;exact⟨fun h2=>by simp at h2,fun h2=>by have:=h2.len; omega⟩
 ·rename_i h;rw[nS (r:=L) (pre:=[]) ⟨List.Pairwise.nil,by simp,by simp⟩,List.nil_append];exact⟨fun t=>⟨t.ord,t.val,t.up,by omega⟩,fun t=>⟨t.ord,t.val,t.up⟩⟩
end Go.Proofs.YtnjkpcalgoefhaaGreatDoor
namespace Go.Proofs.YtnjkpcalgoefhaaGreatDoor
theorem uZ {l:List UInt8} (h:bB l=true): ∀p∈aA 47 l,kG p=true/\p≠[]:=by
 simp only[bB,Bool.and_eq_true,List.all_eq_true]at h;intro p hp;have:=h.2 p hp;simp only[eV,Bool.and_eq_true]at this;exact⟨this.2,by have h1:=this.1.1.1.1.1; simpa using h1⟩
theorem jE (dir:Bool) (parts:List (List UInt8)) (us:List (aU×List aP)): ∀(f n:Nat),cB dir parts us f n=true<-> ∃m,n<=m/\m<n+f/\eX dir parts m us false=true
 | 0,n=>by simp[cB]; intro x h1 h2; omega
 | f+1,n=>by
  rw[cB];have ih:=jE dir parts us f (n+1)
  cases h:eX dir parts n us false
  ·simp only[Bool.false_eq_true,if_false];rw[ih]
   constructor
   ·rintro⟨m,h1,h2,h3⟩; exact⟨m,by omega,by omega,h3⟩
   ·rintro⟨m,h1,h2,h3⟩;refine⟨m, ?_,by omega,h3⟩
    rcases Nat.lt_or_ge n m with h4 | h4
    ·omega
    ·obtain rfl:m=n:=by omega
     rw[h]at h3; cases h3
  ·simp only[if_true,true_iff];exact⟨n,by omega,by omega,h⟩
theorem oJ (dir:Bool) (parts:List (List UInt8)) (n:Nat) (hn:n<parts.length): ∀(us:List (aU×List aP)) (b:Bool),eX true parts.dropLast n us b=eX dir parts n us b
 | [],b=>rfl
 | (q,ds)::us,b=>by
  simp only[eX];have e:eP true q ds parts.dropLast n=eP dir q ds parts n:=by
   unfold eP;have ht:parts.dropLast.take n=parts.take n:=by
    rw[List.dropLast_eq_take,List.take_take]; congr 1; omega
   rw[ht];simp[hn]
  rw[e,oJ dir parts n hn us]
def vr (parts:List (List UInt8)) (us:List (aU×List aP)):Bool:=cB true parts.dropLast us parts.dropLast.length 1
theorem ye (dir:Bool) (parts:List (List UInt8)) (us:List (aU×List aP)):vr parts us=true<-> ∃m,1<=m/\m<parts.length/\eX dir parts m us false=true:=by
 unfold vr;rw[jE]
 constructor
 ·rintro⟨m,h1,h2,h3⟩;rw[List.length_dropLast]at h2;exact⟨m,h1,by omega,by rw[<-oJ dir parts m (by omega)]; exact h3⟩
 ·rintro⟨m,h1,h2,h3⟩;exact⟨m,h1,by rw[List.length_dropLast]; omega,by rw[oJ dir parts m h2]; exact h3⟩
theorem Au {dir:Bool} {parts:List (List UInt8)} {us:List (aU×List aP)} (h:vr parts us=true):cB dir parts us parts.length 1=true:=by
 obtain⟨m,h1,h2,h3⟩:=(ye dir parts us).1 h;exact(jE _ _ _ _ _).2 ⟨m,h1,by omega,h3⟩
theorem jF : ∀(ls:List (List UInt8)) (i:Nat) (acc rs:List aU) (n:Int),(∀r∈acc,(ba r).isSome=true)->cS ls i acc=(rs,n,0)->(∀r∈rs,(ba r).isSome=true)/\rs.length<=acc.length+ls.length/\n=0
 | [],i,acc,rs,n,ha,h=>by
  simp only[cS,Prod.mk.injEq]at h;obtain⟨rfl,rfl,_⟩:=h;exact⟨ha,by simp,rfl⟩
 | l::ls,i,acc,rs,n,ha,h=>by
  rw[cS]at h
  split at h
  ·have:=jF ls (i+1) acc rs n ha h;exact⟨this.1,by have:=this.2.1; simp; omega,this.2.2⟩
  ·split at h
   ·simp at h
   ·rename_i r hr
    split at h
    ·simp at h
    ·have hc:(ba r).isSome=true:=by
      unfold cu at hr
      split at hr
      ·cases hr; assumption
      ·cases hr
     have:=jF ls (i+1) (acc++[r]) rs n (fun q hq=>by
      rcases List.mem_append.1 hq with hq | hq
      ·exact ha q hq
      ·simp at hq; subst hq; exact hc) h
     exact⟨this.1,by have:=this.2.1; simp at this ⊢; omega,this.2.2⟩
theorem jv : ∀(rs:List aU),(∀r∈rs,(ba r).isSome=true)-> ∃us,aW rs=some us
 | [],_=>⟨[],rfl⟩
 | r::rs,h=>by
  obtain⟨us,hu⟩:=jv rs (fun q hq=>h q (by simp[hq]));obtain⟨cs,hc⟩:=Option.isSome_iff_exists.1 (h r (by simp));exact⟨(r,cs)::us,by simp[aW,hc,hu]⟩
theorem un {l:List UInt8} {rs:List aU} {n:Int} (h:cz l=(rs,n,0)):(∃us,aW rs=some us)/\rs.length<=l.length+1/\n=0/\ ∀r∈rs,r.pat.length<=512:=by
 unfold cz at h
 split at h
 ·simp at h
 ·have:=jF _ 0 [] rs n (by simp) h;have hl:=dE 10 l;refine⟨jv rs this.1,by have:=this.2.1; simp at this; omega,this.2.2,fun r hr=> ?_⟩;obtain⟨cs,hc⟩:=Option.isSome_iff_exists.1 (this.1 r hr);unfold ba at hc
  split at hc
  ·cases hc
  ·split at hc
   ·cases hc
   ·unfold iw at hc
    split at hc
    ·cases hc
    ·omega
theorem yO {l:List UInt8} (h:bB l=true):(aS l=[]/\(aA 47 l).dropLast=[])\/(aS l≠[]/\bB (aS l)=true/\aA 47 (aS l)=(aA 47 l).dropLast):=by
 unfold aS cT
 by_cases he:(aA 47 l).dropLast=[]
 ·left; exact⟨by rw[he]; rfl,he⟩
 ·right
  have hs:aA 47 (Lib.join (aA 47 l).dropLast [47])=(aA 47 l).dropLast:=uP 47 _ he (fun p hp=>wO 47 l p (List.dropLast_subset _ hp));have hne:Lib.join (aA 47 l).dropLast [47]≠[]:=by
   intro e;rw[e]at hs;have h1:aA 47 []=[[]]:=rfl;rw[h1]at hs;have:=(uZ h [] (List.dropLast_subset _ (by rw[<-hs]; simp))).2;exact this rfl
  refine⟨hne, ?_,hs⟩;have hp:=h;simp only[bB,Bool.and_eq_true,decide_eq_true_eq,List.all_eq_true]at hp ⊢;rw[hs];refine⟨⟨?_,by rw[List.length_dropLast]; omega⟩,fun p hp'=>hp.2 p (List.dropLast_subset _ hp')⟩;have hl:(Lib.join (aA 47 l).dropLast [47]).length<=(Lib.join (aA 47 l) [47]).length:=by
   have e:=List.dropLast_concat_getLast (eG 47 l);have e2:=nl (aA 47 l).dropLast ((aA 47 l).getLast (eG 47 l));rw[e]at e2;unfold cT at e2;rw[e2,if_neg he];simp
  rw[mX]at hl;omega
open Go
section
variable {P : Program} {ops : Array Oper} {md : Region.Mode} {w : World}
def vG (md:Region.Mode) (ops:Array Oper) (m:Nat):Bool:=
 ((List.range m).all fun i=>decide (ops.size<=m) || (List.range (m+1)).any fun j=>decide (i<j) && Region.waitsFor md ops j i) &&
 ((List.range ops.size).all fun t=>decide (t<=m) || (List.range t).any fun u=>decide (m<=u) && Region.waitsFor md ops t u)
theorem mi {m:Nat} {listed:Array Bool} (hc:vG md ops m=true) (inv:HeadInv md ops m listed):
  ∀(d i:Nat),m-i=d->i<m->listed.getD i true=false-> ∀t,m<=t->t∉Region.ready md ops listed:=by
 simp only[vG,Bool.and_eq_true]at hc;obtain⟨hs,hch⟩:=hc;intro d
 induction d using Nat.strongRecOn with
 | _ d ih=>
  intro i hd hi hun t ht hr;obtain⟨_,ot,hot,hall⟩:=mem_ready.1 hr;have htlt:t<ops.size:=(Array.getElem?_eq_some_iff.1 hot).1
  rcases Nat.lt_or_ge m t with htm | htm
  ·have h1:=List.all_eq_true.1 hch t (List.mem_range.2 htlt);simp only[Bool.or_eq_true,decide_eq_true_eq]at h1
   rcases h1 with h1 | h1
   ·omega
   ·obtain⟨u,hu,hu2⟩:=List.any_eq_true.1 h1;simp only[Bool.and_eq_true,decide_eq_true_eq]at hu2;obtain⟨o',ho',e,he,hb,hon⟩:=Region.waitsFor_spec hu2.2;have ho:o'=ot:=Option.some.inj (ho'.symm.trans hot);subst ho;have h2:=hall e he hb;rw[hon,getD_both (inv.tail u hu2.1 (by have:=List.mem_range.1 hu; omega))]at h2
    cases h2
  ·have htm':t=m:=by omega
   subst htm';have h1:=List.all_eq_true.1 hs i (List.mem_range.2 hi);simp only[Bool.or_eq_true,decide_eq_true_eq]at h1
   rcases h1 with h1 | h1
   ·omega
   ·obtain⟨j,hj,hj2⟩:=List.any_eq_true.1 h1;simp only[Bool.and_eq_true,decide_eq_true_eq]at hj2;obtain⟨oj,hoj,e,he,hb,hon⟩:=Region.waitsFor_spec hj2.2;have hjle:=List.mem_range.1 hj
    rcases Nat.lt_or_ge j t with hjt | hjt
    ·cases hl:listed.getD j false with
     | true=>
      have h2:=inv.closed j oj hoj hl e he hb;rw[hon,getD_both hun]at h2
      cases h2
     | false=>
      exact ih (t-j) (by omega) j rfl hjt (getD_in (by rw[inv.size]; omega) hl) t (Nat.le_refl _) hr
    ·have hjt':j=t:=by omega
     subst hjt';have ho:oj=ot:=Option.some.inj (hoj.symm.trans hot);subst ho;have h2:=hall e he hb;rw[hon,getD_both hun]at h2
     cases h2
theorem zI {m i:Nat} {oi:Oper} {v:Value} {L:Array Bool->Act->Prop} (hi:ops[i]? =some oi) (hsel: ∀(j:Nat) (o:Oper) cs b,ops[j]? =some o->o.op≠ .select cs b)
  (hc:vG md ops m=true) (hin:i<m) (hdone: ∀listed a,L listed a-> ∀j∈Region.ready md ops listed,m<=j):
  ∀(f:Nat) (listed:Array Bool) (a:Act),HeadInv md ops m listed->
   (∀j oj,ops[j]? =some oj->j≠i->listed.getD j true=false->(∀e∈oj.after,Region.binds md e=true->e.on≠i)->oi.apart ops oj=true)->
   i∈Region.ready md ops listed->YieldsAt P ops w oi v a->
   wpAnyL P md ops w m L f (listed.setIfInBounds i true) (a.put oi.dst v)->wpAnyL P md ops w m L (f+1) listed a:=by
 intro f
 induction f with
 | zero=>
  intro listed a inv _ hr hy H;have hun:=(mem_ready.1 hr).1;refine⟨List.ne_nil_of_mem hr,fun j hj=> ?_⟩;have hjm:j<m:=Nat.lt_of_not_le fun h=>mi hc inv _ i rfl hin hun j h hj
  refine⟨hjm, ?_⟩
  by_cases hji:j=i
  ·subst hji; exact hy.stOp hi H
  ·have:=hdone _ _ H j (ready_mono hj hji);omega
 | succ f ih=>
  intro listed a inv hfree hr hy H;have hun:=(mem_ready.1 hr).1;refine⟨List.ne_nil_of_mem hr,fun j hj=> ?_⟩;have hjm:j<m:=Nat.lt_of_not_le fun h=>mi hc inv _ i rfl hin hun j h hj
  refine⟨hjm, ?_⟩
  by_cases hji:j=i
  ·subst hji; exact hy.stOp hi H
  ·have h1:=(H.2 j (ready_mono hj hji)).2;obtain⟨hjun,oj,hoj,hall⟩:=mem_ready.1 hj;have hnot: ∀e∈oj.after,Region.binds md e=true->e.on≠i:=fun e he hb heq=>by
    have h1:=hall e he hb;rw[heq,getD_both hun]at h1
    cases h1
   have h2:=stOp_put hoj (hfree j oj hoj hji hjun hnot) (fun cs b=>hsel i oi cs b hi) (fun cs b=>hsel j oj cs b hoj) hy h1;refine stOp_mono (fun a' h3=>ih (listed.setIfInBounds j true) a' (inv.set hj hjm) (fun k ok hk hki hunk hno=> ?_) (ready_mono hr (Ne.symm hji)) h3.1 ?_) h2
   ·refine hfree k ok hk hki ?_ hno
    by_cases hjk:j=k
    ·subst hjk; exact hjun
    ·rw[getD_set_ne true hjk]at hunk; exact hunk
   ·rw[Array.setIfInBounds_comm _ _ hji];exact h3.2
def rP :Nat->Nat->Array Bool->Array Bool
 | 0,_,listed=>listed
 | n+1,k,listed=>rP n (k+1) (listed.setIfInBounds k true)
def DB (md:Region.Mode) (ops:Array Oper):Nat->Nat->Array Bool->Bool
 | 0,k,listed=>(Region.ready md ops listed).all fun j=>decide (k<=j)
 | n+1,k,listed=>(Region.ready md ops listed).contains k && Region.free md ops listed k && DB md ops n (k+1) (listed.setIfInBounds k true)
theorem xS {m:Nat} {Lq:Act->Prop} (hsel:Region.noSelect ops=true) (hc:vG md ops m=true) (LM:Array Bool):
  ∀(l:List Oper) (k:Nat) (listed:Array Bool) (a:Act),(∀j,j<l.length->l[j]? =ops[k+j]?)->k+l.length=m->HeadInv md ops m listed->
  DB md ops l.length k listed=true->rP l.length k listed=LM->wpStill P ops w Lq l a->
  wpAnyL P md ops w m (fun listed' a'=>listed'=LM/\Lq a') l.length listed a/\ ∀j∈Region.ready md ops LM,m<=j
 | [],k,listed,a,_,hk,_,hB,hL,h=>by
  have hkm:k=m:=by simpa using hk
  subst hkm;have hLM:listed=LM:=hL;subst hLM;refine⟨⟨rfl,h⟩,fun j hj=> ?_⟩;have:=List.all_eq_true.1 hB j hj
  simpa using this
 | o::l,k,listed,a,hl,hk,inv,hB,hL,h=>by
  have h0:ops[k]? =some o:=by simpa using (hl 0 (by simp)).symm
  simp only[List.length_cons,DB,Bool.and_eq_true]at hB;obtain⟨⟨hr,hf⟩,hB'⟩:=hB;have hkm:k<m:=by simp only[List.length_cons]at hk; omega
  have hr':k∈Region.ready md ops listed:=by simpa using hr
  have hst:stOp P ops w k (wpStill P ops w Lq l) a:=by unfold stOp; simp only[h0]; exact h
  obtain⟨v,hy,hK⟩:=yieldsAt_of_stOp h0 hst;have IH:=xS hsel hc LM l (k+1) _ _ (fun j hj=>by have:=hl (j+1) (by simp; omega); simpa [Nat.add_assoc,Nat.add_comm 1 j]using this) (by simp only[List.length_cons]at hk; omega) (inv.set hr' hkm) hB' hL hK;refine⟨zI h0 (Region.noSelect_spec hsel) hc hkm (fun listed' a' hL'=> ?_) l.length listed a inv (Region.free_spec h0 hf) hr' hy IH.1,IH.2⟩
  rw[hL'.1]; exact IH.2
def Bb (md:Region.Mode) (ops:Array Oper) (m:Nat) (listed:Array Bool):Bool:=
 decide (listed.size=ops.size) &&
 ((List.range ops.size).all fun j=> !listed.getD j false || match ops[j]? with | some oj=>oj.after.all (fun e=> !Region.binds md e || listed.getD e.on false) | none=>true) &&
 ((List.range ops.size).all fun t=>decide (t<m) || !listed.getD t true)
theorem vR {m:Nat} {listed:Array Bool} (h:Bb md ops m listed=true):HeadInv md ops m listed:=by
 simp only[Bb,Bool.and_eq_true,decide_eq_true_eq]at h;obtain⟨⟨h1,h2⟩,h3⟩:=h;refine⟨h1,fun j oj hj hl e he hb=> ?_,fun t ht ht2=> ?_⟩
 ·have:=List.all_eq_true.1 h2 j (List.mem_range.2 (Array.getElem?_eq_some_iff.1 hj).1);rw[hl,hj]at this;simp only[Bool.not_true,Bool.false_or]at this;have:=Array.all_eq_true'.1 this e he;rw[hb]at this
  simpa using this
 ·have:=List.all_eq_true.1 h3 t (List.mem_range.2 ht2);simp only[Bool.or_eq_true,decide_eq_true_eq]at this
  rcases this with h | h
  ·omega
  ·simpa using h
def pw (md:Region.Mode) (ops:Array Oper):List (Option Nat)->Nat->Array Bool->Bool
 | [],k,listed=>decide (k=ops.size) && (Region.ready md ops listed).isEmpty
 | some n::s,k,listed=>decide (k+n<=ops.size) && vG md ops (k+n) && Bb md ops (k+n) listed && DB md ops n k listed && pw md ops s (k+n) (rP n k listed)
 | none::s,k,listed=>decide (k<ops.size) && decide (Region.ready md ops listed=[k]) && pw md ops s (k+1) (listed.setIfInBounds k true)
@[irreducible] def vk (P:Program) (ops:Array Oper) (w:World) (Q:Act->Prop) (l:List Oper) (a:Act):Prop:=wpStill P ops w Q l a
theorem vk.out {Q:Act->Prop} {l:List Oper} {a:Act} (h:vk P ops w Q l a):wpStill P ops w Q l a:=by unfold vk at h; exact h
theorem vk.of {Q:Act->Prop} {l:List Oper} {a:Act} (h:wpStill P ops w Q l a):vk P ops w Q l a:=by unfold vk; exact h
@[irreducible] def vj (P:Program) (ops:Array Oper) (next:Act->World->Prop) (Q:Exit->Act->World->Prop) (l:List Oper) (a:Act) (w:World):Prop:=wpList P ops (Exit.then next Q) l a w
theorem vj.out {next:Act->World->Prop} {Q:Exit->Act->World->Prop} {l:List Oper} {a:Act} (h:vj P ops next Q l a w):wpList P ops (Exit.then next Q) l a w:=by unfold vj at h; exact h
theorem vj.of {next:Act->World->Prop} {Q:Exit->Act->World->Prop} {l:List Oper} {a:Act} (h:wpList P ops (Exit.then next Q) l a w):vj P ops next Q l a w:=by unfold vj; exact h
def bq (P:Program) (ops:Array Oper) (Q:Exit->Act->World->Prop):List (Option Nat)->List Oper->Act->World->Prop
 | [],_,a,w=>Q .normal a w
 | some n::s,l,a,w=>vk P ops w (fun a'=>bq P ops Q s (l.drop n) a' w) (l.take n) a
 | none::s,l,a,w=>vj P ops (fun a' w'=>bq P ops Q s (l.drop 1) a' w') Q (l.take 1) a w
theorem ia {Q:Exit->Act->World->Prop} (hsel:Region.noSelect ops=true): ∀(s:List (Option Nat)) (l:List Oper) (k:Nat) (listed:Array Bool) (a:Act) (w:World),
  (∀j,l[j]? =ops[k+j]?)->pw md ops s k listed=true->bq P ops Q s l a w->wpAny P md ops Q (ops.size-k) listed a w
 | [],l,k,listed,a,w,hl,hB,h=>by
  simp only[pw,Bool.and_eq_true,decide_eq_true_eq]at hB;rw[hB.1,Nat.sub_self];exact⟨by simpa using hB.2,h⟩
 | some n::s,l,k,listed,a,w,hl,hB,h=>by
  simp only[pw,Bool.and_eq_true,decide_eq_true_eq]at hB;obtain⟨⟨⟨⟨hn,hc⟩,hh⟩,hs⟩,hB'⟩:=hB;have hll:l.length=ops.size-k:=by
   have h1: ∀j,j<l.length<->k+j<ops.size:=fun j=>by
    constructor
    ·intro hj; have:=hl j; rw[List.getElem?_eq_getElem hj]at this; exact(Array.getElem?_eq_some_iff.1 this.symm).1
    ·intro hj; have:=hl j; rw[Array.getElem?_eq_getElem hj]at this; exact(List.getElem?_eq_some_iff.1 this).1
   rcases Nat.lt_trichotomy l.length (ops.size-k)with h2 | h2 | h2
   ·have:=(h1 l.length).2 (by omega); omega
   ·exact h2
   ·have:=(h1 (ops.size-k)).1 h2; omega
  have htl:(l.take n).length=n:=by simp; omega
  have H:=xS (P:=P) (md:=md) (w:=w) hsel hc (rP n k listed) (l.take n) k listed a (fun j hj=>by
   rw[htl]at hj;rw[List.getElem?_take,if_pos hj]; exact hl j) (by rw[htl]) (vR hh) (by rw[htl]; exact hs) (by rw[htl]) (vk.out h)
  have:=wpAny_of_head (Q':=Q) (g:=ops.size-(k+n)) (fun listed' a' hL=>by
   rw[hL.1];exact ia hsel s (l.drop n) (k+n) _ a' w (fun j=>by rw[List.getElem?_drop,hl,Nat.add_assoc]) hB' hL.2) _ _ _ H.1
  rw[htl,show n+(ops.size-(k+n))=ops.size-k by omega]at this;exact this
 | none::s,l,k,listed,a,w,hl,hB,h=>by
  simp only[pw,Bool.and_eq_true,decide_eq_true_eq]at hB;obtain⟨⟨hk,hr⟩,hB'⟩:=hB;obtain⟨o,ho⟩: ∃o,ops[k]? =some o:=⟨ops[k],by simp[hk]⟩;have h0:l[0]? =some o:=by rw[hl]; exact ho
  obtain⟨l',rfl⟩: ∃l',l=o::l':=by
   cases l with
   | nil=>simp at h0
   | cons x y=>simp at h0; exact⟨y,by rw[h0]⟩
  rw[show ops.size-k=(ops.size-(k+1))+1 by omega];refine⟨fun h1=>(by rw[hr]at h1; cases h1),fun i hi=> ?_⟩;rw[hr]at hi;have hik:i=k:=by simpa using hi
  subst hik;have hw:wpOp P ops Q i (fun a' w'=>bq P ops Q s l' a' w') a w:=by
   unfold wpOp;simp only[ho];exact vj.out h
  exact wpOp_mono (fun a' w' h'=>ia hsel s l' (i+1) _ a' w' (fun j=>by have:=hl (j+1); simpa [Nat.add_assoc,Nat.add_comm 1 j]using this) hB' h') hw
theorem aw {id:Nat} {Q:Exit->Act->World->Prop} {a:Act} {w:World} {l:List Oper} (s:List (Option Nat)) (hm:P.follows .mixedOrders=true) (hsel:Region.noSelect l.toArray=true)
  (hB:pw .any l.toArray s 0 (Array.replicate l.toArray.size false)=true) (h:bq P l.toArray Q s l a w.drew):(Code.region id l.toArray true).wp P Q a w:=by
 refine wp_region_any hm ?_;have:=ia (md:= .any) (P:=P) (Q:=Q) hsel s l 0 _ a w.drew (by simp) hB h
 simpa using this
theorem aH {Q:Act->Prop} {a:Act} (h:Q a):vk P ops w Q [] a:=vk.of h
theorem az {Q:Act->Prop} {a:Act} {o:Oper} {rest:List Oper} (hw:Region.wanted o (yielded ops a.tmps)=false) (h:vk P ops w Q rest (a.put o.dst undef)):vk P ops w Q (o::rest) a:=by
 refine vk.of ?_;unfold wpStill; rw[hw]; exact h.out
theorem aI {Q:Act->Prop} {a:Act} {dst:Option Tmp} {op:Op} {ty:TypeId} {pos:String} {aft:Array Edge} {g:Option (Nat×Bool)} {rest:List Oper} (hw:Region.wanted ⟨dst,op,ty,pos,aft,g⟩ (yielded ops a.tmps)=true)
  (h: ∀K:Act->Prop,(∀a,vk P ops w Q rest a->K a)->Oper.still P ⟨dst,op,ty,pos, #[],none⟩ a w K):vk P ops w Q (⟨dst,op,ty,pos,aft,g⟩::rest) a:=by
 refine vk.of ?_;unfold wpStill; rw[hw]; exact h _ (fun _ h=>h.out)
theorem im {Q:Exit->Act->World->Prop} {next:Act->World->Prop} {a:Act} {o:Oper} (hw:Region.wanted o (yielded ops a.tmps)=false) (h:next (a.put o.dst undef) w):vj P ops next Q [o] a w:=by
 refine vj.of ?_;unfold wpList; rw[hw]; exact h
theorem bw {Q:Exit->Act->World->Prop} {next:Act->World->Prop} {a:Act} {dst:Option Tmp} {op:Op} {ty:TypeId} {pos:String} {aft:Array Edge} {g:Option (Nat×Bool)} (hw:Region.wanted ⟨dst,op,ty,pos,aft,g⟩ (yielded ops a.tmps)=true)
  (h: ∀K:Act->World->Prop,(∀a w,next a w->K a w)->wpList P #[] (Exit.then K Q) [⟨dst,op,ty,pos, #[],none⟩] a w):vj P ops next Q [⟨dst,op,ty,pos,aft,g⟩] a w:=by
 refine vj.of ?_;have:=h _ (fun _ _ h=>h);unfold wpList at this ⊢;rw[hw];simp only[Region.wanted,if_true]at this;exact this
end
end Go.Proofs.YtnjkpcalgoefhaaGreatDoor
namespace Go.Proofs.YtnjkpcalgoefhaaGreatDoor
def dz (x s:Nat):Nat:=(x*2^s%4294967296) ||| (x/2^(32-s))
def DJ (x:Nat):Nat:=(dz x 15^^^dz x 13)^^^(x/2^10)
def DI (x:Nat):Nat:=(dz x 25^^^dz x 14)^^^(x/2^3)
def mZ (l:List Nat):Nat:=(((DJ (l.getD (l.length-2) 0)+l.getD (l.length-7) 0)%4294967296+DI (l.getD (l.length-15) 0))%4294967296+l.getD (l.length-16) 0)%4294967296
def gG :Nat->List Nat->List Nat
 | 0,l=>l
 | n+1,l=>gG n (l++[mZ l])
def xW (a b c d:UInt8):Nat:=(((a.toNat*2^24%4294967296) ||| (b.toNat*2^16%4294967296)) ||| (c.toNat*2^8%4294967296)) ||| d.toNat
def vg (b:List UInt8) (t:Nat):Nat:=xW (b.getD (4*t) 0) (b.getD (4*t+1) 0) (b.getD (4*t+2) 0) (b.getD (4*t+3) 0)
def iT (b:List UInt8) (n:Nat):List Nat:=(List.range n).map (vg b)
structure V8 where
 a:Nat
 b:Nat
 c:Nat
 d:Nat
 e:Nat
 f:Nat
 g:Nat
 h:Nat
def kc :List Nat:=[0x428a2f98,0x71374491,0xb5c0fbcf,0xe9b5dba5,0x3956c25b,0x59f111f1,0x923f82a4,0xab1c5ed5,
 0xd807aa98,0x12835b01,0x243185be,0x550c7dc3,0x72be5d74,0x80deb1fe,0x9bdc06a7,0xc19bf174,
 0xe49b69c1,0xefbe4786,0x0fc19dc6,0x240ca1cc,0x2de92c6f,0x4a7484aa,0x5cb0a9dc,0x76f988da,
 0x983e5152,0xa831c66d,0xb00327c8,0xbf597fc7,0xc6e00bf3,0xd5a79147,0x06ca6351,0x14292967,
 0x27b70a85,0x2e1b2138,0x4d2c6dfc,0x53380d13,0x650a7354,0x766a0abb,0x81c2c92e,0x92722c85,
 0xa2bfe8a1,0xa81a664b,0xc24b8b70,0xc76c51a3,0xd192e819,0xd6990624,0xf40e3585,0x106aa070,
 0x19a4c116,0x1e376c08,0x2748774c,0x34b0bcb5,0x391c0cb3,0x4ed8aa4a,0x5b9cca4f,0x682e6ff3,
 0x748f82ee,0x78a5636f,0x84c87814,0x8cc70208,0x90befffa,0xa4506ceb,0xbef9a3f7,0xc67178f2]
def t1P (v:V8) (k w:Nat):Nat:=((((v.h+((dz v.e 26^^^dz v.e 21)^^^dz v.e 7))%4294967296+((v.e &&& v.f)^^^((4294967295-v.e) &&& v.g)))%4294967296+k)%4294967296+w)%4294967296
def t2P (v:V8):Nat:=(((dz v.a 30^^^dz v.a 19)^^^dz v.a 10)+(((v.a &&& v.b)^^^(v.a &&& v.c))^^^(v.b &&& v.c)))%4294967296
def yZ (v:V8) (k w:Nat):V8:=⟨(t1P v k w+t2P v)%4294967296,v.a,v.b,v.c,(v.d+t1P v k w)%4294967296,v.e,v.f,v.g⟩
def lK (l:List (Nat×Nat)) (v:V8):V8:=l.foldl (fun v p=>yZ v p.1 p.2) v
def nO (x y:Nat):Nat:=(x+y)%4294967296
def Ar (v u:V8):V8:=⟨nO v.a u.a,nO v.b u.b,nO v.c u.c,nO v.d u.d,nO v.e u.e,nO v.f u.f,nO v.g u.g,nO v.h u.h⟩
def wsP (b:List UInt8):List Nat:=gG 48 (iT b 16)
def uv (v:V8) (b:List UInt8):V8:=Ar v (lK (kc.zip (wsP b)) v)
def mH :V8:=⟨0x6a09e667,0xbb67ae85,0x3c6ef372,0xa54ff53a,0x510e527f,0x9b05688c,0x1f83d9ab,0x5be0cd19⟩
def ey (l:List UInt8):Nat->V8
 | 0=>mH
 | k+1=>uv (ey l k) ((l.drop (64*k)).take 64)
def vu (x:Nat):List UInt8:=[UInt8.ofNat (x/2^24),UInt8.ofNat (x/2^16),UInt8.ofNat (x/2^8),UInt8.ofNat x]
def rO (x:Nat):List UInt8:=[UInt8.ofNat (x/2^56),UInt8.ofNat (x/2^48),UInt8.ofNat (x/2^40),UInt8.ofNat (x/2^32),UInt8.ofNat (x/2^24),UInt8.ofNat (x/2^16),UInt8.ofNat (x/2^8),UInt8.ofNat x]
def ie (n:Nat):Nat:=(119-n%64)%64
def nt (n:Nat):List UInt8:=128::List.replicate (ie n) 0++rO (n*8%18446744073709551616)
def V8.list (v:V8):List Nat:=[v.a,v.b,v.c,v.d,v.e,v.f,v.g,v.h]
def V8.out (v:V8):List UInt8:=v.list.flatMap vu
def wK (l:List UInt8):List UInt8:=(ey (l++nt l.length) ((l++nt l.length).length/64)).out
theorem iL {x y:Nat} (hx:x<4294967296) (hy:y<4294967296):x ||| y<4294967296:=Nat.or_lt_two_pow (n:=32) hx hy
theorem jW {x y:Nat} (hx:x<4294967296) (hy:y<4294967296):x^^^y<4294967296:=Nat.xor_lt_two_pow (n:=32) hx hy
theorem gu {x:Nat} (y:Nat) (hx:x<4294967296):x &&& y<4294967296:=Nat.lt_of_le_of_lt Nat.and_le_left hx
theorem cO {x:Nat} (s:Nat) (hx:x<4294967296):dz x s<4294967296:=iL (Nat.mod_lt _ (by decide)) (Nat.lt_of_le_of_lt (Nat.div_le_self _ _) hx)
theorem Bj (l:List Nat):mZ l<4294967296:=Nat.mod_lt _ (by decide)
theorem xm {x:Nat} (b:UInt8) (h:x=b.toNat):x<4294967296:=by have:=b.toNat_lt; omega
theorem Cl (a b c d:UInt8):xW a b c d<4294967296:=iL (iL (iL (Nat.mod_lt _ (by decide)) (Nat.mod_lt _ (by decide))) (Nat.mod_lt _ (by decide))) (xm _ rfl)
theorem Cm (b:List UInt8) (t:Nat):vg b t<4294967296:=Cl _ _ _ _
def yd (l:List Nat):Prop:= ∀x∈l,x<4294967296
theorem yd.get {l:List Nat} (h:yd l) (k:Nat):l.getD k 0<4294967296:=by
 rw[List.getD_eq_getElem?_getD]
 cases hk:l[k]? with
 | none=>simp
 | some x=>exact h x (List.mem_of_getElem? hk)
theorem pK (b:List UInt8) (n:Nat):(iT b n).length=n:=by simp[iT]
theorem rG (b:List UInt8) (n:Nat):yd (iT b n):=by
 intro x hx;obtain⟨t,_,rfl⟩:=List.mem_map.1 hx;exact Cm b t
theorem vh (b:List UInt8) (n:Nat):iT b (n+1)=iT b n++[vg b n]:=by simp[iT,List.range_succ]
theorem nj : ∀(n:Nat) (l:List Nat),gG (n+1) l=gG n l++[mZ (gG n l)]
 | 0,_=>rfl
 | n+1,l=>by rw[gG,nj n (l++[mZ l])]; rfl
theorem pu : ∀(n:Nat) (l:List Nat),(gG n l).length=l.length+n
 | 0,_=>rfl
 | n+1,l=>by rw[gG,pu n]; simp; omega
theorem ro : ∀(n:Nat) {l:List Nat},yd l->yd (gG n l)
 | 0,_,h=>h
 | n+1,l,h=>by
  rw[gG];refine ro n (fun x hx=> ?_)
  rcases List.mem_append.1 hx with hx | hx
  ·exact h x hx
  ·rw[List.mem_singleton.1 hx]; exact Bj l
def nL (b:List UInt8) (t:Nat):List Nat:=if t<=16 then iT b t else gG (t-16) (iT b 16)
theorem iS (b:List UInt8) (t:Nat):(nL b t).length=t:=by
 unfold nL; split
 ·exact pK b t
 ·rw[pu,pK]; omega
theorem Ck (b:List UInt8) (t:Nat):yd (nL b t):=by
 unfold nL; split
 ·exact rG b t
 ·exact ro _ (rG b 16)
theorem DU (b:List UInt8) {t:Nat} (h:t<16):nL b (t+1)=nL b t++[vg b t]:=by
 unfold nL; rw[if_pos (by omega),if_pos (by omega),vh]
theorem Cj (b:List UInt8) {t:Nat} (h:16<=t):nL b (t+1)=nL b t++[mZ (nL b t)]:=by
 unfold nL; rw[if_neg (by omega)]
 by_cases ht:t=16
 ·subst ht; rw[if_pos (by decide)]; rfl
 ·rw[if_neg (by omega),show t+1-16=(t-16)+1 by omega,nj]
theorem xV (b:List UInt8):nL b 64=wsP b:=by unfold nL wsP; rw[if_neg (by decide)]
theorem xX (b:List UInt8):(wsP b).length=64:=by rw[<-xV]; exact iS b 64
theorem vY :kc.length=64:=rfl
structure V8.Ok (v : V8) : Prop where
 a:v.a<4294967296
 b:v.b<4294967296
 c:v.c<4294967296
 d:v.d<4294967296
 e:v.e<4294967296
 f:v.f<4294967296
 g:v.g<4294967296
 h:v.h<4294967296
theorem Dv {v:V8} (h:v.Ok) (k w:Nat):(yZ v k w).Ok:=⟨Nat.mod_lt _ (by decide),h.a,h.b,h.c,Nat.mod_lt _ (by decide),h.e,h.f,h.g⟩
theorem BF (l:List (Nat×Nat)): ∀ {v:V8},v.Ok->(lK l v).Ok:=by
 induction l with
 | nil=>intro v h; exact h
 | cons p l ih=>
  intro v h;unfold lK at ih ⊢;rw[List.foldl_cons];exact ih (Dv h p.1 p.2)
theorem wB (l:List (Nat×Nat)) (p:Nat×Nat) (v:V8):lK (l++[p]) v=yZ (lK l v) p.1 p.2:=by
 unfold lK; rw[List.foldl_append,List.foldl_cons,List.foldl_nil]
theorem Cy (v u:V8):(Ar v u).Ok:=by constructor<;> exact Nat.mod_lt _ (by decide)
theorem zW :mH.Ok:=by constructor<;> decide
theorem Bw (v:V8) (b:List UInt8):(uv v b).Ok:=Cy _ _
theorem rS (l:List UInt8): ∀k,(ey l k).Ok
 | 0=>zW
 | _+1=>Bw _ _
def rTo (b:List UInt8) (v:V8) (t:Nat):V8:=lK ((kc.zip (wsP b)).take t) v
theorem BB (b:List UInt8) {v:V8} (t:Nat) (h:v.Ok):(rTo b v t).Ok:=BF _ h
theorem ke {l:List Nat} {t:Nat} (h:t<l.length):l[t]? =some (l.getD t 0):=by simp[List.getD_eq_getElem?_getD,h]
theorem Cp {x y:List Nat} {t:Nat} (h1:t<x.length) (h2:t<y.length):(x.zip y)[t]? =some (x.getD t 0,y.getD t 0):=by
 rw[List.getElem?_zip_eq_some];exact⟨ke h1,ke h2⟩
theorem zb {x y:List Nat} (v:V8) {t:Nat} (h1:t<x.length) (h2:t<y.length):lK ((x.zip y).take (t+1)) v=yZ (lK ((x.zip y).take t) v) (x.getD t 0) (y.getD t 0):=by
 rw[List.take_add_one,Cp h1 h2,Option.toList_some,wB]
theorem BC (b:List UInt8) (v:V8) {t:Nat} (h:t<64):rTo b v (t+1)=yZ (rTo b v t) (kc.getD t 0) ((wsP b).getD t 0):=
 zb v (by rw[vY]; exact h) (by rw[xX]; exact h)
theorem Bx (v:V8) (b:List UInt8):uv v b=Ar v (rTo b v 64):=by
 unfold uv rTo; rw[List.take_of_length_le (by rw[List.length_zip,xX,vY]; decide)]
theorem ll {l:List UInt8} (r:List UInt8): ∀ {k:Nat},64*k<=l.length->ey (l++r) k=ey l k
 | 0,_=>rfl
 | k+1,h=>by
  rw[ey,ey,ll r (k:=k) (by omega)]
  congr 1
  rw[List.drop_append_of_le_length (by omega),List.take_append_of_le_length (by rw[List.length_drop]; omega)]
theorem xl (x:Nat):(vu x).length=4:=rfl
theorem Dr (v:V8):v.out.length=32:=by simp[V8.out,V8.list,vu]
theorem BR (l:List UInt8):(wK l).length=32:=by unfold wK; exact Dr _
theorem Bq (n:Nat):(nt n).length=1+ie n+8:=by unfold nt rO; simp; omega
open Go Go.RowKit
def fM (x:Nat):Value:= .int .u32 (x:Int)
theorem dC {x a b:Nat} {s:Nat} (ha:2^s=a) (hb:2^(32-s)=b) (hx:x<4294967296):bits .or .u32 ((x:Int)*(a:Int)%4294967296) ((x:Int)/(b:Int))=((dz x s:Nat):Int):=by
 rw[show((x:Int)*(a:Int)%4294967296)=((x*a%4294967296:Nat):Int) by simp,show((x:Int)/(b:Int))=((x/b:Nat):Int) by simp,
  u32_or_nat _ _ (Nat.mod_lt _ (by decide)) (Nat.lt_of_le_of_lt (Nat.div_le_self _ _) hx)]
 unfold dz; rw[ha,hb]
theorem zk (x:Nat) (w:World) (hx:x<4294967296):Calls Tryz.prog 199 #[.int .u32 (x:Int), .int .i64 (-17)] w fun e w'=>e= .returned (.int .u32 ((dz x 15:Nat):Int))/\w=w':=by
 have h1:bits BinOp.and IntKind.u64 (IntKind.u64.wrap (-17)) 31=15:=by decide+kernel
 go_enter Tryz.func199,Tryz.ntmps199
 go_wp2_with fail;go_ret;refine⟨?_,rfl⟩;rw[<-dC (a:=32768) (b:=131072) (by decide) (by decide) hx]
 rfl
theorem zi (x:Nat) (w:World) (hx:x<4294967296):Calls Tryz.prog 199 #[.int .u32 (x:Int), .int .i64 (-19)] w fun e w'=>e= .returned (.int .u32 ((dz x 13:Nat):Int))/\w=w':=by
 have h1:bits BinOp.and IntKind.u64 (IntKind.u64.wrap (-19)) 31=13:=by decide+kernel
 go_enter Tryz.func199,Tryz.ntmps199
 go_wp2_with fail;go_ret;refine⟨?_,rfl⟩;rw[<-dC (a:=8192) (b:=524288) (by decide) (by decide) hx]
 rfl
theorem zo (x:Nat) (w:World) (hx:x<4294967296):Calls Tryz.prog 199 #[.int .u32 (x:Int), .int .i64 (-7)] w fun e w'=>e= .returned (.int .u32 ((dz x 25:Nat):Int))/\w=w':=by
 have h1:bits BinOp.and IntKind.u64 (IntKind.u64.wrap (-7)) 31=25:=by decide+kernel
 go_enter Tryz.func199,Tryz.ntmps199
 go_wp2_with fail;go_ret;refine⟨?_,rfl⟩;rw[<-dC (a:=33554432) (b:=128) (by decide) (by decide) hx]
 rfl
theorem zj (x:Nat) (w:World) (hx:x<4294967296):Calls Tryz.prog 199 #[.int .u32 (x:Int), .int .i64 (-18)] w fun e w'=>e= .returned (.int .u32 ((dz x 14:Nat):Int))/\w=w':=by
 have h1:bits BinOp.and IntKind.u64 (IntKind.u64.wrap (-18)) 31=14:=by decide+kernel
 go_enter Tryz.func199,Tryz.ntmps199
 go_wp2_with fail;go_ret;refine⟨?_,rfl⟩;rw[<-dC (a:=16384) (b:=262144) (by decide) (by decide) hx]
 rfl
theorem zp (x:Nat) (w:World) (hx:x<4294967296):Calls Tryz.prog 199 #[.int .u32 (x:Int), .int .i64 (-6)] w fun e w'=>e= .returned (.int .u32 ((dz x 26:Nat):Int))/\w=w':=by
 have h1:bits BinOp.and IntKind.u64 (IntKind.u64.wrap (-6)) 31=26:=by decide+kernel
 go_enter Tryz.func199,Tryz.ntmps199
 go_wp2_with fail;go_ret;refine⟨?_,rfl⟩;rw[<-dC (a:=67108864) (b:=64) (by decide) (by decide) hx]
 rfl
theorem zn (x:Nat) (w:World) (hx:x<4294967296):Calls Tryz.prog 199 #[.int .u32 (x:Int), .int .i64 (-11)] w fun e w'=>e= .returned (.int .u32 ((dz x 21:Nat):Int))/\w=w':=by
 have h1:bits BinOp.and IntKind.u64 (IntKind.u64.wrap (-11)) 31=21:=by decide+kernel
 go_enter Tryz.func199,Tryz.ntmps199
 go_wp2_with fail;go_ret;refine⟨?_,rfl⟩;rw[<-dC (a:=2097152) (b:=2048) (by decide) (by decide) hx]
 rfl
theorem BG (x:Nat) (w:World) (hx:x<4294967296):Calls Tryz.prog 199 #[.int .u32 (x:Int), .int .i64 (-25)] w fun e w'=>e= .returned (.int .u32 ((dz x 7:Nat):Int))/\w=w':=by
 have h1:bits BinOp.and IntKind.u64 (IntKind.u64.wrap (-25)) 31=7:=by decide+kernel
 go_enter Tryz.func199,Tryz.ntmps199
 go_wp2_with fail;go_ret;refine⟨?_,rfl⟩;rw[<-dC (a:=128) (b:=33554432) (by decide) (by decide) hx]
 rfl
theorem zq (x:Nat) (w:World) (hx:x<4294967296):Calls Tryz.prog 199 #[.int .u32 (x:Int), .int .i64 (-2)] w fun e w'=>e= .returned (.int .u32 ((dz x 30:Nat):Int))/\w=w':=by
 have h1:bits BinOp.and IntKind.u64 (IntKind.u64.wrap (-2)) 31=30:=by decide+kernel
 go_enter Tryz.func199,Tryz.ntmps199
 go_wp2_with fail;go_ret;refine⟨?_,rfl⟩;rw[<-dC (a:=1073741824) (b:=4) (by decide) (by decide) hx]
 rfl
theorem zm (x:Nat) (w:World) (hx:x<4294967296):Calls Tryz.prog 199 #[.int .u32 (x:Int), .int .i64 (-13)] w fun e w'=>e= .returned (.int .u32 ((dz x 19:Nat):Int))/\w=w':=by
 have h1:bits BinOp.and IntKind.u64 (IntKind.u64.wrap (-13)) 31=19:=by decide+kernel
 go_enter Tryz.func199,Tryz.ntmps199
 go_wp2_with fail;go_ret;refine⟨?_,rfl⟩;rw[<-dC (a:=524288) (b:=8192) (by decide) (by decide) hx]
 rfl
theorem zh (x:Nat) (w:World) (hx:x<4294967296):Calls Tryz.prog 199 #[.int .u32 (x:Int), .int .i64 (-22)] w fun e w'=>e= .returned (.int .u32 ((dz x 10:Nat):Int))/\w=w':=by
 have h1:bits BinOp.and IntKind.u64 (IntKind.u64.wrap (-22)) 31=10:=by decide+kernel
 go_enter Tryz.func199,Tryz.ntmps199
 go_wp2_with fail;go_ret;refine⟨?_,rfl⟩;rw[<-dC (a:=1024) (b:=4194304) (by decide) (by decide) hx]
 rfl
theorem yJ {e:Nat} (h:e<4294967296):4294967295^^^e=4294967295-e:=by
 apply Nat.eq_of_testBit_eq
 intro i;rw[Nat.testBit_xor,show(4294967295:Nat)=2^32-1 by decide,Nat.testBit_two_pow_sub_one,show 2^32-1-e=2^32-(e+1) by omega,Nat.testBit_two_pow_sub_succ (by omega)]
 by_cases hi:i<32
 ·simp[hi]
 ·have:e.testBit i=false:=Nat.testBit_lt_two_pow (Nat.lt_of_lt_of_le h (Nat.pow_le_pow_right (by decide) (by omega):2^32<=2^i));simp[hi,this]
theorem EP {e:Nat} (h:e<4294967296):bits BinOp.xor IntKind.u32 (if IntKind.u32.signed=true then -1 else IntKind.u32.max) (e:Int)=((4294967295-e:Nat):Int):=by
 rw[show(if IntKind.u32.signed=true then(-1:Int)else IntKind.u32.max)=((4294967295:Nat):Int) by decide,u32_xor_nat _ _ (by decide) h,yJ h]
def s1P (r:V8):Nat:=(dz r.e 26^^^dz r.e 21)^^^dz r.e 7
def chP (r:V8):Nat:=(r.e &&& r.f)^^^((4294967295-r.e) &&& r.g)
def s0P (r:V8):Nat:=(dz r.a 30^^^dz r.a 19)^^^dz r.a 10
def mjP (r:V8):Nat:=((r.a &&& r.b)^^^(r.a &&& r.c))^^^(r.b &&& r.c)
theorem Dy {r:V8} (h:r.Ok):bits BinOp.xor IntKind.u32 (bits BinOp.xor IntKind.u32 ((dz r.e 26:Nat):Int) ((dz r.e 21:Nat):Int)) ((dz r.e 7:Nat):Int)=((s1P r:Nat):Int):=by
 rw[u32_xor_nat _ _ (cO _ h.e) (cO _ h.e),u32_xor_nat _ _ (jW (cO _ h.e) (cO _ h.e)) (cO _ h.e)]; rfl
theorem Dx {r:V8} (h:r.Ok):bits BinOp.xor IntKind.u32 (bits BinOp.xor IntKind.u32 ((dz r.a 30:Nat):Int) ((dz r.a 19:Nat):Int)) ((dz r.a 10:Nat):Int)=((s0P r:Nat):Int):=by
 rw[u32_xor_nat _ _ (cO _ h.a) (cO _ h.a),u32_xor_nat _ _ (jW (cO _ h.a) (cO _ h.a)) (cO _ h.a)]; rfl
theorem CI {r:V8} (h:r.Ok):bits BinOp.xor IntKind.u32 (bits BinOp.and IntKind.u32 (r.e:Int) (r.f:Int)) (bits BinOp.and IntKind.u32 (bits BinOp.xor IntKind.u32 (if IntKind.u32.signed=true then -1 else IntKind.u32.max) (r.e:Int)) (r.g:Int))=((chP r:Nat):Int):=by
 have h1:4294967295-r.e<4294967296:=by omega
 rw[EP h.e,u32_and_nat _ _ h.e h.f,u32_and_nat _ _ h1 h.g,u32_xor_nat _ _ (gu _ h.e) (gu _ h1)]; rfl
theorem Do {r:V8} (h:r.Ok):bits BinOp.xor IntKind.u32 (bits BinOp.xor IntKind.u32 (bits BinOp.and IntKind.u32 (r.a:Int) (r.b:Int)) (bits BinOp.and IntKind.u32 (r.a:Int) (r.c:Int))) (bits BinOp.and IntKind.u32 (r.b:Int) (r.c:Int))=((mjP r:Nat):Int):=by
 rw[u32_and_nat _ _ h.a h.b,u32_and_nat _ _ h.a h.c,u32_and_nat _ _ h.b h.c,u32_xor_nat _ _ (gu _ h.a) (gu _ h.a),u32_xor_nat _ _ (jW (gu _ h.a) (gu _ h.a)) (gu _ h.b)]; rfl
theorem BX (r:V8) (k x:Nat):t1P r k x=(r.h+s1P r+chP r+k+x)%4294967296:=by unfold t1P s1P chP; omega
theorem Ez (r:V8):t2P r=(s0P r+mjP r)%4294967296:=rfl
def gq (w:World):Prop:= ∀j x,kc[j]? =some x->w.cell? ⟨4,j,none⟩=some (fM x)
def u8W (b:UInt8):Value:= .int .u8 (b.toNat:Int)
structure eH (w : World) (bs : List UInt8) (t : Nat) (wr : World) : Prop where
 box:wr.heap[w.heap.size]? =some (.cells ((nL bs t).map fM++List.replicate (64-t) (fM 0)).toArray 156 (0,0))
 below:Below w.heap.size w wr
theorem eH.get {w wr:World} {bs:List UInt8} {t j:Nat} (h:eH w bs t wr) (hj:j<t):wr.cell? ⟨w.heap.size,j,none⟩=some (.int .u32 (((nL bs t).getD j 0:Nat):Int)):=by
 rw[cell_of_row wr _ j _ _ _ h.box];have h1:j<(nL bs t).length:=by rw[iS]; exact hj
 rw[List.getElem?_toArray,List.getElem?_append_left (by simpa using h1),List.getElem?_map,ke h1]; rfl
theorem eH.free {w wr:World} {bs:List UInt8} {t:Nat} (h:eH w bs t wr) (j:Nat):wr.frozen? ⟨w.heap.size,j,none⟩=false:=frozen_of_row wr _ j _ _ h.box
theorem eH.here {w wr:World} {bs:List UInt8} {t:Nat} (h:eH w bs t wr) (ht:t<64):wr.cell? ⟨w.heap.size,t,none⟩=some (.int .u32 0):=by
 rw[cell_of_row wr _ t _ _ _ h.box,List.getElem?_toArray,List.getElem?_append_right (by simp[iS])];rw[List.length_map,iS,Nat.sub_self,show 64-t=(64-(t+1))+1 by omega,List.replicate_succ]; rfl
theorem eH.put {w wr:World} {bs:List UInt8} {t x:Nat} (h:eH w bs t wr) (ht:t<64) (hx:nL bs (t+1)=nL bs t++[x]):eH w bs (t+1) (wr.setCell ⟨w.heap.size,t,none⟩ (.int .u32 (x:Int))):=by
 refine⟨?_, ?_⟩
 ·rw[heap_setCell_same wr _ t _ _ _ h.box,hx]
  congr 2
  rw[List.setIfInBounds_toArray,List.set_append_right _ _ (by simp[iS])];rw[List.map_append,List.append_assoc]
  congr 2
  rw[List.length_map,iS,Nat.sub_self,show 64-t=(64-(t+1))+1 by omega,List.replicate_succ]
  rfl
 ·exact h.below.trans ⟨rfl,rfl,rfl,by simp[World.setCell],fun k hk=>heap_setCell_other wr _ k _ (by show k≠w.heap.size; omega)⟩
theorem eH.start (w:World) (bs:List UInt8):eH w bs 0 (w.alloc (.cells (List.replicate 64 (fM 0)).toArray 156)):=
 ⟨by rw[heap_alloc_new]; rfl,(Below.refl _ _).alloc (Nat.le_refl _) _⟩
theorem wZ (a b c d:UInt8):bits BinOp.or IntKind.u32 (bits BinOp.or IntKind.u32 (bits BinOp.or IntKind.u32 ((a.toNat:Int)%4294967296*16777216%4294967296) ((b.toNat:Int)%4294967296*65536%4294967296)) ((c.toNat:Int)%4294967296*256%4294967296)) ((d.toNat:Int)%4294967296)=((xW a b c d:Nat):Int):=by
 have ha:=a.toNat_lt;have hb:=b.toNat_lt;have hc:=c.toNat_lt;have hd:=d.toNat_lt;rw[show((a.toNat:Int)%4294967296*16777216%4294967296)=((a.toNat*2^24%4294967296:Nat):Int) by omega,show((b.toNat:Int)%4294967296*65536%4294967296)=((b.toNat*2^16%4294967296:Nat):Int) by omega,
  show((c.toNat:Int)%4294967296*256%4294967296)=((c.toNat*2^8%4294967296:Nat):Int) by omega,show((d.toNat:Int)%4294967296)=((d.toNat:Nat):Int) by omega,
  u32_or_nat _ _ (Nat.mod_lt _ (by decide)) (Nat.mod_lt _ (by decide)),u32_or_nat _ _ (iL (Nat.mod_lt _ (by decide)) (Nat.mod_lt _ (by decide))) (Nat.mod_lt _ (by decide)),
  u32_or_nat _ _ (iL (iL (Nat.mod_lt _ (by decide)) (Nat.mod_lt _ (by decide))) (Nat.mod_lt _ (by decide))) (xm _ rfl)]
 rfl
theorem zN {x:Nat} (hx:x<4294967296):bits BinOp.xor IntKind.u32 (bits BinOp.xor IntKind.u32 ((dz x 15:Nat):Int) ((dz x 13:Nat):Int)) ((x:Int)/1024)=((DJ x:Nat):Int):=by
 rw[show((x:Int)/1024)=((x/2^10:Nat):Int) by simp,u32_xor_nat _ _ (cO _ hx) (cO _ hx),u32_xor_nat _ _ (jW (cO _ hx) (cO _ hx)) (Nat.lt_of_le_of_lt (Nat.div_le_self _ _) hx)]
 rfl
theorem zM {x:Nat} (hx:x<4294967296):bits BinOp.xor IntKind.u32 (bits BinOp.xor IntKind.u32 ((dz x 25:Nat):Int) ((dz x 14:Nat):Int)) ((x:Int)/8)=((DI x:Nat):Int):=by
 rw[show((x:Int)/8)=((x/2^3:Nat):Int) by simp,u32_xor_nat _ _ (cO _ hx) (cO _ hx),u32_xor_nat _ _ (jW (cO _ hx) (cO _ hx)) (Nat.lt_of_le_of_lt (Nat.div_le_self _ _) hx)]
 rfl
theorem eH.next {w wr w2:World} {bs:List UInt8} {t:Nat} (h:eH w bs t wr) (hb:Below wr.heap.size wr w2):eH w bs t w2:=⟨(hb.block _ (lt_of_block h.box)).trans h.box,h.below.trans (hb.mono h.below.size)⟩
theorem eH.drew {w wr:World} {bs:List UInt8} {t:Nat} (h:eH w bs t wr):eH w bs t wr.drew:=⟨h.box,h.below.trans (Below.refl _ _).drew⟩
theorem CW {bs:List UInt8} {j:Nat} (h:j<bs.length):bs[j]? =some (bs.getD j 0):=by simp[List.getD_eq_getElem?_getD,h]
def Bi (v r:V8) (j:Nat):List Nat:=(Ar v r).list.take j++v.list.drop j
structure fX (sb : Nat) (v r : V8) (tl : List Value) (ty : TypeId) (W1 wq : World) (j : Nat) : Prop where
 box:wq.heap[sb]? =some (.cells ((Bi v r j).map fM++tl).toArray ty (0,0))
 grown:W1.grownBy wq (some sb)
theorem fX.start {sb:Nat} {v r:V8} {tl:List Value} {ty:TypeId} {W1 wq:World} (h:W1.heap[sb]? =some (.cells (v.list.map fM++tl).toArray ty (0,0))) (hb:Below W1.heap.size W1 wq):fX sb v r tl ty W1 wq 0:=
 ⟨(hb.block sb (lt_of_block h)).trans h,⟨hb.os,hb.tape,hb.output,hb.size,fun k hk _=>hb.block k hk⟩⟩
theorem fX.keep {sb:Nat} {v r:V8} {tl:List Value} {ty:TypeId} {W1 wq:World} {j:Nat} (h:fX sb v r tl ty W1 wq j) {b:Nat} {o:Obj} (hb:W1.heap[b]? =some o) (hne:sb≠b):wq.heap[b]? =some o:=
 (h.grown.block b (lt_of_block hb) (fun e=>hne (Option.some.inj e).symm)).trans hb
theorem fX.free {sb:Nat} {v r:V8} {tl:List Value} {ty:TypeId} {W1 wq:World} {j:Nat} (h:fX sb v r tl ty W1 wq j) (k:Nat):wq.frozen? ⟨sb,k,none⟩=false:=frozen_of_row wq _ k _ _ h.box
theorem Dm (v r:V8) {j:Nat} (h:j<8) (tl:List Value):((Bi v r j).map fM++tl)[j]? =some (fM (v.list.getD j 0)):=by
 have hc:j=0\/j=1\/j=2\/j=3\/j=4\/j=5\/j=6\/j=7:=by omega
 rcases hc with rfl | rfl | rfl | rfl | rfl | rfl | rfl | rfl<;> rfl
theorem Dn (v r:V8) {j:Nat} (h:j<8) (tl:List Value):((Bi v r j).map fM++tl).set j (fM (nO (v.list.getD j 0) (r.list.getD j 0)))=(Bi v r (j+1)).map fM++tl:=by
 have hc:j=0\/j=1\/j=2\/j=3\/j=4\/j=5\/j=6\/j=7:=by omega
 rcases hc with rfl | rfl | rfl | rfl | rfl | rfl | rfl | rfl<;> rfl
theorem fX.here {sb:Nat} {v r:V8} {tl:List Value} {ty:TypeId} {W1 wq:World} {j:Nat} (h:fX sb v r tl ty W1 wq j) (hj:j<8):wq.cell? ⟨sb,j,none⟩=some (.int .u32 ((v.list.getD j 0:Nat):Int)):=by
 rw[cell_of_row wq _ _ _ _ _ h.box,List.getElem?_toArray,Dm v r hj tl]; rfl
theorem fX.put {sb:Nat} {v r:V8} {tl:List Value} {ty:TypeId} {W1 wq:World} {j:Nat} (h:fX sb v r tl ty W1 wq j) (hj:j<8) {x:Value} (hx:x=fM (nO (v.list.getD j 0) (r.list.getD j 0))):fX sb v r tl ty W1 (wq.setCell ⟨sb,j,none⟩ x) (j+1):=by
 subst hx;refine⟨?_, ?_⟩
 ·rw[heap_setCell_same wq _ _ _ _ _ h.box,List.setIfInBounds_toArray,Dn v r hj tl]
 ·have h2:=h.grown;exact⟨h2.os,h2.tape,h2.output,by simpa [World.setCell]using h2.size,fun k hk hne=>(heap_setCell_other wq _ k _ (fun e=>hne (by rw[e]))).trans (h2.block k hk hne)⟩
theorem fX.drew {sb:Nat} {v r:V8} {tl:List Value} {ty:TypeId} {W1 wq:World} {j:Nat} (h:fX sb v r tl ty W1 wq j):fX sb v r tl ty W1 wq.drew j:=
 ⟨h.box,⟨h.grown.os,h.grown.tape,h.grown.output,h.grown.size,h.grown.block⟩⟩
theorem EW (v:V8) {j:Nat} (h:j<8):([.int .u32 (v.a:Int), .int .u32 (v.b:Int), .int .u32 (v.c:Int), .int .u32 (v.d:Int), .int .u32 (v.e:Int), .int .u32 (v.f:Int), .int .u32 (v.g:Int), .int .u32 (v.h:Int)]:List Value)[j]? =some (.int .u32 ((v.list.getD j 0:Nat):Int)):=by
 have hc:j=0\/j=1\/j=2\/j=3\/j=4\/j=5\/j=6\/j=7:=by omega
 rcases hc with rfl | rfl | rfl | rfl | rfl | rfl | rfl | rfl<;> rfl
theorem Bd (r:V8) {j:Nat} (h:j<8) (w:World):(Instr.index 101 (.agg #[.int .u32 (r.a:Int), .int .u32 (r.b:Int), .int .u32 (r.c:Int), .int .u32 (r.d:Int), .int .u32 (r.e:Int), .int .u32 (r.f:Int), .int .u32 (r.g:Int), .int .u32 (r.h:Int)]) (.int .i64 (j:Int))).run Tryz.prog w= .ok (.int .u32 ((r.list.getD j 0:Nat):Int)) w:=by
 have hc:j=0\/j=1\/j=2\/j=3\/j=4\/j=5\/j=6\/j=7:=by omega
 rcases hc with rfl | rfl | rfl | rfl | rfl | rfl | rfl | rfl<;> (show _=_; kernel_rfl)
theorem no {w:World} {sb:Nat} {v:V8} {tl:List Value} {ty:TypeId} (h:w.heap[sb]? =some (.cells (v.list.map fM++tl).toArray ty (0,0))):w.rangeAt sb 0 (v.list.map fM):=by
 intro j x hj;rw[cell_of_row w _ _ _ _ _ h,Nat.zero_add,List.getElem?_toArray,List.getElem?_append_left (List.getElem?_eq_some_iff.1 hj).1];exact hj
theorem jH (sb:Nat) (v:V8) (tl:List Value) (ty:TypeId) (bk o cap:Nat) (bs:List UInt8) (w:World) (hbox:w.heap[sb]? =some (.cells (v.list.map fM++tl).toArray ty (0,0))) (hv:v.Ok) (hl:bs.length=64) (hcap:64<=cap) (_hcapm:cap<=maxLen)
  (hbs: ∀j b,bs[j]? =some b->w.cell? ⟨bk,o+j,none⟩=some (u8W b)) (hK:gq w) (hKlt:4<w.heap.size):
  Calls Tryz.prog 177 #[.pointer (some ⟨sb,0,none⟩), .slice (some ⟨bk,o,none⟩) 64 cap] w fun e w'=>e= .returned (.tuple #[])/\w'.heap[sb]? =some (.cells ((uv v bs).list.map fM++tl).toArray ty (0,0))/\w.grownBy w' (some sb):=by
 have HX:=aa hbox;have HS:=aa hbs;have HK:=aa hK;clear hbox hbs hK
 go_enter Tryz.func177,Tryz.ntmps177
 go_wp2_with fail;have HA0:=aa (eH.start w bs)
 go_loopw [27] (fun i wr=> ∃t:Nat,t<=64/\i= .int .i64 (t:Int)/\eH w bs t wr) (fun i _=>64-(intOf i).toNat)
 case atStart=>exact⟨0,by omega,rfl,HA0.out⟩
 case round=>
  obtain⟨t,ht,rfl,hs⟩:=hrel;have HA:=aa hs;have hz:=hs.below.size;clear hs
  by_cases h16:t<16
  ·obtain⟨b0,hb0⟩: ∃b,b=bs.getD (4*t) 0:=⟨_,rfl⟩;obtain⟨b1,hb1⟩: ∃b,b=bs.getD (4*t+1) 0:=⟨_,rfl⟩;obtain⟨b2,hb2⟩: ∃b,b=bs.getD (4*t+2) 0:=⟨_,rfl⟩;obtain⟨b3,hb3⟩: ∃b,b=bs.getD (4*t+3) 0:=⟨_,rfl⟩;have q0:=HS.out (4*t) (bs.getD (4*t) 0) (CW (by omega));have q1:=HS.out (4*t+1) (bs.getD (4*t+1) 0) (CW (by omega));have q2:=HS.out (4*t+2) (bs.getD (4*t+2) 0) (CW (by omega))
   have q3:=HS.out (4*t+3) (bs.getD (4*t+3) 0) (CW (by omega));have HW:=aa (show vg bs t=xW b0 b1 b2 b3 by rw[hb0,hb1,hb2,hb3]; rfl);rw[<-hb0]at q0;rw[<-hb1]at q1;rw[<-hb2]at q2;rw[<-hb3]at q3;have hbk:=block_lt_of_cell q0;simp only[u8W]at q0 q1 q2 q3;have c0:=(HA.out.below.cell (p:=⟨bk,o+4*t,none⟩) hbk).trans q0;have c1:=(HA.out.below.cell (p:=⟨bk,o+(4*t+1),none⟩) hbk).trans q1
   rw[<-Nat.add_assoc]at c1;have c2:=(HA.out.below.cell (p:=⟨bk,o+(4*t+2),none⟩) hbk).trans q2;rw[<-Nat.add_assoc]at c2;have c3:=(HA.out.below.cell (p:=⟨bk,o+(4*t+3),none⟩) hbk).trans q3;rw[<-Nat.add_assoc]at c3;have ch:=HA.out.here (by omega);have cf:=HA.out.free t;clear q0 q1 q2 q3 hb0 hb1 hb2 hb3;go_wp2_with fail;refine aw [some 24,none] (by kernel_rfl) (by kernel_rfl) (by kernel_rfl) ?_
   simp only[bq,List.take_succ_cons,List.take_zero,List.drop_succ_cons,List.drop_zero]
   repeat (first | (refine az rfl ?_; simp only[Act.put,aD,aE,aF]) | (refine aI rfl (fun K hK=> ?_); go_simp; refine hK _ ?_; clear hK K))
   refine aH ?_;refine bw rfl (fun K hK=> ?_);go_wp2_with fail
   go_roundw
   case rel=>
    rw[wZ,<-HW.out];exact⟨t+1,by omega,by simp,(HA.out.put (by omega) (DU bs h16)).drew⟩
   case measure=>simp[intOf]; omega
  ·by_cases h64:t<64
   ·have h17:16<=t:=by omega
    obtain⟨j2,hj2⟩: ∃j,j=t-2:=⟨_,rfl⟩;obtain⟨j15,hj15⟩: ∃j,j=t-15:=⟨_,rfl⟩;obtain⟨j7,hj7⟩: ∃j,j=t-7:=⟨_,rfl⟩;obtain⟨j16,hj16⟩: ∃j,j=t-16:=⟨_,rfl⟩;have c2:=HA.out.get (j:=j2) (by omega);have c15:=HA.out.get (j:=j15) (by omega);have c7:=HA.out.get (j:=j7) (by omega);have c16:=HA.out.get (j:=j16) (by omega);have e2:IntKind.i64.wrap ((t:Int)-2)=(j2:Int):=by rw[IntKind.wrap_i64]; omega
    have e15:IntKind.i64.wrap ((t:Int)-15)=(j15:Int):=by rw[IntKind.wrap_i64]; omega
    have e7:IntKind.i64.wrap ((t:Int)-7)=(j7:Int):=by rw[IntKind.wrap_i64]; omega
    have e16:IntKind.i64.wrap ((t:Int)-16)=(j16:Int):=by rw[IntKind.wrap_i64]; omega
    have l2:(j2:Int)<64:=by omega
    have l15:(j15:Int)<64:=by omega
    have l7:(j7:Int)<64:=by omega
    have l16:(j16:Int)<64:=by omega
    have ch:=HA.out.here (by omega);have cf:=HA.out.free t;have HJ:=aa (show j2=t-2/\j15=t-15/\j7=t-7/\j16=t-16 from⟨hj2,hj15,hj7,hj16⟩);clear hj2 hj15 hj7 hj16;obtain⟨x2,hx2⟩: ∃x,x=(nL bs t).getD j2 0:=⟨_,rfl⟩;obtain⟨x15,hx15⟩: ∃x,x=(nL bs t).getD j15 0:=⟨_,rfl⟩;obtain⟨x7,hx7⟩: ∃x,x=(nL bs t).getD j7 0:=⟨_,rfl⟩;obtain⟨x16,hx16⟩: ∃x,x=(nL bs t).getD j16 0:=⟨_,rfl⟩
    rw[<-hx2]at c2;rw[<-hx15]at c15;rw[<-hx7]at c7;rw[<-hx16]at c16;have o2:x2<4294967296:=by rw[hx2]; exact(Ck bs t).get j2
    have o15:x15<4294967296:=by rw[hx15]; exact(Ck bs t).get j15
    have HN:=aa (show mZ (nL bs t)=(((DJ x2+x7)%4294967296+DI x15)%4294967296+x16)%4294967296 by
     unfold mZ;rw[iS,hx2,hx15,hx7,hx16,HJ.out.1,HJ.out.2.1,HJ.out.2.2.1,HJ.out.2.2.2])
    clear hx2 hx15 hx7 hx16;go_wp2_with fail;refine aw [some 10] (by kernel_rfl) (by kernel_rfl) (by kernel_rfl) ?_;simp only[bq,List.take_succ_cons,List.take_zero]
    repeat (first | (refine az rfl ?_; simp only[Act.put,aD,aE,aF]) | (refine aI rfl (fun K hK=> ?_); go_simp; refine hK _ ?_; clear hK K))
    refine aH ?_;go_wp2_with fail;refine(zk _ _ o2).mono ?_;rintro e W1 ⟨rfl,rfl⟩;go_wp2_with fail;refine(zi _ _ o2).mono ?_;rintro e W1 ⟨rfl,rfl⟩;go_wp2_with fail;refine(zo _ _ o15).mono ?_;rintro e W1 ⟨rfl,rfl⟩;go_wp2_with fail;refine(zj _ _ o15).mono ?_;rintro e W1 ⟨rfl,rfl⟩;rw[zN o2];go_wp2_with fail;refine aw [some 15,none] (by kernel_rfl) (by kernel_rfl) (by kernel_rfl) ?_
    simp only[bq,List.take_succ_cons,List.take_zero,List.drop_succ_cons,List.drop_zero]
    repeat (first | (refine az rfl ?_; simp only[Act.put,aD,aE,aF]) | (refine aI rfl (fun K hK=> ?_); go_simp; refine hK _ ?_; clear hK K))
    refine aH ?_;refine bw rfl (fun K hK=> ?_);go_wp2_with fail
    go_roundw
    case rel=>
     rw[zM o15];have HV:((((DJ x2:Nat):Int)+(x7:Int)+((DI x15:Nat):Int)+(x16:Int))%4294967296)=((mZ (nL bs t):Nat):Int):=by rw[HN.out]; omega
     rw[HV];exact⟨t+1,by omega,by simp,(HA.out.put (by omega) (Cj bs h17)).drew.drew⟩
    case measure=>simp[intOf]; omega
   ·obtain rfl:t=64:=by omega
    have HB1:=aa ((HX.out▸HA.out.below.block sb (lt_of_block HX.out):wr.heap[sb]? =some (.cells (v.list.map fM++tl).toArray ty (0,0))));have HR:=aa (no HB1.out);go_wp2_with (refine wpList_load_mid rfl 101 _ rfl sb 0 rfl [.int .u32 (v.a:Int), .int .u32 (v.b:Int), .int .u32 (v.c:Int), .int .u32 (v.d:Int), .int .u32 (v.e:Int), .int .u32 (v.f:Int), .int .u32 (v.g:Int), .int .u32 (v.h:Int)] _ HR.out Tryz.underlying101 rfl (by kernel_rfl) ?_)
    obtain⟨W1,hW1⟩: ∃W1,W1=wr.alloc (.cells #[.int .u32 (v.a:Int), .int .u32 (v.b:Int), .int .u32 (v.c:Int), .int .u32 (v.d:Int), .int .u32 (v.e:Int), .int .u32 (v.f:Int), .int .u32 (v.g:Int), .int .u32 (v.h:Int)] 101):=⟨_,rfl⟩;rw[<-hW1];obtain⟨vb,hvb⟩: ∃vb,wr.heap.size=vb:=⟨_,rfl⟩;have HVB:=aa (show W1.heap[vb]? =some (.cells #[.int .u32 (v.a:Int), .int .u32 (v.b:Int), .int .u32 (v.c:Int), .int .u32 (v.d:Int), .int .u32 (v.e:Int), .int .u32 (v.f:Int), .int .u32 (v.g:Int), .int .u32 (v.h:Int)] 101 (0,0)) by rw[hW1,<-hvb]; exact heap_alloc_new _ _)
    have HBW:=aa (show Below wr.heap.size wr W1 by rw[hW1]; exact(Below.refl _ _).alloc (Nat.le_refl _) _);have HA1:=aa (HA.out.next HBW.out);have HB2:=aa ((HBW.out.block sb (lt_of_block HB1.out)).trans HB1.out);rw[hvb];have HVL:=aa (show sb<vb by rw[<-hvb]; exact lt_of_block HB1.out);clear hW1 hvb;have HOK:=aa (BB bs (v:=v) 0 hv);have v0:W1.cell? ⟨vb,0,none⟩=some (.int .u32 (v.a:Int)):=(cell_of_row W1 _ _ _ _ _ HVB.out).trans rfl
    have v1:W1.cell? ⟨vb,1,none⟩=some (.int .u32 (v.b:Int)):=(cell_of_row W1 _ _ _ _ _ HVB.out).trans rfl;have v2:W1.cell? ⟨vb,2,none⟩=some (.int .u32 (v.c:Int)):=(cell_of_row W1 _ _ _ _ _ HVB.out).trans rfl;have v3:W1.cell? ⟨vb,3,none⟩=some (.int .u32 (v.d:Int)):=(cell_of_row W1 _ _ _ _ _ HVB.out).trans rfl;have v4:W1.cell? ⟨vb,4,none⟩=some (.int .u32 (v.e:Int)):=(cell_of_row W1 _ _ _ _ _ HVB.out).trans rfl
    have v5:W1.cell? ⟨vb,5,none⟩=some (.int .u32 (v.f:Int)):=(cell_of_row W1 _ _ _ _ _ HVB.out).trans rfl;have v6:W1.cell? ⟨vb,6,none⟩=some (.int .u32 (v.g:Int)):=(cell_of_row W1 _ _ _ _ _ HVB.out).trans rfl;have v7:W1.cell? ⟨vb,7,none⟩=some (.int .u32 (v.h:Int)):=(cell_of_row W1 _ _ _ _ _ HVB.out).trans rfl;refine aw [some 24] (by kernel_rfl) (by kernel_rfl) (by kernel_rfl) ?_
    simp only[bq,List.take_succ_cons,List.take_zero]
    repeat (first | (refine az rfl ?_; simp only[Act.put,aD,aE,aF]) | (refine aI rfl (fun K hK=> ?_); go_simp; refine hK _ ?_; clear hK K))
    refine aH ?_;go_wp2_with fail
    go_loopw [12,13,14,15,16,17,18,19,123] (fun sa sb2 sc sd se sf sg sh i wq=> ∃(t:Nat) (r:V8),t<=64/\i= .int .i64 (t:Int)/\r=rTo bs v t/\sa= .int .u32 (r.a:Int)/\sb2= .int .u32 (r.b:Int)/\sc= .int .u32 (r.c:Int)/\sd= .int .u32 (r.d:Int)/\se= .int .u32 (r.e:Int)/\sf= .int .u32 (r.f:Int)/\sg= .int .u32 (r.g:Int)/\sh= .int .u32 (r.h:Int)/\Below W1.heap.size W1 wq) (fun _ _ _ _ _ _ _ _ i _=>64-(intOf i).toNat)
    case atStart=>exact⟨0,v,by omega,rfl,rfl,rfl,rfl,rfl,rfl,rfl,rfl,rfl,rfl,(Below.refl _ _).drew⟩
    case round=>
     obtain⟨t,r,ht2,rfl,hr,rfl,rfl,rfl,rfl,rfl,rfl,rfl,rfl,hbq⟩:=hrel;have HRT:=aa hr;have HBQ:=aa hbq;have HRO:=aa (show r.Ok by rw[hr]; exact BB bs t hv);clear hr hbq v0 v1 v2 v3 v4 v5 v6 v7
     by_cases h65:t<64
     ·obtain⟨k,hk⟩: ∃k,k=kc.getD t 0:=⟨_,rfl⟩;obtain⟨x,hx⟩: ∃x,x=(wsP bs).getD t 0:=⟨_,rfl⟩;have ck:=HK.out t k (by rw[hk]; exact ke (by rw[vY]; exact h65));have ck2:=(HBQ.out.cell (p:=⟨4,t,none⟩) (by have:=HA1.out.below.size; show 4<_; omega)).trans ((HA1.out.below.cell (p:=⟨4,t,none⟩) hKlt).trans ck);have cx:=(HBQ.out.cell (p:=⟨w.heap.size,t,none⟩) (lt_of_block HA1.out.box)).trans (HA1.out.get h65)
      rw[xV,<-hx]at cx;have HKX:=aa (And.intro hk hx);clear ck hk hx;unfold fM at ck2;go_wp2_with fail;refine(zp _ _ HRO.out.e).mono ?_;rintro e W2 ⟨rfl,rfl⟩;go_wp2_with fail;refine(zn _ _ HRO.out.e).mono ?_;rintro e W2 ⟨rfl,rfl⟩;go_wp2_with fail;refine(BG _ _ HRO.out.e).mono ?_;rintro e W2 ⟨rfl,rfl⟩;go_wp2_with fail;refine(zq _ _ HRO.out.a).mono ?_;rintro e W2 ⟨rfl,rfl⟩
      go_wp2_with fail;refine(zm _ _ HRO.out.a).mono ?_;rintro e W2 ⟨rfl,rfl⟩;go_wp2_with fail;refine(zh _ _ HRO.out.a).mono ?_;rintro e W2 ⟨rfl,rfl⟩;go_wp2_with fail;refine aw [some 21] (by kernel_rfl) (by kernel_rfl) (by kernel_rfl) ?_;simp only[bq,List.take_succ_cons,List.take_zero]
      repeat (first | (refine az rfl ?_; simp only[Act.put,aD,aE,aF]) | (refine aI rfl (fun K hK=> ?_); go_simp; refine hK _ ?_; clear hK K))
      refine aH ?_;go_wp2_with fail
      go_roundw
      case rel=>
       rw[Dy HRO.out,CI HRO.out,Dx HRO.out,Do HRO.out];refine⟨t+1,yZ r k x,by omega,by simp, ?_, ?_,rfl,rfl,rfl, ?_,rfl,rfl,rfl, ?_⟩
       ·rw[BC bs v h65,HRT.out,HKX.out.1,HKX.out.2]
       ·show _=Value.int .u32 (((t1P r k x+t2P r)%4294967296:Nat):Int)
        exact congrArg (Value.int .u32) (by rw[BX,Ez]; omega)
       ·show _=Value.int .u32 (((r.d+t1P r k x)%4294967296:Nat):Int)
        exact congrArg (Value.int .u32) (by rw[BX]; omega)
       ·exact HBQ.out.trans (Below.refl _ _).drew
      case measure=>simp[intOf]; omega
     ·obtain rfl:t=64:=by omega
      go_wp2_with (refine wpList_build rfl 101 _ rfl (by kernel_rfl) ?_);rw[show(Tryz.prog.built 101 [(0, .int .u32 (r.a:Int)),(1, .int .u32 (r.b:Int)),(2, .int .u32 (r.c:Int)),(3, .int .u32 (r.d:Int)),(4, .int .u32 (r.e:Int)),(5, .int .u32 (r.f:Int)),(6, .int .u32 (r.g:Int)),(7, .int .u32 (r.h:Int))]).getD #[]= #[.int .u32 (r.a:Int), .int .u32 (r.b:Int), .int .u32 (r.c:Int), .int .u32 (r.d:Int), .int .u32 (r.e:Int), .int .u32 (r.f:Int), .int .u32 (r.g:Int), .int .u32 (r.h:Int)] by kernel_rfl]
      have HM0:=aa (fX.start (r:=r) HB2.out HBQ.out)
      go_loopw [197] (fun i wq=> ∃j:Nat,j<=8/\i= .int .i64 (j:Int)/\fX sb v r tl ty W1 wq j) (fun i _=>8-(intOf i).toNat)
      case atStart=>exact⟨0,by omega,rfl,HM0.out⟩
      case round=>
       obtain⟨j,hj,rfl,hm⟩:=hrel;have HM:=aa hm;clear hm
       by_cases h8:j<8
       ·have cs:=HM.out.here h8;have cf:=HM.out.free j;have hI: ∀w,(Instr.index 101 (.agg #[.int .u32 (r.a:Int), .int .u32 (r.b:Int), .int .u32 (r.c:Int), .int .u32 (r.d:Int), .int .u32 (r.e:Int), .int .u32 (r.f:Int), .int .u32 (r.g:Int), .int .u32 (r.h:Int)]) (.int .i64 (j:Int))).run Tryz.prog w= .ok (.int .u32 ((r.list.getD j 0:Nat):Int)) w:=Bd r h8;have cv:wr.cell? ⟨vb,j,none⟩=some (.int .u32 ((v.list.getD j 0:Nat):Int)):=(cell_of_row wr _ _ _ _ _ (HM.out.keep HVB.out (by have:=HVL.out; omega))).trans (by rw[List.getElem?_toArray]; exact EW v h8)
        obtain⟨x,hx⟩: ∃x,x=r.list.getD j 0:=⟨_,rfl⟩;obtain⟨y,hy⟩: ∃y,y=v.list.getD j 0:=⟨_,rfl⟩;rw[<-hx]at hI;rw[<-hy]at cv cs;have HXY:=aa (And.intro hx hy);clear hx hy;have h8i:(j:Int)<8:=by omega
        go_wp2_with fail;refine aw [some 10,none] (by kernel_rfl) (by kernel_rfl) (by kernel_rfl) ?_;simp only[bq,List.take_succ_cons,List.take_zero,List.drop_succ_cons,List.drop_zero]
        repeat (first | (refine az rfl ?_; simp only[Act.put,aD,aE,aF]) | (refine aI rfl (fun K hK=> ?_); go_simp; refine hK _ ?_; clear hK K))
        refine aH ?_;refine bw rfl (fun K hK=> ?_);go_wp2_with fail
        go_roundw
        case rel=>
         refine⟨j+1,by omega,by simp, ?_⟩;exact(HM.out.put h8 (by rw[<-HXY.out.1,<-HXY.out.2]; unfold fM nO; simp)).drew
        case measure=>simp[intOf]; omega
       ·obtain rfl:j=8:=by omega
        go_wp2_with fail
        go_end0
        refine⟨rfl, ?_, ?_⟩
        ·rw[Bx,<-HRT.out];have:=HM.out.box;rw[show Bi v r 8=(Ar v r).list from rfl]at this;exact this
        ·have h1:=HA1.out.below;have h2:=HM.out.grown;exact⟨h2.os.trans h1.os,h2.tape.trans h1.tape,h2.output.trans h1.output,Nat.le_trans h1.size h2.size,fun k hk hn=>(h2.block k (Nat.lt_of_lt_of_le hk h1.size) hn).trans (h1.block k hk)⟩
end Go.Proofs.YtnjkpcalgoefhaaGreatDoor
namespace Go.Proofs.YtnjkpcalgoefhaaGreatDoor
open Go.RowKit
structure cJ (P : Program) (t e : TypeId) (sz bytes : Nat) : Prop where
 ht:P.underlying t=some (.slice e)
 hi: ∃i z,P.info? e=some i/\i.zero=some z/\i.size=sz/\i.bytes=bytes/\z.cells.size=sz
 pos:0<sz
 small:bytes<=128
theorem cJ.mk' {P:Program} {t e:TypeId} {sz bytes:Nat} {z:Value} (ht:P.underlying t=some (.slice e)) (hi:(P.info? e).map (fun i=>(i.zero,i.size,i.bytes))=some (some z,sz,bytes)) (hz:z.cells.size=sz) (hp:0<sz) (hb:bytes<=128):cJ P t e sz bytes:=by
 obtain⟨i,h1,h2,h3,h4⟩:=info_parts hi;exact⟨ht,⟨i,z,h1,h2,h3,h4,hz⟩,hp,hb⟩
theorem mz {P:Program} (w:World) (base:Nat) (t ty e:TypeId) (i:TypeInfo) (z:Value) (size bytes:Nat) (ht:P.underlying t=some (.slice e)) (hi:P.info? e=some i) (hz:i.zero=some z)
  (hsize:i.size=size) (hby:i.bytes=bytes) (hzs:z.cells.size=size)
  (v:Value) (n:Nat) (xs:List Value) (hown:w.ownsRow base e size v n xs)
  (a:Addr) (m c:Nat) (news:List Value) (hl:news.length=m*size) (hm0:0<m) (hnews: ∀j u,news[j]? =some u->w.cell? (a.add j)=some u) (h1: ∀u∈news,u.oneCell'=true)
  (h63:n+m<=maxLen) (hbytes:(n+m)*bytes<=140737488355328) {v':Value} {w':World}
  (hrun:(Builtin.append_ #[t,t] ty #[v, .slice (some a) m c]).run P w= .ok v' w'):v'.ownBlock=v.ownBlock\/v'.ownBlock=some w.heap.size:=by
 subst hsize;subst hby
 have hsmall:n+m<=9223372036854775807:=by simp only[maxLen]at h63; omega
 rcases hown.2 with⟨rfl,rfl⟩ | ⟨g,cap,cur,rfl,hbg,hg,hnc,hcm,hcs,htake⟩
 ·have hx:xs=[]:=List.eq_nil_of_length_eq_zero (by simpa using hown.1);subst hx;have hr:=run_append_nil (P:=P) w t ty e i z ht hi hz a m c news hl hnews (by omega) (by omega) (by have hb:=hbytes; simp only[Nat.zero_add]at hb; omega);rw[hr]at hrun
  cases hrun
  exact .inr rfl
 ·by_cases hroom:n+m<=cap
  ·have hfit:n*i.size+news.length<=cur.size:=by rw[hl,hcs,<-Nat.add_mul]; exact Nat.mul_le_mul_right _ hroom
   have hr:=run_append_room (P:=P) w t ty e i ht hi g n cap cur hg a m c news hl hnews h1 hroom hfit;rw[hr]at hrun
   cases hrun
   exact .inl rfl
  ·have holds: ∀j u,xs[j]? =some u->w.cell? ((⟨g,0,none⟩:Addr).add j)=some u:=hown.cells (g:=g) rfl;have hr:=run_append_grow (P:=P) w t ty e i z ht hi hz ⟨g,0,none⟩ n cap xs hown.1 holds a m c news hl hnews (by omega) (by omega) (growslice_fits (by omega) hbytes);rw[hr]at hrun
   cases hrun
   exact .inr rfl
theorem bK {P:Program} {ops:Array Oper} {rest:List Oper} {o:Oper} {a:Act} {Q:Exit->Act->World->Prop} {t e:TypeId} {sz bytes:Nat} (T:cJ P t e sz bytes) (hgd:o.guard=none) (s x:Operand)
  (ho:o.op= .call {callee:= .builtin .append,args:= #[s,x],argTypes:= #[t,t]}) (base:Nat) (v:Value) (n:Nat) (xs:List Value) (hs:a.eval s=v) (w0:World) (news:List Value) (e2:TypeId)
  (hx:a.eval x= .slice (some ⟨w0.heap.size,0,none⟩) 1 1) (hl:news.length=sz) (h1: ∀u∈news,u.oneCell'=true) (hown:w0.ownsRow base e sz v n xs) (hn:n<1099511627775) (hbase:base<=w0.heap.size)
  (h: ∀v' w',w'.ownsRow base e sz v' (n+1) (xs++news)->w0.grownBy w' v.ownBlock->v'≠ .slice none 0 0->(∀k,v'.ownBlock=some k->v.ownBlock=some k\/w0.heap.size<=k)->wpList P ops Q rest (a.put o.dst v') w'):wpList P ops Q (o::rest) a (w0.alloc (.cells news.toArray e2)):=by
 obtain⟨ht,⟨i,z,h11,h12,h13,h14,h15⟩,hpos,hsm⟩:=T;have hnews: ∀(j:Nat) u,news[j]? =some u->(w0.alloc (.cells news.toArray e2)).cell? ((⟨w0.heap.size,0,none⟩:Addr).add j)=some u:=by
  intro j u hj;have hadd:(⟨w0.heap.size,0,none⟩:Addr).add j=⟨w0.heap.size,j,none⟩:=by unfold Addr.add; split<;> simp_all
  rw[hadd];have hh:=heap_alloc_new w0 (.cells news.toArray e2);simp only[World.cell?,hh];simp[hj]
 have h63:n+1<=maxLen:=by unfold maxLen; omega
 have hby:(n+1)*bytes<=140737488355328:=by
  have:(n+1)*bytes<=1099511627775*128:=Nat.mul_le_mul (by omega) hsm;omega
 have hl1:news.length=1*sz:=by rw[hl,Nat.one_mul]
 obtain⟨v',w',hr,h2,hg,hv⟩:=run_append_own (P:=P) (w0.alloc (.cells news.toArray e2)) base t o.type e i z sz bytes ht h11 h12 h13 h14 h15 hpos v n xs (hown.alloc _) ⟨w0.heap.size,0,none⟩ 1 1 news hl1 hnews h1 h63 hby (by simp; omega);have hpl:=mz (P:=P) (w0.alloc (.cells news.toArray e2)) base t o.type e i z sz bytes ht h11 h12 h13 h14 h15 v n xs (hown.alloc _) ⟨w0.heap.size,0,none⟩ 1 1 news hl1 (by omega) hnews h1 h63 hby hr
 refine wpList_plain hgd fun K hK=> ?_
 unfold Oper.wp execOp;simp only[ho,resolve,invoke,builtin,Sem.run_bind,Sem.run_pure,Result.andThen_ok,List.map_toArray,List.map_cons,List.map_nil,hs,hx,hr];refine hK _ _ (h v' w' h2 ⟨hg.os,hg.tape,hg.output,by have:=hg.size; simp at this; omega,fun k hk hne=> ?_⟩ (fun e=>by have:=(hv.1 e).2; omega) ?_)
 ·rw[hg.block k (by simp; omega) hne];exact Below.heap_alloc _ _ _ hk
 ·intro k hk
  rcases hpl with hp | hp
  ·left; rw[<-hp]; exact hk
  ·right; rw[hp]at hk; cases hk; simp
theorem dd {P:Program} {ops:Array Oper} {rest:List Oper} {o:Oper} {a:Act} {Q:Exit->Act->World->Prop} {t e:TypeId} {sz bytes:Nat} (T:cJ P t e sz bytes) (hgd:o.guard=none) (s x:Operand)
  (ho:o.op= .call {callee:= .builtin .append,args:= #[s,x],argTypes:= #[t,t]}) (base:Nat) (v:Value) (n:Nat) (xs:List Value) (hs:a.eval s=v) (w0:World) (news:List Value) (e2:TypeId)
  (hx:a.eval x= .slice (some ⟨w0.heap.size,0,none⟩) 1 1) (hl:news.length=sz) (h1: ∀u∈news,u.oneCell'=true) (hown:w0.ownsRow base e sz v n xs) (hn:n<1099511627775) (hbase:base<=w0.heap.size)
  (h: ∀v' w',w'.ownsRow base e sz v' (n+1) (xs++news)->w0.grownBy w' v.ownBlock->v'≠ .slice none 0 0->wpList P ops Q rest (a.put o.dst v') w'):wpList P ops Q (o::rest) a (w0.alloc (.cells news.toArray e2)):=
 bK T hgd s x ho base v n xs hs w0 news e2 hx hl h1 hown hn hbase fun v' w' h2 h3 h4 _=>h v' w' h2 h3 h4
theorem bi {w:World} {base:Nat} {e:TypeId} {sz:Nat} {v:Value} {n:Nat} {xs:List Value} (h:w.ownsRow base e sz v n xs):aO (fun k=>base<=k/\v.ownBlock=some k) w sz v n xs:=by
 obtain⟨hl,h2⟩:=h
 rcases h2 with⟨rfl,rfl⟩ | ⟨g,cap,cur,rfl,hg,hh,hn,hcap,hsz,htake⟩
 ·exact⟨hl,none,0,rfl,Nat.le_refl _,by unfold maxLen; omega, .inl rfl⟩
 ·refine⟨hl,_,cap,rfl,hn,hcap, .inr ⟨g,0,rfl,⟨hg,rfl⟩,fun j u hj=> ?_⟩⟩;rw[Nat.zero_add,cell_of_row w g j cur e (0,0) hh];rw[<-htake,List.getElem?_take]at hj
  split at hj
  ·simpa using hj
  ·cases hj
theorem aO.weak {S T:Nat->Prop} {w:World} {sz:Nat} {v:Value} {n:Nat} {cells:List Value} (h:aO S w sz v n cells) (hs: ∀k,S k->T k):aO T w sz v n cells:=by
 obtain⟨hl,a,cap,hv,hn,hm,h0⟩:=h;refine⟨hl,a,cap,hv,hn,hm, ?_⟩
 rcases h0 with h0 | ⟨b,o,ha,hb,hc⟩
 ·exact .inl h0
 ·exact .inr ⟨b,o,ha,hs b hb,hc⟩
theorem aR {B:Nat} {w0 w w':World} {base:Nat} {e:TypeId} {sz:Nat} {v:Value} {n:Nat} {xs:List Value} (hb:Below B w0 w) (ho:w.ownsRow base e sz v n xs) (hg:w.grownBy w' v.ownBlock) (h1:B<=base) (h2:B<=w.heap.size):Below B w0 w':=
 hb.grown hg h2 (fun k hk=>by have:=(ho.lt k hk).1; omega)
theorem ak {w:World} {base:Nat} {e:TypeId} {sz:Nat} {v:Value} {n:Nat} {xs:List Value} (h:w.ownsRow base e sz v n xs): ∃a cap,v= .slice a n cap/\n<=cap/\cap<=maxLen:=by
 obtain⟨_,h2⟩:=h
 rcases h2 with⟨rfl,rfl⟩ | ⟨g,cap,cur,rfl,hg,hh,hn,hcap,hsz,htake⟩
 ·exact⟨_,_,rfl,Nat.le_refl _,by unfold maxLen; omega⟩
 ·exact⟨_,_,rfl,hn,hcap⟩
theorem Tryz.appStrings :cJ Tryz.prog 78 9 1 16:=cJ.mk' (z:= .string ByteArray.empty) Tryz.underlying78 (by kernel_rfl) rfl (by decide) (by decide)
def bo {α:Type} (R:List Value->α->Prop):List Value->List α->Prop
 | cells,[]=>cells=[]
 | cells,x::xs=> ∃c rest,cells=c++rest/\R c x/\bo R rest xs
section
variable {α : Type} {R R' : List Value → α → Prop} {sz : Nat}
theorem bo.mono : ∀ {xs:List α} {cells:List Value},(∀c x,x∈xs->R c x->R' c x)->bo R cells xs->bo R' cells xs
 | [],_,_,h=>h
 | x::xs,cells,hm,h=>by
  obtain⟨c,rest,rfl,hc,hr⟩:=h;exact⟨c,rest,rfl,hm c x (by simp) hc,bo.mono (fun c y hy=>hm c y (by simp[hy])) hr⟩
theorem bo.snoc : ∀ {xs:List α} {cells c:List Value} {x:α},bo R cells xs->R c x->bo R (cells++c) (xs++[x])
 | [],cells,c,x,h,hc=>by
  have:cells=[]:=h;subst this;exact⟨c,[],by simp,hc,rfl⟩
 | y::xs,cells,c,x,h,hc=>by
  obtain⟨d,rest,rfl,hd,hr⟩:=h;exact⟨d,rest++c,by simp,hd,bo.snoc hr hc⟩
theorem bo.len (hs: ∀c x,R c x->c.length=sz): ∀ {xs:List α} {cells:List Value},bo R cells xs->cells.length=xs.length*sz
 | [],cells,h=>by have:cells=[]:=h; subst this; simp
 | x::xs,cells,h=>by
  obtain⟨c,rest,rfl,hc,hr⟩:=h;rw[List.length_append,hs c x hc,bo.len hs hr,List.length_cons,Nat.add_mul]; omega
theorem bo.get (hs: ∀c x,R c x->c.length=sz): ∀ {xs:List α} {cells:List Value} {i:Nat} {x:α},bo R cells xs->xs[i]? =some x-> ∃c,R c x/\ ∀j,j<sz->cells[i*sz+j]? =c[j]?
 | [],_,i,_,_,hi=>by simp at hi
 | y::xs,cells,0,x,h,hi=>by
  obtain⟨c,rest,rfl,hc,hr⟩:=h;simp at hi; subst hi;refine⟨c,hc,fun j hj=> ?_⟩;rw[Nat.zero_mul,Nat.zero_add,List.getElem?_append_left (by rw[hs c y hc]; exact hj)]
 | y::xs,cells,i+1,x,h,hi=>by
  obtain⟨c,rest,rfl,hc,hr⟩:=h;obtain⟨d,hd,hj⟩:=bo.get hs hr (i:=i) (x:=x) (by simpa using hi);refine⟨d,hd,fun j hjs=> ?_⟩;have hl:=hs c y hc;rw[List.getElem?_append_right (by rw[hl,Nat.add_mul]; omega),hl,<-hj j hjs]
  congr 1
  rw[Nat.add_mul]; omega
theorem bo.drop (hs: ∀c x,R c x->c.length=sz): ∀ {xs:List α} {cells:List Value} (i:Nat),bo R cells xs->i<=xs.length->bo R (cells.drop (i*sz)) (xs.drop i)
 | _,_,0,h,_=>by simpa using h
 | [],_,i+1,_,hi=>by simp at hi
 | y::xs,cells,i+1,h,hi=>by
  obtain⟨c,rest,rfl,hc,hr⟩:=h;have:=bo.drop hs i hr (by simpa using hi);rw[List.drop_succ_cons,Nat.add_mul,Nat.one_mul,Nat.add_comm,List.drop_append,hs c y hc];simp only[Nat.add_sub_cancel_left];rw[List.drop_of_length_le (by rw[hs c y hc]; omega)];exact this
end
def aY {α:Type} (S:Nat->Prop) (w:World) (sz:Nat) (R:List Value->α->Prop) (v:Value) (xs:List α):Prop:=
 ∃cells,aO S w sz v xs.length cells/\bo R cells xs
section
variable {α : Type} {S T : Nat → Prop} {w w' : World} {sz : Nat} {R R' : List Value → α → Prop} {v : Value} {xs : List α}
theorem aY.shape (h:aY S w sz R v xs) (hs: ∀c x,R c x->c.length=sz):
  ∃a cap,v= .slice a xs.length cap/\xs.length<=cap/\cap<=maxLen/\ ∀(k:Nat) x,xs[k]? =some x-> ∃b o c,a=some ⟨b,o,none⟩/\S b/\R c x/\c.length=sz/\ ∀j,j<sz->w.cell? ⟨b,o+(k*sz+j),none⟩=c[j]? :=by
 obtain⟨cells,⟨hl,a,cap,hv,hn,hm,h0⟩,hr⟩:=h;refine⟨a,cap,hv,hn,hm,fun k x hk=> ?_⟩
 rcases h0 with h0 | ⟨b,o,ha,hb,hc⟩
 ·simp[List.eq_nil_of_length_eq_zero h0]at hk
 ·obtain⟨c,hcx,hj⟩:=hr.get hs hk;refine⟨b,o,c,ha,hb,hcx,hs c x hcx,fun j hjs=> ?_⟩;have hlt:j<c.length:=by rw[hs c x hcx]; exact hjs
  rw[List.getElem?_eq_getElem hlt];exact hc _ _ (by rw[hj j hjs,List.getElem?_eq_getElem hlt])
theorem aY.same (h:aY S w sz R v xs) (hs:eZ S w w') (hR: ∀c x,x∈xs->R c x->R' c x):aY S w' sz R' v xs:=by
 obtain⟨cells,h1,h2⟩:=h;exact⟨cells,h1.same hs,h2.mono hR⟩
theorem aY.below (h:aY S w sz R v xs) (hsz:0<sz) (hb:Below w.heap.size w w') (hR: ∀c x,x∈xs->R c x->R' c x):aY S w' sz R' v xs:=by
 obtain⟨cells,h1,h2⟩:=h;exact⟨cells,h1.below hsz hb,h2.mono hR⟩
theorem aY.mono (h:aY S w sz R v xs) (hsz:0<sz) (hs: ∀k,k<w.heap.size->S k->T k) (hR: ∀c x,x∈xs->R c x->R' c x):aY T w sz R' v xs:=by
 obtain⟨cells,h1,h2⟩:=h;exact⟨cells,h1.mono hs hsz,h2.mono hR⟩
theorem aY.nil :aY S w sz R (.slice none 0 0) ([]:List α):=⟨[],aO.nil _ _ _,rfl⟩
end
theorem rN (b o n:Nat):(⟨b,o,none⟩:Addr).add n=⟨b,o+n,none⟩:=by unfold Addr.add; split<;> simp_all
open Go Go.RowKit
theorem nz {P:Program} {w:World} (base:Nat) (t ty e:TypeId) (i:TypeInfo) (size:Nat) (ht:P.underlying t=some (.slice e)) (hi:P.info? e=some i)
  (v:Value) (n:Nat) (xs:List Value) (hown:w.ownsRow base e size v n xs) (a:Option Addr) (c:Nat):
  (Builtin.append_ #[t,t] ty #[v, .slice a 0 c]).run P w= .ok v w:=by
 rcases hown.2 with⟨rfl,rfl⟩ | ⟨g,cap,cur,rfl,_,_,hnc,_⟩
 ·cases a<;> simp[Builtin.append_,run_underlying ht,sizeOf,typeInfo,hi,Builtin.lenOf,Builtin.firstCells,loadCells,loadCellsFrom]
 ·cases a<;> simp[Builtin.append_,run_underlying ht,sizeOf,typeInfo,hi,Builtin.lenOf,Builtin.firstCells,hnc,storeCells,loadCells,loadCellsFrom]
theorem bG {P:Program} {ops:Array Oper} {rest:List Oper} {o:Oper} {a:Act} {Q:Exit->Act->World->Prop} {w:World} {t e:TypeId} {sz bytes:Nat} {S:Nat->Prop} (T:cJ P t e sz bytes) (hgd:o.guard=none) (s x:Operand)
  (ho:o.op= .call {callee:= .builtin .append,args:= #[s,x],argTypes:= #[t,t]}) (base:Nat) (v:Value) (n:Nat) (xs:List Value) (hs:a.eval s=v) (hown:w.ownsRow base e sz v n xs) (vx:Value) (m:Nat) (news:List Value)
  (hx:a.eval x=vx) (hrow:aO S w sz vx m news) (h1: ∀u∈news,u.oneCell'=true) (hn:n+m<1099511627775) (hbase:base<=w.heap.size)
  (h: ∀v' w',w'.ownsRow base e sz v' (n+m) (xs++news)->w.grownBy w' v.ownBlock->wpList P ops Q rest (a.put o.dst v') w'):wpList P ops Q (o::rest) a w:=by
 obtain⟨ht,⟨i,z,h11,h12,h13,h14,h15⟩,hpos,hsm⟩:=T;obtain⟨hl,ad,cap,rfl,_,_,h0⟩:=hrow;refine wpList_plain hgd fun K hK=> ?_
 have hz:m=0->o.wp P a w K Q:=by
  rintro rfl;have hn0:news=[]:=List.eq_nil_of_length_eq_zero (by rw[hl]; simp);subst hn0;have hrun:=nz (P:=P) (w:=w) base t o.type e i sz ht h11 v n xs hown ad cap;unfold Oper.wp execOp;simp only[ho,resolve,invoke,builtin,Sem.run_bind,Sem.run_pure,Result.andThen_ok,List.map_toArray,List.map_cons,List.map_nil,hs,hx,hrun];exact hK _ _ (h v w (by simpa using hown) ⟨rfl,rfl,rfl,Nat.le_refl _,fun _ _ _=>rfl⟩)
 rcases h0 with h0 | ⟨b,of,rfl,_,hc⟩
 ·exact hz h0
 ·have hnews: ∀(j:Nat) u,news[j]? =some u->w.cell? ((⟨b,of,none⟩:Addr).add j)=some u:=fun j u hj=>by rw[rN]; exact hc j u hj
  have h63:n+m<=maxLen:=by unfold maxLen; omega
  have hby:(n+m)*bytes<=140737488355328:=by
   have:(n+m)*bytes<=1099511627775*128:=Nat.mul_le_mul (by omega) hsm;omega
  obtain⟨v',w',hr,h2,hg,_⟩:=run_append_own (P:=P) w base t o.type e i z sz bytes ht h11 h12 h13 h14 h15 hpos v n xs hown ⟨b,of,none⟩ m cap news hl hnews h1 h63 hby hbase;unfold Oper.wp execOp;simp only[ho,resolve,invoke,builtin,Sem.run_bind,Sem.run_pure,Result.andThen_ok,List.map_toArray,List.map_cons,List.map_nil,hs,hx,hr];exact hK _ _ (h v' w' h2 hg)
end Go.Proofs.YtnjkpcalgoefhaaGreatDoor
namespace Go.Proofs.YtnjkpcalgoefhaaGreatDoor
open Go
section
variable {P : Program} {ops : Array Oper} {Q : Exit → Act → World → Prop} {S : World → Prop}
@[irreducible] def sM (P:Program) (ops:Array Oper) (Q:Exit->Act->World->Prop) (S:World->Prop) (fuel:Nat) (listed:Array Bool) (a:Act) (w:World):Prop:=wpAnyH P .any ops Q S fuel listed a w
theorem sM.of {fuel:Nat} {listed:Array Bool} {a:Act} {w:World} (h:wpAnyH P .any ops Q S fuel listed a w):sM P ops Q S fuel listed a w:=by unfold sM; exact h
theorem sM.out {fuel:Nat} {listed:Array Bool} {a:Act} {w:World} (h:sM P ops Q S fuel listed a w):wpAnyH P .any ops Q S fuel listed a w:=by unfold sM at h; exact h
theorem cI {id:Nat} {a:Act} {w:World} {l:List Oper} (S:World->Prop) (hm:P.follows .mixedOrders=true) (h:sM P l.toArray Q S l.length (Array.replicate l.length false) a w.drew):(Code.region id l.toArray true).wp P Q a w:=by
 refine wp_region_held (S:=S) hm ?_;have:=h.out
 simpa using this
theorem ab {dst:Option Tmp} {op:Op} {ty:TypeId} {pos:String} {aft:Array Edge} {g:Option (Nat×Bool)} {v:Value} {fuel:Nat} {listed:Array Bool} {a:Act} {w:World} (i:Nat) (hi:ops[i]? =some ⟨dst,op,ty,pos,aft,g⟩)
  (hs:Region.noSelect ops=true) (hf:Region.free .any ops listed i=true) (hr:(Region.ready .any ops listed).contains i=true)
  (hQ: ∀c a w,Q (.panic c) (a.put dst v) w->Q (.panic c) a w) (hw:Region.wanted ⟨dst,op,ty,pos,aft,g⟩ (yielded ops a.tmps)=true) (hS:S w)
  (hy: ∀w',S w'->(execOp a.eval ⟨dst,op,ty,pos,aft,g⟩).run P w'= .ok (.value v) w')
  (h:sM P ops Q S fuel (listed.setIfInBounds i true) (a.put dst v) w):sM P ops Q S (fuel+1) listed a w:=
 sM.of (wpAnyH_take (oi:=⟨dst,op,ty,pos,aft,g⟩) hi hs hf hr hQ (.inl ⟨hw,hy⟩) hS h.out)
theorem ax {dst:Option Tmp} {op:Op} {ty:TypeId} {pos:String} {aft:Array Edge} {g:Option (Nat×Bool)} {fuel:Nat} {listed:Array Bool} {a:Act} {w:World} (i:Nat) (hi:ops[i]? =some ⟨dst,op,ty,pos,aft,g⟩) (hr:Region.ready .any ops listed=[i])
  (hw:Region.wanted ⟨dst,op,ty,pos,aft,g⟩ (yielded ops a.tmps)=true)
  (h: ∀K:Act->World->Prop,(∀a w,S w/\sM P ops Q S fuel (listed.setIfInBounds i true) a w->K a w)->wpList P #[] (Exit.then K Q) [⟨dst,op,ty,pos, #[],none⟩] a w):sM P ops Q S (fuel+1) listed a w:=by
 refine sM.of (wpAnyH_all hr (by simp) fun j hj=> ?_);have hji:j=i:=by simpa using hj
 subst hji;have hb:vj P ops (fun a' w'=>S w'/\wpAnyH P .any ops Q S fuel (listed.setIfInBounds j true) a' w') Q [⟨dst,op,ty,pos,aft,g⟩] a w:=
  bw hw (fun K hK=>h K (fun a w hh=>hK a w ⟨hh.1,hh.2.out⟩))
 unfold wpOp;simp only[hi];exact vj.out hb
theorem bh {listed:Array Bool} {a:Act} {w:World} {fuel:Nat} (hr:Region.ready .any ops listed=[]) (h:Q .normal a w):sM P ops Q S fuel listed a w:=sM.of (wpAnyH_done hr h fuel)
end
end Go.Proofs.YtnjkpcalgoefhaaGreatDoor
namespace Go.Proofs.YtnjkpcalgoefhaaGreatDoor
open Go.RowKit
theorem ah {w:World} {b k:Nat} {cs:Array Value} {t:TypeId} {z:Nat×Nat} (h:w.heap[b]? =some (.cells cs t z)):w.cell? ⟨b,k,none⟩=cs[k]? :=by simp[World.cell?,h]
theorem aG {w:World} {b k:Nat} {cs:Array Value} {t:TypeId} (h:w.heap[b]? =some (.cells cs t (0,0))):w.frozen? ⟨b,k,none⟩=false:=by simp[World.frozen?,h]
def aJ (b:UInt8):Value:= .int .u8 (b.toNat:Int)
structure aQ (w : World) (rb : Nat) (v : Value) (data : List UInt8) (off last : Nat) (err : Int) : Prop where
 box:w.heap[rb]? =some (.cells #[v, .int .i64 (off:Int), .int .i64 (last:Int), .int .i64 err] 161 (0,0))
 row:aO (· ≠rb) w 1 v data.length (data.map aJ)
 le:off<=data.length
 ls:last<=data.length
 small:data.length<=32768
theorem DD {w:World} {b:Nat} {a0 a1 a2 a3 x:Value} {t:TypeId} (h:w.heap[b]? =some (.cells #[a0,a1,a2,a3] t (0,0))):(w.setCell ⟨b,1,none⟩ x).heap[b]? =some (.cells #[a0,x,a2,a3] t (0,0)):=by
 simp only[World.setCell,Array.getElem?_modify,if_true,h,Option.map_some]; rfl
theorem DE {w:World} {b:Nat} {a0 a1 a2 a3 x:Value} {t:TypeId} (h:w.heap[b]? =some (.cells #[a0,a1,a2,a3] t (0,0))):(w.setCell ⟨b,2,none⟩ x).heap[b]? =some (.cells #[a0,a1,x,a3] t (0,0)):=by
 simp only[World.setCell,Array.getElem?_modify,if_true,h,Option.map_some]; rfl
theorem DF {w:World} {b:Nat} {a0 a1 a2 a3 x:Value} {t:TypeId} (h:w.heap[b]? =some (.cells #[a0,a1,a2,a3] t (0,0))):(w.setCell ⟨b,3,none⟩ x).heap[b]? =some (.cells #[a0,a1,a2,x] t (0,0)):=by
 simp only[World.setCell,Array.getElem?_modify,if_true,h,Option.map_some]; rfl
theorem aQ.c0 {w:World} {rb:Nat} {v:Value} {data:List UInt8} {off last:Nat} {err:Int} (h:aQ w rb v data off last err):w.cell? ⟨rb,0,none⟩=some v:=by rw[ah h.box]; rfl
theorem aQ.c1 {w:World} {rb:Nat} {v:Value} {data:List UInt8} {off last:Nat} {err:Int} (h:aQ w rb v data off last err):w.cell? ⟨rb,1,none⟩=some (.int .i64 (off:Int)):=by rw[ah h.box]; rfl
theorem aQ.c2 {w:World} {rb:Nat} {v:Value} {data:List UInt8} {off last:Nat} {err:Int} (h:aQ w rb v data off last err):w.cell? ⟨rb,2,none⟩=some (.int .i64 (last:Int)):=by rw[ah h.box]; rfl
theorem aQ.c3 {w:World} {rb:Nat} {v:Value} {data:List UInt8} {off last:Nat} {err:Int} (h:aQ w rb v data off last err):w.cell? ⟨rb,3,none⟩=some (.int .i64 err):=by rw[ah h.box]; rfl
theorem aQ.free {w:World} {rb:Nat} {v:Value} {data:List UInt8} {off last:Nat} {err:Int} (h:aQ w rb v data off last err) (k:Nat):w.frozen? ⟨rb,k,none⟩=false:=aG h.box
theorem aQ.set1 {w:World} {rb:Nat} {v:Value} {data:List UInt8} {off last:Nat} {err:Int} (h:aQ w rb v data off last err) (o:Nat) (ho:o<=data.length):aQ (w.setCell ⟨rb,1,none⟩ (.int .i64 (o:Int))) rb v data o last err:=
 ⟨DD h.box,h.row.same (fun _ hk=>Below.heap_setCell _ _ _ _ hk),ho,h.ls,h.small⟩
theorem aQ.set2 {w:World} {rb:Nat} {v:Value} {data:List UInt8} {off last:Nat} {err:Int} (h:aQ w rb v data off last err) (o:Nat) (ho:o<=data.length):aQ (w.setCell ⟨rb,2,none⟩ (.int .i64 (o:Int))) rb v data off o err:=
 ⟨DE h.box,h.row.same (fun _ hk=>Below.heap_setCell _ _ _ _ hk),h.le,ho,h.small⟩
theorem aQ.set3 {w:World} {rb:Nat} {v:Value} {data:List UInt8} {off last:Nat} {err:Int} (h:aQ w rb v data off last err) (e:Int):aQ (w.setCell ⟨rb,3,none⟩ (.int .i64 e)) rb v data off last e:=
 ⟨DF h.box,h.row.same (fun _ hk=>Below.heap_setCell _ _ _ _ hk),h.le,h.ls,h.small⟩
theorem aQ.lt {w:World} {rb:Nat} {v:Value} {data:List UInt8} {off last:Nat} {err:Int} (h:aQ w rb v data off last err):rb<w.heap.size:=lt_of_block h.box
theorem aQ.below {w w':World} {rb:Nat} {v:Value} {data:List UInt8} {off last:Nat} {err:Int} (h:aQ w rb v data off last err) (hb:Below w.heap.size w w'):aQ w' rb v data off last err:=
 ⟨by rw[hb.block _ h.lt]; exact h.box,h.row.below (by omega) hb,h.le,h.ls,h.small⟩
theorem aB (w:World) (b o:Nat) (x:Value):w.grownBy (w.setCell ⟨b,o,none⟩ x) (some b):=
 ⟨rfl,rfl,rfl,by simp[World.setCell],fun k hk hne=>Below.heap_setCell _ _ _ _ (fun e=>hne (by simpa using e))⟩
theorem aN {a b c:World} {r:Option Nat} (h:a.grownBy b r) (k:b.grownBy c r):a.grownBy c r:=
 ⟨k.os.trans h.os,k.tape.trans h.tape,k.output.trans h.output,Nat.le_trans h.size k.size,fun i hi hne=>(k.block i (Nat.lt_of_lt_of_le hi h.size) hne).trans (h.block i hi hne)⟩
theorem kR (w:World) (r:Option Nat):w.grownBy w r:=⟨rfl,rfl,rfl,Nat.le_refl _,fun _ _ _=>rfl⟩
theorem aQ.draws {w:World} {rb:Nat} {v:Value} {data:List UInt8} {off last:Nat} {err:Int} (h:aQ w rb v data off last err) (n:Nat):aQ (w.drewN n) rb v data off last err:=h.below (bS (Below.refl _ _) n)
theorem bN {a w:World} {r:Option Nat} (h:a.grownBy w r) (n:Nat):a.grownBy (w.drewN n) r:=aN h ⟨rfl,rfl,rfl,Nat.le_refl _,fun _ _ _=>rfl⟩
theorem aQ.shape {w:World} {rb:Nat} {v:Value} {data:List UInt8} {off last:Nat} {err:Int} (h:aQ w rb v data off last err): ∃a cap,v= .slice a data.length cap/\data.length<=cap/\cap<=maxLen/\
  ∀(k:Nat) b,data[k]? =some b-> ∃bk o,a=some ⟨bk,o,none⟩/\bk≠rb/\w.cell? ⟨bk,o+k,none⟩=some (aJ b):=by
 obtain⟨_,a,cap,hv,hn,hm,h0⟩:=h.row;refine⟨a,cap,hv,hn,hm,fun k b hk=> ?_⟩
 rcases h0 with h0 | ⟨bk,o,ha,hb,hc⟩
 ·simp[List.eq_nil_of_length_eq_zero h0]at hk
 ·exact⟨bk,o,ha,hb,hc k _ (by simp[hk])⟩
def qd (m:Nat) (b:UInt8) (k:Nat):Nat:=m ||| (b.toNat%128*2^(7*k)%18446744073709551616)
theorem sy {m:Nat} (b:UInt8) (k:Nat) (h:m<18446744073709551616):qd m b k<18446744073709551616:=by
 unfold qd;exact Nat.or_lt_two_pow (n:=64) h (Nat.mod_lt _ (by decide))
theorem yM (m:Nat) (b:UInt8) (k:Nat) (h:m<18446744073709551616):bits BinOp.or IntKind.u64 (m:Int) (IntKind.u64.wrap (IntKind.u64.wrap (bits BinOp.and IntKind.u8 (b.toNat:Int) 127)*2^(7*k)))=(qd m b k:Int):=by
 have hb:=b.toNat_lt;rw[show(127:Int)=((127:Nat):Int)from rfl,u8_and_nat _ _ hb (by omega),show(127:Nat)=2^7-1 from rfl,Nat.and_two_pow_sub_one_eq_mod,IntKind.wrap_u64,IntKind.wrap_u64,
  show((2:Int)^(7*k))=((2^(7*k):Nat):Int) by push_cast; rfl]
 have e:((((b.toNat%2^7:Nat):Int)%18446744073709551616)*((2^(7*k):Nat):Int))%18446744073709551616=((b.toNat%128*2^(7*k)%18446744073709551616:Nat):Int):=by
  rw[show(((b.toNat%2^7:Nat):Int)%18446744073709551616)=((b.toNat%128:Nat):Int) by omega]
  show _%((18446744073709551616:Nat):Int)=_
  rw[<-Int.natCast_mul,<-Int.natCast_emod]
 rw[e,bits_or_u64_nat _ _ h (Nat.mod_lt _ (by decide))]; rfl
def gX (b:UInt8) (k:Nat):Bool:=(decide (0<k) && decide (b.toNat=0)) || (decide (k=9) && decide (1<b.toNat))
def gY (data:List UInt8):Nat->Nat->Nat->Nat->Except Int (Nat×Nat)
 | 0,_,_,_=> .error 3
 | f+1,k,o,m=>match data[o]? with
  | none=> .error 3
  | some b=>if 128<=b.toNat then gY data f (k+1) (o+1) (qd m b k)else if gX b k then .error 3 else .ok (qd m b k,o+1)
def fU (data:List UInt8) (off:Nat):Except Int (Nat×Nat):=gY data 10 0 off 0
theorem yL {data:List UInt8} {f k o m:Nat} {b:UInt8} (h:data[o]? =some b) (h2:128<=b.toNat):gY data (f+1) k o m=gY data f (k+1) (o+1) (qd m b k):=by
 rw[gY,h]; simp only[if_pos h2]
theorem uh {data:List UInt8} {f k o m:Nat} {b:UInt8} (h:data[o]? =some b) (h2: ¬128<=b.toNat) (h3:gX b k=true):gY data (f+1) k o m= .error 3:=by
 rw[gY,h]; simp only[if_neg h2,if_pos h3]
theorem Dq {data:List UInt8} {f k o m:Nat} {b:UInt8} (h:data[o]? =some b) (h2: ¬128<=b.toNat) (h3:gX b k=false):gY data (f+1) k o m= .ok (qd m b k,o+1):=by
 rw[gY,h]; simp only[if_neg h2,h3]; rfl
theorem Bm {data:List UInt8} {f k o m:Nat} (h:data.length<=o):gY data f k o m= .error 3:=by
 cases f with
 | zero=>rfl
 | succ f=>rw[gY,List.getElem?_eq_none h]
theorem qU (data:List UInt8): ∀(f k o m n o':Nat),m<18446744073709551616->gY data f k o m= .ok (n,o')->n<18446744073709551616/\o<o'/\o'<=data.length
 | 0,_,_,_,_,_,_,h=>by simp[gY]at h
 | f+1,k,o,m,n,o',hm,h=>by
  rw[gY]at h
  cases hd:data[o]? with
  | none=>rw[hd]at h; simp at h
  | some b=>
   have hl:=(List.getElem?_eq_some_iff.1 hd).1;rw[hd]at h;simp only at h
   split at h
   ·obtain⟨h1,h2,h3⟩:=qU data f (k+1) (o+1) _ n o' (sy b k hm) h;exact⟨h1,by omega,h3⟩
   ·split at h
    ·simp at h
    ·simp only[Except.ok.injEq,Prod.mk.injEq]at h;obtain⟨rfl,rfl⟩:=h;exact⟨sy b k hm,by omega,by omega⟩
theorem mm {data:List UInt8} {off n o':Nat} (h:fU data off= .ok (n,o')):n<18446744073709551616/\off<o'/\o'<=data.length:=qU data 10 0 off 0 n o' (by decide) h
theorem ui (data:List UInt8): ∀(f k o m:Nat) (x:Int),gY data f k o m= .error x->x=3
 | 0,_,_,_,_,h=>by simp only[gY,Except.error.injEq]at h; exact h.symm
 | f+1,k,o,m,x,h=>by
  rw[gY]at h
  split at h
  ·simp only[Except.error.injEq]at h; exact h.symm
  ·split at h
   ·exact ui data f _ _ _ x h
   ·split at h
    ·simp only[Except.error.injEq]at h; exact h.symm
    ·simp at h
theorem oQ {data:List UInt8} {off:Nat} {x:Int} (h:fU data off= .error x):x=3:=ui data 10 0 off 0 x h
def Cq (kd:IntKind) (w:World) (rb:Nat) (v:Value) (data:List UInt8) (last:Nat) (err:Int) (r:Except Int (Nat×Nat)) (e:Ending) (w':World):Prop:=
 ∃o',aQ w' rb v data o' last err/\w.grownBy w' (some rb)/\match r with
  | .ok (n,o)=>e= .returned (.tuple #[.int kd (n:Int), .int .i64 0])/\o'=o
  | .error x=>e= .returned (.tuple #[.int kd 0, .int .i64 x])
theorem oR (rb:Nat) (v:Value) (data:List UInt8) (off last:Nat) (err:Int) (w:World) (hr:aQ w rb v data off last err):
  Calls Tryz.prog 83 #[.pointer (some ⟨rb,0,none⟩)] w (Cq .u64 w rb v data last err (fU data off)):=by
 obtain⟨a,cap,rfl,hc,hcm,-⟩:=hr.shape;unfold maxLen at hcm;have HR:=aa hr;clear hr
 go_enter Tryz.func83,Tryz.ntmps83
 go_wp2_with fail
 go_loopw [2,6] (fun n i wr=> ∃(k o m:Nat),k<=10/\i= .int .i64 k/\n= .int .u64 (m:Int)/\m<18446744073709551616/\aQ wr rb (.slice a data.length cap) data o last err/\w.grownBy wr (some rb)/\gY data 10 0 off 0=gY data (10-k) k o m) (fun _ i _=>10-(intOf i).toNat)
 case atStart=>exact⟨0,off,0,Nat.zero_le _,rfl,rfl,by decide,HR.out,kR _ _,rfl⟩
 case round=>
  obtain⟨k,o,m,hk,rfl,rfl,hm,hrd,hg,hn⟩:=hrel;have HRD:=aa hrd;have HG:=aa hg;have HN:=aa hn;have HM:=aa hm;have hle:=hrd.le;have hsm:=hrd.small;have c0:=hrd.c0;have c1:=hrd.c1;have f1:=hrd.free 1;clear hg hn hm
  by_cases hlt:k<10
  ·obtain⟨f,hf⟩: ∃f,10-k=f+1:=⟨9-k,by omega⟩
   by_cases hol:o<data.length
   ·obtain⟨b,hb⟩: ∃b,data[o]? =some b:=⟨data[o],by simp[hol]⟩;have hb8:=b.toNat_lt;obtain⟨a2,cap2,hv2,_,_,hcell⟩:=hrd.shape
    cases hv2
    obtain⟨bk,ok,rfl,hbk,hcl⟩:=hcell o b hb;have HBB:=aa hb;clear hrd hcell hb;rw[hf]at HN;have hbits:=yM m b k HM.out
    by_cases h128:128<=b.toNat
    ·go_wp2_with fail
     go_quiet (fail)
     go_wp2_with fail;clear c0 c1 f1;obtain⟨W,hWe⟩: ∃W,W=wr.drewN nq:=⟨_,rfl⟩;have hWr:=HRD.out.draws nq;have hWg:=bN HG.out nq
     try rw[<-hWe]
     rw[<-hWe]at hWr hWg;clear HRD HG hWe;have HRD:=aa hWr;have HG:=aa hWg;have c0:=hWr.c0;have c1:=hWr.c1;have f1:=hWr.free 1;clear hWr hWg;have hcl2:W.cell? ⟨bk,ok+o,none⟩=some (.int .u8 (b.toNat:Int)):=by
      obtain⟨a2,cap2,hv2,_,_,hcell⟩:=HRD.out.shape
      cases hv2
      obtain⟨bk,ok,e,hbk,hcl⟩:=hcell o b HBB.out
      cases e
      exact hcl
     clear hcl
     go_quiet (fail)
     go_wp2_with fail;have h1:=(HRD.out.draws nq).set1 (o+1) (by omega);refine⟨⟨k+1,o+1,qd m b k,by omega,by go_num,rfl,sy b k HM.out,h1,aN (bN HG.out nq) (aB _ _ _ _), ?_⟩,by simp[intOf]; omega⟩;rw[HN.out,yL HBB.out h128]
     congr 1; omega
    ·cases hbad:gX b k
     ·have HBD:=aa hbad;simp only[gX,Bool.or_eq_false_iff,Bool.and_eq_false_iff,decide_eq_false_iff_not]at hbad;obtain⟨hb1,hb2⟩:=hbad;have HD:=aa (show k=0\/(k=9/\b.toNat<=1/\b.toNat≠0)\/(0<k/\k<9/\b.toNat≠0) by omega);clear hb1 hb2;go_wp2_with fail
      go_quiet (fail)
      go_wp2_with fail;clear c0 c1 f1;obtain⟨W,hWe⟩: ∃W,W=wr.drewN nq:=⟨_,rfl⟩;have hWr:=HRD.out.draws nq;have hWg:=bN HG.out nq
      try rw[<-hWe]
      rw[<-hWe]at hWr hWg;clear HRD HG hWe;have HRD:=aa hWr;have HG:=aa hWg;have c0:=hWr.c0;have c1:=hWr.c1;have f1:=hWr.free 1;clear hWr hWg;have hcl2:W.cell? ⟨bk,ok+o,none⟩=some (.int .u8 (b.toNat:Int)):=by
       obtain⟨a2,cap2,hv2,_,_,hcell⟩:=HRD.out.shape
       cases hv2
       obtain⟨bk,ok,e,hbk,hcl⟩:=hcell o b HBB.out
       cases e
       exact hcl
      clear hcl
      go_quiet (fail)
      go_wp2_with fail
      all_goals first
       | (exfalso; have hd:=HD.out; omega)
       | (exfalso; have hd:=HD.out; rename_i hor; rcases hor with hor | hor<;> first | omega | (rw[beq_iff_eq]at hor; omega))
       | (
        go_ret2
        have h1:=(HRD.out.draws nq).set1 (o+1) (by omega);refine⟨o+1,h1,aN (bN HG.out nq) (aB _ _ _ _), ?_⟩;rw[fU,HN.out];rw[Dq HBB.out h128 HBD.out];exact⟨rfl,rfl⟩)
     ·have HBD:=aa hbad;simp only[gX,Bool.or_eq_true,Bool.and_eq_true,decide_eq_true_eq]at hbad
      rcases hbad with⟨h0,hz⟩ | ⟨rfl,h1⟩
      ·go_wp2_with fail
       go_quiet (fail)
       go_wp2_with fail;clear c0 c1 f1;obtain⟨W,hWe⟩: ∃W,W=wr.drewN nq:=⟨_,rfl⟩;have hWr:=HRD.out.draws nq;have hWg:=bN HG.out nq
       try rw[<-hWe]
       rw[<-hWe]at hWr hWg;clear HRD HG hWe;have HRD:=aa hWr;have HG:=aa hWg;have c0:=hWr.c0;have c1:=hWr.c1;have f1:=hWr.free 1;clear hWr hWg;have hcl2:W.cell? ⟨bk,ok+o,none⟩=some (.int .u8 (b.toNat:Int)):=by
        obtain⟨a2,cap2,hv2,_,_,hcell⟩:=HRD.out.shape
        cases hv2
        obtain⟨bk,ok,e,hbk,hcl⟩:=hcell o b HBB.out
        cases e
        exact hcl
       clear hcl
       go_quiet (fail)
       go_wp2_with fail
       all_goals (
        go_ret2
        have h1:=(HRD.out.draws nq).set1 (o+1) (by omega);refine⟨o+1,h1,aN (bN HG.out nq) (aB _ _ _ _), ?_⟩;rw[fU,HN.out];rw[uh HBB.out h128 HBD.out]
        try rfl)
      ·go_wp2_with fail
       go_quiet (fail)
       go_wp2_with fail;clear c0 c1 f1;obtain⟨W,hWe⟩: ∃W,W=wr.drewN nq:=⟨_,rfl⟩;have hWr:=HRD.out.draws nq;have hWg:=bN HG.out nq
       try rw[<-hWe]
       rw[<-hWe]at hWr hWg;clear HRD HG hWe;have HRD:=aa hWr;have HG:=aa hWg;have c0:=hWr.c0;have c1:=hWr.c1;have f1:=hWr.free 1;clear hWr hWg;have hcl2:W.cell? ⟨bk,ok+o,none⟩=some (.int .u8 (b.toNat:Int)):=by
        obtain⟨a2,cap2,hv2,_,_,hcell⟩:=HRD.out.shape
        cases hv2
        obtain⟨bk,ok,e,hbk,hcl⟩:=hcell o b HBB.out
        cases e
        exact hcl
       clear hcl
       go_quiet (fail)
       go_wp2_with fail
       all_goals (
        go_ret2
        have h1:=(HRD.out.draws nq).set1 (o+1) (by omega);refine⟨o+1,h1,aN (bN HG.out nq) (aB _ _ _ _), ?_⟩;rw[fU,HN.out];rw[uh HBB.out h128 HBD.out]
        try rfl)
   ·obtain rfl:o=data.length:=by omega
    go_wp2_with fail
    go_quiet (fail)
    go_wp2_with fail
    go_ret2
    exact⟨data.length,HRD.out.draws nq,bN HG.out nq,by rw[fU,HN.out,Bm (Nat.le_refl _)]; rfl⟩
  ·obtain rfl:k=10:=by omega
   go_wp2_with fail
   go_ret2
   exact⟨o,HRD.out,HG.out,by rw[fU,HN.out]; rfl⟩
def fi (data:List UInt8) (off most:Nat):Except Int (Nat×Nat):=match fU data off with
 | .error x=> .error x
 | .ok (n,o)=>if most<n then .error 2 else .ok (n,o)
theorem gm {data:List UInt8} {off most n o':Nat} (h:fi data off most= .ok (n,o')):n<=most/\off<o'/\o'<=data.length:=by
 unfold fi at h
 cases hn:fU data off with
 | error x=>rw[hn]at h; simp at h
 | ok p=>
  obtain⟨m,o⟩:=p;rw[hn]at h;simp only at h
  split at h
  ·simp at h
  ·simp only[Except.ok.injEq,Prod.mk.injEq]at h;obtain⟨rfl,rfl⟩:=h;have:=mm hn;omega
theorem ud {data:List UInt8} {off most:Nat} {x:Int} (h:fi data off most= .error x):x=3\/x=2:=by
 unfold fi at h
 split at h
 ·rename_i y hy;simp only[Except.error.injEq]at h;exact .inl (h▸oQ hy)
 ·split at h
  ·simp only[Except.error.injEq]at h; exact .inr h.symm
  ·simp at h
theorem mY (rb:Nat) (v:Value) (data:List UInt8) (off last most:Nat) (err:Int) (w:World) (hr:aQ w rb v data off last err) (hm:most<=2000000):
  Calls Tryz.prog 86 #[.pointer (some ⟨rb,0,none⟩), .int .i64 (most:Int)] w (Cq .i64 w rb v data last err (fi data off most)):=by
 have HR:=aa hr;clear hr
 go_enter Tryz.func86,Tryz.ntmps86
 go_wp2_with fail;refine(oR rb v data off last err w HR.out).mono ?_;rintro e w1 ⟨o',hr1,hg1,hres⟩;have HR1:=aa hr1;have HG1:=aa hg1;clear hr1 hg1
 cases hn:fU data off with
 | error x=>
  have hx:x=3:=oQ hn;subst hx;have HL:=aa (show fi data off most= .error 3 by unfold fi; rw[hn]);rw[hn]at hres;simp only at hres;subst hres;clear hn;go_wp2_with fail
  go_ret2
  exact⟨o',HR1.out,HG1.out,by rw[HL.out]; rfl⟩
 | ok p=>
  obtain⟨n,o⟩:=p;have hsp:=mm hn;have HN:=aa hn;rw[hn]at hres;simp only at hres;obtain⟨rfl,rfl⟩:=hres;clear hn;have hmax:max (most:Int) 0=(most:Int):=by omega
  by_cases hlt:most<n
  ·have HL:=aa (show fi data off most= .error 2 by unfold fi; rw[HN.out]; simp only[if_pos hlt]);go_wp2_with fail
   go_ret2
   exact⟨o',HR1.out,HG1.out,by rw[HL.out]; rfl⟩
  ·have HL:=aa (show fi data off most= .ok (n,o') by unfold fi; rw[HN.out]; simp only[if_neg hlt]);go_wp2_with fail
   go_ret2
   exact⟨o',HR1.out,HG1.out,by rw[HL.out]; exact⟨rfl,rfl⟩⟩
def dH (data:List UInt8) (off n:Nat):Except Int (List UInt8×Nat):=if data.length-off<n then .error 3 else .ok ((data.drop off).take n,off+n)
def dy (data:List UInt8) (off most:Nat):Except Int (List UInt8×Nat):=match fi data off most with
 | .error x=> .error x
 | .ok (n,o)=>dH data o n
def xf (w:World) (rb:Nat) (v:Value) (bs:List UInt8):Prop:= ∃bk o c,v= .slice (some ⟨bk,o,none⟩) bs.length c/\bs.length<=c/\bk≠rb/\ ∀(j:Nat) b,bs[j]? =some b->w.cell? ⟨bk,o+j,none⟩=some (aJ b)
def EC (w:World) (rb:Nat) (v:Value) (data:List UInt8) (last:Nat) (err:Int) (r:Except Int (List UInt8×Nat)) (e:Ending) (w':World):Prop:=
 ∃o',aQ w' rb v data o' last err/\w.grownBy w' (some rb)/\match r with
  | .ok (bs,o)=>(∃pv,e= .returned (.tuple #[pv, .int .i64 0])/\xf w' rb pv bs)/\o'=o
  | .error x=>e= .returned (.tuple #[.slice none 0 0, .int .i64 x])
theorem BZ {data:List UInt8} {off n j:Nat} {b:UInt8} (h:((data.drop off).take n)[j]? =some b):data[off+j]? =some b:=by
 rw[List.getElem?_take]at h
 split at h
 ·rw[List.getElem?_drop]at h; exact h
 ·simp at h
theorem uR (rb:Nat) (v:Value) (data:List UInt8) (off last n:Nat) (err:Int) (w:World) (hr:aQ w rb v data off last err) (hn:n<=2000000) (hpos:0<data.length\/0<n):
  Calls Tryz.prog 91 #[.pointer (some ⟨rb,0,none⟩), .int .i64 (n:Int)] w (EC w rb v data last err (dH data off n)):=by
 have HRD:=aa hr;have HG:=aa (kR w (some rb));obtain⟨a,cap,rfl,hc,hcm,hcell⟩:=hr.shape;unfold maxLen at hcm;have c0:=hr.c0;have c1:=hr.c1;have f1:=hr.free 1;have hle:=hr.le;have hsm:=hr.small
 by_cases hlt:data.length-off<n
 ·have HT:=aa (show dH data off n= .error 3 by unfold dH; rw[if_pos hlt]);clear hr hcell
  go_enter Tryz.func91,Tryz.ntmps91
  go_wp2_with fail
  go_quiet (fail)
  go_wp2_with fail
  go_ret2
  exact⟨off,HRD.out.draws nq,bN HG.out nq,by rw[HT.out]; rfl⟩
 ·have hdl:0<data.length:=by omega
  obtain⟨bk,ok,rfl,hbk,-⟩:=hcell 0 data[0] (by simp);have HT:=aa (show dH data off n= .ok ((data.drop off).take n,off+n) by unfold dH; rw[if_neg hlt]);have hlen:((data.drop off).take n).length=n:=by simp; omega
  have HLN:=aa hlen;clear hr hcell hlen
  by_cases hoc:off<cap
  ·go_enter Tryz.func91,Tryz.ntmps91
   go_wp2_with fail
   go_quiet (fail)
   go_wp2_with fail;clear c0 c1 f1;obtain⟨W,hWe⟩: ∃W,W=w.drewN nq:=⟨_,rfl⟩;have hWr:=HRD.out.draws nq;have hWg:=bN HG.out nq
   try rw[<-hWe]
   rw[<-hWe]at hWr hWg;clear HRD HG hWe;have HRD:=aa hWr;have HG:=aa hWg;have c0:=hWr.c0;have c1:=hWr.c1;have f1:=hWr.free 1;clear hWr hWg
   go_quiet (fail)
   go_wp2_with fail
   go_ret2
   have h1:=(HRD.out.draws nq).set1 (off+n) (by omega);rw[Int.natCast_add]at h1;refine⟨off+n,h1,aN (bN HG.out nq) (aB _ _ _ _), ?_⟩;rw[HT.out];refine⟨⟨_,rfl,bk,ok+off,cap-off, ?_, ?_,hbk,fun j b hj=> ?_⟩,rfl⟩
   ·rw[HLN.out]; show Value.slice _ (off+n-off) _=_; rw[Nat.add_sub_cancel_left]
   ·rw[HLN.out]; omega
   ·obtain⟨a2,cap2,hv2,_,_,hcell⟩:=h1.shape
    cases hv2
    obtain⟨bk2,ok2,e,hbk2,hcl⟩:=hcell (off+j) b (BZ hj)
    cases e
    rw[Nat.add_assoc]; exact hcl
  ·obtain rfl:off=cap:=by omega
   obtain rfl:n=0:=by omega
   go_enter Tryz.func91,Tryz.ntmps91
   go_wp2_with fail
   go_quiet (fail)
   go_wp2_with fail;clear c0 c1 f1;obtain⟨W,hWe⟩: ∃W,W=w.drewN nq:=⟨_,rfl⟩;have hWr:=HRD.out.draws nq;have hWg:=bN HG.out nq
   try rw[<-hWe]
   rw[<-hWe]at hWr hWg;clear HRD HG hWe;have HRD:=aa hWr;have HG:=aa hWg;have c0:=hWr.c0;have c1:=hWr.c1;have f1:=hWr.free 1;clear hWr hWg
   go_quiet (fail)
   go_wp2_with fail
   go_ret2
   have h1:=(HRD.out.draws nq).set1 off (by omega);refine⟨off,h1,aN (bN HG.out nq) (aB _ _ _ _), ?_⟩;rw[HT.out];exact⟨⟨_,rfl,bk,ok,0,by rw[HLN.out]; rfl,by rw[HLN.out]; exact Nat.le_refl _,hbk,fun j b hj=>by simp at hj⟩,rfl⟩
theorem yi (rb:Nat) (v:Value) (data:List UInt8) (off last most:Nat) (err:Int) (w:World) (hr:aQ w rb v data off last err) (hm:most<=2000000):
  Calls Tryz.prog 89 #[.pointer (some ⟨rb,0,none⟩), .int .i64 (most:Int)] w (EC w rb v data last err (dy data off most)):=by
 have HR:=aa hr;clear hr
 go_enter Tryz.func89,Tryz.ntmps89
 go_wp2_with fail;refine(mY rb v data off last most err w HR.out hm).mono ?_;rintro e w1 ⟨o',hr1,hg1,hres⟩;have HR1:=aa hr1;have HG1:=aa hg1;clear hr1 hg1
 cases hn:fi data off most with
 | error x=>
  have hx:x=3\/x=2:=ud hn;have HL:=aa (show dy data off most= .error x by unfold dy; rw[hn]);rw[hn]at hres;simp only at hres;subst hres;clear hn
  rcases hx with rfl | rfl
  ·go_wp2_with fail
   go_ret2
   exact⟨o',HR1.out,HG1.out,by rw[HL.out]; rfl⟩
  ·go_wp2_with fail
   go_ret2
   exact⟨o',HR1.out,HG1.out,by rw[HL.out]; rfl⟩
 | ok p=>
  obtain⟨n,o⟩:=p;have hsp:=gm hn;have HL:=aa (show dy data off most=dH data o n by unfold dy; rw[hn]);rw[hn]at hres;simp only at hres;obtain⟨rfl,rfl⟩:=hres;clear hn;go_wp2_with fail;refine(uR rb v data o' last n err w1 HR1.out (by omega) (.inl (by omega))).mono ?_;rintro e w2 ⟨o2,hr2,hg2,hres⟩;have HR2:=aa hr2;have HG2:=aa (aN HG1.out hg2)
  clear hr2 hg2
  cases ht:dH data o' n with
  | error x=>
   have HT:=aa ht;rw[ht]at hres;simp only at hres;subst hres;clear ht;go_wp2_with fail
   go_ret2
   exact⟨o2,HR2.out,HG2.out,by rw[HL.out,HT.out]; rfl⟩
  | ok p=>
   obtain⟨bs,o3⟩:=p;have HT:=aa ht;rw[ht]at hres;simp only at hres;obtain⟨⟨pv,rfl,hpv⟩,rfl⟩:=hres;have HP:=aa hpv;obtain⟨pb,po,pc,rfl,-,-,-⟩:=hpv;clear ht;go_wp2_with fail
   go_ret2
   exact⟨o2,HR2.out,HG2.out,by rw[HL.out,HT.out]; exact⟨⟨_,rfl,HP.out⟩,rfl⟩⟩
end Go.Proofs.YtnjkpcalgoefhaaGreatDoor
