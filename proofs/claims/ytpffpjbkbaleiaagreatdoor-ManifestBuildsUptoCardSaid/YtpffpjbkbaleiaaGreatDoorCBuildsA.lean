/- Texts of this proof, one after the other: Segs, ShaP, ShaA, ShaB, Base, Own, Seq, App, Held, WireA, WireB, WireC, WireD, Map, RefV, Plain, Libc. -/
import Derived.StillTailTactics
import Derived.WalkKit
import Derived.Test.YtpffpjbkbaleiaaGreatDoorRows
import Derived.WalkSpells
import Derived.WalkLawsBesides
import Derived.Lib.Hide
import Derived.WalkSmall
import Derived.Laws.Bits64b
import Derived.Laws.BitsAllLaws
import Derived.Deep.MidRow
import Derived.Test.YtpffpjbkbaleiaaGreatDoorCBuildsS
import Derived.Deep.QuietTactic
import Derived.BigQuiet
import Derived.Laws.OwnMore
import Derived.OrdersHeld
import Derived.Deep.RegionHeld
import Derived.Laws.BytesArg
import Derived.Defers
import Derived.Recover
import Derived.Maps.OwnSet
import Derived.Maps.OwnOps
import Derived.DeepKeys5
import Derived.Laws.StructEq
import Derived.Lib.ValidLaws
import Derived.Lib.TrimUEq
import Derived.Lib.MapLaws
import Derived.Lib.SplitLaws
import Derived.Lib.Join
import Derived.Lib.Small
import Derived.Laws.RangeAny
import Derived.Laws.CopyOwn
import Derived.Laws.Slices
import Derived.Lib.ConvBytes
import Derived.Lib.BufferWrite
import Derived.Deep.Cut
import Derived.Laws.Tables
import Derived.Laws.Rows
import Derived.Lib.AppendStr
import Derived.Lib.TrailingZeros
import Derived.Test.YtpffpjbkbaleiaaGreatDoorCtz
import Derived.RangeFuncNested
import Derived.RangeFuncLeaves
import Derived.RangeFuncGives
import Derived.RangeFuncBox
import Derived.Shelf.Abstract
import Derived.OwnWalkIn
import Derived.TacticsInMore
import Derived.LoopNIn
import Derived.LoopIn
import Derived.Maps.RangeWalk
import Derived.Shelf.Bytes.SlClone
import Derived.OrdersIn
import Derived.Lib.LazyBuf
import Derived.Laws.Cover4
import Derived.Lib.SmallJoins
import Derived.ProofKit
import Derived.Carry
import Derived.Lay
import Derived.PinnedBridge
import Derived.Lib.LaidU8T
import Derived.SevenTiedAt
import Derived.HandedShaped
import Derived.Shelf.Vars
import Derived.Test.YtpffpjbkbaleiaaGreatDoorTie
import Derived.Test.YtpffpjbkbaleiaaGreatDoorCards
import Derived.Deep.DeepHandedRow
set_option maxRecDepth 100000
set_option maxHeartbeats 8000000
namespace Go.Proofs.YtpffpjbkbaleiaaGreatDoor
open Go Go.RowKit
theorem aZ {α:Type} (l:List α) (i:Nat) (x:α):l.toArray.setIfInBounds i x=(l.set i x).toArray:=List.setIfInBounds_toArray ..
theorem bg {α:Type} (x:α) (l:List α) (i:Nat) (y:α):(x::l).set (i+1) y=x::l.set i y:=rfl
theorem bh {α:Type} (x:α) (l:List α) (y:α):(x::l).set 0 y=y::l:=rfl
theorem vN {α:Type} :(∀(x:α) (l:List α),(x::l)[0]? =some x)/\(∀(x:α) (l:List α) (i:Nat),(x::l)[i+1]? =l[i]?):=⟨fun _ _=>rfl,fun _ _ _=>rfl⟩
theorem cr {α:Type} :(∀(l:List α) (i:Nat),l.toArray[i]? =l[i]?)/\(∀(x:α) (l:List α) (i:Nat),(x::l)[i+1]? =l[i]?)/\(∀(x:α) (l:List α),(x::l)[0]? =some x):=⟨fun _ _=>List.getElem?_toArray ..,fun _ _ _=>rfl,fun _ _=>rfl⟩
structure HdS (p : Prop) : Prop where
  o:p
theorem HdS.out {p:Prop} (h:HdS p):p:=h.o
theorem aa {p:Prop} (h:p):HdS p:=⟨h⟩
def IJ (w:World) (b:Nat):Nat->List Value->Prop
  | _,[]=>True
  | k,x::l=>w.cell? ⟨b,k,none⟩=some x/\IJ w b (k+1) l
theorem aj {w:World} {b:Nat} {cs:Array Value} {t:TypeId} {z:Nat×Nat} (h:w.heap[b]? =some (.cells cs t z)):IJ w b 0 cs.toList:=by
  have: ∀(l:List Value) (k:Nat),(∀(j:Nat),cs.toList[k+j]? =l[j]?)->IJ w b k l:=by
    intro l
    induction l with
    | nil=>intro k _; trivial
    | cons x l ih=>
      intro k hk
      refine⟨?_,ih (k+1) (fun j=> ?_)⟩
      · have:=hk 0
        rw[Nat.add_zero,Array.getElem?_toList]at this
        simp[World.cell?,h,this]
      · have:=hk (j+1)
        rw[show k+1+j=k+(j+1) by omega,this]
        rfl
  exact this cs.toList 0 (fun j=>by rw[Nat.zero_add])
theorem br {w w':World} {b:Nat} {o:Obj} (hb:Below w.heap.size w w') (hx:w.heap[b]? =some o):w'.heap[b]? =some o:=(hb.block b (Array.getElem?_eq_some_iff.1 hx).1).trans hx
theorem bH {w:World} {o:Obj} :Below w.heap.size w (w.alloc o):=(Below.refl _ _).alloc (Nat.le_refl _) _
end Go.Proofs.YtpffpjbkbaleiaaGreatDoor
namespace Go.Proofs.YtpffpjbkbaleiaaGreatDoor
open Go
section
variable {P : Program} {ops : Array Oper} {md : Region.Mode} {w : World}
def yW (md:Region.Mode) (ops:Array Oper) (m:Nat):Bool:=
 ((List.range m).all fun i=>decide (ops.size<=m) || (List.range (m+1)).any fun j=>decide (i<j) && Region.waitsFor md ops j i) &&
 ((List.range ops.size).all fun t=>decide (t<=m) || (List.range t).any fun u=>decide (m<=u) && Region.waitsFor md ops t u)
theorem oq {m:Nat} {listed:Array Bool} (hc:yW md ops m=true) (inv:HeadInv md ops m listed):
  ∀(d i:Nat),m-i=d->i<m->listed.getD i true=false-> ∀t,m<=t->t∉Region.ready md ops listed:=by
 simp only[yW,Bool.and_eq_true]at hc;obtain⟨hs,hch⟩:=hc;intro d
 induction d using Nat.strongRecOn with
 | _ d ih=>
  intro i hd hi hun t ht hr;obtain⟨_,ot,hot,hall⟩:=mem_ready.1 hr;have htlt:t<ops.size:=(Array.getElem?_eq_some_iff.1 hot).1
  rcases Nat.lt_or_ge m t with htm | htm
  ·have h1:=List.all_eq_true.1 hch t (List.mem_range.2 htlt);simp only[Bool.or_eq_true,decide_eq_true_eq]at h1
   rcases h1 with h1 | h1
   ·omega
   ·obtain⟨u,hu,hu2⟩:=List.any_eq_true.1 h1;simp only[Bool.and_eq_true,decide_eq_true_eq]at hu2;obtain⟨o',ho',e,he,hb,hon⟩:=Region.waitsFor_spec hu2.2;have ho:o'=ot:=Option.some.inj (ho'.symm.trans hot);subst ho;have h2:=hall e he hb;rw[hon,getD_both (inv.tail u hu2.1 (by have:=List.mem_range.1 hu; omega))]at h2
    cases h2
  ·have htm':t=m:=by omega
   subst htm';have h1:=List.all_eq_true.1 hs i (List.mem_range.2 hi);simp only[Bool.or_eq_true,decide_eq_true_eq]at h1
   rcases h1 with h1 | h1
   ·omega
   ·obtain⟨j,hj,hj2⟩:=List.any_eq_true.1 h1;simp only[Bool.and_eq_true,decide_eq_true_eq]at hj2;obtain⟨oj,hoj,e,he,hb,hon⟩:=Region.waitsFor_spec hj2.2;have hjle:=List.mem_range.1 hj
    rcases Nat.lt_or_ge j t with hjt | hjt
    ·cases hl:listed.getD j false with
     | true=>
      have h2:=inv.closed j oj hoj hl e he hb;rw[hon,getD_both hun]at h2
      cases h2
     | false=>
      exact ih (t-j) (by omega) j rfl hjt (getD_in (by rw[inv.size]; omega) hl) t (Nat.le_refl _) hr
    ·have hjt':j=t:=by omega
     subst hjt';have ho:oj=ot:=Option.some.inj (hoj.symm.trans hot);subst ho;have h2:=hall e he hb;rw[hon,getD_both hun]at h2
     cases h2
theorem DD {m i:Nat} {oi:Oper} {v:Value} {L:Array Bool->Act->Prop} (hi:ops[i]? =some oi) (hsel: ∀(j:Nat) (o:Oper) cs b,ops[j]? =some o->o.op≠ .select cs b)
  (hc:yW md ops m=true) (hin:i<m) (hdone: ∀listed a,L listed a-> ∀j∈Region.ready md ops listed,m<=j):
  ∀(f:Nat) (listed:Array Bool) (a:Act),HeadInv md ops m listed->
   (∀j oj,ops[j]? =some oj->j≠i->listed.getD j true=false->(∀e∈oj.after,Region.binds md e=true->e.on≠i)->oi.apart ops oj=true)->
   i∈Region.ready md ops listed->YieldsAt P ops w oi v a->
   wpAnyL P md ops w m L f (listed.setIfInBounds i true) (a.put oi.dst v)->wpAnyL P md ops w m L (f+1) listed a:=by
 intro f
 induction f with
 | zero=>
  intro listed a inv _ hr hy H;have hun:=(mem_ready.1 hr).1;refine⟨List.ne_nil_of_mem hr,fun j hj=> ?_⟩;have hjm:j<m:=Nat.lt_of_not_le fun h=>oq hc inv _ i rfl hin hun j h hj
  refine⟨hjm, ?_⟩
  by_cases hji:j=i
  ·subst hji; exact hy.stOp hi H
  ·have:=hdone _ _ H j (ready_mono hj hji);omega
 | succ f ih=>
  intro listed a inv hfree hr hy H;have hun:=(mem_ready.1 hr).1;refine⟨List.ne_nil_of_mem hr,fun j hj=> ?_⟩;have hjm:j<m:=Nat.lt_of_not_le fun h=>oq hc inv _ i rfl hin hun j h hj
  refine⟨hjm, ?_⟩
  by_cases hji:j=i
  ·subst hji; exact hy.stOp hi H
  ·have h1:=(H.2 j (ready_mono hj hji)).2;obtain⟨hjun,oj,hoj,hall⟩:=mem_ready.1 hj;have hnot: ∀e∈oj.after,Region.binds md e=true->e.on≠i:=fun e he hb heq=>by
    have h1:=hall e he hb;rw[heq,getD_both hun]at h1
    cases h1
   have h2:=stOp_put hoj (hfree j oj hoj hji hjun hnot) (fun cs b=>hsel i oi cs b hi) (fun cs b=>hsel j oj cs b hoj) hy h1;refine stOp_mono (fun a' h3=>ih (listed.setIfInBounds j true) a' (inv.set hj hjm) (fun k ok hk hki hunk hno=> ?_) (ready_mono hr (Ne.symm hji)) h3.1 ?_) h2
   ·refine hfree k ok hk hki ?_ hno
    by_cases hjk:j=k
    ·subst hjk; exact hjun
    ·rw[getD_set_ne true hjk]at hunk; exact hunk
   ·rw[Array.setIfInBounds_comm _ _ hji];exact h3.2
def uU :Nat->Nat->Array Bool->Array Bool
 | 0,_,listed=>listed
 | n+1,k,listed=>uU n (k+1) (listed.setIfInBounds k true)
def Ip (md:Region.Mode) (ops:Array Oper):Nat->Nat->Array Bool->Bool
 | 0,k,listed=>(Region.ready md ops listed).all fun j=>decide (k<=j)
 | n+1,k,listed=>(Region.ready md ops listed).contains k && Region.free md ops listed k && Ip md ops n (k+1) (listed.setIfInBounds k true)
theorem BM {m:Nat} {Lq:Act->Prop} (hsel:Region.noSelect ops=true) (hc:yW md ops m=true) (LM:Array Bool):
  ∀(l:List Oper) (k:Nat) (listed:Array Bool) (a:Act),(∀j,j<l.length->l[j]? =ops[k+j]?)->k+l.length=m->HeadInv md ops m listed->
  Ip md ops l.length k listed=true->uU l.length k listed=LM->wpStill P ops w Lq l a->
  wpAnyL P md ops w m (fun listed' a'=>listed'=LM/\Lq a') l.length listed a/\ ∀j∈Region.ready md ops LM,m<=j
 | [],k,listed,a,_,hk,_,hB,hL,h=>by
  have hkm:k=m:=by simpa using hk
  subst hkm;have hLM:listed=LM:=hL;subst hLM;refine⟨⟨rfl,h⟩,fun j hj=> ?_⟩;have:=List.all_eq_true.1 hB j hj
  simpa using this
 | o::l,k,listed,a,hl,hk,inv,hB,hL,h=>by
  have h0:ops[k]? =some o:=by simpa using (hl 0 (by simp)).symm
  simp only[List.length_cons,Ip,Bool.and_eq_true]at hB;obtain⟨⟨hr,hf⟩,hB'⟩:=hB;have hkm:k<m:=by simp only[List.length_cons]at hk; omega
  have hr':k∈Region.ready md ops listed:=by simpa using hr
  have hst:stOp P ops w k (wpStill P ops w Lq l) a:=by unfold stOp; simp only[h0]; exact h
  obtain⟨v,hy,hK⟩:=yieldsAt_of_stOp h0 hst;have IH:=BM hsel hc LM l (k+1) _ _ (fun j hj=>by have:=hl (j+1) (by simp; omega); simpa [Nat.add_assoc,Nat.add_comm 1 j]using this) (by simp only[List.length_cons]at hk; omega) (inv.set hr' hkm) hB' hL hK;refine⟨DD h0 (Region.noSelect_spec hsel) hc hkm (fun listed' a' hL'=> ?_) l.length listed a inv (Region.free_spec h0 hf) hr' hy IH.1,IH.2⟩
  rw[hL'.1]; exact IH.2
def EY (md:Region.Mode) (ops:Array Oper) (m:Nat) (listed:Array Bool):Bool:=
 decide (listed.size=ops.size) &&
 ((List.range ops.size).all fun j=> !listed.getD j false || match ops[j]? with | some oj=>oj.after.all (fun e=> !Region.binds md e || listed.getD e.on false) | none=>true) &&
 ((List.range ops.size).all fun t=>decide (t<m) || !listed.getD t true)
theorem zn {m:Nat} {listed:Array Bool} (h:EY md ops m listed=true):HeadInv md ops m listed:=by
 simp only[EY,Bool.and_eq_true,decide_eq_true_eq]at h;obtain⟨⟨h1,h2⟩,h3⟩:=h;refine⟨h1,fun j oj hj hl e he hb=> ?_,fun t ht ht2=> ?_⟩
 ·have:=List.all_eq_true.1 h2 j (List.mem_range.2 (Array.getElem?_eq_some_iff.1 hj).1);rw[hl,hj]at this;simp only[Bool.not_true,Bool.false_or]at this;have:=Array.all_eq_true'.1 this e he;rw[hb]at this
  simpa using this
 ·have:=List.all_eq_true.1 h3 t (List.mem_range.2 ht2);simp only[Bool.or_eq_true,decide_eq_true_eq]at this
  rcases this with h | h
  ·omega
  ·simpa using h
def rK (md:Region.Mode) (ops:Array Oper):List (Option Nat)->Nat->Array Bool->Bool
 | [],k,listed=>decide (k=ops.size) && (Region.ready md ops listed).isEmpty
 | some n::s,k,listed=>decide (k+n<=ops.size) && yW md ops (k+n) && EY md ops (k+n) listed && Ip md ops n k listed && rK md ops s (k+n) (uU n k listed)
 | none::s,k,listed=>decide (k<ops.size) && decide (Region.ready md ops listed=[k]) && rK md ops s (k+1) (listed.setIfInBounds k true)
@[irreducible] def vM (P:Program) (ops:Array Oper) (w:World) (Q:Act->Prop) (l:List Oper) (a:Act):Prop:=wpStill P ops w Q l a
theorem vM.out {Q:Act->Prop} {l:List Oper} {a:Act} (h:vM P ops w Q l a):wpStill P ops w Q l a:=by unfold vM at h; exact h
theorem vM.of {Q:Act->Prop} {l:List Oper} {a:Act} (h:wpStill P ops w Q l a):vM P ops w Q l a:=by unfold vM; exact h
@[irreducible] def sq (P:Program) (ops:Array Oper) (next:Act->World->Prop) (Q:Exit->Act->World->Prop) (l:List Oper) (a:Act) (w:World):Prop:=wpList P ops (Exit.then next Q) l a w
theorem sq.out {next:Act->World->Prop} {Q:Exit->Act->World->Prop} {l:List Oper} {a:Act} (h:sq P ops next Q l a w):wpList P ops (Exit.then next Q) l a w:=by unfold sq at h; exact h
theorem sq.of {next:Act->World->Prop} {Q:Exit->Act->World->Prop} {l:List Oper} {a:Act} (h:wpList P ops (Exit.then next Q) l a w):sq P ops next Q l a w:=by unfold sq; exact h
def bC (P:Program) (ops:Array Oper) (Q:Exit->Act->World->Prop):List (Option Nat)->List Oper->Act->World->Prop
 | [],_,a,w=>Q .normal a w
 | some n::s,l,a,w=>vM P ops w (fun a'=>bC P ops Q s (l.drop n) a' w) (l.take n) a
 | none::s,l,a,w=>sq P ops (fun a' w'=>bC P ops Q s (l.drop 1) a' w') Q (l.take 1) a w
theorem jC {Q:Exit->Act->World->Prop} (hsel:Region.noSelect ops=true): ∀(s:List (Option Nat)) (l:List Oper) (k:Nat) (listed:Array Bool) (a:Act) (w:World),
  (∀j,l[j]? =ops[k+j]?)->rK md ops s k listed=true->bC P ops Q s l a w->wpAny P md ops Q (ops.size-k) listed a w
 | [],l,k,listed,a,w,hl,hB,h=>by
  simp only[rK,Bool.and_eq_true,decide_eq_true_eq]at hB;rw[hB.1,Nat.sub_self];exact⟨by simpa using hB.2,h⟩
 | some n::s,l,k,listed,a,w,hl,hB,h=>by
  simp only[rK,Bool.and_eq_true,decide_eq_true_eq]at hB;obtain⟨⟨⟨⟨hn,hc⟩,hh⟩,hs⟩,hB'⟩:=hB;have hll:l.length=ops.size-k:=by
   have h1: ∀j,j<l.length<->k+j<ops.size:=fun j=>by
    constructor
    ·intro hj; have:=hl j; rw[List.getElem?_eq_getElem hj]at this; exact(Array.getElem?_eq_some_iff.1 this.symm).1
    ·intro hj; have:=hl j; rw[Array.getElem?_eq_getElem hj]at this; exact(List.getElem?_eq_some_iff.1 this).1
   rcases Nat.lt_trichotomy l.length (ops.size-k)with h2 | h2 | h2
   ·have:=(h1 l.length).2 (by omega); omega
   ·exact h2
   ·have:=(h1 (ops.size-k)).1 h2; omega
  have htl:(l.take n).length=n:=by simp; omega
  have H:=BM (P:=P) (md:=md) (w:=w) hsel hc (uU n k listed) (l.take n) k listed a (fun j hj=>by
   rw[htl]at hj;rw[List.getElem?_take,if_pos hj]; exact hl j) (by rw[htl]) (zn hh) (by rw[htl]; exact hs) (by rw[htl]) (vM.out h)
  have:=wpAny_of_head (Q':=Q) (g:=ops.size-(k+n)) (fun listed' a' hL=>by
   rw[hL.1];exact jC hsel s (l.drop n) (k+n) _ a' w (fun j=>by rw[List.getElem?_drop,hl,Nat.add_assoc]) hB' hL.2) _ _ _ H.1
  rw[htl,show n+(ops.size-(k+n))=ops.size-k by omega]at this;exact this
 | none::s,l,k,listed,a,w,hl,hB,h=>by
  simp only[rK,Bool.and_eq_true,decide_eq_true_eq]at hB;obtain⟨⟨hk,hr⟩,hB'⟩:=hB;obtain⟨o,ho⟩: ∃o,ops[k]? =some o:=⟨ops[k],by simp[hk]⟩;have h0:l[0]? =some o:=by rw[hl]; exact ho
  obtain⟨l',rfl⟩: ∃l',l=o::l':=by
   cases l with
   | nil=>simp at h0
   | cons x y=>simp at h0; exact⟨y,by rw[h0]⟩
  rw[show ops.size-k=(ops.size-(k+1))+1 by omega];refine⟨fun h1=>(by rw[hr]at h1; cases h1),fun i hi=> ?_⟩;rw[hr]at hi;have hik:i=k:=by simpa using hi
  subst hik;have hw:wpOp P ops Q i (fun a' w'=>bC P ops Q s l' a' w') a w:=by
   unfold wpOp;simp only[ho];exact sq.out h
  exact wpOp_mono (fun a' w' h'=>jC hsel s l' (i+1) _ a' w' (fun j=>by have:=hl (j+1); simpa [Nat.add_assoc,Nat.add_comm 1 j]using this) hB' h') hw
theorem az {id:Nat} {Q:Exit->Act->World->Prop} {a:Act} {w:World} {l:List Oper} (s:List (Option Nat)) (hm:P.follows .mixedOrders=true) (hsel:Region.noSelect l.toArray=true)
  (hB:rK .any l.toArray s 0 (Array.replicate l.toArray.size false)=true) (h:bC P l.toArray Q s l a w.drew):(Code.region id l.toArray true).wp P Q a w:=by
 refine wp_region_any hm ?_;have:=jC (md:= .any) (P:=P) (Q:=Q) hsel s l 0 _ a w.drew (by simp) hB h
 simpa using this
theorem aR {Q:Act->Prop} {a:Act} (h:Q a):vM P ops w Q [] a:=vM.of h
theorem aK {Q:Act->Prop} {a:Act} {o:Oper} {rest:List Oper} (hw:Region.wanted o (yielded ops a.tmps)=false) (h:vM P ops w Q rest (a.put o.dst undef)):vM P ops w Q (o::rest) a:=by
 refine vM.of ?_;unfold wpStill; rw[hw]; exact h.out
theorem aS {Q:Act->Prop} {a:Act} {dst:Option Tmp} {op:Op} {ty:TypeId} {pos:String} {aft:Array Edge} {g:Option (Nat×Bool)} {rest:List Oper} (hw:Region.wanted ⟨dst,op,ty,pos,aft,g⟩ (yielded ops a.tmps)=true)
  (h: ∀K:Act->Prop,(∀a,vM P ops w Q rest a->K a)->Oper.still P ⟨dst,op,ty,pos, #[],none⟩ a w K):vM P ops w Q (⟨dst,op,ty,pos,aft,g⟩::rest) a:=by
 refine vM.of ?_;unfold wpStill; rw[hw]; exact h _ (fun _ h=>h.out)
theorem qg {Q:Exit->Act->World->Prop} {next:Act->World->Prop} {a:Act} {o:Oper} (hw:Region.wanted o (yielded ops a.tmps)=false) (h:next (a.put o.dst undef) w):sq P ops next Q [o] a w:=by
 refine sq.of ?_;unfold wpList; rw[hw]; exact h
theorem bJ {Q:Exit->Act->World->Prop} {next:Act->World->Prop} {a:Act} {dst:Option Tmp} {op:Op} {ty:TypeId} {pos:String} {aft:Array Edge} {g:Option (Nat×Bool)} (hw:Region.wanted ⟨dst,op,ty,pos,aft,g⟩ (yielded ops a.tmps)=true)
  (h: ∀K:Act->World->Prop,(∀a w,next a w->K a w)->wpList P #[] (Exit.then K Q) [⟨dst,op,ty,pos, #[],none⟩] a w):sq P ops next Q [⟨dst,op,ty,pos,aft,g⟩] a w:=by
 refine sq.of ?_;have:=h _ (fun _ _ h=>h);unfold wpList at this ⊢;rw[hw];simp only[Region.wanted,if_true]at this;exact this
end
end Go.Proofs.YtpffpjbkbaleiaaGreatDoor
namespace Go.Proofs.YtpffpjbkbaleiaaGreatDoor
def cL (x s:Nat):Nat:=(x*2^s%4294967296) ||| (x/2^(32-s))
def DI (x:Nat):Nat:=(cL x 15^^^cL x 13)^^^(x/2^10)
def DH (x:Nat):Nat:=(cL x 25^^^cL x 14)^^^(x/2^3)
def ll (l:List Nat):Nat:=(((DI (l.getD (l.length-2) 0)+l.getD (l.length-7) 0)%4294967296+DH (l.getD (l.length-15) 0))%4294967296+l.getD (l.length-16) 0)%4294967296
def iQ :Nat->List Nat->List Nat
 | 0,l=>l
 | n+1,l=>iQ n (l++[ll l])
def yC (a b c d:UInt8):Nat:=(((a.toNat*2^24%4294967296) ||| (b.toNat*2^16%4294967296)) ||| (c.toNat*2^8%4294967296)) ||| d.toNat
def uH (b:List UInt8) (t:Nat):Nat:=yC (b.getD (4*t) 0) (b.getD (4*t+1) 0) (b.getD (4*t+2) 0) (b.getD (4*t+3) 0)
def kC (b:List UInt8) (n:Nat):List Nat:=(List.range n).map (uH b)
structure V8 where
 a:Nat
 b:Nat
 c:Nat
 d:Nat
 e:Nat
 f:Nat
 g:Nat
 h:Nat
def kc :List Nat:=[0x428a2f98,0x71374491,0xb5c0fbcf,0xe9b5dba5,0x3956c25b,0x59f111f1,0x923f82a4,0xab1c5ed5,
 0xd807aa98,0x12835b01,0x243185be,0x550c7dc3,0x72be5d74,0x80deb1fe,0x9bdc06a7,0xc19bf174,
 0xe49b69c1,0xefbe4786,0x0fc19dc6,0x240ca1cc,0x2de92c6f,0x4a7484aa,0x5cb0a9dc,0x76f988da,
 0x983e5152,0xa831c66d,0xb00327c8,0xbf597fc7,0xc6e00bf3,0xd5a79147,0x06ca6351,0x14292967,
 0x27b70a85,0x2e1b2138,0x4d2c6dfc,0x53380d13,0x650a7354,0x766a0abb,0x81c2c92e,0x92722c85,
 0xa2bfe8a1,0xa81a664b,0xc24b8b70,0xc76c51a3,0xd192e819,0xd6990624,0xf40e3585,0x106aa070,
 0x19a4c116,0x1e376c08,0x2748774c,0x34b0bcb5,0x391c0cb3,0x4ed8aa4a,0x5b9cca4f,0x682e6ff3,
 0x748f82ee,0x78a5636f,0x84c87814,0x8cc70208,0x90befffa,0xa4506ceb,0xbef9a3f7,0xc67178f2]
def Gm (v:V8) (k w:Nat):Nat:=((((v.h+((cL v.e 26^^^cL v.e 21)^^^cL v.e 7))%4294967296+((v.e &&& v.f)^^^((4294967295-v.e) &&& v.g)))%4294967296+k)%4294967296+w)%4294967296
def t2P (v:V8):Nat:=(((cL v.a 30^^^cL v.a 19)^^^cL v.a 10)+(((v.a &&& v.b)^^^(v.a &&& v.c))^^^(v.b &&& v.c)))%4294967296
def Ab (v:V8) (k w:Nat):V8:=⟨(Gm v k w+t2P v)%4294967296,v.a,v.b,v.c,(v.d+Gm v k w)%4294967296,v.e,v.f,v.g⟩
def nN (l:List (Nat×Nat)) (v:V8):V8:=l.foldl (fun v p=>Ab v p.1 p.2) v
def oa (x y:Nat):Nat:=(x+y)%4294967296
def uS (v u:V8):V8:=⟨oa v.a u.a,oa v.b u.b,oa v.c u.c,oa v.d u.d,oa v.e u.e,oa v.f u.f,oa v.g u.g,oa v.h u.h⟩
def wsP (b:List UInt8):List Nat:=iQ 48 (kC b 16)
def mu (v:V8) (b:List UInt8):V8:=uS v (nN (kc.zip (wsP b)) v)
def kA :V8:=⟨0x6a09e667,0xbb67ae85,0x3c6ef372,0xa54ff53a,0x510e527f,0x9b05688c,0x1f83d9ab,0x5be0cd19⟩
def er (l:List UInt8):Nat->V8
 | 0=>kA
 | k+1=>mu (er l k) ((l.drop (64*k)).take 64)
def uT (x:Nat):List UInt8:=[UInt8.ofNat (x/2^24),UInt8.ofNat (x/2^16),UInt8.ofNat (x/2^8),UInt8.ofNat x]
def iB (x:Nat):List UInt8:=[UInt8.ofNat (x/2^56),UInt8.ofNat (x/2^48),UInt8.ofNat (x/2^40),UInt8.ofNat (x/2^32),UInt8.ofNat (x/2^24),UInt8.ofNat (x/2^16),UInt8.ofNat (x/2^8),UInt8.ofNat x]
def dl (n:Nat):Nat:=(119-n%64)%64
def jO (n:Nat):List UInt8:=128::List.replicate (dl n) 0++iB (n*8%18446744073709551616)
def V8.list (v:V8):List Nat:=[v.a,v.b,v.c,v.d,v.e,v.f,v.g,v.h]
def V8.out (v:V8):List UInt8:=v.list.flatMap uT
def kw (l:List UInt8):List UInt8:=(er (l++jO l.length) ((l++jO l.length).length/64)).out
def dr (k:List UInt8):List UInt8:=(if 64<k.length then kw k else k)++List.replicate (64-(if 64<k.length then kw k else k).length) 0
def sR (k l:List UInt8):List UInt8:=kw ((dr k).map (fun x=>x^^^0x5c)++kw ((dr k).map (fun x=>x^^^0x36)++l))
theorem ko {x y:Nat} (hx:x<4294967296) (hy:y<4294967296):x ||| y<4294967296:=Nat.or_lt_two_pow (n:=32) hx hy
theorem lF {x y:Nat} (hx:x<4294967296) (hy:y<4294967296):x^^^y<4294967296:=Nat.xor_lt_two_pow (n:=32) hx hy
theorem iA {x:Nat} (y:Nat) (hx:x<4294967296):x &&& y<4294967296:=Nat.lt_of_le_of_lt Nat.and_le_left hx
theorem dA {x:Nat} (s:Nat) (hx:x<4294967296):cL x s<4294967296:=ko (Nat.mod_lt _ (by decide)) (Nat.lt_of_le_of_lt (Nat.div_le_self _ _) hx)
theorem Fk (l:List Nat):ll l<4294967296:=Nat.mod_lt _ (by decide)
theorem AZ {x:Nat} (b:UInt8) (h:x=b.toNat):x<4294967296:=by have:=b.toNat_lt; omega
theorem Gh (a b c d:UInt8):yC a b c d<4294967296:=ko (ko (ko (Nat.mod_lt _ (by decide)) (Nat.mod_lt _ (by decide))) (Nat.mod_lt _ (by decide))) (AZ _ rfl)
theorem Gi (b:List UInt8) (t:Nat):uH b t<4294967296:=Gh _ _ _ _
def BU (l:List Nat):Prop:= ∀x∈l,x<4294967296
theorem BU.get {l:List Nat} (h:BU l) (k:Nat):l.getD k 0<4294967296:=by
 rw[List.getD_eq_getElem?_getD]
 cases hk:l[k]? with
 | none=>simp
 | some x=>exact h x (List.mem_of_getElem? hk)
theorem sj (b:List UInt8) (n:Nat):(kC b n).length=n:=by simp[kC]
theorem uI (b:List UInt8) (n:Nat):BU (kC b n):=by
 intro x hx;obtain⟨t,_,rfl⟩:=List.mem_map.1 hx;exact Gi b t
theorem yD (b:List UInt8) (n:Nat):kC b (n+1)=kC b n++[uH b n]:=by simp[kC,List.range_succ]
theorem py : ∀(n:Nat) (l:List Nat),iQ (n+1) l=iQ n l++[ll (iQ n l)]
 | 0,_=>rfl
 | n+1,l=>by rw[iQ,py n (l++[ll l])]; rfl
theorem rJ : ∀(n:Nat) (l:List Nat),(iQ n l).length=l.length+n
 | 0,_=>rfl
 | n+1,l=>by rw[iQ,rJ n]; simp; omega
theorem uq : ∀(n:Nat) {l:List Nat},BU l->BU (iQ n l)
 | 0,_,h=>h
 | n+1,l,h=>by
  rw[iQ];refine uq n (fun x hx=> ?_)
  rcases List.mem_append.1 hx with hx | hx
  ·exact h x hx
  ·rw[List.mem_singleton.1 hx]; exact Fk l
def mY (b:List UInt8) (t:Nat):List Nat:=if t<=16 then kC b t else iQ (t-16) (kC b 16)
theorem jq (b:List UInt8) (t:Nat):(mY b t).length=t:=by
 unfold mY; split
 ·exact sj b t
 ·rw[rJ,sj]; omega
theorem vJ (b:List UInt8) (t:Nat):BU (mY b t):=by
 unfold mY; split
 ·exact uI b t
 ·exact uq _ (uI b 16)
theorem BQ (b:List UInt8) {t:Nat} (h:t<16):mY b (t+1)=mY b t++[uH b t]:=by
 unfold mY; rw[if_pos (by omega),if_pos (by omega),yD]
theorem yB (b:List UInt8) {t:Nat} (h:16<=t):mY b (t+1)=mY b t++[ll (mY b t)]:=by
 unfold mY; rw[if_neg (by omega)]
 by_cases ht:t=16
 ·subst ht; rw[if_pos (by decide)]; rfl
 ·rw[if_neg (by omega),show t+1-16=(t-16)+1 by omega,py]
theorem vI (b:List UInt8):mY b 64=wsP b:=by unfold mY wsP; rw[if_neg (by decide)]
theorem BR (b:List UInt8):(wsP b).length=64:=by rw[<-vI]; exact jq b 64
theorem vp :kc.length=64:=rfl
structure V8.Ok (v : V8) : Prop where
 a:v.a<4294967296
 b:v.b<4294967296
 c:v.c<4294967296
 d:v.d<4294967296
 e:v.e<4294967296
 f:v.f<4294967296
 g:v.g<4294967296
 h:v.h<4294967296
theorem Im {v:V8} (h:v.Ok) (k w:Nat):(Ab v k w).Ok:=⟨Nat.mod_lt _ (by decide),h.a,h.b,h.c,Nat.mod_lt _ (by decide),h.e,h.f,h.g⟩
theorem FF (l:List (Nat×Nat)): ∀ {v:V8},v.Ok->(nN l v).Ok:=by
 induction l with
 | nil=>intro v h; exact h
 | cons p l ih=>
  intro v h;unfold nN at ih ⊢;rw[List.foldl_cons];exact ih (Im h p.1 p.2)
theorem Ac (l:List (Nat×Nat)) (p:Nat×Nat) (v:V8):nN (l++[p]) v=Ab (nN l v) p.1 p.2:=by
 unfold nN; rw[List.foldl_append,List.foldl_cons,List.foldl_nil]
theorem GC (v u:V8):(uS v u).Ok:=by constructor<;> exact Nat.mod_lt _ (by decide)
theorem DT :kA.Ok:=by constructor<;> decide
theorem Fz (v:V8) (b:List UInt8):(mu v b).Ok:=GC _ _
theorem ni (l:List UInt8): ∀k,(er l k).Ok
 | 0=>DT
 | _+1=>Fz _ _
def rTo (b:List UInt8) (v:V8) (t:Nat):V8:=nN ((kc.zip (wsP b)).take t) v
theorem zW (b:List UInt8) {v:V8} (t:Nat) (h:v.Ok):(rTo b v t).Ok:=FF _ h
theorem getD_some {l:List Nat} {t:Nat} (h:t<l.length):l[t]? =some (l.getD t 0):=by simp[List.getD_eq_getElem?_getD,h]
theorem Gl {x y:List Nat} {t:Nat} (h1:t<x.length) (h2:t<y.length):(x.zip y)[t]? =some (x.getD t 0,y.getD t 0):=by
 rw[List.getElem?_zip_eq_some];exact⟨getD_some h1,getD_some h2⟩
theorem Dn {x y:List Nat} (v:V8) {t:Nat} (h1:t<x.length) (h2:t<y.length):nN ((x.zip y).take (t+1)) v=Ab (nN ((x.zip y).take t) v) (x.getD t 0) (y.getD t 0):=by
 rw[List.take_add_one,Gl h1 h2,Option.toList_some,Ac]
theorem xP (b:List UInt8) (v:V8) {t:Nat} (h:t<64):rTo b v (t+1)=Ab (rTo b v t) (kc.getD t 0) ((wsP b).getD t 0):=
 Dn v (by rw[vp]; exact h) (by rw[BR]; exact h)
theorem xO (v:V8) (b:List UInt8):mu v b=uS v (rTo b v 64):=by
 unfold mu rTo; rw[List.take_of_length_le (by rw[List.length_zip,BR,vp]; decide)]
theorem nh {l:List UInt8} (r:List UInt8): ∀ {k:Nat},64*k<=l.length->er (l++r) k=er l k
 | 0,_=>rfl
 | k+1,h=>by
  rw[er,er,nh r (k:=k) (by omega)]
  congr 1
  rw[List.drop_append_of_le_length (by omega),List.take_append_of_le_length (by rw[List.length_drop]; omega)]
theorem AY (x:Nat):(uT x).length=4:=rfl
theorem BB (v:V8):v.out.length=32:=by simp[V8.out,V8.list,uT]
theorem nS (l:List UInt8):(kw l).length=32:=by unfold kw; exact BB _
theorem yt (k l:List UInt8):(sR k l).length=32:=by unfold sR; exact nS _
theorem rr (n:Nat):(jO n).length=1+dl n+8:=by unfold jO iB; simp; omega
theorem Dc (l:List UInt8):(l++jO l.length).length%64=0:=by rw[List.length_append,rr]; unfold dl; omega
theorem dK (k:List UInt8):(dr k).length=64:=by
 unfold dr; rw[List.length_append,List.length_replicate]
 by_cases h:64<k.length
 ·rw[if_pos h,nS]
 ·rw[if_neg h]; omega
open Go Go.RowKit
def bY (x:Nat):Value:= .int .u32 (x:Int)
theorem eB {x a b:Nat} {s:Nat} (ha:2^s=a) (hb:2^(32-s)=b) (hx:x<4294967296):bits .or .u32 ((x:Int)*(a:Int)%4294967296) ((x:Int)/(b:Int))=((cL x s:Nat):Int):=by
 rw[show((x:Int)*(a:Int)%4294967296)=((x*a%4294967296:Nat):Int) by simp,show((x:Int)/(b:Int))=((x/b:Nat):Int) by simp,
  u32_or_nat _ _ (Nat.mod_lt _ (by decide)) (Nat.lt_of_le_of_lt (Nat.div_le_self _ _) hx)]
 unfold cL; rw[ha,hb]
theorem Dt (x:Nat) (w:World) (hx:x<4294967296):Calls Tryz.prog 198 #[.int .u32 (x:Int), .int .i64 (-17)] w fun e w'=>e= .returned (.int .u32 ((cL x 15:Nat):Int))/\w=w':=by
 have h1:bits BinOp.and IntKind.u64 (IntKind.u64.wrap (-17)) 31=15:=by decide+kernel
 go_enter Tryz.func198,Tryz.ntmps198
 go_wp2_with fail;go_ret;refine⟨?_,rfl⟩;rw[<-eB (a:=32768) (b:=131072) (by decide) (by decide) hx]
 rfl
theorem Dr (x:Nat) (w:World) (hx:x<4294967296):Calls Tryz.prog 198 #[.int .u32 (x:Int), .int .i64 (-19)] w fun e w'=>e= .returned (.int .u32 ((cL x 13:Nat):Int))/\w=w':=by
 have h1:bits BinOp.and IntKind.u64 (IntKind.u64.wrap (-19)) 31=13:=by decide+kernel
 go_enter Tryz.func198,Tryz.ntmps198
 go_wp2_with fail;go_ret;refine⟨?_,rfl⟩;rw[<-eB (a:=8192) (b:=524288) (by decide) (by decide) hx]
 rfl
theorem Dw (x:Nat) (w:World) (hx:x<4294967296):Calls Tryz.prog 198 #[.int .u32 (x:Int), .int .i64 (-7)] w fun e w'=>e= .returned (.int .u32 ((cL x 25:Nat):Int))/\w=w':=by
 have h1:bits BinOp.and IntKind.u64 (IntKind.u64.wrap (-7)) 31=25:=by decide+kernel
 go_enter Tryz.func198,Tryz.ntmps198
 go_wp2_with fail;go_ret;refine⟨?_,rfl⟩;rw[<-eB (a:=33554432) (b:=128) (by decide) (by decide) hx]
 rfl
theorem Ds (x:Nat) (w:World) (hx:x<4294967296):Calls Tryz.prog 198 #[.int .u32 (x:Int), .int .i64 (-18)] w fun e w'=>e= .returned (.int .u32 ((cL x 14:Nat):Int))/\w=w':=by
 have h1:bits BinOp.and IntKind.u64 (IntKind.u64.wrap (-18)) 31=14:=by decide+kernel
 go_enter Tryz.func198,Tryz.ntmps198
 go_wp2_with fail;go_ret;refine⟨?_,rfl⟩;rw[<-eB (a:=16384) (b:=262144) (by decide) (by decide) hx]
 rfl
theorem Dx (x:Nat) (w:World) (hx:x<4294967296):Calls Tryz.prog 198 #[.int .u32 (x:Int), .int .i64 (-6)] w fun e w'=>e= .returned (.int .u32 ((cL x 26:Nat):Int))/\w=w':=by
 have h1:bits BinOp.and IntKind.u64 (IntKind.u64.wrap (-6)) 31=26:=by decide+kernel
 go_enter Tryz.func198,Tryz.ntmps198
 go_wp2_with fail;go_ret;refine⟨?_,rfl⟩;rw[<-eB (a:=67108864) (b:=64) (by decide) (by decide) hx]
 rfl
theorem Dv (x:Nat) (w:World) (hx:x<4294967296):Calls Tryz.prog 198 #[.int .u32 (x:Int), .int .i64 (-11)] w fun e w'=>e= .returned (.int .u32 ((cL x 21:Nat):Int))/\w=w':=by
 have h1:bits BinOp.and IntKind.u64 (IntKind.u64.wrap (-11)) 31=21:=by decide+kernel
 go_enter Tryz.func198,Tryz.ntmps198
 go_wp2_with fail;go_ret;refine⟨?_,rfl⟩;rw[<-eB (a:=2097152) (b:=2048) (by decide) (by decide) hx]
 rfl
theorem FG (x:Nat) (w:World) (hx:x<4294967296):Calls Tryz.prog 198 #[.int .u32 (x:Int), .int .i64 (-25)] w fun e w'=>e= .returned (.int .u32 ((cL x 7:Nat):Int))/\w=w':=by
 have h1:bits BinOp.and IntKind.u64 (IntKind.u64.wrap (-25)) 31=7:=by decide+kernel
 go_enter Tryz.func198,Tryz.ntmps198
 go_wp2_with fail;go_ret;refine⟨?_,rfl⟩;rw[<-eB (a:=128) (b:=33554432) (by decide) (by decide) hx]
 rfl
theorem Dy (x:Nat) (w:World) (hx:x<4294967296):Calls Tryz.prog 198 #[.int .u32 (x:Int), .int .i64 (-2)] w fun e w'=>e= .returned (.int .u32 ((cL x 30:Nat):Int))/\w=w':=by
 have h1:bits BinOp.and IntKind.u64 (IntKind.u64.wrap (-2)) 31=30:=by decide+kernel
 go_enter Tryz.func198,Tryz.ntmps198
 go_wp2_with fail;go_ret;refine⟨?_,rfl⟩;rw[<-eB (a:=1073741824) (b:=4) (by decide) (by decide) hx]
 rfl
theorem Du (x:Nat) (w:World) (hx:x<4294967296):Calls Tryz.prog 198 #[.int .u32 (x:Int), .int .i64 (-13)] w fun e w'=>e= .returned (.int .u32 ((cL x 19:Nat):Int))/\w=w':=by
 have h1:bits BinOp.and IntKind.u64 (IntKind.u64.wrap (-13)) 31=19:=by decide+kernel
 go_enter Tryz.func198,Tryz.ntmps198
 go_wp2_with fail;go_ret;refine⟨?_,rfl⟩;rw[<-eB (a:=524288) (b:=8192) (by decide) (by decide) hx]
 rfl
theorem Dq (x:Nat) (w:World) (hx:x<4294967296):Calls Tryz.prog 198 #[.int .u32 (x:Int), .int .i64 (-22)] w fun e w'=>e= .returned (.int .u32 ((cL x 10:Nat):Int))/\w=w':=by
 have h1:bits BinOp.and IntKind.u64 (IntKind.u64.wrap (-22)) 31=10:=by decide+kernel
 go_enter Tryz.func198,Tryz.ntmps198
 go_wp2_with fail;go_ret;refine⟨?_,rfl⟩;rw[<-eB (a:=1024) (b:=4194304) (by decide) (by decide) hx]
 rfl
theorem CU {e:Nat} (h:e<4294967296):4294967295^^^e=4294967295-e:=by
 apply Nat.eq_of_testBit_eq
 intro i;rw[Nat.testBit_xor,show(4294967295:Nat)=2^32-1 by decide,Nat.testBit_two_pow_sub_one,show 2^32-1-e=2^32-(e+1) by omega,Nat.testBit_two_pow_sub_succ (by omega)]
 by_cases hi:i<32
 ·simp[hi]
 ·have:e.testBit i=false:=Nat.testBit_lt_two_pow (Nat.lt_of_lt_of_le h (Nat.pow_le_pow_right (by decide) (by omega):2^32<=2^i));simp[hi,this]
theorem JF {e:Nat} (h:e<4294967296):bits BinOp.xor IntKind.u32 (if IntKind.u32.signed=true then -1 else IntKind.u32.max) (e:Int)=((4294967295-e:Nat):Int):=by
 rw[show(if IntKind.u32.signed=true then(-1:Int)else IntKind.u32.max)=((4294967295:Nat):Int) by decide,u32_xor_nat _ _ (by decide) h,CU h]
def s1P (r:V8):Nat:=(cL r.e 26^^^cL r.e 21)^^^cL r.e 7
def chP (r:V8):Nat:=(r.e &&& r.f)^^^((4294967295-r.e) &&& r.g)
def s0P (r:V8):Nat:=(cL r.a 30^^^cL r.a 19)^^^cL r.a 10
def mjP (r:V8):Nat:=((r.a &&& r.b)^^^(r.a &&& r.c))^^^(r.b &&& r.c)
theorem BL {r:V8} (h:r.Ok):bits BinOp.xor IntKind.u32 (bits BinOp.xor IntKind.u32 ((cL r.e 26:Nat):Int) ((cL r.e 21:Nat):Int)) ((cL r.e 7:Nat):Int)=((s1P r:Nat):Int):=by
 rw[u32_xor_nat _ _ (dA _ h.e) (dA _ h.e),u32_xor_nat _ _ (lF (dA _ h.e) (dA _ h.e)) (dA _ h.e)]; rfl
theorem BK {r:V8} (h:r.Ok):bits BinOp.xor IntKind.u32 (bits BinOp.xor IntKind.u32 ((cL r.a 30:Nat):Int) ((cL r.a 19:Nat):Int)) ((cL r.a 10:Nat):Int)=((s0P r:Nat):Int):=by
 rw[u32_xor_nat _ _ (dA _ h.a) (dA _ h.a),u32_xor_nat _ _ (lF (dA _ h.a) (dA _ h.a)) (dA _ h.a)]; rfl
theorem Bb {r:V8} (h:r.Ok):bits BinOp.xor IntKind.u32 (bits BinOp.and IntKind.u32 (r.e:Int) (r.f:Int)) (bits BinOp.and IntKind.u32 (bits BinOp.xor IntKind.u32 (if IntKind.u32.signed=true then -1 else IntKind.u32.max) (r.e:Int)) (r.g:Int))=((chP r:Nat):Int):=by
 have h1:4294967295-r.e<4294967296:=by omega
 rw[JF h.e,u32_and_nat _ _ h.e h.f,u32_and_nat _ _ h1 h.g,u32_xor_nat _ _ (iA _ h.e) (iA _ h1)]; rfl
theorem Bw {r:V8} (h:r.Ok):bits BinOp.xor IntKind.u32 (bits BinOp.xor IntKind.u32 (bits BinOp.and IntKind.u32 (r.a:Int) (r.b:Int)) (bits BinOp.and IntKind.u32 (r.a:Int) (r.c:Int))) (bits BinOp.and IntKind.u32 (r.b:Int) (r.c:Int))=((mjP r:Nat):Int):=by
 rw[u32_and_nat _ _ h.a h.b,u32_and_nat _ _ h.a h.c,u32_and_nat _ _ h.b h.c,u32_xor_nat _ _ (iA _ h.a) (iA _ h.a),u32_xor_nat _ _ (lF (iA _ h.a) (iA _ h.a)) (iA _ h.b)]; rfl
theorem Au (r:V8) (k x:Nat):Gm r k x=(r.h+s1P r+chP r+k+x)%4294967296:=by unfold Gm s1P chP; omega
theorem FS (r:V8):t2P r=(s0P r+mjP r)%4294967296:=rfl
def gj (w:World):Prop:= ∀j x,kc[j]? =some x->w.cell? ⟨5,j,none⟩=some (bY x)
def u8W (b:UInt8):Value:= .int .u8 (b.toNat:Int)
structure eI (w : World) (bs : List UInt8) (t : Nat) (wr : World) : Prop where
 box:wr.heap[w.heap.size]? =some (.cells ((mY bs t).map bY++List.replicate (64-t) (bY 0)).toArray 252 (0,0))
 below:Below w.heap.size w wr
theorem eI.get {w wr:World} {bs:List UInt8} {t j:Nat} (h:eI w bs t wr) (hj:j<t):wr.cell? ⟨w.heap.size,j,none⟩=some (.int .u32 (((mY bs t).getD j 0:Nat):Int)):=by
 rw[cell_of_row wr _ j _ _ _ h.box];have h1:j<(mY bs t).length:=by rw[jq]; exact hj
 rw[List.getElem?_toArray,List.getElem?_append_left (by simpa using h1),List.getElem?_map,getD_some h1]; rfl
theorem eI.free {w wr:World} {bs:List UInt8} {t:Nat} (h:eI w bs t wr) (j:Nat):wr.frozen? ⟨w.heap.size,j,none⟩=false:=frozen_of_row wr _ j _ _ h.box
theorem eI.here {w wr:World} {bs:List UInt8} {t:Nat} (h:eI w bs t wr) (ht:t<64):wr.cell? ⟨w.heap.size,t,none⟩=some (.int .u32 0):=by
 rw[cell_of_row wr _ t _ _ _ h.box,List.getElem?_toArray,List.getElem?_append_right (by simp[jq])];rw[List.length_map,jq,Nat.sub_self,show 64-t=(64-(t+1))+1 by omega,List.replicate_succ]; rfl
theorem eI.put {w wr:World} {bs:List UInt8} {t x:Nat} (h:eI w bs t wr) (ht:t<64) (hx:mY bs (t+1)=mY bs t++[x]):eI w bs (t+1) (wr.setCell ⟨w.heap.size,t,none⟩ (.int .u32 (x:Int))):=by
 refine⟨?_, ?_⟩
 ·rw[heap_setCell_same wr _ t _ _ _ h.box,hx]
  congr 2
  rw[List.setIfInBounds_toArray,List.set_append_right _ _ (by simp[jq])];rw[List.map_append,List.append_assoc]
  congr 2
  rw[List.length_map,jq,Nat.sub_self,show 64-t=(64-(t+1))+1 by omega,List.replicate_succ]
  rfl
 ·exact h.below.trans ⟨rfl,rfl,rfl,by simp[World.setCell],fun k hk=>heap_setCell_other wr _ k _ (by show k≠w.heap.size; omega)⟩
theorem eI.start (w:World) (bs:List UInt8):eI w bs 0 (w.alloc (.cells (List.replicate 64 (bY 0)).toArray 252)):=
 ⟨by rw[heap_alloc_new]; rfl,bH⟩
theorem rZ (a b c d:UInt8):bits BinOp.or IntKind.u32 (bits BinOp.or IntKind.u32 (bits BinOp.or IntKind.u32 ((a.toNat:Int)%4294967296*16777216%4294967296) ((b.toNat:Int)%4294967296*65536%4294967296)) ((c.toNat:Int)%4294967296*256%4294967296)) ((d.toNat:Int)%4294967296)=((yC a b c d:Nat):Int):=by
 have ha:=a.toNat_lt;have hb:=b.toNat_lt;have hc:=c.toNat_lt;have hd:=d.toNat_lt;rw[show((a.toNat:Int)%4294967296*16777216%4294967296)=((a.toNat*2^24%4294967296:Nat):Int) by omega,show((b.toNat:Int)%4294967296*65536%4294967296)=((b.toNat*2^16%4294967296:Nat):Int) by omega,
  show((c.toNat:Int)%4294967296*256%4294967296)=((c.toNat*2^8%4294967296:Nat):Int) by omega,show((d.toNat:Int)%4294967296)=((d.toNat:Nat):Int) by omega,
  u32_or_nat _ _ (Nat.mod_lt _ (by decide)) (Nat.mod_lt _ (by decide)),u32_or_nat _ _ (ko (Nat.mod_lt _ (by decide)) (Nat.mod_lt _ (by decide))) (Nat.mod_lt _ (by decide)),
  u32_or_nat _ _ (ko (ko (Nat.mod_lt _ (by decide)) (Nat.mod_lt _ (by decide))) (Nat.mod_lt _ (by decide))) (AZ _ rfl)]
 rfl
theorem uv {x:Nat} (hx:x<4294967296):bits BinOp.xor IntKind.u32 (bits BinOp.xor IntKind.u32 ((cL x 15:Nat):Int) ((cL x 13:Nat):Int)) ((x:Int)/1024)=((DI x:Nat):Int):=by
 rw[show((x:Int)/1024)=((x/2^10:Nat):Int) by simp,u32_xor_nat _ _ (dA _ hx) (dA _ hx),u32_xor_nat _ _ (lF (dA _ hx) (dA _ hx)) (Nat.lt_of_le_of_lt (Nat.div_le_self _ _) hx)]
 rfl
theorem uu {x:Nat} (hx:x<4294967296):bits BinOp.xor IntKind.u32 (bits BinOp.xor IntKind.u32 ((cL x 25:Nat):Int) ((cL x 14:Nat):Int)) ((x:Int)/8)=((DH x:Nat):Int):=by
 rw[show((x:Int)/8)=((x/2^3:Nat):Int) by simp,u32_xor_nat _ _ (dA _ hx) (dA _ hx),u32_xor_nat _ _ (lF (dA _ hx) (dA _ hx)) (Nat.lt_of_le_of_lt (Nat.div_le_self _ _) hx)]
 rfl
theorem eI.next {w wr w2:World} {bs:List UInt8} {t:Nat} (h:eI w bs t wr) (hb:Below wr.heap.size wr w2):eI w bs t w2:=⟨(hb.block _ (lt_of_block h.box)).trans h.box,h.below.trans (hb.mono h.below.size)⟩
theorem eI.drew {w wr:World} {bs:List UInt8} {t:Nat} (h:eI w bs t wr):eI w bs t wr.drew:=⟨h.box,h.below.trans (Below.refl _ _).drew⟩
theorem wT {bs:List UInt8} {j:Nat} (h:j<bs.length):bs[j]? =some (bs.getD j 0):=by simp[List.getD_eq_getElem?_getD,h]
def CQ (v r:V8) (j:Nat):List Nat:=(uS v r).list.take j++v.list.drop j
structure fO (sb : Nat) (v r : V8) (tl : List Value) (ty : TypeId) (W1 wq : World) (j : Nat) : Prop where
 box:wq.heap[sb]? =some (.cells ((CQ v r j).map bY++tl).toArray ty (0,0))
 grown:W1.grownBy wq (some sb)
theorem fO.start {sb:Nat} {v r:V8} {tl:List Value} {ty:TypeId} {W1 wq:World} (h:W1.heap[sb]? =some (.cells (v.list.map bY++tl).toArray ty (0,0))) (hb:Below W1.heap.size W1 wq):fO sb v r tl ty W1 wq 0:=
 ⟨br hb h,⟨hb.os,hb.tape,hb.output,hb.size,fun k hk _=>hb.block k hk⟩⟩
theorem fO.keep {sb:Nat} {v r:V8} {tl:List Value} {ty:TypeId} {W1 wq:World} {j:Nat} (h:fO sb v r tl ty W1 wq j) {b:Nat} {o:Obj} (hb:W1.heap[b]? =some o) (hne:sb≠b):wq.heap[b]? =some o:=
 (h.grown.block b (lt_of_block hb) (fun e=>hne (Option.some.inj e).symm)).trans hb
theorem fO.free {sb:Nat} {v r:V8} {tl:List Value} {ty:TypeId} {W1 wq:World} {j:Nat} (h:fO sb v r tl ty W1 wq j) (k:Nat):wq.frozen? ⟨sb,k,none⟩=false:=frozen_of_row wq _ k _ _ h.box
theorem GX (v r:V8) {j:Nat} (h:j<8) (tl:List Value):((CQ v r j).map bY++tl)[j]? =some (bY (v.list.getD j 0)):=by
 have hc:j=0\/j=1\/j=2\/j=3\/j=4\/j=5\/j=6\/j=7:=by omega
 rcases hc with rfl | rfl | rfl | rfl | rfl | rfl | rfl | rfl<;> rfl
theorem GY (v r:V8) {j:Nat} (h:j<8) (tl:List Value):((CQ v r j).map bY++tl).set j (bY (oa (v.list.getD j 0) (r.list.getD j 0)))=(CQ v r (j+1)).map bY++tl:=by
 have hc:j=0\/j=1\/j=2\/j=3\/j=4\/j=5\/j=6\/j=7:=by omega
 rcases hc with rfl | rfl | rfl | rfl | rfl | rfl | rfl | rfl<;> rfl
theorem fO.here {sb:Nat} {v r:V8} {tl:List Value} {ty:TypeId} {W1 wq:World} {j:Nat} (h:fO sb v r tl ty W1 wq j) (hj:j<8):wq.cell? ⟨sb,j,none⟩=some (.int .u32 ((v.list.getD j 0:Nat):Int)):=by
 rw[cell_of_row wq _ _ _ _ _ h.box,List.getElem?_toArray,GX v r hj tl]; rfl
theorem fO.put {sb:Nat} {v r:V8} {tl:List Value} {ty:TypeId} {W1 wq:World} {j:Nat} (h:fO sb v r tl ty W1 wq j) (hj:j<8) {x:Value} (hx:x=bY (oa (v.list.getD j 0) (r.list.getD j 0))):fO sb v r tl ty W1 (wq.setCell ⟨sb,j,none⟩ x) (j+1):=by
 subst hx;refine⟨?_, ?_⟩
 ·rw[heap_setCell_same wq _ _ _ _ _ h.box,List.setIfInBounds_toArray,GY v r hj tl]
 ·have h2:=h.grown;exact⟨h2.os,h2.tape,h2.output,by simpa [World.setCell]using h2.size,fun k hk hne=>(heap_setCell_other wq _ k _ (fun e=>hne (by rw[e]))).trans (h2.block k hk hne)⟩
theorem fO.drew {sb:Nat} {v r:V8} {tl:List Value} {ty:TypeId} {W1 wq:World} {j:Nat} (h:fO sb v r tl ty W1 wq j):fO sb v r tl ty W1 wq.drew j:=
 ⟨h.box,⟨h.grown.os,h.grown.tape,h.grown.output,h.grown.size,h.grown.block⟩⟩
theorem II (v:V8) {j:Nat} (h:j<8):([.int .u32 (v.a:Int), .int .u32 (v.b:Int), .int .u32 (v.c:Int), .int .u32 (v.d:Int), .int .u32 (v.e:Int), .int .u32 (v.f:Int), .int .u32 (v.g:Int), .int .u32 (v.h:Int)]:List Value)[j]? =some (.int .u32 ((v.list.getD j 0:Nat):Int)):=by
 have hc:j=0\/j=1\/j=2\/j=3\/j=4\/j=5\/j=6\/j=7:=by omega
 rcases hc with rfl | rfl | rfl | rfl | rfl | rfl | rfl | rfl<;> rfl
theorem EZ (r:V8) {j:Nat} (h:j<8) (w:World):(Instr.index 216 (.agg #[.int .u32 (r.a:Int), .int .u32 (r.b:Int), .int .u32 (r.c:Int), .int .u32 (r.d:Int), .int .u32 (r.e:Int), .int .u32 (r.f:Int), .int .u32 (r.g:Int), .int .u32 (r.h:Int)]) (.int .i64 (j:Int))).run Tryz.prog w= .ok (.int .u32 ((r.list.getD j 0:Nat):Int)) w:=by
 have hc:j=0\/j=1\/j=2\/j=3\/j=4\/j=5\/j=6\/j=7:=by omega
 rcases hc with rfl | rfl | rfl | rfl | rfl | rfl | rfl | rfl<;> (show _=_; kernel_rfl)
theorem pC {w:World} {sb:Nat} {v:V8} {tl:List Value} {ty:TypeId} (h:w.heap[sb]? =some (.cells (v.list.map bY++tl).toArray ty (0,0))):w.rangeAt sb 0 (v.list.map bY):=by
 intro j x hj;rw[cell_of_row w _ _ _ _ _ h,Nat.zero_add,List.getElem?_toArray,List.getElem?_append_left (List.getElem?_eq_some_iff.1 hj).1];exact hj
theorem ln (sb:Nat) (v:V8) (tl:List Value) (ty:TypeId) (bk o cap:Nat) (bs:List UInt8) (w:World) (hbox:w.heap[sb]? =some (.cells (v.list.map bY++tl).toArray ty (0,0))) (hv:v.Ok) (hl:bs.length=64) (hcap:64<=cap) (_hcapm:cap<=maxLen)
  (hbs: ∀j b,bs[j]? =some b->w.cell? ⟨bk,o+j,none⟩=some (u8W b)) (hK:gj w) (hKlt:5<w.heap.size):
  Calls Tryz.prog 184 #[.pointer (some ⟨sb,0,none⟩), .slice (some ⟨bk,o,none⟩) 64 cap] w fun e w'=>e= .returned (.tuple #[])/\w'.heap[sb]? =some (.cells ((mu v bs).list.map bY++tl).toArray ty (0,0))/\w.grownBy w' (some sb):=by
 have HX:=aa hbox;have HS:=aa hbs;have HK:=aa hK;clear hbox hbs hK
 go_enter Tryz.func184,Tryz.ntmps184
 go_wp2_with fail;have HA0:=aa (eI.start w bs)
 go_loopw [27] (fun i wr=> ∃t:Nat,t<=64/\i= .int .i64 (t:Int)/\eI w bs t wr) (fun i _=>64-(intOf i).toNat)
 case atStart=>exact⟨0,by omega,rfl,HA0.o⟩
 case round=>
  obtain⟨t,ht,rfl,hs⟩:=hrel;have HA:=aa hs;have hz:=hs.below.size;clear hs
  by_cases h16:t<16
  ·obtain⟨b0,hb0⟩: ∃b,b=bs.getD (4*t) 0:=⟨_,rfl⟩;obtain⟨b1,hb1⟩: ∃b,b=bs.getD (4*t+1) 0:=⟨_,rfl⟩;obtain⟨b2,hb2⟩: ∃b,b=bs.getD (4*t+2) 0:=⟨_,rfl⟩;obtain⟨b3,hb3⟩: ∃b,b=bs.getD (4*t+3) 0:=⟨_,rfl⟩;have q0:=HS.o (4*t) (bs.getD (4*t) 0) (wT (by omega));have q1:=HS.o (4*t+1) (bs.getD (4*t+1) 0) (wT (by omega));have q2:=HS.o (4*t+2) (bs.getD (4*t+2) 0) (wT (by omega))
   have q3:=HS.o (4*t+3) (bs.getD (4*t+3) 0) (wT (by omega));have HW:=aa (show uH bs t=yC b0 b1 b2 b3 by rw[hb0,hb1,hb2,hb3]; rfl);rw[<-hb0]at q0;rw[<-hb1]at q1;rw[<-hb2]at q2;rw[<-hb3]at q3;have hbk:=block_lt_of_cell q0;simp only[u8W]at q0 q1 q2 q3;have c0:=(HA.o.below.cell (p:=⟨bk,o+4*t,none⟩) hbk).trans q0;have c1:=(HA.o.below.cell (p:=⟨bk,o+(4*t+1),none⟩) hbk).trans q1
   rw[<-Nat.add_assoc]at c1;have c2:=(HA.o.below.cell (p:=⟨bk,o+(4*t+2),none⟩) hbk).trans q2;rw[<-Nat.add_assoc]at c2;have c3:=(HA.o.below.cell (p:=⟨bk,o+(4*t+3),none⟩) hbk).trans q3;rw[<-Nat.add_assoc]at c3;have ch:=HA.o.here (by omega);have cf:=HA.o.free t;clear q0 q1 q2 q3 hb0 hb1 hb2 hb3;go_wp2_with fail;refine az [some 24,none] (by kernel_rfl) (by kernel_rfl) (by kernel_rfl) ?_
   simp only[bC,List.take_succ_cons,List.take_zero,List.drop_succ_cons,List.drop_zero]
   repeat (first | (refine aK rfl ?_; simp only[Act.put,aZ,bg,bh]) | (refine aS rfl (fun K hK=> ?_); go_simp; refine hK _ ?_; clear hK K))
   refine aR ?_;refine bJ rfl (fun K hK=> ?_);go_wp2_with fail
   go_roundw
   case rel=>
    rw[rZ,<-HW.o];exact⟨t+1,by omega,by simp,(HA.o.put (by omega) (BQ bs h16)).drew⟩
   case measure=>simp[intOf]; omega
  ·by_cases h64:t<64
   ·have h17:16<=t:=by omega
    obtain⟨j2,hj2⟩: ∃j,j=t-2:=⟨_,rfl⟩;obtain⟨j15,hj15⟩: ∃j,j=t-15:=⟨_,rfl⟩;obtain⟨j7,hj7⟩: ∃j,j=t-7:=⟨_,rfl⟩;obtain⟨j16,hj16⟩: ∃j,j=t-16:=⟨_,rfl⟩;have c2:=HA.o.get (j:=j2) (by omega);have c15:=HA.o.get (j:=j15) (by omega);have c7:=HA.o.get (j:=j7) (by omega);have c16:=HA.o.get (j:=j16) (by omega);have e2:IntKind.i64.wrap ((t:Int)-2)=(j2:Int):=by rw[IntKind.wrap_i64]; omega
    have e15:IntKind.i64.wrap ((t:Int)-15)=(j15:Int):=by rw[IntKind.wrap_i64]; omega
    have e7:IntKind.i64.wrap ((t:Int)-7)=(j7:Int):=by rw[IntKind.wrap_i64]; omega
    have e16:IntKind.i64.wrap ((t:Int)-16)=(j16:Int):=by rw[IntKind.wrap_i64]; omega
    have l2:(j2:Int)<64:=by omega
    have l15:(j15:Int)<64:=by omega
    have l7:(j7:Int)<64:=by omega
    have l16:(j16:Int)<64:=by omega
    have ch:=HA.o.here (by omega);have cf:=HA.o.free t;have HJ:=aa (show j2=t-2/\j15=t-15/\j7=t-7/\j16=t-16 from⟨hj2,hj15,hj7,hj16⟩);clear hj2 hj15 hj7 hj16;obtain⟨x2,hx2⟩: ∃x,x=(mY bs t).getD j2 0:=⟨_,rfl⟩;obtain⟨x15,hx15⟩: ∃x,x=(mY bs t).getD j15 0:=⟨_,rfl⟩;obtain⟨x7,hx7⟩: ∃x,x=(mY bs t).getD j7 0:=⟨_,rfl⟩;obtain⟨x16,hx16⟩: ∃x,x=(mY bs t).getD j16 0:=⟨_,rfl⟩
    rw[<-hx2]at c2;rw[<-hx15]at c15;rw[<-hx7]at c7;rw[<-hx16]at c16;have o2:x2<4294967296:=by rw[hx2]; exact(vJ bs t).get j2
    have o15:x15<4294967296:=by rw[hx15]; exact(vJ bs t).get j15
    have HN:=aa (show ll (mY bs t)=(((DI x2+x7)%4294967296+DH x15)%4294967296+x16)%4294967296 by
     unfold ll;rw[jq,hx2,hx15,hx7,hx16,HJ.o.1,HJ.o.2.1,HJ.o.2.2.1,HJ.o.2.2.2])
    clear hx2 hx15 hx7 hx16;go_wp2_with fail;refine az [some 10] (by kernel_rfl) (by kernel_rfl) (by kernel_rfl) ?_;simp only[bC,List.take_succ_cons,List.take_zero]
    repeat (first | (refine aK rfl ?_; simp only[Act.put,aZ,bg,bh]) | (refine aS rfl (fun K hK=> ?_); go_simp; refine hK _ ?_; clear hK K))
    refine aR ?_;go_wp2_with fail;refine(Dt _ _ o2).mono ?_;rintro e W1 ⟨rfl,rfl⟩;go_wp2_with fail;refine(Dr _ _ o2).mono ?_;rintro e W1 ⟨rfl,rfl⟩;go_wp2_with fail;refine(Dw _ _ o15).mono ?_;rintro e W1 ⟨rfl,rfl⟩;go_wp2_with fail;refine(Ds _ _ o15).mono ?_;rintro e W1 ⟨rfl,rfl⟩;rw[uv o2];go_wp2_with fail;refine az [some 15,none] (by kernel_rfl) (by kernel_rfl) (by kernel_rfl) ?_
    simp only[bC,List.take_succ_cons,List.take_zero,List.drop_succ_cons,List.drop_zero]
    repeat (first | (refine aK rfl ?_; simp only[Act.put,aZ,bg,bh]) | (refine aS rfl (fun K hK=> ?_); go_simp; refine hK _ ?_; clear hK K))
    refine aR ?_;refine bJ rfl (fun K hK=> ?_);go_wp2_with fail
    go_roundw
    case rel=>
     rw[uu o15];have HV:((((DI x2:Nat):Int)+(x7:Int)+((DH x15:Nat):Int)+(x16:Int))%4294967296)=((ll (mY bs t):Nat):Int):=by rw[HN.o]; omega
     rw[HV];exact⟨t+1,by omega,by simp,(HA.o.put (by omega) (yB bs h17)).drew.drew⟩
    case measure=>simp[intOf]; omega
   ·obtain rfl:t=64:=by omega
    have HB1:=aa ((HX.o▸HA.o.below.block sb (lt_of_block HX.o):wr.heap[sb]? =some (.cells (v.list.map bY++tl).toArray ty (0,0))));have HR:=aa (pC HB1.o);go_wp2_with (refine wpList_load_mid rfl 216 _ rfl sb 0 rfl [.int .u32 (v.a:Int), .int .u32 (v.b:Int), .int .u32 (v.c:Int), .int .u32 (v.d:Int), .int .u32 (v.e:Int), .int .u32 (v.f:Int), .int .u32 (v.g:Int), .int .u32 (v.h:Int)] _ HR.o Tryz.underlying216 rfl (by kernel_rfl) ?_)
    obtain⟨W1,hW1⟩: ∃W1,W1=wr.alloc (.cells #[.int .u32 (v.a:Int), .int .u32 (v.b:Int), .int .u32 (v.c:Int), .int .u32 (v.d:Int), .int .u32 (v.e:Int), .int .u32 (v.f:Int), .int .u32 (v.g:Int), .int .u32 (v.h:Int)] 216):=⟨_,rfl⟩;rw[<-hW1];obtain⟨vb,hvb⟩: ∃vb,wr.heap.size=vb:=⟨_,rfl⟩;have HVB:=aa (show W1.heap[vb]? =some (.cells #[.int .u32 (v.a:Int), .int .u32 (v.b:Int), .int .u32 (v.c:Int), .int .u32 (v.d:Int), .int .u32 (v.e:Int), .int .u32 (v.f:Int), .int .u32 (v.g:Int), .int .u32 (v.h:Int)] 216 (0,0)) by rw[hW1,<-hvb]; exact heap_alloc_new _ _)
    have HBW:=aa (show Below wr.heap.size wr W1 by rw[hW1]; exact bH);have HA1:=aa (HA.o.next HBW.o);have HB2:=aa (br HBW.o HB1.o);rw[hvb];have HVL:=aa (show sb<vb by rw[<-hvb]; exact lt_of_block HB1.o);clear hW1 hvb;have HOK:=aa (zW bs (v:=v) 0 hv);have v0:W1.cell? ⟨vb,0,none⟩=some (.int .u32 (v.a:Int)):=(cell_of_row W1 _ _ _ _ _ HVB.o).trans rfl;have v1:W1.cell? ⟨vb,1,none⟩=some (.int .u32 (v.b:Int)):=(cell_of_row W1 _ _ _ _ _ HVB.o).trans rfl
    have v2:W1.cell? ⟨vb,2,none⟩=some (.int .u32 (v.c:Int)):=(cell_of_row W1 _ _ _ _ _ HVB.o).trans rfl;have v3:W1.cell? ⟨vb,3,none⟩=some (.int .u32 (v.d:Int)):=(cell_of_row W1 _ _ _ _ _ HVB.o).trans rfl;have v4:W1.cell? ⟨vb,4,none⟩=some (.int .u32 (v.e:Int)):=(cell_of_row W1 _ _ _ _ _ HVB.o).trans rfl;have v5:W1.cell? ⟨vb,5,none⟩=some (.int .u32 (v.f:Int)):=(cell_of_row W1 _ _ _ _ _ HVB.o).trans rfl
    have v6:W1.cell? ⟨vb,6,none⟩=some (.int .u32 (v.g:Int)):=(cell_of_row W1 _ _ _ _ _ HVB.o).trans rfl;have v7:W1.cell? ⟨vb,7,none⟩=some (.int .u32 (v.h:Int)):=(cell_of_row W1 _ _ _ _ _ HVB.o).trans rfl;refine az [some 24] (by kernel_rfl) (by kernel_rfl) (by kernel_rfl) ?_;simp only[bC,List.take_succ_cons,List.take_zero]
    repeat (first | (refine aK rfl ?_; simp only[Act.put,aZ,bg,bh]) | (refine aS rfl (fun K hK=> ?_); go_simp; refine hK _ ?_; clear hK K))
    refine aR ?_;go_wp2_with fail
    go_loopw [12,13,14,15,16,17,18,19,123] (fun sa sb2 sc sd se sf sg sh i wq=> ∃(t:Nat) (r:V8),t<=64/\i= .int .i64 (t:Int)/\r=rTo bs v t/\sa= .int .u32 (r.a:Int)/\sb2= .int .u32 (r.b:Int)/\sc= .int .u32 (r.c:Int)/\sd= .int .u32 (r.d:Int)/\se= .int .u32 (r.e:Int)/\sf= .int .u32 (r.f:Int)/\sg= .int .u32 (r.g:Int)/\sh= .int .u32 (r.h:Int)/\Below W1.heap.size W1 wq) (fun _ _ _ _ _ _ _ _ i _=>64-(intOf i).toNat)
    case atStart=>exact⟨0,v,by omega,rfl,rfl,rfl,rfl,rfl,rfl,rfl,rfl,rfl,rfl,(Below.refl _ _).drew⟩
    case round=>
     obtain⟨t,r,ht2,rfl,hr,rfl,rfl,rfl,rfl,rfl,rfl,rfl,rfl,hbq⟩:=hrel;have HRT:=aa hr;have HBQ:=aa hbq;have HRO:=aa (show r.Ok by rw[hr]; exact zW bs t hv);clear hr hbq v0 v1 v2 v3 v4 v5 v6 v7
     by_cases h65:t<64
     ·obtain⟨k,hk⟩: ∃k,k=kc.getD t 0:=⟨_,rfl⟩;obtain⟨x,hx⟩: ∃x,x=(wsP bs).getD t 0:=⟨_,rfl⟩;have ck:=HK.o t k (by rw[hk]; exact getD_some (by rw[vp]; exact h65));have ck2:=(HBQ.o.cell (p:=⟨5,t,none⟩) (by have:=HA1.o.below.size; show 5<_; omega)).trans ((HA1.o.below.cell (p:=⟨5,t,none⟩) hKlt).trans ck);have cx:=(HBQ.o.cell (p:=⟨w.heap.size,t,none⟩) (lt_of_block HA1.o.box)).trans (HA1.o.get h65)
      rw[vI,<-hx]at cx;have HKX:=aa (And.intro hk hx);clear ck hk hx;unfold bY at ck2;go_wp2_with fail;refine(Dx _ _ HRO.o.e).mono ?_;rintro e W2 ⟨rfl,rfl⟩;go_wp2_with fail;refine(Dv _ _ HRO.o.e).mono ?_;rintro e W2 ⟨rfl,rfl⟩;go_wp2_with fail;refine(FG _ _ HRO.o.e).mono ?_;rintro e W2 ⟨rfl,rfl⟩;go_wp2_with fail;refine(Dy _ _ HRO.o.a).mono ?_;rintro e W2 ⟨rfl,rfl⟩
      go_wp2_with fail;refine(Du _ _ HRO.o.a).mono ?_;rintro e W2 ⟨rfl,rfl⟩;go_wp2_with fail;refine(Dq _ _ HRO.o.a).mono ?_;rintro e W2 ⟨rfl,rfl⟩;go_wp2_with fail;refine az [some 21] (by kernel_rfl) (by kernel_rfl) (by kernel_rfl) ?_;simp only[bC,List.take_succ_cons,List.take_zero]
      repeat (first | (refine aK rfl ?_; simp only[Act.put,aZ,bg,bh]) | (refine aS rfl (fun K hK=> ?_); go_simp; refine hK _ ?_; clear hK K))
      refine aR ?_;go_wp2_with fail
      go_roundw
      case rel=>
       rw[BL HRO.o,Bb HRO.o,BK HRO.o,Bw HRO.o];refine⟨t+1,Ab r k x,by omega,by simp, ?_, ?_,rfl,rfl,rfl, ?_,rfl,rfl,rfl, ?_⟩
       ·rw[xP bs v h65,HRT.o,HKX.o.1,HKX.o.2]
       ·show _=Value.int .u32 (((Gm r k x+t2P r)%4294967296:Nat):Int)
        exact congrArg (Value.int .u32) (by rw[Au,FS]; omega)
       ·show _=Value.int .u32 (((r.d+Gm r k x)%4294967296:Nat):Int)
        exact congrArg (Value.int .u32) (by rw[Au]; omega)
       ·exact HBQ.o.trans (Below.refl _ _).drew
      case measure=>simp[intOf]; omega
     ·obtain rfl:t=64:=by omega
      go_wp2_with (refine wpList_build rfl 216 _ rfl (by kernel_rfl) ?_);rw[show(Tryz.prog.built 216 [(0, .int .u32 (r.a:Int)),(1, .int .u32 (r.b:Int)),(2, .int .u32 (r.c:Int)),(3, .int .u32 (r.d:Int)),(4, .int .u32 (r.e:Int)),(5, .int .u32 (r.f:Int)),(6, .int .u32 (r.g:Int)),(7, .int .u32 (r.h:Int))]).getD #[]= #[.int .u32 (r.a:Int), .int .u32 (r.b:Int), .int .u32 (r.c:Int), .int .u32 (r.d:Int), .int .u32 (r.e:Int), .int .u32 (r.f:Int), .int .u32 (r.g:Int), .int .u32 (r.h:Int)] by kernel_rfl]
      have HM0:=aa (fO.start (r:=r) HB2.o HBQ.o)
      go_loopw [197] (fun i wq=> ∃j:Nat,j<=8/\i= .int .i64 (j:Int)/\fO sb v r tl ty W1 wq j) (fun i _=>8-(intOf i).toNat)
      case atStart=>exact⟨0,by omega,rfl,HM0.o⟩
      case round=>
       obtain⟨j,hj,rfl,hm⟩:=hrel;have HM:=aa hm;clear hm
       by_cases h8:j<8
       ·have cs:=HM.o.here h8;have cf:=HM.o.free j;have hI: ∀w,(Instr.index 216 (.agg #[.int .u32 (r.a:Int), .int .u32 (r.b:Int), .int .u32 (r.c:Int), .int .u32 (r.d:Int), .int .u32 (r.e:Int), .int .u32 (r.f:Int), .int .u32 (r.g:Int), .int .u32 (r.h:Int)]) (.int .i64 (j:Int))).run Tryz.prog w= .ok (.int .u32 ((r.list.getD j 0:Nat):Int)) w:=EZ r h8;have cv:wr.cell? ⟨vb,j,none⟩=some (.int .u32 ((v.list.getD j 0:Nat):Int)):=(cell_of_row wr _ _ _ _ _ (HM.o.keep HVB.o (by have:=HVL.o; omega))).trans (by rw[List.getElem?_toArray]; exact II v h8)
        obtain⟨x,hx⟩: ∃x,x=r.list.getD j 0:=⟨_,rfl⟩;obtain⟨y,hy⟩: ∃y,y=v.list.getD j 0:=⟨_,rfl⟩;rw[<-hx]at hI;rw[<-hy]at cv cs;have HXY:=aa (And.intro hx hy);clear hx hy;have h8i:(j:Int)<8:=by omega
        go_wp2_with fail;refine az [some 10,none] (by kernel_rfl) (by kernel_rfl) (by kernel_rfl) ?_;simp only[bC,List.take_succ_cons,List.take_zero,List.drop_succ_cons,List.drop_zero]
        repeat (first | (refine aK rfl ?_; simp only[Act.put,aZ,bg,bh]) | (refine aS rfl (fun K hK=> ?_); go_simp; refine hK _ ?_; clear hK K))
        refine aR ?_;refine bJ rfl (fun K hK=> ?_);go_wp2_with fail
        go_roundw
        case rel=>
         refine⟨j+1,by omega,by simp, ?_⟩;exact(HM.o.put h8 (by rw[<-HXY.o.1,<-HXY.o.2]; unfold bY oa; simp)).drew
        case measure=>simp[intOf]; omega
       ·obtain rfl:j=8:=by omega
        go_wp2_with fail
        go_end0
        refine⟨rfl, ?_, ?_⟩
        ·rw[xO,<-HRT.o];have:=HM.o.box;rw[show CQ v r 8=(uS v r).list from rfl]at this;exact this
        ·have h1:=HA1.o.below;have h2:=HM.o.grown;exact⟨h2.os.trans h1.os,h2.tape.trans h1.tape,h2.output.trans h1.output,Nat.le_trans h1.size h2.size,fun k hk hn=>(h2.block k (Nat.lt_of_lt_of_le hk h1.size) hn).trans (h1.block k hk)⟩
end Go.Proofs.YtpffpjbkbaleiaaGreatDoor
namespace Go.Proofs.YtpffpjbkbaleiaaGreatDoor
open Go.RowKit
def bl (s:ByteArray):List UInt8:=s.data.toList
theorem GO (s:ByteArray):s.data.toList=bl s:=rfl
theorem cA (s:ByteArray):s.toList=bl s:=by rw[ByteArray.toList_eq]; rfl
theorem ed (l:List UInt8):bl ⟨l.toArray⟩=l:=by simp[bl]
theorem Bx (s:ByteArray):(⟨(bl s).toArray⟩:ByteArray)=s:=by cases s; simp[bl]
theorem am (s:ByteArray):s.size=(bl s).length:=Lib.size_eq s
theorem lK (s t:ByteArray):bl (s++t)=bl s++bl t:=by simp[bl]
theorem jY (s:ByteArray) (a b:Nat):bl (s.extract a b)=((bl s).take b).drop a:=by unfold bl; rw[Lib.extract_data]; rw[List.drop_take]
theorem fE {s t:ByteArray} (h:bl s=bl t):s=t:=by rw[<-Bx s,<-Bx t,h]
def gk (S:Nat->Prop) (w w':World):Prop:= ∀k,S k->w'.heap[k]? =w.heap[k]?
theorem gk.refl (S:Nat->Prop) (w:World):gk S w w:=fun _ _=>rfl
theorem gk.trans {S:Nat->Prop} {a b c:World} (h:gk S a b) (k:gk S b c):gk S a c:=fun i hi=>(k i hi).trans (h i hi)
theorem gk.cell {S:Nat->Prop} {w w':World} (h:gk S w w') {a:Addr} (ha:S a.block):w'.cell? a=w.cell? a:=World.cell?_of_block (h a.block ha)
theorem gk.mono {S T:Nat->Prop} {w w':World} (h:gk S w w') (hT: ∀k,T k->S k):gk T w w':=fun k hk=>h k (hT k hk)
theorem aP {w:World} {a:Addr} {v:Value} (h:w.cell? a=some v):a.block<w.heap.size:=by
 rcases Nat.lt_or_ge a.block w.heap.size with h' | h'
 ·exact h'
 ·simp[World.cell?,Array.getElem?_eq_none h']at h
def aL (S:Nat->Prop) (w:World) (sz:Nat) (v:Value) (n:Nat) (cells:List Value):Prop:=
 cells.length=n*sz/\ ∃a cap,v= .slice a n cap/\n<=cap/\cap<=maxLen/\
  (n=0\/ ∃b o,a=some ⟨b,o,none⟩/\S b/\ ∀(j:Nat) u,cells[j]? =some u->w.cell? ⟨b,o+j,none⟩=some u)
theorem aL.same {S:Nat->Prop} {w w':World} {sz:Nat} {v:Value} {n:Nat} {cells:List Value} (h:aL S w sz v n cells) (hs:gk S w w'):aL S w' sz v n cells:=by
 obtain⟨hl,a,cap,hv,hn,hm,h0⟩:=h;refine⟨hl,a,cap,hv,hn,hm, ?_⟩
 rcases h0 with h0 | ⟨b,o,ha,hb,hc⟩
 ·exact .inl h0
 ·exact .inr ⟨b,o,ha,hb,fun j u hu=>(hs.cell (a:=⟨b,o+j,none⟩) hb).trans (hc j u hu)⟩
theorem aL.mono {S T:Nat->Prop} {w:World} {sz:Nat} {v:Value} {n:Nat} {cells:List Value} (h:aL S w sz v n cells) (hs: ∀k,k<w.heap.size->S k->T k):0<sz->aL T w sz v n cells:=by
 intro hsz;obtain⟨hl,a,cap,hv,hn,hm,h0⟩:=h;refine⟨hl,a,cap,hv,hn,hm, ?_⟩
 rcases h0 with h0 | ⟨b,o,ha,hb,hc⟩
 ·exact .inl h0
 ·rcases Nat.eq_zero_or_pos n with h | h
  ·exact .inl h
  ·refine .inr ⟨b,o,ha,hs b ?_ hb,hc⟩;have:0<cells.length:=by rw[hl]; exact Nat.mul_pos h hsz
   exact aP (a:=⟨b,o+0,none⟩) (hc 0 cells[0] (by simp[this]))
theorem aL.below {S:Nat->Prop} {w w':World} {sz:Nat} {v:Value} {n:Nat} {cells:List Value} (h:aL S w sz v n cells) (hsz:0<sz) (hb:Below w.heap.size w w'):aL S w' sz v n cells:=by
 have h2:=h.mono (T:=fun k=>S k/\k<w.heap.size) (fun k hk hS=>⟨hS,hk⟩) hsz;have h3:=h2.same (w':=w') (fun k hk=>hb.block k hk.2);obtain⟨hl,a,cap,hv,hn,hm,h0⟩:=h3;refine⟨hl,a,cap,hv,hn,hm, ?_⟩
 rcases h0 with h0 | ⟨b,o,ha,hb,hc⟩
 ·exact .inl h0
 ·exact .inr ⟨b,o,ha,hb.1,hc⟩
theorem aL.nil (S:Nat->Prop) (w:World) (sz:Nat):aL S w sz (.slice none 0 0) 0 []:=⟨by simp,none,0,rfl,Nat.le_refl _,by unfold maxLen; omega, .inl rfl⟩
def fQ (S:Nat->Prop) (w:World) (v:Value) (xs:List ByteArray):Prop:=aL S w 1 v xs.length (xs.map Value.string)
theorem fQ.shape {S:Nat->Prop} {w:World} {v:Value} {xs:List ByteArray} (h:fQ S w v xs):
  ∃a cap,v= .slice a xs.length cap/\xs.length<=cap/\cap<=maxLen/\ ∀k x,xs[k]? =some x-> ∃b o,a=some ⟨b,o,none⟩/\S b/\w.cell? ⟨b,o+k,none⟩=some (.string x):=by
 obtain⟨_,a,cap,hv,hn,hm,h0⟩:=h;refine⟨a,cap,hv,hn,hm,fun k x hk=> ?_⟩
 rcases h0 with h0 | ⟨b,o,ha,hb,hc⟩
 ·simp[List.eq_nil_of_length_eq_zero h0]at hk
 ·exact⟨b,o,ha,hb,hc k _ (by simp[hk])⟩
structure iV (w : World) : Prop where
 maxLen: ∃m,w.cell? ⟨1,0,none⟩=some (.int .i64 m)
 tabs:Lib.Utf8Tabs 3 4 w
theorem iV.below {w w':World} (h:iV w) (hb:Below w.heap.size w w'):iV w':=by
 obtain⟨⟨m,hm⟩,ht⟩:=h;exact⟨⟨m,(hb.cell (aP hm)).trans hm⟩,Utf8Tabs_below ht hb⟩
theorem iV.lt {w:World} (h:iV w):1<w.heap.size/\3<w.heap.size/\4<w.heap.size:=by
 obtain⟨⟨m,hm⟩,ht⟩:=h;exact⟨aP hm,aP (ht.1 0 (by omega)),aP (ht.2 0 (by omega)).1⟩
theorem iV.belowB {B:Nat} {w w':World} (h:iV w) (hb:Below B w w') (h0:1<B) (h1:3<B) (h2:4<B):iV w':=by
 obtain⟨⟨m,hm⟩,ht⟩:=h;exact⟨⟨m,(hb.cell h0).trans hm⟩,fun c hc=>(hb.cell (p:=⟨3,c,none⟩) h1).trans (ht.1 c hc),fun i hi=>⟨(hb.cell (p:=⟨4,2*i,none⟩) h2).trans (ht.2 i hi).1,(hb.cell (p:=⟨4,2*i+1,none⟩) h2).trans (ht.2 i hi).2⟩⟩
theorem aD {a b:Bool} (h:a=b):Ending.returned (.bool a)= .returned (.bool b):=by rw[h]
theorem bt {k:IntKind} {a b:Int} (h:a=b):Ending.returned (.int k a)= .returned (.int k b):=by rw[h]
theorem ab {w w1 w2:World} (h:Below w.heap.size w w1) (k:Below w1.heap.size w1 w2):Below w.heap.size w w2:=h.trans (k.mono h.size)
theorem fm {P:Program} {f:FuncId} {args:Array Value} {w:World} {n:Nat} {v:Value}
  (h:Calls P f args (w.drewN n) fun e w'=>e= .returned v/\w.drewN n=w'):Calls P f args (w.drewN n) fun e w''=>e= .returned v/\ ∃m,w''=w.drewN m:=
 h.mono fun _ _ ⟨he,hm⟩=>⟨he,n,hm.symm⟩
theorem cw {B:Nat} {a w:World} (h:Below B a w) (n:Nat):Below B a (w.drewN n):=h.trans ⟨rfl,rfl,rfl,Nat.le_refl _,fun _ _=>rfl⟩
structure eH (P : Program) (t e : TypeId) (sz bytes : Nat) : Prop where
 ht:P.underlying t=some (.slice e)
 hi: ∃i z,P.info? e=some i/\i.zero=some z/\i.size=sz/\i.bytes=bytes/\z.cells.size=sz
 pos:0<sz
 small:bytes<=128
theorem eH.mk' {P:Program} {t e:TypeId} {sz bytes:Nat} {z:Value} (ht:P.underlying t=some (.slice e)) (hi:(P.info? e).map (fun i=>(i.zero,i.size,i.bytes))=some (some z,sz,bytes)) (hz:z.cells.size=sz) (hp:0<sz) (hb:bytes<=128):eH P t e sz bytes:=by
 obtain⟨i,h1,h2,h3,h4⟩:=info_parts hi;exact⟨ht,⟨i,z,h1,h2,h3,h4,hz⟩,hp,hb⟩
theorem oH {P:Program} (w:World) (base:Nat) (t ty e:TypeId) (i:TypeInfo) (z:Value) (size bytes:Nat) (ht:P.underlying t=some (.slice e)) (hi:P.info? e=some i) (hz:i.zero=some z)
  (hsize:i.size=size) (hby:i.bytes=bytes) (hzs:z.cells.size=size)
  (v:Value) (n:Nat) (xs:List Value) (hown:w.ownsRow base e size v n xs)
  (a:Addr) (m c:Nat) (news:List Value) (hl:news.length=m*size) (hm0:0<m) (hnews: ∀j u,news[j]? =some u->w.cell? (a.add j)=some u) (h1: ∀u∈news,u.oneCell'=true)
  (h63:n+m<=maxLen) (hbytes:(n+m)*bytes<=140737488355328) {v':Value} {w':World}
  (hrun:(Builtin.append_ #[t,t] ty #[v, .slice (some a) m c]).run P w= .ok v' w'):v'.ownBlock=v.ownBlock\/v'.ownBlock=some w.heap.size:=by
 subst hsize;subst hby
 have hsmall:n+m<=9223372036854775807:=by simp only[maxLen]at h63; omega
 rcases hown.2 with⟨rfl,rfl⟩ | ⟨g,cap,cur,rfl,hbg,hg,hnc,hcm,hcs,htake⟩
 ·have hx:xs=[]:=List.eq_nil_of_length_eq_zero (by simpa using hown.1);subst hx;have hr:=run_append_nil (P:=P) w t ty e i z ht hi hz a m c news hl hnews (by omega) (by omega) (by have hb:=hbytes; simp only[Nat.zero_add]at hb; omega);rw[hr]at hrun
  cases hrun
  exact .inr rfl
 ·by_cases hroom:n+m<=cap
  ·have hfit:n*i.size+news.length<=cur.size:=by rw[hl,hcs,<-Nat.add_mul]; exact Nat.mul_le_mul_right _ hroom
   have hr:=run_append_room (P:=P) w t ty e i ht hi g n cap cur hg a m c news hl hnews h1 hroom hfit;rw[hr]at hrun
   cases hrun
   exact .inl rfl
  ·have holds: ∀j u,xs[j]? =some u->w.cell? ((⟨g,0,none⟩:Addr).add j)=some u:=hown.cells (g:=g) rfl;have hr:=run_append_grow (P:=P) w t ty e i z ht hi hz ⟨g,0,none⟩ n cap xs hown.1 holds a m c news hl hnews (by omega) (by omega) (growslice_fits (by omega) hbytes);rw[hr]at hrun
   cases hrun
   exact .inr rfl
theorem aA {P:Program} {ops:Array Oper} {rest:List Oper} {o:Oper} {a:Act} {Q:Exit->Act->World->Prop} {t e:TypeId} {sz bytes:Nat} (T:eH P t e sz bytes) (hgd:o.guard=none) (s x:Operand)
  (ho:o.op= .call {callee:= .builtin .append,args:= #[s,x],argTypes:= #[t,t]}) (base:Nat) (v:Value) (n:Nat) (xs:List Value) (hs:a.eval s=v) (w0:World) (news:List Value) (e2:TypeId)
  (hx:a.eval x= .slice (some ⟨w0.heap.size,0,none⟩) 1 1) (hl:news.length=sz) (h1: ∀u∈news,u.oneCell'=true) (hown:w0.ownsRow base e sz v n xs) (hn:n<1099511627775) (hbase:base<=w0.heap.size)
  (h: ∀v' w',w'.ownsRow base e sz v' (n+1) (xs++news)->w0.grownBy w' v.ownBlock->v'≠ .slice none 0 0->(∀k,v'.ownBlock=some k->v.ownBlock=some k\/w0.heap.size<=k)->wpList P ops Q rest (a.put o.dst v') w'):wpList P ops Q (o::rest) a (w0.alloc (.cells news.toArray e2)):=by
 obtain⟨ht,⟨i,z,h11,h12,h13,h14,h15⟩,hpos,hsm⟩:=T;have hnews: ∀(j:Nat) u,news[j]? =some u->(w0.alloc (.cells news.toArray e2)).cell? ((⟨w0.heap.size,0,none⟩:Addr).add j)=some u:=by
  intro j u hj;have hadd:(⟨w0.heap.size,0,none⟩:Addr).add j=⟨w0.heap.size,j,none⟩:=by unfold Addr.add; split<;> simp_all
  rw[hadd];have hh:=heap_alloc_new w0 (.cells news.toArray e2);simp only[World.cell?,hh];simp[hj]
 have h63:n+1<=maxLen:=by unfold maxLen; omega
 have hby:(n+1)*bytes<=140737488355328:=by
  have:(n+1)*bytes<=1099511627775*128:=Nat.mul_le_mul (by omega) hsm;omega
 have hl1:news.length=1*sz:=by rw[hl,Nat.one_mul]
 obtain⟨v',w',hr,h2,hg,hv⟩:=run_append_own (P:=P) (w0.alloc (.cells news.toArray e2)) base t o.type e i z sz bytes ht h11 h12 h13 h14 h15 hpos v n xs (hown.alloc _) ⟨w0.heap.size,0,none⟩ 1 1 news hl1 hnews h1 h63 hby (by simp; omega);have hpl:=oH (P:=P) (w0.alloc (.cells news.toArray e2)) base t o.type e i z sz bytes ht h11 h12 h13 h14 h15 v n xs (hown.alloc _) ⟨w0.heap.size,0,none⟩ 1 1 news hl1 (by omega) hnews h1 h63 hby hr
 refine wpList_plain hgd fun K hK=> ?_
 unfold Oper.wp execOp;simp only[ho,resolve,invoke,builtin,Sem.run_bind,Sem.run_pure,Result.andThen_ok,List.map_toArray,List.map_cons,List.map_nil,hs,hx,hr];refine hK _ _ (h v' w' h2 ⟨hg.os,hg.tape,hg.output,by have:=hg.size; simp at this; omega,fun k hk hne=> ?_⟩ (fun e=>by have:=(hv.1 e).2; omega) ?_)
 ·rw[hg.block k (by simp; omega) hne];exact Below.heap_alloc _ _ _ hk
 ·intro k hk
  rcases hpl with hp | hp
  ·left; rw[<-hp]; exact hk
  ·right; rw[hp]at hk; cases hk; simp
theorem dq {P:Program} {ops:Array Oper} {rest:List Oper} {o:Oper} {a:Act} {Q:Exit->Act->World->Prop} {t e:TypeId} {sz bytes:Nat} (T:eH P t e sz bytes) (hgd:o.guard=none) (s x:Operand)
  (ho:o.op= .call {callee:= .builtin .append,args:= #[s,x],argTypes:= #[t,t]}) (base:Nat) (v:Value) (n:Nat) (xs:List Value) (hs:a.eval s=v) (w0:World) (news:List Value) (e2:TypeId)
  (hx:a.eval x= .slice (some ⟨w0.heap.size,0,none⟩) 1 1) (hl:news.length=sz) (h1: ∀u∈news,u.oneCell'=true) (hown:w0.ownsRow base e sz v n xs) (hn:n<1099511627775) (hbase:base<=w0.heap.size)
  (h: ∀v' w',w'.ownsRow base e sz v' (n+1) (xs++news)->w0.grownBy w' v.ownBlock->v'≠ .slice none 0 0->wpList P ops Q rest (a.put o.dst v') w'):wpList P ops Q (o::rest) a (w0.alloc (.cells news.toArray e2)):=
 aA T hgd s x ho base v n xs hs w0 news e2 hx hl h1 hown hn hbase fun v' w' h2 h3 h4 _=>h v' w' h2 h3 h4
theorem aO {w:World} {base:Nat} {e:TypeId} {sz:Nat} {v:Value} {n:Nat} {xs:List Value} (h:w.ownsRow base e sz v n xs):aL (fun k=>base<=k/\v.ownBlock=some k) w sz v n xs:=by
 obtain⟨hl,h2⟩:=h
 rcases h2 with⟨rfl,rfl⟩ | ⟨g,cap,cur,rfl,hg,hh,hn,hcap,hsz,htake⟩
 ·exact⟨hl,none,0,rfl,Nat.le_refl _,by unfold maxLen; omega, .inl rfl⟩
 ·refine⟨hl,_,cap,rfl,hn,hcap, .inr ⟨g,0,rfl,⟨hg,rfl⟩,fun j u hj=> ?_⟩⟩;rw[Nat.zero_add,cell_of_row w g j cur e (0,0) hh];rw[<-htake,List.getElem?_take]at hj
  split at hj
  ·simpa using hj
  ·cases hj
theorem aL.weak {S T:Nat->Prop} {w:World} {sz:Nat} {v:Value} {n:Nat} {cells:List Value} (h:aL S w sz v n cells) (hs: ∀k,S k->T k):aL T w sz v n cells:=by
 obtain⟨hl,a,cap,hv,hn,hm,h0⟩:=h;refine⟨hl,a,cap,hv,hn,hm, ?_⟩
 rcases h0 with h0 | ⟨b,o,ha,hb,hc⟩
 ·exact .inl h0
 ·exact .inr ⟨b,o,ha,hs b hb,hc⟩
theorem aF {B:Nat} {w0 w w':World} {base:Nat} {e:TypeId} {sz:Nat} {v:Value} {n:Nat} {xs:List Value} (hb:Below B w0 w) (ho:w.ownsRow base e sz v n xs) (hg:w.grownBy w' v.ownBlock) (h1:B<=base) (h2:B<=w.heap.size):Below B w0 w':=
 hb.grown hg h2 (fun k hk=>by have:=(ho.lt k hk).1; omega)
theorem ai {w:World} {base:Nat} {e:TypeId} {sz:Nat} {v:Value} {n:Nat} {xs:List Value} (h:w.ownsRow base e sz v n xs): ∃a cap,v= .slice a n cap/\n<=cap/\cap<=maxLen:=by
 obtain⟨_,h2⟩:=h
 rcases h2 with⟨rfl,rfl⟩ | ⟨g,cap,cur,rfl,hg,hh,hn,hcap,hsz,htake⟩
 ·exact⟨_,_,rfl,Nat.le_refl _,by unfold maxLen; omega⟩
 ·exact⟨_,_,rfl,hn,hcap⟩
theorem Tryz.appStrings :eH Tryz.prog 138 9 1 16:=eH.mk' (z:= .string ByteArray.empty) Tryz.underlying138 (by kernel_rfl) rfl (by decide) (by decide)
def bR {α:Type} (R:List Value->α->Prop):List Value->List α->Prop
 | cells,[]=>cells=[]
 | cells,x::xs=> ∃c rest,cells=c++rest/\R c x/\bR R rest xs
section
variable {α : Type} {R R' : List Value → α → Prop} {sz : Nat}
theorem bR.mono : ∀ {xs:List α} {cells:List Value},(∀c x,x∈xs->R c x->R' c x)->bR R cells xs->bR R' cells xs
 | [],_,_,h=>h
 | x::xs,cells,hm,h=>by
  obtain⟨c,rest,rfl,hc,hr⟩:=h;exact⟨c,rest,rfl,hm c x (by simp) hc,bR.mono (fun c y hy=>hm c y (by simp[hy])) hr⟩
theorem bR.snoc : ∀ {xs:List α} {cells c:List Value} {x:α},bR R cells xs->R c x->bR R (cells++c) (xs++[x])
 | [],cells,c,x,h,hc=>by
  have:cells=[]:=h;subst this;exact⟨c,[],by simp,hc,rfl⟩
 | y::xs,cells,c,x,h,hc=>by
  obtain⟨d,rest,rfl,hd,hr⟩:=h;exact⟨d,rest++c,by simp,hd,bR.snoc hr hc⟩
theorem bR.len (hs: ∀c x,R c x->c.length=sz): ∀ {xs:List α} {cells:List Value},bR R cells xs->cells.length=xs.length*sz
 | [],cells,h=>by have:cells=[]:=h; subst this; simp
 | x::xs,cells,h=>by
  obtain⟨c,rest,rfl,hc,hr⟩:=h;rw[List.length_append,hs c x hc,bR.len hs hr,List.length_cons,Nat.add_mul]; omega
theorem bR.get (hs: ∀c x,R c x->c.length=sz): ∀ {xs:List α} {cells:List Value} {i:Nat} {x:α},bR R cells xs->xs[i]? =some x-> ∃c,R c x/\ ∀j,j<sz->cells[i*sz+j]? =c[j]?
 | [],_,i,_,_,hi=>by simp at hi
 | y::xs,cells,0,x,h,hi=>by
  obtain⟨c,rest,rfl,hc,hr⟩:=h;simp at hi; subst hi;refine⟨c,hc,fun j hj=> ?_⟩;rw[Nat.zero_mul,Nat.zero_add,List.getElem?_append_left (by rw[hs c y hc]; exact hj)]
 | y::xs,cells,i+1,x,h,hi=>by
  obtain⟨c,rest,rfl,hc,hr⟩:=h;obtain⟨d,hd,hj⟩:=bR.get hs hr (i:=i) (x:=x) (by simpa using hi);refine⟨d,hd,fun j hjs=> ?_⟩;have hl:=hs c y hc;rw[List.getElem?_append_right (by rw[hl,Nat.add_mul]; omega),hl,<-hj j hjs]
  congr 1
  rw[Nat.add_mul]; omega
theorem bR.drop (hs: ∀c x,R c x->c.length=sz): ∀ {xs:List α} {cells:List Value} (i:Nat),bR R cells xs->i<=xs.length->bR R (cells.drop (i*sz)) (xs.drop i)
 | _,_,0,h,_=>by simpa using h
 | [],_,i+1,_,hi=>by simp at hi
 | y::xs,cells,i+1,h,hi=>by
  obtain⟨c,rest,rfl,hc,hr⟩:=h;have:=bR.drop hs i hr (by simpa using hi);rw[List.drop_succ_cons,Nat.add_mul,Nat.one_mul,Nat.add_comm,List.drop_append,hs c y hc];simp only[Nat.add_sub_cancel_left];rw[List.drop_of_length_le (by rw[hs c y hc]; omega)];exact this
end
def aU {α:Type} (S:Nat->Prop) (w:World) (sz:Nat) (R:List Value->α->Prop) (v:Value) (xs:List α):Prop:=
 ∃cells,aL S w sz v xs.length cells/\bR R cells xs
section
variable {α : Type} {S T : Nat → Prop} {w w' : World} {sz : Nat} {R R' : List Value → α → Prop} {v : Value} {xs : List α}
theorem aU.shape (h:aU S w sz R v xs) (hs: ∀c x,R c x->c.length=sz):
  ∃a cap,v= .slice a xs.length cap/\xs.length<=cap/\cap<=maxLen/\ ∀(k:Nat) x,xs[k]? =some x-> ∃b o c,a=some ⟨b,o,none⟩/\S b/\R c x/\c.length=sz/\ ∀j,j<sz->w.cell? ⟨b,o+(k*sz+j),none⟩=c[j]? :=by
 obtain⟨cells,⟨hl,a,cap,hv,hn,hm,h0⟩,hr⟩:=h;refine⟨a,cap,hv,hn,hm,fun k x hk=> ?_⟩
 rcases h0 with h0 | ⟨b,o,ha,hb,hc⟩
 ·simp[List.eq_nil_of_length_eq_zero h0]at hk
 ·obtain⟨c,hcx,hj⟩:=hr.get hs hk;refine⟨b,o,c,ha,hb,hcx,hs c x hcx,fun j hjs=> ?_⟩;have hlt:j<c.length:=by rw[hs c x hcx]; exact hjs
  rw[List.getElem?_eq_getElem hlt];exact hc _ _ (by rw[hj j hjs,List.getElem?_eq_getElem hlt])
theorem aU.same (h:aU S w sz R v xs) (hs:gk S w w') (hR: ∀c x,x∈xs->R c x->R' c x):aU S w' sz R' v xs:=by
 obtain⟨cells,h1,h2⟩:=h;exact⟨cells,h1.same hs,h2.mono hR⟩
theorem aU.below (h:aU S w sz R v xs) (hsz:0<sz) (hb:Below w.heap.size w w') (hR: ∀c x,x∈xs->R c x->R' c x):aU S w' sz R' v xs:=by
 obtain⟨cells,h1,h2⟩:=h;exact⟨cells,h1.below hsz hb,h2.mono hR⟩
theorem aU.mono (h:aU S w sz R v xs) (hsz:0<sz) (hs: ∀k,k<w.heap.size->S k->T k) (hR: ∀c x,x∈xs->R c x->R' c x):aU T w sz R' v xs:=by
 obtain⟨cells,h1,h2⟩:=h;exact⟨cells,h1.mono hs hsz,h2.mono hR⟩
theorem aU.nil :aU S w sz R (.slice none 0 0) ([]:List α):=⟨[],aL.nil _ _ _,rfl⟩
end
theorem pN (b o n:Nat):(⟨b,o,none⟩:Addr).add n=⟨b,o+n,none⟩:=by unfold Addr.add; split<;> simp_all
open Go Go.RowKit
theorem pH {P:Program} {w:World} (base:Nat) (t ty e:TypeId) (i:TypeInfo) (size:Nat) (ht:P.underlying t=some (.slice e)) (hi:P.info? e=some i)
  (v:Value) (n:Nat) (xs:List Value) (hown:w.ownsRow base e size v n xs) (a:Option Addr) (c:Nat):
  (Builtin.append_ #[t,t] ty #[v, .slice a 0 c]).run P w= .ok v w:=by
 rcases hown.2 with⟨rfl,rfl⟩ | ⟨g,cap,cur,rfl,_,_,hnc,_⟩
 ·cases a<;> simp[Builtin.append_,run_underlying ht,sizeOf,typeInfo,hi,Builtin.lenOf,Builtin.firstCells,loadCells,loadCellsFrom]
 ·cases a<;> simp[Builtin.append_,run_underlying ht,sizeOf,typeInfo,hi,Builtin.lenOf,Builtin.firstCells,hnc,storeCells,loadCells,loadCellsFrom]
theorem bD {P:Program} {ops:Array Oper} {rest:List Oper} {o:Oper} {a:Act} {Q:Exit->Act->World->Prop} {w:World} {t e:TypeId} {sz bytes:Nat} {S:Nat->Prop} (T:eH P t e sz bytes) (hgd:o.guard=none) (s x:Operand)
  (ho:o.op= .call {callee:= .builtin .append,args:= #[s,x],argTypes:= #[t,t]}) (base:Nat) (v:Value) (n:Nat) (xs:List Value) (hs:a.eval s=v) (hown:w.ownsRow base e sz v n xs) (vx:Value) (m:Nat) (news:List Value)
  (hx:a.eval x=vx) (hrow:aL S w sz vx m news) (h1: ∀u∈news,u.oneCell'=true) (hn:n+m<1099511627775) (hbase:base<=w.heap.size)
  (h: ∀v' w',w'.ownsRow base e sz v' (n+m) (xs++news)->w.grownBy w' v.ownBlock->wpList P ops Q rest (a.put o.dst v') w'):wpList P ops Q (o::rest) a w:=by
 obtain⟨ht,⟨i,z,h11,h12,h13,h14,h15⟩,hpos,hsm⟩:=T;obtain⟨hl,ad,cap,rfl,_,_,h0⟩:=hrow;refine wpList_plain hgd fun K hK=> ?_
 have hz:m=0->o.wp P a w K Q:=by
  rintro rfl;have hn0:news=[]:=List.eq_nil_of_length_eq_zero (by rw[hl]; simp);subst hn0;have hrun:=pH (P:=P) (w:=w) base t o.type e i sz ht h11 v n xs hown ad cap;unfold Oper.wp execOp;simp only[ho,resolve,invoke,builtin,Sem.run_bind,Sem.run_pure,Result.andThen_ok,List.map_toArray,List.map_cons,List.map_nil,hs,hx,hrun];exact hK _ _ (h v w (by simpa using hown) ⟨rfl,rfl,rfl,Nat.le_refl _,fun _ _ _=>rfl⟩)
 rcases h0 with h0 | ⟨b,of,rfl,_,hc⟩
 ·exact hz h0
 ·have hnews: ∀(j:Nat) u,news[j]? =some u->w.cell? ((⟨b,of,none⟩:Addr).add j)=some u:=fun j u hj=>by rw[pN]; exact hc j u hj
  have h63:n+m<=maxLen:=by unfold maxLen; omega
  have hby:(n+m)*bytes<=140737488355328:=by
   have:(n+m)*bytes<=1099511627775*128:=Nat.mul_le_mul (by omega) hsm;omega
  obtain⟨v',w',hr,h2,hg,_⟩:=run_append_own (P:=P) w base t o.type e i z sz bytes ht h11 h12 h13 h14 h15 hpos v n xs hown ⟨b,of,none⟩ m cap news hl hnews h1 h63 hby hbase;unfold Oper.wp execOp;simp only[ho,resolve,invoke,builtin,Sem.run_bind,Sem.run_pure,Result.andThen_ok,List.map_toArray,List.map_cons,List.map_nil,hs,hx,hr];exact hK _ _ (h v' w' h2 hg)
end Go.Proofs.YtpffpjbkbaleiaaGreatDoor
namespace Go.Proofs.YtpffpjbkbaleiaaGreatDoor
open Go
section
variable {P : Program} {ops : Array Oper} {Q : Exit → Act → World → Prop} {S : World → Prop}
@[irreducible] def lI (P:Program) (ops:Array Oper) (Q:Exit->Act->World->Prop) (S:World->Prop) (fuel:Nat) (listed:Array Bool) (a:Act) (w:World):Prop:=wpAnyH P .any ops Q S fuel listed a w
theorem lI.of {fuel:Nat} {listed:Array Bool} {a:Act} {w:World} (h:wpAnyH P .any ops Q S fuel listed a w):lI P ops Q S fuel listed a w:=by unfold lI; exact h
theorem lI.out {fuel:Nat} {listed:Array Bool} {a:Act} {w:World} (h:lI P ops Q S fuel listed a w):wpAnyH P .any ops Q S fuel listed a w:=by unfold lI at h; exact h
theorem bE {id:Nat} {a:Act} {w:World} {l:List Oper} (S:World->Prop) (hm:P.follows .mixedOrders=true) (h:lI P l.toArray Q S l.length (Array.replicate l.length false) a w.drew):(Code.region id l.toArray true).wp P Q a w:=by
 refine wp_region_held (S:=S) hm ?_;have:=h.out
 simpa using this
theorem ay {dst:Option Tmp} {op:Op} {ty:TypeId} {pos:String} {aft:Array Edge} {g:Option (Nat×Bool)} {v:Value} {fuel:Nat} {listed:Array Bool} {a:Act} {w:World} (i:Nat) (hi:ops[i]? =some ⟨dst,op,ty,pos,aft,g⟩)
  (hs:Region.noSelect ops=true) (hf:Region.free .any ops listed i=true) (hr:(Region.ready .any ops listed).contains i=true)
  (hQ: ∀c a w,Q (.panic c) (a.put dst v) w->Q (.panic c) a w) (hw:Region.wanted ⟨dst,op,ty,pos,aft,g⟩ (yielded ops a.tmps)=true) (hS:S w)
  (hy: ∀w',S w'->(execOp a.eval ⟨dst,op,ty,pos,aft,g⟩).run P w'= .ok (.value v) w')
  (h:lI P ops Q S fuel (listed.setIfInBounds i true) (a.put dst v) w):lI P ops Q S (fuel+1) listed a w:=
 lI.of (wpAnyH_take (oi:=⟨dst,op,ty,pos,aft,g⟩) hi hs hf hr hQ (.inl ⟨hw,hy⟩) hS h.out)
theorem nu {dst:Option Tmp} {op:Op} {ty:TypeId} {pos:String} {aft:Array Edge} {g:Option (Nat×Bool)} {fuel:Nat} {listed:Array Bool} {a:Act} {w:World} (i:Nat) (hi:ops[i]? =some ⟨dst,op,ty,pos,aft,g⟩)
  (hs:Region.noSelect ops=true) (hf:Region.free .any ops listed i=true) (hr:(Region.ready .any ops listed).contains i=true)
  (hQ: ∀c a w,Q (.panic c) (a.put dst undef) w->Q (.panic c) a w) (hw:Region.wanted ⟨dst,op,ty,pos,aft,g⟩ (yielded ops a.tmps)=false) (hS:S w)
  (h:lI P ops Q S fuel (listed.setIfInBounds i true) (a.put dst undef) w):lI P ops Q S (fuel+1) listed a w:=
 lI.of (wpAnyH_take (oi:=⟨dst,op,ty,pos,aft,g⟩) hi hs hf hr hQ (.inr ⟨hw,rfl⟩) hS h.out)
theorem aJ {dst:Option Tmp} {op:Op} {ty:TypeId} {pos:String} {aft:Array Edge} {g:Option (Nat×Bool)} {v:Value} {fuel:Nat} {listed:Array Bool} {a:Act} {w:World} (hi:ops[ops.size-(fuel+1)]? =some ⟨dst,op,ty,pos,aft,g⟩)
  (hk:(Region.noSelect ops && Region.free .any ops listed (ops.size-(fuel+1)) && (Region.ready .any ops listed).contains (ops.size-(fuel+1)))=true)
  (hQ: ∀c a w,Q (.panic c) (a.put dst v) w->Q (.panic c) a w) (hw:Region.wanted ⟨dst,op,ty,pos,aft,g⟩ (yielded ops a.tmps)=true) (hS:S w)
  (hy: ∀w',S w'->(execOp a.eval ⟨dst,op,ty,pos,aft,g⟩).run P w'= .ok (.value v) w')
  (h:lI P ops Q S fuel (listed.setIfInBounds (ops.size-(fuel+1)) true) (a.put dst v) w):lI P ops Q S (fuel+1) listed a w:=by
 rw[Bool.and_eq_true,Bool.and_eq_true]at hk;exact ay _ hi hk.1.1 hk.1.2 hk.2 hQ hw hS hy h
theorem Ja {dst:Option Tmp} {op:Op} {ty:TypeId} {pos:String} {aft:Array Edge} {g:Option (Nat×Bool)} {fuel:Nat} {listed:Array Bool} {a:Act} {w:World} (hi:ops[ops.size-(fuel+1)]? =some ⟨dst,op,ty,pos,aft,g⟩)
  (hk:(Region.noSelect ops && Region.free .any ops listed (ops.size-(fuel+1)) && (Region.ready .any ops listed).contains (ops.size-(fuel+1)))=true)
  (hQ: ∀c a w,Q (.panic c) (a.put dst undef) w->Q (.panic c) a w) (hw:Region.wanted ⟨dst,op,ty,pos,aft,g⟩ (yielded ops a.tmps)=false) (hS:S w)
  (h:lI P ops Q S fuel (listed.setIfInBounds (ops.size-(fuel+1)) true) (a.put dst undef) w):lI P ops Q S (fuel+1) listed a w:=by
 rw[Bool.and_eq_true,Bool.and_eq_true]at hk;exact nu _ hi hk.1.1 hk.1.2 hk.2 hQ hw hS h
theorem an {dst:Option Tmp} {op:Op} {ty:TypeId} {pos:String} {aft:Array Edge} {g:Option (Nat×Bool)} {fuel:Nat} {listed:Array Bool} {a:Act} {w:World} (i:Nat) (hi:ops[i]? =some ⟨dst,op,ty,pos,aft,g⟩) (hr:Region.ready .any ops listed=[i])
  (hw:Region.wanted ⟨dst,op,ty,pos,aft,g⟩ (yielded ops a.tmps)=true)
  (h: ∀K:Act->World->Prop,(∀a w,S w/\lI P ops Q S fuel (listed.setIfInBounds i true) a w->K a w)->wpList P #[] (Exit.then K Q) [⟨dst,op,ty,pos, #[],none⟩] a w):lI P ops Q S (fuel+1) listed a w:=by
 refine lI.of (wpAnyH_all hr (by simp) fun j hj=> ?_);have hji:j=i:=by simpa using hj
 subst hji;have hb:sq P ops (fun a' w'=>S w'/\wpAnyH P .any ops Q S fuel (listed.setIfInBounds j true) a' w') Q [⟨dst,op,ty,pos,aft,g⟩] a w:=
  bJ hw (fun K hK=>h K (fun a w hh=>hK a w ⟨hh.1,hh.2.out⟩))
 unfold wpOp;simp only[hi];exact sq.out hb
theorem aM {listed:Array Bool} {a:Act} {w:World} {fuel:Nat} (hr:Region.ready .any ops listed=[]) (h:Q .normal a w):lI P ops Q S fuel listed a w:=lI.of (wpAnyH_done hr h fuel)
end
end Go.Proofs.YtpffpjbkbaleiaaGreatDoor
namespace Go.Proofs.YtpffpjbkbaleiaaGreatDoor
open Go.RowKit
theorem aB {w:World} {b k:Nat} {cs:Array Value} {t:TypeId} {z:Nat×Nat} (h:w.heap[b]? =some (.cells cs t z)):w.cell? ⟨b,k,none⟩=cs[k]? :=by simp[World.cell?,h]
theorem ah {w:World} {b k:Nat} {cs:Array Value} {t:TypeId} (h:w.heap[b]? =some (.cells cs t (0,0))):w.frozen? ⟨b,k,none⟩=false:=by simp[World.frozen?,h]
def ak (b:UInt8):Value:= .int .u8 (b.toNat:Int)
structure aX (w : World) (rb : Nat) (v : Value) (data : List UInt8) (off last : Nat) (err : Int) : Prop where
 box:w.heap[rb]? =some (.cells #[v, .int .i64 (off:Int), .int .i64 (last:Int), .int .i64 err] 165 (0,0))
 row:aL (· ≠rb) w 1 v data.length (data.map ak)
 le:off<=data.length
 ls:last<=data.length
 small:data.length<=32768
theorem Iq {w:World} {b:Nat} {a0 a1 a2 a3 x:Value} {t:TypeId} (h:w.heap[b]? =some (.cells #[a0,a1,a2,a3] t (0,0))):(w.setCell ⟨b,1,none⟩ x).heap[b]? =some (.cells #[a0,x,a2,a3] t (0,0)):=by
 simp only[World.setCell,Array.getElem?_modify,if_true,h,Option.map_some]; rfl
theorem Ir {w:World} {b:Nat} {a0 a1 a2 a3 x:Value} {t:TypeId} (h:w.heap[b]? =some (.cells #[a0,a1,a2,a3] t (0,0))):(w.setCell ⟨b,2,none⟩ x).heap[b]? =some (.cells #[a0,a1,x,a3] t (0,0)):=by
 simp only[World.setCell,Array.getElem?_modify,if_true,h,Option.map_some]; rfl
theorem Is {w:World} {b:Nat} {a0 a1 a2 a3 x:Value} {t:TypeId} (h:w.heap[b]? =some (.cells #[a0,a1,a2,a3] t (0,0))):(w.setCell ⟨b,3,none⟩ x).heap[b]? =some (.cells #[a0,a1,a2,x] t (0,0)):=by
 simp only[World.setCell,Array.getElem?_modify,if_true,h,Option.map_some]; rfl
theorem aX.c0 {w:World} {rb:Nat} {v:Value} {data:List UInt8} {off last:Nat} {err:Int} (h:aX w rb v data off last err):w.cell? ⟨rb,0,none⟩=some v:=by rw[aB h.box]; rfl
theorem aX.c1 {w:World} {rb:Nat} {v:Value} {data:List UInt8} {off last:Nat} {err:Int} (h:aX w rb v data off last err):w.cell? ⟨rb,1,none⟩=some (.int .i64 (off:Int)):=by rw[aB h.box]; rfl
theorem aX.c2 {w:World} {rb:Nat} {v:Value} {data:List UInt8} {off last:Nat} {err:Int} (h:aX w rb v data off last err):w.cell? ⟨rb,2,none⟩=some (.int .i64 (last:Int)):=by rw[aB h.box]; rfl
theorem aX.c3 {w:World} {rb:Nat} {v:Value} {data:List UInt8} {off last:Nat} {err:Int} (h:aX w rb v data off last err):w.cell? ⟨rb,3,none⟩=some (.int .i64 err):=by rw[aB h.box]; rfl
theorem aX.free {w:World} {rb:Nat} {v:Value} {data:List UInt8} {off last:Nat} {err:Int} (h:aX w rb v data off last err) (k:Nat):w.frozen? ⟨rb,k,none⟩=false:=ah h.box
theorem aX.set1 {w:World} {rb:Nat} {v:Value} {data:List UInt8} {off last:Nat} {err:Int} (h:aX w rb v data off last err) (o:Nat) (ho:o<=data.length):aX (w.setCell ⟨rb,1,none⟩ (.int .i64 (o:Int))) rb v data o last err:=
 ⟨Iq h.box,h.row.same (fun _ hk=>Below.heap_setCell _ _ _ _ hk),ho,h.ls,h.small⟩
theorem aX.set2 {w:World} {rb:Nat} {v:Value} {data:List UInt8} {off last:Nat} {err:Int} (h:aX w rb v data off last err) (o:Nat) (ho:o<=data.length):aX (w.setCell ⟨rb,2,none⟩ (.int .i64 (o:Int))) rb v data off o err:=
 ⟨Ir h.box,h.row.same (fun _ hk=>Below.heap_setCell _ _ _ _ hk),h.le,ho,h.small⟩
theorem aX.set3 {w:World} {rb:Nat} {v:Value} {data:List UInt8} {off last:Nat} {err:Int} (h:aX w rb v data off last err) (e:Int):aX (w.setCell ⟨rb,3,none⟩ (.int .i64 e)) rb v data off last e:=
 ⟨Is h.box,h.row.same (fun _ hk=>Below.heap_setCell _ _ _ _ hk),h.le,h.ls,h.small⟩
theorem aX.lt {w:World} {rb:Nat} {v:Value} {data:List UInt8} {off last:Nat} {err:Int} (h:aX w rb v data off last err):rb<w.heap.size:=lt_of_block h.box
theorem aX.below {w w':World} {rb:Nat} {v:Value} {data:List UInt8} {off last:Nat} {err:Int} (h:aX w rb v data off last err) (hb:Below w.heap.size w w'):aX w' rb v data off last err:=
 ⟨by rw[hb.block _ h.lt]; exact h.box,h.row.below (by omega) hb,h.le,h.ls,h.small⟩
theorem aN (w:World) (b o:Nat) (x:Value):w.grownBy (w.setCell ⟨b,o,none⟩ x) (some b):=
 ⟨rfl,rfl,rfl,by simp[World.setCell],fun k hk hne=>Below.heap_setCell _ _ _ _ (fun e=>hne (by simpa using e))⟩
theorem aG {a b c:World} {r:Option Nat} (h:a.grownBy b r) (k:b.grownBy c r):a.grownBy c r:=
 ⟨k.os.trans h.os,k.tape.trans h.tape,k.output.trans h.output,Nat.le_trans h.size k.size,fun i hi hne=>(k.block i (Nat.lt_of_lt_of_le hi h.size) hne).trans (h.block i hi hne)⟩
theorem ka (w:World) (r:Option Nat):w.grownBy w r:=⟨rfl,rfl,rfl,Nat.le_refl _,fun _ _ _=>rfl⟩
theorem aX.draws {w:World} {rb:Nat} {v:Value} {data:List UInt8} {off last:Nat} {err:Int} (h:aX w rb v data off last err) (n:Nat):aX (w.drewN n) rb v data off last err:=h.below (cw (Below.refl _ _) n)
theorem cz {a w:World} {r:Option Nat} (h:a.grownBy w r) (n:Nat):a.grownBy (w.drewN n) r:=aG h ⟨rfl,rfl,rfl,Nat.le_refl _,fun _ _ _=>rfl⟩
theorem aX.shape {w:World} {rb:Nat} {v:Value} {data:List UInt8} {off last:Nat} {err:Int} (h:aX w rb v data off last err): ∃a cap,v= .slice a data.length cap/\data.length<=cap/\cap<=maxLen/\
  ∀(k:Nat) b,data[k]? =some b-> ∃bk o,a=some ⟨bk,o,none⟩/\bk≠rb/\w.cell? ⟨bk,o+k,none⟩=some (ak b):=by
 obtain⟨_,a,cap,hv,hn,hm,h0⟩:=h.row;refine⟨a,cap,hv,hn,hm,fun k b hk=> ?_⟩
 rcases h0 with h0 | ⟨bk,o,ha,hb,hc⟩
 ·simp[List.eq_nil_of_length_eq_zero h0]at hk
 ·exact⟨bk,o,ha,hb,hc k _ (by simp[hk])⟩
def xK (m:Nat) (b:UInt8) (k:Nat):Nat:=m ||| (b.toNat%128*2^(7*k)%18446744073709551616)
theorem vw {m:Nat} (b:UInt8) (k:Nat) (h:m<18446744073709551616):xK m b k<18446744073709551616:=by
 unfold xK;exact Nat.or_lt_two_pow (n:=64) h (Nat.mod_lt _ (by decide))
theorem CW (m:Nat) (b:UInt8) (k:Nat) (h:m<18446744073709551616):bits BinOp.or IntKind.u64 (m:Int) (IntKind.u64.wrap (IntKind.u64.wrap (bits BinOp.and IntKind.u8 (b.toNat:Int) 127)*2^(7*k)))=(xK m b k:Int):=by
 have hb:=b.toNat_lt;rw[show(127:Int)=((127:Nat):Int)from rfl,u8_and_nat _ _ hb (by omega),show(127:Nat)=2^7-1 from rfl,Nat.and_two_pow_sub_one_eq_mod,IntKind.wrap_u64,IntKind.wrap_u64,
  show((2:Int)^(7*k))=((2^(7*k):Nat):Int) by push_cast; rfl]
 have e:((((b.toNat%2^7:Nat):Int)%18446744073709551616)*((2^(7*k):Nat):Int))%18446744073709551616=((b.toNat%128*2^(7*k)%18446744073709551616:Nat):Int):=by
  rw[show(((b.toNat%2^7:Nat):Int)%18446744073709551616)=((b.toNat%128:Nat):Int) by omega]
  show _%((18446744073709551616:Nat):Int)=_
  rw[<-Int.natCast_mul,<-Int.natCast_emod]
 rw[e,bits_or_u64_nat _ _ h (Nat.mod_lt _ (by decide))]; rfl
def oA (b:UInt8) (k:Nat):Bool:=(decide (0<k) && decide (b.toNat=0)) || (decide (k=9) && decide (1<b.toNat))
def kn (data:List UInt8):Nat->Nat->Nat->Nat->Except Int (Nat×Nat)
 | 0,_,_,_=> .error 3
 | f+1,k,o,m=>match data[o]? with
  | none=> .error 3
  | some b=>if 128<=b.toNat then kn data f (k+1) (o+1) (xK m b k)else if oA b k then .error 3 else .ok (xK m b k,o+1)
def km (data:List UInt8) (off:Nat):Except Int (Nat×Nat):=kn data 10 0 off 0
theorem CV {data:List UInt8} {f k o m:Nat} {b:UInt8} (h:data[o]? =some b) (h2:128<=b.toNat):kn data (f+1) k o m=kn data f (k+1) (o+1) (xK m b k):=by
 rw[kn,h]; simp only[if_pos h2]
theorem xI {data:List UInt8} {f k o m:Nat} {b:UInt8} (h:data[o]? =some b) (h2: ¬128<=b.toNat) (h3:oA b k=true):kn data (f+1) k o m= .error 3:=by
 rw[kn,h]; simp only[if_neg h2,if_pos h3]
theorem Ib {data:List UInt8} {f k o m:Nat} {b:UInt8} (h:data[o]? =some b) (h2: ¬128<=b.toNat) (h3:oA b k=false):kn data (f+1) k o m= .ok (xK m b k,o+1):=by
 rw[kn,h]; simp only[if_neg h2,h3]; rfl
theorem Fq {data:List UInt8} {f k o m:Nat} (h:data.length<=o):kn data f k o m= .error 3:=by
 cases f with
 | zero=>rfl
 | succ f=>rw[kn,List.getElem?_eq_none h]
theorem ub (data:List UInt8): ∀(f k o m n o':Nat),m<18446744073709551616->kn data f k o m= .ok (n,o')->n<18446744073709551616/\o<o'/\o'<=data.length
 | 0,_,_,_,_,_,_,h=>by simp[kn]at h
 | f+1,k,o,m,n,o',hm,h=>by
  rw[kn]at h
  cases hd:data[o]? with
  | none=>rw[hd]at h; simp at h
  | some b=>
   have hl:=(List.getElem?_eq_some_iff.1 hd).1;rw[hd]at h;simp only at h
   split at h
   ·obtain⟨h1,h2,h3⟩:=ub data f (k+1) (o+1) _ n o' (vw b k hm) h;exact⟨h1,by omega,h3⟩
   ·split at h
    ·simp at h
    ·simp only[Except.ok.injEq,Prod.mk.injEq]at h;obtain⟨rfl,rfl⟩:=h;exact⟨vw b k hm,by omega,by omega⟩
theorem ua {data:List UInt8} {off n o':Nat} (h:km data off= .ok (n,o')):n<18446744073709551616/\off<o'/\o'<=data.length:=ub data 10 0 off 0 n o' (by decide) h
theorem xJ (data:List UInt8): ∀(f k o m:Nat) (x:Int),kn data f k o m= .error x->x=3
 | 0,_,_,_,_,h=>by simp only[kn,Except.error.injEq]at h; exact h.symm
 | f+1,k,o,m,x,h=>by
  rw[kn]at h
  split at h
  ·simp only[Except.error.injEq]at h; exact h.symm
  ·split at h
   ·exact xJ data f _ _ _ x h
   ·split at h
    ·simp only[Except.error.injEq]at h; exact h.symm
    ·simp at h
theorem ro {data:List UInt8} {off:Nat} {x:Int} (h:km data off= .error x):x=3:=xJ data 10 0 off 0 x h
def Gp (kd:IntKind) (w:World) (rb:Nat) (v:Value) (data:List UInt8) (last:Nat) (err:Int) (r:Except Int (Nat×Nat)) (e:Ending) (w':World):Prop:=
 ∃o',aX w' rb v data o' last err/\w.grownBy w' (some rb)/\match r with
  | .ok (n,o)=>e= .returned (.tuple #[.int kd (n:Int), .int .i64 0])/\o'=o
  | .error x=>e= .returned (.tuple #[.int kd 0, .int .i64 x])
theorem rp (rb:Nat) (v:Value) (data:List UInt8) (off last:Nat) (err:Int) (w:World) (hr:aX w rb v data off last err):
  Calls Tryz.prog 112 #[.pointer (some ⟨rb,0,none⟩)] w (Gp .u64 w rb v data last err (km data off)):=by
 obtain⟨a,cap,rfl,hc,hcm,-⟩:=hr.shape;unfold maxLen at hcm;have HR:=aa hr;clear hr
 go_enter Tryz.func112,Tryz.ntmps112
 go_wp2_with fail
 go_loopw [2,6] (fun n i wr=> ∃(k o m:Nat),k<=10/\i= .int .i64 k/\n= .int .u64 (m:Int)/\m<18446744073709551616/\aX wr rb (.slice a data.length cap) data o last err/\w.grownBy wr (some rb)/\kn data 10 0 off 0=kn data (10-k) k o m) (fun _ i _=>10-(intOf i).toNat)
 case atStart=>exact⟨0,off,0,Nat.zero_le _,rfl,rfl,by decide,HR.o,ka _ _,rfl⟩
 case round=>
  obtain⟨k,o,m,hk,rfl,rfl,hm,hrd,hg,hn⟩:=hrel;have HRD:=aa hrd;have HG:=aa hg;have HN:=aa hn;have HM:=aa hm;have hle:=hrd.le;have hsm:=hrd.small;have c0:=hrd.c0;have c1:=hrd.c1;have f1:=hrd.free 1;clear hg hn hm
  by_cases hlt:k<10
  ·obtain⟨f,hf⟩: ∃f,10-k=f+1:=⟨9-k,by omega⟩
   by_cases hol:o<data.length
   ·obtain⟨b,hb⟩: ∃b,data[o]? =some b:=⟨data[o],by simp[hol]⟩;have hb8:=b.toNat_lt;obtain⟨a2,cap2,hv2,_,_,hcell⟩:=hrd.shape
    cases hv2
    obtain⟨bk,ok,rfl,hbk,hcl⟩:=hcell o b hb;have HBB:=aa hb;clear hrd hcell hb;rw[hf]at HN;have hbits:=CW m b k HM.o
    by_cases h128:128<=b.toNat
    ·go_wp2_with fail
     go_quiet (fail)
     go_wp2_with fail;clear c0 c1 f1;obtain⟨W,hWe⟩: ∃W,W=wr.drewN nq:=⟨_,rfl⟩;have hWr:=HRD.o.draws nq;have hWg:=cz HG.o nq
     try rw[<-hWe]
     rw[<-hWe]at hWr hWg;clear HRD HG hWe;have HRD:=aa hWr;have HG:=aa hWg;have c0:=hWr.c0;have c1:=hWr.c1;have f1:=hWr.free 1;clear hWr hWg;have hcl2:W.cell? ⟨bk,ok+o,none⟩=some (.int .u8 (b.toNat:Int)):=by
      obtain⟨a2,cap2,hv2,_,_,hcell⟩:=HRD.o.shape
      cases hv2
      obtain⟨bk,ok,e,hbk,hcl⟩:=hcell o b HBB.o
      cases e
      exact hcl
     clear hcl
     go_quiet (fail)
     go_wp2_with fail;have h1:=(HRD.o.draws nq).set1 (o+1) (by omega);refine⟨⟨k+1,o+1,xK m b k,by omega,by go_num,rfl,vw b k HM.o,h1,aG (cz HG.o nq) (aN _ _ _ _), ?_⟩,by simp[intOf]; omega⟩;rw[HN.o,CV HBB.o h128]
     congr 1; omega
    ·cases hbad:oA b k
     ·have HBD:=aa hbad;simp only[oA,Bool.or_eq_false_iff,Bool.and_eq_false_iff,decide_eq_false_iff_not]at hbad;obtain⟨hb1,hb2⟩:=hbad;have HD:=aa (show k=0\/(k=9/\b.toNat<=1/\b.toNat≠0)\/(0<k/\k<9/\b.toNat≠0) by omega);clear hb1 hb2;go_wp2_with fail
      go_quiet (fail)
      go_wp2_with fail;clear c0 c1 f1;obtain⟨W,hWe⟩: ∃W,W=wr.drewN nq:=⟨_,rfl⟩;have hWr:=HRD.o.draws nq;have hWg:=cz HG.o nq
      try rw[<-hWe]
      rw[<-hWe]at hWr hWg;clear HRD HG hWe;have HRD:=aa hWr;have HG:=aa hWg;have c0:=hWr.c0;have c1:=hWr.c1;have f1:=hWr.free 1;clear hWr hWg;have hcl2:W.cell? ⟨bk,ok+o,none⟩=some (.int .u8 (b.toNat:Int)):=by
       obtain⟨a2,cap2,hv2,_,_,hcell⟩:=HRD.o.shape
       cases hv2
       obtain⟨bk,ok,e,hbk,hcl⟩:=hcell o b HBB.o
       cases e
       exact hcl
      clear hcl
      go_quiet (fail)
      go_wp2_with fail
      all_goals first
       | (exfalso; have hd:=HD.o; omega)
       | (exfalso; have hd:=HD.o; rename_i hor; rcases hor with hor | hor<;> first | omega | (rw[beq_iff_eq]at hor; omega))
       | (
        go_ret2
        have h1:=(HRD.o.draws nq).set1 (o+1) (by omega);refine⟨o+1,h1,aG (cz HG.o nq) (aN _ _ _ _), ?_⟩;rw[km,HN.o];rw[Ib HBB.o h128 HBD.o];exact⟨rfl,rfl⟩)
     ·have HBD:=aa hbad;simp only[oA,Bool.or_eq_true,Bool.and_eq_true,decide_eq_true_eq]at hbad
      rcases hbad with⟨h0,hz⟩ | ⟨rfl,h1⟩
      ·go_wp2_with fail
       go_quiet (fail)
       go_wp2_with fail;clear c0 c1 f1;obtain⟨W,hWe⟩: ∃W,W=wr.drewN nq:=⟨_,rfl⟩;have hWr:=HRD.o.draws nq;have hWg:=cz HG.o nq
       try rw[<-hWe]
       rw[<-hWe]at hWr hWg;clear HRD HG hWe;have HRD:=aa hWr;have HG:=aa hWg;have c0:=hWr.c0;have c1:=hWr.c1;have f1:=hWr.free 1;clear hWr hWg;have hcl2:W.cell? ⟨bk,ok+o,none⟩=some (.int .u8 (b.toNat:Int)):=by
        obtain⟨a2,cap2,hv2,_,_,hcell⟩:=HRD.o.shape
        cases hv2
        obtain⟨bk,ok,e,hbk,hcl⟩:=hcell o b HBB.o
        cases e
        exact hcl
       clear hcl
       go_quiet (fail)
       go_wp2_with fail
       all_goals (
        go_ret2
        have h1:=(HRD.o.draws nq).set1 (o+1) (by omega);refine⟨o+1,h1,aG (cz HG.o nq) (aN _ _ _ _), ?_⟩;rw[km,HN.o];rw[xI HBB.o h128 HBD.o]
        try rfl)
      ·go_wp2_with fail
       go_quiet (fail)
       go_wp2_with fail;clear c0 c1 f1;obtain⟨W,hWe⟩: ∃W,W=wr.drewN nq:=⟨_,rfl⟩;have hWr:=HRD.o.draws nq;have hWg:=cz HG.o nq
       try rw[<-hWe]
       rw[<-hWe]at hWr hWg;clear HRD HG hWe;have HRD:=aa hWr;have HG:=aa hWg;have c0:=hWr.c0;have c1:=hWr.c1;have f1:=hWr.free 1;clear hWr hWg;have hcl2:W.cell? ⟨bk,ok+o,none⟩=some (.int .u8 (b.toNat:Int)):=by
        obtain⟨a2,cap2,hv2,_,_,hcell⟩:=HRD.o.shape
        cases hv2
        obtain⟨bk,ok,e,hbk,hcl⟩:=hcell o b HBB.o
        cases e
        exact hcl
       clear hcl
       go_quiet (fail)
       go_wp2_with fail
       all_goals (
        go_ret2
        have h1:=(HRD.o.draws nq).set1 (o+1) (by omega);refine⟨o+1,h1,aG (cz HG.o nq) (aN _ _ _ _), ?_⟩;rw[km,HN.o];rw[xI HBB.o h128 HBD.o]
        try rfl)
   ·obtain rfl:o=data.length:=by omega
    go_wp2_with fail
    go_quiet (fail)
    go_wp2_with fail
    go_ret2
    exact⟨data.length,HRD.o.draws nq,cz HG.o nq,by rw[km,HN.o,Fq (Nat.le_refl _)]; rfl⟩
  ·obtain rfl:k=10:=by omega
   go_wp2_with fail
   go_ret2
   exact⟨o,HRD.o,HG.o,by rw[km,HN.o]; rfl⟩
def iL (data:List UInt8) (off most:Nat):Except Int (Nat×Nat):=match km data off with
 | .error x=> .error x
 | .ok (n,o)=>if most<n then .error 2 else .ok (n,o)
theorem oy {data:List UInt8} {off most n o':Nat} (h:iL data off most= .ok (n,o')):n<=most/\off<o'/\o'<=data.length:=by
 unfold iL at h
 cases hn:km data off with
 | error x=>rw[hn]at h; simp at h
 | ok p=>
  obtain⟨m,o⟩:=p;rw[hn]at h;simp only at h
  split at h
  ·simp at h
  ·simp only[Except.ok.injEq,Prod.mk.injEq]at h;obtain⟨rfl,rfl⟩:=h;have:=ua hn;omega
theorem xt {data:List UInt8} {off most:Nat} {x:Int} (h:iL data off most= .error x):x=3\/x=2:=by
 unfold iL at h
 split at h
 ·rename_i y hy;simp only[Except.error.injEq]at h;exact .inl (h▸ro hy)
 ·split at h
  ·simp only[Except.error.injEq]at h; exact .inr h.symm
  ·simp at h
theorem pn (rb:Nat) (v:Value) (data:List UInt8) (off last most:Nat) (err:Int) (w:World) (hr:aX w rb v data off last err) (hm:most<=2000000):
  Calls Tryz.prog 107 #[.pointer (some ⟨rb,0,none⟩), .int .i64 (most:Int)] w (Gp .i64 w rb v data last err (iL data off most)):=by
 have HR:=aa hr;clear hr
 go_enter Tryz.func107,Tryz.ntmps107
 go_wp2_with fail;refine(rp rb v data off last err w HR.o).mono ?_;rintro e w1 ⟨o',hr1,hg1,hres⟩;have HR1:=aa hr1;have HG1:=aa hg1;clear hr1 hg1
 cases hn:km data off with
 | error x=>
  have hx:x=3:=ro hn;subst hx;have HL:=aa (show iL data off most= .error 3 by unfold iL; rw[hn]);rw[hn]at hres;simp only at hres;subst hres;clear hn;go_wp2_with fail
  go_ret2
  exact⟨o',HR1.o,HG1.o,by rw[HL.o]; rfl⟩
 | ok p=>
  obtain⟨n,o⟩:=p;have hsp:=ua hn;have HN:=aa hn;rw[hn]at hres;simp only at hres;obtain⟨rfl,rfl⟩:=hres;clear hn;have hmax:max (most:Int) 0=(most:Int):=by omega
  by_cases hlt:most<n
  ·have HL:=aa (show iL data off most= .error 2 by unfold iL; rw[HN.o]; simp only[if_pos hlt]);go_wp2_with fail
   go_ret2
   exact⟨o',HR1.o,HG1.o,by rw[HL.o]; rfl⟩
  ·have HL:=aa (show iL data off most= .ok (n,o') by unfold iL; rw[HN.o]; simp only[if_neg hlt]);go_wp2_with fail
   go_ret2
   exact⟨o',HR1.o,HG1.o,by rw[HL.o]; exact⟨rfl,rfl⟩⟩
def fw (data:List UInt8) (off n:Nat):Except Int (List UInt8×Nat):=if data.length-off<n then .error 3 else .ok ((data.drop off).take n,off+n)
def eN (data:List UInt8) (off most:Nat):Except Int (List UInt8×Nat):=match iL data off most with
 | .error x=> .error x
 | .ok (n,o)=>fw data o n
def AH (w:World) (rb:Nat) (v:Value) (bs:List UInt8):Prop:= ∃bk o c,v= .slice (some ⟨bk,o,none⟩) bs.length c/\bs.length<=c/\bk≠rb/\ ∀(j:Nat) b,bs[j]? =some b->w.cell? ⟨bk,o+j,none⟩=some (ak b)
def Jq (w:World) (rb:Nat) (v:Value) (data:List UInt8) (last:Nat) (err:Int) (r:Except Int (List UInt8×Nat)) (e:Ending) (w':World):Prop:=
 ∃o',aX w' rb v data o' last err/\w.grownBy w' (some rb)/\match r with
  | .ok (bs,o)=>(∃pv,e= .returned (.tuple #[pv, .int .i64 0])/\AH w' rb pv bs)/\o'=o
  | .error x=>e= .returned (.tuple #[.slice none 0 0, .int .i64 x])
theorem FU {data:List UInt8} {off n j:Nat} {b:UInt8} (h:((data.drop off).take n)[j]? =some b):data[off+j]? =some b:=by
 rw[List.getElem?_take]at h
 split at h
 ·rw[List.getElem?_drop]at h; exact h
 ·simp at h
theorem yw (rb:Nat) (v:Value) (data:List UInt8) (off last n:Nat) (err:Int) (w:World) (hr:aX w rb v data off last err) (hn:n<=2000000) (hpos:0<data.length\/0<n):
  Calls Tryz.prog 141 #[.pointer (some ⟨rb,0,none⟩), .int .i64 (n:Int)] w (Jq w rb v data last err (fw data off n)):=by
 have HRD:=aa hr;have HG:=aa (ka w (some rb));obtain⟨a,cap,rfl,hc,hcm,hcell⟩:=hr.shape;unfold maxLen at hcm;have c0:=hr.c0;have c1:=hr.c1;have f1:=hr.free 1;have hle:=hr.le;have hsm:=hr.small
 by_cases hlt:data.length-off<n
 ·have HT:=aa (show fw data off n= .error 3 by unfold fw; rw[if_pos hlt]);clear hr hcell
  go_enter Tryz.func141,Tryz.ntmps141
  go_wp2_with fail
  go_quiet (fail)
  go_wp2_with fail
  go_ret2
  exact⟨off,HRD.o.draws nq,cz HG.o nq,by rw[HT.o]; rfl⟩
 ·have hdl:0<data.length:=by omega
  obtain⟨bk,ok,rfl,hbk,-⟩:=hcell 0 data[0] (by simp);have HT:=aa (show fw data off n= .ok ((data.drop off).take n,off+n) by unfold fw; rw[if_neg hlt]);have hlen:((data.drop off).take n).length=n:=by simp; omega
  have HLN:=aa hlen;clear hr hcell hlen
  by_cases hoc:off<cap
  ·go_enter Tryz.func141,Tryz.ntmps141
   go_wp2_with fail
   go_quiet (fail)
   go_wp2_with fail;clear c0 c1 f1;obtain⟨W,hWe⟩: ∃W,W=w.drewN nq:=⟨_,rfl⟩;have hWr:=HRD.o.draws nq;have hWg:=cz HG.o nq
   try rw[<-hWe]
   rw[<-hWe]at hWr hWg;clear HRD HG hWe;have HRD:=aa hWr;have HG:=aa hWg;have c0:=hWr.c0;have c1:=hWr.c1;have f1:=hWr.free 1;clear hWr hWg
   go_quiet (fail)
   go_wp2_with fail
   go_ret2
   have h1:=(HRD.o.draws nq).set1 (off+n) (by omega);rw[Int.natCast_add]at h1;refine⟨off+n,h1,aG (cz HG.o nq) (aN _ _ _ _), ?_⟩;rw[HT.o];refine⟨⟨_,rfl,bk,ok+off,cap-off, ?_, ?_,hbk,fun j b hj=> ?_⟩,rfl⟩
   ·rw[HLN.o]; show Value.slice _ (off+n-off) _=_; rw[Nat.add_sub_cancel_left]
   ·rw[HLN.o]; omega
   ·obtain⟨a2,cap2,hv2,_,_,hcell⟩:=h1.shape
    cases hv2
    obtain⟨bk2,ok2,e,hbk2,hcl⟩:=hcell (off+j) b (FU hj)
    cases e
    rw[Nat.add_assoc]; exact hcl
  ·obtain rfl:off=cap:=by omega
   obtain rfl:n=0:=by omega
   go_enter Tryz.func141,Tryz.ntmps141
   go_wp2_with fail
   go_quiet (fail)
   go_wp2_with fail;clear c0 c1 f1;obtain⟨W,hWe⟩: ∃W,W=w.drewN nq:=⟨_,rfl⟩;have hWr:=HRD.o.draws nq;have hWg:=cz HG.o nq
   try rw[<-hWe]
   rw[<-hWe]at hWr hWg;clear HRD HG hWe;have HRD:=aa hWr;have HG:=aa hWg;have c0:=hWr.c0;have c1:=hWr.c1;have f1:=hWr.free 1;clear hWr hWg
   go_quiet (fail)
   go_wp2_with fail
   go_ret2
   have h1:=(HRD.o.draws nq).set1 off (by omega);refine⟨off,h1,aG (cz HG.o nq) (aN _ _ _ _), ?_⟩;rw[HT.o];exact⟨⟨_,rfl,bk,ok,0,by rw[HLN.o]; rfl,by rw[HLN.o]; exact Nat.le_refl _,hbk,fun j b hj=>by simp at hj⟩,rfl⟩
theorem Cd (rb:Nat) (v:Value) (data:List UInt8) (off last most:Nat) (err:Int) (w:World) (hr:aX w rb v data off last err) (hm:most<=2000000):
  Calls Tryz.prog 110 #[.pointer (some ⟨rb,0,none⟩), .int .i64 (most:Int)] w (Jq w rb v data last err (eN data off most)):=by
 have HR:=aa hr;clear hr
 go_enter Tryz.func110,Tryz.ntmps110
 go_wp2_with fail;refine(pn rb v data off last most err w HR.o hm).mono ?_;rintro e w1 ⟨o',hr1,hg1,hres⟩;have HR1:=aa hr1;have HG1:=aa hg1;clear hr1 hg1
 cases hn:iL data off most with
 | error x=>
  have hx:x=3\/x=2:=xt hn;have HL:=aa (show eN data off most= .error x by unfold eN; rw[hn]);rw[hn]at hres;simp only at hres;subst hres;clear hn
  rcases hx with rfl | rfl
  ·go_wp2_with fail
   go_ret2
   exact⟨o',HR1.o,HG1.o,by rw[HL.o]; rfl⟩
  ·go_wp2_with fail
   go_ret2
   exact⟨o',HR1.o,HG1.o,by rw[HL.o]; rfl⟩
 | ok p=>
  obtain⟨n,o⟩:=p;have hsp:=oy hn;have HL:=aa (show eN data off most=fw data o n by unfold eN; rw[hn]);rw[hn]at hres;simp only at hres;obtain⟨rfl,rfl⟩:=hres;clear hn;go_wp2_with fail;refine(yw rb v data o' last n err w1 HR1.o (by omega) (.inl (by omega))).mono ?_;rintro e w2 ⟨o2,hr2,hg2,hres⟩;have HR2:=aa hr2;have HG2:=aa (aG HG1.o hg2);clear hr2 hg2
  cases ht:fw data o' n with
  | error x=>
   have HT:=aa ht;rw[ht]at hres;simp only at hres;subst hres;clear ht;go_wp2_with fail
   go_ret2
   exact⟨o2,HR2.o,HG2.o,by rw[HL.o,HT.o]; rfl⟩
  | ok p=>
   obtain⟨bs,o3⟩:=p;have HT:=aa ht;rw[ht]at hres;simp only at hres;obtain⟨⟨pv,rfl,hpv⟩,rfl⟩:=hres;have HP:=aa hpv;obtain⟨pb,po,pc,rfl,-,-,-⟩:=hpv;clear ht;go_wp2_with fail
   go_ret2
   exact⟨o2,HR2.o,HG2.o,by rw[HL.o,HT.o]; exact⟨⟨_,rfl,HP.o⟩,rfl⟩⟩
structure RS where
 off:Nat
 last:Nat
 err:Int
deriving DecidableEq
def mZ (w:World) (rb:Nat) (v:Value) (data:List UInt8) (s:RS):Prop:=aX w rb v data s.off s.last s.err
def rv {α:Type} (z:α) (r:Except Int (α×Nat)) (s:RS):α×RS:=if s.err=0 then match r with
 | .ok (x,o)=>(x,⟨o,s.off,0⟩)
 | .error y=>(z,⟨s.off,s.off,y⟩)else(z,s)
def Gq {α:Type} (zero:Value) (val:α->Value) (w:World) (rb:Nat) (v:Value) (data:List UInt8) (last:Nat) (err:Int) (r:Except Int (α×Nat)) (e:Ending) (w':World):Prop:=
 ∃o',aX w' rb v data o' last err/\w.grownBy w' (some rb)/\match r with
  | .ok (x,o)=>e= .returned (.tuple #[val x, .int .i64 0])/\o'=o
  | .error y=>e= .returned (.tuple #[zero, .int .i64 y])
theorem Gp.v {kd:IntKind} {w:World} {rb:Nat} {v:Value} {data:List UInt8} {last:Nat} {err:Int} {r:Except Int (Nat×Nat)} {e:Ending} {w':World} (h:Gp kd w rb v data last err r e w'):
  Gq (.int kd 0) (fun n:Nat=> .int kd (n:Int)) w rb v data last err r e w':=by
 obtain⟨o',h1,h2,h3⟩:=h;refine⟨o',h1,h2, ?_⟩
 cases r with
 | error x=>exact h3
 | ok p=>exact h3
def oR {α:Type} (z:α) (val:α->Value) (w:World) (rb:Nat) (v:Value) (data:List UInt8) (r:Except Int (α×Nat)) (s:RS) (e:Ending) (w':World):Prop:=
 e= .returned (val (rv z r s).1)/\mZ w' rb v data (rv z r s).2/\w.grownBy w' (some rb)
structure bQ (w W : World) (rb : Nat) (x : Value) (t : TypeId) (start : Nat) : Prop where
 bx:W.heap[w.heap.size]? =some (.cells #[.pointer (some ⟨rb,0,none⟩)] 101 (0,0))
 bv:W.heap[w.heap.size+1]? =some (.cells #[x] t (0,0))
 bs:W.heap[w.heap.size+2]? =some (.cells #[.int .i64 (start:Int)] 3 (0,0))
 grown:w.grownBy W (some rb)
 lt:rb<w.heap.size
theorem bQ.step {w W W':World} {rb:Nat} {x:Value} {t:TypeId} {start:Nat} (h:bQ w W rb x t start) (hg:W.grownBy W' (some rb)):bQ w W' rb x t start:=by
 have h1:=h.lt;refine⟨?_, ?_, ?_,aG h.grown hg,h.lt⟩
 ·rw[hg.block _ (lt_of_block h.bx) (by simp; omega)]; exact h.bx
 ·rw[hg.block _ (lt_of_block h.bv) (by simp; omega)]; exact h.bv
 ·rw[hg.block _ (lt_of_block h.bs) (by simp; omega)]; exact h.bs
theorem bQ.setv {w W:World} {rb:Nat} {x:Value} {t:TypeId} {start:Nat} (h:bQ w W rb x t start) (y:Value):bQ w (W.setCell ⟨w.heap.size+1,0,none⟩ y) rb y t start:=by
 refine⟨?_,one_setCell h.bv, ?_, ?_,h.lt⟩
 ·rw[Below.heap_setCell _ _ _ _ (by simp)]; exact h.bx
 ·rw[Below.heap_setCell _ _ _ _ (by simp)]; exact h.bs
 ·exact⟨h.grown.os,h.grown.tape,h.grown.output,by have:=h.grown.size; simpa [World.setCell]using this,fun k hk hne=>by rw[Below.heap_setCell _ _ _ _ (by simp; omega)]; exact h.grown.block k hk hne⟩
theorem aX.setOther {w0 w:World} {rb:Nat} {v:Value} {data:List UInt8} {off last off0 last0:Nat} {err err0:Int} (h0:aX w0 rb v data off0 last0 err0) (h:aX w rb v data off last err) {b k:Nat} (hb:w0.heap.size<=b) (y:Value):
  aX (w.setCell ⟨b,k,none⟩ y) rb v data off last err:=by
 have h1:=h0.lt;have hr0:=h0.row.mono (T:=fun k=>k≠rb/\k<w0.heap.size) (fun k hk hS=>⟨hS,hk⟩) (by omega);obtain⟨_,a0,cap0,hv0,_,_,h00⟩:=hr0;obtain⟨hl,a,cap,hv,hn,hm,h2⟩:=h.row;refine⟨by rw[Below.heap_setCell _ _ _ _ (by simp; omega)]; exact h.box,⟨hl,a,cap,hv,hn,hm, ?_⟩,h.le,h.ls,h.small⟩
 rcases h2 with h2 | ⟨bk,o,rfl,hk,hc⟩
 ·exact .inl h2
 ·rcases h00 with h00 | ⟨bk0,o0,rfl,hk0,_⟩
  ·exact .inl h00
  ·rw[hv0]at hv
   cases hv
   refine .inr ⟨bk,o,rfl,hk,fun j u hj=> ?_⟩;rw[<-hc j u hj];exact World.cell?_of_block (Below.heap_setCell _ _ _ _ (by have:=hk0.2; show bk≠b; omega))
theorem yV (xb mb rb:Nat) (v:Value) (data:List UInt8) (off last most:Nat) (err:Int) (w:World) (hr:aX w rb v data off last err) (hm:most<=2000000)
  (hx:w.cell? ⟨xb,0,none⟩=some (.pointer (some ⟨rb,0,none⟩))) (hmb:w.cell? ⟨mb,0,none⟩=some (.int .i64 (most:Int))):
  Calls Tryz.prog 106 #[.pointer (some ⟨xb,0,none⟩), .pointer (some ⟨mb,0,none⟩)] w (Gq (.int .i64 0) (fun n:Nat=> .int .i64 (n:Int)) w rb v data last err (iL data off most)):=by
 have HR:=aa hr;clear hr
 go_enter Tryz.func106,Tryz.ntmps106
 go_wp2_with fail;refine(pn rb v data off last most err w HR.o hm).mono ?_;intro e w1 hd;obtain⟨o',h1,h2,h3⟩:=hd.v;have H1:=aa h1;have H2:=aa h2;clear hd h1 h2
 cases hl:iL data off most with
 | error y=>
  rw[hl]at h3; simp only at h3; subst h3;have HL:=aa hl;clear hl;go_wp2_with fail
  go_ret2
  exact⟨o',H1.o,H2.o,by rw[HL.o]; rfl⟩
 | ok p=>
  obtain⟨n,o⟩:=p;rw[hl]at h3; simp only at h3; obtain⟨rfl,rfl⟩:=h3;have HL:=aa hl;clear hl;go_wp2_with fail
  go_ret2
  exact⟨o',H1.o,H2.o,by rw[HL.o]; exact⟨rfl,rfl⟩⟩
theorem cI {w w':World} (h:Below w.heap.size w w') (r:Option Nat):w.grownBy w' r:=⟨h.os,h.tape,h.output,h.size,fun k hk _=>h.block k hk⟩
def NoP (Q:Exit->Act->World->Prop) (e:Exit) (a:Act) (w:World):Prop:=match e with
 | .panic _=>False
 | e=>Q e a w
theorem lQ {P:Program} {Q:Exit->Act->World->Prop} {c:Code} {a:Act} {w:World} (h:c.wp P (NoP Q) a w):c.wp P Q a w:=wp_mono h (fun e a w hn=>by
 cases e<;> first | exact hn | exact False.elim hn)
theorem eQ {Q:Exit->Act->World->Prop} {a:Act} {w:World} (h:Q .normal a w):NoP Q .normal a w:=h
theorem bQ.start {w:World} {rb:Nat} (h:rb<w.heap.size) (x:Value) (t:TypeId) (o:Nat):bQ w (((w.alloc (.cells #[.pointer (some ⟨rb,0,none⟩)] 101)).alloc (.cells #[x] t)).alloc (.cells #[.int .i64 (o:Int)] 3)) rb x t o:=by
 refine⟨?_, ?_, ?_, ?_,h⟩
 ·rw[Below.heap_alloc _ _ _ (by simp; omega),Below.heap_alloc _ _ _ (by simp)]; exact heap_alloc_new w _
 ·rw[Below.heap_alloc _ _ _ (by simp)];have:=heap_alloc_new (w.alloc (.cells #[.pointer (some ⟨rb,0,none⟩)] 101)) (.cells #[x] t)
  simpa using this
 ·have:=heap_alloc_new ((w.alloc (.cells #[.pointer (some ⟨rb,0,none⟩)] 101)).alloc (.cells #[x] t)) (.cells #[.int .i64 (o:Int)] 3)
  simpa using this
 ·exact cI (((bH).alloc (by simp) _).alloc (by simp; omega) _) _
theorem bQ.below0 {w:World} (a b c:Obj):Below w.heap.size w (((w.alloc a).alloc b).alloc c):=((bH).alloc (by simp) _).alloc (by simp; omega) _
theorem Bq {data:List UInt8} {off most:Nat} {x:Int} (h:iL data off most= .error x): ¬x=0:=by rcases xt h with rfl | rfl<;> decide
theorem Ia {data:List UInt8} {off:Nat} {x:Int} (h:km data off= .error x): ¬x=0:=by rw[ro h]; decide
theorem FI (sb xb vb rb:Nat) (v:Value) (data:List UInt8) (off last start:Nat) (u:FrameMode) (w:World) (hr:aX w rb v data off last 0)
  (hs:w.cell? ⟨sb,0,none⟩=some (.int .i64 (start:Int))) (hx:w.cell? ⟨xb,0,none⟩=some (.pointer (some ⟨rb,0,none⟩))) (_:sb≠rb) (_:xb≠rb):
  CallsD Tryz.prog 139 #[.pointer (some ⟨sb,0,none⟩), .pointer (some ⟨xb,0,none⟩), .pointer (some ⟨vb,0,none⟩)] u w fun e u' w'=>u'=u/\(e= .returned (.tuple #[])/\w'=w.setCell ⟨rb,2,none⟩ (.int .i64 (start:Int))):=by
 have c3:=hr.c3;have c2:=hr.c2;have f2:=hr.free 2;clear hr
 go_enter_d Tryz.func139,Tryz.ntmps139
 go_wp2_with fail
 first | go_end0 | refine bodyPost_ret (results_none rfl _ _ _) rfl ?_
 exact⟨rfl,rfl⟩
theorem DB (sb xb vb rb:Nat) (v:Value) (data:List UInt8) (off last start:Nat) (err:Int) (x:Value) (t:TypeId) (u:FrameMode) (w:World) (hr:aX w rb v data off last err) (he: ¬err=0)
  (hs:w.cell? ⟨sb,0,none⟩=some (.int .i64 (start:Int))) (hx:w.cell? ⟨xb,0,none⟩=some (.pointer (some ⟨rb,0,none⟩))) (hv:w.heap[vb]? =some (.cells #[x] t (0,0))) (hsr:sb≠rb) (hxr:xb≠rb) (hvr:vb≠rb) (hvs:vb≠sb) (hvx:vb≠xb):
  CallsD Tryz.prog 139 #[.pointer (some ⟨sb,0,none⟩), .pointer (some ⟨xb,0,none⟩), .pointer (some ⟨vb,0,none⟩)] u w fun e u' w'=>u'=u/\(e= .returned (.tuple #[])/\w'=((w.setCell ⟨rb,2,none⟩ (.int .i64 (start:Int))).setCell ⟨rb,1,none⟩ (.int .i64 (start:Int))).setCell ⟨vb,0,none⟩ (.int .i64 0)):=by
 have c3:=hr.c3;have c2:=hr.c2;have c1:=hr.c1;have f2:=hr.free 2;have f1:=hr.free 1;have v0:=cell_of_one hv;have fv:=free_of_one hv;clear hr
 go_enter_d Tryz.func139,Tryz.ntmps139
 go_wp2_with fail
 first | go_end0 | refine bodyPost_ret (results_none rfl _ _ _) rfl ?_
 exact⟨rfl,rfl⟩
theorem ye (sb xb vb rb:Nat) (v:Value) (data:List UInt8) (off last start:Nat) (u:FrameMode) (w:World) (hr:aX w rb v data off last 0)
  (hs:w.cell? ⟨sb,0,none⟩=some (.int .i64 (start:Int))) (hx:w.cell? ⟨xb,0,none⟩=some (.pointer (some ⟨rb,0,none⟩))) (_:sb≠rb) (_:xb≠rb):
  CallsD Tryz.prog 140 #[.pointer (some ⟨sb,0,none⟩), .pointer (some ⟨xb,0,none⟩), .pointer (some ⟨vb,0,none⟩)] u w fun e u' w'=>u'=u/\(e= .returned (.tuple #[])/\w'=w.setCell ⟨rb,2,none⟩ (.int .i64 (start:Int))):=by
 have c3:=hr.c3;have c2:=hr.c2;have f2:=hr.free 2;clear hr
 go_enter_d Tryz.func140,Tryz.ntmps140
 go_wp2_with fail
 first | go_end0 | refine bodyPost_ret (results_none rfl _ _ _) rfl ?_
 exact⟨rfl,rfl⟩
theorem uo (sb xb vb rb:Nat) (v:Value) (data:List UInt8) (off last start:Nat) (err:Int) (x:Value) (t:TypeId) (u:FrameMode) (w:World) (hr:aX w rb v data off last err) (he: ¬err=0)
  (hs:w.cell? ⟨sb,0,none⟩=some (.int .i64 (start:Int))) (hx:w.cell? ⟨xb,0,none⟩=some (.pointer (some ⟨rb,0,none⟩))) (hv:w.heap[vb]? =some (.cells #[x] t (0,0))) (hsr:sb≠rb) (hxr:xb≠rb) (hvr:vb≠rb) (hvs:vb≠sb) (hvx:vb≠xb):
  CallsD Tryz.prog 140 #[.pointer (some ⟨sb,0,none⟩), .pointer (some ⟨xb,0,none⟩), .pointer (some ⟨vb,0,none⟩)] u w fun e u' w'=>u'=u/\(e= .returned (.tuple #[])/\w'=((w.setCell ⟨rb,2,none⟩ (.int .i64 (start:Int))).setCell ⟨rb,1,none⟩ (.int .i64 (start:Int))).setCell ⟨vb,0,none⟩ (.string ⟨#[]⟩)):=by
 have c3:=hr.c3;have c2:=hr.c2;have c1:=hr.c1;have f2:=hr.free 2;have f1:=hr.free 1;have v0:=cell_of_one hv;have fv:=free_of_one hv;clear hr
 go_enter_d Tryz.func140,Tryz.ntmps140
 go_wp2_with fail
 first | go_end0 | refine bodyPost_ret (results_none rfl _ _ _) rfl ?_
 exact⟨rfl,rfl⟩
theorem FJ (sb xb vb rb:Nat) (v:Value) (data:List UInt8) (off last start:Nat) (u:FrameMode) (w:World) (hr:aX w rb v data off last 0)
  (hs:w.cell? ⟨sb,0,none⟩=some (.int .i64 (start:Int))) (hx:w.cell? ⟨xb,0,none⟩=some (.pointer (some ⟨rb,0,none⟩))) (_:sb≠rb) (_:xb≠rb):
  CallsD Tryz.prog 142 #[.pointer (some ⟨sb,0,none⟩), .pointer (some ⟨xb,0,none⟩), .pointer (some ⟨vb,0,none⟩)] u w fun e u' w'=>u'=u/\(e= .returned (.tuple #[])/\w'=w.setCell ⟨rb,2,none⟩ (.int .i64 (start:Int))):=by
 have c3:=hr.c3;have c2:=hr.c2;have f2:=hr.free 2;clear hr
 go_enter_d Tryz.func142,Tryz.ntmps142
 go_wp2_with fail
 first | go_end0 | refine bodyPost_ret (results_none rfl _ _ _) rfl ?_
 exact⟨rfl,rfl⟩
theorem DC (sb xb vb rb:Nat) (v:Value) (data:List UInt8) (off last start:Nat) (err:Int) (x:Value) (t:TypeId) (u:FrameMode) (w:World) (hr:aX w rb v data off last err) (he: ¬err=0)
  (hs:w.cell? ⟨sb,0,none⟩=some (.int .i64 (start:Int))) (hx:w.cell? ⟨xb,0,none⟩=some (.pointer (some ⟨rb,0,none⟩))) (hv:w.heap[vb]? =some (.cells #[x] t (0,0))) (hsr:sb≠rb) (hxr:xb≠rb) (hvr:vb≠rb) (hvs:vb≠sb) (hvx:vb≠xb):
  CallsD Tryz.prog 142 #[.pointer (some ⟨sb,0,none⟩), .pointer (some ⟨xb,0,none⟩), .pointer (some ⟨vb,0,none⟩)] u w fun e u' w'=>u'=u/\(e= .returned (.tuple #[])/\w'=((w.setCell ⟨rb,2,none⟩ (.int .i64 (start:Int))).setCell ⟨rb,1,none⟩ (.int .i64 (start:Int))).setCell ⟨vb,0,none⟩ (.int .u64 0)):=by
 have c3:=hr.c3;have c2:=hr.c2;have c1:=hr.c1;have f2:=hr.free 2;have f1:=hr.free 1;have v0:=cell_of_one hv;have fv:=free_of_one hv;clear hr
 go_enter_d Tryz.func142,Tryz.ntmps142
 go_wp2_with fail
 first | go_end0 | refine bodyPost_ret (results_none rfl _ _ _) rfl ?_
 exact⟨rfl,rfl⟩
theorem pG (cx cm rb:Nat) (v:Value) (data:List UInt8) (s:RS) (most:Nat) (w:World) (hr:mZ w rb v data s) (hm:most<=2000000)
  (hx:w.cell? ⟨cx,0,none⟩=some (.pointer (some ⟨rb,0,none⟩))) (hmb:w.cell? ⟨cm,0,none⟩=some (.int .i64 (most:Int))):
  Calls Tryz.prog 105 #[.pointer (some ⟨rb,0,none⟩), .func (.func 106) #[] #[.pointer (some ⟨cx,0,none⟩), .pointer (some ⟨cm,0,none⟩)]] w
   (oR 0 (fun n:Nat=> .int .i64 (n:Int)) w rb v data (iL data s.off most) s):=by
 have HX:=aa hx;have HM:=aa hmb;clear hx hmb;have hmf: ∀(fn:Fn) (first cap:Array Value) (w:World),(Instr.makeFunc fn first cap).run Tryz.prog w= .ok (.func fn first cap) w:=fun _ _ _ _=>rfl
 have hr':aX w rb v data s.off s.last s.err:=hr;have HR:=aa hr';have hlt:=hr'.lt;have c1:=hr'.c1;have c3:=hr'.c3;clear hr hr'
 go_enter_defers Tryz.func105,Tryz.ntmps105
 by_cases he:s.err=0
 ·rw[he]at c3;go_wp2_with fail;obtain⟨W,hW⟩: ∃W,W=((w.alloc (.cells #[.pointer (some ⟨rb,0,none⟩)] 101)).alloc (.cells #[.int .i64 0] 3)).alloc (.cells #[.int .i64 (s.off:Int)] 3):=⟨_,rfl⟩;rw[<-hW];have hB:bQ w W rb (.int .i64 0) 3 s.off:=by rw[hW]; exact bQ.start hlt _ _ _
  have hBel:Below w.heap.size w W:=by rw[hW]; exact bQ.below0 _ _ _
  have hRW:aX W rb v data s.off s.last 0:=by have:=HR.o.below hBel; rw[he]at this; exact this
  have HB:=aa hB;have HRW:=aa hRW;have HBel:=aa hBel;have HE:=aa he;have x0:=cell_of_one hB.bx;have hxr:w.heap.size≠rb:=by omega
  clear hW hB hRW hBel c1 c3 he;refine lQ ?_;refine bE (fun w'=>w'.cell? ⟨w.heap.size,0,none⟩=some (.pointer (some ⟨rb,0,none⟩))) (by kernel_rfl) ?_
  iterate 2 (refine aJ rfl (by kernel_rfl) (fun _ _ _ h=>False.elim h) rfl (by go_simp) (by intro w' hw'; go_simp; rfl) ?_; simp only[Act.put,aZ,bg,bh])
  refine an 2 rfl (by kernel_rfl) rfl (fun K hK=> ?_);have hBel2:Below w.heap.size w W.drew:=HBel.o.trans ⟨rfl,rfl,rfl,Nat.le_refl _,fun _ _=>rfl⟩;have HRW2:=aa (show aX W.drew rb v data s.off s.last 0 from HRW.o.draws 1);have HBel2:=aa hBel2;clear hBel2;go_wp2_with fail;refine(yV cx cm rb v data s.off s.last most 0 _ HRW2.o hm ((HBel2.o.cell (aP HX.o)).trans HX.o) ((HBel2.o.cell (aP HM.o)).trans HM.o)).mono ?_
  rintro e w1 ⟨o',h1,h2,h3⟩;have HB1:=aa (HB.o.step (aG (b:=W.drew) ⟨rfl,rfl,rfl,Nat.le_refl _,fun _ _ _=>rfl⟩ h2));have x1:=cell_of_one HB1.o.bx;have v1:=cell_of_one HB1.o.bv;have fv1:=free_of_one HB1.o.bv;have HR1:=aa h1;have e3:=h1.c3;have f3:=h1.free 3;clear h1 h2 x0
  cases hd:iL data s.off most with
  | error y=>
   have hy: ¬y=0:=Bq hd;have HD:=aa hd;rw[hd]at h3;simp only at h3;subst h3;clear hd;go_wp2_with fail;refine⟨x1, ?_⟩
   iterate 3 (refine aJ rfl (by kernel_rfl) (fun _ _ _ h=>False.elim h) rfl (by go_simp) (by intro w' hw'; go_simp; rfl) ?_; simp only[Act.put,aZ,bg,bh])
   refine an 6 rfl (by kernel_rfl) rfl (fun K hK=> ?_);go_wp2_with fail;obtain⟨w2,hw2⟩: ∃w2,w2=w1.setCell ⟨w.heap.size+1,0,none⟩ (.int .i64 0):=⟨_,rfl⟩;rw[<-hw2];have HB2:=aa (show bQ w w2 rb (.int .i64 0) 3 s.off by rw[hw2]; exact HB1.o.setv _);have HR2:=aa (show aX w2 rb v data o' s.last 0 by rw[hw2]; exact HR.o.setOther HR1.o (by omega) _);have x2:=cell_of_one HB2.o.bx
   have e4:=HR2.o.c3;have f4:=HR2.o.free 3;clear hw2 x1 v1 fv1 e3 f3;refine⟨x2, ?_⟩
   iterate 2 (refine aJ rfl (by kernel_rfl) (fun _ _ _ h=>False.elim h) rfl (by go_simp) (by intro w' hw'; go_simp; rfl) ?_; simp only[Act.put,aZ,bg,bh])
   refine an 9 rfl (by kernel_rfl) rfl (fun K hK=> ?_);go_wp2_with fail;obtain⟨w3,hw3⟩: ∃w3,w3=w2.setCell ⟨rb,3,none⟩ (.int .i64 (y)):=⟨_,rfl⟩;rw[<-hw3];have HB3:=aa (show bQ w w3 rb (.int .i64 0) 3 s.off by rw[hw3]; exact HB2.o.step (aN _ _ _ _));have HR3:=aa (show aX w3 rb v data o' s.last (y) by rw[hw3]; exact HR2.o.set3 _);have x3:=cell_of_one HB3.o.bx;have v3:=cell_of_one HB3.o.bv
   have fv3:=free_of_one HB3.o.bv;clear hw3 x2 e4 f4;refine⟨x3, ?_⟩;refine aM (by kernel_rfl) ?_;refine eQ ?_;go_wp2_with fail;obtain⟨w5,hw5⟩: ∃w5,w5=w3.setCell ⟨w.heap.size+1,0,none⟩ (.int .i64 0):=⟨_,rfl⟩;rw[<-hw5];have HB5:=aa (show bQ w w5 rb (.int .i64 0) 3 s.off by rw[hw5]; exact HB3.o.setv _);have HR5:=aa (show aX w5 rb v data o' s.last (y) by rw[hw5]; exact HR.o.setOther HR3.o (by omega) _)
   clear hw5;refine leaves_cons (f:=139) (args:= #[.pointer (some ⟨w.heap.size+1+1,0,none⟩), .pointer (some ⟨w.heap.size,0,none⟩), .pointer (some ⟨w.heap.size+1,0,none⟩)]) (by simp) (by simp[go_sem]) ?_;refine(DB (w.heap.size+1+1) w.heap.size (w.heap.size+1) rb v data o' s.last s.off y _ _ .returning _ HR5.o hy (cell_of_one HB5.o.bs) (cell_of_one HB5.o.bx) HB5.o.bv (by omega) (by omega) (by omega) (by omega) (by omega)).mono ?_
   rintro e u' w'' ⟨rfl,rfl,hw4⟩;have HB4:=aa (show bQ w w'' rb (.int .i64 0) 3 s.off by rw[hw4]; exact(HB5.o.step (aG (aN _ _ _ _) (aN _ _ _ _))).setv _);have HR4:=aa (show aX w'' rb v data s.off s.off y by rw[hw4]; exact HR.o.setOther ((HR5.o.set2 s.off HR.o.le).set1 s.off HR.o.le) (by omega) _);have m0:=cell_of_one HB4.o.bv;simp only[Leaves,settle];refine⟨_,by simp[results,Tryz.results105,go_sem,m0]<;> rfl, ?_⟩
   have hrv:rv ((0:Nat)) (iL data s.off most) s=((0:Nat),⟨s.off,s.off,y⟩):=by unfold rv; rw[if_pos HE.o,HD.o]
   exact⟨by rw[hrv]<;> rfl,by rw[hrv]; exact HR4.o,HB4.o.grown⟩
  | ok p=>
   obtain⟨n,o⟩:=p;have HD:=aa hd;rw[hd]at h3;simp only at h3;obtain⟨rfl,rfl⟩:=h3;clear hd;go_wp2_with fail;refine⟨x1, ?_⟩;refine ay 3 rfl (by kernel_rfl) (by kernel_rfl) (by kernel_rfl) (fun _ _ _ h=>False.elim h) rfl (by go_simp) (by intro w' hw'; go_simp; rfl) ?_;simp only[Act.put,aZ,bg,bh];refine ay 4 rfl (by kernel_rfl) (by kernel_rfl) (by kernel_rfl) (fun _ _ _ h=>False.elim h) rfl (by go_simp) (by intro w' hw'; go_simp; rfl) ?_
   simp only[Act.put,aZ,bg,bh];refine ay 5 rfl (by kernel_rfl) (by kernel_rfl) (by kernel_rfl) (fun _ _ _ h=>False.elim h) rfl (by go_simp) (by intro w' hw'; go_simp; rfl) ?_;simp only[Act.put,aZ,bg,bh];refine an 6 rfl (by kernel_rfl) rfl (fun K hK=> ?_);go_wp2_with fail;obtain⟨w2,hw2⟩: ∃w2,w2=w1.setCell ⟨w.heap.size+1,0,none⟩ (.int .i64 (n:Int)):=⟨_,rfl⟩
   rw[<-hw2];have HB2:=aa (show bQ w w2 rb (.int .i64 (n:Int)) 3 s.off by rw[hw2]; exact HB1.o.setv _);have HR2:=aa (show aX w2 rb v data o' s.last 0 by rw[hw2]; exact HR.o.setOther HR1.o (by omega) _);have x2:=cell_of_one HB2.o.bx;have e4:=HR2.o.c3;have f4:=HR2.o.free 3;clear hw2 x1 v1 fv1 e3 f3;refine⟨x2, ?_⟩;refine ay 7 rfl (by kernel_rfl) (by kernel_rfl) (by kernel_rfl) (fun _ _ _ h=>False.elim h) rfl (by go_simp) (by intro w' hw'; go_simp; rfl) ?_
   simp only[Act.put,aZ,bg,bh];refine ay 8 rfl (by kernel_rfl) (by kernel_rfl) (by kernel_rfl) (fun _ _ _ h=>False.elim h) rfl (by go_simp) (by intro w' hw'; go_simp; rfl) ?_;simp only[Act.put,aZ,bg,bh];refine an 9 rfl (by kernel_rfl) rfl (fun K hK=> ?_);go_wp2_with fail;obtain⟨w3,hw3⟩: ∃w3,w3=w2.setCell ⟨rb,3,none⟩ (.int .i64 (0)):=⟨_,rfl⟩;rw[<-hw3];have HB3:=aa (show bQ w w3 rb (.int .i64 (n:Int)) 3 s.off by rw[hw3]; exact HB2.o.step (aN _ _ _ _))
   have HR3:=aa (show aX w3 rb v data o' s.last (0) by rw[hw3]; exact HR2.o.set3 _);have x3:=cell_of_one HB3.o.bx;have v3:=cell_of_one HB3.o.bv;have fv3:=free_of_one HB3.o.bv;clear hw3 x2 e4 f4;refine⟨x3, ?_⟩;refine aM (by kernel_rfl) ?_;refine eQ ?_;go_wp2_with fail;obtain⟨w5,hw5⟩: ∃w5,w5=w3.setCell ⟨w.heap.size+1,0,none⟩ (.int .i64 (n:Int)):=⟨_,rfl⟩;rw[<-hw5]
   have HB5:=aa (show bQ w w5 rb (.int .i64 (n:Int)) 3 s.off by rw[hw5]; exact HB3.o.setv _);have HR5:=aa (show aX w5 rb v data o' s.last (0) by rw[hw5]; exact HR.o.setOther HR3.o (by omega) _);clear hw5;refine leaves_cons (f:=139) (args:= #[.pointer (some ⟨w.heap.size+1+1,0,none⟩), .pointer (some ⟨w.heap.size,0,none⟩), .pointer (some ⟨w.heap.size+1,0,none⟩)]) (by simp) (by simp[go_sem]) ?_
   refine(FI (w.heap.size+1+1) w.heap.size (w.heap.size+1) rb v data o' s.last s.off .returning _ HR5.o (cell_of_one HB5.o.bs) (cell_of_one HB5.o.bx) (by omega) (by omega)).mono ?_;rintro e u' w'' ⟨rfl,rfl,hw4⟩;have HB4:=aa (show bQ w w'' rb (.int .i64 (n:Int)) 3 s.off by rw[hw4]; exact HB5.o.step (aN _ _ _ _));have HR4:=aa (show aX w'' rb v data o' s.off 0 by rw[hw4]; exact HR5.o.set2 s.off HR.o.le)
   have m0:=cell_of_one HB4.o.bv;simp only[Leaves,settle];refine⟨_,by simp[results,Tryz.results105,go_sem,m0]<;> rfl, ?_⟩;have hrv:rv ((0:Nat)) (iL data s.off most) s=(n,⟨o',s.off,0⟩):=by unfold rv; rw[if_pos HE.o,HD.o]
   exact⟨by rw[hrv]<;> rfl,by rw[hrv]; exact HR4.o,HB4.o.grown⟩
 ·have HE:=aa he;go_wp2_with fail;simp only[bodyPostD];refine⟨_,by simp[results,Tryz.results105,go_sem]<;> rfl, ?_⟩;have hrv:rv ((0:Nat)) (iL data s.off most) s=((0:Nat),s):=by unfold rv; rw[if_neg HE.o]
  refine⟨by rw[hrv]<;> rfl,by rw[hrv]; exact HR.o.below ((bH).alloc (by simp) _),cI ((bH).alloc (by simp) _) _⟩
theorem rF (rb:Nat) (v:Value) (data:List UInt8) (s:RS) (w:World) (hr:mZ w rb v data s):
  Calls Tryz.prog 111 #[.pointer (some ⟨rb,0,none⟩), .func (.func 112) #[.pointer (some ⟨rb,0,none⟩)] #[]] w
   (oR 0 (fun n:Nat=> .int .u64 (n:Int)) w rb v data (km data s.off) s):=by
 have hmf: ∀(fn:Fn) (first cap:Array Value) (w:World),(Instr.makeFunc fn first cap).run Tryz.prog w= .ok (.func fn first cap) w:=fun _ _ _ _=>rfl
 have hr':aX w rb v data s.off s.last s.err:=hr;have HR:=aa hr';have hlt:=hr'.lt;have c1:=hr'.c1;have c3:=hr'.c3;clear hr hr'
 go_enter_defers Tryz.func111,Tryz.ntmps111
 by_cases he:s.err=0
 ·rw[he]at c3;go_wp2_with fail;obtain⟨W,hW⟩: ∃W,W=((w.alloc (.cells #[.pointer (some ⟨rb,0,none⟩)] 101)).alloc (.cells #[.int .u64 0] 43)).alloc (.cells #[.int .i64 (s.off:Int)] 3):=⟨_,rfl⟩;rw[<-hW];have hB:bQ w W rb (.int .u64 0) 43 s.off:=by rw[hW]; exact bQ.start hlt _ _ _
  have hBel:Below w.heap.size w W:=by rw[hW]; exact bQ.below0 _ _ _
  have hRW:aX W rb v data s.off s.last 0:=by have:=HR.o.below hBel; rw[he]at this; exact this
  have HB:=aa hB;have HRW:=aa hRW;have HBel:=aa hBel;have HE:=aa he;have x0:=cell_of_one hB.bx;have hxr:w.heap.size≠rb:=by omega
  clear hW hB hRW hBel c1 c3 he;refine lQ ?_;refine bE (fun w'=>w'.cell? ⟨w.heap.size,0,none⟩=some (.pointer (some ⟨rb,0,none⟩))) (by kernel_rfl) ?_
  iterate 2 (refine aJ rfl (by kernel_rfl) (fun _ _ _ h=>False.elim h) rfl (by go_simp) (by intro w' hw'; go_simp; rfl) ?_; simp only[Act.put,aZ,bg,bh])
  refine an 2 rfl (by kernel_rfl) rfl (fun K hK=> ?_);have hBel2:Below w.heap.size w W.drew:=HBel.o.trans ⟨rfl,rfl,rfl,Nat.le_refl _,fun _ _=>rfl⟩;have HRW2:=aa (show aX W.drew rb v data s.off s.last 0 from HRW.o.draws 1);have HBel2:=aa hBel2;clear hBel2;go_wp2_with fail;refine((rp rb v data s.off s.last 0 _ HRW2.o).mono fun _ _ h=>h.v).mono ?_;rintro e w1 ⟨o',h1,h2,h3⟩
  have HB1:=aa (HB.o.step (aG (b:=W.drew) ⟨rfl,rfl,rfl,Nat.le_refl _,fun _ _ _=>rfl⟩ h2));have x1:=cell_of_one HB1.o.bx;have v1:=cell_of_one HB1.o.bv;have fv1:=free_of_one HB1.o.bv;have HR1:=aa h1;have e3:=h1.c3;have f3:=h1.free 3;clear h1 h2 x0
  cases hd:km data s.off with
  | error y=>
   have hy: ¬y=0:=Ia hd;have HD:=aa hd;rw[hd]at h3;simp only at h3;subst h3;clear hd;go_wp2_with fail;refine⟨x1, ?_⟩
   iterate 3 (refine aJ rfl (by kernel_rfl) (fun _ _ _ h=>False.elim h) rfl (by go_simp) (by intro w' hw'; go_simp; rfl) ?_; simp only[Act.put,aZ,bg,bh])
   refine an 6 rfl (by kernel_rfl) rfl (fun K hK=> ?_);go_wp2_with fail;obtain⟨w2,hw2⟩: ∃w2,w2=w1.setCell ⟨w.heap.size+1,0,none⟩ (.int .u64 0):=⟨_,rfl⟩;rw[<-hw2];have HB2:=aa (show bQ w w2 rb (.int .u64 0) 43 s.off by rw[hw2]; exact HB1.o.setv _);have HR2:=aa (show aX w2 rb v data o' s.last 0 by rw[hw2]; exact HR.o.setOther HR1.o (by omega) _);have x2:=cell_of_one HB2.o.bx
   have e4:=HR2.o.c3;have f4:=HR2.o.free 3;clear hw2 x1 v1 fv1 e3 f3;refine⟨x2, ?_⟩
   iterate 2 (refine aJ rfl (by kernel_rfl) (fun _ _ _ h=>False.elim h) rfl (by go_simp) (by intro w' hw'; go_simp; rfl) ?_; simp only[Act.put,aZ,bg,bh])
   refine an 9 rfl (by kernel_rfl) rfl (fun K hK=> ?_);go_wp2_with fail;obtain⟨w3,hw3⟩: ∃w3,w3=w2.setCell ⟨rb,3,none⟩ (.int .i64 (y)):=⟨_,rfl⟩;rw[<-hw3];have HB3:=aa (show bQ w w3 rb (.int .u64 0) 43 s.off by rw[hw3]; exact HB2.o.step (aN _ _ _ _));have HR3:=aa (show aX w3 rb v data o' s.last (y) by rw[hw3]; exact HR2.o.set3 _);have x3:=cell_of_one HB3.o.bx
   have v3:=cell_of_one HB3.o.bv;have fv3:=free_of_one HB3.o.bv;clear hw3 x2 e4 f4;refine⟨x3, ?_⟩;refine aM (by kernel_rfl) ?_;refine eQ ?_;go_wp2_with fail;obtain⟨w5,hw5⟩: ∃w5,w5=w3.setCell ⟨w.heap.size+1,0,none⟩ (.int .u64 0):=⟨_,rfl⟩;rw[<-hw5];have HB5:=aa (show bQ w w5 rb (.int .u64 0) 43 s.off by rw[hw5]; exact HB3.o.setv _);have HR5:=aa (show aX w5 rb v data o' s.last (y) by rw[hw5]; exact HR.o.setOther HR3.o (by omega) _)
   clear hw5;refine leaves_cons (f:=142) (args:= #[.pointer (some ⟨w.heap.size+1+1,0,none⟩), .pointer (some ⟨w.heap.size,0,none⟩), .pointer (some ⟨w.heap.size+1,0,none⟩)]) (by simp) (by simp[go_sem]) ?_;refine(DC (w.heap.size+1+1) w.heap.size (w.heap.size+1) rb v data o' s.last s.off y _ _ .returning _ HR5.o hy (cell_of_one HB5.o.bs) (cell_of_one HB5.o.bx) HB5.o.bv (by omega) (by omega) (by omega) (by omega) (by omega)).mono ?_
   rintro e u' w'' ⟨rfl,rfl,hw4⟩;have HB4:=aa (show bQ w w'' rb (.int .u64 0) 43 s.off by rw[hw4]; exact(HB5.o.step (aG (aN _ _ _ _) (aN _ _ _ _))).setv _);have HR4:=aa (show aX w'' rb v data s.off s.off y by rw[hw4]; exact HR.o.setOther ((HR5.o.set2 s.off HR.o.le).set1 s.off HR.o.le) (by omega) _);have m0:=cell_of_one HB4.o.bv;simp only[Leaves,settle];refine⟨_,by simp[results,Tryz.results111,go_sem,m0]<;> rfl, ?_⟩
   have hrv:rv ((0:Nat)) (km data s.off) s=((0:Nat),⟨s.off,s.off,y⟩):=by unfold rv; rw[if_pos HE.o,HD.o]
   exact⟨by rw[hrv]<;> rfl,by rw[hrv]; exact HR4.o,HB4.o.grown⟩
  | ok p=>
   obtain⟨n,o⟩:=p;have HD:=aa hd;rw[hd]at h3;simp only at h3;obtain⟨rfl,rfl⟩:=h3;clear hd;go_wp2_with fail;refine⟨x1, ?_⟩;refine ay 3 rfl (by kernel_rfl) (by kernel_rfl) (by kernel_rfl) (fun _ _ _ h=>False.elim h) rfl (by go_simp) (by intro w' hw'; go_simp; rfl) ?_;simp only[Act.put,aZ,bg,bh];refine ay 4 rfl (by kernel_rfl) (by kernel_rfl) (by kernel_rfl) (fun _ _ _ h=>False.elim h) rfl (by go_simp) (by intro w' hw'; go_simp; rfl) ?_
   simp only[Act.put,aZ,bg,bh];refine ay 5 rfl (by kernel_rfl) (by kernel_rfl) (by kernel_rfl) (fun _ _ _ h=>False.elim h) rfl (by go_simp) (by intro w' hw'; go_simp; rfl) ?_;simp only[Act.put,aZ,bg,bh];refine an 6 rfl (by kernel_rfl) rfl (fun K hK=> ?_);go_wp2_with fail;obtain⟨w2,hw2⟩: ∃w2,w2=w1.setCell ⟨w.heap.size+1,0,none⟩ (.int .u64 (n:Int)):=⟨_,rfl⟩
   rw[<-hw2];have HB2:=aa (show bQ w w2 rb (.int .u64 (n:Int)) 43 s.off by rw[hw2]; exact HB1.o.setv _);have HR2:=aa (show aX w2 rb v data o' s.last 0 by rw[hw2]; exact HR.o.setOther HR1.o (by omega) _);have x2:=cell_of_one HB2.o.bx;have e4:=HR2.o.c3;have f4:=HR2.o.free 3;clear hw2 x1 v1 fv1 e3 f3;refine⟨x2, ?_⟩;refine ay 7 rfl (by kernel_rfl) (by kernel_rfl) (by kernel_rfl) (fun _ _ _ h=>False.elim h) rfl (by go_simp) (by intro w' hw'; go_simp; rfl) ?_
   simp only[Act.put,aZ,bg,bh];refine ay 8 rfl (by kernel_rfl) (by kernel_rfl) (by kernel_rfl) (fun _ _ _ h=>False.elim h) rfl (by go_simp) (by intro w' hw'; go_simp; rfl) ?_;simp only[Act.put,aZ,bg,bh];refine an 9 rfl (by kernel_rfl) rfl (fun K hK=> ?_);go_wp2_with fail;obtain⟨w3,hw3⟩: ∃w3,w3=w2.setCell ⟨rb,3,none⟩ (.int .i64 (0)):=⟨_,rfl⟩;rw[<-hw3];have HB3:=aa (show bQ w w3 rb (.int .u64 (n:Int)) 43 s.off by rw[hw3]; exact HB2.o.step (aN _ _ _ _))
   have HR3:=aa (show aX w3 rb v data o' s.last (0) by rw[hw3]; exact HR2.o.set3 _);have x3:=cell_of_one HB3.o.bx;have v3:=cell_of_one HB3.o.bv;have fv3:=free_of_one HB3.o.bv;clear hw3 x2 e4 f4;refine⟨x3, ?_⟩;refine aM (by kernel_rfl) ?_;refine eQ ?_;go_wp2_with fail;obtain⟨w5,hw5⟩: ∃w5,w5=w3.setCell ⟨w.heap.size+1,0,none⟩ (.int .u64 (n:Int)):=⟨_,rfl⟩;rw[<-hw5]
   have HB5:=aa (show bQ w w5 rb (.int .u64 (n:Int)) 43 s.off by rw[hw5]; exact HB3.o.setv _);have HR5:=aa (show aX w5 rb v data o' s.last (0) by rw[hw5]; exact HR.o.setOther HR3.o (by omega) _);clear hw5;refine leaves_cons (f:=142) (args:= #[.pointer (some ⟨w.heap.size+1+1,0,none⟩), .pointer (some ⟨w.heap.size,0,none⟩), .pointer (some ⟨w.heap.size+1,0,none⟩)]) (by simp) (by simp[go_sem]) ?_
   refine(FJ (w.heap.size+1+1) w.heap.size (w.heap.size+1) rb v data o' s.last s.off .returning _ HR5.o (cell_of_one HB5.o.bs) (cell_of_one HB5.o.bx) (by omega) (by omega)).mono ?_;rintro e u' w'' ⟨rfl,rfl,hw4⟩;have HB4:=aa (show bQ w w'' rb (.int .u64 (n:Int)) 43 s.off by rw[hw4]; exact HB5.o.step (aN _ _ _ _));have HR4:=aa (show aX w'' rb v data o' s.off 0 by rw[hw4]; exact HR5.o.set2 s.off HR.o.le)
   have m0:=cell_of_one HB4.o.bv;simp only[Leaves,settle];refine⟨_,by simp[results,Tryz.results111,go_sem,m0]<;> rfl, ?_⟩;have hrv:rv ((0:Nat)) (km data s.off) s=(n,⟨o',s.off,0⟩):=by unfold rv; rw[if_pos HE.o,HD.o]
   exact⟨by rw[hrv]<;> rfl,by rw[hrv]; exact HR4.o,HB4.o.grown⟩
 ·have HE:=aa he;go_wp2_with fail;simp only[bodyPostD];refine⟨_,by simp[results,Tryz.results111,go_sem]<;> rfl, ?_⟩;have hrv:rv ((0:Nat)) (km data s.off) s=((0:Nat),s):=by unfold rv; rw[if_neg HE.o]
  refine⟨by rw[hrv]<;> rfl,by rw[hrv]; exact HR.o.below ((bH).alloc (by simp) _),cI ((bH).alloc (by simp) _) _⟩
theorem Gc (rb:Nat) (v:Value) (data:List UInt8) (s:RS) (w:World) (hr:mZ w rb v data s):
  Calls Tryz.prog 61 #[.pointer (some ⟨rb,0,none⟩)] w (oR 0 (fun n:Nat=> .int .u64 (n:Int)) w rb v data (km data s.off) s):=by
 have hmf: ∀(fn:Fn) (first cap:Array Value) (w:World),(Instr.makeFunc fn first cap).run Tryz.prog w= .ok (.func fn first cap) w:=fun _ _ _ _=>rfl
 go_enter Tryz.func61,Tryz.ntmps61
 go_wp2_with fail;refine(rF rb v data s w hr).mono ?_;rintro e w1 ⟨rfl,h1,h2⟩;have H1:=aa h1;have H2:=aa h2;clear h1 h2;go_wp2_with fail;go_ret;exact⟨rfl,H1.o,H2.o⟩
theorem Cn (rb:Nat) (v:Value) (data:List UInt8) (s:RS) (most:Nat) (w:World) (hr:mZ w rb v data s) (hm:most<=2000000):
  Calls Tryz.prog 59 #[.pointer (some ⟨rb,0,none⟩), .int .i64 (most:Int)] w (oR 0 (fun n:Nat=> .int .i64 (n:Int)) w rb v data (iL data s.off most) s):=by
 have hmf: ∀(fn:Fn) (first cap:Array Value) (w:World),(Instr.makeFunc fn first cap).run Tryz.prog w= .ok (.func fn first cap) w:=fun _ _ _ _=>rfl
 have HR:=aa hr;clear hr
 go_enter Tryz.func59,Tryz.ntmps59
 go_wp2_with fail;have hb:Below w.heap.size w ((w.alloc (.cells #[.pointer (some ⟨rb,0,none⟩)] 101)).alloc (.cells #[.int .i64 (most:Int)] 3)):=(bH).alloc (by simp) _;have HB:=aa hb;clear hb;refine(pG w.heap.size (w.heap.size+1) rb v data s most _ (aX.below HR.o HB.o) hm (by simp[go_sem]) (by simp[go_sem])).mono ?_;rintro e w1 ⟨rfl,h1,h2⟩;have H1:=aa h1;have H2:=aa (aG (cI HB.o (some rb)) h2)
 clear h1 h2;go_wp2_with fail;go_ret;exact⟨rfl,H1.o,H2.o⟩
theorem rP (bs:List UInt8):strOfNums (bs.map fun b=>(b.toNat:Int))=⟨bs.toArray⟩:=by
 simp only[strOfNums,List.map_map,Function.comp_def,Int.toNat_natCast];simp
theorem Bd {w:World} {rb:Nat} {pv:Value} {bs:List UInt8} (h:AH w rb pv bs):(convert 29 9 pv).run Tryz.prog w= .ok (.string ⟨bs.toArray⟩) w:=by
 obtain⟨bk,o,c,rfl,_,_,hc⟩:=h;have h:=run_convert_bytes_arg (P:=Tryz.prog) w 29 5 Tryz.underlying29 Tryz.underlying5 bk o bs.length c (bs.map fun b=>(b.toNat:Int)) (by simp) (fun i hi=>by
  rw[hc i bs[i] (by simp[hi])];simp[ak,List.getD,hi]) 9 Tryz.underlying9
 rw[rP]at h;exact h
theorem wG (w:World):(convert 29 9 (.slice none 0 0)).run Tryz.prog w= .ok (.string ⟨#[]⟩) w:=by kernel_rfl
theorem yu {data:List UInt8} {off n:Nat} {x:Int} (h:fw data off n= .error x): ¬x=0:=by
 unfold fw at h
 split at h
 ·simp only[Except.error.injEq]at h; omega
 ·simp at h
theorem Cc {data:List UInt8} {off most:Nat} {x:Int} (h:eN data off most= .error x): ¬x=0:=by
 unfold eN at h
 split at h
 ·rename_i y hy;simp only[Except.error.injEq]at h;exact h▸Bq hy
 ·exact yu h
theorem DQ (xb mb rb:Nat) (v:Value) (data:List UInt8) (off last most:Nat) (err:Int) (w:World) (hr:aX w rb v data off last err) (hm:most<=2000000)
  (hx:w.cell? ⟨xb,0,none⟩=some (.pointer (some ⟨rb,0,none⟩))) (hmb:w.cell? ⟨mb,0,none⟩=some (.int .i64 (most:Int))):
  Calls Tryz.prog 109 #[.pointer (some ⟨xb,0,none⟩), .pointer (some ⟨mb,0,none⟩)] w (Gq (.string ⟨#[]⟩) (fun bs:List UInt8=>Value.string ⟨bs.toArray⟩) w rb v data last err (eN data off most)):=by
 have HR:=aa hr;clear hr
 go_enter Tryz.func109,Tryz.ntmps109
 go_wp2_with fail;refine(Cd rb v data off last most err w HR.o hm).mono ?_;intro e w1 hd;obtain⟨o',h1,h2,h3⟩:=hd;have H1:=aa h1;have H2:=aa h2;clear h1 h2
 cases hl:eN data off most with
 | error y=>
  rw[hl]at h3; simp only at h3; subst h3;have HL:=aa hl;clear hl;have hcv:=wG;go_wp2_with fail
  go_ret2
  exact⟨o',H1.o,H2.o,by rw[HL.o]; rfl⟩
 | ok p=>
  obtain⟨bs,o⟩:=p;rw[hl]at h3; simp only at h3;obtain⟨⟨pv,rfl,hpv⟩,rfl⟩:=h3;have HL:=aa hl;clear hl;have hcv:=Bd hpv;clear hpv;go_wp2_with fail
  go_ret2
  exact⟨o',H1.o,H2.o,by rw[HL.o]; exact⟨rfl,rfl⟩⟩
theorem FR (xb rb:Nat) (v:Value) (data:List UInt8) (off last:Nat) (err:Int) (w:World) (hr:aX w rb v data off last err)
  (hx:w.cell? ⟨xb,0,none⟩=some (.pointer (some ⟨rb,0,none⟩))):
  Calls Tryz.prog 143 #[.pointer (some ⟨xb,0,none⟩)] w (Gq (.string ⟨#[]⟩) (fun bs:List UInt8=>Value.string ⟨bs.toArray⟩) w rb v data last err (fw data off 32)):=by
 have HR:=aa hr;clear hr
 go_enter Tryz.func143,Tryz.ntmps143
 go_wp2_with fail;refine(yw rb v data off last 32 err w HR.o (by omega) (.inr (by omega))).mono ?_;intro e w1 hd;obtain⟨o',h1,h2,h3⟩:=hd;have H1:=aa h1;have H2:=aa h2;clear h1 h2
 cases hl:fw data off 32 with
 | error y=>
  rw[hl]at h3; simp only at h3; subst h3;have HL:=aa hl;clear hl;have hcv:=wG;go_wp2_with fail
  go_ret2
  exact⟨o',H1.o,H2.o,by rw[HL.o]; rfl⟩
 | ok p=>
  obtain⟨bs,o⟩:=p;rw[hl]at h3; simp only at h3;obtain⟨⟨pv,rfl,hpv⟩,rfl⟩:=h3;have HL:=aa hl;clear hl;have hcv:=Bd hpv;clear hpv;go_wp2_with fail
  go_ret2
  exact⟨o',H1.o,H2.o,by rw[HL.o]; exact⟨rfl,rfl⟩⟩
theorem rE (cx cm rb:Nat) (v:Value) (data:List UInt8) (s:RS) (most:Nat) (w:World) (hr:mZ w rb v data s) (hm:most<=2000000)
  (hx:w.cell? ⟨cx,0,none⟩=some (.pointer (some ⟨rb,0,none⟩))) (hmb:w.cell? ⟨cm,0,none⟩=some (.int .i64 (most:Int))):
  Calls Tryz.prog 108 #[.pointer (some ⟨rb,0,none⟩), .func (.func 109) #[] #[.pointer (some ⟨cx,0,none⟩), .pointer (some ⟨cm,0,none⟩)]] w
   (oR [] (fun bs:List UInt8=>Value.string ⟨bs.toArray⟩) w rb v data (eN data s.off most) s):=by
 have HX:=aa hx;have HM:=aa hmb;clear hx hmb;have hmf: ∀(fn:Fn) (first cap:Array Value) (w:World),(Instr.makeFunc fn first cap).run Tryz.prog w= .ok (.func fn first cap) w:=fun _ _ _ _=>rfl
 have hr':aX w rb v data s.off s.last s.err:=hr;have HR:=aa hr';have hlt:=hr'.lt;have c1:=hr'.c1;have c3:=hr'.c3;clear hr hr'
 go_enter_defers Tryz.func108,Tryz.ntmps108
 by_cases he:s.err=0
 ·rw[he]at c3;go_wp2_with fail;obtain⟨W,hW⟩: ∃W,W=((w.alloc (.cells #[.pointer (some ⟨rb,0,none⟩)] 101)).alloc (.cells #[.string ⟨#[]⟩] 9)).alloc (.cells #[.int .i64 (s.off:Int)] 3):=⟨_,rfl⟩;rw[<-hW];have hB:bQ w W rb (.string ⟨#[]⟩) 9 s.off:=by rw[hW]; exact bQ.start hlt _ _ _
  have hBel:Below w.heap.size w W:=by rw[hW]; exact bQ.below0 _ _ _
  have hRW:aX W rb v data s.off s.last 0:=by have:=HR.o.below hBel; rw[he]at this; exact this
  have HB:=aa hB;have HRW:=aa hRW;have HBel:=aa hBel;have HE:=aa he;have x0:=cell_of_one hB.bx;have hxr:w.heap.size≠rb:=by omega
  clear hW hB hRW hBel c1 c3 he;refine lQ ?_;refine bE (fun w'=>w'.cell? ⟨w.heap.size,0,none⟩=some (.pointer (some ⟨rb,0,none⟩))) (by kernel_rfl) ?_
  iterate 2 (refine aJ rfl (by kernel_rfl) (fun _ _ _ h=>False.elim h) rfl (by go_simp) (by intro w' hw'; go_simp; rfl) ?_; simp only[Act.put,aZ,bg,bh])
  refine an 2 rfl (by kernel_rfl) rfl (fun K hK=> ?_);have hBel2:Below w.heap.size w W.drew:=HBel.o.trans ⟨rfl,rfl,rfl,Nat.le_refl _,fun _ _=>rfl⟩;have HRW2:=aa (show aX W.drew rb v data s.off s.last 0 from HRW.o.draws 1);have HBel2:=aa hBel2;clear hBel2;go_wp2_with fail;refine(DQ cx cm rb v data s.off s.last most 0 _ HRW2.o hm ((HBel2.o.cell (aP HX.o)).trans HX.o) ((HBel2.o.cell (aP HM.o)).trans HM.o)).mono ?_
  rintro e w1 ⟨o',h1,h2,h3⟩;have HB1:=aa (HB.o.step (aG (b:=W.drew) ⟨rfl,rfl,rfl,Nat.le_refl _,fun _ _ _=>rfl⟩ h2));have x1:=cell_of_one HB1.o.bx;have v1:=cell_of_one HB1.o.bv;have fv1:=free_of_one HB1.o.bv;have HR1:=aa h1;have e3:=h1.c3;have f3:=h1.free 3;clear h1 h2 x0
  cases hd:eN data s.off most with
  | error y=>
   have hy: ¬y=0:=Cc hd;have HD:=aa hd;rw[hd]at h3;simp only at h3;subst h3;clear hd;go_wp2_with fail;refine⟨x1, ?_⟩
   iterate 3 (refine aJ rfl (by kernel_rfl) (fun _ _ _ h=>False.elim h) rfl (by go_simp) (by intro w' hw'; go_simp; rfl) ?_; simp only[Act.put,aZ,bg,bh])
   refine an 6 rfl (by kernel_rfl) rfl (fun K hK=> ?_);go_wp2_with fail;obtain⟨w2,hw2⟩: ∃w2,w2=w1.setCell ⟨w.heap.size+1,0,none⟩ (.string ⟨#[]⟩):=⟨_,rfl⟩;rw[<-hw2];have HB2:=aa (show bQ w w2 rb (.string ⟨#[]⟩) 9 s.off by rw[hw2]; exact HB1.o.setv _);have HR2:=aa (show aX w2 rb v data o' s.last 0 by rw[hw2]; exact HR.o.setOther HR1.o (by omega) _);have x2:=cell_of_one HB2.o.bx
   have e4:=HR2.o.c3;have f4:=HR2.o.free 3;clear hw2 x1 v1 fv1 e3 f3;refine⟨x2, ?_⟩
   iterate 2 (refine aJ rfl (by kernel_rfl) (fun _ _ _ h=>False.elim h) rfl (by go_simp) (by intro w' hw'; go_simp; rfl) ?_; simp only[Act.put,aZ,bg,bh])
   refine an 9 rfl (by kernel_rfl) rfl (fun K hK=> ?_);go_wp2_with fail;obtain⟨w3,hw3⟩: ∃w3,w3=w2.setCell ⟨rb,3,none⟩ (.int .i64 (y)):=⟨_,rfl⟩;rw[<-hw3];have HB3:=aa (show bQ w w3 rb (.string ⟨#[]⟩) 9 s.off by rw[hw3]; exact HB2.o.step (aN _ _ _ _));have HR3:=aa (show aX w3 rb v data o' s.last (y) by rw[hw3]; exact HR2.o.set3 _);have x3:=cell_of_one HB3.o.bx
   have v3:=cell_of_one HB3.o.bv;have fv3:=free_of_one HB3.o.bv;clear hw3 x2 e4 f4;refine⟨x3, ?_⟩;refine aM (by kernel_rfl) ?_;refine eQ ?_;go_wp2_with fail;obtain⟨w5,hw5⟩: ∃w5,w5=w3.setCell ⟨w.heap.size+1,0,none⟩ (.string ⟨#[]⟩):=⟨_,rfl⟩;rw[<-hw5];have HB5:=aa (show bQ w w5 rb (.string ⟨#[]⟩) 9 s.off by rw[hw5]; exact HB3.o.setv _);have HR5:=aa (show aX w5 rb v data o' s.last (y) by rw[hw5]; exact HR.o.setOther HR3.o (by omega) _)
   clear hw5;refine leaves_cons (f:=140) (args:= #[.pointer (some ⟨w.heap.size+1+1,0,none⟩), .pointer (some ⟨w.heap.size,0,none⟩), .pointer (some ⟨w.heap.size+1,0,none⟩)]) (by simp) (by simp[go_sem]) ?_;refine(uo (w.heap.size+1+1) w.heap.size (w.heap.size+1) rb v data o' s.last s.off y _ _ .returning _ HR5.o hy (cell_of_one HB5.o.bs) (cell_of_one HB5.o.bx) HB5.o.bv (by omega) (by omega) (by omega) (by omega) (by omega)).mono ?_
   rintro e u' w'' ⟨rfl,rfl,hw4⟩;have HB4:=aa (show bQ w w'' rb (.string ⟨#[]⟩) 9 s.off by rw[hw4]; exact(HB5.o.step (aG (aN _ _ _ _) (aN _ _ _ _))).setv _);have HR4:=aa (show aX w'' rb v data s.off s.off y by rw[hw4]; exact HR.o.setOther ((HR5.o.set2 s.off HR.o.le).set1 s.off HR.o.le) (by omega) _);have m0:=cell_of_one HB4.o.bv;simp only[Leaves,settle];refine⟨_,by simp[results,Tryz.results108,go_sem,m0]<;> rfl, ?_⟩
   have hrv:rv (([]:List UInt8)) (eN data s.off most) s=(([]:List UInt8),⟨s.off,s.off,y⟩):=by unfold rv; rw[if_pos HE.o,HD.o]
   exact⟨by rw[hrv]<;> rfl,by rw[hrv]; exact HR4.o,HB4.o.grown⟩
  | ok p=>
   obtain⟨n,o⟩:=p;have HD:=aa hd;rw[hd]at h3;simp only at h3;obtain⟨rfl,rfl⟩:=h3;clear hd;go_wp2_with fail;refine⟨x1, ?_⟩;refine ay 3 rfl (by kernel_rfl) (by kernel_rfl) (by kernel_rfl) (fun _ _ _ h=>False.elim h) rfl (by go_simp) (by intro w' hw'; go_simp; rfl) ?_;simp only[Act.put,aZ,bg,bh];refine ay 4 rfl (by kernel_rfl) (by kernel_rfl) (by kernel_rfl) (fun _ _ _ h=>False.elim h) rfl (by go_simp) (by intro w' hw'; go_simp; rfl) ?_
   simp only[Act.put,aZ,bg,bh];refine ay 5 rfl (by kernel_rfl) (by kernel_rfl) (by kernel_rfl) (fun _ _ _ h=>False.elim h) rfl (by go_simp) (by intro w' hw'; go_simp; rfl) ?_;simp only[Act.put,aZ,bg,bh];refine an 6 rfl (by kernel_rfl) rfl (fun K hK=> ?_);go_wp2_with fail;obtain⟨w2,hw2⟩: ∃w2,w2=w1.setCell ⟨w.heap.size+1,0,none⟩ (.string ⟨n.toArray⟩):=⟨_,rfl⟩
   rw[<-hw2];have HB2:=aa (show bQ w w2 rb (.string ⟨n.toArray⟩) 9 s.off by rw[hw2]; exact HB1.o.setv _);have HR2:=aa (show aX w2 rb v data o' s.last 0 by rw[hw2]; exact HR.o.setOther HR1.o (by omega) _);have x2:=cell_of_one HB2.o.bx;have e4:=HR2.o.c3;have f4:=HR2.o.free 3;clear hw2 x1 v1 fv1 e3 f3;refine⟨x2, ?_⟩;refine ay 7 rfl (by kernel_rfl) (by kernel_rfl) (by kernel_rfl) (fun _ _ _ h=>False.elim h) rfl (by go_simp) (by intro w' hw'; go_simp; rfl) ?_
   simp only[Act.put,aZ,bg,bh];refine ay 8 rfl (by kernel_rfl) (by kernel_rfl) (by kernel_rfl) (fun _ _ _ h=>False.elim h) rfl (by go_simp) (by intro w' hw'; go_simp; rfl) ?_;simp only[Act.put,aZ,bg,bh];refine an 9 rfl (by kernel_rfl) rfl (fun K hK=> ?_);go_wp2_with fail;obtain⟨w3,hw3⟩: ∃w3,w3=w2.setCell ⟨rb,3,none⟩ (.int .i64 (0)):=⟨_,rfl⟩;rw[<-hw3];have HB3:=aa (show bQ w w3 rb (.string ⟨n.toArray⟩) 9 s.off by rw[hw3]; exact HB2.o.step (aN _ _ _ _))
   have HR3:=aa (show aX w3 rb v data o' s.last (0) by rw[hw3]; exact HR2.o.set3 _);have x3:=cell_of_one HB3.o.bx;have v3:=cell_of_one HB3.o.bv;have fv3:=free_of_one HB3.o.bv;clear hw3 x2 e4 f4;refine⟨x3, ?_⟩;refine aM (by kernel_rfl) ?_;refine eQ ?_;go_wp2_with fail;obtain⟨w5,hw5⟩: ∃w5,w5=w3.setCell ⟨w.heap.size+1,0,none⟩ (.string ⟨n.toArray⟩):=⟨_,rfl⟩;rw[<-hw5]
   have HB5:=aa (show bQ w w5 rb (.string ⟨n.toArray⟩) 9 s.off by rw[hw5]; exact HB3.o.setv _);have HR5:=aa (show aX w5 rb v data o' s.last (0) by rw[hw5]; exact HR.o.setOther HR3.o (by omega) _);clear hw5;refine leaves_cons (f:=140) (args:= #[.pointer (some ⟨w.heap.size+1+1,0,none⟩), .pointer (some ⟨w.heap.size,0,none⟩), .pointer (some ⟨w.heap.size+1,0,none⟩)]) (by simp) (by simp[go_sem]) ?_
   refine(ye (w.heap.size+1+1) w.heap.size (w.heap.size+1) rb v data o' s.last s.off .returning _ HR5.o (cell_of_one HB5.o.bs) (cell_of_one HB5.o.bx) (by omega) (by omega)).mono ?_;rintro e u' w'' ⟨rfl,rfl,hw4⟩;have HB4:=aa (show bQ w w'' rb (.string ⟨n.toArray⟩) 9 s.off by rw[hw4]; exact HB5.o.step (aN _ _ _ _));have HR4:=aa (show aX w'' rb v data o' s.off 0 by rw[hw4]; exact HR5.o.set2 s.off HR.o.le)
   have m0:=cell_of_one HB4.o.bv;simp only[Leaves,settle];refine⟨_,by simp[results,Tryz.results108,go_sem,m0]<;> rfl, ?_⟩;have hrv:rv (([]:List UInt8)) (eN data s.off most) s=(n,⟨o',s.off,0⟩):=by unfold rv; rw[if_pos HE.o,HD.o]
   exact⟨by rw[hrv]<;> rfl,by rw[hrv]; exact HR4.o,HB4.o.grown⟩
 ·have HE:=aa he;go_wp2_with fail;simp only[bodyPostD];refine⟨_,by simp[results,Tryz.results108,go_sem]<;> rfl, ?_⟩;have hrv:rv (([]:List UInt8)) (eN data s.off most) s=(([]:List UInt8),s):=by unfold rv; rw[if_neg HE.o]
  refine⟨by rw[hrv]<;> rfl,by rw[hrv]; exact HR.o.below ((bH).alloc (by simp) _),cI ((bH).alloc (by simp) _) _⟩
theorem sM (cx rb:Nat) (v:Value) (data:List UInt8) (s:RS) (w:World) (hr:mZ w rb v data s)
  (hx:w.cell? ⟨cx,0,none⟩=some (.pointer (some ⟨rb,0,none⟩))):
  Calls Tryz.prog 108 #[.pointer (some ⟨rb,0,none⟩), .func (.func 143) #[] #[.pointer (some ⟨cx,0,none⟩)]] w
   (oR [] (fun bs:List UInt8=>Value.string ⟨bs.toArray⟩) w rb v data (fw data s.off 32) s):=by
 have HX:=aa hx;clear hx;have hmf: ∀(fn:Fn) (first cap:Array Value) (w:World),(Instr.makeFunc fn first cap).run Tryz.prog w= .ok (.func fn first cap) w:=fun _ _ _ _=>rfl
 have hr':aX w rb v data s.off s.last s.err:=hr;have HR:=aa hr';have hlt:=hr'.lt;have c1:=hr'.c1;have c3:=hr'.c3;clear hr hr'
 go_enter_defers Tryz.func108,Tryz.ntmps108
 by_cases he:s.err=0
 ·rw[he]at c3;go_wp2_with fail;obtain⟨W,hW⟩: ∃W,W=((w.alloc (.cells #[.pointer (some ⟨rb,0,none⟩)] 101)).alloc (.cells #[.string ⟨#[]⟩] 9)).alloc (.cells #[.int .i64 (s.off:Int)] 3):=⟨_,rfl⟩;rw[<-hW];have hB:bQ w W rb (.string ⟨#[]⟩) 9 s.off:=by rw[hW]; exact bQ.start hlt _ _ _
  have hBel:Below w.heap.size w W:=by rw[hW]; exact bQ.below0 _ _ _
  have hRW:aX W rb v data s.off s.last 0:=by have:=HR.o.below hBel; rw[he]at this; exact this
  have HB:=aa hB;have HRW:=aa hRW;have HBel:=aa hBel;have HE:=aa he;have x0:=cell_of_one hB.bx;have hxr:w.heap.size≠rb:=by omega
  clear hW hB hRW hBel c1 c3 he;refine lQ ?_;refine bE (fun w'=>w'.cell? ⟨w.heap.size,0,none⟩=some (.pointer (some ⟨rb,0,none⟩))) (by kernel_rfl) ?_
  iterate 2 (refine aJ rfl (by kernel_rfl) (fun _ _ _ h=>False.elim h) rfl (by go_simp) (by intro w' hw'; go_simp; rfl) ?_; simp only[Act.put,aZ,bg,bh])
  refine an 2 rfl (by kernel_rfl) rfl (fun K hK=> ?_);have hBel2:Below w.heap.size w W.drew:=HBel.o.trans ⟨rfl,rfl,rfl,Nat.le_refl _,fun _ _=>rfl⟩;have HRW2:=aa (show aX W.drew rb v data s.off s.last 0 from HRW.o.draws 1);have HBel2:=aa hBel2;clear hBel2;go_wp2_with fail;refine(FR cx rb v data s.off s.last 0 _ HRW2.o ((HBel2.o.cell (aP HX.o)).trans HX.o)).mono ?_
  rintro e w1 ⟨o',h1,h2,h3⟩;have HB1:=aa (HB.o.step (aG (b:=W.drew) ⟨rfl,rfl,rfl,Nat.le_refl _,fun _ _ _=>rfl⟩ h2));have x1:=cell_of_one HB1.o.bx;have v1:=cell_of_one HB1.o.bv;have fv1:=free_of_one HB1.o.bv;have HR1:=aa h1;have e3:=h1.c3;have f3:=h1.free 3;clear h1 h2 x0
  cases hd:fw data s.off 32 with
  | error y=>
   have hy: ¬y=0:=yu hd;have HD:=aa hd;rw[hd]at h3;simp only at h3;subst h3;clear hd;go_wp2_with fail;refine⟨x1, ?_⟩
   iterate 3 (refine aJ rfl (by kernel_rfl) (fun _ _ _ h=>False.elim h) rfl (by go_simp) (by intro w' hw'; go_simp; rfl) ?_; simp only[Act.put,aZ,bg,bh])
   refine an 6 rfl (by kernel_rfl) rfl (fun K hK=> ?_);go_wp2_with fail;obtain⟨w2,hw2⟩: ∃w2,w2=w1.setCell ⟨w.heap.size+1,0,none⟩ (.string ⟨#[]⟩):=⟨_,rfl⟩;rw[<-hw2];have HB2:=aa (show bQ w w2 rb (.string ⟨#[]⟩) 9 s.off by rw[hw2]; exact HB1.o.setv _);have HR2:=aa (show aX w2 rb v data o' s.last 0 by rw[hw2]; exact HR.o.setOther HR1.o (by omega) _);have x2:=cell_of_one HB2.o.bx
   have e4:=HR2.o.c3;have f4:=HR2.o.free 3;clear hw2 x1 v1 fv1 e3 f3;refine⟨x2, ?_⟩
   iterate 2 (refine aJ rfl (by kernel_rfl) (fun _ _ _ h=>False.elim h) rfl (by go_simp) (by intro w' hw'; go_simp; rfl) ?_; simp only[Act.put,aZ,bg,bh])
   refine an 9 rfl (by kernel_rfl) rfl (fun K hK=> ?_);go_wp2_with fail;obtain⟨w3,hw3⟩: ∃w3,w3=w2.setCell ⟨rb,3,none⟩ (.int .i64 (y)):=⟨_,rfl⟩;rw[<-hw3];have HB3:=aa (show bQ w w3 rb (.string ⟨#[]⟩) 9 s.off by rw[hw3]; exact HB2.o.step (aN _ _ _ _));have HR3:=aa (show aX w3 rb v data o' s.last (y) by rw[hw3]; exact HR2.o.set3 _);have x3:=cell_of_one HB3.o.bx
   have v3:=cell_of_one HB3.o.bv;have fv3:=free_of_one HB3.o.bv;clear hw3 x2 e4 f4;refine⟨x3, ?_⟩;refine aM (by kernel_rfl) ?_;refine eQ ?_;go_wp2_with fail;obtain⟨w5,hw5⟩: ∃w5,w5=w3.setCell ⟨w.heap.size+1,0,none⟩ (.string ⟨#[]⟩):=⟨_,rfl⟩;rw[<-hw5];have HB5:=aa (show bQ w w5 rb (.string ⟨#[]⟩) 9 s.off by rw[hw5]; exact HB3.o.setv _);have HR5:=aa (show aX w5 rb v data o' s.last (y) by rw[hw5]; exact HR.o.setOther HR3.o (by omega) _)
   clear hw5;refine leaves_cons (f:=140) (args:= #[.pointer (some ⟨w.heap.size+1+1,0,none⟩), .pointer (some ⟨w.heap.size,0,none⟩), .pointer (some ⟨w.heap.size+1,0,none⟩)]) (by simp) (by simp[go_sem]) ?_;refine(uo (w.heap.size+1+1) w.heap.size (w.heap.size+1) rb v data o' s.last s.off y _ _ .returning _ HR5.o hy (cell_of_one HB5.o.bs) (cell_of_one HB5.o.bx) HB5.o.bv (by omega) (by omega) (by omega) (by omega) (by omega)).mono ?_
   rintro e u' w'' ⟨rfl,rfl,hw4⟩;have HB4:=aa (show bQ w w'' rb (.string ⟨#[]⟩) 9 s.off by rw[hw4]; exact(HB5.o.step (aG (aN _ _ _ _) (aN _ _ _ _))).setv _);have HR4:=aa (show aX w'' rb v data s.off s.off y by rw[hw4]; exact HR.o.setOther ((HR5.o.set2 s.off HR.o.le).set1 s.off HR.o.le) (by omega) _);have m0:=cell_of_one HB4.o.bv;simp only[Leaves,settle];refine⟨_,by simp[results,Tryz.results108,go_sem,m0]<;> rfl, ?_⟩
   have hrv:rv (([]:List UInt8)) (fw data s.off 32) s=(([]:List UInt8),⟨s.off,s.off,y⟩):=by unfold rv; rw[if_pos HE.o,HD.o]
   exact⟨by rw[hrv]<;> rfl,by rw[hrv]; exact HR4.o,HB4.o.grown⟩
  | ok p=>
   obtain⟨n,o⟩:=p;have HD:=aa hd;rw[hd]at h3;simp only at h3;obtain⟨rfl,rfl⟩:=h3;clear hd;go_wp2_with fail;refine⟨x1, ?_⟩;refine ay 3 rfl (by kernel_rfl) (by kernel_rfl) (by kernel_rfl) (fun _ _ _ h=>False.elim h) rfl (by go_simp) (by intro w' hw'; go_simp; rfl) ?_;simp only[Act.put,aZ,bg,bh];refine ay 4 rfl (by kernel_rfl) (by kernel_rfl) (by kernel_rfl) (fun _ _ _ h=>False.elim h) rfl (by go_simp) (by intro w' hw'; go_simp; rfl) ?_
   simp only[Act.put,aZ,bg,bh];refine ay 5 rfl (by kernel_rfl) (by kernel_rfl) (by kernel_rfl) (fun _ _ _ h=>False.elim h) rfl (by go_simp) (by intro w' hw'; go_simp; rfl) ?_;simp only[Act.put,aZ,bg,bh];refine an 6 rfl (by kernel_rfl) rfl (fun K hK=> ?_);go_wp2_with fail;obtain⟨w2,hw2⟩: ∃w2,w2=w1.setCell ⟨w.heap.size+1,0,none⟩ (.string ⟨n.toArray⟩):=⟨_,rfl⟩
   rw[<-hw2];have HB2:=aa (show bQ w w2 rb (.string ⟨n.toArray⟩) 9 s.off by rw[hw2]; exact HB1.o.setv _);have HR2:=aa (show aX w2 rb v data o' s.last 0 by rw[hw2]; exact HR.o.setOther HR1.o (by omega) _);have x2:=cell_of_one HB2.o.bx;have e4:=HR2.o.c3;have f4:=HR2.o.free 3;clear hw2 x1 v1 fv1 e3 f3;refine⟨x2, ?_⟩;refine ay 7 rfl (by kernel_rfl) (by kernel_rfl) (by kernel_rfl) (fun _ _ _ h=>False.elim h) rfl (by go_simp) (by intro w' hw'; go_simp; rfl) ?_
   simp only[Act.put,aZ,bg,bh];refine ay 8 rfl (by kernel_rfl) (by kernel_rfl) (by kernel_rfl) (fun _ _ _ h=>False.elim h) rfl (by go_simp) (by intro w' hw'; go_simp; rfl) ?_;simp only[Act.put,aZ,bg,bh];refine an 9 rfl (by kernel_rfl) rfl (fun K hK=> ?_);go_wp2_with fail;obtain⟨w3,hw3⟩: ∃w3,w3=w2.setCell ⟨rb,3,none⟩ (.int .i64 (0)):=⟨_,rfl⟩;rw[<-hw3];have HB3:=aa (show bQ w w3 rb (.string ⟨n.toArray⟩) 9 s.off by rw[hw3]; exact HB2.o.step (aN _ _ _ _))
   have HR3:=aa (show aX w3 rb v data o' s.last (0) by rw[hw3]; exact HR2.o.set3 _);have x3:=cell_of_one HB3.o.bx;have v3:=cell_of_one HB3.o.bv;have fv3:=free_of_one HB3.o.bv;clear hw3 x2 e4 f4;refine⟨x3, ?_⟩;refine aM (by kernel_rfl) ?_;refine eQ ?_;go_wp2_with fail;obtain⟨w5,hw5⟩: ∃w5,w5=w3.setCell ⟨w.heap.size+1,0,none⟩ (.string ⟨n.toArray⟩):=⟨_,rfl⟩;rw[<-hw5]
   have HB5:=aa (show bQ w w5 rb (.string ⟨n.toArray⟩) 9 s.off by rw[hw5]; exact HB3.o.setv _);have HR5:=aa (show aX w5 rb v data o' s.last (0) by rw[hw5]; exact HR.o.setOther HR3.o (by omega) _);clear hw5;refine leaves_cons (f:=140) (args:= #[.pointer (some ⟨w.heap.size+1+1,0,none⟩), .pointer (some ⟨w.heap.size,0,none⟩), .pointer (some ⟨w.heap.size+1,0,none⟩)]) (by simp) (by simp[go_sem]) ?_
   refine(ye (w.heap.size+1+1) w.heap.size (w.heap.size+1) rb v data o' s.last s.off .returning _ HR5.o (cell_of_one HB5.o.bs) (cell_of_one HB5.o.bx) (by omega) (by omega)).mono ?_;rintro e u' w'' ⟨rfl,rfl,hw4⟩;have HB4:=aa (show bQ w w'' rb (.string ⟨n.toArray⟩) 9 s.off by rw[hw4]; exact HB5.o.step (aN _ _ _ _));have HR4:=aa (show aX w'' rb v data o' s.off 0 by rw[hw4]; exact HR5.o.set2 s.off HR.o.le)
   have m0:=cell_of_one HB4.o.bv;simp only[Leaves,settle];refine⟨_,by simp[results,Tryz.results108,go_sem,m0]<;> rfl, ?_⟩;have hrv:rv (([]:List UInt8)) (fw data s.off 32) s=(n,⟨o',s.off,0⟩):=by unfold rv; rw[if_pos HE.o,HD.o]
   exact⟨by rw[hrv]<;> rfl,by rw[hrv]; exact HR4.o,HB4.o.grown⟩
 ·have HE:=aa he;go_wp2_with fail;simp only[bodyPostD];refine⟨_,by simp[results,Tryz.results108,go_sem]<;> rfl, ?_⟩;have hrv:rv (([]:List UInt8)) (fw data s.off 32) s=(([]:List UInt8),s):=by unfold rv; rw[if_neg HE.o]
  refine⟨by rw[hrv]<;> rfl,by rw[hrv]; exact HR.o.below ((bH).alloc (by simp) _),cI ((bH).alloc (by simp) _) _⟩
theorem FW (rb:Nat) (v:Value) (data:List UInt8) (s:RS) (most:Nat) (w:World) (hr:mZ w rb v data s) (hm:most<=2000000):
  Calls Tryz.prog 60 #[.pointer (some ⟨rb,0,none⟩), .int .i64 (most:Int)] w (oR [] (fun bs:List UInt8=>Value.string ⟨bs.toArray⟩) w rb v data (eN data s.off most) s):=by
 have hmf: ∀(fn:Fn) (first cap:Array Value) (w:World),(Instr.makeFunc fn first cap).run Tryz.prog w= .ok (.func fn first cap) w:=fun _ _ _ _=>rfl
 have HR:=aa hr;clear hr
 go_enter Tryz.func60,Tryz.ntmps60
 go_wp2_with fail;have hb:Below w.heap.size w ((w.alloc (.cells #[.pointer (some ⟨rb,0,none⟩)] 101)).alloc (.cells #[.int .i64 (most:Int)] 3)):=(bH).alloc (by simp) _;have HB:=aa hb;clear hb;refine(rE w.heap.size (w.heap.size+1) rb v data s most _ (aX.below HR.o HB.o) hm (by simp[go_sem]) (by simp[go_sem])).mono ?_;rintro e w1 ⟨rfl,h1,h2⟩;have H1:=aa h1;have H2:=aa (aG (cI HB.o (some rb)) h2)
 clear h1 h2;go_wp2_with fail;go_ret;exact⟨rfl,H1.o,H2.o⟩
theorem Iz (rb:Nat) (v:Value) (data:List UInt8) (s:RS) (w:World) (hr:mZ w rb v data s):
  Calls Tryz.prog 113 #[.pointer (some ⟨rb,0,none⟩)] w (oR [] (fun bs:List UInt8=>Value.string ⟨bs.toArray⟩) w rb v data (fw data s.off 32) s):=by
 have hmf: ∀(fn:Fn) (first cap:Array Value) (w:World),(Instr.makeFunc fn first cap).run Tryz.prog w= .ok (.func fn first cap) w:=fun _ _ _ _=>rfl
 have HR:=aa hr;clear hr
 go_enter Tryz.func113,Tryz.ntmps113
 go_wp2_with fail;have hb:Below w.heap.size w (w.alloc (.cells #[.pointer (some ⟨rb,0,none⟩)] 101)):=bH;have HB:=aa hb;clear hb;refine(sM w.heap.size rb v data s _ (aX.below HR.o HB.o) (by simp[go_sem])).mono ?_;rintro e w1 ⟨rfl,h1,h2⟩;have H1:=aa h1;have H2:=aa (aG (cI HB.o (some rb)) h2);clear h1 h2;go_wp2_with fail;go_ret;exact⟨rfl,H1.o,H2.o⟩
def qC (data:List UInt8) (s:RS):Int:=if s.err=0 then(if s.off<data.length then 3 else 0)else s.err
theorem GS (rb:Nat) (v:Value) (data:List UInt8) (s:RS) (w:World) (hr:mZ w rb v data s):
  Calls Tryz.prog 64 #[.pointer (some ⟨rb,0,none⟩)] w fun e w'=>e= .returned (.tuple #[.int .i64 (s.off:Int), .int .i64 (qC data s)])/\ ∃n,w'=w.drewN n:=by
 obtain⟨a,cap,rfl,hc,hcm,-⟩:=aX.shape hr;unfold maxLen at hcm;have c0:=aX.c0 hr;have c1:=aX.c1 hr;have c3:=aX.c3 hr;have hsm:=aX.small hr;have hle:=aX.le hr;clear hr
 by_cases he:s.err=0
 ·rw[he]at c3;have HE:=aa he;clear he
  by_cases hl:s.off<data.length
  ·have HR:=aa (show qC data s=3 by unfold qC; rw[if_pos HE.o,if_pos hl])
   go_enter Tryz.func64,Tryz.ntmps64
   go_wp2_with fail
   go_quiet (fail)
   go_wp2_with fail
   go_ret2
   exact⟨by rw[HR.o]; rfl,_,rfl⟩
  ·have HR:=aa (show qC data s=0 by unfold qC; rw[if_pos HE.o,if_neg hl])
   go_enter Tryz.func64,Tryz.ntmps64
   go_wp2_with fail
   go_quiet (fail)
   go_wp2_with fail
   go_ret2
   exact⟨by rw[HR.o]; rfl,_,rfl⟩
 ·have HR:=aa (show qC data s=s.err by unfold qC; rw[if_neg he])
  go_enter Tryz.func64,Tryz.ntmps64
  go_wp2_with fail
  go_quiet (fail)
  go_wp2_with fail
  go_ret2
  exact⟨by rw[HR.o]; rfl,_,rfl⟩
open Go Go.RowKit Go.Maps
def em (P:Program) (k:TypeId) (w:World) (b:Nat) (m:List (Value×Value)):Prop:=
 ∃es clock,w.heap[b]? =some (.map es clock)/\es.toList.map (fun e=>(e.key,e.val))=m/\(m.map Prod.fst).Nodup/\ ∀p∈m,∃l,keyOf P k p.1=some l
theorem qO {w:World} {b:Nat} {x:Obj} (hb:w.heap[b]? =some x) (o:Obj):(ChangeMaps.setBlock w b o).heap[b]? =some o:=by
 have:=(Array.getElem?_eq_some_iff.1 hb).1;simp[ChangeMaps.setBlock,this]
theorem tE {w:World} {b:Nat} {x:Obj} (_:w.heap[b]? =some x) (o:Obj) {i:Nat} (h:i≠b):(ChangeMaps.setBlock w b o).heap[i]? =w.heap[i]? :=by
 simp[ChangeMaps.setBlock,Ne.symm h]
section
variable {P : Program} {k t e : TypeId} {w w' : World} {b : Nat} {m : List (Value × Value)} {key val z : Value}
theorem em.lt (h:em P k w b m):b<w.heap.size:=by
 obtain⟨es,clock,hb,_⟩:=h;exact(Array.getElem?_eq_some_iff.1 hb).1
theorem em.same (h:em P k w b m) (hs:w'.heap[b]? =w.heap[b]?):em P k w' b m:=by
 obtain⟨es,clock,hb,h2⟩:=h;exact⟨es,clock,hs.trans hb,h2⟩
theorem em.made (w:World):em P k (w.alloc (.map #[] 0)) w.heap.size []:=⟨#[],0,(MapKept.heap_alloc w _).1,rfl,List.nodup_nil,by simp⟩
theorem em.keys {es:Array MapEntry} (h:es.toList.map (fun e=>(e.key,e.val))=m) (hk: ∀p∈m,∃l,keyOf P k p.1=some l): ∀x∈es.toList,∃l,keyOf P k x.key=some l:=fun x hx=>hk (x.key,x.val) (by rw[<-h]; exact List.mem_map.2 ⟨x,hx,rfl⟩)
theorem tZ : ∀ {m:List (Value×Value)} {key v v':Value},(m.map Prod.fst).Nodup->(key,v)∈m->(key,v')∈m->v=v'
 | [],_,_,_,_,h,_=>by simp at h
 | (a,x)::m,key,v,v',hn,h,h'=>by
  simp only[List.map_cons,List.nodup_cons]at hn
  rcases List.mem_cons.1 h with h | h<;> rcases List.mem_cons.1 h' with h' | h'
  ·cases h; cases h'; rfl
  ·cases h
   exact absurd (List.mem_map.2 ⟨_,h',rfl⟩) hn.1
  ·cases h'
   exact absurd (List.mem_map.2 ⟨_,h,rfl⟩) hn.1
  ·exact tZ hn.2 h h'
theorem em.hit (h:em P k w b m) (K:Keyed P k) (ht:P.underlying t=some (.map k e)) (hkey: ∃l,keyOf P k key=some l) (hm:(key,val)∈m) (c:Bool):
  (Instr.lookup t (.map (some b)) key c).run P w= .ok (if c then .tuple #[val, .bool true]else val) w:=by
 obtain⟨es,clock,hb,he,hn,hk⟩:=h;obtain⟨kl,hkl⟩:=hkey
 rcases K.find w hkl es.toList (em.keys he hk)with⟨h1,h2⟩ | ⟨j,e0,h1,h2,h3⟩
 ·rw[<-he]at hm;obtain⟨x,hx,hxe⟩:=List.mem_map.1 hm;exact absurd (congrArg Prod.fst hxe) (h2 x hx)
 ·have hv:e0.val=val:=by
   refine tZ hn (key:=key) ?_ hm;rw[<-he,<-h3];exact List.mem_map.2 ⟨e0,List.mem_of_getElem? h2,rfl⟩
  cases c<;> simp[Instr.lookup,run_underlying ht,MapKept.run_getObj_map hb,K.check w _ hkl,h1,hv,Result.andThen]
theorem em.miss (h:em P k w b m) (K:Keyed P k) (ht:P.underlying t=some (.map k e)) (hz:(zeroValue e).run P w= .ok z w) (hkey: ∃l,keyOf P k key=some l) (hm: ∀p∈m,p.1≠key) (c:Bool):
  (Instr.lookup t (.map (some b)) key c).run P w= .ok (if c then .tuple #[z, .bool false]else z) w:=by
 obtain⟨es,clock,hb,he,hn,hk⟩:=h;obtain⟨kl,hkl⟩:=hkey
 rcases K.find w hkl es.toList (em.keys he hk)with⟨h1,h2⟩ | ⟨j,e0,h1,h2,h3⟩
 ·cases c<;> simp[Instr.lookup,run_underlying ht,MapKept.run_getObj_map hb,K.check w _ hkl,h1,hz,Result.andThen]
 ·exact absurd h3 (hm (e0.key,e0.val) (by rw[<-he]; exact List.mem_map.2 ⟨e0,List.mem_of_getElem? h2,rfl⟩))
theorem em.put (h:em P k w b m) (K:Keyed P k) (ht:P.underlying t=some (.map k e)) (hkey: ∃l,keyOf P k key=some l) (hm: ∀p∈m,p.1≠key) (val:Value):
  ∃w',(Instr.mapUpdate t (.map (some b)) key val).run P w= .ok () w'/\em P k w' b (m++[(key,val)])/\w.grownBy w' (some b):=by
 obtain⟨es,clock,hb,he,hn,hk⟩:=h;obtain⟨kl,hkl⟩:=hkey
 rcases K.find w hkl es.toList (em.keys he hk)with⟨h1,h2⟩ | ⟨j,e0,h1,h2,h3⟩
 ·refine⟨ChangeMaps.setBlock w b (.map (es.push ⟨key,val,clock⟩) (clock+1)), ?_,⟨_,_,qO hb _, ?_, ?_, ?_⟩,⟨rfl,rfl,rfl,by simp[ChangeMaps.setBlock],fun i _ hi=>tE hb _ (fun e=>hi (by rw[e]))⟩⟩
  ·simp[Instr.mapUpdate,run_underlying ht,MapKept.run_getObj_map hb,K.check w false hkl,h1,MapKept.run_setObj_map _ hb,Result.andThen,ChangeMaps.setBlock]
  ·simp[<-he]
  ·rw[List.map_append,List.nodup_append];refine⟨hn,by simp,fun a ha b' hb' e=> ?_⟩;obtain⟨p,hp,rfl⟩:=List.mem_map.1 ha;simp only[List.map_cons,List.map_nil,List.mem_singleton]at hb';exact hm p hp (e.trans hb')
  ·intro p hp
   rcases List.mem_append.1 hp with hp | hp
   ·exact hk p hp
   ·simp only[List.mem_singleton]at hp;subst hp;exact⟨kl,hkl⟩
 ·exact absurd h3 (hm (e0.key,e0.val) (by rw[<-he]; exact List.mem_map.2 ⟨e0,List.mem_of_getElem? h2,rfl⟩))
end
theorem AE {P:Program} {w:World} {ops:Array Oper} {rest:List Oper} {o:Oper} {a:Act} {Q:Exit->Act->World->Prop} {k e:TypeId} (K:Keyed P k) (hg:o.guard=none) (mo x v:Operand) (t:TypeId) (hop:o.op=Op.mapUpdate t mo x v)
  (ht:P.underlying t=some (.map k e)) (b:Nat) (m:List (Value×Value)) (h:em P k w b m) (hmo:a.eval mo= .map (some b)) (key val:Value) (hx:a.eval x=key) (hv:a.eval v=val) (hkey: ∃l,keyOf P k key=some l) (hnew: ∀p∈m,p.1≠key)
  (hK: ∀w',em P k w' b (m++[(key,val)])->w.grownBy w' (some b)->wpList P ops Q rest (a.put o.dst undef) w'):wpList P ops Q (o::rest) a w:=by
 refine wpList_plain hg fun K' hK'=> ?_
 obtain⟨w',hrun,r1,r2⟩:=h.put K ht hkey hnew val;unfold Oper.wp;simp[execOp,hop,hmo,hx,hv,hrun,Result.andThen];exact hK' _ _ (hK w' r1 r2)
structure aV where
 name:ByteArray
 gen:Int
 size:Int
deriving DecidableEq
def bU (r:aV):Value:= .agg #[.string r.name, .int .i64 r.gen, .int .i64 r.size]
def dC (r:aV):List Value:=[.string r.name, .int .i64 r.gen, .int .i64 r.size]
structure bK (r : aV) : Prop where
 nm:r.name.size<=maxLen
 gn:(Lit.int .i64 r.gen).wf=true
 sz:(Lit.int .i64 r.size).wf=true
theorem xW {r r':aV} (h:bU r=bU r'):r=r':=by
 cases r; cases r'
 simp only[bU,Value.agg.injEq,Array.mk.injEq,List.cons.injEq,Value.string.injEq,Value.int.injEq,true_and,and_true]at h;obtain⟨h1,h2,h3⟩:=h;rw[h1,h2,h3]
def lZ (c:List Value) (r:aV):Prop:=c=dC r/\bK r
theorem lZ.len (c:List Value) (r:aV) (h:lZ c r):c.length=3:=by rw[h.1]; rfl
def bw (S:Nat->Prop) (w:World) (v:Value) (rs:List aV):Prop:=aU S w 3 lZ v rs
theorem nz :laidOutB Tryz.prog=true:=by kernel_rfl
theorem Jm :(26:TypeId)<Tryz.prog.types.size:=of_decide_eq_true (by kernel_rfl)
theorem ws :Tryz.prog.cellsOf 26=3:=by kernel_rfl
theorem GP :Tryz.prog.keyTypeAt 2 26=true:=by kernel_rfl
theorem zE :Tryz.prog.keyType 26=true:=by kernel_rfl
theorem zG :Keyed Tryz.prog 26:=Keyed.of_law (deep_law_laid nz (m:=2) (by omega) Jm GP (by rw[Tryz.underlying26]))
theorem Iv : ∃n,Tryz.prog.types.size+1=n+3:=⟨Tryz.prog.types.size-2,by have:2<=Tryz.prog.types.size:=of_decide_eq_true (by kernel_rfl); omega⟩
theorem zD {r:aV} (h:bK r): ∃l,keyOf Tryz.prog 26 (bU r)=some l:=by
 obtain⟨h1,h2,h3⟩:=h;have c1:Tryz.prog.cellsOf 9=1:=by kernel_rfl
 have c2:Tryz.prog.cellsOf 3=1:=by kernel_rfl
 have hl: ∃ls,Tryz.prog.keyLits (Tryz.prog.types.size+1) 26 (dC r)=some ls:=by
  obtain⟨n,hn⟩:=Iv;rw[hn];simp[Program.keyLits,Tryz.underlying26,Tryz.underlying9,Tryz.underlying3,dC,ws,c1,c2,h1,h2,h3]
 obtain⟨ls,hls⟩:=hl;refine⟨.string (keyBytes ls), ?_⟩;have hf:(bU r).formed Tryz.prog 26=true:=by simp[bU,Value.formed,Tryz.underlying26,ws]
 have hc:(bU r).cells.toList=dC r:=rfl;unfold keyOf;rw[Tryz.underlying26];simp only[zE,hf,hc,hls,Bool.and_self,if_true,Option.map_some]
theorem Bi (r r':aV) (w:World):(Op.equalIn 10000 26 (bU r) (bU r')).run Tryz.prog w= .ok (decide (r=r')) w:=by
 have u1:=Tryz.underlying9;have u2:=Tryz.underlying3;have hS:Tryz.prog.underlying 26=some (.struct (Tryz.prog.fieldsOf 26)):=by kernel_rfl
 rw[show(10000:Nat)=9999+1 from rfl];unfold bU;rw[run_equalIn_struct w 9999 26 _ _ hS (by kernel_rfl)];simp only[Program.fieldsOf,Tryz.underlying26]
 go_simp
 obtain⟨n,g,s⟩:=r;obtain⟨n',g',s'⟩:=r';have hn:n.toList=n'.toList<->n=n':=⟨fun h=>fE (by rw[<-cA,<-cA,h]),fun h=>by rw[h]⟩;simp only[aV.mk.injEq,hn]
 by_cases h1:n=n'<;> by_cases h2:g=g'<;> by_cases h3:s=s'<;> simp[h1,h2,h3]
structure eo (w : World) (b : Nat) (l : List aV) : Prop where
 map:em Tryz.prog 26 w b (l.map fun r=>(bU r, .bool true))
 ok: ∀r∈l,bK r
theorem eo.same {w w':World} {b:Nat} {l:List aV} (h:eo w b l) (hs:w'.heap[b]? =w.heap[b]?):eo w' b l:=⟨h.map.same hs,h.ok⟩
theorem eo.nodup {w:World} {b:Nat} {l:List aV} (h:eo w b l):l.Nodup:=by
 obtain⟨es,clock,_,_,hn,_⟩:=h.map;rw[List.map_map]at hn;exact(List.pairwise_map.1 hn).imp (fun h e=>h (by rw[e]))
theorem eo.look {w:World} {b:Nat} {l:List aV} (h:eo w b l) {r:aV} (hr:bK r):(Instr.lookup 120 (.map (some b)) (bU r) false).run Tryz.prog w= .ok (.bool (decide (r∈l))) w:=by
 by_cases hm:r∈l
 ·rw[h.map.hit zG Tryz.underlying120 (zD hr) (val:= .bool true) (List.mem_map.2 ⟨r,hm,rfl⟩) false];simp[hm]
 ·rw[h.map.miss zG Tryz.underlying120 (z:= .bool false) (by kernel_rfl) (zD hr) (fun p hp e=> ?_) false]
  ·simp[hm]
  ·obtain⟨x,hx,rfl⟩:=List.mem_map.1 hp;exact hm (xW e▸hx)
theorem gD {w:World} {ops:Array Oper} {rest:List Oper} {o:Oper} {a:Act} {Q:Exit->Act->World->Prop} (hg:o.guard=none) (mo x v:Operand) (hop:o.op=Op.mapUpdate 120 mo x v) (b:Nat) (l:List aV) (h:eo w b l) (hmo:a.eval mo= .map (some b)) (r:aV) (hr:bK r) (hx:a.eval x=bU r) (hv:a.eval v= .bool true) (hnew:r∉l)
  (hK: ∀w',eo w' b (l++[r])->w.grownBy w' (some b)->wpList Tryz.prog ops Q rest (a.put o.dst undef) w'):wpList Tryz.prog ops Q (o::rest) a w:=
 AE zG hg mo x v _ hop Tryz.underlying120 b _ h.map hmo _ _ hx hv (zD hr) (fun p hp e=>by
  obtain⟨y,hy,rfl⟩:=List.mem_map.1 hp;exact hnew (xW e▸hy)) (fun w' h1 h2=>hK w' ⟨by rw[List.map_append]; exact h1,fun y hy=>by
   rcases List.mem_append.1 hy with hy | hy
   ·exact h.ok y hy
   ·simp only[List.mem_singleton]at hy; subst hy; exact hr⟩ h2)
theorem eo.made (w:World):eo (w.alloc (.map #[] 0)) w.heap.size []:=⟨em.made w,by simp⟩
structure cW (S : Nat → Prop) (w w' : World) : Prop where
 os:w'.os=w.os
 tape:w'.tape=w.tape
 output:w'.output=w.output
 size:w.heap.size<=w'.heap.size
 block: ∀k,k<w.heap.size-> ¬S k->w'.heap[k]? =w.heap[k]?
theorem cW.refl (S:Nat->Prop) (w:World):cW S w w:=⟨rfl,rfl,rfl,Nat.le_refl _,fun _ _ _=>rfl⟩
theorem cW.trans {S T:Nat->Prop} {a b c:World} (h:cW S a b) (k:cW T b c) (hT: ∀i,i<a.heap.size->T i->S i):cW S a c:=
 ⟨k.os.trans h.os,k.tape.trans h.tape,k.output.trans h.output,Nat.le_trans h.size k.size,fun i hi hn=>(k.block i (Nat.lt_of_lt_of_le hi h.size) (fun ht=>hn (hT i hi ht))).trans (h.block i hi hn)⟩
theorem cW.of_below {S:Nat->Prop} {w w':World} (h:Below w.heap.size w w'):cW S w w':=⟨h.os,h.tape,h.output,h.size,fun k hk _=>h.block k hk⟩
theorem cW.of_grown {S:Nat->Prop} {w w':World} {r:Option Nat} (h:w.grownBy w' r) (hr: ∀k,r=some k->S k):cW S w w':=⟨h.os,h.tape,h.output,h.size,fun k hk hn=>h.block k hk (fun e=>hn (hr k e.symm))⟩
theorem cW.below {S:Nat->Prop} {w w':World} (h:cW S w w') {B:Nat} (hB:B<=w.heap.size) (hS: ∀k,S k->B<=k):Below B w w':=⟨h.os,h.tape,h.output,h.size,fun k hk=>h.block k (by omega) (fun hs=>by have:=hS k hs; omega)⟩
end Go.Proofs.YtpffpjbkbaleiaaGreatDoor
namespace Go.Proofs.YtpffpjbkbaleiaaGreatDoor
def lN (l:List UInt8):Bool:=l.all fun c=>decide (32<=c.toNat)
def rR (l:List UInt8):Bool:=lN l && Lib.validD l
def dm (l:List UInt8):Bool:= !l.isEmpty && decide (l.length<=64) && (l != [46]) && (l != [46,46]) && !l.contains 47 && rR l
def aW (c:UInt8):List UInt8->List (List UInt8)
 | []=>[[]]
 | b::l=>if b=c then []::aW c l else
  match aW c l with
  | h::t=>(b::h)::t
  | []=>[[b]]
def el (ps:List (List UInt8)):List UInt8:=Lib.join ps [47]
def bq (l:List UInt8):Bool:=decide (l.length<=512) && decide ((aW 47 l).length<=16) && (aW 47 l).all dm
def de (c:UInt8):Int:=if c=47 then -1 else c.toNat
def cb :List UInt8->List UInt8->Int
 | [],[]=>0
 | [],_::_=> -1
 | _::_,[]=>1
 | a::l,b::r=>if a=b then cb l r else Lib.compareInt (de a) (de b)
theorem jS (c:UInt8) (l:List UInt8):aW c l≠[]:=by
 cases l with
 | nil=>simp[aW]
 | cons b l=>
  unfold aW
  split
  ·simp
  ·split<;> simp
theorem mT (c:UInt8) (l:List UInt8):1<=(aW c l).length:=by
 have:=jS c l
 cases h:aW c l with
 | nil=>exact absurd h this
 | cons a t=>simp
theorem jz (c:UInt8) (l:List UInt8):(aW c l).length<=l.length+1:=by
 induction l with
 | nil=>simp[aW]
 | cons b l ih=>
  unfold aW
  split
  ·simp; omega
  ·split
   ·rename_i h t e; rw[e]at ih; simp at ih ⊢; omega
   ·simp
theorem jy (c:UInt8) (p q:List UInt8) (hp:c∉p):aW c (p++c::q)=p::aW c q:=by
 induction p with
 | nil=>simp[aW]
 | cons b p ih=>
  have hb:b≠c:=fun e=>hp (by simp[e])
  have ih:=ih (fun h=>hp (List.mem_cons_of_mem _ h));simp only[List.cons_append,aW,if_neg hb,ih]
theorem cR (c:UInt8) (p:List UInt8) (hp:c∉p):aW c p=[p]:=by
 induction p with
 | nil=>rfl
 | cons b p ih=>
  have hb:b≠c:=fun e=>hp (by simp[e])
  have ih:=ih (fun h=>hp (List.mem_cons_of_mem _ h));simp only[aW,if_neg hb,ih]
theorem xi (c:UInt8) (l:List UInt8):Lib.join (aW c l) [c]=l:=by
 induction l with
 | nil=>rfl
 | cons b l ih=>
  unfold aW
  split
  ·rename_i hb; subst hb
   cases h:aW b l with
   | nil=>exact absurd h (jS b l)
   | cons a t=>rw[h]at ih; rw[Lib.join_cons]at *; simp[Lib.joinTail]at *; exact ih
  ·split
   ·rename_i h t e; rw[e]at ih; rw[Lib.join_cons]at *; simp at *; exact ih
   ·rename_i e; exact absurd e (jS c l)
theorem tH (l:List UInt8) (c:UInt8) (h:c∈l): ∃p q,l=p++c::q/\c∉p:=by
 induction l with
 | nil=>simp at h
 | cons b l ih=>
  by_cases hb:b=c
  ·exact⟨[],l,by simp[hb],by simp⟩
  ·have:c∈l:=(List.mem_cons.1 h).resolve_left (Ne.symm hb);obtain⟨p,q,rfl,hp⟩:=ih this;exact⟨b::p,q,rfl,by simp[hp,Ne.symm hb]⟩
theorem Cy (p q:List UInt8) (c:UInt8) (hp:c∉p):Lib.index (p++c::q) [c]=(p.length:Int):=by
 induction p with
 | nil=>simp[Lib.index,List.isPrefixOf]
 | cons b p ih=>
  have hb:b≠c:=fun e=>hp (by simp[e])
  have ih:=ih (fun h=>hp (List.mem_cons_of_mem _ h));rw[List.cons_append,Lib.index,ih];have h1:([c]:List UInt8).isPrefixOf (b::(p++c::q))=false:=by simp[List.isPrefixOf,Ne.symm hb]
  have h2:((p.length:Int) == -1)=false:=by rw[beq_eq_false_iff_ne]; omega
  rw[h1,h2]; simp
theorem ux (c:UInt8): ∀(k:Nat) (s:List UInt8),s.count c=k->Lib.splitK [c] 0 k s=aW c s
 | 0,s,h=>by
  have:c∉s:=List.count_eq_zero.1 h;rw[cR c s this]; rfl
 | k+1,s,h=>by
  have hc:c∈s:=List.count_pos_iff.1 (by omega);obtain⟨p,q,rfl,hp⟩:=tH s c hc;have hq:q.count c=k:=by
   have h0:p.count c=0:=List.count_eq_zero.2 hp;rw[List.count_append,h0,List.count_cons_self]at h; omega
  rw[jy c p q hp,Lib.splitK,Cy p q c hp,if_neg (by simp)];simp only[Int.toNat_natCast,Nat.add_zero,List.length_cons,List.length_nil,Nat.zero_add];rw[List.take_left];have e:(p++c::q).drop (p.length+1)=q:=by rw[List.drop_append]; simp
  rw[e,ux c k q hq]
theorem DK (c:UInt8) (s:ByteArray):(Lib.splitB ⟨#[c]⟩ 0 (Lib.countB s ⟨#[c]⟩) s).map (·.data.toList)=aW c s.data.toList:=by
 rw[Lib.splitB_data];exact ux c _ _ (by rw[Lib.countB,Lib.count_one])
theorem Ap (c:UInt8) (s:ByteArray):(Lib.splitB ⟨#[c]⟩ 0 (Lib.countB s ⟨#[c]⟩) s).length=Lib.countB s ⟨#[c]⟩+1:=
 Lib.splitB_all ⟨#[c]⟩ (by simp[ByteArray.size]) 0 _ s rfl
theorem fF (l:List UInt8) (c:UInt8):decide (0<=Lib.indexByte l c)=l.contains c:=by
 induction l with
 | nil=>simp[Lib.indexByte]
 | cons b l ih=>
  have hge:=Lib.indexByte_ge l c;unfold Lib.indexByte
  by_cases hb:b=c
  ·subst hb; simp
  ·have h1:(b == c)=false:=by simpa using hb
   have h2:(c == b)=false:=by simpa using Ne.symm hb
   rw[h1];simp only[Bool.false_eq_true,if_false,List.contains_cons,h2,Bool.false_or,<-ih]
   by_cases hm:Lib.indexByte l c= -1
   ·simp[hm]
   ·rw[if_neg (by simpa using hm)]; congr 1; apply propext; omega
theorem wJ (s:ByteArray) (pos:Nat) (h:pos<s.size) (ha:128<=(s.get! pos).toNat):
  pos+(Utf8.decode s pos).2<=s.size/\ ∀j,pos<=j->j<pos+(Utf8.decode s pos).2->128<=(s.get! j).toNat:=by
 have hn: ¬(s.get! (pos+0)).toNat<128:=by simpa using ha
 simp only[Utf8.decode,hn,if_false]
 repeat' split
 all_goals simp_all
 all_goals (refine⟨by omega,fun j h1 h2=> ?_⟩)
 all_goals (rcases Nat.lt_or_ge j (pos+1)with h3 | h3)
 all_goals (first | (rw[show j=pos by omega]; exact ha) | skip)
 all_goals (rcases Nat.lt_or_ge j (pos+2)with h4 | h4)
 all_goals (first | (rw[show j=pos+1 by omega]; omega) | skip)
 all_goals (rcases Nat.lt_or_ge j (pos+3)with h5 | h5)
 all_goals (first | (rw[show j=pos+2 by omega]; omega) | skip)
 all_goals (first | (rw[show j=pos+3 by omega]; omega) | skip)
 all_goals omega
theorem kz (c:UInt8) (p q:List UInt8):aW c (p++c::q)=aW c p++aW c q:=by
 induction p with
 | nil=>simp[aW]
 | cons b p ih=>
  simp only[List.cons_append,aW]
  by_cases hb:b=c
  ·simp[hb,ih]
  ·rw[if_neg hb,if_neg hb,ih]
   cases h:aW c p with
   | nil=>exact absurd h (jS c p)
   | cons a t=>simp
def aH (l:List UInt8):List UInt8:=el (aW 47 l).dropLast
theorem iO (l:List UInt8) (h:47∉l):aH l=[]:=by
 unfold aH; rw[cR 47 l h]; rfl
theorem fJ (p q:List UInt8) (h:47∉q):aH (p++47::q)=p:=by
 unfold aH el;rw[kz,cR 47 q h,List.dropLast_concat,xi]
theorem iK (l:List UInt8) (h:47∈l): ∃p q,l=p++47::q/\47∉q:=by
 induction l with
 | nil=>simp at h
 | cons b l ih=>
  by_cases hm:(47:UInt8)∈l
  ·obtain⟨p,q,rfl,hq⟩:=ih hm;exact⟨b::p,q,rfl,hq⟩
  ·rcases List.mem_cons.1 h with rfl | h
   ·exact⟨[],l,rfl,hm⟩
   ·exact absurd h hm
theorem nJ (l:List UInt8):aH l=l.take (aH l).length:=by
 by_cases h:(47:UInt8)∈l
 ·obtain⟨p,q,rfl,hq⟩:=iK l h;rw[fJ p q hq]; simp
 ·rw[iO l h]; simp
theorem Aw (ps:List (List UInt8)) (m:Nat) (h: ∀p∈ps,p.length<=m):(el ps).length<=ps.length*(m+1):=by
 induction ps with
 | nil=>simp[el,Lib.join_nil]
 | cons p r ih=>
  have h1:=h p (by simp);have h2:=ih (fun x hx=>h x (by simp[hx]))
  cases r with
  | nil=>rw[el,Lib.join_one]; simp; omega
  | cons q r=>
   have e:el (p::q::r)=p++47::el (q::r):=by
    unfold el; rw[Lib.join_cons,Lib.join_cons]; simp[Lib.joinTail]
   rw[e,List.length_append,List.length_cons,List.length_cons (a:=p),Nat.add_mul];omega
open Go.RowKit
theorem nk (s:ByteArray) (c:UInt8) (w:World):
  Calls Tryz.prog 134 #[.string s, .string ⟨#[c]⟩] w fun e w'=>e= .returned (.bool ((bl s).contains c))/\w=w':=
 (Tryz.strings_Contains_one s c w).mono fun _ _ ⟨he,hw⟩=>⟨by rw[he]; exact congrArg _ (congrArg _ (fF (bl s) c)),hw.symm⟩
theorem pJ (s:ByteArray) (w:World) (he:iV w) (hs:s.size<=9223372036854775807):
  Calls Tryz.prog 181 #[.string s] w fun e w'=>e= .returned (.bool (Lib.validD (bl s)))/\Below w.heap.size w w':=Tryz.utf8_ValidString s w hs he.tabs
theorem kS (x y:Int) (w:World):
  Calls Tryz.prog 151 #[.int .i64 x, .int .i64 y] w fun e w'=>e= .returned (.int .i64 (Lib.compareInt x y))/\w=w':=
 (Tryz.cmp_Compare_int x y w).mono fun _ _ ⟨he,hw⟩=>⟨he,hw.symm⟩
def BT (c:UInt8) (s:ByteArray) (w:World) (e:Ending) (w':World):Prop:=
 ∃xs:List ByteArray,xs.map bl=aW c (bl s)/\e= .returned (.slice (some ⟨w.heap.size,0,none⟩) xs.length xs.length)/\w'=w.alloc (.cells (xs.map Value.string).toArray 9)
theorem DM (s:ByteArray) (c:UInt8) (w:World) (he:iV w) (hs:s.size<4294967281):
  Calls Tryz.prog 127 #[.string s, .string ⟨#[c]⟩] w (BT c s w):=by
 obtain⟨m,hm⟩:=he.maxLen;refine(Tryz.strings_Split s ⟨#[c]⟩ m w hs hm (by simp[ByteArray.size])).mono fun e w' ⟨h1,h2⟩=> ?_
 refine⟨Lib.splitB ⟨#[c]⟩ 0 (Lib.countB s ⟨#[c]⟩) s,DK c s, ?_,h2⟩;rw[Ap]; exact h1
def iu (l:List UInt8):Int:=if 47∈l then((aH l).length:Int)else -1
theorem IX (c:UInt8) (h:(c.toNat:Int)=47):c=47:=by
 apply UInt8.toNat_inj.1
 have:c.toNat=47:=by omega
 rw[this]; rfl
theorem vq (s:ByteArray):Lib.lastIndexByte s 47=iu (bl s):=by
 unfold Lib.lastIndexByte;have get: ∀j,(hj:j<(bl s).length)->s.data[j]! =(bl s)[j]:=fun j hj=>by
  have h2:j<s.data.size:=by rw[<-am]at hj; exact hj
  rw[getElem!_pos s.data j h2];exact(Array.getElem_toList (xs:=s.data) h2).symm
 rw[am]
 generalize hl:bl s=l at *
 rcases Lib.lastIdx_spec s 47 l.length with⟨h1,h2⟩ | ⟨i,h1,h2,h3,h4⟩
 ·rw[h1];have:47∉l:=by
   intro hm;obtain⟨j,hj,e⟩:=List.getElem_of_mem hm;refine h2 j hj ?_;rw[get j hj,e]; rfl
  simp[iu,this]
 ·have e:l=l.take i++47::l.drop (i+1):=by
   have:=IX _ h3;rw[get i h1]at this;rw[<-this]; simp
  have hq:47∉l.drop (i+1):=by
   intro hm;obtain⟨j,hj,e⟩:=List.getElem_of_mem hm;rw[List.length_drop]at hj;refine h4 (i+1+j) (by omega) (by omega) ?_;rw[get _ (by omega)];rw[List.getElem_drop]at e;rw[e]; rfl
  have hp:aH l=l.take i:=by
   have:=fJ (l.take i) _ hq;rw[<-e]at this; exact this
  have hm:47∈l:=by rw[e]; simp
  rw[h2,iu,if_pos hm,hp,List.length_take]
  congr 1; omega
theorem sE (s:ByteArray) (w:World) (hs:s.size<4611686018427387904):
  Calls Tryz.prog 120 #[.string s, .string ⟨#[47]⟩] w fun e w'=>e= .returned (.int .i64 (iu (bl s)))/\w=w':=
 (Tryz.strings_LastIndex_one s ⟨#[47]⟩ rfl hs w).mono fun _ _ ⟨he,hw⟩=>⟨by rw[he]; exact congrArg _ (congrArg _ (vq s)),hw.symm⟩
end Go.Proofs.YtpffpjbkbaleiaaGreatDoor
