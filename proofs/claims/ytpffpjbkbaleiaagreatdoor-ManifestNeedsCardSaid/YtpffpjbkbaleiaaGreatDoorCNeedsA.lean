/- Texts of this proof, one after the other: Segs, ShaP, ShaA, ShaB, Base, Own, Seq, App, Held, WireA, WireB, WireC, WireD, Map, RefV, Plain. -/
import Derived.StillTailTactics
import Derived.WalkKit
import Derived.Test.YtpffpjbkbaleiaaGreatDoorRows
import Derived.WalkSpells
import Derived.WalkLawsBesides
import Derived.Lib.Hide
import Derived.WalkSmall
import Derived.Laws.Bits64b
import Derived.Laws.BitsAllLaws
import Derived.Deep.MidRow
import Derived.Test.YtpffpjbkbaleiaaGreatDoorShelf
import Derived.Deep.QuietTactic
import Derived.BigQuiet
import Derived.Laws.OwnMore
import Derived.OrdersHeld
import Derived.Deep.RegionHeld
import Derived.Laws.BytesArg
import Derived.Defers
import Derived.Recover
import Derived.Maps.OwnSet
import Derived.Maps.OwnOps
import Derived.DeepKeys5
import Derived.Laws.StructEq
import Derived.Lib.ValidLaws
import Derived.Lib.TrimUEq
import Derived.Lib.MapLaws
import Derived.Lib.SplitLaws
import Derived.Lib.Join
import Derived.Lib.Small
import Derived.Laws.RangeAny
import Derived.Laws.CopyOwn
import Derived.Laws.Slices
import Derived.Lib.ConvBytes
import Derived.Lib.BufferWrite
import Derived.Lib.AppendStr
import Derived.Lib.TrailingZeros
import Derived.Test.YtpffpjbkbaleiaaGreatDoorCtz
import Derived.RangeFuncNested
import Derived.RangeFuncLeaves
import Derived.RangeFuncGives
import Derived.RangeFuncBox
import Derived.Shelf.Abstract
import Derived.OwnWalkIn
import Derived.TacticsInMore
import Derived.LoopNIn
import Derived.LoopIn
import Derived.Maps.RangeWalk
import Derived.Shelf.Bytes.SlClone
import Derived.OrdersIn
import Derived.Lib.LazyBuf
import Derived.Laws.Cover4
import Derived.ProofKit
import Derived.Carry
import Derived.Lay
import Derived.PinnedBridge
import Derived.Lib.LaidU8T
import Derived.SevenTiedAt
import Derived.HandedShaped
import Derived.Shelf.Vars
import Derived.Test.YtpffpjbkbaleiaaGreatDoorTie
import Derived.Test.YtpffpjbkbaleiaaGreatDoorCards
import Derived.Lib.SmallJoins
set_option maxRecDepth 100000
set_option maxHeartbeats 8000000
namespace Go.Proofs.YtpffpjbkbaleiaaGreatDoor
open Go Go.RowKit
theorem aA {α:Type} (l:List α) (i:Nat) (x:α):l.toArray.setIfInBounds i x=(l.set i x).toArray:=List.setIfInBounds_toArray ..
theorem aB {α:Type} (x:α) (l:List α) (i:Nat) (y:α):(x::l).set (i+1) y=x::l.set i y:=rfl
theorem aC {α:Type} (x:α) (l:List α) (y:α):(x::l).set 0 y=y::l:=rfl
theorem Bw {α:Type} :(∀(x:α) (l:List α),(x::l)[0]? =some x)/\(∀(x:α) (l:List α) (i:Nat),(x::l)[i+1]? =l[i]?):=⟨fun _ _=>rfl,fun _ _ _=>rfl⟩
theorem aN {α:Type} :(∀(l:List α) (i:Nat),l.toArray[i]? =l[i]?)/\(∀(x:α) (l:List α) (i:Nat),(x::l)[i+1]? =l[i]?)/\(∀(x:α) (l:List α),(x::l)[0]? =some x):=⟨fun _ _=>List.getElem?_toArray ..,fun _ _ _=>rfl,fun _ _=>rfl⟩
theorem ab {p:Prop} (h:p):RowKit.Hid p:=h
end Go.Proofs.YtpffpjbkbaleiaaGreatDoor
namespace Go.Proofs.YtpffpjbkbaleiaaGreatDoor
open Go
section
variable {P : Program} {ops : Array Oper} {md : Region.Mode} {w : World}
def wT (md:Region.Mode) (ops:Array Oper) (m:Nat):Bool:=
 ((List.range m).all fun i=>decide (ops.size<=m) || (List.range (m+1)).any fun j=>decide (i<j) && Region.waitsFor md ops j i) &&
 ((List.range ops.size).all fun t=>decide (t<=m) || (List.range t).any fun u=>decide (m<=u) && Region.waitsFor md ops t u)
theorem mA {m:Nat} {listed:Array Bool} (hc:wT md ops m=true) (inv:HeadInv md ops m listed):
  ∀(d i:Nat),m-i=d->i<m->listed.getD i true=false-> ∀t,m<=t->t∉Region.ready md ops listed:=by
 simp only[wT,Bool.and_eq_true]at hc;obtain⟨hs,hch⟩:=hc;intro d
 induction d using Nat.strongRecOn with
 | _ d ih=>
  intro i hd hi hun t ht hr;obtain⟨_,ot,hot,hall⟩:=mem_ready.1 hr;have htlt:t<ops.size:=(Array.getElem?_eq_some_iff.1 hot).1
  rcases Nat.lt_or_ge m t with htm | htm
  ·have h1:=List.all_eq_true.1 hch t (List.mem_range.2 htlt);simp only[Bool.or_eq_true,decide_eq_true_eq]at h1
   rcases h1 with h1 | h1
   ·omega
   ·obtain⟨u,hu,hu2⟩:=List.any_eq_true.1 h1;simp only[Bool.and_eq_true,decide_eq_true_eq]at hu2;obtain⟨o',ho',e,he,hb,hon⟩:=Region.waitsFor_spec hu2.2;have ho:o'=ot:=Option.some.inj (ho'.symm.trans hot);subst ho;have h2:=hall e he hb;rw[hon,getD_both (inv.tail u hu2.1 (by have:=List.mem_range.1 hu; omega))]at h2
    cases h2
  ·have htm':t=m:=by omega
   subst htm';have h1:=List.all_eq_true.1 hs i (List.mem_range.2 hi);simp only[Bool.or_eq_true,decide_eq_true_eq]at h1
   rcases h1 with h1 | h1
   ·omega
   ·obtain⟨j,hj,hj2⟩:=List.any_eq_true.1 h1;simp only[Bool.and_eq_true,decide_eq_true_eq]at hj2;obtain⟨oj,hoj,e,he,hb,hon⟩:=Region.waitsFor_spec hj2.2;have hjle:=List.mem_range.1 hj
    rcases Nat.lt_or_ge j t with hjt | hjt
    ·cases hl:listed.getD j false with
     | true=>
      have h2:=inv.closed j oj hoj hl e he hb;rw[hon,getD_both hun]at h2
      cases h2
     | false=>
      exact ih (t-j) (by omega) j rfl hjt (getD_in (by rw[inv.size]; omega) hl) t (Nat.le_refl _) hr
    ·have hjt':j=t:=by omega
     subst hjt';have ho:oj=ot:=Option.some.inj (hoj.symm.trans hot);subst ho;have h2:=hall e he hb;rw[hon,getD_both hun]at h2
     cases h2
theorem AZ {m i:Nat} {oi:Oper} {v:Value} {L:Array Bool->Act->Prop} (hi:ops[i]? =some oi) (hsel: ∀(j:Nat) (o:Oper) cs b,ops[j]? =some o->o.op≠ .select cs b)
  (hc:wT md ops m=true) (hin:i<m) (hdone: ∀listed a,L listed a-> ∀j∈Region.ready md ops listed,m<=j):
  ∀(f:Nat) (listed:Array Bool) (a:Act),HeadInv md ops m listed->
   (∀j oj,ops[j]? =some oj->j≠i->listed.getD j true=false->(∀e∈oj.after,Region.binds md e=true->e.on≠i)->oi.apart ops oj=true)->
   i∈Region.ready md ops listed->YieldsAt P ops w oi v a->
   wpAnyL P md ops w m L f (listed.setIfInBounds i true) (a.put oi.dst v)->wpAnyL P md ops w m L (f+1) listed a:=by
 intro f
 induction f with
 | zero=>
  intro listed a inv _ hr hy H;have hun:=(mem_ready.1 hr).1;refine⟨List.ne_nil_of_mem hr,fun j hj=> ?_⟩;have hjm:j<m:=Nat.lt_of_not_le fun h=>mA hc inv _ i rfl hin hun j h hj
  refine⟨hjm, ?_⟩
  by_cases hji:j=i
  ·subst hji; exact hy.stOp hi H
  ·have:=hdone _ _ H j (ready_mono hj hji);omega
 | succ f ih=>
  intro listed a inv hfree hr hy H;have hun:=(mem_ready.1 hr).1;refine⟨List.ne_nil_of_mem hr,fun j hj=> ?_⟩;have hjm:j<m:=Nat.lt_of_not_le fun h=>mA hc inv _ i rfl hin hun j h hj
  refine⟨hjm, ?_⟩
  by_cases hji:j=i
  ·subst hji; exact hy.stOp hi H
  ·have h1:=(H.2 j (ready_mono hj hji)).2;obtain⟨hjun,oj,hoj,hall⟩:=mem_ready.1 hj;have hnot: ∀e∈oj.after,Region.binds md e=true->e.on≠i:=fun e he hb heq=>by
    have h1:=hall e he hb;rw[heq,getD_both hun]at h1
    cases h1
   have h2:=stOp_put hoj (hfree j oj hoj hji hjun hnot) (fun cs b=>hsel i oi cs b hi) (fun cs b=>hsel j oj cs b hoj) hy h1;refine stOp_mono (fun a' h3=>ih (listed.setIfInBounds j true) a' (inv.set hj hjm) (fun k ok hk hki hunk hno=> ?_) (ready_mono hr (Ne.symm hji)) h3.1 ?_) h2
   ·refine hfree k ok hk hki ?_ hno
    by_cases hjk:j=k
    ·subst hjk; exact hjun
    ·rw[getD_set_ne true hjk]at hunk; exact hunk
   ·rw[Array.setIfInBounds_comm _ _ hji];exact h3.2
def sU :Nat->Nat->Array Bool->Array Bool
 | 0,_,listed=>listed
 | n+1,k,listed=>sU n (k+1) (listed.setIfInBounds k true)
def Fg (md:Region.Mode) (ops:Array Oper):Nat->Nat->Array Bool->Bool
 | 0,k,listed=>(Region.ready md ops listed).all fun j=>decide (k<=j)
 | n+1,k,listed=>(Region.ready md ops listed).contains k && Region.free md ops listed k && Fg md ops n (k+1) (listed.setIfInBounds k true)
theorem zd {m:Nat} {Lq:Act->Prop} (hsel:Region.noSelect ops=true) (hc:wT md ops m=true) (LM:Array Bool):
  ∀(l:List Oper) (k:Nat) (listed:Array Bool) (a:Act),(∀j,j<l.length->l[j]? =ops[k+j]?)->k+l.length=m->HeadInv md ops m listed->
  Fg md ops l.length k listed=true->sU l.length k listed=LM->wpStill P ops w Lq l a->
  wpAnyL P md ops w m (fun listed' a'=>listed'=LM/\Lq a') l.length listed a/\ ∀j∈Region.ready md ops LM,m<=j
 | [],k,listed,a,_,hk,_,hB,hL,h=>by
  have hkm:k=m:=by simpa using hk
  subst hkm;have hLM:listed=LM:=hL;subst hLM;refine⟨⟨rfl,h⟩,fun j hj=> ?_⟩;have:=List.all_eq_true.1 hB j hj
  simpa using this
 | o::l,k,listed,a,hl,hk,inv,hB,hL,h=>by
  have h0:ops[k]? =some o:=by simpa using (hl 0 (by simp)).symm
  simp only[List.length_cons,Fg,Bool.and_eq_true]at hB;obtain⟨⟨hr,hf⟩,hB'⟩:=hB;have hkm:k<m:=by simp only[List.length_cons]at hk; omega
  have hr':k∈Region.ready md ops listed:=by simpa using hr
  have hst:stOp P ops w k (wpStill P ops w Lq l) a:=by unfold stOp; simp only[h0]; exact h
  obtain⟨v,hy,hK⟩:=yieldsAt_of_stOp h0 hst;have IH:=zd hsel hc LM l (k+1) _ _ (fun j hj=>by have:=hl (j+1) (by simp; omega); simpa [Nat.add_assoc,Nat.add_comm 1 j]using this) (by simp only[List.length_cons]at hk; omega) (inv.set hr' hkm) hB' hL hK;refine⟨AZ h0 (Region.noSelect_spec hsel) hc hkm (fun listed' a' hL'=> ?_) l.length listed a inv (Region.free_spec h0 hf) hr' hy IH.1,IH.2⟩
  rw[hL'.1]; exact IH.2
def Cs (md:Region.Mode) (ops:Array Oper) (m:Nat) (listed:Array Bool):Bool:=
 decide (listed.size=ops.size) &&
 ((List.range ops.size).all fun j=> !listed.getD j false || match ops[j]? with | some oj=>oj.after.all (fun e=> !Region.binds md e || listed.getD e.on false) | none=>true) &&
 ((List.range ops.size).all fun t=>decide (t<m) || !listed.getD t true)
theorem xd {m:Nat} {listed:Array Bool} (h:Cs md ops m listed=true):HeadInv md ops m listed:=by
 simp only[Cs,Bool.and_eq_true,decide_eq_true_eq]at h;obtain⟨⟨h1,h2⟩,h3⟩:=h;refine⟨h1,fun j oj hj hl e he hb=> ?_,fun t ht ht2=> ?_⟩
 ·have:=List.all_eq_true.1 h2 j (List.mem_range.2 (Array.getElem?_eq_some_iff.1 hj).1);rw[hl,hj]at this;simp only[Bool.not_true,Bool.false_or]at this;have:=Array.all_eq_true'.1 this e he;rw[hb]at this
  simpa using this
 ·have:=List.all_eq_true.1 h3 t (List.mem_range.2 ht2);simp only[Bool.or_eq_true,decide_eq_true_eq]at this
  rcases this with h | h
  ·omega
  ·simpa using h
def pX (md:Region.Mode) (ops:Array Oper):List (Option Nat)->Nat->Array Bool->Bool
 | [],k,listed=>decide (k=ops.size) && (Region.ready md ops listed).isEmpty
 | some n::s,k,listed=>decide (k+n<=ops.size) && wT md ops (k+n) && Cs md ops (k+n) listed && Fg md ops n k listed && pX md ops s (k+n) (sU n k listed)
 | none::s,k,listed=>decide (k<ops.size) && decide (Region.ready md ops listed=[k]) && pX md ops s (k+1) (listed.setIfInBounds k true)
@[irreducible] def tX (P:Program) (ops:Array Oper) (w:World) (Q:Act->Prop) (l:List Oper) (a:Act):Prop:=wpStill P ops w Q l a
theorem tX.out {Q:Act->Prop} {l:List Oper} {a:Act} (h:tX P ops w Q l a):wpStill P ops w Q l a:=by unfold tX at h; exact h
theorem tX.of {Q:Act->Prop} {l:List Oper} {a:Act} (h:wpStill P ops w Q l a):tX P ops w Q l a:=by unfold tX; exact h
@[irreducible] def nP (P:Program) (ops:Array Oper) (next:Act->World->Prop) (Q:Exit->Act->World->Prop) (l:List Oper) (a:Act) (w:World):Prop:=wpList P ops (Exit.then next Q) l a w
theorem nP.out {next:Act->World->Prop} {Q:Exit->Act->World->Prop} {l:List Oper} {a:Act} (h:nP P ops next Q l a w):wpList P ops (Exit.then next Q) l a w:=by unfold nP at h; exact h
theorem nP.of {next:Act->World->Prop} {Q:Exit->Act->World->Prop} {l:List Oper} {a:Act} (h:wpList P ops (Exit.then next Q) l a w):nP P ops next Q l a w:=by unfold nP; exact h
def aZ (P:Program) (ops:Array Oper) (Q:Exit->Act->World->Prop):List (Option Nat)->List Oper->Act->World->Prop
 | [],_,a,w=>Q .normal a w
 | some n::s,l,a,w=>tX P ops w (fun a'=>aZ P ops Q s (l.drop n) a' w) (l.take n) a
 | none::s,l,a,w=>nP P ops (fun a' w'=>aZ P ops Q s (l.drop 1) a' w') Q (l.take 1) a w
theorem iL {Q:Exit->Act->World->Prop} (hsel:Region.noSelect ops=true): ∀(s:List (Option Nat)) (l:List Oper) (k:Nat) (listed:Array Bool) (a:Act) (w:World),
  (∀j,l[j]? =ops[k+j]?)->pX md ops s k listed=true->aZ P ops Q s l a w->wpAny P md ops Q (ops.size-k) listed a w
 | [],l,k,listed,a,w,hl,hB,h=>by
  simp only[pX,Bool.and_eq_true,decide_eq_true_eq]at hB;rw[hB.1,Nat.sub_self];exact⟨by simpa using hB.2,h⟩
 | some n::s,l,k,listed,a,w,hl,hB,h=>by
  simp only[pX,Bool.and_eq_true,decide_eq_true_eq]at hB;obtain⟨⟨⟨⟨hn,hc⟩,hh⟩,hs⟩,hB'⟩:=hB;have hll:l.length=ops.size-k:=by
   have h1: ∀j,j<l.length<->k+j<ops.size:=fun j=>by
    constructor
    ·intro hj; have:=hl j; rw[List.getElem?_eq_getElem hj]at this; exact(Array.getElem?_eq_some_iff.1 this.symm).1
    ·intro hj; have:=hl j; rw[Array.getElem?_eq_getElem hj]at this; exact(List.getElem?_eq_some_iff.1 this).1
   rcases Nat.lt_trichotomy l.length (ops.size-k)with h2 | h2 | h2
   ·have:=(h1 l.length).2 (by omega); omega
   ·exact h2
   ·have:=(h1 (ops.size-k)).1 h2; omega
  have htl:(l.take n).length=n:=by simp; omega
  have H:=zd (P:=P) (md:=md) (w:=w) hsel hc (sU n k listed) (l.take n) k listed a (fun j hj=>by
   rw[htl]at hj;rw[List.getElem?_take,if_pos hj]; exact hl j) (by rw[htl]) (xd hh) (by rw[htl]; exact hs) (by rw[htl]) (tX.out h)
  have:=wpAny_of_head (Q':=Q) (g:=ops.size-(k+n)) (fun listed' a' hL=>by
   rw[hL.1];exact iL hsel s (l.drop n) (k+n) _ a' w (fun j=>by rw[List.getElem?_drop,hl,Nat.add_assoc]) hB' hL.2) _ _ _ H.1
  rw[htl,show n+(ops.size-(k+n))=ops.size-k by omega]at this;exact this
 | none::s,l,k,listed,a,w,hl,hB,h=>by
  simp only[pX,Bool.and_eq_true,decide_eq_true_eq]at hB;obtain⟨⟨hk,hr⟩,hB'⟩:=hB;obtain⟨o,ho⟩: ∃o,ops[k]? =some o:=⟨ops[k],by simp[hk]⟩;have h0:l[0]? =some o:=by rw[hl]; exact ho
  obtain⟨l',rfl⟩: ∃l',l=o::l':=by
   cases l with
   | nil=>simp at h0
   | cons x y=>simp at h0; exact⟨y,by rw[h0]⟩
  rw[show ops.size-k=(ops.size-(k+1))+1 by omega];refine⟨fun h1=>(by rw[hr]at h1; cases h1),fun i hi=> ?_⟩;rw[hr]at hi;have hik:i=k:=by simpa using hi
  subst hik;have hw:wpOp P ops Q i (fun a' w'=>aZ P ops Q s l' a' w') a w:=by
   unfold wpOp;simp only[ho];exact nP.out h
  exact wpOp_mono (fun a' w' h'=>iL hsel s l' (i+1) _ a' w' (fun j=>by have:=hl (j+1); simpa [Nat.add_assoc,Nat.add_comm 1 j]using this) hB' h') hw
theorem am {id:Nat} {Q:Exit->Act->World->Prop} {a:Act} {w:World} {l:List Oper} (s:List (Option Nat)) (hm:P.follows .mixedOrders=true) (hsel:Region.noSelect l.toArray=true)
  (hB:pX .any l.toArray s 0 (Array.replicate l.toArray.size false)=true) (h:aZ P l.toArray Q s l a w.drew):(Code.region id l.toArray true).wp P Q a w:=by
 refine wp_region_any hm ?_;have:=iL (md:= .any) (P:=P) (Q:=Q) hsel s l 0 _ a w.drew (by simp) hB h
 simpa using this
theorem aI {Q:Act->Prop} {a:Act} (h:Q a):tX P ops w Q [] a:=tX.of h
theorem aw {Q:Act->Prop} {a:Act} {o:Oper} {rest:List Oper} (hw:Region.wanted o (yielded ops a.tmps)=false) (h:tX P ops w Q rest (a.put o.dst undef)):tX P ops w Q (o::rest) a:=by
 refine tX.of ?_;unfold wpStill; rw[hw]; exact h.out
theorem aJ {Q:Act->Prop} {a:Act} {dst:Option Tmp} {op:Op} {ty:TypeId} {pos:String} {aft:Array Edge} {g:Option (Nat×Bool)} {rest:List Oper} (hw:Region.wanted ⟨dst,op,ty,pos,aft,g⟩ (yielded ops a.tmps)=true)
  (h: ∀K:Act->Prop,(∀a,tX P ops w Q rest a->K a)->Oper.still P ⟨dst,op,ty,pos, #[],none⟩ a w K):tX P ops w Q (⟨dst,op,ty,pos,aft,g⟩::rest) a:=by
 refine tX.of ?_;unfold wpStill; rw[hw]; exact h _ (fun _ h=>h.out)
theorem BV {Q:Exit->Act->World->Prop} {next:Act->World->Prop} {a:Act} {o:Oper} (hw:Region.wanted o (yielded ops a.tmps)=false) (h:next (a.put o.dst undef) w):nP P ops next Q [o] a w:=by
 refine nP.of ?_;unfold wpList; rw[hw]; exact h
theorem bw {Q:Exit->Act->World->Prop} {next:Act->World->Prop} {a:Act} {dst:Option Tmp} {op:Op} {ty:TypeId} {pos:String} {aft:Array Edge} {g:Option (Nat×Bool)} (hw:Region.wanted ⟨dst,op,ty,pos,aft,g⟩ (yielded ops a.tmps)=true)
  (h: ∀K:Act->World->Prop,(∀a w,next a w->K a w)->wpList P #[] (Exit.then K Q) [⟨dst,op,ty,pos, #[],none⟩] a w):nP P ops next Q [⟨dst,op,ty,pos,aft,g⟩] a w:=by
 refine nP.of ?_;have:=h _ (fun _ _ h=>h);unfold wpList at this ⊢;rw[hw];simp only[Region.wanted,if_true]at this;exact this
end
end Go.Proofs.YtpffpjbkbaleiaaGreatDoor
namespace Go.Proofs.YtpffpjbkbaleiaaGreatDoor
def dM (x s:Nat):Nat:=(x*2^s%4294967296) ||| (x/2^(32-s))
def Fl (x:Nat):Nat:=(dM x 15^^^dM x 13)^^^(x/2^10)
def Fk (x:Nat):Nat:=(dM x 25^^^dM x 14)^^^(x/2^3)
def nu (l:List Nat):Nat:=(((Fl (l.getD (l.length-2) 0)+l.getD (l.length-7) 0)%4294967296+Fk (l.getD (l.length-15) 0))%4294967296+l.getD (l.length-16) 0)%4294967296
def gM :Nat->List Nat->List Nat
 | 0,l=>l
 | n+1,l=>gM n (l++[nu l])
def zm (a b c d:UInt8):Nat:=(((a.toNat*2^24%4294967296) ||| (b.toNat*2^16%4294967296)) ||| (c.toNat*2^8%4294967296)) ||| d.toNat
def wD (b:List UInt8) (t:Nat):Nat:=zm (b.getD (4*t) 0) (b.getD (4*t+1) 0) (b.getD (4*t+2) 0) (b.getD (4*t+3) 0)
def jA (b:List UInt8) (n:Nat):List Nat:=(List.range n).map (wD b)
structure V8 where
 a:Nat
 b:Nat
 c:Nat
 d:Nat
 e:Nat
 f:Nat
 g:Nat
 h:Nat
def kc :List Nat:=[0x428a2f98,0x71374491,0xb5c0fbcf,0xe9b5dba5,0x3956c25b,0x59f111f1,0x923f82a4,0xab1c5ed5,
 0xd807aa98,0x12835b01,0x243185be,0x550c7dc3,0x72be5d74,0x80deb1fe,0x9bdc06a7,0xc19bf174,
 0xe49b69c1,0xefbe4786,0x0fc19dc6,0x240ca1cc,0x2de92c6f,0x4a7484aa,0x5cb0a9dc,0x76f988da,
 0x983e5152,0xa831c66d,0xb00327c8,0xbf597fc7,0xc6e00bf3,0xd5a79147,0x06ca6351,0x14292967,
 0x27b70a85,0x2e1b2138,0x4d2c6dfc,0x53380d13,0x650a7354,0x766a0abb,0x81c2c92e,0x92722c85,
 0xa2bfe8a1,0xa81a664b,0xc24b8b70,0xc76c51a3,0xd192e819,0xd6990624,0xf40e3585,0x106aa070,
 0x19a4c116,0x1e376c08,0x2748774c,0x34b0bcb5,0x391c0cb3,0x4ed8aa4a,0x5b9cca4f,0x682e6ff3,
 0x748f82ee,0x78a5636f,0x84c87814,0x8cc70208,0x90befffa,0xa4506ceb,0xbef9a3f7,0xc67178f2]
def t1P (v:V8) (k w:Nat):Nat:=((((v.h+((dM v.e 26^^^dM v.e 21)^^^dM v.e 7))%4294967296+((v.e &&& v.f)^^^((4294967295-v.e) &&& v.g)))%4294967296+k)%4294967296+w)%4294967296
def t2P (v:V8):Nat:=(((dM v.a 30^^^dM v.a 19)^^^dM v.a 10)+(((v.a &&& v.b)^^^(v.a &&& v.c))^^^(v.b &&& v.c)))%4294967296
def AD (v:V8) (k w:Nat):V8:=⟨(t1P v k w+t2P v)%4294967296,v.a,v.b,v.c,(v.d+t1P v k w)%4294967296,v.e,v.f,v.g⟩
def lY (l:List (Nat×Nat)) (v:V8):V8:=l.foldl (fun v p=>AD v p.1 p.2) v
def ow (x y:Nat):Nat:=(x+y)%4294967296
def BR (v u:V8):V8:=⟨ow v.a u.a,ow v.b u.b,ow v.c u.c,ow v.d u.d,ow v.e u.e,ow v.f u.f,ow v.g u.g,ow v.h u.h⟩
def wsP (b:List UInt8):List Nat:=gM 48 (jA b 16)
def vM (v:V8) (b:List UInt8):V8:=BR v (lY (kc.zip (wsP b)) v)
def mO :V8:=⟨0x6a09e667,0xbb67ae85,0x3c6ef372,0xa54ff53a,0x510e527f,0x9b05688c,0x1f83d9ab,0x5be0cd19⟩
def eE (l:List UInt8):Nat->V8
 | 0=>mO
 | k+1=>vM (eE l k) ((l.drop (64*k)).take 64)
def wL (x:Nat):List UInt8:=[UInt8.ofNat (x/2^24),UInt8.ofNat (x/2^16),UInt8.ofNat (x/2^8),UInt8.ofNat x]
def sT (x:Nat):List UInt8:=[UInt8.ofNat (x/2^56),UInt8.ofNat (x/2^48),UInt8.ofNat (x/2^40),UInt8.ofNat (x/2^32),UInt8.ofNat (x/2^24),UInt8.ofNat (x/2^16),UInt8.ofNat (x/2^8),UInt8.ofNat x]
def iM (n:Nat):Nat:=(119-n%64)%64
def nG (n:Nat):List UInt8:=128::List.replicate (iM n) 0++sT (n*8%18446744073709551616)
def V8.list (v:V8):List Nat:=[v.a,v.b,v.c,v.d,v.e,v.f,v.g,v.h]
def V8.out (v:V8):List UInt8:=v.list.flatMap wL
def mf (l:List UInt8):List UInt8:=(eE (l++nG l.length) ((l++nG l.length).length/64)).out
def dq (k:List UInt8):List UInt8:=(if 64<k.length then mf k else k)++List.replicate (64-(if 64<k.length then mf k else k).length) 0
def wu (k l:List UInt8):List UInt8:=mf ((dq k).map (fun x=>x^^^0x5c)++mf ((dq k).map (fun x=>x^^^0x36)++l))
theorem js {x y:Nat} (hx:x<4294967296) (hy:y<4294967296):x ||| y<4294967296:=Nat.or_lt_two_pow (n:=32) hx hy
theorem kr {x y:Nat} (hx:x<4294967296) (hy:y<4294967296):x^^^y<4294967296:=Nat.xor_lt_two_pow (n:=32) hx hy
theorem gy {x:Nat} (y:Nat) (hx:x<4294967296):x &&& y<4294967296:=Nat.lt_of_le_of_lt Nat.and_le_left hx
theorem cS {x:Nat} (s:Nat) (hx:x<4294967296):dM x s<4294967296:=js (Nat.mod_lt _ (by decide)) (Nat.lt_of_le_of_lt (Nat.div_le_self _ _) hx)
theorem CJ (l:List Nat):nu l<4294967296:=Nat.mod_lt _ (by decide)
theorem yA {x:Nat} (b:UInt8) (h:x=b.toNat):x<4294967296:=by have:=b.toNat_lt; omega
theorem DU (a b c d:UInt8):zm a b c d<4294967296:=js (js (js (Nat.mod_lt _ (by decide)) (Nat.mod_lt _ (by decide))) (Nat.mod_lt _ (by decide))) (yA _ rfl)
theorem DV (b:List UInt8) (t:Nat):wD b t<4294967296:=DU _ _ _ _
def zq (l:List Nat):Prop:= ∀x∈l,x<4294967296
theorem zq.get {l:List Nat} (h:zq l) (k:Nat):l.getD k 0<4294967296:=by
 rw[List.getD_eq_getElem?_getD]
 cases hk:l[k]? with
 | none=>simp
 | some x=>exact h x (List.mem_of_getElem? hk)
theorem qq (b:List UInt8) (n:Nat):(jA b n).length=n:=by simp[jA]
theorem sK (b:List UInt8) (n:Nat):zq (jA b n):=by
 intro x hx;obtain⟨t,_,rfl⟩:=List.mem_map.1 hx;exact DV b t
theorem wE (b:List UInt8) (n:Nat):jA b (n+1)=jA b n++[wD b n]:=by simp[jA,List.range_succ]
theorem nA : ∀(n:Nat) (l:List Nat),gM (n+1) l=gM n l++[nu (gM n l)]
 | 0,_=>rfl
 | n+1,l=>by rw[gM,nA n (l++[nu l])]; rfl
theorem pW : ∀(n:Nat) (l:List Nat),(gM n l).length=l.length+n
 | 0,_=>rfl
 | n+1,l=>by rw[gM,pW n]; simp; omega
theorem sr : ∀(n:Nat) {l:List Nat},zq l->zq (gM n l)
 | 0,_,h=>h
 | n+1,l,h=>by
  rw[gM];refine sr n (fun x hx=> ?_)
  rcases List.mem_append.1 hx with hx | hx
  ·exact h x hx
  ·rw[List.mem_singleton.1 hx]; exact CJ l
def oe (b:List UInt8) (t:Nat):List Nat:=if t<=16 then jA b t else gM (t-16) (jA b 16)
theorem jz (b:List UInt8) (t:Nat):(oe b t).length=t:=by
 unfold oe; split
 ·exact qq b t
 ·rw[pW,qq]; omega
theorem DT (b:List UInt8) (t:Nat):zq (oe b t):=by
 unfold oe; split
 ·exact sK b t
 ·exact sr _ (sK b 16)
theorem Fs (b:List UInt8) {t:Nat} (h:t<16):oe b (t+1)=oe b t++[wD b t]:=by
 unfold oe; rw[if_pos (by omega),if_pos (by omega),wE]
theorem DS (b:List UInt8) {t:Nat} (h:16<=t):oe b (t+1)=oe b t++[nu (oe b t)]:=by
 unfold oe; rw[if_neg (by omega)]
 by_cases ht:t=16
 ·subst ht; rw[if_pos (by decide)]; rfl
 ·rw[if_neg (by omega),show t+1-16=(t-16)+1 by omega,nA]
theorem zk (b:List UInt8):oe b 64=wsP b:=by unfold oe wsP; rw[if_neg (by decide)]
theorem zn (b:List UInt8):(wsP b).length=64:=by rw[<-zk]; exact jz b 64
theorem xw :kc.length=64:=rfl
structure V8.Ok (v : V8) : Prop where
 a:v.a<4294967296
 b:v.b<4294967296
 c:v.c<4294967296
 d:v.d<4294967296
 e:v.e<4294967296
 f:v.f<4294967296
 g:v.g<4294967296
 h:v.h<4294967296
theorem Fc {v:V8} (h:v.Ok) (k w:Nat):(AD v k w).Ok:=⟨Nat.mod_lt _ (by decide),h.a,h.b,h.c,Nat.mod_lt _ (by decide),h.e,h.f,h.g⟩
theorem Dj (l:List (Nat×Nat)): ∀ {v:V8},v.Ok->(lY l v).Ok:=by
 induction l with
 | nil=>intro v h; exact h
 | cons p l ih=>
  intro v h;unfold lY at ih ⊢;rw[List.foldl_cons];exact ih (Fc h p.1 p.2)
theorem xM (l:List (Nat×Nat)) (p:Nat×Nat) (v:V8):lY (l++[p]) v=AD (lY l v) p.1 p.2:=by
 unfold lY; rw[List.foldl_append,List.foldl_cons,List.foldl_nil]
theorem Eo (v u:V8):(BR v u).Ok:=by constructor<;> exact Nat.mod_lt _ (by decide)
theorem Bp :mO.Ok:=by constructor<;> decide
theorem Da (v:V8) (b:List UInt8):(vM v b).Ok:=Eo _ _
theorem sV (l:List UInt8): ∀k,(eE l k).Ok
 | 0=>Bp
 | _+1=>Da _ _
def rTo (b:List UInt8) (v:V8) (t:Nat):V8:=lY ((kc.zip (wsP b)).take t) v
theorem Dd (b:List UInt8) {v:V8} (t:Nat) (h:v.Ok):(rTo b v t).Ok:=Dj _ h
theorem getD_some {l:List Nat} {t:Nat} (h:t<l.length):l[t]? =some (l.getD t 0):=by simp[List.getD_eq_getElem?_getD,h]
theorem DY {x y:List Nat} {t:Nat} (h1:t<x.length) (h2:t<y.length):(x.zip y)[t]? =some (x.getD t 0,y.getD t 0):=by
 rw[List.getElem?_zip_eq_some];exact⟨getD_some h1,getD_some h2⟩
theorem AE {x y:List Nat} (v:V8) {t:Nat} (h1:t<x.length) (h2:t<y.length):lY ((x.zip y).take (t+1)) v=AD (lY ((x.zip y).take t) v) (x.getD t 0) (y.getD t 0):=by
 rw[List.take_add_one,DY h1 h2,Option.toList_some,xM]
theorem De (b:List UInt8) (v:V8) {t:Nat} (h:t<64):rTo b v (t+1)=AD (rTo b v t) (kc.getD t 0) ((wsP b).getD t 0):=
 AE v (by rw[xw]; exact h) (by rw[zn]; exact h)
theorem Db (v:V8) (b:List UInt8):vM v b=BR v (rTo b v 64):=by
 unfold vM rTo; rw[List.take_of_length_le (by rw[List.length_zip,zn,xw]; decide)]
theorem lJ {l:List UInt8} (r:List UInt8): ∀ {k:Nat},64*k<=l.length->eE (l++r) k=eE l k
 | 0,_=>rfl
 | k+1,h=>by
  rw[eE,eE,lJ r (k:=k) (by omega)]
  congr 1
  rw[List.drop_append_of_le_length (by omega),List.take_append_of_le_length (by rw[List.length_drop]; omega)]
theorem yz (x:Nat):(wL x).length=4:=rfl
theorem ET (v:V8):v.out.length=32:=by simp[V8.out,V8.list,wL]
theorem qa (l:List UInt8):(mf l).length=32:=by unfold mf; exact ET _
theorem wv (k l:List UInt8):(wu k l).length=32:=by unfold wu; exact qa _
theorem CY (n:Nat):(nG n).length=1+iM n+8:=by unfold nG sT; simp; omega
theorem dP (k:List UInt8):(dq k).length=64:=by
 unfold dq; rw[List.length_append,List.length_replicate]
 by_cases h:64<k.length
 ·rw[if_pos h,qa]
 ·rw[if_neg h]; omega
open Go Go.RowKit
def fO (x:Nat):Value:= .int .u32 (x:Int)
theorem dW {x a b:Nat} {s:Nat} (ha:2^s=a) (hb:2^(32-s)=b) (hx:x<4294967296):bits .or .u32 ((x:Int)*(a:Int)%4294967296) ((x:Int)/(b:Int))=((dM x s:Nat):Int):=by
 rw[show((x:Int)*(a:Int)%4294967296)=((x*a%4294967296:Nat):Int) by simp,show((x:Int)/(b:Int))=((x/b:Nat):Int) by simp,
  u32_or_nat _ _ (Nat.mod_lt _ (by decide)) (Nat.lt_of_le_of_lt (Nat.div_le_self _ _) hx)]
 unfold dM; rw[ha,hb]
theorem AL (x:Nat) (w:World) (hx:x<4294967296):Calls Tryz.prog 198 #[.int .u32 (x:Int), .int .i64 (-17)] w fun e w'=>e= .returned (.int .u32 ((dM x 15:Nat):Int))/\w=w':=by
 have h1:bits BinOp.and IntKind.u64 (IntKind.u64.wrap (-17)) 31=15:=by decide+kernel
 go_enter Tryz.func198,Tryz.ntmps198
 go_wp2_with fail;go_ret;refine⟨?_,rfl⟩;rw[<-dW (a:=32768) (b:=131072) (by decide) (by decide) hx]
 rfl
theorem AJ (x:Nat) (w:World) (hx:x<4294967296):Calls Tryz.prog 198 #[.int .u32 (x:Int), .int .i64 (-19)] w fun e w'=>e= .returned (.int .u32 ((dM x 13:Nat):Int))/\w=w':=by
 have h1:bits BinOp.and IntKind.u64 (IntKind.u64.wrap (-19)) 31=13:=by decide+kernel
 go_enter Tryz.func198,Tryz.ntmps198
 go_wp2_with fail;go_ret;refine⟨?_,rfl⟩;rw[<-dW (a:=8192) (b:=524288) (by decide) (by decide) hx]
 rfl
theorem AO (x:Nat) (w:World) (hx:x<4294967296):Calls Tryz.prog 198 #[.int .u32 (x:Int), .int .i64 (-7)] w fun e w'=>e= .returned (.int .u32 ((dM x 25:Nat):Int))/\w=w':=by
 have h1:bits BinOp.and IntKind.u64 (IntKind.u64.wrap (-7)) 31=25:=by decide+kernel
 go_enter Tryz.func198,Tryz.ntmps198
 go_wp2_with fail;go_ret;refine⟨?_,rfl⟩;rw[<-dW (a:=33554432) (b:=128) (by decide) (by decide) hx]
 rfl
theorem AK (x:Nat) (w:World) (hx:x<4294967296):Calls Tryz.prog 198 #[.int .u32 (x:Int), .int .i64 (-18)] w fun e w'=>e= .returned (.int .u32 ((dM x 14:Nat):Int))/\w=w':=by
 have h1:bits BinOp.and IntKind.u64 (IntKind.u64.wrap (-18)) 31=14:=by decide+kernel
 go_enter Tryz.func198,Tryz.ntmps198
 go_wp2_with fail;go_ret;refine⟨?_,rfl⟩;rw[<-dW (a:=16384) (b:=262144) (by decide) (by decide) hx]
 rfl
theorem AP (x:Nat) (w:World) (hx:x<4294967296):Calls Tryz.prog 198 #[.int .u32 (x:Int), .int .i64 (-6)] w fun e w'=>e= .returned (.int .u32 ((dM x 26:Nat):Int))/\w=w':=by
 have h1:bits BinOp.and IntKind.u64 (IntKind.u64.wrap (-6)) 31=26:=by decide+kernel
 go_enter Tryz.func198,Tryz.ntmps198
 go_wp2_with fail;go_ret;refine⟨?_,rfl⟩;rw[<-dW (a:=67108864) (b:=64) (by decide) (by decide) hx]
 rfl
theorem AN (x:Nat) (w:World) (hx:x<4294967296):Calls Tryz.prog 198 #[.int .u32 (x:Int), .int .i64 (-11)] w fun e w'=>e= .returned (.int .u32 ((dM x 21:Nat):Int))/\w=w':=by
 have h1:bits BinOp.and IntKind.u64 (IntKind.u64.wrap (-11)) 31=21:=by decide+kernel
 go_enter Tryz.func198,Tryz.ntmps198
 go_wp2_with fail;go_ret;refine⟨?_,rfl⟩;rw[<-dW (a:=2097152) (b:=2048) (by decide) (by decide) hx]
 rfl
theorem Dk (x:Nat) (w:World) (hx:x<4294967296):Calls Tryz.prog 198 #[.int .u32 (x:Int), .int .i64 (-25)] w fun e w'=>e= .returned (.int .u32 ((dM x 7:Nat):Int))/\w=w':=by
 have h1:bits BinOp.and IntKind.u64 (IntKind.u64.wrap (-25)) 31=7:=by decide+kernel
 go_enter Tryz.func198,Tryz.ntmps198
 go_wp2_with fail;go_ret;refine⟨?_,rfl⟩;rw[<-dW (a:=128) (b:=33554432) (by decide) (by decide) hx]
 rfl
theorem AQ (x:Nat) (w:World) (hx:x<4294967296):Calls Tryz.prog 198 #[.int .u32 (x:Int), .int .i64 (-2)] w fun e w'=>e= .returned (.int .u32 ((dM x 30:Nat):Int))/\w=w':=by
 have h1:bits BinOp.and IntKind.u64 (IntKind.u64.wrap (-2)) 31=30:=by decide+kernel
 go_enter Tryz.func198,Tryz.ntmps198
 go_wp2_with fail;go_ret;refine⟨?_,rfl⟩;rw[<-dW (a:=1073741824) (b:=4) (by decide) (by decide) hx]
 rfl
theorem AM (x:Nat) (w:World) (hx:x<4294967296):Calls Tryz.prog 198 #[.int .u32 (x:Int), .int .i64 (-13)] w fun e w'=>e= .returned (.int .u32 ((dM x 19:Nat):Int))/\w=w':=by
 have h1:bits BinOp.and IntKind.u64 (IntKind.u64.wrap (-13)) 31=19:=by decide+kernel
 go_enter Tryz.func198,Tryz.ntmps198
 go_wp2_with fail;go_ret;refine⟨?_,rfl⟩;rw[<-dW (a:=524288) (b:=8192) (by decide) (by decide) hx]
 rfl
theorem AH (x:Nat) (w:World) (hx:x<4294967296):Calls Tryz.prog 198 #[.int .u32 (x:Int), .int .i64 (-22)] w fun e w'=>e= .returned (.int .u32 ((dM x 10:Nat):Int))/\w=w':=by
 have h1:bits BinOp.and IntKind.u64 (IntKind.u64.wrap (-22)) 31=10:=by decide+kernel
 go_enter Tryz.func198,Tryz.ntmps198
 go_wp2_with fail;go_ret;refine⟨?_,rfl⟩;rw[<-dW (a:=1024) (b:=4194304) (by decide) (by decide) hx]
 rfl
theorem Ak {e:Nat} (h:e<4294967296):4294967295^^^e=4294967295-e:=by
 apply Nat.eq_of_testBit_eq
 intro i;rw[Nat.testBit_xor,show(4294967295:Nat)=2^32-1 by decide,Nat.testBit_two_pow_sub_one,show 2^32-1-e=2^32-(e+1) by omega,Nat.testBit_two_pow_sub_succ (by omega)]
 by_cases hi:i<32
 ·simp[hi]
 ·have:e.testBit i=false:=Nat.testBit_lt_two_pow (Nat.lt_of_lt_of_le h (Nat.pow_le_pow_right (by decide) (by omega):2^32<=2^i));simp[hi,this]
theorem GB {e:Nat} (h:e<4294967296):bits BinOp.xor IntKind.u32 (if IntKind.u32.signed=true then -1 else IntKind.u32.max) (e:Int)=((4294967295-e:Nat):Int):=by
 rw[show(if IntKind.u32.signed=true then(-1:Int)else IntKind.u32.max)=((4294967295:Nat):Int) by decide,u32_xor_nat _ _ (by decide) h,Ak h]
def s1P (r:V8):Nat:=(dM r.e 26^^^dM r.e 21)^^^dM r.e 7
def chP (r:V8):Nat:=(r.e &&& r.f)^^^((4294967295-r.e) &&& r.g)
def s0P (r:V8):Nat:=(dM r.a 30^^^dM r.a 19)^^^dM r.a 10
def mjP (r:V8):Nat:=((r.a &&& r.b)^^^(r.a &&& r.c))^^^(r.b &&& r.c)
theorem Ff {r:V8} (h:r.Ok):bits BinOp.xor IntKind.u32 (bits BinOp.xor IntKind.u32 ((dM r.e 26:Nat):Int) ((dM r.e 21:Nat):Int)) ((dM r.e 7:Nat):Int)=((s1P r:Nat):Int):=by
 rw[u32_xor_nat _ _ (cS _ h.e) (cS _ h.e),u32_xor_nat _ _ (kr (cS _ h.e) (cS _ h.e)) (cS _ h.e)]; rfl
theorem Fe {r:V8} (h:r.Ok):bits BinOp.xor IntKind.u32 (bits BinOp.xor IntKind.u32 ((dM r.a 30:Nat):Int) ((dM r.a 19:Nat):Int)) ((dM r.a 10:Nat):Int)=((s0P r:Nat):Int):=by
 rw[u32_xor_nat _ _ (cS _ h.a) (cS _ h.a),u32_xor_nat _ _ (kr (cS _ h.a) (cS _ h.a)) (cS _ h.a)]; rfl
theorem Ew {r:V8} (h:r.Ok):bits BinOp.xor IntKind.u32 (bits BinOp.and IntKind.u32 (r.e:Int) (r.f:Int)) (bits BinOp.and IntKind.u32 (bits BinOp.xor IntKind.u32 (if IntKind.u32.signed=true then -1 else IntKind.u32.max) (r.e:Int)) (r.g:Int))=((chP r:Nat):Int):=by
 have h1:4294967295-r.e<4294967296:=by omega
 rw[GB h.e,u32_and_nat _ _ h.e h.f,u32_and_nat _ _ h1 h.g,u32_xor_nat _ _ (gy _ h.e) (gy _ h1)]; rfl
theorem EP {r:V8} (h:r.Ok):bits BinOp.xor IntKind.u32 (bits BinOp.xor IntKind.u32 (bits BinOp.and IntKind.u32 (r.a:Int) (r.b:Int)) (bits BinOp.and IntKind.u32 (r.a:Int) (r.c:Int))) (bits BinOp.and IntKind.u32 (r.b:Int) (r.c:Int))=((mjP r:Nat):Int):=by
 rw[u32_and_nat _ _ h.a h.b,u32_and_nat _ _ h.a h.c,u32_and_nat _ _ h.b h.c,u32_xor_nat _ _ (gy _ h.a) (gy _ h.a),u32_xor_nat _ _ (kr (gy _ h.a) (gy _ h.a)) (gy _ h.b)]; rfl
theorem DC (r:V8) (k x:Nat):t1P r k x=(r.h+s1P r+chP r+k+x)%4294967296:=by unfold t1P s1P chP; omega
theorem Gh (r:V8):t2P r=(s0P r+mjP r)%4294967296:=rfl
def fp (w:World):Prop:= ∀j x,kc[j]? =some x->w.cell? ⟨5,j,none⟩=some (fO x)
def u8W (b:UInt8):Value:= .int .u8 (b.toNat:Int)
structure fd (w : World) (bs : List UInt8) (t : Nat) (wr : World) : Prop where
 box:wr.heap[w.heap.size]? =some (.cells ((oe bs t).map fO++List.replicate (64-t) (fO 0)).toArray 252 (0,0))
 below:Below w.heap.size w wr
theorem fd.get {w wr:World} {bs:List UInt8} {t j:Nat} (h:fd w bs t wr) (hj:j<t):wr.cell? ⟨w.heap.size,j,none⟩=some (.int .u32 (((oe bs t).getD j 0:Nat):Int)):=by
 rw[cell_of_row wr _ j _ _ _ h.box];have h1:j<(oe bs t).length:=by rw[jz]; exact hj
 rw[List.getElem?_toArray,List.getElem?_append_left (by simpa using h1),List.getElem?_map,getD_some h1]; rfl
theorem fd.free {w wr:World} {bs:List UInt8} {t:Nat} (h:fd w bs t wr) (j:Nat):wr.frozen? ⟨w.heap.size,j,none⟩=false:=frozen_of_row wr _ j _ _ h.box
theorem fd.here {w wr:World} {bs:List UInt8} {t:Nat} (h:fd w bs t wr) (ht:t<64):wr.cell? ⟨w.heap.size,t,none⟩=some (.int .u32 0):=by
 rw[cell_of_row wr _ t _ _ _ h.box,List.getElem?_toArray,List.getElem?_append_right (by simp[jz])];rw[List.length_map,jz,Nat.sub_self,show 64-t=(64-(t+1))+1 by omega,List.replicate_succ]; rfl
theorem fd.put {w wr:World} {bs:List UInt8} {t x:Nat} (h:fd w bs t wr) (ht:t<64) (hx:oe bs (t+1)=oe bs t++[x]):fd w bs (t+1) (wr.setCell ⟨w.heap.size,t,none⟩ (.int .u32 (x:Int))):=by
 refine⟨?_, ?_⟩
 ·rw[heap_setCell_same wr _ t _ _ _ h.box,hx]
  congr 2
  rw[List.setIfInBounds_toArray,List.set_append_right _ _ (by simp[jz])];rw[List.map_append,List.append_assoc]
  congr 2
  rw[List.length_map,jz,Nat.sub_self,show 64-t=(64-(t+1))+1 by omega,List.replicate_succ]
  rfl
 ·exact h.below.trans ⟨rfl,rfl,rfl,by simp[World.setCell],fun k hk=>heap_setCell_other wr _ k _ (by show k≠w.heap.size; omega)⟩
theorem fd.start (w:World) (bs:List UInt8):fd w bs 0 (w.alloc (.cells (List.replicate 64 (fO 0)).toArray 252)):=
 ⟨by rw[heap_alloc_new]; rfl,(Below.refl _ _).alloc (Nat.le_refl _) _⟩
theorem yh (a b c d:UInt8):bits BinOp.or IntKind.u32 (bits BinOp.or IntKind.u32 (bits BinOp.or IntKind.u32 ((a.toNat:Int)%4294967296*16777216%4294967296) ((b.toNat:Int)%4294967296*65536%4294967296)) ((c.toNat:Int)%4294967296*256%4294967296)) ((d.toNat:Int)%4294967296)=((zm a b c d:Nat):Int):=by
 have ha:=a.toNat_lt;have hb:=b.toNat_lt;have hc:=c.toNat_lt;have hd:=d.toNat_lt;rw[show((a.toNat:Int)%4294967296*16777216%4294967296)=((a.toNat*2^24%4294967296:Nat):Int) by omega,show((b.toNat:Int)%4294967296*65536%4294967296)=((b.toNat*2^16%4294967296:Nat):Int) by omega,
  show((c.toNat:Int)%4294967296*256%4294967296)=((c.toNat*2^8%4294967296:Nat):Int) by omega,show((d.toNat:Int)%4294967296)=((d.toNat:Nat):Int) by omega,
  u32_or_nat _ _ (Nat.mod_lt _ (by decide)) (Nat.mod_lt _ (by decide)),u32_or_nat _ _ (js (Nat.mod_lt _ (by decide)) (Nat.mod_lt _ (by decide))) (Nat.mod_lt _ (by decide)),
  u32_or_nat _ _ (js (js (Nat.mod_lt _ (by decide)) (Nat.mod_lt _ (by decide))) (Nat.mod_lt _ (by decide))) (yA _ rfl)]
 rfl
theorem Bd {x:Nat} (hx:x<4294967296):bits BinOp.xor IntKind.u32 (bits BinOp.xor IntKind.u32 ((dM x 15:Nat):Int) ((dM x 13:Nat):Int)) ((x:Int)/1024)=((Fl x:Nat):Int):=by
 rw[show((x:Int)/1024)=((x/2^10:Nat):Int) by simp,u32_xor_nat _ _ (cS _ hx) (cS _ hx),u32_xor_nat _ _ (kr (cS _ hx) (cS _ hx)) (Nat.lt_of_le_of_lt (Nat.div_le_self _ _) hx)]
 rfl
theorem Bc {x:Nat} (hx:x<4294967296):bits BinOp.xor IntKind.u32 (bits BinOp.xor IntKind.u32 ((dM x 25:Nat):Int) ((dM x 14:Nat):Int)) ((x:Int)/8)=((Fk x:Nat):Int):=by
 rw[show((x:Int)/8)=((x/2^3:Nat):Int) by simp,u32_xor_nat _ _ (cS _ hx) (cS _ hx),u32_xor_nat _ _ (kr (cS _ hx) (cS _ hx)) (Nat.lt_of_le_of_lt (Nat.div_le_self _ _) hx)]
 rfl
theorem fd.next {w wr w2:World} {bs:List UInt8} {t:Nat} (h:fd w bs t wr) (hb:Below wr.heap.size wr w2):fd w bs t w2:=⟨(hb.block _ (lt_of_block h.box)).trans h.box,h.below.trans (hb.mono h.below.size)⟩
theorem fd.drew {w wr:World} {bs:List UInt8} {t:Nat} (h:fd w bs t wr):fd w bs t wr.drew:=⟨h.box,h.below.trans (Below.refl _ _).drew⟩
theorem EG {bs:List UInt8} {j:Nat} (h:j<bs.length):bs[j]? =some (bs.getD j 0):=by simp[List.getD_eq_getElem?_getD,h]
def CG (v r:V8) (j:Nat):List Nat:=(BR v r).list.take j++v.list.drop j
structure fW (sb : Nat) (v r : V8) (tl : List Value) (ty : TypeId) (W1 wq : World) (j : Nat) : Prop where
 box:wq.heap[sb]? =some (.cells ((CG v r j).map fO++tl).toArray ty (0,0))
 grown:W1.grownBy wq (some sb)
theorem fW.start {sb:Nat} {v r:V8} {tl:List Value} {ty:TypeId} {W1 wq:World} (h:W1.heap[sb]? =some (.cells (v.list.map fO++tl).toArray ty (0,0))) (hb:Below W1.heap.size W1 wq):fW sb v r tl ty W1 wq 0:=
 ⟨(hb.block sb (lt_of_block h)).trans h,⟨hb.os,hb.tape,hb.output,hb.size,fun k hk _=>hb.block k hk⟩⟩
theorem fW.keep {sb:Nat} {v r:V8} {tl:List Value} {ty:TypeId} {W1 wq:World} {j:Nat} (h:fW sb v r tl ty W1 wq j) {b:Nat} {o:Obj} (hb:W1.heap[b]? =some o) (hne:sb≠b):wq.heap[b]? =some o:=
 (h.grown.block b (lt_of_block hb) (fun e=>hne (Option.some.inj e).symm)).trans hb
theorem fW.free {sb:Nat} {v r:V8} {tl:List Value} {ty:TypeId} {W1 wq:World} {j:Nat} (h:fW sb v r tl ty W1 wq j) (k:Nat):wq.frozen? ⟨sb,k,none⟩=false:=frozen_of_row wq _ k _ _ h.box
theorem EN (v r:V8) {j:Nat} (h:j<8) (tl:List Value):((CG v r j).map fO++tl)[j]? =some (fO (v.list.getD j 0)):=by
 have hc:j=0\/j=1\/j=2\/j=3\/j=4\/j=5\/j=6\/j=7:=by omega
 rcases hc with rfl | rfl | rfl | rfl | rfl | rfl | rfl | rfl<;> rfl
theorem EO (v r:V8) {j:Nat} (h:j<8) (tl:List Value):((CG v r j).map fO++tl).set j (fO (ow (v.list.getD j 0) (r.list.getD j 0)))=(CG v r (j+1)).map fO++tl:=by
 have hc:j=0\/j=1\/j=2\/j=3\/j=4\/j=5\/j=6\/j=7:=by omega
 rcases hc with rfl | rfl | rfl | rfl | rfl | rfl | rfl | rfl<;> rfl
theorem fW.here {sb:Nat} {v r:V8} {tl:List Value} {ty:TypeId} {W1 wq:World} {j:Nat} (h:fW sb v r tl ty W1 wq j) (hj:j<8):wq.cell? ⟨sb,j,none⟩=some (.int .u32 ((v.list.getD j 0:Nat):Int)):=by
 rw[cell_of_row wq _ _ _ _ _ h.box,List.getElem?_toArray,EN v r hj tl]; rfl
theorem fW.put {sb:Nat} {v r:V8} {tl:List Value} {ty:TypeId} {W1 wq:World} {j:Nat} (h:fW sb v r tl ty W1 wq j) (hj:j<8) {x:Value} (hx:x=fO (ow (v.list.getD j 0) (r.list.getD j 0))):fW sb v r tl ty W1 (wq.setCell ⟨sb,j,none⟩ x) (j+1):=by
 subst hx;refine⟨?_, ?_⟩
 ·rw[heap_setCell_same wq _ _ _ _ _ h.box,List.setIfInBounds_toArray,EO v r hj tl]
 ·have h2:=h.grown;exact⟨h2.os,h2.tape,h2.output,by simpa [World.setCell]using h2.size,fun k hk hne=>(heap_setCell_other wq _ k _ (fun e=>hne (by rw[e]))).trans (h2.block k hk hne)⟩
theorem fW.drew {sb:Nat} {v r:V8} {tl:List Value} {ty:TypeId} {W1 wq:World} {j:Nat} (h:fW sb v r tl ty W1 wq j):fW sb v r tl ty W1 wq.drew j:=
 ⟨h.box,⟨h.grown.os,h.grown.tape,h.grown.output,h.grown.size,h.grown.block⟩⟩
theorem GK (v:V8) {j:Nat} (h:j<8):([.int .u32 (v.a:Int), .int .u32 (v.b:Int), .int .u32 (v.c:Int), .int .u32 (v.d:Int), .int .u32 (v.e:Int), .int .u32 (v.f:Int), .int .u32 (v.g:Int), .int .u32 (v.h:Int)]:List Value)[j]? =some (.int .u32 ((v.list.getD j 0:Nat):Int)):=by
 have hc:j=0\/j=1\/j=2\/j=3\/j=4\/j=5\/j=6\/j=7:=by omega
 rcases hc with rfl | rfl | rfl | rfl | rfl | rfl | rfl | rfl<;> rfl
theorem Cv (r:V8) {j:Nat} (h:j<8) (w:World):(Instr.index 216 (.agg #[.int .u32 (r.a:Int), .int .u32 (r.b:Int), .int .u32 (r.c:Int), .int .u32 (r.d:Int), .int .u32 (r.e:Int), .int .u32 (r.f:Int), .int .u32 (r.g:Int), .int .u32 (r.h:Int)]) (.int .i64 (j:Int))).run Tryz.prog w= .ok (.int .u32 ((r.list.getD j 0:Nat):Int)) w:=by
 have hc:j=0\/j=1\/j=2\/j=3\/j=4\/j=5\/j=6\/j=7:=by omega
 rcases hc with rfl | rfl | rfl | rfl | rfl | rfl | rfl | rfl<;> (show _=_; kernel_rfl)
theorem nC {w:World} {sb:Nat} {v:V8} {tl:List Value} {ty:TypeId} (h:w.heap[sb]? =some (.cells (v.list.map fO++tl).toArray ty (0,0))):w.rangeAt sb 0 (v.list.map fO):=by
 intro j x hj;rw[cell_of_row w _ _ _ _ _ h,Nat.zero_add,List.getElem?_toArray,List.getElem?_append_left (List.getElem?_eq_some_iff.1 hj).1];exact hj
theorem jZ (sb:Nat) (v:V8) (tl:List Value) (ty:TypeId) (bk o cap:Nat) (bs:List UInt8) (w:World) (hbox:w.heap[sb]? =some (.cells (v.list.map fO++tl).toArray ty (0,0))) (hv:v.Ok) (hl:bs.length=64) (hcap:64<=cap) (_hcapm:cap<=maxLen)
  (hbs: ∀j b,bs[j]? =some b->w.cell? ⟨bk,o+j,none⟩=some (u8W b)) (hK:fp w) (hKlt:5<w.heap.size):
  Calls Tryz.prog 184 #[.pointer (some ⟨sb,0,none⟩), .slice (some ⟨bk,o,none⟩) 64 cap] w fun e w'=>e= .returned (.tuple #[])/\w'.heap[sb]? =some (.cells ((vM v bs).list.map fO++tl).toArray ty (0,0))/\w.grownBy w' (some sb):=by
 have HX:=ab hbox;have HS:=ab hbs;have HK:=ab hK;clear hbox hbs hK
 go_enter Tryz.func184,Tryz.ntmps184
 go_wp2_with fail;have HA0:=ab (fd.start w bs)
 go_loopw [27] (fun i wr=> ∃t:Nat,t<=64/\i= .int .i64 (t:Int)/\fd w bs t wr) (fun i _=>64-(intOf i).toNat)
 case atStart=>exact⟨0,by omega,rfl,HA0.out⟩
 case round=>
  obtain⟨t,ht,rfl,hs⟩:=hrel;have HA:=ab hs;have hz:=hs.below.size;clear hs
  by_cases h16:t<16
  ·obtain⟨b0,hb0⟩: ∃b,b=bs.getD (4*t) 0:=⟨_,rfl⟩;obtain⟨b1,hb1⟩: ∃b,b=bs.getD (4*t+1) 0:=⟨_,rfl⟩;obtain⟨b2,hb2⟩: ∃b,b=bs.getD (4*t+2) 0:=⟨_,rfl⟩;obtain⟨b3,hb3⟩: ∃b,b=bs.getD (4*t+3) 0:=⟨_,rfl⟩;have q0:=HS.out (4*t) (bs.getD (4*t) 0) (EG (by omega));have q1:=HS.out (4*t+1) (bs.getD (4*t+1) 0) (EG (by omega));have q2:=HS.out (4*t+2) (bs.getD (4*t+2) 0) (EG (by omega))
   have q3:=HS.out (4*t+3) (bs.getD (4*t+3) 0) (EG (by omega));have HW:=ab (show wD bs t=zm b0 b1 b2 b3 by rw[hb0,hb1,hb2,hb3]; rfl);rw[<-hb0]at q0;rw[<-hb1]at q1;rw[<-hb2]at q2;rw[<-hb3]at q3;have hbk:=block_lt_of_cell q0;simp only[u8W]at q0 q1 q2 q3;have c0:=(HA.out.below.cell (p:=⟨bk,o+4*t,none⟩) hbk).trans q0;have c1:=(HA.out.below.cell (p:=⟨bk,o+(4*t+1),none⟩) hbk).trans q1
   rw[<-Nat.add_assoc]at c1;have c2:=(HA.out.below.cell (p:=⟨bk,o+(4*t+2),none⟩) hbk).trans q2;rw[<-Nat.add_assoc]at c2;have c3:=(HA.out.below.cell (p:=⟨bk,o+(4*t+3),none⟩) hbk).trans q3;rw[<-Nat.add_assoc]at c3;have ch:=HA.out.here (by omega);have cf:=HA.out.free t;clear q0 q1 q2 q3 hb0 hb1 hb2 hb3;go_wp2_with fail;refine am [some 24,none] (by kernel_rfl) (by kernel_rfl) (by kernel_rfl) ?_
   simp only[aZ,List.take_succ_cons,List.take_zero,List.drop_succ_cons,List.drop_zero]
   repeat (first | (refine aw rfl ?_; simp only[Act.put,aA,aB,aC]) | (refine aJ rfl (fun K hK=> ?_); go_simp; refine hK _ ?_; clear hK K))
   refine aI ?_;refine bw rfl (fun K hK=> ?_);go_wp2_with fail
   go_roundw
   case rel=>
    rw[yh,<-HW.out];exact⟨t+1,by omega,by simp,(HA.out.put (by omega) (Fs bs h16)).drew⟩
   case measure=>simp[intOf]; omega
  ·by_cases h64:t<64
   ·have h17:16<=t:=by omega
    obtain⟨j2,hj2⟩: ∃j,j=t-2:=⟨_,rfl⟩;obtain⟨j15,hj15⟩: ∃j,j=t-15:=⟨_,rfl⟩;obtain⟨j7,hj7⟩: ∃j,j=t-7:=⟨_,rfl⟩;obtain⟨j16,hj16⟩: ∃j,j=t-16:=⟨_,rfl⟩;have c2:=HA.out.get (j:=j2) (by omega);have c15:=HA.out.get (j:=j15) (by omega);have c7:=HA.out.get (j:=j7) (by omega);have c16:=HA.out.get (j:=j16) (by omega);have e2:IntKind.i64.wrap ((t:Int)-2)=(j2:Int):=by rw[IntKind.wrap_i64]; omega
    have e15:IntKind.i64.wrap ((t:Int)-15)=(j15:Int):=by rw[IntKind.wrap_i64]; omega
    have e7:IntKind.i64.wrap ((t:Int)-7)=(j7:Int):=by rw[IntKind.wrap_i64]; omega
    have e16:IntKind.i64.wrap ((t:Int)-16)=(j16:Int):=by rw[IntKind.wrap_i64]; omega
    have l2:(j2:Int)<64:=by omega
    have l15:(j15:Int)<64:=by omega
    have l7:(j7:Int)<64:=by omega
    have l16:(j16:Int)<64:=by omega
    have ch:=HA.out.here (by omega);have cf:=HA.out.free t;have HJ:=ab (show j2=t-2/\j15=t-15/\j7=t-7/\j16=t-16 from⟨hj2,hj15,hj7,hj16⟩);clear hj2 hj15 hj7 hj16;obtain⟨x2,hx2⟩: ∃x,x=(oe bs t).getD j2 0:=⟨_,rfl⟩;obtain⟨x15,hx15⟩: ∃x,x=(oe bs t).getD j15 0:=⟨_,rfl⟩;obtain⟨x7,hx7⟩: ∃x,x=(oe bs t).getD j7 0:=⟨_,rfl⟩;obtain⟨x16,hx16⟩: ∃x,x=(oe bs t).getD j16 0:=⟨_,rfl⟩
    rw[<-hx2]at c2;rw[<-hx15]at c15;rw[<-hx7]at c7;rw[<-hx16]at c16;have o2:x2<4294967296:=by rw[hx2]; exact(DT bs t).get j2
    have o15:x15<4294967296:=by rw[hx15]; exact(DT bs t).get j15
    have HN:=ab (show nu (oe bs t)=(((Fl x2+x7)%4294967296+Fk x15)%4294967296+x16)%4294967296 by
     unfold nu;rw[jz,hx2,hx15,hx7,hx16,HJ.out.1,HJ.out.2.1,HJ.out.2.2.1,HJ.out.2.2.2])
    clear hx2 hx15 hx7 hx16;go_wp2_with fail;refine am [some 10] (by kernel_rfl) (by kernel_rfl) (by kernel_rfl) ?_;simp only[aZ,List.take_succ_cons,List.take_zero]
    repeat (first | (refine aw rfl ?_; simp only[Act.put,aA,aB,aC]) | (refine aJ rfl (fun K hK=> ?_); go_simp; refine hK _ ?_; clear hK K))
    refine aI ?_;go_wp2_with fail;refine(AL _ _ o2).mono ?_;rintro e W1 ⟨rfl,rfl⟩;go_wp2_with fail;refine(AJ _ _ o2).mono ?_;rintro e W1 ⟨rfl,rfl⟩;go_wp2_with fail;refine(AO _ _ o15).mono ?_;rintro e W1 ⟨rfl,rfl⟩;go_wp2_with fail;refine(AK _ _ o15).mono ?_;rintro e W1 ⟨rfl,rfl⟩;rw[Bd o2];go_wp2_with fail;refine am [some 15,none] (by kernel_rfl) (by kernel_rfl) (by kernel_rfl) ?_
    simp only[aZ,List.take_succ_cons,List.take_zero,List.drop_succ_cons,List.drop_zero]
    repeat (first | (refine aw rfl ?_; simp only[Act.put,aA,aB,aC]) | (refine aJ rfl (fun K hK=> ?_); go_simp; refine hK _ ?_; clear hK K))
    refine aI ?_;refine bw rfl (fun K hK=> ?_);go_wp2_with fail
    go_roundw
    case rel=>
     rw[Bc o15];have HV:((((Fl x2:Nat):Int)+(x7:Int)+((Fk x15:Nat):Int)+(x16:Int))%4294967296)=((nu (oe bs t):Nat):Int):=by rw[HN.out]; omega
     rw[HV];exact⟨t+1,by omega,by simp,(HA.out.put (by omega) (DS bs h17)).drew.drew⟩
    case measure=>simp[intOf]; omega
   ·obtain rfl:t=64:=by omega
    have HB1:=ab ((HX.out▸HA.out.below.block sb (lt_of_block HX.out):wr.heap[sb]? =some (.cells (v.list.map fO++tl).toArray ty (0,0))));have HR:=ab (nC HB1.out);go_wp2_with (refine wpList_load_mid rfl 216 _ rfl sb 0 rfl [.int .u32 (v.a:Int), .int .u32 (v.b:Int), .int .u32 (v.c:Int), .int .u32 (v.d:Int), .int .u32 (v.e:Int), .int .u32 (v.f:Int), .int .u32 (v.g:Int), .int .u32 (v.h:Int)] _ HR.out Tryz.underlying216 rfl (by kernel_rfl) ?_)
    obtain⟨W1,hW1⟩: ∃W1,W1=wr.alloc (.cells #[.int .u32 (v.a:Int), .int .u32 (v.b:Int), .int .u32 (v.c:Int), .int .u32 (v.d:Int), .int .u32 (v.e:Int), .int .u32 (v.f:Int), .int .u32 (v.g:Int), .int .u32 (v.h:Int)] 216):=⟨_,rfl⟩;rw[<-hW1];obtain⟨vb,hvb⟩: ∃vb,wr.heap.size=vb:=⟨_,rfl⟩;have HVB:=ab (show W1.heap[vb]? =some (.cells #[.int .u32 (v.a:Int), .int .u32 (v.b:Int), .int .u32 (v.c:Int), .int .u32 (v.d:Int), .int .u32 (v.e:Int), .int .u32 (v.f:Int), .int .u32 (v.g:Int), .int .u32 (v.h:Int)] 216 (0,0)) by rw[hW1,<-hvb]; exact heap_alloc_new _ _)
    have HBW:=ab (show Below wr.heap.size wr W1 by rw[hW1]; exact(Below.refl _ _).alloc (Nat.le_refl _) _);have HA1:=ab (HA.out.next HBW.out);have HB2:=ab ((HBW.out.block sb (lt_of_block HB1.out)).trans HB1.out);rw[hvb];have HVL:=ab (show sb<vb by rw[<-hvb]; exact lt_of_block HB1.out);clear hW1 hvb;have HOK:=ab (Dd bs (v:=v) 0 hv);have v0:W1.cell? ⟨vb,0,none⟩=some (.int .u32 (v.a:Int)):=(cell_of_row W1 _ _ _ _ _ HVB.out).trans rfl
    have v1:W1.cell? ⟨vb,1,none⟩=some (.int .u32 (v.b:Int)):=(cell_of_row W1 _ _ _ _ _ HVB.out).trans rfl;have v2:W1.cell? ⟨vb,2,none⟩=some (.int .u32 (v.c:Int)):=(cell_of_row W1 _ _ _ _ _ HVB.out).trans rfl;have v3:W1.cell? ⟨vb,3,none⟩=some (.int .u32 (v.d:Int)):=(cell_of_row W1 _ _ _ _ _ HVB.out).trans rfl;have v4:W1.cell? ⟨vb,4,none⟩=some (.int .u32 (v.e:Int)):=(cell_of_row W1 _ _ _ _ _ HVB.out).trans rfl
    have v5:W1.cell? ⟨vb,5,none⟩=some (.int .u32 (v.f:Int)):=(cell_of_row W1 _ _ _ _ _ HVB.out).trans rfl;have v6:W1.cell? ⟨vb,6,none⟩=some (.int .u32 (v.g:Int)):=(cell_of_row W1 _ _ _ _ _ HVB.out).trans rfl;have v7:W1.cell? ⟨vb,7,none⟩=some (.int .u32 (v.h:Int)):=(cell_of_row W1 _ _ _ _ _ HVB.out).trans rfl;refine am [some 24] (by kernel_rfl) (by kernel_rfl) (by kernel_rfl) ?_
    simp only[aZ,List.take_succ_cons,List.take_zero]
    repeat (first | (refine aw rfl ?_; simp only[Act.put,aA,aB,aC]) | (refine aJ rfl (fun K hK=> ?_); go_simp; refine hK _ ?_; clear hK K))
    refine aI ?_;go_wp2_with fail
    go_loopw [12,13,14,15,16,17,18,19,123] (fun sa sb2 sc sd se sf sg sh i wq=> ∃(t:Nat) (r:V8),t<=64/\i= .int .i64 (t:Int)/\r=rTo bs v t/\sa= .int .u32 (r.a:Int)/\sb2= .int .u32 (r.b:Int)/\sc= .int .u32 (r.c:Int)/\sd= .int .u32 (r.d:Int)/\se= .int .u32 (r.e:Int)/\sf= .int .u32 (r.f:Int)/\sg= .int .u32 (r.g:Int)/\sh= .int .u32 (r.h:Int)/\Below W1.heap.size W1 wq) (fun _ _ _ _ _ _ _ _ i _=>64-(intOf i).toNat)
    case atStart=>exact⟨0,v,by omega,rfl,rfl,rfl,rfl,rfl,rfl,rfl,rfl,rfl,rfl,(Below.refl _ _).drew⟩
    case round=>
     obtain⟨t,r,ht2,rfl,hr,rfl,rfl,rfl,rfl,rfl,rfl,rfl,rfl,hbq⟩:=hrel;have HRT:=ab hr;have HBQ:=ab hbq;have HRO:=ab (show r.Ok by rw[hr]; exact Dd bs t hv);clear hr hbq v0 v1 v2 v3 v4 v5 v6 v7
     by_cases h65:t<64
     ·obtain⟨k,hk⟩: ∃k,k=kc.getD t 0:=⟨_,rfl⟩;obtain⟨x,hx⟩: ∃x,x=(wsP bs).getD t 0:=⟨_,rfl⟩;have ck:=HK.out t k (by rw[hk]; exact getD_some (by rw[xw]; exact h65));have ck2:=(HBQ.out.cell (p:=⟨5,t,none⟩) (by have:=HA1.out.below.size; show 5<_; omega)).trans ((HA1.out.below.cell (p:=⟨5,t,none⟩) hKlt).trans ck);have cx:=(HBQ.out.cell (p:=⟨w.heap.size,t,none⟩) (lt_of_block HA1.out.box)).trans (HA1.out.get h65)
      rw[zk,<-hx]at cx;have HKX:=ab (And.intro hk hx);clear ck hk hx;unfold fO at ck2;go_wp2_with fail;refine(AP _ _ HRO.out.e).mono ?_;rintro e W2 ⟨rfl,rfl⟩;go_wp2_with fail;refine(AN _ _ HRO.out.e).mono ?_;rintro e W2 ⟨rfl,rfl⟩;go_wp2_with fail;refine(Dk _ _ HRO.out.e).mono ?_;rintro e W2 ⟨rfl,rfl⟩;go_wp2_with fail;refine(AQ _ _ HRO.out.a).mono ?_;rintro e W2 ⟨rfl,rfl⟩
      go_wp2_with fail;refine(AM _ _ HRO.out.a).mono ?_;rintro e W2 ⟨rfl,rfl⟩;go_wp2_with fail;refine(AH _ _ HRO.out.a).mono ?_;rintro e W2 ⟨rfl,rfl⟩;go_wp2_with fail;refine am [some 21] (by kernel_rfl) (by kernel_rfl) (by kernel_rfl) ?_;simp only[aZ,List.take_succ_cons,List.take_zero]
      repeat (first | (refine aw rfl ?_; simp only[Act.put,aA,aB,aC]) | (refine aJ rfl (fun K hK=> ?_); go_simp; refine hK _ ?_; clear hK K))
      refine aI ?_;go_wp2_with fail
      go_roundw
      case rel=>
       rw[Ff HRO.out,Ew HRO.out,Fe HRO.out,EP HRO.out];refine⟨t+1,AD r k x,by omega,by simp, ?_, ?_,rfl,rfl,rfl, ?_,rfl,rfl,rfl, ?_⟩
       ·rw[De bs v h65,HRT.out,HKX.out.1,HKX.out.2]
       ·show _=Value.int .u32 (((t1P r k x+t2P r)%4294967296:Nat):Int)
        exact congrArg (Value.int .u32) (by rw[DC,Gh]; omega)
       ·show _=Value.int .u32 (((r.d+t1P r k x)%4294967296:Nat):Int)
        exact congrArg (Value.int .u32) (by rw[DC]; omega)
       ·exact HBQ.out.trans (Below.refl _ _).drew
      case measure=>simp[intOf]; omega
     ·obtain rfl:t=64:=by omega
      go_wp2_with (refine wpList_build rfl 216 _ rfl (by kernel_rfl) ?_);rw[show(Tryz.prog.built 216 [(0, .int .u32 (r.a:Int)),(1, .int .u32 (r.b:Int)),(2, .int .u32 (r.c:Int)),(3, .int .u32 (r.d:Int)),(4, .int .u32 (r.e:Int)),(5, .int .u32 (r.f:Int)),(6, .int .u32 (r.g:Int)),(7, .int .u32 (r.h:Int))]).getD #[]= #[.int .u32 (r.a:Int), .int .u32 (r.b:Int), .int .u32 (r.c:Int), .int .u32 (r.d:Int), .int .u32 (r.e:Int), .int .u32 (r.f:Int), .int .u32 (r.g:Int), .int .u32 (r.h:Int)] by kernel_rfl]
      have HM0:=ab (fW.start (r:=r) HB2.out HBQ.out)
      go_loopw [197] (fun i wq=> ∃j:Nat,j<=8/\i= .int .i64 (j:Int)/\fW sb v r tl ty W1 wq j) (fun i _=>8-(intOf i).toNat)
      case atStart=>exact⟨0,by omega,rfl,HM0.out⟩
      case round=>
       obtain⟨j,hj,rfl,hm⟩:=hrel;have HM:=ab hm;clear hm
       by_cases h8:j<8
       ·have cs:=HM.out.here h8;have cf:=HM.out.free j;have hI: ∀w,(Instr.index 216 (.agg #[.int .u32 (r.a:Int), .int .u32 (r.b:Int), .int .u32 (r.c:Int), .int .u32 (r.d:Int), .int .u32 (r.e:Int), .int .u32 (r.f:Int), .int .u32 (r.g:Int), .int .u32 (r.h:Int)]) (.int .i64 (j:Int))).run Tryz.prog w= .ok (.int .u32 ((r.list.getD j 0:Nat):Int)) w:=Cv r h8;have cv:wr.cell? ⟨vb,j,none⟩=some (.int .u32 ((v.list.getD j 0:Nat):Int)):=(cell_of_row wr _ _ _ _ _ (HM.out.keep HVB.out (by have:=HVL.out; omega))).trans (by rw[List.getElem?_toArray]; exact GK v h8)
        obtain⟨x,hx⟩: ∃x,x=r.list.getD j 0:=⟨_,rfl⟩;obtain⟨y,hy⟩: ∃y,y=v.list.getD j 0:=⟨_,rfl⟩;rw[<-hx]at hI;rw[<-hy]at cv cs;have HXY:=ab (And.intro hx hy);clear hx hy;have h8i:(j:Int)<8:=by omega
        go_wp2_with fail;refine am [some 10,none] (by kernel_rfl) (by kernel_rfl) (by kernel_rfl) ?_;simp only[aZ,List.take_succ_cons,List.take_zero,List.drop_succ_cons,List.drop_zero]
        repeat (first | (refine aw rfl ?_; simp only[Act.put,aA,aB,aC]) | (refine aJ rfl (fun K hK=> ?_); go_simp; refine hK _ ?_; clear hK K))
        refine aI ?_;refine bw rfl (fun K hK=> ?_);go_wp2_with fail
        go_roundw
        case rel=>
         refine⟨j+1,by omega,by simp, ?_⟩;exact(HM.out.put h8 (by rw[<-HXY.out.1,<-HXY.out.2]; unfold fO ow; simp)).drew
        case measure=>simp[intOf]; omega
       ·obtain rfl:j=8:=by omega
        go_wp2_with fail
        go_end0
        refine⟨rfl, ?_, ?_⟩
        ·rw[Db,<-HRT.out];have:=HM.out.box;rw[show CG v r 8=(BR v r).list from rfl]at this;exact this
        ·have h1:=HA1.out.below;have h2:=HM.out.grown;exact⟨h2.os.trans h1.os,h2.tape.trans h1.tape,h2.output.trans h1.output,Nat.le_trans h1.size h2.size,fun k hk hn=>(h2.block k (Nat.lt_of_lt_of_le hk h1.size) hn).trans (h1.block k hk)⟩
end Go.Proofs.YtpffpjbkbaleiaaGreatDoor
namespace Go.Proofs.YtpffpjbkbaleiaaGreatDoor
open Go.RowKit
def bl (s:ByteArray):List UInt8:=s.data.toList
theorem EB (s:ByteArray):s.data.toList=bl s:=rfl
theorem cO (s:ByteArray):s.toList=bl s:=by rw[ByteArray.toList_eq]; rfl
theorem ff (l:List UInt8):bl ⟨l.toArray⟩=l:=by simp[bl]
theorem Fv (s:ByteArray):(⟨(bl s).toArray⟩:ByteArray)=s:=by cases s; simp[bl]
theorem ay (s:ByteArray):s.size=(bl s).length:=Lib.size_eq s
theorem zx (s t:ByteArray):bl (s++t)=bl s++bl t:=by simp[bl]
theorem jk (s:ByteArray) (a b:Nat):bl (s.extract a b)=((bl s).take b).drop a:=by unfold bl; rw[Lib.extract_data]; rw[List.drop_take]
theorem ft {s t:ByteArray} (h:bl s=bl t):s=t:=by rw[<-Fv s,<-Fv t,h]
def fq (S:Nat->Prop) (w w':World):Prop:= ∀k,S k->w'.heap[k]? =w.heap[k]?
theorem fq.refl (S:Nat->Prop) (w:World):fq S w w:=fun _ _=>rfl
theorem fq.trans {S:Nat->Prop} {a b c:World} (h:fq S a b) (k:fq S b c):fq S a c:=fun i hi=>(k i hi).trans (h i hi)
theorem fq.cell {S:Nat->Prop} {w w':World} (h:fq S w w') {a:Addr} (ha:S a.block):w'.cell? a=w.cell? a:=World.cell?_of_block (h a.block ha)
theorem fq.mono {S T:Nat->Prop} {w w':World} (h:fq S w w') (hT: ∀k,T k->S k):fq T w w':=fun k hk=>h k (hT k hk)
theorem aR {w:World} {a:Addr} {v:Value} (h:w.cell? a=some v):a.block<w.heap.size:=by
 rcases Nat.lt_or_ge a.block w.heap.size with h' | h'
 ·exact h'
 ·simp[World.cell?,Array.getElem?_eq_none h']at h
def aS (S:Nat->Prop) (w:World) (sz:Nat) (v:Value) (n:Nat) (cells:List Value):Prop:=
 cells.length=n*sz/\ ∃a cap,v= .slice a n cap/\n<=cap/\cap<=maxLen/\
  (n=0\/ ∃b o,a=some ⟨b,o,none⟩/\S b/\ ∀(j:Nat) u,cells[j]? =some u->w.cell? ⟨b,o+j,none⟩=some u)
theorem aS.same {S:Nat->Prop} {w w':World} {sz:Nat} {v:Value} {n:Nat} {cells:List Value} (h:aS S w sz v n cells) (hs:fq S w w'):aS S w' sz v n cells:=by
 obtain⟨hl,a,cap,hv,hn,hm,h0⟩:=h;refine⟨hl,a,cap,hv,hn,hm, ?_⟩
 rcases h0 with h0 | ⟨b,o,ha,hb,hc⟩
 ·exact .inl h0
 ·exact .inr ⟨b,o,ha,hb,fun j u hu=>(hs.cell (a:=⟨b,o+j,none⟩) hb).trans (hc j u hu)⟩
theorem aS.mono {S T:Nat->Prop} {w:World} {sz:Nat} {v:Value} {n:Nat} {cells:List Value} (h:aS S w sz v n cells) (hs: ∀k,k<w.heap.size->S k->T k):0<sz->aS T w sz v n cells:=by
 intro hsz;obtain⟨hl,a,cap,hv,hn,hm,h0⟩:=h;refine⟨hl,a,cap,hv,hn,hm, ?_⟩
 rcases h0 with h0 | ⟨b,o,ha,hb,hc⟩
 ·exact .inl h0
 ·rcases Nat.eq_zero_or_pos n with h | h
  ·exact .inl h
  ·refine .inr ⟨b,o,ha,hs b ?_ hb,hc⟩;have:0<cells.length:=by rw[hl]; exact Nat.mul_pos h hsz
   exact aR (a:=⟨b,o+0,none⟩) (hc 0 cells[0] (by simp[this]))
theorem aS.below {S:Nat->Prop} {w w':World} {sz:Nat} {v:Value} {n:Nat} {cells:List Value} (h:aS S w sz v n cells) (hsz:0<sz) (hb:Below w.heap.size w w'):aS S w' sz v n cells:=by
 have h2:=h.mono (T:=fun k=>S k/\k<w.heap.size) (fun k hk hS=>⟨hS,hk⟩) hsz;have h3:=h2.same (w':=w') (fun k hk=>hb.block k hk.2);obtain⟨hl,a,cap,hv,hn,hm,h0⟩:=h3;refine⟨hl,a,cap,hv,hn,hm, ?_⟩
 rcases h0 with h0 | ⟨b,o,ha,hb,hc⟩
 ·exact .inl h0
 ·exact .inr ⟨b,o,ha,hb.1,hc⟩
theorem aS.nil (S:Nat->Prop) (w:World) (sz:Nat):aS S w sz (.slice none 0 0) 0 []:=⟨by simp,none,0,rfl,Nat.le_refl _,by unfold maxLen; omega, .inl rfl⟩
def jh (S:Nat->Prop) (w:World) (v:Value) (xs:List ByteArray):Prop:=aS S w 1 v xs.length (xs.map Value.string)
theorem jh.shape {S:Nat->Prop} {w:World} {v:Value} {xs:List ByteArray} (h:jh S w v xs):
  ∃a cap,v= .slice a xs.length cap/\xs.length<=cap/\cap<=maxLen/\ ∀k x,xs[k]? =some x-> ∃b o,a=some ⟨b,o,none⟩/\S b/\w.cell? ⟨b,o+k,none⟩=some (.string x):=by
 obtain⟨_,a,cap,hv,hn,hm,h0⟩:=h;refine⟨a,cap,hv,hn,hm,fun k x hk=> ?_⟩
 rcases h0 with h0 | ⟨b,o,ha,hb,hc⟩
 ·simp[List.eq_nil_of_length_eq_zero h0]at hk
 ·exact⟨b,o,ha,hb,hc k _ (by simp[hk])⟩
structure fE (w : World) : Prop where
 maxLen: ∃m,w.cell? ⟨1,0,none⟩=some (.int .i64 m)
 tabs:Lib.Utf8Tabs 3 4 w
theorem fE.below {w w':World} (h:fE w) (hb:Below w.heap.size w w'):fE w':=by
 obtain⟨⟨m,hm⟩,ht⟩:=h;exact⟨⟨m,(hb.cell (aR hm)).trans hm⟩,Utf8Tabs_below ht hb⟩
theorem fE.lt {w:World} (h:fE w):1<w.heap.size/\3<w.heap.size/\4<w.heap.size:=by
 obtain⟨⟨m,hm⟩,ht⟩:=h;exact⟨aR hm,aR (ht.1 0 (by omega)),aR (ht.2 0 (by omega)).1⟩
theorem fE.belowB {B:Nat} {w w':World} (h:fE w) (hb:Below B w w') (h0:1<B) (h1:3<B) (h2:4<B):fE w':=by
 obtain⟨⟨m,hm⟩,ht⟩:=h;exact⟨⟨m,(hb.cell h0).trans hm⟩,fun c hc=>(hb.cell (p:=⟨3,c,none⟩) h1).trans (ht.1 c hc),fun i hi=>⟨(hb.cell (p:=⟨4,2*i,none⟩) h2).trans (ht.2 i hi).1,(hb.cell (p:=⟨4,2*i+1,none⟩) h2).trans (ht.2 i hi).2⟩⟩
theorem an {a b:Bool} (h:a=b):Ending.returned (.bool a)= .returned (.bool b):=by rw[h]
theorem bz {k:IntKind} {a b:Int} (h:a=b):Ending.returned (.int k a)= .returned (.int k b):=by rw[h]
theorem ag {w w1 w2:World} (h:Below w.heap.size w w1) (k:Below w1.heap.size w1 w2):Below w.heap.size w w2:=h.trans (k.mono h.size)
theorem gJ {P:Program} {f:FuncId} {args:Array Value} {w:World} {n:Nat} {v:Value}
  (h:Calls P f args (w.drewN n) fun e w'=>e= .returned v/\w.drewN n=w'):Calls P f args (w.drewN n) fun e w''=>e= .returned v/\ ∃m,w''=w.drewN m:=
 h.mono fun _ _ ⟨he,hm⟩=>⟨he,n,hm.symm⟩
theorem bp {B:Nat} {a w:World} (h:Below B a w) (n:Nat):Below B a (w.drewN n):=h.trans ⟨rfl,rfl,rfl,Nat.le_refl _,fun _ _=>rfl⟩
structure eW (P : Program) (t e : TypeId) (sz bytes : Nat) : Prop where
 ht:P.underlying t=some (.slice e)
 hi: ∃i z,P.info? e=some i/\i.zero=some z/\i.size=sz/\i.bytes=bytes/\z.cells.size=sz
 pos:0<sz
 small:bytes<=128
theorem eW.mk' {P:Program} {t e:TypeId} {sz bytes:Nat} {z:Value} (ht:P.underlying t=some (.slice e)) (hi:(P.info? e).map (fun i=>(i.zero,i.size,i.bytes))=some (some z,sz,bytes)) (hz:z.cells.size=sz) (hp:0<sz) (hb:bytes<=128):eW P t e sz bytes:=by
 obtain⟨i,h1,h2,h3,h4⟩:=info_parts hi;exact⟨ht,⟨i,z,h1,h2,h3,h4,hz⟩,hp,hb⟩
theorem mJ {P:Program} (w:World) (base:Nat) (t ty e:TypeId) (i:TypeInfo) (z:Value) (size bytes:Nat) (ht:P.underlying t=some (.slice e)) (hi:P.info? e=some i) (hz:i.zero=some z)
  (hsize:i.size=size) (hby:i.bytes=bytes) (hzs:z.cells.size=size)
  (v:Value) (n:Nat) (xs:List Value) (hown:w.ownsRow base e size v n xs)
  (a:Addr) (m c:Nat) (news:List Value) (hl:news.length=m*size) (hm0:0<m) (hnews: ∀j u,news[j]? =some u->w.cell? (a.add j)=some u) (h1: ∀u∈news,u.oneCell'=true)
  (h63:n+m<=maxLen) (hbytes:(n+m)*bytes<=140737488355328) {v':Value} {w':World}
  (hrun:(Builtin.append_ #[t,t] ty #[v, .slice (some a) m c]).run P w= .ok v' w'):v'.ownBlock=v.ownBlock\/v'.ownBlock=some w.heap.size:=by
 subst hsize;subst hby
 have hsmall:n+m<=9223372036854775807:=by simp only[maxLen]at h63; omega
 rcases hown.2 with⟨rfl,rfl⟩ | ⟨g,cap,cur,rfl,hbg,hg,hnc,hcm,hcs,htake⟩
 ·have hx:xs=[]:=List.eq_nil_of_length_eq_zero (by simpa using hown.1);subst hx;have hr:=run_append_nil (P:=P) w t ty e i z ht hi hz a m c news hl hnews (by omega) (by omega) (by have hb:=hbytes; simp only[Nat.zero_add]at hb; omega);rw[hr]at hrun
  cases hrun
  exact .inr rfl
 ·by_cases hroom:n+m<=cap
  ·have hfit:n*i.size+news.length<=cur.size:=by rw[hl,hcs,<-Nat.add_mul]; exact Nat.mul_le_mul_right _ hroom
   have hr:=run_append_room (P:=P) w t ty e i ht hi g n cap cur hg a m c news hl hnews h1 hroom hfit;rw[hr]at hrun
   cases hrun
   exact .inl rfl
  ·have holds: ∀j u,xs[j]? =some u->w.cell? ((⟨g,0,none⟩:Addr).add j)=some u:=hown.cells (g:=g) rfl;have hr:=run_append_grow (P:=P) w t ty e i z ht hi hz ⟨g,0,none⟩ n cap xs hown.1 holds a m c news hl hnews (by omega) (by omega) (growslice_fits (by omega) hbytes);rw[hr]at hrun
   cases hrun
   exact .inr rfl
theorem aK {P:Program} {ops:Array Oper} {rest:List Oper} {o:Oper} {a:Act} {Q:Exit->Act->World->Prop} {t e:TypeId} {sz bytes:Nat} (T:eW P t e sz bytes) (hgd:o.guard=none) (s x:Operand)
  (ho:o.op= .call {callee:= .builtin .append,args:= #[s,x],argTypes:= #[t,t]}) (base:Nat) (v:Value) (n:Nat) (xs:List Value) (hs:a.eval s=v) (w0:World) (news:List Value) (e2:TypeId)
  (hx:a.eval x= .slice (some ⟨w0.heap.size,0,none⟩) 1 1) (hl:news.length=sz) (h1: ∀u∈news,u.oneCell'=true) (hown:w0.ownsRow base e sz v n xs) (hn:n<1099511627775) (hbase:base<=w0.heap.size)
  (h: ∀v' w',w'.ownsRow base e sz v' (n+1) (xs++news)->w0.grownBy w' v.ownBlock->v'≠ .slice none 0 0->(∀k,v'.ownBlock=some k->v.ownBlock=some k\/w0.heap.size<=k)->wpList P ops Q rest (a.put o.dst v') w'):wpList P ops Q (o::rest) a (w0.alloc (.cells news.toArray e2)):=by
 obtain⟨ht,⟨i,z,h11,h12,h13,h14,h15⟩,hpos,hsm⟩:=T;have hnews: ∀(j:Nat) u,news[j]? =some u->(w0.alloc (.cells news.toArray e2)).cell? ((⟨w0.heap.size,0,none⟩:Addr).add j)=some u:=by
  intro j u hj;have hadd:(⟨w0.heap.size,0,none⟩:Addr).add j=⟨w0.heap.size,j,none⟩:=by unfold Addr.add; split<;> simp_all
  rw[hadd];have hh:=heap_alloc_new w0 (.cells news.toArray e2);simp only[World.cell?,hh];simp[hj]
 have h63:n+1<=maxLen:=by unfold maxLen; omega
 have hby:(n+1)*bytes<=140737488355328:=by
  have:(n+1)*bytes<=1099511627775*128:=Nat.mul_le_mul (by omega) hsm;omega
 have hl1:news.length=1*sz:=by rw[hl,Nat.one_mul]
 obtain⟨v',w',hr,h2,hg,hv⟩:=run_append_own (P:=P) (w0.alloc (.cells news.toArray e2)) base t o.type e i z sz bytes ht h11 h12 h13 h14 h15 hpos v n xs (hown.alloc _) ⟨w0.heap.size,0,none⟩ 1 1 news hl1 hnews h1 h63 hby (by simp; omega);have hpl:=mJ (P:=P) (w0.alloc (.cells news.toArray e2)) base t o.type e i z sz bytes ht h11 h12 h13 h14 h15 v n xs (hown.alloc _) ⟨w0.heap.size,0,none⟩ 1 1 news hl1 (by omega) hnews h1 h63 hby hr
 refine wpList_plain hgd fun K hK=> ?_
 unfold Oper.wp execOp;simp only[ho,resolve,invoke,builtin,Sem.run_bind,Sem.run_pure,Result.andThen_ok,List.map_toArray,List.map_cons,List.map_nil,hs,hx,hr];refine hK _ _ (h v' w' h2 ⟨hg.os,hg.tape,hg.output,by have:=hg.size; simp at this; omega,fun k hk hne=> ?_⟩ (fun e=>by have:=(hv.1 e).2; omega) ?_)
 ·rw[hg.block k (by simp; omega) hne];exact Below.heap_alloc _ _ _ hk
 ·intro k hk
  rcases hpl with hp | hp
  ·left; rw[<-hp]; exact hk
  ·right; rw[hp]at hk; cases hk; simp
theorem ir {P:Program} {ops:Array Oper} {rest:List Oper} {o:Oper} {a:Act} {Q:Exit->Act->World->Prop} {t e:TypeId} {sz bytes:Nat} (T:eW P t e sz bytes) (hgd:o.guard=none) (s x:Operand)
  (ho:o.op= .call {callee:= .builtin .append,args:= #[s,x],argTypes:= #[t,t]}) (base:Nat) (v:Value) (n:Nat) (xs:List Value) (hs:a.eval s=v) (w0:World) (news:List Value) (e2:TypeId)
  (hx:a.eval x= .slice (some ⟨w0.heap.size,0,none⟩) 1 1) (hl:news.length=sz) (h1: ∀u∈news,u.oneCell'=true) (hown:w0.ownsRow base e sz v n xs) (hn:n<1099511627775) (hbase:base<=w0.heap.size)
  (h: ∀v' w',w'.ownsRow base e sz v' (n+1) (xs++news)->w0.grownBy w' v.ownBlock->v'≠ .slice none 0 0->wpList P ops Q rest (a.put o.dst v') w'):wpList P ops Q (o::rest) a (w0.alloc (.cells news.toArray e2)):=
 aK T hgd s x ho base v n xs hs w0 news e2 hx hl h1 hown hn hbase fun v' w' h2 h3 h4 _=>h v' w' h2 h3 h4
theorem bq {w:World} {base:Nat} {e:TypeId} {sz:Nat} {v:Value} {n:Nat} {xs:List Value} (h:w.ownsRow base e sz v n xs):aS (fun k=>base<=k/\v.ownBlock=some k) w sz v n xs:=by
 obtain⟨hl,h2⟩:=h
 rcases h2 with⟨rfl,rfl⟩ | ⟨g,cap,cur,rfl,hg,hh,hn,hcap,hsz,htake⟩
 ·exact⟨hl,none,0,rfl,Nat.le_refl _,by unfold maxLen; omega, .inl rfl⟩
 ·refine⟨hl,_,cap,rfl,hn,hcap, .inr ⟨g,0,rfl,⟨hg,rfl⟩,fun j u hj=> ?_⟩⟩;rw[Nat.zero_add,cell_of_row w g j cur e (0,0) hh];rw[<-htake,List.getElem?_take]at hj
  split at hj
  ·simpa using hj
  ·cases hj
theorem aS.weak {S T:Nat->Prop} {w:World} {sz:Nat} {v:Value} {n:Nat} {cells:List Value} (h:aS S w sz v n cells) (hs: ∀k,S k->T k):aS T w sz v n cells:=by
 obtain⟨hl,a,cap,hv,hn,hm,h0⟩:=h;refine⟨hl,a,cap,hv,hn,hm, ?_⟩
 rcases h0 with h0 | ⟨b,o,ha,hb,hc⟩
 ·exact .inl h0
 ·exact .inr ⟨b,o,ha,hs b hb,hc⟩
theorem cJ {B:Nat} {w0 w w':World} {base:Nat} {e:TypeId} {sz:Nat} {v:Value} {n:Nat} {xs:List Value} (hb:Below B w0 w) (ho:w.ownsRow base e sz v n xs) (hg:w.grownBy w' v.ownBlock) (h1:B<=base) (h2:B<=w.heap.size):Below B w0 w':=
 hb.grown hg h2 (fun k hk=>by have:=(ho.lt k hk).1; omega)
theorem aj {w:World} {base:Nat} {e:TypeId} {sz:Nat} {v:Value} {n:Nat} {xs:List Value} (h:w.ownsRow base e sz v n xs): ∃a cap,v= .slice a n cap/\n<=cap/\cap<=maxLen:=by
 obtain⟨_,h2⟩:=h
 rcases h2 with⟨rfl,rfl⟩ | ⟨g,cap,cur,rfl,hg,hh,hn,hcap,hsz,htake⟩
 ·exact⟨_,_,rfl,Nat.le_refl _,by unfold maxLen; omega⟩
 ·exact⟨_,_,rfl,hn,hcap⟩
theorem Tryz.appStrings :eW Tryz.prog 138 9 1 16:=eW.mk' (z:= .string ByteArray.empty) Tryz.underlying138 (by kernel_rfl) rfl (by decide) (by decide)
def bR {α:Type} (R:List Value->α->Prop):List Value->List α->Prop
 | cells,[]=>cells=[]
 | cells,x::xs=> ∃c rest,cells=c++rest/\R c x/\bR R rest xs
section
variable {α : Type} {R R' : List Value → α → Prop} {sz : Nat}
theorem bR.mono : ∀ {xs:List α} {cells:List Value},(∀c x,x∈xs->R c x->R' c x)->bR R cells xs->bR R' cells xs
 | [],_,_,h=>h
 | x::xs,cells,hm,h=>by
  obtain⟨c,rest,rfl,hc,hr⟩:=h;exact⟨c,rest,rfl,hm c x (by simp) hc,bR.mono (fun c y hy=>hm c y (by simp[hy])) hr⟩
theorem bR.snoc : ∀ {xs:List α} {cells c:List Value} {x:α},bR R cells xs->R c x->bR R (cells++c) (xs++[x])
 | [],cells,c,x,h,hc=>by
  have:cells=[]:=h;subst this;exact⟨c,[],by simp,hc,rfl⟩
 | y::xs,cells,c,x,h,hc=>by
  obtain⟨d,rest,rfl,hd,hr⟩:=h;exact⟨d,rest++c,by simp,hd,bR.snoc hr hc⟩
theorem bR.len (hs: ∀c x,R c x->c.length=sz): ∀ {xs:List α} {cells:List Value},bR R cells xs->cells.length=xs.length*sz
 | [],cells,h=>by have:cells=[]:=h; subst this; simp
 | x::xs,cells,h=>by
  obtain⟨c,rest,rfl,hc,hr⟩:=h;rw[List.length_append,hs c x hc,bR.len hs hr,List.length_cons,Nat.add_mul]; omega
theorem bR.get (hs: ∀c x,R c x->c.length=sz): ∀ {xs:List α} {cells:List Value} {i:Nat} {x:α},bR R cells xs->xs[i]? =some x-> ∃c,R c x/\ ∀j,j<sz->cells[i*sz+j]? =c[j]?
 | [],_,i,_,_,hi=>by simp at hi
 | y::xs,cells,0,x,h,hi=>by
  obtain⟨c,rest,rfl,hc,hr⟩:=h;simp at hi; subst hi;refine⟨c,hc,fun j hj=> ?_⟩;rw[Nat.zero_mul,Nat.zero_add,List.getElem?_append_left (by rw[hs c y hc]; exact hj)]
 | y::xs,cells,i+1,x,h,hi=>by
  obtain⟨c,rest,rfl,hc,hr⟩:=h;obtain⟨d,hd,hj⟩:=bR.get hs hr (i:=i) (x:=x) (by simpa using hi);refine⟨d,hd,fun j hjs=> ?_⟩;have hl:=hs c y hc;rw[List.getElem?_append_right (by rw[hl,Nat.add_mul]; omega),hl,<-hj j hjs]
  congr 1
  rw[Nat.add_mul]; omega
theorem bR.drop (hs: ∀c x,R c x->c.length=sz): ∀ {xs:List α} {cells:List Value} (i:Nat),bR R cells xs->i<=xs.length->bR R (cells.drop (i*sz)) (xs.drop i)
 | _,_,0,h,_=>by simpa using h
 | [],_,i+1,_,hi=>by simp at hi
 | y::xs,cells,i+1,h,hi=>by
  obtain⟨c,rest,rfl,hc,hr⟩:=h;have:=bR.drop hs i hr (by simpa using hi);rw[List.drop_succ_cons,Nat.add_mul,Nat.one_mul,Nat.add_comm,List.drop_append,hs c y hc];simp only[Nat.add_sub_cancel_left];rw[List.drop_of_length_le (by rw[hs c y hc]; omega)];exact this
end
def aL {α:Type} (S:Nat->Prop) (w:World) (sz:Nat) (R:List Value->α->Prop) (v:Value) (xs:List α):Prop:=
 ∃cells,aS S w sz v xs.length cells/\bR R cells xs
section
variable {α : Type} {S T : Nat → Prop} {w w' : World} {sz : Nat} {R R' : List Value → α → Prop} {v : Value} {xs : List α}
theorem aL.shape (h:aL S w sz R v xs) (hs: ∀c x,R c x->c.length=sz):
  ∃a cap,v= .slice a xs.length cap/\xs.length<=cap/\cap<=maxLen/\ ∀(k:Nat) x,xs[k]? =some x-> ∃b o c,a=some ⟨b,o,none⟩/\S b/\R c x/\c.length=sz/\ ∀j,j<sz->w.cell? ⟨b,o+(k*sz+j),none⟩=c[j]? :=by
 obtain⟨cells,⟨hl,a,cap,hv,hn,hm,h0⟩,hr⟩:=h;refine⟨a,cap,hv,hn,hm,fun k x hk=> ?_⟩
 rcases h0 with h0 | ⟨b,o,ha,hb,hc⟩
 ·simp[List.eq_nil_of_length_eq_zero h0]at hk
 ·obtain⟨c,hcx,hj⟩:=hr.get hs hk;refine⟨b,o,c,ha,hb,hcx,hs c x hcx,fun j hjs=> ?_⟩;have hlt:j<c.length:=by rw[hs c x hcx]; exact hjs
  rw[List.getElem?_eq_getElem hlt];exact hc _ _ (by rw[hj j hjs,List.getElem?_eq_getElem hlt])
theorem aL.same (h:aL S w sz R v xs) (hs:fq S w w') (hR: ∀c x,x∈xs->R c x->R' c x):aL S w' sz R' v xs:=by
 obtain⟨cells,h1,h2⟩:=h;exact⟨cells,h1.same hs,h2.mono hR⟩
theorem aL.below (h:aL S w sz R v xs) (hsz:0<sz) (hb:Below w.heap.size w w') (hR: ∀c x,x∈xs->R c x->R' c x):aL S w' sz R' v xs:=by
 obtain⟨cells,h1,h2⟩:=h;exact⟨cells,h1.below hsz hb,h2.mono hR⟩
theorem aL.mono (h:aL S w sz R v xs) (hsz:0<sz) (hs: ∀k,k<w.heap.size->S k->T k) (hR: ∀c x,x∈xs->R c x->R' c x):aL T w sz R' v xs:=by
 obtain⟨cells,h1,h2⟩:=h;exact⟨cells,h1.mono hs hsz,h2.mono hR⟩
theorem aL.nil :aL S w sz R (.slice none 0 0) ([]:List α):=⟨[],aS.nil _ _ _,rfl⟩
end
theorem nS (b o n:Nat):(⟨b,o,none⟩:Addr).add n=⟨b,o+n,none⟩:=by unfold Addr.add; split<;> simp_all
open Go Go.RowKit
theorem nL {P:Program} {w:World} (base:Nat) (t ty e:TypeId) (i:TypeInfo) (size:Nat) (ht:P.underlying t=some (.slice e)) (hi:P.info? e=some i)
  (v:Value) (n:Nat) (xs:List Value) (hown:w.ownsRow base e size v n xs) (a:Option Addr) (c:Nat):
  (Builtin.append_ #[t,t] ty #[v, .slice a 0 c]).run P w= .ok v w:=by
 rcases hown.2 with⟨rfl,rfl⟩ | ⟨g,cap,cur,rfl,_,_,hnc,_⟩
 ·cases a<;> simp[Builtin.append_,run_underlying ht,sizeOf,typeInfo,hi,Builtin.lenOf,Builtin.firstCells,loadCells,loadCellsFrom]
 ·cases a<;> simp[Builtin.append_,run_underlying ht,sizeOf,typeInfo,hi,Builtin.lenOf,Builtin.firstCells,hnc,storeCells,loadCells,loadCellsFrom]
theorem fa {P:Program} {ops:Array Oper} {rest:List Oper} {o:Oper} {a:Act} {Q:Exit->Act->World->Prop} {w:World} {t e:TypeId} {sz bytes:Nat} {S:Nat->Prop} (T:eW P t e sz bytes) (hgd:o.guard=none) (s x:Operand)
  (ho:o.op= .call {callee:= .builtin .append,args:= #[s,x],argTypes:= #[t,t]}) (base:Nat) (v:Value) (n:Nat) (xs:List Value) (hs:a.eval s=v) (hown:w.ownsRow base e sz v n xs) (vx:Value) (m:Nat) (news:List Value)
  (hx:a.eval x=vx) (hrow:aS S w sz vx m news) (h1: ∀u∈news,u.oneCell'=true) (hn:n+m<1099511627775) (hbase:base<=w.heap.size)
  (h: ∀v' w',w'.ownsRow base e sz v' (n+m) (xs++news)->w.grownBy w' v.ownBlock->wpList P ops Q rest (a.put o.dst v') w'):wpList P ops Q (o::rest) a w:=by
 obtain⟨ht,⟨i,z,h11,h12,h13,h14,h15⟩,hpos,hsm⟩:=T;obtain⟨hl,ad,cap,rfl,_,_,h0⟩:=hrow;refine wpList_plain hgd fun K hK=> ?_
 have hz:m=0->o.wp P a w K Q:=by
  rintro rfl;have hn0:news=[]:=List.eq_nil_of_length_eq_zero (by rw[hl]; simp);subst hn0;have hrun:=nL (P:=P) (w:=w) base t o.type e i sz ht h11 v n xs hown ad cap;unfold Oper.wp execOp;simp only[ho,resolve,invoke,builtin,Sem.run_bind,Sem.run_pure,Result.andThen_ok,List.map_toArray,List.map_cons,List.map_nil,hs,hx,hrun];exact hK _ _ (h v w (by simpa using hown) ⟨rfl,rfl,rfl,Nat.le_refl _,fun _ _ _=>rfl⟩)
 rcases h0 with h0 | ⟨b,of,rfl,_,hc⟩
 ·exact hz h0
 ·have hnews: ∀(j:Nat) u,news[j]? =some u->w.cell? ((⟨b,of,none⟩:Addr).add j)=some u:=fun j u hj=>by rw[nS]; exact hc j u hj
  have h63:n+m<=maxLen:=by unfold maxLen; omega
  have hby:(n+m)*bytes<=140737488355328:=by
   have:(n+m)*bytes<=1099511627775*128:=Nat.mul_le_mul (by omega) hsm;omega
  obtain⟨v',w',hr,h2,hg,_⟩:=run_append_own (P:=P) w base t o.type e i z sz bytes ht h11 h12 h13 h14 h15 hpos v n xs hown ⟨b,of,none⟩ m cap news hl hnews h1 h63 hby hbase;unfold Oper.wp execOp;simp only[ho,resolve,invoke,builtin,Sem.run_bind,Sem.run_pure,Result.andThen_ok,List.map_toArray,List.map_cons,List.map_nil,hs,hx,hr];exact hK _ _ (h v' w' h2 hg)
end Go.Proofs.YtpffpjbkbaleiaaGreatDoor
namespace Go.Proofs.YtpffpjbkbaleiaaGreatDoor
open Go
section
variable {P : Program} {ops : Array Oper} {Q : Exit → Act → World → Prop} {S : World → Prop}
@[irreducible] def lD (P:Program) (ops:Array Oper) (Q:Exit->Act->World->Prop) (S:World->Prop) (fuel:Nat) (listed:Array Bool) (a:Act) (w:World):Prop:=wpAnyH P .any ops Q S fuel listed a w
theorem lD.of {fuel:Nat} {listed:Array Bool} {a:Act} {w:World} (h:wpAnyH P .any ops Q S fuel listed a w):lD P ops Q S fuel listed a w:=by unfold lD; exact h
theorem lD.out {fuel:Nat} {listed:Array Bool} {a:Act} {w:World} (h:lD P ops Q S fuel listed a w):wpAnyH P .any ops Q S fuel listed a w:=by unfold lD at h; exact h
theorem cM {id:Nat} {a:Act} {w:World} {l:List Oper} (S:World->Prop) (hm:P.follows .mixedOrders=true) (h:lD P l.toArray Q S l.length (Array.replicate l.length false) a w.drew):(Code.region id l.toArray true).wp P Q a w:=by
 refine wp_region_held (S:=S) hm ?_;have:=h.out
 simpa using this
theorem af {dst:Option Tmp} {op:Op} {ty:TypeId} {pos:String} {aft:Array Edge} {g:Option (Nat×Bool)} {v:Value} {fuel:Nat} {listed:Array Bool} {a:Act} {w:World} (i:Nat) (hi:ops[i]? =some ⟨dst,op,ty,pos,aft,g⟩)
  (hs:Region.noSelect ops=true) (hf:Region.free .any ops listed i=true) (hr:(Region.ready .any ops listed).contains i=true)
  (hQ: ∀c a w,Q (.panic c) (a.put dst v) w->Q (.panic c) a w) (hw:Region.wanted ⟨dst,op,ty,pos,aft,g⟩ (yielded ops a.tmps)=true) (hS:S w)
  (hy: ∀w',S w'->(execOp a.eval ⟨dst,op,ty,pos,aft,g⟩).run P w'= .ok (.value v) w')
  (h:lD P ops Q S fuel (listed.setIfInBounds i true) (a.put dst v) w):lD P ops Q S (fuel+1) listed a w:=
 lD.of (wpAnyH_take (oi:=⟨dst,op,ty,pos,aft,g⟩) hi hs hf hr hQ (.inl ⟨hw,hy⟩) hS h.out)
theorem ph {dst:Option Tmp} {op:Op} {ty:TypeId} {pos:String} {aft:Array Edge} {g:Option (Nat×Bool)} {fuel:Nat} {listed:Array Bool} {a:Act} {w:World} (i:Nat) (hi:ops[i]? =some ⟨dst,op,ty,pos,aft,g⟩)
  (hs:Region.noSelect ops=true) (hf:Region.free .any ops listed i=true) (hr:(Region.ready .any ops listed).contains i=true)
  (hQ: ∀c a w,Q (.panic c) (a.put dst undef) w->Q (.panic c) a w) (hw:Region.wanted ⟨dst,op,ty,pos,aft,g⟩ (yielded ops a.tmps)=false) (hS:S w)
  (h:lD P ops Q S fuel (listed.setIfInBounds i true) (a.put dst undef) w):lD P ops Q S (fuel+1) listed a w:=
 lD.of (wpAnyH_take (oi:=⟨dst,op,ty,pos,aft,g⟩) hi hs hf hr hQ (.inr ⟨hw,rfl⟩) hS h.out)
theorem ar {dst:Option Tmp} {op:Op} {ty:TypeId} {pos:String} {aft:Array Edge} {g:Option (Nat×Bool)} {fuel:Nat} {listed:Array Bool} {a:Act} {w:World} (i:Nat) (hi:ops[i]? =some ⟨dst,op,ty,pos,aft,g⟩) (hr:Region.ready .any ops listed=[i])
  (hw:Region.wanted ⟨dst,op,ty,pos,aft,g⟩ (yielded ops a.tmps)=true)
  (h: ∀K:Act->World->Prop,(∀a w,S w/\lD P ops Q S fuel (listed.setIfInBounds i true) a w->K a w)->wpList P #[] (Exit.then K Q) [⟨dst,op,ty,pos, #[],none⟩] a w):lD P ops Q S (fuel+1) listed a w:=by
 refine lD.of (wpAnyH_all hr (by simp) fun j hj=> ?_);have hji:j=i:=by simpa using hj
 subst hji;have hb:nP P ops (fun a' w'=>S w'/\wpAnyH P .any ops Q S fuel (listed.setIfInBounds j true) a' w') Q [⟨dst,op,ty,pos,aft,g⟩] a w:=
  bw hw (fun K hK=>h K (fun a w hh=>hK a w ⟨hh.1,hh.2.out⟩))
 unfold wpOp;simp only[hi];exact nP.out hb
theorem aV {listed:Array Bool} {a:Act} {w:World} {fuel:Nat} (hr:Region.ready .any ops listed=[]) (h:Q .normal a w):lD P ops Q S fuel listed a w:=lD.of (wpAnyH_done hr h fuel)
end
end Go.Proofs.YtpffpjbkbaleiaaGreatDoor
namespace Go.Proofs.YtpffpjbkbaleiaaGreatDoor
open Go.RowKit
theorem ah {w:World} {b k:Nat} {cs:Array Value} {t:TypeId} {z:Nat×Nat} (h:w.heap[b]? =some (.cells cs t z)):w.cell? ⟨b,k,none⟩=cs[k]? :=by simp[World.cell?,h]
theorem ai {w:World} {b k:Nat} {cs:Array Value} {t:TypeId} (h:w.heap[b]? =some (.cells cs t (0,0))):w.frozen? ⟨b,k,none⟩=false:=by simp[World.frozen?,h]
def au (b:UInt8):Value:= .int .u8 (b.toNat:Int)
structure aQ (w : World) (rb : Nat) (v : Value) (data : List UInt8) (off last : Nat) (err : Int) : Prop where
 box:w.heap[rb]? =some (.cells #[v, .int .i64 (off:Int), .int .i64 (last:Int), .int .i64 err] 165 (0,0))
 row:aS (· ≠rb) w 1 v data.length (data.map au)
 le:off<=data.length
 ls:last<=data.length
 small:data.length<=32768
theorem tM {w:World} {b:Nat} {a0 a1 a2 a3 x:Value} {t:TypeId} (h:w.heap[b]? =some (.cells #[a0,a1,a2,a3] t (0,0))):(w.setCell ⟨b,1,none⟩ x).heap[b]? =some (.cells #[a0,x,a2,a3] t (0,0)):=by
 simp only[World.setCell,Array.getElem?_modify,if_true,h,Option.map_some]; rfl
theorem tN {w:World} {b:Nat} {a0 a1 a2 a3 x:Value} {t:TypeId} (h:w.heap[b]? =some (.cells #[a0,a1,a2,a3] t (0,0))):(w.setCell ⟨b,2,none⟩ x).heap[b]? =some (.cells #[a0,a1,x,a3] t (0,0)):=by
 simp only[World.setCell,Array.getElem?_modify,if_true,h,Option.map_some]; rfl
theorem tO {w:World} {b:Nat} {a0 a1 a2 a3 x:Value} {t:TypeId} (h:w.heap[b]? =some (.cells #[a0,a1,a2,a3] t (0,0))):(w.setCell ⟨b,3,none⟩ x).heap[b]? =some (.cells #[a0,a1,a2,x] t (0,0)):=by
 simp only[World.setCell,Array.getElem?_modify,if_true,h,Option.map_some]; rfl
theorem aQ.c0 {w:World} {rb:Nat} {v:Value} {data:List UInt8} {off last:Nat} {err:Int} (h:aQ w rb v data off last err):w.cell? ⟨rb,0,none⟩=some v:=by rw[ah h.box]; rfl
theorem aQ.c1 {w:World} {rb:Nat} {v:Value} {data:List UInt8} {off last:Nat} {err:Int} (h:aQ w rb v data off last err):w.cell? ⟨rb,1,none⟩=some (.int .i64 (off:Int)):=by rw[ah h.box]; rfl
theorem aQ.c2 {w:World} {rb:Nat} {v:Value} {data:List UInt8} {off last:Nat} {err:Int} (h:aQ w rb v data off last err):w.cell? ⟨rb,2,none⟩=some (.int .i64 (last:Int)):=by rw[ah h.box]; rfl
theorem aQ.c3 {w:World} {rb:Nat} {v:Value} {data:List UInt8} {off last:Nat} {err:Int} (h:aQ w rb v data off last err):w.cell? ⟨rb,3,none⟩=some (.int .i64 err):=by rw[ah h.box]; rfl
theorem aQ.free {w:World} {rb:Nat} {v:Value} {data:List UInt8} {off last:Nat} {err:Int} (h:aQ w rb v data off last err) (k:Nat):w.frozen? ⟨rb,k,none⟩=false:=ai h.box
theorem aQ.set1 {w:World} {rb:Nat} {v:Value} {data:List UInt8} {off last:Nat} {err:Int} (h:aQ w rb v data off last err) (o:Nat) (ho:o<=data.length):aQ (w.setCell ⟨rb,1,none⟩ (.int .i64 (o:Int))) rb v data o last err:=
 ⟨tM h.box,h.row.same (fun _ hk=>Below.heap_setCell _ _ _ _ hk),ho,h.ls,h.small⟩
theorem aQ.set2 {w:World} {rb:Nat} {v:Value} {data:List UInt8} {off last:Nat} {err:Int} (h:aQ w rb v data off last err) (o:Nat) (ho:o<=data.length):aQ (w.setCell ⟨rb,2,none⟩ (.int .i64 (o:Int))) rb v data off o err:=
 ⟨tN h.box,h.row.same (fun _ hk=>Below.heap_setCell _ _ _ _ hk),h.le,ho,h.small⟩
theorem aQ.set3 {w:World} {rb:Nat} {v:Value} {data:List UInt8} {off last:Nat} {err:Int} (h:aQ w rb v data off last err) (e:Int):aQ (w.setCell ⟨rb,3,none⟩ (.int .i64 e)) rb v data off last e:=
 ⟨tO h.box,h.row.same (fun _ hk=>Below.heap_setCell _ _ _ _ hk),h.le,h.ls,h.small⟩
theorem aQ.lt {w:World} {rb:Nat} {v:Value} {data:List UInt8} {off last:Nat} {err:Int} (h:aQ w rb v data off last err):rb<w.heap.size:=lt_of_block h.box
theorem aQ.below {w w':World} {rb:Nat} {v:Value} {data:List UInt8} {off last:Nat} {err:Int} (h:aQ w rb v data off last err) (hb:Below w.heap.size w w'):aQ w' rb v data off last err:=
 ⟨by rw[hb.block _ h.lt]; exact h.box,h.row.below (by omega) hb,h.le,h.ls,h.small⟩
theorem aF (w:World) (b o:Nat) (x:Value):w.grownBy (w.setCell ⟨b,o,none⟩ x) (some b):=
 ⟨rfl,rfl,rfl,by simp[World.setCell],fun k hk hne=>Below.heap_setCell _ _ _ _ (fun e=>hne (by simpa using e))⟩
theorem ak {a b c:World} {r:Option Nat} (h:a.grownBy b r) (k:b.grownBy c r):a.grownBy c r:=
 ⟨k.os.trans h.os,k.tape.trans h.tape,k.output.trans h.output,Nat.le_trans h.size k.size,fun i hi hne=>(k.block i (Nat.lt_of_lt_of_le hi h.size) hne).trans (h.block i hi hne)⟩
theorem jn (w:World) (r:Option Nat):w.grownBy w r:=⟨rfl,rfl,rfl,Nat.le_refl _,fun _ _ _=>rfl⟩
theorem aQ.draws {w:World} {rb:Nat} {v:Value} {data:List UInt8} {off last:Nat} {err:Int} (h:aQ w rb v data off last err) (n:Nat):aQ (w.drewN n) rb v data off last err:=h.below (bp (Below.refl _ _) n)
theorem bL {a w:World} {r:Option Nat} (h:a.grownBy w r) (n:Nat):a.grownBy (w.drewN n) r:=ak h ⟨rfl,rfl,rfl,Nat.le_refl _,fun _ _ _=>rfl⟩
theorem aQ.shape {w:World} {rb:Nat} {v:Value} {data:List UInt8} {off last:Nat} {err:Int} (h:aQ w rb v data off last err): ∃a cap,v= .slice a data.length cap/\data.length<=cap/\cap<=maxLen/\
  ∀(k:Nat) b,data[k]? =some b-> ∃bk o,a=some ⟨bk,o,none⟩/\bk≠rb/\w.cell? ⟨bk,o+k,none⟩=some (au b):=by
 obtain⟨_,a,cap,hv,hn,hm,h0⟩:=h.row;refine⟨a,cap,hv,hn,hm,fun k b hk=> ?_⟩
 rcases h0 with h0 | ⟨bk,o,ha,hb,hc⟩
 ·simp[List.eq_nil_of_length_eq_zero h0]at hk
 ·exact⟨bk,o,ha,hb,hc k _ (by simp[hk])⟩
def qH (m:Nat) (b:UInt8) (k:Nat):Nat:=m ||| (b.toNat%128*2^(7*k)%18446744073709551616)
theorem tz {m:Nat} (b:UInt8) (k:Nat) (h:m<18446744073709551616):qH m b k<18446744073709551616:=by
 unfold qH;exact Nat.or_lt_two_pow (n:=64) h (Nat.mod_lt _ (by decide))
theorem Am (m:Nat) (b:UInt8) (k:Nat) (h:m<18446744073709551616):bits BinOp.or IntKind.u64 (m:Int) (IntKind.u64.wrap (IntKind.u64.wrap (bits BinOp.and IntKind.u8 (b.toNat:Int) 127)*2^(7*k)))=(qH m b k:Int):=by
 have hb:=b.toNat_lt;rw[show(127:Int)=((127:Nat):Int)from rfl,u8_and_nat _ _ hb (by omega),show(127:Nat)=2^7-1 from rfl,Nat.and_two_pow_sub_one_eq_mod,IntKind.wrap_u64,IntKind.wrap_u64,
  show((2:Int)^(7*k))=((2^(7*k):Nat):Int) by push_cast; rfl]
 have e:((((b.toNat%2^7:Nat):Int)%18446744073709551616)*((2^(7*k):Nat):Int))%18446744073709551616=((b.toNat%128*2^(7*k)%18446744073709551616:Nat):Int):=by
  rw[show(((b.toNat%2^7:Nat):Int)%18446744073709551616)=((b.toNat%128:Nat):Int) by omega]
  show _%((18446744073709551616:Nat):Int)=_
  rw[<-Int.natCast_mul,<-Int.natCast_emod]
 rw[e,bits_or_u64_nat _ _ h (Nat.mod_lt _ (by decide))]; rfl
def iD (b:UInt8) (k:Nat):Bool:=(decide (0<k) && decide (b.toNat=0)) || (decide (k=9) && decide (1<b.toNat))
def iE (data:List UInt8):Nat->Nat->Nat->Nat->Except Int (Nat×Nat)
 | 0,_,_,_=> .error 3
 | f+1,k,o,m=>match data[o]? with
  | none=> .error 3
  | some b=>if 128<=b.toNat then iE data f (k+1) (o+1) (qH m b k)else if iD b k then .error 3 else .ok (qH m b k,o+1)
def eu (data:List UInt8) (off:Nat):Except Int (Nat×Nat):=iE data 10 0 off 0
theorem Al {data:List UInt8} {f k o m:Nat} {b:UInt8} (h:data[o]? =some b) (h2:128<=b.toNat):iE data (f+1) k o m=iE data f (k+1) (o+1) (qH m b k):=by
 rw[iE,h]; simp only[if_pos h2]
theorem vF {data:List UInt8} {f k o m:Nat} {b:UInt8} (h:data[o]? =some b) (h2: ¬128<=b.toNat) (h3:iD b k=true):iE data (f+1) k o m= .error 3:=by
 rw[iE,h]; simp only[if_neg h2,if_pos h3]
theorem EQ {data:List UInt8} {f k o m:Nat} {b:UInt8} (h:data[o]? =some b) (h2: ¬128<=b.toNat) (h3:iD b k=false):iE data (f+1) k o m= .ok (qH m b k,o+1):=by
 rw[iE,h]; simp only[if_neg h2,h3]; rfl
theorem CR {data:List UInt8} {f k o m:Nat} (h:data.length<=o):iE data f k o m= .error 3:=by
 cases f with
 | zero=>rfl
 | succ f=>rw[iE,List.getElem?_eq_none h]
theorem rU (data:List UInt8): ∀(f k o m n o':Nat),m<18446744073709551616->iE data f k o m= .ok (n,o')->n<18446744073709551616/\o<o'/\o'<=data.length
 | 0,_,_,_,_,_,_,h=>by simp[iE]at h
 | f+1,k,o,m,n,o',hm,h=>by
  rw[iE]at h
  cases hd:data[o]? with
  | none=>rw[hd]at h; simp at h
  | some b=>
   have hl:=(List.getElem?_eq_some_iff.1 hd).1;rw[hd]at h;simp only at h
   split at h
   ·obtain⟨h1,h2,h3⟩:=rU data f (k+1) (o+1) _ n o' (tz b k hm) h;exact⟨h1,by omega,h3⟩
   ·split at h
    ·simp at h
    ·simp only[Except.ok.injEq,Prod.mk.injEq]at h;obtain⟨rfl,rfl⟩:=h;exact⟨tz b k hm,by omega,by omega⟩
theorem ew {data:List UInt8} {off n o':Nat} (h:eu data off= .ok (n,o')):n<18446744073709551616/\off<o'/\o'<=data.length:=rU data 10 0 off 0 n o' (by decide) h
theorem vG (data:List UInt8): ∀(f k o m:Nat) (x:Int),iE data f k o m= .error x->x=3
 | 0,_,_,_,_,h=>by simp only[iE,Except.error.injEq]at h; exact h.symm
 | f+1,k,o,m,x,h=>by
  rw[iE]at h
  split at h
  ·simp only[Except.error.injEq]at h; exact h.symm
  ·split at h
   ·exact vG data f _ _ _ x h
   ·split at h
    ·simp only[Except.error.injEq]at h; exact h.symm
    ·simp at h
theorem iY {data:List UInt8} {off:Nat} {x:Int} (h:eu data off= .error x):x=3:=vG data 10 0 off 0 x h
def Ea (kd:IntKind) (w:World) (rb:Nat) (v:Value) (data:List UInt8) (last:Nat) (err:Int) (r:Except Int (Nat×Nat)) (e:Ending) (w':World):Prop:=
 ∃o',aQ w' rb v data o' last err/\w.grownBy w' (some rb)/\match r with
  | .ok (n,o)=>e= .returned (.tuple #[.int kd (n:Int), .int .i64 0])/\o'=o
  | .error x=>e= .returned (.tuple #[.int kd 0, .int .i64 x])
theorem pL (rb:Nat) (v:Value) (data:List UInt8) (off last:Nat) (err:Int) (w:World) (hr:aQ w rb v data off last err):
  Calls Tryz.prog 112 #[.pointer (some ⟨rb,0,none⟩)] w (Ea .u64 w rb v data last err (eu data off)):=by
 obtain⟨a,cap,rfl,hc,hcm,-⟩:=hr.shape;unfold maxLen at hcm;have HR:=ab hr;clear hr
 go_enter Tryz.func112,Tryz.ntmps112
 go_wp2_with fail
 go_loopw [2,6] (fun n i wr=> ∃(k o m:Nat),k<=10/\i= .int .i64 k/\n= .int .u64 (m:Int)/\m<18446744073709551616/\aQ wr rb (.slice a data.length cap) data o last err/\w.grownBy wr (some rb)/\iE data 10 0 off 0=iE data (10-k) k o m) (fun _ i _=>10-(intOf i).toNat)
 case atStart=>exact⟨0,off,0,Nat.zero_le _,rfl,rfl,by decide,HR.out,jn _ _,rfl⟩
 case round=>
  obtain⟨k,o,m,hk,rfl,rfl,hm,hrd,hg,hn⟩:=hrel;have HRD:=ab hrd;have HG:=ab hg;have HN:=ab hn;have HM:=ab hm;have hle:=hrd.le;have hsm:=hrd.small;have c0:=hrd.c0;have c1:=hrd.c1;have f1:=hrd.free 1;clear hg hn hm
  by_cases hlt:k<10
  ·obtain⟨f,hf⟩: ∃f,10-k=f+1:=⟨9-k,by omega⟩
   by_cases hol:o<data.length
   ·obtain⟨b,hb⟩: ∃b,data[o]? =some b:=⟨data[o],by simp[hol]⟩;have hb8:=b.toNat_lt;obtain⟨a2,cap2,hv2,_,_,hcell⟩:=hrd.shape
    cases hv2
    obtain⟨bk,ok,rfl,hbk,hcl⟩:=hcell o b hb;have HBB:=ab hb;clear hrd hcell hb;rw[hf]at HN;have hbits:=Am m b k HM.out
    by_cases h128:128<=b.toNat
    ·go_wp2_with fail
     go_quiet (fail)
     go_wp2_with fail;clear c0 c1 f1;obtain⟨W,hWe⟩: ∃W,W=wr.drewN nq:=⟨_,rfl⟩;have hWr:=HRD.out.draws nq;have hWg:=bL HG.out nq
     try rw[<-hWe]
     rw[<-hWe]at hWr hWg;clear HRD HG hWe;have HRD:=ab hWr;have HG:=ab hWg;have c0:=hWr.c0;have c1:=hWr.c1;have f1:=hWr.free 1;clear hWr hWg;have hcl2:W.cell? ⟨bk,ok+o,none⟩=some (.int .u8 (b.toNat:Int)):=by
      obtain⟨a2,cap2,hv2,_,_,hcell⟩:=HRD.out.shape
      cases hv2
      obtain⟨bk,ok,e,hbk,hcl⟩:=hcell o b HBB.out
      cases e
      exact hcl
     clear hcl
     go_quiet (fail)
     go_wp2_with fail;have h1:=(HRD.out.draws nq).set1 (o+1) (by omega);refine⟨⟨k+1,o+1,qH m b k,by omega,by go_num,rfl,tz b k HM.out,h1,ak (bL HG.out nq) (aF _ _ _ _), ?_⟩,by simp[intOf]; omega⟩;rw[HN.out,Al HBB.out h128]
     congr 1; omega
    ·cases hbad:iD b k
     ·have HBD:=ab hbad;simp only[iD,Bool.or_eq_false_iff,Bool.and_eq_false_iff,decide_eq_false_iff_not]at hbad;obtain⟨hb1,hb2⟩:=hbad;have HD:=ab (show k=0\/(k=9/\b.toNat<=1/\b.toNat≠0)\/(0<k/\k<9/\b.toNat≠0) by omega);clear hb1 hb2;go_wp2_with fail
      go_quiet (fail)
      go_wp2_with fail;clear c0 c1 f1;obtain⟨W,hWe⟩: ∃W,W=wr.drewN nq:=⟨_,rfl⟩;have hWr:=HRD.out.draws nq;have hWg:=bL HG.out nq
      try rw[<-hWe]
      rw[<-hWe]at hWr hWg;clear HRD HG hWe;have HRD:=ab hWr;have HG:=ab hWg;have c0:=hWr.c0;have c1:=hWr.c1;have f1:=hWr.free 1;clear hWr hWg;have hcl2:W.cell? ⟨bk,ok+o,none⟩=some (.int .u8 (b.toNat:Int)):=by
       obtain⟨a2,cap2,hv2,_,_,hcell⟩:=HRD.out.shape
       cases hv2
       obtain⟨bk,ok,e,hbk,hcl⟩:=hcell o b HBB.out
       cases e
       exact hcl
      clear hcl
      go_quiet (fail)
      go_wp2_with fail
      all_goals first
       | (exfalso; have hd:=HD.out; omega)
       | (exfalso; have hd:=HD.out; rename_i hor; rcases hor with hor | hor<;> first | omega | (rw[beq_iff_eq]at hor; omega))
       | (
        go_ret2
        have h1:=(HRD.out.draws nq).set1 (o+1) (by omega);refine⟨o+1,h1,ak (bL HG.out nq) (aF _ _ _ _), ?_⟩;rw[eu,HN.out];rw[EQ HBB.out h128 HBD.out];exact⟨rfl,rfl⟩)
     ·have HBD:=ab hbad;simp only[iD,Bool.or_eq_true,Bool.and_eq_true,decide_eq_true_eq]at hbad
      rcases hbad with⟨h0,hz⟩ | ⟨rfl,h1⟩
      ·go_wp2_with fail
       go_quiet (fail)
       go_wp2_with fail;clear c0 c1 f1;obtain⟨W,hWe⟩: ∃W,W=wr.drewN nq:=⟨_,rfl⟩;have hWr:=HRD.out.draws nq;have hWg:=bL HG.out nq
       try rw[<-hWe]
       rw[<-hWe]at hWr hWg;clear HRD HG hWe;have HRD:=ab hWr;have HG:=ab hWg;have c0:=hWr.c0;have c1:=hWr.c1;have f1:=hWr.free 1;clear hWr hWg;have hcl2:W.cell? ⟨bk,ok+o,none⟩=some (.int .u8 (b.toNat:Int)):=by
        obtain⟨a2,cap2,hv2,_,_,hcell⟩:=HRD.out.shape
        cases hv2
        obtain⟨bk,ok,e,hbk,hcl⟩:=hcell o b HBB.out
        cases e
        exact hcl
       clear hcl
       go_quiet (fail)
       go_wp2_with fail
       all_goals (
        go_ret2
        have h1:=(HRD.out.draws nq).set1 (o+1) (by omega);refine⟨o+1,h1,ak (bL HG.out nq) (aF _ _ _ _), ?_⟩;rw[eu,HN.out];rw[vF HBB.out h128 HBD.out]
        try rfl)
      ·go_wp2_with fail
       go_quiet (fail)
       go_wp2_with fail;clear c0 c1 f1;obtain⟨W,hWe⟩: ∃W,W=wr.drewN nq:=⟨_,rfl⟩;have hWr:=HRD.out.draws nq;have hWg:=bL HG.out nq
       try rw[<-hWe]
       rw[<-hWe]at hWr hWg;clear HRD HG hWe;have HRD:=ab hWr;have HG:=ab hWg;have c0:=hWr.c0;have c1:=hWr.c1;have f1:=hWr.free 1;clear hWr hWg;have hcl2:W.cell? ⟨bk,ok+o,none⟩=some (.int .u8 (b.toNat:Int)):=by
        obtain⟨a2,cap2,hv2,_,_,hcell⟩:=HRD.out.shape
        cases hv2
        obtain⟨bk,ok,e,hbk,hcl⟩:=hcell o b HBB.out
        cases e
        exact hcl
       clear hcl
       go_quiet (fail)
       go_wp2_with fail
       all_goals (
        go_ret2
        have h1:=(HRD.out.draws nq).set1 (o+1) (by omega);refine⟨o+1,h1,ak (bL HG.out nq) (aF _ _ _ _), ?_⟩;rw[eu,HN.out];rw[vF HBB.out h128 HBD.out]
        try rfl)
   ·obtain rfl:o=data.length:=by omega
    go_wp2_with fail
    go_quiet (fail)
    go_wp2_with fail
    go_ret2
    exact⟨data.length,HRD.out.draws nq,bL HG.out nq,by rw[eu,HN.out,CR (Nat.le_refl _)]; rfl⟩
  ·obtain rfl:k=10:=by omega
   go_wp2_with fail
   go_ret2
   exact⟨o,HRD.out,HG.out,by rw[eu,HN.out]; rfl⟩
def dQ (data:List UInt8) (off most:Nat):Except Int (Nat×Nat):=match eu data off with
 | .error x=> .error x
 | .ok (n,o)=>if most<n then .error 2 else .ok (n,o)
theorem eX {data:List UInt8} {off most n o':Nat} (h:dQ data off most= .ok (n,o')):n<=most/\off<o'/\o'<=data.length:=by
 unfold dQ at h
 cases hn:eu data off with
 | error x=>rw[hn]at h; simp at h
 | ok p=>
  obtain⟨m,o⟩:=p;rw[hn]at h;simp only at h
  split at h
  ·simp at h
  ·simp only[Except.ok.injEq,Prod.mk.injEq]at h;obtain⟨rfl,rfl⟩:=h;have:=ew hn;omega
theorem vq {data:List UInt8} {off most:Nat} {x:Int} (h:dQ data off most= .error x):x=3\/x=2:=by
 unfold dQ at h
 split at h
 ·rename_i y hy;simp only[Except.error.injEq]at h;exact .inl (h▸iY hy)
 ·split at h
  ·simp only[Except.error.injEq]at h; exact .inr h.symm
  ·simp at h
theorem ns (rb:Nat) (v:Value) (data:List UInt8) (off last most:Nat) (err:Int) (w:World) (hr:aQ w rb v data off last err) (hm:most<=1000000):
  Calls Tryz.prog 107 #[.pointer (some ⟨rb,0,none⟩), .int .i64 (most:Int)] w (Ea .i64 w rb v data last err (dQ data off most)):=by
 have HR:=ab hr;clear hr
 go_enter Tryz.func107,Tryz.ntmps107
 go_wp2_with fail;refine(pL rb v data off last err w HR.out).mono ?_;rintro e w1 ⟨o',hr1,hg1,hres⟩;have HR1:=ab hr1;have HG1:=ab hg1;clear hr1 hg1
 cases hn:eu data off with
 | error x=>
  have hx:x=3:=iY hn;subst hx;have HL:=ab (show dQ data off most= .error 3 by unfold dQ; rw[hn]);rw[hn]at hres;simp only at hres;subst hres;clear hn;go_wp2_with fail
  go_ret2
  exact⟨o',HR1.out,HG1.out,by rw[HL.out]; rfl⟩
 | ok p=>
  obtain⟨n,o⟩:=p;have hsp:=ew hn;have HN:=ab hn;rw[hn]at hres;simp only at hres;obtain⟨rfl,rfl⟩:=hres;clear hn;have hmax:max (most:Int) 0=(most:Int):=by omega
  by_cases hlt:most<n
  ·have HL:=ab (show dQ data off most= .error 2 by unfold dQ; rw[HN.out]; simp only[if_pos hlt]);go_wp2_with fail
   go_ret2
   exact⟨o',HR1.out,HG1.out,by rw[HL.out]; rfl⟩
  ·have HL:=ab (show dQ data off most= .ok (n,o') by unfold dQ; rw[HN.out]; simp only[if_neg hlt]);go_wp2_with fail
   go_ret2
   exact⟨o',HR1.out,HG1.out,by rw[HL.out]; exact⟨rfl,rfl⟩⟩
def cK (data:List UInt8) (off n:Nat):Except Int (List UInt8×Nat):=if data.length-off<n then .error 3 else .ok ((data.drop off).take n,off+n)
def cu (data:List UInt8) (off most:Nat):Except Int (List UInt8×Nat):=match dQ data off most with
 | .error x=> .error x
 | .ok (n,o)=>cK data o n
def yk (w:World) (rb:Nat) (v:Value) (bs:List UInt8):Prop:= ∃bk o c,v= .slice (some ⟨bk,o,none⟩) bs.length c/\bs.length<=c/\bk≠rb/\ ∀(j:Nat) b,bs[j]? =some b->w.cell? ⟨bk,o+j,none⟩=some (au b)
def Gl (w:World) (rb:Nat) (v:Value) (data:List UInt8) (last:Nat) (err:Int) (r:Except Int (List UInt8×Nat)) (e:Ending) (w':World):Prop:=
 ∃o',aQ w' rb v data o' last err/\w.grownBy w' (some rb)/\match r with
  | .ok (bs,o)=>(∃pv,e= .returned (.tuple #[pv, .int .i64 0])/\yk w' rb pv bs)/\o'=o
  | .error x=>e= .returned (.tuple #[.slice none 0 0, .int .i64 x])
theorem DD {data:List UInt8} {off n j:Nat} {b:UInt8} (h:((data.drop off).take n)[j]? =some b):data[off+j]? =some b:=by
 rw[List.getElem?_take]at h
 split at h
 ·rw[List.getElem?_drop]at h; exact h
 ·simp at h
theorem wA (rb:Nat) (v:Value) (data:List UInt8) (off last n:Nat) (err:Int) (w:World) (hr:aQ w rb v data off last err) (hn:n<=1000000) (hpos:0<data.length\/0<n):
  Calls Tryz.prog 141 #[.pointer (some ⟨rb,0,none⟩), .int .i64 (n:Int)] w (Gl w rb v data last err (cK data off n)):=by
 have HRD:=ab hr;have HG:=ab (jn w (some rb));obtain⟨a,cap,rfl,hc,hcm,hcell⟩:=hr.shape;unfold maxLen at hcm;have c0:=hr.c0;have c1:=hr.c1;have f1:=hr.free 1;have hle:=hr.le;have hsm:=hr.small
 by_cases hlt:data.length-off<n
 ·have HT:=ab (show cK data off n= .error 3 by unfold cK; rw[if_pos hlt]);clear hr hcell
  go_enter Tryz.func141,Tryz.ntmps141
  go_wp2_with fail
  go_quiet (fail)
  go_wp2_with fail
  go_ret2
  exact⟨off,HRD.out.draws nq,bL HG.out nq,by rw[HT.out]; rfl⟩
 ·have hdl:0<data.length:=by omega
  obtain⟨bk,ok,rfl,hbk,-⟩:=hcell 0 data[0] (by simp);have HT:=ab (show cK data off n= .ok ((data.drop off).take n,off+n) by unfold cK; rw[if_neg hlt]);have hlen:((data.drop off).take n).length=n:=by simp; omega
  have HLN:=ab hlen;clear hr hcell hlen
  by_cases hoc:off<cap
  ·go_enter Tryz.func141,Tryz.ntmps141
   go_wp2_with fail
   go_quiet (fail)
   go_wp2_with fail;clear c0 c1 f1;obtain⟨W,hWe⟩: ∃W,W=w.drewN nq:=⟨_,rfl⟩;have hWr:=HRD.out.draws nq;have hWg:=bL HG.out nq
   try rw[<-hWe]
   rw[<-hWe]at hWr hWg;clear HRD HG hWe;have HRD:=ab hWr;have HG:=ab hWg;have c0:=hWr.c0;have c1:=hWr.c1;have f1:=hWr.free 1;clear hWr hWg
   go_quiet (fail)
   go_wp2_with fail
   go_ret2
   have h1:=(HRD.out.draws nq).set1 (off+n) (by omega);rw[Int.natCast_add]at h1;refine⟨off+n,h1,ak (bL HG.out nq) (aF _ _ _ _), ?_⟩;rw[HT.out];refine⟨⟨_,rfl,bk,ok+off,cap-off, ?_, ?_,hbk,fun j b hj=> ?_⟩,rfl⟩
   ·rw[HLN.out]; show Value.slice _ (off+n-off) _=_; rw[Nat.add_sub_cancel_left]
   ·rw[HLN.out]; omega
   ·obtain⟨a2,cap2,hv2,_,_,hcell⟩:=h1.shape
    cases hv2
    obtain⟨bk2,ok2,e,hbk2,hcl⟩:=hcell (off+j) b (DD hj)
    cases e
    rw[Nat.add_assoc]; exact hcl
  ·obtain rfl:off=cap:=by omega
   obtain rfl:n=0:=by omega
   go_enter Tryz.func141,Tryz.ntmps141
   go_wp2_with fail
   go_quiet (fail)
   go_wp2_with fail;clear c0 c1 f1;obtain⟨W,hWe⟩: ∃W,W=w.drewN nq:=⟨_,rfl⟩;have hWr:=HRD.out.draws nq;have hWg:=bL HG.out nq
   try rw[<-hWe]
   rw[<-hWe]at hWr hWg;clear HRD HG hWe;have HRD:=ab hWr;have HG:=ab hWg;have c0:=hWr.c0;have c1:=hWr.c1;have f1:=hWr.free 1;clear hWr hWg
   go_quiet (fail)
   go_wp2_with fail
   go_ret2
   have h1:=(HRD.out.draws nq).set1 off (by omega);refine⟨off,h1,ak (bL HG.out nq) (aF _ _ _ _), ?_⟩;rw[HT.out];exact⟨⟨_,rfl,bk,ok,0,by rw[HLN.out]; rfl,by rw[HLN.out]; exact Nat.le_refl _,hbk,fun j b hj=>by simp at hj⟩,rfl⟩
theorem zA (rb:Nat) (v:Value) (data:List UInt8) (off last most:Nat) (err:Int) (w:World) (hr:aQ w rb v data off last err) (hm:most<=1000000):
  Calls Tryz.prog 110 #[.pointer (some ⟨rb,0,none⟩), .int .i64 (most:Int)] w (Gl w rb v data last err (cu data off most)):=by
 have HR:=ab hr;clear hr
 go_enter Tryz.func110,Tryz.ntmps110
 go_wp2_with fail;refine(ns rb v data off last most err w HR.out hm).mono ?_;rintro e w1 ⟨o',hr1,hg1,hres⟩;have HR1:=ab hr1;have HG1:=ab hg1;clear hr1 hg1
 cases hn:dQ data off most with
 | error x=>
  have hx:x=3\/x=2:=vq hn;have HL:=ab (show cu data off most= .error x by unfold cu; rw[hn]);rw[hn]at hres;simp only at hres;subst hres;clear hn
  rcases hx with rfl | rfl
  ·go_wp2_with fail
   go_ret2
   exact⟨o',HR1.out,HG1.out,by rw[HL.out]; rfl⟩
  ·go_wp2_with fail
   go_ret2
   exact⟨o',HR1.out,HG1.out,by rw[HL.out]; rfl⟩
 | ok p=>
  obtain⟨n,o⟩:=p;have hsp:=eX hn;have HL:=ab (show cu data off most=cK data o n by unfold cu; rw[hn]);rw[hn]at hres;simp only at hres;obtain⟨rfl,rfl⟩:=hres;clear hn;go_wp2_with fail;refine(wA rb v data o' last n err w1 HR1.out (by omega) (.inl (by omega))).mono ?_;rintro e w2 ⟨o2,hr2,hg2,hres⟩;have HR2:=ab hr2;have HG2:=ab (ak HG1.out hg2)
  clear hr2 hg2
  cases ht:cK data o' n with
  | error x=>
   have HT:=ab ht;rw[ht]at hres;simp only at hres;subst hres;clear ht;go_wp2_with fail
   go_ret2
   exact⟨o2,HR2.out,HG2.out,by rw[HL.out,HT.out]; rfl⟩
  | ok p=>
   obtain⟨bs,o3⟩:=p;have HT:=ab ht;rw[ht]at hres;simp only at hres;obtain⟨⟨pv,rfl,hpv⟩,rfl⟩:=hres;have HP:=ab hpv;obtain⟨pb,po,pc,rfl,-,-,-⟩:=hpv;clear ht;go_wp2_with fail
   go_ret2
   exact⟨o2,HR2.out,HG2.out,by rw[HL.out,HT.out]; exact⟨⟨_,rfl,HP.out⟩,rfl⟩⟩
structure RS where
 off:Nat
 last:Nat
 err:Int
deriving DecidableEq
def lE (w:World) (rb:Nat) (v:Value) (data:List UInt8) (s:RS):Prop:=aQ w rb v data s.off s.last s.err
def rv {α:Type} (z:α) (r:Except Int (α×Nat)) (s:RS):α×RS:=if s.err=0 then match r with
 | .ok (x,o)=>(x,⟨o,s.off,0⟩)
 | .error y=>(z,⟨s.off,s.off,y⟩)else(z,s)
def Eb {α:Type} (zero:Value) (val:α->Value) (w:World) (rb:Nat) (v:Value) (data:List UInt8) (last:Nat) (err:Int) (r:Except Int (α×Nat)) (e:Ending) (w':World):Prop:=
 ∃o',aQ w' rb v data o' last err/\w.grownBy w' (some rb)/\match r with
  | .ok (x,o)=>e= .returned (.tuple #[val x, .int .i64 0])/\o'=o
  | .error y=>e= .returned (.tuple #[zero, .int .i64 y])
theorem Ea.v {kd:IntKind} {w:World} {rb:Nat} {v:Value} {data:List UInt8} {last:Nat} {err:Int} {r:Except Int (Nat×Nat)} {e:Ending} {w':World} (h:Ea kd w rb v data last err r e w'):
  Eb (.int kd 0) (fun n:Nat=> .int kd (n:Int)) w rb v data last err r e w':=by
 obtain⟨o',h1,h2,h3⟩:=h;refine⟨o',h1,h2, ?_⟩
 cases r with
 | error x=>exact h3
 | ok p=>exact h3
def mV {α:Type} (z:α) (val:α->Value) (w:World) (rb:Nat) (v:Value) (data:List UInt8) (r:Except Int (α×Nat)) (s:RS) (e:Ending) (w':World):Prop:=
 e= .returned (val (rv z r s).1)/\lE w' rb v data (rv z r s).2/\w.grownBy w' (some rb)
structure bB (w W : World) (rb : Nat) (x : Value) (t : TypeId) (start : Nat) : Prop where
 bx:W.heap[w.heap.size]? =some (.cells #[.pointer (some ⟨rb,0,none⟩)] 101 (0,0))
 bv:W.heap[w.heap.size+1]? =some (.cells #[x] t (0,0))
 bs:W.heap[w.heap.size+2]? =some (.cells #[.int .i64 (start:Int)] 3 (0,0))
 grown:w.grownBy W (some rb)
 lt:rb<w.heap.size
theorem bB.step {w W W':World} {rb:Nat} {x:Value} {t:TypeId} {start:Nat} (h:bB w W rb x t start) (hg:W.grownBy W' (some rb)):bB w W' rb x t start:=by
 have h1:=h.lt;refine⟨?_, ?_, ?_,ak h.grown hg,h.lt⟩
 ·rw[hg.block _ (lt_of_block h.bx) (by simp; omega)]; exact h.bx
 ·rw[hg.block _ (lt_of_block h.bv) (by simp; omega)]; exact h.bv
 ·rw[hg.block _ (lt_of_block h.bs) (by simp; omega)]; exact h.bs
theorem bB.setv {w W:World} {rb:Nat} {x:Value} {t:TypeId} {start:Nat} (h:bB w W rb x t start) (y:Value):bB w (W.setCell ⟨w.heap.size+1,0,none⟩ y) rb y t start:=by
 refine⟨?_,one_setCell h.bv, ?_, ?_,h.lt⟩
 ·rw[Below.heap_setCell _ _ _ _ (by simp)]; exact h.bx
 ·rw[Below.heap_setCell _ _ _ _ (by simp)]; exact h.bs
 ·exact⟨h.grown.os,h.grown.tape,h.grown.output,by have:=h.grown.size; simpa [World.setCell]using this,fun k hk hne=>by rw[Below.heap_setCell _ _ _ _ (by simp; omega)]; exact h.grown.block k hk hne⟩
theorem aQ.setOther {w0 w:World} {rb:Nat} {v:Value} {data:List UInt8} {off last off0 last0:Nat} {err err0:Int} (h0:aQ w0 rb v data off0 last0 err0) (h:aQ w rb v data off last err) {b k:Nat} (hb:w0.heap.size<=b) (y:Value):
  aQ (w.setCell ⟨b,k,none⟩ y) rb v data off last err:=by
 have h1:=h0.lt;have hr0:=h0.row.mono (T:=fun k=>k≠rb/\k<w0.heap.size) (fun k hk hS=>⟨hS,hk⟩) (by omega);obtain⟨_,a0,cap0,hv0,_,_,h00⟩:=hr0;obtain⟨hl,a,cap,hv,hn,hm,h2⟩:=h.row;refine⟨by rw[Below.heap_setCell _ _ _ _ (by simp; omega)]; exact h.box,⟨hl,a,cap,hv,hn,hm, ?_⟩,h.le,h.ls,h.small⟩
 rcases h2 with h2 | ⟨bk,o,rfl,hk,hc⟩
 ·exact .inl h2
 ·rcases h00 with h00 | ⟨bk0,o0,rfl,hk0,_⟩
  ·exact .inl h00
  ·rw[hv0]at hv
   cases hv
   refine .inr ⟨bk,o,rfl,hk,fun j u hj=> ?_⟩;rw[<-hc j u hj];exact World.cell?_of_block (Below.heap_setCell _ _ _ _ (by have:=hk0.2; show bk≠b; omega))
theorem wR (xb mb rb:Nat) (v:Value) (data:List UInt8) (off last most:Nat) (err:Int) (w:World) (hr:aQ w rb v data off last err) (hm:most<=1000000)
  (hx:w.cell? ⟨xb,0,none⟩=some (.pointer (some ⟨rb,0,none⟩))) (hmb:w.cell? ⟨mb,0,none⟩=some (.int .i64 (most:Int))):
  Calls Tryz.prog 106 #[.pointer (some ⟨xb,0,none⟩), .pointer (some ⟨mb,0,none⟩)] w (Eb (.int .i64 0) (fun n:Nat=> .int .i64 (n:Int)) w rb v data last err (dQ data off most)):=by
 have HR:=ab hr;clear hr
 go_enter Tryz.func106,Tryz.ntmps106
 go_wp2_with fail;refine(ns rb v data off last most err w HR.out hm).mono ?_;intro e w1 hd;obtain⟨o',h1,h2,h3⟩:=hd.v;have H1:=ab h1;have H2:=ab h2;clear hd h1 h2
 cases hl:dQ data off most with
 | error y=>
  rw[hl]at h3; simp only at h3; subst h3;have HL:=ab hl;clear hl;go_wp2_with fail
  go_ret2
  exact⟨o',H1.out,H2.out,by rw[HL.out]; rfl⟩
 | ok p=>
  obtain⟨n,o⟩:=p;rw[hl]at h3; simp only at h3; obtain⟨rfl,rfl⟩:=h3;have HL:=ab hl;clear hl;go_wp2_with fail
  go_ret2
  exact⟨o',H1.out,H2.out,by rw[HL.out]; exact⟨rfl,rfl⟩⟩
theorem aY {w w':World} (h:Below w.heap.size w w') (r:Option Nat):w.grownBy w' r:=⟨h.os,h.tape,h.output,h.size,fun k hk _=>h.block k hk⟩
def NoP (Q:Exit->Act->World->Prop) (e:Exit) (a:Act) (w:World):Prop:=match e with
 | .panic _=>False
 | e=>Q e a w
theorem kA {P:Program} {Q:Exit->Act->World->Prop} {c:Code} {a:Act} {w:World} (h:c.wp P (NoP Q) a w):c.wp P Q a w:=wp_mono h (fun e a w hn=>by
 cases e<;> first | exact hn | exact False.elim hn)
theorem el {Q:Exit->Act->World->Prop} {a:Act} {w:World} (h:Q .normal a w):NoP Q .normal a w:=h
theorem bB.start {w:World} {rb:Nat} (h:rb<w.heap.size) (x:Value) (t:TypeId) (o:Nat):bB w (((w.alloc (.cells #[.pointer (some ⟨rb,0,none⟩)] 101)).alloc (.cells #[x] t)).alloc (.cells #[.int .i64 (o:Int)] 3)) rb x t o:=by
 refine⟨?_, ?_, ?_, ?_,h⟩
 ·rw[Below.heap_alloc _ _ _ (by simp; omega),Below.heap_alloc _ _ _ (by simp)]; exact heap_alloc_new w _
 ·rw[Below.heap_alloc _ _ _ (by simp)];have:=heap_alloc_new (w.alloc (.cells #[.pointer (some ⟨rb,0,none⟩)] 101)) (.cells #[x] t)
  simpa using this
 ·have:=heap_alloc_new ((w.alloc (.cells #[.pointer (some ⟨rb,0,none⟩)] 101)).alloc (.cells #[x] t)) (.cells #[.int .i64 (o:Int)] 3)
  simpa using this
 ·exact aY ((((Below.refl _ _).alloc (Nat.le_refl _) _).alloc (by simp) _).alloc (by simp; omega) _) _
theorem bB.below0 {w:World} (a b c:Obj):Below w.heap.size w (((w.alloc a).alloc b).alloc c):=(((Below.refl _ _).alloc (Nat.le_refl _) _).alloc (by simp) _).alloc (by simp; omega) _
theorem ij {data:List UInt8} {off most:Nat} {x:Int} (h:dQ data off most= .error x): ¬x=0:=by rcases vq h with rfl | rfl<;> decide
theorem lV {data:List UInt8} {off:Nat} {x:Int} (h:eu data off= .error x): ¬x=0:=by rw[iY h]; decide
theorem Dp (sb xb vb rb:Nat) (v:Value) (data:List UInt8) (off last start:Nat) (u:FrameMode) (w:World) (hr:aQ w rb v data off last 0)
  (hs:w.cell? ⟨sb,0,none⟩=some (.int .i64 (start:Int))) (hx:w.cell? ⟨xb,0,none⟩=some (.pointer (some ⟨rb,0,none⟩))) (_:sb≠rb) (_:xb≠rb):
  CallsD Tryz.prog 139 #[.pointer (some ⟨sb,0,none⟩), .pointer (some ⟨xb,0,none⟩), .pointer (some ⟨vb,0,none⟩)] u w fun e u' w'=>u'=u/\(e= .returned (.tuple #[])/\w'=w.setCell ⟨rb,2,none⟩ (.int .i64 (start:Int))):=by
 have c3:=hr.c3;have c2:=hr.c2;have f2:=hr.free 2;clear hr
 go_enter_d Tryz.func139,Tryz.ntmps139
 go_wp2_with fail
 first | go_end0 | refine bodyPost_ret (results_none rfl _ _ _) rfl ?_
 exact⟨rfl,rfl⟩
theorem AW (sb xb vb rb:Nat) (v:Value) (data:List UInt8) (off last start:Nat) (err:Int) (x:Value) (t:TypeId) (u:FrameMode) (w:World) (hr:aQ w rb v data off last err) (he: ¬err=0)
  (hs:w.cell? ⟨sb,0,none⟩=some (.int .i64 (start:Int))) (hx:w.cell? ⟨xb,0,none⟩=some (.pointer (some ⟨rb,0,none⟩))) (hv:w.heap[vb]? =some (.cells #[x] t (0,0))) (hsr:sb≠rb) (hxr:xb≠rb) (hvr:vb≠rb) (hvs:vb≠sb) (hvx:vb≠xb):
  CallsD Tryz.prog 139 #[.pointer (some ⟨sb,0,none⟩), .pointer (some ⟨xb,0,none⟩), .pointer (some ⟨vb,0,none⟩)] u w fun e u' w'=>u'=u/\(e= .returned (.tuple #[])/\w'=((w.setCell ⟨rb,2,none⟩ (.int .i64 (start:Int))).setCell ⟨rb,1,none⟩ (.int .i64 (start:Int))).setCell ⟨vb,0,none⟩ (.int .i64 0)):=by
 have c3:=hr.c3;have c2:=hr.c2;have c1:=hr.c1;have f2:=hr.free 2;have f1:=hr.free 1;have v0:=cell_of_one hv;have fv:=free_of_one hv;clear hr
 go_enter_d Tryz.func139,Tryz.ntmps139
 go_wp2_with fail
 first | go_end0 | refine bodyPost_ret (results_none rfl _ _ _) rfl ?_
 exact⟨rfl,rfl⟩
theorem vX (sb xb vb rb:Nat) (v:Value) (data:List UInt8) (off last start:Nat) (u:FrameMode) (w:World) (hr:aQ w rb v data off last 0)
  (hs:w.cell? ⟨sb,0,none⟩=some (.int .i64 (start:Int))) (hx:w.cell? ⟨xb,0,none⟩=some (.pointer (some ⟨rb,0,none⟩))) (_:sb≠rb) (_:xb≠rb):
  CallsD Tryz.prog 140 #[.pointer (some ⟨sb,0,none⟩), .pointer (some ⟨xb,0,none⟩), .pointer (some ⟨vb,0,none⟩)] u w fun e u' w'=>u'=u/\(e= .returned (.tuple #[])/\w'=w.setCell ⟨rb,2,none⟩ (.int .i64 (start:Int))):=by
 have c3:=hr.c3;have c2:=hr.c2;have f2:=hr.free 2;clear hr
 go_enter_d Tryz.func140,Tryz.ntmps140
 go_wp2_with fail
 first | go_end0 | refine bodyPost_ret (results_none rfl _ _ _) rfl ?_
 exact⟨rfl,rfl⟩
theorem sq (sb xb vb rb:Nat) (v:Value) (data:List UInt8) (off last start:Nat) (err:Int) (x:Value) (t:TypeId) (u:FrameMode) (w:World) (hr:aQ w rb v data off last err) (he: ¬err=0)
  (hs:w.cell? ⟨sb,0,none⟩=some (.int .i64 (start:Int))) (hx:w.cell? ⟨xb,0,none⟩=some (.pointer (some ⟨rb,0,none⟩))) (hv:w.heap[vb]? =some (.cells #[x] t (0,0))) (hsr:sb≠rb) (hxr:xb≠rb) (hvr:vb≠rb) (hvs:vb≠sb) (hvx:vb≠xb):
  CallsD Tryz.prog 140 #[.pointer (some ⟨sb,0,none⟩), .pointer (some ⟨xb,0,none⟩), .pointer (some ⟨vb,0,none⟩)] u w fun e u' w'=>u'=u/\(e= .returned (.tuple #[])/\w'=((w.setCell ⟨rb,2,none⟩ (.int .i64 (start:Int))).setCell ⟨rb,1,none⟩ (.int .i64 (start:Int))).setCell ⟨vb,0,none⟩ (.string ⟨#[]⟩)):=by
 have c3:=hr.c3;have c2:=hr.c2;have c1:=hr.c1;have f2:=hr.free 2;have f1:=hr.free 1;have v0:=cell_of_one hv;have fv:=free_of_one hv;clear hr
 go_enter_d Tryz.func140,Tryz.ntmps140
 go_wp2_with fail
 first | go_end0 | refine bodyPost_ret (results_none rfl _ _ _) rfl ?_
 exact⟨rfl,rfl⟩
theorem Dq (sb xb vb rb:Nat) (v:Value) (data:List UInt8) (off last start:Nat) (u:FrameMode) (w:World) (hr:aQ w rb v data off last 0)
  (hs:w.cell? ⟨sb,0,none⟩=some (.int .i64 (start:Int))) (hx:w.cell? ⟨xb,0,none⟩=some (.pointer (some ⟨rb,0,none⟩))) (_:sb≠rb) (_:xb≠rb):
  CallsD Tryz.prog 142 #[.pointer (some ⟨sb,0,none⟩), .pointer (some ⟨xb,0,none⟩), .pointer (some ⟨vb,0,none⟩)] u w fun e u' w'=>u'=u/\(e= .returned (.tuple #[])/\w'=w.setCell ⟨rb,2,none⟩ (.int .i64 (start:Int))):=by
 have c3:=hr.c3;have c2:=hr.c2;have f2:=hr.free 2;clear hr
 go_enter_d Tryz.func142,Tryz.ntmps142
 go_wp2_with fail
 first | go_end0 | refine bodyPost_ret (results_none rfl _ _ _) rfl ?_
 exact⟨rfl,rfl⟩
theorem AX (sb xb vb rb:Nat) (v:Value) (data:List UInt8) (off last start:Nat) (err:Int) (x:Value) (t:TypeId) (u:FrameMode) (w:World) (hr:aQ w rb v data off last err) (he: ¬err=0)
  (hs:w.cell? ⟨sb,0,none⟩=some (.int .i64 (start:Int))) (hx:w.cell? ⟨xb,0,none⟩=some (.pointer (some ⟨rb,0,none⟩))) (hv:w.heap[vb]? =some (.cells #[x] t (0,0))) (hsr:sb≠rb) (hxr:xb≠rb) (hvr:vb≠rb) (hvs:vb≠sb) (hvx:vb≠xb):
  CallsD Tryz.prog 142 #[.pointer (some ⟨sb,0,none⟩), .pointer (some ⟨xb,0,none⟩), .pointer (some ⟨vb,0,none⟩)] u w fun e u' w'=>u'=u/\(e= .returned (.tuple #[])/\w'=((w.setCell ⟨rb,2,none⟩ (.int .i64 (start:Int))).setCell ⟨rb,1,none⟩ (.int .i64 (start:Int))).setCell ⟨vb,0,none⟩ (.int .u64 0)):=by
 have c3:=hr.c3;have c2:=hr.c2;have c1:=hr.c1;have f2:=hr.free 2;have f1:=hr.free 1;have v0:=cell_of_one hv;have fv:=free_of_one hv;clear hr
 go_enter_d Tryz.func142,Tryz.ntmps142
 go_wp2_with fail
 first | go_end0 | refine bodyPost_ret (results_none rfl _ _ _) rfl ?_
 exact⟨rfl,rfl⟩
theorem nJ (cx cm rb:Nat) (v:Value) (data:List UInt8) (s:RS) (most:Nat) (w:World) (hr:lE w rb v data s) (hm:most<=1000000)
  (hx:w.cell? ⟨cx,0,none⟩=some (.pointer (some ⟨rb,0,none⟩))) (hmb:w.cell? ⟨cm,0,none⟩=some (.int .i64 (most:Int))):
  Calls Tryz.prog 105 #[.pointer (some ⟨rb,0,none⟩), .func (.func 106) #[] #[.pointer (some ⟨cx,0,none⟩), .pointer (some ⟨cm,0,none⟩)]] w
   (mV 0 (fun n:Nat=> .int .i64 (n:Int)) w rb v data (dQ data s.off most) s):=by
 have HX:=ab hx;have HM:=ab hmb;clear hx hmb;have hmf: ∀(fn:Fn) (first cap:Array Value) (w:World),(Instr.makeFunc fn first cap).run Tryz.prog w= .ok (.func fn first cap) w:=fun _ _ _ _=>rfl
 have hr':aQ w rb v data s.off s.last s.err:=hr;have HR:=ab hr';have hlt:=hr'.lt;have c1:=hr'.c1;have c3:=hr'.c3;clear hr hr'
 go_enter_defers Tryz.func105,Tryz.ntmps105
 by_cases he:s.err=0
 ·rw[he]at c3;go_wp2_with fail;obtain⟨W,hW⟩: ∃W,W=((w.alloc (.cells #[.pointer (some ⟨rb,0,none⟩)] 101)).alloc (.cells #[.int .i64 0] 3)).alloc (.cells #[.int .i64 (s.off:Int)] 3):=⟨_,rfl⟩;rw[<-hW];have hB:bB w W rb (.int .i64 0) 3 s.off:=by rw[hW]; exact bB.start hlt _ _ _
  have hBel:Below w.heap.size w W:=by rw[hW]; exact bB.below0 _ _ _
  have hRW:aQ W rb v data s.off s.last 0:=by have:=HR.out.below hBel; rw[he]at this; exact this
  have HB:=ab hB;have HRW:=ab hRW;have HBel:=ab hBel;have HE:=ab he;have x0:=cell_of_one hB.bx;have hxr:w.heap.size≠rb:=by omega
  clear hW hB hRW hBel c1 c3 he;refine kA ?_;refine cM (fun w'=>w'.cell? ⟨w.heap.size,0,none⟩=some (.pointer (some ⟨rb,0,none⟩))) (by kernel_rfl) ?_;refine af 0 rfl (by kernel_rfl) (by kernel_rfl) (by kernel_rfl) (fun _ _ _ h=>False.elim h) rfl (by go_simp) (by intro w' hw'; go_simp; rfl) ?_;simp only[Act.put,aA,aB,aC];refine af 1 rfl (by kernel_rfl) (by kernel_rfl) (by kernel_rfl) (fun _ _ _ h=>False.elim h) rfl (by go_simp) (by intro w' hw'; go_simp; rfl) ?_
  simp only[Act.put,aA,aB,aC];refine ar 2 rfl (by kernel_rfl) rfl (fun K hK=> ?_);have hBel2:Below w.heap.size w W.drew:=HBel.out.trans ⟨rfl,rfl,rfl,Nat.le_refl _,fun _ _=>rfl⟩;have HRW2:=ab (show aQ W.drew rb v data s.off s.last 0 from HRW.out.draws 1);have HBel2:=ab hBel2;clear hBel2;go_wp2_with fail;refine(wR cx cm rb v data s.off s.last most 0 _ HRW2.out hm ((HBel2.out.cell (aR HX.out)).trans HX.out) ((HBel2.out.cell (aR HM.out)).trans HM.out)).mono ?_
  rintro e w1 ⟨o',h1,h2,h3⟩;have HB1:=ab (HB.out.step (ak (b:=W.drew) ⟨rfl,rfl,rfl,Nat.le_refl _,fun _ _ _=>rfl⟩ h2));have x1:=cell_of_one HB1.out.bx;have v1:=cell_of_one HB1.out.bv;have fv1:=free_of_one HB1.out.bv;have HR1:=ab h1;have e3:=h1.c3;have f3:=h1.free 3;clear h1 h2 x0
  cases hd:dQ data s.off most with
  | error y=>
   have hy: ¬y=0:=ij hd;have HD:=ab hd;rw[hd]at h3;simp only at h3;subst h3;clear hd;go_wp2_with fail;refine⟨x1, ?_⟩;refine af 3 rfl (by kernel_rfl) (by kernel_rfl) (by kernel_rfl) (fun _ _ _ h=>False.elim h) rfl (by go_simp) (by intro w' hw'; go_simp; rfl) ?_;simp only[Act.put,aA,aB,aC];refine af 4 rfl (by kernel_rfl) (by kernel_rfl) (by kernel_rfl) (fun _ _ _ h=>False.elim h) rfl (by go_simp) (by intro w' hw'; go_simp; rfl) ?_
   simp only[Act.put,aA,aB,aC];refine af 5 rfl (by kernel_rfl) (by kernel_rfl) (by kernel_rfl) (fun _ _ _ h=>False.elim h) rfl (by go_simp) (by intro w' hw'; go_simp; rfl) ?_;simp only[Act.put,aA,aB,aC];refine ar 6 rfl (by kernel_rfl) rfl (fun K hK=> ?_);go_wp2_with fail;obtain⟨w2,hw2⟩: ∃w2,w2=w1.setCell ⟨w.heap.size+1,0,none⟩ (.int .i64 0):=⟨_,rfl⟩;rw[<-hw2]
   have HB2:=ab (show bB w w2 rb (.int .i64 0) 3 s.off by rw[hw2]; exact HB1.out.setv _);have HR2:=ab (show aQ w2 rb v data o' s.last 0 by rw[hw2]; exact HR.out.setOther HR1.out (by omega) _);have x2:=cell_of_one HB2.out.bx;have e4:=HR2.out.c3;have f4:=HR2.out.free 3;clear hw2 x1 v1 fv1 e3 f3;refine⟨x2, ?_⟩;refine af 7 rfl (by kernel_rfl) (by kernel_rfl) (by kernel_rfl) (fun _ _ _ h=>False.elim h) rfl (by go_simp) (by intro w' hw'; go_simp; rfl) ?_
   simp only[Act.put,aA,aB,aC];refine af 8 rfl (by kernel_rfl) (by kernel_rfl) (by kernel_rfl) (fun _ _ _ h=>False.elim h) rfl (by go_simp) (by intro w' hw'; go_simp; rfl) ?_;simp only[Act.put,aA,aB,aC];refine ar 9 rfl (by kernel_rfl) rfl (fun K hK=> ?_);go_wp2_with fail;obtain⟨w3,hw3⟩: ∃w3,w3=w2.setCell ⟨rb,3,none⟩ (.int .i64 (y)):=⟨_,rfl⟩;rw[<-hw3];have HB3:=ab (show bB w w3 rb (.int .i64 0) 3 s.off by rw[hw3]; exact HB2.out.step (aF _ _ _ _))
   have HR3:=ab (show aQ w3 rb v data o' s.last (y) by rw[hw3]; exact HR2.out.set3 _);have x3:=cell_of_one HB3.out.bx;have v3:=cell_of_one HB3.out.bv;have fv3:=free_of_one HB3.out.bv;clear hw3 x2 e4 f4;refine⟨x3, ?_⟩;refine aV (by kernel_rfl) ?_;refine el ?_;go_wp2_with fail;obtain⟨w5,hw5⟩: ∃w5,w5=w3.setCell ⟨w.heap.size+1,0,none⟩ (.int .i64 0):=⟨_,rfl⟩;rw[<-hw5]
   have HB5:=ab (show bB w w5 rb (.int .i64 0) 3 s.off by rw[hw5]; exact HB3.out.setv _);have HR5:=ab (show aQ w5 rb v data o' s.last (y) by rw[hw5]; exact HR.out.setOther HR3.out (by omega) _);clear hw5;refine leaves_cons (f:=139) (args:= #[.pointer (some ⟨w.heap.size+1+1,0,none⟩), .pointer (some ⟨w.heap.size,0,none⟩), .pointer (some ⟨w.heap.size+1,0,none⟩)]) (by simp) (by simp[go_sem]) ?_
   refine(AW (w.heap.size+1+1) w.heap.size (w.heap.size+1) rb v data o' s.last s.off y _ _ .returning _ HR5.out hy (cell_of_one HB5.out.bs) (cell_of_one HB5.out.bx) HB5.out.bv (by omega) (by omega) (by omega) (by omega) (by omega)).mono ?_;rintro e u' w'' ⟨rfl,rfl,hw4⟩;have HB4:=ab (show bB w w'' rb (.int .i64 0) 3 s.off by rw[hw4]; exact(HB5.out.step (ak (aF _ _ _ _) (aF _ _ _ _))).setv _)
   have HR4:=ab (show aQ w'' rb v data s.off s.off y by rw[hw4]; exact HR.out.setOther ((HR5.out.set2 s.off HR.out.le).set1 s.off HR.out.le) (by omega) _);have m0:=cell_of_one HB4.out.bv;simp only[Leaves,settle];refine⟨_,by simp[results,Tryz.results105,go_sem,m0]<;> rfl, ?_⟩;have hrv:rv ((0:Nat)) (dQ data s.off most) s=((0:Nat),⟨s.off,s.off,y⟩):=by unfold rv; rw[if_pos HE.out,HD.out]
   exact⟨by rw[hrv]<;> rfl,by rw[hrv]; exact HR4.out,HB4.out.grown⟩
  | ok p=>
   obtain⟨n,o⟩:=p;have HD:=ab hd;rw[hd]at h3;simp only at h3;obtain⟨rfl,rfl⟩:=h3;clear hd;go_wp2_with fail;refine⟨x1, ?_⟩;refine af 3 rfl (by kernel_rfl) (by kernel_rfl) (by kernel_rfl) (fun _ _ _ h=>False.elim h) rfl (by go_simp) (by intro w' hw'; go_simp; rfl) ?_;simp only[Act.put,aA,aB,aC];refine af 4 rfl (by kernel_rfl) (by kernel_rfl) (by kernel_rfl) (fun _ _ _ h=>False.elim h) rfl (by go_simp) (by intro w' hw'; go_simp; rfl) ?_
   simp only[Act.put,aA,aB,aC];refine af 5 rfl (by kernel_rfl) (by kernel_rfl) (by kernel_rfl) (fun _ _ _ h=>False.elim h) rfl (by go_simp) (by intro w' hw'; go_simp; rfl) ?_;simp only[Act.put,aA,aB,aC];refine ar 6 rfl (by kernel_rfl) rfl (fun K hK=> ?_);go_wp2_with fail;obtain⟨w2,hw2⟩: ∃w2,w2=w1.setCell ⟨w.heap.size+1,0,none⟩ (.int .i64 (n:Int)):=⟨_,rfl⟩
   rw[<-hw2];have HB2:=ab (show bB w w2 rb (.int .i64 (n:Int)) 3 s.off by rw[hw2]; exact HB1.out.setv _);have HR2:=ab (show aQ w2 rb v data o' s.last 0 by rw[hw2]; exact HR.out.setOther HR1.out (by omega) _);have x2:=cell_of_one HB2.out.bx;have e4:=HR2.out.c3;have f4:=HR2.out.free 3;clear hw2 x1 v1 fv1 e3 f3;refine⟨x2, ?_⟩;refine af 7 rfl (by kernel_rfl) (by kernel_rfl) (by kernel_rfl) (fun _ _ _ h=>False.elim h) rfl (by go_simp) (by intro w' hw'; go_simp; rfl) ?_
   simp only[Act.put,aA,aB,aC];refine af 8 rfl (by kernel_rfl) (by kernel_rfl) (by kernel_rfl) (fun _ _ _ h=>False.elim h) rfl (by go_simp) (by intro w' hw'; go_simp; rfl) ?_;simp only[Act.put,aA,aB,aC];refine ar 9 rfl (by kernel_rfl) rfl (fun K hK=> ?_);go_wp2_with fail;obtain⟨w3,hw3⟩: ∃w3,w3=w2.setCell ⟨rb,3,none⟩ (.int .i64 (0)):=⟨_,rfl⟩;rw[<-hw3];have HB3:=ab (show bB w w3 rb (.int .i64 (n:Int)) 3 s.off by rw[hw3]; exact HB2.out.step (aF _ _ _ _))
   have HR3:=ab (show aQ w3 rb v data o' s.last (0) by rw[hw3]; exact HR2.out.set3 _);have x3:=cell_of_one HB3.out.bx;have v3:=cell_of_one HB3.out.bv;have fv3:=free_of_one HB3.out.bv;clear hw3 x2 e4 f4;refine⟨x3, ?_⟩;refine aV (by kernel_rfl) ?_;refine el ?_;go_wp2_with fail;obtain⟨w5,hw5⟩: ∃w5,w5=w3.setCell ⟨w.heap.size+1,0,none⟩ (.int .i64 (n:Int)):=⟨_,rfl⟩
   rw[<-hw5];have HB5:=ab (show bB w w5 rb (.int .i64 (n:Int)) 3 s.off by rw[hw5]; exact HB3.out.setv _);have HR5:=ab (show aQ w5 rb v data o' s.last (0) by rw[hw5]; exact HR.out.setOther HR3.out (by omega) _);clear hw5;refine leaves_cons (f:=139) (args:= #[.pointer (some ⟨w.heap.size+1+1,0,none⟩), .pointer (some ⟨w.heap.size,0,none⟩), .pointer (some ⟨w.heap.size+1,0,none⟩)]) (by simp) (by simp[go_sem]) ?_
   refine(Dp (w.heap.size+1+1) w.heap.size (w.heap.size+1) rb v data o' s.last s.off .returning _ HR5.out (cell_of_one HB5.out.bs) (cell_of_one HB5.out.bx) (by omega) (by omega)).mono ?_;rintro e u' w'' ⟨rfl,rfl,hw4⟩;have HB4:=ab (show bB w w'' rb (.int .i64 (n:Int)) 3 s.off by rw[hw4]; exact HB5.out.step (aF _ _ _ _));have HR4:=ab (show aQ w'' rb v data o' s.off 0 by rw[hw4]; exact HR5.out.set2 s.off HR.out.le)
   have m0:=cell_of_one HB4.out.bv;simp only[Leaves,settle];refine⟨_,by simp[results,Tryz.results105,go_sem,m0]<;> rfl, ?_⟩;have hrv:rv ((0:Nat)) (dQ data s.off most) s=(n,⟨o',s.off,0⟩):=by unfold rv; rw[if_pos HE.out,HD.out]
   exact⟨by rw[hrv]<;> rfl,by rw[hrv]; exact HR4.out,HB4.out.grown⟩
 ·have HE:=ab he;go_wp2_with fail;simp only[bodyPostD];refine⟨_,by simp[results,Tryz.results105,go_sem]<;> rfl, ?_⟩;have hrv:rv ((0:Nat)) (dQ data s.off most) s=((0:Nat),s):=by unfold rv; rw[if_neg HE.out]
  refine⟨by rw[hrv]<;> rfl,by rw[hrv]; exact HR.out.below (((Below.refl _ _).alloc (Nat.le_refl _) _).alloc (by simp) _),aY (((Below.refl _ _).alloc (Nat.le_refl _) _).alloc (by simp) _) _⟩
theorem pS (rb:Nat) (v:Value) (data:List UInt8) (s:RS) (w:World) (hr:lE w rb v data s):
  Calls Tryz.prog 111 #[.pointer (some ⟨rb,0,none⟩), .func (.func 112) #[.pointer (some ⟨rb,0,none⟩)] #[]] w
   (mV 0 (fun n:Nat=> .int .u64 (n:Int)) w rb v data (eu data s.off) s):=by
 have hmf: ∀(fn:Fn) (first cap:Array Value) (w:World),(Instr.makeFunc fn first cap).run Tryz.prog w= .ok (.func fn first cap) w:=fun _ _ _ _=>rfl
 have hr':aQ w rb v data s.off s.last s.err:=hr;have HR:=ab hr';have hlt:=hr'.lt;have c1:=hr'.c1;have c3:=hr'.c3;clear hr hr'
 go_enter_defers Tryz.func111,Tryz.ntmps111
 by_cases he:s.err=0
 ·rw[he]at c3;go_wp2_with fail;obtain⟨W,hW⟩: ∃W,W=((w.alloc (.cells #[.pointer (some ⟨rb,0,none⟩)] 101)).alloc (.cells #[.int .u64 0] 43)).alloc (.cells #[.int .i64 (s.off:Int)] 3):=⟨_,rfl⟩;rw[<-hW];have hB:bB w W rb (.int .u64 0) 43 s.off:=by rw[hW]; exact bB.start hlt _ _ _
  have hBel:Below w.heap.size w W:=by rw[hW]; exact bB.below0 _ _ _
  have hRW:aQ W rb v data s.off s.last 0:=by have:=HR.out.below hBel; rw[he]at this; exact this
  have HB:=ab hB;have HRW:=ab hRW;have HBel:=ab hBel;have HE:=ab he;have x0:=cell_of_one hB.bx;have hxr:w.heap.size≠rb:=by omega
  clear hW hB hRW hBel c1 c3 he;refine kA ?_;refine cM (fun w'=>w'.cell? ⟨w.heap.size,0,none⟩=some (.pointer (some ⟨rb,0,none⟩))) (by kernel_rfl) ?_;refine af 0 rfl (by kernel_rfl) (by kernel_rfl) (by kernel_rfl) (fun _ _ _ h=>False.elim h) rfl (by go_simp) (by intro w' hw'; go_simp; rfl) ?_;simp only[Act.put,aA,aB,aC];refine af 1 rfl (by kernel_rfl) (by kernel_rfl) (by kernel_rfl) (fun _ _ _ h=>False.elim h) rfl (by go_simp) (by intro w' hw'; go_simp; rfl) ?_
  simp only[Act.put,aA,aB,aC];refine ar 2 rfl (by kernel_rfl) rfl (fun K hK=> ?_);have hBel2:Below w.heap.size w W.drew:=HBel.out.trans ⟨rfl,rfl,rfl,Nat.le_refl _,fun _ _=>rfl⟩;have HRW2:=ab (show aQ W.drew rb v data s.off s.last 0 from HRW.out.draws 1);have HBel2:=ab hBel2;clear hBel2;go_wp2_with fail;refine((pL rb v data s.off s.last 0 _ HRW2.out).mono fun _ _ h=>h.v).mono ?_
  rintro e w1 ⟨o',h1,h2,h3⟩;have HB1:=ab (HB.out.step (ak (b:=W.drew) ⟨rfl,rfl,rfl,Nat.le_refl _,fun _ _ _=>rfl⟩ h2));have x1:=cell_of_one HB1.out.bx;have v1:=cell_of_one HB1.out.bv;have fv1:=free_of_one HB1.out.bv;have HR1:=ab h1;have e3:=h1.c3;have f3:=h1.free 3;clear h1 h2 x0
  cases hd:eu data s.off with
  | error y=>
   have hy: ¬y=0:=lV hd;have HD:=ab hd;rw[hd]at h3;simp only at h3;subst h3;clear hd;go_wp2_with fail;refine⟨x1, ?_⟩;refine af 3 rfl (by kernel_rfl) (by kernel_rfl) (by kernel_rfl) (fun _ _ _ h=>False.elim h) rfl (by go_simp) (by intro w' hw'; go_simp; rfl) ?_;simp only[Act.put,aA,aB,aC];refine af 4 rfl (by kernel_rfl) (by kernel_rfl) (by kernel_rfl) (fun _ _ _ h=>False.elim h) rfl (by go_simp) (by intro w' hw'; go_simp; rfl) ?_
   simp only[Act.put,aA,aB,aC];refine af 5 rfl (by kernel_rfl) (by kernel_rfl) (by kernel_rfl) (fun _ _ _ h=>False.elim h) rfl (by go_simp) (by intro w' hw'; go_simp; rfl) ?_;simp only[Act.put,aA,aB,aC];refine ar 6 rfl (by kernel_rfl) rfl (fun K hK=> ?_);go_wp2_with fail;obtain⟨w2,hw2⟩: ∃w2,w2=w1.setCell ⟨w.heap.size+1,0,none⟩ (.int .u64 0):=⟨_,rfl⟩;rw[<-hw2]
   have HB2:=ab (show bB w w2 rb (.int .u64 0) 43 s.off by rw[hw2]; exact HB1.out.setv _);have HR2:=ab (show aQ w2 rb v data o' s.last 0 by rw[hw2]; exact HR.out.setOther HR1.out (by omega) _);have x2:=cell_of_one HB2.out.bx;have e4:=HR2.out.c3;have f4:=HR2.out.free 3;clear hw2 x1 v1 fv1 e3 f3;refine⟨x2, ?_⟩;refine af 7 rfl (by kernel_rfl) (by kernel_rfl) (by kernel_rfl) (fun _ _ _ h=>False.elim h) rfl (by go_simp) (by intro w' hw'; go_simp; rfl) ?_
   simp only[Act.put,aA,aB,aC];refine af 8 rfl (by kernel_rfl) (by kernel_rfl) (by kernel_rfl) (fun _ _ _ h=>False.elim h) rfl (by go_simp) (by intro w' hw'; go_simp; rfl) ?_;simp only[Act.put,aA,aB,aC];refine ar 9 rfl (by kernel_rfl) rfl (fun K hK=> ?_);go_wp2_with fail;obtain⟨w3,hw3⟩: ∃w3,w3=w2.setCell ⟨rb,3,none⟩ (.int .i64 (y)):=⟨_,rfl⟩;rw[<-hw3];have HB3:=ab (show bB w w3 rb (.int .u64 0) 43 s.off by rw[hw3]; exact HB2.out.step (aF _ _ _ _))
   have HR3:=ab (show aQ w3 rb v data o' s.last (y) by rw[hw3]; exact HR2.out.set3 _);have x3:=cell_of_one HB3.out.bx;have v3:=cell_of_one HB3.out.bv;have fv3:=free_of_one HB3.out.bv;clear hw3 x2 e4 f4;refine⟨x3, ?_⟩;refine aV (by kernel_rfl) ?_;refine el ?_;go_wp2_with fail;obtain⟨w5,hw5⟩: ∃w5,w5=w3.setCell ⟨w.heap.size+1,0,none⟩ (.int .u64 0):=⟨_,rfl⟩;rw[<-hw5]
   have HB5:=ab (show bB w w5 rb (.int .u64 0) 43 s.off by rw[hw5]; exact HB3.out.setv _);have HR5:=ab (show aQ w5 rb v data o' s.last (y) by rw[hw5]; exact HR.out.setOther HR3.out (by omega) _);clear hw5;refine leaves_cons (f:=142) (args:= #[.pointer (some ⟨w.heap.size+1+1,0,none⟩), .pointer (some ⟨w.heap.size,0,none⟩), .pointer (some ⟨w.heap.size+1,0,none⟩)]) (by simp) (by simp[go_sem]) ?_
   refine(AX (w.heap.size+1+1) w.heap.size (w.heap.size+1) rb v data o' s.last s.off y _ _ .returning _ HR5.out hy (cell_of_one HB5.out.bs) (cell_of_one HB5.out.bx) HB5.out.bv (by omega) (by omega) (by omega) (by omega) (by omega)).mono ?_;rintro e u' w'' ⟨rfl,rfl,hw4⟩;have HB4:=ab (show bB w w'' rb (.int .u64 0) 43 s.off by rw[hw4]; exact(HB5.out.step (ak (aF _ _ _ _) (aF _ _ _ _))).setv _)
   have HR4:=ab (show aQ w'' rb v data s.off s.off y by rw[hw4]; exact HR.out.setOther ((HR5.out.set2 s.off HR.out.le).set1 s.off HR.out.le) (by omega) _);have m0:=cell_of_one HB4.out.bv;simp only[Leaves,settle];refine⟨_,by simp[results,Tryz.results111,go_sem,m0]<;> rfl, ?_⟩;have hrv:rv ((0:Nat)) (eu data s.off) s=((0:Nat),⟨s.off,s.off,y⟩):=by unfold rv; rw[if_pos HE.out,HD.out]
   exact⟨by rw[hrv]<;> rfl,by rw[hrv]; exact HR4.out,HB4.out.grown⟩
  | ok p=>
   obtain⟨n,o⟩:=p;have HD:=ab hd;rw[hd]at h3;simp only at h3;obtain⟨rfl,rfl⟩:=h3;clear hd;go_wp2_with fail;refine⟨x1, ?_⟩;refine af 3 rfl (by kernel_rfl) (by kernel_rfl) (by kernel_rfl) (fun _ _ _ h=>False.elim h) rfl (by go_simp) (by intro w' hw'; go_simp; rfl) ?_;simp only[Act.put,aA,aB,aC];refine af 4 rfl (by kernel_rfl) (by kernel_rfl) (by kernel_rfl) (fun _ _ _ h=>False.elim h) rfl (by go_simp) (by intro w' hw'; go_simp; rfl) ?_
   simp only[Act.put,aA,aB,aC];refine af 5 rfl (by kernel_rfl) (by kernel_rfl) (by kernel_rfl) (fun _ _ _ h=>False.elim h) rfl (by go_simp) (by intro w' hw'; go_simp; rfl) ?_;simp only[Act.put,aA,aB,aC];refine ar 6 rfl (by kernel_rfl) rfl (fun K hK=> ?_);go_wp2_with fail;obtain⟨w2,hw2⟩: ∃w2,w2=w1.setCell ⟨w.heap.size+1,0,none⟩ (.int .u64 (n:Int)):=⟨_,rfl⟩
   rw[<-hw2];have HB2:=ab (show bB w w2 rb (.int .u64 (n:Int)) 43 s.off by rw[hw2]; exact HB1.out.setv _);have HR2:=ab (show aQ w2 rb v data o' s.last 0 by rw[hw2]; exact HR.out.setOther HR1.out (by omega) _);have x2:=cell_of_one HB2.out.bx;have e4:=HR2.out.c3;have f4:=HR2.out.free 3;clear hw2 x1 v1 fv1 e3 f3;refine⟨x2, ?_⟩;refine af 7 rfl (by kernel_rfl) (by kernel_rfl) (by kernel_rfl) (fun _ _ _ h=>False.elim h) rfl (by go_simp) (by intro w' hw'; go_simp; rfl) ?_
   simp only[Act.put,aA,aB,aC];refine af 8 rfl (by kernel_rfl) (by kernel_rfl) (by kernel_rfl) (fun _ _ _ h=>False.elim h) rfl (by go_simp) (by intro w' hw'; go_simp; rfl) ?_;simp only[Act.put,aA,aB,aC];refine ar 9 rfl (by kernel_rfl) rfl (fun K hK=> ?_);go_wp2_with fail;obtain⟨w3,hw3⟩: ∃w3,w3=w2.setCell ⟨rb,3,none⟩ (.int .i64 (0)):=⟨_,rfl⟩;rw[<-hw3];have HB3:=ab (show bB w w3 rb (.int .u64 (n:Int)) 43 s.off by rw[hw3]; exact HB2.out.step (aF _ _ _ _))
   have HR3:=ab (show aQ w3 rb v data o' s.last (0) by rw[hw3]; exact HR2.out.set3 _);have x3:=cell_of_one HB3.out.bx;have v3:=cell_of_one HB3.out.bv;have fv3:=free_of_one HB3.out.bv;clear hw3 x2 e4 f4;refine⟨x3, ?_⟩;refine aV (by kernel_rfl) ?_;refine el ?_;go_wp2_with fail;obtain⟨w5,hw5⟩: ∃w5,w5=w3.setCell ⟨w.heap.size+1,0,none⟩ (.int .u64 (n:Int)):=⟨_,rfl⟩
   rw[<-hw5];have HB5:=ab (show bB w w5 rb (.int .u64 (n:Int)) 43 s.off by rw[hw5]; exact HB3.out.setv _);have HR5:=ab (show aQ w5 rb v data o' s.last (0) by rw[hw5]; exact HR.out.setOther HR3.out (by omega) _);clear hw5;refine leaves_cons (f:=142) (args:= #[.pointer (some ⟨w.heap.size+1+1,0,none⟩), .pointer (some ⟨w.heap.size,0,none⟩), .pointer (some ⟨w.heap.size+1,0,none⟩)]) (by simp) (by simp[go_sem]) ?_
   refine(Dq (w.heap.size+1+1) w.heap.size (w.heap.size+1) rb v data o' s.last s.off .returning _ HR5.out (cell_of_one HB5.out.bs) (cell_of_one HB5.out.bx) (by omega) (by omega)).mono ?_;rintro e u' w'' ⟨rfl,rfl,hw4⟩;have HB4:=ab (show bB w w'' rb (.int .u64 (n:Int)) 43 s.off by rw[hw4]; exact HB5.out.step (aF _ _ _ _));have HR4:=ab (show aQ w'' rb v data o' s.off 0 by rw[hw4]; exact HR5.out.set2 s.off HR.out.le)
   have m0:=cell_of_one HB4.out.bv;simp only[Leaves,settle];refine⟨_,by simp[results,Tryz.results111,go_sem,m0]<;> rfl, ?_⟩;have hrv:rv ((0:Nat)) (eu data s.off) s=(n,⟨o',s.off,0⟩):=by unfold rv; rw[if_pos HE.out,HD.out]
   exact⟨by rw[hrv]<;> rfl,by rw[hrv]; exact HR4.out,HB4.out.grown⟩
 ·have HE:=ab he;go_wp2_with fail;simp only[bodyPostD];refine⟨_,by simp[results,Tryz.results111,go_sem]<;> rfl, ?_⟩;have hrv:rv ((0:Nat)) (eu data s.off) s=((0:Nat),s):=by unfold rv; rw[if_neg HE.out]
  refine⟨by rw[hrv]<;> rfl,by rw[hrv]; exact HR.out.below (((Below.refl _ _).alloc (Nat.le_refl _) _).alloc (by simp) _),aY (((Below.refl _ _).alloc (Nat.le_refl _) _).alloc (by simp) _) _⟩
theorem DL (rb:Nat) (v:Value) (data:List UInt8) (s:RS) (w:World) (hr:lE w rb v data s):
  Calls Tryz.prog 61 #[.pointer (some ⟨rb,0,none⟩)] w (mV 0 (fun n:Nat=> .int .u64 (n:Int)) w rb v data (eu data s.off) s):=by
 have hmf: ∀(fn:Fn) (first cap:Array Value) (w:World),(Instr.makeFunc fn first cap).run Tryz.prog w= .ok (.func fn first cap) w:=fun _ _ _ _=>rfl
 go_enter Tryz.func61,Tryz.ntmps61
 go_wp2_with fail;refine(pS rb v data s w hr).mono ?_;rintro e w1 ⟨rfl,h1,h2⟩;have H1:=ab h1;have H2:=ab h2;clear h1 h2;go_wp2_with fail;go_ret;exact⟨rfl,H1.out,H2.out⟩
theorem zM (rb:Nat) (v:Value) (data:List UInt8) (s:RS) (most:Nat) (w:World) (hr:lE w rb v data s) (hm:most<=1000000):
  Calls Tryz.prog 59 #[.pointer (some ⟨rb,0,none⟩), .int .i64 (most:Int)] w (mV 0 (fun n:Nat=> .int .i64 (n:Int)) w rb v data (dQ data s.off most) s):=by
 have hmf: ∀(fn:Fn) (first cap:Array Value) (w:World),(Instr.makeFunc fn first cap).run Tryz.prog w= .ok (.func fn first cap) w:=fun _ _ _ _=>rfl
 have HR:=ab hr;clear hr
 go_enter Tryz.func59,Tryz.ntmps59
 go_wp2_with fail;have hb:Below w.heap.size w ((w.alloc (.cells #[.pointer (some ⟨rb,0,none⟩)] 101)).alloc (.cells #[.int .i64 (most:Int)] 3)):=((Below.refl _ _).alloc (Nat.le_refl _) _).alloc (by simp) _;have HB:=ab hb;clear hb;refine(nJ w.heap.size (w.heap.size+1) rb v data s most _ (aQ.below HR.out HB.out) hm (by simp[go_sem]) (by simp[go_sem])).mono ?_;rintro e w1 ⟨rfl,h1,h2⟩
 have H1:=ab h1;have H2:=ab (ak (aY HB.out (some rb)) h2);clear h1 h2;go_wp2_with fail;go_ret;exact⟨rfl,H1.out,H2.out⟩
theorem qe (bs:List UInt8):strOfNums (bs.map fun b=>(b.toNat:Int))=⟨bs.toArray⟩:=by
 simp only[strOfNums,List.map_map,Function.comp_def,Int.toNat_natCast];simp
theorem te {w:World} {rb:Nat} {pv:Value} {bs:List UInt8} (h:yk w rb pv bs):(convert 29 9 pv).run Tryz.prog w= .ok (.string ⟨bs.toArray⟩) w:=by
 obtain⟨bk,o,c,rfl,_,_,hc⟩:=h;have h:=run_convert_bytes_arg (P:=Tryz.prog) w 29 5 Tryz.underlying29 Tryz.underlying5 bk o bs.length c (bs.map fun b=>(b.toNat:Int)) (by simp) (fun i hi=>by
  rw[hc i bs[i] (by simp[hi])];simp[au,List.getD,hi]) 9 Tryz.underlying9
 rw[qe]at h;exact h
theorem uz (w:World):(convert 29 9 (.slice none 0 0)).run Tryz.prog w= .ok (.string ⟨#[]⟩) w:=by kernel_rfl
theorem jc {data:List UInt8} {off n:Nat} {x:Int} (h:cK data off n= .error x): ¬x=0:=by
 unfold cK at h
 split at h
 ·simp only[Except.error.injEq]at h; omega
 ·simp at h
theorem kt {data:List UInt8} {off most:Nat} {x:Int} (h:cu data off most= .error x): ¬x=0:=by
 unfold cu at h
 split at h
 ·rename_i y hy;simp only[Except.error.injEq]at h;exact h▸ij hy
 ·exact jc h
theorem Bm (xb mb rb:Nat) (v:Value) (data:List UInt8) (off last most:Nat) (err:Int) (w:World) (hr:aQ w rb v data off last err) (hm:most<=1000000)
  (hx:w.cell? ⟨xb,0,none⟩=some (.pointer (some ⟨rb,0,none⟩))) (hmb:w.cell? ⟨mb,0,none⟩=some (.int .i64 (most:Int))):
  Calls Tryz.prog 109 #[.pointer (some ⟨xb,0,none⟩), .pointer (some ⟨mb,0,none⟩)] w (Eb (.string ⟨#[]⟩) (fun bs:List UInt8=>Value.string ⟨bs.toArray⟩) w rb v data last err (cu data off most)):=by
 have HR:=ab hr;clear hr
 go_enter Tryz.func109,Tryz.ntmps109
 go_wp2_with fail;refine(zA rb v data off last most err w HR.out hm).mono ?_;intro e w1 hd;obtain⟨o',h1,h2,h3⟩:=hd;have H1:=ab h1;have H2:=ab h2;clear h1 h2
 cases hl:cu data off most with
 | error y=>
  rw[hl]at h3; simp only at h3; subst h3;have HL:=ab hl;clear hl;have hcv:=uz;go_wp2_with fail
  go_ret2
  exact⟨o',H1.out,H2.out,by rw[HL.out]; rfl⟩
 | ok p=>
  obtain⟨bs,o⟩:=p;rw[hl]at h3; simp only at h3;obtain⟨⟨pv,rfl,hpv⟩,rfl⟩:=h3;have HL:=ab hl;clear hl;have hcv:=te hpv;clear hpv;go_wp2_with fail
  go_ret2
  exact⟨o',H1.out,H2.out,by rw[HL.out]; exact⟨rfl,rfl⟩⟩
theorem DB (xb rb:Nat) (v:Value) (data:List UInt8) (off last:Nat) (err:Int) (w:World) (hr:aQ w rb v data off last err)
  (hx:w.cell? ⟨xb,0,none⟩=some (.pointer (some ⟨rb,0,none⟩))):
  Calls Tryz.prog 143 #[.pointer (some ⟨xb,0,none⟩)] w (Eb (.string ⟨#[]⟩) (fun bs:List UInt8=>Value.string ⟨bs.toArray⟩) w rb v data last err (cK data off 32)):=by
 have HR:=ab hr;clear hr
 go_enter Tryz.func143,Tryz.ntmps143
 go_wp2_with fail;refine(wA rb v data off last 32 err w HR.out (by omega) (.inr (by omega))).mono ?_;intro e w1 hd;obtain⟨o',h1,h2,h3⟩:=hd;have H1:=ab h1;have H2:=ab h2;clear h1 h2
 cases hl:cK data off 32 with
 | error y=>
  rw[hl]at h3; simp only at h3; subst h3;have HL:=ab hl;clear hl;have hcv:=uz;go_wp2_with fail
  go_ret2
  exact⟨o',H1.out,H2.out,by rw[HL.out]; rfl⟩
 | ok p=>
  obtain⟨bs,o⟩:=p;rw[hl]at h3; simp only at h3;obtain⟨⟨pv,rfl,hpv⟩,rfl⟩:=h3;have HL:=ab hl;clear hl;have hcv:=te hpv;clear hpv;go_wp2_with fail
  go_ret2
  exact⟨o',H1.out,H2.out,by rw[HL.out]; exact⟨rfl,rfl⟩⟩
theorem pR (cx cm rb:Nat) (v:Value) (data:List UInt8) (s:RS) (most:Nat) (w:World) (hr:lE w rb v data s) (hm:most<=1000000)
  (hx:w.cell? ⟨cx,0,none⟩=some (.pointer (some ⟨rb,0,none⟩))) (hmb:w.cell? ⟨cm,0,none⟩=some (.int .i64 (most:Int))):
  Calls Tryz.prog 108 #[.pointer (some ⟨rb,0,none⟩), .func (.func 109) #[] #[.pointer (some ⟨cx,0,none⟩), .pointer (some ⟨cm,0,none⟩)]] w
   (mV [] (fun bs:List UInt8=>Value.string ⟨bs.toArray⟩) w rb v data (cu data s.off most) s):=by
 have HX:=ab hx;have HM:=ab hmb;clear hx hmb;have hmf: ∀(fn:Fn) (first cap:Array Value) (w:World),(Instr.makeFunc fn first cap).run Tryz.prog w= .ok (.func fn first cap) w:=fun _ _ _ _=>rfl
 have hr':aQ w rb v data s.off s.last s.err:=hr;have HR:=ab hr';have hlt:=hr'.lt;have c1:=hr'.c1;have c3:=hr'.c3;clear hr hr'
 go_enter_defers Tryz.func108,Tryz.ntmps108
 by_cases he:s.err=0
 ·rw[he]at c3;go_wp2_with fail;obtain⟨W,hW⟩: ∃W,W=((w.alloc (.cells #[.pointer (some ⟨rb,0,none⟩)] 101)).alloc (.cells #[.string ⟨#[]⟩] 9)).alloc (.cells #[.int .i64 (s.off:Int)] 3):=⟨_,rfl⟩;rw[<-hW];have hB:bB w W rb (.string ⟨#[]⟩) 9 s.off:=by rw[hW]; exact bB.start hlt _ _ _
  have hBel:Below w.heap.size w W:=by rw[hW]; exact bB.below0 _ _ _
  have hRW:aQ W rb v data s.off s.last 0:=by have:=HR.out.below hBel; rw[he]at this; exact this
  have HB:=ab hB;have HRW:=ab hRW;have HBel:=ab hBel;have HE:=ab he;have x0:=cell_of_one hB.bx;have hxr:w.heap.size≠rb:=by omega
  clear hW hB hRW hBel c1 c3 he;refine kA ?_;refine cM (fun w'=>w'.cell? ⟨w.heap.size,0,none⟩=some (.pointer (some ⟨rb,0,none⟩))) (by kernel_rfl) ?_;refine af 0 rfl (by kernel_rfl) (by kernel_rfl) (by kernel_rfl) (fun _ _ _ h=>False.elim h) rfl (by go_simp) (by intro w' hw'; go_simp; rfl) ?_;simp only[Act.put,aA,aB,aC];refine af 1 rfl (by kernel_rfl) (by kernel_rfl) (by kernel_rfl) (fun _ _ _ h=>False.elim h) rfl (by go_simp) (by intro w' hw'; go_simp; rfl) ?_
  simp only[Act.put,aA,aB,aC];refine ar 2 rfl (by kernel_rfl) rfl (fun K hK=> ?_);have hBel2:Below w.heap.size w W.drew:=HBel.out.trans ⟨rfl,rfl,rfl,Nat.le_refl _,fun _ _=>rfl⟩;have HRW2:=ab (show aQ W.drew rb v data s.off s.last 0 from HRW.out.draws 1);have HBel2:=ab hBel2;clear hBel2;go_wp2_with fail;refine(Bm cx cm rb v data s.off s.last most 0 _ HRW2.out hm ((HBel2.out.cell (aR HX.out)).trans HX.out) ((HBel2.out.cell (aR HM.out)).trans HM.out)).mono ?_
  rintro e w1 ⟨o',h1,h2,h3⟩;have HB1:=ab (HB.out.step (ak (b:=W.drew) ⟨rfl,rfl,rfl,Nat.le_refl _,fun _ _ _=>rfl⟩ h2));have x1:=cell_of_one HB1.out.bx;have v1:=cell_of_one HB1.out.bv;have fv1:=free_of_one HB1.out.bv;have HR1:=ab h1;have e3:=h1.c3;have f3:=h1.free 3;clear h1 h2 x0
  cases hd:cu data s.off most with
  | error y=>
   have hy: ¬y=0:=kt hd;have HD:=ab hd;rw[hd]at h3;simp only at h3;subst h3;clear hd;go_wp2_with fail;refine⟨x1, ?_⟩;refine af 3 rfl (by kernel_rfl) (by kernel_rfl) (by kernel_rfl) (fun _ _ _ h=>False.elim h) rfl (by go_simp) (by intro w' hw'; go_simp; rfl) ?_;simp only[Act.put,aA,aB,aC];refine af 4 rfl (by kernel_rfl) (by kernel_rfl) (by kernel_rfl) (fun _ _ _ h=>False.elim h) rfl (by go_simp) (by intro w' hw'; go_simp; rfl) ?_
   simp only[Act.put,aA,aB,aC];refine af 5 rfl (by kernel_rfl) (by kernel_rfl) (by kernel_rfl) (fun _ _ _ h=>False.elim h) rfl (by go_simp) (by intro w' hw'; go_simp; rfl) ?_;simp only[Act.put,aA,aB,aC];refine ar 6 rfl (by kernel_rfl) rfl (fun K hK=> ?_);go_wp2_with fail;obtain⟨w2,hw2⟩: ∃w2,w2=w1.setCell ⟨w.heap.size+1,0,none⟩ (.string ⟨#[]⟩):=⟨_,rfl⟩;rw[<-hw2]
   have HB2:=ab (show bB w w2 rb (.string ⟨#[]⟩) 9 s.off by rw[hw2]; exact HB1.out.setv _);have HR2:=ab (show aQ w2 rb v data o' s.last 0 by rw[hw2]; exact HR.out.setOther HR1.out (by omega) _);have x2:=cell_of_one HB2.out.bx;have e4:=HR2.out.c3;have f4:=HR2.out.free 3;clear hw2 x1 v1 fv1 e3 f3;refine⟨x2, ?_⟩;refine af 7 rfl (by kernel_rfl) (by kernel_rfl) (by kernel_rfl) (fun _ _ _ h=>False.elim h) rfl (by go_simp) (by intro w' hw'; go_simp; rfl) ?_
   simp only[Act.put,aA,aB,aC];refine af 8 rfl (by kernel_rfl) (by kernel_rfl) (by kernel_rfl) (fun _ _ _ h=>False.elim h) rfl (by go_simp) (by intro w' hw'; go_simp; rfl) ?_;simp only[Act.put,aA,aB,aC];refine ar 9 rfl (by kernel_rfl) rfl (fun K hK=> ?_);go_wp2_with fail;obtain⟨w3,hw3⟩: ∃w3,w3=w2.setCell ⟨rb,3,none⟩ (.int .i64 (y)):=⟨_,rfl⟩;rw[<-hw3];have HB3:=ab (show bB w w3 rb (.string ⟨#[]⟩) 9 s.off by rw[hw3]; exact HB2.out.step (aF _ _ _ _))
   have HR3:=ab (show aQ w3 rb v data o' s.last (y) by rw[hw3]; exact HR2.out.set3 _);have x3:=cell_of_one HB3.out.bx;have v3:=cell_of_one HB3.out.bv;have fv3:=free_of_one HB3.out.bv;clear hw3 x2 e4 f4;refine⟨x3, ?_⟩;refine aV (by kernel_rfl) ?_;refine el ?_;go_wp2_with fail;obtain⟨w5,hw5⟩: ∃w5,w5=w3.setCell ⟨w.heap.size+1,0,none⟩ (.string ⟨#[]⟩):=⟨_,rfl⟩;rw[<-hw5]
   have HB5:=ab (show bB w w5 rb (.string ⟨#[]⟩) 9 s.off by rw[hw5]; exact HB3.out.setv _);have HR5:=ab (show aQ w5 rb v data o' s.last (y) by rw[hw5]; exact HR.out.setOther HR3.out (by omega) _);clear hw5;refine leaves_cons (f:=140) (args:= #[.pointer (some ⟨w.heap.size+1+1,0,none⟩), .pointer (some ⟨w.heap.size,0,none⟩), .pointer (some ⟨w.heap.size+1,0,none⟩)]) (by simp) (by simp[go_sem]) ?_
   refine(sq (w.heap.size+1+1) w.heap.size (w.heap.size+1) rb v data o' s.last s.off y _ _ .returning _ HR5.out hy (cell_of_one HB5.out.bs) (cell_of_one HB5.out.bx) HB5.out.bv (by omega) (by omega) (by omega) (by omega) (by omega)).mono ?_;rintro e u' w'' ⟨rfl,rfl,hw4⟩;have HB4:=ab (show bB w w'' rb (.string ⟨#[]⟩) 9 s.off by rw[hw4]; exact(HB5.out.step (ak (aF _ _ _ _) (aF _ _ _ _))).setv _)
   have HR4:=ab (show aQ w'' rb v data s.off s.off y by rw[hw4]; exact HR.out.setOther ((HR5.out.set2 s.off HR.out.le).set1 s.off HR.out.le) (by omega) _);have m0:=cell_of_one HB4.out.bv;simp only[Leaves,settle];refine⟨_,by simp[results,Tryz.results108,go_sem,m0]<;> rfl, ?_⟩;have hrv:rv (([]:List UInt8)) (cu data s.off most) s=(([]:List UInt8),⟨s.off,s.off,y⟩):=by unfold rv; rw[if_pos HE.out,HD.out]
   exact⟨by rw[hrv]<;> rfl,by rw[hrv]; exact HR4.out,HB4.out.grown⟩
  | ok p=>
   obtain⟨n,o⟩:=p;have HD:=ab hd;rw[hd]at h3;simp only at h3;obtain⟨rfl,rfl⟩:=h3;clear hd;go_wp2_with fail;refine⟨x1, ?_⟩;refine af 3 rfl (by kernel_rfl) (by kernel_rfl) (by kernel_rfl) (fun _ _ _ h=>False.elim h) rfl (by go_simp) (by intro w' hw'; go_simp; rfl) ?_;simp only[Act.put,aA,aB,aC];refine af 4 rfl (by kernel_rfl) (by kernel_rfl) (by kernel_rfl) (fun _ _ _ h=>False.elim h) rfl (by go_simp) (by intro w' hw'; go_simp; rfl) ?_
   simp only[Act.put,aA,aB,aC];refine af 5 rfl (by kernel_rfl) (by kernel_rfl) (by kernel_rfl) (fun _ _ _ h=>False.elim h) rfl (by go_simp) (by intro w' hw'; go_simp; rfl) ?_;simp only[Act.put,aA,aB,aC];refine ar 6 rfl (by kernel_rfl) rfl (fun K hK=> ?_);go_wp2_with fail;obtain⟨w2,hw2⟩: ∃w2,w2=w1.setCell ⟨w.heap.size+1,0,none⟩ (.string ⟨n.toArray⟩):=⟨_,rfl⟩
   rw[<-hw2];have HB2:=ab (show bB w w2 rb (.string ⟨n.toArray⟩) 9 s.off by rw[hw2]; exact HB1.out.setv _);have HR2:=ab (show aQ w2 rb v data o' s.last 0 by rw[hw2]; exact HR.out.setOther HR1.out (by omega) _);have x2:=cell_of_one HB2.out.bx;have e4:=HR2.out.c3;have f4:=HR2.out.free 3;clear hw2 x1 v1 fv1 e3 f3;refine⟨x2, ?_⟩;refine af 7 rfl (by kernel_rfl) (by kernel_rfl) (by kernel_rfl) (fun _ _ _ h=>False.elim h) rfl (by go_simp) (by intro w' hw'; go_simp; rfl) ?_
   simp only[Act.put,aA,aB,aC];refine af 8 rfl (by kernel_rfl) (by kernel_rfl) (by kernel_rfl) (fun _ _ _ h=>False.elim h) rfl (by go_simp) (by intro w' hw'; go_simp; rfl) ?_;simp only[Act.put,aA,aB,aC];refine ar 9 rfl (by kernel_rfl) rfl (fun K hK=> ?_);go_wp2_with fail;obtain⟨w3,hw3⟩: ∃w3,w3=w2.setCell ⟨rb,3,none⟩ (.int .i64 (0)):=⟨_,rfl⟩;rw[<-hw3];have HB3:=ab (show bB w w3 rb (.string ⟨n.toArray⟩) 9 s.off by rw[hw3]; exact HB2.out.step (aF _ _ _ _))
   have HR3:=ab (show aQ w3 rb v data o' s.last (0) by rw[hw3]; exact HR2.out.set3 _);have x3:=cell_of_one HB3.out.bx;have v3:=cell_of_one HB3.out.bv;have fv3:=free_of_one HB3.out.bv;clear hw3 x2 e4 f4;refine⟨x3, ?_⟩;refine aV (by kernel_rfl) ?_;refine el ?_;go_wp2_with fail;obtain⟨w5,hw5⟩: ∃w5,w5=w3.setCell ⟨w.heap.size+1,0,none⟩ (.string ⟨n.toArray⟩):=⟨_,rfl⟩
   rw[<-hw5];have HB5:=ab (show bB w w5 rb (.string ⟨n.toArray⟩) 9 s.off by rw[hw5]; exact HB3.out.setv _);have HR5:=ab (show aQ w5 rb v data o' s.last (0) by rw[hw5]; exact HR.out.setOther HR3.out (by omega) _);clear hw5;refine leaves_cons (f:=140) (args:= #[.pointer (some ⟨w.heap.size+1+1,0,none⟩), .pointer (some ⟨w.heap.size,0,none⟩), .pointer (some ⟨w.heap.size+1,0,none⟩)]) (by simp) (by simp[go_sem]) ?_
   refine(vX (w.heap.size+1+1) w.heap.size (w.heap.size+1) rb v data o' s.last s.off .returning _ HR5.out (cell_of_one HB5.out.bs) (cell_of_one HB5.out.bx) (by omega) (by omega)).mono ?_;rintro e u' w'' ⟨rfl,rfl,hw4⟩;have HB4:=ab (show bB w w'' rb (.string ⟨n.toArray⟩) 9 s.off by rw[hw4]; exact HB5.out.step (aF _ _ _ _));have HR4:=ab (show aQ w'' rb v data o' s.off 0 by rw[hw4]; exact HR5.out.set2 s.off HR.out.le)
   have m0:=cell_of_one HB4.out.bv;simp only[Leaves,settle];refine⟨_,by simp[results,Tryz.results108,go_sem,m0]<;> rfl, ?_⟩;have hrv:rv (([]:List UInt8)) (cu data s.off most) s=(n,⟨o',s.off,0⟩):=by unfold rv; rw[if_pos HE.out,HD.out]
   exact⟨by rw[hrv]<;> rfl,by rw[hrv]; exact HR4.out,HB4.out.grown⟩
 ·have HE:=ab he;go_wp2_with fail;simp only[bodyPostD];refine⟨_,by simp[results,Tryz.results108,go_sem]<;> rfl, ?_⟩;have hrv:rv (([]:List UInt8)) (cu data s.off most) s=(([]:List UInt8),s):=by unfold rv; rw[if_neg HE.out]
  refine⟨by rw[hrv]<;> rfl,by rw[hrv]; exact HR.out.below (((Below.refl _ _).alloc (Nat.le_refl _) _).alloc (by simp) _),aY (((Below.refl _ _).alloc (Nat.le_refl _) _).alloc (by simp) _) _⟩
theorem qJ (cx rb:Nat) (v:Value) (data:List UInt8) (s:RS) (w:World) (hr:lE w rb v data s)
  (hx:w.cell? ⟨cx,0,none⟩=some (.pointer (some ⟨rb,0,none⟩))):
  Calls Tryz.prog 108 #[.pointer (some ⟨rb,0,none⟩), .func (.func 143) #[] #[.pointer (some ⟨cx,0,none⟩)]] w
   (mV [] (fun bs:List UInt8=>Value.string ⟨bs.toArray⟩) w rb v data (cK data s.off 32) s):=by
 have HX:=ab hx;clear hx;have hmf: ∀(fn:Fn) (first cap:Array Value) (w:World),(Instr.makeFunc fn first cap).run Tryz.prog w= .ok (.func fn first cap) w:=fun _ _ _ _=>rfl
 have hr':aQ w rb v data s.off s.last s.err:=hr;have HR:=ab hr';have hlt:=hr'.lt;have c1:=hr'.c1;have c3:=hr'.c3;clear hr hr'
 go_enter_defers Tryz.func108,Tryz.ntmps108
 by_cases he:s.err=0
 ·rw[he]at c3;go_wp2_with fail;obtain⟨W,hW⟩: ∃W,W=((w.alloc (.cells #[.pointer (some ⟨rb,0,none⟩)] 101)).alloc (.cells #[.string ⟨#[]⟩] 9)).alloc (.cells #[.int .i64 (s.off:Int)] 3):=⟨_,rfl⟩;rw[<-hW];have hB:bB w W rb (.string ⟨#[]⟩) 9 s.off:=by rw[hW]; exact bB.start hlt _ _ _
  have hBel:Below w.heap.size w W:=by rw[hW]; exact bB.below0 _ _ _
  have hRW:aQ W rb v data s.off s.last 0:=by have:=HR.out.below hBel; rw[he]at this; exact this
  have HB:=ab hB;have HRW:=ab hRW;have HBel:=ab hBel;have HE:=ab he;have x0:=cell_of_one hB.bx;have hxr:w.heap.size≠rb:=by omega
  clear hW hB hRW hBel c1 c3 he;refine kA ?_;refine cM (fun w'=>w'.cell? ⟨w.heap.size,0,none⟩=some (.pointer (some ⟨rb,0,none⟩))) (by kernel_rfl) ?_;refine af 0 rfl (by kernel_rfl) (by kernel_rfl) (by kernel_rfl) (fun _ _ _ h=>False.elim h) rfl (by go_simp) (by intro w' hw'; go_simp; rfl) ?_;simp only[Act.put,aA,aB,aC];refine af 1 rfl (by kernel_rfl) (by kernel_rfl) (by kernel_rfl) (fun _ _ _ h=>False.elim h) rfl (by go_simp) (by intro w' hw'; go_simp; rfl) ?_
  simp only[Act.put,aA,aB,aC];refine ar 2 rfl (by kernel_rfl) rfl (fun K hK=> ?_);have hBel2:Below w.heap.size w W.drew:=HBel.out.trans ⟨rfl,rfl,rfl,Nat.le_refl _,fun _ _=>rfl⟩;have HRW2:=ab (show aQ W.drew rb v data s.off s.last 0 from HRW.out.draws 1);have HBel2:=ab hBel2;clear hBel2;go_wp2_with fail;refine(DB cx rb v data s.off s.last 0 _ HRW2.out ((HBel2.out.cell (aR HX.out)).trans HX.out)).mono ?_
  rintro e w1 ⟨o',h1,h2,h3⟩;have HB1:=ab (HB.out.step (ak (b:=W.drew) ⟨rfl,rfl,rfl,Nat.le_refl _,fun _ _ _=>rfl⟩ h2));have x1:=cell_of_one HB1.out.bx;have v1:=cell_of_one HB1.out.bv;have fv1:=free_of_one HB1.out.bv;have HR1:=ab h1;have e3:=h1.c3;have f3:=h1.free 3;clear h1 h2 x0
  cases hd:cK data s.off 32 with
  | error y=>
   have hy: ¬y=0:=jc hd;have HD:=ab hd;rw[hd]at h3;simp only at h3;subst h3;clear hd;go_wp2_with fail;refine⟨x1, ?_⟩;refine af 3 rfl (by kernel_rfl) (by kernel_rfl) (by kernel_rfl) (fun _ _ _ h=>False.elim h) rfl (by go_simp) (by intro w' hw'; go_simp; rfl) ?_;simp only[Act.put,aA,aB,aC];refine af 4 rfl (by kernel_rfl) (by kernel_rfl) (by kernel_rfl) (fun _ _ _ h=>False.elim h) rfl (by go_simp) (by intro w' hw'; go_simp; rfl) ?_
   simp only[Act.put,aA,aB,aC];refine af 5 rfl (by kernel_rfl) (by kernel_rfl) (by kernel_rfl) (fun _ _ _ h=>False.elim h) rfl (by go_simp) (by intro w' hw'; go_simp; rfl) ?_;simp only[Act.put,aA,aB,aC];refine ar 6 rfl (by kernel_rfl) rfl (fun K hK=> ?_);go_wp2_with fail;obtain⟨w2,hw2⟩: ∃w2,w2=w1.setCell ⟨w.heap.size+1,0,none⟩ (.string ⟨#[]⟩):=⟨_,rfl⟩;rw[<-hw2]
   have HB2:=ab (show bB w w2 rb (.string ⟨#[]⟩) 9 s.off by rw[hw2]; exact HB1.out.setv _);have HR2:=ab (show aQ w2 rb v data o' s.last 0 by rw[hw2]; exact HR.out.setOther HR1.out (by omega) _);have x2:=cell_of_one HB2.out.bx;have e4:=HR2.out.c3;have f4:=HR2.out.free 3;clear hw2 x1 v1 fv1 e3 f3;refine⟨x2, ?_⟩;refine af 7 rfl (by kernel_rfl) (by kernel_rfl) (by kernel_rfl) (fun _ _ _ h=>False.elim h) rfl (by go_simp) (by intro w' hw'; go_simp; rfl) ?_
   simp only[Act.put,aA,aB,aC];refine af 8 rfl (by kernel_rfl) (by kernel_rfl) (by kernel_rfl) (fun _ _ _ h=>False.elim h) rfl (by go_simp) (by intro w' hw'; go_simp; rfl) ?_;simp only[Act.put,aA,aB,aC];refine ar 9 rfl (by kernel_rfl) rfl (fun K hK=> ?_);go_wp2_with fail;obtain⟨w3,hw3⟩: ∃w3,w3=w2.setCell ⟨rb,3,none⟩ (.int .i64 (y)):=⟨_,rfl⟩;rw[<-hw3];have HB3:=ab (show bB w w3 rb (.string ⟨#[]⟩) 9 s.off by rw[hw3]; exact HB2.out.step (aF _ _ _ _))
   have HR3:=ab (show aQ w3 rb v data o' s.last (y) by rw[hw3]; exact HR2.out.set3 _);have x3:=cell_of_one HB3.out.bx;have v3:=cell_of_one HB3.out.bv;have fv3:=free_of_one HB3.out.bv;clear hw3 x2 e4 f4;refine⟨x3, ?_⟩;refine aV (by kernel_rfl) ?_;refine el ?_;go_wp2_with fail;obtain⟨w5,hw5⟩: ∃w5,w5=w3.setCell ⟨w.heap.size+1,0,none⟩ (.string ⟨#[]⟩):=⟨_,rfl⟩;rw[<-hw5]
   have HB5:=ab (show bB w w5 rb (.string ⟨#[]⟩) 9 s.off by rw[hw5]; exact HB3.out.setv _);have HR5:=ab (show aQ w5 rb v data o' s.last (y) by rw[hw5]; exact HR.out.setOther HR3.out (by omega) _);clear hw5;refine leaves_cons (f:=140) (args:= #[.pointer (some ⟨w.heap.size+1+1,0,none⟩), .pointer (some ⟨w.heap.size,0,none⟩), .pointer (some ⟨w.heap.size+1,0,none⟩)]) (by simp) (by simp[go_sem]) ?_
   refine(sq (w.heap.size+1+1) w.heap.size (w.heap.size+1) rb v data o' s.last s.off y _ _ .returning _ HR5.out hy (cell_of_one HB5.out.bs) (cell_of_one HB5.out.bx) HB5.out.bv (by omega) (by omega) (by omega) (by omega) (by omega)).mono ?_;rintro e u' w'' ⟨rfl,rfl,hw4⟩;have HB4:=ab (show bB w w'' rb (.string ⟨#[]⟩) 9 s.off by rw[hw4]; exact(HB5.out.step (ak (aF _ _ _ _) (aF _ _ _ _))).setv _)
   have HR4:=ab (show aQ w'' rb v data s.off s.off y by rw[hw4]; exact HR.out.setOther ((HR5.out.set2 s.off HR.out.le).set1 s.off HR.out.le) (by omega) _);have m0:=cell_of_one HB4.out.bv;simp only[Leaves,settle];refine⟨_,by simp[results,Tryz.results108,go_sem,m0]<;> rfl, ?_⟩;have hrv:rv (([]:List UInt8)) (cK data s.off 32) s=(([]:List UInt8),⟨s.off,s.off,y⟩):=by unfold rv; rw[if_pos HE.out,HD.out]
   exact⟨by rw[hrv]<;> rfl,by rw[hrv]; exact HR4.out,HB4.out.grown⟩
  | ok p=>
   obtain⟨n,o⟩:=p;have HD:=ab hd;rw[hd]at h3;simp only at h3;obtain⟨rfl,rfl⟩:=h3;clear hd;go_wp2_with fail;refine⟨x1, ?_⟩;refine af 3 rfl (by kernel_rfl) (by kernel_rfl) (by kernel_rfl) (fun _ _ _ h=>False.elim h) rfl (by go_simp) (by intro w' hw'; go_simp; rfl) ?_;simp only[Act.put,aA,aB,aC];refine af 4 rfl (by kernel_rfl) (by kernel_rfl) (by kernel_rfl) (fun _ _ _ h=>False.elim h) rfl (by go_simp) (by intro w' hw'; go_simp; rfl) ?_
   simp only[Act.put,aA,aB,aC];refine af 5 rfl (by kernel_rfl) (by kernel_rfl) (by kernel_rfl) (fun _ _ _ h=>False.elim h) rfl (by go_simp) (by intro w' hw'; go_simp; rfl) ?_;simp only[Act.put,aA,aB,aC];refine ar 6 rfl (by kernel_rfl) rfl (fun K hK=> ?_);go_wp2_with fail;obtain⟨w2,hw2⟩: ∃w2,w2=w1.setCell ⟨w.heap.size+1,0,none⟩ (.string ⟨n.toArray⟩):=⟨_,rfl⟩
   rw[<-hw2];have HB2:=ab (show bB w w2 rb (.string ⟨n.toArray⟩) 9 s.off by rw[hw2]; exact HB1.out.setv _);have HR2:=ab (show aQ w2 rb v data o' s.last 0 by rw[hw2]; exact HR.out.setOther HR1.out (by omega) _);have x2:=cell_of_one HB2.out.bx;have e4:=HR2.out.c3;have f4:=HR2.out.free 3;clear hw2 x1 v1 fv1 e3 f3;refine⟨x2, ?_⟩;refine af 7 rfl (by kernel_rfl) (by kernel_rfl) (by kernel_rfl) (fun _ _ _ h=>False.elim h) rfl (by go_simp) (by intro w' hw'; go_simp; rfl) ?_
   simp only[Act.put,aA,aB,aC];refine af 8 rfl (by kernel_rfl) (by kernel_rfl) (by kernel_rfl) (fun _ _ _ h=>False.elim h) rfl (by go_simp) (by intro w' hw'; go_simp; rfl) ?_;simp only[Act.put,aA,aB,aC];refine ar 9 rfl (by kernel_rfl) rfl (fun K hK=> ?_);go_wp2_with fail;obtain⟨w3,hw3⟩: ∃w3,w3=w2.setCell ⟨rb,3,none⟩ (.int .i64 (0)):=⟨_,rfl⟩;rw[<-hw3];have HB3:=ab (show bB w w3 rb (.string ⟨n.toArray⟩) 9 s.off by rw[hw3]; exact HB2.out.step (aF _ _ _ _))
   have HR3:=ab (show aQ w3 rb v data o' s.last (0) by rw[hw3]; exact HR2.out.set3 _);have x3:=cell_of_one HB3.out.bx;have v3:=cell_of_one HB3.out.bv;have fv3:=free_of_one HB3.out.bv;clear hw3 x2 e4 f4;refine⟨x3, ?_⟩;refine aV (by kernel_rfl) ?_;refine el ?_;go_wp2_with fail;obtain⟨w5,hw5⟩: ∃w5,w5=w3.setCell ⟨w.heap.size+1,0,none⟩ (.string ⟨n.toArray⟩):=⟨_,rfl⟩
   rw[<-hw5];have HB5:=ab (show bB w w5 rb (.string ⟨n.toArray⟩) 9 s.off by rw[hw5]; exact HB3.out.setv _);have HR5:=ab (show aQ w5 rb v data o' s.last (0) by rw[hw5]; exact HR.out.setOther HR3.out (by omega) _);clear hw5;refine leaves_cons (f:=140) (args:= #[.pointer (some ⟨w.heap.size+1+1,0,none⟩), .pointer (some ⟨w.heap.size,0,none⟩), .pointer (some ⟨w.heap.size+1,0,none⟩)]) (by simp) (by simp[go_sem]) ?_
   refine(vX (w.heap.size+1+1) w.heap.size (w.heap.size+1) rb v data o' s.last s.off .returning _ HR5.out (cell_of_one HB5.out.bs) (cell_of_one HB5.out.bx) (by omega) (by omega)).mono ?_;rintro e u' w'' ⟨rfl,rfl,hw4⟩;have HB4:=ab (show bB w w'' rb (.string ⟨n.toArray⟩) 9 s.off by rw[hw4]; exact HB5.out.step (aF _ _ _ _));have HR4:=ab (show aQ w'' rb v data o' s.off 0 by rw[hw4]; exact HR5.out.set2 s.off HR.out.le)
   have m0:=cell_of_one HB4.out.bv;simp only[Leaves,settle];refine⟨_,by simp[results,Tryz.results108,go_sem,m0]<;> rfl, ?_⟩;have hrv:rv (([]:List UInt8)) (cK data s.off 32) s=(n,⟨o',s.off,0⟩):=by unfold rv; rw[if_pos HE.out,HD.out]
   exact⟨by rw[hrv]<;> rfl,by rw[hrv]; exact HR4.out,HB4.out.grown⟩
 ·have HE:=ab he;go_wp2_with fail;simp only[bodyPostD];refine⟨_,by simp[results,Tryz.results108,go_sem]<;> rfl, ?_⟩;have hrv:rv (([]:List UInt8)) (cK data s.off 32) s=(([]:List UInt8),s):=by unfold rv; rw[if_neg HE.out]
  refine⟨by rw[hrv]<;> rfl,by rw[hrv]; exact HR.out.below (((Below.refl _ _).alloc (Nat.le_refl _) _).alloc (by simp) _),aY (((Below.refl _ _).alloc (Nat.le_refl _) _).alloc (by simp) _) _⟩
theorem DF (rb:Nat) (v:Value) (data:List UInt8) (s:RS) (most:Nat) (w:World) (hr:lE w rb v data s) (hm:most<=1000000):
  Calls Tryz.prog 60 #[.pointer (some ⟨rb,0,none⟩), .int .i64 (most:Int)] w (mV [] (fun bs:List UInt8=>Value.string ⟨bs.toArray⟩) w rb v data (cu data s.off most) s):=by
 have hmf: ∀(fn:Fn) (first cap:Array Value) (w:World),(Instr.makeFunc fn first cap).run Tryz.prog w= .ok (.func fn first cap) w:=fun _ _ _ _=>rfl
 have HR:=ab hr;clear hr
 go_enter Tryz.func60,Tryz.ntmps60
 go_wp2_with fail;have hb:Below w.heap.size w ((w.alloc (.cells #[.pointer (some ⟨rb,0,none⟩)] 101)).alloc (.cells #[.int .i64 (most:Int)] 3)):=((Below.refl _ _).alloc (Nat.le_refl _) _).alloc (by simp) _;have HB:=ab hb;clear hb;refine(pR w.heap.size (w.heap.size+1) rb v data s most _ (aQ.below HR.out HB.out) hm (by simp[go_sem]) (by simp[go_sem])).mono ?_;rintro e w1 ⟨rfl,h1,h2⟩
 have H1:=ab h1;have H2:=ab (ak (aY HB.out (some rb)) h2);clear h1 h2;go_wp2_with fail;go_ret;exact⟨rfl,H1.out,H2.out⟩
theorem Fp (rb:Nat) (v:Value) (data:List UInt8) (s:RS) (w:World) (hr:lE w rb v data s):
  Calls Tryz.prog 113 #[.pointer (some ⟨rb,0,none⟩)] w (mV [] (fun bs:List UInt8=>Value.string ⟨bs.toArray⟩) w rb v data (cK data s.off 32) s):=by
 have hmf: ∀(fn:Fn) (first cap:Array Value) (w:World),(Instr.makeFunc fn first cap).run Tryz.prog w= .ok (.func fn first cap) w:=fun _ _ _ _=>rfl
 have HR:=ab hr;clear hr
 go_enter Tryz.func113,Tryz.ntmps113
 go_wp2_with fail;have hb:Below w.heap.size w (w.alloc (.cells #[.pointer (some ⟨rb,0,none⟩)] 101)):=(Below.refl _ _).alloc (Nat.le_refl _) _;have HB:=ab hb;clear hb;refine(qJ w.heap.size rb v data s _ (aQ.below HR.out HB.out) (by simp[go_sem])).mono ?_;rintro e w1 ⟨rfl,h1,h2⟩;have H1:=ab h1;have H2:=ab (ak (aY HB.out (some rb)) h2);clear h1 h2;go_wp2_with fail
 go_ret;exact⟨rfl,H1.out,H2.out⟩
def fh (data:List UInt8) (s:RS):Int:=if s.err=0 then(if s.off<data.length then 3 else 0)else s.err
theorem EF (rb:Nat) (v:Value) (data:List UInt8) (s:RS) (w:World) (hr:lE w rb v data s):
  Calls Tryz.prog 64 #[.pointer (some ⟨rb,0,none⟩)] w fun e w'=>e= .returned (.tuple #[.int .i64 (s.off:Int), .int .i64 (fh data s)])/\ ∃n,w'=w.drewN n:=by
 obtain⟨a,cap,rfl,hc,hcm,-⟩:=aQ.shape hr;unfold maxLen at hcm;have c0:=aQ.c0 hr;have c1:=aQ.c1 hr;have c3:=aQ.c3 hr;have hsm:=aQ.small hr;have hle:=aQ.le hr;clear hr
 by_cases he:s.err=0
 ·rw[he]at c3;have HE:=ab he;clear he
  by_cases hl:s.off<data.length
  ·have HR:=ab (show fh data s=3 by unfold fh; rw[if_pos HE.out,if_pos hl])
   go_enter Tryz.func64,Tryz.ntmps64
   go_wp2_with fail
   go_quiet (fail)
   go_wp2_with fail
   go_ret2
   exact⟨by rw[HR.out]; rfl,_,rfl⟩
  ·have HR:=ab (show fh data s=0 by unfold fh; rw[if_pos HE.out,if_neg hl])
   go_enter Tryz.func64,Tryz.ntmps64
   go_wp2_with fail
   go_quiet (fail)
   go_wp2_with fail
   go_ret2
   exact⟨by rw[HR.out]; rfl,_,rfl⟩
 ·have HR:=ab (show fh data s=s.err by unfold fh; rw[if_neg he])
  go_enter Tryz.func64,Tryz.ntmps64
  go_wp2_with fail
  go_quiet (fail)
  go_wp2_with fail
  go_ret2
  exact⟨by rw[HR.out]; rfl,_,rfl⟩
open Go Go.RowKit Go.Maps
def dB (P:Program) (k:TypeId) (w:World) (b:Nat) (m:List (Value×Value)):Prop:=
 ∃es clock,w.heap[b]? =some (.map es clock)/\es.toList.map (fun e=>(e.key,e.val))=m/\(m.map Prod.fst).Nodup/\ ∀p∈m,∃l,keyOf P k p.1=some l
theorem pg {w:World} {b:Nat} {x:Obj} (hb:w.heap[b]? =some x) (o:Obj):(ChangeMaps.setBlock w b o).heap[b]? =some o:=by
 have:=(Array.getElem?_eq_some_iff.1 hb).1;simp[ChangeMaps.setBlock,this]
theorem rF {w:World} {b:Nat} {x:Obj} (_:w.heap[b]? =some x) (o:Obj) {i:Nat} (h:i≠b):(ChangeMaps.setBlock w b o).heap[i]? =w.heap[i]? :=by
 simp[ChangeMaps.setBlock,Ne.symm h]
section
variable {P : Program} {k t e : TypeId} {w w' : World} {b : Nat} {m : List (Value × Value)} {key val z : Value}
theorem dB.lt (h:dB P k w b m):b<w.heap.size:=by
 obtain⟨es,clock,hb,_⟩:=h;exact(Array.getElem?_eq_some_iff.1 hb).1
theorem dB.same (h:dB P k w b m) (hs:w'.heap[b]? =w.heap[b]?):dB P k w' b m:=by
 obtain⟨es,clock,hb,h2⟩:=h;exact⟨es,clock,hs.trans hb,h2⟩
theorem dB.made (w:World):dB P k (w.alloc (.map #[] 0)) w.heap.size []:=⟨#[],0,(MapKept.heap_alloc w _).1,rfl,List.nodup_nil,by simp⟩
theorem dB.keys {es:Array MapEntry} (h:es.toList.map (fun e=>(e.key,e.val))=m) (hk: ∀p∈m,∃l,keyOf P k p.1=some l): ∀x∈es.toList,∃l,keyOf P k x.key=some l:=fun x hx=>hk (x.key,x.val) (by rw[<-h]; exact List.mem_map.2 ⟨x,hx,rfl⟩)
theorem rT : ∀ {m:List (Value×Value)} {key v v':Value},(m.map Prod.fst).Nodup->(key,v)∈m->(key,v')∈m->v=v'
 | [],_,_,_,_,h,_=>by simp at h
 | (a,x)::m,key,v,v',hn,h,h'=>by
  simp only[List.map_cons,List.nodup_cons]at hn
  rcases List.mem_cons.1 h with h | h<;> rcases List.mem_cons.1 h' with h' | h'
  ·cases h; cases h'; rfl
  ·cases h
   exact absurd (List.mem_map.2 ⟨_,h',rfl⟩) hn.1
  ·cases h'
   exact absurd (List.mem_map.2 ⟨_,h,rfl⟩) hn.1
  ·exact rT hn.2 h h'
theorem dB.hit (h:dB P k w b m) (K:Keyed P k) (ht:P.underlying t=some (.map k e)) (hkey: ∃l,keyOf P k key=some l) (hm:(key,val)∈m) (c:Bool):
  (Instr.lookup t (.map (some b)) key c).run P w= .ok (if c then .tuple #[val, .bool true]else val) w:=by
 obtain⟨es,clock,hb,he,hn,hk⟩:=h;obtain⟨kl,hkl⟩:=hkey
 rcases K.find w hkl es.toList (dB.keys he hk)with⟨h1,h2⟩ | ⟨j,e0,h1,h2,h3⟩
 ·rw[<-he]at hm;obtain⟨x,hx,hxe⟩:=List.mem_map.1 hm;exact absurd (congrArg Prod.fst hxe) (h2 x hx)
 ·have hv:e0.val=val:=by
   refine rT hn (key:=key) ?_ hm;rw[<-he,<-h3];exact List.mem_map.2 ⟨e0,List.mem_of_getElem? h2,rfl⟩
  cases c<;> simp[Instr.lookup,run_underlying ht,MapKept.run_getObj_map hb,K.check w _ hkl,h1,hv,Result.andThen]
theorem dB.miss (h:dB P k w b m) (K:Keyed P k) (ht:P.underlying t=some (.map k e)) (hz:(zeroValue e).run P w= .ok z w) (hkey: ∃l,keyOf P k key=some l) (hm: ∀p∈m,p.1≠key) (c:Bool):
  (Instr.lookup t (.map (some b)) key c).run P w= .ok (if c then .tuple #[z, .bool false]else z) w:=by
 obtain⟨es,clock,hb,he,hn,hk⟩:=h;obtain⟨kl,hkl⟩:=hkey
 rcases K.find w hkl es.toList (dB.keys he hk)with⟨h1,h2⟩ | ⟨j,e0,h1,h2,h3⟩
 ·cases c<;> simp[Instr.lookup,run_underlying ht,MapKept.run_getObj_map hb,K.check w _ hkl,h1,hz,Result.andThen]
 ·exact absurd h3 (hm (e0.key,e0.val) (by rw[<-he]; exact List.mem_map.2 ⟨e0,List.mem_of_getElem? h2,rfl⟩))
theorem dB.put (h:dB P k w b m) (K:Keyed P k) (ht:P.underlying t=some (.map k e)) (hkey: ∃l,keyOf P k key=some l) (hm: ∀p∈m,p.1≠key) (val:Value):
  ∃w',(Instr.mapUpdate t (.map (some b)) key val).run P w= .ok () w'/\dB P k w' b (m++[(key,val)])/\w.grownBy w' (some b):=by
 obtain⟨es,clock,hb,he,hn,hk⟩:=h;obtain⟨kl,hkl⟩:=hkey
 rcases K.find w hkl es.toList (dB.keys he hk)with⟨h1,h2⟩ | ⟨j,e0,h1,h2,h3⟩
 ·refine⟨ChangeMaps.setBlock w b (.map (es.push ⟨key,val,clock⟩) (clock+1)), ?_,⟨_,_,pg hb _, ?_, ?_, ?_⟩,⟨rfl,rfl,rfl,by simp[ChangeMaps.setBlock],fun i _ hi=>rF hb _ (fun e=>hi (by rw[e]))⟩⟩
  ·simp[Instr.mapUpdate,run_underlying ht,MapKept.run_getObj_map hb,K.check w false hkl,h1,MapKept.run_setObj_map _ hb,Result.andThen,ChangeMaps.setBlock]
  ·simp[<-he]
  ·rw[List.map_append,List.nodup_append];refine⟨hn,by simp,fun a ha b' hb' e=> ?_⟩;obtain⟨p,hp,rfl⟩:=List.mem_map.1 ha;simp only[List.map_cons,List.map_nil,List.mem_singleton]at hb';exact hm p hp (e.trans hb')
  ·intro p hp
   rcases List.mem_append.1 hp with hp | hp
   ·exact hk p hp
   ·simp only[List.mem_singleton]at hp;subst hp;exact⟨kl,hkl⟩
 ·exact absurd h3 (hm (e0.key,e0.val) (by rw[<-he]; exact List.mem_map.2 ⟨e0,List.mem_of_getElem? h2,rfl⟩))
end
theorem yi {P:Program} {w:World} {ops:Array Oper} {rest:List Oper} {o:Oper} {a:Act} {Q:Exit->Act->World->Prop} {k e:TypeId} (K:Keyed P k) (hg:o.guard=none) (mo x v:Operand) (t:TypeId) (hop:o.op=Op.mapUpdate t mo x v)
  (ht:P.underlying t=some (.map k e)) (b:Nat) (m:List (Value×Value)) (h:dB P k w b m) (hmo:a.eval mo= .map (some b)) (key val:Value) (hx:a.eval x=key) (hv:a.eval v=val) (hkey: ∃l,keyOf P k key=some l) (hnew: ∀p∈m,p.1≠key)
  (hK: ∀w',dB P k w' b (m++[(key,val)])->w.grownBy w' (some b)->wpList P ops Q rest (a.put o.dst undef) w'):wpList P ops Q (o::rest) a w:=by
 refine wpList_plain hg fun K' hK'=> ?_
 obtain⟨w',hrun,r1,r2⟩:=h.put K ht hkey hnew val;unfold Oper.wp;simp[execOp,hop,hmo,hx,hv,hrun,Result.andThen];exact hK' _ _ (hK w' r1 r2)
structure aG where
 name:ByteArray
 gen:Int
 size:Int
deriving DecidableEq
def aX (r:aG):Value:= .agg #[.string r.name, .int .i64 r.gen, .int .i64 r.size]
def cG (r:aG):List Value:=[.string r.name, .int .i64 r.gen, .int .i64 r.size]
structure aW (r : aG) : Prop where
 nm:r.name.size<=maxLen
 gn:(Lit.int .i64 r.gen).wf=true
 sz:(Lit.int .i64 r.size).wf=true
theorem vQ {r r':aG} (h:aX r=aX r'):r=r':=by
 cases r; cases r'
 simp only[aX,Value.agg.injEq,Array.mk.injEq,List.cons.injEq,Value.string.injEq,Value.int.injEq,true_and,and_true]at h;obtain⟨h1,h2,h3⟩:=h;rw[h1,h2,h3]
def fc (c:List Value) (r:aG):Prop:=c=cG r/\aW r
theorem fc.len (c:List Value) (r:aG) (h:fc c r):c.length=3:=by rw[h.1]; rfl
def aM (S:Nat->Prop) (w:World) (v:Value) (rs:List aG):Prop:=aL S w 3 fc v rs
theorem nY :laidOutB Tryz.prog=true:=by kernel_rfl
theorem Gc :(26:TypeId)<Tryz.prog.types.size:=of_decide_eq_true (by kernel_rfl)
theorem oD :Tryz.prog.cellsOf 26=3:=by kernel_rfl
theorem EC :Tryz.prog.keyTypeAt 2 26=true:=by kernel_rfl
theorem xz :Tryz.prog.keyType 26=true:=by kernel_rfl
theorem xB :Keyed Tryz.prog 26:=Keyed.of_law (deep_law_laid nY (m:=2) (by omega) Gc EC (by rw[Tryz.underlying26]))
theorem Fm : ∃n,Tryz.prog.types.size+1=n+3:=⟨Tryz.prog.types.size-2,by have:2<=Tryz.prog.types.size:=of_decide_eq_true (by kernel_rfl); omega⟩
theorem xy {r:aG} (h:aW r): ∃l,keyOf Tryz.prog 26 (aX r)=some l:=by
 obtain⟨h1,h2,h3⟩:=h;have c1:Tryz.prog.cellsOf 9=1:=by kernel_rfl
 have c2:Tryz.prog.cellsOf 3=1:=by kernel_rfl
 have hl: ∃ls,Tryz.prog.keyLits (Tryz.prog.types.size+1) 26 (cG r)=some ls:=by
  obtain⟨n,hn⟩:=Fm;rw[hn];simp[Program.keyLits,Tryz.underlying26,Tryz.underlying9,Tryz.underlying3,cG,oD,c1,c2,h1,h2,h3]
 obtain⟨ls,hls⟩:=hl;refine⟨.string (keyBytes ls), ?_⟩;have hf:(aX r).formed Tryz.prog 26=true:=by simp[aX,Value.formed,Tryz.underlying26,oD]
 have hc:(aX r).cells.toList=cG r:=rfl;unfold keyOf;rw[Tryz.underlying26];simp only[xz,hf,hc,hls,Bool.and_self,if_true,Option.map_some]
theorem yJ (r r':aG) (w:World):(Op.equalIn 10000 26 (aX r) (aX r')).run Tryz.prog w= .ok (decide (r=r')) w:=by
 have u1:=Tryz.underlying9;have u2:=Tryz.underlying3;have hS:Tryz.prog.underlying 26=some (.struct (Tryz.prog.fieldsOf 26)):=by kernel_rfl
 rw[show(10000:Nat)=9999+1 from rfl];unfold aX;rw[run_equalIn_struct w 9999 26 _ _ hS (by kernel_rfl)];simp only[Program.fieldsOf,Tryz.underlying26]
 go_simp
 obtain⟨n,g,s⟩:=r;obtain⟨n',g',s'⟩:=r';have hn:n.toList=n'.toList<->n=n':=⟨fun h=>ft (by rw[<-cO,<-cO,h]),fun h=>by rw[h]⟩;simp only[aG.mk.injEq,hn]
 by_cases h1:n=n'<;> by_cases h2:g=g'<;> by_cases h3:s=s'<;> simp[h1,h2,h3]
structure cb (w : World) (b : Nat) (l : List aG) : Prop where
 map:dB Tryz.prog 26 w b (l.map fun r=>(aX r, .bool true))
 ok: ∀r∈l,aW r
theorem cb.same {w w':World} {b:Nat} {l:List aG} (h:cb w b l) (hs:w'.heap[b]? =w.heap[b]?):cb w' b l:=⟨h.map.same hs,h.ok⟩
theorem cb.nodup {w:World} {b:Nat} {l:List aG} (h:cb w b l):l.Nodup:=by
 obtain⟨es,clock,_,_,hn,_⟩:=h.map;rw[List.map_map]at hn;exact(List.pairwise_map.1 hn).imp (fun h e=>h (by rw[e]))
theorem cb.look {w:World} {b:Nat} {l:List aG} (h:cb w b l) {r:aG} (hr:aW r):(Instr.lookup 120 (.map (some b)) (aX r) false).run Tryz.prog w= .ok (.bool (decide (r∈l))) w:=by
 by_cases hm:r∈l
 ·rw[h.map.hit xB Tryz.underlying120 (xy hr) (val:= .bool true) (List.mem_map.2 ⟨r,hm,rfl⟩) false];simp[hm]
 ·rw[h.map.miss xB Tryz.underlying120 (z:= .bool false) (by kernel_rfl) (xy hr) (fun p hp e=> ?_) false]
  ·simp[hm]
  ·obtain⟨x,hx,rfl⟩:=List.mem_map.1 hp;exact hm (vQ e▸hx)
theorem cL {w:World} {ops:Array Oper} {rest:List Oper} {o:Oper} {a:Act} {Q:Exit->Act->World->Prop} (hg:o.guard=none) (mo x v:Operand) (hop:o.op=Op.mapUpdate 120 mo x v) (b:Nat) (l:List aG) (h:cb w b l) (hmo:a.eval mo= .map (some b)) (r:aG) (hr:aW r) (hx:a.eval x=aX r) (hv:a.eval v= .bool true) (hnew:r∉l)
  (hK: ∀w',cb w' b (l++[r])->w.grownBy w' (some b)->wpList Tryz.prog ops Q rest (a.put o.dst undef) w'):wpList Tryz.prog ops Q (o::rest) a w:=
 yi xB hg mo x v _ hop Tryz.underlying120 b _ h.map hmo _ _ hx hv (xy hr) (fun p hp e=>by
  obtain⟨y,hy,rfl⟩:=List.mem_map.1 hp;exact hnew (vQ e▸hy)) (fun w' h1 h2=>hK w' ⟨by rw[List.map_append]; exact h1,fun y hy=>by
   rcases List.mem_append.1 hy with hy | hy
   ·exact h.ok y hy
   ·simp only[List.mem_singleton]at hy; subst hy; exact hr⟩ h2)
theorem cb.made (w:World):cb (w.alloc (.map #[] 0)) w.heap.size []:=⟨dB.made w,by simp⟩
structure bg (S : Nat → Prop) (w w' : World) : Prop where
 os:w'.os=w.os
 tape:w'.tape=w.tape
 output:w'.output=w.output
 size:w.heap.size<=w'.heap.size
 block: ∀k,k<w.heap.size-> ¬S k->w'.heap[k]? =w.heap[k]?
theorem bg.refl (S:Nat->Prop) (w:World):bg S w w:=⟨rfl,rfl,rfl,Nat.le_refl _,fun _ _ _=>rfl⟩
theorem bg.trans {S T:Nat->Prop} {a b c:World} (h:bg S a b) (k:bg T b c) (hT: ∀i,i<a.heap.size->T i->S i):bg S a c:=
 ⟨k.os.trans h.os,k.tape.trans h.tape,k.output.trans h.output,Nat.le_trans h.size k.size,fun i hi hn=>(k.block i (Nat.lt_of_lt_of_le hi h.size) (fun ht=>hn (hT i hi ht))).trans (h.block i hi hn)⟩
theorem bg.of_below {S:Nat->Prop} {w w':World} (h:Below w.heap.size w w'):bg S w w':=⟨h.os,h.tape,h.output,h.size,fun k hk _=>h.block k hk⟩
theorem bg.of_grown {S:Nat->Prop} {w w':World} {r:Option Nat} (h:w.grownBy w' r) (hr: ∀k,r=some k->S k):bg S w w':=⟨h.os,h.tape,h.output,h.size,fun k hk hn=>h.block k hk (fun e=>hn (hr k e.symm))⟩
theorem bg.below {S:Nat->Prop} {w w':World} (h:bg S w w') {B:Nat} (hB:B<=w.heap.size) (hS: ∀k,S k->B<=k):Below B w w':=⟨h.os,h.tape,h.output,h.size,fun k hk=>h.block k (by omega) (fun hs=>by have:=hS k hs; omega)⟩
end Go.Proofs.YtpffpjbkbaleiaaGreatDoor
namespace Go.Proofs.YtpffpjbkbaleiaaGreatDoor
def ky (l:List UInt8):Bool:=l.all fun c=>decide (32<=c.toNat)
def qf (l:List UInt8):Bool:=ky l && Lib.validD l
def dD (l:List UInt8):Bool:= !l.isEmpty && decide (l.length<=64) && (l != [46]) && (l != [46,46]) && !l.contains 47 && qf l
def aU (c:UInt8):List UInt8->List (List UInt8)
 | []=>[[]]
 | b::l=>if b=c then []::aU c l else
  match aU c l with
  | h::t=>(b::h)::t
  | []=>[[b]]
def DN (ps:List (List UInt8)):List UInt8:=Lib.join ps [47]
def bo (l:List UInt8):Bool:=decide (l.length<=512) && decide ((aU 47 l).length<=16) && (aU 47 l).all dD
def dS (c:UInt8):Int:=if c=47 then -1 else c.toNat
def cU :List UInt8->List UInt8->Int
 | [],[]=>0
 | [],_::_=> -1
 | _::_,[]=>1
 | a::l,b::r=>if a=b then cU l r else Lib.compareInt (dS a) (dS b)
theorem jb (c:UInt8) (l:List UInt8):aU c l≠[]:=by
 cases l with
 | nil=>simp[aU]
 | cons b l=>
  unfold aU
  split
  ·simp
  ·split<;> simp
theorem xT (c:UInt8) (l:List UInt8):1<=(aU c l).length:=by
 have:=jb c l
 cases h:aU c l with
 | nil=>exact absurd h this
 | cons a t=>simp
theorem qN (c:UInt8) (l:List UInt8):(aU c l).length<=l.length+1:=by
 induction l with
 | nil=>simp[aU]
 | cons b l ih=>
  unfold aU
  split
  ·simp; omega
  ·split
   ·rename_i h t e; rw[e]at ih; simp at ih ⊢; omega
   ·simp
theorem iH (c:UInt8) (p q:List UInt8) (hp:c∉p):aU c (p++c::q)=p::aU c q:=by
 induction p with
 | nil=>simp[aU]
 | cons b p ih=>
  have hb:b≠c:=fun e=>hp (by simp[e])
  have ih:=ih (fun h=>hp (List.mem_cons_of_mem _ h));simp only[List.cons_append,aU,if_neg hb,ih]
theorem eA (c:UInt8) (p:List UInt8) (hp:c∉p):aU c p=[p]:=by
 induction p with
 | nil=>rfl
 | cons b p ih=>
  have hb:b≠c:=fun e=>hp (by simp[e])
  have ih:=ih (fun h=>hp (List.mem_cons_of_mem _ h));simp only[aU,if_neg hb,ih]
theorem vi (c:UInt8) (l:List UInt8):Lib.join (aU c l) [c]=l:=by
 induction l with
 | nil=>rfl
 | cons b l ih=>
  unfold aU
  split
  ·rename_i hb; subst hb
   cases h:aU b l with
   | nil=>exact absurd h (jb b l)
   | cons a t=>rw[h]at ih; rw[Lib.join_cons]at *; simp[Lib.joinTail]at *; exact ih
  ·split
   ·rename_i h t e; rw[e]at ih; rw[Lib.join_cons]at *; simp at *; exact ih
   ·rename_i e; exact absurd e (jb c l)
theorem rI (l:List UInt8) (c:UInt8) (h:c∈l): ∃p q,l=p++c::q/\c∉p:=by
 induction l with
 | nil=>simp at h
 | cons b l ih=>
  by_cases hb:b=c
  ·exact⟨[],l,by simp[hb],by simp⟩
  ·have:c∈l:=(List.mem_cons.1 h).resolve_left (Ne.symm hb);obtain⟨p,q,rfl,hp⟩:=ih this;exact⟨b::p,q,rfl,by simp[hp,Ne.symm hb]⟩
theorem zT (p q:List UInt8) (c:UInt8) (hp:c∉p):Lib.index (p++c::q) [c]=(p.length:Int):=by
 induction p with
 | nil=>simp[Lib.index,List.isPrefixOf]
 | cons b p ih=>
  have hb:b≠c:=fun e=>hp (by simp[e])
  have ih:=ih (fun h=>hp (List.mem_cons_of_mem _ h));rw[List.cons_append,Lib.index,ih];have h1:([c]:List UInt8).isPrefixOf (b::(p++c::q))=false:=by simp[List.isPrefixOf,Ne.symm hb]
  have h2:((p.length:Int) == -1)=false:=by rw[beq_eq_false_iff_ne]; omega
  rw[h1,h2]; simp
theorem sx (c:UInt8): ∀(k:Nat) (s:List UInt8),s.count c=k->Lib.splitK [c] 0 k s=aU c s
 | 0,s,h=>by
  have:c∉s:=List.count_eq_zero.1 h;rw[eA c s this]; rfl
 | k+1,s,h=>by
  have hc:c∈s:=List.count_pos_iff.1 (by omega);obtain⟨p,q,rfl,hp⟩:=rI s c hc;have hq:q.count c=k:=by
   have h0:p.count c=0:=List.count_eq_zero.2 hp;rw[List.count_append,h0,List.count_cons_self]at h; omega
  rw[iH c p q hp,Lib.splitK,zT p q c hp,if_neg (by simp)];simp only[Int.toNat_natCast,Nat.add_zero,List.length_cons,List.length_nil,Nat.zero_add];rw[List.take_left];have e:(p++c::q).drop (p.length+1)=q:=by rw[List.drop_append]; simp
  rw[e,sx c k q hq]
theorem Bf (c:UInt8) (s:ByteArray):(Lib.splitB ⟨#[c]⟩ 0 (Lib.countB s ⟨#[c]⟩) s).map (·.data.toList)=aU c s.data.toList:=by
 rw[Lib.splitB_data];exact sx c _ _ (by rw[Lib.countB,Lib.count_one])
theorem xR (c:UInt8) (s:ByteArray):(Lib.splitB ⟨#[c]⟩ 0 (Lib.countB s ⟨#[c]⟩) s).length=Lib.countB s ⟨#[c]⟩+1:=
 Lib.splitB_all ⟨#[c]⟩ (by simp[ByteArray.size]) 0 _ s rfl
theorem eU (l:List UInt8) (c:UInt8):decide (0<=Lib.indexByte l c)=l.contains c:=by
 induction l with
 | nil=>simp[Lib.indexByte]
 | cons b l ih=>
  have hge:=Lib.indexByte_ge l c;unfold Lib.indexByte
  by_cases hb:b=c
  ·subst hb; simp
  ·have h1:(b == c)=false:=by simpa using hb
   have h2:(c == b)=false:=by simpa using Ne.symm hb
   rw[h1];simp only[Bool.false_eq_true,if_false,List.contains_cons,h2,Bool.false_or,<-ih]
   by_cases hm:Lib.indexByte l c= -1
   ·simp[hm]
   ·rw[if_neg (by simpa using hm)]; congr 1; apply propext; omega
theorem uC (s:ByteArray) (pos:Nat) (h:pos<s.size) (ha:128<=(s.get! pos).toNat):
  pos+(Utf8.decode s pos).2<=s.size/\ ∀j,pos<=j->j<pos+(Utf8.decode s pos).2->128<=(s.get! j).toNat:=by
 have hn: ¬(s.get! (pos+0)).toNat<128:=by simpa using ha
 simp only[Utf8.decode,hn,if_false]
 repeat' split
 all_goals simp_all
 all_goals (refine⟨by omega,fun j h1 h2=> ?_⟩)
 all_goals (rcases Nat.lt_or_ge j (pos+1)with h3 | h3)
 all_goals (first | (rw[show j=pos by omega]; exact ha) | skip)
 all_goals (rcases Nat.lt_or_ge j (pos+2)with h4 | h4)
 all_goals (first | (rw[show j=pos+1 by omega]; omega) | skip)
 all_goals (rcases Nat.lt_or_ge j (pos+3)with h5 | h5)
 all_goals (first | (rw[show j=pos+2 by omega]; omega) | skip)
 all_goals (first | (rw[show j=pos+3 by omega]; omega) | skip)
 all_goals omega
theorem xS (c:UInt8) (p q:List UInt8):aU c (p++c::q)=aU c p++aU c q:=by
 induction p with
 | nil=>simp[aU]
 | cons b p ih=>
  simp only[List.cons_append,aU]
  by_cases hb:b=c
  ·simp[hb,ih]
  ·rw[if_neg hb,if_neg hb,ih]
   cases h:aU c p with
   | nil=>exact absurd h (jb c p)
   | cons a t=>simp
def aT (l:List UInt8):List UInt8:=DN (aU 47 l).dropLast
theorem jv (l:List UInt8) (h:47∉l):aT l=[]:=by
 unfold aT; rw[eA 47 l h]; rfl
theorem il (p q:List UInt8) (h:47∉q):aT (p++47::q)=p:=by
 unfold aT DN;rw[xS,eA 47 q h,List.dropLast_concat,vi]
theorem lm (l:List UInt8) (h:47∈l): ∃p q,l=p++47::q/\47∉q:=by
 induction l with
 | nil=>simp at h
 | cons b l ih=>
  by_cases hm:(47:UInt8)∈l
  ·obtain⟨p,q,rfl,hq⟩:=ih hm;exact⟨b::p,q,rfl,hq⟩
  ·rcases List.mem_cons.1 h with rfl | h
   ·exact⟨[],l,rfl,hm⟩
   ·exact absurd h hm
theorem lW (l:List UInt8):aT l=l.take (aT l).length:=by
 by_cases h:(47:UInt8)∈l
 ·obtain⟨p,q,rfl,hq⟩:=lm l h;rw[il p q hq]; simp
 ·rw[jv l h]; simp
end Go.Proofs.YtpffpjbkbaleiaaGreatDoor
