/- A region that draws its order: operations that yield the same in every world that meets S are taken first, in the order of the text; between them single operations that all wait for. -/
import Derived.Test.YtlipekkiaiaplaaDoorSegs
import Derived.OrdersHeld
import Derived.Deep.RegionHeld
namespace Go.Proofs.YtlipekkiaiaplaaDoor
open Go

section
variable {P : Program} {ops : Array Oper} {Q : Exit → Act → World → Prop} {S : World → Prop}
/-- A region on its way, closed to the look of 'whnf'. -/
@[irreducible] def Hld (P : Program) (ops : Array Oper) (Q : Exit → Act → World → Prop) (S : World → Prop) (fuel : Nat) (listed : Array Bool) (a : Act) (w : World) : Prop := wpAnyH P .any ops Q S fuel listed a w
theorem Hld.of {fuel : Nat} {listed : Array Bool} {a : Act} {w : World} (h : wpAnyH P .any ops Q S fuel listed a w) : Hld P ops Q S fuel listed a w := by unfold Hld; exact h
theorem Hld.out {fuel : Nat} {listed : Array Bool} {a : Act} {w : World} (h : Hld P ops Q S fuel listed a w) : wpAnyH P .any ops Q S fuel listed a w := by unfold Hld at h; exact h
theorem hld_start {id : Nat} {a : Act} {w : World} {l : List Oper} (S : World → Prop) (hm : P.follows .mixedOrders = true) (h : Hld P l.toArray Q S l.length (Array.replicate l.length false) a w.drew) : (Code.region id l.toArray true).wp P Q a w := by
  refine wp_region_held (S := S) hm ?_
  have := h.out
  simpa using this
theorem hld_take {dst : Option Tmp} {op : Op} {ty : TypeId} {pos : String} {aft : Array Edge} {g : Option (Nat × Bool)} {v : Value} {fuel : Nat} {listed : Array Bool} {a : Act} {w : World} (i : Nat) (hi : ops[i]? = some ⟨dst, op, ty, pos, aft, g⟩)
    (hs : Region.noSelect ops = true) (hf : Region.free .any ops listed i = true) (hr : (Region.ready .any ops listed).contains i = true)
    (hQ : ∀ c a w, Q (.panic c) (a.put dst v) w → Q (.panic c) a w) (hw : Region.wanted ⟨dst, op, ty, pos, aft, g⟩ (yielded ops a.tmps) = true) (hS : S w)
    (hy : ∀ w', S w' → (execOp a.eval ⟨dst, op, ty, pos, aft, g⟩).run P w' = .ok (.value v) w')
    (h : Hld P ops Q S fuel (listed.setIfInBounds i true) (a.put dst v) w) : Hld P ops Q S (fuel + 1) listed a w :=
  Hld.of (wpAnyH_take (oi := ⟨dst, op, ty, pos, aft, g⟩) hi hs hf hr hQ (.inl ⟨hw, hy⟩) hS h.out)

theorem hld_skip {dst : Option Tmp} {op : Op} {ty : TypeId} {pos : String} {aft : Array Edge} {g : Option (Nat × Bool)} {fuel : Nat} {listed : Array Bool} {a : Act} {w : World} (i : Nat) (hi : ops[i]? = some ⟨dst, op, ty, pos, aft, g⟩)
    (hs : Region.noSelect ops = true) (hf : Region.free .any ops listed i = true) (hr : (Region.ready .any ops listed).contains i = true)
    (hQ : ∀ c a w, Q (.panic c) (a.put dst undef) w → Q (.panic c) a w) (hw : Region.wanted ⟨dst, op, ty, pos, aft, g⟩ (yielded ops a.tmps) = false) (hS : S w)
    (h : Hld P ops Q S fuel (listed.setIfInBounds i true) (a.put dst undef) w) : Hld P ops Q S (fuel + 1) listed a w :=
  Hld.of (wpAnyH_take (oi := ⟨dst, op, ty, pos, aft, g⟩) hi hs hf hr hQ (.inr ⟨hw, rfl⟩) hS h.out)
theorem hld_bar {dst : Option Tmp} {op : Op} {ty : TypeId} {pos : String} {aft : Array Edge} {g : Option (Nat × Bool)} {fuel : Nat} {listed : Array Bool} {a : Act} {w : World} (i : Nat) (hi : ops[i]? = some ⟨dst, op, ty, pos, aft, g⟩) (hr : Region.ready .any ops listed = [i])
    (hw : Region.wanted ⟨dst, op, ty, pos, aft, g⟩ (yielded ops a.tmps) = true)
    (h : ∀ K : Act → World → Prop, (∀ a w, S w ∧ Hld P ops Q S fuel (listed.setIfInBounds i true) a w → K a w) → wpList P #[] (Exit.then K Q) [⟨dst, op, ty, pos, #[], none⟩] a w) : Hld P ops Q S (fuel + 1) listed a w := by
  refine Hld.of (wpAnyH_all hr (by simp) fun j hj => ?_)
  have hji : j = i := by simpa using hj
  subst hji
  have hb : Bar P ops (fun a' w' => S w' ∧ wpAnyH P .any ops Q S fuel (listed.setIfInBounds j true) a' w') Q [⟨dst, op, ty, pos, aft, g⟩] a w :=
    bar_run hw (fun K hK => h K (fun a w hh => hK a w ⟨hh.1, hh.2.out⟩))
  unfold wpOp
  simp only [hi]
  exact Bar.out hb
theorem hld_done {listed : Array Bool} {a : Act} {w : World} {fuel : Nat} (hr : Region.ready .any ops listed = []) (h : Q .normal a w) : Hld P ops Q S fuel listed a w := Hld.of (wpAnyH_done hr h fuel)
end
end Go.Proofs.YtlipekkiaiaplaaDoor
