/- Rows of structs: cells that are read as a list of things. -/
import Derived.Test.YtlipekkiaiaplaaDoorOwn
namespace Go.Proofs.YtlipekkiaiaplaaDoor
open Go.RowKit

def RowsIn {α : Type} (R : List Value → α → Prop) : List Value → List α → Prop
  | cells, [] => cells = []
  | cells, x :: xs => ∃ c rest, cells = c ++ rest ∧ R c x ∧ RowsIn R rest xs

section
variable {α : Type} {R R' : List Value → α → Prop} {sz : Nat}
theorem RowsIn.mono : ∀ {xs : List α} {cells : List Value}, (∀ c x, x ∈ xs → R c x → R' c x) → RowsIn R cells xs → RowsIn R' cells xs
  | [], _, _, h => h
  | x :: xs, cells, hm, h => by
    obtain ⟨c, rest, rfl, hc, hr⟩ := h
    exact ⟨c, rest, rfl, hm c x (by simp) hc, RowsIn.mono (fun c y hy => hm c y (by simp [hy])) hr⟩
theorem RowsIn.snoc : ∀ {xs : List α} {cells c : List Value} {x : α}, RowsIn R cells xs → R c x → RowsIn R (cells ++ c) (xs ++ [x])
  | [], cells, c, x, h, hc => by
    have : cells = [] := h
    subst this
    exact ⟨c, [], by simp, hc, rfl⟩
  | y :: xs, cells, c, x, h, hc => by
    obtain ⟨d, rest, rfl, hd, hr⟩ := h
    exact ⟨d, rest ++ c, by simp, hd, RowsIn.snoc hr hc⟩
theorem RowsIn.len (hs : ∀ c x, R c x → c.length = sz) : ∀ {xs : List α} {cells : List Value}, RowsIn R cells xs → cells.length = xs.length * sz
  | [], cells, h => by have : cells = [] := h; subst this; simp
  | x :: xs, cells, h => by
    obtain ⟨c, rest, rfl, hc, hr⟩ := h
    rw [List.length_append, hs c x hc, RowsIn.len hs hr, List.length_cons, Nat.add_mul]; omega
theorem RowsIn.get (hs : ∀ c x, R c x → c.length = sz) : ∀ {xs : List α} {cells : List Value} {i : Nat} {x : α}, RowsIn R cells xs → xs[i]? = some x → ∃ c, R c x ∧ ∀ j, j < sz → cells[i * sz + j]? = c[j]?
  | [], _, i, _, _, hi => by simp at hi
  | y :: xs, cells, 0, x, h, hi => by
    obtain ⟨c, rest, rfl, hc, hr⟩ := h
    simp at hi; subst hi
    refine ⟨c, hc, fun j hj => ?_⟩
    rw [Nat.zero_mul, Nat.zero_add, List.getElem?_append_left (by rw [hs c y hc]; exact hj)]
  | y :: xs, cells, i + 1, x, h, hi => by
    obtain ⟨c, rest, rfl, hc, hr⟩ := h
    obtain ⟨d, hd, hj⟩ := RowsIn.get hs hr (i := i) (x := x) (by simpa using hi)
    refine ⟨d, hd, fun j hjs => ?_⟩
    have hl := hs c y hc
    rw [List.getElem?_append_right (by rw [hl, Nat.add_mul]; omega), hl, ← hj j hjs]
    congr 1
    rw [Nat.add_mul]; omega
theorem RowsIn.drop (hs : ∀ c x, R c x → c.length = sz) : ∀ {xs : List α} {cells : List Value} (i : Nat), RowsIn R cells xs → i ≤ xs.length → RowsIn R (cells.drop (i * sz)) (xs.drop i)
  | _, _, 0, h, _ => by simpa using h
  | [], _, i + 1, _, hi => by simp at hi
  | y :: xs, cells, i + 1, h, hi => by
    obtain ⟨c, rest, rfl, hc, hr⟩ := h
    have := RowsIn.drop hs i hr (by simpa using hi)
    rw [List.drop_succ_cons, Nat.add_mul, Nat.one_mul, Nat.add_comm, List.drop_append, hs c y hc]
    simp only [Nat.add_sub_cancel_left]
    rw [List.drop_of_length_le (by rw [hs c y hc]; omega)]
    exact this
end

/-- A slice value behind which a list of things lies, sz cells each. -/
def SeqAt {α : Type} (S : Nat → Prop) (w : World) (sz : Nat) (R : List Value → α → Prop) (v : Value) (xs : List α) : Prop :=
  ∃ cells, RowAt S w sz v xs.length cells ∧ RowsIn R cells xs

section
variable {α : Type} {S T : Nat → Prop} {w w' : World} {sz : Nat} {R R' : List Value → α → Prop} {v : Value} {xs : List α}
theorem SeqAt.shape (h : SeqAt S w sz R v xs) (hs : ∀ c x, R c x → c.length = sz) :
    ∃ a cap, v = .slice a xs.length cap ∧ xs.length ≤ cap ∧ cap ≤ maxLen ∧ ∀ (k : Nat) x, xs[k]? = some x → ∃ b o c, a = some ⟨b, o, none⟩ ∧ S b ∧ R c x ∧ c.length = sz ∧ ∀ j, j < sz → w.cell? ⟨b, o + (k * sz + j), none⟩ = c[j]? := by
  obtain ⟨cells, ⟨hl, a, cap, hv, hn, hm, h0⟩, hr⟩ := h
  refine ⟨a, cap, hv, hn, hm, fun k x hk => ?_⟩
  rcases h0 with h0 | ⟨b, o, ha, hb, hc⟩
  · simp [List.eq_nil_of_length_eq_zero h0] at hk
  · obtain ⟨c, hcx, hj⟩ := hr.get hs hk
    refine ⟨b, o, c, ha, hb, hcx, hs c x hcx, fun j hjs => ?_⟩
    have hlt : j < c.length := by rw [hs c x hcx]; exact hjs
    rw [List.getElem?_eq_getElem hlt]
    exact hc _ _ (by rw [hj j hjs, List.getElem?_eq_getElem hlt])
theorem SeqAt.same (h : SeqAt S w sz R v xs) (hs : SameOn S w w') (hR : ∀ c x, x ∈ xs → R c x → R' c x) : SeqAt S w' sz R' v xs := by
  obtain ⟨cells, h1, h2⟩ := h
  exact ⟨cells, h1.same hs, h2.mono hR⟩
theorem SeqAt.below (h : SeqAt S w sz R v xs) (hsz : 0 < sz) (hb : Below w.heap.size w w') (hR : ∀ c x, x ∈ xs → R c x → R' c x) : SeqAt S w' sz R' v xs := by
  obtain ⟨cells, h1, h2⟩ := h
  exact ⟨cells, h1.below hsz hb, h2.mono hR⟩
theorem SeqAt.mono (h : SeqAt S w sz R v xs) (hsz : 0 < sz) (hs : ∀ k, k < w.heap.size → S k → T k) (hR : ∀ c x, x ∈ xs → R c x → R' c x) : SeqAt T w sz R' v xs := by
  obtain ⟨cells, h1, h2⟩ := h
  exact ⟨cells, h1.mono hs hsz, h2.mono hR⟩
theorem SeqAt.nil : SeqAt S w sz R (.slice none 0 0) ([] : List α) := ⟨[], RowAt.nil _ _ _, rfl⟩
end
theorem add_lit (b o n : Nat) : (⟨b, o, none⟩ : Addr).add n = ⟨b, o + n, none⟩ := by unfold Addr.add; split <;> simp_all

end Go.Proofs.YtlipekkiaiaplaaDoor
