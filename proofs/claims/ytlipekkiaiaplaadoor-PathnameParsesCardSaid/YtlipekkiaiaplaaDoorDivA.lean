/- divide: what it keeps in memory, and the plain law of its search. -/
import Derived.Test.YtlipekkiaiaplaaDoorPatF
namespace Go.Proofs.YtlipekkiaiaplaaDoor
open Go.RowKit

def ptr (b : Nat) : Value := .pointer (some ⟨b, 0, none⟩)
def fromV (f B : Nat) : Value := .func (.func f) #[] #[.pointer (some ⟨B + 1, 0, none⟩), .pointer (some ⟨B + 5, 0, none⟩), .pointer (some ⟨B, 0, none⟩), .pointer (some ⟨B + 2, 0, none⟩), .pointer (some ⟨B + 3, 0, none⟩), .pointer (some ⟨B + 6, 0, none⟩)]
structure DivSt (w0 : World) (B N f : Nat) (pv tv sv mv : Value) (tr : List Bool) (w : World) : Prop where
  c0 : w.cell? ⟨B, 0, none⟩ = some pv
  c1 : w.cell? ⟨B + 1, 0, none⟩ = some tv
  c2 : w.cell? ⟨B + 2, 0, none⟩ = some sv
  c3 : w.cell? ⟨B + 3, 0, none⟩ = some mv
  c5 : w.cell? ⟨B + 5, 0, none⟩ = some (.slice (some ⟨B + 4, 0, none⟩) N N)
  c6 : w.cell? ⟨B + 6, 0, none⟩ = some (.func (.func f) #[] #[.pointer (some ⟨B + 1, 0, none⟩), .pointer (some ⟨B + 5, 0, none⟩), .pointer (some ⟨B, 0, none⟩), .pointer (some ⟨B + 2, 0, none⟩), .pointer (some ⟨B + 3, 0, none⟩), .pointer (some ⟨B + 6, 0, none⟩)])
  row : w.heap[B + 4]? = some (.cells (tr.map Value.bool).toArray 4 (0, 0))
  len : tr.length = N
  lt : B + 6 < w.heap.size
  below : Below B w0 w

theorem DivSt.grown {w0 : World} {B N f : Nat} {pv tv sv mv : Value} {tr : List Bool} {w w' : World} (h : DivSt w0 B N f pv tv sv mv tr w) (hb : Below w.heap.size w w') : DivSt w0 B N f pv tv sv mv tr w' := by
  obtain ⟨c0, c1, c2, c3, c5, c6, hr, hl, hlt, hbl⟩ := h
  refine ⟨(hb.cell (block_lt c0)).trans c0, (hb.cell (block_lt c1)).trans c1, (hb.cell (block_lt c2)).trans c2, (hb.cell (block_lt c3)).trans c3, (hb.cell (block_lt c5)).trans c5, (hb.cell (block_lt c6)).trans c6, ?_, hl, Nat.lt_of_lt_of_le hlt hb.size, hbl.trans (hb.mono (by omega))⟩
  rw [hb.block _ (by omega)]; exact hr
theorem DivSt.cell {w0 : World} {B N f : Nat} {pv tv sv mv : Value} {tr : List Bool} {w : World} (h : DivSt w0 B N f pv tv sv mv tr w) {q : Nat} {b : Bool} (hq : tr[q]? = some b) : w.cell? ⟨B + 4, q, none⟩ = some (.bool b) := by
  rw [cell_of_heap h.row]; simp [hq]
theorem DivSt.free {w0 : World} {B N f : Nat} {pv tv sv mv : Value} {tr : List Bool} {w : World} (h : DivSt w0 B N f pv tv sv mv tr w) (q : Nat) : w.frozen? ⟨B + 4, q, none⟩ = false := frozen_of_heap h.row
theorem DivSt.mark {w0 : World} {B N f : Nat} {pv tv sv mv : Value} {tr : List Bool} {w : World} (h : DivSt w0 B N f pv tv sv mv tr w) (q : Nat) : DivSt w0 B N f pv tv sv mv (tr.set q true) (w.setCell ⟨B + 4, q, none⟩ (.bool true)) := by
  obtain ⟨c0, c1, c2, c3, c5, c6, hr, hl, hlt, hbl⟩ := h
  have hc : ∀ k, k ≠ B + 4 → (w.setCell ⟨B + 4, q, none⟩ (.bool true)).cell? ⟨k, 0, none⟩ = w.cell? ⟨k, 0, none⟩ := fun k hk => World.cell?_of_block (w := w) (a := ⟨k, 0, none⟩) (Below.heap_setCell _ _ _ _ hk)
  refine ⟨(hc _ (by omega)).trans c0, (hc _ (by omega)).trans c1, (hc _ (by omega)).trans c2, (hc _ (by omega)).trans c3, (hc _ (by omega)).trans c5, (hc _ (by omega)).trans c6, ?_, by simp [hl], by simp [World.setCell]; exact hlt, hbl.setCell (by simp) _⟩
  simp only [World.setCell, Array.getElem?_modify, if_true, hr, Option.map_some]
  simp [List.map_set]

/-- The table of what has been tried, from row i on: what is marked leads to nothing. -/
def TrInv {P T : Type} (star : P → Bool) (M : P → T → Bool) (ps : List P) (ts : List T) (i : Nat) (tr : List Bool) : Prop :=
  ∀ i' j', i ≤ i' → i' ≤ ps.length → j' ≤ ts.length → tr[i' * (ts.length + 1) + j']? = some true → dv star M (ps.drop i') (ts.drop j') = false

section
variable {P T : Type} {star : P → Bool} {M : P → T → Bool} {ps : List P} {ts : List T} {i j : Nat} {tr tr' : List Bool}
theorem place_lt (m i j n : Nat) (hi : i ≤ n) (hj : j ≤ m) : i * (m + 1) + j < (n + 1) * (m + 1) := by
  have : i * (m + 1) ≤ n * (m + 1) := Nat.mul_le_mul_right _ hi
  rw [Nat.add_mul]; omega
theorem place_inj {m i j i' j' : Nat} (hj : j ≤ m) (hj' : j' ≤ m) (h : i * (m + 1) + j = i' * (m + 1) + j') : i = i' ∧ j = j' := by
  have h1 : (i * (m + 1) + j) / (m + 1) = i := by rw [Nat.mul_comm, Nat.mul_add_div (by omega)]; rw [Nat.div_eq_of_lt (by omega)]; omega
  have h2 : (i' * (m + 1) + j') / (m + 1) = i' := by rw [Nat.mul_comm, Nat.mul_add_div (by omega)]; rw [Nat.div_eq_of_lt (by omega)]; omega
  have : i = i' := by rw [← h1, ← h2, h]
  subst this
  exact ⟨rfl, by omega⟩
theorem TrInv.hit (h : TrInv star M ps ts i tr) (hi : i ≤ ps.length) (hj : j ≤ ts.length) (ht : tr[i * (ts.length + 1) + j]? = some true) : dv star M (ps.drop i) (ts.drop j) = false := h i j (Nat.le_refl _) hi hj ht
theorem TrInv.up (h : TrInv star M ps ts i tr) : TrInv star M ps ts (i + 1) tr := fun i' j' h1 => h i' j' (by omega)
/-- A mark in row i does not touch the rows behind. -/
theorem TrInv.marked (h : TrInv star M ps ts i tr) (hj : j ≤ ts.length) : TrInv star M ps ts (i + 1) (tr.set (i * (ts.length + 1) + j) true) := by
  intro i' j' h1 h2 h3 h4
  rw [List.getElem?_set_ne] at h4
  · exact h i' j' (by omega) h2 h3 h4
  · intro e; have := (place_inj hj h3 e).1; omega
/-- Back in row i: what lies behind is well, row i is as it was but for the mark, and the mark leads to nothing. -/
theorem TrInv.down (h : TrInv star M ps ts i tr) (h2 : TrInv star M ps ts (i + 1) tr') (hsame : ∀ q, q < (i + 1) * (ts.length + 1) → tr'[q]? = (tr.set (i * (ts.length + 1) + j) true)[q]?) (hf : dv star M (ps.drop i) (ts.drop j) = false) : TrInv star M ps ts i tr' := by
  intro i' j' h1 h3 h4 h5
  rcases Nat.lt_or_ge i i' with h6 | h6
  · exact h2 i' j' (by omega) h3 h4 h5
  · obtain rfl : i' = i := by omega
    rw [hsame _ (by rw [Nat.add_mul]; omega)] at h5
    by_cases e : j' = j
    · rw [e]; exact hf
    · rw [List.getElem?_set_ne] at h5
      · exact h i' j' (Nat.le_refl _) h3 h4 h5
      · omega
theorem dv_end (hi : i = ps.length) (hj : j ≤ ts.length) : dv star M (ps.drop i) (ts.drop j) = decide (j = ts.length) := by
  rw [hi, List.drop_length]
  unfold dv
  by_cases h : j = ts.length
  · simp [h]
  · have : ts.drop j ≠ [] := by intro e; have := List.drop_eq_nil_iff.1 e; omega
    simp [this, h]
theorem dv_one {p : P} (hp : ps[i]? = some p) (hs : star p = false) {t : T} (ht : ts[j]? = some t) : dv star M (ps.drop i) (ts.drop j) = (M p t && dv star M (ps.drop (i + 1)) (ts.drop (j + 1))) := by
  obtain ⟨hk, rfl⟩ := List.getElem?_eq_some_iff.1 hp
  obtain ⟨hk2, rfl⟩ := List.getElem?_eq_some_iff.1 ht
  rw [List.drop_eq_getElem_cons hk, List.drop_eq_getElem_cons hk2, dv, hs, if_neg (by simp), headM]
theorem dv_none {p : P} (hp : ps[i]? = some p) (hs : star p = false) (hj : ts.length ≤ j) : dv star M (ps.drop i) (ts.drop j) = false := by
  obtain ⟨hk, rfl⟩ := List.getElem?_eq_some_iff.1 hp
  rw [List.drop_eq_getElem_cons hk, List.drop_eq_nil_of_le hj, dv, hs, if_neg (by simp), headM]
theorem dv_star {p : P} (hp : ps[i]? = some p) (hs : star p = true) : dv star M (ps.drop i) (ts.drop j) = anySuf (dv star M (ps.drop (i + 1))) (ts.drop j) := by
  obtain ⟨hk, rfl⟩ := List.getElem?_eq_some_iff.1 hp
  rw [List.drop_eq_getElem_cons hk, dv, if_pos hs]
theorem anySuf_step (f : List T → Bool) (hj : j < ts.length) : anySuf f (ts.drop j) = (f (ts.drop j) || anySuf f (ts.drop (j + 1))) := by
  rw [List.drop_eq_getElem_cons hj, anySuf]
theorem anySuf_end (f : List T → Bool) (hj : j = ts.length) : anySuf f (ts.drop j) = f (ts.drop j) := by
  rw [hj, List.drop_length]; rfl
end

/-- What the closure leaves. -/
def FromRes {P T : Type} (star : P → Bool) (M : P → T → Bool) (ps : List P) (ts : List T) (i j : Nat) (w0 : World) (B N f : Nat) (pv tv sv mv : Value) (tr : List Bool) (e : Ending) (w' : World) : Prop :=
  ∃ tr', e = .returned (.bool (dv star M (ps.drop i) (ts.drop j))) ∧ DivSt w0 B N f pv tv sv mv tr' w' ∧ (dv star M (ps.drop i) (ts.drop j) = false → TrInv star M ps ts i tr') ∧ ∀ q, q < i * (ts.length + 1) → tr'[q]? = tr[q]?

/-- The closure's contract at row i. -/
def FromC {P T : Type} (star : P → Bool) (M : P → T → Bool) (ps : List P) (ts : List T) (i : Nat) (w0 : World) (B N f : Nat) (pv tv sv mv : Value) : Prop :=
  ∀ (ii jj : Int) (j : Nat) (w : World) (tr : List Bool), ii = i → jj = j → j ≤ ts.length → DivSt w0 B N f pv tv sv mv tr w → TrInv star M ps ts i tr →
    Calls Tryd.prog f #[.int .i64 ii, .int .i64 jj, .pointer (some ⟨B + 1, 0, none⟩), .pointer (some ⟨B + 5, 0, none⟩), .pointer (some ⟨B, 0, none⟩), .pointer (some ⟨B + 2, 0, none⟩), .pointer (some ⟨B + 3, 0, none⟩), .pointer (some ⟨B + 6, 0, none⟩)] w
      (FromRes star M ps ts i j w0 B N f pv tv sv mv tr)

end Go.Proofs.YtlipekkiaiaplaaDoor
