/- From the form's reading of a slice to the rows of the walks. -/
import Derived.Test.YtlipekkiaiaplaaDoorFrame
import Derived.Test.YtlipekkiaiaplaaDoorRules
namespace Go.Proofs.YtlipekkiaiaplaaDoor
open Go.ChangeShapes Go.WideShapes Go.ChangeAt Go.RowKit Go.Lib Go.Shelf

section
variable {H : Type} {enc : TypeId × Value → H} {P : Program} {W : World} {base : Nat}
theorem add_add (a : Addr) (i j : Nat) : (a.add i).add j = a.add (i + j) := by
  unfold Addr.add
  by_cases hi : i = 0
  · simp [hi]
  · by_cases hj : j = 0
    · simp [hi, hj]
    · simp [hi, hj]; omega
/-- A slice that came in: its elements' cells, read by R. -/
theorem open_seq {α : Type} {R : List Value → α → Prop} {t e : TypeId} {sz b0 : Nat} {spare : Nat → Bool} {held : Bool} {v : Value} {d : DataW H} {ps : List MemPlace} (ht : P.underlying t = some (.slice e)) (hc : P.cellsOf e = sz) (hpos : 0 < sz)
    (hR : ∀ n cs y, DataW.trod enc P W base spare held n e cs = some y → ∃ x, R cs x) (hs : ∀ c x, R c x → c.length = sz)
    (hval : Value.okWide P W .any b0 t v) (h : DataW.Trod enc P W base spare held t v d ps) : ∃ xs : List α, SeqAt (fun _ => True) W sz R v xs := by
  obtain ⟨a0, len0, cap0, rfl⟩ := okWide_slice ht hval
  obtain ⟨fuel, hf⟩ := h
  rcases DataW.trod_slice ht hf with ⟨hcs, _⟩ | ⟨a, len, cap, elems, rest, n, _, hcs, _, hb, hl, hm, hlen, hel, _, _⟩
  · simp [Value.cells] at hcs
    obtain ⟨rfl, rfl, rfl⟩ := hcs
    exact ⟨[], SeqAt.nil⟩
  · simp [Value.cells] at hcs
    obtain ⟨rfl, rfl, rfl⟩ := hcs
    rw [hc] at hel
    have each : ∀ i, i < len0 → ∃ cs x, R cs x ∧ cs.length = sz ∧ ∀ j, j < sz → W.cell? (a.add (i * sz + j)) = cs[j]? := by
      intro i hi
      have h1 := hel i hi
      rw [List.getElem?_eq_getElem (by omega), Option.bind_eq_some_iff] at h1
      obtain ⟨cs, hcs, hy⟩ := h1
      obtain ⟨x, hx⟩ := hR n cs _ hy
      refine ⟨cs, x, hx, hs cs x hx, fun j hj => ?_⟩
      have h3 := World.cells?_some hcs
      rw [← add_add]
      exact h3.2.2 j hj
    have main : ∀ m, m ≤ len0 → ∃ (cells : List Value) (xs : List α), xs.length = m ∧ cells.length = m * sz ∧ RowsIn R cells xs ∧ ∀ (j : Nat) u, cells[j]? = some u → W.cell? (a.add j) = some u := by
      intro m
      induction m with
      | zero => intro _; exact ⟨[], [], rfl, by simp, rfl, fun j u hj => by simp at hj⟩
      | succ m ih =>
        intro hm
        obtain ⟨cells, xs, h1, h2, h3, h4⟩ := ih (by omega)
        obtain ⟨cs, x, hx, hcl, hcc⟩ := each m (by omega)
        refine ⟨cells ++ cs, xs ++ [x], by simp [h1], by rw [List.length_append, h2, hcl, Nat.add_mul]; omega, RowsIn.snoc h3 hx, fun j u hj => ?_⟩
        rcases Nat.lt_or_ge j cells.length with hj2 | hj2
        · rw [List.getElem?_append_left hj2] at hj; exact h4 j u hj
        · rw [List.getElem?_append_right hj2] at hj
          have hlt := (List.getElem?_eq_some_iff.1 hj).1
          have := hcc (j - cells.length) (by omega)
          rw [h2, show m * sz + (j - m * sz) = j by omega] at this
          rw [this, ← h2]; exact hj
    obtain ⟨cells, xs, h1, h2, h3, h4⟩ := main len0 (Nat.le_refl _)
    subst h1
    refine ⟨xs, cells, ⟨h2, some a, cap0, rfl, hl, hm, ?_⟩, h3⟩
    rcases Nat.eq_zero_or_pos xs.length with h0 | h0
    · exact .inl h0
    · right
      have hpl : 0 < cells.length := by rw [h2]; exact Nat.mul_pos h0 hpos
      have hc0 := h4 0 cells[0] (by simp [hpl])
      have hsp : a.spot = none := by simpa [Addr.add] using World.cell?_spot hc0
      obtain ⟨b, o, sp⟩ := a
      simp only at hsp
      subst hsp
      refine ⟨b, o, rfl, trivial, fun j u hj => ?_⟩
      have := h4 j u hj
      rw [add_lit] at this; exact this
end

def StrR (c : List Value) (x : ByteArray) : Prop := c = [.string x] ∧ x.size ≤ maxLen
theorem strs_of_seq {S : Nat → Prop} {w : World} {v : Value} {xs : List ByteArray} (h : SeqAt S w 1 StrR v xs) : StrsAt S w v xs ∧ ∀ x ∈ xs, x.size ≤ maxLen := by
  obtain ⟨cells, h1, h2⟩ := h
  have : ∀ (cells : List Value) (xs : List ByteArray), RowsIn StrR cells xs → cells = xs.map Value.string ∧ ∀ x ∈ xs, x.size ≤ maxLen := by
    intro cells xs
    induction xs generalizing cells with
    | nil => intro h; exact ⟨h, by simp⟩
    | cons x xs ih =>
      rintro ⟨c, rest, rfl, ⟨rfl, hx⟩, hr⟩
      obtain ⟨e1, e2⟩ := ih rest hr
      refine ⟨by rw [e1]; rfl, fun y hy => ?_⟩
      rcases List.mem_cons.1 hy with rfl | hy
      · exact hx
      · exact e2 y hy
  obtain ⟨e1, e2⟩ := this cells xs h2
  subst e1
  exact ⟨h1, e2⟩
theorem cellsStr : Tryd.prog.cellsOf 9 = 1 := by kernel_rfl
set_option maxRecDepth 100000 in
theorem open_strs {H : Type} {enc : TypeId × Value → H} {W : World} {base b0 : Nat} {spare : Nat → Bool} {held : Bool} {v : Value} {d : DataW H} {ps : List MemPlace}
    (hval : Value.okWide Tryd.prog W .any b0 39 v) (h : DataW.Trod enc Tryd.prog W base spare held 39 v d ps) : ∃ xs, StrsAt (fun _ => True) W v xs ∧ ∀ x ∈ xs, x.size ≤ maxLen := by
  have hR : ∀ n cs y, DataW.trod enc Tryd.prog W base spare held n 9 cs = some y → ∃ x, StrR cs x := fun n cs y hy => by
    obtain ⟨s, h1, _, h3⟩ := DataW.trod_string Tryd.underlying9 hy
    exact Exists.intro s (And.intro h1 h3)
  have hs : ∀ c x, StrR c x → c.length = 1 := fun c x hx => by rw [hx.1]; rfl
  obtain ⟨xs, hx⟩ := @open_seq H enc Tryd.prog W base ByteArray StrR 39 9 1 b0 spare held v d ps Tryd.underlying39 cellsStr Nat.one_pos hR hs hval h
  exact ⟨xs, strs_of_seq hx⟩

end Go.Proofs.YtlipekkiaiaplaaDoor
