/- Plain laws of cleaned paths, joins and parents. No program in sight. -/
import Derived.Test.YtlipekkiaiaplaaDoorOrdP
import Derived.Test.YtlipekkiaiaplaaDoorRefP
namespace Go.Proofs.YtlipekkiaiaplaaDoor

theorem compB_ne {p : List UInt8} (h : compB p = true) : p ≠ [] ∧ p ≠ [46] ∧ p ≠ [46, 46] ∧ 47 ∉ p := by
  simp only [compB, Bool.and_eq_true] at h
  obtain ⟨⟨⟨⟨⟨h1, _⟩, h2⟩, h3⟩, h4⟩, _⟩ := h
  exact ⟨by simpa using h1, by simpa using h2, by simpa using h3, by simpa using h4⟩
theorem valid_comps {l : List UInt8} (h : validP l = true) : ∀ p ∈ splitL 47 l, compB p = true := by
  simp only [validP, Bool.and_eq_true] at h
  exact List.all_eq_true.1 h.2
theorem cleanParts_comps : ∀ (ps acc : List (List UInt8)), (∀ p ∈ ps, compB p = true) → cleanParts ps acc = some (acc ++ ps)
  | [], acc, _ => by simp [cleanParts]
  | p :: ps, acc, h => by
    obtain ⟨h1, h2, h3, _⟩ := compB_ne (h p (by simp))
    rw [cleanParts, if_neg (by simp [h1, h2]), if_neg h3, cleanParts_comps ps _ (fun q hq => h q (by simp [hq]))]
    simp
theorem unite_split (l : List UInt8) : uniteL (splitL 47 l) = l := join_splitL 47 l
/-- Clean changes no path. -/
theorem clean_valid {l : List UInt8} (h : validP l = true) : cleanL l = some l := by
  unfold cleanL
  rw [cleanParts_comps _ _ (valid_comps h), List.nil_append]
  simp only
  rw [unite_split, if_pos h]
theorem clean_some {l p : List UInt8} (h : cleanL l = some p) : validP p = true := by
  unfold cleanL at h
  split at h
  · simp at h
  · split at h
    · simp at h; subst h; assumption
    · simp at h
theorem clean_none {l : List UInt8} (h : cleanL l = none) : validP l = false := by
  cases hv : validP l
  · rfl
  · rw [clean_valid hv] at h; simp at h
theorem clean_same {l p : List UInt8} (h : cleanL l = some p) (hv : validP l = true) : p = l := by
  rw [clean_valid hv] at h; simp at h; exact h.symm
/-- Join inverts Split. -/
theorem join_split {l : List UInt8} (h : validP l = true) : joinL (splitL 47 l) = (l, 0) := by
  have h2 := h
  simp only [validP, Bool.and_eq_true, decide_eq_true_eq] at h2
  unfold joinL
  rw [if_neg (splitL_ne 47 l), if_neg (by rw [h2.2]; simp), unite_split, if_neg (by omega)]
theorem unite_snoc {ps : List (List UInt8)} {p : List UInt8} (h : ps ≠ []) : uniteL (ps ++ [p]) = uniteL ps ++ 47 :: p := by
  rw [uniteL_snoc, if_neg h]; simp
theorem parent_nil {l : List UInt8} (h : validP l = true) : parentL l = [] ↔ (splitL 47 l).length = 1 := by
  have hne := splitL_ne 47 l
  have hc := valid_comps h
  obtain ⟨qs, q, hq⟩ : ∃ qs q, splitL 47 l = qs ++ [q] := ⟨(splitL 47 l).dropLast, (splitL 47 l).getLast hne, (List.dropLast_concat_getLast hne).symm⟩
  unfold parentL
  rw [hq] at hc ⊢
  rw [List.dropLast_concat]
  cases qs with
  | nil => simp [uniteL, Lib.join_nil]
  | cons a qs =>
    have h1 := (compB_ne (hc a (by simp))).1
    constructor
    · intro e
      exfalso
      rw [uniteL, Lib.join_cons] at e
      have := List.append_eq_nil_iff.1 e
      exact h1 this.1
    · intro e; simp at e
theorem parent_last {l : List UInt8} (hn : (splitL 47 l).length ≠ 1) : parentL l ++ 47 :: (splitL 47 l).getLast (splitL_ne 47 l) = l := by
  have hne := splitL_ne 47 l
  have h1 := splitL_pos 47 l
  have h2 : (splitL 47 l).dropLast ≠ [] := by
    intro e
    have := congrArg List.length e
    rw [List.length_dropLast] at this
    simp at this; omega
  unfold parentL
  rw [← unite_snoc h2, List.dropLast_concat_getLast, unite_split]
theorem parent_valid {l : List UInt8} (h : validP l = true) (hn : parentL l ≠ []) : validP (parentL l) = true := by
  have hc := valid_comps h
  have h2 := h
  simp only [validP, Bool.and_eq_true, decide_eq_true_eq] at h2
  have hd : (splitL 47 l).dropLast ≠ [] := by
    intro e; apply hn; unfold parentL; rw [e]; rfl
  have hs : splitL 47 (parentL l) = (splitL 47 l).dropLast := by
    unfold parentL uniteL
    exact splitL_join 47 _ hd (fun p hp => splitL_mem 47 l p ((List.dropLast_sublist _).subset hp))
  have hl : (parentL l).length ≤ l.length := by
    have := congrArg List.length (parentL_take l)
    rw [List.length_take] at this; omega
  unfold validP
  rw [hs]
  simp only [Bool.and_eq_true, decide_eq_true_eq, List.length_dropLast]
  exact ⟨⟨by omega, by omega⟩, List.all_eq_true.2 (fun p hp => hc p ((List.dropLast_sublist _).subset hp))⟩

end Go.Proofs.YtlipekkiaiaplaaDoor
