/- Plain laws of the order of paths. No program in sight. -/
import Derived.Test.YtlipekkiaiaplaaDoorPlainB
namespace Go.Proofs.YtlipekkiaiaplaaDoor

theorem rankL_inj {a b : UInt8} (h : rankL a = rankL b) : a = b := by
  unfold rankL at h
  split at h <;> split at h
  · simp [*]
  · omega
  · omega
  · apply UInt8.toNat_inj.1; omega
theorem rankL_lo (a : UInt8) (h : a ≠ 47) : 0 ≤ rankL a := by unfold rankL; rw [if_neg h]; omega
theorem cmp3 : ∀ (a b : List UInt8), cmpL a b = -1 ∨ cmpL a b = 0 ∨ cmpL a b = 1
  | [], [] => by simp [cmpL]
  | [], _ :: _ => by simp [cmpL]
  | _ :: _, [] => by simp [cmpL]
  | a :: l, b :: r => by
    unfold cmpL
    split
    · exact cmp3 l r
    · unfold Lib.compareInt; split
      · simp
      · split <;> simp
theorem cmp_neg : ∀ (a b : List UInt8), cmpL b a = -cmpL a b
  | [], [] => by simp [cmpL]
  | [], _ :: _ => by simp [cmpL]
  | _ :: _, [] => by simp [cmpL]
  | a :: l, b :: r => by
    unfold cmpL
    by_cases h : a = b
    · rw [if_pos h, if_pos h.symm]; exact cmp_neg l r
    · rw [if_neg h, if_neg (Ne.symm h)]
      have : rankL a ≠ rankL b := fun e => h (rankL_inj e)
      unfold Lib.compareInt
      rcases Int.lt_trichotomy (rankL a) (rankL b) with h1 | h1 | h1
      · rw [if_neg (by omega), if_pos (by omega), if_pos h1]; rfl
      · exact absurd h1 this
      · rw [if_pos (by omega), if_neg (by omega), if_pos (by omega)]
theorem cmp_zero : ∀ (a b : List UInt8), cmpL a b = 0 ↔ a = b
  | [], [] => by simp [cmpL]
  | [], _ :: _ => by simp [cmpL]
  | _ :: _, [] => by simp [cmpL]
  | a :: l, b :: r => by
    unfold cmpL
    by_cases h : a = b
    · rw [if_pos h, cmp_zero l r]; simp [h]
    · rw [if_neg h]
      have : rankL a ≠ rankL b := fun e => h (rankL_inj e)
      unfold Lib.compareInt
      constructor
      · intro e; split at e
        · omega
        · split at e <;> omega
      · intro e; simp at e; exact absurd e.1 h
theorem cmp_trans : ∀ (a b c : List UInt8), cmpL a b ≤ 0 → cmpL b c ≤ 0 → cmpL a c ≤ 0 ∧ (cmpL a c = 0 → cmpL a b = 0 ∧ cmpL b c = 0)
  | [], b, [], h1, h2 => by
    cases b with
    | nil => simp [cmpL]
    | cons x b => simp [cmpL] at h2
  | [], _, _ :: _, _, _ => by simp [cmpL]
  | _ :: _, [], _, h1, _ => by simp [cmpL] at h1
  | x :: a, y :: b, [], _, h2 => by simp [cmpL] at h2
  | x :: a, y :: b, z :: c, h1, h2 => by
    unfold cmpL at h1 h2 ⊢
    by_cases hxy : x = y
    · subst hxy
      rw [if_pos rfl] at h1 ⊢
      by_cases hxz : x = z
      · subst hxz
        rw [if_pos rfl] at h2 ⊢
        rw [if_pos rfl]
        exact cmp_trans a b c h1 h2
      · rw [if_neg hxz] at h2 ⊢
        rw [if_neg hxz]
        refine ⟨h2, fun e => ?_⟩
        exfalso
        have : rankL x ≠ rankL z := fun e => hxz (rankL_inj e)
        unfold Lib.compareInt at e
        split at e
        · omega
        · split at e <;> omega
    · rw [if_neg hxy] at h1 ⊢
      have n1 : rankL x ≠ rankL y := fun e => hxy (rankL_inj e)
      have l1 : rankL x < rankL y := by
        unfold Lib.compareInt at h1
        split at h1
        · assumption
        · split at h1
          · omega
          · omega
      by_cases hyz : y = z
      · subst hyz
        rw [if_neg hxy]
        refine ⟨h1, fun e => ?_⟩
        exfalso
        unfold Lib.compareInt at e
        rw [if_pos l1] at e; omega
      · rw [if_neg hyz] at h2
        have n2 : rankL y ≠ rankL z := fun e => hyz (rankL_inj e)
        have l2 : rankL y < rankL z := by
          unfold Lib.compareInt at h2
          split at h2
          · assumption
          · split at h2 <;> omega
        have n3 : x ≠ z := fun e => by subst e; omega
        rw [if_neg n3]
        unfold Lib.compareInt
        rw [if_pos (by omega)]
        exact ⟨by omega, fun e => by omega⟩
theorem cmp_app : ∀ (p q : List UInt8), cmpL p (p ++ q) ≤ 0
  | [], [] => by simp [cmpL]
  | [], _ :: _ => by simp [cmpL]
  | a :: p, q => by rw [List.cons_append, cmpL, if_pos rfl]; exact cmp_app p q
theorem cmp_between : ∀ (d b r : List UInt8), cmpL d b ≤ 0 → cmpL b (d ++ 47 :: r) ≤ 0 → b = d ∨ ∃ s, b = d ++ 47 :: s
  | [], [], _, _, _ => .inl rfl
  | [], x :: b, r, _, h2 => by
    by_cases hx : x = 47
    · exact .inr ⟨b, by simp [hx]⟩
    · rw [List.nil_append, cmpL, if_neg hx] at h2
      have h3 := rankL_lo x hx
      have h4 : rankL 47 = -1 := rfl
      unfold Lib.compareInt at h2
      rw [h4, if_neg (by omega), if_pos (by omega)] at h2
      omega
  | y :: d, [], _, h1, _ => by simp [cmpL] at h1
  | y :: d, x :: b, r, h1, h2 => by
    rw [List.cons_append] at h2
    unfold cmpL at h1 h2
    by_cases hxy : y = x
    · subst hxy
      rw [if_pos rfl] at h1 h2
      rcases cmp_between d b r h1 h2 with h | ⟨s, h⟩
      · exact .inl (by rw [h])
      · exact .inr ⟨s, by rw [h]; rfl⟩
    · rw [if_neg hxy] at h1
      rw [if_neg (Ne.symm hxy)] at h2
      have n1 : rankL y ≠ rankL x := fun e => hxy (rankL_inj e)
      unfold Lib.compareInt at h1 h2
      split at h1
      · split at h2
        · omega
        · first | omega | (split at h2 <;> omega)
      · first | omega | (split at h1 <;> omega)

end Go.Proofs.YtlipekkiaiaplaaDoor
