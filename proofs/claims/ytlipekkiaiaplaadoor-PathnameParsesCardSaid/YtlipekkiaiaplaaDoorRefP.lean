/- Plain words for the specification's side of chapter 18. No program in sight. -/
import Derived.Test.YtlipekkiaiaplaaDoorPlainB
namespace Go.Proofs.YtlipekkiaiaplaaDoor

theorem addOf (k n : Nat) (z : Int) (h : z = ((k + n : Nat) : Int)) : UInt8.ofNat k + UInt8.ofNat n = UInt8.ofNat z.toNat := by
  subst h; rw [Int.toNat_natCast, UInt8.ofNat_add]
theorem encode_lib (r : Nat) : (Utf8.encode (r : Int)).data.toList = Lib.encodeRune (r : Int) := by
  unfold Lib.encodeRune
  by_cases c1 : r < 128
  · have v : Utf8.valid (r : Int) = true := by simp [Utf8.valid]; omega
    rw [Lib.encodeRuneZ_one (by omega) (by omega)]; simp [Utf8.encode, v, c1]
  by_cases c2 : r < 2048
  · have v : Utf8.valid (r : Int) = true := by simp [Utf8.valid]; omega
    rw [Lib.encodeRuneZ_two (by omega) (by omega)]; simp [Utf8.encode, v, c1, c2]; exact ⟨addOf 192 _ _ (by omega), addOf 128 _ _ (by omega)⟩
  by_cases hb : (55296 ≤ r ∧ r ≤ 57343) ∨ 1114111 < r
  · have v : Utf8.valid (r : Int) = false := by simp [Utf8.valid]; omega
    rw [Lib.encodeRuneZ_bad (by omega)]; simp [Utf8.encode, v, Utf8.runeError]
  by_cases c3 : r < 65536
  · have v : Utf8.valid (r : Int) = true := by simp [Utf8.valid]; omega
    rw [Lib.encodeRuneZ_three (by omega)]; simp [Utf8.encode, v, c1, c2, c3]; exact ⟨addOf 224 _ _ (by omega), addOf 128 _ _ (by omega), addOf 128 _ _ (by omega)⟩
  · have v : Utf8.valid (r : Int) = true := by simp [Utf8.valid]; omega
    rw [Lib.encodeRuneZ_four (by omega) (by omega)]; simp [Utf8.encode, v, c1, c2, c3]; exact ⟨addOf 240 _ _ (by omega), addOf 128 _ _ (by omega), addOf 128 _ _ (by omega), addOf 128 _ _ (by omega)⟩

/-- The runes of a string, encoded again. -/
def reL (l : List UInt8) : List UInt8 := (runesL l).flatMap Lib.encodeRune
theorem reL_nil : reL [] = [] := rfl
theorem reL_step (l : List UInt8) (h : l ≠ []) : reL l = Lib.encodeRune ((Lib.decodeL l).1 : Int) ++ reL (l.drop (Lib.decodeL l).2) := by
  unfold reL; rw [runesL_step l h, List.flatMap_cons]
theorem encodeRune_len (r : Int) : (Lib.encodeRune r).length ≤ 4 := by
  have := (Lib.encodeRuneZ_length r).2; simpa [Lib.encodeRune] using this
theorem reL_law : ∀ (n : Nat) (l : List UInt8), l.length ≤ n → l.length ≤ (reL l).length ∧ (reL l = l ↔ Lib.validD l = true)
  | 0, l, h => by
    have : l = [] := List.eq_nil_of_length_eq_zero (by omega)
    subst this
    exact ⟨by simp, by simp [reL_nil, Lib.validD_nil]⟩
  | n + 1, l, h => by
    by_cases hl : l = []
    · subst hl
      exact ⟨by simp, by simp [reL_nil, Lib.validD_nil]⟩
    · have hw := decodeL_cons_le l hl
      obtain ⟨ih1, ih2⟩ := reL_law n (l.drop (Lib.decodeL l).2) (by rw [List.length_drop]; omega)
      rw [List.length_drop] at ih1
      rw [reL_step l hl, Lib.validD_step l hl]
      by_cases hb : (Lib.decodeL l).1 = 65533 ∧ (Lib.decodeL l).2 = 1
      · have e3 : (Lib.encodeRune ((Lib.decodeL l).1 : Int)).length = 3 := by rw [hb.1]; rfl
        rw [if_pos hb]
        refine ⟨by rw [List.length_append, e3]; omega, ⟨fun e => ?_, fun e => by cases e⟩⟩
        have := congrArg List.length e
        rw [List.length_append, e3] at this
        omega
      · rw [if_neg hb, Lib.encode_decode l hl hb]
        refine ⟨by rw [List.length_append, List.length_take]; omega, ?_⟩
        rw [← ih2]
        constructor
        · intro e
          have h2 : l.take (Lib.decodeL l).2 ++ reL (l.drop (Lib.decodeL l).2) = l.take (Lib.decodeL l).2 ++ l.drop (Lib.decodeL l).2 := by rw [List.take_append_drop]; exact e
          exact List.append_cancel_left h2
        · intro e; rw [e, List.take_append_drop]
theorem reL_valid (l : List UInt8) : (reL l == l) = Lib.validD l := by
  rw [Bool.eq_iff_iff, beq_iff_eq]; exact (reL_law l.length l (Nat.le_refl _)).2

theorem compB_slash (l : List UInt8) : ((splitL 47 l).length == 1) = !l.contains 47 := by
  by_cases h : (47 : UInt8) ∈ l
  · obtain ⟨p, q, rfl, hp⟩ := index_one l 47 h
    have := splitL_pos 47 q
    rw [splitL_append 47 p q hp]
    have h2 : ((p :: splitL 47 q).length == 1) = false := by rw [beq_eq_false_iff_ne]; simp; exact splitL_ne 47 q
    rw [h2]; simp
  · rw [splitL_whole 47 l h]; simp [h]
theorem uniteL_snoc (ps : List (List UInt8)) (p : List UInt8) : uniteL (ps ++ [p]) = if ps = [] then p else uniteL ps ++ [47] ++ p := by
  cases ps with
  | nil => simp [uniteL, Lib.join_one]
  | cons q ps =>
    simp only [List.cons_append, uniteL, Lib.join_cons, if_neg (List.cons_ne_nil q ps)]
    have : ∀ (l : List (List UInt8)), Lib.joinTail [47] (l ++ [p]) = Lib.joinTail [47] l ++ 47 :: p := by
      intro l
      induction l with
      | nil => simp [Lib.joinTail]
      | cons a l _ => simp only [List.cons_append, Lib.joinTail]; simp
    rw [this]; simp

end Go.Proofs.YtlipekkiaiaplaaDoor
