/- The plain law of PathnameRound: Parse inverts Print. No program in sight. -/
import Derived.Test.YtlipekkiaiaplaaDoorBelP
namespace Go.Proofs.YtlipekkiaiaplaaDoor

theorem patS_ends {l : List UInt8} (h : (patS l).isSome = true) : textB l = true ∧ l ≠ [] ∧ l.head? ≠ some 47 ∧ l.getLast? ≠ some 47 ∧ l.length ≤ 512 := by
  rw [patS_ok] at h
  simp only [Bool.and_eq_true, decide_eq_true_eq, List.all_eq_true] at h
  obtain ⟨⟨⟨h1, h2⟩, h3⟩, h4⟩ := h
  have hb : ([] : List UInt8) ∉ splitL 47 l := fun hm => by have := h4 [] hm; simp [partOk, runesL_nil, itemsL, itemsS] at this
  have hne : l ≠ [] := fun e => hb (by rw [e]; simp [splitL])
  refine ⟨h3, hne, ?_, ?_, h2⟩
  · intro e
    cases l with
    | nil => cases e
    | cons c t =>
      simp only [List.head?_cons, Option.some.injEq] at e
      subst e
      exact hb (by simp [splitL])
  · intro e
    rw [List.getLast?_eq_some_iff] at e
    obtain ⟨m, rfl⟩ := e
    exact hb (by rw [splitL_cat]; simp [splitL])
theorem hasSuffix_one (l : List UInt8) (c : UInt8) : Lib.hasSuffix l [c] = (l.getLast? == some c) := by
  unfold Lib.hasSuffix
  rw [Bool.eq_iff_iff, List.isSuffixOf_iff_suffix, beq_iff_eq, List.getLast?_eq_some_iff]
  constructor
  · rintro ⟨t, ht⟩; exact ⟨t, ht.symm⟩
  · rintro ⟨t, ht⟩; exact ⟨t, ht.symm⟩
theorem trimP_yes (c : UInt8) (l : List UInt8) : Lib.trimPrefix (c :: l) [c] = l ∧ Lib.hasPrefix (c :: l) [c] = true := by
  have h : Lib.hasPrefix (c :: l) [c] = true := by rw [hasPrefix_one]; simp
  exact ⟨by unfold Lib.trimPrefix; rw [h]; simp, h⟩
theorem trimP_no (c : UInt8) (l : List UInt8) (hl : l.head? ≠ some c) : Lib.trimPrefix l [c] = l ∧ Lib.hasPrefix l [c] = false := by
  have h : Lib.hasPrefix l [c] = false := by rw [hasPrefix_one]; simpa using hl
  exact ⟨by unfold Lib.trimPrefix; rw [h]; simp, h⟩
theorem trimS_yes (c : UInt8) (l : List UInt8) : Lib.trimSuffix (l ++ [c]) [c] = l ∧ Lib.hasSuffix (l ++ [c]) [c] = true := by
  have h : Lib.hasSuffix (l ++ [c]) [c] = true := by rw [hasSuffix_one]; simp
  exact ⟨by unfold Lib.trimSuffix; rw [h]; simp, h⟩
theorem trimS_no (c : UInt8) (l : List UInt8) (hl : l.getLast? ≠ some c) : Lib.trimSuffix l [c] = l ∧ Lib.hasSuffix l [c] = false := by
  have h : Lib.hasSuffix l [c] = false := by rw [hasSuffix_one]; simpa using hl
  exact ⟨by unfold Lib.trimSuffix; rw [h]; simp, h⟩
/-- What is known of the pattern of a valid rule. -/
theorem good_pat {r : PRule} (h : (compileS r).isSome = true) : (patS r.pat).isSome = true ∧ r.pat.head? ≠ some 33 ∧ r.pat.head? ≠ some 35 ∧ (r.rooted = true ∨ r.pat.contains 47 = false) := by
  rw [good_compile] at h
  unfold goodR at h
  simp only [Bool.and_eq_true, bne_iff_ne, ne_eq, Bool.or_eq_true, Bool.not_eq_true'] at h
  exact ⟨h.1.1.1, h.1.1.2, h.1.2, h.2⟩
theorem head_app (a b : List UInt8) (ha : a ≠ []) : (a ++ b).head? = a.head? := by
  cases a with
  | nil => exact absurd rfl ha
  | cons c a => rfl
/-- A line is read as its rule. -/
theorem rule_line {r : PRule} (h : (compileS r).isSome = true) : ruleS (lineS r) = r := by
  obtain ⟨p, k, d, ro⟩ := r
  obtain ⟨h1, h2, h3, h4⟩ := good_pat h
  simp only at h1 h2 h3 h4
  obtain ⟨ht, hne, hh, hl, hlen⟩ := patS_ends h1
  clear h h1
  obtain ⟨s, hs⟩ : ∃ s, s = (if d then [47] else ([] : List UInt8)) := ⟨_, rfl⟩
  have hsuf : Lib.trimSuffix (p ++ s) [47] = p ∧ Lib.hasSuffix (p ++ s) [47] = d := by
    cases d
    · simp only [hs, Bool.false_eq_true, if_false, List.append_nil]; exact trimS_no 47 p hl
    · simp only [hs, if_true]; exact trimS_yes 47 p
  have hpre : Lib.trimPrefix (p ++ s) [47] = p ++ s ∧ Lib.hasPrefix (p ++ s) [47] = false := trimP_no 47 _ (by rw [head_app _ _ hne]; exact hh)
  have hx : (p ++ s).head? ≠ some 33 := by rw [head_app _ _ hne]; exact h2
  unfold lineS ruleS
  simp only [← hs]
  by_cases hr : ro && !p.contains 47
  · simp only [hr, if_true]
    simp only [Bool.and_eq_true, Bool.not_eq_true'] at hr
    have y := trimP_yes 47 (p ++ s)
    cases k
    · have n := trimP_no 33 (47 :: (p ++ s)) (by simp)
      simp only [Bool.false_eq_true, if_false, List.nil_append, List.cons_append]
      rw [n.1, n.2, y.1, y.2, hsuf.1, hsuf.2, hr.1]; rfl
    · have n := trimP_yes 33 (47 :: (p ++ s))
      simp only [if_true, List.cons_append, List.nil_append]
      rw [n.1, n.2, y.1, y.2, hsuf.1, hsuf.2, hr.1]; rfl
  · have hro : ro = p.contains 47 := by
      cases hc : p.contains 47
      · cases ro
        · rfl
        · rw [hc] at hr; exact absurd rfl hr
      · rcases h4 with h4 | h4
        · exact h4
        · rw [hc] at h4; cases h4
    have hr2 : (ro && !p.contains 47) = false := by simpa using hr
    simp only [hr2, Bool.false_eq_true, if_false, List.append_nil]
    cases k
    · have n := trimP_no 33 (p ++ s) hx
      simp only [Bool.false_eq_true, if_false, List.nil_append]
      rw [n.1, n.2, hpre.1, hpre.2, hsuf.1, hsuf.2, hro]; rfl
    · have n := trimP_yes 33 (p ++ s)
      simp only [if_true, List.cons_append, List.nil_append]
      rw [n.1, n.2, hpre.1, hpre.2, hsuf.1, hsuf.2, hro]; rfl
theorem line_shape {r : PRule} (h : (compileS r).isSome = true) : lineS r ≠ [] ∧ (lineS r).head? ≠ some 35 ∧ 10 ∉ lineS r := by
  obtain ⟨p, k, d, ro⟩ := r
  obtain ⟨h1, h2, h3, h4⟩ := good_pat h
  simp only at h1 h2 h3 h4
  obtain ⟨ht, hne, hh, hl, hlen⟩ := patS_ends h1
  have h10 : 10 ∉ p := by
    simp only [textB, lowFree, Bool.and_eq_true, List.all_eq_true, decide_eq_true_eq] at ht
    intro hm
    have := ht.1 10 hm
    revert this; decide
  unfold lineS
  simp only
  refine ⟨by simp [hne], ?_, ?_⟩
  · cases k
    · cases hr : (ro && !p.contains 47)
      · simp only [Bool.false_eq_true, if_false, List.nil_append]
        rw [head_app _ _ hne]; exact h3
      · simp
    · simp
  · simp only [List.mem_append, not_or]
    refine ⟨⟨⟨?_, ?_⟩, h10⟩, ?_⟩
    · split <;> simp
    · split <;> simp
    · split <;> simp
theorem parse_line {r : PRule} (h : (compileS r).isSome = true) : parseLineS (lineS r) = some r := by
  unfold parseLineS
  rw [rule_line h, if_pos h]
/-- The printed text. -/
def printT (rs : List PRule) : List UInt8 := rs.flatMap fun r => lineS r ++ [10]
theorem print_split : ∀ (rs : List PRule), (∀ r ∈ rs, (compileS r).isSome = true) → splitL 10 (printT rs) = rs.map lineS ++ [[]]
  | [], _ => rfl
  | r :: rs, h => by
    have e : printT (r :: rs) = lineS r ++ 10 :: printT rs := by simp [printT]
    rw [e, splitL_append _ _ _ (line_shape (h r (by simp))).2.2, print_split rs (fun q hq => h q (by simp [hq]))]; rfl
theorem print_parse : ∀ (rs : List PRule) (i : Nat) (acc : List PRule), (∀ r ∈ rs, (compileS r).isSome = true) → acc.length + rs.length ≤ 256 → parseS (rs.map lineS ++ [[]]) i acc = (acc ++ rs, 0, 0)
  | [], i, acc, _, _ => by simp [parseS]
  | r :: rs, i, acc, h, hl => by
    obtain ⟨a, b, c⟩ := line_shape (h r (by simp))
    rw [List.map_cons, List.cons_append, parseS, if_neg (by rw [hasPrefix_one]; simp [a, b]), parse_line (h r (by simp))]
    simp only [List.length_cons] at hl
    simp only
    rw [if_neg (by omega), print_parse rs (i + 1) (acc ++ [r]) (fun q hq => h q (by simp [hq])) (by simp; omega)]
    simp
theorem lineS_len (r : PRule) : (lineS r).length = r.keep.toNat + (r.rooted && !r.pat.contains 47).toNat + r.pat.length + r.dir.toNat := by
  obtain ⟨p, k, d, o⟩ := r
  unfold lineS
  simp only [List.length_append]
  cases k <;> cases d <;> cases (o && !p.contains 47) <;> rfl
theorem bit_le (x c : Bool) : ((x || c) && !c).toNat ≤ x.toNat := by cases x <;> cases c <;> decide
theorem line_len (l : List UInt8) : (lineS (ruleS l)).length ≤ l.length := by
  have tp : ∀ (m : List UInt8) (c : UInt8), m.length = (Lib.trimPrefix m [c]).length + (Lib.hasPrefix m [c]).toNat := fun m c => by
    by_cases h : m.head? = some c
    · cases m with
      | nil => cases h
      | cons a m => simp only [List.head?_cons, Option.some.injEq] at h; subst h; rw [(trimP_yes a m).1, (trimP_yes a m).2]; simp
    · rw [(trimP_no c m h).1, (trimP_no c m h).2]; simp
  have ts : ∀ (m : List UInt8) (c : UInt8), m.length = (Lib.trimSuffix m [c]).length + (Lib.hasSuffix m [c]).toNat := fun m c => by
    by_cases h : m.getLast? = some c
    · rw [List.getLast?_eq_some_iff] at h
      obtain ⟨t, rfl⟩ := h
      rw [(trimS_yes c t).1, (trimS_yes c t).2]; simp
    · rw [(trimS_no c m h).1, (trimS_no c m h).2]; simp
  have a := tp l 33
  have b := tp (Lib.trimPrefix l [33]) 47
  have c := ts (Lib.trimPrefix (Lib.trimPrefix l [33]) [47]) 47
  have e := lineS_len (ruleS l)
  have f := bit_le (Lib.hasPrefix (Lib.trimPrefix l [33]) [47]) ((Lib.trimSuffix (Lib.trimPrefix (Lib.trimPrefix l [33]) [47]) [47]).contains 47)
  simp only [ruleS] at e ⊢
  omega
def sumL (ls : List (List UInt8)) : Nat := (ls.map fun l => l.length + 1).sum
theorem split_sum (c : UInt8) (l : List UInt8) : sumL (splitL c l) = l.length + 1 := by
  induction l with
  | nil => rfl
  | cons b l ih =>
    rw [splitL]
    split
    · simp only [sumL, List.map_cons, List.sum_cons, List.length_nil, List.length_cons] at ih ⊢; omega
    · cases hs : splitL c l with
      | nil => exact absurd hs (splitL_ne _ _)
      | cons p ps =>
        rw [hs] at ih
        simp only [sumL, List.map_cons, List.sum_cons, List.length_cons] at ih ⊢; omega
theorem parse_len : ∀ (ls : List (List UInt8)) (i : Nat) (acc rs : List PRule) (n : Int), acc.length ≤ 256 → parseS ls i acc = (rs, n, 0) → (printT rs).length ≤ (printT acc).length + sumL ls ∧ rs.length ≤ 256
  | [], i, acc, rs, n, ha, h => by
    simp only [parseS, Prod.mk.injEq] at h
    obtain ⟨rfl, _⟩ := h
    exact ⟨by simp [sumL], ha⟩
  | l :: ls, i, acc, rs, n, ha, h => by
    rw [parseS] at h
    split at h
    · have := parse_len ls (i + 1) acc rs n ha h
      exact ⟨by have := this.1; simp only [sumL, List.map_cons, List.sum_cons] at this ⊢; omega, this.2⟩
    · split at h
      · simp at h
      · rename_i r hr
        split at h
        · simp at h
        · have hl : (lineS r).length ≤ l.length := by
            unfold parseLineS at hr
            split at hr
            · cases hr; exact line_len l
            · cases hr
          have := parse_len ls (i + 1) (acc ++ [r]) rs n (by simp; omega) h
          refine ⟨?_, this.2⟩
          have h1 := this.1
          have e : (printT (acc ++ [r])).length = (printT acc).length + (lineS r).length + 1 := by simp [printT]; omega
          rw [e] at h1
          simp only [sumL, List.map_cons, List.sum_cons] at h1 ⊢
          omega
/-- Parse inverts Print. -/
theorem round_plain {l : List UInt8} {rs : List PRule} {n : Int} (hl : l.length ≤ 3000) (h : parseE l = (rs, n, 0)) : n = 0 ∧ rs.length ≤ 256 ∧ printE rs = (printT rs, 0) ∧ (printT rs).length ≤ 3001 ∧ parseE (printT rs) = (rs, 0, 0) := by
  have h0 := h
  unfold parseE at h
  rw [if_neg (by omega)] at h
  obtain ⟨h1, _, h3⟩ := parse_rules _ 0 [] rs n (by simp) h
  obtain ⟨h4, h5⟩ := parse_len _ 0 [] rs n (by simp) h
  rw [split_sum] at h4
  have h6 : (printT rs).length ≤ 3001 := by simp [printT] at h4 ⊢; omega
  refine ⟨h3, h5, ?_, h6, ?_⟩
  · unfold printE
    rw [if_neg, if_neg (by omega)]
    · rfl
    · rw [Bool.not_eq_false, List.all_eq_true]; exact h1
  · unfold parseE
    rw [if_neg (by omega), print_split rs h1, print_parse rs 0 [] h1 (by simp; omega)]; simp

end Go.Proofs.YtlipekkiaiaplaaDoor
