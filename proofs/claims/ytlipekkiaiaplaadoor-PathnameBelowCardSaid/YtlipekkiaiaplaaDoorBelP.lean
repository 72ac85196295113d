/- The plain law of PathnameBelow: what lies within an ignored directory, and a last literal rule. No program in sight. -/
import Derived.Test.YtlipekkiaiaplaaDoorLitP
namespace Go.Proofs.YtlipekkiaiaplaaDoor

theorem ignFrom_iff (dir : Bool) (parts : List (List UInt8)) (us : List (PRule × List PComp)) : ∀ (f n : Nat), ignFrom dir parts us f n = true ↔ ∃ m, n ≤ m ∧ m < n + f ∧ ignAt dir parts m us false = true
  | 0, n => by simp [ignFrom]; intro x h1 h2; omega
  | f + 1, n => by
    rw [ignFrom]
    have ih := ignFrom_iff dir parts us f (n + 1)
    cases h : ignAt dir parts n us false
    · simp only [Bool.false_eq_true, if_false]
      rw [ih]
      constructor
      · rintro ⟨m, h1, h2, h3⟩; exact ⟨m, by omega, by omega, h3⟩
      · rintro ⟨m, h1, h2, h3⟩
        refine ⟨m, ?_, by omega, h3⟩
        rcases Nat.lt_or_ge n m with h4 | h4
        · omega
        · obtain rfl : m = n := by omega
          rw [h] at h3; cases h3
    · simp only [if_true, true_iff]
      exact ⟨n, by omega, by omega, h⟩
theorem ignAt_snoc (dir : Bool) (parts : List (List UInt8)) (n : Nat) (r : PRule) (cs : List PComp) : ∀ (us : List (PRule × List PComp)) (b : Bool), ignAt dir parts n (us ++ [(r, cs)]) b = if ruleHits dir r cs parts n then !r.keep else ignAt dir parts n us b
  | [], b => by simp [ignAt]
  | (q, ds) :: us, b => by simp only [List.cons_append, ignAt]; rw [ignAt_snoc dir parts n r cs us]
theorem ignAt_up (dir : Bool) (parts : List (List UInt8)) (n : Nat) (hn : n < parts.length) : ∀ (us : List (PRule × List PComp)) (b : Bool), ignAt true parts.dropLast n us b = ignAt dir parts n us b
  | [], b => rfl
  | (q, ds) :: us, b => by
    simp only [ignAt]
    have e : ruleHits true q ds parts.dropLast n = ruleHits dir q ds parts n := by
      unfold ruleHits
      have ht : parts.dropLast.take n = parts.take n := by
        rw [List.dropLast_eq_take, List.take_take]; congr 1; omega
      rw [ht]
      simp [hn]
    rw [e, ignAt_up dir parts n hn us]
/-- What is ignored above. -/
def aboveB (parts : List (List UInt8)) (us : List (PRule × List PComp)) : Bool := ignFrom true parts.dropLast us parts.dropLast.length 1
theorem above_iff (dir : Bool) (parts : List (List UInt8)) (us : List (PRule × List PComp)) : aboveB parts us = true ↔ ∃ m, 1 ≤ m ∧ m < parts.length ∧ ignAt dir parts m us false = true := by
  unfold aboveB
  rw [ignFrom_iff]
  constructor
  · rintro ⟨m, h1, h2, h3⟩
    rw [List.length_dropLast] at h2
    exact ⟨m, h1, by omega, by rw [← ignAt_up dir parts m (by omega)]; exact h3⟩
  · rintro ⟨m, h1, h2, h3⟩
    exact ⟨m, h1, by rw [List.length_dropLast]; omega, by rw [ignAt_up dir parts m h2]; exact h3⟩
theorem below_is {dir : Bool} {parts : List (List UInt8)} {us : List (PRule × List PComp)} (h : aboveB parts us = true) : ignFrom dir parts us parts.length 1 = true := by
  obtain ⟨m, h1, h2, h3⟩ := (above_iff dir parts us).1 h
  exact (ignFrom_iff _ _ _ _ _).2 ⟨m, h1, by omega, h3⟩
/-- A last rule that matches the whole path alone. -/
theorem last_rule {dir : Bool} {l : List UInt8} {us : List (PRule × List PComp)} (hv : validP l = true) (k : Bool) (p : List UInt8) :
    ignFrom dir (splitL 47 l) (us ++ [(⟨p, k, false, true⟩, litC l)]) (splitL 47 l).length 1 = (aboveB (splitL 47 l) us || !k) := by
  have hits : ∀ n, 1 ≤ n → n ≤ (splitL 47 l).length → ruleHits dir ⟨p, k, false, true⟩ (litC l) (splitL 47 l) n = decide (n = (splitL 47 l).length) := by
    intro n h1 h2
    unfold ruleHits
    simp only [Bool.not_false, Bool.or_true, Bool.true_and, if_true]
    have v : ∀ q ∈ splitL 47 l, Lib.validD q = true := fun q hq => by have := (valid_parts hv q hq).1; simp only [textB, Bool.and_eq_true] at this; exact this.2
    rw [litC, lit_match _ _ v (fun x hx => v x (List.mem_of_mem_take hx)), Bool.eq_iff_iff]
    simp only [decide_eq_true_eq]
    constructor
    · intro e
      have := congrArg List.length e
      rw [List.length_take] at this
      omega
    · intro e; rw [e, List.take_length]
  have hp := splitL_pos 47 l
  rw [Bool.eq_iff_iff, ignFrom_iff, Bool.or_eq_true, above_iff dir]
  constructor
  · rintro ⟨m, h1, h2, h3⟩
    rw [ignAt_snoc, hits m h1 (by omega)] at h3
    by_cases hm : m = (splitL 47 l).length
    · right; simpa [hm] using h3
    · left
      exact ⟨m, h1, by omega, by simpa [hm] using h3⟩
  · rintro (⟨m, h1, h2, h3⟩ | h)
    · refine ⟨m, h1, by omega, ?_⟩
      rw [ignAt_snoc, hits m h1 (by omega)]
      have hm : ¬ m = (splitL 47 l).length := by omega
      simpa [hm] using h3
    · refine ⟨(splitL 47 l).length, hp, by omega, ?_⟩
      rw [ignAt_snoc, hits _ hp (Nat.le_refl _)]
      simpa using h
theorem compileAll_one {rs : List PRule} {us : List (PRule × List PComp)} {r : PRule} {cs : List PComp} (h : compileAll rs = some us) (hr : compileS r = some cs) : compileAll (rs ++ [r]) = some (us ++ [(r, cs)]) := by
  induction rs generalizing us with
  | nil => simp only [compileAll, Option.some.injEq] at h; subst h; simp [compileAll, hr]
  | cons q rs ih =>
    simp only [List.cons_append, compileAll] at h ⊢
    cases hq : compileS q with
    | none => rw [hq] at h; cases h
    | some ds =>
      rw [hq] at h
      simp only at h ⊢
      cases hc : compileAll rs with
      | none => rw [hc] at h; cases h
      | some vs =>
        rw [hc] at h
        simp only [Option.some.injEq] at h
        subst h
        rw [ih hc]; rfl
theorem parse_rules : ∀ (ls : List (List UInt8)) (i : Nat) (acc rs : List PRule) (n : Int), (∀ r ∈ acc, (compileS r).isSome = true) → parseS ls i acc = (rs, n, 0) → (∀ r ∈ rs, (compileS r).isSome = true) ∧ rs.length ≤ acc.length + ls.length ∧ n = 0
  | [], i, acc, rs, n, ha, h => by
    simp only [parseS, Prod.mk.injEq] at h
    obtain ⟨rfl, rfl, _⟩ := h
    exact ⟨ha, by simp, rfl⟩
  | l :: ls, i, acc, rs, n, ha, h => by
    rw [parseS] at h
    split at h
    · have := parse_rules ls (i + 1) acc rs n ha h
      exact ⟨this.1, by have := this.2.1; simp; omega, this.2.2⟩
    · split at h
      · simp at h
      · rename_i r hr
        split at h
        · simp at h
        · have hc : (compileS r).isSome = true := by
            unfold parseLineS at hr
            split at hr
            · cases hr; assumption
            · cases hr
          have := parse_rules ls (i + 1) (acc ++ [r]) rs n (fun q hq => by
            rcases List.mem_append.1 hq with hq | hq
            · exact ha q hq
            · simp at hq; subst hq; exact hc) h
          exact ⟨this.1, by have := this.2.1; simp at this ⊢; omega, this.2.2⟩
theorem compileAll_all : ∀ (rs : List PRule), (∀ r ∈ rs, (compileS r).isSome = true) → ∃ us, compileAll rs = some us
  | [], _ => ⟨[], rfl⟩
  | r :: rs, h => by
    obtain ⟨us, hu⟩ := compileAll_all rs (fun q hq => h q (by simp [hq]))
    obtain ⟨cs, hc⟩ := Option.isSome_iff_exists.1 (h r (by simp))
    exact ⟨(r, cs) :: us, by simp [compileAll, hc, hu]⟩
/-- The rules of a text. -/
theorem parse_ok {l : List UInt8} {rs : List PRule} {n : Int} (h : parseE l = (rs, n, 0)) : (∃ us, compileAll rs = some us) ∧ rs.length ≤ l.length + 1 ∧ n = 0 ∧ ∀ r ∈ rs, r.pat.length ≤ 512 := by
  unfold parseE at h
  split at h
  · simp at h
  · have := parse_rules _ 0 [] rs n (by simp) h
    have hl := splitL_len_le 10 l
    refine ⟨compileAll_all rs this.1, by have := this.2.1; simp at this; omega, this.2.2, fun r hr => ?_⟩
    obtain ⟨cs, hc⟩ := Option.isSome_iff_exists.1 (this.1 r hr)
    unfold compileS at hc
    split at hc
    · cases hc
    · split at hc
      · cases hc
      · unfold patS at hc
        split at hc
        · cases hc
        · omega
theorem parse_bad_e {l : List UInt8} {rs : List PRule} {n e : Int} (h : parseE l = (rs, n, e)) (he : e ≠ 0) : rs = [] := by
  have key : ∀ (ls : List (List UInt8)) (i : Nat) (acc : List PRule), parseS ls i acc = (rs, n, e) → rs = [] := by
    intro ls
    induction ls with
    | nil => intro i acc h; simp only [parseS, Prod.mk.injEq] at h; exact absurd h.2.2.symm he
    | cons l ls ih =>
      intro i acc h
      rw [parseS] at h
      split at h
      · exact ih _ _ h
      · split at h
        · simp only [Prod.mk.injEq] at h; exact h.1.symm
        · split at h
          · simp only [Prod.mk.injEq] at h; exact h.1.symm
          · exact ih _ _ h
  unfold parseE at h
  split at h
  · simp only [Prod.mk.injEq] at h; exact h.1.symm
  · exact key _ _ _ h
/-- The path above. -/
theorem parent_up {l : List UInt8} (h : validP l = true) : (parentL l = [] ∧ (splitL 47 l).dropLast = []) ∨ (parentL l ≠ [] ∧ validP (parentL l) = true ∧ splitL 47 (parentL l) = (splitL 47 l).dropLast) := by
  unfold parentL uniteL
  by_cases he : (splitL 47 l).dropLast = []
  · left; exact ⟨by rw [he]; rfl, he⟩
  · right
    have hs : splitL 47 (Lib.join (splitL 47 l).dropLast [47]) = (splitL 47 l).dropLast := splitL_join 47 _ he (fun p hp => splitL_mem 47 l p (List.dropLast_subset _ hp))
    have hne : Lib.join (splitL 47 l).dropLast [47] ≠ [] := by
      intro e
      rw [e] at hs
      have h1 : splitL 47 [] = [[]] := rfl
      rw [h1] at hs
      have := (valid_parts h [] (List.dropLast_subset _ (by rw [← hs]; simp))).2
      exact this rfl
    refine ⟨hne, ?_, hs⟩
    have hp := h
    simp only [validP, Bool.and_eq_true, decide_eq_true_eq, List.all_eq_true] at hp ⊢
    rw [hs]
    refine ⟨⟨?_, by rw [List.length_dropLast]; omega⟩, fun p hp' => hp.2 p (List.dropLast_subset _ hp')⟩
    have hl : (Lib.join (splitL 47 l).dropLast [47]).length ≤ (Lib.join (splitL 47 l) [47]).length := by
      have e := List.dropLast_concat_getLast (splitL_ne 47 l)
      have e2 := uniteL_snoc (splitL 47 l).dropLast ((splitL 47 l).getLast (splitL_ne 47 l))
      rw [e] at e2
      unfold uniteL at e2
      rw [e2, if_neg he]
      simp
    rw [join_splitL] at hl
    omega

end Go.Proofs.YtlipekkiaiaplaaDoor
