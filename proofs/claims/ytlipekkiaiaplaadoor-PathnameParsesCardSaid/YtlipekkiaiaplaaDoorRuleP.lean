/- Plain laws of rules: the specification's readings are the program's. No program in sight. -/
import Derived.Test.YtlipekkiaiaplaaDoorGlobP
namespace Go.Proofs.YtlipekkiaiaplaaDoor

/-- Whether a rule is valid, as the specification says it. -/
def goodR (r : PRule) : Bool := (patS r.pat).isSome && (r.pat.head? != some 33) && (r.pat.head? != some 35) && (r.rooted || !r.pat.contains 47)
theorem hasPrefix_one (l : List UInt8) (c : UInt8) : Lib.hasPrefix l [c] = (l.head? == some c) := by
  unfold Lib.hasPrefix
  cases l with
  | nil => rfl
  | cons a l =>
    simp only [List.isPrefixOf, List.head?_cons, Bool.and_true]
    rw [Bool.eq_iff_iff]; simp; exact ⟨Eq.symm, Eq.symm⟩
theorem good_compile (r : PRule) : (compileS r).isSome = goodR r := by
  unfold compileS goodR
  rw [hasPrefix_one, hasPrefix_one]
  by_cases h1 : r.pat.head? = some 33
  · simp [h1]
  · by_cases h2 : r.pat.head? = some 35
    · simp [h2]
    · have e1 : (r.pat.head? == some 33) = false := by simpa using h1
      have e2 : (r.pat.head? == some 35) = false := by simpa using h2
      simp only [bne, e1, e2, Bool.or_self, Bool.false_eq_true, if_false, Bool.not_false, Bool.and_true]
      cases hc : r.pat.contains 47
      · simp
      · cases hr : r.rooted <;> simp
theorem patS_nil : patS [] = none := by
  have h : compsS [[]] = none := rfl
  have hs : splitL 47 [] = [[]] := rfl
  unfold patS
  rw [if_neg (by decide +kernel), if_neg (by decide +kernel), hs]; exact h
theorem compileS_nil (k d r : Bool) : compileS ⟨[], k, d, r⟩ = none := by
  unfold compileS
  rw [patS_nil]
  split
  · rfl
  · split <;> rfl
/-- The rule of a line, as the specification reads it: the last slash before the first one. -/
def ruleT (l : List UInt8) : PRule :=
  let k := Lib.hasPrefix l [33]
  let l1 := Lib.trimPrefix l [33]
  let d := Lib.hasSuffix l1 [47]
  let l2 := Lib.trimSuffix l1 [47]
  let r := Lib.hasPrefix l2 [47]
  let l3 := Lib.trimPrefix l2 [47]
  ⟨l3, k, d, r || l3.contains 47⟩
theorem rule_same (l : List UInt8) : Lib.trimPrefix l [33] = [47] ∨ ruleT l = ruleS l := by
  unfold ruleT ruleS
  simp only
  generalize Lib.trimPrefix l [33] = l1
  by_cases h1 : l1 = [47]
  · exact .inl h1
  · right
    have key : Lib.trimPrefix (Lib.trimSuffix l1 [47]) [47] = Lib.trimSuffix (Lib.trimPrefix l1 [47]) [47] ∧ Lib.hasSuffix l1 [47] = Lib.hasSuffix (Lib.trimPrefix l1 [47]) [47] ∧ Lib.hasPrefix (Lib.trimSuffix l1 [47]) [47] = Lib.hasPrefix l1 [47] := by
      rcases List.eq_nil_or_concat l1 with rfl | ⟨m, c, rfl⟩
      · decide
      · rw [List.concat_eq_append] at h1 ⊢
        have hsuf : ∀ (q : List UInt8) (x : UInt8), Lib.hasSuffix (q ++ [x]) [47] = (x == 47) := fun q x => by
          unfold Lib.hasSuffix
          rw [Bool.eq_iff_iff, List.isSuffixOf_iff_suffix, beq_iff_eq]
          constructor
          · rintro ⟨t, ht⟩; have := List.append_inj' ht rfl; simpa using this.2.symm
          · rintro rfl; exact ⟨q, rfl⟩
        have htrim : ∀ (q : List UInt8) (x : UInt8), Lib.trimSuffix (q ++ [x]) [47] = if x = 47 then q else q ++ [x] := fun q x => by
          unfold Lib.trimSuffix
          rw [hsuf]
          by_cases hx : x = 47
          · simp [hx]
          · have : (x == 47) = false := by simpa using hx
            rw [this]; simp [hx]
        cases m with
        | nil =>
          have hc : c ≠ 47 := fun e => h1 (by rw [e]; rfl)
          have e1 : Lib.trimSuffix [c] [47] = [c] := by have := htrim [] c; rw [if_neg hc] at this; exact this
          have e2 : Lib.hasPrefix [c] [47] = false := by rw [hasPrefix_one]; simpa using hc
          have e3 : Lib.trimPrefix [c] [47] = [c] := by unfold Lib.trimPrefix; rw [e2]; rfl
          rw [List.nil_append, e1, e3, e1]; exact ⟨rfl, rfl, rfl⟩
        | cons a m =>
          rw [htrim]
          have p1 : ∀ (q : List UInt8), Lib.trimPrefix (a :: q) [47] = if a = 47 then q else a :: q := fun q => by
            unfold Lib.trimPrefix
            rw [hasPrefix_one]
            by_cases ha : a = 47
            · simp [ha]
            · have : ((a :: q).head? == some 47) = false := by simpa using ha
              rw [this]; simp [ha]
          have p2 : ∀ (q : List UInt8), Lib.hasPrefix (a :: q) [47] = (a == 47) := fun q => by rw [hasPrefix_one]; rfl
          rw [List.cons_append, p1]
          by_cases hc : c = 47 <;> by_cases ha : a = 47
          · simp only [if_pos hc, if_pos ha, p1, htrim, hsuf, p2]
            refine ⟨trivial, ?_, trivial⟩
            have := hsuf (a :: m) c; rw [List.cons_append] at this; exact this
          · simp only [if_pos hc, if_neg ha, p1, p2]
            have t := htrim (a :: m) c
            have u := hsuf (a :: m) c
            rw [List.cons_append, if_pos hc] at t
            exact ⟨t.symm, trivial, trivial⟩
          · simp only [if_neg hc, if_pos ha, p1, htrim, hsuf, p2]
            refine ⟨trivial, ?_, trivial⟩
            have := hsuf (a :: m) c; rw [List.cons_append] at this; exact this
          · simp only [if_neg hc, if_neg ha, p1, p2]
            have t := htrim (a :: m) c
            rw [List.cons_append, if_neg hc] at t
            exact ⟨t.symm, trivial, trivial⟩
    obtain ⟨k1, k2, k3⟩ := key
    rw [k1, ← k2, k3]
/-- Both readings give the same valid rules. -/
theorem parseLine_T (l : List UInt8) : parseLineS l = if (ruleT l).pat ≠ [] ∧ goodR (ruleT l) = true then some (ruleT l) else none := by
  unfold parseLineS
  rcases rule_same l with h | h
  · have hS : (ruleS l).pat = [] := by unfold ruleS; simp only; rw [h]; rfl
    have hT : (ruleT l).pat = [] := by unfold ruleT; simp only; rw [h]; rfl
    have hn : compileS (ruleS l) = none := by
      have : ruleS l = ⟨[], (ruleS l).keep, (ruleS l).dir, (ruleS l).rooted⟩ := by rw [← hS]
      rw [this]; exact compileS_nil _ _ _
    rw [hn]; simp [hT]
  · rw [h, good_compile]
    by_cases hg : goodR (ruleS l) = true
    · have hp : (ruleS l).pat ≠ [] := by
        intro e
        have hc := good_compile (ruleS l)
        have : ruleS l = ⟨[], (ruleS l).keep, (ruleS l).dir, (ruleS l).rooted⟩ := by rw [← e]
        rw [this, compileS_nil, ← this, hg] at hc
        cases hc
      rw [if_pos hg, if_pos ⟨hp, hg⟩]
    · rw [if_neg hg, if_neg (fun h => hg h.2)]

end Go.Proofs.YtlipekkiaiaplaaDoor
