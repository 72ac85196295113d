/- Plain laws of patterns: the specification's search; composed patterns; a path as a pattern. No program in sight. -/
import Derived.Test.YtlipekkiaiaplaaDoorRejP
namespace Go.Proofs.YtlipekkiaiaplaaDoor

/-- has, as the specification writes it. -/
def hasM (it : PItem) (r : Int) : Bool := (it.ranges.any (inR r)) != (it.any || it.neg)
theorem clsS_any {t u : List Int} {it : PItem} (h : clsS t = some (it, u)) : it.any = false := by
  unfold clsS at h
  simp only at h
  split at h
  · simp at h
  · split at h
    · simp at h
    · simp only [Option.some.injEq, Prod.mk.injEq] at h
      rw [← h.1]
theorem itemS_has {l t : List Int} {it : PItem} (h : itemS l = some (it, t)) (r : Int) : hasM it r = itemM it r := by
  have key : it.any = false → hasM it r = itemM it r := fun ha => by unfold hasM itemM; rw [ha]; simp
  cases l with
  | nil => simp [itemS] at h
  | cons a l =>
    rw [itemS] at h
    split at h
    · simp at h; rw [← h.1]; rfl
    · split at h
      · simp at h; rw [← h.1]; rfl
      · split at h
        · exact key (clsS_any h)
        · split at h
          · cases l with
            | nil => simp [headS] at h
            | cons q u => simp [headS] at h; exact key (by rw [← h.1]; rfl)
          · simp at h; exact key (by rw [← h.1]; rfl)
theorem itemsS_has : ∀ (f : Nat) (l : List Int) (its : List PItem), itemsS f l = some its → ∀ it ∈ its, ∀ r, hasM it r = itemM it r
  | 0, _, _, h => by simp [itemsS] at h
  | f + 1, l, its, h => by
    unfold itemsS at h
    split at h
    · simp at h; subst h; simp
    · split at h
      · simp at h
      · rename_i it t e
        split at h
        · simp at h
        · rename_i its2 e2
          simp at h; subst h
          intro x hx
          rcases List.mem_cons.1 hx with rfl | hx
          · exact fun r => itemS_has e r
          · exact itemsS_has f t its2 e2 x hx
def Rel2 {P Q : Type} (R : P → Q → Prop) : List P → List Q → Prop
  | [], [] => True
  | p :: ps, q :: qs => R p q ∧ Rel2 R ps qs
  | _, _ => False
theorem dv_congr {P Q T : Type} {s1 : P → Bool} {s2 : Q → Bool} {m1 : P → T → Bool} {m2 : Q → T → Bool} : ∀ (ps : List P) (qs : List Q) (ts : List T), Rel2 (fun p q => s1 p = s2 q ∧ (s1 p = false → ∀ t, m1 p t = m2 q t)) ps qs → dv s1 m1 ps ts = dv s2 m2 qs ts
  | [], [], ts, _ => rfl
  | [], _ :: _, _, h => by exact absurd h (by simp [Rel2])
  | _ :: _, [], _, h => by exact absurd h (by simp [Rel2])
  | p :: ps, q :: qs, ts, h => by
    obtain ⟨h1, h2⟩ := h
    have ih : dv s1 m1 ps = dv s2 m2 qs := funext fun us => dv_congr ps qs us h2
    unfold dv
    rw [ih, h1.1]
    cases hq : s2 q
    · simp only [Bool.false_eq_true, if_false]
      have hm := h1.2 (h1.1.trans hq)
      cases ts with
      | nil => rfl
      | cons t us => simp [headM, hm]
    · rfl
/-- The items of a component, as the specification reads them. -/
def itemsR (p : List UInt8) : List PItem := (itemsL (runesL p)).getD []
/-- all, as the specification writes it. -/
def partM (p x : List UInt8) : Bool := dv PItem.star hasM (itemsR p) (runesL x)
def isDbl (p : List UInt8) : Bool := decide (p = [42, 42])
def allR (ps xs : List (List UInt8)) : Bool := dv isDbl partM ps xs
theorem compS_rel {p : List UInt8} {c : PComp} (h : compS p = some c) : isDbl p = c.dbl ∧ (isDbl p = false → ∀ x, partM p x = compM c x) := by
  unfold compS at h
  split at h
  · rename_i hp
    simp at h; subst h
    refine ⟨by simp [isDbl, hp], fun hf => by simp [isDbl, hp] at hf⟩
  · rename_i hp
    split at h
    · simp at h
    · rename_i its e
      split at h
      · simp at h
      · simp at h; subst h
        refine ⟨by simp [isDbl, hp], fun _ x => ?_⟩
        unfold partM compM itemsR
        rw [e]
        simp only [Option.getD_some]
        refine dv_congr its its _ ?_
        have hok := itemsS_has _ _ _ e
        have : ∀ l : List PItem, (∀ it ∈ l, ∀ r, hasM it r = itemM it r) → Rel2 (fun p q : PItem => p.star = q.star ∧ (p.star = false → ∀ t, hasM p t = itemM q t)) l l := by
          intro l
          induction l with
          | nil => intro _; exact trivial
          | cons a l ih => intro hl; exact ⟨⟨rfl, fun _ => hl a (by simp)⟩, ih fun it hit => hl it (by simp [hit])⟩
        exact this its hok
theorem compsS_forall : ∀ {ps : List (List UInt8)} {cs : List PComp}, compsS ps = some cs → Rel2 (fun p c => isDbl p = c.dbl ∧ (isDbl p = false → ∀ x, partM p x = compM c x)) ps cs
  | [], cs, h => by simp [compsS] at h; subst h; exact trivial
  | p :: ps, cs, h => by
    unfold compsS at h
    split at h
    · simp at h
    · rename_i c e
      split at h
      · simp at h
      · rename_i cs2 e2
        simp at h; subst h
        exact ⟨compS_rel e, compsS_forall e2⟩
/-- The specification's search is the program's. -/
theorem all_match {l : List UInt8} {cs : List PComp} (h : patS l = some cs) (xs : List (List UInt8)) : allR (splitL 47 l) xs = matchS cs xs := by
  unfold patS at h
  split at h
  · simp at h
  · split at h
    · simp at h
    · exact dv_congr _ _ _ (compsS_forall h)
/-- Whether a component is one, as the specification says it. -/
def partOk (p : List UInt8) : Bool := match itemsL (runesL p) with | some its => decide (0 < its.length) | none => false
theorem compS_ok (p : List UInt8) : (compS p).isSome = partOk p := by
  unfold compS partOk
  split
  · rename_i hp; subst hp; decide +kernel
  · cases itemsL (runesL p) with
    | none => rfl
    | some its =>
      simp only
      by_cases hn : its = []
      · subst hn; rfl
      · rw [if_neg hn]
        have : 0 < its.length := List.length_pos_iff.2 hn
        simp [this]
theorem compsS_ok : ∀ ps : List (List UInt8), (compsS ps).isSome = ps.all partOk
  | [] => rfl
  | p :: ps => by
    rw [List.all_cons, ← compS_ok, ← compsS_ok ps]
    have e : compsS (p :: ps) = match compS p with | none => none | some c => match compsS ps with | none => none | some cs => some (c :: cs) := rfl
    rw [e]
    cases compS p with
    | none => rfl
    | some c =>
      simp only
      cases compsS ps <;> rfl
theorem patS_ok (l : List UInt8) : (patS l).isSome = (decide ((splitL 47 l).length ≤ 16) && decide (l.length ≤ 512) && textB l && (splitL 47 l).all partOk) := by
  unfold patS
  by_cases h1 : 512 < l.length
  · rw [if_pos (.inl h1)]; simp; omega
  · cases h2 : textB l
    · rw [if_pos (.inr rfl)]; simp
    · rw [if_neg (by simp [h1])]
      by_cases h3 : 16 < (splitL 47 l).length
      · rw [if_pos h3]; simp; omega
      · rw [if_neg h3, compsS_ok]
        have e1 : decide ((splitL 47 l).length ≤ 16) = true := by simp; omega
        have e2 : decide (l.length ≤ 512) = true := by simp; omega
        rw [e1, e2]; simp

/-- Two searches, one behind the other. -/
theorem dv_append {P T : Type} {star : P → Bool} {m : P → T → Bool} : ∀ (ps qs : List P) (xs ys : List T), dv star m ps xs = true → dv star m qs ys = true → dv star m (ps ++ qs) (xs ++ ys) = true
  | [], qs, xs, ys, h1, h2 => by
    unfold dv at h1
    have : xs = [] := by simpa using h1
    subst this
    simpa using h2
  | p :: ps, qs, xs, ys, h1, h2 => by
    have ih := dv_append (star := star) (m := m) ps qs
    unfold dv at h1
    rw [List.cons_append]
    unfold dv
    cases hs : star p
    · rw [hs] at h1
      simp only [Bool.false_eq_true, if_false] at h1 ⊢
      cases xs with
      | nil => simp [headM] at h1
      | cons x xs =>
        simp only [headM, Bool.and_eq_true] at h1
        simp only [List.cons_append, headM, h1.1, Bool.true_and]
        exact ih xs ys h1.2 h2
    · rw [hs] at h1
      simp only [if_true] at h1 ⊢
      induction xs with
      | nil =>
        unfold anySuf at h1
        have := ih [] ys h1 h2
        rw [List.nil_append] at this ⊢
        cases ys with
        | nil => exact this
        | cons y ys => unfold anySuf; simp [this]
      | cons x xs ih2 =>
        unfold anySuf at h1
        rw [List.cons_append]
        unfold anySuf
        rw [Bool.or_eq_true] at h1 ⊢
        rcases h1 with h1 | h1
        · left; exact ih (x :: xs) ys h1 h2
        · right; exact ih2 h1
theorem compsS_append : ∀ {ps qs : List (List UInt8)} {c1 c2 : List PComp}, compsS ps = some c1 → compsS qs = some c2 → compsS (ps ++ qs) = some (c1 ++ c2)
  | [], qs, c1, c2, h1, h2 => by simp [compsS] at h1; subst h1; exact h2
  | p :: ps, qs, c1, c2, h1, h2 => by
    unfold compsS at h1
    split at h1
    · simp at h1
    · rename_i c e
      split at h1
      · simp at h1
      · rename_i cs e2
        simp at h1; subst h1
        rw [List.cons_append, compsS, e]
        simp only
        rw [compsS_append e2 h2]; rfl
theorem patS_comps {l : List UInt8} {cs : List PComp} (h : patS l = some cs) : compsS (splitL 47 l) = some cs := by
  unfold patS at h
  split at h
  · simp at h
  · split at h
    · simp at h
    · exact h
theorem glob_cat {p q a b : List UInt8} {c1 c2 c : List PComp} (h1 : patS p = some c1) (h2 : patS q = some c2) (h : patS (p ++ 47 :: q) = some c) (m1 : matchS c1 (splitL 47 a) = true) (m2 : matchS c2 (splitL 47 b) = true) :
    matchS c (splitL 47 (a ++ 47 :: b)) = true := by
  have e := patS_comps h
  rw [splitL_cat, compsS_append (patS_comps h1) (patS_comps h2)] at e
  simp at e
  subst e
  rw [splitL_cat]
  exact dv_append _ _ _ _ m1 m2
theorem glob_any : patS [42, 42] = some [⟨true, []⟩] := by
  have h : compsS [[42, 42]] = some [⟨true, []⟩] := rfl
  have hs : splitL 47 [42, 42] = [[42, 42]] := by decide +kernel
  unfold patS
  rw [if_neg (by decide +kernel), if_neg (by decide +kernel), hs]; exact h
theorem glob_all (xs : List (List UInt8)) : matchS [⟨true, []⟩] xs = true := by
  unfold matchS dv
  simp only [if_true]
  induction xs with
  | nil => rfl
  | cons x xs ih => unfold anySuf; rw [ih]; simp

end Go.Proofs.YtlipekkiaiaplaaDoor
