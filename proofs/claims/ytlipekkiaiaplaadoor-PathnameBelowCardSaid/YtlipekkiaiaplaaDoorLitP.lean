/- Plain laws of literal patterns: a path with a backslash before each special byte compiles, and matches just that path. No program in sight. -/
import Derived.Test.YtlipekkiaiaplaaDoorRuleP
namespace Go.Proofs.YtlipekkiaiaplaaDoor

def specB (c : UInt8) : Bool := c == 42 || c == 63 || c == 91 || c == 92
def escB (f : Bool) (c : UInt8) : Bool := specB c || (f && (c == 33 || c == 35))
/-- What literal returns; f: at the beginning. -/
def litFrom : Bool → List UInt8 → List UInt8
  | _, [] => []
  | f, c :: t => if escB f c then 92 :: c :: litFrom false t else c :: litFrom false t
def specI (r : Int) : Bool := r == 42 || r == 63 || r == 91 || r == 92
def escI (f : Bool) (r : Int) : Bool := specI r || (f && (r == 33 || r == 35))
def litRunes : Bool → List Int → List Int
  | _, [] => []
  | f, r :: t => if escI f r then 92 :: r :: litRunes false t else r :: litRunes false t

theorem byte_int (c : UInt8) (n : Nat) (hn : n < 256) : (c == UInt8.ofNat n) = (((c.toNat : Nat) : Int) == (n : Int)) := by
  rw [Bool.eq_iff_iff, beq_iff_eq, beq_iff_eq]
  constructor
  · rintro rfl; simp; omega
  · intro h
    have : c.toNat = n := by omega
    rw [← this]; simp
theorem escB_I (f : Bool) (c : UInt8) : escB f c = escI f (c.toNat : Int) := by
  have h := fun n hn => byte_int c n hn
  have h42 : (c == 42) = (((c.toNat : Nat) : Int) == 42) := h 42 (by omega)
  have h63 : (c == 63) = (((c.toNat : Nat) : Int) == 63) := h 63 (by omega)
  have h91 : (c == 91) = (((c.toNat : Nat) : Int) == 91) := h 91 (by omega)
  have h92 : (c == 92) = (((c.toNat : Nat) : Int) == 92) := h 92 (by omega)
  have h33 : (c == 33) = (((c.toNat : Nat) : Int) == 33) := h 33 (by omega)
  have h35 : (c == 35) = (((c.toNat : Nat) : Int) == 35) := h 35 (by omega)
  simp only [escB, specB, escI, specI, h42, h63, h91, h92, h33, h35]
theorem escI_big (f : Bool) (r : Int) (h : 128 ≤ r) : escI f r = false := by
  simp only [escI, specI, Bool.or_eq_false_iff, Bool.and_eq_false_iff, beq_eq_false_iff_ne]
  refine ⟨⟨⟨⟨by omega, by omega⟩, by omega⟩, by omega⟩, .inr ⟨by omega, by omega⟩⟩
theorem escB_big (f : Bool) (c : UInt8) (h : 128 ≤ c.toNat) : escB f c = false := by rw [escB_I]; exact escI_big _ _ (by omega)

/-- Bytes that are one rune, whatever follows. -/
structure Unit1 (q : List UInt8) (r : Nat) : Prop where
  ne : q ≠ []
  dec : ∀ u, Lib.decodeL (q ++ u) = (r, q.length)
  ok : ¬ (r = 65533 ∧ q.length = 1)
  kind : (∃ c, q = [c] ∧ r = c.toNat ∧ c.toNat < 128) ∨ (128 ≤ r ∧ ∀ c ∈ q, 128 ≤ c.toNat)
theorem Unit1.runes {q : List UInt8} {r : Nat} (h : Unit1 q r) (u : List UInt8) : runesL (q ++ u) = (r : Int) :: runesL u := by
  rw [runesL_step _ (by simp [h.ne]), h.dec u]; simp
theorem Unit1.valid {q : List UInt8} {r : Nat} (h : Unit1 q r) (u : List UInt8) : Lib.validD (q ++ u) = Lib.validD u := by
  rw [Lib.validD_step _ (by simp [h.ne]), h.dec u, if_neg h.ok]; simp
theorem Unit1.enc {q : List UInt8} {r : Nat} (h : Unit1 q r) : Lib.encodeRune (r : Int) = q := by
  have h0 := h.dec []
  rw [List.append_nil] at h0
  have := Lib.encode_decode q h.ne (by rw [h0]; exact h.ok)
  rw [h0] at this
  simpa using this
theorem unit_ascii (c : UInt8) (h : c.toNat < 128) : Unit1 [c] c.toNat :=
  ⟨by simp, fun u => by rw [List.singleton_append, Lib.decodeL_ascii c u h]; rfl, by simp; omega, .inl ⟨c, rfl, rfl, h⟩⟩
/-- A valid text begins with a rune. -/
theorem unit_of (l : List UInt8) (hne : l ≠ []) (hv : Lib.validD l = true) : ∃ q t r, l = q ++ t ∧ Unit1 q r ∧ Lib.validD t = true := by
  have hst := Lib.validD_step l hne
  rw [hv] at hst
  split at hst
  · cases hst
  · rename_i hok
    have key : Unit1 (l.take (Lib.decodeL l).2) (Lib.decodeL l).1 := by
      have hl : 0 < l.length := List.length_pos_iff.2 hne
      have hle := Lib.decodeL_le l hne
      have hwd := Lib.decodeL_width l
      have hdN := Lib.decodeL_N l
      have k0 := (l.getD 0 0).toNat_lt
      have k1 := (l.getD 1 0).toNat_lt
      have k2 := (l.getD 2 0).toNat_lt
      have k3 := (l.getD 3 0).toNat_lt
      refine ⟨fun e => by have := congrArg List.length e; simp only [List.length_take, List.length_nil] at this; omega, ?_, ?_, ?_⟩
      · intro u
        have hlt : (l.take (Lib.decodeL l).2).length = (Lib.decodeL l).2 := by rw [List.length_take]; omega
        rw [hlt]
        have hg : ∀ j, j < (Lib.decodeL l).2 → (l.take (Lib.decodeL l).2 ++ u).getD j 0 = l.getD j 0 := fun j hj => by
          simp only [List.getD]
          rw [List.getElem?_append_left (by rw [hlt]; exact hj), List.getElem?_take, if_pos hj]
        have hlen : (Lib.decodeL l).2 ≤ (l.take (Lib.decodeL l).2 ++ u).length := by rw [List.length_append, hlt]; omega
        rw [Lib.decodeL_N (l.take (Lib.decodeL l).2 ++ u)]
        generalize (l.take (Lib.decodeL l).2 ++ u).length = N at hlen ⊢
        have g0 := hg 0 (by omega)
        rw [g0]
        rcases Lib.decodeN_shape l.length (l.getD 0 0).toNat (l.getD 1 0).toNat (l.getD 2 0).toNat (l.getD 3 0).toNat with ⟨c, e⟩ | ⟨c1, c2, c3, cv, e⟩ | ⟨c1, c2, c3, c4, cv, cs, e⟩ | ⟨c1, c2, c3, c4, c5, cv, cw, e⟩ | e
        · rw [hdN, e]; unfold Lib.decodeN; rw [if_pos c]
        · rw [hdN, e] at hlen hg ⊢
          have g1 := hg 1 (by omega)
          dsimp only at hlen g1 ⊢
          rw [g1]; unfold Lib.decodeN; rw [if_neg (by omega), if_pos ⟨c1, by omega, c3⟩, if_pos (by omega)]
        · rw [hdN, e] at hlen hg ⊢
          have g1 := hg 1 (by omega)
          have g2 := hg 2 (by omega)
          dsimp only at hlen g1 g2 ⊢
          rw [g1, g2]; unfold Lib.decodeN; rw [if_neg (by omega), if_neg (by omega), if_pos ⟨c1, ⟨by omega, c3⟩, by omega, c4⟩, if_pos (by omega)]
        · rw [hdN, e] at hlen hg ⊢
          have g1 := hg 1 (by omega)
          have g2 := hg 2 (by omega)
          have g3 := hg 3 (by omega)
          dsimp only at hlen g1 g2 g3 ⊢
          rw [g1, g2, g3]; unfold Lib.decodeN; rw [if_neg (by omega), if_neg (by omega), if_neg (by omega), if_pos ⟨c1, ⟨by omega, c3⟩, ⟨by omega, c4⟩, by omega, c5⟩, if_pos (by omega)]
        · rw [hdN, e] at hok; exact absurd ⟨rfl, rfl⟩ hok
      · rw [List.length_take]
        rintro ⟨h1, h2⟩
        exact hok ⟨h1, by omega⟩
      · rcases Lib.decodeN_shape l.length (l.getD 0 0).toNat (l.getD 1 0).toNat (l.getD 2 0).toNat (l.getD 3 0).toNat with ⟨c, e⟩ | ⟨c1, c2, c3, cv, e⟩ | ⟨c1, c2, c3, c4, cv, cs, e⟩ | ⟨c1, c2, c3, c4, c5, cv, cw, e⟩ | e
        · left
          rw [hdN, e]
          exact ⟨l.getD 0 0, Lib.takeA l hl, rfl, c⟩
        · right
          rw [hdN, e]
          refine ⟨by dsimp only; omega, ?_⟩
          rw [Lib.takeB l c2]
          intro c hc
          simp only [List.mem_cons, List.not_mem_nil, or_false] at hc
          rcases hc with rfl | rfl <;> omega
        · right
          rw [hdN, e]
          refine ⟨by dsimp only; omega, ?_⟩
          rw [Lib.takeC l c2]
          intro c hc
          simp only [List.mem_cons, List.not_mem_nil, or_false] at hc
          rcases hc with rfl | rfl | rfl <;> omega
        · right
          rw [hdN, e]
          refine ⟨by dsimp only; omega, ?_⟩
          rw [Lib.takeD l c2]
          intro c hc
          simp only [List.mem_cons, List.not_mem_nil, or_false] at hc
          rcases hc with rfl | rfl | rfl | rfl <;> omega
        · rw [hdN, e] at hok; exact absurd ⟨rfl, rfl⟩ hok
    exact ⟨l.take (Lib.decodeL l).2, l.drop (Lib.decodeL l).2, (Lib.decodeL l).1, (List.take_append_drop _ _).symm, key, hst.symm⟩

/-- An induction over the runes of a valid text. -/
theorem text_ind {P : List UInt8 → Prop} (h0 : P []) (h1 : ∀ q r t, Unit1 q r → Lib.validD t = true → P t → P (q ++ t)) : ∀ l, Lib.validD l = true → P l := by
  intro l
  generalize hn : l.length = n
  induction n using Nat.strongRecOn generalizing l with
  | _ n ih =>
    intro hv
    by_cases hne : l = []
    · subst hne; exact h0
    · obtain ⟨q, t, r, rfl, hu, ht⟩ := unit_of l hne hv
      have : 0 < q.length := List.length_pos_iff.2 hu.ne
      exact h1 q r t hu ht (ih t.length (by rw [List.length_append] at hn; omega) t rfl ht)
theorem runes_back (l : List UInt8) (h : Lib.validD l = true) : (runesL l).flatMap Lib.encodeRune = l := by
  refine text_ind (P := fun l => (runesL l).flatMap Lib.encodeRune = l) rfl (fun q r t hu _ ih => ?_) l h
  rw [hu.runes, List.flatMap_cons, hu.enc, ih]
theorem runes_inj {l m : List UInt8} (h : Lib.validD l = true) (k : Lib.validD m = true) (e : runesL l = runesL m) : l = m := by
  rw [← runes_back l h, ← runes_back m k, e]
theorem valid_app {l : List UInt8} (h : Lib.validD l = true) (u : List UInt8) : Lib.validD (l ++ u) = Lib.validD u := by
  refine text_ind (P := fun l => Lib.validD (l ++ u) = Lib.validD u) rfl (fun q r t hu _ ih => ?_) l h
  rw [List.append_assoc, hu.valid, ih]

theorem litFrom_big (f : Bool) : ∀ (q t : List UInt8), q ≠ [] → (∀ c ∈ q, 128 ≤ c.toNat) → litFrom f (q ++ t) = q ++ litFrom false t := by
  intro q
  induction q generalizing f with
  | nil => intro t h; exact absurd rfl h
  | cons c q ih =>
    intro t _ h
    rw [List.cons_append, litFrom, escB_big f c (h c (by simp))]
    simp only [Bool.false_eq_true, if_false, List.cons_append]
    by_cases hq : q = []
    · subst hq; rfl
    · rw [ih false t hq (fun d hd => h d (by simp [hd]))]
theorem lit_runes (l : List UInt8) (h : Lib.validD l = true) : ∀ f, runesL (litFrom f l) = litRunes f (runesL l) ∧ Lib.validD (litFrom f l) = true := by
  refine text_ind (P := fun l => ∀ f, runesL (litFrom f l) = litRunes f (runesL l) ∧ Lib.validD (litFrom f l) = true) (fun f => by cases f <;> exact ⟨rfl, rfl⟩) (fun q r t hu _ ih f => ?_) l h
  obtain ⟨ih1, ih2⟩ := ih false
  rw [hu.runes]
  rcases hu.kind with ⟨c, rfl, rfl, hc⟩ | ⟨hr, hq⟩
  · rw [List.singleton_append, litFrom, litRunes, escB_I]
    have u92 := unit_ascii 92 (by decide)
    have r1 := hu.runes (litFrom false t)
    have v1 := hu.valid (litFrom false t)
    rw [List.singleton_append] at r1 v1
    cases escI f (c.toNat : Int)
    · simp only [Bool.false_eq_true, if_false]
      exact ⟨by rw [r1, ih1], by rw [v1, ih2]⟩
    · simp only [if_true]
      have r2 := u92.runes (c :: litFrom false t)
      have v2 := u92.valid (c :: litFrom false t)
      rw [List.singleton_append] at r2 v2
      exact ⟨by rw [r2, r1, ih1]; rfl, by rw [v2, v1, ih2]⟩
  · rw [litFrom_big f q t hu.ne hq, litRunes, escI_big f _ (by omega)]
    simp only [Bool.false_eq_true, if_false]
    exact ⟨by rw [hu.runes, ih1], by rw [hu.valid, ih2]⟩
theorem lit_items : ∀ (R : List Int) (f : Bool) (n : Nat), (litRunes f R).length < n → itemsS n (litRunes f R) = some (R.map litI)
  | [], f, n, h => by
    cases n with
    | zero => omega
    | succ n => simp [litRunes, itemsS]
  | r :: R, f, n, h => by
    cases n with
    | zero => omega
    | succ n =>
      rw [litRunes] at h ⊢
      cases he : escI f r
      · rw [he] at h
        simp only [Bool.false_eq_true, if_false, List.length_cons] at h ⊢
        have hs : specI r = false := by
          cases hs : specI r
          · rfl
          · rw [escI, hs] at he; cases he
        simp only [specI, Bool.or_eq_false_iff, beq_eq_false_iff_ne] at hs
        rw [itemsS, if_neg (by simp)]
        have hi : itemS (r :: litRunes false R) = some (litI r, litRunes false R) := by
          simp only [itemS]
          rw [if_neg hs.1.1.1, if_neg hs.1.1.2, if_neg hs.1.2, if_neg hs.2]
        rw [hi]
        simp only
        rw [lit_items R false n (by omega)]; rfl
      · rw [he] at h
        simp only [if_true, List.length_cons] at h ⊢
        rw [itemsS, if_neg (by simp)]
        have hi : itemS (92 :: r :: litRunes false R) = some (litI r, litRunes false R) := by
          simp only [itemS]
          rw [if_neg (by decide), if_neg (by decide), if_neg (by decide), if_pos trivial]; rfl
        rw [hi]
        simp only
        rw [lit_items R false n (by omega)]; rfl
theorem runes_ne {p : List UInt8} (h : p ≠ []) : runesL p ≠ [] := by rw [runesL_step p h]; simp
theorem lit_comp (f : Bool) (p : List UInt8) (h : Lib.validD p = true) (hne : p ≠ []) : compS (litFrom f p) = some ⟨false, (runesL p).map litI⟩ := by
  unfold compS
  rw [if_neg, (lit_runes p h f).1]
  · unfold itemsL
    rw [lit_items _ _ _ (Nat.lt_succ_self _)]
    simp only
    rw [if_neg]
    simp [runes_ne hne]
  · cases p with
    | nil => exact absurd rfl hne
    | cons c t =>
      rw [litFrom]
      intro e
      split at e
      · simp at e
      · rename_i hc
        simp only [List.cons.injEq] at e
        rw [e.1] at hc
        exact hc (by simp [escB, specB])
theorem lit_compM (R : List Int) : ∀ (S : List Int), dv (·.star) itemM (R.map litI) S = decide (R = S) := by
  induction R with
  | nil => intro S; cases S <;> simp [dv]
  | cons r R ih =>
    intro S
    rw [List.map_cons, dv]
    have h1 : (litI r).star = false := rfl
    simp only [h1, Bool.false_eq_true, if_false]
    cases S with
    | nil => simp [headM]
    | cons s S =>
      rw [headM, ih]
      have h2 : itemM (litI r) s = decide (r = s) := by
        simp only [itemM, litI, inR, List.any_cons, List.any_nil, Bool.or_false, Bool.false_or]
        rw [Bool.eq_iff_iff]; simp; omega
      rw [h2, Bool.eq_iff_iff]; simp

/-- The parts of a literal. -/
def litParts (f : Bool) : List (List UInt8) → List (List UInt8)
  | [] => []
  | p :: ps => litFrom f p :: ps.map (litFrom false)
theorem lit_split (l : List UInt8) : ∀ f, splitL 47 (litFrom f l) = litParts f (splitL 47 l) := by
  induction l with
  | nil => intro f; cases f <;> rfl
  | cons c l ih =>
    intro f
    rw [litFrom]
    have ih0 := ih false
    by_cases hc : c = 47
    · subst hc
      have he : escB f 47 = false := by cases f <;> rfl
      rw [he]
      simp only [Bool.false_eq_true, if_false, splitL, if_true]
      rw [ih0]
      cases hs : splitL 47 l with
      | nil => exact absurd hs (splitL_ne _ _)
      | cons p ps => cases f <;> rfl
    · cases hs : splitL 47 l with
      | nil => exact absurd hs (splitL_ne _ _)
      | cons p ps =>
        rw [hs] at ih0
        simp only [litParts] at ih0
        cases he : escB f c
        · simp only [Bool.false_eq_true, if_false, splitL, if_neg hc]
          rw [ih0, hs]
          simp only [litParts, litFrom, he, Bool.false_eq_true, if_false]
        · simp only [if_true, splitL, if_neg hc, if_neg (show ¬ (92 : UInt8) = 47 by decide)]
          rw [ih0, hs]
          simp only [litParts, litFrom, he, if_true]
theorem lit_comps : ∀ (ps : List (List UInt8)), (∀ p ∈ ps, Lib.validD p = true ∧ p ≠ []) → ∀ f, compsS (litParts f ps) = some (ps.map fun p => ⟨false, (runesL p).map litI⟩) := by
  have key : ∀ (ps : List (List UInt8)), (∀ p ∈ ps, Lib.validD p = true ∧ p ≠ []) → compsS (ps.map (litFrom false)) = some (ps.map fun p => ⟨false, (runesL p).map litI⟩) := by
    intro ps
    induction ps with
    | nil => intro _; rfl
    | cons p ps ih =>
      intro h
      rw [List.map_cons, compsS, lit_comp false p (h p (by simp)).1 (h p (by simp)).2]
      simp only
      rw [ih (fun q hq => h q (by simp [hq]))]; rfl
  intro ps h f
  cases ps with
  | nil => rfl
  | cons p ps =>
    rw [litParts, compsS, lit_comp f p (h p (by simp)).1 (h p (by simp)).2]
    simp only
    rw [key ps (fun q hq => h q (by simp [hq]))]; rfl
theorem lit_match : ∀ (ps xs : List (List UInt8)), (∀ p ∈ ps, Lib.validD p = true) → (∀ x ∈ xs, Lib.validD x = true) → matchS (ps.map fun p => ⟨false, (runesL p).map litI⟩) xs = decide (ps = xs) := by
  unfold matchS
  intro ps
  induction ps with
  | nil => intro xs _ _; cases xs <;> simp [dv]
  | cons p ps ih =>
    intro xs hp hx
    rw [List.map_cons, dv]
    simp only [Bool.false_eq_true, if_false]
    cases xs with
    | nil => simp [headM]
    | cons x xs =>
      rw [headM, ih xs (fun q hq => hp q (by simp [hq])) (fun q hq => hx q (by simp [hq]))]
      have h2 : compM ⟨false, (runesL p).map litI⟩ x = decide (p = x) := by
        rw [compM, lit_compM, Bool.eq_iff_iff]
        simp only [decide_eq_true_eq]
        exact ⟨runes_inj (hp p (by simp)) (hx x (by simp)), fun e => by rw [e]⟩
      rw [h2, Bool.eq_iff_iff]; simp
theorem litFrom_len : ∀ (l : List UInt8) (f : Bool), (litFrom f l).length ≤ 2 * l.length
  | [], f => by simp [litFrom]
  | c :: t, f => by
    have := litFrom_len t false
    rw [litFrom]; split <;> simp <;> omega
theorem litFrom_low : ∀ (l : List UInt8) (f : Bool), lowFree l = true → lowFree (litFrom f l) = true
  | [], f, h => by simp [litFrom, lowFree]
  | c :: t, f, h => by
    have := litFrom_low t false
    simp only [lowFree, List.all_cons, Bool.and_eq_true] at h this
    have h2 := this h.2
    rw [litFrom]; split
    · simp only [lowFree, List.all_cons, Bool.and_eq_true]; exact ⟨by decide, h.1, h2⟩
    · simp only [lowFree, List.all_cons, Bool.and_eq_true]; exact ⟨h.1, h2⟩
/-- A valid path is a text. -/
theorem valid_parts {l : List UInt8} (h : validP l = true) : ∀ p ∈ splitL 47 l, textB p = true ∧ p ≠ [] := by
  simp only [validP, Bool.and_eq_true, List.all_eq_true] at h
  intro p hp
  have := h.2 p hp
  simp only [compB, Bool.and_eq_true] at this
  exact ⟨this.2, by have h1 := this.1.1.1.1.1; simpa using h1⟩
theorem join_text : ∀ (ps : List (List UInt8)), (∀ p ∈ ps, textB p = true) → textB (Lib.join ps [47]) = true := by
  intro ps
  induction ps with
  | nil => intro _; rfl
  | cons p ps ih =>
    intro h
    have hp := h p (by simp)
    cases ps with
    | nil => simpa [Lib.join] using hp
    | cons q ps =>
      have i2 := ih (fun r hr => h r (by simp [hr]))
      have e : Lib.join (p :: q :: ps) [47] = p ++ ([47] ++ Lib.join (q :: ps) [47]) := by simp [Lib.join]
      rw [e]
      simp only [textB, Bool.and_eq_true] at hp i2 ⊢
      refine ⟨?_, ?_⟩
      · have a := hp.1
        have b := i2.1
        simp only [lowFree] at a b ⊢
        rw [List.all_append, List.all_append, a, b]; rfl
      · rw [valid_app hp.2, List.singleton_append, Lib.validD_cons _ _ (by decide)]; exact i2.2
theorem valid_text {l : List UInt8} (h : validP l = true) : textB l = true := by
  rw [← join_splitL 47 l]
  exact join_text _ (fun p hp => (valid_parts h p hp).1)
/-- The compiled literal. -/
def litC (l : List UInt8) : List PComp := (splitL 47 l).map fun p => ⟨false, (runesL p).map litI⟩
theorem lit_pat {l : List UInt8} (h : validP l = true) (hl : l.length ≤ 256) : patS (litFrom true l) = some (litC l) := by
  have hp := h
  simp only [validP, Bool.and_eq_true, decide_eq_true_eq] at hp
  have ht := valid_text h
  simp only [textB, Bool.and_eq_true] at ht
  have hlen := litFrom_len l true
  unfold patS
  rw [if_neg, lit_split, if_neg]
  · exact lit_comps _ (fun p hq => by have := valid_parts h p hq; simp only [textB, Bool.and_eq_true] at this; exact ⟨this.1.2, this.2⟩) true
  · cases hs : splitL 47 l with
    | nil => simp [litParts]
    | cons p ps => rw [hs] at hp; simp only [litParts, List.length_cons, List.length_map] at hp ⊢; omega
  · rintro (h1 | h1)
    · omega
    · simp only [textB, litFrom_low l true ht.1, (lit_runes l ht.2 true).2] at h1; cases h1
theorem lit_matches {l m : List UInt8} (h : validP l = true) (k : validP m = true) : matchS (litC l) (splitL 47 m) = decide (l = m) := by
  have v : ∀ {l : List UInt8}, validP l = true → ∀ p ∈ splitL 47 l, Lib.validD p = true := fun h p hp => by have := (valid_parts h p hp).1; simp only [textB, Bool.and_eq_true] at this; exact this.2
  rw [litC, lit_match _ _ (v h) (v k), Bool.eq_iff_iff]
  simp only [decide_eq_true_eq]
  exact ⟨fun e => by rw [← join_splitL 47 l, e, join_splitL], fun e => by rw [e]⟩
theorem lit_head {l : List UInt8} (n : UInt8) (hn : n = 33 ∨ n = 35) : (litFrom true l).head? ≠ some n := by
  cases l with
  | nil => simp [litFrom]
  | cons c t =>
    rw [litFrom]
    split
    · rcases hn with rfl | rfl <;> simp
    · rename_i hc
      intro e
      simp only [List.head?_cons, Option.some.injEq] at e
      subst e
      rcases hn with rfl | rfl <;> exact hc (by simp [escB, specB])
theorem lit_rule {l : List UInt8} (h : validP l = true) (hl : l.length ≤ 256) (k d : Bool) : compileS ⟨litFrom true l, k, d, true⟩ = some (litC l) := by
  unfold compileS
  rw [hasPrefix_one, hasPrefix_one, lit_pat h hl]
  have h1 : ((litFrom true l).head? == some 33) = false := by simpa using lit_head 33 (.inl rfl)
  have h2 : ((litFrom true l).head? == some 35) = false := by simpa using lit_head 35 (.inr rfl)
  simp [h1, h2]

end Go.Proofs.YtlipekkiaiaplaaDoor
