/- The law PathnameOrder: its walk. -/
import Derived.Test.YtlipekkiaiaplaaDoorAwake
import Derived.Test.YtlipekkiaiaplaaDoorOrdP
namespace Go.Proofs.YtlipekkiaiaplaaDoor
open Go.RowKit

theorem within_pre {d p : List UInt8} (h : withinB d p = true) (hd : d ≠ []) : validP d = true ∧ (p = d ∨ ∃ s, p = d ++ 47 :: s) := by
  unfold withinB at h
  rw [Bool.and_eq_true] at h
  obtain ⟨h1, h2⟩ := h
  have he : d.isEmpty = false := by simpa using hd
  rw [he, Bool.false_or, Bool.or_eq_true, decide_eq_true_eq, Bool.and_eq_true] at h2
  rcases h2 with h2 | ⟨h2, h3⟩
  · subst h2; exact ⟨h1, .inl rfl⟩
  · refine ⟨h2, .inr ?_⟩
    unfold Lib.hasPrefix at h3
    obtain ⟨s, hs⟩ := List.isPrefixOf_iff_prefix.1 h3
    exact ⟨s, by rw [← hs]; simp⟩
theorem within_mk {d p : List UInt8} (hp : validP p = true) (hd : validP d = true) (h : p = d ∨ ∃ s, p = d ++ 47 :: s) : withinB d p = true := by
  unfold withinB
  rw [hp, hd]
  rcases h with rfl | ⟨s, rfl⟩
  · simp
  · have : Lib.hasPrefix (d ++ 47 :: s) (d ++ [47]) = true := by
      unfold Lib.hasPrefix
      exact List.isPrefixOf_iff_prefix.2 ⟨s, by simp⟩
    simp [this]
/-- What lies between two paths within a directory lies within it. -/
theorem within_between {d a b c : List UInt8} (hb : validP b = true) (h1 : cmpL a b ≤ 0) (h2 : cmpL b c ≤ 0) (ha : withinB d a = true) (hc : withinB d c = true) : withinB d b = true := by
  by_cases hd : d = []
  · subst hd; unfold withinB; simp [hb]
  · obtain ⟨hv, ha2⟩ := within_pre ha hd
    obtain ⟨_, hc2⟩ := within_pre hc hd
    have h3 : cmpL d a ≤ 0 := by
      rcases ha2 with rfl | ⟨s, rfl⟩
      · have := (cmp_zero a a).2 rfl; omega
      · exact cmp_app d (47 :: s)
    have h4 := (cmp_trans d a b h3 h1).1
    refine within_mk hb hv ?_
    rcases hc2 with rfl | ⟨r, rfl⟩
    · left
      have h5 := cmp_neg b c
      exact (cmp_zero b c).1 (by omega)
    · exact cmp_between d b r h4 h2
theorem within_le {d a : List UInt8} (h : withinB d a = true) (hd : d ≠ []) : cmpL d a ≤ 0 := by
  obtain ⟨_, ha2⟩ := within_pre h hd
  rcases ha2 with rfl | ⟨s, rfl⟩
  · have := (cmp_zero a a).2 rfl; omega
  · exact cmp_app d (47 :: s)

theorem within_is (a b : ByteArray) (o : Bool) (w : World) (he : Env w) (h : withinB (bl a) (bl b) = o) :
    Calls Tryd.prog 27 #[.string a, .string b] w fun e w' => e = .returned (.bool o) ∧ Below w.heap.size w w' := by rw [← h]; exact within_any a b w he

set_option maxRecDepth 100000 in
set_option maxHeartbeats 4000000 in
theorem order_walk (a b c d : ByteArray) (w : World) (he : Env w) :
    Calls Tryd.prog 7 #[.string a, .string b, .string c, .string d] w fun e w' => e = .returned (.bool true) ∧ Below w.heap.size w w' := by
  have HE := Lib.hid he
  have HB := Lib.hid (Below.refl w.heap.size w)
  clear he
  by_cases hsz : a.size ≤ 600 ∧ b.size ≤ 600 ∧ c.size ≤ 600 ∧ d.size ≤ 600
  · obtain ⟨ha, hb, hc, hd⟩ := hsz
    go_enter Tryd.func7, Tryd.ntmps7
    go_wp2_with fail
    refine (awake_any _ HE.out).mono ?_
    rintro e w' ⟨rfl, hb'⟩
    have hE' := HE.out.below hb'
    have hB' := below_next HB.out hb'
    clear HE HB
    have HE := Lib.hid hE'
    have HB := Lib.hid hB'
    clear hb' hE' hB'
    generalize w' = W at *
    go_wp2_with fail
    have h3x := cmp3 (bl a) (bl b)
    have h3y := cmp3 (bl b) (bl c)
    have h3z := cmp3 (bl a) (bl c)
    have HT := Lib.hid (cmp_trans (bl a) (bl b) (bl c))
    have HN := Lib.hid (cmp_neg (bl a) (bl b))
    have HZ := Lib.hid (cmp_zero (bl a) (bl b))
    obtain ⟨x, hx⟩ : ∃ x, cmpL (bl a) (bl b) = x := ⟨_, rfl⟩
    obtain ⟨y, hy⟩ : ∃ y, cmpL (bl b) (bl c) = y := ⟨_, rfl⟩
    obtain ⟨z, hz⟩ : ∃ z, cmpL (bl a) (bl c) = z := ⟨_, rfl⟩
    rw [hx] at h3x
    rw [hy] at h3y
    rw [hz] at h3z
    have HX := Lib.hid hx
    have HY := Lib.hid hy
    have HZZ := Lib.hid hz
    clear hx hy hz
    refine (compare_is a b x _ (by omega) HX.out).mono ?_
    rintro e w' ⟨rfl, hb'⟩
    have hE' := HE.out.below hb'
    have hB' := below_next HB.out hb'
    clear HE HB
    have HE := Lib.hid hE'
    have HB := Lib.hid hB'
    clear hb' hE' hB'
    generalize w' = W at *
    go_wp2_with fail
    refine (compare_is b c y _ (by omega) HY.out).mono ?_
    rintro e w' ⟨rfl, hb'⟩
    have hE' := HE.out.below hb'
    have hB' := below_next HB.out hb'
    clear HE HB
    have HE := Lib.hid hE'
    have HB := Lib.hid hB'
    clear hb' hE' hB'
    generalize w' = W at *
    go_wp2_with fail
    refine (compare_is a c z _ (by omega) HZZ.out).mono ?_
    rintro e w' ⟨rfl, hb'⟩
    have hE' := HE.out.below hb'
    have hB' := below_next HB.out hb'
    clear HE HB
    have HE := Lib.hid hE'
    have HB := Lib.hid hB'
    clear hb' hE' hB'
    generalize w' = W at *
    go_wp2_with fail
    refine (compare_is b a (-x) _ (by omega) (by rw [HN.out, HX.out])).mono ?_
    rintro e w' ⟨rfl, hb'⟩
    have hE' := HE.out.below hb'
    have hB' := below_next HB.out hb'
    clear HE HB
    have HE := Lib.hid hE'
    have HB := Lib.hid hB'
    clear hb' hE' hB'
    generalize w' = W at *
    have hab : (a.toList == b.toList) = decide (x = 0) := by
      rw [toList_bl, toList_bl, Bool.eq_iff_iff, beq_iff_eq, decide_eq_true_eq, ← HX.out, HZ.out]
    have ht : x ≤ 0 → y ≤ 0 → z ≤ 0 ∧ (z = 0 → x = 0 ∧ y = 0) := by
      have := HT.out; rw [HX.out, HY.out, HZZ.out] at this; exact this
    have hwl : ∀ o, withinB (bl d) (bl a) = o → (o = true → ¬ bl d = [] → cmpL (bl d) (bl a) ≤ 0) := fun o ho h1 h2 => within_le (ho.trans h1) h2
    have HWL := Lib.hid hwl
    clear hwl
    have hbt : ∀ o, withinB (bl d) (bl b) = o → validP (bl b) = true → x ≤ 0 → y ≤ 0 → withinB (bl d) (bl a) = true → withinB (bl d) (bl c) = true → o = true := fun o ho h1 h2 h3 h4 h5 => by
      rw [← ho]; exact within_between h1 (by rw [HX.out]; exact h2) (by rw [HY.out]; exact h3) h4 h5
    have HBT := Lib.hid hbt
    clear hbt
    have hpos : x = 1 ∨ (x ≤ 0 ∧ y = 1) ∨ (x ≤ 0 ∧ y ≤ 0 ∧ (z = -1 ∨ (x = 0 ∧ y = 0 ∧ z = 0))) := by omega
    rcases hpos with rfl | ⟨hx0, rfl⟩ | ⟨hx0, hy0, hz0⟩
    · clear ht h3x h3y h3z
      simp only [Int.reduceEq, decide_false] at hab
      go_wp2_with fail
      cases ho : withinB (bl d) (bl a)
      all_goals (
        have HO := Lib.hid ho
        clear ho
        refine (within_is d a _ _ HE.out HO.out).mono ?_
        rintro e w1 ⟨rfl, hb1⟩
        have hE1 := HE.out.below hb1
        have hB1 := below_next HB.out hb1
        have HE1 := Lib.hid hE1
        have HB1 := Lib.hid hB1
        clear hb1 hE1 hB1
        by_cases hd0 : bl d = []
        all_goals (
          have HD0 := Lib.hid hd0
          first | (have ed : d.toList.isEmpty = true := by rw [toList_bl, HD0.out]; rfl) | (have ed : d.toList.isEmpty = false := by rw [toList_bl]; simpa using HD0.out)
          clear hd0
          go_wp2_with (go_at_call 25; obtain ⟨u, hu⟩ : ∃ u, cmpL (bl d) (bl a) = u := ⟨_, rfl⟩; have hu0 : u ≤ 0 := (by rw [← hu]; exact HWL.out _ HO.out rfl HD0.out); refine (compare_is d a u _ (by omega) hu).mono ?_; clear hu; rintro e w2 ⟨rfl, hb2⟩; have hE2 := HE1.out.below hb2; have hB2 := below_next HB1.out hb2; clear HE1 HB1; have HE1 := Lib.hid hE2; have HB1 := Lib.hid hB2; clear hb2 hE2 hB2)))
      all_goals (
        cases hv : validP (bl b)
        all_goals (
          have HV := Lib.hid hv
          clear hv
          refine (valid_is b _ _ HE1.out HV.out).mono ?_
          rintro e w3 ⟨rfl, hb3⟩
          have hB3 := below_next HB1.out hb3
          have HB3 := Lib.hid hB3
          clear hb3 hB3
          go_wp2_with fail
          go_ret
          exact ⟨rfl, HB3.out⟩))
    · rcases h3x with rfl | rfl | rfl
      · clear ht h3y h3z
        simp only [Int.reduceNeg, Int.reduceEq, decide_false] at hab
        go_wp2_with fail
        cases ho : withinB (bl d) (bl a)
        all_goals (
          have HO := Lib.hid ho
          clear ho
          refine (within_is d a _ _ HE.out HO.out).mono ?_
          rintro e w1 ⟨rfl, hb1⟩
          have hE1 := HE.out.below hb1
          have hB1 := below_next HB.out hb1
          have HE1 := Lib.hid hE1
          have HB1 := Lib.hid hB1
          clear hb1 hE1 hB1
          by_cases hd0 : bl d = []
          all_goals (
            have HD0 := Lib.hid hd0
            first | (have ed : d.toList.isEmpty = true := by rw [toList_bl, HD0.out]; rfl) | (have ed : d.toList.isEmpty = false := by rw [toList_bl]; simpa using HD0.out)
            clear hd0
            go_wp2_with (go_at_call 25; obtain ⟨u, hu⟩ : ∃ u, cmpL (bl d) (bl a) = u := ⟨_, rfl⟩; have hu0 : u ≤ 0 := (by rw [← hu]; exact HWL.out _ HO.out rfl HD0.out); refine (compare_is d a u _ (by omega) hu).mono ?_; clear hu; rintro e w2 ⟨rfl, hb2⟩; have hE2 := HE1.out.below hb2; have hB2 := below_next HB1.out hb2; clear HE1 HB1; have HE1 := Lib.hid hE2; have HB1 := Lib.hid hB2; clear hb2 hE2 hB2)))
        all_goals (
          cases hv : validP (bl b)
          all_goals (
            have HV := Lib.hid hv
            clear hv
            refine (valid_is b _ _ HE1.out HV.out).mono ?_
            rintro e w3 ⟨rfl, hb3⟩
            have hB3 := below_next HB1.out hb3
            have HB3 := Lib.hid hB3
            clear hb3 hB3
            go_wp2_with fail
            go_ret
            exact ⟨rfl, HB3.out⟩))
      · clear ht h3y h3z
        simp only [decide_true] at hab
        go_wp2_with fail
        cases ho : withinB (bl d) (bl a)
        all_goals (
          have HO := Lib.hid ho
          clear ho
          refine (within_is d a _ _ HE.out HO.out).mono ?_
          rintro e w1 ⟨rfl, hb1⟩
          have hE1 := HE.out.below hb1
          have hB1 := below_next HB.out hb1
          have HE1 := Lib.hid hE1
          have HB1 := Lib.hid hB1
          clear hb1 hE1 hB1
          by_cases hd0 : bl d = []
          all_goals (
            have HD0 := Lib.hid hd0
            first | (have ed : d.toList.isEmpty = true := by rw [toList_bl, HD0.out]; rfl) | (have ed : d.toList.isEmpty = false := by rw [toList_bl]; simpa using HD0.out)
            clear hd0
            go_wp2_with (go_at_call 25; obtain ⟨u, hu⟩ : ∃ u, cmpL (bl d) (bl a) = u := ⟨_, rfl⟩; have hu0 : u ≤ 0 := (by rw [← hu]; exact HWL.out _ HO.out rfl HD0.out); refine (compare_is d a u _ (by omega) hu).mono ?_; clear hu; rintro e w2 ⟨rfl, hb2⟩; have hE2 := HE1.out.below hb2; have hB2 := below_next HB1.out hb2; clear HE1 HB1; have HE1 := Lib.hid hE2; have HB1 := Lib.hid hB2; clear hb2 hE2 hB2)))
        all_goals (
          cases hv : validP (bl b)
          all_goals (
            have HV := Lib.hid hv
            clear hv
            refine (valid_is b _ _ HE1.out HV.out).mono ?_
            rintro e w3 ⟨rfl, hb3⟩
            have hB3 := below_next HB1.out hb3
            have HB3 := Lib.hid hB3
            clear hb3 hB3
            go_wp2_with fail
            go_ret
            exact ⟨rfl, HB3.out⟩))
      · omega
    · clear ht
      rcases h3x with rfl | rfl | rfl
      · simp only [Int.reduceNeg, Int.reduceEq, decide_false] at hab
        obtain rfl : z = -1 := by omega
        clear h3z hz0 hx0
        rcases h3y with rfl | rfl | rfl
        · go_wp2_with fail
          cases ho : withinB (bl d) (bl a)
          all_goals (
            have HO := Lib.hid ho
            clear ho
            refine (within_is d a _ _ HE.out HO.out).mono ?_
            rintro e w1 ⟨rfl, hb1⟩
            have hE1 := HE.out.below hb1
            have hB1 := below_next HB.out hb1
            have HE1 := Lib.hid hE1
            have HB1 := Lib.hid hB1
            clear hb1 hE1 hB1
            by_cases hd0 : bl d = []
            all_goals (
              have HD0 := Lib.hid hd0
              first | (have ed : d.toList.isEmpty = true := by rw [toList_bl, HD0.out]; rfl) | (have ed : d.toList.isEmpty = false := by rw [toList_bl]; simpa using HD0.out)
              clear hd0
              go_wp2_with (go_at_call 25; obtain ⟨u, hu⟩ : ∃ u, cmpL (bl d) (bl a) = u := ⟨_, rfl⟩; have hu0 : u ≤ 0 := (by rw [← hu]; exact HWL.out _ HO.out rfl HD0.out); refine (compare_is d a u _ (by omega) hu).mono ?_; clear hu; rintro e w2 ⟨rfl, hb2⟩; have hE2 := HE1.out.below hb2; have hB2 := below_next HB1.out hb2; clear HE1 HB1; have HE1 := Lib.hid hE2; have HB1 := Lib.hid hB2; clear hb2 hE2 hB2)))
          all_goals (
            cases hv : validP (bl b)
            · have HV := Lib.hid hv
              clear hv
              refine (valid_is b _ _ HE1.out HV.out).mono ?_
              rintro e w3 ⟨rfl, hb3⟩
              have hB3 := below_next HB1.out hb3
              have HB3 := Lib.hid hB3
              clear hb3 hB3
              go_wp2_with fail
              go_ret
              exact ⟨rfl, HB3.out⟩
            · have HV := Lib.hid hv
              clear hv
              refine (valid_is b _ _ HE1.out HV.out).mono ?_
              rintro e w3 ⟨rfl, hb3⟩
              have hE3 := HE1.out.below hb3
              have hB3 := below_next HB1.out hb3
              have HB3 := Lib.hid hB3
              have HE3 := Lib.hid hE3
              clear hb3 hB3 hE3
              go_wp2_with fail
              refine (within_is d a _ _ HE3.out HO.out).mono ?_
              rintro e w4 ⟨rfl, hb4⟩
              have hE4 := HE3.out.below hb4
              have hB4 := below_next HB3.out hb4
              have HB4 := Lib.hid hB4
              have HE4 := Lib.hid hE4
              clear hb4 hB4 hE4
              go_wp2_with fail
              try (go_ret; exact ⟨rfl, HB4.out⟩; done)
              all_goals (
                cases hc2 : withinB (bl d) (bl c)
                · have HC2 := Lib.hid hc2
                  clear hc2
                  refine (within_is d c _ _ HE4.out HC2.out).mono ?_
                  rintro e w5 ⟨rfl, hb5⟩
                  have hB5 := below_next HB4.out hb5
                  have HB5 := Lib.hid hB5
                  clear hb5 hB5
                  go_wp2_with fail
                  go_ret
                  exact ⟨rfl, HB5.out⟩
                · have HC2 := Lib.hid hc2
                  clear hc2
                  refine (within_is d c _ _ HE4.out HC2.out).mono ?_
                  rintro e w5 ⟨rfl, hb5⟩
                  have hE5 := HE4.out.below hb5
                  have hB5 := below_next HB4.out hb5
                  have HB5 := Lib.hid hB5
                  have HE5 := Lib.hid hE5
                  clear hb5 hB5 hE5
                  go_wp2_with fail
                  obtain ⟨o, hob⟩ : ∃ o, withinB (bl d) (bl b) = o := ⟨_, rfl⟩
                  have hot : o = true := HBT.out o hob HV.out (by omega) (by omega) HO.out HC2.out
                  subst hot
                  have HOB := Lib.hid hob
                  clear hob
                  refine (within_is d b _ _ HE5.out HOB.out).mono ?_
                  rintro e w6 ⟨rfl, hb6⟩
                  have hB6 := below_next HB5.out hb6
                  have HB6 := Lib.hid hB6
                  clear hb6 hB6
                  go_wp2_with fail
                  go_ret
                  exact ⟨rfl, HB6.out⟩))
        · go_wp2_with fail
          cases ho : withinB (bl d) (bl a)
          all_goals (
            have HO := Lib.hid ho
            clear ho
            refine (within_is d a _ _ HE.out HO.out).mono ?_
            rintro e w1 ⟨rfl, hb1⟩
            have hE1 := HE.out.below hb1
            have hB1 := below_next HB.out hb1
            have HE1 := Lib.hid hE1
            have HB1 := Lib.hid hB1
            clear hb1 hE1 hB1
            by_cases hd0 : bl d = []
            all_goals (
              have HD0 := Lib.hid hd0
              first | (have ed : d.toList.isEmpty = true := by rw [toList_bl, HD0.out]; rfl) | (have ed : d.toList.isEmpty = false := by rw [toList_bl]; simpa using HD0.out)
              clear hd0
              go_wp2_with (go_at_call 25; obtain ⟨u, hu⟩ : ∃ u, cmpL (bl d) (bl a) = u := ⟨_, rfl⟩; have hu0 : u ≤ 0 := (by rw [← hu]; exact HWL.out _ HO.out rfl HD0.out); refine (compare_is d a u _ (by omega) hu).mono ?_; clear hu; rintro e w2 ⟨rfl, hb2⟩; have hE2 := HE1.out.below hb2; have hB2 := below_next HB1.out hb2; clear HE1 HB1; have HE1 := Lib.hid hE2; have HB1 := Lib.hid hB2; clear hb2 hE2 hB2)))
          all_goals (
            cases hv : validP (bl b)
            · have HV := Lib.hid hv
              clear hv
              refine (valid_is b _ _ HE1.out HV.out).mono ?_
              rintro e w3 ⟨rfl, hb3⟩
              have hB3 := below_next HB1.out hb3
              have HB3 := Lib.hid hB3
              clear hb3 hB3
              go_wp2_with fail
              go_ret
              exact ⟨rfl, HB3.out⟩
            · have HV := Lib.hid hv
              clear hv
              refine (valid_is b _ _ HE1.out HV.out).mono ?_
              rintro e w3 ⟨rfl, hb3⟩
              have hE3 := HE1.out.below hb3
              have hB3 := below_next HB1.out hb3
              have HB3 := Lib.hid hB3
              have HE3 := Lib.hid hE3
              clear hb3 hB3 hE3
              go_wp2_with fail
              refine (within_is d a _ _ HE3.out HO.out).mono ?_
              rintro e w4 ⟨rfl, hb4⟩
              have hE4 := HE3.out.below hb4
              have hB4 := below_next HB3.out hb4
              have HB4 := Lib.hid hB4
              have HE4 := Lib.hid hE4
              clear hb4 hB4 hE4
              go_wp2_with fail
              try (go_ret; exact ⟨rfl, HB4.out⟩; done)
              all_goals (
                cases hc2 : withinB (bl d) (bl c)
                · have HC2 := Lib.hid hc2
                  clear hc2
                  refine (within_is d c _ _ HE4.out HC2.out).mono ?_
                  rintro e w5 ⟨rfl, hb5⟩
                  have hB5 := below_next HB4.out hb5
                  have HB5 := Lib.hid hB5
                  clear hb5 hB5
                  go_wp2_with fail
                  go_ret
                  exact ⟨rfl, HB5.out⟩
                · have HC2 := Lib.hid hc2
                  clear hc2
                  refine (within_is d c _ _ HE4.out HC2.out).mono ?_
                  rintro e w5 ⟨rfl, hb5⟩
                  have hE5 := HE4.out.below hb5
                  have hB5 := below_next HB4.out hb5
                  have HB5 := Lib.hid hB5
                  have HE5 := Lib.hid hE5
                  clear hb5 hB5 hE5
                  go_wp2_with fail
                  obtain ⟨o, hob⟩ : ∃ o, withinB (bl d) (bl b) = o := ⟨_, rfl⟩
                  have hot : o = true := HBT.out o hob HV.out (by omega) (by omega) HO.out HC2.out
                  subst hot
                  have HOB := Lib.hid hob
                  clear hob
                  refine (within_is d b _ _ HE5.out HOB.out).mono ?_
                  rintro e w6 ⟨rfl, hb6⟩
                  have hB6 := below_next HB5.out hb6
                  have HB6 := Lib.hid hB6
                  clear hb6 hB6
                  go_wp2_with fail
                  go_ret
                  exact ⟨rfl, HB6.out⟩))
        · omega
      · simp only [decide_true] at hab
        rcases h3y with rfl | rfl | rfl
        · obtain rfl : z = -1 := by omega
          clear h3z hz0 hx0
          go_wp2_with fail
          cases ho : withinB (bl d) (bl a)
          all_goals (
            have HO := Lib.hid ho
            clear ho
            refine (within_is d a _ _ HE.out HO.out).mono ?_
            rintro e w1 ⟨rfl, hb1⟩
            have hE1 := HE.out.below hb1
            have hB1 := below_next HB.out hb1
            have HE1 := Lib.hid hE1
            have HB1 := Lib.hid hB1
            clear hb1 hE1 hB1
            by_cases hd0 : bl d = []
            all_goals (
              have HD0 := Lib.hid hd0
              first | (have ed : d.toList.isEmpty = true := by rw [toList_bl, HD0.out]; rfl) | (have ed : d.toList.isEmpty = false := by rw [toList_bl]; simpa using HD0.out)
              clear hd0
              go_wp2_with (go_at_call 25; obtain ⟨u, hu⟩ : ∃ u, cmpL (bl d) (bl a) = u := ⟨_, rfl⟩; have hu0 : u ≤ 0 := (by rw [← hu]; exact HWL.out _ HO.out rfl HD0.out); refine (compare_is d a u _ (by omega) hu).mono ?_; clear hu; rintro e w2 ⟨rfl, hb2⟩; have hE2 := HE1.out.below hb2; have hB2 := below_next HB1.out hb2; clear HE1 HB1; have HE1 := Lib.hid hE2; have HB1 := Lib.hid hB2; clear hb2 hE2 hB2)))
          all_goals (
            cases hv : validP (bl b)
            · have HV := Lib.hid hv
              clear hv
              refine (valid_is b _ _ HE1.out HV.out).mono ?_
              rintro e w3 ⟨rfl, hb3⟩
              have hB3 := below_next HB1.out hb3
              have HB3 := Lib.hid hB3
              clear hb3 hB3
              go_wp2_with fail
              go_ret
              exact ⟨rfl, HB3.out⟩
            · have HV := Lib.hid hv
              clear hv
              refine (valid_is b _ _ HE1.out HV.out).mono ?_
              rintro e w3 ⟨rfl, hb3⟩
              have hE3 := HE1.out.below hb3
              have hB3 := below_next HB1.out hb3
              have HB3 := Lib.hid hB3
              have HE3 := Lib.hid hE3
              clear hb3 hB3 hE3
              go_wp2_with fail
              refine (within_is d a _ _ HE3.out HO.out).mono ?_
              rintro e w4 ⟨rfl, hb4⟩
              have hE4 := HE3.out.below hb4
              have hB4 := below_next HB3.out hb4
              have HB4 := Lib.hid hB4
              have HE4 := Lib.hid hE4
              clear hb4 hB4 hE4
              go_wp2_with fail
              try (go_ret; exact ⟨rfl, HB4.out⟩; done)
              all_goals (
                cases hc2 : withinB (bl d) (bl c)
                · have HC2 := Lib.hid hc2
                  clear hc2
                  refine (within_is d c _ _ HE4.out HC2.out).mono ?_
                  rintro e w5 ⟨rfl, hb5⟩
                  have hB5 := below_next HB4.out hb5
                  have HB5 := Lib.hid hB5
                  clear hb5 hB5
                  go_wp2_with fail
                  go_ret
                  exact ⟨rfl, HB5.out⟩
                · have HC2 := Lib.hid hc2
                  clear hc2
                  refine (within_is d c _ _ HE4.out HC2.out).mono ?_
                  rintro e w5 ⟨rfl, hb5⟩
                  have hE5 := HE4.out.below hb5
                  have hB5 := below_next HB4.out hb5
                  have HB5 := Lib.hid hB5
                  have HE5 := Lib.hid hE5
                  clear hb5 hB5 hE5
                  go_wp2_with fail
                  obtain ⟨o, hob⟩ : ∃ o, withinB (bl d) (bl b) = o := ⟨_, rfl⟩
                  have hot : o = true := HBT.out o hob HV.out (by omega) (by omega) HO.out HC2.out
                  subst hot
                  have HOB := Lib.hid hob
                  clear hob
                  refine (within_is d b _ _ HE5.out HOB.out).mono ?_
                  rintro e w6 ⟨rfl, hb6⟩
                  have hB6 := below_next HB5.out hb6
                  have HB6 := Lib.hid hB6
                  clear hb6 hB6
                  go_wp2_with fail
                  go_ret
                  exact ⟨rfl, HB6.out⟩))
        · rcases hz0 with rfl | ⟨_, _, rfl⟩
          · clear h3z hx0
            go_wp2_with fail
            cases ho : withinB (bl d) (bl a)
            all_goals (
              have HO := Lib.hid ho
              clear ho
              refine (within_is d a _ _ HE.out HO.out).mono ?_
              rintro e w1 ⟨rfl, hb1⟩
              have hE1 := HE.out.below hb1
              have hB1 := below_next HB.out hb1
              have HE1 := Lib.hid hE1
              have HB1 := Lib.hid hB1
              clear hb1 hE1 hB1
              by_cases hd0 : bl d = []
              all_goals (
                have HD0 := Lib.hid hd0
                first | (have ed : d.toList.isEmpty = true := by rw [toList_bl, HD0.out]; rfl) | (have ed : d.toList.isEmpty = false := by rw [toList_bl]; simpa using HD0.out)
                clear hd0
                go_wp2_with (go_at_call 25; obtain ⟨u, hu⟩ : ∃ u, cmpL (bl d) (bl a) = u := ⟨_, rfl⟩; have hu0 : u ≤ 0 := (by rw [← hu]; exact HWL.out _ HO.out rfl HD0.out); refine (compare_is d a u _ (by omega) hu).mono ?_; clear hu; rintro e w2 ⟨rfl, hb2⟩; have hE2 := HE1.out.below hb2; have hB2 := below_next HB1.out hb2; clear HE1 HB1; have HE1 := Lib.hid hE2; have HB1 := Lib.hid hB2; clear hb2 hE2 hB2)))
            all_goals (
              cases hv : validP (bl b)
              · have HV := Lib.hid hv
                clear hv
                refine (valid_is b _ _ HE1.out HV.out).mono ?_
                rintro e w3 ⟨rfl, hb3⟩
                have hB3 := below_next HB1.out hb3
                have HB3 := Lib.hid hB3
                clear hb3 hB3
                go_wp2_with fail
                go_ret
                exact ⟨rfl, HB3.out⟩
              · have HV := Lib.hid hv
                clear hv
                refine (valid_is b _ _ HE1.out HV.out).mono ?_
                rintro e w3 ⟨rfl, hb3⟩
                have hE3 := HE1.out.below hb3
                have hB3 := below_next HB1.out hb3
                have HB3 := Lib.hid hB3
                have HE3 := Lib.hid hE3
                clear hb3 hB3 hE3
                go_wp2_with fail
                refine (within_is d a _ _ HE3.out HO.out).mono ?_
                rintro e w4 ⟨rfl, hb4⟩
                have hE4 := HE3.out.below hb4
                have hB4 := below_next HB3.out hb4
                have HB4 := Lib.hid hB4
                have HE4 := Lib.hid hE4
                clear hb4 hB4 hE4
                go_wp2_with fail
                try (go_ret; exact ⟨rfl, HB4.out⟩; done)
                all_goals (
                  cases hc2 : withinB (bl d) (bl c)
                  · have HC2 := Lib.hid hc2
                    clear hc2
                    refine (within_is d c _ _ HE4.out HC2.out).mono ?_
                    rintro e w5 ⟨rfl, hb5⟩
                    have hB5 := below_next HB4.out hb5
                    have HB5 := Lib.hid hB5
                    clear hb5 hB5
                    go_wp2_with fail
                    go_ret
                    exact ⟨rfl, HB5.out⟩
                  · have HC2 := Lib.hid hc2
                    clear hc2
                    refine (within_is d c _ _ HE4.out HC2.out).mono ?_
                    rintro e w5 ⟨rfl, hb5⟩
                    have hE5 := HE4.out.below hb5
                    have hB5 := below_next HB4.out hb5
                    have HB5 := Lib.hid hB5
                    have HE5 := Lib.hid hE5
                    clear hb5 hB5 hE5
                    go_wp2_with fail
                    obtain ⟨o, hob⟩ : ∃ o, withinB (bl d) (bl b) = o := ⟨_, rfl⟩
                    have hot : o = true := HBT.out o hob HV.out (by omega) (by omega) HO.out HC2.out
                    subst hot
                    have HOB := Lib.hid hob
                    clear hob
                    refine (within_is d b _ _ HE5.out HOB.out).mono ?_
                    rintro e w6 ⟨rfl, hb6⟩
                    have hB6 := below_next HB5.out hb6
                    have HB6 := Lib.hid hB6
                    clear hb6 hB6
                    go_wp2_with fail
                    go_ret
                    exact ⟨rfl, HB6.out⟩))
          · clear h3z hx0
            go_wp2_with fail
            cases ho : withinB (bl d) (bl a)
            all_goals (
              have HO := Lib.hid ho
              clear ho
              refine (within_is d a _ _ HE.out HO.out).mono ?_
              rintro e w1 ⟨rfl, hb1⟩
              have hE1 := HE.out.below hb1
              have hB1 := below_next HB.out hb1
              have HE1 := Lib.hid hE1
              have HB1 := Lib.hid hB1
              clear hb1 hE1 hB1
              by_cases hd0 : bl d = []
              all_goals (
                have HD0 := Lib.hid hd0
                first | (have ed : d.toList.isEmpty = true := by rw [toList_bl, HD0.out]; rfl) | (have ed : d.toList.isEmpty = false := by rw [toList_bl]; simpa using HD0.out)
                clear hd0
                go_wp2_with (go_at_call 25; obtain ⟨u, hu⟩ : ∃ u, cmpL (bl d) (bl a) = u := ⟨_, rfl⟩; have hu0 : u ≤ 0 := (by rw [← hu]; exact HWL.out _ HO.out rfl HD0.out); refine (compare_is d a u _ (by omega) hu).mono ?_; clear hu; rintro e w2 ⟨rfl, hb2⟩; have hE2 := HE1.out.below hb2; have hB2 := below_next HB1.out hb2; clear HE1 HB1; have HE1 := Lib.hid hE2; have HB1 := Lib.hid hB2; clear hb2 hE2 hB2)))
            all_goals (
              cases hv : validP (bl b)
              · have HV := Lib.hid hv
                clear hv
                refine (valid_is b _ _ HE1.out HV.out).mono ?_
                rintro e w3 ⟨rfl, hb3⟩
                have hB3 := below_next HB1.out hb3
                have HB3 := Lib.hid hB3
                clear hb3 hB3
                go_wp2_with fail
                go_ret
                exact ⟨rfl, HB3.out⟩
              · have HV := Lib.hid hv
                clear hv
                refine (valid_is b _ _ HE1.out HV.out).mono ?_
                rintro e w3 ⟨rfl, hb3⟩
                have hE3 := HE1.out.below hb3
                have hB3 := below_next HB1.out hb3
                have HB3 := Lib.hid hB3
                have HE3 := Lib.hid hE3
                clear hb3 hB3 hE3
                go_wp2_with fail
                refine (within_is d a _ _ HE3.out HO.out).mono ?_
                rintro e w4 ⟨rfl, hb4⟩
                have hE4 := HE3.out.below hb4
                have hB4 := below_next HB3.out hb4
                have HB4 := Lib.hid hB4
                have HE4 := Lib.hid hE4
                clear hb4 hB4 hE4
                go_wp2_with fail
                try (go_ret; exact ⟨rfl, HB4.out⟩; done)
                all_goals (
                  cases hc2 : withinB (bl d) (bl c)
                  · have HC2 := Lib.hid hc2
                    clear hc2
                    refine (within_is d c _ _ HE4.out HC2.out).mono ?_
                    rintro e w5 ⟨rfl, hb5⟩
                    have hB5 := below_next HB4.out hb5
                    have HB5 := Lib.hid hB5
                    clear hb5 hB5
                    go_wp2_with fail
                    go_ret
                    exact ⟨rfl, HB5.out⟩
                  · have HC2 := Lib.hid hc2
                    clear hc2
                    refine (within_is d c _ _ HE4.out HC2.out).mono ?_
                    rintro e w5 ⟨rfl, hb5⟩
                    have hE5 := HE4.out.below hb5
                    have hB5 := below_next HB4.out hb5
                    have HB5 := Lib.hid hB5
                    have HE5 := Lib.hid hE5
                    clear hb5 hB5 hE5
                    go_wp2_with fail
                    obtain ⟨o, hob⟩ : ∃ o, withinB (bl d) (bl b) = o := ⟨_, rfl⟩
                    have hot : o = true := HBT.out o hob HV.out (by omega) (by omega) HO.out HC2.out
                    subst hot
                    have HOB := Lib.hid hob
                    clear hob
                    refine (within_is d b _ _ HE5.out HOB.out).mono ?_
                    rintro e w6 ⟨rfl, hb6⟩
                    have hB6 := below_next HB5.out hb6
                    have HB6 := Lib.hid hB6
                    clear hb6 hB6
                    go_wp2_with fail
                    go_ret
                    exact ⟨rfl, HB6.out⟩))
        · omega
      · omega
  · have hsz' : 600 < a.size ∨ 600 < b.size ∨ 600 < c.size ∨ 600 < d.size := by omega
    clear hsz
    go_enter Tryd.func7, Tryd.ntmps7
    go_wp2_with fail
    refine (awake_any _ HE.out).mono ?_
    rintro e w' ⟨rfl, hb'⟩
    have hE' := HE.out.below hb'
    have hB' := below_next HB.out hb'
    clear HE HB
    have HE := Lib.hid hE'
    have HB := Lib.hid hB'
    clear hb' hE' hB'
    generalize w' = W at *
    rcases Nat.lt_or_ge 600 a.size with h1 | h1
    · go_wp2_with fail
      go_ret
      exact ⟨rfl, HB.out⟩
    · rcases Nat.lt_or_ge 600 b.size with h2 | h2
      · go_wp2_with fail
        go_ret
        exact ⟨rfl, HB.out⟩
      · rcases Nat.lt_or_ge 600 c.size with h3 | h3
        · go_wp2_with fail
          go_ret
          exact ⟨rfl, HB.out⟩
        · have h4 : 600 < d.size := by omega
          go_wp2_with fail
          go_ret
          exact ⟨rfl, HB.out⟩

end Go.Proofs.YtlipekkiaiaplaaDoor
