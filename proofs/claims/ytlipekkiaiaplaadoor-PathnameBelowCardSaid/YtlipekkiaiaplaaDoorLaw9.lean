/- The law PathnameBelow: its walk. -/
import Derived.Test.YtlipekkiaiaplaaDoorLitA
import Derived.Test.YtlipekkiaiaplaaDoorBelP
import Derived.Test.YtlipekkiaiaplaaDoorApp
namespace Go.Proofs.YtlipekkiaiaplaaDoor
open Go.RowKit

theorem rows_cells : ∀ {rs : List PRule} {cells : List Value}, RowsIn RuleR cells rs → cells = rs.flatMap ruleC
  | [], cells, h => h
  | r :: rs, cells, h => by
    obtain ⟨c, rest, rfl, hc, hr⟩ := h
    rw [RuleR] at hc
    rw [hc, rows_cells hr, List.flatMap_cons]
theorem rules_row {S : Nat → Prop} {w : World} {v : Value} {rs : List PRule} (h : RulesAt S w v rs) : RowAt S w 4 v rs.length (rs.flatMap ruleC) := by
  obtain ⟨cells, h1, h2⟩ := h
  rw [← rows_cells h2]; exact h1
theorem rules_one (rs : List PRule) : ∀ u ∈ rs.flatMap ruleC, u.oneCell' = true := by
  intro u hu
  obtain ⟨r, _, hr⟩ := List.mem_flatMap.1 hu
  simp only [ruleC, List.mem_cons, List.not_mem_nil, or_false] at hr
  rcases hr with rfl | rfl | rfl | rfl <;> rfl
theorem one4 (s : ByteArray) (k d r : Bool) : ∀ u ∈ [Value.string s, .bool k, .bool d, .bool r], u.oneCell' = true := by
  intro u hu
  simp only [List.mem_cons, List.not_mem_nil, or_false] at hu
  rcases hu with rfl | rfl | rfl | rfl <;> rfl
theorem ign_at (rs : List PRule) (S : Nat → Prop) (v : Value) (s : ByteArray) (dir : Bool) (b : Bool) (n : Int) (w : World) (he : Env w) (hv : RulesAt S w v rs) (hp : ∀ r ∈ rs, r.pat.length ≤ 65536) (h : ignoredE rs (bl s) dir = (b, n)) :
    Calls Tryd.prog 20 #[v, .string s, .bool dir] w fun e w' => e = .returned (.tuple #[.bool b, .int .i64 n]) ∧ Below w.heap.size w w' := by
  refine (ignored_is rs S v s dir (b, n) w he hv hp h).mono ?_
  rintro e w' ⟨rfl, hb⟩
  exact ⟨rfl, hb⟩
theorem ign_val {rs : List PRule} {us : List (PRule × List PComp)} {l : List UInt8} {dir : Bool} (h : compileAll rs = some us) (hv : validP l = true) (hl : rs.length ≤ 256) : ignoredE rs l dir = (ignFrom dir (splitL 47 l) us (splitL 47 l).length 1, 0) := by
  unfold ignoredE
  rw [if_neg (by rw [hv]; simp; omega), h]
theorem ign_last {rs : List PRule} {us : List (PRule × List PComp)} {l : List UInt8} {dir : Bool} (k : Bool) (h : compileAll rs = some us) (hv : validP l = true) (hn : rs.length ≤ 255) (hl : l.length ≤ 256) :
    ignoredE (rs ++ [⟨litFrom true l, k, false, true⟩]) l dir = (aboveB (splitL 47 l) us || !k, 0) := by
  rw [ign_val (compileAll_one h (lit_rule hv hl k false)) hv (by simp; omega), last_rule hv]
theorem err_cases {l : List UInt8} {rs : List PRule} {n e : Int} (h : parseE l = (rs, n, e)) : e = 0 ∨ e = 2 ∨ e = 3 := by
  by_cases he : e = 0
  · exact .inl he
  · right
    have key : ∀ (ls : List (List UInt8)) (i : Nat) (acc : List PRule), parseS ls i acc = (rs, n, e) → e = 2 ∨ e = 3 := by
      intro ls
      induction ls with
      | nil => intro i acc h; simp only [parseS, Prod.mk.injEq] at h; exact absurd h.2.2.symm he
      | cons l ls ih =>
        intro i acc h
        rw [parseS] at h
        split at h
        · exact ih _ _ h
        · split at h
          · simp only [Prod.mk.injEq] at h; exact .inr h.2.2.symm
          · split at h
            · simp only [Prod.mk.injEq] at h; exact .inl h.2.2.symm
            · exact ih _ _ h
    unfold parseE at h
    split at h
    · simp only [Prod.mk.injEq] at h; exact .inl h.2.2.symm
    · exact key _ _ _ h
set_option maxRecDepth 100000 in
set_option maxHeartbeats 4000000 in
theorem below_walk (s p : ByteArray) (dir : Bool) (w : World) (he : Env w) :
    Calls Tryd.prog 12 #[.string s, .string p, .bool dir] w fun e w' => e = .returned (.bool true) ∧ Below w.heap.size w w' := by
  have HE := Lib.hid he
  have HB := Lib.hid (Below.refl w.heap.size w)
  clear he
  go_enter Tryd.func12, Tryd.ntmps12
  go_wp2_with fail
  refine (awake_any _ HE.out).mono ?_
  rintro e w' ⟨rfl, hb'⟩
  have hE' := HE.out.below hb'
  have hB' := below_next HB.out hb'
  clear HE HB
  have HE := Lib.hid hE'
  have HB := Lib.hid hB'
  clear hb' hE' hB'
  generalize w' = W at *
  by_cases hsz : 200 < s.size ∨ 40 < p.size
  · rcases hsz with h1 | h1
    · go_wp2_with fail
      all_goals (
        go_ret
        exact ⟨rfl, HB.out⟩)
    · go_wp2_with fail
      all_goals (
        go_ret
        exact ⟨rfl, HB.out⟩)
  · have hs : s.size ≤ 200 := by omega
    have hp : p.size ≤ 40 := by omega
    clear hsz
    go_wp2_with fail
    cases hval : validP (bl p)
    · have HVAL := Lib.hid hval
      clear hval
      refine (valid_is p _ _ HE.out HVAL.out).mono ?_
      rintro e w' ⟨rfl, hb'⟩
      have hE' := HE.out.below hb'
      have hB' := below_next HB.out hb'
      clear HE HB
      have HE := Lib.hid hE'
      have HB := Lib.hid hB'
      clear hb' hE' hB'
      generalize w' = W at *
      go_wp2_with fail
      go_ret
      exact ⟨rfl, HB.out⟩
    · have HVAL := Lib.hid hval
      clear hval
      refine (valid_is p _ _ HE.out HVAL.out).mono ?_
      rintro e w' ⟨rfl, hb'⟩
      have hE' := HE.out.below hb'
      have hB' := below_next HB.out hb'
      clear HE HB
      have HE := Lib.hid hE'
      have HB := Lib.hid hB'
      clear hb' hE' hB'
      generalize w' = W at *
      go_wp2_with fail
      obtain ⟨rs, n, er, hpe⟩ : ∃ rs n e, parseE (bl s) = (rs, n, e) := ⟨_, _, _, rfl⟩
      have hcase := err_cases hpe
      have HPE := Lib.hid hpe
      clear hpe
      refine (parse_is s _ _ HE.out HPE.out).mono ?_
      rintro e w1 ⟨v1, rfl, hv1, hb1⟩
      simp only at hv1 ⊢
      obtain ⟨a1, c1, rfl, hc1, hcm1, -⟩ := hv1.cells
      have HV := Lib.hid hv1
      have hE1 := HE.out.below hb1
      have hB1 := below_next HB.out hb1
      clear HE HB hv1 hb1
      have HE := Lib.hid hE1
      have HB := Lib.hid hB1
      clear hE1 hB1
      unfold maxLen at hcm1
      rcases hcase with rfl | rfl | rfl
      · obtain ⟨⟨us, hus⟩, hrl, rfl, hpl⟩ := parse_ok HPE.out
        have hrl2 : rs.length ≤ 201 := by rw [← size_bl] at hrl; omega
        have HUS := Lib.hid hus
        have hsm : ∀ r ∈ rs, r.pat.length ≤ 65536 := fun r hr => by have := hpl r hr; omega
        have HSM := Lib.hid hsm
        clear hus hrl hpl hsm
        obtain ⟨is, his⟩ : ∃ is, ignFrom dir (splitL 47 (bl p)) us (splitL 47 (bl p)).length 1 = is := ⟨_, rfl⟩
        obtain ⟨ab, hab⟩ : ∃ ab, aboveB (splitL 47 (bl p)) us = ab := ⟨_, rfl⟩
        have HI1 := Lib.hid (show ignoredE rs (bl p) dir = (is, 0) by rw [ign_val HUS.out HVAL.out (by omega), his])
        have HAB := Lib.hid hab
        have HIM := Lib.hid (show ab = true → is = true from fun h => by rw [← his]; exact below_is (by rw [hab]; exact h))
        clear his hab
        go_wp2_with fail
        refine (ign_at rs _ _ p dir is 0 _ HE.out HV.out HSM.out HI1.out).mono ?_
        rintro e w' ⟨rfl, hb'⟩
        have hE' := HE.out.below hb'
        have hB' := below_next HB.out hb'
        have hV' := HV.out.below hb'
        clear HE HB HV
        have HE := Lib.hid hE'
        have HB := Lib.hid hB'
        have HV := Lib.hid hV'
        clear hb' hE' hB' hV'
        generalize w' = W at *
        go_wp2_with fail
        obtain ⟨u, hu⟩ : ∃ u : ByteArray, bl u = parentL (bl p) := ⟨⟨(parentL (bl p)).toArray⟩, bl_mk _⟩
        have hpar : ∀ w : World, Env w → Calls Tryd.prog 39 #[.string p] w fun e w' => e = .returned (.tuple #[.string u, .bool true]) ∧ Below w.heap.size w w' := fun w he => by
          have := parent_any p w he HVAL.out
          rw [← hu, mk_bl] at this; exact this
        have hup := parent_up HVAL.out
        rw [← hu] at hup
        have HPAR := Lib.hid hpar
        clear hpar hu
        rcases hup with ⟨h1, h2⟩ | ⟨h1, h2, h3⟩
        · have e0 : u.toList.isEmpty = true := by rw [toList_bl, h1]; rfl
          have hab0 : ab = false := by rw [← HAB.out, aboveB, h2]; rfl
          subst hab0
          clear h1 h2
          refine (HPAR.out _ HE.out).mono ?_
          rintro e w' ⟨rfl, hb'⟩
          have hE' := HE.out.below hb'
          have hB' := below_next HB.out hb'
          have hV' := HV.out.below hb'
          clear HE HB HV
          have HE := Lib.hid hE'
          have HB := Lib.hid hB'
          have HV := Lib.hid hV'
          clear hb' hE' hB' hV'
          generalize w' = W at *
          have HI3 := Lib.hid (show ignoredE (rs ++ [⟨litFrom true (bl p), true, false, true⟩]) (bl p) dir = (false, 0) by rw [ign_last true HUS.out HVAL.out (by omega) (by rw [← size_bl]; omega), HAB.out]; simp)
          have HI4 := Lib.hid (show ignoredE (rs ++ [⟨litFrom true (bl p), false, false, true⟩]) (bl p) dir = (true, 0) by rw [ign_last false HUS.out HVAL.out (by omega) (by rw [← size_bl]; omega)]; simp)
          have HO0 := Lib.hid (World.ownsRow_lit (e := 53) (size := 4) (base := W.heap.size) W #[] 0 (Nat.le_refl _) (Nat.zero_le _) (by simp))
          have HROW := Lib.hid (RowAt.below (rules_row HV.out) (by omega) ((Below.refl W.heap.size W).alloc (Nat.le_refl _) (.cells #[] 53)))
          go_wp2_with (at_builtin; go_must (refine wpList_appn Tryd.appRules rfl _ _ rfl W.heap.size _ 0 [] rfl HO0.out _ rs.length (rs.flatMap ruleC) rfl HROW.out (rules_one rs) (by omega) (by simp) ?_); intro v5 w5 hown5 hgrow5)
          have hb5 : Below W.heap.size W w5 := below_grown ((Below.refl W.heap.size W).alloc (Nat.le_refl _) _) HO0.out hgrow5 (Nat.le_refl _) (by simp)
          rw [Nat.zero_add, List.nil_append] at hown5
          have HO5 := Lib.hid hown5
          have HB5 := Lib.hid hb5
          clear hown5 hgrow5 hb5 HO0 HROW
          go_wp2_with fail
          refine (literal_any p _ (by omega)).mono ?_
          rintro e w6 ⟨lt, rfl, hlit, hb6⟩
          have HO6 := Lib.hid (owns_below HO5.out hb6)
          have HB6 := Lib.hid (HB5.out.trans (hb6.mono HB5.out.size))
          have hsz6 : W.heap.size ≤ w6.heap.size := HB6.out.size
          have HLT := Lib.hid hlit
          obtain ⟨a5, c5, rfl, hn5, hm5⟩ := owns_shape HO6.out
          clear hlit hb6 HO5 HB5
          go_wp2_with (at_builtin; go_must (refine wpList_app1 Tryd.appRules rfl _ _ rfl W.heap.size (.slice a5 rs.length c5) rs.length (rs.flatMap ruleC) rfl w6 [.string lt, .bool true, .bool false, .bool true] _ rfl rfl (one4 _ _ _ _) HO6.out (by omega) hsz6 ?_); intro v7 w7 hown7 hgrow7 _)
          have hb7 : Below W.heap.size W w7 := below_grown HB6.out HO6.out hgrow7 (Nat.le_refl _) hsz6
          have hk7 : RulesAt (W.heap.size ≤ ·) w7 v7 (rs ++ [⟨litFrom true (bl p), true, false, true⟩]) := by
            refine rules_of_owns ?_
            have e : (rs ++ [(⟨litFrom true (bl p), true, false, true⟩ : PRule)]).flatMap ruleC = rs.flatMap ruleC ++ [.string lt, .bool true, .bool false, .bool true] := by
              rw [List.flatMap_append, ← HLT.out]
              simp [ruleC, mk_bl]
            rw [e]
            have e2 : (rs ++ [(⟨litFrom true (bl p), true, false, true⟩ : PRule)]).length = rs.length + 1 := by simp
            rw [e2]
            exact hown7
          have HK := Lib.hid hk7
          obtain ⟨a7, c7, rfl, -, -, -⟩ := hk7.cells
          have hE7 := HE.out.below hb7
          have hB7 := below_next HB.out hb7
          have hV7 := HV.out.below hb7
          have hsk : ∀ r ∈ (rs ++ [(⟨litFrom true (bl p), true, false, true⟩ : PRule)]), r.pat.length ≤ 65536 := fun r hr => by
            rcases List.mem_append.1 hr with hr | hr
            · exact HSM.out r hr
            · simp only [List.mem_cons, List.not_mem_nil, or_false] at hr
              subst hr
              have := litFrom_len (bl p) true
              rw [← size_bl] at this
              simp only; omega
          have HSK := Lib.hid hsk
          clear HE HB HV hown7 hgrow7 hb7 hk7 HO6 HB6 HLT hsk hsz6 hn5 hm5
          have HE := Lib.hid hE7
          have HB := Lib.hid hB7
          have HV := Lib.hid hV7
          clear hE7 hB7 hV7
          go_wp2_with fail
          refine (ign_at _ _ _ p dir false 0 _ HE.out HK.out HSK.out HI3.out).mono ?_
          rintro e w' ⟨rfl, hb'⟩
          have hE' := HE.out.below hb'
          have hB' := below_next HB.out hb'
          have hV' := HV.out.below hb'
          clear HE HB HV
          have HE := Lib.hid hE'
          have HB := Lib.hid hB'
          have HV := Lib.hid hV'
          clear hb' hE' hB' hV'
          generalize w' = W at *
          clear HK HSK
          have HO0 := Lib.hid (World.ownsRow_lit (e := 53) (size := 4) (base := W.heap.size) W #[] 0 (Nat.le_refl _) (Nat.zero_le _) (by simp))
          have HROW := Lib.hid (RowAt.below (rules_row HV.out) (by omega) ((Below.refl W.heap.size W).alloc (Nat.le_refl _) (.cells #[] 53)))
          go_wp2_with (at_builtin; go_must (refine wpList_appn Tryd.appRules rfl _ _ rfl W.heap.size _ 0 [] rfl HO0.out _ rs.length (rs.flatMap ruleC) rfl HROW.out (rules_one rs) (by omega) (by simp) ?_); intro v5 w5 hown5 hgrow5)
          have hb5 : Below W.heap.size W w5 := below_grown ((Below.refl W.heap.size W).alloc (Nat.le_refl _) _) HO0.out hgrow5 (Nat.le_refl _) (by simp)
          rw [Nat.zero_add, List.nil_append] at hown5
          have HO5 := Lib.hid hown5
          have HB5 := Lib.hid hb5
          clear hown5 hgrow5 hb5 HO0 HROW
          go_wp2_with fail
          refine (literal_any p _ (by omega)).mono ?_
          rintro e w6 ⟨lt, rfl, hlit, hb6⟩
          have HO6 := Lib.hid (owns_below HO5.out hb6)
          have HB6 := Lib.hid (HB5.out.trans (hb6.mono HB5.out.size))
          have hsz6 : W.heap.size ≤ w6.heap.size := HB6.out.size
          have HLT := Lib.hid hlit
          obtain ⟨a5, c5, rfl, hn5, hm5⟩ := owns_shape HO6.out
          clear hlit hb6 HO5 HB5
          go_wp2_with (at_builtin; go_must (refine wpList_app1 Tryd.appRules rfl _ _ rfl W.heap.size (.slice a5 rs.length c5) rs.length (rs.flatMap ruleC) rfl w6 [.string lt, .bool false, .bool false, .bool true] _ rfl rfl (one4 _ _ _ _) HO6.out (by omega) hsz6 ?_); intro v7 w7 hown7 hgrow7 _)
          have hb7 : Below W.heap.size W w7 := below_grown HB6.out HO6.out hgrow7 (Nat.le_refl _) hsz6
          have hk7 : RulesAt (W.heap.size ≤ ·) w7 v7 (rs ++ [⟨litFrom true (bl p), false, false, true⟩]) := by
            refine rules_of_owns ?_
            have e : (rs ++ [(⟨litFrom true (bl p), false, false, true⟩ : PRule)]).flatMap ruleC = rs.flatMap ruleC ++ [.string lt, .bool false, .bool false, .bool true] := by
              rw [List.flatMap_append, ← HLT.out]
              simp [ruleC, mk_bl]
            rw [e]
            have e2 : (rs ++ [(⟨litFrom true (bl p), false, false, true⟩ : PRule)]).length = rs.length + 1 := by simp
            rw [e2]
            exact hown7
          have HK := Lib.hid hk7
          obtain ⟨a7, c7, rfl, -, -, -⟩ := hk7.cells
          have hE7 := HE.out.below hb7
          have hB7 := below_next HB.out hb7
          have hV7 := HV.out.below hb7
          have hsk : ∀ r ∈ (rs ++ [(⟨litFrom true (bl p), false, false, true⟩ : PRule)]), r.pat.length ≤ 65536 := fun r hr => by
            rcases List.mem_append.1 hr with hr | hr
            · exact HSM.out r hr
            · simp only [List.mem_cons, List.not_mem_nil, or_false] at hr
              subst hr
              have := litFrom_len (bl p) true
              rw [← size_bl] at this
              simp only; omega
          have HSK := Lib.hid hsk
          clear HE HB HV hown7 hgrow7 hb7 hk7 HO6 HB6 HLT hsk hsz6 hn5 hm5
          have HE := Lib.hid hE7
          have HB := Lib.hid hB7
          have HV := Lib.hid hV7
          clear hE7 hB7 hV7
          go_wp2_with fail
          refine (ign_at _ _ _ p dir true 0 _ HE.out HK.out HSK.out HI4.out).mono ?_
          rintro e w' ⟨rfl, hb'⟩
          have hE' := HE.out.below hb'
          have hB' := below_next HB.out hb'
          have hV' := HV.out.below hb'
          clear HE HB HV
          have HE := Lib.hid hE'
          have HB := Lib.hid hB'
          have HV := Lib.hid hV'
          clear hb' hE' hB' hV'
          generalize w' = W at *
          clear HK HSK
          go_wp2_with fail
          all_goals (
            go_ret
            refine ⟨ret_bool ?_, HB.out⟩
            first
              | rfl
              | simp)
        · have e0 : u.toList.isEmpty = false := by rw [toList_bl]; simpa using h1
          have HI2 := Lib.hid (show ignoredE rs (bl u) true = (ab, 0) by rw [ign_val HUS.out h2 (by omega), h3, ← HAB.out]; rfl)
          clear h1 h2 h3
          cases ab
          · skip
            refine (HPAR.out _ HE.out).mono ?_
            rintro e w' ⟨rfl, hb'⟩
            have hE' := HE.out.below hb'
            have hB' := below_next HB.out hb'
            have hV' := HV.out.below hb'
            clear HE HB HV
            have HE := Lib.hid hE'
            have HB := Lib.hid hB'
            have HV := Lib.hid hV'
            clear hb' hE' hB' hV'
            generalize w' = W at *
            go_wp2_with fail
            refine (ign_at rs _ _ u true false 0 _ HE.out HV.out HSM.out HI2.out).mono ?_
            rintro e w' ⟨rfl, hb'⟩
            have hE' := HE.out.below hb'
            have hB' := below_next HB.out hb'
            have hV' := HV.out.below hb'
            clear HE HB HV
            have HE := Lib.hid hE'
            have HB := Lib.hid hB'
            have HV := Lib.hid hV'
            clear hb' hE' hB' hV'
            generalize w' = W at *
            have HI3 := Lib.hid (show ignoredE (rs ++ [⟨litFrom true (bl p), true, false, true⟩]) (bl p) dir = (false, 0) by rw [ign_last true HUS.out HVAL.out (by omega) (by rw [← size_bl]; omega), HAB.out]; simp)
            have HI4 := Lib.hid (show ignoredE (rs ++ [⟨litFrom true (bl p), false, false, true⟩]) (bl p) dir = (true, 0) by rw [ign_last false HUS.out HVAL.out (by omega) (by rw [← size_bl]; omega)]; simp)
            have HO0 := Lib.hid (World.ownsRow_lit (e := 53) (size := 4) (base := W.heap.size) W #[] 0 (Nat.le_refl _) (Nat.zero_le _) (by simp))
            have HROW := Lib.hid (RowAt.below (rules_row HV.out) (by omega) ((Below.refl W.heap.size W).alloc (Nat.le_refl _) (.cells #[] 53)))
            go_wp2_with (at_builtin; go_must (refine wpList_appn Tryd.appRules rfl _ _ rfl W.heap.size _ 0 [] rfl HO0.out _ rs.length (rs.flatMap ruleC) rfl HROW.out (rules_one rs) (by omega) (by simp) ?_); intro v5 w5 hown5 hgrow5)
            have hb5 : Below W.heap.size W w5 := below_grown ((Below.refl W.heap.size W).alloc (Nat.le_refl _) _) HO0.out hgrow5 (Nat.le_refl _) (by simp)
            rw [Nat.zero_add, List.nil_append] at hown5
            have HO5 := Lib.hid hown5
            have HB5 := Lib.hid hb5
            clear hown5 hgrow5 hb5 HO0 HROW
            go_wp2_with fail
            refine (literal_any p _ (by omega)).mono ?_
            rintro e w6 ⟨lt, rfl, hlit, hb6⟩
            have HO6 := Lib.hid (owns_below HO5.out hb6)
            have HB6 := Lib.hid (HB5.out.trans (hb6.mono HB5.out.size))
            have hsz6 : W.heap.size ≤ w6.heap.size := HB6.out.size
            have HLT := Lib.hid hlit
            obtain ⟨a5, c5, rfl, hn5, hm5⟩ := owns_shape HO6.out
            clear hlit hb6 HO5 HB5
            go_wp2_with (at_builtin; go_must (refine wpList_app1 Tryd.appRules rfl _ _ rfl W.heap.size (.slice a5 rs.length c5) rs.length (rs.flatMap ruleC) rfl w6 [.string lt, .bool true, .bool false, .bool true] _ rfl rfl (one4 _ _ _ _) HO6.out (by omega) hsz6 ?_); intro v7 w7 hown7 hgrow7 _)
            have hb7 : Below W.heap.size W w7 := below_grown HB6.out HO6.out hgrow7 (Nat.le_refl _) hsz6
            have hk7 : RulesAt (W.heap.size ≤ ·) w7 v7 (rs ++ [⟨litFrom true (bl p), true, false, true⟩]) := by
              refine rules_of_owns ?_
              have e : (rs ++ [(⟨litFrom true (bl p), true, false, true⟩ : PRule)]).flatMap ruleC = rs.flatMap ruleC ++ [.string lt, .bool true, .bool false, .bool true] := by
                rw [List.flatMap_append, ← HLT.out]
                simp [ruleC, mk_bl]
              rw [e]
              have e2 : (rs ++ [(⟨litFrom true (bl p), true, false, true⟩ : PRule)]).length = rs.length + 1 := by simp
              rw [e2]
              exact hown7
            have HK := Lib.hid hk7
            obtain ⟨a7, c7, rfl, -, -, -⟩ := hk7.cells
            have hE7 := HE.out.below hb7
            have hB7 := below_next HB.out hb7
            have hV7 := HV.out.below hb7
            have hsk : ∀ r ∈ (rs ++ [(⟨litFrom true (bl p), true, false, true⟩ : PRule)]), r.pat.length ≤ 65536 := fun r hr => by
              rcases List.mem_append.1 hr with hr | hr
              · exact HSM.out r hr
              · simp only [List.mem_cons, List.not_mem_nil, or_false] at hr
                subst hr
                have := litFrom_len (bl p) true
                rw [← size_bl] at this
                simp only; omega
            have HSK := Lib.hid hsk
            clear HE HB HV hown7 hgrow7 hb7 hk7 HO6 HB6 HLT hsk hsz6 hn5 hm5
            have HE := Lib.hid hE7
            have HB := Lib.hid hB7
            have HV := Lib.hid hV7
            clear hE7 hB7 hV7
            go_wp2_with fail
            refine (ign_at _ _ _ p dir false 0 _ HE.out HK.out HSK.out HI3.out).mono ?_
            rintro e w' ⟨rfl, hb'⟩
            have hE' := HE.out.below hb'
            have hB' := below_next HB.out hb'
            have hV' := HV.out.below hb'
            clear HE HB HV
            have HE := Lib.hid hE'
            have HB := Lib.hid hB'
            have HV := Lib.hid hV'
            clear hb' hE' hB' hV'
            generalize w' = W at *
            clear HK HSK
            have HO0 := Lib.hid (World.ownsRow_lit (e := 53) (size := 4) (base := W.heap.size) W #[] 0 (Nat.le_refl _) (Nat.zero_le _) (by simp))
            have HROW := Lib.hid (RowAt.below (rules_row HV.out) (by omega) ((Below.refl W.heap.size W).alloc (Nat.le_refl _) (.cells #[] 53)))
            go_wp2_with (at_builtin; go_must (refine wpList_appn Tryd.appRules rfl _ _ rfl W.heap.size _ 0 [] rfl HO0.out _ rs.length (rs.flatMap ruleC) rfl HROW.out (rules_one rs) (by omega) (by simp) ?_); intro v5 w5 hown5 hgrow5)
            have hb5 : Below W.heap.size W w5 := below_grown ((Below.refl W.heap.size W).alloc (Nat.le_refl _) _) HO0.out hgrow5 (Nat.le_refl _) (by simp)
            rw [Nat.zero_add, List.nil_append] at hown5
            have HO5 := Lib.hid hown5
            have HB5 := Lib.hid hb5
            clear hown5 hgrow5 hb5 HO0 HROW
            go_wp2_with fail
            refine (literal_any p _ (by omega)).mono ?_
            rintro e w6 ⟨lt, rfl, hlit, hb6⟩
            have HO6 := Lib.hid (owns_below HO5.out hb6)
            have HB6 := Lib.hid (HB5.out.trans (hb6.mono HB5.out.size))
            have hsz6 : W.heap.size ≤ w6.heap.size := HB6.out.size
            have HLT := Lib.hid hlit
            obtain ⟨a5, c5, rfl, hn5, hm5⟩ := owns_shape HO6.out
            clear hlit hb6 HO5 HB5
            go_wp2_with (at_builtin; go_must (refine wpList_app1 Tryd.appRules rfl _ _ rfl W.heap.size (.slice a5 rs.length c5) rs.length (rs.flatMap ruleC) rfl w6 [.string lt, .bool false, .bool false, .bool true] _ rfl rfl (one4 _ _ _ _) HO6.out (by omega) hsz6 ?_); intro v7 w7 hown7 hgrow7 _)
            have hb7 : Below W.heap.size W w7 := below_grown HB6.out HO6.out hgrow7 (Nat.le_refl _) hsz6
            have hk7 : RulesAt (W.heap.size ≤ ·) w7 v7 (rs ++ [⟨litFrom true (bl p), false, false, true⟩]) := by
              refine rules_of_owns ?_
              have e : (rs ++ [(⟨litFrom true (bl p), false, false, true⟩ : PRule)]).flatMap ruleC = rs.flatMap ruleC ++ [.string lt, .bool false, .bool false, .bool true] := by
                rw [List.flatMap_append, ← HLT.out]
                simp [ruleC, mk_bl]
              rw [e]
              have e2 : (rs ++ [(⟨litFrom true (bl p), false, false, true⟩ : PRule)]).length = rs.length + 1 := by simp
              rw [e2]
              exact hown7
            have HK := Lib.hid hk7
            obtain ⟨a7, c7, rfl, -, -, -⟩ := hk7.cells
            have hE7 := HE.out.below hb7
            have hB7 := below_next HB.out hb7
            have hV7 := HV.out.below hb7
            have hsk : ∀ r ∈ (rs ++ [(⟨litFrom true (bl p), false, false, true⟩ : PRule)]), r.pat.length ≤ 65536 := fun r hr => by
              rcases List.mem_append.1 hr with hr | hr
              · exact HSM.out r hr
              · simp only [List.mem_cons, List.not_mem_nil, or_false] at hr
                subst hr
                have := litFrom_len (bl p) true
                rw [← size_bl] at this
                simp only; omega
            have HSK := Lib.hid hsk
            clear HE HB HV hown7 hgrow7 hb7 hk7 HO6 HB6 HLT hsk hsz6 hn5 hm5
            have HE := Lib.hid hE7
            have HB := Lib.hid hB7
            have HV := Lib.hid hV7
            clear hE7 hB7 hV7
            go_wp2_with fail
            refine (ign_at _ _ _ p dir true 0 _ HE.out HK.out HSK.out HI4.out).mono ?_
            rintro e w' ⟨rfl, hb'⟩
            have hE' := HE.out.below hb'
            have hB' := below_next HB.out hb'
            have hV' := HV.out.below hb'
            clear HE HB HV
            have HE := Lib.hid hE'
            have HB := Lib.hid hB'
            have HV := Lib.hid hV'
            clear hb' hE' hB' hV'
            generalize w' = W at *
            clear HK HSK
            go_wp2_with fail
            all_goals (
              go_ret
              refine ⟨ret_bool ?_, HB.out⟩
              first
                | rfl
                | simp)
          · obtain rfl : is = true := HIM.out rfl
            refine (HPAR.out _ HE.out).mono ?_
            rintro e w' ⟨rfl, hb'⟩
            have hE' := HE.out.below hb'
            have hB' := below_next HB.out hb'
            have hV' := HV.out.below hb'
            clear HE HB HV
            have HE := Lib.hid hE'
            have HB := Lib.hid hB'
            have HV := Lib.hid hV'
            clear hb' hE' hB' hV'
            generalize w' = W at *
            go_wp2_with fail
            refine (ign_at rs _ _ u true true 0 _ HE.out HV.out HSM.out HI2.out).mono ?_
            rintro e w' ⟨rfl, hb'⟩
            have hE' := HE.out.below hb'
            have hB' := below_next HB.out hb'
            have hV' := HV.out.below hb'
            clear HE HB HV
            have HE := Lib.hid hE'
            have HB := Lib.hid hB'
            have HV := Lib.hid hV'
            clear hb' hE' hB' hV'
            generalize w' = W at *
            have HI3 := Lib.hid (show ignoredE (rs ++ [⟨litFrom true (bl p), true, false, true⟩]) (bl p) dir = (true, 0) by rw [ign_last true HUS.out HVAL.out (by omega) (by rw [← size_bl]; omega), HAB.out]; simp)
            have HI4 := Lib.hid (show ignoredE (rs ++ [⟨litFrom true (bl p), false, false, true⟩]) (bl p) dir = (true, 0) by rw [ign_last false HUS.out HVAL.out (by omega) (by rw [← size_bl]; omega)]; simp)
            have HO0 := Lib.hid (World.ownsRow_lit (e := 53) (size := 4) (base := W.heap.size) W #[] 0 (Nat.le_refl _) (Nat.zero_le _) (by simp))
            have HROW := Lib.hid (RowAt.below (rules_row HV.out) (by omega) ((Below.refl W.heap.size W).alloc (Nat.le_refl _) (.cells #[] 53)))
            go_wp2_with (at_builtin; go_must (refine wpList_appn Tryd.appRules rfl _ _ rfl W.heap.size _ 0 [] rfl HO0.out _ rs.length (rs.flatMap ruleC) rfl HROW.out (rules_one rs) (by omega) (by simp) ?_); intro v5 w5 hown5 hgrow5)
            have hb5 : Below W.heap.size W w5 := below_grown ((Below.refl W.heap.size W).alloc (Nat.le_refl _) _) HO0.out hgrow5 (Nat.le_refl _) (by simp)
            rw [Nat.zero_add, List.nil_append] at hown5
            have HO5 := Lib.hid hown5
            have HB5 := Lib.hid hb5
            clear hown5 hgrow5 hb5 HO0 HROW
            go_wp2_with fail
            refine (literal_any p _ (by omega)).mono ?_
            rintro e w6 ⟨lt, rfl, hlit, hb6⟩
            have HO6 := Lib.hid (owns_below HO5.out hb6)
            have HB6 := Lib.hid (HB5.out.trans (hb6.mono HB5.out.size))
            have hsz6 : W.heap.size ≤ w6.heap.size := HB6.out.size
            have HLT := Lib.hid hlit
            obtain ⟨a5, c5, rfl, hn5, hm5⟩ := owns_shape HO6.out
            clear hlit hb6 HO5 HB5
            go_wp2_with (at_builtin; go_must (refine wpList_app1 Tryd.appRules rfl _ _ rfl W.heap.size (.slice a5 rs.length c5) rs.length (rs.flatMap ruleC) rfl w6 [.string lt, .bool true, .bool false, .bool true] _ rfl rfl (one4 _ _ _ _) HO6.out (by omega) hsz6 ?_); intro v7 w7 hown7 hgrow7 _)
            have hb7 : Below W.heap.size W w7 := below_grown HB6.out HO6.out hgrow7 (Nat.le_refl _) hsz6
            have hk7 : RulesAt (W.heap.size ≤ ·) w7 v7 (rs ++ [⟨litFrom true (bl p), true, false, true⟩]) := by
              refine rules_of_owns ?_
              have e : (rs ++ [(⟨litFrom true (bl p), true, false, true⟩ : PRule)]).flatMap ruleC = rs.flatMap ruleC ++ [.string lt, .bool true, .bool false, .bool true] := by
                rw [List.flatMap_append, ← HLT.out]
                simp [ruleC, mk_bl]
              rw [e]
              have e2 : (rs ++ [(⟨litFrom true (bl p), true, false, true⟩ : PRule)]).length = rs.length + 1 := by simp
              rw [e2]
              exact hown7
            have HK := Lib.hid hk7
            obtain ⟨a7, c7, rfl, -, -, -⟩ := hk7.cells
            have hE7 := HE.out.below hb7
            have hB7 := below_next HB.out hb7
            have hV7 := HV.out.below hb7
            have hsk : ∀ r ∈ (rs ++ [(⟨litFrom true (bl p), true, false, true⟩ : PRule)]), r.pat.length ≤ 65536 := fun r hr => by
              rcases List.mem_append.1 hr with hr | hr
              · exact HSM.out r hr
              · simp only [List.mem_cons, List.not_mem_nil, or_false] at hr
                subst hr
                have := litFrom_len (bl p) true
                rw [← size_bl] at this
                simp only; omega
            have HSK := Lib.hid hsk
            clear HE HB HV hown7 hgrow7 hb7 hk7 HO6 HB6 HLT hsk hsz6 hn5 hm5
            have HE := Lib.hid hE7
            have HB := Lib.hid hB7
            have HV := Lib.hid hV7
            clear hE7 hB7 hV7
            go_wp2_with fail
            refine (ign_at _ _ _ p dir true 0 _ HE.out HK.out HSK.out HI3.out).mono ?_
            rintro e w' ⟨rfl, hb'⟩
            have hE' := HE.out.below hb'
            have hB' := below_next HB.out hb'
            have hV' := HV.out.below hb'
            clear HE HB HV
            have HE := Lib.hid hE'
            have HB := Lib.hid hB'
            have HV := Lib.hid hV'
            clear hb' hE' hB' hV'
            generalize w' = W at *
            clear HK HSK
            have HO0 := Lib.hid (World.ownsRow_lit (e := 53) (size := 4) (base := W.heap.size) W #[] 0 (Nat.le_refl _) (Nat.zero_le _) (by simp))
            have HROW := Lib.hid (RowAt.below (rules_row HV.out) (by omega) ((Below.refl W.heap.size W).alloc (Nat.le_refl _) (.cells #[] 53)))
            go_wp2_with (at_builtin; go_must (refine wpList_appn Tryd.appRules rfl _ _ rfl W.heap.size _ 0 [] rfl HO0.out _ rs.length (rs.flatMap ruleC) rfl HROW.out (rules_one rs) (by omega) (by simp) ?_); intro v5 w5 hown5 hgrow5)
            have hb5 : Below W.heap.size W w5 := below_grown ((Below.refl W.heap.size W).alloc (Nat.le_refl _) _) HO0.out hgrow5 (Nat.le_refl _) (by simp)
            rw [Nat.zero_add, List.nil_append] at hown5
            have HO5 := Lib.hid hown5
            have HB5 := Lib.hid hb5
            clear hown5 hgrow5 hb5 HO0 HROW
            go_wp2_with fail
            refine (literal_any p _ (by omega)).mono ?_
            rintro e w6 ⟨lt, rfl, hlit, hb6⟩
            have HO6 := Lib.hid (owns_below HO5.out hb6)
            have HB6 := Lib.hid (HB5.out.trans (hb6.mono HB5.out.size))
            have hsz6 : W.heap.size ≤ w6.heap.size := HB6.out.size
            have HLT := Lib.hid hlit
            obtain ⟨a5, c5, rfl, hn5, hm5⟩ := owns_shape HO6.out
            clear hlit hb6 HO5 HB5
            go_wp2_with (at_builtin; go_must (refine wpList_app1 Tryd.appRules rfl _ _ rfl W.heap.size (.slice a5 rs.length c5) rs.length (rs.flatMap ruleC) rfl w6 [.string lt, .bool false, .bool false, .bool true] _ rfl rfl (one4 _ _ _ _) HO6.out (by omega) hsz6 ?_); intro v7 w7 hown7 hgrow7 _)
            have hb7 : Below W.heap.size W w7 := below_grown HB6.out HO6.out hgrow7 (Nat.le_refl _) hsz6
            have hk7 : RulesAt (W.heap.size ≤ ·) w7 v7 (rs ++ [⟨litFrom true (bl p), false, false, true⟩]) := by
              refine rules_of_owns ?_
              have e : (rs ++ [(⟨litFrom true (bl p), false, false, true⟩ : PRule)]).flatMap ruleC = rs.flatMap ruleC ++ [.string lt, .bool false, .bool false, .bool true] := by
                rw [List.flatMap_append, ← HLT.out]
                simp [ruleC, mk_bl]
              rw [e]
              have e2 : (rs ++ [(⟨litFrom true (bl p), false, false, true⟩ : PRule)]).length = rs.length + 1 := by simp
              rw [e2]
              exact hown7
            have HK := Lib.hid hk7
            obtain ⟨a7, c7, rfl, -, -, -⟩ := hk7.cells
            have hE7 := HE.out.below hb7
            have hB7 := below_next HB.out hb7
            have hV7 := HV.out.below hb7
            have hsk : ∀ r ∈ (rs ++ [(⟨litFrom true (bl p), false, false, true⟩ : PRule)]), r.pat.length ≤ 65536 := fun r hr => by
              rcases List.mem_append.1 hr with hr | hr
              · exact HSM.out r hr
              · simp only [List.mem_cons, List.not_mem_nil, or_false] at hr
                subst hr
                have := litFrom_len (bl p) true
                rw [← size_bl] at this
                simp only; omega
            have HSK := Lib.hid hsk
            clear HE HB HV hown7 hgrow7 hb7 hk7 HO6 HB6 HLT hsk hsz6 hn5 hm5
            have HE := Lib.hid hE7
            have HB := Lib.hid hB7
            have HV := Lib.hid hV7
            clear hE7 hB7 hV7
            go_wp2_with fail
            refine (ign_at _ _ _ p dir true 0 _ HE.out HK.out HSK.out HI4.out).mono ?_
            rintro e w' ⟨rfl, hb'⟩
            have hE' := HE.out.below hb'
            have hB' := below_next HB.out hb'
            have hV' := HV.out.below hb'
            clear HE HB HV
            have HE := Lib.hid hE'
            have HB := Lib.hid hB'
            have HV := Lib.hid hV'
            clear hb' hE' hB' hV'
            generalize w' = W at *
            clear HK HSK
            go_wp2_with fail
            all_goals (
              go_ret
              refine ⟨ret_bool ?_, HB.out⟩
              first
                | rfl
                | simp)
      · go_wp2_with fail
        go_ret
        exact ⟨rfl, HB.out⟩
      · go_wp2_with fail
        go_ret
        exact ⟨rfl, HB.out⟩

end Go.Proofs.YtlipekkiaiaplaaDoor
