/- The law PathnameMatches: its walk. -/
import Derived.Test.YtlipekkiaiaplaaDoorRefI
import Derived.Test.YtlipekkiaiaplaaDoorLaw3
namespace Go.Proofs.YtlipekkiaiaplaaDoor
open Go.RowKit

theorem match_at (p s : ByteArray) (b : Bool) (n : Int) (w : World) (he : Env w) (hp : p.size ≤ 65536) (h : matchE (bl p) (bl s) = (b, n)) :
    Calls Tryd.prog 15 #[.string p, .string s] w fun e w' => e = .returned (.tuple #[.bool b, .int .i64 n]) ∧ Below w.heap.size w w' := match_is p s (b, n) w he hp h
theorem r_pattern_is (s : ByteArray) (o : Bool) (w : World) (hs : s.size ≤ 65536) (h : (patS (bl s)).isSome = o) : Calls Tryd.prog 16 #[.string s] w fun e w' => e = .returned (.bool o) ∧ Below w.heap.size w w' := by rw [← h]; exact r_pattern_any s w hs
theorem r_match_is (p s : ByteArray) (o : Bool) (w : World) (hp : p.size ≤ 65536) (hs : s.size ≤ 65536) (h : allR (splitL 47 (bl p)) (splitL 47 (bl s)) = o) :
    Calls Tryd.prog 18 #[.string p, .string s] w fun e w' => e = .returned (.bool o) ∧ Below w.heap.size w w' := by rw [← h]; exact r_match_any p s w hp hs

set_option maxRecDepth 100000 in
set_option maxHeartbeats 4000000 in
theorem matches_walk (p s : ByteArray) (w : World) (he : Env w) :
    Calls Tryd.prog 3 #[.string p, .string s] w fun e w' => e = .returned (.bool true) ∧ Below w.heap.size w w' := by
  have HE := Lib.hid he
  have HB := Lib.hid (Below.refl w.heap.size w)
  clear he
  go_enter Tryd.func3, Tryd.ntmps3
  go_wp2_with fail
  refine (awake_any _ HE.out).mono ?_
  rintro e w' ⟨rfl, hb'⟩
  have hE' := HE.out.below hb'
  have hB' := below_next HB.out hb'
  clear HE HB
  have HE := Lib.hid hE'
  have HB := Lib.hid hB'
  clear hb' hE' hB'
  generalize w' = W at *
  rcases Nat.lt_or_ge 20 p.size with h1 | h1
  · go_wp2_with fail
    go_ret
    exact ⟨rfl, HB.out⟩
  · rcases Nat.lt_or_ge 40 s.size with h2 | h2
    · go_wp2_with fail
      go_ret
      exact ⟨rfl, HB.out⟩
    · go_wp2_with fail
      cases hpat : patS (bl p) with
      | none =>
        have HP := Lib.hid (show (patS (bl p)).isSome = false by rw [hpat]; rfl)
        have HM := Lib.hid (show matchE (bl p) (bl s) = (false, 1) by rw [matchE, hpat])
        clear hpat
        refine (match_at p s false 1 _ HE.out (by omega) HM.out).mono ?_
        rintro e w' ⟨rfl, hb'⟩
        have hE' := HE.out.below hb'
        have hB' := below_next HB.out hb'
        clear HE HB
        have HE := Lib.hid hE'
        have HB := Lib.hid hB'
        clear hb' hE' hB'
        generalize w' = W at *
        go_wp2_with fail
        refine (r_pattern_is p _ _ (by omega) HP.out).mono ?_
        rintro e w' ⟨rfl, hb'⟩
        have hE' := HE.out.below hb'
        have hB' := below_next HB.out hb'
        clear HE HB
        have HE := Lib.hid hE'
        have HB := Lib.hid hB'
        clear hb' hE' hB'
        generalize w' = W at *
        go_wp2_with fail
        go_ret
        exact ⟨rfl, HB.out⟩
      | some cs =>
        have HP := Lib.hid (show (patS (bl p)).isSome = true by rw [hpat]; rfl)
        cases hv : validP (bl s)
        · have HV := Lib.hid hv
          have HM := Lib.hid (show matchE (bl p) (bl s) = (false, 1) by rw [matchE, hpat]; simp [hv])
          clear hpat hv
          refine (match_at p s false 1 _ HE.out (by omega) HM.out).mono ?_
          rintro e w' ⟨rfl, hb'⟩
          have hE' := HE.out.below hb'
          have hB' := below_next HB.out hb'
          clear HE HB
          have HE := Lib.hid hE'
          have HB := Lib.hid hB'
          clear hb' hE' hB'
          generalize w' = W at *
          go_wp2_with fail
          refine (r_pattern_is p _ _ (by omega) HP.out).mono ?_
          rintro e w' ⟨rfl, hb'⟩
          have hE' := HE.out.below hb'
          have hB' := below_next HB.out hb'
          clear HE HB
          have HE := Lib.hid hE'
          have HB := Lib.hid hB'
          clear hb' hE' hB'
          generalize w' = W at *
          go_wp2_with fail
          refine (r_valid_is s _ _ (by omega) HV.out).mono ?_
          rintro e w' ⟨rfl, hb'⟩
          have hE' := HE.out.below hb'
          have hB' := below_next HB.out hb'
          clear HE HB
          have HE := Lib.hid hE'
          have HB := Lib.hid hB'
          clear hb' hE' hB'
          generalize w' = W at *
          go_wp2_with fail
          go_ret
          exact ⟨rfl, HB.out⟩
        · have HV := Lib.hid hv
          obtain ⟨m, hm⟩ : ∃ m, matchS cs (splitL 47 (bl s)) = m := ⟨_, rfl⟩
          have HM := Lib.hid (show matchE (bl p) (bl s) = (m, 0) by rw [matchE, hpat]; simp [hv, hm])
          have HA := Lib.hid (show allR (splitL 47 (bl p)) (splitL 47 (bl s)) = m by rw [all_match hpat, hm])
          clear hpat hv hm
          cases m
          all_goals (
            refine (match_at p s _ 0 _ HE.out (by omega) HM.out).mono ?_
            rintro e w1 ⟨rfl, hb1⟩
            have hB1 := below_next HB.out hb1
            have HB1 := Lib.hid hB1
            clear hb1 hB1
            go_wp2_with fail
            refine (r_pattern_is p _ _ (by omega) HP.out).mono ?_
            rintro e w2 ⟨rfl, hb2⟩
            have hB2 := below_next HB1.out hb2
            have HB2 := Lib.hid hB2
            clear hb2 hB2
            go_wp2_with fail
            refine (r_valid_is s _ _ (by omega) HV.out).mono ?_
            rintro e w3 ⟨rfl, hb3⟩
            have hB3 := below_next HB2.out hb3
            have HB3 := Lib.hid hB3
            clear hb3 hB3
            go_wp2_with fail
            refine (r_match_is p s _ _ (by omega) (by omega) HA.out).mono ?_
            rintro e w4 ⟨rfl, hb4⟩
            have hB4 := below_next HB3.out hb4
            have HB4 := Lib.hid hB4
            clear hb4 hB4
            go_wp2_with fail
            go_ret
            exact ⟨rfl, HB4.out⟩)

end Go.Proofs.YtlipekkiaiaplaaDoor
