/- The law PathnameGlobs: its walk. -/
import Derived.Test.YtlipekkiaiaplaaDoorLitA
namespace Go.Proofs.YtlipekkiaiaplaaDoor
open Go.RowKit

theorem match_o (p s : ByteArray) (b : Bool) (n : Int) (w : World) (he : Env w) (hp : p.size ≤ 65536) (h : matchE (bl p) (bl s) = (b, n)) :
    Calls Tryd.prog 15 #[.string p, .string s] w fun e w' => e = .returned (.tuple #[.bool b, .int .i64 n]) ∧ Below w.heap.size w w' := match_is p s (b, n) w he hp h
theorem glob_self {a t : ByteArray} (h : validP (bl a) = true) (hl : a.size ≤ 256) (ht : bl t = litFrom true (bl a)) (b : ByteArray) (hb : validP (bl b) = true) : matchE (bl t) (bl b) = (decide (bl a = bl b), 0) := by
  unfold matchE
  rw [ht, lit_pat h (by rw [← size_bl]; exact hl)]
  simp only
  rw [if_pos hb, lit_matches h hb]
theorem glob_star (b : ByteArray) (hb : validP (bl b) = true) : matchE (bl ⟨#[42, 42]⟩) (bl b) = (true, 0) := by
  have e : bl ⟨#[42, 42]⟩ = [42, 42] := rfl
  unfold matchE
  rw [e, glob_any]
  simp only
  rw [if_pos hb, glob_all]
theorem lit_size {a t : ByteArray} (hl : a.size ≤ 256) (ht : bl t = litFrom true (bl a)) : t.size ≤ 512 := by
  have := litFrom_len (bl a) true
  rw [size_bl, ht]
  rw [← size_bl] at this
  omega
theorem matchE_err (p l : List UInt8) : (matchE p l).2 = 0 ∨ matchE p l = (false, 1) := by
  unfold matchE
  split
  · right; rfl
  · split
    · left; rfl
    · right; rfl
/-- Composed patterns match composed paths. -/
theorem glob_both {p q a b : List UInt8} {x : Bool} (h1 : matchE p a = (true, 0)) (h2 : matchE q b = (true, 0)) (h : matchE (p ++ 47 :: q) (a ++ 47 :: b) = (x, 0)) : x = true := by
  unfold matchE at h1 h2 h
  cases hp : patS p with
  | none => rw [hp] at h1; simp at h1
  | some c1 =>
    cases hq : patS q with
    | none => rw [hq] at h2; simp at h2
    | some c2 =>
      cases hc : patS (p ++ 47 :: q) with
      | none => rw [hc] at h; simp at h
      | some c =>
        rw [hp] at h1
        rw [hq] at h2
        rw [hc] at h
        simp only at h1 h2 h
        split at h1
        · split at h2
          · split at h
            · simp only [Prod.mk.injEq, and_true] at h1 h2 h
              rw [← h]
              exact glob_cat hp hq hc h1 h2
            · simp at h
          · simp at h2
        · simp at h1
set_option maxRecDepth 100000 in
set_option maxHeartbeats 4000000 in
theorem globs_walk (p q a b : ByteArray) (w : World) (he : Env w) :
    Calls Tryd.prog 5 #[.string p, .string q, .string a, .string b] w fun e w' => e = .returned (.bool true) ∧ Below w.heap.size w w' := by
  have HE := Lib.hid he
  have HB := Lib.hid (Below.refl w.heap.size w)
  clear he
  go_enter Tryd.func5, Tryd.ntmps5
  go_wp2_with fail
  refine (awake_any _ HE.out).mono ?_
  rintro e w' ⟨rfl, hb'⟩
  have hE' := HE.out.below hb'
  have hB' := below_next HB.out hb'
  clear HE HB
  have HE := Lib.hid hE'
  have HB := Lib.hid hB'
  clear hb' hE' hB'
  generalize w' = W at *
  by_cases hsz : 20 < p.size ∨ 20 < q.size ∨ 20 < a.size ∨ 20 < b.size
  · rcases hsz with h1 | h1 | h1 | h1
    · go_wp2_with fail
      all_goals (
        go_ret
        exact ⟨rfl, HB.out⟩)
    · go_wp2_with fail
      all_goals (
        go_ret
        exact ⟨rfl, HB.out⟩)
    · go_wp2_with fail
      all_goals (
        go_ret
        exact ⟨rfl, HB.out⟩)
    · go_wp2_with fail
      all_goals (
        go_ret
        exact ⟨rfl, HB.out⟩)
  · have hp : p.size ≤ 20 := by omega
    have hq : q.size ≤ 20 := by omega
    have ha : a.size ≤ 20 := by omega
    have hb : b.size ≤ 20 := by omega
    clear hsz
    go_wp2_with fail
    cases hva : validP (bl a)
    · have HVA := Lib.hid hva
      clear hva
      refine (valid_is a _ _ HE.out HVA.out).mono ?_
      rintro e w' ⟨rfl, hb'⟩
      have hE' := HE.out.below hb'
      have hB' := below_next HB.out hb'
      clear HE HB
      have HE := Lib.hid hE'
      have HB := Lib.hid hB'
      clear hb' hE' hB'
      generalize w' = W at *
      go_wp2_with fail
      go_ret
      exact ⟨rfl, HB.out⟩
    · have HVA := Lib.hid hva
      clear hva
      refine (valid_is a _ _ HE.out HVA.out).mono ?_
      rintro e w' ⟨rfl, hb'⟩
      have hE' := HE.out.below hb'
      have hB' := below_next HB.out hb'
      clear HE HB
      have HE := Lib.hid hE'
      have HB := Lib.hid hB'
      clear hb' hE' hB'
      generalize w' = W at *
      go_wp2_with fail
      cases hvb : validP (bl b)
      · have HVB := Lib.hid hvb
        clear hvb
        refine (valid_is b _ _ HE.out HVB.out).mono ?_
        rintro e w' ⟨rfl, hb'⟩
        have hE' := HE.out.below hb'
        have hB' := below_next HB.out hb'
        clear HE HB
        have HE := Lib.hid hE'
        have HB := Lib.hid hB'
        clear hb' hE' hB'
        generalize w' = W at *
        go_wp2_with fail
        go_ret
        exact ⟨rfl, HB.out⟩
      · have HVB := Lib.hid hvb
        clear hvb
        refine (valid_is b _ _ HE.out HVB.out).mono ?_
        rintro e w' ⟨rfl, hb'⟩
        have hE' := HE.out.below hb'
        have hB' := below_next HB.out hb'
        clear HE HB
        have HE := Lib.hid hE'
        have HB := Lib.hid hB'
        clear hb' hE' hB'
        generalize w' = W at *
        go_wp2_with fail
        refine (literal_any a _ (by omega)).mono ?_
        rintro e w' ⟨t1, rfl, hlit, hb'⟩
        have hE' := HE.out.below hb'
        have hB' := below_next HB.out hb'
        clear HE HB
        have HE := Lib.hid hE'
        have HB := Lib.hid hB'
        clear hb' hE' hB'
        generalize w' = W at *
        have hM1 := glob_self HVA.out (by omega) hlit a HVA.out
        rw [show decide (bl a = bl a) = true by simp] at hM1
        have HM1 := Lib.hid hM1
        clear hM1
        have hs1 := lit_size (by omega) hlit
        clear hlit
        go_wp2_with fail
        refine (match_o t1 a true 0 _ HE.out (by omega) HM1.out).mono ?_
        rintro e w' ⟨rfl, hb'⟩
        have hE' := HE.out.below hb'
        have hB' := below_next HB.out hb'
        clear HE HB
        have HE := Lib.hid hE'
        have HB := Lib.hid hB'
        clear hb' hE' hB'
        generalize w' = W at *
        go_wp2_with fail
        refine (literal_any a _ (by omega)).mono ?_
        rintro e w' ⟨t2, rfl, hlit, hb'⟩
        have hE' := HE.out.below hb'
        have hB' := below_next HB.out hb'
        clear HE HB
        have HE := Lib.hid hE'
        have HB := Lib.hid hB'
        clear hb' hE' hB'
        generalize w' = W at *
        have hM2 := glob_self HVA.out (by omega) hlit b HVB.out
        have hs2 := lit_size (by omega) hlit
        clear hlit
        obtain ⟨o, ho⟩ : ∃ o, decide (bl a = bl b) = o := ⟨_, rfl⟩
        rw [ho] at hM2
        have HM2 := Lib.hid hM2
        have HO := Lib.hid ho
        clear hM2 ho
        go_wp2_with fail
        refine (match_o t2 b o 0 _ HE.out (by omega) HM2.out).mono ?_
        rintro e w' ⟨rfl, hb'⟩
        have hE' := HE.out.below hb'
        have hB' := below_next HB.out hb'
        clear HE HB
        have HE := Lib.hid hE'
        have HB := Lib.hid hB'
        clear hb' hE' hB'
        generalize w' = W at *
        go_wp2_with fail
        have HM3 := Lib.hid (glob_star a HVA.out)
        refine (match_o ⟨#[42, 42]⟩ a true 0 _ HE.out (by decide) HM3.out).mono ?_
        rintro e w' ⟨rfl, hb'⟩
        have hE' := HE.out.below hb'
        have hB' := below_next HB.out hb'
        clear HE HB
        have HE := Lib.hid hE'
        have HB := Lib.hid hB'
        clear hb' hE' hB'
        generalize w' = W at *
        have eab : (a.toList == b.toList) = o := by
          rw [← HO.out, toList_bl, toList_bl, Bool.eq_iff_iff, beq_iff_eq, decide_eq_true_eq]
        cases o
        · skip
          go_wp2_with fail
          clear eab
          rcases matchE_err (bl p) (bl a) with hm | hm
          · obtain ⟨m, hm2⟩ : ∃ m, matchE (bl p) (bl a) = (m, 0) := ⟨(matchE (bl p) (bl a)).1, Prod.ext rfl hm⟩
            have HM := Lib.hid hm2
            clear hm hm2
            refine (match_o p a m 0 _ HE.out (by omega) HM.out).mono ?_
            rintro e w' ⟨rfl, hb'⟩
            have hE' := HE.out.below hb'
            have hB' := below_next HB.out hb'
            clear HE HB
            have HE := Lib.hid hE'
            have HB := Lib.hid hB'
            clear hb' hE' hB'
            generalize w' = W at *
            go_wp2_with fail
            rcases matchE_err (bl q) (bl b) with hn | hn
            · obtain ⟨n, hn2⟩ : ∃ n, matchE (bl q) (bl b) = (n, 0) := ⟨(matchE (bl q) (bl b)).1, Prod.ext rfl hn⟩
              have HN := Lib.hid hn2
              clear hn hn2
              refine (match_o q b n 0 _ HE.out (by omega) HN.out).mono ?_
              rintro e w' ⟨rfl, hb'⟩
              have hE' := HE.out.below hb'
              have hB' := below_next HB.out hb'
              clear HE HB
              have HE := Lib.hid hE'
              have HB := Lib.hid hB'
              clear hb' hE' hB'
              generalize w' = W at *
              go_wp2_with fail
              have e1 : bl ((p ++ ⟨#[47]⟩) ++ q) = bl p ++ 47 :: bl q := by rw [bl_append, bl_append, List.append_assoc]; rfl
              have e2 : bl ((a ++ ⟨#[47]⟩) ++ b) = bl a ++ 47 :: bl b := by rw [bl_append, bl_append, List.append_assoc]; rfl
              have hs3 : ((p ++ ⟨#[47]⟩) ++ q).size ≤ 65536 := by rw [ByteArray.size_append, ByteArray.size_append, one_size]; omega
              rcases matchE_err (bl ((p ++ ⟨#[47]⟩) ++ q)) (bl ((a ++ ⟨#[47]⟩) ++ b)) with hx | hx
              · obtain ⟨x, hx2⟩ : ∃ x, matchE (bl ((p ++ ⟨#[47]⟩) ++ q)) (bl ((a ++ ⟨#[47]⟩) ++ b)) = (x, 0) := ⟨(matchE (bl ((p ++ ⟨#[47]⟩) ++ q)) (bl ((a ++ ⟨#[47]⟩) ++ b))).1, Prod.ext rfl hx⟩
                have HX := Lib.hid hx2
                have HG := Lib.hid (show m = true → n = true → x = true from fun h1 h2 => by
                  subst h1 h2
                  rw [e1, e2] at hx2
                  exact glob_both HM.out HN.out hx2)
                clear hx hx2 e1 e2
                refine (match_o _ _ x 0 _ HE.out hs3 HX.out).mono ?_
                rintro e w' ⟨rfl, hb'⟩
                have hE' := HE.out.below hb'
                have hB' := below_next HB.out hb'
                clear HE HB
                have HE := Lib.hid hE'
                have HB := Lib.hid hB'
                clear hb' hE' hB'
                generalize w' = W at *
                go_wp2_with fail
                all_goals (
                  go_ret
                  refine ⟨ret_bool ?_, HB.out⟩
                  first
                    | rfl
                    | exact HG.out (by assumption) (by assumption))
              · have HX := Lib.hid hx
                clear hx e1 e2
                refine (match_o _ _ false 1 _ HE.out hs3 HX.out).mono ?_
                rintro e w' ⟨rfl, hb'⟩
                have hE' := HE.out.below hb'
                have hB' := below_next HB.out hb'
                clear HE HB
                have HE := Lib.hid hE'
                have HB := Lib.hid hB'
                clear hb' hE' hB'
                generalize w' = W at *
                go_wp2_with fail
                go_ret
                exact ⟨rfl, HB.out⟩
            · have HN := Lib.hid hn
              clear hn
              refine (match_o q b false 1 _ HE.out (by omega) HN.out).mono ?_
              rintro e w' ⟨rfl, hb'⟩
              have hE' := HE.out.below hb'
              have hB' := below_next HB.out hb'
              clear HE HB
              have HE := Lib.hid hE'
              have HB := Lib.hid hB'
              clear hb' hE' hB'
              generalize w' = W at *
              go_wp2_with fail
              go_ret
              exact ⟨rfl, HB.out⟩
          · have HM := Lib.hid hm
            clear hm
            refine (match_o p a false 1 _ HE.out (by omega) HM.out).mono ?_
            rintro e w' ⟨rfl, hb'⟩
            have hE' := HE.out.below hb'
            have hB' := below_next HB.out hb'
            clear HE HB
            have HE := Lib.hid hE'
            have HB := Lib.hid hB'
            clear hb' hE' hB'
            generalize w' = W at *
            go_wp2_with fail
            rcases matchE_err (bl q) (bl b) with hn | hn
            · obtain ⟨n, hn2⟩ : ∃ n, matchE (bl q) (bl b) = (n, 0) := ⟨(matchE (bl q) (bl b)).1, Prod.ext rfl hn⟩
              have HN := Lib.hid hn2
              clear hn hn2
              refine (match_o q b n 0 _ HE.out (by omega) HN.out).mono ?_
              rintro e w' ⟨rfl, hb'⟩
              have hE' := HE.out.below hb'
              have hB' := below_next HB.out hb'
              clear HE HB
              have HE := Lib.hid hE'
              have HB := Lib.hid hB'
              clear hb' hE' hB'
              generalize w' = W at *
              go_wp2_with fail
              go_ret
              exact ⟨rfl, HB.out⟩
            · have HN := Lib.hid hn
              clear hn
              refine (match_o q b false 1 _ HE.out (by omega) HN.out).mono ?_
              rintro e w' ⟨rfl, hb'⟩
              have hE' := HE.out.below hb'
              have hB' := below_next HB.out hb'
              clear HE HB
              have HE := Lib.hid hE'
              have HB := Lib.hid hB'
              clear hb' hE' hB'
              generalize w' = W at *
              go_wp2_with fail
              go_ret
              exact ⟨rfl, HB.out⟩
        · skip
          go_wp2_with fail
          clear eab
          rcases matchE_err (bl p) (bl a) with hm | hm
          · obtain ⟨m, hm2⟩ : ∃ m, matchE (bl p) (bl a) = (m, 0) := ⟨(matchE (bl p) (bl a)).1, Prod.ext rfl hm⟩
            have HM := Lib.hid hm2
            clear hm hm2
            refine (match_o p a m 0 _ HE.out (by omega) HM.out).mono ?_
            rintro e w' ⟨rfl, hb'⟩
            have hE' := HE.out.below hb'
            have hB' := below_next HB.out hb'
            clear HE HB
            have HE := Lib.hid hE'
            have HB := Lib.hid hB'
            clear hb' hE' hB'
            generalize w' = W at *
            go_wp2_with fail
            rcases matchE_err (bl q) (bl b) with hn | hn
            · obtain ⟨n, hn2⟩ : ∃ n, matchE (bl q) (bl b) = (n, 0) := ⟨(matchE (bl q) (bl b)).1, Prod.ext rfl hn⟩
              have HN := Lib.hid hn2
              clear hn hn2
              refine (match_o q b n 0 _ HE.out (by omega) HN.out).mono ?_
              rintro e w' ⟨rfl, hb'⟩
              have hE' := HE.out.below hb'
              have hB' := below_next HB.out hb'
              clear HE HB
              have HE := Lib.hid hE'
              have HB := Lib.hid hB'
              clear hb' hE' hB'
              generalize w' = W at *
              go_wp2_with fail
              have e1 : bl ((p ++ ⟨#[47]⟩) ++ q) = bl p ++ 47 :: bl q := by rw [bl_append, bl_append, List.append_assoc]; rfl
              have e2 : bl ((a ++ ⟨#[47]⟩) ++ b) = bl a ++ 47 :: bl b := by rw [bl_append, bl_append, List.append_assoc]; rfl
              have hs3 : ((p ++ ⟨#[47]⟩) ++ q).size ≤ 65536 := by rw [ByteArray.size_append, ByteArray.size_append, one_size]; omega
              rcases matchE_err (bl ((p ++ ⟨#[47]⟩) ++ q)) (bl ((a ++ ⟨#[47]⟩) ++ b)) with hx | hx
              · obtain ⟨x, hx2⟩ : ∃ x, matchE (bl ((p ++ ⟨#[47]⟩) ++ q)) (bl ((a ++ ⟨#[47]⟩) ++ b)) = (x, 0) := ⟨(matchE (bl ((p ++ ⟨#[47]⟩) ++ q)) (bl ((a ++ ⟨#[47]⟩) ++ b))).1, Prod.ext rfl hx⟩
                have HX := Lib.hid hx2
                have HG := Lib.hid (show m = true → n = true → x = true from fun h1 h2 => by
                  subst h1 h2
                  rw [e1, e2] at hx2
                  exact glob_both HM.out HN.out hx2)
                clear hx hx2 e1 e2
                refine (match_o _ _ x 0 _ HE.out hs3 HX.out).mono ?_
                rintro e w' ⟨rfl, hb'⟩
                have hE' := HE.out.below hb'
                have hB' := below_next HB.out hb'
                clear HE HB
                have HE := Lib.hid hE'
                have HB := Lib.hid hB'
                clear hb' hE' hB'
                generalize w' = W at *
                go_wp2_with fail
                all_goals (
                  go_ret
                  refine ⟨ret_bool ?_, HB.out⟩
                  first
                    | rfl
                    | exact HG.out (by assumption) (by assumption))
              · have HX := Lib.hid hx
                clear hx e1 e2
                refine (match_o _ _ false 1 _ HE.out hs3 HX.out).mono ?_
                rintro e w' ⟨rfl, hb'⟩
                have hE' := HE.out.below hb'
                have hB' := below_next HB.out hb'
                clear HE HB
                have HE := Lib.hid hE'
                have HB := Lib.hid hB'
                clear hb' hE' hB'
                generalize w' = W at *
                go_wp2_with fail
                go_ret
                exact ⟨rfl, HB.out⟩
            · have HN := Lib.hid hn
              clear hn
              refine (match_o q b false 1 _ HE.out (by omega) HN.out).mono ?_
              rintro e w' ⟨rfl, hb'⟩
              have hE' := HE.out.below hb'
              have hB' := below_next HB.out hb'
              clear HE HB
              have HE := Lib.hid hE'
              have HB := Lib.hid hB'
              clear hb' hE' hB'
              generalize w' = W at *
              go_wp2_with fail
              go_ret
              exact ⟨rfl, HB.out⟩
          · have HM := Lib.hid hm
            clear hm
            refine (match_o p a false 1 _ HE.out (by omega) HM.out).mono ?_
            rintro e w' ⟨rfl, hb'⟩
            have hE' := HE.out.below hb'
            have hB' := below_next HB.out hb'
            clear HE HB
            have HE := Lib.hid hE'
            have HB := Lib.hid hB'
            clear hb' hE' hB'
            generalize w' = W at *
            go_wp2_with fail
            rcases matchE_err (bl q) (bl b) with hn | hn
            · obtain ⟨n, hn2⟩ : ∃ n, matchE (bl q) (bl b) = (n, 0) := ⟨(matchE (bl q) (bl b)).1, Prod.ext rfl hn⟩
              have HN := Lib.hid hn2
              clear hn hn2
              refine (match_o q b n 0 _ HE.out (by omega) HN.out).mono ?_
              rintro e w' ⟨rfl, hb'⟩
              have hE' := HE.out.below hb'
              have hB' := below_next HB.out hb'
              clear HE HB
              have HE := Lib.hid hE'
              have HB := Lib.hid hB'
              clear hb' hE' hB'
              generalize w' = W at *
              go_wp2_with fail
              go_ret
              exact ⟨rfl, HB.out⟩
            · have HN := Lib.hid hn
              clear hn
              refine (match_o q b false 1 _ HE.out (by omega) HN.out).mono ?_
              rintro e w' ⟨rfl, hb'⟩
              have hE' := HE.out.below hb'
              have hB' := below_next HB.out hb'
              clear HE HB
              have HE := Lib.hid hE'
              have HB := Lib.hid hB'
              clear hb' hE' hB'
              generalize w' = W at *
              go_wp2_with fail
              go_ret
              exact ⟨rfl, HB.out⟩

end Go.Proofs.YtlipekkiaiaplaaDoor
