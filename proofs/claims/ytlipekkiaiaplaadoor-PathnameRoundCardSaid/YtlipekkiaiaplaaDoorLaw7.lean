/- The law PathnameRound: its walk. -/
import Derived.Test.YtlipekkiaiaplaaDoorPrint
import Derived.Test.YtlipekkiaiaplaaDoorRouP
import Derived.Test.YtlipekkiaiaplaaDoorAwake
import Derived.BigQuiet
import Derived.Deep.QuietTactic
namespace Go.Proofs.YtlipekkiaiaplaaDoor
open Go.RowKit

theorem print_is (rs : List PRule) (S : Nat → Prop) (v : Value) (o : List UInt8 × Int) (w : World) (he : Env w) (hv : RulesAt S w v rs) (hp : ∀ r ∈ rs, r.pat.length ≤ 9223372036854775807) (h : printE rs = o) : Calls Tryd.prog 36 #[v] w (PrintRes o w) := by
  rw [← h]; exact print_any rs S v w he hv hp
theorem parseE_err (l : List UInt8) : ∃ rs n e, parseE l = (rs, n, e) ∧ (e = 0 ∨ (e = 2 ∨ e = 3) ∧ rs = []) := by
  obtain ⟨rs, n, e, h⟩ : ∃ rs n e, parseE l = (rs, n, e) := ⟨_, _, _, rfl⟩
  refine ⟨rs, n, e, h, ?_⟩
  by_cases he : e = 0
  · exact .inl he
  · refine .inr ⟨?_, parse_bad_e h he⟩
    have key : ∀ (ls : List (List UInt8)) (i : Nat) (acc : List PRule), parseS ls i acc = (rs, n, e) → e = 2 ∨ e = 3 := by
      intro ls
      induction ls with
      | nil => intro i acc h; simp only [parseS, Prod.mk.injEq] at h; exact absurd h.2.2.symm he
      | cons l ls ih =>
        intro i acc h
        rw [parseS] at h
        split at h
        · exact ih _ _ h
        · split at h
          · simp only [Prod.mk.injEq] at h; exact .inr h.2.2.symm
          · split at h
            · simp only [Prod.mk.injEq] at h; exact .inl h.2.2.symm
            · exact ih _ _ h
    unfold parseE at h
    split at h
    · simp only [Prod.mk.injEq] at h; exact .inl h.2.2.symm
    · exact key _ _ _ h
set_option maxRecDepth 100000 in
set_option maxHeartbeats 4000000 in
theorem round_walk (s : ByteArray) (w : World) (he : Env w) :
    Calls Tryd.prog 10 #[.string s] w fun e w' => e = .returned (.bool true) ∧ Below w.heap.size w w' := by
  have HE := Lib.hid he
  have HB := Lib.hid (Below.refl w.heap.size w)
  clear he
  go_enter Tryd.func10, Tryd.ntmps10
  go_wp2_with fail
  refine (awake_any _ HE.out).mono ?_
  rintro e w' ⟨rfl, hb'⟩
  have hE' := HE.out.below hb'
  have hB' := below_next HB.out hb'
  clear HE HB
  have HE := Lib.hid hE'
  have HB := Lib.hid hB'
  clear hb' hE' hB'
  generalize w' = W at *
  rcases Nat.lt_or_ge 3000 s.size with h1 | h1
  · go_wp2_with fail
    go_ret
    exact ⟨rfl, HB.out⟩
  · go_wp2_with fail
    obtain ⟨rs, n, e, hpe, hcase⟩ := parseE_err (bl s)
    have HPE := Lib.hid hpe
    clear hpe
    rcases hcase with rfl | ⟨hcase, rfl⟩
    · obtain ⟨rfl, hrl, hpr, hpl, hpa⟩ := round_plain (by rw [← size_bl]; exact h1) HPE.out
      have hsm : ∀ r ∈ rs, r.pat.length ≤ 9223372036854775807 := fun r hr => by have := (parse_ok HPE.out).2.2.2 r hr; omega
      have HSM := Lib.hid hsm
      have HPR := Lib.hid hpr
      have HPA := Lib.hid hpa
      clear hsm hpr hpa
      refine (parse_is s _ _ HE.out HPE.out).mono ?_
      rintro e w1 ⟨v1, rfl, hv1, hb1⟩
      simp only at hv1 ⊢
      obtain ⟨a1, c1, rfl, hc1, hcm1, -⟩ := hv1.cells
      have HV1 := Lib.hid hv1
      have HE1 := Lib.hid (HE.out.below hb1)
      have HB1 := Lib.hid (below_next HB.out hb1)
      clear hv1 hb1 HE HB
      unfold maxLen at hcm1
      go_wp2_with fail
      refine (print_is rs _ _ _ _ HE1.out HV1.out HSM.out HPR.out).mono ?_
      rintro e w2 ⟨t, rfl, ht, hb2⟩
      simp only at ht ⊢
      rw [← ht] at HPA
      have HE2 := Lib.hid (HE1.out.below hb2)
      have HB2 := Lib.hid (below_next HB1.out hb2)
      have HV2 := Lib.hid (HV1.out.below hb2)
      clear hb2 HE1 HB1 HV1 ht HPR
      go_wp2_with fail
      refine (parse_is t _ _ HE2.out HPA.out).mono ?_
      rintro e w3 ⟨v3, rfl, hv3, hb3⟩
      simp only at hv3 ⊢
      obtain ⟨a3, c3, rfl, hc3, hcm3, -⟩ := hv3.cells
      have HV3 := Lib.hid hv3
      have HB3 := Lib.hid (below_next HB2.out hb3)
      have HV4 := Lib.hid (HV2.out.below hb3)
      clear hb3 hv3 HE2 HB2 HV2
      unfold maxLen at hcm3
      go_wp2_with fail
      go_loopw [11] (fun i wr => ∃ k m : Nat, k ≤ rs.length ∧ i = .int .i64 k ∧ wr = w3.drewN m) (fun i _ => rs.length - (intOf i).toNat)
      case atStart => exact ⟨0, 0, Nat.zero_le _, rfl, rfl⟩
      case round =>
        obtain ⟨k, m, hk, rfl, rfl⟩ := hrel
        by_cases hlt : k < rs.length
        · obtain ⟨r, hr⟩ : ∃ r, rs[k]? = some r := ⟨rs[k], by simp [hlt]⟩
          obtain ⟨_, _, hv', _, _, hcells⟩ := HV4.out.cells
          cases hv'
          obtain ⟨b, o, rfl, c0, c1, c2, c3⟩ := hcells k r hr
          obtain ⟨_, _, hv', _, _, hcells'⟩ := HV3.out.cells
          cases hv'
          obtain ⟨b', o', rfl, d0, d1, d2, d3⟩ := hcells' k r hr
          clear hr hcells hcells'
          go_upto_region 15 with fail
          go_quiet (fail)
          go_wp2_with fail
          go_roundw
          case rel => exact ⟨k + 1, m + nq, by omega, by go_num, rfl⟩
          case measure => simp [intOf]; omega
        · go_wp2_with fail
          go_ret
          exact ⟨rfl, below_draws HB3.out _⟩
    · refine (parse_is s _ _ HE.out HPE.out).mono ?_
      rintro e' w1 ⟨v1, rfl, hv1, hb1⟩
      simp only at hv1 ⊢
      obtain ⟨a1, c1, rfl, hc1, hcm1, -⟩ := hv1.cells
      have HB1 := Lib.hid (below_next HB.out hb1)
      clear hv1 hb1
      rcases hcase with rfl | rfl
      all_goals (
        go_wp2_with fail
        go_ret
        exact ⟨rfl, HB1.out⟩)

end Go.Proofs.YtlipekkiaiaplaaDoor
