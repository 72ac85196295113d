/- Contracts of the specification of chapter 18: Unite, Component, Valid. -/
import Derived.Test.YtlipekkiaiaplaaDoorRefA
namespace Go.Proofs.YtlipekkiaiaplaaDoor
open Go.RowKit

theorem take_unite {xs : List ByteArray} {k : Nat} {x : ByteArray} (hx : xs[k]? = some x) : uniteL ((xs.take (k + 1)).map bl) = if k = 0 then bl x else uniteL ((xs.take k).map bl) ++ [47] ++ bl x := by
  have hk := (List.getElem?_eq_some_iff.1 hx).1
  have e : (xs.take (k + 1)).map bl = (xs.take k).map bl ++ [bl x] := by rw [List.take_add_one, hx]; simp
  rw [e, uniteL_snoc]
  by_cases h : k = 0
  · subst h; simp
  · have h2 : (xs.take k).map bl ≠ [] := by
      intro e; have := congrArg List.length e; simp only [List.length_map, List.length_take, List.length_nil] at this; omega
    rw [if_neg h, if_neg h2]
theorem unite_take_len (xs : List ByteArray) (m : Nat) (h : ∀ x ∈ xs, x.size ≤ m) (k : Nat) : (uniteL ((xs.take k).map bl)).length ≤ xs.length * (m + 1) := by
  have h1 := uniteL_len ((xs.take k).map bl) m (fun p hp => by
    obtain ⟨y, hy, rfl⟩ := List.mem_map.1 hp
    have := h y (List.mem_of_mem_take hy)
    rw [← size_bl]; exact this)
  have h2 : ((xs.take k).map bl).length ≤ xs.length := by simp; omega
  exact Nat.le_trans h1 (Nat.mul_le_mul_right _ h2)

set_option maxHeartbeats 400000 in
theorem r_unite_any (xs : List ByteArray) (S : Nat → Prop) (v : Value) (w : World) (hv : StrsAt S w v xs) (hn : xs.length ≤ 65536) (hsz : ∀ x ∈ xs, x.size ≤ 65536) :
    Calls Tryd.prog 42 #[v] w fun e w' => e = .returned (.string ⟨(uniteL (xs.map bl)).toArray⟩) ∧ w = w' := by
  obtain ⟨a, cap, rfl, hc, hcm, hcell⟩ := hv.shape
  have HC := Lib.hid hcell
  have HS := Lib.hid hsz
  clear hv hcell hsz
  unfold maxLen at hcm
  go_enter Tryd.func42, Tryd.ntmps42
  go_wp2_with fail
  go_loop [3, 8] (fun o i => ∃ (k : Nat) (t : ByteArray), k ≤ xs.length ∧ i = .int .i64 k ∧ o = .string t ∧ bl t = uniteL ((xs.take k).map bl)) (fun _ i => xs.length - (intOf i).toNat)
  case atStart => exact ⟨0, ⟨#[]⟩, Nat.zero_le _, rfl, rfl, by simp [bl, uniteL, Lib.join_nil]⟩
  case round =>
    obtain ⟨k, t, hk, rfl, rfl, ht⟩ := hrel
    have hts : t.size ≤ 4295032832 := by
      rw [size_bl, ht]
      have := unite_take_len xs 65536 HS.out k
      have h2 : xs.length * (65536 + 1) ≤ 65536 * (65536 + 1) := Nat.mul_le_mul_right _ hn
      omega
    have HT := Lib.hid ht
    clear ht
    by_cases hlt : k < xs.length
    · obtain ⟨x, hx⟩ : ∃ x, xs[k]? = some x := ⟨xs[k], by simp [hlt]⟩
      obtain ⟨b, o, rfl, _, hcl⟩ := HC.out k x hx
      have hxs := HS.out x (List.mem_of_getElem? hx)
      have HX := Lib.hid hx
      clear hx
      by_cases h0 : k = 0
      · have e0 : decide ((0 : Int) < (k : Int)) = false := by simp [h0]
        have hle : ¬ (0 : Int) < (k : Int) := by omega
        have H0 := Lib.hid h0
        clear h0
        go_wp2_with fail
        go_round
        case rel =>
          refine ⟨k + 1, t ++ x, by omega, by go_num, rfl, ?_⟩
          rw [take_unite HX.out, if_pos H0.out, bl_append, HT.out, H0.out]; simp [uniteL, Lib.join_nil]
        case measure => simp [intOf]; omega
      · have h1 : (0 : Int) < (k : Int) := by omega
        have h1' : 0 < k := by omega
        have H0 := Lib.hid h0
        clear h0
        go_wp2_with fail
        go_round
        case rel =>
          refine ⟨k + 1, (t ++ ⟨#[47]⟩) ++ x, by omega, by go_num, rfl, ?_⟩
          rw [take_unite HX.out, if_neg H0.out, bl_append, bl_append, HT.out]; rfl
        case measure => simp [intOf]; omega
    · go_wp2_with fail
      go_ret
      refine ⟨?_, rfl⟩
      have : uniteL (xs.map bl) = bl t := by rw [HT.out, List.take_of_length_le (by omega)]
      rw [this, mk_bl]; rfl

theorem div_one {xs : List ByteArray} {s : ByteArray} (hx : xs.map bl = splitL 47 (bl s)) : ((xs.length : Int) == 1) = !(bl s).contains 47 := by
  rw [← compB_slash, ← hx, List.length_map, Bool.eq_iff_iff, beq_iff_eq, beq_iff_eq]; omega
set_option maxHeartbeats 1000000 in
theorem r_component_any (s : ByteArray) (w : World) (hs : s.size ≤ 16777216) :
    Calls Tryd.prog 47 #[.string s] w fun e w' => e = .returned (.bool (compB (bl s))) ∧ Below w.heap.size w w' := by
  go_enter Tryd.func47, Tryd.ntmps47
  go_wp2_with (first
    | (go_at_call 45; refine (r_plain_any s _ hs).mono ?_; rintro e w1 ⟨rfl, hb1⟩)
    | (go_at_call 40; refine (r_divide_any s _ hs).mono ?_; rintro e w2 ⟨v2, xs2, rfl, hx2, hv2, hb2⟩; obtain ⟨a2, c2, rfl, -, -, -⟩ := hv2.shape; have HX2 := Lib.hid hx2; clear hx2 hv2))
  all_goals (go_ret; refine ⟨ret_bool ?_, by first | exact Below.refl _ _ | exact below_next hb1 hb2 | exact hb1⟩)
  all_goals (rw [Bool.eq_iff_iff]; simp only [toList_bl] at *)
  all_goals (first | (have hq := div_one HX2.out; simp_all [compB, size_bl]; done) | (simp_all [compB, size_bl]; done) | (simp_all [compB, size_bl]; omega) | (have hq := div_one HX2.out; simp_all [compB, size_bl]; intro _; omega))

set_option maxHeartbeats 1000000 in
theorem r_valid_any (s : ByteArray) (w : World) (hs : s.size ≤ 16777216) :
    Calls Tryd.prog 17 #[.string s] w fun e w' => e = .returned (.bool (validP (bl s))) ∧ Below w.heap.size w w' := by
  go_enter Tryd.func17, Tryd.ntmps17
  go_wp2_with fail
  refine (r_divide_any s w hs).mono ?_
  rintro e w1 ⟨v, xs, rfl, hx, hv, hb1⟩
  obtain ⟨a, cap, rfl, hc, hcm, hcell⟩ := hv.shape
  have hxl : xs.length ≤ 16777217 := by
    have h1 : (splitL 47 (bl s)).length = xs.length := by rw [← hx]; simp
    have h2 := splitL_len_le 47 (bl s)
    rw [← size_bl] at h2
    omega
  have HX := Lib.hid hx
  have HC := Lib.hid hcell
  have HB1 := Lib.hid hb1
  clear hx hcell hb1 hv
  unfold maxLen at hcm
  go_wp2_with fail
  go_loopw [10] (fun i wr => ∃ k : Nat, k ≤ xs.length ∧ i = .int .i64 k ∧ Below w1.heap.size w1 wr ∧ ∀ (j : Nat) x, j < k → xs[j]? = some x → compB (bl x) = true) (fun i _ => xs.length - (intOf i).toNat)
  case atStart => exact ⟨0, Nat.zero_le _, rfl, Below.refl _ _, fun j x hj => by omega⟩
  case round =>
    obtain ⟨k, hk, rfl, hb, hall⟩ := hrel
    have HA := Lib.hid hall
    have HB := Lib.hid hb
    clear hall hb
    by_cases hlt : k < xs.length
    · obtain ⟨x, hx⟩ : ∃ x, xs[k]? = some x := ⟨xs[k], by simp [hlt]⟩
      obtain ⟨b, o, rfl, _, hcl⟩ := HC.out k x hx
      have hcell : wr.cell? ⟨b, o + k, none⟩ = some (.string x) := (HB.out.cell (p := ⟨b, o + k, none⟩) (block_lt hcl)).trans hcl
      have HK := Lib.hid hx
      have hxs : x.size ≤ 16777216 := by have := part_size HX.out hx; omega
      clear hx hcl
      cases hc : compB (bl x)
      · have HCc := Lib.hid hc
        clear hc
        go_wp2_with (go_at_call 47; refine (r_component_any x wr hxs).mono ?_; rintro e w' ⟨rfl, hb2⟩; rw [HCc.out])
        go_ret
        exact ⟨ret_bool (split_not HX.out HK.out HCc.out).symm, below_next (below_next HB1.out HB.out) hb2⟩
      · have HCc := Lib.hid hc
        clear hc
        go_wp2_with (go_at_call 47; refine (r_component_any x wr hxs).mono ?_; rintro e w' ⟨rfl, hb2⟩; rw [HCc.out])
        go_roundw
        case rel =>
          refine ⟨k + 1, by omega, by go_num, below_next HB.out hb2, fun j x' hj hx' => ?_⟩
          rcases Nat.lt_or_ge j k with h | h
          · exact HA.out j x' h hx'
          · obtain rfl : j = k := by omega
            have := HK.out.symm.trans hx'
            cases this
            exact HCc.out
        case measure => simp [intOf]; omega
    · go_wp2_with fail
      all_goals (go_ret; refine ⟨ret_bool ?_, below_next HB1.out HB.out⟩)
      all_goals (
        have ha : (splitL 47 (bl s)).all compB = true := by
          rw [← HX.out, List.all_map, List.all_eq_true]
          intro x hm
          obtain ⟨j, hj, rfl⟩ := List.getElem_of_mem hm
          exact HA.out j _ (by omega) (by simp)
        have hl : (splitL 47 (bl s)).length = xs.length := by rw [← HX.out]; simp
        rw [validP, ha, hl, Bool.and_true, ← size_bl, Bool.eq_iff_iff]
        simp_all <;> omega)

end Go.Proofs.YtlipekkiaiaplaaDoor
