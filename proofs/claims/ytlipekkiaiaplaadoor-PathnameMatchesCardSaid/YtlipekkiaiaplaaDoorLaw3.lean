/- The laws PathnameRejoins, PathnameCompares, PathnameCleans: their walks. -/
import Derived.Test.YtlipekkiaiaplaaDoorLaw2
namespace Go.Proofs.YtlipekkiaiaplaaDoor
open Go.RowKit

theorem r_compare_is (a b : ByteArray) (o : Int) (w : World) (ha : a.size ≤ 65536) (h : cmpL (bl a) (bl b) = o) :
    Calls Tryd.prog 26 #[.string a, .string b] w fun e w' => e = .returned (.int .i64 o) ∧ Below w.heap.size w w' := by rw [← h]; exact r_compare_any a b w ha
theorem r_within_is (a b : ByteArray) (o : Bool) (w : World) (ha : a.size ≤ 65536) (hb : b.size ≤ 65536) (h : withinB (bl a) (bl b) = o) :
    Calls Tryd.prog 28 #[.string a, .string b] w fun e w' => e = .returned (.bool o) ∧ Below w.heap.size w w' := by rw [← h]; exact r_within_any a b w ha hb

set_option maxRecDepth 100000 in
set_option maxHeartbeats 4000000 in
theorem compares_walk (a b : ByteArray) (w : World) (he : Env w) :
    Calls Tryd.prog 6 #[.string a, .string b] w fun e w' => e = .returned (.bool true) ∧ Below w.heap.size w w' := by
  have HE := Lib.hid he
  have HB := Lib.hid (Below.refl w.heap.size w)
  clear he
  go_enter Tryd.func6, Tryd.ntmps6
  go_wp2_with fail
  refine (awake_any _ HE.out).mono ?_
  rintro e w' ⟨rfl, hb'⟩
  have hE' := HE.out.below hb'
  have hB' := below_next HB.out hb'
  clear HE HB
  have HE := Lib.hid hE'
  have HB := Lib.hid hB'
  clear hb' hE' hB'
  generalize w' = W at *
  rcases Nat.lt_or_ge 2000 a.size with h1 | h1
  · go_wp2_with fail
    go_ret
    exact ⟨rfl, HB.out⟩
  · rcases Nat.lt_or_ge 2000 b.size with h2 | h2
    · go_wp2_with fail
      go_ret
      exact ⟨rfl, HB.out⟩
    · go_wp2_with fail
      obtain ⟨x, hx⟩ : ∃ x, cmpL (bl a) (bl b) = x := ⟨_, rfl⟩
      obtain ⟨y, hy⟩ : ∃ y, withinB (bl a) (bl b) = y := ⟨_, rfl⟩
      have HX := Lib.hid hx
      have HY := Lib.hid hy
      have ex : (x == x) = true := by simp
      clear hx hy
      refine (compare_is a b x _ (by omega) HX.out).mono ?_
      rintro e w' ⟨rfl, hb'⟩
      have hE' := HE.out.below hb'
      have hB' := below_next HB.out hb'
      clear HE HB
      have HE := Lib.hid hE'
      have HB := Lib.hid hB'
      clear hb' hE' hB'
      generalize w' = W at *
      go_wp2_with fail
      refine (r_compare_is a b x _ (by omega) HX.out).mono ?_
      rintro e w' ⟨rfl, hb'⟩
      have hE' := HE.out.below hb'
      have hB' := below_next HB.out hb'
      clear HE HB
      have HE := Lib.hid hE'
      have HB := Lib.hid hB'
      clear hb' hE' hB'
      generalize w' = W at *
      go_wp2_with fail
      refine (within_is a b y _ HE.out HY.out).mono ?_
      rintro e w' ⟨rfl, hb'⟩
      have hE' := HE.out.below hb'
      have hB' := below_next HB.out hb'
      clear HE HB
      have HE := Lib.hid hE'
      have HB := Lib.hid hB'
      clear hb' hE' hB'
      generalize w' = W at *
      go_wp2_with fail
      refine (r_within_is a b y _ (by omega) (by omega) HY.out).mono ?_
      rintro e w' ⟨rfl, hb'⟩
      have hE' := HE.out.below hb'
      have hB' := below_next HB.out hb'
      clear HE HB
      have HE := Lib.hid hE'
      have HB := Lib.hid hB'
      clear hb' hE' hB'
      generalize w' = W at *
      cases y
      · go_wp2_with fail
        go_ret
        exact ⟨rfl, HB.out⟩
      · go_wp2_with fail
        go_ret
        exact ⟨rfl, HB.out⟩

theorem clean_at (s p : ByteArray) (w : World) (he : Env w) (hs : s.size ≤ 65536) (h : cleanL (bl s) = some (bl p)) :
    Calls Tryd.prog 29 #[.string s] w fun e w' => e = .returned (.tuple #[.string p, .int .i64 0]) ∧ Below w.heap.size w w' := by
  have := clean_is s _ w he hs h
  unfold cleanV at this
  simp only [mk_bl] at this
  exact this
theorem clean_no (s : ByteArray) (w : World) (he : Env w) (hs : s.size ≤ 65536) (h : cleanL (bl s) = none) :
    Calls Tryd.prog 29 #[.string s] w fun e w' => e = .returned (.tuple #[.string ⟨#[]⟩, .int .i64 1]) ∧ Below w.heap.size w w' := clean_is s _ w he hs h
theorem r_clean_at (s p : ByteArray) (w : World) (hs : s.size ≤ 3000) (h : cleanL (bl s) = some (bl p)) :
    Calls Tryd.prog 30 #[.string s] w fun e w' => e = .returned (.tuple #[.string p, .int .i64 0]) ∧ Below w.heap.size w w' := by
  have := r_clean_any s w hs
  rw [h] at this
  unfold cleanV at this
  simp only [mk_bl] at this
  exact this
theorem r_clean_no (s : ByteArray) (w : World) (hs : s.size ≤ 3000) (h : cleanL (bl s) = none) :
    Calls Tryd.prog 30 #[.string s] w fun e w' => e = .returned (.tuple #[.string ⟨#[]⟩, .int .i64 1]) ∧ Below w.heap.size w w' := by
  have := r_clean_any s w hs
  rw [h] at this
  exact this
theorem pjoin_at (xs : List ByteArray) (S : Nat → Prop) (v : Value) (p : ByteArray) (n : Int) (w : World) (he : Env w) (hv : StrsAt S w v xs) (hn : xs.length ≤ 65536) (hsz : ∀ x ∈ xs, x.size ≤ 65536) (h : joinL (xs.map bl) = (bl p, n)) :
    Calls Tryd.prog 31 #[v] w fun e w' => e = .returned (.tuple #[.string p, .int .i64 n]) ∧ Below w.heap.size w w' := by
  have := pjoin_any xs S v w he hv hn (fun x hx => by have := hsz x hx; omega)
  rw [h] at this
  unfold joinV at this
  simp only [mk_bl] at this
  exact this
theorem r_join_at (xs : List ByteArray) (S : Nat → Prop) (v : Value) (p : ByteArray) (n : Int) (w : World) (hv : StrsAt S w v xs) (hn : xs.length ≤ 65536) (hsz : ∀ x ∈ xs, x.size ≤ 65536) (h : joinL (xs.map bl) = (bl p, n)) :
    Calls Tryd.prog 32 #[v] w fun e w' => e = .returned (.tuple #[.string p, .int .i64 n]) ∧ Below w.heap.size w w' := by
  have := r_join_any xs S v w hv hn hsz
  rw [h] at this
  unfold joinV at this
  simp only [mk_bl] at this
  exact this

set_option maxRecDepth 100000 in
set_option maxHeartbeats 4000000 in
theorem cleans_walk (s : ByteArray) (xs : List ByteArray) (S : Nat → Prop) (v : Value) (w : World) (he : Env w) (hv : StrsAt S w v xs) (hl : xs.length ≤ 9223372036854775807) (hx : ∀ x ∈ xs, x.size ≤ 9223372036854775807) :
    Calls Tryd.prog 8 #[.string s, v] w fun e w' => e = .returned (.bool true) ∧ Below w.heap.size w w' := by
  have HE := Lib.hid he
  have HB := Lib.hid (Below.refl w.heap.size w)
  obtain ⟨a, cap, rfl, hc, hcm, -⟩ := hv.shape
  have HV := Lib.hid hv
  have HX := Lib.hid hx
  clear he hv hx
  unfold maxLen at hcm
  go_enter Tryd.func8, Tryd.ntmps8
  go_wp2_with fail
  refine (awake_any _ HE.out).mono ?_
  rintro e w1 ⟨rfl, hb1⟩
  have hE' := HE.out.below hb1
  have hB' := below_next HB.out hb1
  have hv' : StrsAt S w1 (.slice a xs.length cap) xs := RowAt.below HV.out (by omega) hb1
  clear HE HB HV
  have HE := Lib.hid hE'
  have HB := Lib.hid hB'
  have HV := Lib.hid hv'
  clear hb1 hE' hB' hv'
  rcases Nat.lt_or_ge 2000 s.size with h1 | h1
  · go_wp2_with fail
    go_ret
    exact ⟨rfl, HB.out⟩
  · rcases Nat.lt_or_ge 30 xs.length with h2 | h2
    · go_wp2_with fail
      go_ret
      exact ⟨rfl, HB.out⟩
    · go_wp2_with fail
      go_loop [27] (fun i => ∃ k : Nat, k ≤ xs.length ∧ i = .int .i64 k ∧ ∀ (j : Nat) x, j < k → xs[j]? = some x → x.size ≤ 100) (fun i => xs.length - (intOf i).toNat)
      case atStart => exact ⟨0, Nat.zero_le _, rfl, fun j x hj => by omega⟩
      case round =>
        obtain ⟨k, hk, rfl, hall⟩ := hrel
        have HA := Lib.hid hall
        clear hall
        by_cases hlt : k < xs.length
        · obtain ⟨x, hx⟩ : ∃ x, xs[k]? = some x := ⟨xs[k], by simp [hlt]⟩
          obtain ⟨_, _, hv', _, _, hcells⟩ := HV.out.shape
          cases hv'
          obtain ⟨b, o, rfl, _, hcl⟩ := hcells k x hx
          have hxm := HX.out x (List.mem_of_getElem? hx)
          have HK := Lib.hid hx
          clear hx hcells
          rcases Nat.lt_or_ge 100 x.size with h3 | h3
          · go_wp2_with fail
            go_ret
            exact ⟨rfl, HB.out⟩
          · go_wp2_with fail
            go_round
            case rel =>
              refine ⟨k + 1, by omega, by go_num, fun j x' hj hx' => ?_⟩
              rcases Nat.lt_or_ge j k with h | h
              · exact HA.out j x' h hx'
              · obtain rfl : j = k := by omega
                have := HK.out.symm.trans hx'
                cases this
                exact h3
            case measure => simp [intOf]; omega
        · have hsz : ∀ x ∈ xs, x.size ≤ 65536 := fun x hm => by
            obtain ⟨j, hj, rfl⟩ := List.getElem_of_mem hm
            have := HA.out j xs[j] (by omega) (List.getElem?_eq_getElem hj)
            omega
          have HSZ := Lib.hid hsz
          clear hsz
          go_wp2_with fail
          cases hcl : cleanL (bl s) with
          | none =>
            have HCL := Lib.hid hcl
            clear hcl
            refine (clean_no s _ HE.out (by omega) HCL.out).mono ?_
            rintro e w2 ⟨rfl, hb2⟩
            have hE' := HE.out.below hb2
            have hB' := below_next HB.out hb2
            have hv' : StrsAt S w2 (.slice a xs.length cap) xs := RowAt.below HV.out (by omega) hb2
            clear HE HB HV
            have HE := Lib.hid hE'
            have HB := Lib.hid hB'
            have HV := Lib.hid hv'
            clear hb2 hE' hB' hv'
            go_wp2_with fail
            refine (r_clean_no s _ (by omega) HCL.out).mono ?_
            rintro e w2 ⟨rfl, hb2⟩
            have hE' := HE.out.below hb2
            have hB' := below_next HB.out hb2
            have hv' : StrsAt S w2 (.slice a xs.length cap) xs := RowAt.below HV.out (by omega) hb2
            clear HE HB HV
            have HE := Lib.hid hE'
            have HB := Lib.hid hB'
            have HV := Lib.hid hv'
            clear hb2 hE' hB' hv'
            go_wp2_with fail
            -- Join on both sides
            obtain ⟨q, n, hq⟩ : ∃ (q : ByteArray) (n : Int), joinL (xs.map bl) = (bl q, n) := ⟨⟨(joinL (xs.map bl)).1.toArray⟩, (joinL (xs.map bl)).2, by rw [bl_mk]⟩
            have HQ := Lib.hid hq
            clear hq
            have eqq : (q.toList == q.toList) = true := by simp
            have enn : (n == n) = true := by simp
            refine (pjoin_at xs S _ q n _ HE.out HV.out (by omega) HSZ.out HQ.out).mono ?_
            rintro e w8 ⟨rfl, hb8⟩
            have hB8 := below_next HB.out hb8
            have hv8 : StrsAt S w8 (.slice a xs.length cap) xs := RowAt.below HV.out (by omega) hb8
            clear HB HE HV
            have HB := Lib.hid hB8
            have HV := Lib.hid hv8
            clear hb8 hB8 hv8
            go_wp2_with fail
            refine (r_join_at xs S _ q n _ HV.out (by omega) HSZ.out HQ.out).mono ?_
            rintro e w9 ⟨rfl, hb9⟩
            have hB9 := below_next HB.out hb9
            clear HB HV
            have HB := Lib.hid hB9
            clear hb9 hB9
            go_wp2_with fail
            go_ret
            exact ⟨rfl, HB.out⟩
          | some p0 =>
            obtain ⟨p, rfl⟩ : ∃ p : ByteArray, p0 = bl p := ⟨⟨p0.toArray⟩, (bl_mk _).symm⟩
            have epp : (p.toList == p.toList) = true := by simp
            have HCL := Lib.hid hcl
            clear hcl
            refine (clean_at s p _ HE.out (by omega) HCL.out).mono ?_
            rintro e w2 ⟨rfl, hb2⟩
            have hE' := HE.out.below hb2
            have hB' := below_next HB.out hb2
            have hv' : StrsAt S w2 (.slice a xs.length cap) xs := RowAt.below HV.out (by omega) hb2
            clear HE HB HV
            have HE := Lib.hid hE'
            have HB := Lib.hid hB'
            have HV := Lib.hid hv'
            clear hb2 hE' hB' hv'
            go_wp2_with fail
            refine (r_clean_at s p _ (by omega) HCL.out).mono ?_
            rintro e w2 ⟨rfl, hb2⟩
            have hE' := HE.out.below hb2
            have hB' := below_next HB.out hb2
            have hv' : StrsAt S w2 (.slice a xs.length cap) xs := RowAt.below HV.out (by omega) hb2
            clear HE HB HV
            have HE := Lib.hid hE'
            have HB := Lib.hid hB'
            have HV := Lib.hid hv'
            clear hb2 hE' hB' hv'
            go_wp2_with fail
            -- Join on both sides
            obtain ⟨q, n, hq⟩ : ∃ (q : ByteArray) (n : Int), joinL (xs.map bl) = (bl q, n) := ⟨⟨(joinL (xs.map bl)).1.toArray⟩, (joinL (xs.map bl)).2, by rw [bl_mk]⟩
            have HQ := Lib.hid hq
            clear hq
            have eqq : (q.toList == q.toList) = true := by simp
            have enn : (n == n) = true := by simp
            refine (pjoin_at xs S _ q n _ HE.out HV.out (by omega) HSZ.out HQ.out).mono ?_
            rintro e w8 ⟨rfl, hb8⟩
            have hB8 := below_next HB.out hb8
            have hv8 : StrsAt S w8 (.slice a xs.length cap) xs := RowAt.below HV.out (by omega) hb8
            clear HB HE HV
            have HB := Lib.hid hB8
            have HV := Lib.hid hv8
            clear hb8 hB8 hv8
            go_wp2_with fail
            refine (r_join_at xs S _ q n _ HV.out (by omega) HSZ.out HQ.out).mono ?_
            rintro e w9 ⟨rfl, hb9⟩
            have hB9 := below_next HB.out hb9
            clear HB HV
            have HB := Lib.hid hB9
            clear hb9 hB9
            go_wp2_with fail
            go_ret
            exact ⟨rfl, HB.out⟩

set_option maxRecDepth 100000 in
set_option maxHeartbeats 4000000 in
theorem rejoins_walk (s : ByteArray) (w : World) (he : Env w) :
    Calls Tryd.prog 13 #[.string s] w fun e w' => e = .returned (.bool true) ∧ Below w.heap.size w w' := by
  have HE := Lib.hid he
  have HB := Lib.hid (Below.refl w.heap.size w)
  clear he
  go_enter Tryd.func13, Tryd.ntmps13
  go_wp2_with fail
  refine (awake_any _ HE.out).mono ?_
  rintro e w' ⟨rfl, hb'⟩
  have hE' := HE.out.below hb'
  have hB' := below_next HB.out hb'
  clear HE HB
  have HE := Lib.hid hE'
  have HB := Lib.hid hB'
  clear hb' hE' hB'
  generalize w' = W at *
  rcases Nat.lt_or_ge 2000 s.size with h1 | h1
  · go_wp2_with fail
    go_ret
    exact ⟨rfl, HB.out⟩
  · go_wp2_with fail
    cases hcl : cleanL (bl s) with
    | none =>
      have HCL := Lib.hid hcl
      have HV := Lib.hid (clean_none hcl)
      clear hcl
      refine (clean_no s _ HE.out (by omega) HCL.out).mono ?_
      rintro e w' ⟨rfl, hb'⟩
      have hE' := HE.out.below hb'
      have hB' := below_next HB.out hb'
      clear HE HB
      have HE := Lib.hid hE'
      have HB := Lib.hid hB'
      clear hb' hE' hB'
      generalize w' = W at *
      go_wp2_with fail
      refine (valid_is s _ _ HE.out HV.out).mono ?_
      rintro e w' ⟨rfl, hb'⟩
      have hE' := HE.out.below hb'
      have hB' := below_next HB.out hb'
      clear HE HB
      have HE := Lib.hid hE'
      have HB := Lib.hid hB'
      clear hb' hE' hB'
      generalize w' = W at *
      go_wp2_with fail
      go_ret
      exact ⟨rfl, HB.out⟩
    | some p0 =>
      obtain ⟨p, rfl⟩ : ∃ p : ByteArray, p0 = bl p := ⟨⟨p0.toArray⟩, (bl_mk _).symm⟩
      have hvp := clean_some hcl
      have HCL := Lib.hid hcl
      have HVP := Lib.hid hvp
      have hcp := clean_valid hvp
      have HCP := Lib.hid hcp
      have hp5 : p.size ≤ 512 := by rw [size_bl]; exact (valid_size hvp).1
      have hsm : ∀ o, validP (bl s) = o → o = true → p = s := fun o h1 h2 => bl_inj (clean_same HCL.out (h1.trans h2))
      have HSM := Lib.hid hsm
      obtain ⟨hps1, hps2⟩ := parts_size hvp (partsB_bl (bl p))
      have HPS2 := Lib.hid hps2
      have hp0 : 0 < (partsB (bl p)).length := by
        have := splitL_pos 47 (bl p); rw [← partsB_bl, List.length_map] at this; omega
      have hjoin : joinL ((partsB (bl p)).map bl) = (bl p, 0) := by rw [partsB_bl]; exact join_split hvp
      have HJ := Lib.hid hjoin
      clear hcl hcp hvp hsm hps2 hjoin
      refine (clean_at s p _ HE.out (by omega) HCL.out).mono ?_
      rintro e w' ⟨rfl, hb'⟩
      have hE' := HE.out.below hb'
      have hB' := below_next HB.out hb'
      clear HE HB
      have HE := Lib.hid hE'
      have HB := Lib.hid hB'
      clear hb' hE' hB'
      generalize w' = W at *
      go_wp2_with fail
      refine (clean_at p p _ HE.out (by omega) HCP.out).mono ?_
      rintro e w' ⟨rfl, hb'⟩
      have hE' := HE.out.below hb'
      have hB' := below_next HB.out hb'
      clear HE HB
      have HE := Lib.hid hE'
      have HB := Lib.hid hB'
      clear hb' hE' hB'
      generalize w' = W at *
      go_wp2_with fail
      refine (split_ok p _ HE.out HVP.out).mono ?_
      rintro e w1 ⟨a1, c1, rfl, hc1, hm1, hst1, hb1⟩
      have hE' := HE.out.below hb1
      have hB' := below_next HB.out hb1
      clear HE HB
      have HE := Lib.hid hE'
      have HB := Lib.hid hB'
      have HST1 := Lib.hid hst1
      clear hb1 hE' hB' hst1
      unfold maxLen at hm1
      go_wp2_with fail
      refine (pjoin_at (partsB (bl p)) _ _ p 0 _ HE.out HST1.out (by omega) (fun x hx => by have := HPS2.out x hx; omega) HJ.out).mono ?_
      rintro e w2 ⟨rfl, hb2⟩
      have hE' := HE.out.below hb2
      have hB' := below_next HB.out hb2
      have hst' : StrsAt (fun _ => True) w2 _ _ := RowAt.weak (RowAt.below HST1.out (by omega) hb2) (fun _ _ => trivial)
      clear HE HB HST1
      have HE := Lib.hid hE'
      have HB := Lib.hid hB'
      have HST1 := Lib.hid hst'
      clear hb2 hE' hB' hst'
      have epp : (p.toList == p.toList) = true := by simp
      have epn : (p.toList != p.toList) = false := by simp
      have el0 : (((partsB (bl p)).length : Int) == 0) = false := by rw [beq_eq_false_iff_ne]; omega
      go_wp2_with fail
      refine (valid_is p _ _ HE.out HVP.out).mono ?_
      rintro e w3 ⟨rfl, hb3⟩
      have hE' := HE.out.below hb3
      have hB' := below_next HB.out hb3
      have hst' : StrsAt (fun _ => True) w3 _ _ := RowAt.below HST1.out (by omega) hb3
      clear HE HB HST1
      have HE := Lib.hid hE'
      have HB := Lib.hid hB'
      have HST1 := Lib.hid hst'
      clear hb3 hE' hB' hst'
      go_wp2_with fail
      obtain ⟨u, hu⟩ : ∃ u : ByteArray, bl u = parentL (bl p) := ⟨⟨(parentL (bl p)).toArray⟩, bl_mk _⟩
      have HU := Lib.hid hu
      have hwi : withinB (bl u) (bl p) = true := by
        rw [hu]
        by_cases h0 : parentL (bl p) = []
        · rw [h0]; unfold withinB; simp [HVP.out]
        · refine within_mk HVP.out (parent_valid HVP.out h0) (.inr ⟨_, (parent_last ?_).symm⟩)
          intro e; exact h0 ((parent_nil HVP.out).2 e)
      have HWI := Lib.hid hwi
      clear hu hwi
      cases hvs : validP (bl s)
      · skip
        have HVS := Lib.hid hvs
        clear hvs
        refine (valid_is s _ _ HE.out HVS.out).mono ?_
        rintro e w4 ⟨rfl, hb4⟩
        have hE' := HE.out.below hb4
        have hB' := below_next HB.out hb4
        have hst' : StrsAt (fun _ => True) w4 _ _ := RowAt.below HST1.out (by omega) hb4
        clear HE HB HST1
        have HE := Lib.hid hE'
        have HB := Lib.hid hB'
        have HST1 := Lib.hid hst'
        clear hb4 hE' hB' hst'
        skip
        go_wp2_with fail
        refine (parent_is p u _ HE.out HVP.out HU.out).mono ?_
        rintro e w5 ⟨rfl, hb5⟩
        have hE' := HE.out.below hb5
        have hB' := below_next HB.out hb5
        have hst' : StrsAt (fun _ => True) w5 _ _ := RowAt.below HST1.out (by omega) hb5
        clear HE HB HST1
        have HE := Lib.hid hE'
        have HB := Lib.hid hB'
        have HST1 := Lib.hid hst'
        clear hb5 hE' hB' hst'
        go_wp2_with fail
        refine (within_is u p _ _ HE.out HWI.out).mono ?_
        rintro e w6 ⟨rfl, hb6⟩
        have hE' := HE.out.below hb6
        have hB' := below_next HB.out hb6
        have hst' : StrsAt (fun _ => True) w6 _ _ := RowAt.below HST1.out (by omega) hb6
        clear HE HB HST1
        have HE := Lib.hid hE'
        have HB := Lib.hid hB'
        have HST1 := Lib.hid hst'
        clear hb6 hE' hB' hst'
        by_cases hu0 : bl u = []
        · have eu : u.toList.isEmpty = true := by rw [toList_bl, hu0]; rfl
          have el1 : (((partsB (bl p)).length : Int) == 1) = true := by
            have := (parent_nil HVP.out).1 (by rw [← HU.out]; exact hu0)
            rw [← partsB_bl, List.length_map] at this
            rw [this]; rfl
          clear hu0
          go_wp2_with fail
          go_ret
          exact ⟨rfl, HB.out⟩
        · have eu : u.toList.isEmpty = false := by rw [toList_bl]; simpa using hu0
          obtain ⟨m, hm⟩ : ∃ m, (partsB (bl p)).length = m + 1 := ⟨(partsB (bl p)).length - 1, by omega⟩
          obtain ⟨x, hx⟩ : ∃ x, (partsB (bl p))[m]? = some x := ⟨(partsB (bl p))[m]'(by omega), List.getElem?_eq_getElem (by omega)⟩
          obtain ⟨_, _, hv', _, _, hcells⟩ := HST1.out.shape
          cases hv'
          obtain ⟨b, o, rfl, _, hcl⟩ := hcells m x hx
          have hxs := HPS2.out x (List.mem_of_getElem? hx)
          have hus : u.size ≤ 512 := by
            have h1 := congrArg List.length (parentL_take (bl p))
            rw [List.length_take, ← size_bl] at h1
            rw [size_bl, HU.out]; omega
          have hlast : bl u ++ 47 :: bl x = bl p := by
            have hn : (splitL 47 (bl p)).length ≠ 1 := by intro e; exact hu0 (HU.out.trans ((parent_nil HVP.out).2 e))
            have h2 := parent_last hn
            rw [HU.out]
            have h3 : (splitL 47 (bl p)).getLast (splitL_ne 47 (bl p)) = bl x := by
              have h4 : (splitL 47 (bl p))[m]? = some (bl x) := by rw [← partsB_bl, List.getElem?_map, hx]; rfl
              have h5 : (splitL 47 (bl p)).length = m + 1 := by rw [← partsB_bl, List.length_map]; exact hm
              rw [List.getLast_eq_getElem]
              obtain ⟨h6, h7⟩ := List.getElem?_eq_some_iff.1 h4
              rw [← h7]
              congr 1
              omega
            rw [← h3]; exact h2
          have efin : (((u ++ ⟨#[47]⟩) ++ x).toList == p.toList) = true := by
            rw [toList_bl, toList_bl, bl_append, bl_append, ← hlast]
            simp [bl]
          rw [hm] at hc1 el0 ⊢
          clear hu0 hx hcells hlast hm
          go_wp2_with fail
          go_ret
          exact ⟨rfl, HB.out⟩
      · skip
        have HVS := Lib.hid hvs
        clear hvs
        refine (valid_is s _ _ HE.out HVS.out).mono ?_
        rintro e w4 ⟨rfl, hb4⟩
        have hE' := HE.out.below hb4
        have hB' := below_next HB.out hb4
        have hst' : StrsAt (fun _ => True) w4 _ _ := RowAt.below HST1.out (by omega) hb4
        clear HE HB HST1
        have HE := Lib.hid hE'
        have HB := Lib.hid hB'
        have HST1 := Lib.hid hst'
        clear hb4 hE' hB' hst'
        obtain rfl : p = s := HSM.out true HVS.out rfl
        go_wp2_with fail
        refine (parent_is p u _ HE.out HVP.out HU.out).mono ?_
        rintro e w5 ⟨rfl, hb5⟩
        have hE' := HE.out.below hb5
        have hB' := below_next HB.out hb5
        have hst' : StrsAt (fun _ => True) w5 _ _ := RowAt.below HST1.out (by omega) hb5
        clear HE HB HST1
        have HE := Lib.hid hE'
        have HB := Lib.hid hB'
        have HST1 := Lib.hid hst'
        clear hb5 hE' hB' hst'
        go_wp2_with fail
        refine (within_is u p _ _ HE.out HWI.out).mono ?_
        rintro e w6 ⟨rfl, hb6⟩
        have hE' := HE.out.below hb6
        have hB' := below_next HB.out hb6
        have hst' : StrsAt (fun _ => True) w6 _ _ := RowAt.below HST1.out (by omega) hb6
        clear HE HB HST1
        have HE := Lib.hid hE'
        have HB := Lib.hid hB'
        have HST1 := Lib.hid hst'
        clear hb6 hE' hB' hst'
        by_cases hu0 : bl u = []
        · have eu : u.toList.isEmpty = true := by rw [toList_bl, hu0]; rfl
          have el1 : (((partsB (bl p)).length : Int) == 1) = true := by
            have := (parent_nil HVP.out).1 (by rw [← HU.out]; exact hu0)
            rw [← partsB_bl, List.length_map] at this
            rw [this]; rfl
          clear hu0
          go_wp2_with fail
          go_ret
          exact ⟨rfl, HB.out⟩
        · have eu : u.toList.isEmpty = false := by rw [toList_bl]; simpa using hu0
          obtain ⟨m, hm⟩ : ∃ m, (partsB (bl p)).length = m + 1 := ⟨(partsB (bl p)).length - 1, by omega⟩
          obtain ⟨x, hx⟩ : ∃ x, (partsB (bl p))[m]? = some x := ⟨(partsB (bl p))[m]'(by omega), List.getElem?_eq_getElem (by omega)⟩
          obtain ⟨_, _, hv', _, _, hcells⟩ := HST1.out.shape
          cases hv'
          obtain ⟨b, o, rfl, _, hcl⟩ := hcells m x hx
          have hxs := HPS2.out x (List.mem_of_getElem? hx)
          have hus : u.size ≤ 512 := by
            have h1 := congrArg List.length (parentL_take (bl p))
            rw [List.length_take, ← size_bl] at h1
            rw [size_bl, HU.out]; omega
          have hlast : bl u ++ 47 :: bl x = bl p := by
            have hn : (splitL 47 (bl p)).length ≠ 1 := by intro e; exact hu0 (HU.out.trans ((parent_nil HVP.out).2 e))
            have h2 := parent_last hn
            rw [HU.out]
            have h3 : (splitL 47 (bl p)).getLast (splitL_ne 47 (bl p)) = bl x := by
              have h4 : (splitL 47 (bl p))[m]? = some (bl x) := by rw [← partsB_bl, List.getElem?_map, hx]; rfl
              have h5 : (splitL 47 (bl p)).length = m + 1 := by rw [← partsB_bl, List.length_map]; exact hm
              rw [List.getLast_eq_getElem]
              obtain ⟨h6, h7⟩ := List.getElem?_eq_some_iff.1 h4
              rw [← h7]
              congr 1
              omega
            rw [← h3]; exact h2
          have efin : (((u ++ ⟨#[47]⟩) ++ x).toList == p.toList) = true := by
            rw [toList_bl, toList_bl, bl_append, bl_append, ← hlast]
            simp [bl]
          rw [hm] at hc1 el0 ⊢
          clear hu0 hx hcells hlast hm
          go_wp2_with fail
          go_ret
          exact ⟨rfl, HB.out⟩

end Go.Proofs.YtlipekkiaiaplaaDoor
