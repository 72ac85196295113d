/- The laws PathnameRejoins, PathnameValid: their walks. -/
import Derived.Test.YtlipekkiaiaplaaDoorRefC
import Derived.Test.YtlipekkiaiaplaaDoorRejP
namespace Go.Proofs.YtlipekkiaiaplaaDoor
open Go.RowKit

/-- same: two rows of strings, read at places of one world. -/
theorem same_true (xs ys : List ByteArray) (S T : Nat → Prop) (v u : Value) (w : World) (hv : StrsAt S w v xs) (hu : StrsAt T w u ys) (h : xs = ys) :
    Calls Tryd.prog 41 #[v, u] w fun e w' => e = .returned (.bool true) ∧ Below w.heap.size w w' := by
  subst h
  obtain ⟨a, cap, rfl, hc, hcm, hcell⟩ := hv.shape
  obtain ⟨a2, cap2, rfl, hc2, hcm2, hcell2⟩ := hu.shape
  have HC := Lib.hid hcell
  have HC2 := Lib.hid hcell2
  clear hv hu hcell hcell2
  unfold maxLen at hcm hcm2
  have e0 : ((xs.length : Int) != (xs.length : Int)) = false := by simp
  go_enter Tryd.func41, Tryd.ntmps41
  go_wp2_with fail
  go_loopw [13] (fun i wr => ∃ k : Nat, k ≤ xs.length ∧ i = .int .i64 k ∧ Below w.heap.size w wr) (fun i _ => xs.length - (intOf i).toNat)
  case atStart => exact ⟨0, Nat.zero_le _, rfl, Below.refl _ _⟩
  case round =>
    obtain ⟨k, hk, rfl, hb⟩ := hrel
    have HB := Lib.hid hb
    clear hb
    by_cases hlt : k < xs.length
    · obtain ⟨x, hx⟩ : ∃ x, xs[k]? = some x := ⟨xs[k], by simp [hlt]⟩
      obtain ⟨b, o, rfl, _, hcl⟩ := HC.out k x hx
      obtain ⟨b2, o2, rfl, _, hcl2⟩ := HC2.out k x hx
      have q1 : wr.cell? ⟨b, o + k, none⟩ = some (.string x) := (HB.out.cell (p := ⟨b, o + k, none⟩) (block_lt hcl)).trans hcl
      have q2 : wr.cell? ⟨b2, o2 + k, none⟩ = some (.string x) := (HB.out.cell (p := ⟨b2, o2 + k, none⟩) (block_lt hcl2)).trans hcl2
      have ex : (x.toList != x.toList) = false := by simp
      have i1 : (k : Int) < (xs.length : Int) := by omega
      clear hx hcl hcl2
      go_wp2_with fail
      go_quiet (fail)
      go_wp2_with fail
      go_roundw
      case rel => exact ⟨k + 1, by omega, by go_num, below_draws HB.out _⟩
      case measure => simp [intOf]; omega
    · go_wp2_with fail
      go_ret
      exact ⟨rfl, HB.out⟩

theorem parent_is (s : ByteArray) (u : ByteArray) (w : World) (he : Env w) (hv : validP (bl s) = true) (hu : bl u = parentL (bl s)) :
    Calls Tryd.prog 39 #[.string s] w fun e w' => e = .returned (.tuple #[.string u, .bool true]) ∧ Below w.heap.size w w' := by
  have := parent_any s w he hv
  rw [← hu, mk_bl] at this; exact this
def SplitAt' (xs : List ByteArray) (w : World) (e : Ending) (w' : World) : Prop :=
  ∃ a cap, e = .returned (.tuple #[.slice a xs.length cap, .int .i64 0]) ∧ xs.length ≤ cap ∧ cap ≤ maxLen ∧ StrsAt (w.heap.size ≤ ·) w' (.slice a xs.length cap) xs ∧ Below w.heap.size w w'
theorem bl_map_inj : ∀ {xs ys : List ByteArray}, xs.map bl = ys.map bl → xs = ys
  | [], [], _ => rfl
  | [], _ :: _, h => by simp at h
  | _ :: _, [], h => by simp at h
  | x :: xs, y :: ys, h => by
    simp only [List.map_cons, List.cons.injEq] at h
    rw [bl_inj h.1, bl_map_inj h.2]
/-- The parts of a path, as strings. -/
def partsB (l : List UInt8) : List ByteArray := (splitL 47 l).map fun p => ⟨p.toArray⟩
theorem partsB_bl (l : List UInt8) : (partsB l).map bl = splitL 47 l := by
  unfold partsB
  rw [List.map_map]
  have : (bl ∘ fun p : List UInt8 => (⟨p.toArray⟩ : ByteArray)) = id := by funext p; exact bl_mk p
  rw [this, List.map_id]
theorem split_ok (s : ByteArray) (w : World) (he : Env w) (hv : validP (bl s) = true) : Calls Tryd.prog 38 #[.string s] w (SplitAt' (partsB (bl s)) w) := by
  refine (split_calls s w he).mono ?_
  rintro e w' (⟨_, v, xs, rfl, hx, hs, hb⟩ | ⟨hf, _⟩)
  · have : xs = partsB (bl s) := bl_map_inj (hx.trans (partsB_bl _).symm)
    subst this
    obtain ⟨a, cap, rfl, h1, h2, _⟩ := hs.shape
    exact ⟨a, cap, rfl, h1, h2, hs, hb⟩
  · rw [hv] at hf; cases hf
theorem split_bad (s : ByteArray) (w : World) (he : Env w) (hv : validP (bl s) = false) : Calls Tryd.prog 38 #[.string s] w fun e w' => e = .returned (.tuple #[.slice none 0 0, .int .i64 1]) ∧ Below w.heap.size w w' := by
  refine (split_calls s w he).mono ?_
  rintro e w' (⟨ht, _⟩ | ⟨_, rfl, hb⟩)
  · rw [hv] at ht; cases ht
  · exact ⟨rfl, hb⟩
theorem divide_ok (s : ByteArray) (w : World) (hs : s.size ≤ 16777216) : Calls Tryd.prog 40 #[.string s] w fun e w' => ∃ a cap, e = .returned (.slice a (partsB (bl s)).length cap) ∧ (partsB (bl s)).length ≤ cap ∧ cap ≤ maxLen ∧ StrsAt (w.heap.size ≤ ·) w' (.slice a (partsB (bl s)).length cap) (partsB (bl s)) ∧ Below w.heap.size w w' := by
  refine (r_divide_any s w hs).mono ?_
  rintro e w' ⟨v, xs, rfl, hx, hv, hb⟩
  have : xs = partsB (bl s) := bl_map_inj (hx.trans (partsB_bl _).symm)
  subst this
  obtain ⟨a, cap, rfl, h1, h2, _⟩ := hv.shape
  exact ⟨a, cap, rfl, h1, h2, hv, hb⟩

set_option maxRecDepth 100000 in
set_option maxHeartbeats 4000000 in
theorem valid_walk (s : ByteArray) (w : World) (he : Env w) :
    Calls Tryd.prog 11 #[.string s] w fun e w' => e = .returned (.bool true) ∧ Below w.heap.size w w' := by
  have HE := Lib.hid he
  have HB := Lib.hid (Below.refl w.heap.size w)
  clear he
  by_cases hsz : s.size ≤ 2000
  · go_enter Tryd.func11, Tryd.ntmps11
    go_wp2_with fail
    refine (awake_any _ HE.out).mono ?_
    rintro e w' ⟨rfl, hb'⟩
    have hE' := HE.out.below hb'
    have hB' := below_next HB.out hb'
    clear HE HB
    have HE := Lib.hid hE'
    have HB := Lib.hid hB'
    clear hb' hE' hB'
    generalize w' = W at *
    go_wp2_with fail
    cases hv : validP (bl s)
    · have HV := Lib.hid hv
      clear hv
      refine (split_bad s _ HE.out HV.out).mono ?_
      rintro e w' ⟨rfl, hb'⟩
      have hE' := HE.out.below hb'
      have hB' := below_next HB.out hb'
      clear HE HB
      have HE := Lib.hid hE'
      have HB := Lib.hid hB'
      clear hb' hE' hB'
      generalize w' = W at *
      go_wp2_with fail
      refine (parent_bad s _ HE.out HV.out).mono ?_
      rintro e w' ⟨rfl, hb'⟩
      have hE' := HE.out.below hb'
      have hB' := below_next HB.out hb'
      clear HE HB
      have HE := Lib.hid hE'
      have HB := Lib.hid hB'
      clear hb' hE' hB'
      generalize w' = W at *
      go_wp2_with fail
      refine (r_valid_is s _ _ (by omega) HV.out).mono ?_
      rintro e w' ⟨rfl, hb'⟩
      have hE' := HE.out.below hb'
      have hB' := below_next HB.out hb'
      clear HE HB
      have HE := Lib.hid hE'
      have HB := Lib.hid hB'
      clear hb' hE' hB'
      generalize w' = W at *
      go_wp2_with fail
      refine (valid_is s _ _ HE.out HV.out).mono ?_
      rintro e w' ⟨rfl, hb'⟩
      have hE' := HE.out.below hb'
      have hB' := below_next HB.out hb'
      clear HE HB
      have HE := Lib.hid hE'
      have HB := Lib.hid hB'
      clear hb' hE' hB'
      generalize w' = W at *
      go_wp2_with fail
      go_ret
      exact ⟨rfl, HB.out⟩
    · have HV := Lib.hid hv
      have hps := parts_size hv (partsB_bl (bl s))
      obtain ⟨hp1, hp2⟩ := hps
      have hp0 : 0 < (partsB (bl s)).length := by
        have := splitL_pos 47 (bl s); rw [← partsB_bl, List.length_map] at this; omega
      have HP2 := Lib.hid hp2
      clear hv hp2
      refine (split_ok s _ HE.out HV.out).mono ?_
      rintro e w1 ⟨a1, c1, rfl, hc1, hm1, hst1, hb1⟩
      have hE' := HE.out.below hb1
      have hB' := below_next HB.out hb1
      clear HE HB
      have HE := Lib.hid hE'
      have HB := Lib.hid hB'
      have HST1 := Lib.hid hst1
      clear hb1 hE' hB' hst1
      unfold maxLen at hm1
      go_wp2_with fail
      obtain ⟨u, hu⟩ : ∃ u : ByteArray, bl u = parentL (bl s) := ⟨⟨(parentL (bl s)).toArray⟩, bl_mk _⟩
      have HU := Lib.hid hu
      clear hu
      refine (parent_is s u _ HE.out HV.out HU.out).mono ?_
      rintro e w2 ⟨rfl, hb2⟩
      have hE' := HE.out.below hb2
      have hB' := below_next HB.out hb2
      have hst' : StrsAt (fun _ => True) w2 _ _ := RowAt.weak (RowAt.below HST1.out (by omega) hb2) (fun _ _ => trivial)
      clear HE HB HST1
      have HE := Lib.hid hE'
      have HB := Lib.hid hB'
      have HST1 := Lib.hid hst'
      clear hb2 hE' hB' hst'
      go_wp2_with fail
      refine (r_valid_is s _ _ (by omega) HV.out).mono ?_
      rintro e w3 ⟨rfl, hb3⟩
      have hE' := HE.out.below hb3
      have hB' := below_next HB.out hb3
      have hst' : StrsAt (fun _ => True) w3 _ _ := RowAt.below HST1.out (by omega) hb3
      clear HE HB HST1
      have HE := Lib.hid hE'
      have HB := Lib.hid hB'
      have HST1 := Lib.hid hst'
      clear hb3 hE' hB' hst'
      go_wp2_with fail
      refine (divide_ok s _ (by omega)).mono ?_
      rintro e w4 ⟨a2, c2, rfl, hc2, hm2, hst2, hb4⟩
      have hE' := HE.out.below hb4
      have hB' := below_next HB.out hb4
      have hst' : StrsAt (fun _ => True) w4 _ _ := RowAt.below HST1.out (by omega) hb4
      clear HE HB HST1
      have HE := Lib.hid hE'
      have HB := Lib.hid hB'
      have HST1 := Lib.hid hst'
      have HST2 := Lib.hid hst2
      clear hb4 hE' hB' hst' hst2
      unfold maxLen at hm2
      go_wp2_with fail
      refine (valid_is s _ _ HE.out HV.out).mono ?_
      rintro e w5 ⟨rfl, hb5⟩
      have hB' := below_next HB.out hb5
      have hst' : StrsAt (fun _ => True) w5 _ _ := RowAt.below HST1.out (by omega) hb5
      have hst'' : StrsAt (fun _ => True) w5 _ _ := RowAt.weak (RowAt.below HST2.out (by omega) hb5) (fun _ _ => trivial)
      clear HE HB HST1 HST2
      have HB := Lib.hid hB'
      have HST1 := Lib.hid hst'
      have HST2 := Lib.hid hst''
      clear hb5 hB' hst' hst''
      go_wp2_with fail
      refine (same_true _ _ _ _ _ _ _ HST1.out HST2.out rfl).mono ?_
      rintro e w6 ⟨rfl, hb6⟩
      have hB' := below_next HB.out hb6
      have hst'' : StrsAt (fun _ => True) w6 _ _ := RowAt.below HST2.out (by omega) hb6
      clear HB HST1 HST2
      have HB := Lib.hid hB'
      have HST2 := Lib.hid hst''
      clear hb6 hB' hst''
      obtain ⟨m, hm⟩ : ∃ m, (partsB (bl s)).length = m + 1 := ⟨(partsB (bl s)).length - 1, by omega⟩
      have HM := Lib.hid hm
      have hU := r_unite_any ((partsB (bl s)).take m) (fun _ => True) (.slice a2 m c2) w6 (strs_take HST2.out (by omega)) (by simp; omega) (fun x hx => by have := HP2.out x (List.mem_of_mem_take hx); omega)
      have hpar : uniteL (((partsB (bl s)).take m).map bl) = parentL (bl s) := by
        rw [List.map_take, partsB_bl, parentL, List.dropLast_eq_take]
        congr 2
        have := congrArg List.length (partsB_bl (bl s))
        rw [List.length_map] at this; omega
      rw [hpar, ← HU.out, mk_bl] at hU
      have HUU := Lib.hid hU
      rw [hm] at hc2 ⊢
      have euu : (u.toList == u.toList) = true := by simp
      clear hU hpar hm hp0 hp1 hc1
      go_wp2_with fail
      refine HUU.out.mono ?_
      rintro e w7 ⟨rfl, rfl⟩
      go_wp2_with fail
      go_ret
      exact ⟨rfl, HB.out⟩
  · go_enter Tryd.func11, Tryd.ntmps11
    go_wp2_with fail
    refine (awake_any _ HE.out).mono ?_
    rintro e w' ⟨rfl, hb'⟩
    have hE' := HE.out.below hb'
    have hB' := below_next HB.out hb'
    clear HE HB
    have HE := Lib.hid hE'
    have HB := Lib.hid hB'
    clear hb' hE' hB'
    generalize w' = W at *
    go_wp2_with fail
    go_ret
    exact ⟨rfl, HB.out⟩

end Go.Proofs.YtlipekkiaiaplaaDoor
