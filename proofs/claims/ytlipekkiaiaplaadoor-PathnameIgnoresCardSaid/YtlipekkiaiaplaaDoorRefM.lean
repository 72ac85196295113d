/- Contracts of the specification of chapter 18: Ignored. -/
import Derived.Test.YtlipekkiaiaplaaDoorRefJ
import Derived.Test.YtlipekkiaiaplaaDoorRefI
import Derived.Test.YtlipekkiaiaplaaDoorIgn
namespace Go.Proofs.YtlipekkiaiaplaaDoor
open Go.RowKit

theorem split_mem {c : UInt8} {l p : List UInt8} (h : p ∈ splitL c l) : c ∉ p := splitL_mem c l p h
theorem where_one {cs : List PComp} {p l : List UInt8} {parts : List (List UInt8)} {m : Nat} {x : List UInt8} (hp : patS p = some cs) (hl : parts = splitL 47 l) (hx : parts[m]? = some x) :
    allR (splitL 47 p) (splitL 47 x) = matchS cs ((parts.take (m + 1)).drop m) := by
  have hm : 47 ∉ x := split_mem (c := 47) (l := l) (by rw [← hl]; exact List.mem_of_getElem? hx)
  have e : (parts.take (m + 1)).drop m = [x] := by
    have hk := (List.getElem?_eq_some_iff.1 hx).1
    rw [List.take_add_one, hx, List.drop_append, List.drop_eq_nil_of_le (by simp; omega)]
    simp [Nat.min_eq_left (Nat.le_of_lt hk)]
  rw [all_match hp, splitL_whole _ _ hm, e]
theorem where_all {cs : List PComp} {p l : List UInt8} {parts : List (List UInt8)} {m : Nat} (hp : patS p = some cs) (hl : parts = splitL 47 l) (hm : m < parts.length) :
    allR (splitL 47 p) (splitL 47 (uniteL (parts.take (m + 1)))) = matchS cs (parts.take (m + 1)) := by
  have e : splitL 47 (uniteL (parts.take (m + 1))) = parts.take (m + 1) := by
    refine splitL_join 47 _ (fun h => ?_) (fun q hq => split_mem (c := 47) (l := l) (by rw [← hl]; exact List.mem_of_mem_take hq))
    have := congrArg List.length h
    simp at this
    subst this
    simp at hm
  rw [all_match hp, e]

theorem unite_small {xs : List ByteArray} (h : xs.length ≤ 16) (h2 : ∀ x ∈ xs, x.size ≤ 512) (k : Nat) : (uniteL ((xs.map bl).take k)).length ≤ 65536 := by
  have h1 := unite_take_len xs 512 h2 k
  rw [← List.map_take]
  omega
theorem r_match_o (p s : ByteArray) (o : Bool) (w : World) (hp : p.size ≤ 65536) (hs : s.size ≤ 65536) (h : allR (splitL 47 (bl p)) (splitL 47 (bl s)) = o) :
    Calls Tryd.prog 18 #[.string p, .string s] w fun e w' => e = .returned (.bool o) ∧ Below w.heap.size w w' := by rw [← h]; exact r_match_any p s w hp hs
set_option maxHeartbeats 4000000 in
theorem r_ignored_any (rs : List PRule) (us : List (PRule × List PComp)) (S : Nat → Prop) (v : Value) (s : ByteArray) (dir : Bool) (w : World) (hv : RulesAt S w v rs) (hca : compileAll rs = some us) (hval : validP (bl s) = true) :
    Calls Tryd.prog 22 #[v, .string s, .bool dir] w fun e w' => e = .returned (.bool (ignFrom dir (splitL 47 (bl s)) us (splitL 47 (bl s)).length 1)) ∧ Below w.heap.size w w' := by
  have HV := Lib.hid hv
  have HCA := Lib.hid hca
  have HUL := Lib.hid (show us.length = rs.length by rw [← compileAll_fst hca, List.length_map])
  obtain ⟨a, cap, rfl, hc, hcm, -⟩ := hv.cells
  have hssz : s.size ≤ 65536 := by
    have h := hval
    simp only [validP, Bool.and_eq_true, decide_eq_true_eq] at h
    rw [size_bl]; omega
  clear hv hca
  unfold maxLen at hcm
  go_enter Tryd.func22, Tryd.ntmps22
  go_wp2_with fail
  refine (r_divide_any s w (by omega)).mono ?_
  rintro e w1 ⟨tv, xs, rfl, hxs, htv, hb1⟩
  obtain ⟨hx1, hx2⟩ := parts_size hval hxs
  obtain ⟨ta, tc, rfl, htc1, htc2, -⟩ := htv.shape
  have HFIN := Lib.hid (show ignFrom dir (splitL 47 (bl s)) us (splitL 47 (bl s)).length 1 = ignFrom dir (xs.map bl) us (xs.map bl).length 1 by rw [hxs])
  have HB1 := Lib.hid hb1
  have HTV := Lib.hid htv
  have HXS := Lib.hid hxs
  have HX2 := Lib.hid hx2
  clear hb1 htv hxs hval hx2
  unfold maxLen at htc2
  go_wp2_with fail
  go_loopw [8] (fun n wr2 => ∃ (m : Nat), m ≤ xs.length ∧ n = .int .i64 ((m : Int) + 1) ∧ Below w1.heap.size w1 wr2 ∧ IgnRel dir (xs.map bl) us m false) (fun n _ => xs.length + 1 - (intOf n).toNat)
  case atStart => exact ⟨0, Nat.zero_le _, rfl, Below.refl _ _, fun _ => rfl, fun h => by cases h⟩
  case round =>
    obtain ⟨m, hm, rfl, hI2, hf⟩ := hrel
    have HI := Lib.hid hI2
    have HF := Lib.hid hf
    clear hI2 hf
    by_cases hlt : m < xs.length
    · have e1 : decide ((m : Int) + 1 ≤ (xs.length : Int)) = true := by simp; omega
      have hstep : ignFrom dir (xs.map bl) us (xs.length - m) (m + 1) = if ignAt dir (xs.map bl) (m + 1) us false then true else ignFrom dir (xs.map bl) us (xs.length - (m + 1)) (m + 1 + 1) := by
        rw [show xs.length - m = (xs.length - (m + 1)) + 1 by omega, ignFrom]
      have HSTEP := Lib.hid hstep
      clear hstep
      cases dir
      · by_cases hml : m + 1 < xs.length
        · have hml2 : decide ((m : Int) + 1 < (xs.length : Int)) = true := by simp; omega
          have HD := Lib.hid (show (false || decide (m + 1 < (xs.map bl).length)) = true by simp [hml])
          go_wp2_with fail
          go_loopw [9, 23] (fun g i wr3 => ∃ (k : Nat) (b : Bool), k ≤ rs.length ∧ g = .bool b ∧ i = .int .i64 k ∧ Below w1.heap.size w1 wr3 ∧ IgnIn false (xs.map bl) us m k b) (fun _ i _ => rs.length - (intOf i).toNat)
          case atStart => exact ⟨0, false, Nat.zero_le _, rfl, rfl, HI.out, rfl⟩
          case round =>
            clear HI
            obtain ⟨k, b, hk, rfl, rfl, hI2, hin⟩ := hrel
            have HI := Lib.hid hI2
            have HIN := Lib.hid hin
            clear hI2 hin
            by_cases hkl : k < rs.length
            · obtain ⟨r, hr⟩ : ∃ r, rs[k]? = some r := ⟨rs[k], by simp [hkl]⟩
              obtain ⟨cs, hu⟩ : ∃ cs, us[k]? = some (r, cs) := by
                have h1 := compileAll_fst HCA.out
                have hk2 : k < us.length := by rw [HUL.out]; exact hkl
                have h2 : (us.map Prod.fst)[k]? = some r := by rw [h1]; exact hr
                rw [List.getElem?_map, List.getElem?_eq_getElem hk2] at h2
                refine ⟨us[k].2, ?_⟩
                rw [List.getElem?_eq_getElem hk2]
                simp only [Option.map_some, Option.some.injEq] at h2
                rw [← h2]
              have hpat : patS r.pat = some cs := compileS_pat (compileAll_mem HCA.out _ (List.mem_of_getElem? hu))
              obtain ⟨-, -, hpl⟩ := patS_bounds hpat
              have hbig : Below w.heap.size w wr := below_next HB1.out HI.out
              obtain ⟨_, _, hv', _, _, hcells⟩ := (RulesAt.below HV.out hbig).cells
              cases hv'
              obtain ⟨b0, o0, rfl, c0, c1, c2, c3⟩ := hcells k r hr
              have hst : StrsAt (fun _ => True) wr (.slice ta xs.length tc) xs := RowAt.weak (RowAt.below HTV.out (by omega) HI.out) (fun _ _ => trivial)
              obtain ⟨x, hx⟩ : ∃ x, xs[m]? = some x := ⟨xs[m], by simp [hlt]⟩
              obtain ⟨_, _, hv'', _, _, hcs⟩ := hst.shape
              cases hv''
              obtain ⟨tb, tof, rfl, _, hxc⟩ := hcs m x hx
              have hxs : x.size ≤ 512 := HX2.out x (List.mem_of_getElem? hx)
              have HW1 := Lib.hid (where_one (m := m) (x := bl x) hpat HXS.out (by rw [List.getElem?_map, hx]; rfl))
              have HW2 := Lib.hid (where_all (m := m) hpat HXS.out (by rw [List.length_map]; exact hlt))
              have HST := Lib.hid hst
              have HU := Lib.hid hu
              have HH := Lib.hid (ruleHits_eq false r cs (xs.map bl) (m + 1) true HD.out)
              obtain ⟨rp, rk, rd, rr⟩ := r
              simp only at c0 c1 c2 c3 hpl HW1 HW2
              clear hr hu hcells hbig hst hpat hx hcs
              have hwb : Below wr.heap.size wr (wr.alloc (.cells #[.string ⟨rp.toArray⟩, .bool rk, .bool rd, .bool rr] 30)) := (Below.refl _ _).alloc (Nat.le_refl _) _
              have HWB := Lib.hid hwb
              have hxc2 := hwb.cell (block_lt hxc)
              rw [hxc] at hxc2
              have HST2 := Lib.hid (show StrsAt (fun _ => True) (wr.alloc (.cells #[.string ⟨rp.toArray⟩, .bool rk, .bool rd, .bool rr] 30)) _ xs from RowAt.below HST.out (by omega) hwb)
              clear hwb hxc
              have k4 : ∀ w4 : World, Below (wr.alloc (.cells #[.string ⟨rp.toArray⟩, .bool rk, .bool rd, .bool rr] 30)).heap.size (wr.alloc (.cells #[.string ⟨rp.toArray⟩, .bool rk, .bool rd, .bool rr] 30)) w4 → w4.cell? ⟨wr.heap.size, 1, none⟩ = some (.bool rk) := fun w4 hb4 => (hb4.cell (p := ⟨wr.heap.size, 1, none⟩) (by simp)).trans (by simp)
              have K4 := Lib.hid k4
              clear k4
              cases rr
              · cases hmb : matchS cs (((xs.map bl).take (m + 1)).drop m)
                all_goals (
                  have HMB := Lib.hid hmb
                  clear hmb
                  cases rd
                  all_goals (
                    go_wp2_with (go_at_call 18; refine (r_match_o ⟨rp.toArray⟩ x _ _ (by simp [size_bl, bl_mk]; omega) (by omega) (by rw [bl_mk, HW1.out, HMB.out])).mono ?_; rintro e w4 ⟨rfl, hb4⟩; have c4 := K4.out _ hb4; have HB4 := Lib.hid hb4; clear hb4)
                    go_roundw
                    case rel => exact ⟨k + 1, _, by omega, rfl, by go_num, below_next HI.out (by first | exact below_next HWB.out HB4.out | exact HWB.out), by first | exact ign_miss HIN.out HU.out (HH.out.trans (by simp [HMB.out])) | exact ign_hit HIN.out HU.out (HH.out.trans (by simp [HMB.out]))⟩
                    case measure => simp [intOf]; omega))
              · cases hmb : matchS cs ((xs.map bl).take (m + 1))
                all_goals (
                  have HMB := Lib.hid hmb
                  clear hmb
                  have hul : (uniteL ((xs.map bl).take (m + 1))).length ≤ 65536 := unite_small hx1 HX2.out (m + 1)
                  cases rd
                  all_goals (
                    go_wp2_with (first
                      | (go_at_call 42; refine (r_unite_any (xs.take (m + 1)) (fun _ => True) _ _ (strs_take HST2.out (by omega)) (by simp; omega) (fun y hy => by have := HX2.out y (List.mem_of_mem_take hy); omega)).mono ?_; rintro e w3 ⟨rfl, rfl⟩; rw [List.map_take])
                      | (go_at_call 18; refine (r_match_o ⟨rp.toArray⟩ ⟨(uniteL ((xs.map bl).take (m + 1))).toArray⟩ _ _ (by simp [size_bl, bl_mk]; omega) (by rw [size_bl, bl_mk]; omega) (by rw [bl_mk, bl_mk, HW2.out, HMB.out])).mono ?_; rintro e w4 ⟨rfl, hb4⟩; have c4 := K4.out _ hb4; have HB4 := Lib.hid hb4; clear hb4))
                    go_roundw
                    case rel => exact ⟨k + 1, _, by omega, rfl, by go_num, below_next HI.out (by first | exact below_next HWB.out HB4.out | exact HWB.out), by first | exact ign_miss HIN.out HU.out (HH.out.trans (by simp [HMB.out])) | exact ign_hit HIN.out HU.out (HH.out.trans (by simp [HMB.out]))⟩
                    case measure => simp [intOf]; omega))
            · obtain rfl : k = rs.length := by omega
              have hat : ignAt false (xs.map bl) (m + 1) us false = b := by
                have := HIN.out
                unfold IgnIn at this
                rw [this, ← HUL.out, List.drop_length]; rfl
              have HAT := Lib.hid hat
              clear hat
              cases b
              · go_wp2_with fail
                go_roundw
                case rel =>
                  refine ⟨m + 1, by omega, by go_num, HI.out, fun hb => ?_, fun hb => by cases hb⟩
                  have := HF.out.1 rfl
                  rw [this, List.length_map, HSTEP.out, HAT.out]; rfl
                case measure => simp [intOf]; omega
              · go_wp2_with fail
                go_ret
                refine ⟨ret_bool ?_, below_next HB1.out HI.out⟩
                have := HF.out.1 rfl
                rw [HFIN.out, this, List.length_map, HSTEP.out, HAT.out]; rfl
        · have hml2 : decide ((m : Int) + 1 < (xs.length : Int)) = false := by simp; omega
          have HD := Lib.hid (show (false || decide (m + 1 < (xs.map bl).length)) = false by simp [hml])
          go_wp2_with fail
          go_loopw [9, 23] (fun g i wr3 => ∃ (k : Nat) (b : Bool), k ≤ rs.length ∧ g = .bool b ∧ i = .int .i64 k ∧ Below w1.heap.size w1 wr3 ∧ IgnIn false (xs.map bl) us m k b) (fun _ i _ => rs.length - (intOf i).toNat)
          case atStart => exact ⟨0, false, Nat.zero_le _, rfl, rfl, HI.out, rfl⟩
          case round =>
            clear HI
            obtain ⟨k, b, hk, rfl, rfl, hI2, hin⟩ := hrel
            have HI := Lib.hid hI2
            have HIN := Lib.hid hin
            clear hI2 hin
            by_cases hkl : k < rs.length
            · obtain ⟨r, hr⟩ : ∃ r, rs[k]? = some r := ⟨rs[k], by simp [hkl]⟩
              obtain ⟨cs, hu⟩ : ∃ cs, us[k]? = some (r, cs) := by
                have h1 := compileAll_fst HCA.out
                have hk2 : k < us.length := by rw [HUL.out]; exact hkl
                have h2 : (us.map Prod.fst)[k]? = some r := by rw [h1]; exact hr
                rw [List.getElem?_map, List.getElem?_eq_getElem hk2] at h2
                refine ⟨us[k].2, ?_⟩
                rw [List.getElem?_eq_getElem hk2]
                simp only [Option.map_some, Option.some.injEq] at h2
                rw [← h2]
              have hpat : patS r.pat = some cs := compileS_pat (compileAll_mem HCA.out _ (List.mem_of_getElem? hu))
              obtain ⟨-, -, hpl⟩ := patS_bounds hpat
              have hbig : Below w.heap.size w wr := below_next HB1.out HI.out
              obtain ⟨_, _, hv', _, _, hcells⟩ := (RulesAt.below HV.out hbig).cells
              cases hv'
              obtain ⟨b0, o0, rfl, c0, c1, c2, c3⟩ := hcells k r hr
              have hst : StrsAt (fun _ => True) wr (.slice ta xs.length tc) xs := RowAt.weak (RowAt.below HTV.out (by omega) HI.out) (fun _ _ => trivial)
              obtain ⟨x, hx⟩ : ∃ x, xs[m]? = some x := ⟨xs[m], by simp [hlt]⟩
              obtain ⟨_, _, hv'', _, _, hcs⟩ := hst.shape
              cases hv''
              obtain ⟨tb, tof, rfl, _, hxc⟩ := hcs m x hx
              have hxs : x.size ≤ 512 := HX2.out x (List.mem_of_getElem? hx)
              have HW1 := Lib.hid (where_one (m := m) (x := bl x) hpat HXS.out (by rw [List.getElem?_map, hx]; rfl))
              have HW2 := Lib.hid (where_all (m := m) hpat HXS.out (by rw [List.length_map]; exact hlt))
              have HST := Lib.hid hst
              have HU := Lib.hid hu
              have HH := Lib.hid (ruleHits_eq false r cs (xs.map bl) (m + 1) false HD.out)
              obtain ⟨rp, rk, rd, rr⟩ := r
              simp only at c0 c1 c2 c3 hpl HW1 HW2
              clear hr hu hcells hbig hst hpat hx hcs
              have hwb : Below wr.heap.size wr (wr.alloc (.cells #[.string ⟨rp.toArray⟩, .bool rk, .bool rd, .bool rr] 30)) := (Below.refl _ _).alloc (Nat.le_refl _) _
              have HWB := Lib.hid hwb
              have hxc2 := hwb.cell (block_lt hxc)
              rw [hxc] at hxc2
              have HST2 := Lib.hid (show StrsAt (fun _ => True) (wr.alloc (.cells #[.string ⟨rp.toArray⟩, .bool rk, .bool rd, .bool rr] 30)) _ xs from RowAt.below HST.out (by omega) hwb)
              clear hwb hxc
              have k4 : ∀ w4 : World, Below (wr.alloc (.cells #[.string ⟨rp.toArray⟩, .bool rk, .bool rd, .bool rr] 30)).heap.size (wr.alloc (.cells #[.string ⟨rp.toArray⟩, .bool rk, .bool rd, .bool rr] 30)) w4 → w4.cell? ⟨wr.heap.size, 1, none⟩ = some (.bool rk) := fun w4 hb4 => (hb4.cell (p := ⟨wr.heap.size, 1, none⟩) (by simp)).trans (by simp)
              have K4 := Lib.hid k4
              clear k4
              cases rr
              · cases hmb : matchS cs (((xs.map bl).take (m + 1)).drop m)
                all_goals (
                  have HMB := Lib.hid hmb
                  clear hmb
                  cases rd
                  all_goals (
                    go_wp2_with (go_at_call 18; refine (r_match_o ⟨rp.toArray⟩ x _ _ (by simp [size_bl, bl_mk]; omega) (by omega) (by rw [bl_mk, HW1.out, HMB.out])).mono ?_; rintro e w4 ⟨rfl, hb4⟩; have c4 := K4.out _ hb4; have HB4 := Lib.hid hb4; clear hb4)
                    go_roundw
                    case rel => exact ⟨k + 1, _, by omega, rfl, by go_num, below_next HI.out (by first | exact below_next HWB.out HB4.out | exact HWB.out), by first | exact ign_miss HIN.out HU.out (HH.out.trans (by simp [HMB.out])) | exact ign_hit HIN.out HU.out (HH.out.trans (by simp [HMB.out]))⟩
                    case measure => simp [intOf]; omega))
              · cases hmb : matchS cs ((xs.map bl).take (m + 1))
                all_goals (
                  have HMB := Lib.hid hmb
                  clear hmb
                  have hul : (uniteL ((xs.map bl).take (m + 1))).length ≤ 65536 := unite_small hx1 HX2.out (m + 1)
                  cases rd
                  all_goals (
                    go_wp2_with (first
                      | (go_at_call 42; refine (r_unite_any (xs.take (m + 1)) (fun _ => True) _ _ (strs_take HST2.out (by omega)) (by simp; omega) (fun y hy => by have := HX2.out y (List.mem_of_mem_take hy); omega)).mono ?_; rintro e w3 ⟨rfl, rfl⟩; rw [List.map_take])
                      | (go_at_call 18; refine (r_match_o ⟨rp.toArray⟩ ⟨(uniteL ((xs.map bl).take (m + 1))).toArray⟩ _ _ (by simp [size_bl, bl_mk]; omega) (by rw [size_bl, bl_mk]; omega) (by rw [bl_mk, bl_mk, HW2.out, HMB.out])).mono ?_; rintro e w4 ⟨rfl, hb4⟩; have c4 := K4.out _ hb4; have HB4 := Lib.hid hb4; clear hb4))
                    go_roundw
                    case rel => exact ⟨k + 1, _, by omega, rfl, by go_num, below_next HI.out (by first | exact below_next HWB.out HB4.out | exact HWB.out), by first | exact ign_miss HIN.out HU.out (HH.out.trans (by simp [HMB.out])) | exact ign_hit HIN.out HU.out (HH.out.trans (by simp [HMB.out]))⟩
                    case measure => simp [intOf]; omega))
            · obtain rfl : k = rs.length := by omega
              have hat : ignAt false (xs.map bl) (m + 1) us false = b := by
                have := HIN.out
                unfold IgnIn at this
                rw [this, ← HUL.out, List.drop_length]; rfl
              have HAT := Lib.hid hat
              clear hat
              cases b
              · go_wp2_with fail
                go_roundw
                case rel =>
                  refine ⟨m + 1, by omega, by go_num, HI.out, fun hb => ?_, fun hb => by cases hb⟩
                  have := HF.out.1 rfl
                  rw [this, List.length_map, HSTEP.out, HAT.out]; rfl
                case measure => simp [intOf]; omega
              · go_wp2_with fail
                go_ret
                refine ⟨ret_bool ?_, below_next HB1.out HI.out⟩
                have := HF.out.1 rfl
                rw [HFIN.out, this, List.length_map, HSTEP.out, HAT.out]; rfl
      · have HD := Lib.hid (show (true || decide (m + 1 < (xs.map bl).length)) = true by simp)
        by_cases hml : m + 1 < xs.length
        · have hml2 : decide ((m : Int) + 1 < (xs.length : Int)) = true := by simp; omega
          go_wp2_with fail
          go_loopw [9, 23] (fun g i wr3 => ∃ (k : Nat) (b : Bool), k ≤ rs.length ∧ g = .bool b ∧ i = .int .i64 k ∧ Below w1.heap.size w1 wr3 ∧ IgnIn true (xs.map bl) us m k b) (fun _ i _ => rs.length - (intOf i).toNat)
          case atStart => exact ⟨0, false, Nat.zero_le _, rfl, rfl, HI.out, rfl⟩
          case round =>
            clear HI
            obtain ⟨k, b, hk, rfl, rfl, hI2, hin⟩ := hrel
            have HI := Lib.hid hI2
            have HIN := Lib.hid hin
            clear hI2 hin
            by_cases hkl : k < rs.length
            · obtain ⟨r, hr⟩ : ∃ r, rs[k]? = some r := ⟨rs[k], by simp [hkl]⟩
              obtain ⟨cs, hu⟩ : ∃ cs, us[k]? = some (r, cs) := by
                have h1 := compileAll_fst HCA.out
                have hk2 : k < us.length := by rw [HUL.out]; exact hkl
                have h2 : (us.map Prod.fst)[k]? = some r := by rw [h1]; exact hr
                rw [List.getElem?_map, List.getElem?_eq_getElem hk2] at h2
                refine ⟨us[k].2, ?_⟩
                rw [List.getElem?_eq_getElem hk2]
                simp only [Option.map_some, Option.some.injEq] at h2
                rw [← h2]
              have hpat : patS r.pat = some cs := compileS_pat (compileAll_mem HCA.out _ (List.mem_of_getElem? hu))
              obtain ⟨-, -, hpl⟩ := patS_bounds hpat
              have hbig : Below w.heap.size w wr := below_next HB1.out HI.out
              obtain ⟨_, _, hv', _, _, hcells⟩ := (RulesAt.below HV.out hbig).cells
              cases hv'
              obtain ⟨b0, o0, rfl, c0, c1, c2, c3⟩ := hcells k r hr
              have hst : StrsAt (fun _ => True) wr (.slice ta xs.length tc) xs := RowAt.weak (RowAt.below HTV.out (by omega) HI.out) (fun _ _ => trivial)
              obtain ⟨x, hx⟩ : ∃ x, xs[m]? = some x := ⟨xs[m], by simp [hlt]⟩
              obtain ⟨_, _, hv'', _, _, hcs⟩ := hst.shape
              cases hv''
              obtain ⟨tb, tof, rfl, _, hxc⟩ := hcs m x hx
              have hxs : x.size ≤ 512 := HX2.out x (List.mem_of_getElem? hx)
              have HW1 := Lib.hid (where_one (m := m) (x := bl x) hpat HXS.out (by rw [List.getElem?_map, hx]; rfl))
              have HW2 := Lib.hid (where_all (m := m) hpat HXS.out (by rw [List.length_map]; exact hlt))
              have HST := Lib.hid hst
              have HU := Lib.hid hu
              have HH := Lib.hid (ruleHits_eq true r cs (xs.map bl) (m + 1) true HD.out)
              obtain ⟨rp, rk, rd, rr⟩ := r
              simp only at c0 c1 c2 c3 hpl HW1 HW2
              clear hr hu hcells hbig hst hpat hx hcs
              have hwb : Below wr.heap.size wr (wr.alloc (.cells #[.string ⟨rp.toArray⟩, .bool rk, .bool rd, .bool rr] 30)) := (Below.refl _ _).alloc (Nat.le_refl _) _
              have HWB := Lib.hid hwb
              have hxc2 := hwb.cell (block_lt hxc)
              rw [hxc] at hxc2
              have HST2 := Lib.hid (show StrsAt (fun _ => True) (wr.alloc (.cells #[.string ⟨rp.toArray⟩, .bool rk, .bool rd, .bool rr] 30)) _ xs from RowAt.below HST.out (by omega) hwb)
              clear hwb hxc
              have k4 : ∀ w4 : World, Below (wr.alloc (.cells #[.string ⟨rp.toArray⟩, .bool rk, .bool rd, .bool rr] 30)).heap.size (wr.alloc (.cells #[.string ⟨rp.toArray⟩, .bool rk, .bool rd, .bool rr] 30)) w4 → w4.cell? ⟨wr.heap.size, 1, none⟩ = some (.bool rk) := fun w4 hb4 => (hb4.cell (p := ⟨wr.heap.size, 1, none⟩) (by simp)).trans (by simp)
              have K4 := Lib.hid k4
              clear k4
              cases rr
              · cases hmb : matchS cs (((xs.map bl).take (m + 1)).drop m)
                all_goals (
                  have HMB := Lib.hid hmb
                  clear hmb
                  cases rd
                  all_goals (
                    go_wp2_with (go_at_call 18; refine (r_match_o ⟨rp.toArray⟩ x _ _ (by simp [size_bl, bl_mk]; omega) (by omega) (by rw [bl_mk, HW1.out, HMB.out])).mono ?_; rintro e w4 ⟨rfl, hb4⟩; have c4 := K4.out _ hb4; have HB4 := Lib.hid hb4; clear hb4)
                    go_roundw
                    case rel => exact ⟨k + 1, _, by omega, rfl, by go_num, below_next HI.out (by first | exact below_next HWB.out HB4.out | exact HWB.out), by first | exact ign_miss HIN.out HU.out (HH.out.trans (by simp [HMB.out])) | exact ign_hit HIN.out HU.out (HH.out.trans (by simp [HMB.out]))⟩
                    case measure => simp [intOf]; omega))
              · cases hmb : matchS cs ((xs.map bl).take (m + 1))
                all_goals (
                  have HMB := Lib.hid hmb
                  clear hmb
                  have hul : (uniteL ((xs.map bl).take (m + 1))).length ≤ 65536 := unite_small hx1 HX2.out (m + 1)
                  cases rd
                  all_goals (
                    go_wp2_with (first
                      | (go_at_call 42; refine (r_unite_any (xs.take (m + 1)) (fun _ => True) _ _ (strs_take HST2.out (by omega)) (by simp; omega) (fun y hy => by have := HX2.out y (List.mem_of_mem_take hy); omega)).mono ?_; rintro e w3 ⟨rfl, rfl⟩; rw [List.map_take])
                      | (go_at_call 18; refine (r_match_o ⟨rp.toArray⟩ ⟨(uniteL ((xs.map bl).take (m + 1))).toArray⟩ _ _ (by simp [size_bl, bl_mk]; omega) (by rw [size_bl, bl_mk]; omega) (by rw [bl_mk, bl_mk, HW2.out, HMB.out])).mono ?_; rintro e w4 ⟨rfl, hb4⟩; have c4 := K4.out _ hb4; have HB4 := Lib.hid hb4; clear hb4))
                    go_roundw
                    case rel => exact ⟨k + 1, _, by omega, rfl, by go_num, below_next HI.out (by first | exact below_next HWB.out HB4.out | exact HWB.out), by first | exact ign_miss HIN.out HU.out (HH.out.trans (by simp [HMB.out])) | exact ign_hit HIN.out HU.out (HH.out.trans (by simp [HMB.out]))⟩
                    case measure => simp [intOf]; omega))
            · obtain rfl : k = rs.length := by omega
              have hat : ignAt true (xs.map bl) (m + 1) us false = b := by
                have := HIN.out
                unfold IgnIn at this
                rw [this, ← HUL.out, List.drop_length]; rfl
              have HAT := Lib.hid hat
              clear hat
              cases b
              · go_wp2_with fail
                go_roundw
                case rel =>
                  refine ⟨m + 1, by omega, by go_num, HI.out, fun hb => ?_, fun hb => by cases hb⟩
                  have := HF.out.1 rfl
                  rw [this, List.length_map, HSTEP.out, HAT.out]; rfl
                case measure => simp [intOf]; omega
              · go_wp2_with fail
                go_ret
                refine ⟨ret_bool ?_, below_next HB1.out HI.out⟩
                have := HF.out.1 rfl
                rw [HFIN.out, this, List.length_map, HSTEP.out, HAT.out]; rfl
        · have hml2 : decide ((m : Int) + 1 < (xs.length : Int)) = false := by simp; omega
          go_wp2_with fail
          go_loopw [9, 23] (fun g i wr3 => ∃ (k : Nat) (b : Bool), k ≤ rs.length ∧ g = .bool b ∧ i = .int .i64 k ∧ Below w1.heap.size w1 wr3 ∧ IgnIn true (xs.map bl) us m k b) (fun _ i _ => rs.length - (intOf i).toNat)
          case atStart => exact ⟨0, false, Nat.zero_le _, rfl, rfl, HI.out, rfl⟩
          case round =>
            clear HI
            obtain ⟨k, b, hk, rfl, rfl, hI2, hin⟩ := hrel
            have HI := Lib.hid hI2
            have HIN := Lib.hid hin
            clear hI2 hin
            by_cases hkl : k < rs.length
            · obtain ⟨r, hr⟩ : ∃ r, rs[k]? = some r := ⟨rs[k], by simp [hkl]⟩
              obtain ⟨cs, hu⟩ : ∃ cs, us[k]? = some (r, cs) := by
                have h1 := compileAll_fst HCA.out
                have hk2 : k < us.length := by rw [HUL.out]; exact hkl
                have h2 : (us.map Prod.fst)[k]? = some r := by rw [h1]; exact hr
                rw [List.getElem?_map, List.getElem?_eq_getElem hk2] at h2
                refine ⟨us[k].2, ?_⟩
                rw [List.getElem?_eq_getElem hk2]
                simp only [Option.map_some, Option.some.injEq] at h2
                rw [← h2]
              have hpat : patS r.pat = some cs := compileS_pat (compileAll_mem HCA.out _ (List.mem_of_getElem? hu))
              obtain ⟨-, -, hpl⟩ := patS_bounds hpat
              have hbig : Below w.heap.size w wr := below_next HB1.out HI.out
              obtain ⟨_, _, hv', _, _, hcells⟩ := (RulesAt.below HV.out hbig).cells
              cases hv'
              obtain ⟨b0, o0, rfl, c0, c1, c2, c3⟩ := hcells k r hr
              have hst : StrsAt (fun _ => True) wr (.slice ta xs.length tc) xs := RowAt.weak (RowAt.below HTV.out (by omega) HI.out) (fun _ _ => trivial)
              obtain ⟨x, hx⟩ : ∃ x, xs[m]? = some x := ⟨xs[m], by simp [hlt]⟩
              obtain ⟨_, _, hv'', _, _, hcs⟩ := hst.shape
              cases hv''
              obtain ⟨tb, tof, rfl, _, hxc⟩ := hcs m x hx
              have hxs : x.size ≤ 512 := HX2.out x (List.mem_of_getElem? hx)
              have HW1 := Lib.hid (where_one (m := m) (x := bl x) hpat HXS.out (by rw [List.getElem?_map, hx]; rfl))
              have HW2 := Lib.hid (where_all (m := m) hpat HXS.out (by rw [List.length_map]; exact hlt))
              have HST := Lib.hid hst
              have HU := Lib.hid hu
              have HH := Lib.hid (ruleHits_eq true r cs (xs.map bl) (m + 1) true HD.out)
              obtain ⟨rp, rk, rd, rr⟩ := r
              simp only at c0 c1 c2 c3 hpl HW1 HW2
              clear hr hu hcells hbig hst hpat hx hcs
              have hwb : Below wr.heap.size wr (wr.alloc (.cells #[.string ⟨rp.toArray⟩, .bool rk, .bool rd, .bool rr] 30)) := (Below.refl _ _).alloc (Nat.le_refl _) _
              have HWB := Lib.hid hwb
              have hxc2 := hwb.cell (block_lt hxc)
              rw [hxc] at hxc2
              have HST2 := Lib.hid (show StrsAt (fun _ => True) (wr.alloc (.cells #[.string ⟨rp.toArray⟩, .bool rk, .bool rd, .bool rr] 30)) _ xs from RowAt.below HST.out (by omega) hwb)
              clear hwb hxc
              have k4 : ∀ w4 : World, Below (wr.alloc (.cells #[.string ⟨rp.toArray⟩, .bool rk, .bool rd, .bool rr] 30)).heap.size (wr.alloc (.cells #[.string ⟨rp.toArray⟩, .bool rk, .bool rd, .bool rr] 30)) w4 → w4.cell? ⟨wr.heap.size, 1, none⟩ = some (.bool rk) := fun w4 hb4 => (hb4.cell (p := ⟨wr.heap.size, 1, none⟩) (by simp)).trans (by simp)
              have K4 := Lib.hid k4
              clear k4
              cases rr
              · cases hmb : matchS cs (((xs.map bl).take (m + 1)).drop m)
                all_goals (
                  have HMB := Lib.hid hmb
                  clear hmb
                  cases rd
                  all_goals (
                    go_wp2_with (go_at_call 18; refine (r_match_o ⟨rp.toArray⟩ x _ _ (by simp [size_bl, bl_mk]; omega) (by omega) (by rw [bl_mk, HW1.out, HMB.out])).mono ?_; rintro e w4 ⟨rfl, hb4⟩; have c4 := K4.out _ hb4; have HB4 := Lib.hid hb4; clear hb4)
                    go_roundw
                    case rel => exact ⟨k + 1, _, by omega, rfl, by go_num, below_next HI.out (by first | exact below_next HWB.out HB4.out | exact HWB.out), by first | exact ign_miss HIN.out HU.out (HH.out.trans (by simp [HMB.out])) | exact ign_hit HIN.out HU.out (HH.out.trans (by simp [HMB.out]))⟩
                    case measure => simp [intOf]; omega))
              · cases hmb : matchS cs ((xs.map bl).take (m + 1))
                all_goals (
                  have HMB := Lib.hid hmb
                  clear hmb
                  have hul : (uniteL ((xs.map bl).take (m + 1))).length ≤ 65536 := unite_small hx1 HX2.out (m + 1)
                  cases rd
                  all_goals (
                    go_wp2_with (first
                      | (go_at_call 42; refine (r_unite_any (xs.take (m + 1)) (fun _ => True) _ _ (strs_take HST2.out (by omega)) (by simp; omega) (fun y hy => by have := HX2.out y (List.mem_of_mem_take hy); omega)).mono ?_; rintro e w3 ⟨rfl, rfl⟩; rw [List.map_take])
                      | (go_at_call 18; refine (r_match_o ⟨rp.toArray⟩ ⟨(uniteL ((xs.map bl).take (m + 1))).toArray⟩ _ _ (by simp [size_bl, bl_mk]; omega) (by rw [size_bl, bl_mk]; omega) (by rw [bl_mk, bl_mk, HW2.out, HMB.out])).mono ?_; rintro e w4 ⟨rfl, hb4⟩; have c4 := K4.out _ hb4; have HB4 := Lib.hid hb4; clear hb4))
                    go_roundw
                    case rel => exact ⟨k + 1, _, by omega, rfl, by go_num, below_next HI.out (by first | exact below_next HWB.out HB4.out | exact HWB.out), by first | exact ign_miss HIN.out HU.out (HH.out.trans (by simp [HMB.out])) | exact ign_hit HIN.out HU.out (HH.out.trans (by simp [HMB.out]))⟩
                    case measure => simp [intOf]; omega))
            · obtain rfl : k = rs.length := by omega
              have hat : ignAt true (xs.map bl) (m + 1) us false = b := by
                have := HIN.out
                unfold IgnIn at this
                rw [this, ← HUL.out, List.drop_length]; rfl
              have HAT := Lib.hid hat
              clear hat
              cases b
              · go_wp2_with fail
                go_roundw
                case rel =>
                  refine ⟨m + 1, by omega, by go_num, HI.out, fun hb => ?_, fun hb => by cases hb⟩
                  have := HF.out.1 rfl
                  rw [this, List.length_map, HSTEP.out, HAT.out]; rfl
                case measure => simp [intOf]; omega
              · go_wp2_with fail
                go_ret
                refine ⟨ret_bool ?_, below_next HB1.out HI.out⟩
                have := HF.out.1 rfl
                rw [HFIN.out, this, List.length_map, HSTEP.out, HAT.out]; rfl
    · have e1 : decide ((m : Int) + 1 ≤ (xs.length : Int)) = false := by simp; omega
      go_wp2_with fail
      go_ret
      refine ⟨ret_bool ?_, below_next HB1.out HI.out⟩
      have := HF.out.1 rfl
      rw [List.length_map, show xs.length - m = 0 by omega] at this
      rw [HFIN.out, List.length_map, this]; rfl

end Go.Proofs.YtlipekkiaiaplaaDoor
