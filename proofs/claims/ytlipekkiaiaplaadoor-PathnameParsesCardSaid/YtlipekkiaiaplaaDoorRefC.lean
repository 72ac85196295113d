/- Contracts of the specification of chapter 18: rank, Compare, Within, Clean, Join. -/
import Derived.Test.YtlipekkiaiaplaaDoorRefB
import Derived.Test.YtlipekkiaiaplaaDoorLaw1
namespace Go.Proofs.YtlipekkiaiaplaaDoor
open Go.RowKit

theorem r_rank_any (c : Int) (w : World) (h0 : 0 ≤ c) (h1 : c ≤ 255) : Calls Tryd.prog 53 #[.int .u8 c] w fun e w' => e = .returned (.int .i64 (rankI c)) ∧ w = w' := by
  by_cases h : c = 47
  · subst h
    go_enter Tryd.func53, Tryd.ntmps53
    go_wp2
    go_ret
    exact ⟨rfl, rfl⟩
  · have hr : rankI c = c := if_neg h
    have HR := Lib.hid hr
    clear hr
    have h2 : (c == 47) = false := by simpa using h
    go_enter Tryd.func53, Tryd.ntmps53
    go_wp2
    go_ret
    exact ⟨ret_int HR.out.symm, rfl⟩
theorem r_rank_is (c : UInt8) (r : Int) (w : World) (h : rankL c = r) : Calls Tryd.prog 53 #[.int .u8 c.toNat] w fun e w' => e = .returned (.int .i64 r) ∧ w = w' := by
  rw [← h, ← rank_int]; exact r_rank_any _ w (by omega) (by have := c.toNat_lt; omega)
theorem rankI_bd (c : UInt8) : -1 ≤ rankL c ∧ rankL c ≤ 255 := by
  have := c.toNat_lt
  unfold rankL; split <;> omega

set_option maxHeartbeats 1000000 in
theorem r_compare_any (a b : ByteArray) (w : World) (ha : a.size ≤ 65536) :
    Calls Tryd.prog 26 #[.string a, .string b] w fun e w' => e = .returned (.int .i64 (cmpL (bl a) (bl b))) ∧ Below w.heap.size w w' := by
  go_enter Tryd.func26, Tryd.ntmps26
  go_wp2_with fail
  go_loopw [5] (fun i wr => ∃ k : Nat, k ≤ a.size ∧ k ≤ b.size ∧ i = .int .i64 k ∧ Below w.heap.size w wr ∧ cmpL (bl a) (bl b) = cmpL ((bl a).drop k) ((bl b).drop k)) (fun i _ => a.size - (intOf i).toNat)
  case atStart => exact ⟨0, Nat.zero_le _, Nat.zero_le _, rfl, Below.refl _ _, rfl⟩
  case round =>
    obtain ⟨k, hk1, hk2, rfl, hbw, hc⟩ := hrel
    have HC := Lib.hid hc
    have HB := Lib.hid hbw
    clear hc hbw
    by_cases hla : k < a.size
    · by_cases hlb : k < b.size
      · have i1 : (k : Int) < (a.size : Int) := by omega
        have i2 : (k : Int) < (b.size : Int) := by omega
        have hla' : k < (bl a).length := by rw [← size_bl]; exact hla
        have hlb' : k < (bl b).length := by rw [← size_bl]; exact hlb
        have hr1 := (a[k]).toNat_lt
        have hr2 := (b[k]).toNat_lt
        have hxa : rankL (bl a)[k] = rankI (a[k].toNat : Int) := by rw [rank_int]; exact congrArg rankL (byte_bl a k hla).symm
        have hyb : rankL (bl b)[k] = rankI (b[k].toNat : Int) := by rw [rank_int]; exact congrArg rankL (byte_bl b k hlb).symm
        have HXA := Lib.hid hxa
        have HYB := Lib.hid hyb
        clear hxa hyb
        rcases Int.lt_trichotomy (rankI (a[k].toNat : Int)) (rankI (b[k].toNat : Int)) with hxy | hxy | hxy
        · have HXY := Lib.hid hxy
          go_wp2_with fail
          go_quiet ((go_at_call 53; refine quietL (r_rank_any _ _ (by omega) (by omega))))
          go_wp2_with fail
          go_ret
          refine ⟨ret_int ?_, below_draws HB.out _⟩
          have hne : (bl a)[k] ≠ (bl b)[k] := by intro e; have := HXY.out; rw [← HXA.out, ← HYB.out, e] at this; omega
          rw [HC.out, cmp_stop hla' hlb' hne, HXA.out, HYB.out, Lib.compareInt, if_pos HXY.out]
        · have e1 : ¬ rankI (a[k].toNat : Int) < rankI (b[k].toNat : Int) := by omega
          have e2 : ¬ rankI (b[k].toNat : Int) < rankI (a[k].toNat : Int) := by omega
          have HXY := Lib.hid hxy
          clear hxy
          go_wp2_with fail
          go_quiet ((go_at_call 53; refine quietL (r_rank_any _ _ (by omega) (by omega))))
          go_wp2_with fail
          have hW : ∃ W, W = wr.drewN nq ∧ Below w.heap.size w W := ⟨_, rfl, below_draws HB.out nq⟩
          obtain ⟨W, hWe, hWb⟩ := hW
          rw [← hWe]
          have HB2 := Lib.hid hWb
          clear hWe hWb HB
          go_quiet ((go_at_call 53; refine quietL (r_rank_any _ _ (by omega) (by omega))))
          go_wp2_with fail
          go_roundw
          case rel =>
            refine ⟨k + 1, by omega, by omega, by go_num, below_draws HB2.out _, ?_⟩
            rw [HC.out]
            exact cmp_take hla' hlb' (rankL_inj (HXA.out.trans (HXY.out.trans HYB.out.symm)))
          case measure => simp [intOf]; omega
        · have e1 : ¬ rankI (a[k].toNat : Int) < rankI (b[k].toNat : Int) := by omega
          have HXY := Lib.hid hxy
          go_wp2_with fail
          go_quiet ((go_at_call 53; refine quietL (r_rank_any _ _ (by omega) (by omega))))
          go_wp2_with fail
          have hW : ∃ W, W = wr.drewN nq ∧ Below w.heap.size w W := ⟨_, rfl, below_draws HB.out nq⟩
          obtain ⟨W, hWe, hWb⟩ := hW
          rw [← hWe]
          have HB2 := Lib.hid hWb
          clear hWe hWb HB
          go_quiet ((go_at_call 53; refine quietL (r_rank_any _ _ (by omega) (by omega))))
          go_wp2_with fail
          go_ret
          refine ⟨ret_int ?_, below_draws HB2.out _⟩
          have hne : (bl a)[k] ≠ (bl b)[k] := by intro e; have := HXY.out; rw [← HXA.out, ← HYB.out, e] at this; omega
          rw [HC.out, cmp_stop hla' hlb' hne, HXA.out, HYB.out, Lib.compareInt, if_neg (by have := HXY.out; omega), if_pos HXY.out]
      · obtain rfl : k = b.size := by omega
        have i2 : decide ((b.size : Int) < (b.size : Int)) = false := by simp
        have i3 : (b.size : Int) < (a.size : Int) := by omega
        go_wp2_with fail
        go_ret
        refine ⟨ret_int ?_, HB.out⟩
        rw [HC.out, cmp_end (by rw [← size_bl]; omega) (by rw [← size_bl]; exact Nat.le_refl _) (.inr (by rw [← size_bl])), ← size_bl, ← size_bl, Lib.compareInt, if_neg (by omega), if_pos (by omega)]
    · obtain rfl : k = a.size := by omega
      rcases Nat.lt_or_ge a.size b.size with hlb | hlb
      · have i3 : (a.size : Int) < (b.size : Int) := by omega
        go_wp2_with fail
        go_ret
        refine ⟨ret_int ?_, HB.out⟩
        rw [HC.out, cmp_end (by rw [← size_bl]; exact Nat.le_refl _) (by rw [← size_bl]; omega) (.inl (by rw [← size_bl])), ← size_bl, ← size_bl, Lib.compareInt, if_pos (by omega)]
      · obtain heq : a.size = b.size := by omega
        have HEQ := Lib.hid heq
        have i3 : ¬ (a.size : Int) < (b.size : Int) := by omega
        have i4 : ¬ (b.size : Int) < (a.size : Int) := by omega
        clear heq
        go_wp2_with fail
        go_ret
        refine ⟨ret_int ?_, HB.out⟩
        rw [HC.out, cmp_end (by rw [← size_bl]; exact Nat.le_refl _) (by rw [← size_bl]; omega) (.inl (by rw [← size_bl])), ← size_bl, ← size_bl, Lib.compareInt, if_neg (by omega), if_neg (by omega)]

theorem r_valid_is (s : ByteArray) (o : Bool) (w : World) (hs : s.size ≤ 16777216) (h : validP (bl s) = o) : Calls Tryd.prog 17 #[.string s] w fun e w' => e = .returned (.bool o) ∧ Below w.heap.size w w' := by rw [← h]; exact r_valid_any s w hs
theorem prefix_iff {p d : ByteArray} (h : d.size < p.size) : Lib.hasPrefix (bl p) (bl d ++ [47]) = (((p.extract 0 d.size).toList == d.toList) && ((p[d.size].toNat : Int) == 47)) := by
  have h2 : d.size < (bl p).length := by rw [← size_bl]; exact h
  have e1 : bl p = (bl p).take d.size ++ (bl p)[d.size] :: (bl p).drop (d.size + 1) := by simp
  rw [toList_bl, toList_bl, bl_extract, List.drop_zero, byte_bl p d.size h]
  have h47 : (((bl p)[d.size].toNat : Int) == 47) = ((bl p)[d.size] == 47) := by
    rw [Bool.eq_iff_iff, beq_iff_eq, beq_iff_eq]
    constructor
    · exact byte47 _
    · intro e; rw [e]; rfl
  rw [h47]
  generalize (bl p)[d.size] = c at *
  have hl : ((bl p).take d.size).length = (bl d).length := by rw [List.length_take, ← size_bl, ← size_bl]; omega
  generalize (bl p).take d.size = q at *
  generalize (bl p).drop (d.size + 1) = r at *
  rw [e1]
  unfold Lib.hasPrefix
  rw [Bool.eq_iff_iff, List.isPrefixOf_iff_prefix, Bool.and_eq_true, beq_iff_eq, beq_iff_eq]
  constructor
  · rintro ⟨s, hs⟩
    rw [List.append_assoc] at hs
    have := List.append_inj hs hl.symm
    refine ⟨this.1.symm, ?_⟩
    have h3 := this.2
    simp at h3
    exact h3.1.symm
  · rintro ⟨rfl, rfl⟩
    exact ⟨r, by simp⟩
set_option maxHeartbeats 1000000 in
theorem r_within_any (d p : ByteArray) (w : World) (hd : d.size ≤ 65536) (hp : p.size ≤ 65536) :
    Calls Tryd.prog 28 #[.string d, .string p] w fun e w' => e = .returned (.bool (withinB (bl d) (bl p))) ∧ Below w.heap.size w w' := by
  cases hv : validP (bl p)
  · have HV := Lib.hid hv
    clear hv
    go_enter Tryd.func28, Tryd.ntmps28
    go_wp2_with fail
    refine (r_valid_is p _ _ (by omega) HV.out).mono ?_
    rintro e w1 ⟨rfl, hb1⟩
    have HB1 := Lib.hid hb1
    clear hb1
    go_wp2_with fail
    go_ret
    exact ⟨ret_bool (by simp [withinB, HV.out]), HB1.out⟩
  · have HV := Lib.hid hv
    clear hv
    by_cases h0 : bl d = []
    · have e0 : d.toList.isEmpty = true := by rw [toList_bl, h0]; rfl
      have es : d.size = 0 := by rw [size_bl, h0]; rfl
      have es2 : ((d.size : Int) == 0) = true := by rw [es]; rfl
      have H0 := Lib.hid h0
      clear h0 es
      go_enter Tryd.func28, Tryd.ntmps28
      go_wp2_with fail
      refine (r_valid_is p _ _ (by omega) HV.out).mono ?_
      rintro e w1 ⟨rfl, hb1⟩
      have HB1 := Lib.hid hb1
      clear hb1
      go_wp2_with fail
      go_ret
      exact ⟨ret_bool (by simp [withinB, HV.out, H0.out]), HB1.out⟩
    · have e0 : d.toList.isEmpty = false := by rw [toList_bl]; simpa using h0
      have es2 : ((d.size : Int) == 0) = false := by
        rw [beq_eq_false_iff_ne]; intro e; apply h0; apply List.eq_nil_of_length_eq_zero; rw [← size_bl]; omega
      have hI : (bl d).isEmpty = false := by simpa using h0
      have HI := Lib.hid hI
      clear h0 hI
      cases hvd : validP (bl d)
      · have HVD := Lib.hid hvd
        clear hvd
        have hw : withinB (bl d) (bl p) = false := by
          unfold withinB; rw [HV.out, HI.out, HVD.out]
          simp; intro e; rw [e, HV.out] at HVD; exact absurd HVD.out (by simp)
        have HW := Lib.hid hw
        clear hw
        go_enter Tryd.func28, Tryd.ntmps28
        go_wp2_with fail
        refine (r_valid_is p _ _ (by omega) HV.out).mono ?_
        rintro e w1 ⟨rfl, hb1⟩
        have HB1 := Lib.hid hb1
        clear hb1
        go_wp2_with fail
        refine (r_valid_is d _ _ (by omega) HVD.out).mono ?_
        rintro e w2 ⟨rfl, hb2⟩
        have HB2 := Lib.hid hb2
        clear hb2
        go_wp2_with fail
        go_ret
        exact ⟨ret_bool HW.out.symm, below_next HB1.out HB2.out⟩
      · have HVD := Lib.hid hvd
        clear hvd
        have hw : withinB (bl d) (bl p) = (decide (bl d = bl p) || Lib.hasPrefix (bl p) (bl d ++ [47])) := by
          unfold withinB; rw [HV.out, HI.out, HVD.out]; simp
        have HW := Lib.hid hw
        clear hw
        go_enter Tryd.func28, Tryd.ntmps28
        go_wp2_with fail
        refine (r_valid_is p _ _ (by omega) HV.out).mono ?_
        rintro e w1 ⟨rfl, hb1⟩
        have HB1 := Lib.hid hb1
        clear hb1
        go_wp2_with fail
        refine (r_valid_is d _ _ (by omega) HVD.out).mono ?_
        rintro e w2 ⟨rfl, hb2⟩
        have HB2 := Lib.hid hb2
        clear hb2
        go_wp2_with fail
        all_goals (go_ret; refine ⟨ret_bool ?_, below_next HB1.out HB2.out⟩; rw [HW.out])
        · have : bl d = bl p := by rw [← toList_bl, ← toList_bl]; symm; assumption
          simp [this]
        · have hlt : d.size < p.size := by assumption
          have hnd : ¬ p.toList = d.toList := by assumption
          have hex : (p.extract 0 d.size).toList = d.toList := by assumption
          have hne : ¬ bl d = bl p := by rw [← toList_bl, ← toList_bl]; exact fun e => hnd e.symm
          rw [prefix_iff hlt, hex]
          simp [hne, hnd]
        · have hlt : d.size < p.size := by assumption
          have hnd : ¬ p.toList = d.toList := by assumption
          have hex : ¬ (p.extract 0 d.size).toList = d.toList := by assumption
          have hne : ¬ bl d = bl p := by rw [← toList_bl, ← toList_bl]; exact fun e => hnd e.symm
          have h1 : (p.toList == d.toList) = false := by simpa using hnd
          have h2 : ((p.extract 0 d.size).toList == d.toList) = false := by simpa using hex
          rw [prefix_iff hlt, h1, h2]
          simp [hne]
        · have hlt : ¬ d.size < p.size := by assumption
          have hnd : ¬ p.toList = d.toList := by assumption
          have hne : ¬ bl d = bl p := by rw [← toList_bl, ← toList_bl]; exact fun e => hnd e.symm
          have hpre : Lib.hasPrefix (bl p) (bl d ++ [47]) = false := by
            cases h : Lib.hasPrefix (bl p) (bl d ++ [47])
            · rfl
            · unfold Lib.hasPrefix at h
              obtain ⟨t, ht⟩ := List.isPrefixOf_iff_prefix.1 h
              have := congrArg List.length ht
              rw [List.length_append, List.length_append, ← size_bl, ← size_bl] at this
              simp at this; omega
          simp [hne, hnd, hpre]

set_option maxHeartbeats 1000000 in
theorem r_clean_any (s : ByteArray) (w : World) (hs : s.size ≤ 3000) :
    Calls Tryd.prog 30 #[.string s] w fun e w' => e = .returned (cleanV (cleanL (bl s))) ∧ Below w.heap.size w w' := by
  go_enter Tryd.func30, Tryd.ntmps30
  go_wp2_with fail
  refine (r_divide_any s w (by omega)).mono ?_
  rintro e w1 ⟨dv, xs, rfl, hx, hdv, hb0⟩
  obtain ⟨da, dcap, rfl, hdc, hdm, hdx⟩ := hdv.shape
  have hxl : xs.length ≤ 3001 := by
    have h1 : (splitL 47 (bl s)).length = xs.length := by rw [← hx]; simp
    have h2 := splitL_len_le 47 (bl s)
    rw [← size_bl] at h2
    omega
  have HX := Lib.hid hx
  have HDX := Lib.hid hdx
  have HB0 := Lib.hid hb0
  clear hx hdv hdx hb0
  unfold maxLen at hdm
  go_wp2_with fail
  go_loopw [4, 10] (fun v i wr => ∃ (k : Nat) (ys : List ByteArray), k ≤ xs.length ∧ ys.length ≤ k ∧ i = .int .i64 k ∧ wr.ownsRow w1.heap.size 9 1 v ys.length (ys.map Value.string) ∧ (∀ y ∈ ys, y ∈ xs) ∧
      Below w1.heap.size w1 wr ∧ cleanParts (splitL 47 (bl s)) [] = cleanParts ((xs.map bl).drop k) (ys.map bl)) (fun _ i _ => xs.length - (intOf i).toNat)
  case atStart => exact ⟨0, [], Nat.zero_le _, Nat.zero_le _, rfl, World.ownsRow_nil _ _ _ _, by simp, Below.refl _ _, by rw [HX.out]; rfl⟩
  case round =>
    obtain ⟨k, ys, hk, hyk, rfl, hown, hmem, hb, hc⟩ := hrel
    have HC := Lib.hid hc
    have HB := Lib.hid hb
    have HO := Lib.hid hown
    have HM := Lib.hid hmem
    have hsz : w1.heap.size ≤ wr.heap.size := hb.size
    by_cases hlt : k < xs.length
    · obtain ⟨x, hx⟩ : ∃ x, xs[k]? = some x := ⟨xs[k], by simp [hlt]⟩
      obtain ⟨b, o, rfl, _, hcl⟩ := HDX.out k x hx
      have hcell : wr.cell? ⟨b, o + k, none⟩ = some (.string x) := (hb.cell (p := ⟨b, o + k, none⟩) (block_lt hcl)).trans hcl
      clear hcl
      have HK := Lib.hid hx
      clear hx hb hc hown hmem
      have HP := Lib.hid (show (xs.map bl)[k]? = some (bl x) by simp [HK.out])
      by_cases h0 : bl x = []
      · have e0 : x.toList.isEmpty = true := by rw [toList_bl, h0]; rfl
        have H0 := Lib.hid h0
        clear h0
        go_wp2_with fail
        go_roundw
        case rel => exact ⟨k + 1, ys, by omega, by omega, by go_num, HO.out, HM.out, HB.out, by rw [HC.out]; exact clean_skip HP.out (.inl H0.out)⟩
        case measure => simp [intOf]; omega
      · have e0 : x.toList.isEmpty = false := by rw [toList_bl]; simpa using h0
        have H0 := Lib.hid h0
        clear h0
        by_cases h1 : bl x = [46]
        · have e1 : (x.toList == [46]) = true := by rw [toList_bl, h1]; rfl
          have H1 := Lib.hid h1
          clear h1
          go_wp2_with fail
          go_roundw
          case rel => exact ⟨k + 1, ys, by omega, by omega, by go_num, HO.out, HM.out, HB.out, by rw [HC.out]; exact clean_skip HP.out (.inr H1.out)⟩
          case measure => simp [intOf]; omega
        · have e1 : (x.toList == [46]) = false := by rw [toList_bl]; simpa using h1
          have H1 := Lib.hid h1
          clear h1
          by_cases h2 : bl x = [46, 46]
          · have e2 : (x.toList == [46, 46]) = true := by rw [toList_bl, h2]; rfl
            have H2 := Lib.hid h2
            clear h2
            rcases List.eq_nil_or_concat ys with rfl | ⟨zs, z, rfl⟩
            · obtain ⟨a4, c4, hv, hn4, hm4⟩ := owns_shape HO.out
              subst hv
              go_wp2_with fail
              go_ret2
              refine ⟨?_, below_next HB0.out HB.out⟩
              have hcl : cleanL (bl s) = none := by unfold cleanL; rw [HC.out, List.map_nil, clean_out HP.out H2.out]
              rw [hcl]; rfl
            · have hown := HO.out
              rw [List.length_concat] at hyk
              simp only [List.concat_eq_append, List.length_append, List.length_cons, List.length_nil, List.map_append, Nat.zero_add] at hown
              obtain ⟨g, c4, rfl, hn4, hm4, hpop⟩ := owns_pop (by simp) hown
              unfold maxLen at hm4
              have HPop := Lib.hid hpop
              clear hpop hown HO
              go_wp2_with fail
              go_roundw
              case rel =>
                refine ⟨k + 1, zs, by omega, by omega, by go_num, ?_, fun y hy => HM.out y (by simp [hy]), HB.out, ?_⟩
                · have := HPop.out; simpa using this
                · rw [HC.out, clean_up HP.out H2.out (by simp)]; simp
              case measure => simp [intOf]; omega
          · have e2 : (x.toList == [46, 46]) = false := by rw [toList_bl]; simpa using h2
            have H2 := Lib.hid h2
            clear h2
            go_wp2_with (at_builtin; go_must (refine wpList_app1 Tryd.appStrings rfl _ _ rfl w1.heap.size u4 ys.length (ys.map Value.string) rfl wr [.string x] _ rfl rfl (by simp; rfl) HO.out (by omega) hsz ?_); intro v' w1 hown1 hgrow1 _)
            have HO1 := Lib.hid hown1
            have HG1 := Lib.hid hgrow1
            clear hown1 hgrow1
            go_wp2_with fail
            go_roundw
            case rel =>
              refine ⟨k + 1, ys ++ [x], by omega, by simp; omega, by go_num, ?_, ?_, below_grown HB.out HO.out HG1.out (Nat.le_refl _) hsz, ?_⟩
              · have := HO1.out; simpa using this
              · intro y hy
                rcases List.mem_append.1 hy with h | h
                · exact HM.out y h
                · simp at h; subst h; exact List.mem_of_getElem? HK.out
              · rw [HC.out, clean_add HP.out H0.out H1.out H2.out]; simp
            case measure => simp [intOf]; omega
    · clear hb hc hown hmem
      have hcl : cleanParts (splitL 47 (bl s)) [] = some (ys.map bl) := by
        rw [HC.out, List.drop_eq_nil_of_le (by simp; omega)]; rfl
      have HCL := Lib.hid hcl
      clear hcl
      have hys : ∀ y ∈ ys, y.size ≤ 65536 := fun y hy => by
        obtain ⟨j, hj⟩ := List.getElem?_of_mem (HM.out y hy)
        have := part_size HX.out hj
        omega
      have hul : (⟨(uniteL (ys.map bl)).toArray⟩ : ByteArray).size ≤ 16777216 := by
        rw [size_bl, bl_mk]
        have h1 := uniteL_len (ys.map bl) 3000 (fun p hp => by
          obtain ⟨y, hy, rfl⟩ := List.mem_map.1 hp
          obtain ⟨j, hj⟩ := List.getElem?_of_mem (HM.out y hy)
          have := part_size HX.out hj
          rw [← size_bl]; omega)
        rw [List.length_map] at h1
        have h2 : ys.length * (3000 + 1) ≤ 3001 * (3000 + 1) := Nat.mul_le_mul_right _ (by omega)
        omega
      have HUL := Lib.hid hul
      have HYS := Lib.hid hys
      clear hys hul
      have hV := fun (W : World) (hb : Below wr.heap.size wr W) => r_unite_any ys (fun _ => True) u4 W (RowAt.below ((row_of_owns HO.out).weak (fun _ _ => trivial)) (by omega) hb) (by omega) HYS.out
      have HV := Lib.hid hV
      clear hV
      go_wp2_with fail
      refine (HV.out wr (Below.refl _ _)).mono ?_
      rintro e w' ⟨rfl, rfl⟩
      go_wp2_with fail
      cases hval : validP (uniteL (ys.map bl))
      · have HVAL := Lib.hid (show validP (bl ⟨(uniteL (ys.map bl)).toArray⟩) = false by rw [bl_mk]; exact hval)
        have HVAL' := Lib.hid hval
        clear hval
        refine (r_valid_is _ _ _ HUL.out HVAL.out).mono ?_
        rintro e w2 ⟨rfl, hb2⟩
        have HB2 := Lib.hid hb2
        clear hb2
        go_wp2_with fail
        go_ret2
        refine ⟨?_, below_next (below_next HB0.out HB.out) HB2.out⟩
        have : cleanL (bl s) = none := by unfold cleanL; rw [HCL.out]; simp [HVAL'.out]
        rw [this]; rfl
      · have HVAL := Lib.hid (show validP (bl ⟨(uniteL (ys.map bl)).toArray⟩) = true by rw [bl_mk]; exact hval)
        have HVAL' := Lib.hid hval
        clear hval
        refine (r_valid_is _ _ _ HUL.out HVAL.out).mono ?_
        rintro e w2 ⟨rfl, hb2⟩
        have HB2 := Lib.hid hb2
        clear hb2
        go_wp2_with fail
        refine (HV.out w2 HB2.out).mono ?_
        rintro e w' ⟨rfl, rfl⟩
        go_wp2_with fail
        go_ret2
        refine ⟨?_, below_next (below_next HB0.out HB.out) HB2.out⟩
        have : cleanL (bl s) = some (uniteL (ys.map bl)) := by unfold cleanL; rw [HCL.out]; simp [HVAL'.out]
        rw [this]; rfl

set_option maxHeartbeats 1000000 in
theorem r_join_any (xs : List ByteArray) (S : Nat → Prop) (v : Value) (w : World) (hv : StrsAt S w v xs) (hn : xs.length ≤ 65536) (hsz : ∀ x ∈ xs, x.size ≤ 65536) :
    Calls Tryd.prog 32 #[v] w fun e w' => e = .returned (joinV (joinL (xs.map bl))) ∧ Below w.heap.size w w' := by
  have HV := Lib.hid hv
  have HS := Lib.hid hsz
  obtain ⟨a, cap, rfl, hc, hcm, hcell⟩ := hv.shape
  have HC := Lib.hid hcell
  clear hv hsz hcell
  unfold maxLen at hcm
  go_enter Tryd.func32, Tryd.ntmps32
  go_wp2_with fail
  go_loopw [8] (fun i wr => ∃ k : Nat, k ≤ xs.length ∧ i = .int .i64 k ∧ Below w.heap.size w wr ∧ ∀ (j : Nat) x, j < k → xs[j]? = some x → compB (bl x) = true) (fun i _ => xs.length - (intOf i).toNat)
  case atStart => exact ⟨0, Nat.zero_le _, rfl, Below.refl _ _, fun j x hj => by omega⟩
  case round =>
    obtain ⟨k, hk, rfl, hb, hall⟩ := hrel
    have HA := Lib.hid hall
    have HB := Lib.hid hb
    clear hall hb
    by_cases hlt : k < xs.length
    · obtain ⟨x, hx⟩ : ∃ x, xs[k]? = some x := ⟨xs[k], by simp [hlt]⟩
      obtain ⟨b, o, rfl, _, hcl⟩ := HC.out k x hx
      have hcell : wr.cell? ⟨b, o + k, none⟩ = some (.string x) := (HB.out.cell (p := ⟨b, o + k, none⟩) (block_lt hcl)).trans hcl
      have HK := Lib.hid hx
      have hxs : x.size ≤ 65536 := HS.out x (List.mem_of_getElem? hx)
      clear hx hcl
      cases hc : compB (bl x)
      · have HCc := Lib.hid hc
        clear hc
        go_wp2_with (go_at_call 47; refine (r_component_any x wr (by omega)).mono ?_; rintro e w' ⟨rfl, hb2⟩; rw [HCc.out])
        go_ret2
        refine ⟨?_, below_next HB.out hb2⟩
        have h2 : (xs.map bl).all compB = false := by
          rw [List.all_map, List.all_eq_false]; exact ⟨x, List.mem_of_getElem? HK.out, by simp [HCc.out]⟩
        have h3 : xs.map bl ≠ [] := by intro e; simp at e; simp [e] at hlt
        rw [joinL, if_neg h3, if_pos h2]; rfl
      · have HCc := Lib.hid hc
        clear hc
        go_wp2_with (go_at_call 47; refine (r_component_any x wr (by omega)).mono ?_; rintro e w' ⟨rfl, hb2⟩; rw [HCc.out])
        go_roundw
        case rel =>
          refine ⟨k + 1, by omega, by go_num, below_next HB.out hb2, fun j x' hj hx' => ?_⟩
          rcases Nat.lt_or_ge j k with h | h
          · exact HA.out j x' h hx'
          · obtain rfl : j = k := by omega
            have := HK.out.symm.trans hx'
            cases this
            exact HCc.out
        case measure => simp [intOf]; omega
    · have hall2 : (xs.map bl).all compB = true := by
        rw [List.all_map, List.all_eq_true]
        intro x hm
        obtain ⟨j, hj, rfl⟩ := List.getElem_of_mem hm
        exact HA.out j _ (by omega) (by simp)
      have H2 := Lib.hid hall2
      clear hall2
      by_cases h0 : xs.length = 0
      · have e0 : ((xs.length : Int) == 0) = true := by simpa using h0
        have hnil : xs = [] := List.eq_nil_of_length_eq_zero h0
        have HN := Lib.hid hnil
        clear hnil h0
        go_wp2_with fail
        go_ret2
        refine ⟨?_, HB.out⟩
        rw [HN.out]; rfl
      · have e0 : ((xs.length : Int) == 0) = false := by simpa using h0
        have h3 : xs.map bl ≠ [] := by intro e; simp at e; simp [e] at h0
        have H3 := Lib.hid h3
        clear h3 h0
        have hU := r_unite_any xs S (.slice a xs.length cap) wr (RowAt.below HV.out (by omega) HB.out) hn HS.out
        have HU := Lib.hid hU
        clear hU
        have hsize : (⟨(uniteL (xs.map bl)).toArray⟩ : ByteArray).size = (uniteL (xs.map bl)).length := by rw [size_bl, bl_mk]
        rcases Nat.lt_or_ge 16 xs.length with h16 | h16
        · go_wp2_with fail
          go_ret2
          refine ⟨?_, HB.out⟩
          rw [joinL, if_neg H3.out, if_neg (by rw [H2.out]; simp), if_pos (by rw [List.length_map]; omega)]; rfl
        · go_wp2_with fail
          refine HU.out.mono ?_
          rintro e w' ⟨rfl, rfl⟩
          rcases Nat.lt_or_ge 512 (uniteL (xs.map bl)).length with h5 | h5
          · have h5' : 512 < (⟨(uniteL (xs.map bl)).toArray⟩ : ByteArray).size := by rw [hsize]; exact h5
            clear hsize
            go_wp2_with fail
            go_ret2
            refine ⟨?_, HB.out⟩
            rw [joinL, if_neg H3.out, if_neg (by rw [H2.out]; simp), if_pos (by rw [List.length_map]; omega)]; rfl
          · have h5' : (⟨(uniteL (xs.map bl)).toArray⟩ : ByteArray).size ≤ 512 := by rw [hsize]; exact h5
            clear hsize
            go_wp2_with fail
            refine HU.out.mono ?_
            rintro e w' ⟨rfl, rfl⟩
            go_wp2_with fail
            go_ret2
            refine ⟨?_, HB.out⟩
            rw [joinL, if_neg H3.out, if_neg (by rw [H2.out]; simp), if_neg (by rw [List.length_map]; omega)]; rfl

end Go.Proofs.YtlipekkiaiaplaaDoor
