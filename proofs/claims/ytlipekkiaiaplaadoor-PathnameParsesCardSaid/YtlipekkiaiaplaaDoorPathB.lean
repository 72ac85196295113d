/- Contracts of package pathname: Valid, Compare. -/
import Derived.Test.YtlipekkiaiaplaaDoorPathA
import Derived.Deep.QuietTactic
import Derived.BigQuiet
namespace Go.Proofs.YtlipekkiaiaplaaDoor
open Go.RowKit

set_option maxHeartbeats 400000 in
theorem valid_any (s : ByteArray) (w : World) (he : Env w) :
    Calls Tryd.prog 23 #[.string s] w fun e w' => e = .returned (.bool (validP (bl s))) ∧ Below w.heap.size w w' := by
  go_enter Tryd.func23, Tryd.ntmps23
  go_wp2_with fail
  refine (split_calls s w he).mono ?_
  rintro e w' (⟨hv, v, xs, rfl, -, -, hb⟩ | ⟨hv, rfl, hb⟩)
  · go_wp2
    go_ret
    exact ⟨ret_bool (by rw [hv]), hb⟩
  · go_wp2
    go_ret
    exact ⟨ret_bool (by rw [hv]), hb⟩

def rankI (c : Int) : Int := if c = 47 then -1 else c
theorem rank_any (c : Int) (w : World) (h0 : 0 ≤ c) (h1 : c ≤ 255) : Calls Tryd.prog 51 #[.int .u8 c] w fun e w' => e = .returned (.int .i64 (rankI c)) ∧ w = w' := by
  by_cases h : c = 47
  · subst h
    go_enter Tryd.func51, Tryd.ntmps51
    go_wp2
    go_ret
    exact ⟨rfl, rfl⟩
  · have hr : rankI c = c := if_neg h
    have HR := Lib.hid hr
    clear hr
    have h2 : (c == 47) = false := by simpa using h
    go_enter Tryd.func51, Tryd.ntmps51
    go_wp2
    go_ret
    exact ⟨ret_int HR.out.symm, rfl⟩

theorem cmp_len (l r : List UInt8) (h : l = [] ∨ r = []) : cmpL l r = Lib.compareInt (l.length : Int) r.length := by
  rcases h with rfl | rfl
  · cases r
    · simp [cmpL, Lib.compareInt]
    · rw [cmpL, Lib.compareInt, if_pos (by simp <;> omega)]
  · cases l
    · simp [cmpL, Lib.compareInt]
    · rw [cmpL, Lib.compareInt, if_neg (by simp <;> omega), if_pos (by simp <;> omega)]
theorem compareInt_sub (x y : Int) (k : Int) : Lib.compareInt (x - k) (y - k) = Lib.compareInt x y := by
  unfold Lib.compareInt
  have h1 : (x - k < y - k) ↔ (x < y) := by omega
  have h2 : (x - k > y - k) ↔ (x > y) := by omega
  simp only [h1, h2]
theorem cmp_end {l r : List UInt8} {k : Nat} (hk1 : k ≤ l.length) (hk2 : k ≤ r.length) (h : k = l.length ∨ k = r.length) : cmpL (l.drop k) (r.drop k) = Lib.compareInt (l.length : Int) r.length := by
  rw [cmp_len _ _ (by rcases h with rfl | rfl <;> simp)]
  rw [List.length_drop, List.length_drop, ← compareInt_sub (l.length : Int) r.length k]
  congr 1 <;> omega
theorem cmp_take {l r : List UInt8} {k : Nat} (hl : k < l.length) (hr : k < r.length) (h : l[k] = r[k]) : cmpL (l.drop k) (r.drop k) = cmpL (l.drop (k + 1)) (r.drop (k + 1)) := by
  rw [List.drop_eq_getElem_cons hl, List.drop_eq_getElem_cons hr, cmpL, if_pos h]
theorem cmp_stop {l r : List UInt8} {k : Nat} (hl : k < l.length) (hr : k < r.length) (h : l[k] ≠ r[k]) : cmpL (l.drop k) (r.drop k) = Lib.compareInt (rankL l[k]) (rankL r[k]) := by
  rw [List.drop_eq_getElem_cons hl, List.drop_eq_getElem_cons hr, cmpL, if_neg h]
theorem byte_bl (s : ByteArray) (k : Nat) (h : k < s.size) : s[k] = (bl s)[k]'(by rw [← size_bl]; exact h) := by
  exact (Array.getElem_toList (xs := s.data) h).symm
theorem rank_int (c : UInt8) : rankI c.toNat = rankL c := by
  unfold rankI rankL
  by_cases h : c = 47
  · subst h; rfl
  · rw [if_neg h, if_neg]
    intro e; apply h; apply UInt8.toNat_inj.1; have : c.toNat = 47 := by omega
    rw [this]; rfl

set_option maxHeartbeats 400000 in
theorem compare_any (a b : ByteArray) (w : World) (ha : a.size ≤ 9223372036854775807) :
    Calls Tryd.prog 25 #[.string a, .string b] w fun e w' => e = .returned (.int .i64 (cmpL (bl a) (bl b))) ∧ Below w.heap.size w w' := by
  go_enter Tryd.func25, Tryd.ntmps25
  go_wp2_with fail
  obtain ⟨m, hm⟩ : ∃ m : Nat, min (a.size : Int) (b.size : Int) = m := ⟨min a.size b.size, by omega⟩
  have hm1 : m ≤ a.size := by omega
  have hm2 : m ≤ b.size := by omega
  have hm3 : m = a.size ∨ m = b.size := by omega
  rw [hm]
  have HM := Lib.hid hm3
  clear hm hm3
  go_loopw [12] (fun i wr => ∃ k : Nat, k ≤ m ∧ i = .int .i64 k ∧ Below w.heap.size w wr ∧ cmpL (bl a) (bl b) = cmpL ((bl a).drop k) ((bl b).drop k)) (fun i _ => m - (intOf i).toNat)
  case atStart => exact ⟨0, Nat.zero_le _, rfl, Below.refl _ _, rfl⟩
  case round =>
    obtain ⟨k, hk, rfl, hbw, hc⟩ := hrel
    have HC := Lib.hid hc
    have HB := Lib.hid hbw
    clear hc hbw
    by_cases hlt : k < m
    · have h1 : (k : Int) < (a.size : Int) := by omega
      have h2 : (k : Int) < (b.size : Int) := by omega
      have h3 : k < a.size := by omega
      have h4 : k < b.size := by omega
      by_cases hq : a[k] = b[k]
      · have hq2 : (((a[k]).toNat : Int) != (b[k]).toNat) = false := by simp [hq]
        have HQ := Lib.hid hq
        clear hq
        go_wp2_with fail
        go_quiet (fail)
        go_wp2_with fail
        go_roundw
        case rel =>
          refine ⟨k + 1, by omega, by go_num, below_draws HB.out nq, ?_⟩
          rw [HC.out]
          refine cmp_take (by rw [← size_bl]; exact h3) (by rw [← size_bl]; exact h4) ?_
          rw [← byte_bl, ← byte_bl]; exact HQ.out
        case measure => simp [intOf]; omega
      · have hq2 : (((a[k]).toNat : Int) != (b[k]).toNat) = true := by
          rw [bne_iff_ne]; intro e; apply hq; exact UInt8.toNat_inj.1 (by omega)
        have HQ := Lib.hid hq
        clear hq
        go_wp2_with fail
        go_quiet (fail)
        go_wp2_with fail
        have hW : ∃ W, W = wr.drewN nq ∧ Below w.heap.size w W := ⟨_, rfl, below_draws HB.out nq⟩
        obtain ⟨W, hWe, hWb⟩ := hW
        rw [← hWe]
        have HB2 := Lib.hid hWb
        clear hWe hWb HB
        have hr1 := (a[k]).toNat_lt
        have hr2 := (b[k]).toNat_lt
        go_quiet ((first | (go_at_call 51; refine quietL (rank_any _ _ (by omega) (by omega))) | (go_at_call 52; refine quietL (compareInt_any _ _ _))))
        go_wp2_with fail
        go_ret
        refine ⟨ret_int ?_, below_draws HB2.out _⟩
        rw [rank_int, rank_int, HC.out, cmp_stop (by rw [← size_bl]; exact h3) (by rw [← size_bl]; exact h4) (by rw [← byte_bl, ← byte_bl]; exact HQ.out), ← byte_bl, ← byte_bl]
    · go_wp2_with (go_at_call 52; refine (compareInt_any _ _ _).mono ?_; rintro e w' ⟨rfl, rfl⟩)
      go_ret
      refine ⟨ret_int ?_, HB.out⟩
      have hM := HM.out
      rw [HC.out, cmp_end (by rw [← size_bl]; omega) (by rw [← size_bl]; omega) (by rw [← size_bl, ← size_bl]; omega), ← size_bl, ← size_bl]


/-- The path is dir or lies below it. -/
def withinB (d p : List UInt8) : Bool := validP p && (d.isEmpty || decide (d = p) || (validP d && Lib.hasPrefix p (d ++ [47])))

set_option maxHeartbeats 400000 in
theorem within_any (d p : ByteArray) (w : World) (he : Env w) :
    Calls Tryd.prog 27 #[.string d, .string p] w fun e w' => e = .returned (.bool (withinB (bl d) (bl p))) ∧ Below w.heap.size w w' := by
  cases hv : validP (bl p)
  · have HV := Lib.hid hv
    clear hv
    go_enter Tryd.func27, Tryd.ntmps27
    go_wp2_with (go_at_call 23; refine (valid_any p w he).mono ?_; rintro e w' ⟨rfl, hb⟩; rw [HV.out])
    go_ret
    exact ⟨ret_bool (by simp [withinB, HV.out]), hb⟩
  · have HV := Lib.hid hv
    have HE := Lib.hid he
    clear hv he
    go_enter Tryd.func27, Tryd.ntmps27
    go_wp2_with fail
    refine (valid_any p w HE.out).mono ?_
    rintro e w1 ⟨rfl, hb1⟩
    rw [HV.out]
    have HB1 := Lib.hid hb1
    clear hb1
    cases hd : validP (bl d)
    · have HD := Lib.hid hd
      clear hd
      go_wp2_with (first | (go_at_call 23; refine (valid_any d _ (HE.out.below HB1.out)).mono ?_; rintro e w2 ⟨rfl, hb2⟩; rw [HD.out]))
      all_goals (go_ret; refine ⟨ret_bool ?_, by first | exact HB1.out | exact below_next HB1.out hb2⟩)
      all_goals (rw [Bool.eq_iff_iff]; simp_all [withinB, HV.out, HD.out, toList_bl])
    · have HD := Lib.hid hd
      have hd5 : d.size ≤ 512 := by simp only [validP, Bool.and_eq_true, decide_eq_true_eq] at hd; rw [size_bl]; exact hd.1.1
      clear hd
      go_wp2_with (first | (go_at_call 23; refine (valid_any d _ (HE.out.below HB1.out)).mono ?_; rintro e w2 ⟨rfl, hb2⟩; rw [HD.out]) | (go_at_call 54; refine (hasPrefix_any _ _ _).mono ?_; rintro e w3 ⟨rfl, rfl⟩))
      all_goals (go_ret; refine ⟨ret_bool ?_, by first | exact HB1.out | exact below_next HB1.out hb2⟩)
      all_goals (rw [Bool.eq_iff_iff]; simp_all [withinB, HV.out, HD.out, toList_bl, bl_append])
      rfl

set_option maxHeartbeats 400000 in
theorem parent_any (s : ByteArray) (w : World) (he : Env w) (hv : validP (bl s) = true) :
    Calls Tryd.prog 39 #[.string s] w fun e w' => e = .returned (.tuple #[.string ⟨(parentL (bl s)).toArray⟩, .bool true]) ∧ Below w.heap.size w w' := by
  have HV := Lib.hid hv
  have h5 : s.size ≤ 512 := by simp only [validP, Bool.and_eq_true, decide_eq_true_eq] at hv; rw [size_bl]; exact hv.1.1
  have hl : (parentL (bl s)).length ≤ s.size := by rw [parentL_take, List.length_take, size_bl]; omega
  clear hv
  go_enter Tryd.func39, Tryd.ntmps39
  go_wp2_with fail
  refine (valid_any s w he).mono ?_
  rintro e w1 ⟨rfl, hb1⟩
  rw [HV.out]
  have HB1 := Lib.hid hb1
  clear hb1
  go_wp2_with fail
  refine (lastIndex_any s w1 (by omega)).mono ?_
  rintro e w2 ⟨rfl, rfl⟩
  obtain ⟨n, hn⟩ : ∃ n : Nat, n = (parentL (bl s)).length := ⟨_, rfl⟩
  have hmax : max (lastSlash (bl s)) 0 = (n : Int) := by
    unfold lastSlash
    split
    · omega
    · rename_i h; rw [hn, parentL_no _ h]; rfl
  have hle : n ≤ s.size := by omega
  have HN := Lib.hid hn
  clear hn hl
  go_wp2_with fail
  go_ret2
  refine ⟨?_, HB1.out⟩
  have e : s.extract 0 n = ⟨(parentL (bl s)).toArray⟩ := bl_inj (by rw [bl_extract, bl_mk (parentL (bl s)), HN.out, List.drop_zero, ← parentL_take])
  rw [← e]; rfl
theorem parent_bad (s : ByteArray) (w : World) (he : Env w) (hv : validP (bl s) = false) :
    Calls Tryd.prog 39 #[.string s] w fun e w' => e = .returned (.tuple #[.string ⟨#[]⟩, .bool false]) ∧ Below w.heap.size w w' := by
  have HV := Lib.hid hv
  clear hv
  go_enter Tryd.func39, Tryd.ntmps39
  go_wp2_with fail
  refine (valid_any s w he).mono ?_
  rintro e w1 ⟨rfl, hb1⟩
  rw [HV.out]
  go_wp2
  go_ret2
  exact ⟨rfl, hb1⟩

end Go.Proofs.YtlipekkiaiaplaaDoor
