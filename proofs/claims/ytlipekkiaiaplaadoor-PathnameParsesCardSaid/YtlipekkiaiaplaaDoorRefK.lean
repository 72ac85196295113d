/- Contracts of the specification of chapter 18: rule. -/
import Derived.Test.YtlipekkiaiaplaaDoorRefJ
import Derived.Test.YtlipekkiaiaplaaDoorHeld
import Derived.Deep.DeepCutAuto
namespace Go.Proofs.YtlipekkiaiaplaaDoor
open Go.RowKit

theorem trimPrefix_yes (s : ByteArray) (c : UInt8) (hp : Lib.hasPrefix (bl s) [c] = true) : bl (s.extract 1 s.size) = Lib.trimPrefix (bl s) [c] := by
  unfold Lib.trimPrefix
  rw [hp]
  simp [bl_extract, size_bl]
theorem trimPrefix_no (s : ByteArray) (c : UInt8) (hc : Lib.hasPrefix (bl s) [c] = false) : bl s = Lib.trimPrefix (bl s) [c] := by
  unfold Lib.trimPrefix
  rw [hc]; rfl

/-- The two blocks of rule: the result's and the variable's. -/
def ruleW (w : World) (k d r : Bool) : World := (w.alloc (.cells #[.string ⟨#[]⟩, .bool false, .bool false, .bool false] 30)).alloc (.cells #[.string ⟨#[]⟩, .bool k, .bool d, .bool r] 30)
structure RuleBox (w : World) (s : ByteArray) (k d r : Bool) (wx : World) : Prop where
  res : wx.heap[w.heap.size]? = some (.cells #[.string ⟨#[]⟩, .bool false, .bool false, .bool false] 30 (0, 0))
  var : wx.heap[w.heap.size + 1]? = some (.cells #[.string s, .bool k, .bool d, .bool r] 30 (0, 0))
  below : Below w.heap.size w wx
theorem box_set {w : World} {b j : Nat} {xs : Array Value} {t : TypeId} {g : Nat × Nat} {v : Value} (h : w.heap[b]? = some (.cells xs t g)) : (w.setCell ⟨b, j, none⟩ v).heap[b]? = some (.cells (xs.setIfInBounds j v) t g) := by
  simp only [World.setCell, Array.getElem?_modify, if_true, h, Option.map_some]
  rfl
theorem RuleBox.set0 {w wx : World} {s p : ByteArray} {k d r : Bool} (h : RuleBox w s k d r wx) : RuleBox w p k d r (wx.setCell ⟨w.heap.size + 1, 0, none⟩ (.string p)) :=
  ⟨by rw [Below.heap_setCell _ _ _ _ (by simp)]; exact h.res, by rw [box_set h.var]; rfl, h.below.setCell (by simp) _⟩
theorem RuleBox.set3 {w wx : World} {s : ByteArray} {k d r r2 : Bool} (h : RuleBox w s k d r wx) : RuleBox w s k d r2 (wx.setCell ⟨w.heap.size + 1, 3, none⟩ (.bool r2)) :=
  ⟨by rw [Below.heap_setCell _ _ _ _ (by simp)]; exact h.res, by rw [box_set h.var]; rfl, h.below.setCell (by simp) _⟩
theorem empty_no {s : ByteArray} (h : s.toList = []) (c : UInt8) : Lib.hasPrefix (bl s) [c] = false := by
  rw [hasPrefix_one, ← toList_bl, h]; rfl
theorem size_pos {s : ByteArray} (h : ¬ s.toList = []) : 0 < s.size := by
  rw [size_bl]; exact List.length_pos_iff.2 (by rw [← toList_bl]; exact h)
theorem first_is {s : ByteArray} (h : 0 < s.size) (n : Nat) (hn : n < 256) : Lib.hasPrefix (bl s) [UInt8.ofNat n] = (((s[0].toNat : Nat) : Int) == (n : Int)) := by
  have := bne_byte s[0] n hn
  rw [hasPrefix_one, head_at s h]
  unfold bne at this
  cases h1 : (some s[0] == some (UInt8.ofNat n)) <;> cases h2 : (((s[0].toNat : Nat) : Int) == (n : Int)) <;> simp_all

theorem empty_nos {s : ByteArray} (h : s.toList = []) (c : UInt8) : Lib.hasSuffix (bl s) [c] = false := by
  rw [← toList_bl, h]; rfl
theorem suf_pos {s : ByteArray} {c : UInt8} (h : Lib.hasSuffix (bl s) [c] = true) : 0 < s.size := by
  rw [size_bl]
  cases hb : bl s
  · rw [hb] at h; cases h
  · simp
theorem trimSuffix_yes (s : ByteArray) (c : UInt8) (hp : Lib.hasSuffix (bl s) [c] = true) : bl (s.extract 0 (s.size - 1)) = Lib.trimSuffix (bl s) [c] := by
  unfold Lib.trimSuffix
  rw [hp]
  simp [bl_extract, size_bl]
theorem trimSuffix_no (s : ByteArray) (c : UInt8) (hc : Lib.hasSuffix (bl s) [c] = false) : bl s = Lib.trimSuffix (bl s) [c] := by
  unfold Lib.trimSuffix
  rw [hc]; rfl
theorem last_is {s : ByteArray} (h : 0 < s.size) (n : Nat) (hn : n < 256) (hl : s.size - 1 < s.size) : Lib.hasSuffix (bl s) [UInt8.ofNat n] = (((s[s.size - 1].toNat : Nat) : Int) == (n : Int)) := by
  have h2 : bl s = (bl s).take (s.size - 1) ++ [s[s.size - 1]] := by
    have h3 : s.size - 1 < (bl s).length := by rw [← size_bl]; exact hl
    have h4 := List.take_append_drop (s.size - 1) (bl s)
    rw [List.drop_eq_getElem_cons h3, List.drop_eq_nil_of_le (by rw [← size_bl]; omega), ← byte_bl s _ hl] at h4
    exact h4.symm
  have hb := bne_byte s[s.size - 1] n hn
  have hsuf : Lib.hasSuffix (bl s) [UInt8.ofNat n] = (s[s.size - 1] == UInt8.ofNat n) := by
    rw [h2]
    unfold Lib.hasSuffix
    rw [Bool.eq_iff_iff, List.isSuffixOf_iff_suffix, beq_iff_eq]
    constructor
    · rintro ⟨t, ht⟩; have := List.append_inj' ht rfl; simpa using this.2.symm
    · intro e; exact ⟨_, by rw [e]⟩
  rw [hsuf]
  unfold bne at hb
  clear hsuf h2
  generalize s[s.size - 1] = c at hb ⊢
  cases h1 : (c == UInt8.ofNat n) <;> cases h2 : (((c.toNat : Nat) : Int) == (n : Int)) <;> simp_all
set_option maxHeartbeats 1000000 in
theorem r_rule_any (s : ByteArray) (w : World) (hs : s.size ≤ 65536) :
    Calls Tryd.prog 60 #[.string s] w fun e w' => (∃ p, e = .returned (.tuple #[.agg #[.string p, .bool (ruleT (bl s)).keep, .bool (ruleT (bl s)).dir, .bool (ruleT (bl s)).rooted], .bool (decide ((ruleT (bl s)).pat ≠ []) && goodR (ruleT (bl s)))]) ∧ bl p = (ruleT (bl s)).pat) ∧ Below w.heap.size w w' := by
  go_enter Tryd.func60, Tryd.ntmps60
  go_upto_region 2 with fail
  go_cut [12] (fun t wx => t = .bool (Lib.hasPrefix (bl s) [33]) ∧ wx = ruleW w false false false)
  case first =>
    by_cases h0 : s.toList = []
    · have e0 : s.toList.isEmpty = true := by rw [h0]; rfl
      have H0 := Lib.hid h0
      clear h0
      go_wp2_with fail
      go_meet
      case rel =>
        refine ⟨?_, rfl⟩
        rw [empty_no H0.out]
    · have hz := size_pos h0
      have e0 : s.toList.isEmpty = false := by simpa using h0
      go_wp2_with fail
      go_meet
      case rel =>
        exact ⟨congrArg Value.bool (first_is hz 33 (by omega)).symm, rfl⟩
  case rest =>
  obtain ⟨rfl, rfl⟩ := hcut
  unfold ruleW
  go_upto_if 12 with fail
  go_cut [0] (fun t wx => ∃ (s1 : ByteArray) (k : Bool), t = .string s1 ∧ s1.size ≤ 65536 ∧ bl s1 = Lib.trimPrefix (bl s) [33] ∧ k = Lib.hasPrefix (bl s) [33] ∧ wx = ruleW w k false false)
  case first =>
    cases hp : Lib.hasPrefix (bl s) [33]
    · have HP := Lib.hid hp
      clear hp
      go_wp2_with fail
      go_meet
      case rel => exact ⟨s, false, rfl, by assumption, trimPrefix_no _ _ HP.out, HP.out.symm, rfl⟩
    · have hz : 0 < s.size := by
        have := hp; rw [hasPrefix_one] at this
        rw [size_bl]
        cases hb : bl s
        · rw [hb] at this; cases this
        · simp
      have h1 : (1 : Int) ≤ s.size := by omega
      have HP := Lib.hid hp
      clear hp
      go_wp2_with fail
      go_meet
      case rel => exact ⟨_, true, rfl, by simp; omega, (trimPrefix_yes s 33 HP.out), HP.out.symm, rfl⟩
  case rest =>
  obtain ⟨s1, k, rfl, hs1, h1, hk, rfl⟩ := hcut
  have H1 := Lib.hid h1
  have HK := Lib.hid hk
  clear h1 hk
  unfold ruleW
  go_upto_region 5 with fail
  go_cut [25] (fun t wx => t = .bool (Lib.hasSuffix (bl s1) [47]) ∧ wx = ruleW w k false false)
  case first =>
    by_cases h0 : s1.toList = []
    · have e0 : s1.toList.isEmpty = true := by rw [h0]; rfl
      have H0 := Lib.hid h0
      clear h0
      go_wp2_with fail
      go_meet
      case rel =>
        refine ⟨?_, rfl⟩
        rw [empty_nos H0.out]
    · have hz := size_pos h0
      have hz1 : s1.size - 1 < s1.size := by omega
      have e0 : s1.toList.isEmpty = false := by simpa using h0
      go_wp2_with fail
      go_meet
      case rel =>
        exact ⟨congrArg Value.bool (last_is hz 47 (by omega) hz1).symm, rfl⟩
  case rest =>
  obtain ⟨rfl, rfl⟩ := hcut
  unfold ruleW
  go_upto_if 25 with fail
  go_cut [0] (fun t wx => ∃ (s2 : ByteArray) (d : Bool), t = .string s2 ∧ s2.size ≤ 65536 ∧ bl s2 = Lib.trimSuffix (bl s1) [47] ∧ d = Lib.hasSuffix (bl s1) [47] ∧ wx = ruleW w k d false)
  case first =>
    cases hp : Lib.hasSuffix (bl s1) [47]
    · have HP := Lib.hid hp
      clear hp
      go_wp2_with fail
      go_meet
      case rel => exact ⟨s1, false, rfl, by assumption, trimSuffix_no _ _ HP.out, HP.out.symm, rfl⟩
    · have hz : 0 < s1.size := suf_pos hp
      have hz1 : s1.size - 1 < s1.size := by omega
      have h1 : (1 : Int) ≤ s1.size := by omega
      have HP := Lib.hid hp
      clear hp
      go_wp2_with fail
      go_meet
      case rel => exact ⟨_, true, rfl, by simp; omega, (trimSuffix_yes s1 47 HP.out), HP.out.symm, rfl⟩
  case rest =>
  obtain ⟨s2, d, rfl, hs2, h2, hd, rfl⟩ := hcut
  have H2 := Lib.hid h2
  have HD := Lib.hid hd
  clear h2 hd
  unfold ruleW
  go_upto_region 8 with fail
  go_cut [38] (fun t wx => t = .bool (Lib.hasPrefix (bl s2) [47]) ∧ wx = ruleW w k d false)
  case first =>
    by_cases h0 : s2.toList = []
    · have e0 : s2.toList.isEmpty = true := by rw [h0]; rfl
      have H0 := Lib.hid h0
      clear h0
      go_wp2_with fail
      go_meet
      case rel =>
        refine ⟨?_, rfl⟩
        rw [empty_no H0.out]
    · have hz := size_pos h0
      have e0 : s2.toList.isEmpty = false := by simpa using h0
      go_wp2_with fail
      go_meet
      case rel =>
        exact ⟨congrArg Value.bool (first_is hz 47 (by omega)).symm, rfl⟩
  case rest =>
  obtain ⟨rfl, rfl⟩ := hcut
  unfold ruleW
  go_upto_if 38 with fail
  go_cut [0] (fun t wx => ∃ (s3 : ByteArray) (r : Bool), t = .string s3 ∧ s3.size ≤ 65536 ∧ bl s3 = Lib.trimPrefix (bl s2) [47] ∧ r = Lib.hasPrefix (bl s2) [47] ∧ wx = ruleW w k d r)
  case first =>
    cases hp : Lib.hasPrefix (bl s2) [47]
    · have HP := Lib.hid hp
      clear hp
      go_wp2_with fail
      go_meet
      case rel => exact ⟨s2, false, rfl, by assumption, trimPrefix_no _ _ HP.out, HP.out.symm, rfl⟩
    · have hz : 0 < s2.size := by
        have := hp; rw [hasPrefix_one] at this
        rw [size_bl]
        cases hb : bl s2
        · rw [hb] at this; cases this
        · simp
      have h1 : (1 : Int) ≤ s2.size := by omega
      have HP := Lib.hid hp
      clear hp
      go_wp2_with fail
      go_meet
      case rel => exact ⟨_, true, rfl, by simp; omega, (trimPrefix_yes s2 47 HP.out), HP.out.symm, rfl⟩
  case rest =>
  obtain ⟨s3, r, rfl, hs3, h3, hr, rfl⟩ := hcut
  have H3 := Lib.hid h3
  have HR := Lib.hid hr
  clear h3 hr
  unfold ruleW
  have hru : ruleT (bl s) = ⟨bl s3, k, d, r || (bl s3).contains 47⟩ := by
    rw [HK.out, HD.out, HR.out, H3.out, H2.out, H1.out]; rfl
  have HRU := Lib.hid hru
  clear hru
  go_upto_region 11 with fail
  go_cut [0] (fun t wx => t = .string s3 ∧ RuleBox w ⟨#[]⟩ k d (r || (bl s3).contains 47) wx)
  case first =>
    have hb0 : Below w.heap.size w (ruleW w k d r) := ((Below.refl _ _).alloc (Nat.le_refl _) _).alloc (by simp) _
    have HB0 := Lib.hid hb0
    clear hb0
    unfold ruleW at HB0
    cases r
    · go_wp2_with fail
      refine (r_slash_is s3 _ _ hs3 rfl).mono ?_
      rintro e w1 ⟨rfl, hb1⟩
      have hres : w1.heap[w.heap.size]? = some (.cells #[.string ⟨#[]⟩, .bool false, .bool false, .bool false] 30 (0, 0)) := by
        rw [hb1.block _ (by simp; omega), Below.heap_alloc _ _ _ (by simp)]; exact heap_alloc_new w _
      have hbox : w1.heap[w.heap.size + 1]? = some (.cells #[.string ⟨#[]⟩, .bool k, .bool d, .bool false] 30 (0, 0)) := by
        rw [hb1.block _ (by simp)]
        have := heap_alloc_new (w.alloc (.cells #[.string ⟨#[]⟩, .bool false, .bool false, .bool false] 30)) (.cells #[.string ⟨#[]⟩, .bool k, .bool d, .bool false] 30)
        simpa using this
      have n3 : w1.cell? ⟨w.heap.size + 1, 3, none⟩ = some (.bool false) := by rw [cell_of_heap hbox]; rfl
      have f3 : w1.frozen? ⟨w.heap.size + 1, 3, none⟩ = false := frozen_of_heap hbox
      have HB1 := Lib.hid (below_next HB0.out hb1)
      have HRES := Lib.hid hres
      have HBOX := Lib.hid hbox
      clear hb1 hres hbox
      go_wp2_with fail
      go_meet
      case rel =>
        refine ⟨rfl, ?_⟩
        rw [Bool.false_or]
        rw [show (bl s3).contains 47 = decide (47 ∈ bl s3) by simp]
        exact RuleBox.set3 ⟨HRES.out, HBOX.out, HB1.out⟩
    · go_wp2_with fail
      go_meet
      case rel =>
        refine ⟨rfl, ?_, ?_, HB0.out⟩
        · rw [Below.heap_alloc _ _ _ (by simp)]; exact heap_alloc_new w _
        · have := heap_alloc_new (w.alloc (.cells #[.string ⟨#[]⟩, .bool false, .bool false, .bool false] 30)) (.cells #[.string ⟨#[]⟩, .bool k, .bool d, .bool true] 30)
          simpa using this
  case rest =>
  obtain ⟨rfl, hb⟩ := hcut
  obtain ⟨rr, hrr⟩ : ∃ rr, rr = (r || (bl s3).contains 47) := ⟨_, rfl⟩
  rw [← hrr] at HRU hb
  clear hrr
  have n0 : wc.cell? ⟨w.heap.size + 1, 0, none⟩ = some (.string ⟨#[]⟩) := by rw [cell_of_heap hb.var]; rfl
  have f0 : wc.frozen? ⟨w.heap.size + 1, 0, none⟩ = false := frozen_of_heap hb.var
  have HB := Lib.hid hb
  clear hb
  go_upto_region 13 with fail
  have hb := HB.out.set0 (p := s3)
  clear HB n0 f0
  generalize wc.setCell ⟨w.heap.size + 1, 0, none⟩ (.string s3) = wd at hb ⊢
  have HB := Lib.hid hb
  have n0 : wd.cell? ⟨w.heap.size + 1, 0, none⟩ = some (.string s3) := by rw [cell_of_heap hb.var]; rfl
  have n1 : wd.cell? ⟨w.heap.size + 1, 1, none⟩ = some (.bool k) := by rw [cell_of_heap hb.var]; rfl
  have n2 : wd.cell? ⟨w.heap.size + 1, 2, none⟩ = some (.bool d) := by rw [cell_of_heap hb.var]; rfl
  have n3 : wd.cell? ⟨w.heap.size + 1, 3, none⟩ = some (.bool rr) := by rw [cell_of_heap hb.var]; rfl
  clear hb
  by_cases h0 : s3.toList = []
  · have e0 : s3.toList.isEmpty = true := by rw [h0]; rfl
    have H0 := Lib.hid h0
    clear h0
    refine hld_start (fun w' => w'.cell? ⟨w.heap.size + 1, 0, none⟩ = some (.string s3) ∧ w'.cell? ⟨w.heap.size + 1, 1, none⟩ = some (.bool k) ∧ w'.cell? ⟨w.heap.size + 1, 2, none⟩ = some (.bool d) ∧ w'.cell? ⟨w.heap.size + 1, 3, none⟩ = some (.bool rr)) (by kernel_rfl) ?_
    refine hld_take 0 rfl (by kernel_rfl) (by kernel_rfl) (by kernel_rfl) (fun _ _ _ h => h) rfl (by go_simp) (by rintro w' ⟨q0, q1, q2, q3⟩; go_simp; rfl) ?_
    simp only [Act.put, List.setIfInBounds_toArray, List.set_cons_succ, List.set_cons_zero]
    refine hld_take 1 rfl (by kernel_rfl) (by kernel_rfl) (by kernel_rfl) (fun _ _ _ h => h) rfl (by go_simp) (by rintro w' ⟨q0, q1, q2, q3⟩; go_simp; rfl) ?_
    simp only [Act.put, List.setIfInBounds_toArray, List.set_cons_succ, List.set_cons_zero]
    refine hld_take 2 rfl (by kernel_rfl) (by kernel_rfl) (by kernel_rfl) (fun _ _ _ h => h) rfl (by go_simp) (by rintro w' ⟨q0, q1, q2, q3⟩; go_simp; rfl) ?_
    simp only [Act.put, List.setIfInBounds_toArray, List.set_cons_succ, List.set_cons_zero]
    refine hld_take 3 rfl (by kernel_rfl) (by kernel_rfl) (by kernel_rfl) (fun _ _ _ h => h) rfl (by go_simp) (by rintro w' ⟨q0, q1, q2, q3⟩; go_simp; rfl) ?_
    simp only [Act.put, List.setIfInBounds_toArray, List.set_cons_succ, List.set_cons_zero]
    refine hld_skip 4 rfl (by kernel_rfl) (by kernel_rfl) (by kernel_rfl) (fun _ _ _ h => h) rfl (by go_simp) ?_
    simp only [Act.put, List.setIfInBounds_toArray, List.set_cons_succ, List.set_cons_zero]
    refine hld_skip 5 rfl (by kernel_rfl) (by kernel_rfl) (by kernel_rfl) (fun _ _ _ h => h) rfl (by go_simp) ?_
    simp only [Act.put, List.setIfInBounds_toArray, List.set_cons_succ, List.set_cons_zero]
    refine hld_take 6 rfl (by kernel_rfl) (by kernel_rfl) (by kernel_rfl) (fun _ _ _ h => h) rfl (by go_simp) (by rintro w' ⟨q0, q1, q2, q3⟩; go_simp; rfl) ?_
    simp only [Act.put, List.setIfInBounds_toArray, List.set_cons_succ, List.set_cons_zero]
    have hres := HB.out.res
    have r0 : wd.cell? ⟨w.heap.size, 0, none⟩ = some (.string ⟨#[]⟩) := by rw [cell_of_heap hres]; rfl
    have r1 : wd.cell? ⟨w.heap.size, 1, none⟩ = some (.bool false) := by rw [cell_of_heap hres]; rfl
    have r2 : wd.cell? ⟨w.heap.size, 2, none⟩ = some (.bool false) := by rw [cell_of_heap hres]; rfl
    have r3 : wd.cell? ⟨w.heap.size, 3, none⟩ = some (.bool false) := by rw [cell_of_heap hres]; rfl
    have f0 : wd.frozen? ⟨w.heap.size, 0, none⟩ = false := frozen_of_heap hres
    have f1 : wd.frozen? ⟨w.heap.size, 1, none⟩ = false := frozen_of_heap hres
    have f2 : wd.frozen? ⟨w.heap.size, 2, none⟩ = false := frozen_of_heap hres
    have f3 : wd.frozen? ⟨w.heap.size, 3, none⟩ = false := frozen_of_heap hres
    clear hres
    have HC4 := Lib.hid (And.intro n0 (And.intro n1 (And.intro n2 n3)))
    refine hld_bar 7 rfl (by kernel_rfl) rfl (fun K hK => ?_)
    go_wp2_with fail
    have h4 := set4 HB.out.res (.string s3) (.bool k) (.bool d) (.bool rr)
    generalize (((wd.setCell ⟨w.heap.size, 0, none⟩ (.string s3)).setCell ⟨w.heap.size, 1, none⟩ (.bool k)).setCell ⟨w.heap.size, 2, none⟩ (.bool d)).setCell ⟨w.heap.size, 3, none⟩ (.bool rr) = W at h4 ⊢
    obtain ⟨h41, h42⟩ := h4
    have hvar : W.heap[w.heap.size + 1]? = some (.cells #[.string s3, .bool k, .bool d, .bool rr] 30 (0, 0)) := by rw [h42.block _ (by have := block_lt HC4.out.1; simpa using this) (by simp)]; exact HB.out.var
    have hS : ∀ W' : World, W'.heap = W.heap → W'.cell? ⟨w.heap.size + 1, 0, none⟩ = some (.string s3) ∧ W'.cell? ⟨w.heap.size + 1, 1, none⟩ = some (.bool k) ∧ W'.cell? ⟨w.heap.size + 1, 2, none⟩ = some (.bool d) ∧ W'.cell? ⟨w.heap.size + 1, 3, none⟩ = some (.bool rr) := fun W' hW => by
      rw [← hW] at hvar
      refine ⟨?_, ?_, ?_, ?_⟩ <;> (rw [cell_of_heap hvar]; rfl)
    refine ⟨hS _ rfl, ?_⟩
    have HS := Lib.hid hS
    have m0 : W.cell? ⟨w.heap.size, 0, none⟩ = some (.string s3) := by rw [cell_of_heap h41]; rfl
    have m1 : W.cell? ⟨w.heap.size, 1, none⟩ = some (.bool k) := by rw [cell_of_heap h41]; rfl
    have m2 : W.cell? ⟨w.heap.size, 2, none⟩ = some (.bool d) := by rw [cell_of_heap h41]; rfl
    have m3 : W.cell? ⟨w.heap.size, 3, none⟩ = some (.bool rr) := by rw [cell_of_heap h41]; rfl
    have H42 := Lib.hid h42
    clear n0 n1 n2 n3 r0 r1 r2 r3 f0 f1 f2 f3 hS hvar h41 h42
    refine hld_take 8 rfl (by kernel_rfl) (by kernel_rfl) (by kernel_rfl) (fun _ _ _ h => h) rfl (HS.out _ rfl) (by rintro w' ⟨q0, q1, q2, q3⟩; go_simp; rfl) ?_
    simp only [Act.put, List.setIfInBounds_toArray, List.set_cons_succ, List.set_cons_zero]
    refine hld_done (by kernel_rfl) ?_
    go_wp2_with fail
    refine bodyPost_ret (v := .tuple #[.agg #[.string s3, .bool k, .bool d, .bool rr], .bool false]) (by simp [results, Tryd.results60, go_sem, m0, m1, m2, m3]) rfl ?_
    refine ⟨⟨s3, ?_, ?_⟩, HB.out.below.grown (grown_drew H42.out) HB.out.below.size (fun k hk => by cases hk; exact Nat.le_refl _)⟩
    · have he : bl s3 = [] := by rw [← toList_bl]; exact H0.out
      rw [HRU.out]; simp [he]
    · rw [HRU.out]
  · have e0 : s3.toList.isEmpty = false := by simpa using h0
    have H0 := Lib.hid h0
    clear h0
    refine hld_start (fun w' => w'.cell? ⟨w.heap.size + 1, 0, none⟩ = some (.string s3) ∧ w'.cell? ⟨w.heap.size + 1, 1, none⟩ = some (.bool k) ∧ w'.cell? ⟨w.heap.size + 1, 2, none⟩ = some (.bool d) ∧ w'.cell? ⟨w.heap.size + 1, 3, none⟩ = some (.bool rr)) (by kernel_rfl) ?_
    refine hld_take 0 rfl (by kernel_rfl) (by kernel_rfl) (by kernel_rfl) (fun _ _ _ h => h) rfl (by go_simp) (by rintro w' ⟨q0, q1, q2, q3⟩; go_simp; rfl) ?_
    simp only [Act.put, List.setIfInBounds_toArray, List.set_cons_succ, List.set_cons_zero]
    refine hld_take 1 rfl (by kernel_rfl) (by kernel_rfl) (by kernel_rfl) (fun _ _ _ h => h) rfl (by go_simp) (by rintro w' ⟨q0, q1, q2, q3⟩; go_simp; rfl) ?_
    simp only [Act.put, List.setIfInBounds_toArray, List.set_cons_succ, List.set_cons_zero]
    refine hld_take 2 rfl (by kernel_rfl) (by kernel_rfl) (by kernel_rfl) (fun _ _ _ h => h) rfl (by go_simp) (by rintro w' ⟨q0, q1, q2, q3⟩; go_simp; rfl) ?_
    simp only [Act.put, List.setIfInBounds_toArray, List.set_cons_succ, List.set_cons_zero]
    refine hld_take 3 rfl (by kernel_rfl) (by kernel_rfl) (by kernel_rfl) (fun _ _ _ h => h) rfl (by go_simp) (by rintro w' ⟨q0, q1, q2, q3⟩; go_simp; rfl) ?_
    simp only [Act.put, List.setIfInBounds_toArray, List.set_cons_succ, List.set_cons_zero]
    refine hld_take 4 rfl (by kernel_rfl) (by kernel_rfl) (by kernel_rfl) (fun _ _ _ h => h) rfl (by go_simp) (by rintro w' ⟨q0, q1, q2, q3⟩; go_simp; rfl) ?_
    simp only [Act.put, List.setIfInBounds_toArray, List.set_cons_succ, List.set_cons_zero]
    refine hld_bar 5 rfl (by kernel_rfl) rfl (fun K hK => ?_)
    go_wp2_with fail
    refine (r_good_any s3 k d rr _ hs3).mono ?_
    rintro e w1 ⟨rfl, hb0⟩
    have hb1 : Below wd.heap.size wd w1 := below_next (w1 := wd.drew) ⟨rfl, rfl, rfl, Nat.le_refl _, fun _ _ => rfl⟩ hb0
    clear hb0
    have HX := Lib.hid HB.out
    clear HB
    have hbx : RuleBox w s3 k d rr w1 := by
      have hlt : w.heap.size + 1 < wd.heap.size := by have := block_lt n0; simpa using this
      exact ⟨by rw [hb1.block _ (by omega)]; exact HX.out.res, by rw [hb1.block _ hlt]; exact HX.out.var, below_next HX.out.below hb1⟩
    have HB := Lib.hid hbx
    clear n0 n1 n2 n3 hb1 hbx HX
    have n0 : w1.cell? ⟨w.heap.size + 1, 0, none⟩ = some (.string s3) := by rw [cell_of_heap HB.out.var]; rfl
    have n1 : w1.cell? ⟨w.heap.size + 1, 1, none⟩ = some (.bool k) := by rw [cell_of_heap HB.out.var]; rfl
    have n2 : w1.cell? ⟨w.heap.size + 1, 2, none⟩ = some (.bool d) := by rw [cell_of_heap HB.out.var]; rfl
    have n3 : w1.cell? ⟨w.heap.size + 1, 3, none⟩ = some (.bool rr) := by rw [cell_of_heap HB.out.var]; rfl
    go_wp2_with fail
    refine ⟨⟨n0, n1, n2, n3⟩, ?_⟩
    refine hld_take 6 rfl (by kernel_rfl) (by kernel_rfl) (by kernel_rfl) (fun _ _ _ h => h) rfl (by go_simp) (by rintro w' ⟨q0, q1, q2, q3⟩; go_simp; rfl) ?_
    simp only [Act.put, List.setIfInBounds_toArray, List.set_cons_succ, List.set_cons_zero]
    have hres := HB.out.res
    have r0 : w1.cell? ⟨w.heap.size, 0, none⟩ = some (.string ⟨#[]⟩) := by rw [cell_of_heap hres]; rfl
    have r1 : w1.cell? ⟨w.heap.size, 1, none⟩ = some (.bool false) := by rw [cell_of_heap hres]; rfl
    have r2 : w1.cell? ⟨w.heap.size, 2, none⟩ = some (.bool false) := by rw [cell_of_heap hres]; rfl
    have r3 : w1.cell? ⟨w.heap.size, 3, none⟩ = some (.bool false) := by rw [cell_of_heap hres]; rfl
    have f0 : w1.frozen? ⟨w.heap.size, 0, none⟩ = false := frozen_of_heap hres
    have f1 : w1.frozen? ⟨w.heap.size, 1, none⟩ = false := frozen_of_heap hres
    have f2 : w1.frozen? ⟨w.heap.size, 2, none⟩ = false := frozen_of_heap hres
    have f3 : w1.frozen? ⟨w.heap.size, 3, none⟩ = false := frozen_of_heap hres
    clear hres
    have HC4 := Lib.hid (And.intro n0 (And.intro n1 (And.intro n2 n3)))
    refine hld_bar 7 rfl (by kernel_rfl) rfl (fun K hK => ?_)
    go_wp2_with fail
    have h4 := set4 HB.out.res (.string s3) (.bool k) (.bool d) (.bool rr)
    generalize (((w1.setCell ⟨w.heap.size, 0, none⟩ (.string s3)).setCell ⟨w.heap.size, 1, none⟩ (.bool k)).setCell ⟨w.heap.size, 2, none⟩ (.bool d)).setCell ⟨w.heap.size, 3, none⟩ (.bool rr) = W at h4 ⊢
    obtain ⟨h41, h42⟩ := h4
    have hvar : W.heap[w.heap.size + 1]? = some (.cells #[.string s3, .bool k, .bool d, .bool rr] 30 (0, 0)) := by rw [h42.block _ (by have := block_lt HC4.out.1; simpa using this) (by simp)]; exact HB.out.var
    have hS : ∀ W' : World, W'.heap = W.heap → W'.cell? ⟨w.heap.size + 1, 0, none⟩ = some (.string s3) ∧ W'.cell? ⟨w.heap.size + 1, 1, none⟩ = some (.bool k) ∧ W'.cell? ⟨w.heap.size + 1, 2, none⟩ = some (.bool d) ∧ W'.cell? ⟨w.heap.size + 1, 3, none⟩ = some (.bool rr) := fun W' hW => by
      rw [← hW] at hvar
      refine ⟨?_, ?_, ?_, ?_⟩ <;> (rw [cell_of_heap hvar]; rfl)
    refine ⟨hS _ rfl, ?_⟩
    have HS := Lib.hid hS
    have m0 : W.cell? ⟨w.heap.size, 0, none⟩ = some (.string s3) := by rw [cell_of_heap h41]; rfl
    have m1 : W.cell? ⟨w.heap.size, 1, none⟩ = some (.bool k) := by rw [cell_of_heap h41]; rfl
    have m2 : W.cell? ⟨w.heap.size, 2, none⟩ = some (.bool d) := by rw [cell_of_heap h41]; rfl
    have m3 : W.cell? ⟨w.heap.size, 3, none⟩ = some (.bool rr) := by rw [cell_of_heap h41]; rfl
    have H42 := Lib.hid h42
    clear n0 n1 n2 n3 r0 r1 r2 r3 f0 f1 f2 f3 hS hvar h41 h42
    refine hld_take 8 rfl (by kernel_rfl) (by kernel_rfl) (by kernel_rfl) (fun _ _ _ h => h) rfl (HS.out _ rfl) (by rintro w' ⟨q0, q1, q2, q3⟩; go_simp; rfl) ?_
    simp only [Act.put, List.setIfInBounds_toArray, List.set_cons_succ, List.set_cons_zero]
    refine hld_done (by kernel_rfl) ?_
    go_wp2_with fail
    refine bodyPost_ret (v := .tuple #[.agg #[.string s3, .bool k, .bool d, .bool rr], .bool (goodR ⟨bl s3, k, d, rr⟩)]) (by simp [results, Tryd.results60, go_sem, m0, m1, m2, m3]) rfl ?_
    refine ⟨⟨s3, ?_, ?_⟩, HB.out.below.grown (id H42.out) HB.out.below.size (fun k hk => by cases hk; exact Nat.le_refl _)⟩
    · have he : ¬ bl s3 = [] := by rw [← toList_bl]; exact H0.out
      rw [HRU.out]; simp [he]
    · rw [HRU.out]

end Go.Proofs.YtlipekkiaiaplaaDoor
