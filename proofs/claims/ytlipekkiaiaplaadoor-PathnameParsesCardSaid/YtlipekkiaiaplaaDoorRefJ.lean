/- Contracts of the specification of chapter 18: slash, Good, Line. -/
import Derived.Test.YtlipekkiaiaplaaDoorRefG
import Derived.Test.YtlipekkiaiaplaaDoorRuleP
import Derived.Test.YtlipekkiaiaplaaDoorParse
namespace Go.Proofs.YtlipekkiaiaplaaDoor
open Go.RowKit

theorem r_slash_is (s : ByteArray) (o : Bool) (w : World) (hs : s.size ≤ 65536) (h : (bl s).contains 47 = o) :
    Calls Tryd.prog 49 #[.string s] w fun e w' => e = .returned (.bool o) ∧ Below w.heap.size w w' := by
  go_enter Tryd.func49, Tryd.ntmps49
  go_wp2_with fail
  refine (r_divide_any s w (by omega)).mono ?_
  rintro e w1 ⟨v1, xs1, rfl, hx1, hv1, hb1⟩
  have hc := compB_slash (bl s)
  have hp := splitL_pos 47 (bl s)
  rw [← hx1, h, List.length_map] at hc
  rw [← hx1, List.length_map] at hp
  have HC := Lib.hid hc
  have HB1 := Lib.hid hb1
  obtain ⟨a1, c1, rfl, -, -, -⟩ := hv1.shape
  clear hx1 hv1 hb1 hc h
  go_wp2_with fail
  go_ret
  refine ⟨ret_bool ?_, HB1.out⟩
  have := HC.out
  cases o
  · simp at this; simp; omega
  · simp at this; simp; omega
theorem head_at (s : ByteArray) (h : 0 < s.size) : (bl s).head? = some (s[0]'h) := by
  have h2 : 0 < (bl s).length := by rw [← size_bl]; exact h
  rw [List.head?_eq_getElem?, List.getElem?_eq_getElem h2]
  congr 1
theorem byte_is {c : UInt8} {n : Nat} (h : ((c.toNat : Nat) : Int) = n) : c = UInt8.ofNat n := by
  have : c.toNat = n := by omega
  rw [← this]; simp
theorem bne_byte (c : UInt8) (n : Nat) (hn : n < 256) : (((c.toNat : Nat) : Int) != (n : Int)) = (some c != some (UInt8.ofNat n)) := by
  unfold bne
  congr 1
  rw [Bool.eq_iff_iff, beq_iff_eq, beq_iff_eq, Option.some.injEq]
  constructor
  · exact byte_is
  · rintro rfl; simp; omega

set_option maxHeartbeats 1000000 in
theorem r_good_any (s : ByteArray) (k d r : Bool) (w : World) (hs : s.size ≤ 65536) :
    Calls Tryd.prog 19 #[.agg #[.string s, .bool k, .bool d, .bool r]] w fun e w' => e = .returned (.bool (goodR ⟨bl s, k, d, r⟩)) ∧ Below w.heap.size w w' := by
  go_enter Tryd.func19, Tryd.ntmps19
  have hb0 : Below w.heap.size w (w.alloc (.cells #[.string s, .bool k, .bool d, .bool r] 30)) := (Below.refl _ _).alloc (Nat.le_refl _) _
  have HB0 := Lib.hid hb0
  clear hb0
  go_wp2_with fail
  cases hp : (patS (bl s)).isSome with
  | false =>
    have HP := Lib.hid hp
    clear hp
    refine (r_pattern_any s _ hs).mono ?_
    rw [HP.out]
    rintro e w1 ⟨rfl, hb1⟩
    have hb2 := below_next HB0.out hb1
    have HB2 := Lib.hid hb2
    clear hb1 hb2
    go_wp2_with fail
    go_ret
    refine ⟨ret_bool ?_, HB2.out⟩
    simp [goodR, HP.out]
  | true =>
    have HP := Lib.hid hp
    have hne : bl s ≠ [] := fun e => by rw [e, patS_nil] at hp; cases hp
    clear hp
    refine (r_pattern_any s _ hs).mono ?_
    rw [HP.out]
    rintro e w1 ⟨rfl, hb1⟩
    have hbox : w1.heap[w.heap.size]? = some (.cells #[.string s, .bool k, .bool d, .bool r] 30 (0, 0)) := by
      rw [hb1.block _ (by simp)]; exact heap_alloc_new w _
    have n0 : w1.cell? ⟨w.heap.size, 0, none⟩ = some (.string s) := by rw [cell_of_heap hbox]; rfl
    have n1 : w1.cell? ⟨w.heap.size, 1, none⟩ = some (.bool k) := by rw [cell_of_heap hbox]; rfl
    have n2 : w1.cell? ⟨w.heap.size, 2, none⟩ = some (.bool d) := by rw [cell_of_heap hbox]; rfl
    have n3 : w1.cell? ⟨w.heap.size, 3, none⟩ = some (.bool r) := by rw [cell_of_heap hbox]; rfl
    have hb2 := below_next HB0.out hb1
    have HB2 := Lib.hid hb2
    clear hb1 hb2 hbox
    have hsz : 0 < s.size := by
      rw [size_bl]; exact List.length_pos_iff.2 hne
    clear hne
    go_wp2_with fail
    · have h33 : ((s[0].toNat : Nat) : Int) = 33 := by assumption
      go_ret
      refine ⟨ret_bool ?_, HB2.out⟩
      simp [goodR, head_at s hsz, byte_is h33]
    · have h35 : ((s[0].toNat : Nat) : Int) = 35 := by assumption
      go_ret
      refine ⟨ret_bool ?_, HB2.out⟩
      simp [goodR, head_at s hsz, byte_is h35]
    · have h33 : ¬ ((s[0].toNat : Nat) : Int) = 33 := by assumption
      have h35 : ¬ ((s[0].toNat : Nat) : Int) = 35 := by assumption
      have hr : r = true := by assumption
      go_ret
      refine ⟨ret_bool ?_, HB2.out⟩
      have a : (((s[0].toNat : Nat) : Int) != 33) = (some s[0] != some 33) := bne_byte _ 33 (by omega)
      have b : (((s[0].toNat : Nat) : Int) != 35) = (some s[0] != some 35) := bne_byte _ 35 (by omega)
      simp [goodR, head_at s hsz, a, b, hr, HP.out]
    · have h33 : ¬ ((s[0].toNat : Nat) : Int) = 33 := by assumption
      have h35 : ¬ ((s[0].toNat : Nat) : Int) = 35 := by assumption
      have hr : ¬ r = true := by assumption
      refine (r_slash_is s _ _ hs rfl).mono ?_
      rintro e w2 ⟨rfl, hb2⟩
      have HB3 := Lib.hid (below_next HB2.out hb2)
      clear hb2
      go_wp2_with fail
      go_ret
      refine ⟨ret_bool ?_, HB3.out⟩
      have a : (((s[0].toNat : Nat) : Int) != 33) = (some s[0] != some 33) := bne_byte _ 33 (by omega)
      have b : (((s[0].toNat : Nat) : Int) != 35) = (some s[0] != some 35) := bne_byte _ 35 (by omega)
      simp [goodR, head_at s hsz, a, b, hr, HP.out]

def LineRes (r : PRule) (w : World) (e : Ending) (w' : World) : Prop := ∃ v, e = .returned (.string v) ∧ bl v = lineS r ∧ Below w.heap.size w w'
set_option maxHeartbeats 1000000 in
theorem r_line_any (s : ByteArray) (k d r : Bool) (w : World) (hs : s.size ≤ 65536) :
    Calls Tryd.prog 37 #[.agg #[.string s, .bool k, .bool d, .bool r]] w (LineRes ⟨bl s, k, d, r⟩ w) := by
  go_enter Tryd.func37, Tryd.ntmps37
  have hb0 : Below w.heap.size w (w.alloc (.cells #[.string s, .bool k, .bool d, .bool r] 30)) := (Below.refl _ _).alloc (Nat.le_refl _) _
  have HB0 := Lib.hid hb0
  clear hb0
  cases r
  · cases k <;> cases d <;> go_wp2_with fail
    all_goals (
      go_ret
      refine ⟨_, rfl, ?_, HB0.out⟩
      simp [lineS, bl])
  · cases k
    · skip
      go_wp2_with fail
      refine (r_slash_is s _ _ hs rfl).mono ?_
      rintro e w1 ⟨rfl, hb1⟩
      have hbox : w1.heap[w.heap.size]? = some (.cells #[.string s, .bool false, .bool d, .bool true] 30 (0, 0)) := by
        rw [hb1.block _ (by simp)]; exact heap_alloc_new w _
      have n0 : w1.cell? ⟨w.heap.size, 0, none⟩ = some (.string s) := by rw [cell_of_heap hbox]; rfl
      have n1 : w1.cell? ⟨w.heap.size, 1, none⟩ = some (.bool false) := by rw [cell_of_heap hbox]; rfl
      have n2 : w1.cell? ⟨w.heap.size, 2, none⟩ = some (.bool d) := by rw [cell_of_heap hbox]; rfl
      have n3 : w1.cell? ⟨w.heap.size, 3, none⟩ = some (.bool true) := by rw [cell_of_heap hbox]; rfl
      have HB2 := Lib.hid (below_next HB0.out hb1)
      clear hb1 hbox
      cases hc : (bl s).contains 47
      all_goals (
        have HC := Lib.hid hc
        clear hc
        cases d
        all_goals (
          go_wp2_with fail
          go_ret
          refine ⟨_, rfl, ?_, HB2.out⟩
          have := HC.out
          simp only [lineS, this]
          simp [bl]))
    · skip
      go_wp2_with fail
      refine (r_slash_is s _ _ hs rfl).mono ?_
      rintro e w1 ⟨rfl, hb1⟩
      have hbox : w1.heap[w.heap.size]? = some (.cells #[.string s, .bool true, .bool d, .bool true] 30 (0, 0)) := by
        rw [hb1.block _ (by simp)]; exact heap_alloc_new w _
      have n0 : w1.cell? ⟨w.heap.size, 0, none⟩ = some (.string s) := by rw [cell_of_heap hbox]; rfl
      have n1 : w1.cell? ⟨w.heap.size, 1, none⟩ = some (.bool true) := by rw [cell_of_heap hbox]; rfl
      have n2 : w1.cell? ⟨w.heap.size, 2, none⟩ = some (.bool d) := by rw [cell_of_heap hbox]; rfl
      have n3 : w1.cell? ⟨w.heap.size, 3, none⟩ = some (.bool true) := by rw [cell_of_heap hbox]; rfl
      have HB2 := Lib.hid (below_next HB0.out hb1)
      clear hb1 hbox
      cases hc : (bl s).contains 47
      all_goals (
        have HC := Lib.hid hc
        clear hc
        cases d
        all_goals (
          go_wp2_with fail
          go_ret
          refine ⟨_, rfl, ?_, HB2.out⟩
          have := HC.out
          simp only [lineS, this]
          simp [bl]))

end Go.Proofs.YtlipekkiaiaplaaDoor
