/- Contracts of package pathname: item.matches. -/
import Derived.Test.YtlipekkiaiaplaaDoorPatE
namespace Go.Proofs.YtlipekkiaiaplaaDoor
open Go.RowKit

set_option maxHeartbeats 400000 in
theorem inRange_any (lo hi r : Int) (pb : Nat) (w : World) (hr : w.cell? ⟨pb, 0, none⟩ = some (.int .i32 r)) :
    Calls Tryd.prog 104 #[.agg #[.int .i32 lo, .int .i32 hi], .pointer (some ⟨pb, 0, none⟩)] w fun e w' => e = .returned (.bool (inR r (lo, hi))) ∧ Below w.heap.size w w' := by
  have hlt := block_lt hr
  simp only at hlt
  have hne : ¬ pb = w.heap.size := by omega
  by_cases h1 : lo ≤ r
  · go_enter Tryd.func104, Tryd.ntmps104
    go_wp2
    go_ret
    refine ⟨ret_bool ?_, (Below.refl _ _).alloc (Nat.le_refl _) _⟩
    simp [inR, h1]
  · have e1 : decide (lo ≤ r) = false := by simpa using h1
    go_enter Tryd.func104, Tryd.ntmps104
    go_wp2
    go_ret
    refine ⟨ret_bool ?_, (Below.refl _ _).alloc (Nat.le_refl _) _⟩
    simp [inR]; omega

/-- Where the first range that has r lies. -/
def idxR (r : Int) : List (Int × Int) → Nat → Int
  | [], _ => -1
  | x :: t, k => if inR r x then (k : Int) else idxR r t (k + 1)
theorem idxR_any (r : Int) : ∀ (rs : List (Int × Int)) (k : Nat), decide (0 ≤ idxR r rs k) = rs.any (inR r)
  | [], _ => by simp [idxR]
  | x :: t, k => by
    unfold idxR
    by_cases h : inR r x = true
    · simp [h]
    · have h' : inR r x = false := by simpa using h
      rw [if_neg h, idxR_any r t (k + 1)]; simp [h']
theorem flatR_get : ∀ {rs : List (Int × Int)} {k : Nat} {x : Int × Int}, rs[k]? = some x → (flatR rs)[k * 2]? = some (.int .i32 x.1) ∧ (flatR rs)[k * 2 + 1]? = some (.int .i32 x.2)
  | [], k, x, h => by simp at h
  | y :: rs, 0, x, h => by simp at h; subst h; exact ⟨rfl, rfl⟩
  | y :: rs, k + 1, x, h => by
    have := flatR_get (rs := rs) (k := k) (x := x) (by simpa using h)
    rw [show (k + 1) * 2 = k * 2 + 1 + 1 by omega]
    simp only [flatR, List.flatMap_cons, List.cons_append, List.nil_append, List.getElem?_cons_succ]
    exact this
theorem idxR_drop {r : Int} {rs : List (Int × Int)} {k : Nat} {x : Int × Int} (h : rs[k]? = some x) : idxR r (rs.drop k) k = if inR r x then (k : Int) else idxR r (rs.drop (k + 1)) (k + 1) := by
  obtain ⟨hk, rfl⟩ := List.getElem?_eq_some_iff.1 h
  rw [List.drop_eq_getElem_cons hk, idxR]

set_option maxHeartbeats 400000 in
theorem indexFunc_any (S : Nat → Prop) (rs : List (Int × Int)) (r : Int) (pb : Nat) (v : Value) (w : World) (hv : RangesAt S w v rs) (hr : w.cell? ⟨pb, 0, none⟩ = some (.int .i32 r)) :
    Calls Tryd.prog 113 #[v, .func (.func 104) #[] #[.pointer (some ⟨pb, 0, none⟩)]] w fun e w' => e = .returned (.int .i64 (idxR r rs 0)) ∧ Below w.heap.size w w' := by
  obtain ⟨hl, a, cap, rfl, hn, hm, h0⟩ := hv
  have H0 := Lib.hid h0
  have HR := Lib.hid hr
  clear h0 hl hr
  unfold maxLen at hm
  go_enter Tryd.func113, Tryd.ntmps113
  go_wp2_with fail
  go_loopw [8] (fun i wr => ∃ k : Nat, k ≤ rs.length ∧ i = .int .i64 k ∧ Below w.heap.size w wr ∧ idxR r rs 0 = idxR r (rs.drop k) k) (fun i _ => rs.length - (intOf i).toNat)
  case atStart => exact ⟨0, Nat.zero_le _, rfl, Below.refl _ _, rfl⟩
  case round =>
    obtain ⟨k, hk, rfl, hb, hc⟩ := hrel
    have HB := Lib.hid hb
    have HC := Lib.hid hc
    clear hb hc
    by_cases hlt : k < rs.length
    · obtain ⟨⟨lo, hi⟩, hx⟩ : ∃ x, rs[k]? = some x := ⟨rs[k], by simp [hlt]⟩
      obtain ⟨b, o, rfl, -, hcl⟩ := H0.out.resolve_left (by omega)
      obtain ⟨g1, g2⟩ := flatR_get hx
      have q1 := hcl _ _ g1
      have q2 := hcl _ _ g2
      have c1 : wr.cell? ⟨b, o + k * 2, none⟩ = some (.int .i32 lo) := (HB.out.cell (p := ⟨b, o + k * 2, none⟩) (block_lt q1)).trans q1
      have c2 : wr.cell? ⟨b, o + k * 2 + 1, none⟩ = some (.int .i32 hi) := by
        have := (HB.out.cell (p := ⟨b, o + (k * 2 + 1), none⟩) (block_lt q2)).trans q2
        rw [show o + k * 2 + 1 = o + (k * 2 + 1) by omega]; exact this
      have hr2 : wr.cell? ⟨pb, 0, none⟩ = some (.int .i32 r) := (HB.out.cell (p := ⟨pb, 0, none⟩) (block_lt HR.out)).trans HR.out
      have HR2 := Lib.hid hr2
      have HX := Lib.hid hx
      clear hcl g1 g2 q1 q2 hr2 hx
      cases hin : inR r (lo, hi)
      · have HIN := Lib.hid hin
        clear hin
        go_wp2_with (go_at_call 104; refine (inRange_any lo hi r pb _ HR2.out).mono ?_; rintro e w1 ⟨rfl, hb1⟩; rw [HIN.out]; have HB1 := Lib.hid hb1; clear hb1)
        go_roundw
        case rel => exact ⟨k + 1, by omega, by go_num, below_next HB.out HB1.out, by rw [HC.out, idxR_drop HX.out, HIN.out]; rfl⟩
        case measure => simp [intOf]; omega
      · have HIN := Lib.hid hin
        clear hin
        go_wp2_with (go_at_call 104; refine (inRange_any lo hi r pb _ HR2.out).mono ?_; rintro e w1 ⟨rfl, hb1⟩; rw [HIN.out]; have HB1 := Lib.hid hb1; clear hb1)
        go_ret
        exact ⟨ret_int (by rw [HC.out, idxR_drop HX.out, HIN.out]; rfl), below_next HB.out HB1.out⟩
    · go_wp2_with fail
      go_ret
      exact ⟨ret_int (by rw [HC.out, List.drop_eq_nil_of_le (by omega)]; rfl), HB.out⟩
set_option maxHeartbeats 400000 in
theorem containsFunc_any (S : Nat → Prop) (rs : List (Int × Int)) (r : Int) (pb : Nat) (v : Value) (w : World) (hv : RangesAt S w v rs) (hr : w.cell? ⟨pb, 0, none⟩ = some (.int .i32 r)) :
    Calls Tryd.prog 103 #[v, .func (.func 104) #[] #[.pointer (some ⟨pb, 0, none⟩)]] w fun e w' => e = .returned (.bool (rs.any (inR r))) ∧ Below w.heap.size w w' := by
  have HV := Lib.hid hv
  have HR := Lib.hid hr
  clear hv hr
  go_enter Tryd.func103, Tryd.ntmps103
  go_wp2_with fail
  refine (indexFunc_any S rs r pb v w HV.out HR.out).mono ?_
  rintro e w1 ⟨rfl, hb1⟩
  have HB := Lib.hid hb1
  clear hb1
  go_wp2_with fail
  go_ret
  exact ⟨ret_bool (idxR_any r rs 0), HB.out⟩

set_option maxHeartbeats 400000 in
theorem itemMatches_any (S : Nat → Prop) (it : PItem) (r : Int) (v : Value) (w : World) (hv : RangesAt S w v it.ranges) :
    Calls Tryd.prog 88 #[.agg #[.bool it.star, .bool it.any, .bool it.neg, v], .int .i32 r] w fun e w' => e = .returned (.bool (itemM it r)) ∧ Below w.heap.size w w' := by
  obtain ⟨a, cap, rfl⟩ : ∃ a cap, v = .slice a it.ranges.length cap := by obtain ⟨_, a, cap, h, _⟩ := hv; exact ⟨a, cap, h⟩
  have HV := Lib.hid hv
  clear hv
  cases hany : it.any
  · have HA := Lib.hid hany
    clear hany
    have hbl : Below w.heap.size w ((w.alloc (.cells #[.bool it.star, .bool false, .bool it.neg, .slice a it.ranges.length cap] 116)).alloc (.cells #[.int .i32 r] 21)) := ((Below.refl _ _).alloc (Nat.le_refl _) _).alloc (by simp) _
    have HBL := Lib.hid hbl
    clear hbl
    go_enter Tryd.func88, Tryd.ntmps88
    go_wp2_with fail
    refine (containsFunc_any S it.ranges r (w.heap.size + 1) _ _ (RowAt.below HV.out (by omega) HBL.out) (by simp)).mono ?_
    rintro e w1 ⟨rfl, hb1⟩
    have hc2 : w1.cell? ⟨w.heap.size, 2, none⟩ = some (.bool it.neg) := by
      rw [hb1.cell (p := ⟨w.heap.size, 2, none⟩) (by simp; omega)]; simp
    have HB := Lib.hid hb1
    clear hb1
    go_wp2_with fail
    go_ret
    refine ⟨ret_bool ?_, below_next HBL.out HB.out⟩
    unfold itemM
    rw [HA.out]
    cases it.ranges.any (inR r) <;> cases it.neg <;> rfl
  · have HA := Lib.hid hany
    clear hany
    go_enter Tryd.func88, Tryd.ntmps88
    go_wp2_with fail
    go_ret
    refine ⟨ret_bool ?_, ((Below.refl _ _).alloc (Nat.le_refl _) _).alloc (by simp) _⟩
    simp [itemM, HA.out]

theorem itemStar_any (it : PItem) (v : Value) (w : World) : Calls Tryd.prog 87 #[.agg #[.bool it.star, .bool it.any, .bool it.neg, v]] w fun e w' => e = .returned (.bool it.star) ∧ Below w.heap.size w w' := by
  go_enter Tryd.func87, Tryd.ntmps87
  go_wp2
  go_ret
  exact ⟨rfl, (Below.refl _ _).alloc (Nat.le_refl _) _⟩
theorem compDbl_any (c : PComp) (v : Value) (w : World) : Calls Tryd.prog 68 #[.agg #[.bool c.dbl, v]] w fun e w' => e = .returned (.bool c.dbl) ∧ Below w.heap.size w w' := by
  go_enter Tryd.func68, Tryd.ntmps68
  go_wp2
  go_ret
  exact ⟨rfl, (Below.refl _ _).alloc (Nat.le_refl _) _⟩

end Go.Proofs.YtlipekkiaiaplaaDoor
