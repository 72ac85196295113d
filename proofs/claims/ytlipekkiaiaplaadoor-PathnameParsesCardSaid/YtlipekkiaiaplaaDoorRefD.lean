/- Contracts of the specification of chapter 18: Item.has, element. -/
import Derived.Test.YtlipekkiaiaplaaDoorRefC
import Derived.Test.YtlipekkiaiaplaaDoorGlobP
import Derived.Test.YtlipekkiaiaplaaDoorPatF
namespace Go.Proofs.YtlipekkiaiaplaaDoor
open Go.RowKit

/-- Runes behind a slice value. -/
def RunesAt (S : Nat → Prop) (w : World) (v : Value) (rs : List Int) : Prop := RowAt S w 1 v rs.length (rs.map (Value.int .i32))
theorem RunesAt.shape {S : Nat → Prop} {w : World} {v : Value} {rs : List Int} (h : RunesAt S w v rs) :
    ∃ a cap, v = .slice a rs.length cap ∧ rs.length ≤ cap ∧ cap ≤ maxLen ∧ ∀ (k : Nat) r, rs[k]? = some r → ∃ b o, a = some ⟨b, o, none⟩ ∧ S b ∧ w.cell? ⟨b, o + k, none⟩ = some (.int .i32 r) := by
  obtain ⟨_, a, cap, hv, hn, hm, h0⟩ := h
  refine ⟨a, cap, hv, hn, hm, fun k r hk => ?_⟩
  rcases h0 with h0 | ⟨b, o, ha, hb, hc⟩
  · simp [List.eq_nil_of_length_eq_zero h0] at hk
  · exact ⟨b, o, ha, hb, hc k _ (by simp [hk])⟩

theorem drop_head {rs : List Int} {k : Nat} {r : Int} {t : List Int} (h : rs.drop k = r :: t) : rs[k]? = some r ∧ t = rs.drop (k + 1) ∧ k < rs.length := by
  have h1 : k < rs.length := by
    rcases Nat.lt_or_ge k rs.length with h1 | h1
    · exact h1
    · rw [List.drop_eq_nil_of_le h1] at h; cases h
  rw [List.drop_eq_getElem_cons h1] at h
  simp only [List.cons.injEq] at h
  exact ⟨by rw [List.getElem?_eq_getElem h1, h.1], h.2.symm, h1⟩
/-- What an element is, by places. -/
theorem elem_at {rs : List Int} {k : Nat} {r : Int} {t : List Int} (h : elemS (rs.drop k) = some (r, t)) :
    (rs[k]? = some 92 ∧ rs[k + 1]? = some r ∧ t = rs.drop (k + 2) ∧ k + 2 ≤ rs.length) ∨ (rs[k]? = some r ∧ r ≠ 92 ∧ r ≠ 93 ∧ r ≠ 94 ∧ r ≠ 45 ∧ t = rs.drop (k + 1) ∧ k + 1 ≤ rs.length) := by
  cases hd : rs.drop k with
  | nil => rw [hd] at h; simp [elemS] at h
  | cons a l =>
    rw [hd] at h
    obtain ⟨h1, h2, h3⟩ := drop_head hd
    rw [elemS] at h
    split at h
    · rename_i ha
      subst ha
      left
      cases hl : l with
      | nil => rw [hl] at h; simp [headS] at h
      | cons q u =>
        rw [hl] at h
        simp [headS] at h
        obtain ⟨rfl, rfl⟩ := h
        rw [hl] at h2
        obtain ⟨h4, h5, h6⟩ := drop_head h2.symm
        exact ⟨h1, h4, h5, by omega⟩
    · split at h
      · simp at h
      · rename_i ha hb
        simp at h
        obtain ⟨rfl, rfl⟩ := h
        right
        refine ⟨h1, ha, fun e => hb (.inl e), fun e => hb (.inr (.inl e)), fun e => hb (.inr (.inr e)), h2, by omega⟩
theorem elem_none {rs : List Int} {k : Nat} (h : elemS (rs.drop k) = none) :
    rs.length ≤ k ∨ (rs[k]? = some 92 ∧ rs.length = k + 1) ∨ ∃ r, rs[k]? = some r ∧ (r = 93 ∨ r = 94 ∨ r = 45) := by
  cases hd : rs.drop k with
  | nil => left; exact List.drop_eq_nil_iff.1 hd
  | cons a l =>
    rw [hd] at h
    obtain ⟨h1, h2, h3⟩ := drop_head hd
    right
    rw [elemS] at h
    split at h
    · rename_i ha
      subst ha
      left
      cases hl : l with
      | nil => rw [hl] at h2; have := List.drop_eq_nil_iff.1 h2.symm; exact ⟨h1, by omega⟩
      | cons q u => rw [hl] at h; simp [headS] at h
    · split at h
      · rename_i hb; right; exact ⟨a, h1, hb⟩
      · simp at h
theorem beq_int {a b : Int} (h : a ≠ b) : (a == b) = false := by simpa using h
theorem bne_int {a b : Int} (h : a ≠ b) : (a != b) = true := by simpa using h

set_option maxHeartbeats 1000000 in
theorem r_elem_ok (S : Nat → Prop) (rs : List Int) (v : Value) (k : Nat) (kk r : Int) (t : List Int) (w : World) (hv : RunesAt S w v rs) (hkk : kk = k) (h : elemS (rs.drop k) = some (r, t)) :
    ∃ nx : Nat, t = rs.drop nx ∧ k < nx ∧ nx ≤ rs.length ∧ Calls Tryd.prog 89 #[v, .int .i64 kk] w fun e w' => e = .returned (.tuple #[.int .i32 r, .int .i64 nx, .bool true]) ∧ w = w' := by
  subst hkk
  obtain ⟨a, cap, rfl, hc, hm, hcell⟩ := hv.shape
  unfold maxLen at hm
  rcases elem_at h with ⟨h1, h2, h3, h4⟩ | ⟨h1, n1, n2, n3, n4, h3, h4⟩
  · refine ⟨k + 2, h3, by omega, h4, ?_⟩
    obtain ⟨b, o, rfl, _, c1⟩ := hcell k _ h1
    obtain ⟨b', o', he, _, c2⟩ := hcell (k + 1) _ h2
    cases he
    have c2' : w.cell? ⟨b, o + k + 1, none⟩ = some (.int .i32 r) := by rw [Nat.add_assoc]; exact c2
    have i1 : (k : Int) < (rs.length : Int) := by omega
    have i2 : (k : Int) + 1 < (rs.length : Int) := by omega
    clear hv h hcell h1 h2 h3
    go_enter Tryd.func89, Tryd.ntmps89
    go_wp2_with fail
    go_ret3
    exact ⟨rfl, rfl⟩
  · refine ⟨k + 1, h3, by omega, h4, ?_⟩
    obtain ⟨b, o, rfl, _, c1⟩ := hcell k _ h1
    have i1 : (k : Int) < (rs.length : Int) := by omega
    have b1 := beq_int n1
    have b2 := bne_int n2
    have b3 := bne_int n3
    have b4 := bne_int n4
    clear hv h hcell h1 h3 n1 n2 n3 n4
    go_enter Tryd.func89, Tryd.ntmps89
    go_wp2_with fail
    go_ret3
    exact ⟨rfl, rfl⟩
def ElemBad (w : World) (e : Ending) (w' : World) : Prop := ∃ x : Int, e = .returned (.tuple #[.int .i32 0, .int .i64 x, .bool false]) ∧ w = w'
set_option maxHeartbeats 1000000 in
theorem r_elem_bad (S : Nat → Prop) (rs : List Int) (v : Value) (k : Nat) (kk : Int) (w : World) (hv : RunesAt S w v rs) (hkk : kk = k) (hk : k ≤ 1099511627775) (h : elemS (rs.drop k) = none) :
    Calls Tryd.prog 89 #[v, .int .i64 kk] w (ElemBad w) := by
  subst hkk
  obtain ⟨a, cap, rfl, hc, hm, hcell⟩ := hv.shape
  unfold maxLen at hm
  rcases elem_none h with h1 | ⟨h1, h2⟩ | ⟨r, h1, h2⟩
  · have i1 : ¬ (k : Int) < (rs.length : Int) := by omega
    have i2 : decide ((k : Int) < (rs.length : Int)) = false := by simpa using i1
    clear hv h hcell i1
    go_enter Tryd.func89, Tryd.ntmps89
    go_wp2_with fail
    go_ret3
    exact ⟨_, rfl, rfl⟩
  · obtain ⟨b, o, rfl, _, c1⟩ := hcell k _ h1
    have i1 : (k : Int) < (rs.length : Int) := by omega
    have i2 : ¬ (k : Int) + 1 < (rs.length : Int) := by omega
    clear hv h hcell h1 h2
    go_enter Tryd.func89, Tryd.ntmps89
    go_wp2_with fail
    go_ret3
    exact ⟨_, rfl, rfl⟩
  · obtain ⟨b, o, rfl, _, c1⟩ := hcell k _ h1
    have i1 : (k : Int) < (rs.length : Int) := by
      have := (List.getElem?_eq_some_iff.1 h1).1; omega
    clear hv h hcell h1
    rcases h2 with rfl | rfl | rfl
    all_goals (
      go_enter Tryd.func89, Tryd.ntmps89
      go_wp2_with fail
      go_ret3
      exact ⟨_, rfl, rfl⟩)

theorem any_take {r : Int} {rs : List (Int × Int)} {k : Nat} {x : Int × Int} (h : rs[k]? = some x) : (rs.take (k + 1)).any (inR r) = ((rs.take k).any (inR r) || inR r x) := by
  rw [List.take_add_one, h]; simp

set_option maxHeartbeats 1000000 in
theorem r_has_any (S : Nat → Prop) (it : PItem) (bs : Bool) (r : Int) (v : Value) (w : World) (hv : RangesAt S w v it.ranges) :
    Calls Tryd.prog 90 #[.agg #[.bool bs, .bool (it.any || it.neg), v], .int .i32 r] w fun e w' => e = .returned (.bool (hasM it r)) ∧ Below w.heap.size w w' := by
  obtain ⟨a, cap, rfl, hcap, hm, h0⟩ : ∃ a cap, v = .slice a it.ranges.length cap ∧ it.ranges.length ≤ cap ∧ cap ≤ maxLen ∧ (it.ranges.length = 0 ∨ ∃ b o, a = some ⟨b, o, none⟩ ∧ S b ∧ ∀ (j : Nat) u, (flatR it.ranges)[j]? = some u → w.cell? ⟨b, o + j, none⟩ = some u) := by
    obtain ⟨_, a, cap, h1, h2, h3, h4⟩ := hv; exact ⟨a, cap, h1, h2, h3, h4⟩
  have H0 := Lib.hid h0
  clear hv h0
  unfold maxLen at hm
  obtain ⟨bn, hbn⟩ : ∃ bn, (it.any || it.neg) = bn := ⟨_, rfl⟩
  rw [hbn]
  have HBN := Lib.hid hbn
  clear hbn
  have hb0 : Below w.heap.size w (w.alloc (.cells #[.bool bs, .bool bn, .slice a it.ranges.length cap] 101)) := (Below.refl _ _).alloc (Nat.le_refl _) _
  have HB0 := Lib.hid hb0
  clear hb0
  go_enter Tryd.func90, Tryd.ntmps90
  go_wp2_with fail
  go_loopw [5, 11] (fun g i wr => ∃ k : Nat, k ≤ it.ranges.length ∧ i = .int .i64 k ∧ g = .bool ((it.ranges.take k).any (inR r)) ∧ Below (w.heap.size + 1) (w.alloc (.cells #[.bool bs, .bool bn, .slice a it.ranges.length cap] 101)) wr) (fun _ i _ => it.ranges.length - (intOf i).toNat)
  case atStart => exact ⟨0, Nat.zero_le _, rfl, rfl, Below.refl _ _⟩
  case round =>
    obtain ⟨k, hk, rfl, rfl, hb⟩ := hrel
    have HB := Lib.hid hb
    have hsz : w.heap.size + 1 ≤ wr.heap.size := by have := hb.size; simpa using this
    have hbx : wr.cell? ⟨w.heap.size, 1, none⟩ = some (.bool bn) := (hb.cell (p := ⟨w.heap.size, 1, none⟩) (by simp)).trans (by simp)
    clear hb
    by_cases hlt : k < it.ranges.length
    · obtain ⟨⟨lo, hi⟩, hx⟩ : ∃ x, it.ranges[k]? = some x := ⟨it.ranges[k], by simp [hlt]⟩
      obtain ⟨b, o, rfl, -, hcl⟩ := H0.out.resolve_left (by omega)
      obtain ⟨g1, g2⟩ := flatR_get hx
      have hbw : Below w.heap.size w wr := below_next HB0.out (by simpa using HB.out)
      have q1 := hcl _ _ g1
      have q2 := hcl _ _ g2
      have c1 : wr.cell? ⟨b, o + k * 2, none⟩ = some (.int .i32 lo) := (hbw.cell (p := ⟨b, o + k * 2, none⟩) (block_lt q1)).trans q1
      have c2 : wr.cell? ⟨b, o + k * 2 + 1, none⟩ = some (.int .i32 hi) := by
        have := (hbw.cell (p := ⟨b, o + (k * 2 + 1), none⟩) (block_lt q2)).trans q2
        rw [show o + k * 2 + 1 = o + (k * 2 + 1) by omega]; exact this
      have HX := Lib.hid hx
      clear hcl g1 g2 q1 q2 hx hbw
      have hat := any_take (r := r) HX.out
      have HAT := Lib.hid hat
      clear hat
      have hbr : Below (w.heap.size + 1) (w.alloc (.cells #[.bool bs, .bool bn, .slice (some ⟨b, o, none⟩) it.ranges.length cap] 101)) (wr.alloc (.cells #[.int .i32 lo, .int .i32 hi] 105)) := HB.out.alloc hsz _
      have HBR := Lib.hid hbr
      clear hbr
      cases hold : (it.ranges.take k).any (inR r)
      · have HOLD := Lib.hid hold
        clear hold
        by_cases hlo : lo ≤ r
        · by_cases hhi : r ≤ hi
          · go_wp2_with fail
            go_roundw
            case rel => exact ⟨k + 1, by omega, by go_num, by rw [HAT.out, HOLD.out]; simp [inR, hlo, hhi], HBR.out⟩
            case measure => simp [intOf]; omega
          · have e2 : decide (r ≤ hi) = false := by simpa using hhi
            go_wp2_with fail
            go_roundw
            case rel => exact ⟨k + 1, by omega, by go_num, by rw [HAT.out, HOLD.out]; simp [inR, hhi], HBR.out⟩
            case measure => simp [intOf]; omega
        · have e1 : decide (lo ≤ r) = false := by simpa using hlo
          go_wp2_with fail
          go_roundw
          case rel => exact ⟨k + 1, by omega, by go_num, by rw [HAT.out, HOLD.out]; simp [inR, hlo], HBR.out⟩
          case measure => simp [intOf]; omega
      · have HOLD := Lib.hid hold
        clear hold
        go_wp2_with fail
        go_roundw
        case rel => exact ⟨k + 1, by omega, by go_num, by rw [HAT.out, HOLD.out]; simp, HBR.out⟩
        case measure => simp [intOf]; omega
    · have hall : (it.ranges.take k).any (inR r) = it.ranges.any (inR r) := by rw [List.take_of_length_le (by omega)]
      have HALL := Lib.hid hall
      clear hall
      go_wp2_with fail
      go_ret
      refine ⟨ret_bool ?_, below_next HB0.out (by simpa using HB.out)⟩
      unfold hasM
      rw [HALL.out, HBN.out]
      cases it.ranges.any (inR r) <;> cases bn <;> rfl

end Go.Proofs.YtlipekkiaiaplaaDoor
