/- Contracts of the specification of chapter 18: Pattern, matches. -/
import Derived.Test.YtlipekkiaiaplaaDoorRefF
import Derived.Test.YtlipekkiaiaplaaDoorDivB
namespace Go.Proofs.YtlipekkiaiaplaaDoor
open Go.RowKit

theorem seq_tail1 {α : Type} {S : Nat → Prop} {w : World} {sz b o : Nat} {R : List Value → α → Prop} {x : α} {xs : List α} (h : SeqAt S w sz R (.slice (some ⟨b, o, none⟩) (xs.length + 1) 1) (x :: xs)) : xs = [] ∧ SeqAt S w sz R (.slice (some ⟨b, o, none⟩) 0 0) ([] : List α) := by
  obtain ⟨cells, ⟨_, a, cap, hv, hn, hm, h0⟩, hr⟩ := h
  cases hv
  refine ⟨List.eq_nil_of_length_eq_zero (by simp only [List.length_cons] at hn; omega), [], ⟨by simp, _, 0, rfl, Nat.le_refl _, by unfold maxLen; omega, .inl rfl⟩, rfl⟩
theorem seq_tail2 {α : Type} {S : Nat → Prop} {w : World} {sz b o cap : Nat} {R : List Value → α → Prop} {x : α} {xs : List α} (hs : ∀ c x, R c x → c.length = sz) (h : SeqAt S w sz R (.slice (some ⟨b, o, none⟩) (xs.length + 1) cap) (x :: xs)) :
    SeqAt S w sz R (.slice (some ⟨b, o + sz, none⟩) xs.length (cap - 1)) xs := by
  obtain ⟨cells, ⟨hl, a, cap, hv, hn, hm, h0⟩, hr⟩ := h
  cases hv
  obtain ⟨c, rest, rfl, hc, hr2⟩ := hr
  have hcl := hs c x hc
  simp only [List.length_cons] at hn hl
  refine ⟨rest, ⟨by rw [List.length_append, hcl, Nat.add_mul] at hl; omega, _, _, rfl, by omega, by omega, ?_⟩, hr2⟩
  rcases h0 with h0 | ⟨b', o', hab, hb, hcc⟩
  · simp at h0
  · cases hab
    right
    refine ⟨b, o + sz, rfl, hb, fun j u hj => ?_⟩
    have := hcc (sz + j) u (by rw [List.getElem?_append_right (by omega), hcl, show sz + j - sz = j by omega]; exact hj)
    rw [Nat.add_assoc]; exact this
theorem seq_head {α : Type} {S : Nat → Prop} {w : World} {sz : Nat} {R : List Value → α → Prop} {v : Value} {x : α} {xs : List α} (hs : ∀ c x, R c x → c.length = sz) (h : SeqAt S w sz R v (x :: xs)) :
    ∃ b o cap c, v = .slice (some ⟨b, o, none⟩) (xs.length + 1) cap ∧ xs.length + 1 ≤ cap ∧ cap ≤ maxLen ∧ R c x ∧ ∀ j, j < sz → w.cell? ⟨b, o + j, none⟩ = c[j]? := by
  obtain ⟨a, cap, hv, h1, h2, h3⟩ := SeqAt.shape h hs
  obtain ⟨b, o, c, hab, _, hc, _, hj⟩ := h3 0 x rfl
  exact ⟨b, o, cap, c, by rw [hv, hab]; rfl, h1, h2, hc, fun j hjs => by have := hj j hjs; rw [Nat.zero_mul, Nat.zero_add] at this; exact this⟩
def RuneR (c : List Value) (r : Int) : Prop := c = [.int .i32 r]
theorem RuneR.len (c : List Value) (r : Int) (h : RuneR c r) : c.length = 1 := by rw [h]; rfl
theorem rows_runes : ∀ rs : List Int, RowsIn RuneR (rs.map (Value.int .i32)) rs
  | [] => rfl
  | r :: rs => ⟨[.int .i32 r], rs.map (Value.int .i32), rfl, rfl, rows_runes rs⟩
theorem runes_rows : ∀ {rs : List Int} {cells : List Value}, RowsIn RuneR cells rs → cells = rs.map (Value.int .i32)
  | [], _, h => h
  | r :: rs, _, h => by obtain ⟨c, rest, rfl, rfl, h2⟩ := h; rw [runes_rows h2]; rfl
theorem runes_seq {S : Nat → Prop} {w : World} {v : Value} {rs : List Int} (h : RunesAt S w v rs) : SeqAt S w 1 RuneR v rs := ⟨_, h, rows_runes rs⟩
theorem seq_runes {S : Nat → Prop} {w : World} {v : Value} {rs : List Int} (h : SeqAt S w 1 RuneR v rs) : RunesAt S w v rs := by
  obtain ⟨cells, h1, h2⟩ := h
  rw [runes_rows h2] at h1; exact h1

set_option maxHeartbeats 2000000 in
theorem r_pattern_any (s : ByteArray) (w : World) (hs : s.size ≤ 65536) :
    Calls Tryd.prog 16 #[.string s] w fun e w' => e = .returned (.bool (patS (bl s)).isSome) ∧ Below w.heap.size w w' := by
  go_enter Tryd.func16, Tryd.ntmps16
  go_wp2_with fail
  refine (r_divide_any s w (by omega)).mono ?_
  rintro e w1 ⟨v, xs, rfl, hx, hv, hb1⟩
  obtain ⟨a, cap, rfl, hc, hcm, hcell⟩ := hv.shape
  have hxl : xs.length ≤ 65537 := by
    have h1 : (splitL 47 (bl s)).length = xs.length := by rw [← hx]; simp
    have h2 := splitL_len_le 47 (bl s)
    rw [← size_bl] at h2
    omega
  have hok : (patS (bl s)).isSome = (decide (xs.length ≤ 16) && decide (s.size ≤ 512) && textB (bl s) && (xs.map bl).all partOk) := by
    rw [patS_ok, ← hx, List.length_map, size_bl]
  have HOK := Lib.hid hok
  have HX := Lib.hid hx
  have HC := Lib.hid hcell
  have HB1 := Lib.hid hb1
  clear hx hcell hb1 hv hok
  unfold maxLen at hcm
  rcases Nat.lt_or_ge 16 xs.length with h16 | h16
  · go_wp2_with fail
    go_ret
    refine ⟨ret_bool ?_, HB1.out⟩
    rw [HOK.out]
    have : decide (xs.length ≤ 16) = false := by simp; omega
    rw [this]; rfl
  · rcases Nat.lt_or_ge 512 s.size with h5 | h5
    · go_wp2_with fail
      go_ret
      refine ⟨ret_bool ?_, HB1.out⟩
      rw [HOK.out]
      have : decide (s.size ≤ 512) = false := by simp; omega
      rw [this]; simp
    · go_wp2_with fail
      cases htx : textB (bl s)
      · have HTX := Lib.hid htx
        clear htx
        refine (r_plain_any s w1 (by omega)).mono ?_
        rintro e w2 ⟨rfl, hb2⟩
        rw [HTX.out]
        have HB2 := Lib.hid hb2
        clear hb2
        go_wp2_with fail
        go_ret
        refine ⟨ret_bool ?_, below_next HB1.out HB2.out⟩
        rw [HOK.out, HTX.out]; simp
      · have HTX := Lib.hid htx
        clear htx
        refine (r_plain_any s w1 (by omega)).mono ?_
        rintro e w2 ⟨rfl, hb2⟩
        rw [HTX.out]
        have HB2 := Lib.hid hb2
        clear hb2
        have hok2 : (patS (bl s)).isSome = (xs.map bl).all partOk := by
          rw [HOK.out, HTX.out]
          have e1 : decide (xs.length ≤ 16) = true := by simp; omega
          have e2 : decide (s.size ≤ 512) = true := by simp; omega
          rw [e1, e2]; simp
        have HOK2 := Lib.hid hok2
        clear hok2 HOK
        go_wp2_with fail
        go_loopw [25] (fun i wr => ∃ k : Nat, k ≤ xs.length ∧ i = .int .i64 k ∧ Below w2.heap.size w2 wr ∧ ∀ (j : Nat) x, j < k → xs[j]? = some x → partOk (bl x) = true) (fun i _ => xs.length - (intOf i).toNat)
        case atStart => exact ⟨0, Nat.zero_le _, rfl, Below.refl _ _, fun j x hj => by omega⟩
        case round =>
          obtain ⟨k, hk, rfl, hb, hall⟩ := hrel
          have HA := Lib.hid hall
          have HB := Lib.hid hb
          clear hall hb
          by_cases hlt : k < xs.length
          · obtain ⟨x, hx⟩ : ∃ x, xs[k]? = some x := ⟨xs[k], by simp [hlt]⟩
            obtain ⟨b, o, rfl, _, hcl⟩ := HC.out k x hx
            have hbb := below_next HB2.out HB.out
            have hcell : wr.cell? ⟨b, o + k, none⟩ = some (.string x) := (hbb.cell (p := ⟨b, o + k, none⟩) (block_lt hcl)).trans hcl
            have HK := Lib.hid hx
            have hxs : x.size ≤ 65536 := by have := part_size HX.out hx; omega
            clear hx hcl hbb
            go_wp2_with fail
            refine (r_items_any x wr hxs).mono ?_
            cases hit : itemsL (runesL (bl x)) with
            | none =>
              have HIT := Lib.hid hit
              clear hit
              rintro e w3 ⟨rfl, hb3⟩
              have HB3 := Lib.hid hb3
              clear hb3
              go_wp2_with fail
              go_ret
              refine ⟨ret_bool ?_, below_next (below_next HB1.out HB2.out) (below_next HB.out HB3.out)⟩
              rw [HOK2.out]; symm
              rw [List.all_map, List.all_eq_false]
              exact ⟨x, List.mem_of_getElem? HK.out, by simp [partOk, HIT.out]⟩
            | some its =>
              have HIT := Lib.hid hit
              clear hit
              rintro e w3 ⟨iv, rfl, hiv, hb3⟩
              obtain ⟨ia, ic, rfl, -, -, -⟩ := SeqAt.shape hiv RItemR.len
              have HB3 := Lib.hid hb3
              clear hb3 hiv
              rcases Nat.eq_zero_or_pos its.length with h0 | h0
              · have e0 : decide (0 < its.length) = false := by simp [h0]
                rw [e0]
                have H0 := Lib.hid h0
                clear h0 e0
                go_wp2_with fail
                go_ret
                refine ⟨ret_bool ?_, below_next (below_next HB1.out HB2.out) (below_next HB.out HB3.out)⟩
                rw [HOK2.out]; symm
                rw [List.all_map, List.all_eq_false]
                exact ⟨x, List.mem_of_getElem? HK.out, by simp [partOk, HIT.out, H0.out]⟩
              · have e0 : decide (0 < its.length) = true := by simpa using h0
                rw [e0]
                have H0 := Lib.hid h0
                clear h0 e0
                go_wp2_with fail
                go_roundw
                case rel =>
                  refine ⟨k + 1, by omega, by go_num, below_next HB.out HB3.out, fun j x' hj hx' => ?_⟩
                  rcases Nat.lt_or_ge j k with h | h
                  · exact HA.out j x' h hx'
                  · obtain rfl : j = k := by omega
                    have := HK.out.symm.trans hx'
                    cases this
                    have := H0.out
                    simp [partOk, HIT.out, this]
                case measure => simp [intOf]; omega
          · go_wp2_with fail
            go_ret
            refine ⟨ret_bool ?_, below_next (below_next HB1.out HB2.out) HB.out⟩
            rw [HOK2.out]; symm
            rw [List.all_map, List.all_eq_true]
            intro x hm
            obtain ⟨j, hj, rfl⟩ := List.getElem_of_mem hm
            exact HA.out j _ (by omega) (by simp)

end Go.Proofs.YtlipekkiaiaplaaDoor
