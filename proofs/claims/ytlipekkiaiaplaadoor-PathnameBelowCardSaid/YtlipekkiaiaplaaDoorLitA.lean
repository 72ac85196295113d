/- Contracts of the laws of chapter 18: literal. -/
import Derived.Test.YtlipekkiaiaplaaDoorLitP
import Derived.Test.YtlipekkiaiaplaaDoorAwake
import Derived.Laws.BytesArg
namespace Go.Proofs.YtlipekkiaiaplaaDoor
open Go.RowKit

def LitRes (s : ByteArray) (w : World) (e : Ending) (w' : World) : Prop := ∃ t, e = .returned (.string t) ∧ bl t = litFrom true (bl s) ∧ Below w.heap.size w w'
theorem conv_one (w : World) (c : UInt8) : (convert 71 9 (.slice (some ⟨w.heap.size, 0, none⟩) 1 1)).run Tryd.prog (w.alloc (.cells #[.int .u8 (c.toNat : Int)] 5)) = .ok (.string ⟨#[c]⟩) (w.alloc (.cells #[.int .u8 (c.toNat : Int)] 5)) := by
  have h := run_convert_bytes_arg (P := Tryd.prog) (w.alloc (.cells #[.int .u8 (c.toNat : Int)] 5)) 71 5 Tryd.underlying71 Tryd.underlying5 w.heap.size 0 1 1 [(c.toNat : Int)] rfl (fun i hi => by
    obtain rfl : i = 0 := by omega
    simp) 9 Tryd.underlying9
  have e : strOfNums [(c.toNat : Int)] = ⟨#[c]⟩ := by simp [strOfNums]
  rw [e] at h
  exact h
theorem one_size (c : UInt8) : (⟨#[c]⟩ : ByteArray).size = 1 := rfl
theorem lit_step (s : ByteArray) (k : Nat) (h : k < s.size) (f : Bool) : litFrom f ((bl s).drop k) = (if escB f s[k] then [92, s[k]] else [s[k]]) ++ litFrom (decide (k + 1 = 0)) ((bl s).drop (k + 1)) := by
  have h2 : k < (bl s).length := by rw [← size_bl]; exact h
  rw [List.drop_eq_getElem_cons h2, litFrom, ← byte_bl s k h]
  have : decide (k + 1 = 0) = false := by simp
  rw [this]
  split <;> rfl
set_option maxHeartbeats 1000000 in
set_option maxRecDepth 100000 in
theorem literal_any (s : ByteArray) (w : World) (hs : s.size ≤ 65536) : Calls Tryd.prog 24 #[.string s] w (LitRes s w) := by
  go_enter Tryd.func24, Tryd.ntmps24
  go_wp2_with fail
  go_loopw [3, 4] (fun o i wr => ∃ (k : Nat) (t : ByteArray), k ≤ s.size ∧ i = .int .i64 k ∧ o = .string t ∧ t.size ≤ 2 * k ∧ Below w.heap.size w wr ∧ litFrom true (bl s) = bl t ++ litFrom (decide (k = 0)) ((bl s).drop k)) (fun _ i _ => s.size - (intOf i).toNat)
  case atStart => exact ⟨0, ⟨#[]⟩, Nat.zero_le _, rfl, rfl, Nat.le_refl 0, Below.refl _ _, by simp [bl]⟩
  case round =>
    obtain ⟨k, t, hk, rfl, rfl, ht, hb, hl⟩ := hrel
    have HB := Lib.hid hb
    have HL := Lib.hid hl
    clear hb hl
    by_cases hlt : k < s.size
    · have HST := Lib.hid (lit_step s k hlt (decide (k = 0)))
      have hconv := conv_one wr s[k]
      cases hesc : escB (decide (k = 0)) s[k]
      · have HE := Lib.hid hesc
        have h := hesc
        rw [escB_I] at h
        simp only [escI, specI, Bool.or_eq_false_iff, Bool.and_eq_false_iff] at h
        obtain ⟨⟨⟨⟨h42, h63⟩, h91⟩, h92⟩, h33⟩ := h
        clear hesc
        by_cases h0 : k = 0
        · have e0 : ((k : Int) == 0) = true := by simp [h0]
          have hh : (((s[k].toNat : Nat) : Int) == 33) = false ∧ (((s[k].toNat : Nat) : Int) == 35) = false := by
            rcases h33 with h33 | h33
            · simp [h0] at h33
            · exact h33
          obtain ⟨g33, g35⟩ := hh
          clear h33 h0
          go_wp2_with fail
          go_roundw
          case rel =>
            refine ⟨k + 1, t ++ ⟨#[s[k]]⟩, by omega, by go_num, rfl, by rw [ByteArray.size_append, one_size]; omega, HB.out.alloc HB.out.size _, ?_⟩
            rw [HL.out, HST.out, HE.out, bl_append]
            simp [bl]
          case measure => simp [intOf]; omega
        · have e0 : ((k : Int) == 0) = false := by simp [h0]
          clear h33 h0
          go_wp2_with fail
          go_roundw
          case rel =>
            refine ⟨k + 1, t ++ ⟨#[s[k]]⟩, by omega, by go_num, rfl, by rw [ByteArray.size_append, one_size]; omega, HB.out.alloc HB.out.size _, ?_⟩
            rw [HL.out, HST.out, HE.out, bl_append]
            simp [bl]
          case measure => simp [intOf]; omega
      · have HE := Lib.hid hesc
        have h := hesc
        rw [escB_I] at h
        simp only [escI, specI, Bool.or_eq_true, Bool.and_eq_true, decide_eq_true_eq] at h
        clear hesc
        cases h42 : (((s[k].toNat : Nat) : Int) == 42)
        · cases h63 : (((s[k].toNat : Nat) : Int) == 63)
          · cases h91 : (((s[k].toNat : Nat) : Int) == 91)
            · cases h92 : (((s[k].toNat : Nat) : Int) == 92)
              · rw [h42, h63, h91, h92] at h
                simp only [Bool.false_eq_true, or_self, false_or] at h
                obtain ⟨h0, h33⟩ := h
                have e0 : ((k : Int) == 0) = true := by simp [h0]
                clear h0
                cases g33 : (((s[k].toNat : Nat) : Int) == 33)
                · rw [g33] at h33
                  simp only [Bool.false_eq_true, false_or] at h33
                  go_wp2_with fail
                  go_roundw
                  case rel =>
                    refine ⟨k + 1, (t ++ ⟨#[92]⟩) ++ ⟨#[s[k]]⟩, by omega, by go_num, rfl, by rw [ByteArray.size_append, ByteArray.size_append, one_size, one_size]; omega, HB.out.alloc HB.out.size _, ?_⟩
                    rw [HL.out, HST.out, HE.out, bl_append, bl_append]
                    simp [bl]
                  case measure => simp [intOf]; omega
                · clear h33
                  go_wp2_with fail
                  go_roundw
                  case rel =>
                    refine ⟨k + 1, (t ++ ⟨#[92]⟩) ++ ⟨#[s[k]]⟩, by omega, by go_num, rfl, by rw [ByteArray.size_append, ByteArray.size_append, one_size, one_size]; omega, HB.out.alloc HB.out.size _, ?_⟩
                    rw [HL.out, HST.out, HE.out, bl_append, bl_append]
                    simp [bl]
                  case measure => simp [intOf]; omega
              · clear h
                go_wp2_with fail
                go_roundw
                case rel =>
                  refine ⟨k + 1, (t ++ ⟨#[92]⟩) ++ ⟨#[s[k]]⟩, by omega, by go_num, rfl, by rw [ByteArray.size_append, ByteArray.size_append, one_size, one_size]; omega, HB.out.alloc HB.out.size _, ?_⟩
                  rw [HL.out, HST.out, HE.out, bl_append, bl_append]
                  simp [bl]
                case measure => simp [intOf]; omega
            · clear h
              go_wp2_with fail
              go_roundw
              case rel =>
                refine ⟨k + 1, (t ++ ⟨#[92]⟩) ++ ⟨#[s[k]]⟩, by omega, by go_num, rfl, by rw [ByteArray.size_append, ByteArray.size_append, one_size, one_size]; omega, HB.out.alloc HB.out.size _, ?_⟩
                rw [HL.out, HST.out, HE.out, bl_append, bl_append]
                simp [bl]
              case measure => simp [intOf]; omega
          · clear h
            go_wp2_with fail
            go_roundw
            case rel =>
              refine ⟨k + 1, (t ++ ⟨#[92]⟩) ++ ⟨#[s[k]]⟩, by omega, by go_num, rfl, by rw [ByteArray.size_append, ByteArray.size_append, one_size, one_size]; omega, HB.out.alloc HB.out.size _, ?_⟩
              rw [HL.out, HST.out, HE.out, bl_append, bl_append]
              simp [bl]
            case measure => simp [intOf]; omega
        · clear h
          go_wp2_with fail
          go_roundw
          case rel =>
            refine ⟨k + 1, (t ++ ⟨#[92]⟩) ++ ⟨#[s[k]]⟩, by omega, by go_num, rfl, by rw [ByteArray.size_append, ByteArray.size_append, one_size, one_size]; omega, HB.out.alloc HB.out.size _, ?_⟩
            rw [HL.out, HST.out, HE.out, bl_append, bl_append]
            simp [bl]
          case measure => simp [intOf]; omega
    · go_wp2_with fail
      go_ret
      refine ⟨t, rfl, ?_, HB.out⟩
      rw [HL.out, List.drop_eq_nil_of_le (by rw [← size_bl]; omega)]
      simp [litFrom]

end Go.Proofs.YtlipekkiaiaplaaDoor
