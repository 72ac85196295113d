/- Contracts of the specification of chapter 18: UTF8, plain, Divide, Unite, Component, Valid. -/
import Derived.Test.YtlipekkiaiaplaaDoorPathC
import Derived.Test.YtlipekkiaiaplaaDoorRefP
import Derived.Laws.Cover4
namespace Go.Proofs.YtlipekkiaiaplaaDoor
open Go.RowKit

theorem reL_len (l : List UInt8) : (reL l).length ≤ 4 * l.length := by
  have h1 := runesL_length l
  have : ∀ rs : List Int, (rs.flatMap Lib.encodeRune).length ≤ 4 * rs.length := by
    intro rs
    induction rs with
    | nil => simp
    | cons r rs ih => rw [List.flatMap_cons, List.length_append, List.length_cons]; have := encodeRune_len r; omega
  have h2 := this (runesL l)
  unfold reL; omega
theorem decode_drop (s : ByteArray) (pos : Nat) : Lib.decodeL ((bl s).drop pos) = Utf8.decode s pos := Lib.decodeL_drop s pos
theorem drop_ne {s : ByteArray} {pos : Nat} (h : pos < s.size) : (bl s).drop pos ≠ [] := by
  intro e; have := List.drop_eq_nil_iff.1 e; rw [← size_bl] at this; omega
theorem utf8_next {s o : ByteArray} {pos : Nat} (hp : pos < s.size) (h : bl o ++ reL ((bl s).drop pos) = reL (bl s)) :
    bl (o ++ Utf8.encode ((Utf8.decode s pos).1 : Int)) ++ reL ((bl s).drop (pos + (Utf8.decode s pos).2)) = reL (bl s) := by
  rw [bl_append, ← h, reL_step _ (drop_ne hp), decode_drop, List.drop_drop, ← encode_lib, data_bl, List.append_assoc]

set_option maxHeartbeats 400000 in
theorem r_utf8_any (s : ByteArray) (w : World) (hs : s.size ≤ 16777216) :
    Calls Tryd.prog 70 #[.string s] w fun e w' => e = .returned (.bool (Lib.validD (bl s))) ∧ Below w.heap.size w w' := by
  go_enter Tryd.func70, Tryd.ntmps70
  go_wp2
  go_loopw [3] (fun v wr => ∃ (pos : Nat) (o : ByteArray), v = .string o ∧ wr = w.iter s pos ∧ o.size ≤ 67108864 ∧ bl o ++ reL ((bl s).drop pos) = reL (bl s)) (fun _ wr => s.size - wr.iterPos w.heap.size)
  case atStart => exact ⟨0, ⟨#[]⟩, rfl, rfl, by simp [ByteArray.size], by simp [bl]⟩
  case round =>
    obtain ⟨pos, o, rfl, rfl, ho, hrel2⟩ := hrel
    have HR := Lib.hid hrel2
    clear hrel2
    by_cases hp : pos < s.size
    · have hnx : ∀ ty, (Instr.next (.pointer (some ⟨w.heap.size, 0, none⟩)) true ty).run Tryd.prog (w.iter s pos) = _ := fun ty => run_next_any w s pos ty hp
      obtain ⟨r, hr⟩ : ∃ r, r = (Utf8.decode s pos).1 := ⟨_, rfl⟩
      obtain ⟨E, hE⟩ : ∃ E, E = Utf8.encode (r : Int) := ⟨_, rfl⟩
      have hcv : ∀ w', (convert 21 9 (.int .i32 (r : Int))).run Tryd.prog w' = .ok (.string E) w' := fun w' => by rw [hE]; exact run_convert_int_string w' _ _ .i32 _ (by rw [Tryd.underlying21]; rfl) Tryd.underlying9
      have hE4 : E.size ≤ 4 := by rw [hE]; exact encode_size_le _
      simp only [← hr] at hnx
      have HE := Lib.hid hE
      have HRR := Lib.hid hr
      clear hE hr
      go_wp2
      go_roundw
      case rel =>
        have hn : bl (o ++ E) ++ reL ((bl s).drop (pos + (Utf8.decode s pos).2)) = reL (bl s) := by rw [HE.out, HRR.out]; exact utf8_next hp HR.out
        refine ⟨pos + (Utf8.decode s pos).2, o ++ E, rfl, rfl, ?_, hn⟩
        have h1 := congrArg List.length hn
        have h2 := reL_len (bl s)
        rw [List.length_append, ← size_bl] at h1
        rw [← size_bl] at h2
        omega
      case measure =>
        rw [World.iterPos_iter, World.iterPos_iter]
        have := Lib.width_pos s pos
        omega
    · have hnx : ∀ ty, (Instr.next (.pointer (some ⟨w.heap.size, 0, none⟩)) true ty).run Tryd.prog (w.iter s pos) = _ := fun ty => run_next_end w s pos ty hp
      go_wp2
      go_ret
      refine ⟨ret_bool ?_, (Below.refl _ _).alloc (Nat.le_refl _) _⟩
      have h1 : bl o = reL (bl s) := by
        rw [← HR.out, List.drop_eq_nil_of_le (by rw [← size_bl]; omega), reL_nil, List.append_nil]
      rw [toList_bl, toList_bl, h1]
      exact reL_valid (bl s)

theorem lowFree_low {s : ByteArray} {j : Nat} (hj : j < s.size) (h : (s[j].toNat : Int) < 32) : lowFree (bl s) = false := by
  refine low_none hj ?_
  rw [get_bl s j hj, ← byte_bl s j hj]; omega

set_option maxHeartbeats 400000 in
theorem r_plain_any (s : ByteArray) (w : World) (hs : s.size ≤ 16777216) :
    Calls Tryd.prog 45 #[.string s] w fun e w' => e = .returned (.bool (textB (bl s))) ∧ Below w.heap.size w w' := by
  go_enter Tryd.func45, Tryd.ntmps45
  go_wp2
  go_loop [3] (fun i => ∃ k : Nat, k ≤ s.size ∧ i = .int .i64 k ∧ ∀ j, j < k → j < s.size → 32 ≤ (s.get! j).toNat) (fun i => s.size - (intOf i).toNat)
  case atStart => exact ⟨0, Nat.zero_le _, rfl, fun j hj => by omega⟩
  case round =>
    obtain ⟨k, hk, rfl, hlow⟩ := hrel
    have HL := Lib.hid hlow
    clear hlow
    by_cases hp : k < s.size
    · go_wp2
      · have hlt : (s[k].toNat : Int) < 32 := by assumption
        go_ret
        exact ⟨ret_bool (by simp [textB, lowFree_low hp hlt]), Below.refl _ _⟩
      · have hge : (32 : Int) ≤ (s[k].toNat : Int) := by assumption
        go_round
        case rel =>
          refine ⟨k + 1, by omega, by go_num, fun j hj hjs => ?_⟩
          rcases Nat.lt_or_ge j k with h | h
          · exact HL.out j h hjs
          · obtain rfl : j = k := by omega
            rw [get_bl s j hp, ← byte_bl s j hp]; omega
        case measure => simp [intOf] <;> omega
    · go_wp2_with (go_at_call 70; refine (r_utf8_any s _ hs).mono ?_; rintro e w' ⟨rfl, hb⟩)
      go_ret
      refine ⟨ret_bool ?_, hb⟩
      simp only [textB, low_all (fun j hj => HL.out j (by omega) hj), Bool.true_and]

/-- What Divide leaves. -/
def DivideOk (c : UInt8) (s : ByteArray) (w : World) (e : Ending) (w' : World) : Prop :=
  ∃ v xs, e = .returned v ∧ xs.map bl = splitL c (bl s) ∧ StrsAt (w.heap.size ≤ ·) w' v xs ∧ Below w.heap.size w w'
theorem divide_take {s : ByteArray} {c : UInt8} {ys : List ByteArray} {f k : Nat} (hk : k < s.size) (hf : f ≤ k) (h : splitL c (bl s) = ys.map bl ++ splitL c ((bl s).drop f)) (hn : ∀ j, f ≤ j → j < k → (s.get! j) ≠ c) (hc : s[k] = c) :
    splitL c (bl s) = (ys ++ [s.extract f k]).map bl ++ splitL c ((bl s).drop (k + 1)) := by
  have hk2 : k < (bl s).length := by rw [← size_bl]; exact hk
  have e : (bl s).drop f = bl (s.extract f k) ++ c :: (bl s).drop (k + 1) := by
    rw [bl_extract, ← hc, byte_bl s k hk, List.getElem_cons_drop, List.drop_take]
    have h2 := List.take_append_drop (k - f) ((bl s).drop f)
    rw [List.drop_drop, show f + (k - f) = k by omega] at h2
    exact h2.symm
  have hm : c ∉ bl (s.extract f k) := by
    intro hm
    obtain ⟨j, hj, ej⟩ := List.getElem_of_mem hm
    simp only [bl_extract] at hj ej
    rw [List.length_drop, List.length_take] at hj
    rw [List.getElem_drop, List.getElem_take] at ej
    exact hn (f + j) (by omega) (by omega) (by rw [get_bl s _ (by omega)]; exact ej)
  rw [h, e, splitL_append _ _ _ hm]; simp
theorem divide_last {s : ByteArray} {c : UInt8} {ys : List ByteArray} {f : Nat} (hf : f ≤ s.size) (h : splitL c (bl s) = ys.map bl ++ splitL c ((bl s).drop f)) (hn : ∀ j, f ≤ j → j < s.size → (s.get! j) ≠ c) :
    splitL c (bl s) = (ys ++ [s.extract f s.size]).map bl := by
  have e : (bl s).drop f = bl (s.extract f s.size) := by rw [bl_extract, size_bl, List.take_length]
  have hm : c ∉ (bl s).drop f := by
    intro hm
    obtain ⟨j, hj, ej⟩ := List.getElem_of_mem hm
    rw [List.length_drop, ← size_bl] at hj
    rw [List.getElem_drop] at ej
    exact hn (f + j) (by omega) (by omega) (by rw [get_bl s _ (by omega)]; exact ej)
  rw [h, splitL_whole _ _ hm, e]; simp

set_option maxHeartbeats 1000000 in
theorem r_divide_any (s : ByteArray) (w : World) (hs : s.size ≤ 16777216) : Calls Tryd.prog 40 #[.string s] w (DivideOk 47 s w) := by
  go_enter Tryd.func40, Tryd.ntmps40
  go_wp2_with fail
  go_loopw [3, 4, 5] (fun v fr i wr => ∃ (k f : Nat) (ys : List ByteArray), k ≤ s.size + 1 ∧ f ≤ k ∧ ys.length ≤ k ∧ i = .int .i64 k ∧ fr = .int .i64 f ∧ wr.ownsRow w.heap.size 9 1 v ys.length (ys.map Value.string) ∧ Below w.heap.size w wr ∧
      (k ≤ s.size → splitL 47 (bl s) = ys.map bl ++ splitL 47 ((bl s).drop f) ∧ ∀ j, f ≤ j → j < k → (s.get! j) ≠ 47) ∧ (k = s.size + 1 → splitL 47 (bl s) = ys.map bl)) (fun _ _ i _ => s.size + 1 - (intOf i).toNat)
  case atStart => exact ⟨0, 0, [], Nat.zero_le _, Nat.le_refl _, Nat.le_refl _, rfl, rfl, World.ownsRow_nil _ _ _ _, Below.refl _ _, fun _ => ⟨by simp, fun j _ hj => by omega⟩, fun h => by omega⟩
  case round =>
    obtain ⟨k, f, ys, hk, hf, hy, rfl, rfl, hown, hb, hr1, hr2⟩ := hrel
    have HO := Lib.hid hown
    have HB := Lib.hid hb
    have HR1 := Lib.hid hr1
    have HR2 := Lib.hid hr2
    have hsz : w.heap.size ≤ wr.heap.size := hb.size
    clear hown hb hr1 hr2
    by_cases hle : k ≤ s.size
    · by_cases hlt : k < s.size
      · have e1 : ((k : Int) == (s.size : Int)) = false := by rw [beq_eq_false_iff_ne]; omega
        by_cases hc : s[k] = 47
        · have e2 : ((s[k].toNat : Int) == (47 : UInt8).toNat) = true := by rw [hc]; rfl
          have e2' : ((s[k].toNat : Int) == 47) = true := e2
          have HCC := Lib.hid hc
          clear hc e2
          go_wp2_with (at_builtin; go_must (refine wpList_app1 Tryd.appStrings rfl _ _ rfl w.heap.size u3 ys.length (ys.map Value.string) rfl wr [.string (s.extract f k)] _ rfl rfl (by simp; rfl) HO.out (by omega) hsz ?_); intro v' w1 hown1 hgrow1 _)
          have HO1 := Lib.hid hown1
          have HG1 := Lib.hid hgrow1
          clear hown1 hgrow1
          go_wp2_with fail
          go_roundw
          case rel =>
            refine ⟨k + 1, k + 1, ys ++ [s.extract f k], by omega, Nat.le_refl _, by simp; omega, by go_num, by go_num, ?_, below_grown HB.out HO.out HG1.out (Nat.le_refl _) hsz, fun _ => ⟨divide_take hlt hf (HR1.out hle).1 (HR1.out hle).2 HCC.out, fun j h1 h2 => by omega⟩, fun h => by omega⟩
            have := HO1.out; simpa using this
          case measure => simp [intOf] <;> omega
        · have e2' : ((s[k].toNat : Int) == 47) = false := by
            rw [beq_eq_false_iff_ne]; intro e; apply hc; apply UInt8.toNat_inj.1; have : s[k].toNat = 47 := by omega
            rw [this]; rfl
          have HCC := Lib.hid hc
          clear hc
          go_wp2_with fail
          go_roundw
          case rel =>
            refine ⟨k + 1, f, ys, by omega, by omega, by omega, by go_num, rfl, HO.out, HB.out, fun _ => ⟨(HR1.out hle).1, fun j h1 h2 => ?_⟩, fun h => by omega⟩
            rcases Nat.lt_or_ge j k with h | h
            · exact (HR1.out hle).2 j h1 h
            · obtain rfl : j = k := by omega
              rw [get_bl s j hlt, ← byte_bl s j hlt]; exact HCC.out
          case measure => simp [intOf] <;> omega
      · obtain rfl : k = s.size := by omega
        have e1 : ((s.size : Int) == (s.size : Int)) = true := by simp
        go_wp2_with (at_builtin; go_must (refine wpList_app1 Tryd.appStrings rfl _ _ rfl w.heap.size u3 ys.length (ys.map Value.string) rfl wr [.string (s.extract f s.size)] _ rfl rfl (by simp; rfl) HO.out (by omega) hsz ?_); intro v' w1 hown1 hgrow1 _)
        have HO1 := Lib.hid hown1
        have HG1 := Lib.hid hgrow1
        clear hown1 hgrow1
        go_wp2_with fail
        go_roundw
        case rel =>
          refine ⟨s.size + 1, s.size + 1, ys ++ [s.extract f s.size], by omega, Nat.le_refl _, by simp; omega, by go_num, by go_num, ?_, below_grown HB.out HO.out HG1.out (Nat.le_refl _) hsz, fun h => by omega, fun _ => divide_last hf (HR1.out hle).1 (HR1.out hle).2⟩
          have := HO1.out; simpa using this
        case measure => simp [intOf] <;> omega
    · obtain ⟨a, cap, rfl, hn, hm⟩ := owns_shape HO.out
      go_wp2_with fail
      go_ret
      exact ⟨_, ys, rfl, (HR2.out (by omega)).symm, (row_of_owns HO.out).weak (fun k hk => hk.1), HB.out⟩
set_option maxHeartbeats 1000000 in
theorem r_lines_any (s : ByteArray) (w : World) (hs : s.size ≤ 16777216) : Calls Tryd.prog 59 #[.string s] w (DivideOk 10 s w) := by
  go_enter Tryd.func59, Tryd.ntmps59
  go_wp2_with fail
  go_loopw [3, 4, 5] (fun v fr i wr => ∃ (k f : Nat) (ys : List ByteArray), k ≤ s.size + 1 ∧ f ≤ k ∧ ys.length ≤ k ∧ i = .int .i64 k ∧ fr = .int .i64 f ∧ wr.ownsRow w.heap.size 9 1 v ys.length (ys.map Value.string) ∧ Below w.heap.size w wr ∧
      (k ≤ s.size → splitL 10 (bl s) = ys.map bl ++ splitL 10 ((bl s).drop f) ∧ ∀ j, f ≤ j → j < k → (s.get! j) ≠ 10) ∧ (k = s.size + 1 → splitL 10 (bl s) = ys.map bl)) (fun _ _ i _ => s.size + 1 - (intOf i).toNat)
  case atStart => exact ⟨0, 0, [], Nat.zero_le _, Nat.le_refl _, Nat.le_refl _, rfl, rfl, World.ownsRow_nil _ _ _ _, Below.refl _ _, fun _ => ⟨by simp, fun j _ hj => by omega⟩, fun h => by omega⟩
  case round =>
    obtain ⟨k, f, ys, hk, hf, hy, rfl, rfl, hown, hb, hr1, hr2⟩ := hrel
    have HO := Lib.hid hown
    have HB := Lib.hid hb
    have HR1 := Lib.hid hr1
    have HR2 := Lib.hid hr2
    have hsz : w.heap.size ≤ wr.heap.size := hb.size
    clear hown hb hr1 hr2
    by_cases hle : k ≤ s.size
    · by_cases hlt : k < s.size
      · have e1 : ((k : Int) == (s.size : Int)) = false := by rw [beq_eq_false_iff_ne]; omega
        by_cases hc : s[k] = 10
        · have e2 : ((s[k].toNat : Int) == (10 : UInt8).toNat) = true := by rw [hc]; rfl
          have e2' : ((s[k].toNat : Int) == 10) = true := e2
          have HCC := Lib.hid hc
          clear hc e2
          go_wp2_with (at_builtin; go_must (refine wpList_app1 Tryd.appStrings rfl _ _ rfl w.heap.size u3 ys.length (ys.map Value.string) rfl wr [.string (s.extract f k)] _ rfl rfl (by simp; rfl) HO.out (by omega) hsz ?_); intro v' w1 hown1 hgrow1 _)
          have HO1 := Lib.hid hown1
          have HG1 := Lib.hid hgrow1
          clear hown1 hgrow1
          go_wp2_with fail
          go_roundw
          case rel =>
            refine ⟨k + 1, k + 1, ys ++ [s.extract f k], by omega, Nat.le_refl _, by simp; omega, by go_num, by go_num, ?_, below_grown HB.out HO.out HG1.out (Nat.le_refl _) hsz, fun _ => ⟨divide_take hlt hf (HR1.out hle).1 (HR1.out hle).2 HCC.out, fun j h1 h2 => by omega⟩, fun h => by omega⟩
            have := HO1.out; simpa using this
          case measure => simp [intOf] <;> omega
        · have e2' : ((s[k].toNat : Int) == 10) = false := by
            rw [beq_eq_false_iff_ne]; intro e; apply hc; apply UInt8.toNat_inj.1; have : s[k].toNat = 10 := by omega
            rw [this]; rfl
          have HCC := Lib.hid hc
          clear hc
          go_wp2_with fail
          go_roundw
          case rel =>
            refine ⟨k + 1, f, ys, by omega, by omega, by omega, by go_num, rfl, HO.out, HB.out, fun _ => ⟨(HR1.out hle).1, fun j h1 h2 => ?_⟩, fun h => by omega⟩
            rcases Nat.lt_or_ge j k with h | h
            · exact (HR1.out hle).2 j h1 h
            · obtain rfl : j = k := by omega
              rw [get_bl s j hlt, ← byte_bl s j hlt]; exact HCC.out
          case measure => simp [intOf] <;> omega
      · obtain rfl : k = s.size := by omega
        have e1 : ((s.size : Int) == (s.size : Int)) = true := by simp
        go_wp2_with (at_builtin; go_must (refine wpList_app1 Tryd.appStrings rfl _ _ rfl w.heap.size u3 ys.length (ys.map Value.string) rfl wr [.string (s.extract f s.size)] _ rfl rfl (by simp; rfl) HO.out (by omega) hsz ?_); intro v' w1 hown1 hgrow1 _)
        have HO1 := Lib.hid hown1
        have HG1 := Lib.hid hgrow1
        clear hown1 hgrow1
        go_wp2_with fail
        go_roundw
        case rel =>
          refine ⟨s.size + 1, s.size + 1, ys ++ [s.extract f s.size], by omega, Nat.le_refl _, by simp; omega, by go_num, by go_num, ?_, below_grown HB.out HO.out HG1.out (Nat.le_refl _) hsz, fun h => by omega, fun _ => divide_last hf (HR1.out hle).1 (HR1.out hle).2⟩
          have := HO1.out; simpa using this
        case measure => simp [intOf] <;> omega
    · obtain ⟨a, cap, rfl, hn, hm⟩ := owns_shape HO.out
      go_wp2_with fail
      go_ret
      exact ⟨_, ys, rfl, (HR2.out (by omega)).symm, (row_of_owns HO.out).weak (fun k hk => hk.1), HB.out⟩

end Go.Proofs.YtlipekkiaiaplaaDoor
