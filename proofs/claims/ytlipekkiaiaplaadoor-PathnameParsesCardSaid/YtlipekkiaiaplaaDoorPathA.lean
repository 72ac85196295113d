/- Contracts of package pathname's functions on paths: isText, isComponent. -/
import Derived.Test.YtlipekkiaiaplaaDoorLibc
namespace Go.Proofs.YtlipekkiaiaplaaDoor
open Go.RowKit

theorem take_low {s : ByteArray} {p q : Nat} (h : ∀ j, j < p → j < s.size → 32 ≤ (s.get! j).toNat) (h2 : ∀ j, p ≤ j → j < q → 128 ≤ (s.get! j).toNat) : ∀ j, j < q → j < s.size → 32 ≤ (s.get! j).toNat := by
  intro j hj hs
  rcases Nat.lt_or_ge j p with h' | h'
  · exact h j h' hs
  · have := h2 j h' hj; omega
theorem get_bl (s : ByteArray) (j : Nat) (h : j < s.size) : s.get! j = (bl s)[j]'(by rw [← size_bl]; exact h) := by
  have e : s.get! j = s.data[j]! := rfl
  have h2 : j < s.data.size := h
  rw [e, getElem!_pos s.data j h2]
  simp [bl]
theorem low_all {s : ByteArray} (h : ∀ j, j < s.size → 32 ≤ (s.get! j).toNat) : lowFree (bl s) = true := by
  unfold lowFree
  rw [List.all_eq_true]
  intro c hc
  obtain ⟨j, hj, rfl⟩ := List.getElem_of_mem hc
  have hj2 : j < s.size := by rw [size_bl]; exact hj
  have := h j hj2
  rw [get_bl s j hj2] at this
  simpa using this
theorem low_none {s : ByteArray} {j : Nat} (hj : j < s.size) (h : (s.get! j).toNat < 32) : lowFree (bl s) = false := by
  unfold lowFree
  rw [List.all_eq_false]
  rw [get_bl s j hj] at h
  exact ⟨(bl s)[j]'(by rw [← size_bl]; exact hj), List.getElem_mem _, by rw [decide_eq_true_eq]; omega⟩
theorem decode_low (s : ByteArray) (pos : Nat) (h : pos < s.size) :
    ((s.get! pos).toNat < 128 ∧ Utf8.decode s pos = ((s.get! pos).toNat, 1)) ∨ (128 ≤ (s.get! pos).toNat ∧ 128 ≤ (Utf8.decode s pos).1) := by
  have e := get_at s pos h
  rw [Nat.add_zero] at e
  rcases Nat.lt_or_ge (s.get! pos).toNat 128 with h1 | h1
  · exact .inl ⟨h1, by rw [decode_ascii s pos h (by rw [← e]; exact h1), ← e]⟩
  · exact .inr ⟨h1, (decode_high s pos h (by rw [← e]; exact h1)).1⟩

set_option maxHeartbeats 400000 in
theorem isText_any (s : ByteArray) (w : World) (he : Env w) (hs : s.size ≤ 9223372036854775807) :
    Calls Tryd.prog 65 #[.string s] w fun e w' => e = .returned (.bool (textB (bl s))) ∧ Below w.heap.size w w' := by
  have HE := Lib.hid he
  clear he
  go_enter Tryd.func65, Tryd.ntmps65
  go_wp2
  go_loopw [4] (fun _ wr => ∃ pos : Nat, wr = w.iter s pos ∧ ∀ j, j < pos → j < s.size → 32 ≤ (s.get! j).toNat) (fun _ wr => s.size - wr.iterPos w.heap.size)
  case atStart => exact ⟨0, rfl, fun j hj => by omega⟩
  case round =>
    obtain ⟨pos, rfl, hlow⟩ := hrel
    have HL := Lib.hid hlow
    clear hlow
    by_cases hp : pos < s.size
    · have hnx : ∀ ty, (Instr.next (.pointer (some ⟨w.heap.size, 0, none⟩)) true ty).run Tryd.prog (w.iter s pos) = _ := fun ty => run_next_any w s pos ty hp
      go_wp2
      · go_ret
        refine ⟨ret_bool ?_, (Below.refl _ _).alloc (Nat.le_refl _) _⟩
        have hlt : ((Utf8.decode s pos).1 : Int) < 32 := by assumption
        have hd := decode_low s pos hp
        have hd2 : (s.get! pos).toNat < 32 := by
          rcases hd with ⟨_, h2⟩ | ⟨_, h2⟩
          · rw [h2] at hlt; simp only at hlt; omega
          · omega
        simp [textB, low_none hp hd2]
      · go_roundw
        case rel =>
          refine ⟨pos + (Utf8.decode s pos).2, rfl, ?_⟩
          have hge : (32 : Int) ≤ (Utf8.decode s pos).1 := by assumption
          rcases decode_low s pos hp with ⟨h1, h2⟩ | ⟨h1, h2⟩
          · intro j hj hjs
            rw [h2] at hge hj
            rcases Nat.lt_or_ge j pos with h3 | h3
            · exact HL.out j h3 hjs
            · rw [show j = pos by simp at hj; omega]; simp at hge; omega
          · exact take_low HL.out (decode_span s pos hp h1).2
        case measure =>
          rw [World.iterPos_iter, World.iterPos_iter]
          have := Lib.width_pos s pos
          omega
    · have hnx : ∀ ty, (Instr.next (.pointer (some ⟨w.heap.size, 0, none⟩)) true ty).run Tryd.prog (w.iter s pos) = _ := fun ty => run_next_end w s pos ty hp
      go_wp2_with (go_at_call 83; refine (validString_any s _ (HE.out.below ((Below.refl _ _).alloc (Nat.le_refl _) _)) hs).mono ?_; rintro e w' ⟨rfl, hb⟩)
      go_ret
      refine ⟨ret_bool ?_, below_next ((Below.refl _ _).alloc (Nat.le_refl _) _) hb⟩
      simp only [textB, low_all (fun j hj => HL.out j (by omega) hj), Bool.true_and]


set_option maxHeartbeats 400000 in
theorem isComponent_any (s : ByteArray) (w : World) (he : Env w) (hs : s.size ≤ 9223372036854775807) :
    Calls Tryd.prog 57 #[.string s] w fun e w' => e = .returned (.bool (compB (bl s))) ∧ Below w.heap.size w w' := by
  have HE := Lib.hid he
  clear he
  go_enter Tryd.func57, Tryd.ntmps57
  go_wp2_with (first
    | (go_at_call 73; refine (contains_one _ _ _).mono ?_; rintro e w' ⟨rfl, rfl⟩)
    | (go_at_call 65; refine (isText_any _ _ HE.out hs).mono ?_; rintro e w' ⟨rfl, hb⟩))
  all_goals (go_ret; refine ⟨ret_bool ?_, by first | exact Below.refl _ _ | exact hb⟩)
  all_goals (rw [Bool.eq_iff_iff]; simp_all [compB, toList_bl, size_bl])
  all_goals first | omega | (intros; omega)


/-- What Split leaves. -/
def SplitOk (s : ByteArray) (w : World) (e : Ending) (w' : World) : Prop :=
  ∃ v xs, e = .returned (.tuple #[v, .int .i64 0]) ∧ xs.map bl = splitL 47 (bl s) ∧ StrsAt (w.heap.size ≤ ·) w' v xs ∧ Below w.heap.size w w'
def SplitBad (w : World) (e : Ending) (w' : World) : Prop := e = .returned (.tuple #[.slice none 0 0, .int .i64 1]) ∧ Below w.heap.size w w'
def SplitRes (s : ByteArray) (w : World) (e : Ending) (w' : World) : Prop := (validP (bl s) = true ∧ SplitOk s w e w') ∨ (validP (bl s) = false ∧ SplitBad w e w')

theorem row_cell {w : World} {xs : List Value} {e : TypeId} {k : Nat} {x : Value} (hx : xs[k]? = some x) : (w.alloc (.cells xs.toArray e)).cell? ⟨w.heap.size, k, none⟩ = some x := by
  have h := heap_alloc_new w (.cells xs.toArray e)
  simp only [World.cell?, h]
  simp [hx]
theorem map_get {xs : List ByteArray} {k : Nat} {x : ByteArray} (hx : xs[k]? = some x) : (xs.map Value.string)[k]? = some (.string x) := by simp [hx]

theorem split_all {xs : List ByteArray} {s : ByteArray} (hx : xs.map bl = splitL 47 (bl s)) (h1 : (bl s).length ≤ 512) (h2 : xs.length ≤ 16) (h : ∀ (j : Nat) x, j < xs.length → xs[j]? = some x → compB (bl x) = true) : validP (bl s) = true := by
  have hl : (splitL 47 (bl s)).length = xs.length := by rw [← hx]; simp
  have ha : (splitL 47 (bl s)).all compB = true := by
    rw [← hx, List.all_map, List.all_eq_true]
    intro x hm
    obtain ⟨j, hj, rfl⟩ := List.getElem_of_mem hm
    exact h j _ hj (by simp)
  simp [validP, h1, hl, h2, ha]
theorem split_not {xs : List ByteArray} {s : ByteArray} {j : Nat} {x : ByteArray} (hx : xs.map bl = splitL 47 (bl s)) (h : xs[j]? = some x) (hc : compB (bl x) = false) : validP (bl s) = false := by
  have ha : (splitL 47 (bl s)).all compB = false := by
    rw [← hx, List.all_map, List.all_eq_false]
    exact ⟨x, List.mem_of_getElem? h, by simp [hc]⟩
  simp [validP, ha]
theorem split_len {xs : List ByteArray} {s : ByteArray} (hx : xs.map bl = splitL 47 (bl s)) (h : ¬ xs.length ≤ 16) : validP (bl s) = false := by
  have hl : (splitL 47 (bl s)).length = xs.length := by rw [← hx]; simp
  simp [validP, hl, h]
theorem split_long {s : ByteArray} (h : ¬ (bl s).length ≤ 512) : validP (bl s) = false := by simp [validP, h]
theorem mem_split_le (c : UInt8) (l : List UInt8) : ∀ p ∈ splitL c l, p.length ≤ l.length := by
  induction l with
  | nil => simp [splitL]
  | cons b l ih =>
    unfold splitL
    split
    · intro p hp; rcases List.mem_cons.1 hp with rfl | hp
      · simp
      · have := ih p hp; simp; omega
    · split
      · rename_i h t e
        rw [e] at ih
        intro p hp; rcases List.mem_cons.1 hp with rfl | hp
        · have := ih h (by simp); simp; omega
        · have := ih p (by simp [hp]); simp; omega
      · intro p hp; simp at hp; simp [hp]
theorem part_size {xs : List ByteArray} {s : ByteArray} {c : UInt8} {j : Nat} {x : ByteArray} (hx : xs.map bl = splitL c (bl s)) (h : xs[j]? = some x) : x.size ≤ s.size := by
  rw [size_bl, size_bl]
  exact mem_split_le c (bl s) (bl x) (by rw [← hx]; exact List.mem_map.2 ⟨x, List.mem_of_getElem? h, rfl⟩)

theorem strs_new {w w' : World} {xs : List ByteArray} {e : TypeId} (hl : xs.length ≤ maxLen) (hb : Below (w.heap.size + 1) (w.alloc (.cells (xs.map Value.string).toArray e)) w') :
    StrsAt (w.heap.size ≤ ·) w' (.slice (some ⟨w.heap.size, 0, none⟩) xs.length xs.length) xs := by
  refine ⟨by simp, some ⟨w.heap.size, 0, none⟩, xs.length, rfl, Nat.le_refl _, hl, .inr ⟨w.heap.size, 0, rfl, Nat.le_refl _, fun j u hu => ?_⟩⟩
  rw [hb.cell (p := ⟨w.heap.size, 0 + j, none⟩) (by simp), Nat.zero_add]
  exact row_cell hu

set_option maxHeartbeats 400000 in
theorem split_calls (s : ByteArray) (w : World) (he : Env w) : Calls Tryd.prog 38 #[.string s] w (SplitRes s w) := by
  have HE := Lib.hid he
  clear he
  by_cases h5 : s.size ≤ 512
  · go_enter Tryd.func38, Tryd.ntmps38
    go_wp2_with fail
    refine (split_any s 47 w HE.out (by omega)).mono ?_
    rintro e w' ⟨xs, hx, rfl, rfl⟩
    have hxl : xs.length ≤ 513 := by
      have h1 : (splitL 47 (bl s)).length = xs.length := by rw [← hx]; simp
      have h2 := splitL_len_le 47 (bl s)
      rw [← size_bl] at h2
      omega
    have HX := Lib.hid hx
    clear hx
    by_cases h16 : xs.length ≤ 16
    · go_wp2_with fail
      go_loopw [17] (fun i wr => ∃ k : Nat, k ≤ xs.length ∧ i = .int .i64 k ∧ Below (w.heap.size + 1) (w.alloc (.cells (xs.map Value.string).toArray 9)) wr ∧ ∀ (j : Nat) x, j < k → xs[j]? = some x → compB (bl x) = true) (fun i _ => xs.length - (intOf i).toNat)
      case atStart => exact ⟨0, Nat.zero_le _, rfl, Below.refl _ _, fun j x hj => by omega⟩
      case round =>
        obtain ⟨k, hk, rfl, hb, hall⟩ := hrel
        have HA := Lib.hid hall
        clear hall
        by_cases hlt : k < xs.length
        · obtain ⟨x, hx⟩ : ∃ x, xs[k]? = some x := ⟨xs[k], by simp [hlt]⟩
          have hcell : wr.cell? ⟨w.heap.size, k, none⟩ = some (.string x) := (hb.cell (p := ⟨w.heap.size, k, none⟩) (by simp)).trans (row_cell (map_get hx))
          have hxs : x.size ≤ 9223372036854775807 := by have := part_size HX.out hx; omega
          have HK := Lib.hid hx
          have HB := Lib.hid hb
          clear hx hb
          cases hc : compB (bl x)
          · have HC := Lib.hid hc
            clear hc
            go_wp2_with (go_at_call 57; refine (isComponent_any x wr (HE.out.below (below_next ((Below.refl _ _).alloc (Nat.le_refl _) _) (by simpa using HB.out))) hxs).mono ?_; rintro e w' ⟨rfl, hb2⟩; rw [HC.out])
            go_ret2
            refine .inr ⟨split_not HX.out HK.out HC.out, rfl, ?_⟩
            exact below_next (below_next ((Below.refl _ _).alloc (Nat.le_refl _) _) (by simpa using HB.out)) hb2
          · have HC := Lib.hid hc
            clear hc
            go_wp2_with (go_at_call 57; refine (isComponent_any x wr (HE.out.below (below_next ((Below.refl _ _).alloc (Nat.le_refl _) _) (by simpa using HB.out))) hxs).mono ?_; rintro e w' ⟨rfl, hb2⟩; rw [HC.out])
            go_roundw
            case rel =>
              refine ⟨k + 1, by omega, by go_num, HB.out.trans (hb2.mono (by have := HB.out.size; simpa using this)), fun j x' hj hx' => ?_⟩
              rcases Nat.lt_or_ge j k with h | h
              · exact HA.out j x' h hx'
              · obtain rfl : j = k := by omega
                have := HK.out.symm.trans hx'
                cases this
                exact HC.out
            case measure => simp [intOf]; omega
        · have HB := Lib.hid hb
          clear hb
          go_wp2
          go_ret2
          refine .inl ⟨split_all HX.out (by rw [← size_bl]; exact h5) h16 (fun j x hj hx => HA.out j x (by omega) hx), _, xs, rfl, HX.out, strs_new (by unfold maxLen; omega) HB.out, ?_⟩
          exact below_next ((Below.refl _ _).alloc (Nat.le_refl _) _) (by simpa using HB.out)
    · go_wp2_with fail
      go_ret2
      exact .inr ⟨split_len HX.out h16, rfl, (Below.refl _ _).alloc (Nat.le_refl _) _⟩
  · go_enter Tryd.func38, Tryd.ntmps38
    go_wp2_with fail
    go_ret2
    exact .inr ⟨split_long (by rw [← size_bl]; exact h5), rfl, Below.refl _ _⟩

end Go.Proofs.YtlipekkiaiaplaaDoor
