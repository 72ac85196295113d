/- Texts of this proof, one after the other: Libc, PathA, PathB, ItemA, ItemB, ItemC, ItemD, Last, ItemE, ItemF, Lib, WalkA, WalkB, RGet. -/
import Derived.Test.YtndgmcggckpgfaaGreatDoorMA
import Derived.Deep.QuietTactic
import Derived.BigQuiet
/- The shelf's contracts in this proof's own words. -/
namespace Go.Proofs.YtndgmcggckpgfaaGreatDoor
open Go.RowKit

theorem contains_one (s : ByteArray) (c : UInt8) (w : World) :
    Calls Tryz.prog 89 #[.string s, .string ⟨#[c]⟩] w fun e w' => e = .returned (.bool ((bl s).contains c)) ∧ w = w' :=
  (Tryz.strings_Contains_one s c w).mono fun _ _ ⟨he, hw⟩ => ⟨by rw [he]; exact congrArg _ (congrArg _ (indexByte_contains (bl s) c)), hw.symm⟩
theorem validString_any (s : ByteArray) (w : World) (he : Env w) (hs : s.size ≤ 9223372036854775807) :
    Calls Tryz.prog 112 #[.string s] w fun e w' => e = .returned (.bool (Lib.validD (bl s))) ∧ Below w.heap.size w w' := Tryz.utf8_ValidString s w hs he.tabs
/-- strings.Split at one byte: the parts, in a new block. -/
def SplitPost (c : UInt8) (s : ByteArray) (w : World) (e : Ending) (w' : World) : Prop :=
  ∃ xs : List ByteArray, xs.map bl = splitL c (bl s) ∧ e = .returned (.slice (some ⟨w.heap.size, 0, none⟩) xs.length xs.length) ∧ w' = w.alloc (.cells (xs.map Value.string).toArray 9)
theorem split_any (s : ByteArray) (c : UInt8) (w : World) (he : Env w) (hs : s.size < 4294967281) :
    Calls Tryz.prog 100 #[.string s, .string ⟨#[c]⟩] w (SplitPost c s w) := by
  obtain ⟨m, hm⟩ := he.maxLen
  refine (Tryz.strings_Split s ⟨#[c]⟩ m w hs hm (by simp [ByteArray.size])).mono fun e w' ⟨h1, h2⟩ => ?_
  refine ⟨Lib.splitB ⟨#[c]⟩ 0 (Lib.countB s ⟨#[c]⟩) s, splitB_eq c s, ?_, h2⟩
  rw [splitB_len]; exact h1

/-- Where the last slash lies, or -1. -/
def lastSlash (l : List UInt8) : Int := if 47 ∈ l then ((parentL l).length : Int) else -1
theorem byte47 (c : UInt8) (h : (c.toNat : Int) = 47) : c = 47 := by
  apply UInt8.toNat_inj.1
  have : c.toNat = 47 := by omega
  rw [this]; rfl
end Go.Proofs.YtndgmcggckpgfaaGreatDoor

/- Contracts of package pathname's functions on paths: isText, isComponent. -/
namespace Go.Proofs.YtndgmcggckpgfaaGreatDoor
open Go.RowKit

theorem take_low {s : ByteArray} {p q : Nat} (h : ∀ j, j < p → j < s.size → 32 ≤ (s.get! j).toNat) (h2 : ∀ j, p ≤ j → j < q → 128 ≤ (s.get! j).toNat) : ∀ j, j < q → j < s.size → 32 ≤ (s.get! j).toNat := by
  intro j hj hs
  rcases Nat.lt_or_ge j p with h' | h'
  · exact h j h' hs
  · have := h2 j h' hj; omega
theorem get_bl (s : ByteArray) (j : Nat) (h : j < s.size) : s.get! j = (bl s)[j]'(by rw [← size_bl]; exact h) := by
  have e : s.get! j = s.data[j]! := rfl
  have h2 : j < s.data.size := h
  rw [e, getElem!_pos s.data j h2]
  simp [bl]
theorem low_all {s : ByteArray} (h : ∀ j, j < s.size → 32 ≤ (s.get! j).toNat) : lowFree (bl s) = true := by
  unfold lowFree
  rw [List.all_eq_true]
  intro c hc
  obtain ⟨j, hj, rfl⟩ := List.getElem_of_mem hc
  have hj2 : j < s.size := by rw [size_bl]; exact hj
  have := h j hj2
  rw [get_bl s j hj2] at this
  simpa using this
theorem low_none {s : ByteArray} {j : Nat} (hj : j < s.size) (h : (s.get! j).toNat < 32) : lowFree (bl s) = false := by
  unfold lowFree
  rw [List.all_eq_false]
  rw [get_bl s j hj] at h
  exact ⟨(bl s)[j]'(by rw [← size_bl]; exact hj), List.getElem_mem _, by rw [decide_eq_true_eq]; omega⟩
theorem decode_low (s : ByteArray) (pos : Nat) (h : pos < s.size) :
    ((s.get! pos).toNat < 128 ∧ Utf8.decode s pos = ((s.get! pos).toNat, 1)) ∨ (128 ≤ (s.get! pos).toNat ∧ 128 ≤ (Utf8.decode s pos).1) := by
  have e := get_at s pos h
  rw [Nat.add_zero] at e
  rcases Nat.lt_or_ge (s.get! pos).toNat 128 with h1 | h1
  · exact .inl ⟨h1, by rw [decode_ascii s pos h (by rw [← e]; exact h1), ← e]⟩
  · exact .inr ⟨h1, (decode_high s pos h (by rw [← e]; exact h1)).1⟩

set_option maxHeartbeats 400000 in
theorem isText_any (s : ByteArray) (w : World) (he : Env w) (hs : s.size ≤ 9223372036854775807) :
    Calls Tryz.prog 106 #[.string s] w fun e w' => e = .returned (.bool (textB (bl s))) ∧ Below w.heap.size w w' := by
  have HE := Lib.hid he
  clear he
  go_enter Tryz.func106, Tryz.ntmps106
  go_wp2
  go_loopw [4] (fun _ wr => ∃ pos : Nat, wr = w.iter s pos ∧ ∀ j, j < pos → j < s.size → 32 ≤ (s.get! j).toNat) (fun _ wr => s.size - wr.iterPos w.heap.size)
  case atStart => exact ⟨0, rfl, fun j hj => by omega⟩
  case round =>
    obtain ⟨pos, rfl, hlow⟩ := hrel
    have HL := Lib.hid hlow
    clear hlow
    by_cases hp : pos < s.size
    · have hnx : ∀ ty, (Instr.next (.pointer (some ⟨w.heap.size, 0, none⟩)) true ty).run Tryz.prog (w.iter s pos) = _ := fun ty => run_next_any w s pos ty hp
      go_wp2
      · go_ret
        refine ⟨ret_bool ?_, (Below.refl _ _).alloc (Nat.le_refl _) _⟩
        have hlt : ((Utf8.decode s pos).1 : Int) < 32 := by assumption
        have hd := decode_low s pos hp
        have hd2 : (s.get! pos).toNat < 32 := by
          rcases hd with ⟨_, h2⟩ | ⟨_, h2⟩
          · rw [h2] at hlt; simp only at hlt; omega
          · omega
        simp [textB, low_none hp hd2]
      · go_roundw
        case rel =>
          refine ⟨pos + (Utf8.decode s pos).2, rfl, ?_⟩
          have hge : (32 : Int) ≤ (Utf8.decode s pos).1 := by assumption
          rcases decode_low s pos hp with ⟨h1, h2⟩ | ⟨h1, h2⟩
          · intro j hj hjs
            rw [h2] at hge hj
            rcases Nat.lt_or_ge j pos with h3 | h3
            · exact HL.out j h3 hjs
            · rw [show j = pos by simp at hj; omega]; simp at hge; omega
          · exact take_low HL.out (decode_span s pos hp h1).2
        case measure =>
          rw [World.iterPos_iter, World.iterPos_iter]
          have := Lib.width_pos s pos
          omega
    · have hnx : ∀ ty, (Instr.next (.pointer (some ⟨w.heap.size, 0, none⟩)) true ty).run Tryz.prog (w.iter s pos) = _ := fun ty => run_next_end w s pos ty hp
      go_wp2_with (go_at_call 112; refine (validString_any s _ (HE.out.below ((Below.refl _ _).alloc (Nat.le_refl _) _)) hs).mono ?_; rintro e w' ⟨rfl, hb⟩)
      go_ret
      refine ⟨ret_bool ?_, below_next ((Below.refl _ _).alloc (Nat.le_refl _) _) hb⟩
      simp only [textB, low_all (fun j hj => HL.out j (by omega) hj), Bool.true_and]


set_option maxHeartbeats 400000 in
theorem isComponent_any (s : ByteArray) (w : World) (he : Env w) (hs : s.size ≤ 9223372036854775807) :
    Calls Tryz.prog 101 #[.string s] w fun e w' => e = .returned (.bool (compB (bl s))) ∧ Below w.heap.size w w' := by
  have HE := Lib.hid he
  clear he
  go_enter Tryz.func101, Tryz.ntmps101
  go_wp2_with (first
    | (go_at_call 89; refine (contains_one _ _ _).mono ?_; rintro e w' ⟨rfl, rfl⟩)
    | (go_at_call 106; refine (isText_any _ _ HE.out hs).mono ?_; rintro e w' ⟨rfl, hb⟩))
  all_goals (go_ret; refine ⟨ret_bool ?_, by first | exact Below.refl _ _ | exact hb⟩)
  all_goals (rw [Bool.eq_iff_iff]; simp_all [compB, toList_bl, size_bl])
  all_goals first | omega | (intros; omega)


/-- What Split leaves. -/
def SplitOk (s : ByteArray) (w : World) (e : Ending) (w' : World) : Prop :=
  ∃ v xs, e = .returned (.tuple #[v, .int .i64 0]) ∧ xs.map bl = splitL 47 (bl s) ∧ StrsAt (w.heap.size ≤ ·) w' v xs ∧ Below w.heap.size w w'
def SplitBad (w : World) (e : Ending) (w' : World) : Prop := e = .returned (.tuple #[.slice none 0 0, .int .i64 1]) ∧ Below w.heap.size w w'
def SplitRes (s : ByteArray) (w : World) (e : Ending) (w' : World) : Prop := (validP (bl s) = true ∧ SplitOk s w e w') ∨ (validP (bl s) = false ∧ SplitBad w e w')

theorem row_cell {w : World} {xs : List Value} {e : TypeId} {k : Nat} {x : Value} (hx : xs[k]? = some x) : (w.alloc (.cells xs.toArray e)).cell? ⟨w.heap.size, k, none⟩ = some x := by
  have h := heap_alloc_new w (.cells xs.toArray e)
  simp only [World.cell?, h]
  simp [hx]
theorem map_get {xs : List ByteArray} {k : Nat} {x : ByteArray} (hx : xs[k]? = some x) : (xs.map Value.string)[k]? = some (.string x) := by simp [hx]

theorem split_all {xs : List ByteArray} {s : ByteArray} (hx : xs.map bl = splitL 47 (bl s)) (h1 : (bl s).length ≤ 512) (h2 : xs.length ≤ 16) (h : ∀ (j : Nat) x, j < xs.length → xs[j]? = some x → compB (bl x) = true) : validP (bl s) = true := by
  have hl : (splitL 47 (bl s)).length = xs.length := by rw [← hx]; simp
  have ha : (splitL 47 (bl s)).all compB = true := by
    rw [← hx, List.all_map, List.all_eq_true]
    intro x hm
    obtain ⟨j, hj, rfl⟩ := List.getElem_of_mem hm
    exact h j _ hj (by simp)
  simp [validP, h1, hl, h2, ha]
theorem split_not {xs : List ByteArray} {s : ByteArray} {j : Nat} {x : ByteArray} (hx : xs.map bl = splitL 47 (bl s)) (h : xs[j]? = some x) (hc : compB (bl x) = false) : validP (bl s) = false := by
  have ha : (splitL 47 (bl s)).all compB = false := by
    rw [← hx, List.all_map, List.all_eq_false]
    exact ⟨x, List.mem_of_getElem? h, by simp [hc]⟩
  simp [validP, ha]
theorem split_len {xs : List ByteArray} {s : ByteArray} (hx : xs.map bl = splitL 47 (bl s)) (h : ¬ xs.length ≤ 16) : validP (bl s) = false := by
  have hl : (splitL 47 (bl s)).length = xs.length := by rw [← hx]; simp
  simp [validP, hl, h]
theorem split_long {s : ByteArray} (h : ¬ (bl s).length ≤ 512) : validP (bl s) = false := by simp [validP, h]
theorem mem_split_le (c : UInt8) (l : List UInt8) : ∀ p ∈ splitL c l, p.length ≤ l.length := by
  induction l with
  | nil => simp [splitL]
  | cons b l ih =>
    unfold splitL
    split
    · intro p hp; rcases List.mem_cons.1 hp with rfl | hp
      · simp
      · have := ih p hp; simp; omega
    · split
      · rename_i h t e
        rw [e] at ih
        intro p hp; rcases List.mem_cons.1 hp with rfl | hp
        · have := ih h (by simp); simp; omega
        · have := ih p (by simp [hp]); simp; omega
      · intro p hp; simp at hp; simp [hp]
theorem part_size {xs : List ByteArray} {s : ByteArray} {c : UInt8} {j : Nat} {x : ByteArray} (hx : xs.map bl = splitL c (bl s)) (h : xs[j]? = some x) : x.size ≤ s.size := by
  rw [size_bl, size_bl]
  exact mem_split_le c (bl s) (bl x) (by rw [← hx]; exact List.mem_map.2 ⟨x, List.mem_of_getElem? h, rfl⟩)

theorem strs_new {w w' : World} {xs : List ByteArray} {e : TypeId} (hl : xs.length ≤ maxLen) (hb : Below (w.heap.size + 1) (w.alloc (.cells (xs.map Value.string).toArray e)) w') :
    StrsAt (w.heap.size ≤ ·) w' (.slice (some ⟨w.heap.size, 0, none⟩) xs.length xs.length) xs := by
  refine ⟨by simp, some ⟨w.heap.size, 0, none⟩, xs.length, rfl, Nat.le_refl _, hl, .inr ⟨w.heap.size, 0, rfl, Nat.le_refl _, fun j u hu => ?_⟩⟩
  rw [hb.cell (p := ⟨w.heap.size, 0 + j, none⟩) (by simp), Nat.zero_add]
  exact row_cell hu

set_option maxHeartbeats 400000 in
theorem split_calls (s : ByteArray) (w : World) (he : Env w) : Calls Tryz.prog 95 #[.string s] w (SplitRes s w) := by
  have HE := Lib.hid he
  clear he
  by_cases h5 : s.size ≤ 512
  · go_enter Tryz.func95, Tryz.ntmps95
    go_wp2_with fail
    refine (split_any s 47 w HE.out (by omega)).mono ?_
    rintro e w' ⟨xs, hx, rfl, rfl⟩
    have hxl : xs.length ≤ 513 := by
      have h1 : (splitL 47 (bl s)).length = xs.length := by rw [← hx]; simp
      have h2 := splitL_len_le 47 (bl s)
      rw [← size_bl] at h2
      omega
    have HX := Lib.hid hx
    clear hx
    by_cases h16 : xs.length ≤ 16
    · go_wp2_with fail
      go_loopw [17] (fun i wr => ∃ k : Nat, k ≤ xs.length ∧ i = .int .i64 k ∧ Below (w.heap.size + 1) (w.alloc (.cells (xs.map Value.string).toArray 9)) wr ∧ ∀ (j : Nat) x, j < k → xs[j]? = some x → compB (bl x) = true) (fun i _ => xs.length - (intOf i).toNat)
      case atStart => exact ⟨0, Nat.zero_le _, rfl, Below.refl _ _, fun j x hj => by omega⟩
      case round =>
        obtain ⟨k, hk, rfl, hb, hall⟩ := hrel
        have HA := Lib.hid hall
        clear hall
        by_cases hlt : k < xs.length
        · obtain ⟨x, hx⟩ : ∃ x, xs[k]? = some x := ⟨xs[k], by simp [hlt]⟩
          have hcell : wr.cell? ⟨w.heap.size, k, none⟩ = some (.string x) := (hb.cell (p := ⟨w.heap.size, k, none⟩) (by simp)).trans (row_cell (map_get hx))
          have hxs : x.size ≤ 9223372036854775807 := by have := part_size HX.out hx; omega
          have HK := Lib.hid hx
          have HB := Lib.hid hb
          clear hx hb
          cases hc : compB (bl x)
          · have HC := Lib.hid hc
            clear hc
            go_wp2_with (go_at_call 101; refine (isComponent_any x wr (HE.out.below (below_next ((Below.refl _ _).alloc (Nat.le_refl _) _) (by simpa using HB.out))) hxs).mono ?_; rintro e w' ⟨rfl, hb2⟩; rw [HC.out])
            go_ret2
            refine .inr ⟨split_not HX.out HK.out HC.out, rfl, ?_⟩
            exact below_next (below_next ((Below.refl _ _).alloc (Nat.le_refl _) _) (by simpa using HB.out)) hb2
          · have HC := Lib.hid hc
            clear hc
            go_wp2_with (go_at_call 101; refine (isComponent_any x wr (HE.out.below (below_next ((Below.refl _ _).alloc (Nat.le_refl _) _) (by simpa using HB.out))) hxs).mono ?_; rintro e w' ⟨rfl, hb2⟩; rw [HC.out])
            go_roundw
            case rel =>
              refine ⟨k + 1, by omega, by go_num, HB.out.trans (hb2.mono (by have := HB.out.size; simpa using this)), fun j x' hj hx' => ?_⟩
              rcases Nat.lt_or_ge j k with h | h
              · exact HA.out j x' h hx'
              · obtain rfl : j = k := by omega
                have := HK.out.symm.trans hx'
                cases this
                exact HC.out
            case measure => simp [intOf]; omega
        · have HB := Lib.hid hb
          clear hb
          go_wp2
          go_ret2
          refine .inl ⟨split_all HX.out (by rw [← size_bl]; exact h5) h16 (fun j x hj hx => HA.out j x (by omega) hx), _, xs, rfl, HX.out, strs_new (by unfold maxLen; omega) HB.out, ?_⟩
          exact below_next ((Below.refl _ _).alloc (Nat.le_refl _) _) (by simpa using HB.out)
    · go_wp2_with fail
      go_ret2
      exact .inr ⟨split_len HX.out h16, rfl, (Below.refl _ _).alloc (Nat.le_refl _) _⟩
  · go_enter Tryz.func95, Tryz.ntmps95
    go_wp2_with fail
    go_ret2
    exact .inr ⟨split_long (by rw [← size_bl]; exact h5), rfl, Below.refl _ _⟩

end Go.Proofs.YtndgmcggckpgfaaGreatDoor

/- Contracts of package pathname: Valid, Compare. -/
namespace Go.Proofs.YtndgmcggckpgfaaGreatDoor
open Go.RowKit

set_option maxHeartbeats 400000 in
theorem valid_any (s : ByteArray) (w : World) (he : Env w) :
    Calls Tryz.prog 88 #[.string s] w fun e w' => e = .returned (.bool (validP (bl s))) ∧ Below w.heap.size w w' := by
  go_enter Tryz.func88, Tryz.ntmps88
  go_wp2_with fail
  refine (split_calls s w he).mono ?_
  rintro e w' (⟨hv, v, xs, rfl, -, -, hb⟩ | ⟨hv, rfl, hb⟩)
  · go_wp2
    go_ret
    exact ⟨ret_bool (by rw [hv]), hb⟩
  · go_wp2
    go_ret
    exact ⟨ret_bool (by rw [hv]), hb⟩

def rankI (c : Int) : Int := if c = 47 then -1 else c
theorem cmp_len (l r : List UInt8) (h : l = [] ∨ r = []) : cmpL l r = Lib.compareInt (l.length : Int) r.length := by
  rcases h with rfl | rfl
  · cases r
    · simp [cmpL, Lib.compareInt]
    · rw [cmpL, Lib.compareInt, if_pos (by simp <;> omega)]
  · cases l
    · simp [cmpL, Lib.compareInt]
    · rw [cmpL, Lib.compareInt, if_neg (by simp <;> omega), if_pos (by simp <;> omega)]
theorem compareInt_sub (x y : Int) (k : Int) : Lib.compareInt (x - k) (y - k) = Lib.compareInt x y := by
  unfold Lib.compareInt
  have h1 : (x - k < y - k) ↔ (x < y) := by omega
  have h2 : (x - k > y - k) ↔ (x > y) := by omega
  simp only [h1, h2]
theorem cmp_end {l r : List UInt8} {k : Nat} (hk1 : k ≤ l.length) (hk2 : k ≤ r.length) (h : k = l.length ∨ k = r.length) : cmpL (l.drop k) (r.drop k) = Lib.compareInt (l.length : Int) r.length := by
  rw [cmp_len _ _ (by rcases h with rfl | rfl <;> simp)]
  rw [List.length_drop, List.length_drop, ← compareInt_sub (l.length : Int) r.length k]
  congr 1 <;> omega
theorem cmp_take {l r : List UInt8} {k : Nat} (hl : k < l.length) (hr : k < r.length) (h : l[k] = r[k]) : cmpL (l.drop k) (r.drop k) = cmpL (l.drop (k + 1)) (r.drop (k + 1)) := by
  rw [List.drop_eq_getElem_cons hl, List.drop_eq_getElem_cons hr, cmpL, if_pos h]
theorem cmp_stop {l r : List UInt8} {k : Nat} (hl : k < l.length) (hr : k < r.length) (h : l[k] ≠ r[k]) : cmpL (l.drop k) (r.drop k) = Lib.compareInt (rankL l[k]) (rankL r[k]) := by
  rw [List.drop_eq_getElem_cons hl, List.drop_eq_getElem_cons hr, cmpL, if_neg h]
theorem byte_bl (s : ByteArray) (k : Nat) (h : k < s.size) : s[k] = (bl s)[k]'(by rw [← size_bl]; exact h) := by
  exact (Array.getElem_toList (xs := s.data) h).symm
theorem rank_int (c : UInt8) : rankI c.toNat = rankL c := by
  unfold rankI rankL
  by_cases h : c = 47
  · subst h; rfl
  · rw [if_neg h, if_neg]
    intro e; apply h; apply UInt8.toNat_inj.1; have : c.toNat = 47 := by omega
    rw [this]; rfl

/-- The path is dir or lies below it. -/
def withinB (d p : List UInt8) : Bool := validP p && (d.isEmpty || decide (d = p) || (validP d && Lib.hasPrefix p (d ++ [47])))

end Go.Proofs.YtndgmcggckpgfaaGreatDoor

/- Contracts of package manifest: readRef, total, validRef, validChunks. -/
namespace Go.Proofs.YtndgmcggckpgfaaGreatDoor
open Go.RowKit

def txP (data : List UInt8) (most : Nat) (s : RS) : List UInt8 × RS := rv [] (blockE data s.off most) s
def unP (data : List UInt8) (s : RS) : Nat × RS := rv 0 (numE data s.off) s
def smP (data : List UInt8) (s : RS) : List UInt8 × RS := rv [] (takeE data s.off 32) s
def cnP (data : List UInt8) (most : Nat) (s : RS) : Nat × RS := rv 0 (limE data s.off most) s
def toI (n : Nat) : Int := wrap64 (n : Int)
def refP (data : List UInt8) (s : RS) : Ref × RS :=
  (⟨⟨(smP data s).1.toArray⟩, toI (unP data (smP data s).2).1, toI (unP data (unP data (smP data s).2).2).1⟩, (unP data (unP data (smP data s).2).2).2)

theorem toI_wf (n : Nat) : (Lit.int .i64 (toI n)).wf = true := by
  exact wrap64_wf _
def vRef (r : Ref) : Bool := decide (r.name.size = 32) && decide (0 ≤ r.gen) && decide (r.gen ≤ 1099511627776) && decide (0 ≤ r.size) && decide (r.size ≤ 32768)
set_option maxRecDepth 100000 in
set_option maxHeartbeats 400000 in
theorem validRef_any (r : Ref) (w : World) (hr : RefOk r) : Calls Tryz.prog 49 #[refV r] w fun e w' => e = .returned (.bool (vRef r)) ∧ Below w.heap.size w w' := by
  obtain ⟨n, g, s⟩ := r
  obtain ⟨h1, h2, h3⟩ := hr
  unfold maxLen at h1
  simp only [refV, vRef] at *
  go_enter Tryz.func49, Tryz.ntmps49
  go_wp2_with fail
  all_goals (go_ret; refine ⟨ret_bool ?_, (Below.refl _ _).alloc (Nat.le_refl _) _⟩; rw [Bool.eq_iff_iff]; simp; omega)

theorem sum_p (rb : Nat) (v : Value) (data : List UInt8) (s : RS) (w : World) (hr : RdS w rb v data s) :
    Calls Tryz.prog 79 #[.pointer (some ⟨rb, 0, none⟩)] w fun e w' => ∃ bs s1, smP data s = (bs, s1) ∧ e = .returned (.string ⟨bs.toArray⟩) ∧ RdS w' rb v data s1 ∧ w.grownBy w' (some rb) :=
  (sum_any rb v data s w hr).mono fun _ _ ⟨h1, h2, h3⟩ => ⟨_, _, rfl, h1, h2, h3⟩
theorem uint_p (rb : Nat) (v : Value) (data : List UInt8) (s : RS) (w : World) (hr : RdS w rb v data s) :
    Calls Tryz.prog 61 #[.pointer (some ⟨rb, 0, none⟩)] w fun e w' => ∃ n s1, unP data s = (n, s1) ∧ e = .returned (.int .u64 (n : Int)) ∧ RdS w' rb v data s1 ∧ w.grownBy w' (some rb) :=
  (uint_any rb v data s w hr).mono fun _ _ ⟨h1, h2, h3⟩ => ⟨_, _, rfl, h1, h2, h3⟩
theorem text_p (rb : Nat) (v : Value) (data : List UInt8) (s : RS) (most : Nat) (w : World) (hr : RdS w rb v data s) (hm : most ≤ 1000000) :
    Calls Tryz.prog 60 #[.pointer (some ⟨rb, 0, none⟩), .int .i64 (most : Int)] w fun e w' => ∃ bs s1, txP data most s = (bs, s1) ∧ e = .returned (.string ⟨bs.toArray⟩) ∧ RdS w' rb v data s1 ∧ w.grownBy w' (some rb) :=
  (text_any rb v data s most w hr hm).mono fun _ _ ⟨h1, h2, h3⟩ => ⟨_, _, rfl, h1, h2, h3⟩
theorem count_p (rb : Nat) (v : Value) (data : List UInt8) (s : RS) (most : Nat) (w : World) (hr : RdS w rb v data s) (hm : most ≤ 1000000) :
    Calls Tryz.prog 59 #[.pointer (some ⟨rb, 0, none⟩), .int .i64 (most : Int)] w fun e w' => ∃ n s1, cnP data most s = (n, s1) ∧ e = .returned (.int .i64 (n : Int)) ∧ RdS w' rb v data s1 ∧ w.grownBy w' (some rb) :=
  (count_any rb v data s most w hr hm).mono fun _ _ ⟨h1, h2, h3⟩ => ⟨_, _, rfl, h1, h2, h3⟩
theorem keepH {w w' : World} {r b : Nat} {o : Obj} (hg : w.grownBy w' (some r)) (h : w.heap[b]? = some o) (hne : b ≠ r) : w'.heap[b]? = some o :=
  (hg.block b ((Array.getElem?_eq_some_iff.1 h).1) (by simpa using hne)).trans h
theorem allocH {w : World} {b : Nat} {o : Obj} (h : w.heap[b]? = some o) (x : Obj) : (w.alloc x).heap[b]? = some o := by
  rw [Below.heap_alloc _ _ _ ((Array.getElem?_eq_some_iff.1 h).1)]; exact h
theorem setH {w : World} {b k : Nat} {cs : Array Value} {t : TypeId} (h : w.heap[b]? = some (.cells cs t (0, 0))) (x : Value) : (w.setCell ⟨b, k, none⟩ x).heap[b]? = some (.cells (cs.setIfInBounds k x) t (0, 0)) := by
  simp only [World.setCell, Array.getElem?_modify, if_true, h, Option.map_some]; rfl
theorem setOtherH {w : World} {b c k : Nat} {o : Obj} (h : w.heap[b]? = some o) (hne : b ≠ c) (x : Value) : (w.setCell ⟨c, k, none⟩ x).heap[b]? = some o := by
  rw [Below.heap_setCell _ _ _ _ hne]; exact h
theorem sizeH {w w' : World} {r : Option Nat} (hg : w.grownBy w' r) : w.heap.size ≤ w'.heap.size := hg.size

theorem grown_new {w w' : World} {r : Option Nat} {b : Nat} (h : w.grownBy w' r) (hb : w.heap.size ≤ b) {k : Nat} (x : Value) : w.grownBy (w'.setCell ⟨b, k, none⟩ x) r :=
  ⟨h.os, h.tape, h.output, by have := h.size; simpa [World.setCell] using this, fun i hi hn => by rw [Below.heap_setCell _ _ _ _ (by show i ≠ b; omega)]; exact h.block i hi hn⟩
def zeroRef : Array Value := #[.string ⟨#[]⟩, .int .i64 0, .int .i64 0]
def Reffed (data : List UInt8) (rb : Nat) (v : Value) (s : RS) (w : World) (e : Ending) (w' : World) : Prop :=
  ∃ r s1, refP data s = (r, s1) ∧ e = .returned (refV r) ∧ RdS w' rb v data s1 ∧ w.grownBy w' (some rb) ∧ RefOk r
theorem smP_len (data : List UInt8) (s : RS) : (smP data s).1.length ≤ 32 := by
  unfold smP rv takeE
  split
  · split
    · rename_i x o h
      split at h
      · simp at h
      · simp only [Except.ok.injEq, Prod.mk.injEq] at h
        obtain ⟨rfl, rfl⟩ := h
        simp; omega
    · simp
  · simp
theorem refP_ok (data : List UInt8) (s : RS) : RefOk (refP data s).1 := ⟨by
  have := smP_len data s
  show ByteArray.size ⟨_⟩ ≤ _
  unfold maxLen
  simp [ByteArray.size]; omega, toI_wf _, toI_wf _⟩
set_option maxRecDepth 100000 in
set_option maxHeartbeats 1000000 in
theorem readRef_any (rb : Nat) (v : Value) (data : List UInt8) (s : RS) (w : World) (hr : RdS w rb v data s) :
    Calls Tryz.prog 62 #[.pointer (some ⟨rb, 0, none⟩)] w (Reffed data rb v s w) := by
  have HR := Lib.hid hr
  have hlt := RdAt.lt hr
  clear hr
  go_enter Tryz.func62, Tryz.ntmps62
  go_wp2_with fail
  refine (sum_p rb v data s _ (RdAt.below HR.out ((Below.refl _ _).alloc (Nat.le_refl _) _))).mono ?_
  rintro e w1 ⟨bs, s1, hp1, rfl, h1, h2⟩
  have HP1 := Lib.hid hp1
  have H1 := Lib.hid h1
  have hz := sizeH h2
  simp at hz
  have HB := Lib.hid (keepH h2 (heap_alloc_new w _) (by omega))
  have HG := Lib.hid (grown_trans (grown_below ((Below.refl _ _).alloc (Nat.le_refl _) _) (some rb)) h2)
  clear hp1 h1 h2
  go_wp2_with fail
  refine (uint_p rb v data s1 _ (RdAt.below H1.out ((Below.refl _ _).alloc (Nat.le_refl _) _))).mono ?_
  rintro e w2 ⟨g, s2, hp2, rfl, h1, h2⟩
  have HP2 := Lib.hid hp2
  have H2 := Lib.hid h1
  have HX := Lib.hid (keepH h2 (heap_alloc_new w1 _) (by omega))
  have HB2 := Lib.hid (keepH h2 (allocH HB.out _) (by omega))
  have HG2 := Lib.hid (grown_trans HG.out (grown_trans (grown_below ((Below.refl _ _).alloc (Nat.le_refl _) _) (some rb)) h2))
  have hz2 := sizeH h2
  simp at hz2
  have k1 := cellH (k := 1) HX.out
  have f1 := frozenH (k := 1) HX.out
  simp only [List.getElem?_toArray, List.getElem?_cons_succ, List.getElem?_cons_zero] at k1
  clear hp2 h1 h2 HB HG H1
  go_wp2_with fail
  obtain ⟨w3, hw3⟩ : ∃ w3, w3 = w2.setCell ⟨w1.heap.size, 1, none⟩ (.int .i64 (wrap64 (g : Int))) := ⟨_, rfl⟩
  rw [← hw3]
  have H3 := Lib.hid (show RdS w3 rb v data s2 by rw [hw3]; exact RdAt.setOther HR.out H2.out (by omega) _)
  have x3 := setH (k := 1) HX.out (.int .i64 (wrap64 (g : Int)))
  have y3 := setOtherH (k := 1) HB2.out (show w.heap.size ≠ w1.heap.size by omega) (.int .i64 (wrap64 (g : Int)))
  rw [← hw3] at x3 y3
  simp only [List.setIfInBounds_toArray, List.set_cons_succ, List.set_cons_zero] at x3
  have HX3 := Lib.hid x3
  have HB3 := Lib.hid y3
  clear x3 y3
  have HG3 := Lib.hid (show w.grownBy w3 (some rb) by rw [hw3]; exact grown_new HG2.out (by omega) _)
  have hz3 : w2.heap.size = w3.heap.size := by rw [hw3]; simp [World.setCell]
  clear hw3 k1 f1 HX HB2 HG2 H2
  refine (uint_p rb v data s2 _ H3.out).mono ?_
  rintro e w4 ⟨z, s3, hp3, rfl, h1, h2⟩
  have HP3 := Lib.hid hp3
  have H4 := Lib.hid h1
  have hz4 := sizeH h2
  have HX4 := Lib.hid (keepH h2 HX3.out (by omega))
  have HB4 := Lib.hid (keepH h2 HB3.out (by omega))
  have HG4 := Lib.hid (grown_trans HG3.out h2)
  have k0 := cellH (k := 0) HX4.out
  have k1 := cellH (k := 1) HX4.out
  have k2 := cellH (k := 2) HX4.out
  have f2 := frozenH (k := 2) HX4.out
  have b0 := cellH (k := 0) HB4.out
  have b1 := cellH (k := 1) HB4.out
  have b2 := cellH (k := 2) HB4.out
  have g0 := frozenH (k := 0) HB4.out
  have g1 := frozenH (k := 1) HB4.out
  have g2 := frozenH (k := 2) HB4.out
  simp at k0 k1 k2 b0 b1 b2
  clear hp3 h1 h2 HX3 HB3 HG3 H3
  go_wp2_with fail
  have e1 : refP data s = (⟨⟨bs.toArray⟩, wrap64 (g : Int), wrap64 (z : Int)⟩, s3) := by simp only [refP, HP1.out, HP2.out, HP3.out, toI]
  refine bodyPost_ret (v := refV ⟨⟨bs.toArray⟩, wrap64 (g : Int), wrap64 (z : Int)⟩) (by simp [results, Tryz.results62, go_sem, refV, b0, b1, b2]) rfl ⟨_, _, e1, rfl, ?_, ?_, ?_⟩
  · exact RdAt.setOther HR.out (RdAt.setOther HR.out (RdAt.setOther HR.out (RdAt.setOther HR.out H4.out (by omega) _) (by omega) _) (by omega) _) (by omega) _
  · exact grown_new (grown_new (grown_new (grown_new HG4.out (by omega) _) (by omega) _) (by omega) _) (by omega) _
  · have := refP_ok data s
    rw [e1] at this; exact this

def totW (l : List Ref) : Int := l.foldl (fun a r => wrap64 (a + r.size)) 0
theorem totW_snoc (l : List Ref) (r : Ref) : totW (l ++ [r]) = wrap64 (totW l + r.size) := by unfold totW; rw [List.foldl_append]; rfl
theorem take_snoc' {α : Type} {l : List α} {k : Nat} {x : α} (h : l[k]? = some x) : l.take (k + 1) = l.take k ++ [x] := by
  obtain ⟨hk, rfl⟩ := List.getElem?_eq_some_iff.1 h
  exact List.take_succ_eq_append_getElem hk
/-- The cells of the element k of a row of references, in a later world. -/
theorem refs_at {S : Nat → Prop} {w w' : World} {a : Option Addr} {n cap : Nat} {rs : List Ref} (hv : RefsAt S w (.slice a n cap) rs) (hb : Below w.heap.size w w') {k : Nat} {r : Ref} (hr : rs[k]? = some r) :
    ∃ b o, a = some ⟨b, o, none⟩ ∧ RefOk r ∧ w'.cell? ⟨b, o + k * 3, none⟩ = some (.string r.name) ∧ w'.cell? ⟨b, o + k * 3 + 1, none⟩ = some (.int .i64 r.gen) ∧ w'.cell? ⟨b, o + k * 3 + 2, none⟩ = some (.int .i64 r.size) := by
  obtain ⟨a', cap', hv', _, _, hx⟩ := SeqAt.shape hv RefR.len
  cases hv'
  obtain ⟨b, o, c, rfl, _, ⟨rfl, hok⟩, _, hcl⟩ := hx k r hr
  have q0 := hcl 0 (by omega)
  have q1 := hcl 1 (by omega)
  have q2 := hcl 2 (by omega)
  simp only [refC, List.getElem?_cons_zero, List.getElem?_cons_succ, Nat.add_zero, ← Nat.add_assoc] at q0 q1 q2
  exact ⟨b, o, rfl, hok, (hb.cell (block_lt q0)).trans q0, (hb.cell (block_lt q1)).trans q1, (hb.cell (block_lt q2)).trans q2⟩
set_option maxRecDepth 100000 in
set_option maxHeartbeats 1000000 in
theorem total_any (S : Nat → Prop) (v : Value) (rs : List Ref) (w : World) (hv : RefsAt S w v rs) : Calls Tryz.prog 63 #[v] w fun e w' => e = .returned (.int .i64 (totW rs)) ∧ Below w.heap.size w w' := by
  obtain ⟨a, cap, rfl, hc, hm, -⟩ := SeqAt.shape hv RefR.len
  unfold maxLen at hm
  have HV := Lib.hid hv
  clear hv
  go_enter Tryz.func63, Tryz.ntmps63
  go_wp2_with fail
  go_loopw [3, 5, 8] (fun sm p i wr => ∃ k : Nat, k ≤ rs.length ∧ i = .int .i64 k ∧ sm = .int .i64 (totW (rs.take k)) ∧ Below w.heap.size w wr) (fun _ _ i _ => rs.length - (intOf i).toNat)
  case atStart => exact ⟨0, Nat.zero_le _, rfl, rfl, Below.refl _ _⟩
  case round =>
    obtain ⟨k, hk, rfl, rfl, hb⟩ := hrel
    have HB := Lib.hid hb
    clear hb
    by_cases hlt : k < rs.length
    · obtain ⟨r, hr⟩ : ∃ r, rs[k]? = some r := ⟨rs[k], by simp [hlt]⟩
      obtain ⟨b, o, rfl, -, q0, q1, q2⟩ := refs_at HV.out HB.out hr
      have HS := Lib.hid (show totW (rs.take (k + 1)) = wrap64 (totW (rs.take k) + r.size) by rw [take_snoc' hr, totW_snoc])
      clear hr
      go_wp2_with fail
      go_roundw
      case rel => exact ⟨k + 1, by omega, by go_num, by rw [HS.out], HB.out.alloc HB.out.size _⟩
      case measure => simp [intOf]; omega
    · go_wp2_with fail
      go_ret
      exact ⟨ret_int (by rw [List.take_of_length_le (by omega)]), HB.out⟩

end Go.Proofs.YtndgmcggckpgfaaGreatDoor

/- Contracts of package manifest: validChunks. -/
namespace Go.Proofs.YtndgmcggckpgfaaGreatDoor
open Go.RowKit

structure Item where
  name : ByteArray
  kind : Int
  mode : Int
  time : Int
  size : Int
  link : ByteArray
  chunks : List Ref
  node : Ref
deriving DecidableEq
def itemC (cv : Value) (it : Item) : List Value := [.string it.name, .int .i64 it.kind, .int .i64 it.mode, .int .i64 it.time, .int .i64 it.size, .string it.link, cv, .string it.node.name, .int .i64 it.node.gen, .int .i64 it.node.size]
def itemV (cv : Value) (it : Item) : Value := .agg #[.string it.name, .int .i64 it.kind, .int .i64 it.mode, .int .i64 it.time, .int .i64 it.size, .string it.link, cv, .string it.node.name, .int .i64 it.node.gen, .int .i64 it.node.size]
def vPiece (r : Ref) : Bool := vRef r && decide (1 ≤ r.size)
def vChunks (it : Item) : Bool := it.chunks.all vPiece && (decide (it.size = totW it.chunks) && decide (it.size ≤ 1048576))
theorem validRef_is (r : Ref) (b : Bool) (w : World) (hr : RefOk r) (h : vRef r = b) : Calls Tryz.prog 49 #[refV r] w fun e w' => e = .returned (.bool b) ∧ Below w.heap.size w w' := by
  rw [← h]; exact validRef_any r w hr
theorem all_take {α : Type} {p : α → Bool} {l : List α} {k : Nat} {x : α} (h : (l.take k).all p = true) (hx : l[k]? = some x) (hp : p x = true) : (l.take (k + 1)).all p = true := by
  rw [take_snoc' hx, List.all_append, h]; simp [hp]
theorem all_no {α : Type} {p : α → Bool} {l : List α} {k : Nat} {x : α} (hx : l[k]? = some x) (hp : p x = false) : l.all p = false := by
  rw [List.all_eq_false]
  exact ⟨x, List.mem_of_getElem? hx, by rw [hp]; simp⟩
set_option maxRecDepth 100000 in
set_option maxHeartbeats 2000000 in
theorem validChunks_any (S : Nat → Prop) (it : Item) (cv : Value) (w : World) (hcv : RefsAt S w cv it.chunks) : Calls Tryz.prog 90 #[itemV cv it] w fun e w' => e = .returned (.bool (vChunks it)) ∧ Below w.heap.size w w' := by
  obtain ⟨a, cap, rfl, hc, hm, -⟩ := SeqAt.shape hcv RefR.len
  unfold maxLen at hm
  unfold itemV
  go_enter Tryz.func90, Tryz.ntmps90
  go_wp2_with fail
  obtain ⟨W, hW⟩ : ∃ W, W = w.alloc (.cells #[.string it.name, .int .i64 it.kind, .int .i64 it.mode, .int .i64 it.time, .int .i64 it.size, .string it.link, .slice a it.chunks.length cap, .string it.node.name, .int .i64 it.node.gen, .int .i64 it.node.size] 76) := ⟨_, rfl⟩
  rw [← hW]
  have HBW := Lib.hid (show Below w.heap.size w W by rw [hW]; exact (Below.refl _ _).alloc (Nat.le_refl _) _)
  have HBX := Lib.hid (show W.heap[w.heap.size]? = some (.cells #[.string it.name, .int .i64 it.kind, .int .i64 it.mode, .int .i64 it.time, .int .i64 it.size, .string it.link, .slice a it.chunks.length cap, .string it.node.name, .int .i64 it.node.gen, .int .i64 it.node.size] 76 (0, 0)) by rw [hW]; exact heap_alloc_new w _)
  have hsz : W.heap.size = w.heap.size + 1 := by rw [hW]; simp
  have HSZ := Lib.hid hsz
  have HV := Lib.hid (show RefsAt S W (.slice a it.chunks.length cap) it.chunks from SeqAt.below hcv (by omega) HBW.out (fun _ _ _ h => h))
  clear hW hcv hsz
  go_loopw [4, 8] (fun p i wr => ∃ k : Nat, k ≤ it.chunks.length ∧ i = .int .i64 k ∧ (it.chunks.take k).all vPiece = true ∧ Below W.heap.size W wr) (fun _ i _ => it.chunks.length - (intOf i).toNat)
  case atStart => exact ⟨0, Nat.zero_le _, rfl, rfl, Below.refl _ _⟩
  case round =>
    obtain ⟨k, hk, rfl, hal, hb⟩ := hrel
    have HB := Lib.hid hb
    have HA := Lib.hid hal
    clear hb hal
    by_cases hlt : k < it.chunks.length
    · obtain ⟨r, hr⟩ : ∃ r, it.chunks[k]? = some r := ⟨it.chunks[k], by simp [hlt]⟩
      obtain ⟨b, o, rfl, hok, q0, q1, q2⟩ := refs_at HV.out HB.out hr
      have HR := Lib.hid hr
      have HO := Lib.hid hok
      clear hr hok
      cases hvr : vRef r
      · have HF := Lib.hid (show vChunks it = false by unfold vChunks; rw [all_no HR.out (by simp [vPiece, hvr])]; rfl)
        have HVR := Lib.hid hvr
        clear hvr
        go_wp2_with (go_at_call 49; refine (validRef_is r false _ HO.out HVR.out).mono ?_; rintro e w1 ⟨rfl, hb1⟩; have HB1 := Lib.hid (below_next ((HB.out).alloc HB.out.size _) hb1); clear hb1)
        go_ret
        exact ⟨ret_bool (by rw [HF.out]), HBW.out.trans (HB1.out.mono (by have := HSZ.out; omega))⟩
      · have HVR := Lib.hid hvr
        clear hvr
        by_cases hs : r.size < 1
        · have HF := Lib.hid (show vChunks it = false by unfold vChunks; rw [all_no HR.out (by simp [vPiece, HVR.out]; omega)]; rfl)
          go_wp2_with (go_at_call 49; refine (validRef_is r true _ HO.out HVR.out).mono ?_; rintro e w1 ⟨rfl, hb1⟩; have d2 : w1.cell? ⟨wr.heap.size, 2, none⟩ = some (.int .i64 r.size) := (hb1.cell (p := ⟨wr.heap.size, 2, none⟩) (by simp)).trans (cellH (heap_alloc_new wr _)); have HB1 := Lib.hid (below_next ((HB.out).alloc HB.out.size _) hb1); clear hb1)
          go_ret
          exact ⟨ret_bool (by rw [HF.out]), HBW.out.trans (HB1.out.mono (by have := HSZ.out; omega))⟩
        · go_wp2_with (go_at_call 49; refine (validRef_is r true _ HO.out HVR.out).mono ?_; rintro e w1 ⟨rfl, hb1⟩; have d2 : w1.cell? ⟨wr.heap.size, 2, none⟩ = some (.int .i64 r.size) := (hb1.cell (p := ⟨wr.heap.size, 2, none⟩) (by simp)).trans (cellH (heap_alloc_new wr _)); have HB1 := Lib.hid (below_next ((HB.out).alloc HB.out.size _) hb1); clear hb1)
          go_roundw
          case rel => exact ⟨k + 1, by omega, by go_num, all_take HA.out HR.out (by simp [vPiece, HVR.out]; omega), HB1.out⟩
          case measure => simp [intOf]; omega
    · have hall : it.chunks.all vPiece = true := by
        have := HA.out
        rwa [List.take_of_length_le (by omega)] at this
      have HALL := Lib.hid hall
      have HBXr := Lib.hid ((HB.out.block w.heap.size (by have := HSZ.out; omega)).trans HBX.out)
      have c4 := cellH (k := 4) HBXr.out
      have c6 := cellH (k := 6) HBXr.out
      simp only [List.getElem?_toArray, List.getElem?_cons_succ, List.getElem?_cons_zero] at c4 c6
      have HVr := Lib.hid (show RefsAt S wr (.slice a it.chunks.length cap) it.chunks from SeqAt.below HV.out (by omega) HB.out (fun _ _ _ h => h))
      clear hall
      go_wp2_with fail
      refine hld_start (fun w' => w'.cell? ⟨w.heap.size, 4, none⟩ = some (.int .i64 it.size) ∧ w'.cell? ⟨w.heap.size, 6, none⟩ = some (.slice a it.chunks.length cap)) (by kernel_rfl) ?_
      refine hld_take 0 rfl (by kernel_rfl) (by kernel_rfl) (by kernel_rfl) (fun _ _ _ h => h) rfl (by go_simp) (by rintro w' ⟨hw1, hw2⟩; go_simp; rfl) ?_
      simp only [Act.put, List.setIfInBounds_toArray, List.set_cons_succ, List.set_cons_zero]
      refine hld_take 1 rfl (by kernel_rfl) (by kernel_rfl) (by kernel_rfl) (fun _ _ _ h => h) rfl (by go_simp) (by rintro w' ⟨hw1, hw2⟩; go_simp; rfl) ?_
      simp only [Act.put, List.setIfInBounds_toArray, List.set_cons_succ, List.set_cons_zero]
      refine hld_take 2 rfl (by kernel_rfl) (by kernel_rfl) (by kernel_rfl) (fun _ _ _ h => h) rfl (by go_simp) (by rintro w' ⟨hw1, hw2⟩; go_simp; rfl) ?_
      simp only [Act.put, List.setIfInBounds_toArray, List.set_cons_succ, List.set_cons_zero]
      refine hld_take 3 rfl (by kernel_rfl) (by kernel_rfl) (by kernel_rfl) (fun _ _ _ h => h) rfl (by go_simp) (by rintro w' ⟨hw1, hw2⟩; go_simp; rfl) ?_
      simp only [Act.put, List.setIfInBounds_toArray, List.set_cons_succ, List.set_cons_zero]
      refine hld_bar 4 rfl (by kernel_rfl) rfl (fun K hK => ?_)
      go_wp2_with (go_at_call 63; refine (total_any S _ it.chunks _ (SeqAt.below HVr.out (by omega) ((Below.refl _ _).drew) (fun _ _ _ h => h))).mono ?_; rintro e w1 ⟨rfl, hb1⟩; have HB1 := Lib.hid hb1; clear hb1)
      have d4 : w1.cell? ⟨w.heap.size, 4, none⟩ = some (.int .i64 it.size) := (HB1.out.cell (p := ⟨w.heap.size, 4, none⟩) (block_lt (a := ⟨w.heap.size, 4, none⟩) c4)).trans c4
      have d6 : w1.cell? ⟨w.heap.size, 6, none⟩ = some (.slice a it.chunks.length cap) := (HB1.out.cell (p := ⟨w.heap.size, 6, none⟩) (block_lt (a := ⟨w.heap.size, 6, none⟩) c6)).trans c6
      refine ⟨⟨d4, d6⟩, ?_⟩
      have HEND := Lib.hid (show Below w.heap.size w w1 from HBW.out.trans ((below_next HB.out (((Below.refl _ _).drew).trans HB1.out)).mono (by have := HSZ.out; omega)))
      by_cases he : it.size = totW it.chunks
      · have e1 : (it.size == totW it.chunks) = true := by simp [he]
        refine hld_take 5 rfl (by kernel_rfl) (by kernel_rfl) (by kernel_rfl) (fun _ _ _ h => h) rfl (by go_simp) (by rintro w' ⟨hw1, hw2⟩; go_simp; rfl) ?_
        simp only [Act.put, List.setIfInBounds_toArray, List.set_cons_succ, List.set_cons_zero]
        refine hld_take 6 rfl (by kernel_rfl) (by kernel_rfl) (by kernel_rfl) (fun _ _ _ h => h) rfl (by go_simp) (by rintro w' ⟨hw1, hw2⟩; go_simp; rfl) ?_
        simp only [Act.put, List.setIfInBounds_toArray, List.set_cons_succ, List.set_cons_zero]
        refine hld_take 7 rfl (by kernel_rfl) (by kernel_rfl) (by kernel_rfl) (fun _ _ _ h => h) rfl (by go_simp) (by rintro w' ⟨hw1, hw2⟩; go_simp; rfl) ?_
        simp only [Act.put, List.setIfInBounds_toArray, List.set_cons_succ, List.set_cons_zero]
        refine hld_take 8 rfl (by kernel_rfl) (by kernel_rfl) (by kernel_rfl) (fun _ _ _ h => h) rfl (by go_simp) (by rintro w' ⟨hw1, hw2⟩; go_simp; rfl) ?_
        simp only [Act.put, List.setIfInBounds_toArray, List.set_cons_succ, List.set_cons_zero]
        refine hld_take 9 rfl (by kernel_rfl) (by kernel_rfl) (by kernel_rfl) (fun _ _ _ h => h) rfl (by go_simp) (by rintro w' ⟨hw1, hw2⟩; go_simp; rfl) ?_
        simp only [Act.put, List.setIfInBounds_toArray, List.set_cons_succ, List.set_cons_zero]
        refine hld_take 10 rfl (by kernel_rfl) (by kernel_rfl) (by kernel_rfl) (fun _ _ _ h => h) rfl (by go_simp) (by rintro w' ⟨hw1, hw2⟩; go_simp; rfl) ?_
        simp only [Act.put, List.setIfInBounds_toArray, List.set_cons_succ, List.set_cons_zero]
        refine hld_take 11 rfl (by kernel_rfl) (by kernel_rfl) (by kernel_rfl) (fun _ _ _ h => h) rfl (by go_simp) (by rintro w' ⟨hw1, hw2⟩; go_simp; rfl) ?_
        simp only [Act.put, List.setIfInBounds_toArray, List.set_cons_succ, List.set_cons_zero]
        refine hld_done (by kernel_rfl) ?_
        have HE := Lib.hid he
        clear he
        go_wp2_with fail
        go_ret
        refine ⟨ret_bool ?_, HEND.out⟩
        unfold vChunks
        rw [HALL.out]; simp [HE.out]
      · have e1 : (it.size == totW it.chunks) = false := by simp [he]
        refine hld_take 5 rfl (by kernel_rfl) (by kernel_rfl) (by kernel_rfl) (fun _ _ _ h => h) rfl (by go_simp) (by rintro w' ⟨hw1, hw2⟩; go_simp; rfl) ?_
        simp only [Act.put, List.setIfInBounds_toArray, List.set_cons_succ, List.set_cons_zero]
        refine hld_take 6 rfl (by kernel_rfl) (by kernel_rfl) (by kernel_rfl) (fun _ _ _ h => h) rfl (by go_simp) (by rintro w' ⟨hw1, hw2⟩; go_simp; rfl) ?_
        simp only [Act.put, List.setIfInBounds_toArray, List.set_cons_succ, List.set_cons_zero]
        refine hld_skip 7 rfl (by kernel_rfl) (by kernel_rfl) (by kernel_rfl) (fun _ _ _ h => h) rfl (by go_simp) ?_
        simp only [Act.put, List.setIfInBounds_toArray, List.set_cons_succ, List.set_cons_zero]
        refine hld_skip 8 rfl (by kernel_rfl) (by kernel_rfl) (by kernel_rfl) (fun _ _ _ h => h) rfl (by go_simp) ?_
        simp only [Act.put, List.setIfInBounds_toArray, List.set_cons_succ, List.set_cons_zero]
        refine hld_skip 9 rfl (by kernel_rfl) (by kernel_rfl) (by kernel_rfl) (fun _ _ _ h => h) rfl (by go_simp) ?_
        simp only [Act.put, List.setIfInBounds_toArray, List.set_cons_succ, List.set_cons_zero]
        refine hld_take 10 rfl (by kernel_rfl) (by kernel_rfl) (by kernel_rfl) (fun _ _ _ h => h) rfl (by go_simp) (by rintro w' ⟨hw1, hw2⟩; go_simp; rfl) ?_
        simp only [Act.put, List.setIfInBounds_toArray, List.set_cons_succ, List.set_cons_zero]
        refine hld_take 11 rfl (by kernel_rfl) (by kernel_rfl) (by kernel_rfl) (fun _ _ _ h => h) rfl (by go_simp) (by rintro w' ⟨hw1, hw2⟩; go_simp; rfl) ?_
        simp only [Act.put, List.setIfInBounds_toArray, List.set_cons_succ, List.set_cons_zero]
        refine hld_done (by kernel_rfl) ?_
        have HE := Lib.hid he
        clear he
        go_wp2_with fail
        go_ret
        refine ⟨ret_bool ?_, HEND.out⟩
        unfold vChunks
        rw [HALL.out]; simp [HE.out]

end Go.Proofs.YtndgmcggckpgfaaGreatDoor

/- Contracts of package manifest: validItem. -/
namespace Go.Proofs.YtndgmcggckpgfaaGreatDoor
open Go.RowKit

def noRef : Ref := ⟨⟨#[]⟩, 0, 0⟩
def vHead (it : Item) : Bool := (validP (bl it.name) && !(bl it.name).contains 47) && (decide (0 ≤ it.mode) && decide (it.mode ≤ 511) && decide (0 ≤ it.time))
def vBody (it : Item) : Bool :=
  if it.kind = 1 then decide (it.link.size = 0) && decide (it.node = noRef) && vChunks it
  else if it.kind = 2 then decide (it.link.size = 0) && decide (it.size = 0) && decide (it.chunks.length = 0) && vRef it.node
  else if it.kind = 3 then (decide (it.size = 0) && decide (it.chunks.length = 0) && decide (it.node = noRef)) && (decide (1 ≤ it.link.size) && decide (it.link.size ≤ 512) && !(bl it.link).contains 0)
  else false
def vItem (it : Item) : Bool := vHead it && vBody it
structure ItemOk (it : Item) : Prop where
  nm : it.name.size ≤ maxLen
  lk : it.link.size ≤ maxLen
  nd : RefOk it.node
theorem valid_is (s : ByteArray) (b : Bool) (w : World) (he : Env w) (h : validP (bl s) = b) : Calls Tryz.prog 88 #[.string s] w fun e w' => e = .returned (.bool b) ∧ Below w.heap.size w w' := by
  rw [← h]; exact valid_any s w he
theorem contains_is (s : ByteArray) (b : Bool) (w : World) (h : (bl s).contains 47 = b) : Calls Tryz.prog 89 #[.string s, .string ⟨#[47]⟩] w fun e w' => e = .returned (.bool b) ∧ w = w' := by
  rw [← h]; exact contains_one s 47 w
theorem indexByte_any (s : ByteArray) (w : World) : Calls Tryz.prog 91 #[.string s, .int .u8 0] w fun e w' => e = .returned (.int .i64 (Lib.indexByte (bl s) 0)) ∧ w = w' :=
  (Tryz.strings_IndexByte s 0 w).mono fun _ _ ⟨he, hw⟩ => ⟨he, hw.symm⟩
set_option maxRecDepth 100000 in
set_option maxHeartbeats 2000000 in
theorem validItem_any (S : Nat → Prop) (it : Item) (cv : Value) (w : World) (hcv : RefsAt S w cv it.chunks) (hok : ItemOk it) (henv : Env w) : Calls Tryz.prog 80 #[itemV cv it] w fun e w' => e = .returned (.bool (vItem it)) ∧ Below w.heap.size w w' := by
  obtain ⟨a, cap, rfl, hc, hm, -⟩ := SeqAt.shape hcv RefR.len
  unfold maxLen at hm
  have HV := Lib.hid hcv
  have HO := Lib.hid hok
  have HE := Lib.hid henv
  have hq1 := hok.nm
  have hq2 := hok.lk
  unfold maxLen at hq1 hq2
  have heq : ∀ w, (Op.equalIn 10000 43 (.agg #[.string it.node.name, .int .i64 it.node.gen, .int .i64 it.node.size]) (.agg #[.string ⟨#[]⟩, .int .i64 0, .int .i64 0])).run Tryz.prog w = .ok (decide (it.node = noRef)) w := fun w => eqRef it.node noRef w
  have HL := Lib.hid (show it.link.toList = [] ↔ it.link.size = 0 by rw [toList_bl, size_bl]; simp)
  clear hcv hok henv
  unfold itemV
  cases hv : validP (bl it.name)
  · have HVP := Lib.hid hv
    clear hv
    go_enter Tryz.func80, Tryz.ntmps80
    go_wp2_with fail
    obtain ⟨W, hW⟩ : ∃ W, W = w.alloc (.cells #[.string it.name, .int .i64 it.kind, .int .i64 it.mode, .int .i64 it.time, .int .i64 it.size, .string it.link, .slice a it.chunks.length cap, .string it.node.name, .int .i64 it.node.gen, .int .i64 it.node.size] 76) := ⟨_, rfl⟩
    rw [← hW]
    have HBW := Lib.hid (show Below w.heap.size w W by rw [hW]; exact (Below.refl _ _).alloc (Nat.le_refl _) _)
    have HBX := Lib.hid (show W.heap[w.heap.size]? = some (.cells #[.string it.name, .int .i64 it.kind, .int .i64 it.mode, .int .i64 it.time, .int .i64 it.size, .string it.link, .slice a it.chunks.length cap, .string it.node.name, .int .i64 it.node.gen, .int .i64 it.node.size] 76 (0, 0)) by rw [hW]; exact heap_alloc_new w _)
    clear hW
    refine (valid_is it.name false _ (HE.out.below HBW.out) HVP.out).mono ?_
    rintro e w1 ⟨rfl, hb1⟩
    have HB1 := Lib.hid (below_next HBW.out hb1)
    clear hb1
    go_wp2_with fail
    go_ret
    exact ⟨ret_bool (by simp [vItem, vHead, HVP.out]), HB1.out⟩
  · have HVP := Lib.hid hv
    clear hv
    cases hcn : (bl it.name).contains 47
    · have HCN := Lib.hid hcn
      clear hcn
      by_cases hmt : 0 ≤ it.mode ∧ it.mode ≤ 511 ∧ 0 ≤ it.time
      · have HH := Lib.hid (show vItem it = vBody it by obtain ⟨x1, x2, x3⟩ := hmt; unfold vItem vHead; rw [HVP.out, HCN.out]; simp [x1, x2, x3])
        obtain ⟨hm1, hm2, hm3⟩ := hmt
        go_enter Tryz.func80, Tryz.ntmps80
        go_wp2_with fail
        obtain ⟨W, hW⟩ : ∃ W, W = w.alloc (.cells #[.string it.name, .int .i64 it.kind, .int .i64 it.mode, .int .i64 it.time, .int .i64 it.size, .string it.link, .slice a it.chunks.length cap, .string it.node.name, .int .i64 it.node.gen, .int .i64 it.node.size] 76) := ⟨_, rfl⟩
        rw [← hW]
        have HBW := Lib.hid (show Below w.heap.size w W by rw [hW]; exact (Below.refl _ _).alloc (Nat.le_refl _) _)
        have HBX := Lib.hid (show W.heap[w.heap.size]? = some (.cells #[.string it.name, .int .i64 it.kind, .int .i64 it.mode, .int .i64 it.time, .int .i64 it.size, .string it.link, .slice a it.chunks.length cap, .string it.node.name, .int .i64 it.node.gen, .int .i64 it.node.size] 76 (0, 0)) by rw [hW]; exact heap_alloc_new w _)
        clear hW
        refine (valid_is it.name true _ (HE.out.below HBW.out) HVP.out).mono ?_
        rintro e w1 ⟨rfl, hb1⟩
        have HBXr := Lib.hid ((hb1.block w.heap.size ((Array.getElem?_eq_some_iff.1 HBX.out).1)).trans HBX.out)
        have HB1 := Lib.hid (below_next HBW.out hb1)
        have hlt1 : w.heap.size < w1.heap.size := (Array.getElem?_eq_some_iff.1 HBXr.out).1
        have c0 := cellH (k := 0) HBXr.out
        have c1 := cellH (k := 1) HBXr.out
        have c2 := cellH (k := 2) HBXr.out
        have c3 := cellH (k := 3) HBXr.out
        have c4 := cellH (k := 4) HBXr.out
        have c5 := cellH (k := 5) HBXr.out
        have c6 := cellH (k := 6) HBXr.out
        have c7 := cellH (k := 7) HBXr.out
        have c8 := cellH (k := 8) HBXr.out
        have c9 := cellH (k := 9) HBXr.out
        simp only [List.getElem?_toArray, List.getElem?_cons_succ, List.getElem?_cons_zero] at c0 c1 c2 c3 c4 c5 c6 c7 c8 c9
        clear hb1 HBX
        go_wp2_with fail
        refine (contains_is it.name false _ HCN.out).mono ?_
        rintro e w2 ⟨rfl, rfl⟩
        by_cases hk1 : it.kind = 1
        · have e1 : (it.kind == 1) = true := by simp [hk1]
          have HK := Lib.hid (show vBody it = (decide (it.link.size = 0) && decide (it.node = noRef) && vChunks it) by unfold vBody; rw [if_pos hk1])
          clear hk1
          have HVA := Lib.hid (show RefsAt S (w1.alloc (.cells #[.string ⟨#[]⟩, .int .i64 0, .int .i64 0] 43)) (.slice a it.chunks.length cap) it.chunks from SeqAt.below HV.out (by omega) (HB1.out.alloc HB1.out.size _) (fun _ _ _ h => h))
          go_wp2_with fail
          · have hvc := validChunks_any S ⟨it.name, it.kind, it.mode, it.time, it.size, it.link, it.chunks, noRef⟩ (.slice a it.chunks.length cap) _ HVA.out
            simp only [itemV, vChunks] at hvc
            refine hvc.mono ?_
            rintro e w3 ⟨rfl, hb3⟩
            have HB3 := Lib.hid (below_next (HB1.out.alloc HB1.out.size _) hb3)
            have hl : it.link.size = 0 := HL.out.1 (by assumption)
            have hn : it.node = noRef := by assumption
            have HLN := Lib.hid (And.intro hl hn)
            clear hb3 hl hn
            go_wp2_with fail
            go_ret
            exact ⟨ret_bool (by rw [HH.out, HK.out]; simp [HLN.out.1, HLN.out.2]; rfl), HB3.out⟩
          all_goals (
            go_ret
            refine ⟨ret_bool ?_, HB1.out.alloc HB1.out.size _⟩
            rw [HH.out, HK.out]
            refine (Bool.eq_false_iff.2 fun hh => ?_).symm
            simp only [Bool.and_eq_true, decide_eq_true_eq] at hh
            obtain ⟨⟨x1, x2⟩, x3⟩ := hh
            first | exact absurd x2 (by assumption) | exact absurd (HL.out.2 x1) (by assumption))
        · have e1 : (it.kind == 1) = false := by simp [hk1]
          by_cases hk2 : it.kind = 2
          · have e2 : (it.kind == 2) = true := by simp [hk2]
            have HK := Lib.hid (show vBody it = (decide (it.link.size = 0) && decide (it.size = 0) && decide (it.chunks.length = 0) && vRef it.node) by unfold vBody; rw [if_neg hk1, if_pos hk2])
            clear hk1 hk2
            go_wp2_with fail
            · refine (validRef_any it.node _ HO.out.nd).mono ?_
              rintro e w3 ⟨rfl, hb3⟩
              have HB3 := Lib.hid (below_next (HB1.out.alloc HB1.out.size _) hb3)
              have hl : it.link.size = 0 := HL.out.1 (by assumption)
              have hs : it.size = 0 := by assumption
              have hn : it.chunks = [] := by assumption
              have HLN := Lib.hid (And.intro hl (And.intro hs hn))
              clear hb3 hl hn hs
              go_wp2_with fail
              go_ret
              exact ⟨ret_bool (by rw [HH.out, HK.out]; simp [HLN.out.1, HLN.out.2.1, HLN.out.2.2]), HB3.out⟩
            all_goals (
              go_ret
              refine ⟨ret_bool ?_, HB1.out.alloc HB1.out.size _⟩
              rw [HH.out, HK.out]
              refine (Bool.eq_false_iff.2 fun hh => ?_).symm
              simp only [Bool.and_eq_true, decide_eq_true_eq] at hh
              obtain ⟨⟨⟨x1, x2⟩, x3⟩, x4⟩ := hh
              first | exact absurd (List.eq_nil_of_length_eq_zero x3) (by assumption) | exact absurd x2 (by assumption) | exact absurd (HL.out.2 x1) (by assumption))
          · have e2 : (it.kind == 2) = false := by simp [hk2]
            by_cases hk3 : it.kind = 3
            · have e3 : (it.kind == 3) = true := by simp [hk3]
              have HK := Lib.hid (show vBody it = ((decide (it.size = 0) && decide (it.chunks.length = 0) && decide (it.node = noRef)) && (decide (1 ≤ it.link.size) && decide (it.link.size ≤ 512) && !(bl it.link).contains 0)) by unfold vBody; rw [if_neg hk1, if_neg hk2, if_pos hk3])
              clear hk1 hk2 hk3
              go_wp2_with fail
              any_goals (
                go_ret
                refine ⟨ret_bool ?_, HB1.out.alloc HB1.out.size _⟩
                rw [HH.out, HK.out]
                refine (Bool.eq_false_iff.2 fun hh => ?_).symm
                simp only [Bool.and_eq_true, decide_eq_true_eq] at hh
                obtain ⟨⟨⟨x1, x2⟩, x3⟩, ⟨x4, x5⟩, x6⟩ := hh
                first
                  | exact absurd x1 (by assumption)
                  | exact absurd (List.eq_nil_of_length_eq_zero x2) (by assumption)
                  | (exfalso; have hn : (!decide (it.node = noRef)) = true := by assumption
                     simp [x3] at hn)
                  | omega)
              refine (indexByte_any it.link _).mono ?_
              rintro e w3 ⟨rfl, rfl⟩
              have hs : it.size = 0 := by assumption
              have hch : it.chunks = [] := by assumption
              have hn : (!decide (it.node = noRef)) = false := by assumption
              have hl1 : 1 ≤ (it.link.size : Int) := by assumption
              have hl2 : (it.link.size : Int) ≤ 512 := by assumption
              have HLN := Lib.hid (And.intro hs (And.intro hch (And.intro hn (And.intro hl1 hl2))))
              go_wp2_with fail
              go_ret
              refine ⟨ret_bool ?_, HB1.out.alloc HB1.out.size _⟩
              obtain ⟨y1, y2, y3, y4, y5⟩ := HLN.out
              have y6 : it.node = noRef := by simpa using y3
              rw [HH.out, HK.out, ← indexByte_contains]
              have z1 : decide (1 ≤ it.link.size) = true := by simp; omega
              have z2 : decide (it.link.size ≤ 512) = true := by simp; omega
              rw [z1, z2]
              simp [y1, y2, y6]
              rw [Bool.eq_iff_iff]; simp
            · have e3 : (it.kind == 3) = false := by simp [hk3]
              have HK := Lib.hid (show vBody it = false by unfold vBody; rw [if_neg hk1, if_neg hk2, if_neg hk3])
              clear hk1 hk2 hk3
              go_wp2_with fail
              go_ret
              exact ⟨ret_bool (by rw [HH.out, HK.out]), HB1.out.alloc HB1.out.size _⟩
      · have HF := Lib.hid (show vItem it = false by
          have : (decide (0 ≤ it.mode) && decide (it.mode ≤ 511) && decide (0 ≤ it.time)) = false := by
            rw [Bool.eq_false_iff]; simp; omega
          unfold vItem vHead; rw [this]; simp)
        go_enter Tryz.func80, Tryz.ntmps80
        go_wp2_with fail
        obtain ⟨W, hW⟩ : ∃ W, W = w.alloc (.cells #[.string it.name, .int .i64 it.kind, .int .i64 it.mode, .int .i64 it.time, .int .i64 it.size, .string it.link, .slice a it.chunks.length cap, .string it.node.name, .int .i64 it.node.gen, .int .i64 it.node.size] 76) := ⟨_, rfl⟩
        rw [← hW]
        have HBW := Lib.hid (show Below w.heap.size w W by rw [hW]; exact (Below.refl _ _).alloc (Nat.le_refl _) _)
        have HBX := Lib.hid (show W.heap[w.heap.size]? = some (.cells #[.string it.name, .int .i64 it.kind, .int .i64 it.mode, .int .i64 it.time, .int .i64 it.size, .string it.link, .slice a it.chunks.length cap, .string it.node.name, .int .i64 it.node.gen, .int .i64 it.node.size] 76 (0, 0)) by rw [hW]; exact heap_alloc_new w _)
        clear hW
        refine (valid_is it.name true _ (HE.out.below HBW.out) HVP.out).mono ?_
        rintro e w1 ⟨rfl, hb1⟩
        have HBXr := Lib.hid ((hb1.block w.heap.size ((Array.getElem?_eq_some_iff.1 HBX.out).1)).trans HBX.out)
        have HB1 := Lib.hid (below_next HBW.out hb1)
        have hlt1 : w.heap.size < w1.heap.size := (Array.getElem?_eq_some_iff.1 HBXr.out).1
        have c0 := cellH (k := 0) HBXr.out
        have c1 := cellH (k := 1) HBXr.out
        have c2 := cellH (k := 2) HBXr.out
        have c3 := cellH (k := 3) HBXr.out
        have c4 := cellH (k := 4) HBXr.out
        have c5 := cellH (k := 5) HBXr.out
        have c6 := cellH (k := 6) HBXr.out
        have c7 := cellH (k := 7) HBXr.out
        have c8 := cellH (k := 8) HBXr.out
        have c9 := cellH (k := 9) HBXr.out
        simp only [List.getElem?_toArray, List.getElem?_cons_succ, List.getElem?_cons_zero] at c0 c1 c2 c3 c4 c5 c6 c7 c8 c9
        clear hb1 HBX
        go_wp2_with fail
        refine (contains_is it.name false _ HCN.out).mono ?_
        rintro e w2 ⟨rfl, rfl⟩
        have HM3 := Lib.hid hmt
        clear hmt
        rcases Int.lt_or_le it.mode 0 with h1 | h1
        · go_wp2_with fail
          go_ret
          exact ⟨ret_bool (by rw [HF.out]), HB1.out⟩
        · rcases Int.lt_or_le 511 it.mode with h2 | h2
          · go_wp2_with fail
            go_ret
            exact ⟨ret_bool (by rw [HF.out]), HB1.out⟩
          · have h3 : it.time < 0 := by have := HM3.out; omega
            go_wp2_with fail
            go_ret
            exact ⟨ret_bool (by rw [HF.out]), HB1.out⟩
    · have HCN := Lib.hid hcn
      clear hcn
      go_enter Tryz.func80, Tryz.ntmps80
      go_wp2_with fail
      obtain ⟨W, hW⟩ : ∃ W, W = w.alloc (.cells #[.string it.name, .int .i64 it.kind, .int .i64 it.mode, .int .i64 it.time, .int .i64 it.size, .string it.link, .slice a it.chunks.length cap, .string it.node.name, .int .i64 it.node.gen, .int .i64 it.node.size] 76) := ⟨_, rfl⟩
      rw [← hW]
      have HBW := Lib.hid (show Below w.heap.size w W by rw [hW]; exact (Below.refl _ _).alloc (Nat.le_refl _) _)
      have HBX := Lib.hid (show W.heap[w.heap.size]? = some (.cells #[.string it.name, .int .i64 it.kind, .int .i64 it.mode, .int .i64 it.time, .int .i64 it.size, .string it.link, .slice a it.chunks.length cap, .string it.node.name, .int .i64 it.node.gen, .int .i64 it.node.size] 76 (0, 0)) by rw [hW]; exact heap_alloc_new w _)
      clear hW
      refine (valid_is it.name true _ (HE.out.below HBW.out) HVP.out).mono ?_
      rintro e w1 ⟨rfl, hb1⟩
      have HBXr := Lib.hid ((hb1.block w.heap.size ((Array.getElem?_eq_some_iff.1 HBX.out).1)).trans HBX.out)
      have HB1 := Lib.hid (below_next HBW.out hb1)
      have hlt1 : w.heap.size < w1.heap.size := (Array.getElem?_eq_some_iff.1 HBXr.out).1
      have c0 := cellH (k := 0) HBXr.out
      have c1 := cellH (k := 1) HBXr.out
      have c2 := cellH (k := 2) HBXr.out
      have c3 := cellH (k := 3) HBXr.out
      have c4 := cellH (k := 4) HBXr.out
      have c5 := cellH (k := 5) HBXr.out
      have c6 := cellH (k := 6) HBXr.out
      have c7 := cellH (k := 7) HBXr.out
      have c8 := cellH (k := 8) HBXr.out
      have c9 := cellH (k := 9) HBXr.out
      simp only [List.getElem?_toArray, List.getElem?_cons_succ, List.getElem?_cons_zero] at c0 c1 c2 c3 c4 c5 c6 c7 c8 c9
      clear hb1 HBX
      go_wp2_with fail
      refine (contains_is it.name true _ HCN.out).mono ?_
      rintro e w2 ⟨rfl, rfl⟩
      go_wp2_with fail
      go_ret
      exact ⟨ret_bool (by unfold vItem vHead; rw [HCN.out]; simp), HB1.out⟩

end Go.Proofs.YtndgmcggckpgfaaGreatDoor

/- Contracts of package manifest: validNode. -/
namespace Go.Proofs.YtndgmcggckpgfaaGreatDoor
open Go.RowKit


def ItemR (S : Nat → Prop) (w : World) (c : List Value) (it : Item) : Prop := ∃ cv, c = itemC cv it ∧ RefsAt S w cv it.chunks ∧ ItemOk it
theorem ItemR.len {S : Nat → Prop} {w : World} (c : List Value) (it : Item) (h : ItemR S w c it) : c.length = 10 := by obtain ⟨cv, rfl, _⟩ := h; rfl
/-- A list of items behind a slice value. -/
def ItemsAt (S : Nat → Prop) (w : World) (v : Value) (l : List Item) : Prop := SeqAt S w 10 (ItemR S w) v l
theorem ItemsAt.below {S : Nat → Prop} {w w' : World} {v : Value} {l : List Item} (h : ItemsAt S w v l) (hb : Below w.heap.size w w') : ItemsAt S w' v l :=
  SeqAt.below h (by omega) hb (fun c x _ ⟨cv, h1, h2, h3⟩ => ⟨cv, h1, SeqAt.below h2 (by omega) hb (fun _ _ _ h => h), h3⟩)
theorem items_at {S : Nat → Prop} {w w' : World} {a : Option Addr} {n cap : Nat} {l : List Item} (hv : ItemsAt S w (.slice a n cap) l) (hb : Below w.heap.size w w') {k : Nat} {it : Item} (hr : l[k]? = some it) :
    ∃ b o ca cc, a = some ⟨b, o, none⟩ ∧ ItemOk it ∧ RefsAt S w' (.slice ca it.chunks.length cc) it.chunks ∧ b < w.heap.size ∧ S b ∧ ∀ j, j < 10 → w'.cell? ⟨b, o + k * 10 + j, none⟩ = (itemC (.slice ca it.chunks.length cc) it)[j]? := by
  obtain ⟨a', cap', hv', _, _, hx⟩ := SeqAt.shape hv ItemR.len
  cases hv'
  obtain ⟨b, o, c, rfl, hS, ⟨cv, rfl, hrf, hok⟩, _, hcl⟩ := hx k it hr
  have q0 := hcl 0 (by omega)
  have hlt : b < w.heap.size := block_lt (a := ⟨b, o + (k * 10 + 0), none⟩) (v := .string it.name) q0
  obtain ⟨ca, cc, rfl, _, _, _⟩ := SeqAt.shape hrf RefR.len
  refine ⟨b, o, ca, cc, rfl, hok, SeqAt.below hrf (by omega) hb (fun _ _ _ h => h), hlt, hS, fun j hj => ?_⟩
  rw [Nat.add_assoc]
  exact (hb.cell (p := ⟨b, o + (k * 10 + j), none⟩) hlt).trans (hcl j hj)
def nmLt (a b : ByteArray) : Bool := Op.bytesLess a.toList b.toList
def nmAfter (p : Option ByteArray) (n : ByteArray) : Bool := match p with
  | none => true
  | some q => nmLt q n
def vNodeF : Option ByteArray → List Item → Bool
  | _, [] => true
  | p, it :: r => vItem it && nmAfter p it.name && vNodeF (some it.name) r
def vNode (l : List Item) : Bool := decide (l.length ≤ 4096) && vNodeF none l
def prevN (l : List Item) (k : Nat) : Option ByteArray := match k with
  | 0 => none
  | k + 1 => l[k]?.map Item.name
theorem prevN_pos {l : List Item} {k : Nat} {it : Item} (hk : 1 ≤ k) (h : l[k - 1]? = some it) : prevN l k = some it.name := by
  cases k with
  | zero => omega
  | succ k =>
    simp only [Nat.add_sub_cancel] at h
    simp [prevN, h]
theorem vNodeF_step {l : List Item} {k : Nat} {it : Item} (h : l[k]? = some it) : vNodeF (prevN l k) (l.drop k) = (vItem it && nmAfter (prevN l k) it.name && vNodeF (prevN l (k + 1)) (l.drop (k + 1))) := by
  obtain ⟨hk, rfl⟩ := List.getElem?_eq_some_iff.1 h
  rw [List.drop_eq_getElem_cons hk]
  show (vItem l[k] && nmAfter (prevN l k) l[k].name && vNodeF (some l[k].name) _) = _
  simp [prevN, hk]
theorem validItem_is (S : Nat → Prop) (it : Item) (cv : Value) (b : Bool) (w : World) (hcv : RefsAt S w cv it.chunks) (hok : ItemOk it) (henv : Env w) (h : vItem it = b) : Calls Tryz.prog 80 #[itemV cv it] w fun e w' => e = .returned (.bool b) ∧ Below w.heap.size w w' := by
  rw [← h]; exact validItem_any S it cv w hcv hok henv
set_option maxRecDepth 100000 in
set_option maxHeartbeats 4000000 in
theorem validNode_any (S : Nat → Prop) (l : List Item) (v : Value) (w : World) (hv : ItemsAt S w v l) (henv : Env w) : Calls Tryz.prog 65 #[v] w fun e w' => e = .returned (.bool (vNode l)) ∧ Below w.heap.size w w' := by
  obtain ⟨a, cap, rfl, hc, hm, -⟩ := SeqAt.shape hv ItemR.len
  unfold maxLen at hm
  have HV := Lib.hid hv
  have HE := Lib.hid henv
  clear hv henv
  by_cases hbig : 4096 < l.length
  · have HF := Lib.hid (show vNode l = false by
      unfold vNode
      have : decide (l.length ≤ 4096) = false := by simp; omega
      rw [this]; rfl)
    go_enter Tryz.func65, Tryz.ntmps65
    go_wp2_with fail
    go_ret
    exact ⟨ret_bool (by rw [HF.out]), Below.refl _ _⟩
  · have HN := Lib.hid (show vNode l = vNodeF none l by
      unfold vNode
      have : decide (l.length ≤ 4096) = true := by simp; omega
      rw [this]; rfl)
    go_enter Tryz.func65, Tryz.ntmps65
    go_wp2_with fail
    go_loopw [3, 4, 10] (fun x p i wr => ∃ k : Nat, k ≤ l.length ∧ i = .int .i64 k ∧ vNodeF none l = vNodeF (prevN l k) (l.drop k) ∧ Below w.heap.size w wr) (fun _ _ i _ => l.length - (intOf i).toNat)
    case atStart => exact ⟨0, Nat.zero_le _, rfl, rfl, Below.refl _ _⟩
    case round =>
      obtain ⟨k, hk, rfl, hal, hb⟩ := hrel
      have HB := Lib.hid hb
      have HA := Lib.hid hal
      clear hb hal
      by_cases hlt : k < l.length
      · obtain ⟨it, hr⟩ : ∃ it, l[k]? = some it := ⟨l[k], by simp [hlt]⟩
        obtain ⟨b, o, ca, cc, rfl, hok, hrf, hbl, -, hcl⟩ := items_at HV.out HB.out hr
        have HR := Lib.hid hr
        have HO := Lib.hid hok
        have HRF := Lib.hid hrf
        have q0 := hcl 0 (by omega)
        have q1 := hcl 1 (by omega)
        have q2 := hcl 2 (by omega)
        have q3 := hcl 3 (by omega)
        have q4 := hcl 4 (by omega)
        have q5 := hcl 5 (by omega)
        have q6 := hcl 6 (by omega)
        have q7 := hcl 7 (by omega)
        have q8 := hcl 8 (by omega)
        have q9 := hcl 9 (by omega)
        simp only [itemC, List.getElem?_cons_zero, List.getElem?_cons_succ, Nat.add_zero] at q0 q1 q2 q3 q4 q5 q6 q7 q8 q9
        clear hr hok hrf hcl
        have hbw := HB.out.size
        cases hvi : vItem it
        · have HVI := Lib.hid hvi
          clear hvi
          have HF := Lib.hid (show vNodeF none l = false by rw [HA.out, vNodeF_step HR.out, HVI.out]; rfl)
          go_wp2_with fail
          refine wp_region_segs [some 1, none, some 16] (by kernel_rfl) (by kernel_rfl) (by kernel_rfl) ?_
          simp only [wpSegs, List.take_succ_cons, List.take_zero, List.drop_succ_cons, List.drop_zero]
          repeat (first | (refine seg_skip rfl ?_; simp only [Act.put, List.setIfInBounds_toArray, List.set_cons_succ, List.set_cons_zero]) | (refine seg_run rfl (fun K hK => ?_); go_simp; refine hK _ ?_; clear hK K))
          refine seg_nil ?_
          have HV2 := Lib.hid (show RefsAt S (wr.alloc (.cells #[.string it.name, .int .i64 it.kind, .int .i64 it.mode, .int .i64 it.time, .int .i64 it.size, .string it.link, .slice ca it.chunks.length cc, .string it.node.name, .int .i64 it.node.gen, .int .i64 it.node.size] 76)).drew (.slice ca it.chunks.length cc) it.chunks from SeqAt.below HRF.out (by omega) (((Below.refl _ _).alloc (Nat.le_refl _) _).drew) (fun _ _ _ h => h))
          have HE2 := Lib.hid (show Env (wr.alloc (.cells #[.string it.name, .int .i64 it.kind, .int .i64 it.mode, .int .i64 it.time, .int .i64 it.size, .string it.link, .slice ca it.chunks.length cc, .string it.node.name, .int .i64 it.node.gen, .int .i64 it.node.size] 76)).drew from HE.out.below ((HB.out.alloc HB.out.size _).drew))
          refine bar_run rfl (fun K hK => ?_)
          go_wp2_with (go_at_call 80; refine (validItem_is S it (.slice ca it.chunks.length cc) false _ HV2.out HO.out HE2.out HVI.out).mono ?_; rintro e w1 ⟨rfl, hb1⟩)
          have HB1 := Lib.hid (below_next ((HB.out.alloc HB.out.size _).drew) hb1)
          have HB1r := Lib.hid (((Below.refl _ _).alloc (Nat.le_refl _) (.cells #[.string it.name, .int .i64 it.kind, .int .i64 it.mode, .int .i64 it.time, .int .i64 it.size, .string it.link, .slice ca it.chunks.length cc, .string it.node.name, .int .i64 it.node.gen, .int .i64 it.node.size] 76)).drew.trans (hb1.mono (by simp)))
          have n0 : w1.cell? ⟨wr.heap.size, 0, none⟩ = some (.string it.name) := (hb1.cell (p := ⟨wr.heap.size, 0, none⟩) (by simp)).trans (cellH (heap_alloc_new wr _))
          clear hb1
          repeat (first | (refine seg_skip rfl ?_; simp only [Act.put, List.setIfInBounds_toArray, List.set_cons_succ, List.set_cons_zero]) | (refine seg_run rfl (fun K hK => ?_); go_simp; refine hK _ ?_; clear hK K))
          refine seg_nil ?_
          go_wp2_with fail
          go_ret
          exact ⟨ret_bool (by rw [HN.out, HF.out]), HB1.out⟩
        · have HVI := Lib.hid hvi
          clear hvi
          by_cases hk0 : k ≤ 0
          · have HF := Lib.hid (show vNodeF none l = vNodeF (prevN l (k + 1)) (l.drop (k + 1)) by
              obtain rfl : k = 0 := by omega
              rw [HA.out, vNodeF_step HR.out, HVI.out]; simp [prevN, nmAfter])
            have ek : decide (0 < k) = false := by simp; omega
            go_wp2_with fail
            refine wp_region_segs [some 1, none, some 16] (by kernel_rfl) (by kernel_rfl) (by kernel_rfl) ?_
            simp only [wpSegs, List.take_succ_cons, List.take_zero, List.drop_succ_cons, List.drop_zero]
            repeat (first | (refine seg_skip rfl ?_; simp only [Act.put, List.setIfInBounds_toArray, List.set_cons_succ, List.set_cons_zero]) | (refine seg_run rfl (fun K hK => ?_); go_simp; refine hK _ ?_; clear hK K))
            refine seg_nil ?_
            have HV2 := Lib.hid (show RefsAt S (wr.alloc (.cells #[.string it.name, .int .i64 it.kind, .int .i64 it.mode, .int .i64 it.time, .int .i64 it.size, .string it.link, .slice ca it.chunks.length cc, .string it.node.name, .int .i64 it.node.gen, .int .i64 it.node.size] 76)).drew (.slice ca it.chunks.length cc) it.chunks from SeqAt.below HRF.out (by omega) (((Below.refl _ _).alloc (Nat.le_refl _) _).drew) (fun _ _ _ h => h))
            have HE2 := Lib.hid (show Env (wr.alloc (.cells #[.string it.name, .int .i64 it.kind, .int .i64 it.mode, .int .i64 it.time, .int .i64 it.size, .string it.link, .slice ca it.chunks.length cc, .string it.node.name, .int .i64 it.node.gen, .int .i64 it.node.size] 76)).drew from HE.out.below ((HB.out.alloc HB.out.size _).drew))
            refine bar_run rfl (fun K hK => ?_)
            go_wp2_with (go_at_call 80; refine (validItem_is S it (.slice ca it.chunks.length cc) true _ HV2.out HO.out HE2.out HVI.out).mono ?_; rintro e w1 ⟨rfl, hb1⟩)
            have HB1 := Lib.hid (below_next ((HB.out.alloc HB.out.size _).drew) hb1)
            have HB1r := Lib.hid (((Below.refl _ _).alloc (Nat.le_refl _) (.cells #[.string it.name, .int .i64 it.kind, .int .i64 it.mode, .int .i64 it.time, .int .i64 it.size, .string it.link, .slice ca it.chunks.length cc, .string it.node.name, .int .i64 it.node.gen, .int .i64 it.node.size] 76)).drew.trans (hb1.mono (by simp)))
            have n0 : w1.cell? ⟨wr.heap.size, 0, none⟩ = some (.string it.name) := (hb1.cell (p := ⟨wr.heap.size, 0, none⟩) (by simp)).trans (cellH (heap_alloc_new wr _))
            clear hb1
            repeat (first | (refine seg_skip rfl ?_; simp only [Act.put, List.setIfInBounds_toArray, List.set_cons_succ, List.set_cons_zero]) | (refine seg_run rfl (fun K hK => ?_); go_simp; refine hK _ ?_; clear hK K))
            refine seg_nil ?_
            go_wp2_with fail
            go_roundw
            case rel => exact ⟨k + 1, by omega, by go_num, HF.out, HB1.out⟩
            case measure => simp [intOf]; omega
          · obtain ⟨ip, hrp⟩ : ∃ ip, l[k - 1]? = some ip := ⟨l[k - 1], by simp⟩
            obtain ⟨b2, o2, ca2, cc2, e2, -, -, -, -, hcl2⟩ := items_at HV.out HB.out hrp
            cases e2
            have p0 := hcl2 0 (by omega)
            simp only [itemC, List.getElem?_cons_zero, Nat.add_zero] at p0
            have HPR := Lib.hid (show prevN l k = some ip.name from prevN_pos (by omega) hrp)
            clear hcl2 hrp
            have hb0 : (0 : Int) ≤ (k : Int) - 1 := by omega
            have hbn : (k : Int) - 1 < (l.length : Int) := by omega
            have ek : decide (0 < k) = true := by simp; omega
            cases hlt2 : nmLt ip.name it.name
            · have e3 : Op.bytesLess ip.name.toList it.name.toList = false := hlt2
              have HF := Lib.hid (show vNodeF none l = false by rw [HA.out, vNodeF_step HR.out, HVI.out, HPR.out]; simp [nmAfter, hlt2])
              clear hlt2
              go_wp2_with fail
              refine wp_region_segs [some 1, none, some 16] (by kernel_rfl) (by kernel_rfl) (by kernel_rfl) ?_
              simp only [wpSegs, List.take_succ_cons, List.take_zero, List.drop_succ_cons, List.drop_zero]
              repeat (first | (refine seg_skip rfl ?_; simp only [Act.put, List.setIfInBounds_toArray, List.set_cons_succ, List.set_cons_zero]) | (refine seg_run rfl (fun K hK => ?_); go_simp; refine hK _ ?_; clear hK K))
              refine seg_nil ?_
              have HV2 := Lib.hid (show RefsAt S (wr.alloc (.cells #[.string it.name, .int .i64 it.kind, .int .i64 it.mode, .int .i64 it.time, .int .i64 it.size, .string it.link, .slice ca it.chunks.length cc, .string it.node.name, .int .i64 it.node.gen, .int .i64 it.node.size] 76)).drew (.slice ca it.chunks.length cc) it.chunks from SeqAt.below HRF.out (by omega) (((Below.refl _ _).alloc (Nat.le_refl _) _).drew) (fun _ _ _ h => h))
              have HE2 := Lib.hid (show Env (wr.alloc (.cells #[.string it.name, .int .i64 it.kind, .int .i64 it.mode, .int .i64 it.time, .int .i64 it.size, .string it.link, .slice ca it.chunks.length cc, .string it.node.name, .int .i64 it.node.gen, .int .i64 it.node.size] 76)).drew from HE.out.below ((HB.out.alloc HB.out.size _).drew))
              refine bar_run rfl (fun K hK => ?_)
              go_wp2_with (go_at_call 80; refine (validItem_is S it (.slice ca it.chunks.length cc) true _ HV2.out HO.out HE2.out HVI.out).mono ?_; rintro e w1 ⟨rfl, hb1⟩)
              have HB1 := Lib.hid (below_next ((HB.out.alloc HB.out.size _).drew) hb1)
              have HB1r := Lib.hid (((Below.refl _ _).alloc (Nat.le_refl _) (.cells #[.string it.name, .int .i64 it.kind, .int .i64 it.mode, .int .i64 it.time, .int .i64 it.size, .string it.link, .slice ca it.chunks.length cc, .string it.node.name, .int .i64 it.node.gen, .int .i64 it.node.size] 76)).drew.trans (hb1.mono (by simp)))
              have n0 : w1.cell? ⟨wr.heap.size, 0, none⟩ = some (.string it.name) := (hb1.cell (p := ⟨wr.heap.size, 0, none⟩) (by simp)).trans (cellH (heap_alloc_new wr _))
              clear hb1
              have p1 : w1.cell? ⟨b, o + (k - 1) * 10, none⟩ = some (.string ip.name) := (HB1r.out.cell (p := ⟨b, o + (k - 1) * 10, none⟩) (by show b < wr.heap.size; omega)).trans p0
              have hs1 : IntKind.i64.wrap ((k : Int) - 1) = (k : Int) - 1 := IntWalk.i64_in _ (by omega)
              have hs2 : ((k : Int) - 1).toNat = k - 1 := by omega
              have hs3 : (1 : Int) ≤ (k : Int) := by omega
              have hs4 : 1 ≤ k := by omega
              have hs5 : 0 < k := by omega
              repeat (first | (refine seg_skip rfl ?_; simp only [Act.put, List.setIfInBounds_toArray, List.set_cons_succ, List.set_cons_zero]) | (refine seg_run rfl (fun K hK => ?_); go_simp; refine hK _ ?_; clear hK K))
              refine seg_nil ?_
              clear hs1 hs2
              go_wp2_with fail
              go_ret
              exact ⟨ret_bool (by rw [HN.out, HF.out]), HB1.out⟩
            · have e3 : Op.bytesLess ip.name.toList it.name.toList = true := hlt2
              have HF := Lib.hid (show vNodeF none l = vNodeF (prevN l (k + 1)) (l.drop (k + 1)) by rw [HA.out, vNodeF_step HR.out, HVI.out, HPR.out]; simp [nmAfter, hlt2])
              clear hlt2
              go_wp2_with fail
              refine wp_region_segs [some 1, none, some 16] (by kernel_rfl) (by kernel_rfl) (by kernel_rfl) ?_
              simp only [wpSegs, List.take_succ_cons, List.take_zero, List.drop_succ_cons, List.drop_zero]
              repeat (first | (refine seg_skip rfl ?_; simp only [Act.put, List.setIfInBounds_toArray, List.set_cons_succ, List.set_cons_zero]) | (refine seg_run rfl (fun K hK => ?_); go_simp; refine hK _ ?_; clear hK K))
              refine seg_nil ?_
              have HV2 := Lib.hid (show RefsAt S (wr.alloc (.cells #[.string it.name, .int .i64 it.kind, .int .i64 it.mode, .int .i64 it.time, .int .i64 it.size, .string it.link, .slice ca it.chunks.length cc, .string it.node.name, .int .i64 it.node.gen, .int .i64 it.node.size] 76)).drew (.slice ca it.chunks.length cc) it.chunks from SeqAt.below HRF.out (by omega) (((Below.refl _ _).alloc (Nat.le_refl _) _).drew) (fun _ _ _ h => h))
              have HE2 := Lib.hid (show Env (wr.alloc (.cells #[.string it.name, .int .i64 it.kind, .int .i64 it.mode, .int .i64 it.time, .int .i64 it.size, .string it.link, .slice ca it.chunks.length cc, .string it.node.name, .int .i64 it.node.gen, .int .i64 it.node.size] 76)).drew from HE.out.below ((HB.out.alloc HB.out.size _).drew))
              refine bar_run rfl (fun K hK => ?_)
              go_wp2_with (go_at_call 80; refine (validItem_is S it (.slice ca it.chunks.length cc) true _ HV2.out HO.out HE2.out HVI.out).mono ?_; rintro e w1 ⟨rfl, hb1⟩)
              have HB1 := Lib.hid (below_next ((HB.out.alloc HB.out.size _).drew) hb1)
              have HB1r := Lib.hid (((Below.refl _ _).alloc (Nat.le_refl _) (.cells #[.string it.name, .int .i64 it.kind, .int .i64 it.mode, .int .i64 it.time, .int .i64 it.size, .string it.link, .slice ca it.chunks.length cc, .string it.node.name, .int .i64 it.node.gen, .int .i64 it.node.size] 76)).drew.trans (hb1.mono (by simp)))
              have n0 : w1.cell? ⟨wr.heap.size, 0, none⟩ = some (.string it.name) := (hb1.cell (p := ⟨wr.heap.size, 0, none⟩) (by simp)).trans (cellH (heap_alloc_new wr _))
              clear hb1
              have p1 : w1.cell? ⟨b, o + (k - 1) * 10, none⟩ = some (.string ip.name) := (HB1r.out.cell (p := ⟨b, o + (k - 1) * 10, none⟩) (by show b < wr.heap.size; omega)).trans p0
              have hs1 : IntKind.i64.wrap ((k : Int) - 1) = (k : Int) - 1 := IntWalk.i64_in _ (by omega)
              have hs2 : ((k : Int) - 1).toNat = k - 1 := by omega
              have hs3 : (1 : Int) ≤ (k : Int) := by omega
              have hs4 : 1 ≤ k := by omega
              have hs5 : 0 < k := by omega
              repeat (first | (refine seg_skip rfl ?_; simp only [Act.put, List.setIfInBounds_toArray, List.set_cons_succ, List.set_cons_zero]) | (refine seg_run rfl (fun K hK => ?_); go_simp; refine hK _ ?_; clear hK K))
              refine seg_nil ?_
              clear hs1 hs2
              go_wp2_with fail
              go_roundw
              case rel => exact ⟨k + 1, by omega, by go_num, HF.out, HB1.out⟩
              case measure => simp [intOf]; omega
      · go_wp2_with fail
        go_ret
        exact ⟨ret_bool (by rw [HN.out, HA.out, List.drop_of_length_le (by omega)]; simp [vNodeF]), HB.out⟩

end Go.Proofs.YtndgmcggckpgfaaGreatDoor

/- A region that draws its order and whose last operation waits for all others: the last one is set apart, so that what the others rely on need not stand behind it. -/
namespace Go.Proofs.YtndgmcggckpgfaaGreatDoor
open Go

section
variable {P : Program} {md : Region.Mode} {Q : Exit → Act → World → Prop}
/-- What is left behind all but the last operation. -/
def LastQ (P : Program) (ops : Array Oper) (m : Nat) (Q : Exit → Act → World → Prop) : Exit → Act → World → Prop
  | .normal, a, w => wpOp P ops Q m (fun a' w' => Q .normal a' w') a w
  | e, a, w => Q e a w
def lastB (md : Region.Mode) (L : List Oper) : Bool :=
  cutB md L.toArray (L.length - 1) && decide (0 < L.length) &&
  ((List.range L.length).all fun i => match L[i]? with | some x => x.after.all (fun e => decide (e.on < i)) && (match x.guard with | none => true | some (j, _) => decide (j < i)) | none => true)
theorem pop_get {L : List Oper} {i : Nat} (hi : i < L.length - 1) : L.dropLast.toArray[i]? = L.toArray[i]? := by
  simp [hi]
theorem wpOp_pop {L : List Oper} {i m : Nat} (hi : i < L.length - 1) (hg : ∀ (x : Oper) (j : Nat) (b : Bool), L[i]? = some x → x.guard = some (j, b) → j < i) {K : Act → World → Prop} {a : Act} {w : World}
    (h : wpOp P L.dropLast.toArray (LastQ P L.toArray m Q) i K a w) : wpOp P L.toArray Q i K a w := by
  unfold wpOp at h ⊢
  rw [pop_get hi] at h
  cases hx : L.toArray[i]? with
  | none => rw [hx] at h; exact h
  | some x =>
    rw [hx] at h
    simp only at h ⊢
    have hw : Region.wanted x (yielded L.dropLast.toArray a.tmps) = Region.wanted x (yielded L.toArray a.tmps) := by
      unfold Region.wanted
      cases hgd : x.guard with
      | none => rfl
      | some p =>
        obtain ⟨j, b⟩ := p
        have hj := hg x j b (by simpa using hx) hgd
        simp only [yielded]
        rw [pop_get (by omega)]
    rw [hw] at h
    split at h
    · rename_i hh
      rw [if_pos hh]
      exact h
    · rename_i hh
      rw [if_neg hh]
      exact h
theorem wpAny_end {ops : Array Oper} {listed : Array Bool} {a : Act} {w : World} (hr : Region.ready md ops listed = []) (h : Q .normal a w) : ∀ fuel, wpAny P md ops Q fuel listed a w
  | 0 => ⟨hr, h⟩
  | _ + 1 => ⟨fun _ => h, by rw [hr]; simp⟩
theorem ready_pop {L : List Oper} {i : Nat} {listed : Array Bool} (hi : i < L.length - 1) : i ∈ Region.ready md L.dropLast.toArray listed ↔ i ∈ Region.ready md L.toArray listed := by
  rw [mem_ready, mem_ready, pop_get hi]
theorem getD_tt {listed : Array Bool} {i : Nat} (hi : i < listed.size) (h : listed.getD i true = true) : listed.getD i false = true := by
  simp [hi] at h ⊢; exact h
theorem ready_lt {L : List Oper} {i : Nat} {listed : Array Bool} (h : i ∈ Region.ready md L.toArray listed) : i < L.length := by
  obtain ⟨_, o, ho, _⟩ := mem_ready.1 h
  simpa using (Array.getElem?_eq_some_iff.1 ho).1
theorem all_in {L : List Oper} {listed : Array Bool} (hs : listed.size = L.length) (hback : ∀ (i : Nat) (x : Oper), L[i]? = some x → ∀ e ∈ x.after, e.on < i) (hr : Region.ready md L.dropLast.toArray listed = []) :
    ∀ (n i : Nat), i < n → i < L.length - 1 → listed.getD i true = true
  | 0, i, hn, _ => by omega
  | n + 1, i, hn, hi => by
    cases hg : listed.getD i true with
    | true => rfl
    | false =>
      exfalso
      obtain ⟨x, hx⟩ : ∃ x, L[i]? = some x := ⟨L[i]'(by omega), by simp⟩
      have : i ∈ Region.ready md L.dropLast.toArray listed := by
        rw [ready_pop hi, mem_ready]
        refine ⟨hg, x, by simpa using hx, fun e he _ => ?_⟩
        have hb := hback i x hx e he
        exact getD_tt (by omega) (all_in hs hback hr n e.on (by omega) (by omega))
      rw [hr] at this
      cases this
theorem any_pop {L : List Oper} (hc : cutB md L.toArray (L.length - 1) = true) (hpos : 0 < L.length) (hback : ∀ (i : Nat) (x : Oper), L[i]? = some x → ∀ e ∈ x.after, e.on < i) (hg : ∀ (i : Nat) (x : Oper) (j : Nat) (b : Bool), L[i]? = some x → x.guard = some (j, b) → j < i) :
    ∀ (fuel : Nat) (listed : Array Bool) (a : Act) (w : World), HeadInv md L.toArray (L.length - 1) listed → wpAny P md L.dropLast.toArray (LastQ P L.toArray (L.length - 1) Q) fuel listed a w → wpAny P md L.toArray Q (fuel + 1) listed a w := by
  have hlast : ∀ listed : Array Bool, HeadInv md L.toArray (L.length - 1) listed → Region.ready md L.dropLast.toArray listed = [] → (L.length - 1) ∈ Region.ready md L.toArray listed := fun listed inv hr => by
    have hs : listed.size = L.length := by simpa using inv.size
    obtain ⟨x, hx⟩ : ∃ x, L[L.length - 1]? = some x := ⟨L[L.length - 1]'(by omega), by simp⟩
    rw [mem_ready]
    refine ⟨inv.tail _ (Nat.le_refl _) (by simp; omega), x, by simpa using hx, fun e he _ => ?_⟩
    have hb := hback _ x hx e he
    exact getD_tt (by omega) (all_in hs hback hr L.length e.on (by omega) (by omega))
  have hne : ∀ listed : Array Bool, HeadInv md L.toArray (L.length - 1) listed → Region.ready md L.toArray listed ≠ [] := fun listed inv e => by
    cases hr : Region.ready md L.dropLast.toArray listed with
    | nil => have := hlast listed inv hr; rw [e] at this; cases this
    | cons i r =>
      have hi : i ∈ Region.ready md L.dropLast.toArray listed := by rw [hr]; simp
      have hlt := ready_lt hi
      simp only [List.length_dropLast] at hlt
      rw [ready_pop hlt, e] at hi
      cases hi
  have hfin : ∀ listed : Array Bool, HeadInv md L.toArray (L.length - 1) listed → (L.length - 1) ∈ Region.ready md L.toArray listed → Region.ready md L.dropLast.toArray listed = [] ∧ Region.ready md L.toArray (listed.setIfInBounds (L.length - 1) true) = [] := fun listed inv hm => by
    have hs : listed.size = L.length := by simpa using inv.size
    have hall : ∀ i, i < L.length - 1 → listed.getD i true = true := fun i hi => by
      cases hgd : listed.getD i true with
      | true => rfl
      | false => exact absurd hm (cut_waits hc inv _ i rfl hi hgd _ (Nat.le_refl _))
    constructor
    · rw [List.eq_nil_iff_forall_not_mem]
      intro i hi
      have hlt := ready_lt hi
      simp only [List.length_dropLast] at hlt
      have := (mem_ready.1 hi).1
      rw [hall i hlt] at this
      cases this
    · rw [List.eq_nil_iff_forall_not_mem]
      intro i hi
      have hlt := ready_lt hi
      have h1 := (mem_ready.1 hi).1
      by_cases e : i = L.length - 1
      · rw [e] at h1
        simp [hs] at h1
      · rw [getD_set_ne true (Ne.symm e), hall i (by omega)] at h1
        cases h1
  intro fuel
  induction fuel with
  | zero =>
    intro listed a w inv h
    refine ⟨fun e => absurd e (hne listed inv), fun i hi => ?_⟩
    have hlt := ready_lt hi
    by_cases e : i = L.length - 1
    · subst e
      exact wpOp_mono (fun a' w' h' => wpAny_end (hfin listed inv hi).2 h' 0) h.2
    · have := (ready_pop (by omega)).2 hi
      rw [h.1] at this
      cases this
  | succ fuel ih =>
    intro listed a w inv h
    refine ⟨fun e => absurd e (hne listed inv), fun i hi => ?_⟩
    have hlt := ready_lt hi
    by_cases e : i = L.length - 1
    · subst e
      exact wpOp_mono (fun a' w' h' => wpAny_end (hfin listed inv hi).2 h' (fuel + 1)) (h.1 (hfin listed inv hi).1)
    · have hi' : i < L.length - 1 := by omega
      refine wpOp_pop hi' (fun x j b hx hgd => hg i x j b hx hgd) (wpOp_mono (fun a' w' h' => ih _ a' w' (inv.set hi hi') h') (h.2 i ((ready_pop hi').2 hi)))
theorem head_new {ops : Array Oper} {m : Nat} : HeadInv md ops m (Array.replicate ops.size false) := by
  refine ⟨by simp, fun j oj hj hl => ?_, fun t _ ht => by simp [ht]⟩
  have := (Array.getElem?_eq_some_iff.1 hj).1
  simp [this] at hl
theorem hld_begin {id : Nat} {a : Act} {w : World} {L : List Oper} (S : World → Prop) (hm : P.follows .mixedOrders = true) (hB : lastB .any L = true)
    (h : Hld P L.dropLast.toArray (LastQ P L.toArray (L.length - 1) Q) S (L.length - 1) (Array.replicate L.length false) a w.drew) : (Code.region id L.toArray true).wp P Q a w := by
  simp only [lastB, Bool.and_eq_true, decide_eq_true_eq] at hB
  obtain ⟨⟨hc, hpos⟩, hall⟩ := hB
  have hall' : ∀ (i : Nat) (x : Oper), L[i]? = some x → (∀ e ∈ x.after, e.on < i) ∧ ∀ j b, x.guard = some (j, b) → j < i := fun i x hx => by
    have := List.all_eq_true.1 hall i (List.mem_range.2 (List.getElem?_eq_some_iff.1 hx).1)
    rw [hx] at this
    simp only [Bool.and_eq_true] at this
    refine ⟨fun e he => ?_, fun j b hg => ?_⟩
    · have := Array.all_eq_true'.1 this.1 e he
      simpa using this
    · have := this.2
      rw [hg] at this
      simpa using this
  refine wp_region_any hm ?_
  have := any_pop hc hpos (fun i x hx => (hall' i x hx).1) (fun i x j b hx => (hall' i x hx).2 j b) (L.length - 1) _ a w.drew head_new (wpAny_of_held _ _ _ _ (by simpa using h.out))
  rw [show L.length - 1 + 1 = L.length by omega] at this
  simpa using this
theorem last_run {L : List Oper} {m : Nat} {a : Act} {w : World} {dst : Option Tmp} {op : Op} {ty : TypeId} {pos : String} {aft : Array Edge} {g : Option (Nat × Bool)} (hi : L[m]? = some ⟨dst, op, ty, pos, aft, g⟩) (hw : Region.wanted ⟨dst, op, ty, pos, aft, g⟩ (yielded L.toArray a.tmps) = true)
    (h : ∀ K : Act → World → Prop, (∀ a w, Q .normal a w → K a w) → wpList P #[] (Exit.then K Q) [⟨dst, op, ty, pos, #[], none⟩] a w) : LastQ P L.toArray m Q .normal a w := by
  show wpOp P L.toArray Q m _ a w
  have hb : Bar P L.toArray (fun a' w' => Q .normal a' w') Q [⟨dst, op, ty, pos, aft, g⟩] a w := bar_run hw (fun K hK => h K (fun a w hh => hK a w hh))
  unfold wpOp
  have hi' : L.toArray[m]? = some ⟨dst, op, ty, pos, aft, g⟩ := by simpa using hi
  simp only [hi']
  exact Bar.out hb
end
end Go.Proofs.YtndgmcggckpgfaaGreatDoor

/- Contracts of package manifest: NewReader, Items. -/
namespace Go.Proofs.YtndgmcggckpgfaaGreatDoor
open Go.RowKit


theorem Tryz.appBytes : AppTy Tryz.prog 58 5 1 1 := AppTy.mk' (z := .int .u8 0) Tryz.underlying58 (by kernel_rfl) rfl (by decide) (by decide)
theorem Tryz.appRefs : AppTy Tryz.prog 26 43 3 32 := AppTy.mk' (z := .agg #[.string ⟨#[]⟩, .int .i64 0, .int .i64 0]) Tryz.underlying26 (by kernel_rfl) rfl (by decide) (by decide)
theorem Tryz.appItems : AppTy Tryz.prog 77 76 10 120 := AppTy.mk' (z := .agg #[.string ⟨#[]⟩, .int .i64 0, .int .i64 0, .int .i64 0, .int .i64 0, .string ⟨#[]⟩, .slice none 0 0, .string ⟨#[]⟩, .int .i64 0, .int .i64 0]) Tryz.underlying77 (by kernel_rfl) rfl (by decide) (by decide)
def BytesAt (S : Nat → Prop) (w : World) (v : Value) (bs : List UInt8) : Prop := RowAt S w 1 v bs.length (bs.map byteV)
def NewRd (bs : List UInt8) (w : World) (e : Ending) (w' : World) : Prop := ∃ rb dv, e = .returned (.pointer (some ⟨rb, 0, none⟩)) ∧ w.heap.size ≤ rb ∧ RdS w' rb dv bs ⟨0, 0, 0⟩ ∧ Below w.heap.size w w'
theorem bytes_one (bs : List UInt8) : ∀ u ∈ bs.map byteV, u.oneCell' = true := fun u hu => by
  obtain ⟨b, _, rfl⟩ := List.mem_map.1 hu
  rfl
set_option maxRecDepth 100000 in
set_option maxHeartbeats 1000000 in
theorem newReader_any (S : Nat → Prop) (bs : List UInt8) (v : Value) (w : World) (hv : BytesAt S w v bs) (hl : bs.length ≤ 32768) : Calls Tryz.prog 58 #[v] w (NewRd bs w) := by
  obtain ⟨_, a, cap, rfl, hn, hm, -⟩ := id hv
  unfold maxLen at hm
  have HV := Lib.hid (show RowAt S (w.alloc (.cells #[] 5)) 1 (.slice a bs.length cap) bs.length (bs.map byteV) from RowAt.below hv (by omega) ((Below.refl _ _).alloc (Nat.le_refl _) _))
  have HO := Lib.hid (World.ownsRow_made (base := w.heap.size) (e := 5) (size := 1) w #[] 0 (Nat.le_refl _) (by unfold maxLen; omega) rfl)
  clear hv
  go_enter Tryz.func58, Tryz.ntmps58
  go_wp2_with (at_builtin; go_must (refine wpList_appn Tryz.appBytes rfl _ _ rfl w.heap.size _ 0 [] rfl HO.out _ bs.length (bs.map byteV) rfl HV.out (bytes_one bs) (by omega) (by simp) ?_); intro v5 w5 hown5 hgrow5; rw [Nat.zero_add, List.nil_append] at hown5; have HO5 := Lib.hid hown5; obtain ⟨a5, c5, rfl, hn5, hm5⟩ := owns_shape hown5; have HB5 := Lib.hid (show Below w.heap.size w w5 from below_grown ((Below.refl w.heap.size w).alloc (Nat.le_refl _) _) HO.out hgrow5 (Nat.le_refl _) (by simp)); clear hown5 hgrow5)
  go_ret
  refine ⟨w5.heap.size, _, rfl, HB5.out.size, ⟨heap_alloc_new w5 _, ?_, Nat.zero_le _, Nat.zero_le _, hl⟩, HB5.out.alloc HB5.out.size _⟩
  have hr := RowAt.below (row_of_owns HO5.out) (by omega) ((Below.refl w5.heap.size w5).alloc (Nat.le_refl _) (.cells #[.slice a5 bs.length c5, .int .i64 0, .int .i64 0, .int .i64 0] 128))
  refine hr.weak (fun k hk e => ?_)
  have := (HO5.out.lt k hk.2).2
  omega

/-- The references of a file, one after the other. -/
def chunkN (data : List UInt8) (s0 : RS) : Nat → List Ref × RS
  | 0 => ([], s0)
  | k + 1 => ((chunkN data s0 k).1 ++ [(refP data (chunkN data s0 k).2).1], (refP data (chunkN data s0 k).2).2)
def itemK (data : List UInt8) (nm : List UInt8) (kd md td : Nat) (s : RS) : Option (Item × RS) :=
  if toI kd = 1 then some (⟨⟨nm.toArray⟩, toI kd, toI md, toI td, totW (chunkN data (cnP data 963 s).2 (cnP data 963 s).1).1, ⟨#[]⟩, (chunkN data (cnP data 963 s).2 (cnP data 963 s).1).1, noRef⟩, (chunkN data (cnP data 963 s).2 (cnP data 963 s).1).2)
  else if toI kd = 2 then some (⟨⟨nm.toArray⟩, toI kd, toI md, toI td, 0, ⟨#[]⟩, [], (refP data s).1⟩, (refP data s).2)
  else if toI kd = 3 then some (⟨⟨nm.toArray⟩, toI kd, toI md, toI td, 0, ⟨(txP data 512 s).1.toArray⟩, [], noRef⟩, (txP data 512 s).2)
  else none
def itemP (data : List UInt8) (s : RS) : Option (Item × RS) :=
  itemK data (txP data 64 s).1 (unP data (txP data 64 s).2).1 (unP data (unP data (txP data 64 s).2).2).1 (unP data (unP data (unP data (txP data 64 s).2).2).2).1 (unP data (unP data (unP data (txP data 64 s).2).2).2).2
theorem itemP_head {data : List UInt8} {s s2 s3 s4 s5 : RS} {nm : List UInt8} {kd md td : Nat} (h1 : txP data 64 s = (nm, s2)) (h2 : unP data s2 = (kd, s3)) (h3 : unP data s3 = (md, s4)) (h4 : unP data s4 = (td, s5)) : itemP data s = itemK data nm kd md td s5 := by
  have e1 : (txP data 64 s).1 = nm := by rw [h1]
  have e2 : (txP data 64 s).2 = s2 := by rw [h1]
  have e3 : (unP data s2).1 = kd := by rw [h2]
  have e4 : (unP data s2).2 = s3 := by rw [h2]
  have e5 : (unP data s3).1 = md := by rw [h3]
  have e6 : (unP data s3).2 = s4 := by rw [h3]
  have e7 : (unP data s4).1 = td := by rw [h4]
  have e8 : (unP data s4).2 = s5 := by rw [h4]
  unfold itemP
  rw [e2, e4, e6, e1, e3, e5, e7, e8]
theorem itemK_file {data : List UInt8} {s s1 s2 : RS} {nm : List UInt8} {kd md td n : Nat} {ch : List Ref} (hk : toI kd = 1) (h1 : cnP data 963 s = (n, s1)) (h2 : chunkN data s1 n = (ch, s2)) : itemK data nm kd md td s = some (⟨⟨nm.toArray⟩, toI kd, toI md, toI td, totW ch, ⟨#[]⟩, ch, noRef⟩, s2) := by
  have e1 : (cnP data 963 s).1 = n := by rw [h1]
  have e2 : (cnP data 963 s).2 = s1 := by rw [h1]
  have e3 : (chunkN data s1 n).1 = ch := by rw [h2]
  have e4 : (chunkN data s1 n).2 = s2 := by rw [h2]
  unfold itemK
  rw [if_pos hk, e1, e2, e3, e4]
theorem itemK_dir {data : List UInt8} {s s1 : RS} {nm : List UInt8} {kd md td : Nat} {r : Ref} (hk : toI kd = 2) (h1 : refP data s = (r, s1)) : itemK data nm kd md td s = some (⟨⟨nm.toArray⟩, toI kd, toI md, toI td, 0, ⟨#[]⟩, [], r⟩, s1) := by
  have e1 : (refP data s).1 = r := by rw [h1]
  have e2 : (refP data s).2 = s1 := by rw [h1]
  have hk1 : ¬ toI kd = 1 := by rw [hk]; omega
  unfold itemK
  rw [if_neg hk1, if_pos hk, e1, e2]
theorem itemK_link {data : List UInt8} {s s1 : RS} {nm lk : List UInt8} {kd md td : Nat} (hk : toI kd = 3) (h1 : txP data 512 s = (lk, s1)) : itemK data nm kd md td s = some (⟨⟨nm.toArray⟩, toI kd, toI md, toI td, 0, ⟨lk.toArray⟩, [], noRef⟩, s1) := by
  have e1 : (txP data 512 s).1 = lk := by rw [h1]
  have e2 : (txP data 512 s).2 = s1 := by rw [h1]
  have hk1 : ¬ toI kd = 1 := by rw [hk]; omega
  have hk2 : ¬ toI kd = 2 := by rw [hk]; omega
  unfold itemK
  rw [if_neg hk1, if_neg hk2, if_pos hk, e1, e2]
theorem itemK_none {data : List UInt8} {s : RS} {nm : List UInt8} {kd md td : Nat} (hk1 : ¬ toI kd = 1) (hk2 : ¬ toI kd = 2) (hk3 : ¬ toI kd = 3) : itemK data nm kd md td s = none := by
  unfold itemK
  rw [if_neg hk1, if_neg hk2, if_neg hk3]
def itemsN (data : List UInt8) (s0 : RS) : Nat → Option (List Item × RS)
  | 0 => some ([], s0)
  | k + 1 => (itemsN data s0 k).bind fun p => (itemP data p.2).map fun q => (p.1 ++ [q.1], q.2)
def itemsP (data : List UInt8) : Option (List Item) :=
  if 32768 < data.length then none else
  (itemsN data (cnP data 4096 ⟨0, 0, 0⟩).2 (cnP data 4096 ⟨0, 0, 0⟩).1).bind fun p => if endE data p.2 = 0 ∧ vNode p.1 = true then some p.1 else none
theorem itemsN_succ (data : List UInt8) (s0 : RS) (k : Nat) : itemsN data s0 (k + 1) = (itemsN data s0 k).bind fun p => (itemP data p.2).map fun q => (p.1 ++ [q.1], q.2) := rfl
theorem itemsN_none {data : List UInt8} {s0 : RS} {k : Nat} (h : itemsN data s0 k = none) : ∀ n, k ≤ n → itemsN data s0 n = none := by
  intro n hn
  induction n with
  | zero =>
    obtain rfl : k = 0 := by omega
    exact h
  | succ n ih =>
    by_cases e : k = n + 1
    · rw [← e]; exact h
    · rw [itemsN_succ, ih (by omega), Option.bind_none]
theorem bind_step {α β γ : Type} {x : Option α} {f : α → Option β} {g : α → β → γ} {a : α} {b : β} (h : x = some a) (h1 : f a = some b) : (x.bind fun p => (f p).map fun q => g p q) = some (g a b) := by subst h; rw [Option.bind_some, h1]; rfl
theorem bind_stop {α β γ : Type} {x : Option α} {f : α → Option β} {g : α → β → γ} {a : α} (h : x = some a) (h1 : f a = none) : (x.bind fun p => (f p).map fun q => g p q) = none := by subst h; rw [Option.bind_some, h1]; rfl
theorem itemsN_step {data : List UInt8} {s0 s s1 : RS} {k : Nat} {l : List Item} {it : Item} (h : itemsN data s0 k = some (l, s)) (h1 : itemP data s = some (it, s1)) : itemsN data s0 (k + 1) = some (l ++ [it], s1) := by
  rw [itemsN_succ]; exact bind_step (f := fun p : List Item × RS => itemP data p.2) (g := fun p q => (p.1 ++ [q.1], q.2)) h h1
theorem itemsN_stop {data : List UInt8} {s0 s : RS} {k : Nat} {l : List Item} (h : itemsN data s0 k = some (l, s)) (h1 : itemP data s = none) : itemsN data s0 (k + 1) = none := by
  rw [itemsN_succ]; exact bind_stop (f := fun p : List Item × RS => itemP data p.2) (g := fun p q => (p.1 ++ [q.1], q.2)) h h1
theorem chunkN_len (data : List UInt8) (s0 : RS) : ∀ k, (chunkN data s0 k).1.length = k
  | 0 => rfl
  | k + 1 => by rw [chunkN]; simp [chunkN_len data s0 k]
theorem chunkN_ok (data : List UInt8) (s0 : RS) : ∀ k, ∀ r ∈ (chunkN data s0 k).1, RefOk r
  | 0 => by simp [chunkN]
  | k + 1 => fun r hr => by
    rw [chunkN] at hr
    simp only [List.mem_append, List.mem_singleton] at hr
    rcases hr with hr | rfl
    · exact chunkN_ok data s0 k r hr
    · exact refP_ok _ _
theorem cnP_le (data : List UInt8) (most : Nat) (s : RS) : (cnP data most s).1 ≤ most := by
  unfold cnP rv
  split
  · split
    · rename_i x o h
      exact (limE_spec h).1
    · exact Nat.zero_le _
  · exact Nat.zero_le _
theorem txP_len (data : List UInt8) (most : Nat) (s : RS) : (txP data most s).1.length ≤ most := by
  unfold txP rv
  split
  · split
    · rename_i x o h
      unfold blockE at h
      split at h
      · simp at h
      · rename_i n o' hn
        unfold takeE at h
        split at h
        · simp at h
        · simp only [Except.ok.injEq, Prod.mk.injEq] at h
          obtain ⟨rfl, rfl⟩ := h
          have := (limE_spec hn).1
          simp; omega
    · exact Nat.zero_le _
  · exact Nat.zero_le _

/-- Between the calls of a round of Items: the reader, and the item's box. -/
structure ItMid (rb ib : Nat) (wr wc : World) (dv : Value) (data : List UInt8) (s : RS) (cs : Array Value) : Prop where
  rd : RdS wc rb dv data s
  rd0 : ∃ s0, RdS wr rb dv data s0
  box : wc.heap[ib]? = some (.cells cs 76 (0, 0))
  grown : wr.grownBy wc (some rb)
  ge : wr.heap.size ≤ ib
theorem ItMid.lt {rb ib : Nat} {wr wc : World} {dv : Value} {data : List UInt8} {s : RS} {cs : Array Value} (h : ItMid rb ib wr wc dv data s cs) : rb < wr.heap.size := by
  obtain ⟨s0, h0⟩ := h.rd0
  exact RdAt.lt h0
theorem ItMid.call {rb ib : Nat} {wr wc w' : World} {dv : Value} {data : List UInt8} {s s' : RS} {cs : Array Value} (h : ItMid rb ib wr wc dv data s cs) (h1 : RdS w' rb dv data s') (h2 : wc.grownBy w' (some rb)) : ItMid rb ib wr w' dv data s' cs :=
  ⟨h1, h.rd0, keepH h2 h.box (by have := h.lt; have := h.ge; omega), grown_trans h.grown h2, h.ge⟩
theorem ItMid.set {rb ib : Nat} {wr wc : World} {dv : Value} {data : List UInt8} {s : RS} {cs : Array Value} (h : ItMid rb ib wr wc dv data s cs) (k : Nat) (x : Value) : ItMid rb ib wr (wc.setCell ⟨ib, k, none⟩ x) dv data s (cs.setIfInBounds k x) := by
  obtain ⟨s0, h0⟩ := h.rd0
  exact ⟨RdAt.setOther h0 h.rd h.ge x, h.rd0, setH h.box x, grown_new h.grown h.ge x, h.ge⟩
theorem ItMid.below {rb ib : Nat} {wr wc w' : World} {dv : Value} {data : List UInt8} {s : RS} {cs : Array Value} (h : ItMid rb ib wr wc dv data s cs) (hb : Below wc.heap.size wc w') : ItMid rb ib wr w' dv data s cs :=
  ⟨RdAt.below h.rd hb, h.rd0, (hb.block ib ((Array.getElem?_eq_some_iff.1 h.box).1)).trans h.box, grown_trans h.grown (grown_below hb _), h.ge⟩
theorem ItMid.start {rb : Nat} {wr w2 : World} {dv : Value} {data : List UInt8} {s s2 : RS} (h0 : RdS wr rb dv data s) (h1 : RdS w2 rb dv data s2) (h2 : wr.grownBy w2 (some rb)) (cs : Array Value) :
    ItMid rb w2.heap.size wr (w2.alloc (.cells cs 76)) dv data s2 cs :=
  ⟨RdAt.below h1 ((Below.refl _ _).alloc (Nat.le_refl _) _), ⟨s, h0⟩, heap_alloc_new w2 _, grown_trans h2 (grown_below ((Below.refl _ _).alloc (Nat.le_refl _) _) _), h2.size⟩
theorem ItMid.cell {rb ib : Nat} {wr wc : World} {dv : Value} {data : List UInt8} {s : RS} {cs : Array Value} (h : ItMid rb ib wr wc dv data s cs) (k : Nat) : wc.cell? ⟨ib, k, none⟩ = cs[k]? := cellH h.box
theorem ItMid.free {rb ib : Nat} {wr wc : World} {dv : Value} {data : List UInt8} {s : RS} {cs : Array Value} (h : ItMid rb ib wr wc dv data s cs) (k : Nat) : wc.frozen? ⟨ib, k, none⟩ = false := frozenH h.box
/-- A reader stays where only later blocks turn. -/
theorem RdAt.keep {w1 wc w' : World} {rb : Nat} {v : Value} {data : List UInt8} {off last off0 last0 : Nat} {err err0 : Int} (h0 : RdAt w1 rb v data off0 last0 err0) (h : RdAt wc rb v data off last err) (hs : ∀ k, k < w1.heap.size → w'.heap[k]? = wc.heap[k]?) : RdAt w' rb v data off last err := by
  have h1 := h0.lt
  have hr0 := h0.row.mono (T := fun k => k ≠ rb ∧ k < w1.heap.size) (fun k hk hS => ⟨hS, hk⟩) (by omega)
  obtain ⟨_, a0, cap0, hv0, _, _, h00⟩ := hr0
  obtain ⟨hl, a, cap, hv, hn, hm, h2⟩ := h.row
  refine ⟨(hs rb h1).trans h.box, ⟨hl, a, cap, hv, hn, hm, ?_⟩, h.le, h.ls, h.small⟩
  rcases h2 with h2 | ⟨bk, o, rfl, hk, hc⟩
  · exact .inl h2
  · rcases h00 with h00 | ⟨bk0, o0, rfl, hk0, _⟩
    · exact .inl h00
    · rw [hv0] at hv
      cases hv
      refine .inr ⟨bk, o, rfl, hk, fun j u hj => ?_⟩
      rw [← hc j u hj]
      exact World.cell?_of_block (hs bk hk0.2)
theorem ItMid.app {rb ib : Nat} {wr wc w' : World} {dv : Value} {data : List UInt8} {s : RS} {cs : Array Value} {r : Option Nat} (h : ItMid rb ib wr wc dv data s cs) (h2 : wc.grownBy w' r) (hr : ∀ k, r = some k → ib < k) : ItMid rb ib wr w' dv data s cs := by
  obtain ⟨s0, h0⟩ := h.rd0
  have hg := h.grown.size
  have hge := h.ge
  refine ⟨RdAt.keep h0 h.rd (fun k hk => h2.block k (by omega) (fun e => by have := hr k e.symm; omega)), h.rd0, ?_, ?_, h.ge⟩
  · exact (h2.block ib ((Array.getElem?_eq_some_iff.1 h.box).1) (fun e => by have := hr ib e.symm; omega)).trans h.box
  · refine ⟨h2.os.trans h.grown.os, h2.tape.trans h.grown.tape, h2.output.trans h.grown.output, Nat.le_trans hg h2.size, fun k hk hn => ?_⟩
    rw [h2.block k (by omega) (fun e => by have := hr k e.symm; omega)]
    exact h.grown.block k hk hn
theorem chunkN_step {data : List UInt8} {s0 s s1 : RS} {k : Nat} {l : List Ref} {r : Ref} (h : chunkN data s0 k = (l, s)) (h1 : refP data s = (r, s1)) : chunkN data s0 (k + 1) = (l ++ [r], s1) := by
  have e1 : (chunkN data s0 k).1 = l := by rw [h]
  have e2 : (chunkN data s0 k).2 = s := by rw [h]
  have e3 : (refP data s).1 = r := by rw [h1]
  have e4 : (refP data s).2 = s1 := by rw [h1]
  rw [chunkN, e1, e2, e3, e4]
theorem refC_one {r : Ref} : ∀ u ∈ refC r, u.oneCell' = true := by
  intro u hu
  simp only [refC, List.mem_cons, List.not_mem_nil, or_false] at hu
  rcases hu with rfl | rfl | rfl <;> rfl
theorem refs_rows : ∀ {rs : List Ref}, (∀ r ∈ rs, RefOk r) → RowsIn RefR (rs.flatMap refC) rs
  | [], _ => rfl
  | r :: rs, h => ⟨refC r, rs.flatMap refC, rfl, ⟨rfl, h r (by simp)⟩, refs_rows (fun x hx => h x (by simp [hx]))⟩
/-- A list of references that the call owns. -/
theorem refs_owned {w : World} {base : Nat} {v : Value} {rs : List Ref} (h : w.ownsRow base 43 3 v rs.length (rs.flatMap refC)) (hok : ∀ r ∈ rs, RefOk r) : RefsAt (fun k => base ≤ k ∧ v.ownBlock = some k) w v rs :=
  ⟨rs.flatMap refC, row_of_owns h, refs_rows hok⟩
/-- At a round's head. -/
structure ItsInv (w1 : World) (rb : Nat) (wr : World) (dv v : Value) (data : List UInt8) (s : RS) (l : List Item) : Prop where
  rd : RdS wr rb dv data s
  rd1 : ∃ s0, RdS w1 rb dv data s0
  row : ∃ cells, wr.ownsRow w1.heap.size 76 10 v l.length cells ∧ RowsIn (ItemR (fun k => w1.heap.size ≤ k ∧ v.ownBlock ≠ some k) wr) cells l
  grown : w1.grownBy wr (some rb)
theorem RefsAt.same {S T : Nat → Prop} {w w' : World} {v : Value} {rs : List Ref} (h : RefsAt S w v rs) (hs : ∀ k, k < w.heap.size → S k → T k ∧ w'.heap[k]? = w.heap[k]?) : RefsAt T w' v rs := by
  obtain ⟨cells, hr, hin⟩ := h
  have h2 := hr.mono (T := fun k => k < w.heap.size ∧ S k) (fun k hk hS => ⟨hk, hS⟩) (by omega)
  have h3 := h2.same (w' := w') (fun k hk => (hs k hk.1 hk.2).2)
  exact ⟨cells, h3.weak (fun k hk => (hs k hk.1 hk.2).1), hin⟩
theorem ItemR.same {S T : Nat → Prop} {w w' : World} {c : List Value} {it : Item} (h : ItemR S w c it) (hs : ∀ k, k < w.heap.size → S k → T k ∧ w'.heap[k]? = w.heap[k]?) : ItemR T w' c it := by
  obtain ⟨cv, h1, h2, h3⟩ := h
  exact ⟨cv, h1, h2.same hs, h3⟩
theorem itemC_one {a : Option Addr} {n c : Nat} {it : Item} : ∀ u ∈ itemC (.slice a n c) it, u.oneCell' = true := by
  intro u hu
  simp only [itemC, List.mem_cons, List.not_mem_nil, or_false] at hu
  rcases hu with rfl | rfl | rfl | rfl | rfl | rfl | rfl | rfl | rfl | rfl <;> rfl
/-- The item's box is read, and appended to the list. -/
theorem ItsInv.added {rb ib : Nat} {w1 wr wc w' : World} {dv v v' : Value} {data : List UInt8} {s s' : RS} {l : List Item} {it : Item} {cv : Value} {cells : List Value} (h : ItsInv w1 rb wr dv v data s l) (hm : ItMid rb ib wr wc dv data s' (itemC cv it).toArray)
    (hcv : RefsAt (wr.heap.size ≤ ·) wc cv it.chunks) (hok : ItemOk it) (hrow : RowsIn (ItemR (fun k => w1.heap.size ≤ k ∧ v.ownBlock ≠ some k) wr) cells l) (hown : wr.ownsRow w1.heap.size 76 10 v l.length cells)
    (h1 : w'.ownsRow w1.heap.size 76 10 v' (l.length + 1) (cells ++ itemC cv it)) (h2 : wc.grownBy w' v.ownBlock) (h3 : ∀ k, v'.ownBlock = some k → v.ownBlock = some k ∨ wc.heap.size ≤ k) : ItsInv w1 rb w' dv v' data s' (l ++ [it]) := by
  have hlt := hm.lt
  have hgs := hm.grown.size
  have hg1 := h.grown.size
  obtain ⟨s0, h0⟩ := h.rd1
  have hlt1 := RdAt.lt h0
  have hown0 : ∀ k, v.ownBlock = some k → w1.heap.size ≤ k ∧ k < wr.heap.size := fun k hk => hown.lt k hk
  refine ⟨?_, h.rd1, ⟨cells ++ itemC cv it, by simpa using h1, ?_⟩, ?_⟩
  · exact RdAt.keep h0 hm.rd (fun k hk => h2.block k (by omega) (fun e => by have := hown0 k e.symm; omega))
  · refine RowsIn.snoc (hrow.mono (fun c x _ hx => hx.same (fun k hk hS => ⟨⟨hS.1, fun e => ?_⟩, ?_⟩))) ⟨cv, rfl, hcv.same (fun k hk hS => ⟨⟨by omega, fun e => ?_⟩, ?_⟩), hok⟩
    · rcases h3 k e with e | e
      · have := hown0 k e; omega
      · omega
    · exact h2.block k hk (fun e => by have := hown0 k e.symm; omega)
    · rcases h3 k e with e | e
      · exact hS.2 e
      · omega
    · rw [h2.block k (by omega) (fun e => hS.2 e.symm)]
      exact hm.grown.block k hk (by simp; omega)
  · refine ⟨h2.os.trans (hm.grown.os.trans h.grown.os), h2.tape.trans (hm.grown.tape.trans h.grown.tape), h2.output.trans (hm.grown.output.trans h.grown.output), Nat.le_trans hg1 (Nat.le_trans hgs h2.size), fun k hk hn => ?_⟩
    rw [h2.block k (by omega) (fun e => by have := hown0 k e.symm; omega), hm.grown.block k (by omega) hn]
    exact h.grown.block k hk hn

/-- What Items returns. -/
def ItemsRes (data : List UInt8) (w : World) (e : Ending) (w' : World) : Prop := Below w.heap.size w w' ∧ match itemsP data with
  | none => e = .returned (.tuple #[.slice none 0 0, .int .i64 3])
  | some l => ∃ v, e = .returned (.tuple #[v, .int .i64 0]) ∧ ItemsAt (w.heap.size ≤ ·) w' v l
theorem itemsP_big {data : List UInt8} (h : 32768 < data.length) : itemsP data = none := by unfold itemsP; rw [if_pos h]
theorem itemsP_eq {data : List UInt8} (h : ¬ 32768 < data.length) {n : Nat} {s1 : RS} (h1 : cnP data 4096 ⟨0, 0, 0⟩ = (n, s1)) : itemsP data = (itemsN data s1 n).bind fun p => if endE data p.2 = 0 ∧ vNode p.1 = true then some p.1 else none := by
  unfold itemsP; rw [if_neg h, h1]
theorem itemsP_none {data : List UInt8} (h : ¬ 32768 < data.length) {n : Nat} {s1 : RS} (h1 : cnP data 4096 ⟨0, 0, 0⟩ = (n, s1)) (h2 : itemsN data s1 n = none) : itemsP data = none := by
  rw [itemsP_eq h h1, h2]; rfl
theorem itemsP_some {data : List UInt8} (h : ¬ 32768 < data.length) {n : Nat} {s1 s2 : RS} {l : List Item} (h1 : cnP data 4096 ⟨0, 0, 0⟩ = (n, s1)) (h2 : itemsN data s1 n = some (l, s2)) : itemsP data = if endE data s2 = 0 ∧ vNode l = true then some l else none := by
  rw [itemsP_eq h h1, h2]; rfl

theorem owns_below {w w' : World} {base : Nat} {e : TypeId} {sz : Nat} {v : Value} {n : Nat} {xs : List Value} (h : w.ownsRow base e sz v n xs) (hb : Below w.heap.size w w') : w'.ownsRow base e sz v n xs :=
  h.kept (grown_below hb none) (by cases v.ownBlock <;> simp)
end Go.Proofs.YtndgmcggckpgfaaGreatDoor

/- Contracts of package manifest: Items. -/
namespace Go.Proofs.YtndgmcggckpgfaaGreatDoor
open Go.RowKit


theorem validNode_is (S : Nat → Prop) (l : List Item) (v : Value) (b : Bool) (w : World) (hv : ItemsAt S w v l) (henv : Env w) (h : vNode l = b) : Calls Tryz.prog 65 #[v] w fun e w' => e = .returned (.bool b) ∧ Below w.heap.size w w' := by
  rw [← h]; exact validNode_any S l v w hv henv
theorem noRef_ok : RefOk noRef := ⟨by decide, by decide, by decide⟩
set_option maxRecDepth 100000 in
set_option maxHeartbeats 4000000 in
theorem items_any (S : Nat → Prop) (data : List UInt8) (v : Value) (w : World) (hv : BytesAt S w v data) (henv : Env w) : Calls Tryz.prog 54 #[v] w (ItemsRes data w) := by
  obtain ⟨_, a, cap, rfl, hn, hm, -⟩ := id hv
  unfold maxLen at hm
  have HV := Lib.hid hv
  have HE := Lib.hid henv
  clear hv henv
  by_cases hbig : 32768 < data.length
  · have HP := Lib.hid (itemsP_big hbig)
    go_enter Tryz.func54, Tryz.ntmps54
    go_wp2_with fail
    go_ret2
    exact ⟨Below.refl _ _, by rw [HP.out]; rfl⟩
  · have HBIG := Lib.hid hbig
    go_enter Tryz.func54, Tryz.ntmps54
    go_wp2_with fail
    refine (newReader_any S data _ w HV.out (by omega)).mono ?_
    rintro e w1 ⟨rb, dv, rfl, hge, hrd, hb1⟩
    have HRD1 := Lib.hid hrd
    have HB1 := Lib.hid hb1
    clear hrd hb1
    go_wp2_with fail
    refine (count_p rb dv data ⟨0, 0, 0⟩ 4096 _ HRD1.out (by omega)).mono ?_
    rintro e w2 ⟨n, s1, hcn, rfl, hrd2, hg2⟩
    have hnl : n ≤ 4096 := by have := cnP_le data 4096 ⟨0, 0, 0⟩; rw [hcn] at this; exact this
    have HCN := Lib.hid hcn
    have HI2 := Lib.hid (show ItsInv w1 rb w2 dv (.slice none 0 0) data s1 [] from ⟨hrd2, ⟨_, HRD1.out⟩, ⟨[], World.ownsRow_nil _ _ _ _, rfl⟩, hg2⟩)
    clear hcn hrd2 hg2
    go_wp2_with fail
    go_loopw [5, 16] (fun v i wr => ∃ (k : Nat) (l : List Item) (s : RS), k ≤ n ∧ i = .int .i64 k ∧ l.length = k ∧ itemsN data s1 k = some (l, s) ∧ ItsInv w1 rb wr dv v data s l) (fun _ i _ => n - (intOf i).toNat)
    case atStart => exact ⟨0, [], s1, Nat.zero_le _, rfl, rfl, rfl, HI2.out⟩
    case round =>
      obtain ⟨k, l, s, hk, rfl, hlk, hit, hinv⟩ := hrel
      have HIT := Lib.hid hit
      have HINV := Lib.hid hinv
      have HLK := Lib.hid hlk
      obtain ⟨cells, hown, hrow⟩ := hinv.row
      have HOWN := Lib.hid hown
      have HROW := Lib.hid hrow
      obtain ⟨av, cv0, hvs, hvn, hvm⟩ := owns_shape hown
      have HRD := Lib.hid hinv.rd
      subst hvs
      clear hit hinv hlk hown hrow
      by_cases hlt : k < n
      · go_wp2_with fail
        refine (text_p rb dv data s 64 _ HRD.out (by omega)).mono ?_
        rintro e w3 ⟨nm, s2, hp1, rfl, h1, h2⟩
        have HP1 := Lib.hid hp1
        have HM0 := Lib.hid (ItMid.start HRD.out h1 h2 #[.string ⟨nm.toArray⟩, .int .i64 0, .int .i64 0, .int .i64 0, .int .i64 0, .string ⟨#[]⟩, .slice none 0 0, .string ⟨#[]⟩, .int .i64 0, .int .i64 0])
        clear hp1 h1 h2
        go_wp2_with fail
        refine (uint_p rb dv data s2 _ HM0.out.rd).mono ?_
        rintro e w4 ⟨kd, s3, hp, rfl, h1, h2⟩
        have HP2 := Lib.hid hp
        have HM1 := Lib.hid (HM0.out.call h1 h2)
        have ck := HM1.out.cell 1
        have fk := HM1.out.free 1
        simp only [List.getElem?_toArray, List.getElem?_cons_succ, List.getElem?_cons_zero] at ck
        clear hp h1 h2
        go_wp2_with fail
        obtain ⟨kv, hkv⟩ : ∃ ix : Int, ix = wrap64 (kd : Int) := ⟨_, rfl⟩
        rw [← hkv]
        have Hkv := Lib.hid hkv
        clear hkv
        obtain ⟨w5, hw4⟩ : ∃ wx : World, wx = w4.setCell ⟨w3.heap.size, 1, none⟩ (.int .i64 kv) := ⟨_, rfl⟩
        rw [← hw4]
        have m4 := HM1.out.set 1 (.int .i64 kv)
        rw [← hw4] at m4
        simp only [List.setIfInBounds_toArray, List.set_cons_succ, List.set_cons_zero] at m4
        have HM2 := Lib.hid m4
        clear m4 hw4 ck fk HM0 HM1
        refine (uint_p rb dv data s3 _ HM2.out.rd).mono ?_
        rintro e w6 ⟨md, s4, hp, rfl, h1, h2⟩
        have HP3 := Lib.hid hp
        have HM3 := Lib.hid (HM2.out.call h1 h2)
        have ck := HM3.out.cell 2
        have fk := HM3.out.free 2
        simp only [List.getElem?_toArray, List.getElem?_cons_succ, List.getElem?_cons_zero] at ck
        clear hp h1 h2
        go_wp2_with fail
        obtain ⟨mv, hkv⟩ : ∃ ix : Int, ix = wrap64 (md : Int) := ⟨_, rfl⟩
        rw [← hkv]
        have Hmv := Lib.hid hkv
        clear hkv
        obtain ⟨w7, hw4⟩ : ∃ wx : World, wx = w6.setCell ⟨w3.heap.size, 2, none⟩ (.int .i64 mv) := ⟨_, rfl⟩
        rw [← hw4]
        have m4 := HM3.out.set 2 (.int .i64 mv)
        rw [← hw4] at m4
        simp only [List.setIfInBounds_toArray, List.set_cons_succ, List.set_cons_zero] at m4
        have HM4 := Lib.hid m4
        clear m4 hw4 ck fk HM2 HM3
        refine (uint_p rb dv data s4 _ HM4.out.rd).mono ?_
        rintro e w8 ⟨td, s5, hp, rfl, h1, h2⟩
        have HP4 := Lib.hid hp
        have HM5 := Lib.hid (HM4.out.call h1 h2)
        have ck := HM5.out.cell 3
        have fk := HM5.out.free 3
        simp only [List.getElem?_toArray, List.getElem?_cons_succ, List.getElem?_cons_zero] at ck
        clear hp h1 h2
        go_upto_region 11 with (fail)
        obtain ⟨tv, hkv⟩ : ∃ ix : Int, ix = wrap64 (td : Int) := ⟨_, rfl⟩
        rw [← hkv]
        have Htv := Lib.hid hkv
        clear hkv
        obtain ⟨w9, hw4⟩ : ∃ wx : World, wx = w8.setCell ⟨w3.heap.size, 3, none⟩ (.int .i64 tv) := ⟨_, rfl⟩
        rw [← hw4]
        have m4 := HM5.out.set 3 (.int .i64 tv)
        rw [← hw4] at m4
        simp only [List.setIfInBounds_toArray, List.set_cons_succ, List.set_cons_zero] at m4
        have HM6 := Lib.hid m4
        clear m4 hw4 ck fk HM4 HM5
        have ck := HM6.out.cell 1
        simp only [List.getElem?_toArray, List.getElem?_cons_succ, List.getElem?_cons_zero] at ck
        have HH := Lib.hid (itemP_head HP1.out HP2.out HP3.out HP4.out)
        have hnms : nm.length ≤ 64 := by have := txP_len data 64 s; rw [HP1.out] at this; exact this
        by_cases hk1 : kv = 1
        · have e1 : (kv == 1) = true := by simp [hk1]
          have HK1 := Lib.hid (show toI kd = 1 from Hkv.out.symm.trans hk1)
          clear hk1
          go_wp2_with fail
          refine (count_p rb dv data s5 963 _ HM6.out.rd (by omega)).mono ?_
          rintro e wa ⟨n2, s6, hp, rfl, h1, h2⟩
          have HP5 := Lib.hid hp
          have hn2 : n2 ≤ 963 := by have := cnP_le data 963 s5; rw [hp] at this; exact this
          have HM7 := Lib.hid (HM6.out.call h1 h2)
          clear hp h1 h2 ck HM6
          go_wp2_with fail
          obtain ⟨wo, hwo⟩ : ∃ wo : World, wo = wr := ⟨_, rfl⟩
          subst hwo
          go_loopw [39] (fun i wq => ∃ (j : Nat) (ch : List Ref) (s7 : RS) (cv : Value), j ≤ n2 ∧ i = .int .i64 j ∧ ch.length = j ∧ chunkN data s6 j = (ch, s7) ∧ ItMid rb w3.heap.size wo wq dv data s7 #[.string ⟨nm.toArray⟩, .int .i64 kv, .int .i64 mv, .int .i64 tv, .int .i64 0, .string ⟨#[]⟩, cv, .string ⟨#[]⟩, .int .i64 0, .int .i64 0] ∧ wq.ownsRow (w3.heap.size + 1) 43 3 cv ch.length (ch.flatMap refC)) (fun i _ => n2 - (intOf i).toNat)
          case atStart => exact ⟨0, [], s6, .slice none 0 0, Nat.zero_le _, rfl, rfl, rfl, HM7.out, World.ownsRow_nil _ _ _ _⟩
          case round =>
            obtain ⟨j, ch, s7, cv, hj, rfl, hlj, hch, hmid, how⟩ := hrel
            have HLJ := Lib.hid hlj
            have HCH := Lib.hid hch
            have HMQ := Lib.hid hmid
            have HOQ := Lib.hid how
            obtain ⟨a6, c6, hv6, hvn6, hvm6⟩ := owns_shape how
            subst hv6
            clear hlj hch hmid how
            by_cases hlt2 : j < n2
            · have ck := HMQ.out.cell 6
              have fk := HMQ.out.free 6
              simp only [List.getElem?_toArray, List.getElem?_cons_succ, List.getElem?_cons_zero] at ck
              go_wp2_with fail
              refine hld_begin (fun w' => w'.cell? ⟨w3.heap.size, 6, none⟩ = some (.slice a6 ch.length c6)) (by kernel_rfl) (by kernel_rfl) ?_
              simp only [List.dropLast_cons_cons, List.dropLast_singleton, List.length_cons, List.length_nil, Nat.reduceAdd, Nat.reduceSub]
              have HMD := Lib.hid (HMQ.out.below ((Below.refl _ _).drew))
              refine hld_take 0 rfl (by kernel_rfl) (by kernel_rfl) (by kernel_rfl) (fun _ _ _ h => h) rfl (by go_simp) (by intro w' hw'; go_simp; rfl) ?_
              simp only [Act.put, List.setIfInBounds_toArray, List.set_cons_succ, List.set_cons_zero]
              refine hld_take 1 rfl (by kernel_rfl) (by kernel_rfl) (by kernel_rfl) (fun _ _ _ h => h) rfl (by go_simp) (by intro w' hw'; go_simp; rfl) ?_
              simp only [Act.put, List.setIfInBounds_toArray, List.set_cons_succ, List.set_cons_zero]
              refine hld_take 2 rfl (by kernel_rfl) (by kernel_rfl) (by kernel_rfl) (fun _ _ _ h => h) rfl (by go_simp) (by intro w' hw'; go_simp; rfl) ?_
              simp only [Act.put, List.setIfInBounds_toArray, List.set_cons_succ, List.set_cons_zero]
              refine hld_bar 3 rfl (by kernel_rfl) rfl (fun K hK => ?_)
              go_wp2_with (go_at_call 62; refine (readRef_any rb dv data s7 _ HMD.out.rd).mono ?_; rintro e wb ⟨r, s8, hp, rfl, h1, h2, hrok⟩; unfold refV)
              have HP6 := Lib.hid hp
              have HRO := Lib.hid hrok
              have HMB := Lib.hid (HMD.out.call h1 h2)
              have HOB := Lib.hid (HOQ.out.kept (grown_trans (b := wr.drew) ⟨rfl, rfl, rfl, Nat.le_refl _, fun _ _ _ => rfl⟩ h2) (.inr (by
                intro e
                have := (HOQ.out.lt _ e).1
                have := RdAt.lt HRD1.out
                have := HINV.out.grown.size
                have := HMQ.out.ge
                omega)))
              have ck2 := HMB.out.cell 6
              have HMC := Lib.hid (HMB.out.below ((Below.refl _ _).alloc (Nat.le_refl _) (.cells #[.string r.name, .int .i64 r.gen, .int .i64 r.size] 43)))
              have ck3 := HMC.out.cell 6
              have fk2 := HMB.out.free 6
              have hbz2 : w3.heap.size + 1 ≤ wb.heap.size := (Array.getElem?_eq_some_iff.1 HMB.out.box).1
              simp only [List.getElem?_toArray, List.getElem?_cons_succ, List.getElem?_cons_zero] at ck2 ck3
              clear hp h1 h2 hrok ck fk HMQ HMD
              refine ⟨ck2, ?_⟩
              refine hld_bar 4 rfl (by kernel_rfl) rfl (fun K hK => ?_)
              go_wp2_with fail
              (first | (refine ⟨ck3, ?_⟩) | skip)
              refine hld_bar 5 rfl (by kernel_rfl) rfl (fun K hK => ?_)
              go_wp2_with (at_builtin; go_must (refine wpList_app1p Tryz.appRefs rfl _ _ rfl (w3.heap.size + 1) (.slice a6 ch.length c6) ch.length (ch.flatMap refC) rfl wb [.string r.name, .int .i64 r.gen, .int .i64 r.size] _ rfl rfl (refC_one (r := r)) HOB.out (by have := HLJ.out; omega) hbz2 ?_); intro v' wc hown' hgrow' _ hpl; obtain ⟨ae, ce, rfl, -, -⟩ := owns_shape hown')
              have HMW := Lib.hid (HMB.out.app hgrow' (fun k hk => by have := (HOB.out.lt k hk).1; omega))
              have HOW := Lib.hid (show wc.ownsRow (w3.heap.size + 1) 43 3 (.slice ae (ch.length + 1) ce) (ch ++ [r]).length ((ch ++ [r]).flatMap refC) by rw [List.length_append, List.flatMap_append]; simpa [refC] using hown')
              have ck4 := HMW.out.cell 6
              have fk4 := HMW.out.free 6
              simp only [List.getElem?_toArray, List.getElem?_cons_succ, List.getElem?_cons_zero] at ck4
              clear hown' hgrow' hpl ck2 ck3 fk2 HMC HMB HOB HOQ
              refine ⟨ck4, ?_⟩
              refine hld_take 6 rfl (by kernel_rfl) (by kernel_rfl) (by kernel_rfl) (fun _ _ _ h => h) rfl (by go_simp) (by intro w' hw'; go_simp; rfl) ?_
              simp only [Act.put, List.setIfInBounds_toArray, List.set_cons_succ, List.set_cons_zero]
              refine hld_done (by kernel_rfl) ?_
              refine last_run rfl rfl (fun K hK => ?_)
              go_wp2_with fail
              go_roundw
              case rel =>
                have m4 := HMW.out.set 6 (.slice ae (ch.length + 1) ce)
                simp only [List.setIfInBounds_toArray, List.set_cons_succ, List.set_cons_zero] at m4
                refine ⟨j + 1, ch ++ [r], s8, .slice ae (ch.length + 1) ce, by omega, by go_num, by simp [HLJ.out], chunkN_step HCH.out HP6.out, m4, HOW.out.kept (grown_set _ _ _ _) (.inr (by
                  intro e
                  have := (HOW.out.lt _ e).1
                  omega))⟩
              case measure => simp [intOf]; omega
            · obtain rfl : j = n2 := by omega
              have hchok : ∀ r ∈ ch, RefOk r := by
                have := chunkN_ok data s6 j
                rw [HCH.out] at this; exact this
              have HRF := Lib.hid (refs_owned HOQ.out hchok)
              have ck := HMQ.out.cell 6
              simp only [List.getElem?_toArray, List.getElem?_cons_succ, List.getElem?_cons_zero] at ck
              clear hchok
              go_wp2_with fail
              refine (total_any _ _ ch _ HRF.out).mono ?_
              rintro e wb ⟨rfl, hbt⟩
              have HMB := Lib.hid (HMQ.out.below hbt)
              have HRB := Lib.hid (show RefsAt (fun k => w3.heap.size < k) wb (.slice a6 ch.length c6) ch from RefsAt.same (SeqAt.below HRF.out (by omega) hbt (fun _ _ _ h => h)) (fun k hk hS => ⟨by have := hS.1; omega, rfl⟩))
              have ck4 := HMB.out.cell 4
              have fk4 := HMB.out.free 4
              simp only [List.getElem?_toArray, List.getElem?_cons_succ, List.getElem?_cons_zero] at ck4
              obtain ⟨tw, htw⟩ : ∃ tw : Int, tw = totW ch := ⟨_, rfl⟩
              rw [← htw]
              have HTW := Lib.hid htw
              clear hbt ck htw HRF
              go_upto_region 23 with (fail)
              obtain ⟨wd, hwd⟩ : ∃ wx : World, wx = wb.setCell ⟨w3.heap.size, 4, none⟩ (.int .i64 tw) := ⟨_, rfl⟩
              rw [← hwd]
              have m4 := HMB.out.set 4 (.int .i64 tw)
              rw [← hwd] at m4
              simp only [List.setIfInBounds_toArray, List.set_cons_succ, List.set_cons_zero] at m4
              have HM8 := Lib.hid m4
              have HIP := Lib.hid (show itemP data s = some (⟨⟨nm.toArray⟩, toI kd, toI md, toI td, tw, ⟨#[]⟩, ch, noRef⟩, s7) by rw [HH.out, itemK_file HK1.out HP5.out HCH.out, HTW.out])
              have HOK := Lib.hid (show ItemOk ⟨⟨nm.toArray⟩, kv, mv, tv, tw, ⟨#[]⟩, ch, noRef⟩ from ⟨by show ByteArray.size ⟨_⟩ ≤ _; unfold maxLen; simp [ByteArray.size]; omega, by show ByteArray.size ⟨_⟩ ≤ _; unfold maxLen; simp [ByteArray.size], noRef_ok⟩)
              have HCV := Lib.hid (show RefsAt (wo.heap.size ≤ ·) wd (.slice a6 ch.length c6) ch from RefsAt.same HRB.out (fun k hk hS => ⟨by have := HMQ.out.ge; show wo.heap.size ≤ k; omega, by rw [hwd]; exact Below.heap_setCell _ _ _ _ (by show k ≠ w3.heap.size; omega)⟩))
              clear m4 hwd ck4 fk4 HMB HMQ HRB
              have d0 := HM8.out.cell 0
              have d1 := HM8.out.cell 1
              have d2 := HM8.out.cell 2
              have d3 := HM8.out.cell 3
              have d4 := HM8.out.cell 4
              have d5 := HM8.out.cell 5
              have d6 := HM8.out.cell 6
              have d7 := HM8.out.cell 7
              have d8 := HM8.out.cell 8
              have d9 := HM8.out.cell 9
              simp only [List.getElem?_toArray, List.getElem?_cons_succ, List.getElem?_cons_zero] at d0 d1 d2 d3 d4 d5 d6 d7 d8 d9
              have HOC := Lib.hid (HOWN.out.kept HM8.out.grown (.inr (by
                intro e
                have := (HOWN.out.lt _ e).1
                have := RdAt.lt HRD1.out
                omega)))
              have hbz : w1.heap.size ≤ wd.heap.size := Nat.le_trans HINV.out.grown.size HM8.out.grown.size
              have HXI := Lib.hid (show itemP data s = some (⟨⟨nm.toArray⟩, kv, mv, tv, tw, ⟨#[]⟩, ch, noRef⟩, s7) by rw [HIP.out, Hkv.out, Hmv.out, Htv.out]; rfl)
              have hlen : l.length < 4096 := by have := HLK.out; omega
              go_wp2_with (at_builtin; go_must (refine wpList_app1p Tryz.appItems rfl _ _ rfl w1.heap.size (.slice av l.length cv0) l.length cells rfl wd [.string ⟨nm.toArray⟩, .int .i64 kv, .int .i64 mv, .int .i64 tv, .int .i64 (tw), .string ⟨#[]⟩, .slice a6 ch.length c6, .string ⟨#[]⟩, .int .i64 0, .int .i64 0] _ rfl rfl (itemC_one (it := ⟨⟨nm.toArray⟩, kv, mv, tv, tw, ⟨#[]⟩, ch, noRef⟩)) HOC.out (by omega) hbz ?_); intro v' we hown' hgrow' _ hpl; have HIE := Lib.hid (HINV.out.added (it := ⟨⟨nm.toArray⟩, kv, mv, tv, tw, ⟨#[]⟩, ch, noRef⟩) HM8.out HCV.out HOK.out HROW.out HOWN.out hown' hgrow' hpl); obtain ⟨ae, ce, rfl, -, -⟩ := owns_shape hown'; clear hown' hgrow' hpl)
              go_roundw
              case rel => exact ⟨k + 1, l ++ [⟨⟨nm.toArray⟩, kv, mv, tv, tw, ⟨#[]⟩, ch, noRef⟩], s7, by omega, by go_num, by simp [HLK.out], itemsN_step HIT.out HXI.out, HIE.out⟩
              case measure => simp [intOf]; omega
        · have e1 : (kv == 1) = false := by simp [hk1]
          by_cases hk2 : kv = 2
          · have e2 : (kv == 2) = true := by simp [hk2]
            have HK2 := Lib.hid (show toI kd = 2 from Hkv.out.symm.trans hk2)
            clear hk1 hk2
            go_wp2_with fail
            refine (readRef_any rb dv data s5 _ HM6.out.rd).mono ?_
            rintro e wa ⟨r, s6, hp, rfl, h1, h2, hrok⟩
            have HP5 := Lib.hid hp
            have HRO := Lib.hid hrok
            have HM7 := Lib.hid (HM6.out.call h1 h2)
            have c7 := HM7.out.cell 7
            have c8 := HM7.out.cell 8
            have c9 := HM7.out.cell 9
            have f7 := HM7.out.free 7
            have f8 := HM7.out.free 8
            have f9 := HM7.out.free 9
            simp only [List.getElem?_toArray, List.getElem?_cons_succ, List.getElem?_cons_zero] at c7 c8 c9
            unfold refV
            clear hp h1 h2 hrok ck
            go_upto_region 23 with (fail)
            obtain ⟨wb, hwb⟩ : ∃ wx : World, wx = ((wa.setCell ⟨w3.heap.size, 7, none⟩ (.string r.name)).setCell ⟨w3.heap.size, 8, none⟩ (.int .i64 r.gen)).setCell ⟨w3.heap.size, 9, none⟩ (.int .i64 r.size) := ⟨_, rfl⟩
            rw [← hwb]
            have m4 := ((HM7.out.set 7 (.string r.name)).set 8 (.int .i64 r.gen)).set 9 (.int .i64 r.size)
            rw [← hwb] at m4
            simp only [List.setIfInBounds_toArray, List.set_cons_succ, List.set_cons_zero] at m4
            have HM8 := Lib.hid m4
            have HIP := Lib.hid (HH.out.trans (itemK_dir HK2.out HP5.out))
            have HOK := Lib.hid (show ItemOk ⟨⟨nm.toArray⟩, kv, mv, tv, 0, ⟨#[]⟩, [], r⟩ from ⟨by show ByteArray.size ⟨_⟩ ≤ _; unfold maxLen; simp [ByteArray.size]; omega, by show ByteArray.size ⟨_⟩ ≤ _; unfold maxLen; simp [ByteArray.size], HRO.out⟩)
            have HCV := Lib.hid (show RefsAt (wr.heap.size ≤ ·) wb (.slice none 0 0) [] from SeqAt.nil)
            clear m4 hwb c7 c8 c9 f7 f8 f9 HM7 HM6
            have d0 := HM8.out.cell 0
            have d1 := HM8.out.cell 1
            have d2 := HM8.out.cell 2
            have d3 := HM8.out.cell 3
            have d4 := HM8.out.cell 4
            have d5 := HM8.out.cell 5
            have d6 := HM8.out.cell 6
            have d7 := HM8.out.cell 7
            have d8 := HM8.out.cell 8
            have d9 := HM8.out.cell 9
            simp only [List.getElem?_toArray, List.getElem?_cons_succ, List.getElem?_cons_zero] at d0 d1 d2 d3 d4 d5 d6 d7 d8 d9
            have HOC := Lib.hid (HOWN.out.kept HM8.out.grown (.inr (by
              intro e
              have := (HOWN.out.lt _ e).1
              have := RdAt.lt HRD1.out
              omega)))
            have hbz : w1.heap.size ≤ wb.heap.size := Nat.le_trans HINV.out.grown.size HM8.out.grown.size
            have HXI := Lib.hid (show itemP data s = some (⟨⟨nm.toArray⟩, kv, mv, tv, 0, ⟨#[]⟩, [], r⟩, s6) by rw [HIP.out, Hkv.out, Hmv.out, Htv.out]; rfl)
            have hlen : l.length < 4096 := by have := HLK.out; omega
            go_wp2_with (at_builtin; go_must (refine wpList_app1p Tryz.appItems rfl _ _ rfl w1.heap.size (.slice av l.length cv0) l.length cells rfl wb [.string ⟨nm.toArray⟩, .int .i64 kv, .int .i64 mv, .int .i64 tv, .int .i64 (0), .string ⟨#[]⟩, .slice none 0 0, .string r.name, .int .i64 r.gen, .int .i64 r.size] _ rfl rfl (itemC_one (it := ⟨⟨nm.toArray⟩, kv, mv, tv, 0, ⟨#[]⟩, [], r⟩)) HOC.out (by omega) hbz ?_); intro v' we hown' hgrow' _ hpl; have HIE := Lib.hid (HINV.out.added (it := ⟨⟨nm.toArray⟩, kv, mv, tv, 0, ⟨#[]⟩, [], r⟩) HM8.out HCV.out HOK.out HROW.out HOWN.out hown' hgrow' hpl); obtain ⟨ae, ce, rfl, -, -⟩ := owns_shape hown'; clear hown' hgrow' hpl)
            go_roundw
            case rel => exact ⟨k + 1, l ++ [⟨⟨nm.toArray⟩, kv, mv, tv, 0, ⟨#[]⟩, [], r⟩], s6, by omega, by go_num, by simp [HLK.out], itemsN_step HIT.out HXI.out, HIE.out⟩
            case measure => simp [intOf]; omega
          · have e2 : (kv == 2) = false := by simp [hk2]
            by_cases hk3 : kv = 3
            · have e3 : (kv == 3) = true := by simp [hk3]
              have HK3 := Lib.hid (show toI kd = 3 from Hkv.out.symm.trans hk3)
              clear hk1 hk2 hk3
              go_wp2_with fail
              refine (text_p rb dv data s5 512 _ HM6.out.rd (by omega)).mono ?_
              rintro e wa ⟨lk, s6, hp, rfl, h1, h2⟩
              have HP5 := Lib.hid hp
              have hlks : lk.length ≤ 512 := by have := txP_len data 512 s5; rw [hp] at this; exact this
              have HM7 := Lib.hid (HM6.out.call h1 h2)
              have c7 := HM7.out.cell 5
              have f7 := HM7.out.free 5
              simp only [List.getElem?_toArray, List.getElem?_cons_succ, List.getElem?_cons_zero] at c7
              clear hp h1 h2 ck
              go_upto_region 23 with (fail)
              obtain ⟨wb, hwb⟩ : ∃ wx : World, wx = wa.setCell ⟨w3.heap.size, 5, none⟩ (.string ⟨lk.toArray⟩) := ⟨_, rfl⟩
              rw [← hwb]
              have m4 := HM7.out.set 5 (.string ⟨lk.toArray⟩)
              rw [← hwb] at m4
              simp only [List.setIfInBounds_toArray, List.set_cons_succ, List.set_cons_zero] at m4
              have HM8 := Lib.hid m4
              have HIP := Lib.hid (HH.out.trans (itemK_link HK3.out HP5.out))
              have HOK := Lib.hid (show ItemOk ⟨⟨nm.toArray⟩, kv, mv, tv, 0, ⟨lk.toArray⟩, [], noRef⟩ from ⟨by show ByteArray.size ⟨_⟩ ≤ _; unfold maxLen; simp [ByteArray.size]; omega, by show ByteArray.size ⟨_⟩ ≤ _; unfold maxLen; simp [ByteArray.size]; omega, noRef_ok⟩)
              have HCV := Lib.hid (show RefsAt (wr.heap.size ≤ ·) wb (.slice none 0 0) [] from SeqAt.nil)
              clear m4 hwb c7 f7 HM7 HM6
              have d0 := HM8.out.cell 0
              have d1 := HM8.out.cell 1
              have d2 := HM8.out.cell 2
              have d3 := HM8.out.cell 3
              have d4 := HM8.out.cell 4
              have d5 := HM8.out.cell 5
              have d6 := HM8.out.cell 6
              have d7 := HM8.out.cell 7
              have d8 := HM8.out.cell 8
              have d9 := HM8.out.cell 9
              simp only [List.getElem?_toArray, List.getElem?_cons_succ, List.getElem?_cons_zero] at d0 d1 d2 d3 d4 d5 d6 d7 d8 d9
              have HOC := Lib.hid (HOWN.out.kept HM8.out.grown (.inr (by
                intro e
                have := (HOWN.out.lt _ e).1
                have := RdAt.lt HRD1.out
                omega)))
              have hbz : w1.heap.size ≤ wb.heap.size := Nat.le_trans HINV.out.grown.size HM8.out.grown.size
              have HXI := Lib.hid (show itemP data s = some (⟨⟨nm.toArray⟩, kv, mv, tv, 0, ⟨lk.toArray⟩, [], noRef⟩, s6) by rw [HIP.out, Hkv.out, Hmv.out, Htv.out]; rfl)
              have hlen : l.length < 4096 := by have := HLK.out; omega
              go_wp2_with (at_builtin; go_must (refine wpList_app1p Tryz.appItems rfl _ _ rfl w1.heap.size (.slice av l.length cv0) l.length cells rfl wb [.string ⟨nm.toArray⟩, .int .i64 kv, .int .i64 mv, .int .i64 tv, .int .i64 (0), .string ⟨lk.toArray⟩, .slice none 0 0, .string ⟨#[]⟩, .int .i64 0, .int .i64 0] _ rfl rfl (itemC_one (it := ⟨⟨nm.toArray⟩, kv, mv, tv, 0, ⟨lk.toArray⟩, [], noRef⟩)) HOC.out (by omega) hbz ?_); intro v' we hown' hgrow' _ hpl; have HIE := Lib.hid (HINV.out.added (it := ⟨⟨nm.toArray⟩, kv, mv, tv, 0, ⟨lk.toArray⟩, [], noRef⟩) HM8.out HCV.out HOK.out HROW.out HOWN.out hown' hgrow' hpl); obtain ⟨ae, ce, rfl, -, -⟩ := owns_shape hown'; clear hown' hgrow' hpl)
              go_roundw
              case rel => exact ⟨k + 1, l ++ [⟨⟨nm.toArray⟩, kv, mv, tv, 0, ⟨lk.toArray⟩, [], noRef⟩], s6, by omega, by go_num, by simp [HLK.out], itemsN_step HIT.out HXI.out, HIE.out⟩
              case measure => simp [intOf]; omega
            · have e3 : (kv == 3) = false := by simp [hk3]
              have HIN := Lib.hid (itemsP_none HBIG.out HCN.out (itemsN_none (itemsN_stop HIT.out (HH.out.trans (itemK_none (fun e => hk1 (Hkv.out.trans e)) (fun e => hk2 (Hkv.out.trans e)) (fun e => hk3 (Hkv.out.trans e))))) n (by omega)))
              clear hk1 hk2 hk3
              go_wp2_with fail
              go_ret2
              have hfb : Below w.heap.size w w9 := HB1.out.trans ((Grows.of_grown (S := fun k => k = rb) (grown_trans HINV.out.grown HM6.out.grown) (fun k hk => by cases hk; rfl)).below HB1.out.size (fun k hk => by subst hk; exact hge))
              exact ⟨hfb, by rw [HIN.out]; rfl⟩
      · obtain rfl : k = n := by omega
        have HIS := Lib.hid (itemsP_some HBIG.out HCN.out HIT.out)
        have HIA := Lib.hid (show ItemsAt (w.heap.size ≤ ·) wr (.slice av l.length cv0) l from by
          have hww := HB1.out.size
          refine ⟨cells, (row_of_owns HOWN.out).weak (fun k hk => by have := hk.1; omega), HROW.out.mono (fun c x _ hx => hx.same (fun k hk hS => ⟨by have := hS.1; omega, rfl⟩))⟩)
        have HFB := Lib.hid (show Below w.heap.size w wr from HB1.out.trans ((Grows.of_grown (S := fun k => k = rb) HINV.out.grown (fun k hk => by cases hk; rfl)).below HB1.out.size (fun k hk => by subst hk; exact hge)))
        go_wp2_with fail
        refine (end_any rb dv data s _ HRD.out).mono ?_
        rintro e we ⟨rfl, nd, rfl⟩
        obtain ⟨ev, hev⟩ : ∃ ev : Int, ev = endE data s := ⟨_, rfl⟩
        rw [← hev]
        have HEV := Lib.hid hev
        clear hev
        by_cases h0 : ev = 0
        · subst h0
          have HIA2 := Lib.hid (show ItemsAt (w.heap.size ≤ ·) (wr.drewN nd) (.slice av l.length cv0) l from ItemsAt.below HIA.out (below_draws (Below.refl _ _) nd))
          have HE2 := Lib.hid (HE.out.below (below_draws HFB.out nd))
          cases hvn2 : vNode l
          · have HIN := Lib.hid (show itemsP data = none by rw [HIS.out, hvn2]; simp)
            have HVN := Lib.hid hvn2
            clear hvn2
            go_wp2_with fail
            refine (validNode_is _ l _ false _ HIA2.out HE2.out HVN.out).mono ?_
            rintro e wf ⟨rfl, hbf⟩
            have HBF := Lib.hid (below_next (below_draws HFB.out nd) hbf)
            clear hbf
            go_wp2_with fail
            go_ret2
            exact ⟨HBF.out, by rw [HIN.out]; rfl⟩
          · have HIN := Lib.hid (show itemsP data = some l by rw [HIS.out, hvn2]; simp [HEV.out.symm])
            have HVN := Lib.hid hvn2
            clear hvn2
            go_wp2_with fail
            refine (validNode_is _ l _ true _ HIA2.out HE2.out HVN.out).mono ?_
            rintro e wf ⟨rfl, hbf⟩
            have HBF := Lib.hid (below_next (below_draws HFB.out nd) hbf)
            have HIF := Lib.hid (ItemsAt.below HIA2.out hbf)
            clear hbf
            go_wp2_with fail
            go_ret2
            exact ⟨HBF.out, by rw [HIN.out]; exact ⟨_, rfl, HIF.out⟩⟩
        · have HIN := Lib.hid (show itemsP data = none by rw [HIS.out, if_neg (fun h => h0 (HEV.out.trans h.1))])
          have e6 : (ev != 0) = true := by simp [h0]
          clear h0
          go_wp2_with fail
          go_ret2
          exact ⟨below_draws HFB.out nd, by rw [HIN.out]; rfl⟩

end Go.Proofs.YtndgmcggckpgfaaGreatDoor

/- Contracts of package manifest: library.chunk, library.node. -/
namespace Go.Proofs.YtndgmcggckpgfaaGreatDoor
open Go.RowKit Go.Maps

/-- The entries of a map of contents. -/
def EntsIn (S : Nat → Prop) (w : World) : List (Value × Value) → List (ByteArray × List UInt8) → Prop
  | [], [] => True
  | (k, v) :: m, (n, bs) :: cs => k = .string n ∧ BytesAt S w v bs ∧ EntsIn S w m cs
  | _, _ => False
theorem EntsIn.mono {S : Nat → Prop} {w w' : World} : ∀ {m : List (Value × Value)} {cs : List (ByteArray × List UInt8)}, EntsIn S w m cs → (∀ v bs, BytesAt S w v bs → BytesAt S w' v bs) → EntsIn S w' m cs
  | [], [], _, _ => trivial
  | [], _ :: _, h, _ => h
  | _ :: _, [], h, _ => h
  | (_, _) :: _, (_, _) :: _, h, hm => ⟨h.1, hm _ _ h.2.1, EntsIn.mono h.2.2 hm⟩
def findC : List (ByteArray × List UInt8) → ByteArray → Option (List UInt8)
  | [], _ => none
  | (k, bs) :: cs, n => if k = n then some bs else findC cs n
theorem EntsIn.hit {S : Nat → Prop} {w : World} {n : ByteArray} {bs : List UInt8} : ∀ {m : List (Value × Value)} {cs : List (ByteArray × List UInt8)}, EntsIn S w m cs → findC cs n = some bs → ∃ v, (Value.string n, v) ∈ m ∧ BytesAt S w v bs
  | [], [], _, hf => by simp [findC] at hf
  | [], _ :: _, h, _ => False.elim h
  | _ :: _, [], h, _ => False.elim h
  | (k, v) :: m, (n', bs') :: cs, h, hf => by
    simp only [findC] at hf
    split at hf
    · rename_i e
      simp only [Option.some.injEq] at hf
      subst hf e
      exact ⟨v, by rw [h.1]; simp, h.2.1⟩
    · obtain ⟨v', h1, h2⟩ := EntsIn.hit h.2.2 hf
      exact ⟨v', by simp [h1], h2⟩
theorem EntsIn.miss {S : Nat → Prop} {w : World} {n : ByteArray} : ∀ {m : List (Value × Value)} {cs : List (ByteArray × List UInt8)}, EntsIn S w m cs → findC cs n = none → ∀ p ∈ m, p.1 ≠ Value.string n
  | [], [], _, _, _, hp => by simp at hp
  | [], _ :: _, h, _, _, _ => False.elim h
  | _ :: _, [], h, _, _, _ => False.elim h
  | (k, v) :: m, (n', bs') :: cs, h, hf, p, hp => by
    simp only [findC] at hf
    split at hf
    · simp at hf
    · rename_i e
      rcases List.mem_cons.1 hp with rfl | hp
      · intro e2
        have := h.1.symm.trans e2
        simp only [Value.string.injEq] at this
        exact e this
      · exact EntsIn.miss h.2.2 hf p hp
/-- A map of contents. -/
def ContAt (S : Nat → Prop) (w : World) (cv : Value) (cs : List (ByteArray × List UInt8)) : Prop :=
  (cv = .map none ∧ cs = []) ∨ ∃ b m, cv = .map (some b) ∧ S b ∧ MapIs Tryz.prog 9 w b m ∧ EntsIn S w m cs
theorem ContAt.below {S : Nat → Prop} {w w' : World} {cv : Value} {cs : List (ByteArray × List UInt8)} (h : ContAt S w cv cs) (hb : Below w.heap.size w w') : ContAt S w' cv cs := by
  rcases h with h | ⟨b, m, h1, h0, h2, h3⟩
  · exact .inl h
  · exact .inr ⟨b, m, h1, h0, h2.same (hb.block b h2.lt), h3.mono (fun v bs hv => RowAt.below hv (by omega) hb)⟩
theorem lawStr : Keyed Tryz.prog 9 := string_keyed Tryz.underlying9
theorem keyStr {n : ByteArray} (h : n.size ≤ maxLen) : ∃ l, keyOf Tryz.prog 9 (.string n) = some l := ⟨.string n.data.toList, by simp [keyOf, mapKey, Tryz.underlying9, h]⟩
theorem ContAt.hitL {S : Nat → Prop} {w : World} {cv : Value} {cs : List (ByteArray × List UInt8)} (h : ContAt S w cv cs) {n : ByteArray} {bs : List UInt8} (hn : n.size ≤ maxLen) (hf : findC cs n = some bs) :
    ∃ v, (Instr.lookup 87 cv (.string n) true).run Tryz.prog w = .ok (.tuple #[v, .bool true]) w ∧ BytesAt S w v bs := by
  rcases h with ⟨_, rfl⟩ | ⟨b, m, rfl, _, h2, h3⟩
  · simp [findC] at hf
  · obtain ⟨v, hv, hb⟩ := h3.hit hf
    exact ⟨v, h2.hit lawStr (t := 87) (e := 58) (by kernel_rfl) (keyStr hn) hv true, hb⟩
theorem ContAt.missL {S : Nat → Prop} {w : World} {cv : Value} {cs : List (ByteArray × List UInt8)} (h : ContAt S w cv cs) {n : ByteArray} (hn : n.size ≤ maxLen) (hf : findC cs n = none) :
    (Instr.lookup 87 cv (.string n) true).run Tryz.prog w = .ok (.tuple #[.slice none 0 0, .bool false]) w := by
  obtain ⟨l, hl⟩ := keyStr hn
  rcases h with ⟨rfl, _⟩ | ⟨b, m, rfl, _, h2, h3⟩
  · exact Maps.look_nil true lawStr (t := 87) (e := 58) (by kernel_rfl) (by kernel_rfl) hl
  · exact h2.miss lawStr (t := 87) (e := 58) (by kernel_rfl) (by kernel_rfl) (keyStr hn) (h3.miss hf) true
def chunkP (cs : List (ByteArray × List UInt8)) (r : Ref) : Except Int (List UInt8) := match findC cs r.name with
  | none => .error 10
  | some bs => if (bs.length : Int) = r.size then .ok bs else .error 9
def nodeP (cs : List (ByteArray × List UInt8)) (r : Ref) : Except Int (List Item) := match chunkP cs r with
  | .error e => .error e
  | .ok bs => match itemsP bs with
    | none => .error 9
    | some l => .ok l
def ChunkRes (cs : List (ByteArray × List UInt8)) (r : Ref) (S : Nat → Prop) (w : World) (e : Ending) (w' : World) : Prop := Below w.heap.size w w' ∧ match chunkP cs r with
  | .error x => e = .returned (.tuple #[.slice none 0 0, .int .i64 x]) ∧ x ≠ 0
  | .ok bs => ∃ v, e = .returned (.tuple #[v, .int .i64 0]) ∧ BytesAt S w' v bs
set_option maxRecDepth 100000 in
set_option maxHeartbeats 1000000 in
theorem chunk_any (S : Nat → Prop) (cv : Value) (cs : List (ByteArray × List UInt8)) (r : Ref) (w : World) (hc : ContAt S w cv cs) (hr : RefOk r) : Calls Tryz.prog 53 #[cv, refV r] w (ChunkRes cs r S w) := by
  have hnm := hr.nm
  have HC := Lib.hid (hc.below ((Below.refl _ _).alloc (Nat.le_refl _) (.cells #[.string r.name, .int .i64 r.gen, .int .i64 r.size] 43)))
  have HB := Lib.hid ((Below.refl w.heap.size w).alloc (Nat.le_refl _) (.cells #[.string r.name, .int .i64 r.gen, .int .i64 r.size] 43))
  unfold refV
  clear hc hr
  cases hf : findC cs r.name with
  | none =>
    have hlk := HC.out.missL hnm hf
    have HF := Lib.hid (show chunkP cs r = .error 10 by unfold chunkP; rw [hf])
    clear hf hnm
    go_enter Tryz.func53, Tryz.ntmps53
    go_wp2_with fail
    go_ret2
    exact ⟨HB.out, by rw [HF.out]; exact ⟨rfl, by decide⟩⟩
  | some bs =>
    obtain ⟨v, hlk, hv⟩ := HC.out.hitL hnm hf
    have HV := Lib.hid hv
    obtain ⟨_, a, cap, rfl, hn, hm, -⟩ := hv
    unfold maxLen at hm
    by_cases hl : (bs.length : Int) = r.size
    · have HF := Lib.hid (show chunkP cs r = .ok bs by unfold chunkP; rw [hf]; simp only [if_pos hl])
      have e1 : ((bs.length : Int) != r.size) = false := by simp [hl]
      clear hf hnm hl
      go_enter Tryz.func53, Tryz.ntmps53
      go_wp2_with fail
      go_ret2
      exact ⟨HB.out, by rw [HF.out]; exact ⟨_, rfl, HV.out⟩⟩
    · have HF := Lib.hid (show chunkP cs r = .error 9 by unfold chunkP; rw [hf]; simp only [if_neg hl])
      have e1 : ((bs.length : Int) != r.size) = true := by simp [hl]
      clear hf hnm hl
      go_enter Tryz.func53, Tryz.ntmps53
      go_wp2_with fail
      go_ret2
      exact ⟨HB.out, by rw [HF.out]; exact ⟨rfl, by decide⟩⟩
def NodeRes (cs : List (ByteArray × List UInt8)) (r : Ref) (w : World) (e : Ending) (w' : World) : Prop := Below w.heap.size w w' ∧ match nodeP cs r with
  | .error x => e = .returned (.tuple #[.slice none 0 0, .int .i64 x]) ∧ x ≠ 0
  | .ok l => ∃ v, e = .returned (.tuple #[v, .int .i64 0]) ∧ ItemsAt (w.heap.size ≤ ·) w' v l
set_option maxRecDepth 100000 in
set_option maxHeartbeats 1000000 in
theorem node_any (S : Nat → Prop) (cv : Value) (cs : List (ByteArray × List UInt8)) (r : Ref) (w : World) (hc : ContAt S w cv cs) (hr : RefOk r) (henv : Env w) : Calls Tryz.prog 46 #[cv, refV r] w (NodeRes cs r w) := by
  have HB := Lib.hid ((Below.refl w.heap.size w).alloc (Nat.le_refl _) (.cells #[.string r.name, .int .i64 r.gen, .int .i64 r.size] 43))
  have HC := Lib.hid (hc.below HB.out)
  have HR := Lib.hid hr
  have HE := Lib.hid (henv.below HB.out)
  unfold refV
  clear hc hr henv
  go_enter Tryz.func46, Tryz.ntmps46
  go_wp2_with fail
  refine (chunk_any S cv cs r _ HC.out HR.out).mono ?_
  rintro e w1 ⟨hb1, hres⟩
  have HB1 := Lib.hid (below_next HB.out hb1)
  have HE1 := Lib.hid (HE.out.below hb1)
  clear hb1
  cases hch : chunkP cs r with
  | error x =>
    rw [hch] at hres
    obtain ⟨rfl, hx⟩ := hres
    have HN := Lib.hid (show nodeP cs r = .error x by unfold nodeP; rw [hch])
    have HX := Lib.hid hx
    have e1 : (x != 0) = true := by simp [hx]
    clear hch hx
    go_wp2_with fail
    go_ret2
    exact ⟨HB1.out, by rw [HN.out]; exact ⟨rfl, HX.out⟩⟩
  | ok bs =>
    rw [hch] at hres
    obtain ⟨v, rfl, hv⟩ := hres
    have HV := Lib.hid hv
    obtain ⟨_, a, cap, rfl, hn, hm, -⟩ := hv
    unfold maxLen at hm
    have HCH := Lib.hid hch
    clear hch
    go_wp2_with fail
    refine (items_any S bs _ w1 HV.out HE1.out).mono ?_
    rintro e w2 ⟨hb2, hres⟩
    have HB2 := Lib.hid (below_next HB1.out hb2)
    clear hb2
    cases hit : itemsP bs with
    | none =>
      rw [hit] at hres
      simp only at hres
      subst hres
      have HN := Lib.hid (show nodeP cs r = .error 9 by unfold nodeP; rw [HCH.out]; simp only [hit])
      clear hit
      go_wp2_with fail
      go_ret2
      exact ⟨HB2.out, by rw [HN.out]; exact ⟨rfl, by decide⟩⟩
    | some l =>
      rw [hit] at hres
      simp only at hres
      obtain ⟨v, rfl, hv⟩ := hres
      have hwz := HB1.out.size
      have HV2 := Lib.hid (show ItemsAt (w.heap.size ≤ ·) w2 v l from by
        obtain ⟨cells, h1, h2⟩ := hv
        exact ⟨cells, h1.weak (fun k hk => Nat.le_trans hwz hk), h2.mono (fun c x _ hx => hx.same (fun k _ hS => ⟨Nat.le_trans hwz hS, rfl⟩))⟩)
      obtain ⟨a2, c2, rfl, -, -, -⟩ := SeqAt.shape hv ItemR.len
      have HN := Lib.hid (show nodeP cs r = .ok l by unfold nodeP; rw [HCH.out]; simp only [hit])
      clear hit hv
      go_wp2_with fail
      go_ret2
      exact ⟨HB2.out, by rw [HN.out]; exact ⟨_, rfl, HV2.out⟩⟩

end Go.Proofs.YtndgmcggckpgfaaGreatDoor

/- Contracts of package manifest: walker.mention. -/
namespace Go.Proofs.YtndgmcggckpgfaaGreatDoor
open Go.RowKit


/-- A walker at block wb: what is expanded, what is listed. -/
structure WkAt (w : World) (base wb eb sb : Nat) (fv v : Value) (ex rs : List Ref) : Prop where
  box : w.heap[wb]? = some (.cells #[fv, .map (some eb), .map (some sb), v] 102 (0, 0))
  exs : SetAt w eb ex
  see : SetAt w sb rs
  row : w.ownsRow base 43 3 v rs.length (rs.flatMap refC)
  ne : eb ≠ sb
def WkOwn (wb eb sb : Nat) (v : Value) (k : Nat) : Prop := k = wb ∨ k = eb ∨ k = sb ∨ v.ownBlock = some k
section
variable {w w' : World} {base wb eb sb : Nat} {fv v : Value} {ex rs : List Ref}
theorem SetAt.cells {b : Nat} {l : List Ref} (h : SetAt w b l) {cs : Array Value} {t : TypeId} {z : Nat × Nat} : w.heap[b]? ≠ some (.cells cs t z) := fun e => by
  obtain ⟨es, clock, hb, _⟩ := h.map
  rw [hb] at e; cases e
theorem WkAt.wne (h : WkAt w base wb eb sb fv v ex rs) : wb ≠ eb ∧ wb ≠ sb := ⟨fun e => h.exs.cells (e ▸ h.box), fun e => h.see.cells (e ▸ h.box)⟩
theorem owns_block {e : TypeId} {sz : Nat} {n : Nat} {xs : List Value} {k : Nat} (h : w.ownsRow base e sz v n xs) (hk : v.ownBlock = some k) : ∃ cs, w.heap[k]? = some (.cells cs e (0, 0)) := by
  obtain ⟨_, h2⟩ := h
  rcases h2 with ⟨rfl, rfl⟩ | ⟨g, cap, cur, rfl, _, hh, _⟩
  · cases hk
  · have : g = k := by simpa [Value.ownBlock] using hk
    subst this
    exact ⟨cur, hh⟩
theorem WkAt.own (h : WkAt w base wb eb sb fv v ex rs) {k : Nat} (hk : v.ownBlock = some k) : k ≠ wb ∧ k ≠ eb ∧ k ≠ sb := by
  obtain ⟨cs, hc⟩ := owns_block h.row hk
  refine ⟨fun e => ?_, fun e => ?_, fun e => ?_⟩
  · subst e
    have := hc.symm.trans h.box
    simp at this
  · subst e; exact h.exs.cells hc
  · subst e; exact h.see.cells hc
theorem WkAt.keep (h : WkAt w base wb eb sb fv v ex rs) (hs : ∀ k, k < w.heap.size → WkOwn wb eb sb v k → w'.heap[k]? = w.heap[k]?) : WkAt w' base wb eb sb fv v ex rs := by
  refine ⟨(hs wb (lt_of_block h.box) (.inl rfl)).trans h.box, h.exs.same (hs eb h.exs.map.lt (.inr (.inl rfl))), h.see.same (hs sb h.see.map.lt (.inr (.inr (.inl rfl)))), ?_, h.ne⟩
  obtain ⟨hl, h2⟩ := h.row
  refine ⟨hl, ?_⟩
  rcases h2 with h2 | ⟨g, cap, cur, rfl, hg, hh, h3⟩
  · exact .inl h2
  · exact .inr ⟨g, cap, cur, rfl, hg, (hs g (lt_of_block hh) (.inr (.inr (.inr rfl)))).trans hh, h3⟩
theorem WkAt.below (h : WkAt w base wb eb sb fv v ex rs) (hb : Below w.heap.size w w') : WkAt w' base wb eb sb fv v ex rs := h.keep (fun k hk _ => hb.block k hk)
theorem WkAt.ok (h : WkAt w base wb eb sb fv v ex rs) : ∀ r ∈ rs, RefOk r := h.see.ok
theorem WkAt.shape (h : WkAt w base wb eb sb fv v ex rs) : ∃ a cap, v = .slice a rs.length cap := by
  obtain ⟨a, cap, h1, _⟩ := owns_shape h.row
  exact ⟨a, cap, h1⟩
end
def mentionP (r : Ref) (rs : List Ref) : List Ref := if r ∈ rs then rs else rs ++ [r]
def WkRes (base wb eb sb : Nat) (fv v : Value) (ex rs : List Ref) (w w' : World) : Prop :=
  ∃ v', WkAt w' base wb eb sb fv v' ex rs ∧ Grows (WkOwn wb eb sb v) w w' ∧ ∀ k, v'.ownBlock = some k → v.ownBlock = some k ∨ w.heap.size ≤ k
set_option maxRecDepth 100000 in
set_option maxHeartbeats 2000000 in
theorem mention_any (base wb eb sb : Nat) (fv v : Value) (ex rs : List Ref) (r : Ref) (w : World) (h : WkAt w base wb eb sb fv v ex rs) (hr : RefOk r) (hl : rs.length < 1099511627775) (hbase : base ≤ w.heap.size) :
    Calls Tryz.prog 57 #[.pointer (some ⟨wb, 0, none⟩), refV r] w fun e w' => e = .returned (.tuple #[]) ∧ WkRes base wb eb sb fv v ex (mentionP r rs) w w' := by
  obtain ⟨av, cv, rfl⟩ := h.shape
  obtain ⟨W, hW⟩ : ∃ W : World, W = (w.alloc (.cells #[.string r.name, .int .i64 r.gen, .int .i64 r.size] 43)).drew := ⟨_, rfl⟩
  have hbW : Below w.heap.size w W := by rw [hW]; exact ((Below.refl _ _).alloc (Nat.le_refl _) _).drew
  have HBW := Lib.hid hbW
  have HK := Lib.hid (h.below hbW)
  have bx : W.heap[w.heap.size]? = some (.cells #[.string r.name, .int .i64 r.gen, .int .i64 r.size] 43 (0, 0)) := by rw [hW]; exact heap_alloc_new w _
  have HBX := Lib.hid bx
  have HR := Lib.hid hr
  have HW := Lib.hid hW
  have q0 := cellH (k := 0) bx
  have q1 := cellH (k := 1) bx
  have q2 := cellH (k := 2) bx
  have c2 := cellH (k := 2) HK.out.box
  have hlk := HK.out.see.look hr
  simp only [List.getElem?_toArray, List.getElem?_cons_succ, List.getElem?_cons_zero] at q0 q1 q2 c2
  have hwb : wb < w.heap.size := lt_of_block h.box
  have H0 := Lib.hid h
  unfold refV at hlk ⊢
  clear h hr bx hbW
  by_cases hm : r ∈ rs
  · have e1 : decide (r ∈ rs) = true := by simp [hm]
    have HM := Lib.hid (show mentionP r rs = rs by unfold mentionP; rw [if_pos hm])
    rw [e1] at hlk
    clear e1 hm
    go_enter Tryz.func57, Tryz.ntmps57
    go_wp2_with fail
    refine wp_region_segs [some 7] (by kernel_rfl) (by kernel_rfl) (by kernel_rfl) ?_
    simp only [wpSegs, List.take_succ_cons, List.take_zero]
    rw [← HW.out]
    clear hW
    repeat (first | (refine seg_skip rfl ?_; simp only [Act.put, List.setIfInBounds_toArray, List.set_cons_succ, List.set_cons_zero]) | (refine seg_run rfl (fun K hK => ?_); go_simp; refine hK _ ?_; clear hK K))
    refine seg_nil ?_
    go_wp2_with fail
    go_end0
    exact ⟨rfl, .slice av rs.length cv, by rw [HM.out]; exact HK.out, Grows.of_below HBW.out, fun k hk => .inl hk⟩
  · have e1 : decide (r ∈ rs) = false := by simp [hm]
    have HM := Lib.hid (show mentionP r rs = rs ++ [r] by unfold mentionP; rw [if_neg hm])
    have HNM := Lib.hid hm
    rw [e1] at hlk
    clear e1 hm
    go_enter Tryz.func57, Tryz.ntmps57
    go_wp2_with fail
    refine wp_region_segs [some 7] (by kernel_rfl) (by kernel_rfl) (by kernel_rfl) ?_
    simp only [wpSegs, List.take_succ_cons, List.take_zero]
    rw [← HW.out]
    clear hW
    repeat (first | (refine seg_skip rfl ?_; simp only [Act.put, List.setIfInBounds_toArray, List.set_cons_succ, List.set_cons_zero]) | (refine seg_run rfl (fun K hK => ?_); go_simp; refine hK _ ?_; clear hK K))
    refine seg_nil ?_
    go_wp2_with fail
    refine wp_region_segs [some 5, none] (by kernel_rfl) (by kernel_rfl) (by kernel_rfl) ?_
    simp only [wpSegs, List.take_succ_cons, List.take_zero, List.drop_succ_cons, List.drop_zero]
    have HK1 := Lib.hid (HK.out.below ((Below.refl _ W).drew))
    repeat (first | (refine seg_skip rfl ?_; simp only [Act.put, List.setIfInBounds_toArray, List.set_cons_succ, List.set_cons_zero]) | (refine seg_run rfl (fun K hK => ?_); go_simp; refine hK _ ?_; clear hK K))
    refine seg_nil ?_
    refine bar_run rfl (fun K hK => ?_)
    go_wp2_with (at_mapUpdate; go_must (refine wpList_setadd rfl _ _ _ rfl sb rs HK1.out.see rfl r HR.out rfl rfl HNM.out ?_); intro w2 hset hg2)
    have hsb : sb < w.heap.size := H0.out.see.map.lt
    have heb : eb < w.heap.size := H0.out.exs.map.lt
    have hbs := HBW.out.size
    obtain ⟨W3, hW3⟩ : ∃ W3 : World, W3 = w2.drew := ⟨_, rfl⟩
    have hg3 : W.grownBy W3 (some sb) := by rw [hW3]; exact grown_trans (b := W.drew) ⟨rfl, rfl, rfl, Nat.le_refl _, fun _ _ _ => rfl⟩ (grown_trans hg2 ⟨rfl, rfl, rfl, Nat.le_refl _, fun _ _ _ => rfl⟩)
    have hz3 := hg3.size
    have HSET := Lib.hid (show SetAt W3 sb (rs ++ [r]) by rw [hW3]; exact hset.same rfl)
    have HEX := Lib.hid (HK.out.exs.same (w' := W3) (hg3.block eb HK.out.exs.map.lt (by simp; exact HK.out.ne)))
    have HROW := Lib.hid (HK.out.row.kept hg3 (.inr (fun e => (HK.out.own e).2.2 rfl)))
    have HWB := Lib.hid (keepH hg3 HK.out.box HK.out.wne.2)
    have HRB := Lib.hid (keepH hg3 HBX.out (by omega))
    have HG3 := Lib.hid hg3
    have c3 := cellH (k := 3) HWB.out
    have f3 := frozenH (k := 3) HWB.out
    have r0 := cellH (k := 0) HRB.out
    have r1 := cellH (k := 1) HRB.out
    have r2 := cellH (k := 2) HRB.out
    simp only [List.getElem?_toArray, List.getElem?_cons_succ, List.getElem?_cons_zero] at c3 r0 r1 r2
    clear q0 q1 q2 c2 hlk hset hg2 hg3
    refine hld_begin (fun w' => w'.cell? ⟨wb, 3, none⟩ = some (.slice av rs.length cv) ∧ w'.cell? ⟨w.heap.size, 0, none⟩ = some (.string r.name) ∧ w'.cell? ⟨w.heap.size, 1, none⟩ = some (.int .i64 r.gen) ∧ w'.cell? ⟨w.heap.size, 2, none⟩ = some (.int .i64 r.size)) (by kernel_rfl) (by kernel_rfl) ?_
    simp only [List.dropLast_cons_cons, List.dropLast_singleton, List.length_cons, List.length_nil, Nat.reduceAdd, Nat.reduceSub]
    rw [← hW3]
    clear hW3
    refine hld_take 0 rfl (by kernel_rfl) (by kernel_rfl) (by kernel_rfl) (fun _ _ _ h => h) rfl (by go_simp) (by rintro w' ⟨hw1, hw2, hw3, hw4⟩; go_simp; rfl) ?_
    simp only [Act.put, List.setIfInBounds_toArray, List.set_cons_succ, List.set_cons_zero]
    refine hld_take 1 rfl (by kernel_rfl) (by kernel_rfl) (by kernel_rfl) (fun _ _ _ h => h) rfl (by go_simp) (by rintro w' ⟨hw1, hw2, hw3, hw4⟩; go_simp; rfl) ?_
    simp only [Act.put, List.setIfInBounds_toArray, List.set_cons_succ, List.set_cons_zero]
    refine hld_take 2 rfl (by kernel_rfl) (by kernel_rfl) (by kernel_rfl) (fun _ _ _ h => h) rfl (by go_simp) (by rintro w' ⟨hw1, hw2, hw3, hw4⟩; go_simp; rfl) ?_
    simp only [Act.put, List.setIfInBounds_toArray, List.set_cons_succ, List.set_cons_zero]
    refine hld_take 3 rfl (by kernel_rfl) (by kernel_rfl) (by kernel_rfl) (fun _ _ _ h => h) rfl (by go_simp) (by rintro w' ⟨hw1, hw2, hw3, hw4⟩; go_simp; rfl) ?_
    simp only [Act.put, List.setIfInBounds_toArray, List.set_cons_succ, List.set_cons_zero]
    refine hld_take 4 rfl (by kernel_rfl) (by kernel_rfl) (by kernel_rfl) (fun _ _ _ h => h) rfl (by go_simp) (by rintro w' ⟨hw1, hw2, hw3, hw4⟩; go_simp; rfl) ?_
    simp only [Act.put, List.setIfInBounds_toArray, List.set_cons_succ, List.set_cons_zero]
    refine hld_take 5 rfl (by kernel_rfl) (by kernel_rfl) (by kernel_rfl) (fun _ _ _ h => h) rfl (by go_simp) (by rintro w' ⟨hw1, hw2, hw3, hw4⟩; go_simp; rfl) ?_
    simp only [Act.put, List.setIfInBounds_toArray, List.set_cons_succ, List.set_cons_zero]
    have hltw : wb < W3.heap.size := lt_of_block HWB.out
    have hltr : w.heap.size < W3.heap.size := lt_of_block HRB.out
    have HAL := Lib.hid ((Below.refl W3.heap.size W3).alloc (Nat.le_refl _) (.cells #[.string r.name, .int .i64 r.gen, .int .i64 r.size] 43))
    have hS2 := And.intro ((HAL.out.cell (p := ⟨wb, 3, none⟩) hltw).trans c3) (And.intro ((HAL.out.cell (p := ⟨w.heap.size, 0, none⟩) hltr).trans r0) (And.intro ((HAL.out.cell (p := ⟨w.heap.size, 1, none⟩) hltr).trans r1) ((HAL.out.cell (p := ⟨w.heap.size, 2, none⟩) hltr).trans r2)))
    have HS2 := Lib.hid hS2
    clear hS2
    refine hld_bar 6 rfl (by kernel_rfl) rfl (fun K hK => ?_)
    go_wp2_with fail
    (first | (refine ⟨HS2.out, ?_⟩) | skip)
    refine hld_bar 7 rfl (by kernel_rfl) rfl (fun K hK => ?_)
    go_wp2_with (at_builtin; go_must (refine wpList_app1p Tryz.appRefs rfl _ _ rfl base (.slice av rs.length cv) rs.length (rs.flatMap refC) rfl W3 [.string r.name, .int .i64 r.gen, .int .i64 r.size] _ rfl rfl (refC_one (r := r)) HROW.out (by omega) (by omega) ?_); intro v' wc hown' hgrow' _ hpl; obtain ⟨ae, ce, rfl, -, -⟩ := owns_shape hown')
    have hne : ∀ k, (Value.slice av rs.length cv).ownBlock = some k → k ≠ wb ∧ k ≠ eb ∧ k ≠ sb := fun k hk => H0.out.own hk
    have hner : (Value.slice av rs.length cv).ownBlock ≠ some w.heap.size := fun e => by have := (H0.out.row.lt _ e).2; omega
    have HWB2 := Lib.hid ((hgrow'.block wb hltw (fun e => (hne wb e.symm).1 rfl)).trans HWB.out)
    have HRB2 := Lib.hid ((hgrow'.block w.heap.size hltr (fun e => hner e.symm)).trans HRB.out)
    have HEX2 := Lib.hid (HEX.out.same (hgrow'.block eb HEX.out.map.lt (fun e => (hne eb e.symm).2.1 rfl)))
    have HSET2 := Lib.hid (HSET.out.same (hgrow'.block sb HSET.out.map.lt (fun e => (hne sb e.symm).2.2 rfl)))
    have HGR := Lib.hid hgrow'
    have HPL := Lib.hid hpl
    have HOW := Lib.hid (show wc.ownsRow base 43 3 (.slice ae (rs.length + 1) ce) (rs ++ [r]).length ((rs ++ [r]).flatMap refC) by rw [List.length_append, List.flatMap_append]; simpa [refC] using hown')
    have c4 := cellH (k := 3) HWB2.out
    have f4 := frozenH (k := 3) HWB2.out
    have s0 := cellH (k := 0) HRB2.out
    have s1 := cellH (k := 1) HRB2.out
    have s2 := cellH (k := 2) HRB2.out
    simp only [List.getElem?_toArray, List.getElem?_cons_succ, List.getElem?_cons_zero] at c4 s0 s1 s2
    clear hown' hgrow' hpl c3 f3 r0 r1 r2 hne hner
    refine ⟨⟨c4, s0, s1, s2⟩, ?_⟩
    refine hld_take 8 rfl (by kernel_rfl) (by kernel_rfl) (by kernel_rfl) (fun _ _ _ h => h) rfl (by go_simp) (by rintro w' ⟨hw1, hw2, hw3, hw4⟩; go_simp; rfl) ?_
    simp only [Act.put, List.setIfInBounds_toArray, List.set_cons_succ, List.set_cons_zero]
    refine hld_take 9 rfl (by kernel_rfl) (by kernel_rfl) (by kernel_rfl) (fun _ _ _ h => h) rfl (by go_simp) (by rintro w' ⟨hw1, hw2, hw3, hw4⟩; go_simp; rfl) ?_
    simp only [Act.put, List.setIfInBounds_toArray, List.set_cons_succ, List.set_cons_zero]
    refine hld_done (by kernel_rfl) ?_
    refine last_run rfl rfl (fun K hK => ?_)
    go_wp2_with fail
    go_end0
    refine ⟨rfl, .slice ae (rs.length + 1) ce, ?_, ?_, ?_⟩
    · rw [HM.out]
      have hws := H0.out.wne
      have hx := setH (k := 3) HWB2.out (.slice ae (rs.length + 1) ce)
      simp only [List.setIfInBounds_toArray, List.set_cons_succ, List.set_cons_zero] at hx
      refine ⟨hx, HEX2.out.same (Below.heap_setCell _ _ _ _ (Ne.symm hws.1)), HSET2.out.same (Below.heap_setCell _ _ _ _ (Ne.symm hws.2)), HOW.out.kept (grown_set _ _ _ _) (.inr (fun e => ?_)), H0.out.ne⟩
      rcases HPL.out wb e with h1 | h1
      · exact (H0.out.own h1).1 rfl
      · omega
    · refine Grows.trans (Grows.of_below HBW.out) (Grows.trans (S := WkOwn wb eb sb (.slice av rs.length cv)) (Grows.of_grown HG3.out (fun k hk => by cases hk; exact .inr (.inr (.inl rfl)))) (Grows.trans (S := WkOwn wb eb sb (.slice av rs.length cv)) (Grows.of_grown HGR.out (fun k hk => .inr (.inr (.inr hk)))) (Grows.of_grown (S := WkOwn wb eb sb (.slice av rs.length cv)) (grown_set wc wb 3 _) (fun k hk => by cases hk; exact .inl rfl)) (fun i _ h => h)) (fun i _ h => h)) (fun i _ h => h)
    · intro k hk
      rcases HPL.out k hk with h1 | h1
      · exact .inl h1
      · exact .inr (by omega)

end Go.Proofs.YtndgmcggckpgfaaGreatDoor

/- Contracts of package manifest: walker.walk: plain words, and what stands during the walk over items. -/
namespace Go.Proofs.YtndgmcggckpgfaaGreatDoor
open Go.RowKit

def menAll (cs rs : List Ref) : List Ref := cs.foldl (fun rs r => mentionP r rs) rs
def overW (f : Ref → List Ref × List Ref → Option (Int × (List Ref × List Ref))) : List Item → List Ref × List Ref → Option (Int × (List Ref × List Ref))
  | [], st => some (0, st)
  | it :: l, st => if it.kind ≠ 2 then overW f l (st.1, menAll it.chunks st.2) else
    (f it.node (st.1, menAll it.chunks st.2)).bind fun p => if p.1 ≠ 0 then some p else overW f l p.2
def walkP (visit : Ref → Except Int (List Item)) : Nat → Ref → List Ref × List Ref → Option (Int × (List Ref × List Ref))
  | 0, _, _ => none
  | n + 1, r, st => if r ∈ st.1 then some (0, (st.1, mentionP r st.2)) else match visit r with
    | .error x => some (x, (st.1 ++ [r], mentionP r st.2))
    | .ok l => overW (walkP visit n) l (st.1 ++ [r], mentionP r st.2)
theorem mentionP_le (r : Ref) (rs : List Ref) : rs.length ≤ (mentionP r rs).length := by
  unfold mentionP
  split
  · exact Nat.le_refl _
  · simp
theorem menAll_le : ∀ (cs rs : List Ref), rs.length ≤ (menAll cs rs).length
  | [], _ => Nat.le_refl _
  | c :: cs, rs => Nat.le_trans (mentionP_le c rs) (menAll_le cs (mentionP c rs))
theorem menAll_snoc (cs : List Ref) (c : Ref) (rs : List Ref) : menAll (cs ++ [c]) rs = mentionP c (menAll cs rs) := by
  unfold menAll; rw [List.foldl_append]; rfl
theorem menAll_take_le (cs rs : List Ref) (j : Nat) : (menAll (cs.take j) rs).length ≤ (menAll cs rs).length := by
  have : menAll cs rs = menAll (cs.drop j) (menAll (cs.take j) rs) := by
    unfold menAll
    rw [← List.foldl_append, List.take_append_drop]
  rw [this]
  exact menAll_le _ _
theorem overW_le {f : Ref → List Ref × List Ref → Option (Int × (List Ref × List Ref))} (hf : ∀ r st x st', f r st = some (x, st') → st.2.length ≤ st'.2.length) :
    ∀ (l : List Item) (st : List Ref × List Ref) (x : Int) (st' : List Ref × List Ref), overW f l st = some (x, st') → st.2.length ≤ st'.2.length
  | [], st, x, st', h => by
    simp only [overW, Option.some.injEq, Prod.mk.injEq] at h
    obtain ⟨_, rfl⟩ := h
    exact Nat.le_refl _
  | it :: l, st, x, st', h => by
    rw [overW] at h
    split at h
    · exact Nat.le_trans (menAll_le it.chunks st.2) (overW_le hf l _ x st' h)
    · rw [Option.bind_eq_some_iff] at h
      obtain ⟨⟨y, st2⟩, h1, h2⟩ := h
      have h3 := hf _ _ _ _ h1
      have h4 := menAll_le it.chunks st.2
      simp only at h2 h3
      split at h2
      · simp only [Option.some.injEq, Prod.mk.injEq] at h2
        obtain ⟨_, rfl⟩ := h2
        exact Nat.le_trans h4 h3
      · exact Nat.le_trans (Nat.le_trans h4 h3) (overW_le hf l _ x st' h2)
theorem walkP_le (visit : Ref → Except Int (List Item)) : ∀ (n : Nat) (r : Ref) (st : List Ref × List Ref) (x : Int) (st' : List Ref × List Ref), walkP visit n r st = some (x, st') → st.2.length ≤ st'.2.length
  | 0, _, _, _, _, h => by simp [walkP] at h
  | n + 1, r, st, x, st', h => by
    have hm := mentionP_le r st.2
    rw [walkP] at h
    split at h
    · simp only [Option.some.injEq, Prod.mk.injEq] at h
      obtain ⟨_, rfl⟩ := h
      exact hm
    · split at h
      · simp only [Option.some.injEq, Prod.mk.injEq] at h
        obtain ⟨_, rfl⟩ := h
        exact hm
      · exact Nat.le_trans hm (overW_le (walkP_le visit n) _ _ x st' h)

/-- What a visit leaves. -/
def VisRes (res : Except Int (List Item)) (w : World) (e : Ending) (w' : World) : Prop := Below w.heap.size w w' ∧ match res with
  | .error x => e = .returned (.tuple #[.slice none 0 0, .int .i64 x]) ∧ x ≠ 0
  | .ok l => ∃ v, e = .returned (.tuple #[v, .int .i64 0]) ∧ ItemsAt (w.heap.size ≤ ·) w' v l
theorem WkAt.notown {w : World} {base wb eb sb : Nat} {fv v : Value} {ex rs : List Ref} (h : WkAt w base wb eb sb fv v ex rs) {k : Nat} {cs : Array Value} {t : TypeId} {z : Nat × Nat} (hb : w.heap[k]? = some (.cells cs t z)) (h1 : t ≠ 102) (h2 : t ≠ 43) : ¬ WkOwn wb eb sb v k := by
  rintro (e | e | e | e)
  · subst e
    have := hb.symm.trans h.box
    simp at this
    exact h1 this.2.1
  · subst e; exact h.exs.cells hb
  · subst e; exact h.see.cells hb
  · obtain ⟨cs', hc⟩ := owns_block h.row e
    have := hb.symm.trans hc
    simp at this
    exact h2 this.2.1
/-- During the walk over the items of a node. -/
structure WkIn (w : World) (B h5 h6 base wb eb sb : Nat) (fv v itv : Value) (l : List Item) (wr : World) (v2 : Value) (ex rs : List Ref) : Prop where
  at' : WkAt wr base wb eb sb fv v2 ex rs
  gr : Grows (WkOwn wb eb sb v) w wr
  own : ∀ k, v2.ownBlock = some k → v.ownBlock = some k ∨ w.heap.size ≤ k
  apart : ∀ k, v2.ownBlock = some k → k < h5 ∨ h6 ≤ k
  lo : wb < h5 ∧ eb < h5 ∧ sb < h5
  ord : w.heap.size ≤ h5 ∧ h5 ≤ h6 ∧ h6 ≤ wr.heap.size
  its : ItemsAt (fun k => h5 ≤ k ∧ k < h6) wr itv l
theorem ItemsAt.same {S : Nat → Prop} {w w' : World} {v : Value} {l : List Item} (h : ItemsAt S w v l) (hs : ∀ k, k < w.heap.size → S k → w'.heap[k]? = w.heap[k]?) : ItemsAt S w' v l := by
  obtain ⟨cells, hr, hin⟩ := h
  have h2 := hr.mono (T := fun k => k < w.heap.size ∧ S k) (fun k hk hS => ⟨hk, hS⟩) (by omega)
  have h3 := h2.same (w' := w') (fun k hk => hs k hk.1 hk.2)
  exact ⟨cells, h3.weak (fun k hk => hk.2), hin.mono (fun c x _ hx => hx.same (fun k hk hS => ⟨hS, hs k hk hS⟩))⟩
section
variable {w wr w' : World} {B h5 h6 base wb eb sb : Nat} {fv v itv v2 v3 : Value} {l : List Item} {ex rs ex3 rs3 : List Ref}
theorem WkIn.below (h : WkIn w B h5 h6 base wb eb sb fv v itv l wr v2 ex rs) (hb : Below wr.heap.size wr w') : WkIn w B h5 h6 base wb eb sb fv v itv l w' v2 ex rs :=
  ⟨h.at'.below hb, h.gr.trans (Grows.of_below hb (S := fun _ => False)) (fun _ _ h => False.elim h), h.own, h.apart, h.lo, ⟨h.ord.1, h.ord.2.1, Nat.le_trans h.ord.2.2 hb.size⟩, h.its.below hb⟩
theorem WkIn.notown (h : WkIn w B h5 h6 base wb eb sb fv v itv l wr v2 ex rs) {k : Nat} (hk : h5 ≤ k ∧ k < h6) : ¬ WkOwn wb eb sb v2 k := by
  have := h.lo
  rintro (e | e | e | e)
  · omega
  · omega
  · omega
  · have := h.apart k e; omega
theorem WkIn.step (h : WkIn w B h5 h6 base wb eb sb fv v itv l wr v2 ex rs) (hr : WkRes base wb eb sb fv v2 ex3 rs3 wr w') : ∃ v3, WkIn w B h5 h6 base wb eb sb fv v itv l w' v3 ex3 rs3 ∧ Grows (WkOwn wb eb sb v2) wr w' := by
  obtain ⟨v3, h1, h2, h3⟩ := hr
  have hz := h.gr.size
  refine ⟨v3, ⟨h1, h.gr.trans h2 (fun i hi ho => ?_), fun k hk => ?_, fun k hk => ?_, h.lo, ⟨h.ord.1, h.ord.2.1, Nat.le_trans h.ord.2.2 h2.size⟩, h.its.same (fun k hk hS => h2.block k hk (h.notown hS))⟩, h2⟩
  · rcases ho with e | e | e | e
    · exact .inl e
    · exact .inr (.inl e)
    · exact .inr (.inr (.inl e))
    · rcases h.own i e with e | e
      · exact .inr (.inr (.inr e))
      · omega
  · rcases h3 k hk with e | e
    · exact h.own k e
    · exact .inr (by omega)
  · rcases h3 k hk with e | e
    · exact h.apart k e
    · have := h.ord; exact .inr (by omega)
end

end Go.Proofs.YtndgmcggckpgfaaGreatDoor

/- Contracts of the reference of package manifest: Ref, get. -/
namespace Go.Proofs.YtndgmcggckpgfaaGreatDoor
open Go Go.RowKit Go.Maps

theorem ContAt.hitM {S : Nat → Prop} {w : World} {cv : Value} {cs : List (ByteArray × List UInt8)} (h : ContAt S w cv cs) {n : ByteArray} {bs : List UInt8} (hn : n.size ≤ maxLen) (hf : findC cs n = some bs) :
    ∃ v, (Instr.lookup 23 cv (.string n) true).run Tryz.prog w = .ok (.tuple #[v, .bool true]) w ∧ BytesAt S w v bs := by
  rcases h with ⟨_, rfl⟩ | ⟨b, m, rfl, _, h2, h3⟩
  · simp [findC] at hf
  · obtain ⟨v, hv, hb⟩ := h3.hit hf
    exact ⟨v, h2.hit lawStr (t := 23) (e := 58) (by kernel_rfl) (keyStr hn) hv true, hb⟩
theorem ContAt.missM {S : Nat → Prop} {w : World} {cv : Value} {cs : List (ByteArray × List UInt8)} (h : ContAt S w cv cs) {n : ByteArray} (hn : n.size ≤ maxLen) (hf : findC cs n = none) :
    (Instr.lookup 23 cv (.string n) true).run Tryz.prog w = .ok (.tuple #[.slice none 0 0, .bool false]) w := by
  obtain ⟨l, hl⟩ := keyStr hn
  rcases h with ⟨rfl, _⟩ | ⟨b, m, rfl, _, h2, h3⟩
  · exact Maps.look_nil true lawStr (t := 23) (e := 58) (by kernel_rfl) (by kernel_rfl) hl
  · exact h2.miss lawStr (t := 23) (e := 58) (by kernel_rfl) (by kernel_rfl) (keyStr hn) (h3.miss hf) true

set_option maxRecDepth 100000 in
set_option maxHeartbeats 400000 in
theorem ref24_any (r : Ref) (w : World) (hr : RefOk r) : Calls Tryz.prog 39 #[refV r] w fun e w' => e = .returned (.bool (vRef r)) ∧ Below w.heap.size w w' := by
  obtain ⟨n, g, s⟩ := r
  obtain ⟨h1, h2, h3⟩ := hr
  unfold maxLen at h1
  simp only [refV, vRef] at *
  go_enter Tryz.func39, Tryz.ntmps39
  go_wp2_with fail
  all_goals (go_ret; refine ⟨ret_bool ?_, (Below.refl _ _).alloc (Nat.le_refl _) _⟩; rw [Bool.eq_iff_iff]; simp; omega)
theorem ref24_is (r : Ref) (b : Bool) (w : World) (hr : RefOk r) (h : vRef r = b) : Calls Tryz.prog 39 #[refV r] w fun e w' => e = .returned (.bool b) ∧ Below w.heap.size w w' := by rw [← h]; exact ref24_any r w hr
set_option maxRecDepth 100000 in
set_option maxHeartbeats 1000000 in
theorem get24_any (S : Nat → Prop) (cv : Value) (cs : List (ByteArray × List UInt8)) (r : Ref) (w : World) (hc : ContAt S w cv cs) (hr : RefOk r) : Calls Tryz.prog 55 #[refV r, cv] w (ChunkRes cs r S w) := by
  have hnm := hr.nm
  have HC := Lib.hid (hc.below ((Below.refl _ _).alloc (Nat.le_refl _) (.cells #[.string r.name, .int .i64 r.gen, .int .i64 r.size] 43)))
  have HB := Lib.hid ((Below.refl w.heap.size w).alloc (Nat.le_refl _) (.cells #[.string r.name, .int .i64 r.gen, .int .i64 r.size] 43))
  unfold refV
  clear hc hr
  cases hf : findC cs r.name with
  | none =>
    have hlk := HC.out.missM hnm hf
    have HF := Lib.hid (show chunkP cs r = .error 10 by unfold chunkP; rw [hf])
    clear hf hnm
    go_enter Tryz.func55, Tryz.ntmps55
    go_wp2_with fail
    go_ret2
    exact ⟨HB.out, by rw [HF.out]; exact ⟨rfl, by decide⟩⟩
  | some bs =>
    obtain ⟨v, hlk, hv⟩ := HC.out.hitM hnm hf
    have HV := Lib.hid hv
    obtain ⟨_, a, cap, rfl, hn, hm, -⟩ := hv
    unfold maxLen at hm
    by_cases hl : (bs.length : Int) = r.size
    · have HF := Lib.hid (show chunkP cs r = .ok bs by unfold chunkP; rw [hf]; simp only [if_pos hl])
      have e1 : ((bs.length : Int) != r.size) = false := by simp [hl]
      clear hf hnm hl
      go_enter Tryz.func55, Tryz.ntmps55
      go_wp2_with fail
      go_ret2
      exact ⟨HB.out, by rw [HF.out]; exact ⟨_, rfl, HV.out⟩⟩
    · have HF := Lib.hid (show chunkP cs r = .error 9 by unfold chunkP; rw [hf]; simp only [if_neg hl])
      have e1 : ((bs.length : Int) != r.size) = true := by simp [hl]
      clear hf hnm hl
      go_enter Tryz.func55, Tryz.ntmps55
      go_wp2_with fail
      go_ret2
      exact ⟨HB.out, by rw [HF.out]; exact ⟨rfl, by decide⟩⟩

end Go.Proofs.YtndgmcggckpgfaaGreatDoor
