/- Contracts of package pathname's scanner: take, skip, element. -/
import Derived.Test.YtlipekkiaiaplaaDoorPathC
import Derived.Test.YtlipekkiaiaplaaDoorGlob
namespace Go.Proofs.YtlipekkiaiaplaaDoor
open Go.RowKit

theorem grownBy.refl (w : World) (r : Option Nat) : w.grownBy w r := ⟨rfl, rfl, rfl, Nat.le_refl _, fun _ _ _ => rfl⟩
theorem grownBy.trans {a b c : World} {r : Option Nat} (h : a.grownBy b r) (k : b.grownBy c r) : a.grownBy c r :=
  ⟨k.os.trans h.os, k.tape.trans h.tape, k.output.trans h.output, Nat.le_trans h.size k.size, fun i hi hr => (k.block i (Nat.lt_of_lt_of_le hi h.size) hr).trans (h.block i hi hr)⟩
theorem grownBy.setCell (w : World) (a : Addr) (u : Value) : w.grownBy (w.setCell a u) (some a.block) :=
  ⟨rfl, rfl, rfl, by simp [World.setCell], fun k _ hr => Below.heap_setCell _ _ _ _ (fun e => hr (by rw [e]))⟩
theorem grownBy.of_below {w w' : World} {r : Option Nat} (h : Below w.heap.size w w') : w.grownBy w' r := ⟨h.os, h.tape, h.output, h.size, fun k hk _ => h.block k hk⟩
theorem grownBy.below {B : Nat} {w0 w w' : World} {b : Nat} (hb : Below B w0 w) (h : w.grownBy w' (some b)) (h1 : B ≤ b) (h2 : B ≤ w.heap.size) : Below B w0 w' :=
  hb.grown h h2 (fun k hk => by cases hk; exact h1)

/-- A scanner at block sb with the runes rs left. -/
def ScanAt (w : World) (sb : Nat) (rs : List Int) : Prop :=
  ∃ v, w.heap[sb]? = some (.cells #[v] 93 (0, 0)) ∧ RowAt (· < sb) w 1 v rs.length (rs.map (Value.int .i32))

theorem ScanAt.lt {w : World} {sb : Nat} {rs : List Int} (h : ScanAt w sb rs) : sb < w.heap.size := by
  obtain ⟨v, h1, _⟩ := h
  exact (Array.getElem?_eq_some_iff.1 h1).1
theorem cell_of_heap {w : World} {b j : Nat} {cs : Array Value} {t : TypeId} {fz : Nat × Nat} (h : w.heap[b]? = some (.cells cs t fz)) : w.cell? ⟨b, j, none⟩ = cs[j]? := by simp [World.cell?, h]
theorem frozen_of_heap {w : World} {b j : Nat} {cs : Array Value} {t : TypeId} (h : w.heap[b]? = some (.cells cs t (0, 0))) : w.frozen? ⟨b, j, none⟩ = false := by simp [World.frozen?, h]
/-- What the walk needs of a scanner. -/
theorem ScanAt.open {w : World} {sb : Nat} {rs : List Int} (h : ScanAt w sb rs) :
    ∃ a cap, w.cell? ⟨sb, 0, none⟩ = some (.slice a rs.length cap) ∧ w.frozen? ⟨sb, 0, none⟩ = false ∧ rs.length ≤ cap ∧ cap ≤ maxLen ∧ (∀ r t, rs = r :: t → ∃ b o, a = some ⟨b, o, none⟩ ∧ w.cell? ⟨b, o, none⟩ = some (.int .i32 r) ∧
      ScanAt (w.setCell ⟨sb, 0, none⟩ (.slice (some (if cap = 1 then ⟨b, o, none⟩ else ⟨b, o + 1, none⟩)) t.length (cap - 1))) sb t) := by
  obtain ⟨v, h1, hl, a, cap, rfl, hn, hm, h0⟩ := h
  refine ⟨a, cap, by rw [cell_of_heap h1]; simp, frozen_of_heap h1, hn, hm, ?_⟩
  rintro r t rfl
  rcases h0 with h0 | ⟨b, o, rfl, hb, hc⟩
  · simp at h0
  · refine ⟨b, o, rfl, by have := hc 0 (.int .i32 r) (by simp); simpa using this, ?_⟩
    have hlt : sb < w.heap.size := (Array.getElem?_eq_some_iff.1 h1).1
    refine ⟨.slice (some (if cap = 1 then ⟨b, o, none⟩ else ⟨b, o + 1, none⟩)) t.length (cap - 1), ?_, by simp, _, _, rfl, by simp at hn; omega, by omega, ?_⟩
    · simp only [World.setCell, Array.getElem?_modify, if_true, h1]
      rfl
    · by_cases h1c : cap = 1
      · left; simp at hn; omega
      · right
        refine ⟨b, o + 1, by rw [if_neg h1c], hb, fun j u hj => ?_⟩
        rw [World.cell?_of_block (w := w) (a := ⟨b, o + 1 + j, none⟩) (Below.heap_setCell _ _ _ _ (by simp; omega))]
        have := hc (j + 1) u (by simpa using hj)
        rw [show o + 1 + j = o + (j + 1) by omega]; exact this
/-- A scanner stays while other blocks grow. -/
theorem ScanAt.grown {w w' : World} {sb : Nat} {rs : List Int} (h : ScanAt w sb rs) (hb : Below w.heap.size w w') : ScanAt w' sb rs := by
  have hlt := h.lt
  obtain ⟨v, h1, h2⟩ := h
  exact ⟨v, by rw [hb.block sb hlt]; exact h1, h2.below (by omega) hb⟩

/-- What a method of the scanner leaves. -/
def ScanRes (sb : Nat) (v : Value) (rs : List Int) (w : World) (e : Ending) (w' : World) : Prop := e = .returned v ∧ ScanAt w' sb rs ∧ w.grownBy w' (some sb)

set_option maxHeartbeats 400000 in
theorem take_nil (sb : Nat) (w : World) (h : ScanAt w sb []) : Calls Tryd.prog 100 #[.pointer (some ⟨sb, 0, none⟩)] w (ScanRes sb (.tuple #[.int .i32 0, .bool false]) [] w) := by
  obtain ⟨a, cap, hc, _, _, _, _⟩ := h.open
  have H := Lib.hid h
  clear h
  simp only [List.length_nil] at hc
  go_enter Tryd.func100, Tryd.ntmps100
  go_wp2
  go_ret2
  exact ⟨rfl, H.out, grownBy.refl _ _⟩
set_option maxHeartbeats 400000 in
theorem take_cons (sb : Nat) (r : Int) (t : List Int) (w : World) (h : ScanAt w sb (r :: t)) : Calls Tryd.prog 100 #[.pointer (some ⟨sb, 0, none⟩)] w (ScanRes sb (.tuple #[.int .i32 r, .bool true]) t w) := by
  obtain ⟨a, cap, hc, hf, hn, hm, hx⟩ := h.open
  obtain ⟨b, o, rfl, hr, hs⟩ := hx r t rfl
  have HS := Lib.hid hs
  clear h hx hs
  unfold maxLen at hm
  simp only [List.length_cons] at hc hn
  obtain ⟨n, hnn⟩ : ∃ n, n = t.length := ⟨_, rfl⟩
  rw [← hnn] at hc hn
  have HN := Lib.hid hnn
  clear hnn
  by_cases h1 : cap = 1
  · subst h1
    obtain rfl : n = 0 := by omega
    go_enter Tryd.func100, Tryd.ntmps100
    go_wp2
    go_ret2
    refine ⟨rfl, ?_, grownBy.setCell _ _ _⟩
    have := HS.out
    simp only [if_true, ← HN.out] at this
    exact this
  · have h2 : (cap == 1) = false := by simpa using h1
    go_enter Tryd.func100, Tryd.ntmps100
    go_wp2
    go_ret2
    refine ⟨rfl, ?_, grownBy.setCell _ _ _⟩
    have := HS.out
    rw [if_neg h1, ← HN.out] at this
    exact this


set_option maxHeartbeats 400000 in
theorem skip_no (sb : Nat) (rs : List Int) (c : Int) (w : World) (h : ScanAt w sb rs) (hne : rs.head? ≠ some c) : Calls Tryd.prog 111 #[.pointer (some ⟨sb, 0, none⟩), .int .i32 c] w (ScanRes sb (.bool false) rs w) := by
  obtain ⟨a, cap, hc, hf, hn, hm, hx⟩ := h.open
  have H := Lib.hid h
  clear h
  cases rs with
  | nil =>
    clear hx hne
    simp only [List.length_nil] at hc
    go_enter Tryd.func111, Tryd.ntmps111
    go_wp2
    go_ret
    exact ⟨rfl, H.out, grownBy.refl _ _⟩
  | cons r t =>
    obtain ⟨b, o, rfl, hr, -⟩ := hx r t rfl
    clear hx
    have h1 : (r != c) = true := by rw [bne_iff_ne]; intro e; exact hne (by rw [e]; rfl)
    simp only [List.length_cons] at hc hn
    obtain ⟨n, hnn⟩ : ∃ n, n = t.length := ⟨_, rfl⟩
    rw [← hnn] at hc hn
    clear hnn hne
    unfold maxLen at hm
    go_enter Tryd.func111, Tryd.ntmps111
    go_wp2
    go_ret
    exact ⟨rfl, H.out, grownBy.refl _ _⟩
set_option maxHeartbeats 400000 in
theorem skip_yes (sb : Nat) (t : List Int) (c : Int) (w : World) (h : ScanAt w sb (c :: t)) : Calls Tryd.prog 111 #[.pointer (some ⟨sb, 0, none⟩), .int .i32 c] w (ScanRes sb (.bool true) t w) := by
  obtain ⟨a, cap, hc, hf, hn, hm, hx⟩ := h.open
  obtain ⟨b, o, rfl, hr, hs⟩ := hx c t rfl
  have HS := Lib.hid hs
  clear h hx hs
  unfold maxLen at hm
  simp only [List.length_cons] at hc hn
  obtain ⟨n, hnn⟩ : ∃ n, n = t.length := ⟨_, rfl⟩
  rw [← hnn] at hc hn
  have HN := Lib.hid hnn
  clear hnn
  by_cases h1 : cap = 1
  · subst h1
    obtain rfl : n = 0 := by omega
    go_enter Tryd.func111, Tryd.ntmps111
    go_wp2
    go_ret
    refine ⟨rfl, ?_, grownBy.setCell _ _ _⟩
    have := HS.out
    simp only [if_true, ← HN.out] at this
    exact this
  · have h2 : (cap == 1) = false := by simpa using h1
    go_enter Tryd.func111, Tryd.ntmps111
    go_wp2
    go_ret
    refine ⟨rfl, ?_, grownBy.setCell _ _ _⟩
    have := HS.out
    rw [if_neg h1, ← HN.out] at this
    exact this

set_option maxHeartbeats 400000 in
theorem element_ok (sb : Nat) (rs : List Int) (r : Int) (t : List Int) (w : World) (h : ScanAt w sb rs) (he : elemS rs = some (r, t)) : Calls Tryd.prog 112 #[.pointer (some ⟨sb, 0, none⟩)] w (ScanRes sb (.tuple #[.int .i32 r, .bool true]) t w) := by
  cases rs with
  | nil => simp [elemS] at he
  | cons c l =>
    have H := Lib.hid h
    clear h
    rw [elemS] at he
    by_cases h92 : c = 92
    · rw [if_pos h92] at he
      subst h92
      cases l with
      | nil => simp [headS] at he
      | cons q u =>
        simp only [headS, Option.some.injEq, Prod.mk.injEq] at he
        obtain ⟨rfl, rfl⟩ := he
        go_enter Tryd.func112, Tryd.ntmps112
        go_wp2_with fail
        refine (take_cons sb 92 _ w H.out).mono ?_
        rintro e w1 ⟨rfl, h1, hg1⟩
        have H1 := Lib.hid h1
        have G1 := Lib.hid hg1
        clear h1 hg1
        go_wp2_with fail
        refine (take_cons sb q u w1 H1.out).mono ?_
        rintro e w2 ⟨rfl, h2, hg2⟩
        have H2 := Lib.hid h2
        have G2 := Lib.hid hg2
        clear h2 hg2
        go_wp2_with fail
        go_ret2
        exact ⟨rfl, H2.out, grownBy.trans G1.out G2.out⟩
    · rw [if_neg h92] at he
      split at he
      · simp at he
      · rename_i hno
        simp only [Option.some.injEq, Prod.mk.injEq] at he
        obtain ⟨rfl, rfl⟩ := he
        have e1 : (c == 92) = false := by simpa using h92
        have e2 : (c == 93) = false := by simp; omega
        have e3 : (c == 94) = false := by simp; omega
        have e4 : (c == 45) = false := by simp; omega
        clear hno h92
        go_enter Tryd.func112, Tryd.ntmps112
        go_wp2_with fail
        refine (take_cons sb c _ w H.out).mono ?_
        rintro e w1 ⟨rfl, h1, hg1⟩
        have H1 := Lib.hid h1
        have G1 := Lib.hid hg1
        clear h1 hg1
        go_wp2_with fail
        go_ret2
        exact ⟨rfl, H1.out, G1.out⟩
set_option maxHeartbeats 400000 in
theorem element_bad (sb : Nat) (rs : List Int) (w : World) (h : ScanAt w sb rs) (he : elemS rs = none) : Calls Tryd.prog 112 #[.pointer (some ⟨sb, 0, none⟩)] w (fun e w' => ∃ rs', ScanRes sb (.tuple #[.int .i32 0, .bool false]) rs' w e w') := by
  have H := Lib.hid h
  clear h
  cases rs with
  | nil =>
    go_enter Tryd.func112, Tryd.ntmps112
    go_wp2_with fail
    refine (take_nil sb w H.out).mono ?_
    rintro e w1 ⟨rfl, h1, hg1⟩
    have H1 := Lib.hid h1
    have G1 := Lib.hid hg1
    clear h1 hg1
    go_wp2_with fail
    go_ret2
    exact ⟨_, rfl, H1.out, G1.out⟩
  | cons c l =>
    rw [elemS] at he
    by_cases h92 : c = 92
    · rw [if_pos h92] at he
      subst h92
      cases l with
      | nil =>
        clear he
        go_enter Tryd.func112, Tryd.ntmps112
        go_wp2_with fail
        refine (take_cons sb 92 _ w H.out).mono ?_
        rintro e w1 ⟨rfl, h1, hg1⟩
        have H1 := Lib.hid h1
        have G1 := Lib.hid hg1
        clear h1 hg1
        go_wp2_with fail
        refine (take_nil sb w1 H1.out).mono ?_
        rintro e w2 ⟨rfl, h2, hg2⟩
        have H2 := Lib.hid h2
        have G2 := Lib.hid hg2
        clear h2 hg2
        go_wp2_with fail
        go_ret2
        exact ⟨_, rfl, H2.out, grownBy.trans G1.out G2.out⟩
      | cons q u => simp [headS] at he
    · rw [if_neg h92] at he
      split at he
      · rename_i hyes
        have e1 : (c == 92) = false := by simpa using h92
        clear he h92
        rcases hyes with rfl | rfl | rfl
        all_goals
          go_enter Tryd.func112, Tryd.ntmps112
          go_wp2_with fail
          refine (take_cons sb _ _ w H.out).mono ?_
          rintro e w1 ⟨rfl, h1, hg1⟩
          have H1 := Lib.hid h1
          have G1 := Lib.hid hg1
          clear h1 hg1
          go_wp2_with fail
          go_ret2
          exact ⟨_, rfl, H1.out, G1.out⟩
      · simp at he

theorem skip_any (sb : Nat) (rs : List Int) (c : Int) (w : World) (h : ScanAt w sb rs) : Calls Tryd.prog 111 #[.pointer (some ⟨sb, 0, none⟩), .int .i32 c] w (fun e w' => ∃ b rs', b = decide (rs.head? = some c) ∧ rs' = (if b then rs.tail else rs) ∧ ScanRes sb (.bool b) rs' w e w') := by
  by_cases hc : rs.head? = some c
  · cases rs with
    | nil => simp at hc
    | cons r t =>
      simp at hc; subst hc
      exact (skip_yes sb t r w h).mono fun e w' hr => ⟨true, t, by simp, by simp, hr⟩
  · exact (skip_no sb rs c w h hc).mono fun e w' hr => ⟨false, rs, by simp [hc], by simp, hr⟩
/-- How many runes a scanner has left. -/
def scanLen (sb : Nat) (w : World) : Nat := match w.cell? ⟨sb, 0, none⟩ with | some (.slice _ n _) => n | _ => 0
theorem ScanAt.len {w : World} {sb : Nat} {rs : List Int} (h : ScanAt w sb rs) : scanLen sb w = rs.length := by
  obtain ⟨a, cap, hc, _⟩ := h.open
  simp [scanLen, hc]

end Go.Proofs.YtlipekkiaiaplaaDoor
