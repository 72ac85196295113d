/- Contracts of the specification of chapter 18: all, Match. -/
import Derived.Test.YtlipekkiaiaplaaDoorRefH
import Derived.Test.YtlipekkiaiaplaaDoorDivD
import Derived.Test.YtlipekkiaiaplaaDoorHeld
import Derived.Deep.RegionHeld3
namespace Go.Proofs.YtlipekkiaiaplaaDoor
open Go.RowKit

def StrC (c : List Value) (x : ByteArray) : Prop := c = [.string x]
theorem StrC.len (c : List Value) (x : ByteArray) (h : StrC c x) : c.length = 1 := by rw [h]; rfl
theorem rows_strs : ∀ xs : List ByteArray, RowsIn StrC (xs.map Value.string) xs
  | [] => rfl
  | x :: xs => ⟨[.string x], xs.map Value.string, rfl, rfl, rows_strs xs⟩
theorem strs_rows : ∀ {xs : List ByteArray} {cells : List Value}, RowsIn StrC cells xs → cells = xs.map Value.string
  | [], _, h => h
  | x :: xs, _, h => by obtain ⟨c, rest, rfl, rfl, h2⟩ := h; rw [strs_rows h2]; rfl
theorem strs_seq {S : Nat → Prop} {w : World} {v : Value} {xs : List ByteArray} (h : StrsAt S w v xs) : SeqAt S w 1 StrC v xs := ⟨_, h, rows_strs xs⟩
theorem seq_strs {S : Nat → Prop} {w : World} {v : Value} {xs : List ByteArray} (h : SeqAt S w 1 StrC v xs) : StrsAt S w v xs := by
  obtain ⟨cells, h1, h2⟩ := h
  rw [strs_rows h2] at h1; exact h1
def SmallS (xs : List ByteArray) : Prop := ∀ x ∈ xs, x.size ≤ 65536
/-- all's contract at a size. -/
def AllC (N : Nat) : Prop := ∀ (ps xs : List ByteArray) (S : Nat → Prop) (pv tv : Value) (w : World), ps.length + xs.length ≤ N → StrsAt S w pv ps → StrsAt S w tv xs → SmallS ps → SmallS xs →
  Calls Tryd.prog 48 #[pv, tv] w fun e w' => e = .returned (.bool (allR (ps.map bl) (xs.map bl))) ∧ Below w.heap.size w w'
theorem AllC.at {N : Nat} (h : AllC N) (ps xs : List ByteArray) (S : Nat → Prop) (pv tv : Value) (w : World) (hN : ps.length + xs.length ≤ N) (hp : StrsAt S w pv ps) (ht : StrsAt S w tv xs) (h1 : SmallS ps) (h2 : SmallS xs) :
    Calls Tryd.prog 48 #[pv, tv] w fun e w' => e = .returned (.bool (allR (ps.map bl) (xs.map bl))) ∧ Below w.heap.size w w' := h ps xs S pv tv w hN hp ht h1 h2
theorem small_nil : SmallS [] := fun _ h => by simp at h
theorem SmallS.tail {x : ByteArray} {xs : List ByteArray} (h : SmallS (x :: xs)) : SmallS xs := fun y hy => h y (by simp [hy])
theorem StrsAt.below' {S : Nat → Prop} {w w' : World} {v : Value} {xs : List ByteArray} (h : StrsAt S w v xs) (hb : Below w.heap.size w w') : StrsAt S w' v xs := RowAt.below h (by omega) hb

set_option maxHeartbeats 400000 in
theorem r_all_nil (xs : List ByteArray) (S : Nat → Prop) (pv tv : Value) (w : World) (hp : StrsAt S w pv []) (ht : StrsAt S w tv xs) :
    Calls Tryd.prog 48 #[pv, tv] w fun e w' => e = .returned (.bool (allR [] (xs.map bl))) ∧ Below w.heap.size w w' := by
  obtain ⟨pa, pc, rfl, -, -, -⟩ := hp.shape
  obtain ⟨ta, tc, rfl, -, -, -⟩ := ht.shape
  clear hp ht
  simp only [List.length_nil]
  go_enter Tryd.func48, Tryd.ntmps48
  go_wp2_with fail
  go_ret
  refine ⟨ret_bool ?_, Below.refl _ _⟩
  rw [Bool.eq_iff_iff]
  simp [allR, dv]
theorem all_st1 {p x : List UInt8} {ps xs : List (List UInt8)} (h : isDbl p = true) : allR (p :: ps) (x :: xs) = (allR ps (x :: xs) || allR (p :: ps) xs) := dv_st1 h
theorem all_st0 {p : List UInt8} {ps : List (List UInt8)} (h : isDbl p = true) : allR (p :: ps) [] = allR ps [] := dv_st0 h
theorem all_no1 {p x : List UInt8} {ps xs : List (List UInt8)} (h : isDbl p = false) : allR (p :: ps) (x :: xs) = (partM p x && allR ps xs) := dv_no1 h
theorem all_no0 {p : List UInt8} {ps : List (List UInt8)} (h : isDbl p = false) : allR (p :: ps) [] = false := dv_no0 h

set_option maxRecDepth 100000 in
set_option maxHeartbeats 4000000 in
theorem r_all_star (N : Nat) (IH : AllC (N - 1)) (p : ByteArray) (ps xs : List ByteArray) (S : Nat → Prop) (pv tv : Value) (w : World) (hN : (p :: ps).length + xs.length ≤ N) (hp : StrsAt S w pv (p :: ps)) (ht : StrsAt S w tv xs) (h1 : SmallS (p :: ps)) (h2 : SmallS xs) (hst : isDbl (bl p) = true) :
    Calls Tryd.prog 48 #[pv, tv] w fun e w' => e = .returned (.bool (allR ((p :: ps).map bl) (xs.map bl))) ∧ Below w.heap.size w w' := by
  have HIH := Lib.hid IH
  have HSP := Lib.hid h1
  have HSX := Lib.hid h2
  have HS := Lib.hid hst
  have e42 : (p.toList == [42, 42]) = true := by rw [toList_bl]; simpa [isDbl] using hst
  obtain ⟨b, o, pc, c, rfl, hpc1, hpc2, hc0, hcj⟩ := seq_head StrC.len (strs_seq hp)
  have c0 := hcj 0 (by omega)
  rw [show c = [.string p] from hc0] at c0
  simp only [Nat.add_zero, List.getElem?_cons_zero] at c0
  have HP := Lib.hid (show StrsAt S w (.slice (some ⟨b, o, none⟩) (ps.length + 1) pc) (p :: ps) from hp)
  clear IH h1 h2 hst hcj hc0
  unfold maxLen at hpc2
  simp only [List.length_cons] at hN
  cases xs with
  | nil =>
    obtain ⟨ta, tc, rfl, -, -, -⟩ := ht.shape
    have HTN := Lib.hid (show StrsAt S w (.slice ta 0 tc) [] from ht)
    clear hp ht
    simp only [List.length_nil] at hN ⊢
    by_cases hp1 : pc = 1
    · subst hp1
      obtain ⟨hnil, hti⟩ := seq_tail1 (strs_seq HP.out)
      have HTI := Lib.hid (show StrsAt S w (.slice (some ⟨b, o, none⟩) 0 0) ps by rw [hnil]; exact seq_strs hti)
      have hl0 : ps.length = 0 := by rw [hnil]; rfl
      clear hti hnil
      rw [hl0] at hpc1 HP ⊢
      clear hl0
      go_enter Tryd.func48, Tryd.ntmps48
      go_wp2_with fail
      (with_reducible refine (AllC.at HIH.out ps [] S (.slice (some ⟨b, o, none⟩) 0 0) (.slice ta 0 tc) w (by simp only [List.length_nil] at hN ⊢; omega) HTI.out HTN.out HSP.out.tail small_nil).mono ?_)
      rintro e w1 ⟨rfl, hb1⟩
      have HB1 := Lib.hid hb1
      clear hb1
      cases hd : allR (ps.map bl) (([] : List ByteArray).map bl)
      all_goals (
        have HD := Lib.hid hd
        clear hd
        go_wp2_with fail
        go_ret
        refine ⟨ret_bool ?_, HB1.out⟩
        have h1 := HD.out
        simp only [List.map_cons, List.map_nil] at h1 ⊢
        rw [all_st0 HS.out, h1])
    · have HTI := Lib.hid (seq_strs (seq_tail2 StrC.len (strs_seq HP.out)))
      have hp1' : (pc == 1) = false := by simpa using hp1
      go_enter Tryd.func48, Tryd.ntmps48
      go_wp2_with fail
      (with_reducible refine (AllC.at HIH.out ps [] S (.slice (some ⟨b, o + 1, none⟩) ps.length (pc - 1)) (.slice ta 0 tc) w (by simp only [List.length_nil] at hN ⊢; omega) HTI.out HTN.out HSP.out.tail small_nil).mono ?_)
      rintro e w1 ⟨rfl, hb1⟩
      have HB1 := Lib.hid hb1
      clear hb1
      cases hd : allR (ps.map bl) (([] : List ByteArray).map bl)
      all_goals (
        have HD := Lib.hid hd
        clear hd
        go_wp2_with fail
        go_ret
        refine ⟨ret_bool ?_, HB1.out⟩
        have h1 := HD.out
        simp only [List.map_cons, List.map_nil] at h1 ⊢
        rw [all_st0 HS.out, h1])
  | cons x xs =>
    obtain ⟨tb, tq, tc, c', rfl, htc1, htc2, hc', hdj⟩ := seq_head StrC.len (strs_seq ht)
    have HTC := Lib.hid (show StrsAt S w (.slice (some ⟨tb, tq, none⟩) (xs.length + 1) tc) (x :: xs) from ht)
    clear hp ht hdj hc'
    unfold maxLen at htc2
    simp only [List.length_cons] at hN
    have e0 : (0 : Int) < (xs.length : Int) + 1 := by omega
    have HT := HTC
    by_cases hp1 : pc = 1
    · subst hp1
      obtain ⟨hnil, hti⟩ := seq_tail1 (strs_seq HP.out)
      have HTI := Lib.hid (show StrsAt S w (.slice (some ⟨b, o, none⟩) 0 0) ps by rw [hnil]; exact seq_strs hti)
      have hl0 : ps.length = 0 := by rw [hnil]; rfl
      clear hti hnil
      rw [hl0] at hpc1 HP ⊢
      clear hl0
      by_cases ht1 : tc = 1
      · subst ht1
        obtain ⟨hnil, htt⟩ := seq_tail1 (strs_seq HT.out)
        have HTT := Lib.hid (show StrsAt S w (.slice (some ⟨tb, tq, none⟩) 0 0) xs by rw [hnil]; exact seq_strs htt)
        have hl1 : xs.length = 0 := by rw [hnil]; rfl
        clear htt hnil
        rw [hl1] at HTC htc1 HT ⊢
        clear hl1 e0
        go_enter Tryd.func48, Tryd.ntmps48
        go_wp2_with fail
        (with_reducible refine (AllC.at HIH.out ps (x :: xs) S (.slice (some ⟨b, o, none⟩) 0 0) _ w (by simp only [List.length_cons] at hN ⊢; omega) HTI.out HTC.out HSP.out.tail HSX.out).mono ?_)
        rintro e w1 ⟨rfl, hb1⟩
        have HB1 := Lib.hid hb1
        cases hd : allR (ps.map bl) ((x :: xs).map bl)
        · have HD := Lib.hid hd
          have HP1 := Lib.hid (HP.out.below' hb1)
          have HT1 := Lib.hid (show StrsAt S w1 (.slice (some ⟨tb, tq, none⟩) 0 0) xs from HTT.out.below' hb1)
          clear hd hb1
          go_wp2_with fail
          (with_reducible refine (AllC.at HIH.out (p :: ps) xs S _ (.slice (some ⟨tb, tq, none⟩) 0 0) w1 (by simp only [List.length_cons] at hN ⊢; omega) HP1.out HT1.out HSP.out HSX.out.tail).mono ?_)
          rintro e w2 ⟨rfl, hb2⟩
          have HB2 := Lib.hid hb2
          clear hb2
          cases hd2 : allR ((p :: ps).map bl) (xs.map bl)
          all_goals (
            have HD2 := Lib.hid hd2
            clear hd2
            go_wp2_with fail
            go_ret
            refine ⟨ret_bool ?_, below_next HB1.out HB2.out⟩
            have h1 := HD.out
            have h2 := HD2.out
            simp only [List.map_cons] at h1 h2 ⊢
            rw [all_st1 HS.out, h1, h2]; rfl)
        · have HD := Lib.hid hd
          clear hd hb1
          go_wp2_with fail
          go_ret
          refine ⟨ret_bool ?_, HB1.out⟩
          have h1 := HD.out
          simp only [List.map_cons] at h1 ⊢
          rw [all_st1 HS.out, h1]; rfl
      · have HTT := Lib.hid (seq_strs (seq_tail2 StrC.len (strs_seq HT.out)))
        have ht1' : (tc == 1) = false := by simpa using ht1
        go_enter Tryd.func48, Tryd.ntmps48
        go_wp2_with fail
        (with_reducible refine (AllC.at HIH.out ps (x :: xs) S (.slice (some ⟨b, o, none⟩) 0 0) _ w (by simp only [List.length_cons] at hN ⊢; omega) HTI.out HTC.out HSP.out.tail HSX.out).mono ?_)
        rintro e w1 ⟨rfl, hb1⟩
        have HB1 := Lib.hid hb1
        cases hd : allR (ps.map bl) ((x :: xs).map bl)
        · have HD := Lib.hid hd
          have HP1 := Lib.hid (HP.out.below' hb1)
          have HT1 := Lib.hid (show StrsAt S w1 (.slice (some ⟨tb, tq + 1, none⟩) xs.length (tc - 1)) xs from HTT.out.below' hb1)
          clear hd hb1
          go_wp2_with fail
          (with_reducible refine (AllC.at HIH.out (p :: ps) xs S _ (.slice (some ⟨tb, tq + 1, none⟩) xs.length (tc - 1)) w1 (by simp only [List.length_cons] at hN ⊢; omega) HP1.out HT1.out HSP.out HSX.out.tail).mono ?_)
          rintro e w2 ⟨rfl, hb2⟩
          have HB2 := Lib.hid hb2
          clear hb2
          cases hd2 : allR ((p :: ps).map bl) (xs.map bl)
          all_goals (
            have HD2 := Lib.hid hd2
            clear hd2
            go_wp2_with fail
            go_ret
            refine ⟨ret_bool ?_, below_next HB1.out HB2.out⟩
            have h1 := HD.out
            have h2 := HD2.out
            simp only [List.map_cons] at h1 h2 ⊢
            rw [all_st1 HS.out, h1, h2]; rfl)
        · have HD := Lib.hid hd
          clear hd hb1
          go_wp2_with fail
          go_ret
          refine ⟨ret_bool ?_, HB1.out⟩
          have h1 := HD.out
          simp only [List.map_cons] at h1 ⊢
          rw [all_st1 HS.out, h1]; rfl
    · have HTI := Lib.hid (seq_strs (seq_tail2 StrC.len (strs_seq HP.out)))
      have hp1' : (pc == 1) = false := by simpa using hp1
      by_cases ht1 : tc = 1
      · subst ht1
        obtain ⟨hnil, htt⟩ := seq_tail1 (strs_seq HT.out)
        have HTT := Lib.hid (show StrsAt S w (.slice (some ⟨tb, tq, none⟩) 0 0) xs by rw [hnil]; exact seq_strs htt)
        have hl1 : xs.length = 0 := by rw [hnil]; rfl
        clear htt hnil
        rw [hl1] at HTC htc1 HT ⊢
        clear hl1 e0
        go_enter Tryd.func48, Tryd.ntmps48
        go_wp2_with fail
        (with_reducible refine (AllC.at HIH.out ps (x :: xs) S (.slice (some ⟨b, o + 1, none⟩) ps.length (pc - 1)) _ w (by simp only [List.length_cons] at hN ⊢; omega) HTI.out HTC.out HSP.out.tail HSX.out).mono ?_)
        rintro e w1 ⟨rfl, hb1⟩
        have HB1 := Lib.hid hb1
        cases hd : allR (ps.map bl) ((x :: xs).map bl)
        · have HD := Lib.hid hd
          have HP1 := Lib.hid (HP.out.below' hb1)
          have HT1 := Lib.hid (show StrsAt S w1 (.slice (some ⟨tb, tq, none⟩) 0 0) xs from HTT.out.below' hb1)
          clear hd hb1
          go_wp2_with fail
          (with_reducible refine (AllC.at HIH.out (p :: ps) xs S _ (.slice (some ⟨tb, tq, none⟩) 0 0) w1 (by simp only [List.length_cons] at hN ⊢; omega) HP1.out HT1.out HSP.out HSX.out.tail).mono ?_)
          rintro e w2 ⟨rfl, hb2⟩
          have HB2 := Lib.hid hb2
          clear hb2
          cases hd2 : allR ((p :: ps).map bl) (xs.map bl)
          all_goals (
            have HD2 := Lib.hid hd2
            clear hd2
            go_wp2_with fail
            go_ret
            refine ⟨ret_bool ?_, below_next HB1.out HB2.out⟩
            have h1 := HD.out
            have h2 := HD2.out
            simp only [List.map_cons] at h1 h2 ⊢
            rw [all_st1 HS.out, h1, h2]; rfl)
        · have HD := Lib.hid hd
          clear hd hb1
          go_wp2_with fail
          go_ret
          refine ⟨ret_bool ?_, HB1.out⟩
          have h1 := HD.out
          simp only [List.map_cons] at h1 ⊢
          rw [all_st1 HS.out, h1]; rfl
      · have HTT := Lib.hid (seq_strs (seq_tail2 StrC.len (strs_seq HT.out)))
        have ht1' : (tc == 1) = false := by simpa using ht1
        go_enter Tryd.func48, Tryd.ntmps48
        go_wp2_with fail
        (with_reducible refine (AllC.at HIH.out ps (x :: xs) S (.slice (some ⟨b, o + 1, none⟩) ps.length (pc - 1)) _ w (by simp only [List.length_cons] at hN ⊢; omega) HTI.out HTC.out HSP.out.tail HSX.out).mono ?_)
        rintro e w1 ⟨rfl, hb1⟩
        have HB1 := Lib.hid hb1
        cases hd : allR (ps.map bl) ((x :: xs).map bl)
        · have HD := Lib.hid hd
          have HP1 := Lib.hid (HP.out.below' hb1)
          have HT1 := Lib.hid (show StrsAt S w1 (.slice (some ⟨tb, tq + 1, none⟩) xs.length (tc - 1)) xs from HTT.out.below' hb1)
          clear hd hb1
          go_wp2_with fail
          (with_reducible refine (AllC.at HIH.out (p :: ps) xs S _ (.slice (some ⟨tb, tq + 1, none⟩) xs.length (tc - 1)) w1 (by simp only [List.length_cons] at hN ⊢; omega) HP1.out HT1.out HSP.out HSX.out.tail).mono ?_)
          rintro e w2 ⟨rfl, hb2⟩
          have HB2 := Lib.hid hb2
          clear hb2
          cases hd2 : allR ((p :: ps).map bl) (xs.map bl)
          all_goals (
            have HD2 := Lib.hid hd2
            clear hd2
            go_wp2_with fail
            go_ret
            refine ⟨ret_bool ?_, below_next HB1.out HB2.out⟩
            have h1 := HD.out
            have h2 := HD2.out
            simp only [List.map_cons] at h1 h2 ⊢
            rw [all_st1 HS.out, h1, h2]; rfl)
        · have HD := Lib.hid hd
          clear hd hb1
          go_wp2_with fail
          go_ret
          refine ⟨ret_bool ?_, HB1.out⟩
          have h1 := HD.out
          simp only [List.map_cons] at h1 ⊢
          rw [all_st1 HS.out, h1]; rfl

/-- Items' result, whatever it is: the items as the specification takes them. -/
theorem r_items_all (p : ByteArray) (w : World) (hs : p.size ≤ 65536) : Calls Tryd.prog 46 #[.string p] w fun e w' => ∃ a n cap ok, e = .returned (.tuple #[.slice a n cap, .bool ok]) ∧ n = (itemsR (bl p)).length ∧ RItemsAt (w.heap.size ≤ ·) w' (.slice a n cap) (itemsR (bl p)) ∧ Below w.heap.size w w' := by
  refine (r_items_any p w hs).mono ?_
  intro e w'
  unfold itemsR
  cases itemsL (runesL (bl p)) with
  | none => rintro ⟨rfl, hb⟩; exact ⟨_, _, _, _, rfl, rfl, SeqAt.nil, hb⟩
  | some its =>
    rintro ⟨v, rfl, hv, hb⟩
    obtain ⟨a, cap, rfl, -, -, -⟩ := SeqAt.shape hv RItemR.len
    exact ⟨a, its.length, cap, _, rfl, rfl, hv, hb⟩
def ItAll (p : ByteArray) (w : World) (e : Ending) (w' : World) : Prop := ∃ a n cap ok, e = .returned (.tuple #[.slice a n cap, .bool ok]) ∧ n = (itemsR (bl p)).length ∧ RItemsAt (w.heap.size ≤ ·) w' (.slice a n cap) (itemsR (bl p)) ∧ Below w.heap.size w w'
theorem r_items_at (p : ByteArray) (w : World) (hs : p.size ≤ 65536) : Calls Tryd.prog 46 #[.string p] w (ItAll p w) := r_items_all p w hs

theorem r_part_at (p x : ByteArray) (ia : Option Addr) (il ic : Nat) (tv : Value) (S : Nat → Prop) (m : Bool) (w : World) (h : partM (bl p) (bl x) = m) (hi : RItemsAt S w (.slice ia il ic) (itemsR (bl p))) (ht : RunesAt S w tv (runesL (bl x))) :
    Calls Tryd.prog 72 #[.slice ia il ic, tv] w fun e w' => e = .returned (.bool m) ∧ Below w.heap.size w w' := by
  rw [← h]; exact MatC.at (r_matches_any _) (itemsR (bl p)) (runesL (bl x)) S _ tv w (Nat.le_refl _) hi ht
set_option maxRecDepth 100000 in
set_option maxHeartbeats 4000000 in
theorem r_all_set (N : Nat) (IH : AllC (N - 1)) (p : ByteArray) (ps xs : List ByteArray) (S : Nat → Prop) (pv tv : Value) (w : World) (hN : (p :: ps).length + xs.length ≤ N) (hp : StrsAt S w pv (p :: ps)) (ht : StrsAt S w tv xs) (h1 : SmallS (p :: ps)) (h2 : SmallS xs) (hst : isDbl (bl p) = false) :
    Calls Tryd.prog 48 #[pv, tv] w fun e w' => e = .returned (.bool (allR ((p :: ps).map bl) (xs.map bl))) ∧ Below w.heap.size w w' := by
  have HIH := Lib.hid IH
  have HSP := Lib.hid h1
  have HSX := Lib.hid h2
  have HS := Lib.hid hst
  have e42 : (p.toList == [42, 42]) = false := by rw [toList_bl]; simpa [isDbl] using hst
  obtain ⟨b, o, pc, c, rfl, hpc1, hpc2, hc0, hcj⟩ := seq_head StrC.len (strs_seq hp)
  have c0 := hcj 0 (by omega)
  rw [show c = [.string p] from hc0] at c0
  simp only [Nat.add_zero, List.getElem?_cons_zero] at c0
  have HP := Lib.hid (show StrsAt S w (.slice (some ⟨b, o, none⟩) (ps.length + 1) pc) (p :: ps) from hp)
  clear IH h1 h2 hst hcj hc0
  unfold maxLen at hpc2
  simp only [List.length_cons] at hN
  cases xs with
  | nil =>
    obtain ⟨ta, tc, rfl, -, -, -⟩ := ht.shape
    clear hp ht
    simp only [List.length_nil] at hN ⊢
    go_enter Tryd.func48, Tryd.ntmps48
    go_wp2_with fail
    refine (r_items_at p w (HSP.out p (by simp))).mono ?_
    rintro e w1 ⟨ia, il, ic, iok, rfl, hil, hit, hb1⟩
    have HB1 := Lib.hid hb1
    clear hil hit hb1
    go_wp2_with fail
    go_quiet (fail)
    go_wp2_with fail
    go_ret
    refine ⟨ret_bool ?_, below_draws HB1.out _⟩
    simp only [List.map_cons, List.map_nil]
    rw [all_no0 HS.out]
  | cons x xs =>
    obtain ⟨tb, tq, tc, c', rfl, htc1, htc2, hc', hdj⟩ := seq_head StrC.len (strs_seq ht)
    have d0 := hdj 0 (by omega)
    rw [show c' = [.string x] from hc'] at d0
    simp only [Nat.add_zero, List.getElem?_cons_zero] at d0
    have HT := Lib.hid (show StrsAt S w (.slice (some ⟨tb, tq, none⟩) (xs.length + 1) tc) (x :: xs) from ht)
    clear hp ht hdj hc'
    unfold maxLen at htc2
    simp only [List.length_cons] at hN
    have e0 : decide ((0 : Int) < (xs.length : Int) + 1) = true := by simp <;> omega
    have g1 : (1 : Int) ≤ (xs.length : Int) + 1 := by omega
    have g2 : (1 : Int) ≤ (ps.length : Int) + 1 := by omega
    by_cases hp1 : pc = 1
    · subst hp1
      obtain ⟨hnil, hti⟩ := seq_tail1 (strs_seq HP.out)
      have HTI := Lib.hid (show StrsAt S w (.slice (some ⟨b, o, none⟩) 0 0) ps by rw [hnil]; exact seq_strs hti)
      have hl0 : ps.length = 0 := by rw [hnil]; rfl
      clear hti hnil
      rw [hl0] at hpc1 HP ⊢
      clear hl0
      by_cases ht1 : tc = 1
      · subst ht1
        obtain ⟨hnil, htt⟩ := seq_tail1 (strs_seq HT.out)
        have HTT := Lib.hid (show StrsAt S w (.slice (some ⟨tb, tq, none⟩) 0 0) xs by rw [hnil]; exact seq_strs htt)
        have hl1 : xs.length = 0 := by rw [hnil]; rfl
        clear htt hnil
        rw [hl1] at htc1 HT ⊢
        clear hl1 e0
        go_enter Tryd.func48, Tryd.ntmps48
        go_wp2_with fail
        refine (r_items_at p w (HSP.out p (by simp))).mono ?_
        rintro e w1 ⟨ia, il, ic, iok, rfl, hil, hit, hb1⟩
        have HIT := Lib.hid hit
        have HB1 := Lib.hid hb1
        have hxs := HSX.out x (by simp)
        have hrl := runesL_length (bl x)
        rw [← size_bl] at hrl
        have d1 : w1.cell? ⟨tb, tq, none⟩ = some (.string x) := (hb1.cell (p := ⟨tb, tq, none⟩) (block_lt d0)).trans d0
        have hlt1 := block_lt d1
        simp only at hlt1
        have n1 : ¬ tb = w1.heap.size := by omega
        have HTI1 := Lib.hid (show StrsAt S w1 (.slice (some ⟨b, o, none⟩) 0 0) ps from HTI.out.below' hb1)
        have HTT1 := Lib.hid (show StrsAt S w1 (.slice (some ⟨tb, tq, none⟩) 0 0) xs from HTT.out.below' hb1)
        have hcv := fun w => run_runes (P := Tryd.prog) (src := 9) (dst := 91) (e := 21) x Tryd.underlying9 Tryd.underlying91 Tryd.underlying21 (by omega) w
        have HCG := Lib.hid (fun w : World => grownCap_ge w (runesL (bl x)).length 0 21)
        have HCM := Lib.hid (fun w : World => grownCap_le_maxLen w (runesL (bl x)).length 0 21 (by unfold maxLen; omega))
        have HIX := Lib.hid (fun (W' : World) (hb : Below w1.heap.size w1 W') => show RItemsAt (fun _ => True) W' (.slice ia il ic) (itemsR (bl p)) from RItemsAt.move hit (fun k hk _ => ⟨trivial, hb.block k hk⟩))
        have HRU := Lib.hid (show RunesAt (fun _ => True) (w1.alloc (.cells (((runesL (bl x)).map (Value.int .i32)) ++ List.replicate (grownCap w1.drew (runesL (bl x)).length 0 21 - (runesL (bl x)).length) (Value.int .i32 0)).toArray 21)).drew.drew (.slice (some ⟨w1.heap.size, 0, none⟩) (runesL (bl x)).length (grownCap w1.drew (runesL (bl x)).length 0 21)) (runesL (bl x)) from RowAt.below (runes_row (w := w1) (HCG.out w1.drew) (HCM.out w1.drew) _) (by omega) (Below.refl _ _).drew)
        have HBX := Lib.hid (show Below w1.heap.size w1 (w1.alloc (.cells (((runesL (bl x)).map (Value.int .i32)) ++ List.replicate (grownCap w1.drew (runesL (bl x)).length 0 21 - (runesL (bl x)).length) (Value.int .i32 0)).toArray 21)).drew.drew from (((Below.refl _ _).alloc (Nat.le_refl _) _).drew).drew)
        clear d0 hit hb1 hil
        cases hm : partM (bl p) (bl x)
        · have HM := Lib.hid hm
          clear hm
          go_wp2_with fail
          refine hld_start (fun w' => w'.cell? ⟨tb, tq, none⟩ = some (.string x)) (by kernel_rfl) ?_
          refine hld_take 0 rfl (by kernel_rfl) (by kernel_rfl) (by kernel_rfl) (fun _ _ _ h => h) rfl (by go_simp) (by intro w' hw'; go_simp; rfl) ?_
          simp only [Act.put, List.setIfInBounds_toArray, List.set_cons_succ, List.set_cons_zero]
          refine hld_take 1 rfl (by kernel_rfl) (by kernel_rfl) (by kernel_rfl) (fun _ _ _ h => h) rfl (by go_simp) (by intro w' hw'; go_simp; rfl) ?_
          simp only [Act.put, List.setIfInBounds_toArray, List.set_cons_succ, List.set_cons_zero]
          refine hld_take 2 rfl (by kernel_rfl) (by kernel_rfl) (by kernel_rfl) (fun _ _ _ h => h) rfl (by go_simp) (by intro w' hw'; go_simp; rfl) ?_
          simp only [Act.put, List.setIfInBounds_toArray, List.set_cons_succ, List.set_cons_zero]
          refine hld_take 3 rfl (by kernel_rfl) (by kernel_rfl) (by kernel_rfl) (fun _ _ _ h => h) rfl (by go_simp) (by intro w' hw'; go_simp; rfl) ?_
          simp only [Act.put, List.setIfInBounds_toArray, List.set_cons_succ, List.set_cons_zero]
          refine hld_take 4 rfl (by kernel_rfl) (by kernel_rfl) (by kernel_rfl) (fun _ _ _ h => h) rfl (by go_simp) (by intro w' hw'; go_simp; rfl) ?_
          simp only [Act.put, List.setIfInBounds_toArray, List.set_cons_succ, List.set_cons_zero]
          refine hld_take 5 rfl (by kernel_rfl) (by kernel_rfl) (by kernel_rfl) (fun _ _ _ h => h) rfl (by go_simp) (by intro w' hw'; go_simp; rfl) ?_
          simp only [Act.put, List.setIfInBounds_toArray, List.set_cons_succ, List.set_cons_zero]
          refine hld_take 6 rfl (by kernel_rfl) (by kernel_rfl) (by kernel_rfl) (fun _ _ _ h => h) rfl (by go_simp) (by intro w' hw'; go_simp; rfl) ?_
          simp only [Act.put, List.setIfInBounds_toArray, List.set_cons_succ, List.set_cons_zero]
          refine hld_take 7 rfl (by kernel_rfl) (by kernel_rfl) (by kernel_rfl) (fun _ _ _ h => h) rfl (by go_simp) (by intro w' hw'; go_simp; rfl) ?_
          simp only [Act.put, List.setIfInBounds_toArray, List.set_cons_succ, List.set_cons_zero]
          refine hld_bar 8 rfl (by kernel_rfl) rfl (fun K hK => ?_)
          go_wp2_with fail
          refine ⟨(HBX.out.cell (p := ⟨tb, tq, none⟩) hlt1).trans d1, ?_⟩
          refine hld_bar 9 rfl (by kernel_rfl) rfl (fun K hK => ?_)
          go_wp2_with (go_at_call 72; refine (r_part_at p x ia il ic _ (fun _ => True) _ _ HM.out (HIX.out _ HBX.out) HRU.out).mono ?_; rintro e w2 ⟨rfl, hbm⟩; have d2 : w2.cell? ⟨tb, tq, none⟩ = some (.string x) := (hbm.cell (p := ⟨tb, tq, none⟩) (Nat.lt_of_lt_of_le hlt1 HBX.out.size)).trans ((HBX.out.cell (p := ⟨tb, tq, none⟩) hlt1).trans d1); have HBM := Lib.hid hbm; clear hbm)
          (first | (refine ⟨d2, ?_⟩) | skip)
          refine hld_take 10 rfl (by kernel_rfl) (by kernel_rfl) (by kernel_rfl) (fun _ _ _ h => h) rfl (by go_simp) (by intro w' hw'; go_simp; rfl) ?_
          simp only [Act.put, List.setIfInBounds_toArray, List.set_cons_succ, List.set_cons_zero]
          refine hld_take 11 rfl (by kernel_rfl) (by kernel_rfl) (by kernel_rfl) (fun _ _ _ h => h) rfl (by go_simp) (by intro w' hw'; go_simp; rfl) ?_
          simp only [Act.put, List.setIfInBounds_toArray, List.set_cons_succ, List.set_cons_zero]
          refine hld_skip 12 rfl (by kernel_rfl) (by kernel_rfl) (by kernel_rfl) (fun _ _ _ h => h) rfl (by go_simp) ?_
          simp only [Act.put, List.setIfInBounds_toArray, List.set_cons_succ, List.set_cons_zero]
          refine hld_skip 13 rfl (by kernel_rfl) (by kernel_rfl) (by kernel_rfl) (fun _ _ _ h => h) rfl (by go_simp) ?_
          simp only [Act.put, List.setIfInBounds_toArray, List.set_cons_succ, List.set_cons_zero]
          refine hld_skip 14 rfl (by kernel_rfl) (by kernel_rfl) (by kernel_rfl) (fun _ _ _ h => h) rfl (by go_simp) ?_
          simp only [Act.put, List.setIfInBounds_toArray, List.set_cons_succ, List.set_cons_zero]
          refine hld_skip 15 rfl (by kernel_rfl) (by kernel_rfl) (by kernel_rfl) (fun _ _ _ h => h) rfl (by go_simp) ?_
          simp only [Act.put, List.setIfInBounds_toArray, List.set_cons_succ, List.set_cons_zero]
          refine hld_skip 16 rfl (by kernel_rfl) (by kernel_rfl) (by kernel_rfl) (fun _ _ _ h => h) rfl (by go_simp) ?_
          simp only [Act.put, List.setIfInBounds_toArray, List.set_cons_succ, List.set_cons_zero]
          refine hld_take 17 rfl (by kernel_rfl) (by kernel_rfl) (by kernel_rfl) (fun _ _ _ h => h) rfl (by go_simp) (by intro w' hw'; go_simp; rfl) ?_
          simp only [Act.put, List.setIfInBounds_toArray, List.set_cons_succ, List.set_cons_zero]
          refine hld_take 18 rfl (by kernel_rfl) (by kernel_rfl) (by kernel_rfl) (fun _ _ _ h => h) rfl (by go_simp) (by intro w' hw'; go_simp; rfl) ?_
          simp only [Act.put, List.setIfInBounds_toArray, List.set_cons_succ, List.set_cons_zero]
          refine hld_done (by kernel_rfl) ?_
          go_wp2_with fail
          go_ret
          refine ⟨ret_bool ?_, below_next HB1.out (below_next HBX.out HBM.out)⟩
          simp only [List.map_cons]
          rw [all_no1 HS.out, HM.out]; rfl
        · have HM := Lib.hid hm
          clear hm
          go_wp2_with fail
          refine hld_start (fun w' => w'.cell? ⟨tb, tq, none⟩ = some (.string x)) (by kernel_rfl) ?_
          refine hld_take 0 rfl (by kernel_rfl) (by kernel_rfl) (by kernel_rfl) (fun _ _ _ h => h) rfl (by go_simp) (by intro w' hw'; go_simp; rfl) ?_
          simp only [Act.put, List.setIfInBounds_toArray, List.set_cons_succ, List.set_cons_zero]
          refine hld_take 1 rfl (by kernel_rfl) (by kernel_rfl) (by kernel_rfl) (fun _ _ _ h => h) rfl (by go_simp) (by intro w' hw'; go_simp; rfl) ?_
          simp only [Act.put, List.setIfInBounds_toArray, List.set_cons_succ, List.set_cons_zero]
          refine hld_take 2 rfl (by kernel_rfl) (by kernel_rfl) (by kernel_rfl) (fun _ _ _ h => h) rfl (by go_simp) (by intro w' hw'; go_simp; rfl) ?_
          simp only [Act.put, List.setIfInBounds_toArray, List.set_cons_succ, List.set_cons_zero]
          refine hld_take 3 rfl (by kernel_rfl) (by kernel_rfl) (by kernel_rfl) (fun _ _ _ h => h) rfl (by go_simp) (by intro w' hw'; go_simp; rfl) ?_
          simp only [Act.put, List.setIfInBounds_toArray, List.set_cons_succ, List.set_cons_zero]
          refine hld_take 4 rfl (by kernel_rfl) (by kernel_rfl) (by kernel_rfl) (fun _ _ _ h => h) rfl (by go_simp) (by intro w' hw'; go_simp; rfl) ?_
          simp only [Act.put, List.setIfInBounds_toArray, List.set_cons_succ, List.set_cons_zero]
          refine hld_take 5 rfl (by kernel_rfl) (by kernel_rfl) (by kernel_rfl) (fun _ _ _ h => h) rfl (by go_simp) (by intro w' hw'; go_simp; rfl) ?_
          simp only [Act.put, List.setIfInBounds_toArray, List.set_cons_succ, List.set_cons_zero]
          refine hld_take 6 rfl (by kernel_rfl) (by kernel_rfl) (by kernel_rfl) (fun _ _ _ h => h) rfl (by go_simp) (by intro w' hw'; go_simp; rfl) ?_
          simp only [Act.put, List.setIfInBounds_toArray, List.set_cons_succ, List.set_cons_zero]
          refine hld_take 7 rfl (by kernel_rfl) (by kernel_rfl) (by kernel_rfl) (fun _ _ _ h => h) rfl (by go_simp) (by intro w' hw'; go_simp; rfl) ?_
          simp only [Act.put, List.setIfInBounds_toArray, List.set_cons_succ, List.set_cons_zero]
          refine hld_bar 8 rfl (by kernel_rfl) rfl (fun K hK => ?_)
          go_wp2_with fail
          refine ⟨(HBX.out.cell (p := ⟨tb, tq, none⟩) hlt1).trans d1, ?_⟩
          refine hld_bar 9 rfl (by kernel_rfl) rfl (fun K hK => ?_)
          go_wp2_with (go_at_call 72; refine (r_part_at p x ia il ic _ (fun _ => True) _ _ HM.out (HIX.out _ HBX.out) HRU.out).mono ?_; rintro e w2 ⟨rfl, hbm⟩; have d2 : w2.cell? ⟨tb, tq, none⟩ = some (.string x) := (hbm.cell (p := ⟨tb, tq, none⟩) (Nat.lt_of_lt_of_le hlt1 HBX.out.size)).trans ((HBX.out.cell (p := ⟨tb, tq, none⟩) hlt1).trans d1); have HBM := Lib.hid hbm; clear hbm)
          (first | (refine ⟨d2, ?_⟩) | skip)
          refine hld_take 10 rfl (by kernel_rfl) (by kernel_rfl) (by kernel_rfl) (fun _ _ _ h => h) rfl (by go_simp) (by intro w' hw'; go_simp; rfl) ?_
          simp only [Act.put, List.setIfInBounds_toArray, List.set_cons_succ, List.set_cons_zero]
          refine hld_take 11 rfl (by kernel_rfl) (by kernel_rfl) (by kernel_rfl) (fun _ _ _ h => h) rfl (by go_simp) (by intro w' hw'; go_simp; rfl) ?_
          simp only [Act.put, List.setIfInBounds_toArray, List.set_cons_succ, List.set_cons_zero]
          refine hld_take 12 rfl (by kernel_rfl) (by kernel_rfl) (by kernel_rfl) (fun _ _ _ h => h) rfl (by go_simp) (by intro w' hw'; go_simp; rfl) ?_
          simp only [Act.put, List.setIfInBounds_toArray, List.set_cons_succ, List.set_cons_zero]
          refine hld_take 13 rfl (by kernel_rfl) (by kernel_rfl) (by kernel_rfl) (fun _ _ _ h => h) rfl (by go_simp) (by intro w' hw'; go_simp; rfl) ?_
          simp only [Act.put, List.setIfInBounds_toArray, List.set_cons_succ, List.set_cons_zero]
          refine hld_take 14 rfl (by kernel_rfl) (by kernel_rfl) (by kernel_rfl) (fun _ _ _ h => h) rfl (by go_simp) (by intro w' hw'; go_simp; rfl) ?_
          simp only [Act.put, List.setIfInBounds_toArray, List.set_cons_succ, List.set_cons_zero]
          refine hld_take 15 rfl (by kernel_rfl) (by kernel_rfl) (by kernel_rfl) (fun _ _ _ h => h) rfl (by go_simp) (by intro w' hw'; go_simp; rfl) ?_
          simp only [Act.put, List.setIfInBounds_toArray, List.set_cons_succ, List.set_cons_zero]
          refine hld_bar 16 rfl (by kernel_rfl) rfl (fun K hK => ?_)
          go_wp2_with (go_at_call 48; refine (AllC.at HIH.out ps xs S (.slice (some ⟨b, o, none⟩) 0 0) (.slice (some ⟨tb, tq, none⟩) 0 0) w2 (by omega) (HTI1.out.below' (below_next HBX.out HBM.out)) (HTT1.out.below' (below_next HBX.out HBM.out)) HSP.out.tail HSX.out.tail).mono ?_; rintro e w3 ⟨rfl, hba⟩; have d3 : w3.cell? ⟨tb, tq, none⟩ = some (.string x) := (hba.cell (p := ⟨tb, tq, none⟩) (block_lt d2)).trans d2; have HBA := Lib.hid hba; clear hba)
          (first | (refine ⟨d3, ?_⟩) | skip)
          refine hld_take 17 rfl (by kernel_rfl) (by kernel_rfl) (by kernel_rfl) (fun _ _ _ h => h) rfl (by go_simp) (by intro w' hw'; go_simp; rfl) ?_
          simp only [Act.put, List.setIfInBounds_toArray, List.set_cons_succ, List.set_cons_zero]
          refine hld_take 18 rfl (by kernel_rfl) (by kernel_rfl) (by kernel_rfl) (fun _ _ _ h => h) rfl (by go_simp) (by intro w' hw'; go_simp; rfl) ?_
          simp only [Act.put, List.setIfInBounds_toArray, List.set_cons_succ, List.set_cons_zero]
          refine hld_done (by kernel_rfl) ?_
          go_wp2_with fail
          go_ret
          refine ⟨ret_bool ?_, below_next (below_next HB1.out (below_next HBX.out HBM.out)) HBA.out⟩
          simp only [List.map_cons]
          rw [all_no1 HS.out, HM.out]; rfl
      · have HTT := Lib.hid (seq_strs (seq_tail2 StrC.len (strs_seq HT.out)))
        have ht1' : (tc == 1) = false := by simpa using ht1
        go_enter Tryd.func48, Tryd.ntmps48
        go_wp2_with fail
        refine (r_items_at p w (HSP.out p (by simp))).mono ?_
        rintro e w1 ⟨ia, il, ic, iok, rfl, hil, hit, hb1⟩
        have HIT := Lib.hid hit
        have HB1 := Lib.hid hb1
        have hxs := HSX.out x (by simp)
        have hrl := runesL_length (bl x)
        rw [← size_bl] at hrl
        have d1 : w1.cell? ⟨tb, tq, none⟩ = some (.string x) := (hb1.cell (p := ⟨tb, tq, none⟩) (block_lt d0)).trans d0
        have hlt1 := block_lt d1
        simp only at hlt1
        have n1 : ¬ tb = w1.heap.size := by omega
        have HTI1 := Lib.hid (show StrsAt S w1 (.slice (some ⟨b, o, none⟩) 0 0) ps from HTI.out.below' hb1)
        have HTT1 := Lib.hid (show StrsAt S w1 (.slice (some ⟨tb, tq + 1, none⟩) xs.length (tc - 1)) xs from HTT.out.below' hb1)
        have hcv := fun w => run_runes (P := Tryd.prog) (src := 9) (dst := 91) (e := 21) x Tryd.underlying9 Tryd.underlying91 Tryd.underlying21 (by omega) w
        have HCG := Lib.hid (fun w : World => grownCap_ge w (runesL (bl x)).length 0 21)
        have HCM := Lib.hid (fun w : World => grownCap_le_maxLen w (runesL (bl x)).length 0 21 (by unfold maxLen; omega))
        have HIX := Lib.hid (fun (W' : World) (hb : Below w1.heap.size w1 W') => show RItemsAt (fun _ => True) W' (.slice ia il ic) (itemsR (bl p)) from RItemsAt.move hit (fun k hk _ => ⟨trivial, hb.block k hk⟩))
        have HRU := Lib.hid (show RunesAt (fun _ => True) (w1.alloc (.cells (((runesL (bl x)).map (Value.int .i32)) ++ List.replicate (grownCap w1.drew (runesL (bl x)).length 0 21 - (runesL (bl x)).length) (Value.int .i32 0)).toArray 21)).drew.drew (.slice (some ⟨w1.heap.size, 0, none⟩) (runesL (bl x)).length (grownCap w1.drew (runesL (bl x)).length 0 21)) (runesL (bl x)) from RowAt.below (runes_row (w := w1) (HCG.out w1.drew) (HCM.out w1.drew) _) (by omega) (Below.refl _ _).drew)
        have HBX := Lib.hid (show Below w1.heap.size w1 (w1.alloc (.cells (((runesL (bl x)).map (Value.int .i32)) ++ List.replicate (grownCap w1.drew (runesL (bl x)).length 0 21 - (runesL (bl x)).length) (Value.int .i32 0)).toArray 21)).drew.drew from (((Below.refl _ _).alloc (Nat.le_refl _) _).drew).drew)
        clear d0 hit hb1 hil
        cases hm : partM (bl p) (bl x)
        · have HM := Lib.hid hm
          clear hm
          go_wp2_with fail
          refine hld_start (fun w' => w'.cell? ⟨tb, tq, none⟩ = some (.string x)) (by kernel_rfl) ?_
          refine hld_take 0 rfl (by kernel_rfl) (by kernel_rfl) (by kernel_rfl) (fun _ _ _ h => h) rfl (by go_simp) (by intro w' hw'; go_simp; rfl) ?_
          simp only [Act.put, List.setIfInBounds_toArray, List.set_cons_succ, List.set_cons_zero]
          refine hld_take 1 rfl (by kernel_rfl) (by kernel_rfl) (by kernel_rfl) (fun _ _ _ h => h) rfl (by go_simp) (by intro w' hw'; go_simp; rfl) ?_
          simp only [Act.put, List.setIfInBounds_toArray, List.set_cons_succ, List.set_cons_zero]
          refine hld_take 2 rfl (by kernel_rfl) (by kernel_rfl) (by kernel_rfl) (fun _ _ _ h => h) rfl (by go_simp) (by intro w' hw'; go_simp; rfl) ?_
          simp only [Act.put, List.setIfInBounds_toArray, List.set_cons_succ, List.set_cons_zero]
          refine hld_take 3 rfl (by kernel_rfl) (by kernel_rfl) (by kernel_rfl) (fun _ _ _ h => h) rfl (by go_simp) (by intro w' hw'; go_simp; rfl) ?_
          simp only [Act.put, List.setIfInBounds_toArray, List.set_cons_succ, List.set_cons_zero]
          refine hld_take 4 rfl (by kernel_rfl) (by kernel_rfl) (by kernel_rfl) (fun _ _ _ h => h) rfl (by go_simp) (by intro w' hw'; go_simp; rfl) ?_
          simp only [Act.put, List.setIfInBounds_toArray, List.set_cons_succ, List.set_cons_zero]
          refine hld_take 5 rfl (by kernel_rfl) (by kernel_rfl) (by kernel_rfl) (fun _ _ _ h => h) rfl (by go_simp) (by intro w' hw'; go_simp; rfl) ?_
          simp only [Act.put, List.setIfInBounds_toArray, List.set_cons_succ, List.set_cons_zero]
          refine hld_take 6 rfl (by kernel_rfl) (by kernel_rfl) (by kernel_rfl) (fun _ _ _ h => h) rfl (by go_simp) (by intro w' hw'; go_simp; rfl) ?_
          simp only [Act.put, List.setIfInBounds_toArray, List.set_cons_succ, List.set_cons_zero]
          refine hld_take 7 rfl (by kernel_rfl) (by kernel_rfl) (by kernel_rfl) (fun _ _ _ h => h) rfl (by go_simp) (by intro w' hw'; go_simp; rfl) ?_
          simp only [Act.put, List.setIfInBounds_toArray, List.set_cons_succ, List.set_cons_zero]
          refine hld_bar 8 rfl (by kernel_rfl) rfl (fun K hK => ?_)
          go_wp2_with fail
          refine ⟨(HBX.out.cell (p := ⟨tb, tq, none⟩) hlt1).trans d1, ?_⟩
          refine hld_bar 9 rfl (by kernel_rfl) rfl (fun K hK => ?_)
          go_wp2_with (go_at_call 72; refine (r_part_at p x ia il ic _ (fun _ => True) _ _ HM.out (HIX.out _ HBX.out) HRU.out).mono ?_; rintro e w2 ⟨rfl, hbm⟩; have d2 : w2.cell? ⟨tb, tq, none⟩ = some (.string x) := (hbm.cell (p := ⟨tb, tq, none⟩) (Nat.lt_of_lt_of_le hlt1 HBX.out.size)).trans ((HBX.out.cell (p := ⟨tb, tq, none⟩) hlt1).trans d1); have HBM := Lib.hid hbm; clear hbm)
          (first | (refine ⟨d2, ?_⟩) | skip)
          refine hld_take 10 rfl (by kernel_rfl) (by kernel_rfl) (by kernel_rfl) (fun _ _ _ h => h) rfl (by go_simp) (by intro w' hw'; go_simp; rfl) ?_
          simp only [Act.put, List.setIfInBounds_toArray, List.set_cons_succ, List.set_cons_zero]
          refine hld_take 11 rfl (by kernel_rfl) (by kernel_rfl) (by kernel_rfl) (fun _ _ _ h => h) rfl (by go_simp) (by intro w' hw'; go_simp; rfl) ?_
          simp only [Act.put, List.setIfInBounds_toArray, List.set_cons_succ, List.set_cons_zero]
          refine hld_skip 12 rfl (by kernel_rfl) (by kernel_rfl) (by kernel_rfl) (fun _ _ _ h => h) rfl (by go_simp) ?_
          simp only [Act.put, List.setIfInBounds_toArray, List.set_cons_succ, List.set_cons_zero]
          refine hld_skip 13 rfl (by kernel_rfl) (by kernel_rfl) (by kernel_rfl) (fun _ _ _ h => h) rfl (by go_simp) ?_
          simp only [Act.put, List.setIfInBounds_toArray, List.set_cons_succ, List.set_cons_zero]
          refine hld_skip 14 rfl (by kernel_rfl) (by kernel_rfl) (by kernel_rfl) (fun _ _ _ h => h) rfl (by go_simp) ?_
          simp only [Act.put, List.setIfInBounds_toArray, List.set_cons_succ, List.set_cons_zero]
          refine hld_skip 15 rfl (by kernel_rfl) (by kernel_rfl) (by kernel_rfl) (fun _ _ _ h => h) rfl (by go_simp) ?_
          simp only [Act.put, List.setIfInBounds_toArray, List.set_cons_succ, List.set_cons_zero]
          refine hld_skip 16 rfl (by kernel_rfl) (by kernel_rfl) (by kernel_rfl) (fun _ _ _ h => h) rfl (by go_simp) ?_
          simp only [Act.put, List.setIfInBounds_toArray, List.set_cons_succ, List.set_cons_zero]
          refine hld_take 17 rfl (by kernel_rfl) (by kernel_rfl) (by kernel_rfl) (fun _ _ _ h => h) rfl (by go_simp) (by intro w' hw'; go_simp; rfl) ?_
          simp only [Act.put, List.setIfInBounds_toArray, List.set_cons_succ, List.set_cons_zero]
          refine hld_take 18 rfl (by kernel_rfl) (by kernel_rfl) (by kernel_rfl) (fun _ _ _ h => h) rfl (by go_simp) (by intro w' hw'; go_simp; rfl) ?_
          simp only [Act.put, List.setIfInBounds_toArray, List.set_cons_succ, List.set_cons_zero]
          refine hld_done (by kernel_rfl) ?_
          go_wp2_with fail
          go_ret
          refine ⟨ret_bool ?_, below_next HB1.out (below_next HBX.out HBM.out)⟩
          simp only [List.map_cons]
          rw [all_no1 HS.out, HM.out]; rfl
        · have HM := Lib.hid hm
          clear hm
          go_wp2_with fail
          refine hld_start (fun w' => w'.cell? ⟨tb, tq, none⟩ = some (.string x)) (by kernel_rfl) ?_
          refine hld_take 0 rfl (by kernel_rfl) (by kernel_rfl) (by kernel_rfl) (fun _ _ _ h => h) rfl (by go_simp) (by intro w' hw'; go_simp; rfl) ?_
          simp only [Act.put, List.setIfInBounds_toArray, List.set_cons_succ, List.set_cons_zero]
          refine hld_take 1 rfl (by kernel_rfl) (by kernel_rfl) (by kernel_rfl) (fun _ _ _ h => h) rfl (by go_simp) (by intro w' hw'; go_simp; rfl) ?_
          simp only [Act.put, List.setIfInBounds_toArray, List.set_cons_succ, List.set_cons_zero]
          refine hld_take 2 rfl (by kernel_rfl) (by kernel_rfl) (by kernel_rfl) (fun _ _ _ h => h) rfl (by go_simp) (by intro w' hw'; go_simp; rfl) ?_
          simp only [Act.put, List.setIfInBounds_toArray, List.set_cons_succ, List.set_cons_zero]
          refine hld_take 3 rfl (by kernel_rfl) (by kernel_rfl) (by kernel_rfl) (fun _ _ _ h => h) rfl (by go_simp) (by intro w' hw'; go_simp; rfl) ?_
          simp only [Act.put, List.setIfInBounds_toArray, List.set_cons_succ, List.set_cons_zero]
          refine hld_take 4 rfl (by kernel_rfl) (by kernel_rfl) (by kernel_rfl) (fun _ _ _ h => h) rfl (by go_simp) (by intro w' hw'; go_simp; rfl) ?_
          simp only [Act.put, List.setIfInBounds_toArray, List.set_cons_succ, List.set_cons_zero]
          refine hld_take 5 rfl (by kernel_rfl) (by kernel_rfl) (by kernel_rfl) (fun _ _ _ h => h) rfl (by go_simp) (by intro w' hw'; go_simp; rfl) ?_
          simp only [Act.put, List.setIfInBounds_toArray, List.set_cons_succ, List.set_cons_zero]
          refine hld_take 6 rfl (by kernel_rfl) (by kernel_rfl) (by kernel_rfl) (fun _ _ _ h => h) rfl (by go_simp) (by intro w' hw'; go_simp; rfl) ?_
          simp only [Act.put, List.setIfInBounds_toArray, List.set_cons_succ, List.set_cons_zero]
          refine hld_take 7 rfl (by kernel_rfl) (by kernel_rfl) (by kernel_rfl) (fun _ _ _ h => h) rfl (by go_simp) (by intro w' hw'; go_simp; rfl) ?_
          simp only [Act.put, List.setIfInBounds_toArray, List.set_cons_succ, List.set_cons_zero]
          refine hld_bar 8 rfl (by kernel_rfl) rfl (fun K hK => ?_)
          go_wp2_with fail
          refine ⟨(HBX.out.cell (p := ⟨tb, tq, none⟩) hlt1).trans d1, ?_⟩
          refine hld_bar 9 rfl (by kernel_rfl) rfl (fun K hK => ?_)
          go_wp2_with (go_at_call 72; refine (r_part_at p x ia il ic _ (fun _ => True) _ _ HM.out (HIX.out _ HBX.out) HRU.out).mono ?_; rintro e w2 ⟨rfl, hbm⟩; have d2 : w2.cell? ⟨tb, tq, none⟩ = some (.string x) := (hbm.cell (p := ⟨tb, tq, none⟩) (Nat.lt_of_lt_of_le hlt1 HBX.out.size)).trans ((HBX.out.cell (p := ⟨tb, tq, none⟩) hlt1).trans d1); have HBM := Lib.hid hbm; clear hbm)
          (first | (refine ⟨d2, ?_⟩) | skip)
          refine hld_take 10 rfl (by kernel_rfl) (by kernel_rfl) (by kernel_rfl) (fun _ _ _ h => h) rfl (by go_simp) (by intro w' hw'; go_simp; rfl) ?_
          simp only [Act.put, List.setIfInBounds_toArray, List.set_cons_succ, List.set_cons_zero]
          refine hld_take 11 rfl (by kernel_rfl) (by kernel_rfl) (by kernel_rfl) (fun _ _ _ h => h) rfl (by go_simp) (by intro w' hw'; go_simp; rfl) ?_
          simp only [Act.put, List.setIfInBounds_toArray, List.set_cons_succ, List.set_cons_zero]
          refine hld_take 12 rfl (by kernel_rfl) (by kernel_rfl) (by kernel_rfl) (fun _ _ _ h => h) rfl (by go_simp) (by intro w' hw'; go_simp; rfl) ?_
          simp only [Act.put, List.setIfInBounds_toArray, List.set_cons_succ, List.set_cons_zero]
          refine hld_take 13 rfl (by kernel_rfl) (by kernel_rfl) (by kernel_rfl) (fun _ _ _ h => h) rfl (by go_simp) (by intro w' hw'; go_simp; rfl) ?_
          simp only [Act.put, List.setIfInBounds_toArray, List.set_cons_succ, List.set_cons_zero]
          refine hld_take 14 rfl (by kernel_rfl) (by kernel_rfl) (by kernel_rfl) (fun _ _ _ h => h) rfl (by go_simp) (by intro w' hw'; go_simp; rfl) ?_
          simp only [Act.put, List.setIfInBounds_toArray, List.set_cons_succ, List.set_cons_zero]
          refine hld_take 15 rfl (by kernel_rfl) (by kernel_rfl) (by kernel_rfl) (fun _ _ _ h => h) rfl (by go_simp) (by intro w' hw'; go_simp; rfl) ?_
          simp only [Act.put, List.setIfInBounds_toArray, List.set_cons_succ, List.set_cons_zero]
          refine hld_bar 16 rfl (by kernel_rfl) rfl (fun K hK => ?_)
          go_wp2_with (go_at_call 48; refine (AllC.at HIH.out ps xs S (.slice (some ⟨b, o, none⟩) 0 0) (.slice (some ⟨tb, tq + 1, none⟩) xs.length (tc - 1)) w2 (by omega) (HTI1.out.below' (below_next HBX.out HBM.out)) (HTT1.out.below' (below_next HBX.out HBM.out)) HSP.out.tail HSX.out.tail).mono ?_; rintro e w3 ⟨rfl, hba⟩; have d3 : w3.cell? ⟨tb, tq, none⟩ = some (.string x) := (hba.cell (p := ⟨tb, tq, none⟩) (block_lt d2)).trans d2; have HBA := Lib.hid hba; clear hba)
          (first | (refine ⟨d3, ?_⟩) | skip)
          refine hld_take 17 rfl (by kernel_rfl) (by kernel_rfl) (by kernel_rfl) (fun _ _ _ h => h) rfl (by go_simp) (by intro w' hw'; go_simp; rfl) ?_
          simp only [Act.put, List.setIfInBounds_toArray, List.set_cons_succ, List.set_cons_zero]
          refine hld_take 18 rfl (by kernel_rfl) (by kernel_rfl) (by kernel_rfl) (fun _ _ _ h => h) rfl (by go_simp) (by intro w' hw'; go_simp; rfl) ?_
          simp only [Act.put, List.setIfInBounds_toArray, List.set_cons_succ, List.set_cons_zero]
          refine hld_done (by kernel_rfl) ?_
          go_wp2_with fail
          go_ret
          refine ⟨ret_bool ?_, below_next (below_next HB1.out (below_next HBX.out HBM.out)) HBA.out⟩
          simp only [List.map_cons]
          rw [all_no1 HS.out, HM.out]; rfl
    · have HTI := Lib.hid (seq_strs (seq_tail2 StrC.len (strs_seq HP.out)))
      have hp1' : (pc == 1) = false := by simpa using hp1
      by_cases ht1 : tc = 1
      · subst ht1
        obtain ⟨hnil, htt⟩ := seq_tail1 (strs_seq HT.out)
        have HTT := Lib.hid (show StrsAt S w (.slice (some ⟨tb, tq, none⟩) 0 0) xs by rw [hnil]; exact seq_strs htt)
        have hl1 : xs.length = 0 := by rw [hnil]; rfl
        clear htt hnil
        rw [hl1] at htc1 HT ⊢
        clear hl1 e0
        go_enter Tryd.func48, Tryd.ntmps48
        go_wp2_with fail
        refine (r_items_at p w (HSP.out p (by simp))).mono ?_
        rintro e w1 ⟨ia, il, ic, iok, rfl, hil, hit, hb1⟩
        have HIT := Lib.hid hit
        have HB1 := Lib.hid hb1
        have hxs := HSX.out x (by simp)
        have hrl := runesL_length (bl x)
        rw [← size_bl] at hrl
        have d1 : w1.cell? ⟨tb, tq, none⟩ = some (.string x) := (hb1.cell (p := ⟨tb, tq, none⟩) (block_lt d0)).trans d0
        have hlt1 := block_lt d1
        simp only at hlt1
        have n1 : ¬ tb = w1.heap.size := by omega
        have HTI1 := Lib.hid (show StrsAt S w1 (.slice (some ⟨b, o + 1, none⟩) ps.length (pc - 1)) ps from HTI.out.below' hb1)
        have HTT1 := Lib.hid (show StrsAt S w1 (.slice (some ⟨tb, tq, none⟩) 0 0) xs from HTT.out.below' hb1)
        have hcv := fun w => run_runes (P := Tryd.prog) (src := 9) (dst := 91) (e := 21) x Tryd.underlying9 Tryd.underlying91 Tryd.underlying21 (by omega) w
        have HCG := Lib.hid (fun w : World => grownCap_ge w (runesL (bl x)).length 0 21)
        have HCM := Lib.hid (fun w : World => grownCap_le_maxLen w (runesL (bl x)).length 0 21 (by unfold maxLen; omega))
        have HIX := Lib.hid (fun (W' : World) (hb : Below w1.heap.size w1 W') => show RItemsAt (fun _ => True) W' (.slice ia il ic) (itemsR (bl p)) from RItemsAt.move hit (fun k hk _ => ⟨trivial, hb.block k hk⟩))
        have HRU := Lib.hid (show RunesAt (fun _ => True) (w1.alloc (.cells (((runesL (bl x)).map (Value.int .i32)) ++ List.replicate (grownCap w1.drew (runesL (bl x)).length 0 21 - (runesL (bl x)).length) (Value.int .i32 0)).toArray 21)).drew.drew (.slice (some ⟨w1.heap.size, 0, none⟩) (runesL (bl x)).length (grownCap w1.drew (runesL (bl x)).length 0 21)) (runesL (bl x)) from RowAt.below (runes_row (w := w1) (HCG.out w1.drew) (HCM.out w1.drew) _) (by omega) (Below.refl _ _).drew)
        have HBX := Lib.hid (show Below w1.heap.size w1 (w1.alloc (.cells (((runesL (bl x)).map (Value.int .i32)) ++ List.replicate (grownCap w1.drew (runesL (bl x)).length 0 21 - (runesL (bl x)).length) (Value.int .i32 0)).toArray 21)).drew.drew from (((Below.refl _ _).alloc (Nat.le_refl _) _).drew).drew)
        clear d0 hit hb1 hil
        cases hm : partM (bl p) (bl x)
        · have HM := Lib.hid hm
          clear hm
          go_wp2_with fail
          refine hld_start (fun w' => w'.cell? ⟨tb, tq, none⟩ = some (.string x)) (by kernel_rfl) ?_
          refine hld_take 0 rfl (by kernel_rfl) (by kernel_rfl) (by kernel_rfl) (fun _ _ _ h => h) rfl (by go_simp) (by intro w' hw'; go_simp; rfl) ?_
          simp only [Act.put, List.setIfInBounds_toArray, List.set_cons_succ, List.set_cons_zero]
          refine hld_take 1 rfl (by kernel_rfl) (by kernel_rfl) (by kernel_rfl) (fun _ _ _ h => h) rfl (by go_simp) (by intro w' hw'; go_simp; rfl) ?_
          simp only [Act.put, List.setIfInBounds_toArray, List.set_cons_succ, List.set_cons_zero]
          refine hld_take 2 rfl (by kernel_rfl) (by kernel_rfl) (by kernel_rfl) (fun _ _ _ h => h) rfl (by go_simp) (by intro w' hw'; go_simp; rfl) ?_
          simp only [Act.put, List.setIfInBounds_toArray, List.set_cons_succ, List.set_cons_zero]
          refine hld_take 3 rfl (by kernel_rfl) (by kernel_rfl) (by kernel_rfl) (fun _ _ _ h => h) rfl (by go_simp) (by intro w' hw'; go_simp; rfl) ?_
          simp only [Act.put, List.setIfInBounds_toArray, List.set_cons_succ, List.set_cons_zero]
          refine hld_take 4 rfl (by kernel_rfl) (by kernel_rfl) (by kernel_rfl) (fun _ _ _ h => h) rfl (by go_simp) (by intro w' hw'; go_simp; rfl) ?_
          simp only [Act.put, List.setIfInBounds_toArray, List.set_cons_succ, List.set_cons_zero]
          refine hld_take 5 rfl (by kernel_rfl) (by kernel_rfl) (by kernel_rfl) (fun _ _ _ h => h) rfl (by go_simp) (by intro w' hw'; go_simp; rfl) ?_
          simp only [Act.put, List.setIfInBounds_toArray, List.set_cons_succ, List.set_cons_zero]
          refine hld_take 6 rfl (by kernel_rfl) (by kernel_rfl) (by kernel_rfl) (fun _ _ _ h => h) rfl (by go_simp) (by intro w' hw'; go_simp; rfl) ?_
          simp only [Act.put, List.setIfInBounds_toArray, List.set_cons_succ, List.set_cons_zero]
          refine hld_take 7 rfl (by kernel_rfl) (by kernel_rfl) (by kernel_rfl) (fun _ _ _ h => h) rfl (by go_simp) (by intro w' hw'; go_simp; rfl) ?_
          simp only [Act.put, List.setIfInBounds_toArray, List.set_cons_succ, List.set_cons_zero]
          refine hld_bar 8 rfl (by kernel_rfl) rfl (fun K hK => ?_)
          go_wp2_with fail
          refine ⟨(HBX.out.cell (p := ⟨tb, tq, none⟩) hlt1).trans d1, ?_⟩
          refine hld_bar 9 rfl (by kernel_rfl) rfl (fun K hK => ?_)
          go_wp2_with (go_at_call 72; refine (r_part_at p x ia il ic _ (fun _ => True) _ _ HM.out (HIX.out _ HBX.out) HRU.out).mono ?_; rintro e w2 ⟨rfl, hbm⟩; have d2 : w2.cell? ⟨tb, tq, none⟩ = some (.string x) := (hbm.cell (p := ⟨tb, tq, none⟩) (Nat.lt_of_lt_of_le hlt1 HBX.out.size)).trans ((HBX.out.cell (p := ⟨tb, tq, none⟩) hlt1).trans d1); have HBM := Lib.hid hbm; clear hbm)
          (first | (refine ⟨d2, ?_⟩) | skip)
          refine hld_take 10 rfl (by kernel_rfl) (by kernel_rfl) (by kernel_rfl) (fun _ _ _ h => h) rfl (by go_simp) (by intro w' hw'; go_simp; rfl) ?_
          simp only [Act.put, List.setIfInBounds_toArray, List.set_cons_succ, List.set_cons_zero]
          refine hld_take 11 rfl (by kernel_rfl) (by kernel_rfl) (by kernel_rfl) (fun _ _ _ h => h) rfl (by go_simp) (by intro w' hw'; go_simp; rfl) ?_
          simp only [Act.put, List.setIfInBounds_toArray, List.set_cons_succ, List.set_cons_zero]
          refine hld_skip 12 rfl (by kernel_rfl) (by kernel_rfl) (by kernel_rfl) (fun _ _ _ h => h) rfl (by go_simp) ?_
          simp only [Act.put, List.setIfInBounds_toArray, List.set_cons_succ, List.set_cons_zero]
          refine hld_skip 13 rfl (by kernel_rfl) (by kernel_rfl) (by kernel_rfl) (fun _ _ _ h => h) rfl (by go_simp) ?_
          simp only [Act.put, List.setIfInBounds_toArray, List.set_cons_succ, List.set_cons_zero]
          refine hld_skip 14 rfl (by kernel_rfl) (by kernel_rfl) (by kernel_rfl) (fun _ _ _ h => h) rfl (by go_simp) ?_
          simp only [Act.put, List.setIfInBounds_toArray, List.set_cons_succ, List.set_cons_zero]
          refine hld_skip 15 rfl (by kernel_rfl) (by kernel_rfl) (by kernel_rfl) (fun _ _ _ h => h) rfl (by go_simp) ?_
          simp only [Act.put, List.setIfInBounds_toArray, List.set_cons_succ, List.set_cons_zero]
          refine hld_skip 16 rfl (by kernel_rfl) (by kernel_rfl) (by kernel_rfl) (fun _ _ _ h => h) rfl (by go_simp) ?_
          simp only [Act.put, List.setIfInBounds_toArray, List.set_cons_succ, List.set_cons_zero]
          refine hld_take 17 rfl (by kernel_rfl) (by kernel_rfl) (by kernel_rfl) (fun _ _ _ h => h) rfl (by go_simp) (by intro w' hw'; go_simp; rfl) ?_
          simp only [Act.put, List.setIfInBounds_toArray, List.set_cons_succ, List.set_cons_zero]
          refine hld_take 18 rfl (by kernel_rfl) (by kernel_rfl) (by kernel_rfl) (fun _ _ _ h => h) rfl (by go_simp) (by intro w' hw'; go_simp; rfl) ?_
          simp only [Act.put, List.setIfInBounds_toArray, List.set_cons_succ, List.set_cons_zero]
          refine hld_done (by kernel_rfl) ?_
          go_wp2_with fail
          go_ret
          refine ⟨ret_bool ?_, below_next HB1.out (below_next HBX.out HBM.out)⟩
          simp only [List.map_cons]
          rw [all_no1 HS.out, HM.out]; rfl
        · have HM := Lib.hid hm
          clear hm
          go_wp2_with fail
          refine hld_start (fun w' => w'.cell? ⟨tb, tq, none⟩ = some (.string x)) (by kernel_rfl) ?_
          refine hld_take 0 rfl (by kernel_rfl) (by kernel_rfl) (by kernel_rfl) (fun _ _ _ h => h) rfl (by go_simp) (by intro w' hw'; go_simp; rfl) ?_
          simp only [Act.put, List.setIfInBounds_toArray, List.set_cons_succ, List.set_cons_zero]
          refine hld_take 1 rfl (by kernel_rfl) (by kernel_rfl) (by kernel_rfl) (fun _ _ _ h => h) rfl (by go_simp) (by intro w' hw'; go_simp; rfl) ?_
          simp only [Act.put, List.setIfInBounds_toArray, List.set_cons_succ, List.set_cons_zero]
          refine hld_take 2 rfl (by kernel_rfl) (by kernel_rfl) (by kernel_rfl) (fun _ _ _ h => h) rfl (by go_simp) (by intro w' hw'; go_simp; rfl) ?_
          simp only [Act.put, List.setIfInBounds_toArray, List.set_cons_succ, List.set_cons_zero]
          refine hld_take 3 rfl (by kernel_rfl) (by kernel_rfl) (by kernel_rfl) (fun _ _ _ h => h) rfl (by go_simp) (by intro w' hw'; go_simp; rfl) ?_
          simp only [Act.put, List.setIfInBounds_toArray, List.set_cons_succ, List.set_cons_zero]
          refine hld_take 4 rfl (by kernel_rfl) (by kernel_rfl) (by kernel_rfl) (fun _ _ _ h => h) rfl (by go_simp) (by intro w' hw'; go_simp; rfl) ?_
          simp only [Act.put, List.setIfInBounds_toArray, List.set_cons_succ, List.set_cons_zero]
          refine hld_take 5 rfl (by kernel_rfl) (by kernel_rfl) (by kernel_rfl) (fun _ _ _ h => h) rfl (by go_simp) (by intro w' hw'; go_simp; rfl) ?_
          simp only [Act.put, List.setIfInBounds_toArray, List.set_cons_succ, List.set_cons_zero]
          refine hld_take 6 rfl (by kernel_rfl) (by kernel_rfl) (by kernel_rfl) (fun _ _ _ h => h) rfl (by go_simp) (by intro w' hw'; go_simp; rfl) ?_
          simp only [Act.put, List.setIfInBounds_toArray, List.set_cons_succ, List.set_cons_zero]
          refine hld_take 7 rfl (by kernel_rfl) (by kernel_rfl) (by kernel_rfl) (fun _ _ _ h => h) rfl (by go_simp) (by intro w' hw'; go_simp; rfl) ?_
          simp only [Act.put, List.setIfInBounds_toArray, List.set_cons_succ, List.set_cons_zero]
          refine hld_bar 8 rfl (by kernel_rfl) rfl (fun K hK => ?_)
          go_wp2_with fail
          refine ⟨(HBX.out.cell (p := ⟨tb, tq, none⟩) hlt1).trans d1, ?_⟩
          refine hld_bar 9 rfl (by kernel_rfl) rfl (fun K hK => ?_)
          go_wp2_with (go_at_call 72; refine (r_part_at p x ia il ic _ (fun _ => True) _ _ HM.out (HIX.out _ HBX.out) HRU.out).mono ?_; rintro e w2 ⟨rfl, hbm⟩; have d2 : w2.cell? ⟨tb, tq, none⟩ = some (.string x) := (hbm.cell (p := ⟨tb, tq, none⟩) (Nat.lt_of_lt_of_le hlt1 HBX.out.size)).trans ((HBX.out.cell (p := ⟨tb, tq, none⟩) hlt1).trans d1); have HBM := Lib.hid hbm; clear hbm)
          (first | (refine ⟨d2, ?_⟩) | skip)
          refine hld_take 10 rfl (by kernel_rfl) (by kernel_rfl) (by kernel_rfl) (fun _ _ _ h => h) rfl (by go_simp) (by intro w' hw'; go_simp; rfl) ?_
          simp only [Act.put, List.setIfInBounds_toArray, List.set_cons_succ, List.set_cons_zero]
          refine hld_take 11 rfl (by kernel_rfl) (by kernel_rfl) (by kernel_rfl) (fun _ _ _ h => h) rfl (by go_simp) (by intro w' hw'; go_simp; rfl) ?_
          simp only [Act.put, List.setIfInBounds_toArray, List.set_cons_succ, List.set_cons_zero]
          refine hld_take 12 rfl (by kernel_rfl) (by kernel_rfl) (by kernel_rfl) (fun _ _ _ h => h) rfl (by go_simp) (by intro w' hw'; go_simp; rfl) ?_
          simp only [Act.put, List.setIfInBounds_toArray, List.set_cons_succ, List.set_cons_zero]
          refine hld_take 13 rfl (by kernel_rfl) (by kernel_rfl) (by kernel_rfl) (fun _ _ _ h => h) rfl (by go_simp) (by intro w' hw'; go_simp; rfl) ?_
          simp only [Act.put, List.setIfInBounds_toArray, List.set_cons_succ, List.set_cons_zero]
          refine hld_take 14 rfl (by kernel_rfl) (by kernel_rfl) (by kernel_rfl) (fun _ _ _ h => h) rfl (by go_simp) (by intro w' hw'; go_simp; rfl) ?_
          simp only [Act.put, List.setIfInBounds_toArray, List.set_cons_succ, List.set_cons_zero]
          refine hld_take 15 rfl (by kernel_rfl) (by kernel_rfl) (by kernel_rfl) (fun _ _ _ h => h) rfl (by go_simp) (by intro w' hw'; go_simp; rfl) ?_
          simp only [Act.put, List.setIfInBounds_toArray, List.set_cons_succ, List.set_cons_zero]
          refine hld_bar 16 rfl (by kernel_rfl) rfl (fun K hK => ?_)
          go_wp2_with (go_at_call 48; refine (AllC.at HIH.out ps xs S (.slice (some ⟨b, o + 1, none⟩) ps.length (pc - 1)) (.slice (some ⟨tb, tq, none⟩) 0 0) w2 (by omega) (HTI1.out.below' (below_next HBX.out HBM.out)) (HTT1.out.below' (below_next HBX.out HBM.out)) HSP.out.tail HSX.out.tail).mono ?_; rintro e w3 ⟨rfl, hba⟩; have d3 : w3.cell? ⟨tb, tq, none⟩ = some (.string x) := (hba.cell (p := ⟨tb, tq, none⟩) (block_lt d2)).trans d2; have HBA := Lib.hid hba; clear hba)
          (first | (refine ⟨d3, ?_⟩) | skip)
          refine hld_take 17 rfl (by kernel_rfl) (by kernel_rfl) (by kernel_rfl) (fun _ _ _ h => h) rfl (by go_simp) (by intro w' hw'; go_simp; rfl) ?_
          simp only [Act.put, List.setIfInBounds_toArray, List.set_cons_succ, List.set_cons_zero]
          refine hld_take 18 rfl (by kernel_rfl) (by kernel_rfl) (by kernel_rfl) (fun _ _ _ h => h) rfl (by go_simp) (by intro w' hw'; go_simp; rfl) ?_
          simp only [Act.put, List.setIfInBounds_toArray, List.set_cons_succ, List.set_cons_zero]
          refine hld_done (by kernel_rfl) ?_
          go_wp2_with fail
          go_ret
          refine ⟨ret_bool ?_, below_next (below_next HB1.out (below_next HBX.out HBM.out)) HBA.out⟩
          simp only [List.map_cons]
          rw [all_no1 HS.out, HM.out]; rfl
      · have HTT := Lib.hid (seq_strs (seq_tail2 StrC.len (strs_seq HT.out)))
        have ht1' : (tc == 1) = false := by simpa using ht1
        go_enter Tryd.func48, Tryd.ntmps48
        go_wp2_with fail
        refine (r_items_at p w (HSP.out p (by simp))).mono ?_
        rintro e w1 ⟨ia, il, ic, iok, rfl, hil, hit, hb1⟩
        have HIT := Lib.hid hit
        have HB1 := Lib.hid hb1
        have hxs := HSX.out x (by simp)
        have hrl := runesL_length (bl x)
        rw [← size_bl] at hrl
        have d1 : w1.cell? ⟨tb, tq, none⟩ = some (.string x) := (hb1.cell (p := ⟨tb, tq, none⟩) (block_lt d0)).trans d0
        have hlt1 := block_lt d1
        simp only at hlt1
        have n1 : ¬ tb = w1.heap.size := by omega
        have HTI1 := Lib.hid (show StrsAt S w1 (.slice (some ⟨b, o + 1, none⟩) ps.length (pc - 1)) ps from HTI.out.below' hb1)
        have HTT1 := Lib.hid (show StrsAt S w1 (.slice (some ⟨tb, tq + 1, none⟩) xs.length (tc - 1)) xs from HTT.out.below' hb1)
        have hcv := fun w => run_runes (P := Tryd.prog) (src := 9) (dst := 91) (e := 21) x Tryd.underlying9 Tryd.underlying91 Tryd.underlying21 (by omega) w
        have HCG := Lib.hid (fun w : World => grownCap_ge w (runesL (bl x)).length 0 21)
        have HCM := Lib.hid (fun w : World => grownCap_le_maxLen w (runesL (bl x)).length 0 21 (by unfold maxLen; omega))
        have HIX := Lib.hid (fun (W' : World) (hb : Below w1.heap.size w1 W') => show RItemsAt (fun _ => True) W' (.slice ia il ic) (itemsR (bl p)) from RItemsAt.move hit (fun k hk _ => ⟨trivial, hb.block k hk⟩))
        have HRU := Lib.hid (show RunesAt (fun _ => True) (w1.alloc (.cells (((runesL (bl x)).map (Value.int .i32)) ++ List.replicate (grownCap w1.drew (runesL (bl x)).length 0 21 - (runesL (bl x)).length) (Value.int .i32 0)).toArray 21)).drew.drew (.slice (some ⟨w1.heap.size, 0, none⟩) (runesL (bl x)).length (grownCap w1.drew (runesL (bl x)).length 0 21)) (runesL (bl x)) from RowAt.below (runes_row (w := w1) (HCG.out w1.drew) (HCM.out w1.drew) _) (by omega) (Below.refl _ _).drew)
        have HBX := Lib.hid (show Below w1.heap.size w1 (w1.alloc (.cells (((runesL (bl x)).map (Value.int .i32)) ++ List.replicate (grownCap w1.drew (runesL (bl x)).length 0 21 - (runesL (bl x)).length) (Value.int .i32 0)).toArray 21)).drew.drew from (((Below.refl _ _).alloc (Nat.le_refl _) _).drew).drew)
        clear d0 hit hb1 hil
        cases hm : partM (bl p) (bl x)
        · have HM := Lib.hid hm
          clear hm
          go_wp2_with fail
          refine hld_start (fun w' => w'.cell? ⟨tb, tq, none⟩ = some (.string x)) (by kernel_rfl) ?_
          refine hld_take 0 rfl (by kernel_rfl) (by kernel_rfl) (by kernel_rfl) (fun _ _ _ h => h) rfl (by go_simp) (by intro w' hw'; go_simp; rfl) ?_
          simp only [Act.put, List.setIfInBounds_toArray, List.set_cons_succ, List.set_cons_zero]
          refine hld_take 1 rfl (by kernel_rfl) (by kernel_rfl) (by kernel_rfl) (fun _ _ _ h => h) rfl (by go_simp) (by intro w' hw'; go_simp; rfl) ?_
          simp only [Act.put, List.setIfInBounds_toArray, List.set_cons_succ, List.set_cons_zero]
          refine hld_take 2 rfl (by kernel_rfl) (by kernel_rfl) (by kernel_rfl) (fun _ _ _ h => h) rfl (by go_simp) (by intro w' hw'; go_simp; rfl) ?_
          simp only [Act.put, List.setIfInBounds_toArray, List.set_cons_succ, List.set_cons_zero]
          refine hld_take 3 rfl (by kernel_rfl) (by kernel_rfl) (by kernel_rfl) (fun _ _ _ h => h) rfl (by go_simp) (by intro w' hw'; go_simp; rfl) ?_
          simp only [Act.put, List.setIfInBounds_toArray, List.set_cons_succ, List.set_cons_zero]
          refine hld_take 4 rfl (by kernel_rfl) (by kernel_rfl) (by kernel_rfl) (fun _ _ _ h => h) rfl (by go_simp) (by intro w' hw'; go_simp; rfl) ?_
          simp only [Act.put, List.setIfInBounds_toArray, List.set_cons_succ, List.set_cons_zero]
          refine hld_take 5 rfl (by kernel_rfl) (by kernel_rfl) (by kernel_rfl) (fun _ _ _ h => h) rfl (by go_simp) (by intro w' hw'; go_simp; rfl) ?_
          simp only [Act.put, List.setIfInBounds_toArray, List.set_cons_succ, List.set_cons_zero]
          refine hld_take 6 rfl (by kernel_rfl) (by kernel_rfl) (by kernel_rfl) (fun _ _ _ h => h) rfl (by go_simp) (by intro w' hw'; go_simp; rfl) ?_
          simp only [Act.put, List.setIfInBounds_toArray, List.set_cons_succ, List.set_cons_zero]
          refine hld_take 7 rfl (by kernel_rfl) (by kernel_rfl) (by kernel_rfl) (fun _ _ _ h => h) rfl (by go_simp) (by intro w' hw'; go_simp; rfl) ?_
          simp only [Act.put, List.setIfInBounds_toArray, List.set_cons_succ, List.set_cons_zero]
          refine hld_bar 8 rfl (by kernel_rfl) rfl (fun K hK => ?_)
          go_wp2_with fail
          refine ⟨(HBX.out.cell (p := ⟨tb, tq, none⟩) hlt1).trans d1, ?_⟩
          refine hld_bar 9 rfl (by kernel_rfl) rfl (fun K hK => ?_)
          go_wp2_with (go_at_call 72; refine (r_part_at p x ia il ic _ (fun _ => True) _ _ HM.out (HIX.out _ HBX.out) HRU.out).mono ?_; rintro e w2 ⟨rfl, hbm⟩; have d2 : w2.cell? ⟨tb, tq, none⟩ = some (.string x) := (hbm.cell (p := ⟨tb, tq, none⟩) (Nat.lt_of_lt_of_le hlt1 HBX.out.size)).trans ((HBX.out.cell (p := ⟨tb, tq, none⟩) hlt1).trans d1); have HBM := Lib.hid hbm; clear hbm)
          (first | (refine ⟨d2, ?_⟩) | skip)
          refine hld_take 10 rfl (by kernel_rfl) (by kernel_rfl) (by kernel_rfl) (fun _ _ _ h => h) rfl (by go_simp) (by intro w' hw'; go_simp; rfl) ?_
          simp only [Act.put, List.setIfInBounds_toArray, List.set_cons_succ, List.set_cons_zero]
          refine hld_take 11 rfl (by kernel_rfl) (by kernel_rfl) (by kernel_rfl) (fun _ _ _ h => h) rfl (by go_simp) (by intro w' hw'; go_simp; rfl) ?_
          simp only [Act.put, List.setIfInBounds_toArray, List.set_cons_succ, List.set_cons_zero]
          refine hld_skip 12 rfl (by kernel_rfl) (by kernel_rfl) (by kernel_rfl) (fun _ _ _ h => h) rfl (by go_simp) ?_
          simp only [Act.put, List.setIfInBounds_toArray, List.set_cons_succ, List.set_cons_zero]
          refine hld_skip 13 rfl (by kernel_rfl) (by kernel_rfl) (by kernel_rfl) (fun _ _ _ h => h) rfl (by go_simp) ?_
          simp only [Act.put, List.setIfInBounds_toArray, List.set_cons_succ, List.set_cons_zero]
          refine hld_skip 14 rfl (by kernel_rfl) (by kernel_rfl) (by kernel_rfl) (fun _ _ _ h => h) rfl (by go_simp) ?_
          simp only [Act.put, List.setIfInBounds_toArray, List.set_cons_succ, List.set_cons_zero]
          refine hld_skip 15 rfl (by kernel_rfl) (by kernel_rfl) (by kernel_rfl) (fun _ _ _ h => h) rfl (by go_simp) ?_
          simp only [Act.put, List.setIfInBounds_toArray, List.set_cons_succ, List.set_cons_zero]
          refine hld_skip 16 rfl (by kernel_rfl) (by kernel_rfl) (by kernel_rfl) (fun _ _ _ h => h) rfl (by go_simp) ?_
          simp only [Act.put, List.setIfInBounds_toArray, List.set_cons_succ, List.set_cons_zero]
          refine hld_take 17 rfl (by kernel_rfl) (by kernel_rfl) (by kernel_rfl) (fun _ _ _ h => h) rfl (by go_simp) (by intro w' hw'; go_simp; rfl) ?_
          simp only [Act.put, List.setIfInBounds_toArray, List.set_cons_succ, List.set_cons_zero]
          refine hld_take 18 rfl (by kernel_rfl) (by kernel_rfl) (by kernel_rfl) (fun _ _ _ h => h) rfl (by go_simp) (by intro w' hw'; go_simp; rfl) ?_
          simp only [Act.put, List.setIfInBounds_toArray, List.set_cons_succ, List.set_cons_zero]
          refine hld_done (by kernel_rfl) ?_
          go_wp2_with fail
          go_ret
          refine ⟨ret_bool ?_, below_next HB1.out (below_next HBX.out HBM.out)⟩
          simp only [List.map_cons]
          rw [all_no1 HS.out, HM.out]; rfl
        · have HM := Lib.hid hm
          clear hm
          go_wp2_with fail
          refine hld_start (fun w' => w'.cell? ⟨tb, tq, none⟩ = some (.string x)) (by kernel_rfl) ?_
          refine hld_take 0 rfl (by kernel_rfl) (by kernel_rfl) (by kernel_rfl) (fun _ _ _ h => h) rfl (by go_simp) (by intro w' hw'; go_simp; rfl) ?_
          simp only [Act.put, List.setIfInBounds_toArray, List.set_cons_succ, List.set_cons_zero]
          refine hld_take 1 rfl (by kernel_rfl) (by kernel_rfl) (by kernel_rfl) (fun _ _ _ h => h) rfl (by go_simp) (by intro w' hw'; go_simp; rfl) ?_
          simp only [Act.put, List.setIfInBounds_toArray, List.set_cons_succ, List.set_cons_zero]
          refine hld_take 2 rfl (by kernel_rfl) (by kernel_rfl) (by kernel_rfl) (fun _ _ _ h => h) rfl (by go_simp) (by intro w' hw'; go_simp; rfl) ?_
          simp only [Act.put, List.setIfInBounds_toArray, List.set_cons_succ, List.set_cons_zero]
          refine hld_take 3 rfl (by kernel_rfl) (by kernel_rfl) (by kernel_rfl) (fun _ _ _ h => h) rfl (by go_simp) (by intro w' hw'; go_simp; rfl) ?_
          simp only [Act.put, List.setIfInBounds_toArray, List.set_cons_succ, List.set_cons_zero]
          refine hld_take 4 rfl (by kernel_rfl) (by kernel_rfl) (by kernel_rfl) (fun _ _ _ h => h) rfl (by go_simp) (by intro w' hw'; go_simp; rfl) ?_
          simp only [Act.put, List.setIfInBounds_toArray, List.set_cons_succ, List.set_cons_zero]
          refine hld_take 5 rfl (by kernel_rfl) (by kernel_rfl) (by kernel_rfl) (fun _ _ _ h => h) rfl (by go_simp) (by intro w' hw'; go_simp; rfl) ?_
          simp only [Act.put, List.setIfInBounds_toArray, List.set_cons_succ, List.set_cons_zero]
          refine hld_take 6 rfl (by kernel_rfl) (by kernel_rfl) (by kernel_rfl) (fun _ _ _ h => h) rfl (by go_simp) (by intro w' hw'; go_simp; rfl) ?_
          simp only [Act.put, List.setIfInBounds_toArray, List.set_cons_succ, List.set_cons_zero]
          refine hld_take 7 rfl (by kernel_rfl) (by kernel_rfl) (by kernel_rfl) (fun _ _ _ h => h) rfl (by go_simp) (by intro w' hw'; go_simp; rfl) ?_
          simp only [Act.put, List.setIfInBounds_toArray, List.set_cons_succ, List.set_cons_zero]
          refine hld_bar 8 rfl (by kernel_rfl) rfl (fun K hK => ?_)
          go_wp2_with fail
          refine ⟨(HBX.out.cell (p := ⟨tb, tq, none⟩) hlt1).trans d1, ?_⟩
          refine hld_bar 9 rfl (by kernel_rfl) rfl (fun K hK => ?_)
          go_wp2_with (go_at_call 72; refine (r_part_at p x ia il ic _ (fun _ => True) _ _ HM.out (HIX.out _ HBX.out) HRU.out).mono ?_; rintro e w2 ⟨rfl, hbm⟩; have d2 : w2.cell? ⟨tb, tq, none⟩ = some (.string x) := (hbm.cell (p := ⟨tb, tq, none⟩) (Nat.lt_of_lt_of_le hlt1 HBX.out.size)).trans ((HBX.out.cell (p := ⟨tb, tq, none⟩) hlt1).trans d1); have HBM := Lib.hid hbm; clear hbm)
          (first | (refine ⟨d2, ?_⟩) | skip)
          refine hld_take 10 rfl (by kernel_rfl) (by kernel_rfl) (by kernel_rfl) (fun _ _ _ h => h) rfl (by go_simp) (by intro w' hw'; go_simp; rfl) ?_
          simp only [Act.put, List.setIfInBounds_toArray, List.set_cons_succ, List.set_cons_zero]
          refine hld_take 11 rfl (by kernel_rfl) (by kernel_rfl) (by kernel_rfl) (fun _ _ _ h => h) rfl (by go_simp) (by intro w' hw'; go_simp; rfl) ?_
          simp only [Act.put, List.setIfInBounds_toArray, List.set_cons_succ, List.set_cons_zero]
          refine hld_take 12 rfl (by kernel_rfl) (by kernel_rfl) (by kernel_rfl) (fun _ _ _ h => h) rfl (by go_simp) (by intro w' hw'; go_simp; rfl) ?_
          simp only [Act.put, List.setIfInBounds_toArray, List.set_cons_succ, List.set_cons_zero]
          refine hld_take 13 rfl (by kernel_rfl) (by kernel_rfl) (by kernel_rfl) (fun _ _ _ h => h) rfl (by go_simp) (by intro w' hw'; go_simp; rfl) ?_
          simp only [Act.put, List.setIfInBounds_toArray, List.set_cons_succ, List.set_cons_zero]
          refine hld_take 14 rfl (by kernel_rfl) (by kernel_rfl) (by kernel_rfl) (fun _ _ _ h => h) rfl (by go_simp) (by intro w' hw'; go_simp; rfl) ?_
          simp only [Act.put, List.setIfInBounds_toArray, List.set_cons_succ, List.set_cons_zero]
          refine hld_take 15 rfl (by kernel_rfl) (by kernel_rfl) (by kernel_rfl) (fun _ _ _ h => h) rfl (by go_simp) (by intro w' hw'; go_simp; rfl) ?_
          simp only [Act.put, List.setIfInBounds_toArray, List.set_cons_succ, List.set_cons_zero]
          refine hld_bar 16 rfl (by kernel_rfl) rfl (fun K hK => ?_)
          go_wp2_with (go_at_call 48; refine (AllC.at HIH.out ps xs S (.slice (some ⟨b, o + 1, none⟩) ps.length (pc - 1)) (.slice (some ⟨tb, tq + 1, none⟩) xs.length (tc - 1)) w2 (by omega) (HTI1.out.below' (below_next HBX.out HBM.out)) (HTT1.out.below' (below_next HBX.out HBM.out)) HSP.out.tail HSX.out.tail).mono ?_; rintro e w3 ⟨rfl, hba⟩; have d3 : w3.cell? ⟨tb, tq, none⟩ = some (.string x) := (hba.cell (p := ⟨tb, tq, none⟩) (block_lt d2)).trans d2; have HBA := Lib.hid hba; clear hba)
          (first | (refine ⟨d3, ?_⟩) | skip)
          refine hld_take 17 rfl (by kernel_rfl) (by kernel_rfl) (by kernel_rfl) (fun _ _ _ h => h) rfl (by go_simp) (by intro w' hw'; go_simp; rfl) ?_
          simp only [Act.put, List.setIfInBounds_toArray, List.set_cons_succ, List.set_cons_zero]
          refine hld_take 18 rfl (by kernel_rfl) (by kernel_rfl) (by kernel_rfl) (fun _ _ _ h => h) rfl (by go_simp) (by intro w' hw'; go_simp; rfl) ?_
          simp only [Act.put, List.setIfInBounds_toArray, List.set_cons_succ, List.set_cons_zero]
          refine hld_done (by kernel_rfl) ?_
          go_wp2_with fail
          go_ret
          refine ⟨ret_bool ?_, below_next (below_next HB1.out (below_next HBX.out HBM.out)) HBA.out⟩
          simp only [List.map_cons]
          rw [all_no1 HS.out, HM.out]; rfl
theorem r_all_any : ∀ N, AllC N
  | 0 => fun ps xs S pv tv w hN hp ht _ _ => by
    have : ps = [] := List.eq_nil_of_length_eq_zero (by omega)
    subst this
    exact r_all_nil xs S pv tv w hp ht
  | N + 1 => fun ps xs S pv tv w hN hp ht h1 h2 => by
    cases ps with
    | nil => exact r_all_nil xs S pv tv w hp ht
    | cons p ps =>
      cases hst : isDbl (bl p)
      · exact r_all_set (N + 1) (r_all_any N) p ps xs S pv tv w hN hp ht h1 h2 hst
      · exact r_all_star (N + 1) (r_all_any N) p ps xs S pv tv w hN hp ht h1 h2 hst
theorem split_small (c : UInt8) {s : ByteArray} {xs : List ByteArray} (hx : xs.map bl = splitL c (bl s)) (hs : s.size ≤ 65536) : SmallS xs := fun x hm => by
  have := mem_split_le c (bl s) (bl x) (by rw [← hx]; exact List.mem_map.2 ⟨x, hm, rfl⟩)
  rw [← size_bl, ← size_bl] at this; omega
set_option maxHeartbeats 400000 in
theorem r_match_any (p s : ByteArray) (w : World) (hp : p.size ≤ 65536) (hs : s.size ≤ 65536) :
    Calls Tryd.prog 18 #[.string p, .string s] w fun e w' => e = .returned (.bool (allR (splitL 47 (bl p)) (splitL 47 (bl s)))) ∧ Below w.heap.size w w' := by
  go_enter Tryd.func18, Tryd.ntmps18
  go_wp2_with fail
  refine (r_divide_any p w (by omega)).mono ?_
  rintro e w1 ⟨v1, xs1, rfl, hx1, hv1, hb1⟩
  have HX1 := Lib.hid hx1
  have HV1 := Lib.hid hv1
  have HB1 := Lib.hid hb1
  obtain ⟨a1, c1, rfl, -, -, -⟩ := hv1.shape
  clear hx1 hv1 hb1
  go_wp2_with fail
  refine (r_divide_any s w1 (by omega)).mono ?_
  rintro e w2 ⟨v2, xs2, rfl, hx2, hv2, hb2⟩
  have HX2 := Lib.hid hx2
  have HB2 := Lib.hid hb2
  have HV1' := Lib.hid (show StrsAt (fun _ => True) w2 _ xs1 from RowAt.weak (RowAt.below HV1.out (by omega) hb2) (fun _ _ => trivial))
  have HV2 := Lib.hid (show StrsAt (fun _ => True) w2 _ xs2 from RowAt.weak hv2 (fun _ _ => trivial))
  obtain ⟨a2, c2, rfl, -, -, -⟩ := hv2.shape
  clear hx2 hv2 hb2
  go_wp2_with fail
  refine (AllC.at (r_all_any _) xs1 xs2 (fun _ => True) _ _ w2 (Nat.le_refl _) HV1'.out HV2.out (split_small 47 HX1.out hp) (split_small 47 HX2.out hs)).mono ?_
  rintro e w3 ⟨rfl, hb3⟩
  have HB3 := Lib.hid hb3
  clear hb3
  go_wp2_with fail
  go_ret
  exact ⟨ret_bool (by rw [HX1.out, HX2.out]), below_next (below_next HB1.out HB2.out) HB3.out⟩

end Go.Proofs.YtlipekkiaiaplaaDoor
