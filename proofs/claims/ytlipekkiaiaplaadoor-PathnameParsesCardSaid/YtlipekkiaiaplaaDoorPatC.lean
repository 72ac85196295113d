/- Contracts of package pathname's scanner: item. -/
import Derived.Test.YtlipekkiaiaplaaDoorPatB
namespace Go.Proofs.YtlipekkiaiaplaaDoor
open Go.RowKit

/-- The state inside item: the result's box is there. -/
structure ResInv (w : World) (sb : Nat) (rest : List Int) (wr : World) : Prop where
  scan : ScanAt wr sb rest
  res : wr.heap[w.heap.size]? = some (.cells #[.bool false, .bool false, .bool false, .slice none 0 0] 116 (0, 0))
  grow : w.grownBy wr (some sb)
  lt : sb < w.heap.size ∧ w.heap.size < wr.heap.size

theorem ResInv.start {w : World} {sb : Nat} {t : List Int} (hs : ScanAt w sb t) : ResInv w sb t (w.alloc (.cells #[.bool false, .bool false, .bool false, .slice none 0 0] 116)) :=
  ⟨scan_alloc hs _, heap_alloc_new _ _, World.grownBy_alloc _ _ _, hs.lt, by simp⟩
theorem ResInv.scanned {w : World} {sb : Nat} {rest rest' : List Int} {wr w1 : World} (h : ResInv w sb rest wr) (hs : ScanAt w1 sb rest') (hg : wr.grownBy w1 (some sb)) : ResInv w sb rest' w1 := by
  obtain ⟨_, hr, hgr, h1, h2⟩ := h
  refine ⟨hs, ?_, grownBy.trans hgr hg, h1, Nat.lt_of_lt_of_le h2 hg.size⟩
  rw [hg.block _ h2 (by simp; omega)]; exact hr
theorem ResInv.alloc {w : World} {sb : Nat} {rest : List Int} {wr : World} (h : ResInv w sb rest wr) (o : Obj) : ResInv w sb rest (wr.alloc o) :=
  h.scanned (scan_alloc h.scan _) (World.grownBy_alloc _ _ _)
/-- What is left when the result's box is written. -/
theorem ResInv.done {w : World} {sb : Nat} {rest : List Int} {wr W : World} (h : ResInv w sb rest wr) (hg : wr.grownBy W (some w.heap.size)) : ScanAt W sb rest ∧ w.grownBy W (some sb) := by
  obtain ⟨⟨sv, hs1, hs2⟩, hr, hgr, h1, h2⟩ := h
  refine ⟨⟨sv, by rw [hg.block sb (by omega) (by simp; omega)]; exact hs1, hs2.same (fun k hk => hg.block k (by omega) (by simp; omega))⟩, ?_⟩
  exact ⟨hg.os.trans hgr.os, hg.tape.trans hgr.tape, hg.output.trans hgr.output, Nat.le_trans hgr.size hg.size, fun k hk hk2 => (hg.block k (by have := hgr.size; omega) (by simp; omega)).trans (hgr.block k hk hk2)⟩

def ItemBad (sb : Nat) (w : World) (e : Ending) (w' : World) : Prop :=
  ∃ a b c x n cp u, e = .returned (.tuple #[.agg #[.bool a, .bool b, .bool c, .slice x n cp], .bool false]) ∧ ScanAt w' sb u ∧ w.grownBy w' (some sb)
def ItemRes (sb : Nat) (o : Option (PItem × List Int)) (w : World) (e : Ending) (w' : World) : Prop :=
  match o with
  | some (it, u) => ClsOk sb it u w e w'
  | none => ItemBad sb w e w'

theorem ranges_new {w W : World} {B : Nat} {r : Int} {cap : Nat} (hb : B ≤ w.heap.size) (hc : 1 ≤ cap ∧ cap ≤ maxLen) (h : W.heap[w.heap.size]? = (w.alloc (.cells #[.int .i32 r, .int .i32 r] 141)).heap[w.heap.size]?) : RangesAt (B ≤ ·) W (.slice (some ⟨w.heap.size, 0, none⟩) 1 cap) [(r, r)] := by
  rw [heap_alloc_new] at h
  refine ⟨rfl, _, cap, rfl, hc.1, hc.2, .inr ⟨w.heap.size, 0, rfl, hb, fun j u hj => ?_⟩⟩
  rw [Nat.zero_add, cell_of_heap h]
  simpa [flatR] using hj


set_option maxHeartbeats 2000000 in
theorem item_any (sb : Nat) (r : Int) (t : List Int) (w : World) (h : ScanAt w sb (r :: t)) (ht : t.length < 1099511627775) : Calls Tryd.prog 84 #[.pointer (some ⟨sb, 0, none⟩)] w (ItemRes sb (itemS (r :: t)) w) := by
  have hlt := h.lt
  have H0 := Lib.hid (ResInv.start h)
  clear h
  go_enter Tryd.func84, Tryd.ntmps84
  go_wp2_with fail
  refine (take_cons sb r t _ H0.out.scan).mono ?_
  rintro e w1 ⟨rfl, h1, hg1⟩
  have HI1 := Lib.hid (H0.out.scanned h1 hg1)
  clear h1 hg1 H0
  by_cases h42 : r = 42
  · have hi : itemS (r :: t) = some (starI, t) := by rw [itemS, if_pos h42]
    rw [hi]
    subst h42
    have hres := HI1.out.res
    have r0 : w1.cell? ⟨w.heap.size, 0, none⟩ = some (.bool false) := by rw [cell_of_heap hres]; rfl
    have r1 : w1.cell? ⟨w.heap.size, 1, none⟩ = some (.bool false) := by rw [cell_of_heap hres]; rfl
    have r2 : w1.cell? ⟨w.heap.size, 2, none⟩ = some (.bool false) := by rw [cell_of_heap hres]; rfl
    have r3 : w1.cell? ⟨w.heap.size, 3, none⟩ = some (.slice none 0 0) := by rw [cell_of_heap hres]; rfl
    have f0 : w1.frozen? ⟨w.heap.size, 0, none⟩ = false := frozen_of_heap hres
    have f1 : w1.frozen? ⟨w.heap.size, 1, none⟩ = false := frozen_of_heap hres
    have f2 : w1.frozen? ⟨w.heap.size, 2, none⟩ = false := frozen_of_heap hres
    have f3 : w1.frozen? ⟨w.heap.size, 3, none⟩ = false := frozen_of_heap hres
    have HR := Lib.hid hres
    clear hres
    go_wp2_with fail
    obtain ⟨W, hW⟩ : ∃ W, W = ((((w1.setCell ⟨w.heap.size, 0, none⟩ (.bool true)).setCell ⟨w.heap.size, 1, none⟩ (.bool false)).setCell ⟨w.heap.size, 2, none⟩ (.bool false)).setCell ⟨w.heap.size, 3, none⟩ (.slice none 0 0)) := ⟨_, rfl⟩
    rw [← hW]
    have h4 := set4 HR.out (.bool true) (.bool false) (.bool false) (.slice none 0 0)
    rw [← hW] at h4
    obtain ⟨h41, h42⟩ := h4
    have m0 : W.cell? ⟨w.heap.size, 0, none⟩ = some (.bool true) := by rw [cell_of_heap h41]; rfl
    have m1 : W.cell? ⟨w.heap.size, 1, none⟩ = some (.bool false) := by rw [cell_of_heap h41]; rfl
    have m2 : W.cell? ⟨w.heap.size, 2, none⟩ = some (.bool false) := by rw [cell_of_heap h41]; rfl
    have m3 : W.cell? ⟨w.heap.size, 3, none⟩ = some (.slice none 0 0) := by rw [cell_of_heap h41]; rfl
    clear hW
    refine bodyPost_ret (v := .tuple #[.agg #[.bool true, .bool false, .bool false, .slice none 0 0], .bool true]) (by simp [results, Tryd.results84, go_sem, m0, m1, m2, m3]) rfl ?_
    obtain ⟨hs, hg⟩ := HI1.out.done h42
    exact ⟨_, rfl, RowAt.nil _ _ _, hs, hg⟩
  · have e42 : (r == 42) = false := by simpa using h42
    by_cases h63 : r = 63
    · have hi : itemS (r :: t) = some (anyI, t) := by rw [itemS, if_neg h42, if_pos h63]
      rw [hi]
      subst h63
      clear h42
      have hres := HI1.out.res
      have r0 : w1.cell? ⟨w.heap.size, 0, none⟩ = some (.bool false) := by rw [cell_of_heap hres]; rfl
      have r1 : w1.cell? ⟨w.heap.size, 1, none⟩ = some (.bool false) := by rw [cell_of_heap hres]; rfl
      have r2 : w1.cell? ⟨w.heap.size, 2, none⟩ = some (.bool false) := by rw [cell_of_heap hres]; rfl
      have r3 : w1.cell? ⟨w.heap.size, 3, none⟩ = some (.slice none 0 0) := by rw [cell_of_heap hres]; rfl
      have f0 : w1.frozen? ⟨w.heap.size, 0, none⟩ = false := frozen_of_heap hres
      have f1 : w1.frozen? ⟨w.heap.size, 1, none⟩ = false := frozen_of_heap hres
      have f2 : w1.frozen? ⟨w.heap.size, 2, none⟩ = false := frozen_of_heap hres
      have f3 : w1.frozen? ⟨w.heap.size, 3, none⟩ = false := frozen_of_heap hres
      have HR := Lib.hid hres
      clear hres
      go_wp2_with fail
      obtain ⟨W, hW⟩ : ∃ W, W = ((((w1.setCell ⟨w.heap.size, 0, none⟩ (.bool false)).setCell ⟨w.heap.size, 1, none⟩ (.bool true)).setCell ⟨w.heap.size, 2, none⟩ (.bool false)).setCell ⟨w.heap.size, 3, none⟩ (.slice none 0 0)) := ⟨_, rfl⟩
      rw [← hW]
      have h4 := set4 HR.out (.bool false) (.bool true) (.bool false) (.slice none 0 0)
      rw [← hW] at h4
      obtain ⟨h41, h42⟩ := h4
      have m0 : W.cell? ⟨w.heap.size, 0, none⟩ = some (.bool false) := by rw [cell_of_heap h41]; rfl
      have m1 : W.cell? ⟨w.heap.size, 1, none⟩ = some (.bool true) := by rw [cell_of_heap h41]; rfl
      have m2 : W.cell? ⟨w.heap.size, 2, none⟩ = some (.bool false) := by rw [cell_of_heap h41]; rfl
      have m3 : W.cell? ⟨w.heap.size, 3, none⟩ = some (.slice none 0 0) := by rw [cell_of_heap h41]; rfl
      clear hW
      refine bodyPost_ret (v := .tuple #[.agg #[.bool false, .bool true, .bool false, .slice none 0 0], .bool true]) (by simp [results, Tryd.results84, go_sem, m0, m1, m2, m3]) rfl ?_
      obtain ⟨hs, hg⟩ := HI1.out.done h42
      exact ⟨_, rfl, RowAt.nil _ _ _, hs, hg⟩
    · have e63 : (r == 63) = false := by simpa using h63
      by_cases h91 : r = 91
      · have hi : itemS (r :: t) = clsS t := by rw [itemS, if_neg h42, if_neg h63, if_pos h91]
        have HIi := Lib.hid hi
        subst h91
        clear h42 h63 hi
        go_wp2_with fail
        cases hc : clsS t with
        | none =>
          have HCl := Lib.hid hc
          clear hc
          refine (class_any sb t w1 HI1.out.scan ht).mono ?_
          rw [HCl.out]
          rintro e w2 ⟨bn, u, rfl, hs2, hg2⟩
          have HI2 := Lib.hid (HI1.out.scanned hs2 hg2)
          clear hs2 hg2
          have hres := HI2.out.res
          have r0 : w2.cell? ⟨w.heap.size, 0, none⟩ = some (.bool false) := by rw [cell_of_heap hres]; rfl
          have r1 : w2.cell? ⟨w.heap.size, 1, none⟩ = some (.bool false) := by rw [cell_of_heap hres]; rfl
          have r2 : w2.cell? ⟨w.heap.size, 2, none⟩ = some (.bool false) := by rw [cell_of_heap hres]; rfl
          have r3 : w2.cell? ⟨w.heap.size, 3, none⟩ = some (.slice none 0 0) := by rw [cell_of_heap hres]; rfl
          have f0 : w2.frozen? ⟨w.heap.size, 0, none⟩ = false := frozen_of_heap hres
          have f1 : w2.frozen? ⟨w.heap.size, 1, none⟩ = false := frozen_of_heap hres
          have f2 : w2.frozen? ⟨w.heap.size, 2, none⟩ = false := frozen_of_heap hres
          have f3 : w2.frozen? ⟨w.heap.size, 3, none⟩ = false := frozen_of_heap hres
          have HR := Lib.hid hres
          clear hres
          go_wp2_with fail
          obtain ⟨W, hW⟩ : ∃ W, W = ((((w2.setCell ⟨w.heap.size, 0, none⟩ (.bool false)).setCell ⟨w.heap.size, 1, none⟩ (.bool false)).setCell ⟨w.heap.size, 2, none⟩ (.bool bn)).setCell ⟨w.heap.size, 3, none⟩ (.slice none 0 0)) := ⟨_, rfl⟩
          rw [← hW]
          have h4 := set4 HR.out (.bool false) (.bool false) (.bool bn) (.slice none 0 0)
          rw [← hW] at h4
          obtain ⟨h41, h42⟩ := h4
          have m0 : W.cell? ⟨w.heap.size, 0, none⟩ = some (.bool false) := by rw [cell_of_heap h41]; rfl
          have m1 : W.cell? ⟨w.heap.size, 1, none⟩ = some (.bool false) := by rw [cell_of_heap h41]; rfl
          have m2 : W.cell? ⟨w.heap.size, 2, none⟩ = some (.bool bn) := by rw [cell_of_heap h41]; rfl
          have m3 : W.cell? ⟨w.heap.size, 3, none⟩ = some (.slice none 0 0) := by rw [cell_of_heap h41]; rfl
          clear hW
          refine bodyPost_ret (v := .tuple #[.agg #[.bool false, .bool false, .bool bn, .slice none 0 0], .bool false]) (by simp [results, Tryd.results84, go_sem, m0, m1, m2, m3]) rfl ?_
          obtain ⟨hs, hg⟩ := HI2.out.done h42
          rw [HIi.out, HCl.out]
          exact ⟨_, _, _, _, _, _, _, rfl, hs, hg⟩
        | some p =>
          obtain ⟨it, u⟩ := p
          have HCl := Lib.hid hc
          clear hc
          refine (class_any sb t w1 HI1.out.scan ht).mono ?_
          rw [HCl.out]
          rintro e w2 ⟨v, rfl, hr2, hs2, hg2⟩
          obtain ⟨_, av, cv, rfl, _⟩ := id hr2
          have HR2 := Lib.hid hr2
          have HI2 := Lib.hid (HI1.out.scanned hs2 hg2)
          clear hs2 hg2 hr2
          have hres := HI2.out.res
          have r0 : w2.cell? ⟨w.heap.size, 0, none⟩ = some (.bool false) := by rw [cell_of_heap hres]; rfl
          have r1 : w2.cell? ⟨w.heap.size, 1, none⟩ = some (.bool false) := by rw [cell_of_heap hres]; rfl
          have r2 : w2.cell? ⟨w.heap.size, 2, none⟩ = some (.bool false) := by rw [cell_of_heap hres]; rfl
          have r3 : w2.cell? ⟨w.heap.size, 3, none⟩ = some (.slice none 0 0) := by rw [cell_of_heap hres]; rfl
          have f0 : w2.frozen? ⟨w.heap.size, 0, none⟩ = false := frozen_of_heap hres
          have f1 : w2.frozen? ⟨w.heap.size, 1, none⟩ = false := frozen_of_heap hres
          have f2 : w2.frozen? ⟨w.heap.size, 2, none⟩ = false := frozen_of_heap hres
          have f3 : w2.frozen? ⟨w.heap.size, 3, none⟩ = false := frozen_of_heap hres
          have HR := Lib.hid hres
          clear hres
          go_wp2_with fail
          obtain ⟨W, hW⟩ : ∃ W, W = ((((w2.setCell ⟨w.heap.size, 0, none⟩ (.bool it.star)).setCell ⟨w.heap.size, 1, none⟩ (.bool it.any)).setCell ⟨w.heap.size, 2, none⟩ (.bool it.neg)).setCell ⟨w.heap.size, 3, none⟩ (.slice av it.ranges.length cv)) := ⟨_, rfl⟩
          rw [← hW]
          have h4 := set4 HR.out (.bool it.star) (.bool it.any) (.bool it.neg) (.slice av it.ranges.length cv)
          rw [← hW] at h4
          obtain ⟨h41, h42⟩ := h4
          have m0 : W.cell? ⟨w.heap.size, 0, none⟩ = some (.bool it.star) := by rw [cell_of_heap h41]; rfl
          have m1 : W.cell? ⟨w.heap.size, 1, none⟩ = some (.bool it.any) := by rw [cell_of_heap h41]; rfl
          have m2 : W.cell? ⟨w.heap.size, 2, none⟩ = some (.bool it.neg) := by rw [cell_of_heap h41]; rfl
          have m3 : W.cell? ⟨w.heap.size, 3, none⟩ = some (.slice av it.ranges.length cv) := by rw [cell_of_heap h41]; rfl
          clear hW
          refine bodyPost_ret (v := .tuple #[.agg #[.bool it.star, .bool it.any, .bool it.neg, .slice av it.ranges.length cv], .bool true]) (by simp [results, Tryd.results84, go_sem, m0, m1, m2, m3]) rfl ?_
          obtain ⟨hs, hg⟩ := HI2.out.done h42
          rw [HIi.out, HCl.out]
          have hb1 := HI1.out.lt
          refine ⟨_, rfl, ?_, hs, hg⟩
          have h5 := HR2.out.mono (T := fun k => w1.heap.size ≤ k ∧ k < w2.heap.size) (fun k h1 h2 => ⟨h2, h1⟩) (by omega)
          exact (h5.same (w' := W) (fun k hk => h42.block k hk.2 (by simp; omega))).weak (fun k hk => by omega)
      · have e91 : (r == 91) = false := by simpa using h91
        by_cases h92 : r = 92
        · subst h92
          clear h42 h63 h91
          go_wp2_with fail
          cases t with
          | nil =>
            have hi : itemS [92] = none := rfl
            have HIi := Lib.hid hi
            clear hi
            refine (take_nil sb w1 HI1.out.scan).mono ?_
            rintro e w2 ⟨rfl, h2, hg2⟩
            have HI3 := Lib.hid (HI1.out.scanned h2 hg2)
            clear h2 hg2
            have HI2 := Lib.hid (HI3.out.alloc (.cells #[.int .i32 0, .int .i32 0] 141))
            have hres := HI2.out.res
            have r0 : (w2.alloc (.cells #[.int .i32 0, .int .i32 0] 141)).cell? ⟨w.heap.size, 0, none⟩ = some (.bool false) := by rw [cell_of_heap hres]; rfl
            have r1 : (w2.alloc (.cells #[.int .i32 0, .int .i32 0] 141)).cell? ⟨w.heap.size, 1, none⟩ = some (.bool false) := by rw [cell_of_heap hres]; rfl
            have r2 : (w2.alloc (.cells #[.int .i32 0, .int .i32 0] 141)).cell? ⟨w.heap.size, 2, none⟩ = some (.bool false) := by rw [cell_of_heap hres]; rfl
            have r3 : (w2.alloc (.cells #[.int .i32 0, .int .i32 0] 141)).cell? ⟨w.heap.size, 3, none⟩ = some (.slice none 0 0) := by rw [cell_of_heap hres]; rfl
            have f0 : (w2.alloc (.cells #[.int .i32 0, .int .i32 0] 141)).frozen? ⟨w.heap.size, 0, none⟩ = false := frozen_of_heap hres
            have f1 : (w2.alloc (.cells #[.int .i32 0, .int .i32 0] 141)).frozen? ⟨w.heap.size, 1, none⟩ = false := frozen_of_heap hres
            have f2 : (w2.alloc (.cells #[.int .i32 0, .int .i32 0] 141)).frozen? ⟨w.heap.size, 2, none⟩ = false := frozen_of_heap hres
            have f3 : (w2.alloc (.cells #[.int .i32 0, .int .i32 0] 141)).frozen? ⟨w.heap.size, 3, none⟩ = false := frozen_of_heap hres
            have HR := Lib.hid hres
            clear hres
            go_wp2_with fail
            obtain ⟨W, hW⟩ : ∃ W, W = (((((w2.alloc (.cells #[.int .i32 0, .int .i32 0] 141)).setCell ⟨w.heap.size, 0, none⟩ (.bool false)).setCell ⟨w.heap.size, 1, none⟩ (.bool false)).setCell ⟨w.heap.size, 2, none⟩ (.bool false)).setCell ⟨w.heap.size, 3, none⟩ (.slice (some ⟨w2.heap.size, 0, none⟩) 1 1)) := ⟨_, rfl⟩
            rw [← hW]
            have h4 := set4 HR.out (.bool false) (.bool false) (.bool false) (.slice (some ⟨w2.heap.size, 0, none⟩) 1 1)
            rw [← hW] at h4
            obtain ⟨h41, h42⟩ := h4
            have m0 : W.cell? ⟨w.heap.size, 0, none⟩ = some (.bool false) := by rw [cell_of_heap h41]; rfl
            have m1 : W.cell? ⟨w.heap.size, 1, none⟩ = some (.bool false) := by rw [cell_of_heap h41]; rfl
            have m2 : W.cell? ⟨w.heap.size, 2, none⟩ = some (.bool false) := by rw [cell_of_heap h41]; rfl
            have m3 : W.cell? ⟨w.heap.size, 3, none⟩ = some (.slice (some ⟨w2.heap.size, 0, none⟩) 1 1) := by rw [cell_of_heap h41]; rfl
            clear hW
            refine bodyPost_ret (v := .tuple #[.agg #[.bool false, .bool false, .bool false, .slice (some ⟨w2.heap.size, 0, none⟩) 1 1], .bool false]) (by simp [results, Tryd.results84, go_sem, m0, m1, m2, m3]) rfl ?_
            obtain ⟨hs, hg⟩ := HI2.out.done h42
            rw [HIi.out]
            have hb2 := HI2.out.lt
            have hb1 := HI3.out.lt
            have hrg := ranges_new (W := W) (B := w.heap.size) (r := 0) (cap := 1) (w := w2) (by omega) ⟨Nat.le_refl _, by unfold maxLen; omega⟩ (h42.block _ (by simp) (by simp; omega))
            first | exact ⟨_, rfl, hrg, hs, hg⟩ | exact ⟨_, _, _, _, _, _, _, rfl, hs, hg⟩
          | cons q u =>
            have hi : itemS (92 :: q :: u) = some (litI q, u) := rfl
            have HIi := Lib.hid hi
            clear hi
            refine (take_cons sb q u w1 HI1.out.scan).mono ?_
            rintro e w2 ⟨rfl, h2, hg2⟩
            have HI3 := Lib.hid (HI1.out.scanned h2 hg2)
            clear h2 hg2
            have HI2 := Lib.hid (HI3.out.alloc (.cells #[.int .i32 q, .int .i32 q] 141))
            have hres := HI2.out.res
            have r0 : (w2.alloc (.cells #[.int .i32 q, .int .i32 q] 141)).cell? ⟨w.heap.size, 0, none⟩ = some (.bool false) := by rw [cell_of_heap hres]; rfl
            have r1 : (w2.alloc (.cells #[.int .i32 q, .int .i32 q] 141)).cell? ⟨w.heap.size, 1, none⟩ = some (.bool false) := by rw [cell_of_heap hres]; rfl
            have r2 : (w2.alloc (.cells #[.int .i32 q, .int .i32 q] 141)).cell? ⟨w.heap.size, 2, none⟩ = some (.bool false) := by rw [cell_of_heap hres]; rfl
            have r3 : (w2.alloc (.cells #[.int .i32 q, .int .i32 q] 141)).cell? ⟨w.heap.size, 3, none⟩ = some (.slice none 0 0) := by rw [cell_of_heap hres]; rfl
            have f0 : (w2.alloc (.cells #[.int .i32 q, .int .i32 q] 141)).frozen? ⟨w.heap.size, 0, none⟩ = false := frozen_of_heap hres
            have f1 : (w2.alloc (.cells #[.int .i32 q, .int .i32 q] 141)).frozen? ⟨w.heap.size, 1, none⟩ = false := frozen_of_heap hres
            have f2 : (w2.alloc (.cells #[.int .i32 q, .int .i32 q] 141)).frozen? ⟨w.heap.size, 2, none⟩ = false := frozen_of_heap hres
            have f3 : (w2.alloc (.cells #[.int .i32 q, .int .i32 q] 141)).frozen? ⟨w.heap.size, 3, none⟩ = false := frozen_of_heap hres
            have HR := Lib.hid hres
            clear hres
            go_wp2_with fail
            obtain ⟨W, hW⟩ : ∃ W, W = (((((w2.alloc (.cells #[.int .i32 q, .int .i32 q] 141)).setCell ⟨w.heap.size, 0, none⟩ (.bool false)).setCell ⟨w.heap.size, 1, none⟩ (.bool false)).setCell ⟨w.heap.size, 2, none⟩ (.bool false)).setCell ⟨w.heap.size, 3, none⟩ (.slice (some ⟨w2.heap.size, 0, none⟩) 1 1)) := ⟨_, rfl⟩
            rw [← hW]
            have h4 := set4 HR.out (.bool false) (.bool false) (.bool false) (.slice (some ⟨w2.heap.size, 0, none⟩) 1 1)
            rw [← hW] at h4
            obtain ⟨h41, h42⟩ := h4
            have m0 : W.cell? ⟨w.heap.size, 0, none⟩ = some (.bool false) := by rw [cell_of_heap h41]; rfl
            have m1 : W.cell? ⟨w.heap.size, 1, none⟩ = some (.bool false) := by rw [cell_of_heap h41]; rfl
            have m2 : W.cell? ⟨w.heap.size, 2, none⟩ = some (.bool false) := by rw [cell_of_heap h41]; rfl
            have m3 : W.cell? ⟨w.heap.size, 3, none⟩ = some (.slice (some ⟨w2.heap.size, 0, none⟩) 1 1) := by rw [cell_of_heap h41]; rfl
            clear hW
            refine bodyPost_ret (v := .tuple #[.agg #[.bool false, .bool false, .bool false, .slice (some ⟨w2.heap.size, 0, none⟩) 1 1], .bool true]) (by simp [results, Tryd.results84, go_sem, m0, m1, m2, m3]) rfl ?_
            obtain ⟨hs, hg⟩ := HI2.out.done h42
            rw [HIi.out]
            have hb2 := HI2.out.lt
            have hb1 := HI3.out.lt
            have hrg := ranges_new (W := W) (B := w.heap.size) (r := q) (cap := 1) (w := w2) (by omega) ⟨Nat.le_refl _, by unfold maxLen; omega⟩ (h42.block _ (by simp) (by simp; omega))
            first | exact ⟨_, rfl, hrg, hs, hg⟩ | exact ⟨_, _, _, _, _, _, _, rfl, hs, hg⟩
        · have e92 : (r == 92) = false := by simpa using h92
          have hi : itemS (r :: t) = some (litI r, t) := by rw [itemS, if_neg h42, if_neg h63, if_neg h91, if_neg h92]
          have HIi := Lib.hid hi
          clear h42 h63 h91 h92 hi
          have HI2 := Lib.hid (HI1.out.alloc (.cells #[.int .i32 r, .int .i32 r] 141))
          have hres := HI2.out.res
          have r0 : (w1.alloc (.cells #[.int .i32 r, .int .i32 r] 141)).cell? ⟨w.heap.size, 0, none⟩ = some (.bool false) := by rw [cell_of_heap hres]; rfl
          have r1 : (w1.alloc (.cells #[.int .i32 r, .int .i32 r] 141)).cell? ⟨w.heap.size, 1, none⟩ = some (.bool false) := by rw [cell_of_heap hres]; rfl
          have r2 : (w1.alloc (.cells #[.int .i32 r, .int .i32 r] 141)).cell? ⟨w.heap.size, 2, none⟩ = some (.bool false) := by rw [cell_of_heap hres]; rfl
          have r3 : (w1.alloc (.cells #[.int .i32 r, .int .i32 r] 141)).cell? ⟨w.heap.size, 3, none⟩ = some (.slice none 0 0) := by rw [cell_of_heap hres]; rfl
          have f0 : (w1.alloc (.cells #[.int .i32 r, .int .i32 r] 141)).frozen? ⟨w.heap.size, 0, none⟩ = false := frozen_of_heap hres
          have f1 : (w1.alloc (.cells #[.int .i32 r, .int .i32 r] 141)).frozen? ⟨w.heap.size, 1, none⟩ = false := frozen_of_heap hres
          have f2 : (w1.alloc (.cells #[.int .i32 r, .int .i32 r] 141)).frozen? ⟨w.heap.size, 2, none⟩ = false := frozen_of_heap hres
          have f3 : (w1.alloc (.cells #[.int .i32 r, .int .i32 r] 141)).frozen? ⟨w.heap.size, 3, none⟩ = false := frozen_of_heap hres
          have HR := Lib.hid hres
          clear hres
          go_wp2_with fail
          obtain ⟨W, hW⟩ : ∃ W, W = (((((w1.alloc (.cells #[.int .i32 r, .int .i32 r] 141)).setCell ⟨w.heap.size, 0, none⟩ (.bool false)).setCell ⟨w.heap.size, 1, none⟩ (.bool false)).setCell ⟨w.heap.size, 2, none⟩ (.bool false)).setCell ⟨w.heap.size, 3, none⟩ (.slice (some ⟨w1.heap.size, 0, none⟩) 1 1)) := ⟨_, rfl⟩
          rw [← hW]
          have h4 := set4 HR.out (.bool false) (.bool false) (.bool false) (.slice (some ⟨w1.heap.size, 0, none⟩) 1 1)
          rw [← hW] at h4
          obtain ⟨h41, h42⟩ := h4
          have m0 : W.cell? ⟨w.heap.size, 0, none⟩ = some (.bool false) := by rw [cell_of_heap h41]; rfl
          have m1 : W.cell? ⟨w.heap.size, 1, none⟩ = some (.bool false) := by rw [cell_of_heap h41]; rfl
          have m2 : W.cell? ⟨w.heap.size, 2, none⟩ = some (.bool false) := by rw [cell_of_heap h41]; rfl
          have m3 : W.cell? ⟨w.heap.size, 3, none⟩ = some (.slice (some ⟨w1.heap.size, 0, none⟩) 1 1) := by rw [cell_of_heap h41]; rfl
          clear hW
          refine bodyPost_ret (v := .tuple #[.agg #[.bool false, .bool false, .bool false, .slice (some ⟨w1.heap.size, 0, none⟩) 1 1], .bool true]) (by simp [results, Tryd.results84, go_sem, m0, m1, m2, m3]) rfl ?_
          obtain ⟨hs, hg⟩ := HI2.out.done h42
          rw [HIi.out]
          have hb2 := HI2.out.lt
          have hb1 := HI1.out.lt
          have hrg := ranges_new (W := W) (B := w.heap.size) (r := r) (cap := 1) (w := w1) (by omega) ⟨Nat.le_refl _, by unfold maxLen; omega⟩ (h42.block _ (by simp) (by simp; omega))
          first | exact ⟨_, rfl, hrg, hs, hg⟩ | exact ⟨_, _, _, _, _, _, _, rfl, hs, hg⟩

end Go.Proofs.YtlipekkiaiaplaaDoor
