/- Contracts of package pathname's scanner: class, item, items. -/
import Derived.Test.YtlipekkiaiaplaaDoorPatA
namespace Go.Proofs.YtlipekkiaiaplaaDoor
open Go.RowKit

def flatR (rs : List (Int × Int)) : List Value := rs.flatMap fun x => [.int .i32 x.1, .int .i32 x.2]
theorem flatR_len (rs : List (Int × Int)) : (flatR rs).length = rs.length * 2 := by
  induction rs with
  | nil => rfl
  | cons x r ih => simp [flatR] at *; omega
def RangesAt (S : Nat → Prop) (w : World) (v : Value) (rs : List (Int × Int)) : Prop := RowAt S w 2 v rs.length (flatR rs)

theorem Tryd.appRanges : AppTy Tryd.prog 114 141 2 8 := AppTy.mk' (z := .agg #[.int .i32 0, .int .i32 0]) Tryd.underlying114 (by kernel_rfl) rfl (by decide) (by decide)

/-- The state inside class's loop. -/
structure ClsInv (w : World) (sb rb tb : Nat) (neg : Bool) (rest : List Int) (acc : List (Int × Int)) (v : Value) (wr : World) : Prop where
  scan : ScanAt wr sb rest
  res : wr.heap[rb]? = some (.cells #[.bool false, .bool false, .bool false, .slice none 0 0] 116 (0, 0))
  box : wr.heap[tb]? = some (.cells #[.bool false, .bool false, .bool neg, v] 116 (0, 0))
  own : wr.ownsRow (tb + 1) 141 2 v acc.length (flatR acc)
  nil : acc = [] → v = .slice none 0 0
  grow : w.grownBy wr (some sb)
  lt : sb < rb ∧ w.heap.size ≤ rb ∧ rb < tb ∧ tb < wr.heap.size

/-- A method of the scanner is called. -/
theorem ClsInv.scanned {w : World} {sb rb tb : Nat} {neg : Bool} {rest rest' : List Int} {acc : List (Int × Int)} {v : Value} {wr w1 : World} (h : ClsInv w sb rb tb neg rest acc v wr) (hs : ScanAt w1 sb rest') (hg : wr.grownBy w1 (some sb)) : ClsInv w sb rb tb neg rest' acc v w1 := by
  obtain ⟨_, hr, hb, ho, hn, hgr, h1, h2, h3, h4⟩ := h
  refine ⟨hs, ?_, ?_, ?_, hn, grownBy.trans hgr hg, h1, h2, h3, Nat.lt_of_lt_of_le h4 hg.size⟩
  · rw [hg.block rb (by omega) (by simp; omega)]; exact hr
  · rw [hg.block tb h4 (by simp; omega)]; exact hb
  · refine ho.kept hg ?_
    cases hv : v.ownBlock with
    | none => exact .inl rfl
    | some k => right; have := (ho.lt k hv).1; simp; omega
/-- A range is appended. -/
theorem ClsInv.added {w : World} {sb rb tb : Nat} {neg : Bool} {rest : List Int} {acc : List (Int × Int)} {v v' : Value} {wr w1 : World} {lo hi : Int} (h : ClsInv w sb rb tb neg rest acc v wr)
    (ho : w1.ownsRow (tb + 1) 141 2 v' (acc.length + 1) (flatR acc ++ [.int .i32 lo, .int .i32 hi])) (hg : wr.grownBy w1 v.ownBlock) : ClsInv w sb rb tb neg rest (acc ++ [(lo, hi)]) v' (w1.setCell ⟨tb, 3, none⟩ v') ∧ w1.cell? ⟨tb, 3, none⟩ = some v ∧ w1.frozen? ⟨tb, 3, none⟩ = false := by
  have hI := h
  obtain ⟨⟨sv, hs1, hs2⟩, hr, hb, ho0, hn, hgr, h1, h2, h3, h4⟩ := h
  have hne : ∀ k, k < tb + 1 → k < wr.heap.size → w1.heap[k]? = wr.heap[k]? := fun k hk hk2 => hg.block k hk2 (fun e => by have := (ho0.lt k e.symm).1; omega)
  have htb : w1.heap[tb]? = some (.cells #[.bool false, .bool false, .bool neg, v] 116 (0, 0)) := by rw [hne tb (by omega) h4]; exact hb
  refine ⟨⟨⟨sv, ?_, ?_⟩, ?_, ?_, ?_, by simp, ?_, h1, h2, h3, ?_⟩, by rw [cell_of_heap htb]; simp, frozen_of_heap htb⟩
  · rw [Below.heap_setCell _ _ _ _ (by simp; omega), hne sb (by omega) (by omega)]; exact hs1
  · refine hs2.same (fun k hk => ?_)
    rw [Below.heap_setCell _ _ _ _ (by simp; omega), hne k (by omega) (by omega)]
  · rw [Below.heap_setCell _ _ _ _ (by simp; omega), hne rb (by omega) (by omega)]; exact hr
  · simp only [World.setCell, Array.getElem?_modify, if_true, htb]; rfl
  · have := ownsRow_setCell_below ho (a := ⟨tb, 3, none⟩) (by simp) v'
    simpa [flatR] using this
  · refine ⟨hg.os.trans hgr.os, hg.tape.trans hgr.tape, hg.output.trans hgr.output, by have := hg.size; have := hgr.size; simp [World.setCell]; omega, fun k hk hr2 => ?_⟩
    rw [Below.heap_setCell _ _ _ _ (by simp; omega), hne k (by omega) (by have := hgr.size; omega)]
    exact hgr.block k hk hr2
  · have := hg.size; simp [World.setCell]; omega


theorem scan_alloc {w : World} {sb : Nat} {rs : List Int} (h : ScanAt w sb rs) (o : Obj) : ScanAt (w.alloc o) sb rs := h.grown ((Below.refl _ _).alloc (Nat.le_refl _) _)

theorem ClsInv.start {w w1 : World} {sb : Nat} {t : List Int} {neg : Bool} (hsb : sb < w.heap.size) (hs : ScanAt w1 sb t) (hg : (w.alloc (.cells #[.bool false, .bool false, .bool false, .slice none 0 0] 116)).grownBy w1 (some sb)) :
    ClsInv w sb w.heap.size w1.heap.size neg t [] (.slice none 0 0) (w1.alloc (.cells #[.bool false, .bool false, .bool neg, .slice none 0 0] 116)) := by
  have h1 := hg.size
  simp at h1
  refine ⟨scan_alloc hs _, ?_, heap_alloc_new _ _, World.ownsRow_nil _ _ _ _, fun _ => rfl, ?_, hsb, Nat.le_refl _, by omega, by simp⟩
  · rw [Below.heap_alloc _ _ _ (by omega), hg.block _ (by simp) (by simp; omega)]
    exact heap_alloc_new _ _
  · refine ⟨hg.os, hg.tape, hg.output, by simp; omega, fun k hk hr => ?_⟩
    rw [Below.heap_alloc _ _ _ (by omega), hg.block k (by simp; omega) hr]
    exact Below.heap_alloc _ _ _ hk

/-- What class leaves. -/
def ClsOk (sb : Nat) (it : PItem) (u : List Int) (w : World) (e : Ending) (w' : World) : Prop :=
  ∃ v, e = .returned (.tuple #[.agg #[.bool it.star, .bool it.any, .bool it.neg, v], .bool true]) ∧ RangesAt (w.heap.size ≤ ·) w' v it.ranges ∧ ScanAt w' sb u ∧ w.grownBy w' (some sb)
def ClsBad (sb : Nat) (w : World) (e : Ending) (w' : World) : Prop :=
  ∃ b u, e = .returned (.tuple #[.agg #[.bool false, .bool false, .bool b, .slice none 0 0], .bool false]) ∧ ScanAt w' sb u ∧ w.grownBy w' (some sb)
def ClsRes (sb : Nat) (o : Option (PItem × List Int)) (w : World) (e : Ending) (w' : World) : Prop :=
  match o with
  | some (it, u) => ClsOk sb it u w e w'
  | none => ClsBad sb w e w'

/-- A struct of four cells is stored whole. -/
theorem set4 {w : World} {b : Nat} {x0 x1 x2 x3 : Value} {T : TypeId} (h : w.heap[b]? = some (.cells #[x0, x1, x2, x3] T (0, 0))) (a0 a1 a2 a3 : Value) :
    ((((w.setCell ⟨b, 0, none⟩ a0).setCell ⟨b, 1, none⟩ a1).setCell ⟨b, 2, none⟩ a2).setCell ⟨b, 3, none⟩ a3).heap[b]? = some (.cells #[a0, a1, a2, a3] T (0, 0)) ∧
    w.grownBy ((((w.setCell ⟨b, 0, none⟩ a0).setCell ⟨b, 1, none⟩ a1).setCell ⟨b, 2, none⟩ a2).setCell ⟨b, 3, none⟩ a3) (some b) := by
  refine ⟨?_, grownBy.trans (grownBy.trans (grownBy.trans (grownBy.setCell w ⟨b, 0, none⟩ a0) (grownBy.setCell _ ⟨b, 1, none⟩ a1)) (grownBy.setCell _ ⟨b, 2, none⟩ a2)) (grownBy.setCell _ ⟨b, 3, none⟩ a3)⟩
  simp only [World.setCell, Array.getElem?_modify, if_true, h, Option.map_some]
  rfl
theorem grown_drew {w w' : World} {r : Option Nat} (h : w.grownBy w' r) : w.grownBy w'.drew r := ⟨h.os, h.tape, h.output, h.size, h.block⟩

/-- class fails. -/
theorem cls_fail {sb : Nat} {w w1 w2 W : World} {neg : Bool} {rest : List Int} {acc : List (Int × Int)} {v : Value} {t : List Int} (HCL : clsS t = none) (HI : ClsInv w sb w.heap.size w1.heap.size neg rest acc v w2) (hg : w2.grownBy W (some w.heap.size)) :
    ClsRes sb (clsS t) w (.returned (.tuple #[.agg #[.bool false, .bool false, .bool false, .slice none 0 0], .bool false])) W := by
  obtain ⟨hsc, hr, hb, ho, hn, hgr, h1, h2, h3, h4⟩ := HI
  have hsW : ScanAt W sb rest := by
    obtain ⟨sv, hs1, hs2⟩ := hsc
    exact ⟨sv, by rw [hg.block sb (by omega) (by simp; omega)]; exact hs1, hs2.same (fun k hk => hg.block k (by omega) (by simp; omega))⟩
  have hgW : w.grownBy W (some sb) := ⟨hg.os.trans hgr.os, hg.tape.trans hgr.tape, hg.output.trans hgr.output, Nat.le_trans hgr.size hg.size, fun k hk hk2 => (hg.block k (by have := hgr.size; omega) (by simp; omega)).trans (hgr.block k hk hk2)⟩
  rw [HCL]
  exact ⟨false, rest, rfl, hsW, hgW⟩
/-- The end of class's loop. -/
theorem cls_end {sb : Nat} {w w1 w2 W : World} {neg : Bool} {rest : List Int} {acc : List (Int × Int)} {v : Value} {t t' : List Int} (HCL : clsS t = match classS (t'.length + 1) t' [] with | none => none | some (rs, u) => if rs = [] then none else some (⟨false, false, neg, rs⟩, u))
    (HC : classS (t'.length + 1) t' [] = some (acc, rest)) (HI : ClsInv w sb w.heap.size w1.heap.size neg rest acc v w2) (hg : w2.grownBy W (some w.heap.size)) :
    ClsRes sb (clsS t) w (.returned (.tuple #[.agg #[.bool false, .bool false, .bool neg, v], .bool (decide (0 < acc.length))])) W := by
  obtain ⟨hsc, hr, hb, ho, hn, hgr, h1, h2, h3, h4⟩ := HI
  have hsW : ScanAt W sb rest := by
    obtain ⟨sv, hs1, hs2⟩ := hsc
    exact ⟨sv, by rw [hg.block sb (by omega) (by simp; omega)]; exact hs1, hs2.same (fun k hk => hg.block k (by omega) (by simp; omega))⟩
  have hgW : w.grownBy W (some sb) := ⟨hg.os.trans hgr.os, hg.tape.trans hgr.tape, hg.output.trans hgr.output, Nat.le_trans hgr.size hg.size, fun k hk hk2 => (hg.block k (by have := hgr.size; omega) (by simp; omega)).trans (hgr.block k hk hk2)⟩
  rw [HCL, HC]
  simp only
  split
  · rename_i hnil
    subst hnil
    have := hn rfl
    subst this
    exact ⟨neg, rest, rfl, hsW, hgW⟩
  · rename_i hnil
    have hpos : 0 < acc.length := List.length_pos_iff.2 hnil
    refine ⟨v, by simp [hpos], ?_, hsW, hgW⟩
    refine ((row_of_owns ho).same (w' := W) (fun k hk => hg.block k (ho.lt k hk.2).2 (by simp; omega))).weak (fun k hk => by omega)

set_option maxHeartbeats 2000000 in
theorem class_any (sb : Nat) (t : List Int) (w : World) (h : ScanAt w sb t) (ht : t.length < 1099511627775) : Calls Tryd.prog 101 #[.pointer (some ⟨sb, 0, none⟩)] w (ClsRes sb (clsS t) w) := by
  have hlt := h.lt
  have H := Lib.hid h
  clear h
  go_enter Tryd.func101, Tryd.ntmps101
  go_wp2_with fail
  refine (skip_any sb t 94 _ (scan_alloc H.out _)).mono ?_
  rintro e w1 ⟨neg, t', hneg, ht', rfl, h1, hg1⟩
  have HI0 := Lib.hid (ClsInv.start (neg := neg) hlt h1 hg1)
  have hcls : clsS t = match classS (t'.length + 1) t' [] with | none => none | some (rs, u) => if rs = [] then none else some (⟨false, false, neg, rs⟩, u) := by
    subst hneg ht'; rfl
  have hl' : t'.length ≤ t.length := by
    subst ht'; split
    · rw [List.length_tail]; omega
    · exact Nat.le_refl _
  have HCL := Lib.hid hcls
  clear h1 hg1 hneg ht' hcls
  go_wp2_with fail
  go_loopw [3] (fun _ wr => ∃ (rest : List Int) (acc : List (Int × Int)) (v : Value) (f : Nat), ClsInv w sb w.heap.size w1.heap.size neg rest acc v wr ∧ rest.length < f ∧ acc.length + rest.length ≤ t.length ∧ classS (t'.length + 1) t' [] = classS f rest acc) (fun _ wr => scanLen sb wr)
  case atStart => exact ⟨t', [], _, _, HI0.out, Nat.lt_succ_self _, by simp; omega, rfl⟩
  case round =>
    obtain ⟨rest, acc, v, f, hI, hf, hal, hc⟩ := hrel
    have HI := Lib.hid hI
    have HC := Lib.hid hc
    clear hI hc
    go_wp2_with fail
    refine (skip_any sb rest 93 wr HI.out.scan).mono ?_
    rintro e w2 ⟨b2, rest2, hb2, hr2, rfl, h2, hg2⟩
    have HI2 := Lib.hid (HI.out.scanned h2 hg2)
    clear h2 hg2
    cases b2 with
    | true =>
      obtain ⟨a4, c4, hv, hn4, hm4⟩ := owns_shape HI2.out.own
      subst hv
      have hres := HI2.out.res
      have hbox := HI2.out.box
      have k0 : w2.cell? ⟨w1.heap.size, 0, none⟩ = some (.bool false) := by rw [cell_of_heap hbox]; rfl
      have k1 : w2.cell? ⟨w1.heap.size, 1, none⟩ = some (.bool false) := by rw [cell_of_heap hbox]; rfl
      have k2 : w2.cell? ⟨w1.heap.size, 2, none⟩ = some (.bool neg) := by rw [cell_of_heap hbox]; rfl
      have k3 : w2.cell? ⟨w1.heap.size, 3, none⟩ = some (.slice a4 acc.length c4) := by rw [cell_of_heap hbox]; rfl
      have r0 : w2.cell? ⟨w.heap.size, 0, none⟩ = some (.bool false) := by rw [cell_of_heap hres]; rfl
      have r1 : w2.cell? ⟨w.heap.size, 1, none⟩ = some (.bool false) := by rw [cell_of_heap hres]; rfl
      have r2 : w2.cell? ⟨w.heap.size, 2, none⟩ = some (.bool false) := by rw [cell_of_heap hres]; rfl
      have r3 : w2.cell? ⟨w.heap.size, 3, none⟩ = some (.slice none 0 0) := by rw [cell_of_heap hres]; rfl
      have f0 : w2.frozen? ⟨w.heap.size, 0, none⟩ = false := frozen_of_heap hres
      have f1 : w2.frozen? ⟨w.heap.size, 1, none⟩ = false := frozen_of_heap hres
      have f2 : w2.frozen? ⟨w.heap.size, 2, none⟩ = false := frozen_of_heap hres
      have f3 : w2.frozen? ⟨w.heap.size, 3, none⟩ = false := frozen_of_heap hres
      have hne : ¬ w1.heap.size = w.heap.size := by have := HI2.out.lt; omega
      have HR := Lib.hid hres
      have hr93 : rest.head? = some 93 := by simpa using hb2.symm
      have hcs : classS (t'.length + 1) t' [] = some (acc, rest2) := by
        obtain ⟨f', rfl⟩ : ∃ f', f = f' + 1 := ⟨f - 1, by omega⟩
        rw [HC.out, classS, if_pos hr93, hr2]; rfl
      have HCS := Lib.hid hcs
      clear hres hbox hr2 hb2 hr93 hcs
      go_wp2_with fail
      go_region
      go_wp2_with fail
      obtain ⟨W, hW⟩ : ∃ W, W = ((((w2.setCell ⟨w.heap.size, 0, none⟩ (.bool false)).setCell ⟨w.heap.size, 1, none⟩ (.bool false)).setCell ⟨w.heap.size, 2, none⟩ (.bool neg)).setCell ⟨w.heap.size, 3, none⟩ (.slice a4 acc.length c4)) := ⟨_, rfl⟩
      rw [← hW]
      have h4 := set4 HR.out (.bool false) (.bool false) (.bool neg) (.slice a4 acc.length c4)
      rw [← hW] at h4
      obtain ⟨h41, h42⟩ := h4
      have m0 : W.cell? ⟨w.heap.size, 0, none⟩ = some (.bool false) := by rw [cell_of_heap h41]; rfl
      have m1 : W.cell? ⟨w.heap.size, 1, none⟩ = some (.bool false) := by rw [cell_of_heap h41]; rfl
      have m2 : W.cell? ⟨w.heap.size, 2, none⟩ = some (.bool neg) := by rw [cell_of_heap h41]; rfl
      have m3 : W.cell? ⟨w.heap.size, 3, none⟩ = some (.slice a4 acc.length c4) := by rw [cell_of_heap h41]; rfl
      clear hW
      refine bodyPost_ret (v := .tuple #[.agg #[.bool false, .bool false, .bool neg, .slice a4 acc.length c4], .bool (decide (0 < acc.length))]) (by simp [results, Tryd.results101, go_sem, m0, m1, m2, m3]) rfl ?_
      exact cls_end HCL.out HCS.out HI2.out (grown_drew h42)
    | false =>
      have hr93 : ¬ rest.head? = some 93 := by simpa using hb2.symm
      have hr2' : rest2 = rest := by simpa using hr2
      subst hr2'
      clear hr2 hb2
      obtain ⟨f', rfl⟩ : ∃ f', f = f' + 1 := ⟨f - 1, by omega⟩
      have HN93 := Lib.hid hr93
      clear hr93
      have HRES := Lib.hid HI2.out.res
      go_wp2_with fail
      cases he : elemS rest2 with
      | none =>
        have hfail : clsS t = none := by rw [HCL.out, HC.out, classS, if_neg HN93.out, he]
        have HF := Lib.hid hfail
        have HEl := Lib.hid he
        clear hfail he
        refine (element_bad sb rest2 w2 HI2.out.scan HEl.out).mono ?_
        rintro e w3 ⟨rest3, rfl, h3, hg3⟩
        have HI3 := Lib.hid (HI2.out.scanned h3 hg3)
        clear h3 hg3
        have hres := HI3.out.res
        have r0 : w3.cell? ⟨w.heap.size, 0, none⟩ = some (.bool false) := by rw [cell_of_heap hres]; rfl
        have r1 : w3.cell? ⟨w.heap.size, 1, none⟩ = some (.bool false) := by rw [cell_of_heap hres]; rfl
        have r2 : w3.cell? ⟨w.heap.size, 2, none⟩ = some (.bool false) := by rw [cell_of_heap hres]; rfl
        have r3 : w3.cell? ⟨w.heap.size, 3, none⟩ = some (.slice none 0 0) := by rw [cell_of_heap hres]; rfl
        have f0 : w3.frozen? ⟨w.heap.size, 0, none⟩ = false := frozen_of_heap hres
        have f1 : w3.frozen? ⟨w.heap.size, 1, none⟩ = false := frozen_of_heap hres
        have f2 : w3.frozen? ⟨w.heap.size, 2, none⟩ = false := frozen_of_heap hres
        have f3 : w3.frozen? ⟨w.heap.size, 3, none⟩ = false := frozen_of_heap hres
        have HR := Lib.hid hres
        clear hres
        go_wp2_with fail
        obtain ⟨W, hW⟩ : ∃ W, W = ((((w3.setCell ⟨w.heap.size, 0, none⟩ (.bool false)).setCell ⟨w.heap.size, 1, none⟩ (.bool false)).setCell ⟨w.heap.size, 2, none⟩ (.bool false)).setCell ⟨w.heap.size, 3, none⟩ (.slice none 0 0)) := ⟨_, rfl⟩
        rw [← hW]
        have h4 := set4 HR.out (.bool false) (.bool false) (.bool false) (.slice none 0 0)
        rw [← hW] at h4
        obtain ⟨h41, h42⟩ := h4
        have m0 : W.cell? ⟨w.heap.size, 0, none⟩ = some (.bool false) := by rw [cell_of_heap h41]; rfl
        have m1 : W.cell? ⟨w.heap.size, 1, none⟩ = some (.bool false) := by rw [cell_of_heap h41]; rfl
        have m2 : W.cell? ⟨w.heap.size, 2, none⟩ = some (.bool false) := by rw [cell_of_heap h41]; rfl
        have m3 : W.cell? ⟨w.heap.size, 3, none⟩ = some (.slice none 0 0) := by rw [cell_of_heap h41]; rfl
        clear hW
        refine bodyPost_ret (v := .tuple #[.agg #[.bool false, .bool false, .bool false, .slice none 0 0], .bool false]) (by simp [results, Tryd.results101, go_sem, m0, m1, m2, m3]) rfl ?_
        exact cls_fail HF.out HI3.out h42
      | some p =>
        obtain ⟨lo, t1⟩ := p
        have hl1 := elemS_len he
        have HEl := Lib.hid he
        clear he
        refine (element_ok sb rest2 lo t1 w2 HI2.out.scan HEl.out).mono ?_
        rintro e w3 ⟨rfl, h3, hg3⟩
        have HI3 := Lib.hid (HI2.out.scanned h3 hg3)
        clear h3 hg3
        go_wp2_with fail
        refine (skip_any sb t1 45 w3 HI3.out.scan).mono ?_
        rintro e w4 ⟨b4, t4, hb4, hr4, rfl, h4, hg4⟩
        have HI4 := Lib.hid (HI3.out.scanned h4 hg4)
        clear h4 hg4
        cases b4 with
        | false =>
          have hr45 : ¬ t1.head? = some 45 := by simpa using hb4.symm
          have hr4' : t4 = t1 := by simpa using hr4
          subst hr4'
          have hcs : classS (t'.length + 1) t' [] = classS f' t4 (acc ++ [(lo, lo)]) := by rw [HC.out, classS, if_neg HN93.out, HEl.out]; simp only; rw [if_neg hr45]
          have HCS := Lib.hid hcs
          clear hr4 hb4 hr45 hcs
          have hbox := HI4.out.box
          have k3 : w4.cell? ⟨w1.heap.size, 3, none⟩ = some v := by rw [cell_of_heap hbox]; rfl
          have HBX := Lib.hid hbox
          clear hbox
          go_wp2_with (at_builtin; go_must (refine wpList_app1 Tryd.appRanges rfl _ _ rfl (w1.heap.size + 1) v acc.length (flatR acc) rfl w4 [.int .i32 lo, .int .i32 lo] _ rfl rfl (by simp; first | rfl | exact ⟨rfl, rfl⟩) HI4.out.own (by omega) (by have := HI4.out.lt; omega) ?_); intro v' w5 hown5 hgrow5 _; obtain ⟨a5, c5, rfl, -, -⟩ := owns_shape hown5; obtain ⟨hI5, hc5, hf5⟩ := HI4.out.added hown5 hgrow5; have HI5 := Lib.hid hI5; clear hI5 hown5 hgrow5)
          go_wp2_with fail
          go_roundw
          case rel => exact ⟨t4, acc ++ [(lo, lo)], _, f', HI5.out, by omega, by simp; omega, HCS.out⟩
          case measure =>
            rw [HI5.out.scan.len, HI.out.scan.len]
            omega
        | true =>
          have hr45 : t1.head? = some 45 := by simpa using hb4.symm
          have hr4' : t4 = t1.tail := by simpa using hr4
          subst hr4'
          have hl4 : t1.tail.length + 1 ≤ t1.length := by
            cases t1 with
            | nil => simp at hr45
            | cons => simp
          have HR45 := Lib.hid hr45
          clear hr4 hb4 hr45
          go_wp2_with fail
          cases he6 : elemS t1.tail with
          | none =>
            have hfail : clsS t = none := by rw [HCL.out, HC.out, classS, if_neg HN93.out, HEl.out]; simp only; rw [if_pos HR45.out, he6]
            have HF := Lib.hid hfail
            have HE6 := Lib.hid he6
            clear hfail he6
            refine (element_bad sb _ w4 HI4.out.scan HE6.out).mono ?_
            rintro e w6 ⟨rest6, rfl, h6, hg6⟩
            have HI6 := Lib.hid (HI4.out.scanned h6 hg6)
            clear h6 hg6
            have hres := HI6.out.res
            have r0 : w6.cell? ⟨w.heap.size, 0, none⟩ = some (.bool false) := by rw [cell_of_heap hres]; rfl
            have r1 : w6.cell? ⟨w.heap.size, 1, none⟩ = some (.bool false) := by rw [cell_of_heap hres]; rfl
            have r2 : w6.cell? ⟨w.heap.size, 2, none⟩ = some (.bool false) := by rw [cell_of_heap hres]; rfl
            have r3 : w6.cell? ⟨w.heap.size, 3, none⟩ = some (.slice none 0 0) := by rw [cell_of_heap hres]; rfl
            have f0 : w6.frozen? ⟨w.heap.size, 0, none⟩ = false := frozen_of_heap hres
            have f1 : w6.frozen? ⟨w.heap.size, 1, none⟩ = false := frozen_of_heap hres
            have f2 : w6.frozen? ⟨w.heap.size, 2, none⟩ = false := frozen_of_heap hres
            have f3 : w6.frozen? ⟨w.heap.size, 3, none⟩ = false := frozen_of_heap hres
            have HR := Lib.hid hres
            clear hres
            go_wp2_with fail
            obtain ⟨W, hW⟩ : ∃ W, W = ((((w6.setCell ⟨w.heap.size, 0, none⟩ (.bool false)).setCell ⟨w.heap.size, 1, none⟩ (.bool false)).setCell ⟨w.heap.size, 2, none⟩ (.bool false)).setCell ⟨w.heap.size, 3, none⟩ (.slice none 0 0)) := ⟨_, rfl⟩
            rw [← hW]
            have h4 := set4 HR.out (.bool false) (.bool false) (.bool false) (.slice none 0 0)
            rw [← hW] at h4
            obtain ⟨h41, h42⟩ := h4
            have m0 : W.cell? ⟨w.heap.size, 0, none⟩ = some (.bool false) := by rw [cell_of_heap h41]; rfl
            have m1 : W.cell? ⟨w.heap.size, 1, none⟩ = some (.bool false) := by rw [cell_of_heap h41]; rfl
            have m2 : W.cell? ⟨w.heap.size, 2, none⟩ = some (.bool false) := by rw [cell_of_heap h41]; rfl
            have m3 : W.cell? ⟨w.heap.size, 3, none⟩ = some (.slice none 0 0) := by rw [cell_of_heap h41]; rfl
            clear hW
            refine bodyPost_ret (v := .tuple #[.agg #[.bool false, .bool false, .bool false, .slice none 0 0], .bool false]) (by simp [results, Tryd.results101, go_sem, m0, m1, m2, m3]) rfl ?_
            exact cls_fail HF.out HI6.out h42
          | some p =>
            obtain ⟨hi, u⟩ := p
            have hl6 := elemS_len he6
            have HE6 := Lib.hid he6
            clear he6
            refine (element_ok sb _ hi u w4 HI4.out.scan HE6.out).mono ?_
            rintro e w6 ⟨rfl, h6, hg6⟩
            have HI6 := Lib.hid (HI4.out.scanned h6 hg6)
            clear h6 hg6
            by_cases hlo : hi < lo
            · have hfail : clsS t = none := by rw [HCL.out, HC.out, classS, if_neg HN93.out, HEl.out]; simp only; rw [if_pos HR45.out, HE6.out]; simp only; rw [if_pos hlo]
              have HF := Lib.hid hfail
              clear hfail
              have hres := HI6.out.res
              have r0 : w6.cell? ⟨w.heap.size, 0, none⟩ = some (.bool false) := by rw [cell_of_heap hres]; rfl
              have r1 : w6.cell? ⟨w.heap.size, 1, none⟩ = some (.bool false) := by rw [cell_of_heap hres]; rfl
              have r2 : w6.cell? ⟨w.heap.size, 2, none⟩ = some (.bool false) := by rw [cell_of_heap hres]; rfl
              have r3 : w6.cell? ⟨w.heap.size, 3, none⟩ = some (.slice none 0 0) := by rw [cell_of_heap hres]; rfl
              have f0 : w6.frozen? ⟨w.heap.size, 0, none⟩ = false := frozen_of_heap hres
              have f1 : w6.frozen? ⟨w.heap.size, 1, none⟩ = false := frozen_of_heap hres
              have f2 : w6.frozen? ⟨w.heap.size, 2, none⟩ = false := frozen_of_heap hres
              have f3 : w6.frozen? ⟨w.heap.size, 3, none⟩ = false := frozen_of_heap hres
              have HR := Lib.hid hres
              clear hres
              go_wp2_with fail
              obtain ⟨W, hW⟩ : ∃ W, W = ((((w6.setCell ⟨w.heap.size, 0, none⟩ (.bool false)).setCell ⟨w.heap.size, 1, none⟩ (.bool false)).setCell ⟨w.heap.size, 2, none⟩ (.bool false)).setCell ⟨w.heap.size, 3, none⟩ (.slice none 0 0)) := ⟨_, rfl⟩
              rw [← hW]
              have h4 := set4 HR.out (.bool false) (.bool false) (.bool false) (.slice none 0 0)
              rw [← hW] at h4
              obtain ⟨h41, h42⟩ := h4
              have m0 : W.cell? ⟨w.heap.size, 0, none⟩ = some (.bool false) := by rw [cell_of_heap h41]; rfl
              have m1 : W.cell? ⟨w.heap.size, 1, none⟩ = some (.bool false) := by rw [cell_of_heap h41]; rfl
              have m2 : W.cell? ⟨w.heap.size, 2, none⟩ = some (.bool false) := by rw [cell_of_heap h41]; rfl
              have m3 : W.cell? ⟨w.heap.size, 3, none⟩ = some (.slice none 0 0) := by rw [cell_of_heap h41]; rfl
              clear hW
              refine bodyPost_ret (v := .tuple #[.agg #[.bool false, .bool false, .bool false, .slice none 0 0], .bool false]) (by simp [results, Tryd.results101, go_sem, m0, m1, m2, m3]) rfl ?_
              exact cls_fail HF.out HI6.out h42
            · have hcs : classS (t'.length + 1) t' [] = classS f' u (acc ++ [(lo, hi)]) := by rw [HC.out, classS, if_neg HN93.out, HEl.out]; simp only; rw [if_pos HR45.out, HE6.out]; simp only; rw [if_neg hlo]
              have HCS := Lib.hid hcs
              clear hcs
              have hbox := HI6.out.box
              have k3 : w6.cell? ⟨w1.heap.size, 3, none⟩ = some v := by rw [cell_of_heap hbox]; rfl
              have HBX := Lib.hid hbox
              clear hbox
              go_wp2_with (at_builtin; go_must (refine wpList_app1 Tryd.appRanges rfl _ _ rfl (w1.heap.size + 1) v acc.length (flatR acc) rfl w6 [.int .i32 lo, .int .i32 hi] _ rfl rfl (by simp; first | rfl | exact ⟨rfl, rfl⟩) HI6.out.own (by omega) (by have := HI6.out.lt; omega) ?_); intro v' w5 hown5 hgrow5 _; obtain ⟨a5, c5, rfl, -, -⟩ := owns_shape hown5; obtain ⟨hI5, hc5, hf5⟩ := HI6.out.added hown5 hgrow5; have HI5 := Lib.hid hI5; clear hI5 hown5 hgrow5)
              go_wp2_with fail
              go_roundw
              case rel => exact ⟨u, acc ++ [(lo, hi)], _, f', HI5.out, by omega, by simp; omega, HCS.out⟩
              case measure =>
                rw [HI5.out.scan.len, HI.out.scan.len]
                omega

end Go.Proofs.YtlipekkiaiaplaaDoor
