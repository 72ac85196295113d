/- Contracts of the specification of chapter 18: class. -/
import Derived.Test.YtlipekkiaiaplaaDoorRefD
import Derived.Test.YtlipekkiaiaplaaDoorParse
namespace Go.Proofs.YtlipekkiaiaplaaDoor
open Go.RowKit

theorem set3 {w : World} {b : Nat} {x0 x1 x2 : Value} {T : TypeId} (h : w.heap[b]? = some (.cells #[x0, x1, x2] T (0, 0))) (a0 a1 a2 : Value) :
    (((w.setCell ⟨b, 0, none⟩ a0).setCell ⟨b, 1, none⟩ a1).setCell ⟨b, 2, none⟩ a2).heap[b]? = some (.cells #[a0, a1, a2] T (0, 0)) ∧
    w.grownBy (((w.setCell ⟨b, 0, none⟩ a0).setCell ⟨b, 1, none⟩ a1).setCell ⟨b, 2, none⟩ a2) (some b) := by
  refine ⟨?_, grownBy.trans (grownBy.trans (grownBy.setCell w ⟨b, 0, none⟩ a0) (grownBy.setCell _ ⟨b, 1, none⟩ a1)) (grownBy.setCell _ ⟨b, 2, none⟩ a2)⟩
  simp only [World.setCell, Array.getElem?_modify, if_true, h, Option.map_some]
  rfl
theorem Tryd.appSpans : AppTy Tryd.prog 99 105 2 8 := AppTy.mk' (z := .agg #[.int .i32 0, .int .i32 0]) Tryd.underlying99 (by kernel_rfl) rfl (by decide) (by decide)

/-- The state of class's loop. -/
structure RCls (w : World) (neg : Bool) (acc : List (Int × Int)) (sv : Value) (wr : World) : Prop where
  res : wr.heap[w.heap.size]? = some (.cells #[.bool false, .bool false, .slice none 0 0] 101 (0, 0))
  box : wr.heap[w.heap.size + 1]? = some (.cells #[.bool false, .bool neg, sv] 101 (0, 0))
  own : wr.ownsRow (w.heap.size + 2) 105 2 sv acc.length (flatR acc)
  below : Below w.heap.size w wr
  lt : w.heap.size + 2 ≤ wr.heap.size
/-- The box gets a longer list. -/
theorem RCls.added {w : World} {neg : Bool} {acc : List (Int × Int)} {sv sv' : Value} {wr w1 : World} {lo hi : Int} (h : RCls w neg acc sv wr) (ho : w1.ownsRow (w.heap.size + 2) 105 2 sv' (acc.length + 1) (flatR acc ++ [.int .i32 lo, .int .i32 hi])) (hg : wr.grownBy w1 sv.ownBlock) :
    RCls w neg (acc ++ [(lo, hi)]) sv' (w1.setCell ⟨w.heap.size + 1, 2, none⟩ sv') := by
  obtain ⟨h1, h2, h3, h4, h5⟩ := h
  have hnot : ∀ k, k < w.heap.size + 2 → sv.ownBlock ≠ some k := fun k hk e => by have := (h3.lt k e).1; omega
  have e1 : w1.heap[w.heap.size]? = wr.heap[w.heap.size]? := hg.block _ (by omega) (fun e => hnot _ (by omega) e.symm)
  have e2 : w1.heap[w.heap.size + 1]? = wr.heap[w.heap.size + 1]? := hg.block _ (by omega) (fun e => hnot _ (by omega) e.symm)
  have hsz := hg.size
  have hne : sv'.ownBlock = none ∨ sv'.ownBlock ≠ some (w.heap.size + 1) := by
    cases hq : sv'.ownBlock with
    | none => exact .inl rfl
    | some q => right; have := (ho.lt q hq).1; intro e; cases e; omega
  refine ⟨?_, ?_, ?_, ?_, ?_⟩
  · rw [Below.heap_setCell _ _ _ _ (by simp), e1]; exact h1
  · simp only [World.setCell, Array.getElem?_modify, if_true, e2, h2, Option.map_some]
    rfl
  · have := ho.kept (grownBy.setCell w1 ⟨w.heap.size + 1, 2, none⟩ sv') hne
    have e : flatR (acc ++ [(lo, hi)]) = flatR acc ++ [.int .i32 lo, .int .i32 hi] := by simp [flatR]
    rw [e]; simpa using this
  · exact (h4.grown hg (by omega) (fun k hk => by have := (h3.lt k hk).1; omega)).setCell (by simp) _
  · have : w1.heap.size ≤ (w1.setCell ⟨w.heap.size + 1, 2, none⟩ sv').heap.size := by simp [World.setCell]
    omega
theorem RCls.start (w : World) : RCls w false [] (.slice none 0 0) ((w.alloc (.cells #[.bool false, .bool false, .slice none 0 0] 101)).alloc (.cells #[.bool false, .bool false, .slice none 0 0] 101)) := by
  refine ⟨?_, ?_, World.ownsRow_nil _ _ _ _, ((Below.refl _ _).alloc (Nat.le_refl _) _).alloc (by simp) _, by simp⟩
  · rw [Below.heap_alloc _ _ _ (by simp)]; exact heap_alloc_new w _
  · have := heap_alloc_new (w.alloc (.cells #[.bool false, .bool false, .slice none 0 0] 101)) (.cells #[.bool false, .bool false, .slice none 0 0] 101)
    simpa using this
theorem RCls.startNot (w : World) : RCls w true [] (.slice none 0 0) ((w.alloc (.cells #[.bool false, .bool false, .slice none 0 0] 101)).alloc (.cells #[.bool false, .bool true, .slice none 0 0] 101)) := by
  refine ⟨?_, ?_, World.ownsRow_nil _ _ _ _, ((Below.refl _ _).alloc (Nat.le_refl _) _).alloc (by simp) _, by simp⟩
  · rw [Below.heap_alloc _ _ _ (by simp)]; exact heap_alloc_new w _
  · have := heap_alloc_new (w.alloc (.cells #[.bool false, .bool false, .slice none 0 0] 101)) (.cells #[.bool false, .bool true, .slice none 0 0] 101)
    simpa using this

/-- What class leaves. -/
def RClsOk (rs : List Int) (k : Nat) (it : PItem) (u : List Int) (w : World) (e : Ending) (w' : World) : Prop :=
  ∃ v nx, e = .returned (.tuple #[.agg #[.bool false, .bool it.neg, v], .int .i64 (nx : Nat), .bool true]) ∧ u = rs.drop nx ∧ nx ≤ rs.length ∧ k ≤ nx ∧ RangesAt (w.heap.size ≤ ·) w' v it.ranges ∧ Below w.heap.size w w'
def RClsBad (w : World) (e : Ending) (w' : World) : Prop :=
  ∃ (x : Int) (a1 : Bool) (sa : Option Addr) (sn sc : Nat), e = .returned (.tuple #[.agg #[.bool false, .bool a1, .slice sa sn sc], .int .i64 x, .bool false]) ∧ Below w.heap.size w w'
def RClsRes (rs : List Int) (k : Nat) (o : Option (PItem × List Int)) (w : World) (e : Ending) (w' : World) : Prop :=
  match o with
  | some (it, u) => RClsOk rs k it u w e w'
  | none => RClsBad w e w'
theorem RCls.ranges {w wr W : World} {neg : Bool} {acc : List (Int × Int)} {sv : Value} (h : RCls w neg acc sv wr) (hg : wr.grownBy W (some w.heap.size)) : RangesAt (w.heap.size ≤ ·) W sv acc ∧ Below w.heap.size w W := by
  obtain ⟨h1, h2, h3, h4, h5⟩ := h
  refine ⟨?_, h4.grown hg (by omega) (fun k hk => by cases hk; exact Nat.le_refl _)⟩
  exact ((row_of_owns h3).same (w' := W) (fun k hk => hg.block k (h3.lt k hk.2).2 (by simp; have := hk.1; omega))).weak (fun k hk => by have := hk.1; omega)

theorem runes_at {S : Nat → Prop} {w : World} {b o cap : Nat} {rs : List Int} (h : RunesAt S w (.slice (some ⟨b, o, none⟩) rs.length cap) rs) : ∀ (k : Nat) r, rs[k]? = some r → w.cell? ⟨b, o + k, none⟩ = some (.int .i32 r) := by
  intro k r hk
  obtain ⟨_, _, hv, _, _, hc⟩ := h.shape
  cases hv
  obtain ⟨b', o', hab, _, h2⟩ := hc k r hk
  cases hab
  exact h2
theorem runes_addr {S : Nat → Prop} {w : World} {v : Value} {rs : List Int} (h : RunesAt S w v rs) (hp : 0 < rs.length) : ∃ b o cap, v = .slice (some ⟨b, o, none⟩) rs.length cap ∧ rs.length ≤ cap ∧ cap ≤ maxLen ∧ b < w.heap.size := by
  obtain ⟨a, cap, hv, h1, h2, hc⟩ := h.shape
  obtain ⟨b, o, hab, _, h3⟩ := hc 0 rs[0] (List.getElem?_eq_getElem hp)
  exact ⟨b, o, cap, by rw [hv, hab], h1, h2, block_lt h3⟩
set_option maxRecDepth 100000 in
set_option maxHeartbeats 2000000 in
theorem r_class_end (S : Nat → Prop) (rs : List Int) (v : Value) (k0 : Nat) (w : World) (hv : RunesAt S w v rs) (hk0 : rs.length ≤ k0) (hl : k0 ≤ 1099511627) :
    Calls Tryd.prog 71 #[v, .int .i64 k0] w (RClsRes rs k0 (clsS (rs.drop k0)) w) := by
  obtain ⟨a, cap, rfl, hc, hm, -⟩ := hv.shape
  have HV := Lib.hid hv
  clear hv
  unfold maxLen at hm
  obtain ⟨neg, hneg⟩ : ∃ neg : Bool, neg = false := ⟨_, rfl⟩
  have HNEG := Lib.hid hneg
  have i0 : decide ((k0 : Int) < (rs.length : Int)) = false := by simp; omega
  have HF := Lib.hid (show clsS (rs.drop k0) = none by rw [List.drop_eq_nil_of_le hk0]; rfl)
  clear hneg
  have HEL := Lib.hid (show elemS (rs.drop k0) = none by rw [List.drop_eq_nil_of_le (by omega)]; rfl)
  obtain ⟨acc, hacc⟩ : ∃ acc : List (Int × Int), acc = [] := ⟨_, rfl⟩
  have HACC := Lib.hid hacc
  clear hacc
  go_enter Tryd.func71, Tryd.ntmps71
  go_wp2_with fail
  go_loopw [1] (fun i wr => i = .int .i64 k0 ∧ RCls w neg acc (.slice none acc.length 0) wr) (fun _ _ => 0)
  case atStart => exact ⟨rfl, by rw [HNEG.out, HACC.out]; exact RCls.start w⟩
  case round =>
    obtain ⟨rfl, hI⟩ := hrel
    have HI := Lib.hid hI
    have hvr : RunesAt S wr (.slice a rs.length cap) rs := RowAt.below HV.out (by omega) hI.below
    have HVR := Lib.hid hvr
    clear hI hvr
    obtain ⟨sa, hsa⟩ : ∃ sa : Option Addr, sa = none := ⟨_, rfl⟩
    obtain ⟨sc, hsc⟩ : ∃ sc : Nat, sc = 0 := ⟨_, rfl⟩
    rw [← hsa, ← hsc] at HI
    clear hsa hsc
    go_wp2_with fail
    refine (r_elem_bad S rs _ k0 _ wr HVR.out rfl (by omega) HEL.out).mono ?_
    rintro e w' ⟨x, rfl, rfl⟩
    have hres := HI.out.res
    have hbox := HI.out.box
    have r0 : wr.cell? ⟨w.heap.size, 0, none⟩ = some (.bool false) := by rw [cell_of_heap hres]; rfl
    have r1 : wr.cell? ⟨w.heap.size, 1, none⟩ = some (.bool false) := by rw [cell_of_heap hres]; rfl
    have r2 : wr.cell? ⟨w.heap.size, 2, none⟩ = some (.slice none 0 0) := by rw [cell_of_heap hres]; rfl
    have f0 : wr.frozen? ⟨w.heap.size, 0, none⟩ = false := frozen_of_heap hres
    have f1 : wr.frozen? ⟨w.heap.size, 1, none⟩ = false := frozen_of_heap hres
    have f2 : wr.frozen? ⟨w.heap.size, 2, none⟩ = false := frozen_of_heap hres
    have x0 : wr.cell? ⟨w.heap.size + 1, 0, none⟩ = some (.bool false) := by rw [cell_of_heap hbox]; rfl
    have x1 : wr.cell? ⟨w.heap.size + 1, 1, none⟩ = some (.bool neg) := by rw [cell_of_heap hbox]; rfl
    have x2 : wr.cell? ⟨w.heap.size + 1, 2, none⟩ = some (.slice sa acc.length sc) := by rw [cell_of_heap hbox]; rfl
    have kf : wr.frozen? ⟨w.heap.size + 1, 2, none⟩ = false := frozen_of_heap hbox
    have HR := Lib.hid hres
    clear hres hbox
    go_wp2_with fail
    obtain ⟨W, hW⟩ : ∃ W, W = (((wr.setCell ⟨w.heap.size, 0, none⟩ (.bool false)).setCell ⟨w.heap.size, 1, none⟩ (.bool neg)).setCell ⟨w.heap.size, 2, none⟩ (.slice sa acc.length sc)) := ⟨_, rfl⟩
    rw [← hW]
    have h4 := set3 HR.out (.bool false) (.bool neg) (.slice sa acc.length sc)
    rw [← hW] at h4
    obtain ⟨h41, h42⟩ := h4
    have m0 : W.cell? ⟨w.heap.size, 0, none⟩ = some (.bool false) := by rw [cell_of_heap h41]; rfl
    have m1 : W.cell? ⟨w.heap.size, 1, none⟩ = some (.bool neg) := by rw [cell_of_heap h41]; rfl
    have m2 : W.cell? ⟨w.heap.size, 2, none⟩ = some (.slice sa acc.length sc) := by rw [cell_of_heap h41]; rfl
    clear hW
    refine bodyPost_ret (v := .tuple #[.agg #[.bool false, .bool neg, .slice sa acc.length sc], .int .i64 ((k0 : Int)), .bool (false)]) (by simp [results, Tryd.results71, go_sem, m0, m1, m2]) rfl ?_
    rw [HF.out]
    exact ⟨_, _, _, _, _, rfl, (HI.out.ranges h42).2⟩


set_option maxRecDepth 100000 in
set_option maxHeartbeats 20000000 in
theorem r_class_any (S : Nat → Prop) (rs : List Int) (v : Value) (k0 : Nat) (kk : Int) (w : World) (hv : RunesAt S w v rs) (hkk : kk = k0) (hk0 : k0 ≤ rs.length) (hl : rs.length ≤ 1099511627) :
    Calls Tryd.prog 71 #[v, .int .i64 kk] w (RClsRes rs k0 (clsS (rs.drop k0)) w) := by
  subst hkk
  by_cases hlt0 : k0 < rs.length
  · skip
    obtain ⟨b0, o0, cap, rfl, hc, hm, hb0⟩ := runes_addr hv (by omega)
    have HV := Lib.hid hv
    have HCELL0 := Lib.hid (runes_at hv)
    clear hv
    unfold maxLen at hm
    by_cases h94 : rs[k0]? = some 94
    · have c0 := HCELL0.out k0 _ h94
      have i0 : (k0 : Int) < (rs.length : Int) := by omega
      have n1 : ¬ b0 = w.heap.size := by omega
      have n2 : ¬ b0 = w.heap.size + 1 := by omega
      obtain ⟨neg, hneg⟩ : ∃ neg : Bool, neg = true := ⟨_, rfl⟩
      obtain ⟨t', ht'⟩ : ∃ t', t' = rs.drop (k0 + 1) := ⟨_, rfl⟩
      have hcl : clsS (rs.drop k0) = match classS (t'.length + 1) t' [] with | none => none | some (rs, u) => if rs = [] then none else some (⟨false, false, neg, rs⟩, u) := by
        have h1 : (rs.drop k0).head? = some 94 := by rw [List.head?_drop]; exact h94
        unfold clsS
        rw [hneg, ht']
        simp only [h1, decide_true, if_true, List.tail_drop]
        cases classS ((rs.drop (k0 + 1)).length + 1) (rs.drop (k0 + 1)) [] <;> rfl
      have HCL := Lib.hid hcl
      have HNEG := Lib.hid hneg
      have HT' := Lib.hid ht'
      clear h94 hcl hneg ht'
      go_enter Tryd.func71, Tryd.ntmps71
      go_wp2_with fail
      go_loopw [1] (fun i wr => ∃ (k : Nat) (acc : List (Int × Int)) (sv : Value) (f : Nat), k ≤ rs.length ∧ acc.length ≤ k ∧ i = .int .i64 k ∧ RCls w neg acc sv wr ∧ k0 ≤ k ∧ (rs.drop k).length < f ∧ classS (t'.length + 1) t' [] = classS f (rs.drop k) acc) (fun i _ => rs.length - (intOf i).toNat)
      case atStart => exact ⟨k0 + 1, [], .slice none 0 0, _, by omega, Nat.zero_le _, by first | rfl | go_num, by rw [HNEG.out]; exact RCls.startNot w, by omega, Nat.lt_succ_self _, by rw [HT'.out]⟩
      case round =>
        obtain ⟨k, acc, sv, f, hk, hak, rfl, hI, hk0k, hf, hc⟩ := hrel
        obtain ⟨sa, sc, rfl, hsn, hsm⟩ := owns_shape hI.own
        obtain ⟨f', rfl⟩ : ∃ f', f = f' + 1 := ⟨f - 1, by omega⟩
        rw [List.length_drop] at hf
        have HI := Lib.hid hI
        have HC := Lib.hid hc
        have hvr : RunesAt S wr (.slice (some ⟨b0, o0, none⟩) rs.length cap) rs := RowAt.below HV.out (by omega) hI.below
        have HVR := Lib.hid hvr
        have HCELL := Lib.hid (runes_at hvr)
        clear hI hc hvr
        by_cases h93 : rs[k]? = some 93
        · have hlt : k < rs.length := (List.getElem?_eq_some_iff.1 h93).1
          have c1 := HCELL.out k _ h93
          have i1 : (k : Int) < (rs.length : Int) := by omega
          have hcs : classS (t'.length + 1) t' [] = some (acc, rs.drop (k + 1)) := by
            rw [HC.out, classS, if_pos (by rw [List.head?_drop]; exact h93)]
            rw [List.tail_drop]
          have HCS := Lib.hid hcs
          have hbl := HI.out.lt
          clear h93 hcs
          have hres := HI.out.res
          have hbox := HI.out.box
          have r0 : wr.cell? ⟨w.heap.size, 0, none⟩ = some (.bool false) := by rw [cell_of_heap hres]; rfl
          have r1 : wr.cell? ⟨w.heap.size, 1, none⟩ = some (.bool false) := by rw [cell_of_heap hres]; rfl
          have r2 : wr.cell? ⟨w.heap.size, 2, none⟩ = some (.slice none 0 0) := by rw [cell_of_heap hres]; rfl
          have f0 : wr.frozen? ⟨w.heap.size, 0, none⟩ = false := frozen_of_heap hres
          have f1 : wr.frozen? ⟨w.heap.size, 1, none⟩ = false := frozen_of_heap hres
          have f2 : wr.frozen? ⟨w.heap.size, 2, none⟩ = false := frozen_of_heap hres
          have x0 : wr.cell? ⟨w.heap.size + 1, 0, none⟩ = some (.bool false) := by rw [cell_of_heap hbox]; rfl
          have x1 : wr.cell? ⟨w.heap.size + 1, 1, none⟩ = some (.bool neg) := by rw [cell_of_heap hbox]; rfl
          have x2 : wr.cell? ⟨w.heap.size + 1, 2, none⟩ = some (.slice sa acc.length sc) := by rw [cell_of_heap hbox]; rfl
          have kf : wr.frozen? ⟨w.heap.size + 1, 2, none⟩ = false := frozen_of_heap hbox
          have HR := Lib.hid hres
          clear hres hbox
          have hwr : IntKind.i64.wrap ((k : Int) + 1) = (k : Int) + 1 := IntWalk.i64_in _ (by omega)
          go_wp2_with fail
          go_region
          clear hwr
          go_wp2_with fail
          obtain ⟨W, hW⟩ : ∃ W, W = (((wr.setCell ⟨w.heap.size, 0, none⟩ (.bool false)).setCell ⟨w.heap.size, 1, none⟩ (.bool neg)).setCell ⟨w.heap.size, 2, none⟩ (.slice sa acc.length sc)) := ⟨_, rfl⟩
          rw [← hW]
          have h4 := set3 HR.out (.bool false) (.bool neg) (.slice sa acc.length sc)
          rw [← hW] at h4
          obtain ⟨h41, h42⟩ := h4
          have m0 : W.cell? ⟨w.heap.size, 0, none⟩ = some (.bool false) := by rw [cell_of_heap h41]; rfl
          have m1 : W.cell? ⟨w.heap.size, 1, none⟩ = some (.bool neg) := by rw [cell_of_heap h41]; rfl
          have m2 : W.cell? ⟨w.heap.size, 2, none⟩ = some (.slice sa acc.length sc) := by rw [cell_of_heap h41]; rfl
          clear hW
          refine bodyPost_ret (v := .tuple #[.agg #[.bool false, .bool neg, .slice sa acc.length sc], .int .i64 ((k : Int) + 1), .bool (decide (0 < acc.length))]) (by simp [results, Tryd.results71, go_sem, m0, m1, m2]) rfl ?_
          obtain ⟨hrg, hbw⟩ := HI.out.ranges (grown_drew h42)
          rw [HCL.out, HCS.out]
          simp only
          by_cases hac : acc = []
          · subst hac
            exact ⟨_, _, _, _, _, rfl, hbw⟩
          · rw [if_neg hac]
            have hpos : 0 < acc.length := List.length_pos_iff.2 hac
            refine ⟨.slice sa acc.length sc, k + 1, ?_, rfl, by omega, by omega, hrg, hbw⟩
            simp [hpos]
        · have hne : ¬ (rs.drop k).head? = some 93 := by rw [List.head?_drop]; exact h93
          have HNE := Lib.hid hne
          have htest : k < rs.length → ∃ r, wr.cell? ⟨b0, o0 + k, none⟩ = some (.int .i32 r) ∧ (r == 93) = false := fun hlt => by
            have hr : rs[k]? = some rs[k] := List.getElem?_eq_getElem hlt
            exact ⟨_, HCELL.out k _ hr, beq_int (fun e => h93 (by rw [hr, e]))⟩
          have HTEST := Lib.hid htest
          clear h93 hne htest
          cases hel : elemS (rs.drop k) with
          | none =>
            have HEL := Lib.hid hel
            clear hel
            have hfail : clsS (rs.drop k0) = none := by rw [HCL.out, HC.out, classS, if_neg HNE.out, HEL.out]
            have HF := Lib.hid hfail
            clear hfail
            by_cases hlt : k < rs.length
            · obtain ⟨r, c1, e93⟩ := HTEST.out hlt
              have i1 : (k : Int) < (rs.length : Int) := by omega
              go_wp2_with fail
              refine (r_elem_bad S rs _ k _ wr HVR.out rfl (by omega) HEL.out).mono ?_
              rintro e w' ⟨x, rfl, rfl⟩
              have hres := HI.out.res
              have hbox := HI.out.box
              have r0 : wr.cell? ⟨w.heap.size, 0, none⟩ = some (.bool false) := by rw [cell_of_heap hres]; rfl
              have r1 : wr.cell? ⟨w.heap.size, 1, none⟩ = some (.bool false) := by rw [cell_of_heap hres]; rfl
              have r2 : wr.cell? ⟨w.heap.size, 2, none⟩ = some (.slice none 0 0) := by rw [cell_of_heap hres]; rfl
              have f0 : wr.frozen? ⟨w.heap.size, 0, none⟩ = false := frozen_of_heap hres
              have f1 : wr.frozen? ⟨w.heap.size, 1, none⟩ = false := frozen_of_heap hres
              have f2 : wr.frozen? ⟨w.heap.size, 2, none⟩ = false := frozen_of_heap hres
              have x0 : wr.cell? ⟨w.heap.size + 1, 0, none⟩ = some (.bool false) := by rw [cell_of_heap hbox]; rfl
              have x1 : wr.cell? ⟨w.heap.size + 1, 1, none⟩ = some (.bool neg) := by rw [cell_of_heap hbox]; rfl
              have x2 : wr.cell? ⟨w.heap.size + 1, 2, none⟩ = some (.slice sa acc.length sc) := by rw [cell_of_heap hbox]; rfl
              have kf : wr.frozen? ⟨w.heap.size + 1, 2, none⟩ = false := frozen_of_heap hbox
              have HR := Lib.hid hres
              clear hres hbox
              go_wp2_with fail
              obtain ⟨W, hW⟩ : ∃ W, W = (((wr.setCell ⟨w.heap.size, 0, none⟩ (.bool false)).setCell ⟨w.heap.size, 1, none⟩ (.bool neg)).setCell ⟨w.heap.size, 2, none⟩ (.slice sa acc.length sc)) := ⟨_, rfl⟩
              rw [← hW]
              have h4 := set3 HR.out (.bool false) (.bool neg) (.slice sa acc.length sc)
              rw [← hW] at h4
              obtain ⟨h41, h42⟩ := h4
              have m0 : W.cell? ⟨w.heap.size, 0, none⟩ = some (.bool false) := by rw [cell_of_heap h41]; rfl
              have m1 : W.cell? ⟨w.heap.size, 1, none⟩ = some (.bool neg) := by rw [cell_of_heap h41]; rfl
              have m2 : W.cell? ⟨w.heap.size, 2, none⟩ = some (.slice sa acc.length sc) := by rw [cell_of_heap h41]; rfl
              clear hW
              refine bodyPost_ret (v := .tuple #[.agg #[.bool false, .bool neg, .slice sa acc.length sc], .int .i64 ((k : Int)), .bool (false)]) (by simp [results, Tryd.results71, go_sem, m0, m1, m2]) rfl ?_
              rw [HF.out]
              exact ⟨_, _, _, _, _, rfl, (HI.out.ranges h42).2⟩
            · have i1 : decide ((k : Int) < (rs.length : Int)) = false := by simp; omega
              go_wp2_with fail
              refine (r_elem_bad S rs _ k _ wr HVR.out rfl (by omega) HEL.out).mono ?_
              rintro e w' ⟨x, rfl, rfl⟩
              have hres := HI.out.res
              have hbox := HI.out.box
              have r0 : wr.cell? ⟨w.heap.size, 0, none⟩ = some (.bool false) := by rw [cell_of_heap hres]; rfl
              have r1 : wr.cell? ⟨w.heap.size, 1, none⟩ = some (.bool false) := by rw [cell_of_heap hres]; rfl
              have r2 : wr.cell? ⟨w.heap.size, 2, none⟩ = some (.slice none 0 0) := by rw [cell_of_heap hres]; rfl
              have f0 : wr.frozen? ⟨w.heap.size, 0, none⟩ = false := frozen_of_heap hres
              have f1 : wr.frozen? ⟨w.heap.size, 1, none⟩ = false := frozen_of_heap hres
              have f2 : wr.frozen? ⟨w.heap.size, 2, none⟩ = false := frozen_of_heap hres
              have x0 : wr.cell? ⟨w.heap.size + 1, 0, none⟩ = some (.bool false) := by rw [cell_of_heap hbox]; rfl
              have x1 : wr.cell? ⟨w.heap.size + 1, 1, none⟩ = some (.bool neg) := by rw [cell_of_heap hbox]; rfl
              have x2 : wr.cell? ⟨w.heap.size + 1, 2, none⟩ = some (.slice sa acc.length sc) := by rw [cell_of_heap hbox]; rfl
              have kf : wr.frozen? ⟨w.heap.size + 1, 2, none⟩ = false := frozen_of_heap hbox
              have HR := Lib.hid hres
              clear hres hbox
              go_wp2_with fail
              obtain ⟨W, hW⟩ : ∃ W, W = (((wr.setCell ⟨w.heap.size, 0, none⟩ (.bool false)).setCell ⟨w.heap.size, 1, none⟩ (.bool neg)).setCell ⟨w.heap.size, 2, none⟩ (.slice sa acc.length sc)) := ⟨_, rfl⟩
              rw [← hW]
              have h4 := set3 HR.out (.bool false) (.bool neg) (.slice sa acc.length sc)
              rw [← hW] at h4
              obtain ⟨h41, h42⟩ := h4
              have m0 : W.cell? ⟨w.heap.size, 0, none⟩ = some (.bool false) := by rw [cell_of_heap h41]; rfl
              have m1 : W.cell? ⟨w.heap.size, 1, none⟩ = some (.bool neg) := by rw [cell_of_heap h41]; rfl
              have m2 : W.cell? ⟨w.heap.size, 2, none⟩ = some (.slice sa acc.length sc) := by rw [cell_of_heap h41]; rfl
              clear hW
              refine bodyPost_ret (v := .tuple #[.agg #[.bool false, .bool neg, .slice sa acc.length sc], .int .i64 ((k : Int)), .bool (false)]) (by simp [results, Tryd.results71, go_sem, m0, m1, m2]) rfl ?_
              rw [HF.out]
              exact ⟨_, _, _, _, _, rfl, (HI.out.ranges h42).2⟩
          | some q =>
            obtain ⟨lo, t1⟩ := q
            have HEL := Lib.hid hel
            obtain ⟨nx, ht1, hnx1, hnx2, hcall⟩ := r_elem_ok S rs _ k (k : Int) lo t1 wr HVR.out rfl hel
            have HCALL := Lib.hid hcall
            have HT1 := Lib.hid ht1
            clear hel hcall ht1
            have hlt : k < rs.length := by omega
            obtain ⟨r, c1, e93⟩ := HTEST.out hlt
            have i1 : (k : Int) < (rs.length : Int) := by omega
            go_wp2_with fail
            refine HCALL.out.mono ?_
            rintro e w' ⟨rfl, rfl⟩
            clear c1 e93
            by_cases h45 : rs[nx]? = some 45
            · have hlt2 : nx < rs.length := (List.getElem?_eq_some_iff.1 h45).1
              have c2 := HCELL.out nx _ h45
              have i2 : (nx : Int) < (rs.length : Int) := by omega
              have H45 := Lib.hid (show t1.head? = some 45 by rw [HT1.out, List.head?_drop]; exact h45)
              have htl : t1.tail = rs.drop (nx + 1) := by rw [HT1.out, List.tail_drop]
              have HTL := Lib.hid htl
              clear h45 htl
              cases hel2 : elemS (rs.drop (nx + 1)) with
              | none =>
                have HEL2 := Lib.hid hel2
                clear hel2
                have hfail : clsS (rs.drop k0) = none := by rw [HCL.out, HC.out, classS, if_neg HNE.out, HEL.out]; simp only; rw [if_pos H45.out, HTL.out, HEL2.out]
                have HF := Lib.hid hfail
                clear hfail
                go_wp2_with fail
                refine (r_elem_bad S rs _ (nx + 1) _ wr HVR.out (by omega) (by omega) HEL2.out).mono ?_
                rintro e w' ⟨x, rfl, rfl⟩
                have hres := HI.out.res
                have hbox := HI.out.box
                have r0 : wr.cell? ⟨w.heap.size, 0, none⟩ = some (.bool false) := by rw [cell_of_heap hres]; rfl
                have r1 : wr.cell? ⟨w.heap.size, 1, none⟩ = some (.bool false) := by rw [cell_of_heap hres]; rfl
                have r2 : wr.cell? ⟨w.heap.size, 2, none⟩ = some (.slice none 0 0) := by rw [cell_of_heap hres]; rfl
                have f0 : wr.frozen? ⟨w.heap.size, 0, none⟩ = false := frozen_of_heap hres
                have f1 : wr.frozen? ⟨w.heap.size, 1, none⟩ = false := frozen_of_heap hres
                have f2 : wr.frozen? ⟨w.heap.size, 2, none⟩ = false := frozen_of_heap hres
                have x0 : wr.cell? ⟨w.heap.size + 1, 0, none⟩ = some (.bool false) := by rw [cell_of_heap hbox]; rfl
                have x1 : wr.cell? ⟨w.heap.size + 1, 1, none⟩ = some (.bool neg) := by rw [cell_of_heap hbox]; rfl
                have x2 : wr.cell? ⟨w.heap.size + 1, 2, none⟩ = some (.slice sa acc.length sc) := by rw [cell_of_heap hbox]; rfl
                have kf : wr.frozen? ⟨w.heap.size + 1, 2, none⟩ = false := frozen_of_heap hbox
                have HR := Lib.hid hres
                clear hres hbox
                go_wp2_with fail
                obtain ⟨W, hW⟩ : ∃ W, W = (((wr.setCell ⟨w.heap.size, 0, none⟩ (.bool false)).setCell ⟨w.heap.size, 1, none⟩ (.bool neg)).setCell ⟨w.heap.size, 2, none⟩ (.slice sa acc.length sc)) := ⟨_, rfl⟩
                rw [← hW]
                have h4 := set3 HR.out (.bool false) (.bool neg) (.slice sa acc.length sc)
                rw [← hW] at h4
                obtain ⟨h41, h42⟩ := h4
                have m0 : W.cell? ⟨w.heap.size, 0, none⟩ = some (.bool false) := by rw [cell_of_heap h41]; rfl
                have m1 : W.cell? ⟨w.heap.size, 1, none⟩ = some (.bool neg) := by rw [cell_of_heap h41]; rfl
                have m2 : W.cell? ⟨w.heap.size, 2, none⟩ = some (.slice sa acc.length sc) := by rw [cell_of_heap h41]; rfl
                clear hW
                refine bodyPost_ret (v := .tuple #[.agg #[.bool false, .bool neg, .slice sa acc.length sc], .int .i64 ((nx : Int)), .bool (false)]) (by simp [results, Tryd.results71, go_sem, m0, m1, m2]) rfl ?_
                rw [HF.out]
                exact ⟨_, _, _, _, _, rfl, (HI.out.ranges h42).2⟩
              | some q2 =>
                obtain ⟨hi, t2⟩ := q2
                have HEL2 := Lib.hid hel2
                obtain ⟨nx2, ht2, hn1, hn2, hcall⟩ := r_elem_ok S rs _ (nx + 1) ((nx : Int) + 1) hi t2 wr HVR.out (by omega) hel2
                have HCALL2 := Lib.hid hcall
                have HT2 := Lib.hid ht2
                clear hel2 hcall ht2
                by_cases hhl : hi < lo
                · have hfail : clsS (rs.drop k0) = none := by rw [HCL.out, HC.out, classS, if_neg HNE.out, HEL.out]; simp only; rw [if_pos H45.out, HTL.out, HEL2.out]; simp only; rw [if_pos hhl]
                  have HF := Lib.hid hfail
                  clear hfail
                  go_wp2_with fail
                  refine HCALL2.out.mono ?_
                  rintro e w' ⟨rfl, rfl⟩
                  have hres := HI.out.res
                  have hbox := HI.out.box
                  have r0 : wr.cell? ⟨w.heap.size, 0, none⟩ = some (.bool false) := by rw [cell_of_heap hres]; rfl
                  have r1 : wr.cell? ⟨w.heap.size, 1, none⟩ = some (.bool false) := by rw [cell_of_heap hres]; rfl
                  have r2 : wr.cell? ⟨w.heap.size, 2, none⟩ = some (.slice none 0 0) := by rw [cell_of_heap hres]; rfl
                  have f0 : wr.frozen? ⟨w.heap.size, 0, none⟩ = false := frozen_of_heap hres
                  have f1 : wr.frozen? ⟨w.heap.size, 1, none⟩ = false := frozen_of_heap hres
                  have f2 : wr.frozen? ⟨w.heap.size, 2, none⟩ = false := frozen_of_heap hres
                  have x0 : wr.cell? ⟨w.heap.size + 1, 0, none⟩ = some (.bool false) := by rw [cell_of_heap hbox]; rfl
                  have x1 : wr.cell? ⟨w.heap.size + 1, 1, none⟩ = some (.bool neg) := by rw [cell_of_heap hbox]; rfl
                  have x2 : wr.cell? ⟨w.heap.size + 1, 2, none⟩ = some (.slice sa acc.length sc) := by rw [cell_of_heap hbox]; rfl
                  have kf : wr.frozen? ⟨w.heap.size + 1, 2, none⟩ = false := frozen_of_heap hbox
                  have HR := Lib.hid hres
                  clear hres hbox
                  go_wp2_with fail
                  obtain ⟨W, hW⟩ : ∃ W, W = (((wr.setCell ⟨w.heap.size, 0, none⟩ (.bool false)).setCell ⟨w.heap.size, 1, none⟩ (.bool neg)).setCell ⟨w.heap.size, 2, none⟩ (.slice sa acc.length sc)) := ⟨_, rfl⟩
                  rw [← hW]
                  have h4 := set3 HR.out (.bool false) (.bool neg) (.slice sa acc.length sc)
                  rw [← hW] at h4
                  obtain ⟨h41, h42⟩ := h4
                  have m0 : W.cell? ⟨w.heap.size, 0, none⟩ = some (.bool false) := by rw [cell_of_heap h41]; rfl
                  have m1 : W.cell? ⟨w.heap.size, 1, none⟩ = some (.bool neg) := by rw [cell_of_heap h41]; rfl
                  have m2 : W.cell? ⟨w.heap.size, 2, none⟩ = some (.slice sa acc.length sc) := by rw [cell_of_heap h41]; rfl
                  clear hW
                  refine bodyPost_ret (v := .tuple #[.agg #[.bool false, .bool neg, .slice sa acc.length sc], .int .i64 ((nx : Int)), .bool (false)]) (by simp [results, Tryd.results71, go_sem, m0, m1, m2]) rfl ?_
                  rw [HF.out]
                  exact ⟨_, _, _, _, _, rfl, (HI.out.ranges h42).2⟩
                · have hcs : classS (t'.length + 1) t' [] = classS f' (rs.drop nx2) (acc ++ [(lo, hi)]) := by rw [HC.out, classS, if_neg HNE.out, HEL.out]; simp only; rw [if_pos H45.out, HTL.out, HEL2.out]; simp only; rw [if_neg hhl, HT2.out]
                  have HCS := Lib.hid hcs
                  clear hcs
                  go_wp2_with fail
                  refine HCALL2.out.mono ?_
                  rintro e w' ⟨rfl, rfl⟩
                  have hbox := HI.out.box
                  have x2 : wr.cell? ⟨w.heap.size + 1, 2, none⟩ = some (.slice sa acc.length sc) := by rw [cell_of_heap hbox]; rfl
                  have kf : wr.frozen? ⟨w.heap.size + 1, 2, none⟩ = false := frozen_of_heap hbox
                  have hbl := HI.out.lt
                  clear hbox
                  go_wp2_with (at_builtin; go_must (refine wpList_app1 Tryd.appSpans rfl _ _ rfl (w.heap.size + 2) (.slice sa acc.length sc) acc.length (flatR acc) rfl wr [.int .i32 lo, .int .i32 hi] _ rfl rfl (by simp; first | rfl | exact ⟨rfl, rfl⟩) HI.out.own (by omega) hbl ?_); intro v' w5 hown5 hgrow5 _; obtain ⟨a5, c5, rfl, -, -⟩ := owns_shape hown5; have HI5 := Lib.hid (HI.out.added hown5 hgrow5); have hbx5 : w5.heap[w.heap.size + 1]? = some (.cells #[.bool false, .bool neg, .slice sa acc.length sc] 101 (0, 0)) := (by rw [hgrow5.block _ (by omega) (fun e => by have := (HI.out.own.lt _ e.symm).1; omega)]; exact HI.out.box); have q5 : w5.cell? ⟨w.heap.size + 1, 2, none⟩ = some (.slice sa acc.length sc) := (by rw [cell_of_heap hbx5]; rfl); have q6 : w5.frozen? ⟨w.heap.size + 1, 2, none⟩ = false := frozen_of_heap hbx5; clear hbx5; clear hown5 hgrow5)
                  go_wp2_with fail
                  go_roundw
                  case rel => exact ⟨nx2, acc ++ [(lo, hi)], _, f', by omega, by simp; omega, by first | rfl | go_num, HI5.out, by omega, by rw [List.length_drop]; omega, HCS.out⟩
                  case measure => simp [intOf]; omega
            · have hcs : classS (t'.length + 1) t' [] = classS f' (rs.drop nx) (acc ++ [(lo, lo)]) := by rw [HC.out, classS, if_neg HNE.out, HEL.out]; simp only; rw [if_neg (by rw [HT1.out, List.head?_drop]; exact h45), HT1.out]
              have HCS := Lib.hid hcs
              clear hcs
              by_cases hlt2 : nx < rs.length
              · have hr : rs[nx]? = some rs[nx] := List.getElem?_eq_getElem hlt2
                have c2 := HCELL.out nx _ hr
                obtain ⟨r2, hr2⟩ : ∃ r2, rs[nx] = r2 := ⟨_, rfl⟩
                rw [hr2] at c2
                have e45 : (r2 == 45) = false := beq_int (fun e => h45 (by rw [hr, hr2, e]))
                have i2 : (nx : Int) < (rs.length : Int) := by omega
                clear h45 hr hr2
                have hbox := HI.out.box
                have x2 : wr.cell? ⟨w.heap.size + 1, 2, none⟩ = some (.slice sa acc.length sc) := by rw [cell_of_heap hbox]; rfl
                have kf : wr.frozen? ⟨w.heap.size + 1, 2, none⟩ = false := frozen_of_heap hbox
                have hbl := HI.out.lt
                clear hbox
                go_wp2_with (at_builtin; go_must (refine wpList_app1 Tryd.appSpans rfl _ _ rfl (w.heap.size + 2) (.slice sa acc.length sc) acc.length (flatR acc) rfl wr [.int .i32 lo, .int .i32 lo] _ rfl rfl (by simp; first | rfl | exact ⟨rfl, rfl⟩) HI.out.own (by omega) hbl ?_); intro v' w5 hown5 hgrow5 _; obtain ⟨a5, c5, rfl, -, -⟩ := owns_shape hown5; have HI5 := Lib.hid (HI.out.added hown5 hgrow5); have hbx5 : w5.heap[w.heap.size + 1]? = some (.cells #[.bool false, .bool neg, .slice sa acc.length sc] 101 (0, 0)) := (by rw [hgrow5.block _ (by omega) (fun e => by have := (HI.out.own.lt _ e.symm).1; omega)]; exact HI.out.box); have q5 : w5.cell? ⟨w.heap.size + 1, 2, none⟩ = some (.slice sa acc.length sc) := (by rw [cell_of_heap hbx5]; rfl); have q6 : w5.frozen? ⟨w.heap.size + 1, 2, none⟩ = false := frozen_of_heap hbx5; clear hbx5; clear hown5 hgrow5)
                go_wp2_with fail
                go_roundw
                case rel => exact ⟨nx, acc ++ [(lo, lo)], _, f', by omega, by simp; omega, by first | rfl | go_num, HI5.out, by omega, by rw [List.length_drop]; omega, HCS.out⟩
                case measure => simp [intOf]; omega
              · have i2 : decide ((nx : Int) < (rs.length : Int)) = false := by simp; omega
                clear h45
                have hbox := HI.out.box
                have x2 : wr.cell? ⟨w.heap.size + 1, 2, none⟩ = some (.slice sa acc.length sc) := by rw [cell_of_heap hbox]; rfl
                have kf : wr.frozen? ⟨w.heap.size + 1, 2, none⟩ = false := frozen_of_heap hbox
                have hbl := HI.out.lt
                clear hbox
                go_wp2_with (at_builtin; go_must (refine wpList_app1 Tryd.appSpans rfl _ _ rfl (w.heap.size + 2) (.slice sa acc.length sc) acc.length (flatR acc) rfl wr [.int .i32 lo, .int .i32 lo] _ rfl rfl (by simp; first | rfl | exact ⟨rfl, rfl⟩) HI.out.own (by omega) hbl ?_); intro v' w5 hown5 hgrow5 _; obtain ⟨a5, c5, rfl, -, -⟩ := owns_shape hown5; have HI5 := Lib.hid (HI.out.added hown5 hgrow5); have hbx5 : w5.heap[w.heap.size + 1]? = some (.cells #[.bool false, .bool neg, .slice sa acc.length sc] 101 (0, 0)) := (by rw [hgrow5.block _ (by omega) (fun e => by have := (HI.out.own.lt _ e.symm).1; omega)]; exact HI.out.box); have q5 : w5.cell? ⟨w.heap.size + 1, 2, none⟩ = some (.slice sa acc.length sc) := (by rw [cell_of_heap hbx5]; rfl); have q6 : w5.frozen? ⟨w.heap.size + 1, 2, none⟩ = false := frozen_of_heap hbx5; clear hbx5; clear hown5 hgrow5)
                go_wp2_with fail
                go_roundw
                case rel => exact ⟨nx, acc ++ [(lo, lo)], _, f', by omega, by simp; omega, by first | rfl | go_num, HI5.out, by omega, by rw [List.length_drop]; omega, HCS.out⟩
                case measure => simp [intOf]; omega
    · obtain ⟨neg, hneg⟩ : ∃ neg : Bool, neg = false := ⟨_, rfl⟩
      obtain ⟨t', ht'⟩ : ∃ t', t' = rs.drop k0 := ⟨_, rfl⟩
      have hcl : clsS (rs.drop k0) = match classS (t'.length + 1) t' [] with | none => none | some (rs, u) => if rs = [] then none else some (⟨false, false, neg, rs⟩, u) := by
        have h1 : ¬ (rs.drop k0).head? = some 94 := by rw [List.head?_drop]; exact h94
        unfold clsS
        rw [hneg, ht']
        simp only [h1, decide_false, Bool.false_eq_true, if_false]
        cases classS ((rs.drop k0).length + 1) (rs.drop k0) [] <;> rfl
      have HCL := Lib.hid hcl
      have HNEG := Lib.hid hneg
      have HT' := Lib.hid ht'
      clear hcl hneg ht'
      · have hr0 : rs[k0]? = some rs[k0] := List.getElem?_eq_getElem hlt0
        have c0 := HCELL0.out k0 _ hr0
        obtain ⟨r0, hrr⟩ : ∃ r0, rs[k0] = r0 := ⟨_, rfl⟩
        rw [hrr] at c0
        have e94 : (r0 == 94) = false := beq_int (fun e => h94 (by rw [hr0, hrr, e]))
        have i0 : (k0 : Int) < (rs.length : Int) := by omega
        have n1 : ¬ b0 = w.heap.size := by omega
        have n2 : ¬ b0 = w.heap.size + 1 := by omega
        clear h94 hr0 hrr
        go_enter Tryd.func71, Tryd.ntmps71
        go_wp2_with fail
        go_loopw [1] (fun i wr => ∃ (k : Nat) (acc : List (Int × Int)) (sv : Value) (f : Nat), k ≤ rs.length ∧ acc.length ≤ k ∧ i = .int .i64 k ∧ RCls w neg acc sv wr ∧ k0 ≤ k ∧ (rs.drop k).length < f ∧ classS (t'.length + 1) t' [] = classS f (rs.drop k) acc) (fun i _ => rs.length - (intOf i).toNat)
        case atStart => exact ⟨k0, [], .slice none 0 0, _, by omega, Nat.zero_le _, by first | rfl | go_num, by rw [HNEG.out]; exact RCls.start w, by omega, Nat.lt_succ_self _, by rw [HT'.out]⟩
        case round =>
          obtain ⟨k, acc, sv, f, hk, hak, rfl, hI, hk0k, hf, hc⟩ := hrel
          obtain ⟨sa, sc, rfl, hsn, hsm⟩ := owns_shape hI.own
          obtain ⟨f', rfl⟩ : ∃ f', f = f' + 1 := ⟨f - 1, by omega⟩
          rw [List.length_drop] at hf
          have HI := Lib.hid hI
          have HC := Lib.hid hc
          have hvr : RunesAt S wr (.slice (some ⟨b0, o0, none⟩) rs.length cap) rs := RowAt.below HV.out (by omega) hI.below
          have HVR := Lib.hid hvr
          have HCELL := Lib.hid (runes_at hvr)
          clear hI hc hvr
          by_cases h93 : rs[k]? = some 93
          · have hlt : k < rs.length := (List.getElem?_eq_some_iff.1 h93).1
            have c1 := HCELL.out k _ h93
            have i1 : (k : Int) < (rs.length : Int) := by omega
            have hcs : classS (t'.length + 1) t' [] = some (acc, rs.drop (k + 1)) := by
              rw [HC.out, classS, if_pos (by rw [List.head?_drop]; exact h93)]
              rw [List.tail_drop]
            have HCS := Lib.hid hcs
            have hbl := HI.out.lt
            clear h93 hcs
            have hres := HI.out.res
            have hbox := HI.out.box
            have r0 : wr.cell? ⟨w.heap.size, 0, none⟩ = some (.bool false) := by rw [cell_of_heap hres]; rfl
            have r1 : wr.cell? ⟨w.heap.size, 1, none⟩ = some (.bool false) := by rw [cell_of_heap hres]; rfl
            have r2 : wr.cell? ⟨w.heap.size, 2, none⟩ = some (.slice none 0 0) := by rw [cell_of_heap hres]; rfl
            have f0 : wr.frozen? ⟨w.heap.size, 0, none⟩ = false := frozen_of_heap hres
            have f1 : wr.frozen? ⟨w.heap.size, 1, none⟩ = false := frozen_of_heap hres
            have f2 : wr.frozen? ⟨w.heap.size, 2, none⟩ = false := frozen_of_heap hres
            have x0 : wr.cell? ⟨w.heap.size + 1, 0, none⟩ = some (.bool false) := by rw [cell_of_heap hbox]; rfl
            have x1 : wr.cell? ⟨w.heap.size + 1, 1, none⟩ = some (.bool neg) := by rw [cell_of_heap hbox]; rfl
            have x2 : wr.cell? ⟨w.heap.size + 1, 2, none⟩ = some (.slice sa acc.length sc) := by rw [cell_of_heap hbox]; rfl
            have kf : wr.frozen? ⟨w.heap.size + 1, 2, none⟩ = false := frozen_of_heap hbox
            have HR := Lib.hid hres
            clear hres hbox
            have hwr : IntKind.i64.wrap ((k : Int) + 1) = (k : Int) + 1 := IntWalk.i64_in _ (by omega)
            go_wp2_with fail
            go_region
            clear hwr
            go_wp2_with fail
            obtain ⟨W, hW⟩ : ∃ W, W = (((wr.setCell ⟨w.heap.size, 0, none⟩ (.bool false)).setCell ⟨w.heap.size, 1, none⟩ (.bool neg)).setCell ⟨w.heap.size, 2, none⟩ (.slice sa acc.length sc)) := ⟨_, rfl⟩
            rw [← hW]
            have h4 := set3 HR.out (.bool false) (.bool neg) (.slice sa acc.length sc)
            rw [← hW] at h4
            obtain ⟨h41, h42⟩ := h4
            have m0 : W.cell? ⟨w.heap.size, 0, none⟩ = some (.bool false) := by rw [cell_of_heap h41]; rfl
            have m1 : W.cell? ⟨w.heap.size, 1, none⟩ = some (.bool neg) := by rw [cell_of_heap h41]; rfl
            have m2 : W.cell? ⟨w.heap.size, 2, none⟩ = some (.slice sa acc.length sc) := by rw [cell_of_heap h41]; rfl
            clear hW
            refine bodyPost_ret (v := .tuple #[.agg #[.bool false, .bool neg, .slice sa acc.length sc], .int .i64 ((k : Int) + 1), .bool (decide (0 < acc.length))]) (by simp [results, Tryd.results71, go_sem, m0, m1, m2]) rfl ?_
            obtain ⟨hrg, hbw⟩ := HI.out.ranges (grown_drew h42)
            rw [HCL.out, HCS.out]
            simp only
            by_cases hac : acc = []
            · subst hac
              exact ⟨_, _, _, _, _, rfl, hbw⟩
            · rw [if_neg hac]
              have hpos : 0 < acc.length := List.length_pos_iff.2 hac
              refine ⟨.slice sa acc.length sc, k + 1, ?_, rfl, by omega, by omega, hrg, hbw⟩
              simp [hpos]
          · have hne : ¬ (rs.drop k).head? = some 93 := by rw [List.head?_drop]; exact h93
            have HNE := Lib.hid hne
            have htest : k < rs.length → ∃ r, wr.cell? ⟨b0, o0 + k, none⟩ = some (.int .i32 r) ∧ (r == 93) = false := fun hlt => by
              have hr : rs[k]? = some rs[k] := List.getElem?_eq_getElem hlt
              exact ⟨_, HCELL.out k _ hr, beq_int (fun e => h93 (by rw [hr, e]))⟩
            have HTEST := Lib.hid htest
            clear h93 hne htest
            cases hel : elemS (rs.drop k) with
            | none =>
              have HEL := Lib.hid hel
              clear hel
              have hfail : clsS (rs.drop k0) = none := by rw [HCL.out, HC.out, classS, if_neg HNE.out, HEL.out]
              have HF := Lib.hid hfail
              clear hfail
              by_cases hlt : k < rs.length
              · obtain ⟨r, c1, e93⟩ := HTEST.out hlt
                have i1 : (k : Int) < (rs.length : Int) := by omega
                go_wp2_with fail
                refine (r_elem_bad S rs _ k _ wr HVR.out rfl (by omega) HEL.out).mono ?_
                rintro e w' ⟨x, rfl, rfl⟩
                have hres := HI.out.res
                have hbox := HI.out.box
                have r0 : wr.cell? ⟨w.heap.size, 0, none⟩ = some (.bool false) := by rw [cell_of_heap hres]; rfl
                have r1 : wr.cell? ⟨w.heap.size, 1, none⟩ = some (.bool false) := by rw [cell_of_heap hres]; rfl
                have r2 : wr.cell? ⟨w.heap.size, 2, none⟩ = some (.slice none 0 0) := by rw [cell_of_heap hres]; rfl
                have f0 : wr.frozen? ⟨w.heap.size, 0, none⟩ = false := frozen_of_heap hres
                have f1 : wr.frozen? ⟨w.heap.size, 1, none⟩ = false := frozen_of_heap hres
                have f2 : wr.frozen? ⟨w.heap.size, 2, none⟩ = false := frozen_of_heap hres
                have x0 : wr.cell? ⟨w.heap.size + 1, 0, none⟩ = some (.bool false) := by rw [cell_of_heap hbox]; rfl
                have x1 : wr.cell? ⟨w.heap.size + 1, 1, none⟩ = some (.bool neg) := by rw [cell_of_heap hbox]; rfl
                have x2 : wr.cell? ⟨w.heap.size + 1, 2, none⟩ = some (.slice sa acc.length sc) := by rw [cell_of_heap hbox]; rfl
                have kf : wr.frozen? ⟨w.heap.size + 1, 2, none⟩ = false := frozen_of_heap hbox
                have HR := Lib.hid hres
                clear hres hbox
                go_wp2_with fail
                obtain ⟨W, hW⟩ : ∃ W, W = (((wr.setCell ⟨w.heap.size, 0, none⟩ (.bool false)).setCell ⟨w.heap.size, 1, none⟩ (.bool neg)).setCell ⟨w.heap.size, 2, none⟩ (.slice sa acc.length sc)) := ⟨_, rfl⟩
                rw [← hW]
                have h4 := set3 HR.out (.bool false) (.bool neg) (.slice sa acc.length sc)
                rw [← hW] at h4
                obtain ⟨h41, h42⟩ := h4
                have m0 : W.cell? ⟨w.heap.size, 0, none⟩ = some (.bool false) := by rw [cell_of_heap h41]; rfl
                have m1 : W.cell? ⟨w.heap.size, 1, none⟩ = some (.bool neg) := by rw [cell_of_heap h41]; rfl
                have m2 : W.cell? ⟨w.heap.size, 2, none⟩ = some (.slice sa acc.length sc) := by rw [cell_of_heap h41]; rfl
                clear hW
                refine bodyPost_ret (v := .tuple #[.agg #[.bool false, .bool neg, .slice sa acc.length sc], .int .i64 ((k : Int)), .bool (false)]) (by simp [results, Tryd.results71, go_sem, m0, m1, m2]) rfl ?_
                rw [HF.out]
                exact ⟨_, _, _, _, _, rfl, (HI.out.ranges h42).2⟩
              · have i1 : decide ((k : Int) < (rs.length : Int)) = false := by simp; omega
                go_wp2_with fail
                refine (r_elem_bad S rs _ k _ wr HVR.out rfl (by omega) HEL.out).mono ?_
                rintro e w' ⟨x, rfl, rfl⟩
                have hres := HI.out.res
                have hbox := HI.out.box
                have r0 : wr.cell? ⟨w.heap.size, 0, none⟩ = some (.bool false) := by rw [cell_of_heap hres]; rfl
                have r1 : wr.cell? ⟨w.heap.size, 1, none⟩ = some (.bool false) := by rw [cell_of_heap hres]; rfl
                have r2 : wr.cell? ⟨w.heap.size, 2, none⟩ = some (.slice none 0 0) := by rw [cell_of_heap hres]; rfl
                have f0 : wr.frozen? ⟨w.heap.size, 0, none⟩ = false := frozen_of_heap hres
                have f1 : wr.frozen? ⟨w.heap.size, 1, none⟩ = false := frozen_of_heap hres
                have f2 : wr.frozen? ⟨w.heap.size, 2, none⟩ = false := frozen_of_heap hres
                have x0 : wr.cell? ⟨w.heap.size + 1, 0, none⟩ = some (.bool false) := by rw [cell_of_heap hbox]; rfl
                have x1 : wr.cell? ⟨w.heap.size + 1, 1, none⟩ = some (.bool neg) := by rw [cell_of_heap hbox]; rfl
                have x2 : wr.cell? ⟨w.heap.size + 1, 2, none⟩ = some (.slice sa acc.length sc) := by rw [cell_of_heap hbox]; rfl
                have kf : wr.frozen? ⟨w.heap.size + 1, 2, none⟩ = false := frozen_of_heap hbox
                have HR := Lib.hid hres
                clear hres hbox
                go_wp2_with fail
                obtain ⟨W, hW⟩ : ∃ W, W = (((wr.setCell ⟨w.heap.size, 0, none⟩ (.bool false)).setCell ⟨w.heap.size, 1, none⟩ (.bool neg)).setCell ⟨w.heap.size, 2, none⟩ (.slice sa acc.length sc)) := ⟨_, rfl⟩
                rw [← hW]
                have h4 := set3 HR.out (.bool false) (.bool neg) (.slice sa acc.length sc)
                rw [← hW] at h4
                obtain ⟨h41, h42⟩ := h4
                have m0 : W.cell? ⟨w.heap.size, 0, none⟩ = some (.bool false) := by rw [cell_of_heap h41]; rfl
                have m1 : W.cell? ⟨w.heap.size, 1, none⟩ = some (.bool neg) := by rw [cell_of_heap h41]; rfl
                have m2 : W.cell? ⟨w.heap.size, 2, none⟩ = some (.slice sa acc.length sc) := by rw [cell_of_heap h41]; rfl
                clear hW
                refine bodyPost_ret (v := .tuple #[.agg #[.bool false, .bool neg, .slice sa acc.length sc], .int .i64 ((k : Int)), .bool (false)]) (by simp [results, Tryd.results71, go_sem, m0, m1, m2]) rfl ?_
                rw [HF.out]
                exact ⟨_, _, _, _, _, rfl, (HI.out.ranges h42).2⟩
            | some q =>
              obtain ⟨lo, t1⟩ := q
              have HEL := Lib.hid hel
              obtain ⟨nx, ht1, hnx1, hnx2, hcall⟩ := r_elem_ok S rs _ k (k : Int) lo t1 wr HVR.out rfl hel
              have HCALL := Lib.hid hcall
              have HT1 := Lib.hid ht1
              clear hel hcall ht1
              have hlt : k < rs.length := by omega
              obtain ⟨r, c1, e93⟩ := HTEST.out hlt
              have i1 : (k : Int) < (rs.length : Int) := by omega
              go_wp2_with fail
              refine HCALL.out.mono ?_
              rintro e w' ⟨rfl, rfl⟩
              clear c1 e93
              by_cases h45 : rs[nx]? = some 45
              · have hlt2 : nx < rs.length := (List.getElem?_eq_some_iff.1 h45).1
                have c2 := HCELL.out nx _ h45
                have i2 : (nx : Int) < (rs.length : Int) := by omega
                have H45 := Lib.hid (show t1.head? = some 45 by rw [HT1.out, List.head?_drop]; exact h45)
                have htl : t1.tail = rs.drop (nx + 1) := by rw [HT1.out, List.tail_drop]
                have HTL := Lib.hid htl
                clear h45 htl
                cases hel2 : elemS (rs.drop (nx + 1)) with
                | none =>
                  have HEL2 := Lib.hid hel2
                  clear hel2
                  have hfail : clsS (rs.drop k0) = none := by rw [HCL.out, HC.out, classS, if_neg HNE.out, HEL.out]; simp only; rw [if_pos H45.out, HTL.out, HEL2.out]
                  have HF := Lib.hid hfail
                  clear hfail
                  go_wp2_with fail
                  refine (r_elem_bad S rs _ (nx + 1) _ wr HVR.out (by omega) (by omega) HEL2.out).mono ?_
                  rintro e w' ⟨x, rfl, rfl⟩
                  have hres := HI.out.res
                  have hbox := HI.out.box
                  have r0 : wr.cell? ⟨w.heap.size, 0, none⟩ = some (.bool false) := by rw [cell_of_heap hres]; rfl
                  have r1 : wr.cell? ⟨w.heap.size, 1, none⟩ = some (.bool false) := by rw [cell_of_heap hres]; rfl
                  have r2 : wr.cell? ⟨w.heap.size, 2, none⟩ = some (.slice none 0 0) := by rw [cell_of_heap hres]; rfl
                  have f0 : wr.frozen? ⟨w.heap.size, 0, none⟩ = false := frozen_of_heap hres
                  have f1 : wr.frozen? ⟨w.heap.size, 1, none⟩ = false := frozen_of_heap hres
                  have f2 : wr.frozen? ⟨w.heap.size, 2, none⟩ = false := frozen_of_heap hres
                  have x0 : wr.cell? ⟨w.heap.size + 1, 0, none⟩ = some (.bool false) := by rw [cell_of_heap hbox]; rfl
                  have x1 : wr.cell? ⟨w.heap.size + 1, 1, none⟩ = some (.bool neg) := by rw [cell_of_heap hbox]; rfl
                  have x2 : wr.cell? ⟨w.heap.size + 1, 2, none⟩ = some (.slice sa acc.length sc) := by rw [cell_of_heap hbox]; rfl
                  have kf : wr.frozen? ⟨w.heap.size + 1, 2, none⟩ = false := frozen_of_heap hbox
                  have HR := Lib.hid hres
                  clear hres hbox
                  go_wp2_with fail
                  obtain ⟨W, hW⟩ : ∃ W, W = (((wr.setCell ⟨w.heap.size, 0, none⟩ (.bool false)).setCell ⟨w.heap.size, 1, none⟩ (.bool neg)).setCell ⟨w.heap.size, 2, none⟩ (.slice sa acc.length sc)) := ⟨_, rfl⟩
                  rw [← hW]
                  have h4 := set3 HR.out (.bool false) (.bool neg) (.slice sa acc.length sc)
                  rw [← hW] at h4
                  obtain ⟨h41, h42⟩ := h4
                  have m0 : W.cell? ⟨w.heap.size, 0, none⟩ = some (.bool false) := by rw [cell_of_heap h41]; rfl
                  have m1 : W.cell? ⟨w.heap.size, 1, none⟩ = some (.bool neg) := by rw [cell_of_heap h41]; rfl
                  have m2 : W.cell? ⟨w.heap.size, 2, none⟩ = some (.slice sa acc.length sc) := by rw [cell_of_heap h41]; rfl
                  clear hW
                  refine bodyPost_ret (v := .tuple #[.agg #[.bool false, .bool neg, .slice sa acc.length sc], .int .i64 ((nx : Int)), .bool (false)]) (by simp [results, Tryd.results71, go_sem, m0, m1, m2]) rfl ?_
                  rw [HF.out]
                  exact ⟨_, _, _, _, _, rfl, (HI.out.ranges h42).2⟩
                | some q2 =>
                  obtain ⟨hi, t2⟩ := q2
                  have HEL2 := Lib.hid hel2
                  obtain ⟨nx2, ht2, hn1, hn2, hcall⟩ := r_elem_ok S rs _ (nx + 1) ((nx : Int) + 1) hi t2 wr HVR.out (by omega) hel2
                  have HCALL2 := Lib.hid hcall
                  have HT2 := Lib.hid ht2
                  clear hel2 hcall ht2
                  by_cases hhl : hi < lo
                  · have hfail : clsS (rs.drop k0) = none := by rw [HCL.out, HC.out, classS, if_neg HNE.out, HEL.out]; simp only; rw [if_pos H45.out, HTL.out, HEL2.out]; simp only; rw [if_pos hhl]
                    have HF := Lib.hid hfail
                    clear hfail
                    go_wp2_with fail
                    refine HCALL2.out.mono ?_
                    rintro e w' ⟨rfl, rfl⟩
                    have hres := HI.out.res
                    have hbox := HI.out.box
                    have r0 : wr.cell? ⟨w.heap.size, 0, none⟩ = some (.bool false) := by rw [cell_of_heap hres]; rfl
                    have r1 : wr.cell? ⟨w.heap.size, 1, none⟩ = some (.bool false) := by rw [cell_of_heap hres]; rfl
                    have r2 : wr.cell? ⟨w.heap.size, 2, none⟩ = some (.slice none 0 0) := by rw [cell_of_heap hres]; rfl
                    have f0 : wr.frozen? ⟨w.heap.size, 0, none⟩ = false := frozen_of_heap hres
                    have f1 : wr.frozen? ⟨w.heap.size, 1, none⟩ = false := frozen_of_heap hres
                    have f2 : wr.frozen? ⟨w.heap.size, 2, none⟩ = false := frozen_of_heap hres
                    have x0 : wr.cell? ⟨w.heap.size + 1, 0, none⟩ = some (.bool false) := by rw [cell_of_heap hbox]; rfl
                    have x1 : wr.cell? ⟨w.heap.size + 1, 1, none⟩ = some (.bool neg) := by rw [cell_of_heap hbox]; rfl
                    have x2 : wr.cell? ⟨w.heap.size + 1, 2, none⟩ = some (.slice sa acc.length sc) := by rw [cell_of_heap hbox]; rfl
                    have kf : wr.frozen? ⟨w.heap.size + 1, 2, none⟩ = false := frozen_of_heap hbox
                    have HR := Lib.hid hres
                    clear hres hbox
                    go_wp2_with fail
                    obtain ⟨W, hW⟩ : ∃ W, W = (((wr.setCell ⟨w.heap.size, 0, none⟩ (.bool false)).setCell ⟨w.heap.size, 1, none⟩ (.bool neg)).setCell ⟨w.heap.size, 2, none⟩ (.slice sa acc.length sc)) := ⟨_, rfl⟩
                    rw [← hW]
                    have h4 := set3 HR.out (.bool false) (.bool neg) (.slice sa acc.length sc)
                    rw [← hW] at h4
                    obtain ⟨h41, h42⟩ := h4
                    have m0 : W.cell? ⟨w.heap.size, 0, none⟩ = some (.bool false) := by rw [cell_of_heap h41]; rfl
                    have m1 : W.cell? ⟨w.heap.size, 1, none⟩ = some (.bool neg) := by rw [cell_of_heap h41]; rfl
                    have m2 : W.cell? ⟨w.heap.size, 2, none⟩ = some (.slice sa acc.length sc) := by rw [cell_of_heap h41]; rfl
                    clear hW
                    refine bodyPost_ret (v := .tuple #[.agg #[.bool false, .bool neg, .slice sa acc.length sc], .int .i64 ((nx : Int)), .bool (false)]) (by simp [results, Tryd.results71, go_sem, m0, m1, m2]) rfl ?_
                    rw [HF.out]
                    exact ⟨_, _, _, _, _, rfl, (HI.out.ranges h42).2⟩
                  · have hcs : classS (t'.length + 1) t' [] = classS f' (rs.drop nx2) (acc ++ [(lo, hi)]) := by rw [HC.out, classS, if_neg HNE.out, HEL.out]; simp only; rw [if_pos H45.out, HTL.out, HEL2.out]; simp only; rw [if_neg hhl, HT2.out]
                    have HCS := Lib.hid hcs
                    clear hcs
                    go_wp2_with fail
                    refine HCALL2.out.mono ?_
                    rintro e w' ⟨rfl, rfl⟩
                    have hbox := HI.out.box
                    have x2 : wr.cell? ⟨w.heap.size + 1, 2, none⟩ = some (.slice sa acc.length sc) := by rw [cell_of_heap hbox]; rfl
                    have kf : wr.frozen? ⟨w.heap.size + 1, 2, none⟩ = false := frozen_of_heap hbox
                    have hbl := HI.out.lt
                    clear hbox
                    go_wp2_with (at_builtin; go_must (refine wpList_app1 Tryd.appSpans rfl _ _ rfl (w.heap.size + 2) (.slice sa acc.length sc) acc.length (flatR acc) rfl wr [.int .i32 lo, .int .i32 hi] _ rfl rfl (by simp; first | rfl | exact ⟨rfl, rfl⟩) HI.out.own (by omega) hbl ?_); intro v' w5 hown5 hgrow5 _; obtain ⟨a5, c5, rfl, -, -⟩ := owns_shape hown5; have HI5 := Lib.hid (HI.out.added hown5 hgrow5); have hbx5 : w5.heap[w.heap.size + 1]? = some (.cells #[.bool false, .bool neg, .slice sa acc.length sc] 101 (0, 0)) := (by rw [hgrow5.block _ (by omega) (fun e => by have := (HI.out.own.lt _ e.symm).1; omega)]; exact HI.out.box); have q5 : w5.cell? ⟨w.heap.size + 1, 2, none⟩ = some (.slice sa acc.length sc) := (by rw [cell_of_heap hbx5]; rfl); have q6 : w5.frozen? ⟨w.heap.size + 1, 2, none⟩ = false := frozen_of_heap hbx5; clear hbx5; clear hown5 hgrow5)
                    go_wp2_with fail
                    go_roundw
                    case rel => exact ⟨nx2, acc ++ [(lo, hi)], _, f', by omega, by simp; omega, by first | rfl | go_num, HI5.out, by omega, by rw [List.length_drop]; omega, HCS.out⟩
                    case measure => simp [intOf]; omega
              · have hcs : classS (t'.length + 1) t' [] = classS f' (rs.drop nx) (acc ++ [(lo, lo)]) := by rw [HC.out, classS, if_neg HNE.out, HEL.out]; simp only; rw [if_neg (by rw [HT1.out, List.head?_drop]; exact h45), HT1.out]
                have HCS := Lib.hid hcs
                clear hcs
                by_cases hlt2 : nx < rs.length
                · have hr : rs[nx]? = some rs[nx] := List.getElem?_eq_getElem hlt2
                  have c2 := HCELL.out nx _ hr
                  obtain ⟨r2, hr2⟩ : ∃ r2, rs[nx] = r2 := ⟨_, rfl⟩
                  rw [hr2] at c2
                  have e45 : (r2 == 45) = false := beq_int (fun e => h45 (by rw [hr, hr2, e]))
                  have i2 : (nx : Int) < (rs.length : Int) := by omega
                  clear h45 hr hr2
                  have hbox := HI.out.box
                  have x2 : wr.cell? ⟨w.heap.size + 1, 2, none⟩ = some (.slice sa acc.length sc) := by rw [cell_of_heap hbox]; rfl
                  have kf : wr.frozen? ⟨w.heap.size + 1, 2, none⟩ = false := frozen_of_heap hbox
                  have hbl := HI.out.lt
                  clear hbox
                  go_wp2_with (at_builtin; go_must (refine wpList_app1 Tryd.appSpans rfl _ _ rfl (w.heap.size + 2) (.slice sa acc.length sc) acc.length (flatR acc) rfl wr [.int .i32 lo, .int .i32 lo] _ rfl rfl (by simp; first | rfl | exact ⟨rfl, rfl⟩) HI.out.own (by omega) hbl ?_); intro v' w5 hown5 hgrow5 _; obtain ⟨a5, c5, rfl, -, -⟩ := owns_shape hown5; have HI5 := Lib.hid (HI.out.added hown5 hgrow5); have hbx5 : w5.heap[w.heap.size + 1]? = some (.cells #[.bool false, .bool neg, .slice sa acc.length sc] 101 (0, 0)) := (by rw [hgrow5.block _ (by omega) (fun e => by have := (HI.out.own.lt _ e.symm).1; omega)]; exact HI.out.box); have q5 : w5.cell? ⟨w.heap.size + 1, 2, none⟩ = some (.slice sa acc.length sc) := (by rw [cell_of_heap hbx5]; rfl); have q6 : w5.frozen? ⟨w.heap.size + 1, 2, none⟩ = false := frozen_of_heap hbx5; clear hbx5; clear hown5 hgrow5)
                  go_wp2_with fail
                  go_roundw
                  case rel => exact ⟨nx, acc ++ [(lo, lo)], _, f', by omega, by simp; omega, by first | rfl | go_num, HI5.out, by omega, by rw [List.length_drop]; omega, HCS.out⟩
                  case measure => simp [intOf]; omega
                · have i2 : decide ((nx : Int) < (rs.length : Int)) = false := by simp; omega
                  clear h45
                  have hbox := HI.out.box
                  have x2 : wr.cell? ⟨w.heap.size + 1, 2, none⟩ = some (.slice sa acc.length sc) := by rw [cell_of_heap hbox]; rfl
                  have kf : wr.frozen? ⟨w.heap.size + 1, 2, none⟩ = false := frozen_of_heap hbox
                  have hbl := HI.out.lt
                  clear hbox
                  go_wp2_with (at_builtin; go_must (refine wpList_app1 Tryd.appSpans rfl _ _ rfl (w.heap.size + 2) (.slice sa acc.length sc) acc.length (flatR acc) rfl wr [.int .i32 lo, .int .i32 lo] _ rfl rfl (by simp; first | rfl | exact ⟨rfl, rfl⟩) HI.out.own (by omega) hbl ?_); intro v' w5 hown5 hgrow5 _; obtain ⟨a5, c5, rfl, -, -⟩ := owns_shape hown5; have HI5 := Lib.hid (HI.out.added hown5 hgrow5); have hbx5 : w5.heap[w.heap.size + 1]? = some (.cells #[.bool false, .bool neg, .slice sa acc.length sc] 101 (0, 0)) := (by rw [hgrow5.block _ (by omega) (fun e => by have := (HI.out.own.lt _ e.symm).1; omega)]; exact HI.out.box); have q5 : w5.cell? ⟨w.heap.size + 1, 2, none⟩ = some (.slice sa acc.length sc) := (by rw [cell_of_heap hbx5]; rfl); have q6 : w5.frozen? ⟨w.heap.size + 1, 2, none⟩ = false := frozen_of_heap hbx5; clear hbx5; clear hown5 hgrow5)
                  go_wp2_with fail
                  go_roundw
                  case rel => exact ⟨nx, acc ++ [(lo, lo)], _, f', by omega, by simp; omega, by first | rfl | go_num, HI5.out, by omega, by rw [List.length_drop]; omega, HCS.out⟩
                  case measure => simp [intOf]; omega
  · exact r_class_end S rs v k0 w hv (by omega) (by omega)

end Go.Proofs.YtlipekkiaiaplaaDoor
