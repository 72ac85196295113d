/- Texts of this proof, one after the other: TdO, TdP, AwD, LwA, LwB, FtK, RwH, RwI, RwM. -/
import Derived.Test.YtdieneaillkbgaaGreatDoorCMergesF
/- Contracts of package treediff: Text. -/
namespace Go.Proofs.YtdieneaillkbgaaGreatDoor
open Go.RowKit Go.Maps
def headC (c : Chg) : List UInt8 := if c.kind = 1 then [45, 32] else if c.kind = 2 then [62, 32] ++ bl c.src ++ [9] else if c.kind = 3 then [43, 32] else if c.kind = 4 then [42, 32] else [63, 32]
def lineC (c : Chg) : List UInt8 := headC c ++ (bl c.path ++ [10])
def textP (cs : List Chg) : List UInt8 := cs.flatMap lineC
theorem text_take {cs : List Chg} {k : Nat} {c : Chg} (h : cs[k]? = some c) : textP (cs.take (k + 1)) = textP (cs.take k) ++ (headC c ++ (bl c.path ++ [10])) := by
  unfold textP
  rw [List.take_add_one, h]; simp [lineC]
def ShortC (c : Chg) : Prop := c.path.size ≤ 65536 ∧ c.src.size ≤ 65536
theorem line_len {c : Chg} (h : ShortC c) : (headC c).length ≤ 65539 ∧ (lineC c).length ≤ 131076 := by
  obtain ⟨h1, h2⟩ := h
  rw [size_bl] at h1 h2
  have : (headC c).length ≤ 65539 := by
    unfold headC
    split
    · simp
    · split
      · simp; omega
      · split
        · simp
        · split <;> simp
  refine ⟨this, ?_⟩
  unfold lineC
  simp only [List.length_append, List.length_cons, List.length_nil]
  omega
theorem text_len : ∀ {cs : List Chg}, (∀ c ∈ cs, ShortC c) → (textP cs).length ≤ 131076 * cs.length
  | [], _ => by simp [textP]
  | c :: cs, h => by
    have h1 := (line_len (h c (List.mem_cons_self ..))).2
    have h2 := text_len fun x hx => h x (List.mem_cons_of_mem _ hx)
    have e : (textP (c :: cs)).length = (lineC c).length + (textP cs).length := by simp [textP]
    rw [e, List.length_cons]; omega
theorem str_cells (s : ByteArray) : Lib.strCells s = Lib.byteCells (bl s) := Lib.strCells_eq s
theorem ws_room {l : List UInt8} {s : ByteArray} (h : l.length ≤ 10000000000) (k : s.size ≤ 1000000) : (Lib.byteCells l).length + s.size ≤ 140737488355328 := by
  rw [Lib.byteCells_length]; omega
set_option maxRecDepth 100000 in
set_option maxHeartbeats 4000000 in
theorem text_any (S : Nat → Prop) (cs : List Chg) (vl : Value) (w : World) (hl : ChgsAt S w vl cs) (hsm : ∀ c ∈ cs, ShortC c) (hcn : cs.length ≤ 65536) :
    Calls Tryz.prog 23 #[vl] w fun e w' => e = .returned (.string ⟨(textP cs).toArray⟩) ∧ Below w.heap.size w w' := by
  have HL := Lib.hid hl
  have HSM := Lib.hid hsm
  have HCN := Lib.hid hcn
  obtain ⟨al, cl, rfl, hc, hm⟩ := chgs_shape hl
  obtain ⟨n, hn⟩ : ∃ n, n = cs.length := ⟨_, rfl⟩
  rw [← hn] at hc HL hl ⊢
  have HN := Lib.hid hn
  unfold maxLen at hm
  have HFR := Lib.hid (show Lib.IsBuilderF 91 5 w.heap.size w.heap.size [] (w.alloc (.cells #[.pointer none, .slice none 0 0] 91)) from
    Lib.IsBuilderF.of (.inl ⟨Nat.le_refl _, .slice none 0 0, new20 w _, World.ownsRow_nil _ _ _ _, by simp [Value.ownBlock]⟩))
  clear hl hsm hcn hn
  go_enter Tryz.func23, Tryz.ntmps23
  go_wp2_with fail
  go_loopw [8] (fun i wr => ∃ k : Nat, k ≤ n ∧ i = .int .i64 k ∧ Below w.heap.size w wr ∧ w.heap.size < wr.heap.size ∧ Lib.IsBuilderF 91 5 w.heap.size w.heap.size (Lib.byteCells (textP (cs.take k))) wr) (fun i _ => n - (intOf i).toNat)
  case atStart => exact ⟨0, Nat.zero_le _, rfl, (Below.refl _ _).alloc (Nat.le_refl _) _, by simp, HFR.out⟩
  case round =>
    obtain ⟨k, hk, rfl, hbr, hlw, hbu⟩ := hrel
    have HBR := Lib.hid hbr
    have HBU := Lib.hid hbu
    have HLW := Lib.hid hlw
    have HTL := Lib.hid (show (textP (cs.take k)).length ≤ 10000000000 by
      have h1 := text_len (cs := cs.take k) fun x hx => HSM.out x (List.mem_of_mem_take hx)
      have h2 := HCN.out
      rw [List.length_take] at h1
      omega)
    clear hbr hbu hlw
    by_cases hlt : k < n
    · obtain ⟨c, hcc⟩ : ∃ c, cs[k]? = some c := ⟨cs[k]'(by rw [← HN.out]; exact hlt), by simp⟩
      have HSH := Lib.hid (HSM.out c (List.mem_of_getElem? hcc))
      have HTK := Lib.hid (text_take hcc)
      have hcp := HSH.out.1
      have hcs := HSH.out.2
      obtain ⟨b, o, dv, rfl, hb, hd, hok, hq⟩ := chgs_at (HL.out.below HBR.out) hcc
      have HAT := Lib.hid hcc
      have HD := Lib.hid hd
      have HOK := Lib.hid hok
      obtain ⟨a1, cap1, rfl, hd1, hd2⟩ := hd.slice
      unfold maxLen at hd2
      have c0 := (hq 0 (by omega)).trans rfl
      have c1 := (hq 1 (by omega)).trans rfl
      have c2 := (hq 2 (by omega)).trans rfl
      have c3 := (hq 3 (by omega)).trans rfl
      have c4 := (hq 4 (by omega)).trans rfl
      have c5 := (hq 5 (by omega)).trans rfl
      have c6 := (hq 6 (by omega)).trans rfl
      have c7 := (hq 7 (by omega)).trans rfl
      have c8 := (hq 8 (by omega)).trans rfl
      simp only [chgC, List.getElem?_cons_succ, List.getElem?_cons_zero, Nat.add_zero] at c0 c1 c2 c3 c4 c5 c6 c7 c8
      clear hcc hd hok hq
      go_upto_region 5 with (fail)
      obtain ⟨W, hW⟩ : ∃ W : World, W = wr.alloc (.cells #[.int .i64 c.kind, .string c.path, .string c.src, .string c.en.path, .int .i64 c.en.kind, .int .i64 c.en.mode, .int .i64 c.en.time, .slice a1 c.en.data.length cap1, .string c.en.link] 58) := ⟨_, rfl⟩
      rw [← hW]
      have HW := Lib.hid (show Below wr.heap.size wr W by rw [hW]; exact (Below.refl _ _).alloc (Nat.le_refl _) _)
      have HX := Lib.hid (show W.heap[wr.heap.size]? = some (.cells #[.int .i64 c.kind, .string c.path, .string c.src, .string c.en.path, .int .i64 c.en.kind, .int .i64 c.en.mode, .int .i64 c.en.time, .slice a1 c.en.data.length cap1, .string c.en.link] 58 (0, 0)) by rw [hW]; exact new20 wr _)
      have HEQ := Lib.hid hW.symm
      clear hW c0 c1 c2 c3 c4 c5 c6 c7 c8
      have c0 := cell20 (k := 0) HX.out
      have c1 := cell20 (k := 1) HX.out
      have c2 := cell20 (k := 2) HX.out
      have c3 := cell20 (k := 3) HX.out
      have c4 := cell20 (k := 4) HX.out
      have c5 := cell20 (k := 5) HX.out
      have c6 := cell20 (k := 6) HX.out
      have c7 := cell20 (k := 7) HX.out
      have c8 := cell20 (k := 8) HX.out
      have hltX := lt20 HX.out
      simp only [List.getElem?_toArray, List.getElem?_cons_succ, List.getElem?_cons_zero] at c0 c1 c2 c3 c4 c5 c6 c7 c8
      have HBW := Lib.hid (below_next HBR.out HW.out)
      have HBUW := Lib.hid (HEQ.out ▸ HBU.out.alloc _)
      have HSW := Lib.hid (show w.heap.size ≤ W.heap.size from HBW.out.size)
      by_cases h1 : c.kind = 1
      · have HH := Lib.hid (show headC c = [45, 32] by unfold headC; rw [if_pos h1])
        go_wp2_with fail
        refine (writeS_any w.heap.size w.heap.size _ _ W HBUW.out (ws_room HTL.out ?_) HSW.out).mono ?_
        · first
          | decide
          | (have h := HSH.out.2
             rw [ByteArray.size_append, ByteArray.size_append]
             show 2 + c.src.size + 1 ≤ 1000000
             omega)
        rintro e w4 ⟨rfl, hbu4, hb4, hko4⟩
        have HX4 := Lib.hid (hko4 _ _ HX.out (fun e => by have h1 := Option.some.inj e; have h2 := HLW.out; omega) (fun c' fz e => by injection e with _ e2 _; revert e2; decide))
        have HB4 := Lib.hid (HBW.out.trans hb4)
        have HBU4 := Lib.hid (show Lib.IsBuilderF 91 5 w.heap.size w.heap.size (Lib.byteCells (textP (cs.take k) ++ headC c)) w4 by
          rw [HH.out, Lib.byteCells_append]
          refine .inr ?_
          first
            | exact hbu4
            | (rw [str_cells] at hbu4; simpa [bl, Lib.byteCells_append] using hbu4))
        have HTL4 := Lib.hid (show (textP (cs.take k) ++ headC c).length ≤ 10000000000 by
          have h1 := text_len (cs := cs.take k) fun x hx => HSM.out x (List.mem_of_mem_take hx)
          have h2 := HCN.out
          have h3 := (line_len HSH.out).1
          rw [List.length_take] at h1
          rw [List.length_append]
          omega)
        have HSW4 := Lib.hid (show w.heap.size ≤ w4.heap.size from HB4.out.size)
        clear hbu4 hb4 hko4 c0 c1 c2 c3 c4 c5 c6 c7 c8 hltX
        have c0 := cell20 (k := 0) HX4.out
        have c1 := cell20 (k := 1) HX4.out
        have c2 := cell20 (k := 2) HX4.out
        have c3 := cell20 (k := 3) HX4.out
        have c4 := cell20 (k := 4) HX4.out
        have c5 := cell20 (k := 5) HX4.out
        have c6 := cell20 (k := 6) HX4.out
        have c7 := cell20 (k := 7) HX4.out
        have c8 := cell20 (k := 8) HX4.out
        have hltX := lt20 HX4.out
        simp only [List.getElem?_toArray, List.getElem?_cons_succ, List.getElem?_cons_zero] at c0 c1 c2 c3 c4 c5 c6 c7 c8
        go_wp2_with fail
        refine (writeS_any w.heap.size w.heap.size _ _ w4 HBU4.out (ws_room HTL4.out ?_) HSW4.out).mono ?_
        · have h := HSH.out.1
          rw [ByteArray.size_append]
          show c.path.size + 1 ≤ 1000000
          omega
        rintro e w5 ⟨rfl, hbu5, hb5, -⟩
        have HB5 := Lib.hid (HB4.out.trans hb5)
        have HBU5 := Lib.hid (show Lib.IsBuilderF 91 5 w.heap.size w.heap.size (Lib.byteCells (textP (cs.take (k + 1)))) w5 by
          rw [HTK.out, ← List.append_assoc, Lib.byteCells_append]
          refine .inr ?_
          rw [str_cells, bl_append] at hbu5
          exact hbu5)
        have HLW5 := Lib.hid (show w.heap.size < w5.heap.size by have h1 := HLW.out; have h2 := HW.out.size; have h3 := lt20 HX4.out; have h4 := hb5.size; have h5 := HB5.out.size; omega)
        clear hbu5 hb5 c0 c1 c2 c3 c4 c5 c6 c7 c8 hltX
        go_wp2_with fail
        go_roundw
        case rel => exact ⟨k + 1, by omega, by go_num, HB5.out, HLW5.out, HBU5.out⟩
        case measure => simp [intOf]; omega
      · by_cases h2 : c.kind = 2
        · have HH := Lib.hid (show headC c = [62, 32] ++ bl c.src ++ [9] by unfold headC; rw [if_neg h1, if_pos h2])
          go_wp2_with fail
          refine (writeS_any w.heap.size w.heap.size _ _ W HBUW.out (ws_room HTL.out ?_) HSW.out).mono ?_
          · first
            | decide
            | (have h := HSH.out.2
               rw [ByteArray.size_append, ByteArray.size_append]
               show 2 + c.src.size + 1 ≤ 1000000
               omega)
          rintro e w4 ⟨rfl, hbu4, hb4, hko4⟩
          have HX4 := Lib.hid (hko4 _ _ HX.out (fun e => by have h1 := Option.some.inj e; have h2 := HLW.out; omega) (fun c' fz e => by injection e with _ e2 _; revert e2; decide))
          have HB4 := Lib.hid (HBW.out.trans hb4)
          have HBU4 := Lib.hid (show Lib.IsBuilderF 91 5 w.heap.size w.heap.size (Lib.byteCells (textP (cs.take k) ++ headC c)) w4 by
            rw [HH.out, Lib.byteCells_append]
            refine .inr ?_
            first
              | exact hbu4
              | (rw [str_cells] at hbu4; simpa [bl, Lib.byteCells_append] using hbu4))
          have HTL4 := Lib.hid (show (textP (cs.take k) ++ headC c).length ≤ 10000000000 by
            have h1 := text_len (cs := cs.take k) fun x hx => HSM.out x (List.mem_of_mem_take hx)
            have h2 := HCN.out
            have h3 := (line_len HSH.out).1
            rw [List.length_take] at h1
            rw [List.length_append]
            omega)
          have HSW4 := Lib.hid (show w.heap.size ≤ w4.heap.size from HB4.out.size)
          clear hbu4 hb4 hko4 c0 c1 c2 c3 c4 c5 c6 c7 c8 hltX
          have c0 := cell20 (k := 0) HX4.out
          have c1 := cell20 (k := 1) HX4.out
          have c2 := cell20 (k := 2) HX4.out
          have c3 := cell20 (k := 3) HX4.out
          have c4 := cell20 (k := 4) HX4.out
          have c5 := cell20 (k := 5) HX4.out
          have c6 := cell20 (k := 6) HX4.out
          have c7 := cell20 (k := 7) HX4.out
          have c8 := cell20 (k := 8) HX4.out
          have hltX := lt20 HX4.out
          simp only [List.getElem?_toArray, List.getElem?_cons_succ, List.getElem?_cons_zero] at c0 c1 c2 c3 c4 c5 c6 c7 c8
          go_wp2_with fail
          refine (writeS_any w.heap.size w.heap.size _ _ w4 HBU4.out (ws_room HTL4.out ?_) HSW4.out).mono ?_
          · have h := HSH.out.1
            rw [ByteArray.size_append]
            show c.path.size + 1 ≤ 1000000
            omega
          rintro e w5 ⟨rfl, hbu5, hb5, -⟩
          have HB5 := Lib.hid (HB4.out.trans hb5)
          have HBU5 := Lib.hid (show Lib.IsBuilderF 91 5 w.heap.size w.heap.size (Lib.byteCells (textP (cs.take (k + 1)))) w5 by
            rw [HTK.out, ← List.append_assoc, Lib.byteCells_append]
            refine .inr ?_
            rw [str_cells, bl_append] at hbu5
            exact hbu5)
          have HLW5 := Lib.hid (show w.heap.size < w5.heap.size by have h1 := HLW.out; have h2 := HW.out.size; have h3 := lt20 HX4.out; have h4 := hb5.size; have h5 := HB5.out.size; omega)
          clear hbu5 hb5 c0 c1 c2 c3 c4 c5 c6 c7 c8 hltX
          go_wp2_with fail
          go_roundw
          case rel => exact ⟨k + 1, by omega, by go_num, HB5.out, HLW5.out, HBU5.out⟩
          case measure => simp [intOf]; omega
        · by_cases h3 : c.kind = 3
          · have HH := Lib.hid (show headC c = [43, 32] by unfold headC; rw [if_neg h1, if_neg h2, if_pos h3])
            go_wp2_with fail
            refine (writeS_any w.heap.size w.heap.size _ _ W HBUW.out (ws_room HTL.out ?_) HSW.out).mono ?_
            · first
              | decide
              | (have h := HSH.out.2
                 rw [ByteArray.size_append, ByteArray.size_append]
                 show 2 + c.src.size + 1 ≤ 1000000
                 omega)
            rintro e w4 ⟨rfl, hbu4, hb4, hko4⟩
            have HX4 := Lib.hid (hko4 _ _ HX.out (fun e => by have h1 := Option.some.inj e; have h2 := HLW.out; omega) (fun c' fz e => by injection e with _ e2 _; revert e2; decide))
            have HB4 := Lib.hid (HBW.out.trans hb4)
            have HBU4 := Lib.hid (show Lib.IsBuilderF 91 5 w.heap.size w.heap.size (Lib.byteCells (textP (cs.take k) ++ headC c)) w4 by
              rw [HH.out, Lib.byteCells_append]
              refine .inr ?_
              first
                | exact hbu4
                | (rw [str_cells] at hbu4; simpa [bl, Lib.byteCells_append] using hbu4))
            have HTL4 := Lib.hid (show (textP (cs.take k) ++ headC c).length ≤ 10000000000 by
              have h1 := text_len (cs := cs.take k) fun x hx => HSM.out x (List.mem_of_mem_take hx)
              have h2 := HCN.out
              have h3 := (line_len HSH.out).1
              rw [List.length_take] at h1
              rw [List.length_append]
              omega)
            have HSW4 := Lib.hid (show w.heap.size ≤ w4.heap.size from HB4.out.size)
            clear hbu4 hb4 hko4 c0 c1 c2 c3 c4 c5 c6 c7 c8 hltX
            have c0 := cell20 (k := 0) HX4.out
            have c1 := cell20 (k := 1) HX4.out
            have c2 := cell20 (k := 2) HX4.out
            have c3 := cell20 (k := 3) HX4.out
            have c4 := cell20 (k := 4) HX4.out
            have c5 := cell20 (k := 5) HX4.out
            have c6 := cell20 (k := 6) HX4.out
            have c7 := cell20 (k := 7) HX4.out
            have c8 := cell20 (k := 8) HX4.out
            have hltX := lt20 HX4.out
            simp only [List.getElem?_toArray, List.getElem?_cons_succ, List.getElem?_cons_zero] at c0 c1 c2 c3 c4 c5 c6 c7 c8
            go_wp2_with fail
            refine (writeS_any w.heap.size w.heap.size _ _ w4 HBU4.out (ws_room HTL4.out ?_) HSW4.out).mono ?_
            · have h := HSH.out.1
              rw [ByteArray.size_append]
              show c.path.size + 1 ≤ 1000000
              omega
            rintro e w5 ⟨rfl, hbu5, hb5, -⟩
            have HB5 := Lib.hid (HB4.out.trans hb5)
            have HBU5 := Lib.hid (show Lib.IsBuilderF 91 5 w.heap.size w.heap.size (Lib.byteCells (textP (cs.take (k + 1)))) w5 by
              rw [HTK.out, ← List.append_assoc, Lib.byteCells_append]
              refine .inr ?_
              rw [str_cells, bl_append] at hbu5
              exact hbu5)
            have HLW5 := Lib.hid (show w.heap.size < w5.heap.size by have h1 := HLW.out; have h2 := HW.out.size; have h3 := lt20 HX4.out; have h4 := hb5.size; have h5 := HB5.out.size; omega)
            clear hbu5 hb5 c0 c1 c2 c3 c4 c5 c6 c7 c8 hltX
            go_wp2_with fail
            go_roundw
            case rel => exact ⟨k + 1, by omega, by go_num, HB5.out, HLW5.out, HBU5.out⟩
            case measure => simp [intOf]; omega
          · by_cases h4 : c.kind = 4
            · have HH := Lib.hid (show headC c = [42, 32] by unfold headC; rw [if_neg h1, if_neg h2, if_neg h3, if_pos h4])
              go_wp2_with fail
              refine (writeS_any w.heap.size w.heap.size _ _ W HBUW.out (ws_room HTL.out ?_) HSW.out).mono ?_
              · first
                | decide
                | (have h := HSH.out.2
                   rw [ByteArray.size_append, ByteArray.size_append]
                   show 2 + c.src.size + 1 ≤ 1000000
                   omega)
              rintro e w4 ⟨rfl, hbu4, hb4, hko4⟩
              have HX4 := Lib.hid (hko4 _ _ HX.out (fun e => by have h1 := Option.some.inj e; have h2 := HLW.out; omega) (fun c' fz e => by injection e with _ e2 _; revert e2; decide))
              have HB4 := Lib.hid (HBW.out.trans hb4)
              have HBU4 := Lib.hid (show Lib.IsBuilderF 91 5 w.heap.size w.heap.size (Lib.byteCells (textP (cs.take k) ++ headC c)) w4 by
                rw [HH.out, Lib.byteCells_append]
                refine .inr ?_
                first
                  | exact hbu4
                  | (rw [str_cells] at hbu4; simpa [bl, Lib.byteCells_append] using hbu4))
              have HTL4 := Lib.hid (show (textP (cs.take k) ++ headC c).length ≤ 10000000000 by
                have h1 := text_len (cs := cs.take k) fun x hx => HSM.out x (List.mem_of_mem_take hx)
                have h2 := HCN.out
                have h3 := (line_len HSH.out).1
                rw [List.length_take] at h1
                rw [List.length_append]
                omega)
              have HSW4 := Lib.hid (show w.heap.size ≤ w4.heap.size from HB4.out.size)
              clear hbu4 hb4 hko4 c0 c1 c2 c3 c4 c5 c6 c7 c8 hltX
              have c0 := cell20 (k := 0) HX4.out
              have c1 := cell20 (k := 1) HX4.out
              have c2 := cell20 (k := 2) HX4.out
              have c3 := cell20 (k := 3) HX4.out
              have c4 := cell20 (k := 4) HX4.out
              have c5 := cell20 (k := 5) HX4.out
              have c6 := cell20 (k := 6) HX4.out
              have c7 := cell20 (k := 7) HX4.out
              have c8 := cell20 (k := 8) HX4.out
              have hltX := lt20 HX4.out
              simp only [List.getElem?_toArray, List.getElem?_cons_succ, List.getElem?_cons_zero] at c0 c1 c2 c3 c4 c5 c6 c7 c8
              go_wp2_with fail
              refine (writeS_any w.heap.size w.heap.size _ _ w4 HBU4.out (ws_room HTL4.out ?_) HSW4.out).mono ?_
              · have h := HSH.out.1
                rw [ByteArray.size_append]
                show c.path.size + 1 ≤ 1000000
                omega
              rintro e w5 ⟨rfl, hbu5, hb5, -⟩
              have HB5 := Lib.hid (HB4.out.trans hb5)
              have HBU5 := Lib.hid (show Lib.IsBuilderF 91 5 w.heap.size w.heap.size (Lib.byteCells (textP (cs.take (k + 1)))) w5 by
                rw [HTK.out, ← List.append_assoc, Lib.byteCells_append]
                refine .inr ?_
                rw [str_cells, bl_append] at hbu5
                exact hbu5)
              have HLW5 := Lib.hid (show w.heap.size < w5.heap.size by have h1 := HLW.out; have h2 := HW.out.size; have h3 := lt20 HX4.out; have h4 := hb5.size; have h5 := HB5.out.size; omega)
              clear hbu5 hb5 c0 c1 c2 c3 c4 c5 c6 c7 c8 hltX
              go_wp2_with fail
              go_roundw
              case rel => exact ⟨k + 1, by omega, by go_num, HB5.out, HLW5.out, HBU5.out⟩
              case measure => simp [intOf]; omega
            · have HH := Lib.hid (show headC c = [63, 32] by unfold headC; rw [if_neg h1, if_neg h2, if_neg h3, if_neg h4])
              go_wp2_with fail
              refine (writeS_any w.heap.size w.heap.size _ _ W HBUW.out (ws_room HTL.out ?_) HSW.out).mono ?_
              · first
                | decide
                | (have h := HSH.out.2
                   rw [ByteArray.size_append, ByteArray.size_append]
                   show 2 + c.src.size + 1 ≤ 1000000
                   omega)
              rintro e w4 ⟨rfl, hbu4, hb4, hko4⟩
              have HX4 := Lib.hid (hko4 _ _ HX.out (fun e => by have h1 := Option.some.inj e; have h2 := HLW.out; omega) (fun c' fz e => by injection e with _ e2 _; revert e2; decide))
              have HB4 := Lib.hid (HBW.out.trans hb4)
              have HBU4 := Lib.hid (show Lib.IsBuilderF 91 5 w.heap.size w.heap.size (Lib.byteCells (textP (cs.take k) ++ headC c)) w4 by
                rw [HH.out, Lib.byteCells_append]
                refine .inr ?_
                first
                  | exact hbu4
                  | (rw [str_cells] at hbu4; simpa [bl, Lib.byteCells_append] using hbu4))
              have HTL4 := Lib.hid (show (textP (cs.take k) ++ headC c).length ≤ 10000000000 by
                have h1 := text_len (cs := cs.take k) fun x hx => HSM.out x (List.mem_of_mem_take hx)
                have h2 := HCN.out
                have h3 := (line_len HSH.out).1
                rw [List.length_take] at h1
                rw [List.length_append]
                omega)
              have HSW4 := Lib.hid (show w.heap.size ≤ w4.heap.size from HB4.out.size)
              clear hbu4 hb4 hko4 c0 c1 c2 c3 c4 c5 c6 c7 c8 hltX
              have c0 := cell20 (k := 0) HX4.out
              have c1 := cell20 (k := 1) HX4.out
              have c2 := cell20 (k := 2) HX4.out
              have c3 := cell20 (k := 3) HX4.out
              have c4 := cell20 (k := 4) HX4.out
              have c5 := cell20 (k := 5) HX4.out
              have c6 := cell20 (k := 6) HX4.out
              have c7 := cell20 (k := 7) HX4.out
              have c8 := cell20 (k := 8) HX4.out
              have hltX := lt20 HX4.out
              simp only [List.getElem?_toArray, List.getElem?_cons_succ, List.getElem?_cons_zero] at c0 c1 c2 c3 c4 c5 c6 c7 c8
              go_wp2_with fail
              refine (writeS_any w.heap.size w.heap.size _ _ w4 HBU4.out (ws_room HTL4.out ?_) HSW4.out).mono ?_
              · have h := HSH.out.1
                rw [ByteArray.size_append]
                show c.path.size + 1 ≤ 1000000
                omega
              rintro e w5 ⟨rfl, hbu5, hb5, -⟩
              have HB5 := Lib.hid (HB4.out.trans hb5)
              have HBU5 := Lib.hid (show Lib.IsBuilderF 91 5 w.heap.size w.heap.size (Lib.byteCells (textP (cs.take (k + 1)))) w5 by
                rw [HTK.out, ← List.append_assoc, Lib.byteCells_append]
                refine .inr ?_
                rw [str_cells, bl_append] at hbu5
                exact hbu5)
              have HLW5 := Lib.hid (show w.heap.size < w5.heap.size by have h1 := HLW.out; have h2 := HW.out.size; have h3 := lt20 HX4.out; have h4 := hb5.size; have h5 := HB5.out.size; omega)
              clear hbu5 hb5 c0 c1 c2 c3 c4 c5 c6 c7 c8 hltX
              go_wp2_with fail
              go_roundw
              case rel => exact ⟨k + 1, by omega, by go_num, HB5.out, HLW5.out, HBU5.out⟩
              case measure => simp [intOf]; omega
    · have hk2 : n = k := by omega
      subst hk2
      have hbu := HBU.out
      rw [HN.out, List.take_length] at hbu
      have HBU9 := Lib.hid hbu
      clear hbu
      go_wp2_with fail
      refine (Tryz.Builder_String_any_k w.heap.size w.heap.size (textP cs) wr HBU9.out HBR.out.size).mono ?_
      rintro e w4 ⟨rfl, -, hb4, -⟩
      have HB4 := Lib.hid (HBR.out.trans hb4)
      clear hb4
      go_wp2_with fail
      go_ret
      exact ⟨rfl, HB4.out⟩
end Go.Proofs.YtdieneaillkbgaaGreatDoor

/- Contracts of package treediff: Counts. -/
namespace Go.Proofs.YtdieneaillkbgaaGreatDoor
open Go.RowKit Go.Maps
/-- Whether a file has this content. -/
def knowP (a : List Ent) (d : List UInt8) : Bool := a.any fun x => decide (x.kind = 1) && decide (x.data = d)
def newC (a : List Ent) (c : Chg) : Nat := if (c.kind = 3 ∨ c.kind = 4) ∧ c.en.kind = 1 ∧ knowP a c.en.data = false then c.en.data.length else 0
def cntC (k : Int) (cs : List Chg) : Nat := (ofK k cs).length
def sumC (a : List Ent) (cs : List Chg) : Nat := (cs.map (newC a)).sum
def knowK (a : List Ent) (p : ByteArray) : Bool := knowP a (bl p)
theorem know_take {a : List Ent} {k : Nat} {e : Ent} (h : a[k]? = some e) : knowK (a.take (k + 1)) = if e.kind = 1 then addK (knowK (a.take k)) ⟨e.data.toArray⟩ else knowK (a.take k) := by
  funext p
  have h1 : knowK (a.take (k + 1)) p = (knowK (a.take k) p || (decide (e.kind = 1) && decide (e.data = bl p))) := by
    unfold knowK knowP
    rw [List.take_add_one, h, List.any_append]; simp
  rw [h1]
  by_cases hk : e.kind = 1
  · rw [if_pos hk, decide_eq_true hk, Bool.true_and]
    unfold addK
    rw [Bool.or_comm]
    congr 1
    rw [Bool.eq_iff_iff, decide_eq_true_eq, decide_eq_true_eq]
    constructor
    · intro he; exact bl_inj (by rw [he]; exact (bl_of _).symm)
    · intro he; rw [he]; exact (bl_of _).symm
  · rw [if_neg hk, decide_eq_false hk]; simp
theorem cnt_take {cs : List Chg} {k : Nat} {c : Chg} (h : cs[k]? = some c) (j : Int) : cntC j (cs.take (k + 1)) = cntC j (cs.take k) + if c.kind = j then 1 else 0 := by
  unfold cntC
  rw [List.take_add_one, h]
  show (ofK j (cs.take k ++ [c])).length = _
  rw [ofK_app, List.length_append]
  congr 1
  split <;> rfl
theorem sum_take {a : List Ent} {cs : List Chg} {k : Nat} {c : Chg} (h : cs[k]? = some c) : sumC a (cs.take (k + 1)) = sumC a (cs.take k) + newC a c := by
  unfold sumC
  rw [List.take_add_one, h]; simp
theorem cnt_le (j : Int) (cs : List Chg) (k : Nat) : cntC j (cs.take k) ≤ k := by
  unfold cntC ofK
  have := List.length_filter_le (fun c : Chg => decide (c.kind = j)) (cs.take k)
  have h2 := List.length_take_le k cs
  omega
theorem new_le {a : List Ent} {c : Chg} (h : c.en.data.length ≤ 140737488355328) : newC a c ≤ 140737488355328 := by
  unfold newC
  split
  · exact h
  · omega
theorem sum_le {a : List Ent} : ∀ {cs : List Chg}, (∀ c ∈ cs, c.en.data.length ≤ 140737488355328) → sumC a cs ≤ cs.length * 140737488355328
  | [], _ => by simp [sumC]
  | c :: cs, h => by
    have h1 := new_le (a := a) (h c (List.mem_cons_self ..))
    have h2 := sum_le (a := a) fun x hx => h x (List.mem_cons_of_mem _ hx)
    have e : sumC a (c :: cs) = newC a c + sumC a cs := by simp [sumC]
    rw [e, List.length_cons]; omega
def numArr (n1 n2 n3 n4 : Int) : Value := .agg #[.int .i64 n1, .int .i64 n2, .int .i64 n3, .int .i64 n4]
/-- What Counts answers. -/
def cntQ (a : List Ent) (cs : List Chg) : Value × Int × Int :=
  if chkC a cs ≠ 0 then (numArr 0 0 0 0, 0, chkC a cs) else (numArr (cntC 1 cs) (cntC 2 cs) (cntC 3 cs) (cntC 4 cs), sumC a cs, 0)
structure LoopN (a : List Ent) (cs : List Chg) (w : World) (cb mb k : Nat) (wr : World) : Prop where
  box : wr.heap[cb]? = some (.cells #[.int .i64 (cntC 1 (cs.take k) : Nat), .int .i64 (cntC 2 (cs.take k) : Nat), .int .i64 (cntC 3 (cs.take k) : Nat), .int .i64 (cntC 4 (cs.take k) : Nat)] 43 (0, 0))
  res : wr.heap[w.heap.size]? = some (.cells #[.int .i64 0, .int .i64 0, .int .i64 0, .int .i64 0] 43 (0, 0))
  set : SetR wr mb (knowK a)
  bel : Below w.heap.size w wr
theorem counts_res {tmps : Array Value} {w : World} {b : Nat} {x0 x1 x2 x3 e5 e6 : Value} (h : w.heap[b]? = some (.cells #[x0, x1, x2, x3] 43 (0, 0)))
    (h4 : tmps[4]? = some (.pointer (some ⟨b, 0, none⟩))) (h5 : tmps[5]? = some e5) (h6 : tmps[6]? = some e6) : (results Tryz.f26 tmps).run Tryz.prog w = .ok (.tuple #[.agg #[x0, x1, x2, x3], e5, e6]) w := by
  have m0 := cell20 (k := 0) h
  have m1 := cell20 (k := 1) h
  have m2 := cell20 (k := 2) h
  have m3 := cell20 (k := 3) h
  simp only [List.getElem?_toArray, List.getElem?_cons_succ, List.getElem?_cons_zero] at m0 m1 m2 m3
  simp [results, Tryz.results26, go_sem, h4, h5, h6, m0, m1, m2, m3]
theorem four20 {w : World} {b : Nat} {a0 a1 a2 a3 x0 x1 x2 x3 : Value} {t : TypeId} (h : w.heap[b]? = some (.cells #[a0, a1, a2, a3] t (0, 0))) :
    ((((w.setCell ⟨b, 0, none⟩ x0).setCell ⟨b, 1, none⟩ x1).setCell ⟨b, 2, none⟩ x2).setCell ⟨b, 3, none⟩ x3).heap[b]? = some (.cells #[x0, x1, x2, x3] t (0, 0)) := by
  have h1 : (w.setCell ⟨b, 0, none⟩ x0).heap[b]? = some (.cells #[x0, a1, a2, a3] t (0, 0)) := set20 h x0
  have h2 : ((w.setCell ⟨b, 0, none⟩ x0).setCell ⟨b, 1, none⟩ x1).heap[b]? = some (.cells #[x0, x1, a2, a3] t (0, 0)) := set20 h1 x1
  have h3 : (((w.setCell ⟨b, 0, none⟩ x0).setCell ⟨b, 1, none⟩ x1).setCell ⟨b, 2, none⟩ x2).heap[b]? = some (.cells #[x0, x1, x2, a3] t (0, 0)) := set20 h2 x2
  exact set20 h3 x3
theorem counts_end {a : Act} {w : World} {b : Nat} {a0 a1 a2 a3 x0 x1 x2 x3 e5 e6 : Value} {Q : Ending → World → Prop} (h : w.heap[b]? = some (.cells #[a0, a1, a2, a3] 43 (0, 0)))
    (h4 : a.tmps[4]? = some (.pointer (some ⟨b, 0, none⟩))) (h5 : a.tmps[5]? = some e5) (h6 : a.tmps[6]? = some e6) (hd : a.defers = [])
    (hQ : Q (.returned (.tuple #[.agg #[x0, x1, x2, x3], e5, e6])) ((((w.setCell ⟨b, 0, none⟩ x0).setCell ⟨b, 1, none⟩ x1).setCell ⟨b, 2, none⟩ x2).setCell ⟨b, 3, none⟩ x3)) :
    bodyPost Tryz.prog Tryz.f26 Q Exit.ret a ((((w.setCell ⟨b, 0, none⟩ x0).setCell ⟨b, 1, none⟩ x1).setCell ⟨b, 2, none⟩ x2).setCell ⟨b, 3, none⟩ x3) :=
  bodyPost_ret (counts_res (four20 h) h4 h5 h6) hd hQ
def CntRes (a : List Ent) (cs : List Chg) (w : World) (e : Ending) (w' : World) : Prop := e = .returned (.tuple #[(cntQ a cs).1, .int .i64 (cntQ a cs).2.1, .int .i64 (cntQ a cs).2.2]) ∧ Below w.heap.size w w'
set_option maxRecDepth 100000 in
set_option maxHeartbeats 4000000 in
theorem counts_any (S T : Nat → Prop) (a : List Ent) (cs : List Chg) (va vl : Value) (w : World) (ha : EntsAt S w va a) (hl : ChgsAt T w vl cs) (hcn : cs.length ≤ 4096) (henv : Env w) :
    Calls Tryz.prog 26 #[va, vl] w (CntRes a cs w) := by
  have HA := Lib.hid ha
  have HL := Lib.hid (chgs_old hl)
  have HE := Lib.hid henv
  have HCN := Lib.hid hcn
  obtain ⟨aa, ca, rfl, hca, hma, -⟩ := SeqAt.shape ha EntR.len
  obtain ⟨al, cl, rfl, hc, hm⟩ := chgs_shape hl
  obtain ⟨m, hmn⟩ : ∃ m, m = a.length := ⟨_, rfl⟩
  obtain ⟨n, hn⟩ : ∃ n, n = cs.length := ⟨_, rfl⟩
  rw [← hn] at hc HL hl ⊢
  rw [← hmn] at hca HA ha ⊢
  have HN := Lib.hid hn
  have HM := Lib.hid hmn
  unfold maxLen at hm hma
  have hck := fun W (hW : Below w.heap.size w W) => checkC_any S T a cs (.slice aa m ca) (.slice al n cl) W (ha.below hW) (hl.below hW) (henv.below hW)
  obtain ⟨x, hx⟩ : ∃ x, x = chkC a cs := ⟨_, rfl⟩
  rw [← hx] at hck
  have HCK := Lib.hid hck
  have HCX := Lib.hid hx
  clear ha hl henv hn hmn hx hck hcn
  have HB0 := Lib.hid (show Below w.heap.size w (w.alloc (.cells #[.int .i64 0, .int .i64 0, .int .i64 0, .int .i64 0] 43)) from (Below.refl _ _).alloc (Nat.le_refl _) _)
  have HR0 := Lib.hid (show (w.alloc (.cells #[.int .i64 0, .int .i64 0, .int .i64 0, .int .i64 0] 43)).heap[w.heap.size]? = some (.cells #[.int .i64 0, .int .i64 0, .int .i64 0, .int .i64 0] 43 (0, 0)) from new20 w _)
  by_cases h0 : x = 0
  · subst h0
    have HOKS := Lib.hid (chk_ok HCX.out.symm)
    go_enter Tryz.func26, Tryz.ntmps26
    go_wp2_with fail
    refine (HCK.out _ HB0.out).mono ?_
    rintro e w1 ⟨rfl, hb1⟩
    have HR1 := Lib.hid ((hb1.block _ (lt20 HR0.out)).trans HR0.out)
    have HB1 := Lib.hid (below_next HB0.out hb1)
    clear hb1 HR0 HB0 HCK
    have hmk := make_set
    go_wp2_with fail
    obtain ⟨mb, hmb⟩ : ∃ mb, mb = w1.heap.size := ⟨_, rfl⟩
    obtain ⟨w2, hw2⟩ : ∃ W : World, W = w1.alloc (.map #[] 0) := ⟨_, rfl⟩
    rw [← hw2, ← hmb]
    have hb2 : Below w1.heap.size w1 w2 := by rw [hw2]; exact (Below.refl _ _).alloc (Nat.le_refl _) _
    have HS2 := Lib.hid (show SetR w2 mb (knowK (a.take 0)) by rw [hw2, hmb]; exact SetR.made w1)
    have HB2 := Lib.hid (below_next HB1.out hb2)
    have HR2 := Lib.hid ((hb2.block _ (lt20 HR1.out)).trans HR1.out)
    have HMB := Lib.hid (show w.heap.size < mb by rw [hmb]; exact lt20 HR1.out)
    clear hw2 hmb hb2 hmk HR1 HB1
    go_loopw [26] (fun i wr => ∃ k : Nat, k ≤ m ∧ i = .int .i64 k ∧ SetR wr mb (knowK (a.take k)) ∧ wr.heap[w.heap.size]? = some (.cells #[.int .i64 0, .int .i64 0, .int .i64 0, .int .i64 0] 43 (0, 0)) ∧ Below w.heap.size w wr) (fun i _ => m - (intOf i).toNat)
    case atStart => exact ⟨0, Nat.zero_le _, rfl, HS2.out, HR2.out, HB2.out⟩
    case round =>
      obtain ⟨k, hk, rfl, hset, hres, hbr⟩ := hrel
      have HSET := Lib.hid hset
      have HRES := Lib.hid hres
      have HBR := Lib.hid hbr
      clear hset hres hbr
      by_cases hlt : k < m
      · obtain ⟨e, he⟩ : ∃ e, a[k]? = some e := ⟨a[k]'(by rw [← HM.out]; exact hlt), by simp⟩
        obtain ⟨b0, o0, dv, rfl, -, hb0, hd, hok, -, q0, q1, q2, q3, q4, q5⟩ := ents_at (HA.out.below HBR.out) he
        have HAT := Lib.hid he
        have HD := Lib.hid hd
        obtain ⟨a1, cap1, rfl, hd1, hd2⟩ := hd.slice
        unfold maxLen at hd2
        have HKN := Lib.hid (know_take he)
        clear he hd hok
        go_upto_region 8 with (fail)
        obtain ⟨W, hW⟩ : ∃ W : World, W = wr.alloc (.cells #[.string e.path, .int .i64 e.kind, .int .i64 e.mode, .int .i64 e.time, .slice a1 e.data.length cap1, .string e.link] 48) := ⟨_, rfl⟩
        rw [← hW]
        have HW := Lib.hid (show Below wr.heap.size wr W by rw [hW]; exact (Below.refl _ _).alloc (Nat.le_refl _) _)
        have HX := Lib.hid (show W.heap[wr.heap.size]? = some (.cells #[.string e.path, .int .i64 e.kind, .int .i64 e.mode, .int .i64 e.time, .slice a1 e.data.length cap1, .string e.link] 48 (0, 0)) by rw [hW]; exact new20 wr _)
        clear hW q0 q1 q2 q3 q4 q5
        have c0 := cell20 (k := 0) HX.out
        have c1 := cell20 (k := 1) HX.out
        have c2 := cell20 (k := 2) HX.out
        have c3 := cell20 (k := 3) HX.out
        have c4 := cell20 (k := 4) HX.out
        have c5 := cell20 (k := 5) HX.out
        have hltX := lt20 HX.out
        simp only [List.getElem?_toArray, List.getElem?_cons_succ, List.getElem?_cons_zero] at c0 c1 c2 c3 c4 c5
        by_cases hk1 : e.kind = 1
        · have hcv := conv20 (HD.out.below HW.out)
          have HPUT := Lib.hid ((HSET.out.below HW.out).put boolTy (p := ⟨e.data.toArray⟩) (by show (e.data.toArray).size ≤ maxLen; rw [List.size_toArray]; unfold maxLen; omega))
          go_wp2_with (at_mapUpdate; go_must (refine wpList_updRun rfl _ _ _ _ rfl _ _ _ rfl rfl rfl HPUT.out ?_); rintro w3 ⟨hs3, hg3⟩; have HS3 := Lib.hid hs3; have HG3 := Lib.hid hg3; clear hs3 hg3 hcv c0 c1 c2 c3 c4 c5 hltX)
          go_roundw
          case rel =>
            have hbw := below_next HBR.out HW.out
            have hm := HMB.out
            refine ⟨k + 1, by omega, by go_num, by rw [HKN.out, if_pos hk1]; exact HS3.out, ?_, hbw.grown HG3.out hbw.size (fun k e => by cases e; omega)⟩
            have h1 := (HW.out.block _ (lt20 HRES.out)).trans HRES.out
            exact (HG3.out.block _ (lt20 h1) (fun e => by have := Option.some.inj e; omega)).trans h1
          case measure => simp [intOf]; omega
        · go_wp2_with fail
          go_roundw
          case rel => exact ⟨k + 1, by omega, by go_num, by rw [HKN.out, if_neg hk1]; exact HSET.out.below HW.out, (HW.out.block _ (lt20 HRES.out)).trans HRES.out, below_next HBR.out HW.out⟩
          case measure => simp [intOf]; omega
      · have hk2 : m = k := by omega
        subst hk2
        have HSE := Lib.hid (show SetR wr mb (knowK a) by have := HSET.out; rw [HM.out, List.take_length] at this; exact this)
        clear hk hlt
        go_wp2_with fail
        obtain ⟨cb, hcb⟩ : ∃ cb, cb = wr.heap.size := ⟨_, rfl⟩
        obtain ⟨w3, hw3⟩ : ∃ W : World, W = wr.alloc (.cells #[.int .i64 0, .int .i64 0, .int .i64 0, .int .i64 0] 43) := ⟨_, rfl⟩
        rw [← hw3, ← hcb]
        have hb3 : Below wr.heap.size wr w3 := by rw [hw3]; exact (Below.refl _ _).alloc (Nat.le_refl _) _
        have HL3 := Lib.hid (show LoopN a cs w cb mb 0 w3 from ⟨by rw [hw3, hcb]; exact new20 wr _, (hb3.block _ (lt20 HRES.out)).trans HRES.out, HSE.out.below hb3, below_next HBR.out hb3⟩)
        have HCB := Lib.hid (show w.heap.size < cb ∧ mb < cb by have h1 := lt20 HRES.out; have h2 := HSE.out.lt; omega)
        clear hw3 hcb hb3
        go_loopw [12, 40] (fun s i wr => ∃ k : Nat, k ≤ n ∧ i = .int .i64 k ∧ s = .int .i64 (sumC a (cs.take k) : Nat) ∧ LoopN a cs w cb mb k wr) (fun _ i _ => n - (intOf i).toNat)
        case atStart => exact ⟨0, Nat.zero_le _, rfl, rfl, HL3.out⟩
        case round =>
          obtain ⟨k, hk, rfl, rfl, hlp⟩ := hrel
          have HLP := Lib.hid hlp
          clear hlp
          obtain ⟨x1, hx1⟩ : ∃ x, x = cntC 1 (cs.take k) := ⟨_, rfl⟩
          obtain ⟨x2, hx2⟩ : ∃ x, x = cntC 2 (cs.take k) := ⟨_, rfl⟩
          obtain ⟨x3, hx3⟩ : ∃ x, x = cntC 3 (cs.take k) := ⟨_, rfl⟩
          obtain ⟨x4, hx4⟩ : ∃ x, x = cntC 4 (cs.take k) := ⟨_, rfl⟩
          obtain ⟨s0, hs0⟩ : ∃ x, x = sumC a (cs.take k) := ⟨_, rfl⟩
          have hbx := HLP.out.box
          rw [← hx1, ← hx2, ← hx3, ← hx4] at hbx
          rw [← hs0]
          have hcn := HCN.out
          have hl1 := cnt_le 1 cs k
          have hl2 := cnt_le 2 cs k
          have hl3 := cnt_le 3 cs k
          have hl4 := cnt_le 4 cs k
          rw [← hx1] at hl1
          rw [← hx2] at hl2
          rw [← hx3] at hl3
          rw [← hx4] at hl4
          have hdl : ∀ c ∈ cs, c.en.data.length ≤ 140737488355328 := fun c hc => by
            have hv := HOKS.out.2 c hc
            by_cases hk1 : c.kind = 1
            · unfold chgOk at hv
              rw [if_pos hk1] at hv
              simp only [Bool.and_eq_true, decide_eq_true_eq] at hv
              rw [hv.2.2]; simp [noEnt]
            · exact vEnt_data (chg_ent hv hk1).1
          have hsl := sum_le (a := a) (cs := cs.take k) fun c hc => hdl c (List.mem_of_mem_take hc)
          rw [← hs0, List.length_take] at hsl
          have hs1 : s0 ≤ 576460752303423488 := by omega
          have HDL := Lib.hid hdl
          have HX1 := Lib.hid hx1
          have HX2 := Lib.hid hx2
          have HX3 := Lib.hid hx3
          have HX4 := Lib.hid hx4
          have HS0 := Lib.hid hs0
          have HBXR := Lib.hid hbx
          clear hx1 hx2 hx3 hx4 hs0 hbx hcn hsl hdl
          by_cases hlt : k < n
          · obtain ⟨c, hcc⟩ : ∃ c, cs[k]? = some c := ⟨cs[k]'(by rw [← HN.out]; exact hlt), by simp⟩
            have hcv := HOKS.out.2 c (List.mem_of_getElem? hcc)
            have hks := chg_kinds hcv
            have hdc := HDL.out c (List.mem_of_getElem? hcc)
            have HTS := Lib.hid (sum_take (a := a) hcc)
            have HT1 := Lib.hid (cnt_take hcc 1)
            have HT2 := Lib.hid (cnt_take hcc 2)
            have HT3 := Lib.hid (cnt_take hcc 3)
            have HT4 := Lib.hid (cnt_take hcc 4)
            clear hcv
            obtain ⟨b, o, dv, rfl, hb, hd, hok, hq⟩ := chgs_at (HL.out.below HLP.out.bel) hcc
            have HAT := Lib.hid hcc
            have HD := Lib.hid hd
            have HOK := Lib.hid hok
            obtain ⟨a1, cap1, rfl, hd1, hd2⟩ := hd.slice
            unfold maxLen at hd2
            have c0 := (hq 0 (by omega)).trans rfl
            have c1 := (hq 1 (by omega)).trans rfl
            have c2 := (hq 2 (by omega)).trans rfl
            have c3 := (hq 3 (by omega)).trans rfl
            have c4 := (hq 4 (by omega)).trans rfl
            have c5 := (hq 5 (by omega)).trans rfl
            have c6 := (hq 6 (by omega)).trans rfl
            have c7 := (hq 7 (by omega)).trans rfl
            have c8 := (hq 8 (by omega)).trans rfl
            simp only [chgC, List.getElem?_cons_succ, List.getElem?_cons_zero, Nat.add_zero] at c0 c1 c2 c3 c4 c5 c6 c7 c8
            clear hcc hd hok hq
            go_upto_region 16 with (fail)
            obtain ⟨W, hW⟩ : ∃ W : World, W = wr.alloc (.cells #[.int .i64 c.kind, .string c.path, .string c.src, .string c.en.path, .int .i64 c.en.kind, .int .i64 c.en.mode, .int .i64 c.en.time, .slice a1 c.en.data.length cap1, .string c.en.link] 58) := ⟨_, rfl⟩
            rw [← hW]
            have HW := Lib.hid (show Below wr.heap.size wr W by rw [hW]; exact (Below.refl _ _).alloc (Nat.le_refl _) _)
            have HX := Lib.hid (show W.heap[wr.heap.size]? = some (.cells #[.int .i64 c.kind, .string c.path, .string c.src, .string c.en.path, .int .i64 c.en.kind, .int .i64 c.en.mode, .int .i64 c.en.time, .slice a1 c.en.data.length cap1, .string c.en.link] 58 (0, 0)) by rw [hW]; exact new20 wr _)
            have HEQ := Lib.hid hW.symm
            clear hW c0 c1 c2 c3 c4 c5 c6 c7 c8
            have c0 := cell20 (k := 0) HX.out
            have c1 := cell20 (k := 1) HX.out
            have c2 := cell20 (k := 2) HX.out
            have c3 := cell20 (k := 3) HX.out
            have c4 := cell20 (k := 4) HX.out
            have c5 := cell20 (k := 5) HX.out
            have c6 := cell20 (k := 6) HX.out
            have c7 := cell20 (k := 7) HX.out
            have c8 := cell20 (k := 8) HX.out
            have hltX := lt20 HX.out
            simp only [List.getElem?_toArray, List.getElem?_cons_succ, List.getElem?_cons_zero] at c0 c1 c2 c3 c4 c5 c6 c7 c8
            have HBW := Lib.hid ((HW.out.block _ (lt20 HBXR.out)).trans HBXR.out)
            have HRW := Lib.hid ((HW.out.block _ (lt20 HLP.out.res)).trans HLP.out.res)
            have HSW := Lib.hid (HLP.out.set.below HW.out)
            have HBLW := Lib.hid (below_next HLP.out.bel HW.out)
            rcases hks with h1 | h1 | h1 | h1
            · have HNW := Lib.hid (show newC a c = 0 by unfold newC; rw [if_neg (by omega)])
              have hK : c.kind = 1 := by assumption
              have f0 := frozen20 (k := 0) HBW.out
              have f1 := frozen20 (k := 1) HBW.out
              have f2 := frozen20 (k := 2) HBW.out
              have f3 := frozen20 (k := 3) HBW.out
              have d0 := cell20 (k := 0) HBW.out
              have d1 := cell20 (k := 1) HBW.out
              have d2 := cell20 (k := 2) HBW.out
              have d3 := cell20 (k := 3) HBW.out
              have hltR := lt20 HBW.out
              simp only [List.getElem?_toArray, List.getElem?_cons_succ, List.getElem?_cons_zero] at d0 d1 d2 d3
              go_upto_region 17 with (fail)
              obtain ⟨V, hV⟩ : ∃ V : World, V = W.setCell ⟨cb, 0, none⟩ (.int .i64 ((x1 : Int) + 1)) := ⟨_, rfl⟩
              rw [← hV]
              have hcb := HCB.out
              have hg : W.grownBy V (some cb) := by rw [hV]; exact grown_set cb 0 _
              have HG := Lib.hid hg
              have HBXV := Lib.hid (show V.heap[cb]? = some _ by rw [hV]; exact set20 HBW.out _)
              have HXV := Lib.hid ((hg.block _ (lt20 HX.out) (fun e => by have h1 := Option.some.inj e; have h2 := lt20 HBXR.out; omega)).trans HX.out)
              have HRV := Lib.hid ((hg.block _ (lt20 HRW.out) (fun e => by have h1 := Option.some.inj e; omega)).trans HRW.out)
              have HSV := Lib.hid (HSW.out.other hg (by omega))
              have HBV := Lib.hid (HBLW.out.grown hg HBLW.out.size (fun k e => by cases e; omega))
              clear hV hg hcb c0 c1 c2 c3 c4 c5 c6 c7 c8 hltX d0 d1 d2 d3 f0 f1 f2 f3 hltR
              have c0 := cell20 (k := 0) HXV.out
              have c1 := cell20 (k := 1) HXV.out
              have c2 := cell20 (k := 2) HXV.out
              have c3 := cell20 (k := 3) HXV.out
              have c4 := cell20 (k := 4) HXV.out
              have c5 := cell20 (k := 5) HXV.out
              have c6 := cell20 (k := 6) HXV.out
              have c7 := cell20 (k := 7) HXV.out
              have c8 := cell20 (k := 8) HXV.out
              have hltX := lt20 HXV.out
              simp only [List.getElem?_toArray, List.getElem?_cons_succ, List.getElem?_cons_zero] at c0 c1 c2 c3 c4 c5 c6 c7 c8
              go_wp2_with fail
              go_roundw
              case rel =>
                refine ⟨k + 1, by omega, by go_num, ?_, ⟨?_, HRV.out, HSV.out, HBV.out⟩⟩
                · rw [HTS.out, HNW.out, ← HS0.out]; first | rfl | (rw [Nat.add_zero])
                · rw [HT1.out, HT2.out, HT3.out, HT4.out, ← HX1.out, ← HX2.out, ← HX3.out, ← HX4.out, hK]
                  exact HBXV.out
              case measure => simp [intOf]; omega
            · have HNW := Lib.hid (show newC a c = 0 by unfold newC; rw [if_neg (by omega)])
              have hK : c.kind = 2 := by assumption
              have f0 := frozen20 (k := 0) HBW.out
              have f1 := frozen20 (k := 1) HBW.out
              have f2 := frozen20 (k := 2) HBW.out
              have f3 := frozen20 (k := 3) HBW.out
              have d0 := cell20 (k := 0) HBW.out
              have d1 := cell20 (k := 1) HBW.out
              have d2 := cell20 (k := 2) HBW.out
              have d3 := cell20 (k := 3) HBW.out
              have hltR := lt20 HBW.out
              simp only [List.getElem?_toArray, List.getElem?_cons_succ, List.getElem?_cons_zero] at d0 d1 d2 d3
              go_upto_region 17 with (fail)
              obtain ⟨V, hV⟩ : ∃ V : World, V = W.setCell ⟨cb, 1, none⟩ (.int .i64 ((x2 : Int) + 1)) := ⟨_, rfl⟩
              rw [← hV]
              have hcb := HCB.out
              have hg : W.grownBy V (some cb) := by rw [hV]; exact grown_set cb 1 _
              have HG := Lib.hid hg
              have HBXV := Lib.hid (show V.heap[cb]? = some _ by rw [hV]; exact set20 HBW.out _)
              have HXV := Lib.hid ((hg.block _ (lt20 HX.out) (fun e => by have h1 := Option.some.inj e; have h2 := lt20 HBXR.out; omega)).trans HX.out)
              have HRV := Lib.hid ((hg.block _ (lt20 HRW.out) (fun e => by have h1 := Option.some.inj e; omega)).trans HRW.out)
              have HSV := Lib.hid (HSW.out.other hg (by omega))
              have HBV := Lib.hid (HBLW.out.grown hg HBLW.out.size (fun k e => by cases e; omega))
              clear hV hg hcb c0 c1 c2 c3 c4 c5 c6 c7 c8 hltX d0 d1 d2 d3 f0 f1 f2 f3 hltR
              have c0 := cell20 (k := 0) HXV.out
              have c1 := cell20 (k := 1) HXV.out
              have c2 := cell20 (k := 2) HXV.out
              have c3 := cell20 (k := 3) HXV.out
              have c4 := cell20 (k := 4) HXV.out
              have c5 := cell20 (k := 5) HXV.out
              have c6 := cell20 (k := 6) HXV.out
              have c7 := cell20 (k := 7) HXV.out
              have c8 := cell20 (k := 8) HXV.out
              have hltX := lt20 HXV.out
              simp only [List.getElem?_toArray, List.getElem?_cons_succ, List.getElem?_cons_zero] at c0 c1 c2 c3 c4 c5 c6 c7 c8
              go_wp2_with fail
              go_roundw
              case rel =>
                refine ⟨k + 1, by omega, by go_num, ?_, ⟨?_, HRV.out, HSV.out, HBV.out⟩⟩
                · rw [HTS.out, HNW.out, ← HS0.out]; first | rfl | (rw [Nat.add_zero])
                · rw [HT1.out, HT2.out, HT3.out, HT4.out, ← HX1.out, ← HX2.out, ← HX3.out, ← HX4.out, hK]
                  exact HBXV.out
              case measure => simp [intOf]; omega
            · skip
              have hK : c.kind = 3 := by assumption
              have f0 := frozen20 (k := 0) HBW.out
              have f1 := frozen20 (k := 1) HBW.out
              have f2 := frozen20 (k := 2) HBW.out
              have f3 := frozen20 (k := 3) HBW.out
              have d0 := cell20 (k := 0) HBW.out
              have d1 := cell20 (k := 1) HBW.out
              have d2 := cell20 (k := 2) HBW.out
              have d3 := cell20 (k := 3) HBW.out
              have hltR := lt20 HBW.out
              simp only [List.getElem?_toArray, List.getElem?_cons_succ, List.getElem?_cons_zero] at d0 d1 d2 d3
              go_upto_region 17 with (fail)
              obtain ⟨V, hV⟩ : ∃ V : World, V = W.setCell ⟨cb, 2, none⟩ (.int .i64 ((x3 : Int) + 1)) := ⟨_, rfl⟩
              rw [← hV]
              have hcb := HCB.out
              have hg : W.grownBy V (some cb) := by rw [hV]; exact grown_set cb 2 _
              have HG := Lib.hid hg
              have HBXV := Lib.hid (show V.heap[cb]? = some _ by rw [hV]; exact set20 HBW.out _)
              have HXV := Lib.hid ((hg.block _ (lt20 HX.out) (fun e => by have h1 := Option.some.inj e; have h2 := lt20 HBXR.out; omega)).trans HX.out)
              have HRV := Lib.hid ((hg.block _ (lt20 HRW.out) (fun e => by have h1 := Option.some.inj e; omega)).trans HRW.out)
              have HSV := Lib.hid (HSW.out.other hg (by omega))
              have HBV := Lib.hid (HBLW.out.grown hg HBLW.out.size (fun k e => by cases e; omega))
              clear hV hg hcb c0 c1 c2 c3 c4 c5 c6 c7 c8 hltX d0 d1 d2 d3 f0 f1 f2 f3 hltR
              have c0 := cell20 (k := 0) HXV.out
              have c1 := cell20 (k := 1) HXV.out
              have c2 := cell20 (k := 2) HXV.out
              have c3 := cell20 (k := 3) HXV.out
              have c4 := cell20 (k := 4) HXV.out
              have c5 := cell20 (k := 5) HXV.out
              have c6 := cell20 (k := 6) HXV.out
              have c7 := cell20 (k := 7) HXV.out
              have c8 := cell20 (k := 8) HXV.out
              have hltX := lt20 HXV.out
              simp only [List.getElem?_toArray, List.getElem?_cons_succ, List.getElem?_cons_zero] at c0 c1 c2 c3 c4 c5 c6 c7 c8
              by_cases hf : c.en.kind = 1
              · have hcv := conv20 (data_grown (HD.out.below HW.out) (old_new (by have := HCB.out; omega)) HG.out)
                have hget := HSV.out.get boolTy (boolZ V) (p := ⟨c.en.data.toArray⟩) (by show (c.en.data.toArray).size ≤ maxLen; rw [List.size_toArray]; unfold maxLen; omega)
                rw [show knowK a ⟨c.en.data.toArray⟩ = knowP a c.en.data by unfold knowK; rw [bl_of]] at hget
                obtain ⟨t, ht⟩ : ∃ t, t = knowP a c.en.data := ⟨_, rfl⟩
                rw [← ht] at hget
                cases t with
                | true =>
                  have HNW := Lib.hid (show newC a c = 0 by unfold newC; rw [if_neg (fun h => by rw [← ht] at h; exact absurd h.2.2 (by simp))])
                  clear ht
                  go_wp2_with fail
                  go_roundw
                  case rel =>
                    refine ⟨k + 1, by omega, by go_num, ?_, ⟨?_, HRV.out, HSV.out, HBV.out⟩⟩
                    · rw [HTS.out, HNW.out, ← HS0.out]; first | rfl | (rw [Nat.add_zero])
                    · rw [HT1.out, HT2.out, HT3.out, HT4.out, ← HX1.out, ← HX2.out, ← HX3.out, ← HX4.out, hK]
                      exact HBXV.out
                  case measure => simp [intOf]; omega
                | false =>
                  have HNW := Lib.hid (show newC a c = c.en.data.length by unfold newC; rw [if_pos ⟨by omega, hf, ht.symm⟩])
                  clear ht
                  go_wp2_with fail
                  go_roundw
                  case rel =>
                    refine ⟨k + 1, by omega, by go_num, ?_, ⟨?_, HRV.out, HSV.out, HBV.out⟩⟩
                    · rw [HTS.out, HNW.out, ← HS0.out]; first | rfl | (rw [Nat.add_zero])
                    · rw [HT1.out, HT2.out, HT3.out, HT4.out, ← HX1.out, ← HX2.out, ← HX3.out, ← HX4.out, hK]
                      exact HBXV.out
                  case measure => simp [intOf]; omega
              · have HNW := Lib.hid (show newC a c = 0 by unfold newC; rw [if_neg (fun h => hf h.2.1)])
                go_wp2_with fail
                go_roundw
                case rel =>
                  refine ⟨k + 1, by omega, by go_num, ?_, ⟨?_, HRV.out, HSV.out, HBV.out⟩⟩
                  · rw [HTS.out, HNW.out, ← HS0.out]; first | rfl | (rw [Nat.add_zero])
                  · rw [HT1.out, HT2.out, HT3.out, HT4.out, ← HX1.out, ← HX2.out, ← HX3.out, ← HX4.out, hK]
                    exact HBXV.out
                case measure => simp [intOf]; omega
            · skip
              have hK : c.kind = 4 := by assumption
              have f0 := frozen20 (k := 0) HBW.out
              have f1 := frozen20 (k := 1) HBW.out
              have f2 := frozen20 (k := 2) HBW.out
              have f3 := frozen20 (k := 3) HBW.out
              have d0 := cell20 (k := 0) HBW.out
              have d1 := cell20 (k := 1) HBW.out
              have d2 := cell20 (k := 2) HBW.out
              have d3 := cell20 (k := 3) HBW.out
              have hltR := lt20 HBW.out
              simp only [List.getElem?_toArray, List.getElem?_cons_succ, List.getElem?_cons_zero] at d0 d1 d2 d3
              go_upto_region 17 with (fail)
              obtain ⟨V, hV⟩ : ∃ V : World, V = W.setCell ⟨cb, 3, none⟩ (.int .i64 ((x4 : Int) + 1)) := ⟨_, rfl⟩
              rw [← hV]
              have hcb := HCB.out
              have hg : W.grownBy V (some cb) := by rw [hV]; exact grown_set cb 3 _
              have HG := Lib.hid hg
              have HBXV := Lib.hid (show V.heap[cb]? = some _ by rw [hV]; exact set20 HBW.out _)
              have HXV := Lib.hid ((hg.block _ (lt20 HX.out) (fun e => by have h1 := Option.some.inj e; have h2 := lt20 HBXR.out; omega)).trans HX.out)
              have HRV := Lib.hid ((hg.block _ (lt20 HRW.out) (fun e => by have h1 := Option.some.inj e; omega)).trans HRW.out)
              have HSV := Lib.hid (HSW.out.other hg (by omega))
              have HBV := Lib.hid (HBLW.out.grown hg HBLW.out.size (fun k e => by cases e; omega))
              clear hV hg hcb c0 c1 c2 c3 c4 c5 c6 c7 c8 hltX d0 d1 d2 d3 f0 f1 f2 f3 hltR
              have c0 := cell20 (k := 0) HXV.out
              have c1 := cell20 (k := 1) HXV.out
              have c2 := cell20 (k := 2) HXV.out
              have c3 := cell20 (k := 3) HXV.out
              have c4 := cell20 (k := 4) HXV.out
              have c5 := cell20 (k := 5) HXV.out
              have c6 := cell20 (k := 6) HXV.out
              have c7 := cell20 (k := 7) HXV.out
              have c8 := cell20 (k := 8) HXV.out
              have hltX := lt20 HXV.out
              simp only [List.getElem?_toArray, List.getElem?_cons_succ, List.getElem?_cons_zero] at c0 c1 c2 c3 c4 c5 c6 c7 c8
              by_cases hf : c.en.kind = 1
              · have hcv := conv20 (data_grown (HD.out.below HW.out) (old_new (by have := HCB.out; omega)) HG.out)
                have hget := HSV.out.get boolTy (boolZ V) (p := ⟨c.en.data.toArray⟩) (by show (c.en.data.toArray).size ≤ maxLen; rw [List.size_toArray]; unfold maxLen; omega)
                rw [show knowK a ⟨c.en.data.toArray⟩ = knowP a c.en.data by unfold knowK; rw [bl_of]] at hget
                obtain ⟨t, ht⟩ : ∃ t, t = knowP a c.en.data := ⟨_, rfl⟩
                rw [← ht] at hget
                cases t with
                | true =>
                  have HNW := Lib.hid (show newC a c = 0 by unfold newC; rw [if_neg (fun h => by rw [← ht] at h; exact absurd h.2.2 (by simp))])
                  clear ht
                  go_wp2_with fail
                  go_roundw
                  case rel =>
                    refine ⟨k + 1, by omega, by go_num, ?_, ⟨?_, HRV.out, HSV.out, HBV.out⟩⟩
                    · rw [HTS.out, HNW.out, ← HS0.out]; first | rfl | (rw [Nat.add_zero])
                    · rw [HT1.out, HT2.out, HT3.out, HT4.out, ← HX1.out, ← HX2.out, ← HX3.out, ← HX4.out, hK]
                      exact HBXV.out
                  case measure => simp [intOf]; omega
                | false =>
                  have HNW := Lib.hid (show newC a c = c.en.data.length by unfold newC; rw [if_pos ⟨by omega, hf, ht.symm⟩])
                  clear ht
                  go_wp2_with fail
                  go_roundw
                  case rel =>
                    refine ⟨k + 1, by omega, by go_num, ?_, ⟨?_, HRV.out, HSV.out, HBV.out⟩⟩
                    · rw [HTS.out, HNW.out, ← HS0.out]; first | rfl | (rw [Nat.add_zero])
                    · rw [HT1.out, HT2.out, HT3.out, HT4.out, ← HX1.out, ← HX2.out, ← HX3.out, ← HX4.out, hK]
                      exact HBXV.out
                  case measure => simp [intOf]; omega
              · have HNW := Lib.hid (show newC a c = 0 by unfold newC; rw [if_neg (fun h => hf h.2.1)])
                go_wp2_with fail
                go_roundw
                case rel =>
                  refine ⟨k + 1, by omega, by go_num, ?_, ⟨?_, HRV.out, HSV.out, HBV.out⟩⟩
                  · rw [HTS.out, HNW.out, ← HS0.out]; first | rfl | (rw [Nat.add_zero])
                  · rw [HT1.out, HT2.out, HT3.out, HT4.out, ← HX1.out, ← HX2.out, ← HX3.out, ← HX4.out, hK]
                    exact HBXV.out
                case measure => simp [intOf]; omega
          · have hk2 : n = k := by omega
            subst hk2
            have HQ := Lib.hid (show cntQ a cs = (numArr x1 x2 x3 x4, (s0 : Int), 0) by
              unfold cntQ
              rw [← HCX.out, if_neg (by simp), HX1.out, HX2.out, HX3.out, HX4.out, HS0.out, HN.out, List.take_length])
            have hcb := HCB.out
            have e0 := cell20 (k := 0) HBXR.out
            have e1 := cell20 (k := 1) HBXR.out
            have e2 := cell20 (k := 2) HBXR.out
            have e3 := cell20 (k := 3) HBXR.out
            have hltE := lt20 HBXR.out
            simp only [List.getElem?_toArray, List.getElem?_cons_succ, List.getElem?_cons_zero] at e0 e1 e2 e3
            have HRS := Lib.hid HLP.out.res
            have f0 := frozen20 (k := 0) HRS.out
            have f1 := frozen20 (k := 1) HRS.out
            have f2 := frozen20 (k := 2) HRS.out
            have f3 := frozen20 (k := 3) HRS.out
            have d0 := cell20 (k := 0) HRS.out
            have d1 := cell20 (k := 1) HRS.out
            have d2 := cell20 (k := 2) HRS.out
            have d3 := cell20 (k := 3) HRS.out
            have hltR := lt20 HRS.out
            simp only [List.getElem?_toArray, List.getElem?_cons_succ, List.getElem?_cons_zero] at d0 d1 d2 d3
            go_wp2_with fail
            refine counts_end (e5 := .int .i64 s0) (e6 := .int .i64 0) HRS.out (by kernel_rfl) (by kernel_rfl) (by kernel_rfl) (by kernel_rfl) ⟨?_, ?_⟩
            · rw [HQ.out]; rfl
            · repeat refine below_set20 ?_ (by omega)
              exact HLP.out.bel
  · have HQ := Lib.hid (show cntQ a cs = (numArr 0 0 0 0, 0, x) by unfold cntQ; rw [← HCX.out, if_pos h0])
    have e1 : (x != 0) = true := by simp [h0]
    clear h0
    go_enter Tryz.func26, Tryz.ntmps26
    go_wp2_with fail
    refine (HCK.out _ HB0.out).mono ?_
    rintro e w1 ⟨rfl, hb1⟩
    have HR1 := Lib.hid ((hb1.block _ (lt20 HR0.out)).trans HR0.out)
    have HB1 := Lib.hid (below_next HB0.out hb1)
    clear hb1 HR0 HB0 HCK
    have f0 := frozen20 (k := 0) HR1.out
    have f1 := frozen20 (k := 1) HR1.out
    have f2 := frozen20 (k := 2) HR1.out
    have f3 := frozen20 (k := 3) HR1.out
    have d0 := cell20 (k := 0) HR1.out
    have d1 := cell20 (k := 1) HR1.out
    have d2 := cell20 (k := 2) HR1.out
    have d3 := cell20 (k := 3) HR1.out
    have hltR := lt20 HR1.out
    simp only [List.getElem?_toArray, List.getElem?_cons_succ, List.getElem?_cons_zero] at d0 d1 d2 d3
    go_wp2_with fail
    refine counts_end (e5 := .int .i64 0) (e6 := .int .i64 x) HR1.out (by kernel_rfl) (by kernel_rfl) (by kernel_rfl) (by kernel_rfl) ⟨?_, ?_⟩
    · rw [HQ.out]; rfl
    · repeat refine below_set20 ?_ (by omega)
      exact HB1.out
end Go.Proofs.YtdieneaillkbgaaGreatDoor

/- The example of chapter 23: file. -/
namespace Go.Proofs.YtdieneaillkbgaaGreatDoor
open Go Go.RowKit Go.Maps
theorem fileD_res {tmps : Array Value} {w : World} {b : Nat} {x0 x1 x2 x3 x4 x5 : Value} (h : w.heap[b]? = some (.cells #[x0, x1, x2, x3, x4, x5] 48 (0, 0)))
    (h4 : tmps[4]? = some (.pointer (some ⟨b, 0, none⟩))) : (results Tryz.f36 tmps).run Tryz.prog w = .ok (.agg #[x0, x1, x2, x3, x4, x5]) w := by
  have m0 := cell20 (k := 0) h
  have m1 := cell20 (k := 1) h
  have m2 := cell20 (k := 2) h
  have m3 := cell20 (k := 3) h
  have m4 := cell20 (k := 4) h
  have m5 := cell20 (k := 5) h
  simp only [List.getElem?_toArray, List.getElem?_cons_succ, List.getElem?_cons_zero] at m0 m1 m2 m3 m4 m5
  simp [results, Tryz.results36, go_sem, h4, m0, m1, m2, m3, m4, m5]
theorem fileD_end {a : Act} {w : World} {b : Nat} {a0 a1 a2 a3 a4 a5 x0 x1 x2 x3 x4 x5 : Value} {Q : Ending → World → Prop} (h : w.heap[b]? = some (.cells #[a0, a1, a2, a3, a4, a5] 48 (0, 0)))
    (h2 : a.tmps[4]? = some (.pointer (some ⟨b, 0, none⟩))) (hd : a.defers = [])
    (hQ : Q (.returned (.agg #[x0, x1, x2, x3, x4, x5])) ((((((w.setCell ⟨b, 0, none⟩ x0).setCell ⟨b, 1, none⟩ x1).setCell ⟨b, 2, none⟩ x2).setCell ⟨b, 3, none⟩ x3).setCell ⟨b, 4, none⟩ x4).setCell ⟨b, 5, none⟩ x5)) :
    bodyPost Tryz.prog Tryz.f36 Q Exit.ret a ((((((w.setCell ⟨b, 0, none⟩ x0).setCell ⟨b, 1, none⟩ x1).setCell ⟨b, 2, none⟩ x2).setCell ⟨b, 3, none⟩ x3).setCell ⟨b, 4, none⟩ x4).setCell ⟨b, 5, none⟩ x5) :=
  bodyPost_ret (fileD_res (six20 h) h2) hd hQ
def fileE (p : ByteArray) (d : List UInt8) : Ent := ⟨p, 1, 0, 0, d, ⟨#[]⟩⟩
theorem bytes_bel (w : World) (e : TypeId) (s : ByteArray) : Below w.heap.size w (Lib.bytesWorld w e s) :=
  ⟨rfl, rfl, rfl, by rw [Lib.bytesWorld_size]; omega, fun k hk => Lib.bytesWorld_at_old w e s k hk⟩
theorem bytes_data (w : World) (s : ByteArray) (hs : s.size ≤ maxLen) : DataAt (fun k => k = w.heap.size) (Lib.bytesWorld w 5 s) (.slice (some ⟨w.heap.size, 0, none⟩) s.size (grownCap w s.size 0 5)) (bl s) := by
  have e : s.size = (bl s).length := size_bl s
  unfold DataAt RowAt
  rw [← e]
  refine ⟨by rw [List.length_map, e, Nat.mul_one], _, _, rfl, grownCap_ge _ _ _ _, grownCap_le_maxLen _ _ _ _ hs, .inr ⟨w.heap.size, 0, rfl, rfl, fun j u hj => ?_⟩⟩
  have hlt := (List.getElem?_eq_some_iff.1 hj).1
  rw [List.length_map, ← e] at hlt
  rw [Nat.zero_add, Lib.bytesWorld_cell w _ s j hlt, ← hj, List.getElem?_map]
  have hl2 : j < s.data.toList.length := by simpa using hlt
  show _ = Option.map u8V (s.data.toList[j]?)
  rw [List.getElem?_eq_getElem hl2, List.getD_eq_getElem?_getD, List.getElem?_eq_getElem hl2]
  rfl
set_option maxRecDepth 100000 in
set_option maxHeartbeats 2000000 in
theorem fileD_any (p d : ByteArray) (w : World) (hd : d.size ≤ 65536) :
    Calls Tryz.prog 36 #[.string p, .string d] w fun e w' => ∃ a c, e = .returned (.agg #[.string p, .int .i64 1, .int .i64 0, .int .i64 0, .slice a d.size c, .string ⟨#[]⟩]) ∧ DataAt (fun k => w.heap.size ≤ k ∧ k < w'.heap.size) w' (.slice a d.size c) (bl d) ∧ Below w.heap.size w w' := by
  obtain ⟨W2, cp, hcv, hbz, hxz, hdz⟩ : ∃ (W2 : World) (cp : Nat), (convert 9 46 (.string d)).run Tryz.prog (w.alloc (.cells #[.string ⟨#[]⟩, .int .i64 0, .int .i64 0, .int .i64 0, .slice none 0 0, .string ⟨#[]⟩] 48)) = .ok (.slice (some ⟨w.heap.size + 1, 0, none⟩) d.size cp) W2 ∧
      Below w.heap.size w W2 ∧ W2.heap[w.heap.size]? = some (.cells #[.string ⟨#[]⟩, .int .i64 0, .int .i64 0, .int .i64 0, .slice none 0 0, .string ⟨#[]⟩] 48 (0, 0)) ∧ DataAt (fun k => w.heap.size < k ∧ k < W2.heap.size) W2 (.slice (some ⟨w.heap.size + 1, 0, none⟩) d.size cp) (bl d) := by
    obtain ⟨W1, hW1⟩ : ∃ W : World, W = w.alloc (.cells #[.string ⟨#[]⟩, .int .i64 0, .int .i64 0, .int .i64 0, .slice none 0 0, .string ⟨#[]⟩] 48) := ⟨_, rfl⟩
    have hb1 : Below w.heap.size w W1 := by rw [hW1]; exact (Below.refl _ _).alloc (Nat.le_refl _) _
    have hx1 : W1.heap[w.heap.size]? = some (.cells #[.string ⟨#[]⟩, .int .i64 0, .int .i64 0, .int .i64 0, .slice none 0 0, .string ⟨#[]⟩] 48 (0, 0)) := by rw [hW1]; exact new20 w _
    have hs1 : W1.heap.size = w.heap.size + 1 := by rw [hW1]; simp
    rw [← hW1]
    have hb2 := bytes_bel W1 5 d
    have hd2 := bytes_data W1 d (by unfold maxLen; omega)
    have hr := Lib.run_convert_string_bytes (P := Tryz.prog) W1 9 46 5 d Tryz.underlying9 Tryz.underlying46 Tryz.underlying5
    rw [hs1] at hr hd2
    exact ⟨_, _, hr, below_next hb1 hb2, (hb2.block _ (lt20 hx1)).trans hx1, RowAt.mono hd2 (fun k hk hS => ⟨by omega, hk⟩) (by omega)⟩
  have HB := Lib.hid hbz
  have HX := Lib.hid hxz
  have HD := Lib.hid hdz
  have f0 := frozen20 (k := 0) hxz
  have f1 := frozen20 (k := 1) hxz
  have f2 := frozen20 (k := 2) hxz
  have f3 := frozen20 (k := 3) hxz
  have f4 := frozen20 (k := 4) hxz
  have f5 := frozen20 (k := 5) hxz
  have c0 := cell20 (k := 0) hxz
  have c1 := cell20 (k := 1) hxz
  have c2 := cell20 (k := 2) hxz
  have c3 := cell20 (k := 3) hxz
  have c4 := cell20 (k := 4) hxz
  have c5 := cell20 (k := 5) hxz
  have hlt := lt20 hxz
  simp only [List.getElem?_toArray, List.getElem?_cons_succ, List.getElem?_cons_zero] at c0 c1 c2 c3 c4 c5
  clear hbz hxz hdz
  go_enter Tryz.func36, Tryz.ntmps36
  go_wp2_with fail
  refine fileD_end (b := w.heap.size) HX.out (by kernel_rfl) (by kernel_rfl) ⟨_, _, rfl, ?_, ?_⟩
  · have h1 : ∀ {V : World} {x : Value} {k : Nat}, DataAt (fun k => w.heap.size < k ∧ k < W2.heap.size) V (.slice (some ⟨w.heap.size + 1, 0, none⟩) d.size cp) (bl d) → DataAt (fun k => w.heap.size < k ∧ k < W2.heap.size) (V.setCell ⟨w.heap.size, k, none⟩ x) (.slice (some ⟨w.heap.size + 1, 0, none⟩) d.size cp) (bl d) := fun h => data_grown h (by omega) (grown_set _ _ _)
    refine RowAt.mono (h1 (h1 (h1 (h1 (h1 (h1 HD.out)))))) (fun k hk hS => ⟨by omega, hk⟩) (by omega)
  · repeat refine below_set20 ?_ (by omega)
    exact HB.out
def exDA : List Ent := [⟨⟨#[100]⟩, 2, 0, 0, [], ⟨#[]⟩⟩, fileE ⟨#[100, 47, 120]⟩ [49, 50], fileE ⟨#[121]⟩ [51]]
def exDB : List Ent := [fileE ⟨#[100]⟩ [49, 50], fileE ⟨#[121]⟩ [52]]
def exDR : List Ent := [⟨⟨#[100]⟩, 2, 0, 0, [], ⟨#[]⟩⟩, fileE ⟨#[100, 47, 120]⟩ [49, 50], fileE ⟨#[100, 47, 122]⟩ [53], fileE ⟨#[121]⟩ [51]]
def exDL : List Chg := [⟨1, ⟨#[100]⟩, noPath, noEnt⟩, ⟨2, ⟨#[100]⟩, ⟨#[100, 47, 120]⟩, fileE ⟨#[100]⟩ [49, 50]⟩, ⟨4, ⟨#[121]⟩, noPath, fileE ⟨#[121]⟩ [52]⟩]
theorem exD_diff : diffQ exDA exDB = (exDL, 0) := by kernel_rfl
theorem exD_app : applyP exDA exDL = (exDB, 0) := by kernel_rfl
theorem exD_cnt : cntQ exDA exDL = (numArr 1 1 0 1, 1, 0) := by kernel_rfl
theorem exD_text : textP exDL = [45, 32, 100, 10, 62, 32, 100, 47, 120, 9, 100, 10, 42, 32, 121, 10] := by kernel_rfl
theorem exD_chk : mrgChk exDA exDB exDR = 0 := by kernel_rfl
theorem exD_tok : TOk exDB := checkP_iff.1 (by kernel_rfl)
theorem exD_merge : IsMerge exDA exDB exDR exDB [⟨#[100, 47, 122]⟩] := by
  have hin : ∀ p : ByteArray, p ∈ (exDB ++ exDR).map Ent.path ∨ (findE exDB p = none ∧ findE exDR p = none) := fun p => by
    by_cases h : p ∈ (exDB ++ exDR).map Ent.path
    · exact Or.inl h
    · rw [List.map_append, List.mem_append] at h
      refine Or.inr ⟨?_, ?_⟩
      · cases hf : findE exDB p with
        | none => rfl
        | some f => exact absurd (Or.inl (some_in (by rw [hf]; simp))) h
      · cases hf : findE exDR p with
        | none => rfl
        | some f => exact absurd (Or.inr (some_in (by rw [hf]; simp))) h
  have hps : (exDB ++ exDR).map Ent.path = [⟨#[100]⟩, ⟨#[121]⟩, ⟨#[100]⟩, ⟨#[100, 47, 120]⟩, ⟨#[100, 47, 122]⟩, ⟨#[121]⟩] := by kernel_rfl
  refine ⟨exD_tok.ord, fun p => ?_, by simp, fun p => ?_⟩
  · rcases hin p with h | ⟨h1, h2⟩
    · rw [hps] at h
      simp only [List.mem_cons, List.not_mem_nil, or_false] at h
      rcases h with rfl | rfl | rfl | rfl | rfl | rfl <;> kernel_rfl
    · rw [h1]
      symm
      cases hr : resM exDA exDB exDR p with
      | none => rfl
      | some e =>
        have := (res_mid hr).1
        rcases mid_from (x := exDA) (l := exDB) (r := exDR) (p := p) with h | h
        · rw [h, h1] at this; cases this
        · rw [h, h2] at this; cases this
  · constructor
    · intro h
      rw [List.mem_singleton.1 h]; kernel_rfl
    · intro h
      have h2 := isK_in exD_tok h
      rw [hps] at h2
      simp only [List.mem_cons, List.not_mem_nil, or_false] at h2
      rcases h2 with rfl | rfl | rfl | rfl | rfl | rfl
      all_goals first
        | (exact List.mem_singleton.2 rfl)
        | (exfalso; revert h; rw [show isK exDA exDB exDR _ = false by kernel_rfl]; simp)
theorem exD_one {m : List Ent} {k : List ByteArray} (h : IsMerge exDA exDB exDR m k) : m = exDB ∧ k = [⟨#[100, 47, 122]⟩] := merge_one h exD_merge
theorem fileE_ok (p : ByteArray) (d : List UInt8) (hp : p.size ≤ maxLen) : EntOk (fileE p d) := ⟨hp, by show (⟨#[]⟩ : ByteArray).size ≤ maxLen; decide, rfl, rfl, rfl⟩
theorem data_row {S : Nat → Prop} {w w' : World} {v : Value} {bs : List UInt8} {row : Option Nat} (h : DataAt S w v bs) (hg : w.grownBy w' row) (hr : ∀ k, row = some k → ¬ S k) : DataAt S w' v bs := by
  cases row with
  | none => exact h.below ⟨hg.os, hg.tape, hg.output, hg.size, fun k hk => hg.block k hk (by simp)⟩
  | some k => exact data_grown h (hr k rfl) hg
/-- A list of entries in a new row. -/
theorem ents_row {S : Nat → Prop} {w : World} {ys : List VEnt} (hn : ys.length ≤ 4096) (h : ∀ y ∈ ys, DataAt S w y.1 y.2.data ∧ EntOk y.2) : EntsAt (fun _ => True) (w.alloc (.cells (entsC ys).toArray 48)) (.slice (some ⟨w.heap.size, 0, none⟩) ys.length ys.length) (ys.map Prod.snd) := by
  refine ⟨entsC ys, RowAt.weak (by rw [List.length_map]; exact row_new (cells := entsC ys) (new20 w _) (entsC_len ys) (by unfold maxLen; omega)) (fun _ _ => trivial), entsC_in fun y hy => ⟨data_mono ((h y hy).1.below ((Below.refl _ _).alloc (Nat.le_refl _) _)) (fun _ _ => trivial), (h y hy).2⟩⟩
set_option maxRecDepth 100000 in
set_option maxHeartbeats 4000000 in
theorem awD_any (w : World) (he : Env w) : Calls Tryz.prog 13 #[] w fun e w' => e = .returned (.bool true) ∧ Below w.heap.size w w' := by
  have HE := Lib.hid he
  clear he
  go_enter Tryz.func13, Tryz.ntmps13
  go_wp2_with fail
  refine (fileD_any ⟨#[100, 47, 120]⟩ ⟨#[49, 50]⟩ w (by decide)).mono ?_
  rintro e w1 ⟨a1, c1, rfl, hd1, hb1⟩
  have HD1 := Lib.hid hd1
  have HB1 := Lib.hid hb1
  clear hd1 hb1
  go_wp2_with fail
  refine (fileD_any ⟨#[121]⟩ ⟨#[51]⟩ w1 (by decide)).mono ?_
  rintro e w2 ⟨a2, c2, rfl, hd2, hb2⟩
  have HD2 := Lib.hid hd2
  have HD1b := Lib.hid (HD1.out.below hb2)
  have HB2 := Lib.hid (below_next HB1.out hb2)
  clear hd2 hb2 HD1
  go_upto_region 2 with (fail)
  obtain ⟨ysA, hysA⟩ : ∃ ys : List VEnt, ys = [(.slice none 0 0, ⟨⟨#[100]⟩, 2, 0, 0, [], ⟨#[]⟩⟩), (.slice a1 2 c1, fileE ⟨#[100, 47, 120]⟩ [49, 50]), (.slice a2 1 c2, fileE ⟨#[121]⟩ [51])] := ⟨_, rfl⟩
  have HYA := Lib.hid hysA
  have hda : ∀ y ∈ ysA, DataAt (fun _ => True) w2 y.1 y.2.data ∧ EntOk y.2 := fun y hy => by
    rw [hysA] at hy
    simp only [List.mem_cons, List.not_mem_nil, or_false] at hy
    rcases hy with rfl | rfl | rfl
    · exact ⟨DataAt.nil _ _, exOk _ (.inl rfl) |> fun _ => ⟨by decide, by decide, by decide, by decide, by decide⟩⟩
    · exact ⟨data_mono HD1b.out (fun _ _ => trivial), fileE_ok _ _ (by decide)⟩
    · exact ⟨data_mono HD2.out (fun _ _ => trivial), fileE_ok _ _ (by decide)⟩
  obtain ⟨w3, hw3⟩ : ∃ Z : World, Z = w2.alloc (.cells #[.string ⟨#[100]⟩, .int .i64 2, .int .i64 0, .int .i64 0, .slice none 0 0, .string ⟨#[]⟩, .string ⟨#[100, 47, 120]⟩, .int .i64 1, .int .i64 0, .int .i64 0, .slice a1 2 c1, .string ⟨#[]⟩, .string ⟨#[121]⟩, .int .i64 1, .int .i64 0, .int .i64 0, .slice a2 1 c2, .string ⟨#[]⟩] 48) := ⟨_, rfl⟩
  rw [← hw3]
  have hb3 : Below w2.heap.size w2 w3 := by rw [hw3]; exact (Below.refl _ _).alloc (Nat.le_refl _) _
  have HDA := Lib.hid (show ∀ y ∈ ysA, DataAt (fun _ => True) w3 y.1 y.2.data ∧ EntOk y.2 from fun y hy => ⟨(hda y hy).1.below hb3, (hda y hy).2⟩)
  obtain ⟨bA, hbA⟩ : ∃ b, b = w2.heap.size := ⟨_, rfl⟩
  have HRA := Lib.hid (show RowAt (fun k => k = bA) w3 6 (.slice (some ⟨bA, 0, none⟩) 3 3) 3 (entsC ysA) by
    rw [hysA, hw3, hbA]; exact row_new (cells := entsC [(.slice none 0 0, ⟨⟨#[100]⟩, 2, 0, 0, [], ⟨#[]⟩⟩), (.slice a1 2 c1, fileE ⟨#[100, 47, 120]⟩ [49, 50]), (.slice a2 1 c2, fileE ⟨#[121]⟩ [51])]) (new20 w2 _) rfl (by decide))
  have HX3 := Lib.hid (show w3.heap[bA]? = some (.cells #[.string ⟨#[100]⟩, .int .i64 2, .int .i64 0, .int .i64 0, .slice none 0 0, .string ⟨#[]⟩, .string ⟨#[100, 47, 120]⟩, .int .i64 1, .int .i64 0, .int .i64 0, .slice a1 2 c1, .string ⟨#[]⟩, .string ⟨#[121]⟩, .int .i64 1, .int .i64 0, .int .i64 0, .slice a2 1 c2, .string ⟨#[]⟩] 48 (0, 0)) by rw [hw3, hbA]; exact new20 w2 _)
  have HB3 := Lib.hid (below_next HB2.out hb3)
  have HA3 := Lib.hid (show EntsAt (fun _ => True) w3 (.slice (some ⟨bA, 0, none⟩) 3 3) exDA by
    have hm : ysA.map Prod.snd = exDA := by rw [hysA]; rfl
    have hl : ysA.length = 3 := by rw [hysA]; rfl
    rw [← hm]
    have hr : RowAt (fun _ => True) w3 6 (.slice (some ⟨bA, 0, none⟩) 3 3) 3 (entsC ysA) := RowAt.weak HRA.out (fun _ _ => trivial)
    exact ⟨entsC ysA, by rw [List.length_map, hl]; exact hr, entsC_in HDA.out⟩)
  rw [← hbA]
  clear hysA hda hw3 hb3 hbA HD1b HD2 HB1 HB2
  go_wp2_with fail
  refine (fileD_any ⟨#[100]⟩ ⟨#[49, 50]⟩ w3 (by decide)).mono ?_
  rintro e w4 ⟨a4, c4, rfl, hd4, hb4⟩
  have HD4 := Lib.hid hd4
  have HB4 := Lib.hid hb4
  clear hd4 hb4
  go_wp2_with fail
  refine (fileD_any ⟨#[121]⟩ ⟨#[52]⟩ w4 (by decide)).mono ?_
  rintro e w5 ⟨a5, c5, rfl, hd5, hb5⟩
  have HD5 := Lib.hid hd5
  have HD4b := Lib.hid (HD4.out.below hb5)
  have HB5 := Lib.hid (below_next HB4.out hb5)
  clear hd5 hb5 HD4 HB4
  go_upto_region 3 with (fail)
  obtain ⟨w6, hw6⟩ : ∃ Z : World, Z = w5.alloc (.cells #[.string ⟨#[100]⟩, .int .i64 1, .int .i64 0, .int .i64 0, .slice a4 2 c4, .string ⟨#[]⟩, .string ⟨#[121]⟩, .int .i64 1, .int .i64 0, .int .i64 0, .slice a5 1 c5, .string ⟨#[]⟩] 48) := ⟨_, rfl⟩
  rw [← hw6]
  have hb6 : Below w5.heap.size w5 w6 := by rw [hw6]; exact (Below.refl _ _).alloc (Nat.le_refl _) _
  have HB6 := Lib.hid (below_next HB5.out hb6)
  have HBB6 := Lib.hid (show EntsAt (fun _ => True) w6 (.slice (some ⟨w5.heap.size, 0, none⟩) 2 2) exDB by
    rw [hw6]
    exact ents_row (S := fun _ => True) (w := w5) (ys := [(.slice a4 2 c4, fileE ⟨#[100]⟩ [49, 50]), (.slice a5 1 c5, fileE ⟨#[121]⟩ [52])]) (by simp) (fun y hy => by
      simp only [List.mem_cons, List.not_mem_nil, or_false] at hy
      rcases hy with rfl | rfl
      · exact ⟨data_mono HD4b.out (fun _ _ => trivial), fileE_ok _ _ (by decide)⟩
      · exact ⟨data_mono HD5.out (fun _ _ => trivial), fileE_ok _ _ (by decide)⟩))
  obtain ⟨bB, hbB⟩ : ∃ b, b = w5.heap.size := ⟨_, rfl⟩
  rw [← hbB] at HBB6 ⊢
  clear hw6 hb6 hbB HD4b HD5 HB5
  go_wp2_with fail
  refine (diff_any _ _ exDA exDB _ _ w6 (HA3.out.below HB6.out) HBB6.out (HE.out.below (below_next HB3.out HB6.out))).mono ?_
  rintro e w7 hr7
  unfold ChgRes at hr7
  rw [exD_diff] at hr7
  obtain ⟨v7, ys7, rfl, hy7, hg7, hb7⟩ := hr7
  have HL7 := Lib.hid hg7.seq
  rw [hy7] at HL7
  obtain ⟨a7, c7, rfl, -, -⟩ := owns_shape hg7.row
  rw [show ys7.length = 3 by rw [← List.length_map (f := Prod.snd), hy7]; rfl] at HL7 ⊢
  have HB7 := Lib.hid (below_next HB6.out hb7)
  have HBB7 := Lib.hid (HBB6.out.below hb7)
  clear hy7 hg7 hb7
  go_wp2_with fail
  refine (apply_flat _ _ exDA exDL _ _ w7 exDB 0 exD_app (HA3.out.below HB7.out) HL7.out (by decide) (HE.out.below (below_next HB3.out HB7.out))).mono ?_
  rintro e w8 ⟨v8, ys8, rfl, hy8, hg8, hb8⟩
  have HC8 := Lib.hid hg8.seq
  rw [hy8] at HC8
  obtain ⟨a8, c8, rfl, -, -⟩ := owns_shape hg8.row
  rw [show ys8.length = 2 by rw [← List.length_map (f := Prod.snd), hy8]; rfl] at HC8 ⊢
  have HB8 := Lib.hid (below_next HB7.out hb8)
  have HBB8 := Lib.hid (HBB7.out.below hb8)
  have HL8 := Lib.hid (HL7.out.below hb8)
  clear hy8 hg8 hb8
  go_wp2_with fail
  refine (counts_any _ _ exDA exDL _ _ w8 (HA3.out.below HB8.out) HL8.out (by decide) (HE.out.below (below_next HB3.out HB8.out))).mono ?_
  rintro e w9 hr9
  unfold CntRes at hr9
  rw [exD_cnt] at hr9
  obtain ⟨rfl, hb9⟩ := hr9
  have HB9 := Lib.hid (below_next HB8.out hb9)
  have HBB9 := Lib.hid (HBB8.out.below hb9)
  have HL9 := Lib.hid (HL8.out.below hb9)
  have HC9 := Lib.hid (HC8.out.below hb9)
  clear hb9
  unfold numArr
  simp only
  go_upto_region 6 with (fail)
  obtain ⟨w10, hw10⟩ : ∃ Z : World, Z = w9.alloc (.cells #[.int .i64 1, .int .i64 1, .int .i64 0, .int .i64 1] 43) := ⟨_, rfl⟩
  rw [← hw10]
  have hb10 : Below w9.heap.size w9 w10 := by rw [hw10]; exact (Below.refl _ _).alloc (Nat.le_refl _) _
  obtain ⟨bN, hbN⟩ : ∃ b, b = w9.heap.size := ⟨_, rfl⟩
  have HN10 := Lib.hid (show w10.heap[bN]? = some (.cells #[.int .i64 1, .int .i64 1, .int .i64 0, .int .i64 1] 43 (0, 0)) by rw [hw10, hbN]; exact new20 w9 _)
  have HB10 := Lib.hid (below_next HB9.out hb10)
  have HBB10 := Lib.hid (HBB9.out.below hb10)
  have HL10 := Lib.hid (HL9.out.below hb10)
  have HC10 := Lib.hid (HC9.out.below hb10)
  rw [← hbN]
  clear hw10 hb10 hbN HB9 HBB9 HL9 HC9 HB8 HBB8 HL8 HC8 HB7 HBB7 HL7 HB6 HBB6
  refine hld_start (fun w' => w'.cell? ⟨bA, 12, none⟩ = some (.string ⟨#[121]⟩) ∧ w'.cell? ⟨bA, 13, none⟩ = some (.int .i64 1) ∧ w'.cell? ⟨bA, 14, none⟩ = some (.int .i64 0) ∧ w'.cell? ⟨bA, 15, none⟩ = some (.int .i64 0) ∧ w'.cell? ⟨bA, 16, none⟩ = some (.slice a2 1 c2) ∧ w'.cell? ⟨bA, 17, none⟩ = some (.string ⟨#[]⟩)) (by kernel_rfl) ?_
  obtain ⟨V, hV⟩ : ∃ V : World, V = w10.drew := ⟨_, rfl⟩
  rw [← hV]
  have HV := Lib.hid (show Below w10.heap.size w10 V by rw [hV]; exact bel_drew)
  clear hV
  have HXV := Lib.hid (((below_next HB10.out HV.out).block _ (lt20 HX3.out)).trans HX3.out)
  have r0 := cell20 (k := 12) HXV.out
  have r1 := cell20 (k := 13) HXV.out
  have r2 := cell20 (k := 14) HXV.out
  have r3 := cell20 (k := 15) HXV.out
  have r4 := cell20 (k := 16) HXV.out
  have r5 := cell20 (k := 17) HXV.out
  have hltR := lt20 HXV.out
  simp only [List.getElem?_toArray, List.getElem?_cons_succ, List.getElem?_cons_zero] at r0 r1 r2 r3 r4 r5
  refine hld_take 1 rfl (by kernel_rfl) (by kernel_rfl) (by kernel_rfl) (fun _ _ _ h => h) rfl ⟨r0, r1, r2, r3, r4, r5⟩ (by rintro w' ⟨hw1, hw2, hw3, hw4, hw5, hw6⟩; go_simp; try rfl) ?_
  simp only [Act.put, List.setIfInBounds_toArray, List.set_cons_succ, List.set_cons_zero]
  refine hld_take 2 rfl (by kernel_rfl) (by kernel_rfl) (by kernel_rfl) (fun _ _ _ h => h) rfl ⟨r0, r1, r2, r3, r4, r5⟩ (by rintro w' ⟨hw1, hw2, hw3, hw4, hw5, hw6⟩; go_simp; try rfl) ?_
  simp only [Act.put, List.setIfInBounds_toArray, List.set_cons_succ, List.set_cons_zero]
  refine hld_take 5 rfl (by kernel_rfl) (by kernel_rfl) (by kernel_rfl) (fun _ _ _ h => h) rfl ⟨r0, r1, r2, r3, r4, r5⟩ (by rintro w' ⟨hw1, hw2, hw3, hw4, hw5, hw6⟩; go_simp; try rfl) ?_
  simp only [Act.put, List.setIfInBounds_toArray, List.set_cons_succ, List.set_cons_zero]
  refine hld_take 6 rfl (by kernel_rfl) (by kernel_rfl) (by kernel_rfl) (fun _ _ _ h => h) rfl ⟨r0, r1, r2, r3, r4, r5⟩ (by rintro w' ⟨hw1, hw2, hw3, hw4, hw5, hw6⟩; go_simp; try rfl) ?_
  simp only [Act.put, List.setIfInBounds_toArray, List.set_cons_succ, List.set_cons_zero]
  refine hld_take 7 rfl (by kernel_rfl) (by kernel_rfl) (by kernel_rfl) (fun _ _ _ h => h) rfl ⟨r0, r1, r2, r3, r4, r5⟩ (by rintro w' ⟨hw1, hw2, hw3, hw4, hw5, hw6⟩; go_simp; try rfl) ?_
  simp only [Act.put, List.setIfInBounds_toArray, List.set_cons_succ, List.set_cons_zero]
  refine hld_bar 0 rfl (by kernel_rfl) rfl (fun K hK => ?_)
  go_wp2_with fail
  obtain ⟨U1, hU⟩ : ∃ u : World, u = V.alloc (.cells #[] 48) := ⟨_, rfl⟩
  rw [← hU]
  have hbu : Below V.heap.size V U1 := by rw [hU]; exact (Below.refl _ _).alloc (Nat.le_refl _) _
  have HO1 := Lib.hid (show U1.ownsRow V.heap.size 48 6 (.slice (some ⟨V.heap.size, 0, none⟩) 0 0) 0 [] by rw [hU]; exact World.ownsRow_lit (base := V.heap.size) V #[] 0 (Nat.le_refl _) (Nat.zero_le _) (by simp))
  have HBU1 := Lib.hid hbu
  clear hU hbu
  clear r0 r1 r2 r3 r4 r5 hltR
  have HXU1 := Lib.hid ((HBU1.out.block _ (lt20 HXV.out)).trans HXV.out)
  have r0 := cell20 (k := 12) HXU1.out
  have r1 := cell20 (k := 13) HXU1.out
  have r2 := cell20 (k := 14) HXU1.out
  have r3 := cell20 (k := 15) HXU1.out
  have r4 := cell20 (k := 16) HXU1.out
  have r5 := cell20 (k := 17) HXU1.out
  have hltR := lt20 HXU1.out
  simp only [List.getElem?_toArray, List.getElem?_cons_succ, List.getElem?_cons_zero] at r0 r1 r2 r3 r4 r5
  refine ⟨⟨r0, r1, r2, r3, r4, r5⟩, ?_⟩
  have HRT := Lib.hid (show RowAt (fun _ => True) U1 6 (.slice (some ⟨bA, 0, none⟩) 2 3) 2 ((entsC ysA).take (2 * 6)) from
    (RowAt.weak (row_take (((HRA.out.below (by omega) (below_next HB10.out HV.out))).below (by omega) HBU1.out) (by omega)) (fun _ _ => trivial)))
  have hone : ∀ u ∈ (entsC ysA).take (2 * 6), u.oneCell' = true := fun u hu => entsC_oneC HDA.out u (List.mem_of_mem_take hu)
  refine hld_bar 3 rfl (by kernel_rfl) rfl (fun K hK => ?_)
  go_wp2_with (at_builtin; go_must (refine wpList_appn Tryz.appEnts rfl _ _ rfl V.heap.size _ 0 [] rfl HO1.out _ 2 ((entsC ysA).take (2 * 6)) rfl HRT.out hone (by omega) HBU1.out.size ?_); intro v1 U2 hown1 hg1)
  have HBU2 := Lib.hid (below_grown HBU1.out HO1.out hg1 (Nat.le_refl _) HBU1.out.size)
  have HO2 := Lib.hid (show U2.ownsRow V.heap.size 48 6 v1 2 ((entsC ysA).take (2 * 6)) by simpa using hown1)
  obtain ⟨g1, k1, rfl, -, -⟩ := owns_shape HO2.out
  clear hown1 hg1 hone
  clear r0 r1 r2 r3 r4 r5 hltR
  have HXU2 := Lib.hid ((HBU2.out.block _ (lt20 HXV.out)).trans HXV.out)
  have r0 := cell20 (k := 12) HXU2.out
  have r1 := cell20 (k := 13) HXU2.out
  have r2 := cell20 (k := 14) HXU2.out
  have r3 := cell20 (k := 15) HXU2.out
  have r4 := cell20 (k := 16) HXU2.out
  have r5 := cell20 (k := 17) HXU2.out
  have hltR := lt20 HXU2.out
  simp only [List.getElem?_toArray, List.getElem?_cons_succ, List.getElem?_cons_zero] at r0 r1 r2 r3 r4 r5
  refine ⟨⟨r0, r1, r2, r3, r4, r5⟩, ?_⟩
  refine hld_bar 4 rfl (by kernel_rfl) rfl (fun K hK => ?_)
  go_wp2_with (go_at_call 36; refine (fileD_any ⟨#[100, 47, 122]⟩ ⟨#[53]⟩ _ (by decide)).mono ?_; rintro e9' U3 ⟨a6, c6, rfl, hd6, hb6⟩; have HD6 := Lib.hid hd6; have HBU3 := Lib.hid (HBU2.out.trans (hb6.mono HBU2.out.size)); have HO3 := Lib.hid (own_below HO2.out hb6); clear hd6 hb6 r0 r1 r2 r3 r4 r5 hltR)
  have HXU3 := Lib.hid ((HBU3.out.block _ (lt20 HXV.out)).trans HXV.out)
  have r0 := cell20 (k := 12) HXU3.out
  have r1 := cell20 (k := 13) HXU3.out
  have r2 := cell20 (k := 14) HXU3.out
  have r3 := cell20 (k := 15) HXU3.out
  have r4 := cell20 (k := 16) HXU3.out
  have r5 := cell20 (k := 17) HXU3.out
  have hltR := lt20 HXU3.out
  simp only [List.getElem?_toArray, List.getElem?_cons_succ, List.getElem?_cons_zero] at r0 r1 r2 r3 r4 r5
  refine ⟨⟨r0, r1, r2, r3, r4, r5⟩, ?_⟩
  refine hld_bar 8 rfl (by kernel_rfl) rfl (fun K hK => ?_)
  go_wp2_with fail
  obtain ⟨U4, hU⟩ : ∃ u : World, u = U3.alloc (.cells #[.string ⟨#[100, 47, 122]⟩, .int .i64 1, .int .i64 0, .int .i64 0, .slice a6 1 c6, .string ⟨#[]⟩, .string ⟨#[121]⟩, .int .i64 1, .int .i64 0, .int .i64 0, .slice a2 1 c2, .string ⟨#[]⟩] 48) := ⟨_, rfl⟩
  rw [← hU]
  have hbu : Below U3.heap.size U3 U4 := by rw [hU]; exact (Below.refl _ _).alloc (Nat.le_refl _) _
  obtain ⟨ysB, hysB⟩ : ∃ ys : List VEnt, ys = [(.slice a6 1 c6, fileE ⟨#[100, 47, 122]⟩ [53]), (.slice a2 1 c2, fileE ⟨#[121]⟩ [51])] := ⟨_, rfl⟩
  have HRB := Lib.hid (show RowAt (fun _ => True) U4 6 (.slice (some ⟨U3.heap.size, 0, none⟩) 2 2) 2 (entsC ysB) by
    rw [hysB, hU]; exact RowAt.weak (row_new (cells := entsC [(.slice a6 1 c6, fileE ⟨#[100, 47, 122]⟩ [53]), (.slice a2 1 c2, fileE ⟨#[121]⟩ [51])]) (new20 U3 _) rfl (by decide)) (fun _ _ => trivial))
  have HBU4 := Lib.hid (HBU3.out.trans (hbu.mono HBU3.out.size))
  have HO4 := Lib.hid (own_below HO3.out hbu)
  have HBV4 := Lib.hid (below_next (below_next HB10.out HV.out) HBU4.out)
  have HDB := Lib.hid (show ∀ y ∈ ysB, DataAt (fun _ => True) U4 y.1 y.2.data ∧ EntOk y.2 from fun y hy => by
    rw [hysB] at hy
    simp only [List.mem_cons, List.not_mem_nil, or_false] at hy
    rcases hy with rfl | rfl
    · exact ⟨data_mono (HD6.out.below hbu) (fun _ _ => trivial), fileE_ok _ _ (by decide)⟩
    · exact ⟨(HDA.out (.slice a2 1 c2, fileE ⟨#[121]⟩ [51]) (by rw [HYA.out]; simp)).1.below HBV4.out, fileE_ok _ _ (by decide)⟩)
  have HYB := Lib.hid hysB
  have HD64 := Lib.hid (HD6.out.below hbu)
  clear hU hbu hysB
  clear r0 r1 r2 r3 r4 r5 hltR
  have HXU4 := Lib.hid ((HBU4.out.block _ (lt20 HXV.out)).trans HXV.out)
  have r0 := cell20 (k := 12) HXU4.out
  have r1 := cell20 (k := 13) HXU4.out
  have r2 := cell20 (k := 14) HXU4.out
  have r3 := cell20 (k := 15) HXU4.out
  have r4 := cell20 (k := 16) HXU4.out
  have r5 := cell20 (k := 17) HXU4.out
  have hltR := lt20 HXU4.out
  simp only [List.getElem?_toArray, List.getElem?_cons_succ, List.getElem?_cons_zero] at r0 r1 r2 r3 r4 r5
  refine ⟨⟨r0, r1, r2, r3, r4, r5⟩, ?_⟩
  have hone : ∀ u ∈ entsC ysB, u.oneCell' = true := entsC_oneC HDB.out
  refine hld_bar 9 rfl (by kernel_rfl) rfl (fun K hK => ?_)
  go_wp2_with (at_builtin; go_must (refine wpList_appn Tryz.appEnts rfl _ _ rfl V.heap.size _ 2 ((entsC ysA).take (2 * 6)) rfl HO4.out _ 2 (entsC ysB) rfl HRB.out hone (by omega) HBU4.out.size ?_); intro v5 U5 hown5 hg5)
  have HBU5 := Lib.hid (below_grown HBU4.out HO4.out hg5 (Nat.le_refl _) HBU4.out.size)
  have HO5 := Lib.hid (show U5.ownsRow V.heap.size 48 6 v5 4 ((entsC ysA).take (2 * 6) ++ entsC ysB) from hown5)
  obtain ⟨g5, k5, rfl, -, -⟩ := owns_shape HO5.out
  have HG5 := Lib.hid hg5
  clear hown5 hg5 hone
  clear r0 r1 r2 r3 r4 r5 hltR
  have HXU5 := Lib.hid ((HBU5.out.block _ (lt20 HXV.out)).trans HXV.out)
  have r0 := cell20 (k := 12) HXU5.out
  have r1 := cell20 (k := 13) HXU5.out
  have r2 := cell20 (k := 14) HXU5.out
  have r3 := cell20 (k := 15) HXU5.out
  have r4 := cell20 (k := 16) HXU5.out
  have r5 := cell20 (k := 17) HXU5.out
  have hltR := lt20 HXU5.out
  simp only [List.getElem?_toArray, List.getElem?_cons_succ, List.getElem?_cons_zero] at r0 r1 r2 r3 r4 r5
  refine ⟨⟨r0, r1, r2, r3, r4, r5⟩, ?_⟩
  refine hld_take 10 rfl (by kernel_rfl) (by kernel_rfl) (by kernel_rfl) (fun _ _ _ h => h) rfl ⟨r0, r1, r2, r3, r4, r5⟩ (by rintro w' ⟨hw1, hw2, hw3, hw4, hw5, hw6⟩; go_simp; try rfl) ?_
  simp only [Act.put, List.setIfInBounds_toArray, List.set_cons_succ, List.set_cons_zero]
  refine hld_done (by kernel_rfl) ?_
  clear r0 r1 r2 r3 r4 r5 hltR
  have HBV5 := Lib.hid (show Below w10.heap.size w10 U5 from HV.out.trans (HBU5.out.mono HV.out.size))
  have HB35 := Lib.hid (below_next HB10.out HBV5.out)
  have HR5 := Lib.hid (show EntsAt (fun _ => True) U5 (.slice g5 4 k5) exDR by
    have hm : (ysA.take 2 ++ ysB).map Prod.snd = exDR := by rw [HYA.out, HYB.out]; rfl
    have hl : ((ysA.take 2 ++ ysB).map Prod.snd).length = 4 := by rw [HYA.out, HYB.out]; rfl
    have hc : entsC (ysA.take 2 ++ ysB) = (entsC ysA).take (2 * 6) ++ entsC ysB := by rw [entsC_app, entsC_take]
    rw [← hm]
    refine ⟨entsC (ysA.take 2 ++ ysB), ?_, entsC_in fun y hy => ?_⟩
    · rw [hl, hc]
      exact RowAt.weak (row_of_owns HO5.out) (fun _ _ => trivial)
    · rcases List.mem_append.1 hy with hy | hy
      · have := HDA.out y (List.mem_of_mem_take hy)
        exact ⟨this.1.below HB35.out, this.2⟩
      · have hy' := hy
        rw [HYB.out] at hy'
        simp only [List.mem_cons, List.not_mem_nil, or_false] at hy'
        rcases hy' with rfl | rfl
        · refine ⟨?_, fileE_ok _ _ (by decide)⟩
          exact data_mono (data_row HD64.out HG5.out (fun k hk => by have := (own_lt HO2.out hk).2; exact fun h => by have := h.1; omega)) (fun _ _ => trivial)
        · exact ⟨(HDA.out (.slice a2 1 c2, fileE ⟨#[121]⟩ [51]) (by rw [HYA.out]; simp)).1.below HB35.out, fileE_ok _ _ (by decide)⟩)
  have HBB5 := Lib.hid (HBB10.out.below HBV5.out)
  have HL5 := Lib.hid (HL10.out.below HBV5.out)
  have HC5 := Lib.hid (HC10.out.below HBV5.out)
  have HN5 := Lib.hid ((HBV5.out.block _ (lt20 HN10.out)).trans HN10.out)
  have HBW5 := Lib.hid (below_next HB3.out HB35.out)
  clear HBB10 HL10 HC10 HN10 HBU1 HBU2 HBU3 HBU4 HBU5 HO1 HO2 HO3 HO4 HO5 HXU1 HXU2 HXU3 HXU4 HXU5 HXV HV HRT HRB HDB HG5 HD6 HD64 HBV4 HBV5
  go_wp2_with fail
  refine (merge_any _ _ _ exDA exDB exDR _ _ _ U5 (HA3.out.below HB35.out) HBB5.out HR5.out (by decide) (HE.out.below HBW5.out)).mono ?_
  rintro e w11 hr
  rcases hr with ⟨h0, _⟩ | ⟨-, v11, vk, ys11, k11, rfl, him, hg11, hk11, hb11⟩
  · exact absurd exD_chk h0
  obtain ⟨hm11, rfl⟩ := exD_one him
  have HM11 := Lib.hid hg11.seq
  rw [hm11] at HM11
  obtain ⟨a11, c11, rfl, -, -⟩ := owns_shape hg11.row
  rw [show ys11.length = 2 by rw [← List.length_map (f := Prod.snd), hm11]; rfl] at HM11 ⊢
  have hrk := row_of_owns hk11
  obtain ⟨_, ak, ck, hvk, hck1, hck2, h0k⟩ := hrk
  simp only [List.length_cons, List.length_nil, Nat.zero_add] at hvk hck1 h0k
  subst hvk
  rcases h0k with h0k | ⟨bk, ok, rfl, -, hcc⟩
  · omega
  have HCK := Lib.hid (hcc 0 (.string ⟨#[100, 47, 122]⟩) rfl)
  unfold maxLen at hck2
  have HB11 := Lib.hid hb11
  have HBB11 := Lib.hid (HBB5.out.below hb11)
  have HL11 := Lib.hid (HL5.out.below hb11)
  have HC11 := Lib.hid (HC5.out.below hb11)
  have HN11 := Lib.hid ((hb11.block _ (lt20 HN5.out)).trans HN5.out)
  clear him hg11 hk11 hb11 hm11 hcc HBB5 HL5 HC5 HN5
  go_wp2_with fail
  refine (text_any _ exDL _ w11 HL11.out (by intro c hc; simp only [exDL, List.mem_cons, List.not_mem_nil, or_false] at hc; rcases hc with rfl | rfl | rfl <;> exact ⟨by decide, by decide⟩) (by decide)).mono ?_
  rw [exD_text]
  rintro e w12 ⟨rfl, hb12⟩
  have HB12 := Lib.hid hb12
  clear hb12
  go_wp2_with fail
  refine (r_sameall_any _ _ exDB exDB _ _ w12 (HBB11.out.below HB12.out) (HC11.out.below HB12.out)).mono ?_
  rw [decide_eq_true rfl]
  rintro e w13 ⟨rfl, hb13⟩
  have HB13 := Lib.hid (below_next HB12.out hb13)
  clear hb13
  have HN13 := Lib.hid ((HB13.out.block _ (lt20 HN11.out)).trans HN11.out)
  have heq : (Op.equalIn 10000 43 (.agg #[.int .i64 1, .int .i64 1, .int .i64 0, .int .i64 1]) (.agg #[.int .i64 1, .int .i64 1, .int .i64 0, .int .i64 1])).run Tryz.prog w13 = .ok true w13 := by kernel_rfl
  have n0 := cell20 (k := 0) HN13.out
  have n1 := cell20 (k := 1) HN13.out
  have n2 := cell20 (k := 2) HN13.out
  have n3 := cell20 (k := 3) HN13.out
  have hltN := lt20 HN13.out
  simp only [List.getElem?_toArray, List.getElem?_cons_succ, List.getElem?_cons_zero] at n0 n1 n2 n3
  go_wp2_with fail
  refine (r_sameall_any _ _ exDB exDB _ _ w13 (HM11.out.below HB13.out) (HBB11.out.below HB13.out)).mono ?_
  rw [decide_eq_true rfl]
  rintro e w14 ⟨rfl, hb14⟩
  have HB14 := Lib.hid (below_next HB13.out hb14)
  have hck0 := (HB14.out.cell (block_lt HCK.out)).trans HCK.out
  have hltK := block_lt hck0
  simp only [Nat.add_zero] at hck0
  clear hb14 n0 n1 n2 n3 hltN
  go_wp2_with fail
  go_ret
  exact ⟨rfl, below_next (below_next HBW5.out HB11.out) HB14.out⟩
end Go.Proofs.YtdieneaillkbgaaGreatDoor

/- The statements' helpers: large, trees. -/
namespace Go.Proofs.YtdieneaillkbgaaGreatDoor
open Go Go.RowKit Go.Maps
def SmE (e : Ent) : Prop := e.path.size ≤ 600 ∧ e.data.length ≤ 100 ∧ e.link.size ≤ 600
def SmL (l : List Ent) : Prop := l.length ≤ 40 ∧ ∀ e ∈ l, SmE e
/-- A row of lists of entries. -/
abbrev VL := Value × List Ent
structure ListsAt (S : Nat → Prop) (w : World) (v : Value) (ls : List VL) : Prop where
  row : RowAt S w 1 v ls.length (ls.map Prod.fst)
  ent : ∀ x ∈ ls, EntsAt (fun _ => True) w x.1 x.2
theorem ListsAt.below {S : Nat → Prop} {w w' : World} {v : Value} {ls : List VL} (h : ListsAt S w v ls) (hb : Below w.heap.size w w') : ListsAt S w' v ls :=
  ⟨RowAt.below h.row (by omega) hb, fun x hx => (h.ent x hx).below hb⟩
theorem lists_at {S : Nat → Prop} {w : World} {a : Option Addr} {n c : Nat} {ls : List VL} (h : ListsAt S w (.slice a n c) ls) {k : Nat} {x : VL} (hx : ls[k]? = some x) : ∃ b o, a = some ⟨b, o, none⟩ ∧ w.cell? ⟨b, o + k, none⟩ = some x.1 ∧ EntsAt (fun _ => True) w x.1 x.2 := by
  obtain ⟨_, a', c', he, hn, _, h0⟩ := h.row
  simp only [Value.slice.injEq] at he
  obtain ⟨rfl, -, rfl⟩ := he
  have hlt := (List.getElem?_eq_some_iff.1 hx).1
  rcases h0 with h0 | ⟨b, o, rfl, -, hc⟩
  · omega
  · exact ⟨b, o, rfl, hc k x.1 (by rw [List.getElem?_map, hx]; rfl), h.ent x (List.mem_of_getElem? hx)⟩
theorem lists_shape {S : Nat → Prop} {w : World} {v : Value} {ls : List VL} (h : ListsAt S w v ls) : ∃ a c, v = .slice a ls.length c ∧ ls.length ≤ c ∧ c ≤ maxLen := by
  obtain ⟨_, a', c', he, hn, hm, _⟩ := h.row
  exact ⟨a', c', he, hn, hm⟩
def LgRes23 (ls : List VL) (w : World) (e : Ending) (w' : World) : Prop := ∃ b, e = .returned (.bool b) ∧ (b = false → ∀ x ∈ ls, SmL x.2) ∧ Below w.heap.size w w'
set_option maxRecDepth 100000 in
set_option maxHeartbeats 2000000 in
theorem large23_any (S : Nat → Prop) (ls : List VL) (v : Value) (w : World) (hv : ListsAt S w v ls) : Calls Tryz.prog 14 #[v] w (LgRes23 ls w) := by
  have HV := Lib.hid hv
  obtain ⟨a, cap, rfl, hc, hm⟩ := lists_shape hv
  unfold maxLen at hm
  obtain ⟨n, hn⟩ : ∃ n, n = ls.length := ⟨_, rfl⟩
  have HN := Lib.hid hn
  rw [← hn] at hc HV ⊢
  clear hv hn
  go_enter Tryz.func14, Tryz.ntmps14
  go_wp2_with fail
  go_loopw [9] (fun i wr => ∃ k : Nat, k ≤ n ∧ i = .int .i64 k ∧ (∀ x ∈ ls.take k, SmL x.2) ∧ Below w.heap.size w wr) (fun i _ => n - (intOf i).toNat)
  case atStart => exact ⟨0, Nat.zero_le _, rfl, by simp, Below.refl _ _⟩
  case round =>
    obtain ⟨k, hk, rfl, hsm, hbr⟩ := hrel
    have HSM := Lib.hid hsm
    have HBR0 := Lib.hid hbr
    clear hsm hbr
    by_cases hlt : k < n
    · obtain ⟨x, hx⟩ : ∃ x, ls[k]? = some x := ⟨ls[k]'(by rw [← HN.out]; exact hlt), by simp⟩
      obtain ⟨b, o, rfl, hcx, hex⟩ := lists_at (HV.out.below HBR0.out) hx
      have HXL := Lib.hid hx
      have HEX := Lib.hid hex
      obtain ⟨xv, L⟩ := x
      simp only at hcx hex HEX
      obtain ⟨ax, cx, rfl, hcx1, hcx2, -⟩ := SeqAt.shape hex EntR.len
      unfold maxLen at hcx2
      obtain ⟨m, hm2⟩ : ∃ m, m = L.length := ⟨_, rfl⟩
      have HM := Lib.hid hm2
      rw [← hm2] at hcx hcx1 HEX
      clear hx hex hm2
      go_wp2_with fail
      clear hcx
      obtain ⟨wo, rfl⟩ : ∃ wo : World, wo = wr := ⟨_, rfl⟩
      go_loopw [15] (fun i wr => ∃ j : Nat, j ≤ m ∧ i = .int .i64 j ∧ (∀ e ∈ L.take j, SmE e) ∧ Below wo.heap.size wo wr) (fun i _ => m - (intOf i).toNat)
      case atStart => exact ⟨0, Nat.zero_le _, rfl, by simp, Below.refl _ _⟩
      case round =>
        obtain ⟨j, hj, rfl, hse, hbj⟩ := hrel
        have HSE := Lib.hid hse
        have HBJ := Lib.hid hbj
        have HBR := Lib.hid (below_next HBR0.out hbj)
        clear hse hbj
        by_cases hjl : j < m
        · obtain ⟨e, he⟩ : ∃ e, L[j]? = some e := ⟨L[j]'(by rw [← HM.out]; exact hjl), by simp⟩
          obtain ⟨b1, o1, dv, rfl, -, hb, hd, hok, -, q0, q1, q2, q3, q4, q5⟩ := ents_at (HEX.out.below HBJ.out) he
          obtain ⟨a1, cap1, rfl, hd1, hd2⟩ := hd.slice
          unfold maxLen at hd2
          have hp1 := hok.pth
          have hl1 := hok.lnk
          unfold maxLen at hp1 hl1
          have HX := Lib.hid he
          clear he hd hok
          have HBA := Lib.hid ((Below.refl wr.heap.size wr).alloc (Nat.le_refl _) (.cells #[.string e.path, .int .i64 e.kind, .int .i64 e.mode, .int .i64 e.time, .slice a1 e.data.length cap1, .string e.link] 48))
          by_cases h1 : 600 < e.path.size
          · have h1' : decide (600 < e.path.size) = true := by simp [h1]
            go_wp2_with fail
            go_ret
            exact ⟨true, rfl, (fun h => by cases h), below_next HBR.out HBA.out⟩
          · have h1' : decide (600 < e.path.size) = false := by simp; omega
            by_cases h2 : 100 < e.data.length
            · have h2' : decide (100 < e.data.length) = true := by simp [h2]
              go_wp2_with fail
              go_ret
              exact ⟨true, rfl, (fun h => by cases h), below_next HBR.out HBA.out⟩
            · have h2' : decide (100 < e.data.length) = false := by simp; omega
              by_cases h3 : 600 < e.link.size
              · have h3' : decide (600 < e.link.size) = true := by simp [h3]
                go_wp2_with fail
                go_ret
                exact ⟨true, rfl, (fun h => by cases h), below_next HBR.out HBA.out⟩
              · have h3' : decide (600 < e.link.size) = false := by simp; omega
                have HSM1 := Lib.hid (show SmE e from ⟨by omega, by omega, by omega⟩)
                go_wp2_with fail
                go_roundw
                case rel =>
                  refine ⟨j + 1, by omega, by go_num, fun x hx => ?_, below_next HBJ.out HBA.out⟩
                  rw [List.take_add_one, HX.out] at hx
                  rcases List.mem_append.1 hx with hx | hx
                  · exact HSE.out x hx
                  · simp only [Option.toList_some, List.mem_singleton] at hx
                    rw [hx]; exact HSM1.out
                case measure => simp [intOf]; omega
        · have hj2 : m = j := by omega
          subst hj2
          by_cases h40 : 40 < m
          · go_wp2_with fail
            go_ret
            exact ⟨true, rfl, (fun h => by cases h), HBR.out⟩
          · have HSL := Lib.hid (show SmL L from ⟨by rw [← HM.out]; omega, fun e he => HSE.out e (by rw [HM.out, List.take_length]; exact he)⟩)
            go_wp2_with fail
            go_roundw
            case rel =>
              refine ⟨k + 1, by omega, by go_num, fun x hx => ?_, HBR.out⟩
              rw [List.take_add_one, HXL.out] at hx
              rcases List.mem_append.1 hx with hx | hx
              · exact HSM.out x hx
              · simp only [Option.toList_some, List.mem_singleton] at hx
                rw [hx]; exact HSL.out
            case measure => simp [intOf]; omega
    · have hk2 : n = k := by omega
      subst hk2
      go_wp2_with fail
      go_ret
      exact ⟨false, rfl, fun _ x hx => HSM.out x (by rw [HN.out, List.take_length]; exact hx), HBR0.out⟩
end Go.Proofs.YtdieneaillkbgaaGreatDoor

/- The law TreediffRestores: its walk. -/
namespace Go.Proofs.YtdieneaillkbgaaGreatDoor
open Go Go.RowKit Go.Maps
theorem lists_new {w : World} {ls : List VL} {t : TypeId} (hn : ls.length ≤ 4096) (h : ∀ x ∈ ls, EntsAt (fun _ => True) w x.1 x.2) : ListsAt (fun _ => True) (w.alloc (.cells (ls.map Prod.fst).toArray t)) (.slice (some ⟨w.heap.size, 0, none⟩) ls.length ls.length) ls :=
  ⟨RowAt.weak (row_new (cells := ls.map Prod.fst) (new20 w _) (by simp) (by unfold maxLen; omega)) (fun _ _ => trivial), fun x hx => (h x hx).below ((Below.refl _ _).alloc (Nat.le_refl _) _)⟩
end Go.Proofs.YtdieneaillkbgaaGreatDoor

/- Contracts of package filetree: Clone. -/
namespace Go.Proofs.YtdieneaillkbgaaGreatDoor
open Go.RowKit Go.Maps
theorem MapE.next {S : Nat → Prop} {w w' : World} {mb r : Nat} {xs : List VEnt} (h : MapE S w mb xs) (hr : ¬ S r) (hne : mb ≠ r) (hg : w.grownBy w' (some r)) : MapE S w' mb xs :=
  ⟨h.map.same (hg.block mb h.map.lt (fun e => hne (Option.some.inj e))), fun x hx => ⟨data_grown (h.dat x hx).1 hr hg, (h.dat x hx).2⟩, h.far⟩
end Go.Proofs.YtdieneaillkbgaaGreatDoor

/- The reference kinkeepref23: at. -/
namespace Go.Proofs.YtdieneaillkbgaaGreatDoor
open Go Go.RowKit Go.Maps
set_option maxHeartbeats 1000000 in
theorem rat_res {tmps : Array Value} {w : World} {b : Nat} {x0 x1 x2 x3 x4 x5 : Value} (h : w.heap[b]? = some (.cells #[x0, x1, x2, x3, x4, x5] 48 (0, 0)))
    (h4 : tmps[4]? = some (.pointer (some ⟨b, 0, none⟩))) : (results Tryz.f43 tmps).run Tryz.prog w = .ok (.agg #[x0, x1, x2, x3, x4, x5]) w := by
  have m0 := cell20 (k := 0) h
  have m1 := cell20 (k := 1) h
  have m2 := cell20 (k := 2) h
  have m3 := cell20 (k := 3) h
  have m4 := cell20 (k := 4) h
  have m5 := cell20 (k := 5) h
  simp only [List.getElem?_toArray, List.getElem?_cons_succ, List.getElem?_cons_zero] at m0 m1 m2 m3 m4 m5
  simp [results, Tryz.results43, go_sem, h4, m0, m1, m2, m3, m4, m5]
theorem rat_end {a : Act} {w : World} {b : Nat} {a0 a1 a2 a3 a4 a5 x0 x1 x2 x3 x4 x5 : Value} {Q : Ending → World → Prop} (h : w.heap[b]? = some (.cells #[a0, a1, a2, a3, a4, a5] 48 (0, 0)))
    (h4 : a.tmps[4]? = some (.pointer (some ⟨b, 0, none⟩))) (hd : a.defers = [])
    (hQ : Q (.returned (.agg #[x0, x1, x2, x3, x4, x5])) ((((((w.setCell ⟨b, 0, none⟩ x0).setCell ⟨b, 1, none⟩ x1).setCell ⟨b, 2, none⟩ x2).setCell ⟨b, 3, none⟩ x3).setCell ⟨b, 4, none⟩ x4).setCell ⟨b, 5, none⟩ x5)) :
    bodyPost Tryz.prog Tryz.f43 Q Exit.ret a ((((((w.setCell ⟨b, 0, none⟩ x0).setCell ⟨b, 1, none⟩ x1).setCell ⟨b, 2, none⟩ x2).setCell ⟨b, 3, none⟩ x3).setCell ⟨b, 4, none⟩ x4).setCell ⟨b, 5, none⟩ x5) :=
  bodyPost_ret (rat_res (six20 h) h4) hd hQ
/-- What 'at' answers. -/
def AtRes (L : List Ent) (p : ByteArray) (w : World) (e : Ending) (w' : World) : Prop := ∃ a c, e = .returned (entV (.slice a (atE L p).data.length c) (atE L p)) ∧ DataAt (fun _ => True) w' (.slice a (atE L p).data.length c) (atE L p).data ∧ EntOk (atE L p) ∧ Below w.heap.size w w'
set_option maxRecDepth 100000 in
set_option maxHeartbeats 2000000 in
theorem r_at_any (S : Nat → Prop) (L : List Ent) (v : Value) (p : ByteArray) (w : World) (hv : EntsAt S w v L) : Calls Tryz.prog 43 #[v, .string p] w (AtRes L p w) := by
  have HV := Lib.hid hv
  obtain ⟨av, cv, rfl, hcv, hmv, -⟩ := SeqAt.shape hv EntR.len
  unfold maxLen at hmv
  obtain ⟨n, hn⟩ : ∃ n, n = L.length := ⟨_, rfl⟩
  rw [← hn] at hcv HV ⊢
  have HN := Lib.hid hn
  clear hv hn
  obtain ⟨W, hW⟩ : ∃ Z : World, Z = w.alloc (.cells #[.string ⟨#[]⟩, .int .i64 0, .int .i64 0, .int .i64 0, .slice none 0 0, .string ⟨#[]⟩] 48) := ⟨_, rfl⟩
  have HBW := Lib.hid (show Below w.heap.size w W by rw [hW]; exact (Below.refl _ _).alloc (Nat.le_refl _) _)
  have HX0 := Lib.hid (show W.heap[w.heap.size]? = some (.cells #[.string ⟨#[]⟩, .int .i64 0, .int .i64 0, .int .i64 0, .slice none 0 0, .string ⟨#[]⟩] 48 (0, 0)) by rw [hW]; exact new20 w _)
  rcases findIx_spec (p := p) L 0 with ⟨hf, hx⟩ | ⟨j, e, hf, hj, hx⟩
  · have HE := Lib.hid (show atE L p = noEnt by unfold atE; rw [hf]; rfl)
    have hC := r_find_is S L (.slice av n cv) p (-1) W (HV.out.below HBW.out) hx
    have HC := Lib.hid hC
    clear hf hx hC
    go_enter Tryz.func43, Tryz.ntmps43
    go_wp2_with fail
    rw [← hW]
    clear hW
    refine HC.out.mono ?_
    rintro e w1 ⟨rfl, hb1⟩
    have HX1 := Lib.hid ((hb1.block _ (lt20 HX0.out)).trans HX0.out)
    have HB1 := Lib.hid (below_next HBW.out hb1)
    clear hb1
    have d0 := cell20 (k := 0) HX1.out
    have d1 := cell20 (k := 1) HX1.out
    have d2 := cell20 (k := 2) HX1.out
    have d3 := cell20 (k := 3) HX1.out
    have d4 := cell20 (k := 4) HX1.out
    have d5 := cell20 (k := 5) HX1.out
    have f0 := frozen20 (k := 0) HX1.out
    have f1 := frozen20 (k := 1) HX1.out
    have f2 := frozen20 (k := 2) HX1.out
    have f3 := frozen20 (k := 3) HX1.out
    have f4 := frozen20 (k := 4) HX1.out
    have f5 := frozen20 (k := 5) HX1.out
    have hltR := lt20 HX1.out
    simp only [List.getElem?_toArray, List.getElem?_cons_succ, List.getElem?_cons_zero] at d0 d1 d2 d3 d4 d5
    go_wp2_with fail
    refine rat_end HX1.out (by kernel_rfl) (by kernel_rfl) ?_
    unfold AtRes
    rw [HE.out]
    refine ⟨none, 0, rfl, DataAt.nil _ _, ⟨by decide, by decide, by decide, by decide, by decide⟩, ?_⟩
    repeat refine below_set20 ?_ (by omega)
    exact HB1.out
  · have HE := Lib.hid (show atE L p = e by unfold atE; rw [hf]; rfl)
    have hjn : j < n := by rw [HN.out]; exact (List.getElem?_eq_some_iff.1 hj).1
    have hC := r_find_is S L (.slice av n cv) p (j : Int) W (HV.out.below HBW.out) (by rw [hx, Nat.zero_add])
    have HC := Lib.hid hC
    have HJ := Lib.hid hj
    clear hf hx hC hj
    go_enter Tryz.func43, Tryz.ntmps43
    go_wp2_with fail
    rw [← hW]
    clear hW
    refine HC.out.mono ?_
    rintro e1 w1 ⟨rfl, hb1⟩
    have HX1 := Lib.hid ((hb1.block _ (lt20 HX0.out)).trans HX0.out)
    have HB1 := Lib.hid (below_next HBW.out hb1)
    obtain ⟨b0, o0, dv, rfl, -, hb0, hd, hok, -, q0, q1, q2, q3, q4, q5⟩ := ents_at HV.out HJ.out
    replace q0 := (HB1.out.cell hb0).trans q0
    replace q1 := (HB1.out.cell hb0).trans q1
    replace q2 := (HB1.out.cell hb0).trans q2
    replace q3 := (HB1.out.cell hb0).trans q3
    replace q4 := (HB1.out.cell hb0).trans q4
    replace q5 := (HB1.out.cell hb0).trans q5
    have hb01 : b0 < w1.heap.size := Nat.lt_of_lt_of_le hb0 HB1.out.size
    have HD := Lib.hid hd
    have HOK := Lib.hid hok
    obtain ⟨a1, cap1, rfl, hd1, hd2⟩ := hd.slice
    unfold maxLen at hd2
    clear hb1 hd hok
    have d0 := cell20 (k := 0) HX1.out
    have d1 := cell20 (k := 1) HX1.out
    have d2 := cell20 (k := 2) HX1.out
    have d3 := cell20 (k := 3) HX1.out
    have d4 := cell20 (k := 4) HX1.out
    have d5 := cell20 (k := 5) HX1.out
    have f0 := frozen20 (k := 0) HX1.out
    have f1 := frozen20 (k := 1) HX1.out
    have f2 := frozen20 (k := 2) HX1.out
    have f3 := frozen20 (k := 3) HX1.out
    have f4 := frozen20 (k := 4) HX1.out
    have f5 := frozen20 (k := 5) HX1.out
    have hltR := lt20 HX1.out
    simp only [List.getElem?_toArray, List.getElem?_cons_succ, List.getElem?_cons_zero] at d0 d1 d2 d3 d4 d5
    go_wp2_with fail
    refine rat_end HX1.out (by kernel_rfl) (by kernel_rfl) ?_
    unfold AtRes
    rw [HE.out]
    have hne := HBW.out.size
    have HBE := Lib.hid (show Below w.heap.size w ((((((w1.setCell ⟨w.heap.size, 0, none⟩ (.string e.path)).setCell ⟨w.heap.size, 1, none⟩ (.int .i64 e.kind)).setCell ⟨w.heap.size, 2, none⟩ (.int .i64 e.mode)).setCell ⟨w.heap.size, 3, none⟩ (.int .i64 e.time)).setCell ⟨w.heap.size, 4, none⟩ (.slice a1 e.data.length cap1)).setCell ⟨w.heap.size, 5, none⟩ (.string e.link)) by
      repeat refine below_set20 ?_ (by omega)
      exact HB1.out)
    exact ⟨a1, cap1, rfl, data_mono (HD.out.below HBE.out) (fun _ _ => trivial), HOK.out, HBE.out⟩
end Go.Proofs.YtdieneaillkbgaaGreatDoor

/- The reference kinkeepref23: without. -/
namespace Go.Proofs.YtdieneaillkbgaaGreatDoor
open Go Go.RowKit Go.Maps
theorem drop_take {L : List Ent} {p : ByteArray} {k : Nat} {e : Ent} (h : L[k]? = some e) : dropE (L.take (k + 1)) p = dropE (L.take k) p ++ if e.path = p then [] else [e] := by
  unfold dropE
  rw [List.take_add_one, h, List.filter_append]
  congr 1
  by_cases hp : e.path = p
  · rw [if_pos hp]; simp [hp]
  · rw [if_neg hp]; simp [hp]
structure LoopW (L : List Ent) (p : ByteArray) (w : World) (k : Nat) (v : Value) (ys : List VEnt) (wr : World) : Prop where
  out : ys.map Prod.snd = dropE (L.take k) p
  row : wr.ownsRow w.heap.size 48 6 v ys.length (entsC ys)
  dat : ∀ y ∈ ys, DataAt (fun j => j < w.heap.size) w y.1 y.2.data ∧ EntOk y.2
  bel : Below w.heap.size w wr
theorem gotE_shared {w w' : World} {v : Value} {ys : List VEnt} (h : w'.ownsRow w.heap.size 48 6 v ys.length (entsC ys)) (hb : Below w.heap.size w w') (hd : ∀ y ∈ ys, DataAt (fun j => j < w.heap.size) w y.1 y.2.data ∧ EntOk y.2) : EntsAt (fun _ => True) w' v (ys.map Prod.snd) := by
  refine ⟨entsC ys, ?_, entsC_in (fun y hy => ⟨data_mono ((hd y hy).1.below hb) (fun _ _ => trivial), (hd y hy).2⟩)⟩
  rw [List.length_map]
  exact RowAt.mono (row_of_owns h) (fun k hk hS => trivial) (by omega)
/-- What a slice's value may look like. -/
def Shp (v : Value) : Prop := v = .slice none 0 0 ∨ (∃ b o n c, v = .slice (some ⟨b, o, none⟩) n c) ∨ ∃ a c, v = .slice (some a) 0 c
theorem own_shp {w : World} {B n sz : Nat} {t : TypeId} {v : Value} {xs : List Value} (h : w.ownsRow B t sz v n xs) : Shp v := by
  rcases h.2 with ⟨rfl, _⟩ | ⟨g, cp, cur, rfl, _⟩
  · exact .inl rfl
  · exact .inr (.inl ⟨g, 0, n, cp, rfl⟩)
set_option maxRecDepth 100000 in
set_option maxHeartbeats 2000000 in
theorem r_without_any (S : Nat → Prop) (L : List Ent) (vl : Value) (p : ByteArray) (w : World) (hl : EntsAt S w vl L) (hn : L.length ≤ 65536) :
    Calls Tryz.prog 55 #[vl, .string p] w fun e w' => ∃ v, e = .returned v ∧ EntsAt (fun _ => True) w' v (dropE L p) ∧ Below w.heap.size w w' ∧ Shp v := by
  have HLS := Lib.hid (ents_old hl)
  obtain ⟨al, cl, rfl, hc, hm, -⟩ := SeqAt.shape hl EntR.len
  unfold maxLen at hm
  obtain ⟨n, hnn⟩ : ∃ n, n = L.length := ⟨_, rfl⟩
  rw [← hnn] at hc HLS hn ⊢
  have HN := Lib.hid hnn
  clear hl hnn
  go_enter Tryz.func55, Tryz.ntmps55
  go_wp2_with fail
  go_loopw [5, 10] (fun v i wr => ∃ (k : Nat) (ys : List VEnt), k ≤ n ∧ i = .int .i64 k ∧ LoopW L p w k v ys wr) (fun _ i _ => n - (intOf i).toNat)
  case atStart => exact ⟨0, [], Nat.zero_le _, rfl, by simp [dropE], World.ownsRow_nil _ _ _ _, by simp, Below.refl _ _⟩
  case round =>
    obtain ⟨k, ys, hk, rfl, hlp⟩ := hrel
    obtain ⟨av, cv, hsv, hvn, hvm⟩ := owns_shape hlp.row
    subst hsv
    unfold maxLen at hvm
    have hyl : ys.length ≤ 65536 := by
      have := congrArg List.length hlp.out
      have h2 := List.length_filter_le (fun x : Ent => decide (x.path ≠ p)) (L.take k)
      unfold dropE at this
      rw [List.length_map] at this
      rw [List.length_take] at h2
      omega
    have HLP := Lib.hid hlp
    clear hlp
    by_cases hlt : k < n
    · obtain ⟨e, hcc⟩ : ∃ e, L[k]? = some e := ⟨L[k]'(by rw [← HN.out]; exact hlt), by simp⟩
      obtain ⟨b0, o0, dv, rfl, -, hb0, hd, hok, -, q0, q1, q2, q3, q4, q5⟩ := ents_at HLS.out hcc
      replace q0 := (HLP.out.bel.cell hb0).trans q0
      replace q1 := (HLP.out.bel.cell hb0).trans q1
      replace q2 := (HLP.out.bel.cell hb0).trans q2
      replace q3 := (HLP.out.bel.cell hb0).trans q3
      replace q4 := (HLP.out.bel.cell hb0).trans q4
      replace q5 := (HLP.out.bel.cell hb0).trans q5
      have hb01 : b0 < wr.heap.size := Nat.lt_of_lt_of_le hb0 HLP.out.bel.size
      have HD := Lib.hid hd
      have HOK := Lib.hid hok
      have HDT := Lib.hid (drop_take (p := p) hcc)
      obtain ⟨a1, cap1, rfl, hd1, hd2⟩ := hd.slice
      unfold maxLen at hd2
      clear hcc hd hok
      go_upto_region 5 with (fail)
      obtain ⟨W, hW⟩ : ∃ Z : World, Z = wr.alloc (.cells #[.string e.path, .int .i64 e.kind, .int .i64 e.mode, .int .i64 e.time, .slice a1 e.data.length cap1, .string e.link] 48) := ⟨_, rfl⟩
      rw [← hW]
      have HW := Lib.hid (show Below wr.heap.size wr W by rw [hW]; exact (Below.refl _ _).alloc (Nat.le_refl _) _)
      have HX := Lib.hid (show W.heap[wr.heap.size]? = some (.cells #[.string e.path, .int .i64 e.kind, .int .i64 e.mode, .int .i64 e.time, .slice a1 e.data.length cap1, .string e.link] 48 (0, 0)) by rw [hW]; exact new20 wr _)
      have HBW := Lib.hid (below_next HLP.out.bel HW.out)
      clear hW q0 q1 q2 q3 q4 q5
      have r0 := cell20 (k := 0) HX.out
      have r1 := cell20 (k := 1) HX.out
      have r2 := cell20 (k := 2) HX.out
      have r3 := cell20 (k := 3) HX.out
      have r4 := cell20 (k := 4) HX.out
      have r5 := cell20 (k := 5) HX.out
      have hltr := lt20 HX.out
      simp only [List.getElem?_toArray, List.getElem?_cons_succ, List.getElem?_cons_zero] at r0 r1 r2 r3 r4 r5
      have hrow := own_below HLP.out.row HW.out
      have hbb : w.heap.size ≤ W.heap.size := HBW.out.size
      have HROW := Lib.hid hrow
      have HSZ := Lib.hid hbb
      by_cases hp : e.path.toList = p.toList
      · have HP := Lib.hid (str_eq.1 hp)
        go_wp2_with fail
        go_roundw
        case rel => exact ⟨k + 1, ys, by omega, by go_num, by rw [HDT.out, if_pos HP.out, List.append_nil]; exact HLP.out.out, HROW.out, HLP.out.dat, HBW.out⟩
        case measure => simp [intOf]; omega
      · have e1 : (e.path.toList == p.toList) = false := by simpa using hp
        have HP := Lib.hid (fun h => hp (str_eq.2 h))
        go_wp2_with (at_builtin; go_must (refine wpList_app1p Tryz.appEnts rfl _ _ rfl w.heap.size (.slice av ys.length cv) ys.length (entsC ys) rfl W (entC (.slice a1 e.data.length cap1) e) _ rfl rfl entC_one hrow (by omega) hbb ?_); intro v8 w8 hown8 hg8 _ hpl8; have HOWN8 := Lib.hid hown8; have HG8 := Lib.hid hg8; clear hown8 hg8 hpl8 r0 r1 r2 r3 r4 r5 hltr)
        go_roundw
        case rel =>
          refine ⟨k + 1, ys ++ [(.slice a1 e.data.length cap1, e)], by omega, by go_num, ?_, ?_, ?_, ?_⟩
          · rw [List.map_append, HLP.out.out, HDT.out, if_neg HP.out]; rfl
          · rw [List.length_append, List.length_singleton, entsC_snoc]; exact HOWN8.out
          · intro y hy
            rcases List.mem_append.1 hy with hy | hy
            · exact HLP.out.dat y hy
            · rw [List.mem_singleton] at hy
              subst hy
              exact ⟨HD.out, HOK.out⟩
          · exact below_grown HBW.out HROW.out HG8.out (Nat.le_refl _) HSZ.out
        case measure => simp [intOf]; omega
    · have hk2 : k = n := by omega
      have HYT := Lib.hid (show ys.map Prod.snd = dropE L p by
        have h1 := HLP.out.out
        rw [hk2, HN.out, List.take_length] at h1
        exact h1)
      have HCS := Lib.hid (show EntsAt (fun _ => True) wr (.slice av ys.length cv) (dropE L p) from by
        rw [← HYT.out]
        exact gotE_shared HLP.out.row HLP.out.bel HLP.out.dat)
      have HBE := Lib.hid HLP.out.bel
      have HSH := Lib.hid (own_shp HLP.out.row)
      go_wp2_with fail
      go_ret
      exact ⟨_, rfl, HCS.out, HBE.out, HSH.out⟩
end Go.Proofs.YtdieneaillkbgaaGreatDoor

/- The reference kinkeepref23: insert. -/
namespace Go.Proofs.YtdieneaillkbgaaGreatDoor
open Go Go.RowKit Go.Maps
theorem ents_all {S : Nat → Prop} {w : World} {v : Value} {l : List Ent} (h : EntsAt S w v l) : EntsAt (fun _ => True) w v l :=
  SeqAt.mono h (by omega) (fun _ _ _ => trivial) (fun c x _ hr => by
    obtain ⟨v, r1, r2, r3⟩ := hr
    exact ⟨v, r1, RowAt.mono r2 (fun _ _ _ => trivial) (by omega), r3⟩)
theorem insF_at {L : List Ent} {e : Ent} {j : Nat} (h : ∀ f ∈ L.take j, cmpE f e < 0) (hs : L.length ≤ j ∨ ∃ f, L[j]? = some f ∧ ¬ cmpE f e < 0) : insF L e = L.take j ++ [e] ++ L.drop j := by
  unfold insF
  have h1 : (L.drop j).takeWhile (fun x => decide (cmpE x e < 0)) = [] ∧ (L.drop j).dropWhile (fun x => decide (cmpE x e < 0)) = L.drop j := by
    rcases hs with hs | ⟨f, hf, hc⟩
    · rw [List.drop_eq_nil_of_le hs]; exact ⟨rfl, rfl⟩
    · obtain ⟨hl, rfl⟩ := List.getElem?_eq_some_iff.1 hf
      rw [List.drop_eq_getElem_cons hl]
      exact ⟨List.takeWhile_cons_of_neg (by simpa using hc), List.dropWhile_cons_of_neg (by simpa using hc)⟩
  have hp : ∀ x ∈ L.take j, (fun x => decide (cmpE x e < 0)) x = true := fun x hx => by simpa using h x hx
  have e1 : L.takeWhile (fun x => decide (cmpE x e < 0)) = L.take j := by
    rw [← List.take_append_drop j L, List.takeWhile_append_of_pos hp, List.take_append_drop, h1.1, List.append_nil]
  have e2 : L.dropWhile (fun x => decide (cmpE x e < 0)) = L.drop j := by
    rw [← List.take_append_drop j L, List.dropWhile_append_of_pos hp, List.take_append_drop, h1.2]
  rw [e1, e2]; simp
set_option maxRecDepth 100000 in
set_option maxHeartbeats 4000000 in
theorem r_insert_any (S T : Nat → Prop) (L : List Ent) (vl ve : Value) (e : Ent) (w : World) (hl : EntsAt S w vl L) (hsh : Shp vl) (hde : DataAt T w ve e.data) (hok : EntOk e) (hn : L.length ≤ 8200) (hps : ∀ f ∈ L, f.path.size ≤ 65536) :
    Calls Tryz.prog 54 #[vl, entV ve e] w fun en w' => ∃ v, en = .returned v ∧ EntsAt (fun _ => True) w' v (insF L e) ∧ Below w.heap.size w w' ∧ Shp v := by
  have hes : EntsAt (fun _ => True) w vl L := ents_all hl
  have HES := Lib.hid hes
  have HPM := Lib.hid hps
  have HOK := Lib.hid hok
  obtain ⟨m, hm0⟩ : ∃ m, m = L.length := ⟨_, rfl⟩
  obtain ⟨ys, hym, hlv⟩ := hes.listV
  have HML := Lib.hid (show m = ys.length by rw [hm0, ← hym, List.length_map])
  have HM0 := Lib.hid hm0
  have HYM := Lib.hid hym
  obtain ⟨av, cv, rfl, hcv, hmv, -⟩ := SeqAt.shape hes EntR.len
  have HNIL := Lib.hid (show av = none → m = 0 ∧ cv = 0 from fun h => by
    subst h
    rcases hsh with h | ⟨b, o, n, c, h⟩ | ⟨a, c, h⟩
    · simp only [Value.slice.injEq] at h
      exact ⟨hm0.trans h.2.1, h.2.2⟩
    · simp at h
    · simp at h)
  have hva : av = none ∨ (∃ b o, av = some ⟨b, o, none⟩) ∨ (m = 0 ∧ ∃ b o s, av = some ⟨b, o, some s⟩) := by
    rcases hsh with h | ⟨b, o, n, c, h⟩ | ⟨⟨b, o, sp⟩, c, h⟩
    · simp only [Value.slice.injEq] at h; exact .inl h.1
    · simp only [Value.slice.injEq] at h; exact .inr (.inl ⟨b, o, h.1⟩)
    · simp only [Value.slice.injEq] at h
      cases sp with
      | none => exact .inr (.inl ⟨b, o, h.1⟩)
      | some s => exact .inr (.inr ⟨hm0.trans h.2.1, b, o, s, h.1⟩)
  have HRW := Lib.hid (show RowAt (fun _ => True) w 6 (.slice av m cv) m (entsC ys) by have h1 := hlv.row; rw [← HML.out, ← hm0] at h1; exact h1)
  have HDY := Lib.hid hlv.dat
  rw [← hm0] at hcv hn ⊢
  unfold maxLen at hmv
  have HDE := Lib.hid (data_mono (S' := fun _ => True) hde (fun _ _ => trivial))
  obtain ⟨a1, cap1, rfl, hd1, hd2⟩ := hde.slice
  unfold maxLen at hd2
  clear hl hsh hes hm0 hym hlv hps hok hde
  unfold entV
  go_enter Tryz.func54, Tryz.ntmps54
  go_upto_region 1 with (fail)
  obtain ⟨W, hW⟩ : ∃ W, W = w.alloc (.cells #[.string e.path, .int .i64 e.kind, .int .i64 e.mode, .int .i64 e.time, .slice a1 e.data.length cap1, .string e.link] 48) := ⟨_, rfl⟩
  rw [← hW]
  have HXW := Lib.hid (show W.heap[w.heap.size]? = some (.cells #[.string e.path, .int .i64 e.kind, .int .i64 e.mode, .int .i64 e.time, .slice a1 e.data.length cap1, .string e.link] 48 (0, 0)) by rw [hW]; exact new20 w _)
  have HWL := Lib.hid (show Below w.heap.size w W by rw [hW]; exact (Below.refl _ _).alloc (Nat.le_refl _) _)
  clear hW
  go_wp2_with fail
  go_loopw [5] (fun j wq => ∃ j' : Nat, j = .int .i64 j' ∧ j' ≤ m ∧ (∀ f ∈ L.take j', cmpE f e < 0) ∧ Below W.heap.size W wq) (fun j _ => m - (intOf j).toNat)
  case atStart => exact ⟨0, rfl, Nat.zero_le _, by simp, Below.refl _ _⟩
  case round =>
    obtain ⟨j, rfl, hjm, hji, hbq⟩ := hrel
    have HIX := Lib.hid hji
    have HBQ := Lib.hid hbq
    have HXQ := Lib.hid ((hbq.block _ (lt20 HXW.out)).trans HXW.out)
    clear hji hbq
    by_cases hjl : j < m
    case' pos =>
      obtain ⟨f, hf⟩ : ∃ f, L[j]? = some f := ⟨L[j]'(by rw [← HM0.out]; omega), by simp⟩
      have hva2 := hva
      obtain ⟨b1, o1, dv', rfl, -, -, -, -, -, p0, -⟩ := ents_at HES.out hf
      have HPF := Lib.hid (HPM.out f (List.mem_of_getElem? hf))
      obtain ⟨c, hc'⟩ : ∃ c, cmpL (bl f.path) (bl e.path) = c := ⟨_, rfl⟩
      have HC := Lib.hid hc'
      have e9 : decide (j < m) = true := by simp; omega
      have hjn2 : (j : Int) < (m : Int) := by omega
      have HF := Lib.hid hf
      have y0 := ((HWL.out.trans (HBQ.out.mono HWL.out.size)).cell (block_lt p0)).trans p0
      have c0 := cell20 (k := 0) HXQ.out
      simp only [List.getElem?_toArray, List.getElem?_cons_zero] at c0
      clear hf hc' p0
      by_cases hneg : c < 0
      case pos =>
        have e8 : decide (c < 0) = true := by simp [hneg]
        have HIN := Lib.hid (show ∀ f ∈ L.take (j + 1), cmpE f e < 0 from fun x hx => by
          rw [List.take_add_one, HF.out] at hx
          rcases List.mem_append.1 hx with hx | hx
          · exact HIX.out x hx
          · rw [show x = f by simpa using hx]; unfold cmpE; rw [HC.out]; exact hneg)
        go_wp2_with fail
        refine wp_region_segs [some 12, none, some 2] (by kernel_rfl) (by kernel_rfl) (by kernel_rfl) ?_
        simp only [wpSegs, List.take_succ_cons, List.take_zero, List.drop_succ_cons, List.drop_zero]
        repeat (first | (refine seg_skip rfl ?_; simp only [Act.put, List.setIfInBounds_toArray, List.set_cons_succ, List.set_cons_zero]) | (refine seg_run rfl (fun K hK => ?_); go_simp; refine hK _ ?_; clear hK K))
        refine seg_nil ?_
        refine bar_run rfl (fun K hK => ?_)
        go_wp2_with (go_at_call 39; refine (r_compare20 f.path e.path c _ HPF.out HC.out).mono ?_; rintro e8' w8 ⟨rfl, hb8⟩; have HB8 := Lib.hid (HBQ.out.trans (((Below.refl wr.heap.size wr).drew.trans (hb8.mono (Nat.le_refl _))).mono HBQ.out.size)); clear hb8)
        repeat (first | (refine seg_skip rfl ?_; simp only [Act.put, List.setIfInBounds_toArray, List.set_cons_succ, List.set_cons_zero]) | (refine seg_run rfl (fun K hK => ?_); go_simp; refine hK _ ?_; clear hK K))
        refine seg_nil ?_
        go_wp2_with fail
        go_roundw
        case rel => exact ⟨j + 1, by go_num, by omega, HIN.out, HB8.out⟩
        case measure => simp [intOf]; omega
      case' neg =>
        have e8 : decide (c < 0) = false := by simp; omega
        have e7 : 0 ≤ c := by omega
        have HJ := Lib.hid (show insF L e = L.take j ++ [e] ++ L.drop j from insF_at HIX.out (.inr ⟨f, HF.out, by unfold cmpE; rw [HC.out]; exact hneg⟩))
        go_wp2_with fail
        refine wp_region_segs [some 12, none, some 2] (by kernel_rfl) (by kernel_rfl) (by kernel_rfl) ?_
        simp only [wpSegs, List.take_succ_cons, List.take_zero, List.drop_succ_cons, List.drop_zero]
        repeat (first | (refine seg_skip rfl ?_; simp only [Act.put, List.setIfInBounds_toArray, List.set_cons_succ, List.set_cons_zero]) | (refine seg_run rfl (fun K hK => ?_); go_simp; refine hK _ ?_; clear hK K))
        refine seg_nil ?_
        refine bar_run rfl (fun K hK => ?_)
        go_wp2_with (go_at_call 39; refine (r_compare20 f.path e.path c _ HPF.out HC.out).mono ?_; rintro e8' w8 ⟨rfl, hb8⟩; have HB8 := Lib.hid (HBQ.out.trans (((Below.refl wr.heap.size wr).drew.trans (hb8.mono (Nat.le_refl _))).mono HBQ.out.size)); clear hb8)
        repeat (first | (refine seg_skip rfl ?_; simp only [Act.put, List.setIfInBounds_toArray, List.set_cons_succ, List.set_cons_zero]) | (refine seg_run rfl (fun K hK => ?_); go_simp; refine hK _ ?_; clear hK K))
        refine seg_nil ?_
        go_wp2_with fail
        clear e8 e7 y0 c0 hjn2 e9 hva hva2 hneg
        refine hld_start (fun w' => w'.cell? ⟨w.heap.size, 0, none⟩ = some (.string e.path) ∧ w'.cell? ⟨w.heap.size, 1, none⟩ = some (.int .i64 e.kind) ∧ w'.cell? ⟨w.heap.size, 2, none⟩ = some (.int .i64 e.mode) ∧ w'.cell? ⟨w.heap.size, 3, none⟩ = some (.int .i64 e.time) ∧ w'.cell? ⟨w.heap.size, 4, none⟩ = some (.slice a1 e.data.length cap1) ∧ w'.cell? ⟨w.heap.size, 5, none⟩ = some (.string e.link)) (by kernel_rfl) ?_
        obtain ⟨V, hV⟩ : ∃ V : World, V = (w8).drew := ⟨_, rfl⟩
        rw [← hV]
        have HBV := Lib.hid (show Below W.heap.size W V by rw [hV]; exact HB8.out.trans ((Below.refl (w8).heap.size (w8)).drew.mono HB8.out.size))
        clear hV
        have HBX := HBV
        have HXX := Lib.hid ((HBX.out.block _ (lt20 HXW.out)).trans HXW.out)
        have c0 := cell20 (k := 0) HXX.out
        have c1 := cell20 (k := 1) HXX.out
        have c2 := cell20 (k := 2) HXX.out
        have c3 := cell20 (k := 3) HXX.out
        have c4 := cell20 (k := 4) HXX.out
        have c5 := cell20 (k := 5) HXX.out
        simp only [List.getElem?_toArray, List.getElem?_cons_succ, List.getElem?_cons_zero] at c0 c1 c2 c3 c4 c5
        have hrw := HRW.out
        obtain ⟨J, hJJ⟩ : ∃ J, J = j := ⟨_, rfl⟩
        obtain ⟨N, hNN⟩ : ∃ N, N = ys.length - J := ⟨_, rfl⟩
        have HJL := Lib.hid (show J ≤ ys.length by rw [hJJ, ← HML.out]; exact hjm)
        have hJN : J + N ≤ 8200 := by have := HML.out; have := HJL.out; omega
        have HIJ := Lib.hid (show insF L e = L.take J ++ [e] ++ L.drop J by rw [hJJ]; exact HJ.out)
        have HP := Lib.hid (show RowAt (fun _ => True) W 6 _ J (entsC (ys.take J)) from by
          rw [entsC_take, hJJ]; exact (row_take hrw hjm).below (by omega) HWL.out)
        have HDT := Lib.hid (show ∀ y ∈ ys.take J, DataAt (fun _ => True) w y.1 y.2.data ∧ EntOk y.2 from fun y hy => HDY.out y (List.mem_of_mem_take hy))
        have HDD := Lib.hid (show ∀ y ∈ ys.drop J, DataAt (fun _ => True) w y.1 y.2.data ∧ EntOk y.2 from fun y hy => HDY.out y (List.mem_of_mem_drop hy))
        have HQ := Lib.hid (show RowAt (fun _ => True) W 6 (.slice (some ⟨b1, o1 + j * 6, none⟩) (m - j) (cv - j)) N (entsC (ys.drop J)) from by
          rw [entsC_drop, hNN, hJJ, ← HML.out]
          exact (row_drop hrw hjm).below (by omega) HWL.out)
        have hjc2 : j < cv := by omega
        have hjc3 : j ≤ cv := by omega
        have HNN := Lib.hid hNN
        clear hrw hJJ hNN
        refine hld_take 1 rfl (by kernel_rfl) (by kernel_rfl) (by kernel_rfl) (fun _ _ _ h => h) rfl (by go_simp) (by intro w' hw'; go_simp; rfl) ?_
        simp only [Act.put, List.setIfInBounds_toArray, List.set_cons_succ, List.set_cons_zero]
        refine hld_take 2 rfl (by kernel_rfl) (by kernel_rfl) (by kernel_rfl) (fun _ _ _ h => h) rfl (by go_simp) (by intro w' hw'; go_simp; rfl) ?_
        simp only [Act.put, List.setIfInBounds_toArray, List.set_cons_succ, List.set_cons_zero]
        refine hld_take 3 rfl (by kernel_rfl) (by kernel_rfl) (by kernel_rfl) (fun _ _ _ h => h) rfl (by go_simp) (by intro w' hw'; go_simp; rfl) ?_
        simp only [Act.put, List.setIfInBounds_toArray, List.set_cons_succ, List.set_cons_zero]
        refine hld_take 5 rfl (by kernel_rfl) (by kernel_rfl) (by kernel_rfl) (fun _ _ _ h => h) rfl ⟨c0, c1, c2, c3, c4, c5⟩ (by rintro w' ⟨h0, h1, h2, h3, h4, h5⟩; go_simp; rfl) ?_
        simp only [Act.put, List.setIfInBounds_toArray, List.set_cons_succ, List.set_cons_zero]
        refine hld_take 8 rfl (by kernel_rfl) (by kernel_rfl) (by kernel_rfl) (fun _ _ _ h => h) rfl (by go_simp) (by intro w' hw'; go_simp; rfl) ?_
        simp only [Act.put, List.setIfInBounds_toArray, List.set_cons_succ, List.set_cons_zero]
        refine hld_take 9 rfl (by kernel_rfl) (by kernel_rfl) (by kernel_rfl) (fun _ _ _ h => h) rfl (by go_simp) (by intro w' hw'; go_simp; rfl) ?_
        simp only [Act.put, List.setIfInBounds_toArray, List.set_cons_succ, List.set_cons_zero]
        refine hld_take 10 rfl (by kernel_rfl) (by kernel_rfl) (by kernel_rfl) (fun _ _ _ h => h) rfl (by go_simp) (by intro w' hw'; go_simp; rfl) ?_
        simp only [Act.put, List.setIfInBounds_toArray, List.set_cons_succ, List.set_cons_zero]
    case' neg =>
      have hj2 : m = j := by omega
      subst hj2
      have HJ := Lib.hid (show insF L e = L.take m ++ [e] ++ L.drop m from insF_at HIX.out (.inl (by rw [← HM0.out]; exact Nat.le_refl _)))
      go_wp2_with fail
      refine wp_region_segs [some 12, none, some 2] (by kernel_rfl) (by kernel_rfl) (by kernel_rfl) ?_
      simp only [wpSegs, List.take_succ_cons, List.take_zero, List.drop_succ_cons, List.drop_zero]
      obtain ⟨W2, hW2⟩ : ∃ W2 : World, W2 = wr.drew := ⟨_, rfl⟩
      rw [← hW2]
      have HBQ2 := Lib.hid (show Below W.heap.size W W2 by rw [hW2]; exact HBQ.out.trans ((Below.refl wr.heap.size wr).drew.mono HBQ.out.size))
      clear hW2
      repeat (first | (refine seg_skip rfl ?_; simp only [Act.put, List.setIfInBounds_toArray, List.set_cons_succ, List.set_cons_zero]) | (refine seg_run rfl (fun K hK => ?_); go_simp; refine hK _ ?_; clear hK K))
      refine seg_nil ?_
      refine bar_skip rfl ?_
      simp only [Act.put, List.setIfInBounds_toArray, List.set_cons_succ, List.set_cons_zero]
      repeat (first | (refine seg_skip rfl ?_; simp only [Act.put, List.setIfInBounds_toArray, List.set_cons_succ, List.set_cons_zero]) | (refine seg_run rfl (fun K hK => ?_); go_simp; refine hK _ ?_; clear hK K))
      refine seg_nil ?_
      clear hjl
      go_wp2_with fail
      refine hld_start (fun w' => w'.cell? ⟨w.heap.size, 0, none⟩ = some (.string e.path) ∧ w'.cell? ⟨w.heap.size, 1, none⟩ = some (.int .i64 e.kind) ∧ w'.cell? ⟨w.heap.size, 2, none⟩ = some (.int .i64 e.mode) ∧ w'.cell? ⟨w.heap.size, 3, none⟩ = some (.int .i64 e.time) ∧ w'.cell? ⟨w.heap.size, 4, none⟩ = some (.slice a1 e.data.length cap1) ∧ w'.cell? ⟨w.heap.size, 5, none⟩ = some (.string e.link)) (by kernel_rfl) ?_
      obtain ⟨V, hV⟩ : ∃ V : World, V = (W2).drew := ⟨_, rfl⟩
      rw [← hV]
      have HBV := Lib.hid (show Below W.heap.size W V by rw [hV]; exact HBQ2.out.trans ((Below.refl (W2).heap.size (W2)).drew.mono HBQ2.out.size))
      clear hV
      have HBX := HBV
      have HXX := Lib.hid ((HBX.out.block _ (lt20 HXW.out)).trans HXW.out)
      have c0 := cell20 (k := 0) HXX.out
      have c1 := cell20 (k := 1) HXX.out
      have c2 := cell20 (k := 2) HXX.out
      have c3 := cell20 (k := 3) HXX.out
      have c4 := cell20 (k := 4) HXX.out
      have c5 := cell20 (k := 5) HXX.out
      simp only [List.getElem?_toArray, List.getElem?_cons_succ, List.getElem?_cons_zero] at c0 c1 c2 c3 c4 c5
      have hrw := HRW.out
      rcases hva with hva | ⟨b1, o1, hva⟩ | ⟨hm0, b1, o1, sp, hva⟩
      case' inl =>
        subst hva
        obtain ⟨hm0, hc0⟩ := HNIL.out rfl
        subst hm0 hc0
        obtain ⟨J, hJJ⟩ : ∃ J, J = 0 := ⟨_, rfl⟩
        obtain ⟨N, hNN⟩ : ∃ N, N = ys.length - J := ⟨_, rfl⟩
        have HJL := Lib.hid (show J ≤ ys.length by rw [hJJ, ← HML.out]; exact hjm)
        have hJN : J + N ≤ 8200 := by have := HML.out; have := HJL.out; omega
        have HIJ := Lib.hid (show insF L e = L.take J ++ [e] ++ L.drop J by rw [hJJ]; exact HJ.out)
        have HP := Lib.hid (show RowAt (fun _ => True) W 6 _ J (entsC (ys.take J)) from by
          rw [entsC_take, hJJ]; exact (row_take hrw hjm).below (by omega) HWL.out)
        have HDT := Lib.hid (show ∀ y ∈ ys.take J, DataAt (fun _ => True) w y.1 y.2.data ∧ EntOk y.2 from fun y hy => HDY.out y (List.mem_of_mem_take hy))
        have HDD := Lib.hid (show ∀ y ∈ ys.drop J, DataAt (fun _ => True) w y.1 y.2.data ∧ EntOk y.2 from fun y hy => HDY.out y (List.mem_of_mem_drop hy))
        have HQ := Lib.hid (show RowAt (fun _ => True) W 6 (.slice none (0 - 0) (0 - 0)) N (entsC (ys.drop J)) from by
          have h1 : ys.length ≤ J := by have := HML.out; omega
          rw [List.drop_eq_nil_of_le h1, hNN, Nat.sub_eq_zero_of_le h1]
          exact row_none (by unfold maxLen; omega))
        have HNN := Lib.hid hNN
        clear hrw hJJ hNN
        refine hld_take 1 rfl (by kernel_rfl) (by kernel_rfl) (by kernel_rfl) (fun _ _ _ h => h) rfl (by go_simp) (by intro w' hw'; go_simp; rfl) ?_
        simp only [Act.put, List.setIfInBounds_toArray, List.set_cons_succ, List.set_cons_zero]
        refine hld_take 2 rfl (by kernel_rfl) (by kernel_rfl) (by kernel_rfl) (fun _ _ _ h => h) rfl (by go_simp) (by intro w' hw'; go_simp; rfl) ?_
        simp only [Act.put, List.setIfInBounds_toArray, List.set_cons_succ, List.set_cons_zero]
        refine hld_take 3 rfl (by kernel_rfl) (by kernel_rfl) (by kernel_rfl) (fun _ _ _ h => h) rfl (by go_simp) (by intro w' hw'; go_simp; rfl) ?_
        simp only [Act.put, List.setIfInBounds_toArray, List.set_cons_succ, List.set_cons_zero]
        refine hld_take 5 rfl (by kernel_rfl) (by kernel_rfl) (by kernel_rfl) (fun _ _ _ h => h) rfl ⟨c0, c1, c2, c3, c4, c5⟩ (by rintro w' ⟨h0, h1, h2, h3, h4, h5⟩; go_simp; rfl) ?_
        simp only [Act.put, List.setIfInBounds_toArray, List.set_cons_succ, List.set_cons_zero]
        refine hld_take 8 rfl (by kernel_rfl) (by kernel_rfl) (by kernel_rfl) (fun _ _ _ h => h) rfl (by go_simp) (by intro w' hw'; go_simp; rfl) ?_
        simp only [Act.put, List.setIfInBounds_toArray, List.set_cons_succ, List.set_cons_zero]
        refine hld_take 9 rfl (by kernel_rfl) (by kernel_rfl) (by kernel_rfl) (fun _ _ _ h => h) rfl (by go_simp) (by intro w' hw'; go_simp; rfl) ?_
        simp only [Act.put, List.setIfInBounds_toArray, List.set_cons_succ, List.set_cons_zero]
        refine hld_take 10 rfl (by kernel_rfl) (by kernel_rfl) (by kernel_rfl) (fun _ _ _ h => h) rfl (by go_simp) (by intro w' hw'; go_simp; rfl) ?_
        simp only [Act.put, List.setIfInBounds_toArray, List.set_cons_succ, List.set_cons_zero]
      case' inr.inl =>
        subst hva
        by_cases hjc : m = cv
        case' pos =>
          subst hjc
          obtain ⟨J, hJJ⟩ : ∃ J, J = m := ⟨_, rfl⟩
          obtain ⟨N, hNN⟩ : ∃ N, N = ys.length - J := ⟨_, rfl⟩
          have HJL := Lib.hid (show J ≤ ys.length by rw [hJJ, ← HML.out]; exact hjm)
          have hJN : J + N ≤ 8200 := by have := HML.out; have := HJL.out; omega
          have HIJ := Lib.hid (show insF L e = L.take J ++ [e] ++ L.drop J by rw [hJJ]; exact HJ.out)
          have HP := Lib.hid (show RowAt (fun _ => True) W 6 _ J (entsC (ys.take J)) from by
            rw [entsC_take, hJJ]; exact (row_take hrw hjm).below (by omega) HWL.out)
          have HDT := Lib.hid (show ∀ y ∈ ys.take J, DataAt (fun _ => True) w y.1 y.2.data ∧ EntOk y.2 from fun y hy => HDY.out y (List.mem_of_mem_take hy))
          have HDD := Lib.hid (show ∀ y ∈ ys.drop J, DataAt (fun _ => True) w y.1 y.2.data ∧ EntOk y.2 from fun y hy => HDY.out y (List.mem_of_mem_drop hy))
          have HQ := Lib.hid (show RowAt (fun _ => True) W 6 (.slice (some ⟨b1, o1, none⟩) 0 0) N (entsC (ys.drop J)) from by
            have h1 : ys.length ≤ J := by have := HML.out; omega
            rw [List.drop_eq_nil_of_le h1, hNN, Nat.sub_eq_zero_of_le h1]
            exact row_none (by unfold maxLen; omega))
          have HNN := Lib.hid hNN
          clear hrw hJJ hNN
          refine hld_take 1 rfl (by kernel_rfl) (by kernel_rfl) (by kernel_rfl) (fun _ _ _ h => h) rfl (by go_simp) (by intro w' hw'; go_simp; rfl) ?_
          simp only [Act.put, List.setIfInBounds_toArray, List.set_cons_succ, List.set_cons_zero]
          refine hld_take 2 rfl (by kernel_rfl) (by kernel_rfl) (by kernel_rfl) (fun _ _ _ h => h) rfl (by go_simp) (by intro w' hw'; go_simp; rfl) ?_
          simp only [Act.put, List.setIfInBounds_toArray, List.set_cons_succ, List.set_cons_zero]
          refine hld_take 3 rfl (by kernel_rfl) (by kernel_rfl) (by kernel_rfl) (fun _ _ _ h => h) rfl (by go_simp) (by intro w' hw'; go_simp; rfl) ?_
          simp only [Act.put, List.setIfInBounds_toArray, List.set_cons_succ, List.set_cons_zero]
          refine hld_take 5 rfl (by kernel_rfl) (by kernel_rfl) (by kernel_rfl) (fun _ _ _ h => h) rfl ⟨c0, c1, c2, c3, c4, c5⟩ (by rintro w' ⟨h0, h1, h2, h3, h4, h5⟩; go_simp; rfl) ?_
          simp only [Act.put, List.setIfInBounds_toArray, List.set_cons_succ, List.set_cons_zero]
          refine hld_take 8 rfl (by kernel_rfl) (by kernel_rfl) (by kernel_rfl) (fun _ _ _ h => h) rfl (by go_simp) (by intro w' hw'; go_simp; rfl) ?_
          simp only [Act.put, List.setIfInBounds_toArray, List.set_cons_succ, List.set_cons_zero]
          refine hld_take 9 rfl (by kernel_rfl) (by kernel_rfl) (by kernel_rfl) (fun _ _ _ h => h) rfl (by go_simp) (by intro w' hw'; go_simp; rfl) ?_
          simp only [Act.put, List.setIfInBounds_toArray, List.set_cons_succ, List.set_cons_zero]
          refine hld_take 10 rfl (by kernel_rfl) (by kernel_rfl) (by kernel_rfl) (fun _ _ _ h => h) rfl (by go_simp) (by intro w' hw'; go_simp; rfl) ?_
          simp only [Act.put, List.setIfInBounds_toArray, List.set_cons_succ, List.set_cons_zero]
        case' neg =>
          obtain ⟨J, hJJ⟩ : ∃ J, J = m := ⟨_, rfl⟩
          obtain ⟨N, hNN⟩ : ∃ N, N = ys.length - J := ⟨_, rfl⟩
          have HJL := Lib.hid (show J ≤ ys.length by rw [hJJ, ← HML.out]; exact hjm)
          have hJN : J + N ≤ 8200 := by have := HML.out; have := HJL.out; omega
          have HIJ := Lib.hid (show insF L e = L.take J ++ [e] ++ L.drop J by rw [hJJ]; exact HJ.out)
          have HP := Lib.hid (show RowAt (fun _ => True) W 6 _ J (entsC (ys.take J)) from by
            rw [entsC_take, hJJ]; exact (row_take hrw hjm).below (by omega) HWL.out)
          have HDT := Lib.hid (show ∀ y ∈ ys.take J, DataAt (fun _ => True) w y.1 y.2.data ∧ EntOk y.2 from fun y hy => HDY.out y (List.mem_of_mem_take hy))
          have HDD := Lib.hid (show ∀ y ∈ ys.drop J, DataAt (fun _ => True) w y.1 y.2.data ∧ EntOk y.2 from fun y hy => HDY.out y (List.mem_of_mem_drop hy))
          have HQ := Lib.hid (show RowAt (fun _ => True) W 6 (.slice (some ⟨b1, o1 + m * 6, none⟩) 0 (cv - m)) N (entsC (ys.drop J)) from by
            have h1 : ys.length ≤ J := by have := HML.out; omega
            rw [List.drop_eq_nil_of_le h1, hNN, Nat.sub_eq_zero_of_le h1]
            exact row_none (by unfold maxLen; omega))
          have hjc2 : m < cv := by omega
          have hjc3 : m ≤ cv := by omega
          clear hjc
          have HNN := Lib.hid hNN
          clear hrw hJJ hNN
          refine hld_take 1 rfl (by kernel_rfl) (by kernel_rfl) (by kernel_rfl) (fun _ _ _ h => h) rfl (by go_simp) (by intro w' hw'; go_simp; rfl) ?_
          simp only [Act.put, List.setIfInBounds_toArray, List.set_cons_succ, List.set_cons_zero]
          refine hld_take 2 rfl (by kernel_rfl) (by kernel_rfl) (by kernel_rfl) (fun _ _ _ h => h) rfl (by go_simp) (by intro w' hw'; go_simp; rfl) ?_
          simp only [Act.put, List.setIfInBounds_toArray, List.set_cons_succ, List.set_cons_zero]
          refine hld_take 3 rfl (by kernel_rfl) (by kernel_rfl) (by kernel_rfl) (fun _ _ _ h => h) rfl (by go_simp) (by intro w' hw'; go_simp; rfl) ?_
          simp only [Act.put, List.setIfInBounds_toArray, List.set_cons_succ, List.set_cons_zero]
          refine hld_take 5 rfl (by kernel_rfl) (by kernel_rfl) (by kernel_rfl) (fun _ _ _ h => h) rfl ⟨c0, c1, c2, c3, c4, c5⟩ (by rintro w' ⟨h0, h1, h2, h3, h4, h5⟩; go_simp; rfl) ?_
          simp only [Act.put, List.setIfInBounds_toArray, List.set_cons_succ, List.set_cons_zero]
          refine hld_take 8 rfl (by kernel_rfl) (by kernel_rfl) (by kernel_rfl) (fun _ _ _ h => h) rfl (by go_simp) (by intro w' hw'; go_simp; rfl) ?_
          simp only [Act.put, List.setIfInBounds_toArray, List.set_cons_succ, List.set_cons_zero]
          refine hld_take 9 rfl (by kernel_rfl) (by kernel_rfl) (by kernel_rfl) (fun _ _ _ h => h) rfl (by go_simp) (by intro w' hw'; go_simp; rfl) ?_
          simp only [Act.put, List.setIfInBounds_toArray, List.set_cons_succ, List.set_cons_zero]
          refine hld_take 10 rfl (by kernel_rfl) (by kernel_rfl) (by kernel_rfl) (fun _ _ _ h => h) rfl (by go_simp) (by intro w' hw'; go_simp; rfl) ?_
          simp only [Act.put, List.setIfInBounds_toArray, List.set_cons_succ, List.set_cons_zero]
      case' inr.inr =>
        subst hva
        subst hm0
        obtain ⟨J, hJJ⟩ : ∃ J, J = 0 := ⟨_, rfl⟩
        obtain ⟨N, hNN⟩ : ∃ N, N = ys.length - J := ⟨_, rfl⟩
        have HJL := Lib.hid (show J ≤ ys.length by rw [hJJ, ← HML.out]; exact hjm)
        have hJN : J + N ≤ 8200 := by have := HML.out; have := HJL.out; omega
        have HIJ := Lib.hid (show insF L e = L.take J ++ [e] ++ L.drop J by rw [hJJ]; exact HJ.out)
        have HP := Lib.hid (show RowAt (fun _ => True) W 6 _ J (entsC (ys.take J)) from by
          rw [entsC_take, hJJ]; exact (row_take hrw hjm).below (by omega) HWL.out)
        have HDT := Lib.hid (show ∀ y ∈ ys.take J, DataAt (fun _ => True) w y.1 y.2.data ∧ EntOk y.2 from fun y hy => HDY.out y (List.mem_of_mem_take hy))
        have HDD := Lib.hid (show ∀ y ∈ ys.drop J, DataAt (fun _ => True) w y.1 y.2.data ∧ EntOk y.2 from fun y hy => HDY.out y (List.mem_of_mem_drop hy))
        have HQ := Lib.hid (show RowAt (fun _ => True) W 6 (.slice (some ⟨b1, o1, some sp⟩) 0 cv) N (entsC (ys.drop J)) from by
          have h1 : ys.length ≤ J := by have := HML.out; omega
          rw [List.drop_eq_nil_of_le h1, hNN, Nat.sub_eq_zero_of_le h1]
          exact row_none (by unfold maxLen; omega))
        have HNN := Lib.hid hNN
        clear hrw hJJ hNN
        refine hld_take 1 rfl (by kernel_rfl) (by kernel_rfl) (by kernel_rfl) (fun _ _ _ h => h) rfl (by go_simp) (by intro w' hw'; go_simp; rfl) ?_
        simp only [Act.put, List.setIfInBounds_toArray, List.set_cons_succ, List.set_cons_zero]
        refine hld_take 2 rfl (by kernel_rfl) (by kernel_rfl) (by kernel_rfl) (fun _ _ _ h => h) rfl (by go_simp) (by intro w' hw'; go_simp; rfl) ?_
        simp only [Act.put, List.setIfInBounds_toArray, List.set_cons_succ, List.set_cons_zero]
        refine hld_take 3 rfl (by kernel_rfl) (by kernel_rfl) (by kernel_rfl) (fun _ _ _ h => h) rfl (by go_simp) (by intro w' hw'; go_simp; rfl) ?_
        simp only [Act.put, List.setIfInBounds_toArray, List.set_cons_succ, List.set_cons_zero]
        refine hld_take 5 rfl (by kernel_rfl) (by kernel_rfl) (by kernel_rfl) (fun _ _ _ h => h) rfl ⟨c0, c1, c2, c3, c4, c5⟩ (by rintro w' ⟨h0, h1, h2, h3, h4, h5⟩; go_simp; rfl) ?_
        simp only [Act.put, List.setIfInBounds_toArray, List.set_cons_succ, List.set_cons_zero]
        refine hld_take 8 rfl (by kernel_rfl) (by kernel_rfl) (by kernel_rfl) (fun _ _ _ h => h) rfl (by go_simp) (by intro w' hw'; go_simp; rfl) ?_
        simp only [Act.put, List.setIfInBounds_toArray, List.set_cons_succ, List.set_cons_zero]
        refine hld_take 9 rfl (by kernel_rfl) (by kernel_rfl) (by kernel_rfl) (fun _ _ _ h => h) rfl (by go_simp) (by intro w' hw'; go_simp; rfl) ?_
        simp only [Act.put, List.setIfInBounds_toArray, List.set_cons_succ, List.set_cons_zero]
        refine hld_take 10 rfl (by kernel_rfl) (by kernel_rfl) (by kernel_rfl) (fun _ _ _ h => h) rfl (by go_simp) (by intro w' hw'; go_simp; rfl) ?_
        simp only [Act.put, List.setIfInBounds_toArray, List.set_cons_succ, List.set_cons_zero]
    all_goals
      skip
      refine Hld.of (wpAnyH_all (rs := [0, 6]) (by kernel_rfl) (by simp) fun jj hjj => ?_)
      simp only [List.mem_cons, List.not_mem_nil, or_false] at hjj
      rcases hjj with rfl | rfl
      case' inr =>
        refine hld_opr 6 rfl rfl (fun K hK => ?_)
        go_wp2_with fail
        obtain ⟨U1, hU⟩ : ∃ u : World, u = (V).alloc (.cells #[.string e.path, .int .i64 e.kind, .int .i64 e.mode, .int .i64 e.time, .slice a1 e.data.length cap1, .string e.link] 48) := ⟨_, rfl⟩
        rw [← hU]
        have hbu : Below (V).heap.size V U1 := by rw [hU]; exact (Below.refl _ _).alloc (Nat.le_refl _) _
        have HZ1 := Lib.hid (show (U1).heap[(V).heap.size]? = some (.cells #[.string e.path, .int .i64 e.kind, .int .i64 e.mode, .int .i64 e.time, .slice a1 e.data.length cap1, .string e.link] 48 (0, 0)) by rw [hU]; exact new20 _ _)
        have HBU1 := Lib.hid (HBV.out.trans (hbu.mono HBV.out.size))
        clear hU c0 c1 c2 c3 c4 c5
        have HBX := HBU1
        have HXX := Lib.hid ((HBX.out.block _ (lt20 HXW.out)).trans HXW.out)
        have c0 := cell20 (k := 0) HXX.out
        have c1 := cell20 (k := 1) HXX.out
        have c2 := cell20 (k := 2) HXX.out
        have c3 := cell20 (k := 3) HXX.out
        have c4 := cell20 (k := 4) HXX.out
        have c5 := cell20 (k := 5) HXX.out
        simp only [List.getElem?_toArray, List.getElem?_cons_succ, List.getElem?_cons_zero] at c0 c1 c2 c3 c4 c5
        refine ⟨⟨c0, c1, c2, c3, c4, c5⟩, ?_⟩
        clear hbu
        refine hld_bar 0 rfl (by kernel_rfl) rfl (fun K hK => ?_)
        go_wp2_with fail
        obtain ⟨U2, hU⟩ : ∃ u : World, u = (U1).alloc (.cells #[] 48) := ⟨_, rfl⟩
        rw [← hU]
        have hbu : Below (U1).heap.size U1 U2 := by rw [hU]; exact (Below.refl _ _).alloc (Nat.le_refl _) _
        have HO2 := Lib.hid (show (U2).ownsRow W.heap.size 48 6 (.slice (some ⟨(U1).heap.size, 0, none⟩) 0 0) 0 [] by rw [hU]; exact World.ownsRow_lit (base := W.heap.size) U1 #[] 0 HBU1.out.size (Nat.zero_le _) (by simp))
        have HBU2 := Lib.hid (HBU1.out.trans (hbu.mono HBU1.out.size))
        clear hU c0 c1 c2 c3 c4 c5
        have HBX := HBU2
        have HXX := Lib.hid ((HBX.out.block _ (lt20 HXW.out)).trans HXW.out)
        have c0 := cell20 (k := 0) HXX.out
        have c1 := cell20 (k := 1) HXX.out
        have c2 := cell20 (k := 2) HXX.out
        have c3 := cell20 (k := 3) HXX.out
        have c4 := cell20 (k := 4) HXX.out
        have c5 := cell20 (k := 5) HXX.out
        simp only [List.getElem?_toArray, List.getElem?_cons_succ, List.getElem?_cons_zero] at c0 c1 c2 c3 c4 c5
        refine ⟨⟨c0, c1, c2, c3, c4, c5⟩, ?_⟩
        have HZ2 := Lib.hid ((hbu.block _ (lt20 HZ1.out)).trans HZ1.out)
        have HLT := Lib.hid (show V.heap.size < U1.heap.size from lt20 HZ1.out)
        clear hbu
        refine hld_bar 4 rfl (by kernel_rfl) rfl (fun K hK => ?_)
        go_wp2_with (at_builtin; go_must (refine wpList_appn Tryz.appEnts rfl _ _ rfl W.heap.size _ 0 [] rfl HO2.out _ J (entsC (ys.take J)) rfl (HP.out.below (by omega) HBU2.out) (entsC_oneC HDT.out) (by omega) HBU2.out.size ?_); intro v1 U3 hown1 hg1)
        have HBU3 := Lib.hid (below_grown HBU2.out HO2.out hg1 (Nat.le_refl _) HBU2.out.size)
        have HO3 := Lib.hid (show (U3).ownsRow W.heap.size 48 6 v1 J (entsC (ys.take J)) by rw [Nat.zero_add, List.nil_append] at hown1; exact hown1)
        have HG1 := Lib.hid hg1
        obtain ⟨g1, k1, rfl, -, -⟩ := owns_shape HO3.out
        clear hown1 hg1 c0 c1 c2 c3 c4 c5
        have HBX := HBU3
        have HXX := Lib.hid ((HBX.out.block _ (lt20 HXW.out)).trans HXW.out)
        have c0 := cell20 (k := 0) HXX.out
        have c1 := cell20 (k := 1) HXX.out
        have c2 := cell20 (k := 2) HXX.out
        have c3 := cell20 (k := 3) HXX.out
        have c4 := cell20 (k := 4) HXX.out
        have c5 := cell20 (k := 5) HXX.out
        simp only [List.getElem?_toArray, List.getElem?_cons_succ, List.getElem?_cons_zero] at c0 c1 c2 c3 c4 c5
        refine ⟨⟨c0, c1, c2, c3, c4, c5⟩, ?_⟩
        have HZ3 := Lib.hid ((HG1.out.block _ (lt20 HZ2.out) (fun e' => by have h1 : V.heap.size = U1.heap.size := Option.some.inj e'; have h2 := HLT.out; omega)).trans HZ2.out)
      case' inl =>
        refine hld_opr 0 rfl rfl (fun K hK => ?_)
        go_wp2_with fail
        obtain ⟨U1, hU⟩ : ∃ u : World, u = (V).alloc (.cells #[] 48) := ⟨_, rfl⟩
        rw [← hU]
        have hbu : Below (V).heap.size V U1 := by rw [hU]; exact (Below.refl _ _).alloc (Nat.le_refl _) _
        have HO1 := Lib.hid (show (U1).ownsRow W.heap.size 48 6 (.slice (some ⟨(V).heap.size, 0, none⟩) 0 0) 0 [] by rw [hU]; exact World.ownsRow_lit (base := W.heap.size) V #[] 0 HBV.out.size (Nat.zero_le _) (by simp))
        have HBU1 := Lib.hid (HBV.out.trans (hbu.mono HBV.out.size))
        clear hU c0 c1 c2 c3 c4 c5
        have HBX := HBU1
        have HXX := Lib.hid ((HBX.out.block _ (lt20 HXW.out)).trans HXW.out)
        have c0 := cell20 (k := 0) HXX.out
        have c1 := cell20 (k := 1) HXX.out
        have c2 := cell20 (k := 2) HXX.out
        have c3 := cell20 (k := 3) HXX.out
        have c4 := cell20 (k := 4) HXX.out
        have c5 := cell20 (k := 5) HXX.out
        simp only [List.getElem?_toArray, List.getElem?_cons_succ, List.getElem?_cons_zero] at c0 c1 c2 c3 c4 c5
        refine ⟨⟨c0, c1, c2, c3, c4, c5⟩, ?_⟩
        refine Hld.of (wpAnyH_all (rs := [4, 6]) (by kernel_rfl) (by simp) fun jj hjj => ?_)
        simp only [List.mem_cons, List.not_mem_nil, or_false] at hjj
        rcases hjj with rfl | rfl
        case' inr =>
          refine hld_opr 6 rfl rfl (fun K hK => ?_)
          go_wp2_with fail
          obtain ⟨U2, hU⟩ : ∃ u : World, u = (U1).alloc (.cells #[.string e.path, .int .i64 e.kind, .int .i64 e.mode, .int .i64 e.time, .slice a1 e.data.length cap1, .string e.link] 48) := ⟨_, rfl⟩
          rw [← hU]
          have hbu : Below (U1).heap.size U1 U2 := by rw [hU]; exact (Below.refl _ _).alloc (Nat.le_refl _) _
          have HZ2 := Lib.hid (show (U2).heap[(U1).heap.size]? = some (.cells #[.string e.path, .int .i64 e.kind, .int .i64 e.mode, .int .i64 e.time, .slice a1 e.data.length cap1, .string e.link] 48 (0, 0)) by rw [hU]; exact new20 _ _)
          have HBU2 := Lib.hid (HBU1.out.trans (hbu.mono HBU1.out.size))
          clear hU c0 c1 c2 c3 c4 c5
          have HBX := HBU2
          have HXX := Lib.hid ((HBX.out.block _ (lt20 HXW.out)).trans HXW.out)
          have c0 := cell20 (k := 0) HXX.out
          have c1 := cell20 (k := 1) HXX.out
          have c2 := cell20 (k := 2) HXX.out
          have c3 := cell20 (k := 3) HXX.out
          have c4 := cell20 (k := 4) HXX.out
          have c5 := cell20 (k := 5) HXX.out
          simp only [List.getElem?_toArray, List.getElem?_cons_succ, List.getElem?_cons_zero] at c0 c1 c2 c3 c4 c5
          refine ⟨⟨c0, c1, c2, c3, c4, c5⟩, ?_⟩
          have HO2 := Lib.hid (own_below HO1.out hbu)
          have HLT := Lib.hid (show V.heap.size < U1.heap.size from ((own_lt HO1.out rfl).2))
          clear hbu
          refine hld_bar 4 rfl (by kernel_rfl) rfl (fun K hK => ?_)
          go_wp2_with (at_builtin; go_must (refine wpList_appn Tryz.appEnts rfl _ _ rfl W.heap.size _ 0 [] rfl HO2.out _ J (entsC (ys.take J)) rfl (HP.out.below (by omega) HBU2.out) (entsC_oneC HDT.out) (by omega) HBU2.out.size ?_); intro v1 U3 hown1 hg1)
          have HBU3 := Lib.hid (below_grown HBU2.out HO2.out hg1 (Nat.le_refl _) HBU2.out.size)
          have HO3 := Lib.hid (show (U3).ownsRow W.heap.size 48 6 v1 J (entsC (ys.take J)) by rw [Nat.zero_add, List.nil_append] at hown1; exact hown1)
          have HG1 := Lib.hid hg1
          obtain ⟨g1, k1, rfl, -, -⟩ := owns_shape HO3.out
          clear hown1 hg1 c0 c1 c2 c3 c4 c5
          have HBX := HBU3
          have HXX := Lib.hid ((HBX.out.block _ (lt20 HXW.out)).trans HXW.out)
          have c0 := cell20 (k := 0) HXX.out
          have c1 := cell20 (k := 1) HXX.out
          have c2 := cell20 (k := 2) HXX.out
          have c3 := cell20 (k := 3) HXX.out
          have c4 := cell20 (k := 4) HXX.out
          have c5 := cell20 (k := 5) HXX.out
          simp only [List.getElem?_toArray, List.getElem?_cons_succ, List.getElem?_cons_zero] at c0 c1 c2 c3 c4 c5
          refine ⟨⟨c0, c1, c2, c3, c4, c5⟩, ?_⟩
          have HZ3 := Lib.hid ((HG1.out.block _ (lt20 HZ2.out) (fun e' => by have h1 : U1.heap.size = V.heap.size := Option.some.inj e'; have h2 := HLT.out; omega)).trans HZ2.out)
        case' inl =>
          refine hld_opr 4 rfl rfl (fun K hK => ?_)
          go_wp2_with (at_builtin; go_must (refine wpList_appn Tryz.appEnts rfl _ _ rfl W.heap.size _ 0 [] rfl HO1.out _ J (entsC (ys.take J)) rfl (HP.out.below (by omega) HBU1.out) (entsC_oneC HDT.out) (by omega) HBU1.out.size ?_); intro v1 U2 hown1 hg1)
          have HBU2 := Lib.hid (below_grown HBU1.out HO1.out hg1 (Nat.le_refl _) HBU1.out.size)
          have HO2 := Lib.hid (show (U2).ownsRow W.heap.size 48 6 v1 J (entsC (ys.take J)) by rw [Nat.zero_add, List.nil_append] at hown1; exact hown1)
          have HG1 := Lib.hid hg1
          obtain ⟨g1, k1, rfl, -, -⟩ := owns_shape HO2.out
          clear hown1 hg1 c0 c1 c2 c3 c4 c5
          have HBX := HBU2
          have HXX := Lib.hid ((HBX.out.block _ (lt20 HXW.out)).trans HXW.out)
          have c0 := cell20 (k := 0) HXX.out
          have c1 := cell20 (k := 1) HXX.out
          have c2 := cell20 (k := 2) HXX.out
          have c3 := cell20 (k := 3) HXX.out
          have c4 := cell20 (k := 4) HXX.out
          have c5 := cell20 (k := 5) HXX.out
          simp only [List.getElem?_toArray, List.getElem?_cons_succ, List.getElem?_cons_zero] at c0 c1 c2 c3 c4 c5
          refine ⟨⟨c0, c1, c2, c3, c4, c5⟩, ?_⟩
          refine hld_bar 6 rfl (by kernel_rfl) rfl (fun K hK => ?_)
          go_wp2_with fail
          obtain ⟨U3, hU⟩ : ∃ u : World, u = (U2).alloc (.cells #[.string e.path, .int .i64 e.kind, .int .i64 e.mode, .int .i64 e.time, .slice a1 e.data.length cap1, .string e.link] 48) := ⟨_, rfl⟩
          rw [← hU]
          have hbu : Below (U2).heap.size U2 U3 := by rw [hU]; exact (Below.refl _ _).alloc (Nat.le_refl _) _
          have HZ3 := Lib.hid (show (U3).heap[(U2).heap.size]? = some (.cells #[.string e.path, .int .i64 e.kind, .int .i64 e.mode, .int .i64 e.time, .slice a1 e.data.length cap1, .string e.link] 48 (0, 0)) by rw [hU]; exact new20 _ _)
          have HBU3 := Lib.hid (HBU2.out.trans (hbu.mono HBU2.out.size))
          clear hU c0 c1 c2 c3 c4 c5
          have HBX := HBU3
          have HXX := Lib.hid ((HBX.out.block _ (lt20 HXW.out)).trans HXW.out)
          have c0 := cell20 (k := 0) HXX.out
          have c1 := cell20 (k := 1) HXX.out
          have c2 := cell20 (k := 2) HXX.out
          have c3 := cell20 (k := 3) HXX.out
          have c4 := cell20 (k := 4) HXX.out
          have c5 := cell20 (k := 5) HXX.out
          simp only [List.getElem?_toArray, List.getElem?_cons_succ, List.getElem?_cons_zero] at c0 c1 c2 c3 c4 c5
          refine ⟨⟨c0, c1, c2, c3, c4, c5⟩, ?_⟩
          have HO3 := Lib.hid (own_below HO2.out hbu)
          clear hbu
      all_goals
        skip
        refine hld_bar 7 rfl (by kernel_rfl) rfl (fun K hK => ?_)
        go_wp2_with (at_builtin; go_must (refine wpList_appn Tryz.appEnts rfl _ _ rfl W.heap.size _ J (entsC (ys.take J)) rfl HO3.out _ 1 (entC (.slice a1 e.data.length cap1) e) rfl (row_one HZ3.out) entC_one (by omega) HBU3.out.size ?_); intro v2 U8 hown2 hg2)
        have HBU8 := Lib.hid (below_grown HBU3.out HO3.out hg2 (Nat.le_refl _) HBU3.out.size)
        have HO8 := Lib.hid hown2
        obtain ⟨g2, k2, rfl, -, -⟩ := owns_shape HO8.out
        clear hown2 hg2 c0 c1 c2 c3 c4 c5
        have HBX := HBU8
        have HXX := Lib.hid ((HBX.out.block _ (lt20 HXW.out)).trans HXW.out)
        have c0 := cell20 (k := 0) HXX.out
        have c1 := cell20 (k := 1) HXX.out
        have c2 := cell20 (k := 2) HXX.out
        have c3 := cell20 (k := 3) HXX.out
        have c4 := cell20 (k := 4) HXX.out
        have c5 := cell20 (k := 5) HXX.out
        simp only [List.getElem?_toArray, List.getElem?_cons_succ, List.getElem?_cons_zero] at c0 c1 c2 c3 c4 c5
        refine ⟨⟨c0, c1, c2, c3, c4, c5⟩, ?_⟩
        refine hld_bar 11 rfl (by kernel_rfl) rfl (fun K hK => ?_)
        go_wp2_with (at_builtin; go_must (refine wpList_appn Tryz.appEnts rfl _ _ rfl W.heap.size _ (J + 1) (entsC (ys.take J) ++ entC (.slice a1 e.data.length cap1) e) rfl HO8.out _ N (entsC (ys.drop J)) rfl (HQ.out.below (by omega) HBU8.out) (entsC_oneC HDD.out) (by omega) HBU8.out.size ?_); intro v3 U9 hown3 hg3)
        have HBU9 := Lib.hid (below_grown HBU8.out HO8.out hg3 (Nat.le_refl _) HBU8.out.size)
        have HO9 := Lib.hid hown3
        clear hown3 hg3 c0 c1 c2 c3 c4 c5
        have HBX := HBU9
        have HXX := Lib.hid ((HBX.out.block _ (lt20 HXW.out)).trans HXW.out)
        have c0 := cell20 (k := 0) HXX.out
        have c1 := cell20 (k := 1) HXX.out
        have c2 := cell20 (k := 2) HXX.out
        have c3 := cell20 (k := 3) HXX.out
        have c4 := cell20 (k := 4) HXX.out
        have c5 := cell20 (k := 5) HXX.out
        simp only [List.getElem?_toArray, List.getElem?_cons_succ, List.getElem?_cons_zero] at c0 c1 c2 c3 c4 c5
        refine ⟨⟨c0, c1, c2, c3, c4, c5⟩, ?_⟩
        refine hld_take 12 rfl (by kernel_rfl) (by kernel_rfl) (by kernel_rfl) (fun _ _ _ h => h) rfl (by go_simp) (by intro w' hw'; go_simp; rfl) ?_
        simp only [Act.put, List.setIfInBounds_toArray, List.set_cons_succ, List.set_cons_zero]
        refine hld_done (by kernel_rfl) ?_
        go_wp2_with fail
        go_ret
        have hb9 := HWL.out.trans (HBU9.out.mono HWL.out.size)
        have h1 := ins_end (S := fun _ => True) (T := fun _ => True) (B0 := w.heap.size) (j := J) (y := (.slice a1 e.data.length cap1, e)) hb9 HDY.out ⟨HDE.out, HOK.out⟩ HJL.out (by rw [← HNN.out]; exact HO9.out) HWL.out.size (fun _ h => h) (fun _ _ => trivial)
        rw [HYM.out, ← HIJ.out] at h1
        exact ⟨_, rfl, h1, hb9, own_shp HO9.out⟩
end Go.Proofs.YtdieneaillkbgaaGreatDoor
