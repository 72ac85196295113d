/- Contracts of package pathname: parsePattern. -/
import Derived.Test.YtlipekkiaiaplaaDoorPatD
namespace Go.Proofs.YtlipekkiaiaplaaDoor
open Go.RowKit

def CompR (S : Nat → Prop) (w : World) (c : List Value) (cm : PComp) : Prop := ∃ v, c = [.bool cm.dbl, v] ∧ ItemsAt S w v cm.items
theorem CompR.len {S : Nat → Prop} {w : World} (c : List Value) (cm : PComp) (h : CompR S w c cm) : c.length = 2 := by obtain ⟨v, rfl, _⟩ := h; rfl
def CompsAt (S : Nat → Prop) (w : World) (v : Value) (cs : List PComp) : Prop := SeqAt S w 2 (CompR S w) v cs
theorem CompR.move {S T : Nat → Prop} {w w' : World} {c : List Value} {cm : PComp} (h : CompR S w c cm) (hs : ∀ k, k < w.heap.size → S k → T k ∧ w'.heap[k]? = w.heap[k]?) : CompR T w' c cm := by
  obtain ⟨v, rfl, hr⟩ := h
  exact ⟨v, rfl, hr.move hs⟩
theorem CompsAt.move {S T : Nat → Prop} {w w' : World} {v : Value} {cs : List PComp} (h : CompsAt S w v cs) (hs : ∀ k, k < w.heap.size → S k → T k ∧ w'.heap[k]? = w.heap[k]?) : CompsAt T w' v cs := by
  obtain ⟨cells, h1, h2⟩ := h
  have h3 := RowAt.mono (T := fun k => T k ∧ w'.heap[k]? = w.heap[k]?) h1 hs (by omega)
  exact ⟨cells, (h3.same (w' := w') (fun k hk => hk.2)).weak (fun k hk => hk.1), h2.mono fun c x _ hc => hc.move hs⟩

/-- n zero elements. -/
def zeros (z : List Value) (n : Nat) : List Value := (List.replicate n z).flatten
theorem zeros_succ (z : List Value) (n : Nat) : zeros z (n + 1) = z ++ zeros z n := by simp [zeros, List.replicate_succ]
theorem zeros_len (z : List Value) (n : Nat) : (zeros z n).length = n * z.length := by simp [zeros]
theorem zeros_get (z : List Value) : ∀ (n j : Nat), j < n * z.length → (zeros z n)[j]? = z[j % z.length]?
  | 0, j, h => by omega
  | n + 1, j, h => by
    rw [zeros_succ]
    by_cases hj : j < z.length
    · rw [List.getElem?_append_left hj, Nat.mod_eq_of_lt hj]
    · have h2 : j - z.length < n * z.length := by rw [Nat.add_mul] at h; omega
      rw [List.getElem?_append_right (by omega), zeros_get z n _ h2, Nat.mod_eq_sub_mod (a := j) (by omega)]
/-- What make lays. -/
def made (z : List Value) (n : Nat) : Array Value := (zeros z n).toArray
theorem made_eq (z : List Value) (n : Nat) (hz : 0 < z.length) : madeCells z.toArray (n * z.length) = made z n := by
  apply Array.ext
  · simp [madeCells, made, zeros_len]
  · intro j h1 h2
    simp [madeCells] at h1
    have := zeros_get z n j h1
    have hm : j % z.length < z.length := Nat.mod_lt _ hz
    simp only [madeCells, Array.getElem_map, Array.getElem_range, List.size_toArray]
    rw [getElem!_pos _ _ (by simpa using hm)]
    simp only [made, List.getElem_toArray]
    rw [List.getElem?_eq_getElem (by rw [zeros_len]; exact h1), List.getElem?_eq_getElem hm] at this
    exact (Option.some.inj this).symm
theorem run_made {P : Program} {t e : TypeId} {sz bytes : Nat} {z : Value} (n : Nat) (zl : List Value) (ht : P.underlying t = some (.slice e)) (hi : (P.info? e).map (fun i => (i.zero, i.size, i.bytes)) = some (some z, sz, bytes)) (hz : z.cells = zl.toArray) (hl : zl.length = sz) (hp : 0 < sz) (hb : bytes ≤ 128) (hn : n ≤ 1099511627775) (w : World) :
    (Instr.makeSlice t (.int .i64 (n : Int)) (.int .i64 (n : Int))).run P w = .ok (.slice (some ⟨w.heap.size, 0, none⟩) n n) (w.alloc (.cells (made zl n) e)) := by
  obtain ⟨i, h1, h2, h3, h4⟩ := info_parts hi
  subst h3 h4
  have hby : i.bytes * n ≤ 128 * 1099511627775 := Nat.mul_le_mul hb hn
  have hby2 : (i.bytes : Int) * (n : Int) ≤ 281474976710656 := by rw [← Int.natCast_mul]; omega
  have := run_make (P := P) w t e i z ht h1 h2 .i64 .i64 (n : Int) (n : Int) (by omega) (by omega) hby2 (by omega)
  rw [this, hz]
  simp only [Int.toNat_natCast]
  rw [show i.size = zl.length by omega, made_eq zl n (by omega)]

/-- The state inside parsePattern's loop: the first components are laid. -/
structure CmpInv (w : World) (cb n k : Nat) (cs : List PComp) (wr : World) : Prop where
  box : ∃ done, RowsIn (CompR (cb < ·) wr) done cs ∧ wr.heap[cb]? = some (.cells (done ++ zeros [.bool false, .slice none 0 0] (n - k)).toArray 90 (0, 0))
  below : Below cb w wr
  lt : cb < wr.heap.size
  len : cs.length = k

theorem CmpInv.grown {w : World} {cb n k : Nat} {cs : List PComp} {wr w' : World} (h : CmpInv w cb n k cs wr) (hb : Below wr.heap.size wr w') : CmpInv w cb n k cs w' := by
  obtain ⟨⟨done, hr, hbx⟩, hbl, hlt, hl⟩ := h
  exact ⟨⟨done, hr.mono fun c x _ hc => hc.move fun k hk h2 => ⟨h2, hb.block k hk⟩, by rw [hb.block cb hlt]; exact hbx⟩, hbl.trans (hb.mono (by omega)), Nat.lt_of_lt_of_le hlt hb.size, hl⟩
theorem CmpInv.cells {w : World} {cb n k : Nat} {cs : List PComp} {wr : World} (h : CmpInv w cb n k cs wr) (hk : k < n) : wr.cell? ⟨cb, k * 2, none⟩ = some (.bool false) ∧ wr.cell? ⟨cb, k * 2 + 1, none⟩ = some (.slice none 0 0) ∧ (∀ j, wr.frozen? ⟨cb, j, none⟩ = false) := by
  obtain ⟨⟨done, hr, hbx⟩, hbl, hlt, hl⟩ := h
  have hdl := hr.len CompR.len
  obtain ⟨m, hm⟩ : ∃ m, n - k = m + 1 := ⟨n - k - 1, by omega⟩
  rw [hm, zeros_succ] at hbx
  refine ⟨?_, ?_, fun j => frozen_of_heap hbx⟩
  · rw [cell_of_heap hbx, List.getElem?_toArray, List.getElem?_append_right (by omega), show k * 2 - done.length = 0 by omega]; rfl
  · rw [cell_of_heap hbx, List.getElem?_toArray, List.getElem?_append_right (by omega), show k * 2 + 1 - done.length = 1 by omega]; rfl
theorem set_app (done : List Value) (a b x : Value) (rest : List Value) (i : Nat) (h : i = done.length) : (done ++ a :: b :: rest).set i x = done ++ x :: b :: rest := by
  subst h; simp
theorem set_app1 (done : List Value) (a b x : Value) (rest : List Value) (i : Nat) (h : i = done.length + 1) : (done ++ a :: b :: rest).set i x = done ++ a :: x :: rest := by
  subst h; simp
theorem CmpInv.double {w : World} {cb n k : Nat} {cs : List PComp} {wr : World} (h : CmpInv w cb n k cs wr) (hk : k < n) : CmpInv w cb n (k + 1) (cs ++ [⟨true, []⟩]) (wr.setCell ⟨cb, k * 2, none⟩ (.bool true)) := by
  obtain ⟨⟨done, hr, hbx⟩, hbl, hlt, hl⟩ := h
  have hdl := hr.len CompR.len
  obtain ⟨m, hm⟩ : ∃ m, n - k = m + 1 := ⟨n - k - 1, by omega⟩
  rw [hm, zeros_succ] at hbx
  refine ⟨⟨done ++ [.bool true, .slice none 0 0], ?_, ?_⟩, hbl.setCell (by simp) _, by simp [World.setCell]; exact hlt, by simp [hl]⟩
  · refine RowsIn.snoc (hr.mono fun c x _ hc => hc.move fun j hj h2 => ⟨h2, Below.heap_setCell _ _ _ _ (by simp; omega)⟩) ?_
    exact ⟨_, rfl, SeqAt.nil⟩
  · simp only [World.setCell, Array.getElem?_modify, if_true, hbx, Option.map_some]
    rw [show n - (k + 1) = m by omega]
    simp only [List.setIfInBounds_toArray, Option.some.injEq, Obj.cells.injEq, and_true]
    rw [List.cons_append, List.cons_append, List.nil_append, set_app done _ _ _ _ (k * 2) (by omega)]
    simp
theorem CmpInv.items {w : World} {cb n k : Nat} {cs : List PComp} {its : List PItem} {wr : World} {v : Value} (h : CmpInv w cb n k cs wr) (hk : k < n) (hv : ItemsAt (cb < ·) wr v its) : CmpInv w cb n (k + 1) (cs ++ [⟨false, its⟩]) (wr.setCell ⟨cb, k * 2 + 1, none⟩ v) := by
  obtain ⟨⟨done, hr, hbx⟩, hbl, hlt, hl⟩ := h
  have hdl := hr.len CompR.len
  obtain ⟨m, hm⟩ : ∃ m, n - k = m + 1 := ⟨n - k - 1, by omega⟩
  rw [hm, zeros_succ] at hbx
  refine ⟨⟨done ++ [.bool false, v], ?_, ?_⟩, hbl.setCell (by simp) _, by simp [World.setCell]; exact hlt, by simp [hl]⟩
  · refine RowsIn.snoc (hr.mono fun c x _ hc => hc.move fun j hj h2 => ⟨h2, Below.heap_setCell _ _ _ _ (by simp; omega)⟩) ?_
    exact ⟨_, rfl, hv.move fun j hj h2 => ⟨h2, Below.heap_setCell _ _ _ _ (by simp; omega)⟩⟩
  · simp only [World.setCell, Array.getElem?_modify, if_true, hbx, Option.map_some]
    rw [show n - (k + 1) = m by omega]
    simp only [List.setIfInBounds_toArray, Option.some.injEq, Obj.cells.injEq, and_true]
    rw [List.cons_append, List.cons_append, List.nil_append, set_app1 done _ _ _ _ (k * 2 + 1) (by omega)]
    simp

theorem compsS_snoc : ∀ (ps : List (List UInt8)) (p : List UInt8), compsS (ps ++ [p]) = match compsS ps with | none => none | some cs => match compS p with | none => none | some c => some (cs ++ [c])
  | [], p => by simp only [List.nil_append, compsS]; cases compS p <;> simp
  | q :: ps, p => by
    simp only [List.cons_append, compsS]
    rw [compsS_snoc ps p]
    cases compS q <;> simp
    cases compsS ps <;> simp
    cases compS p <;> simp
theorem compsS_app_none (ps qs : List (List UInt8)) (h : compsS ps = none) : compsS (ps ++ qs) = none := by
  induction ps with
  | nil => simp [compsS] at h
  | cons p ps ih =>
    simp only [List.cons_append, compsS] at h ⊢
    cases hp : compS p with
    | none => rfl
    | some c =>
      rw [hp] at h
      simp only at h
      cases hps : compsS ps with
      | none => simp [ih hps]
      | some cs => rw [hps] at h; simp at h


theorem run_runes {P : Program} {src dst e : TypeId} (s : ByteArray) (hs : P.underlying src = some .string) (hd : P.underlying dst = some (.slice e)) (he : P.underlying e = some (.int .i32)) (hl : s.size ≤ 70368744177664) (w : World) :
    (convert src dst (.string s)).run P w = .ok (.slice (some ⟨w.heap.size, 0, none⟩) (runesL (bl s)).length (grownCap w (runesL (bl s)).length 0 e))
      (w.drew.alloc (.cells (((runesL (bl s)).map (Value.int .i32)) ++ List.replicate (grownCap w (runesL (bl s)).length 0 e - (runesL (bl s)).length) (Value.int .i32 0)).toArray e)) := by
  have e1 := runes_conv s
  have h46 : (Conv.runesFrom s s.size 0 #[]).size ≤ 70368744177664 := by rw [e1]; simp; have := runesL_length s.data.toList; rw [← Lib.size_eq] at this; omega
  have := run_runes_of_string (P := P) w src dst e s hs hd he h46
  rw [this, e1]
  simp [data_bl]
  congr 2
  apply Array.ext'
  simp

/-- A scanner is made of a string. -/
theorem scan_new {w : World} {x : ByteArray} {cap : Nat} (hc : (runesL (bl x)).length ≤ cap) (hm : cap ≤ maxLen) (zs : List Value) :
    ScanAt ((w.alloc (.cells (((runesL (bl x)).map (Value.int .i32)) ++ zs).toArray 21)).alloc (.cells #[.slice (some ⟨w.heap.size, 0, none⟩) (runesL (bl x)).length cap] 93)).drew (w.heap.size + 1) (runesL (bl x)) := by
  refine ⟨_, ?_, by simp, _, cap, rfl, hc, hm, .inr ⟨w.heap.size, 0, rfl, by omega, fun j u hj => ?_⟩⟩
  · have := heap_alloc_new (w.alloc (.cells (((runesL (bl x)).map (Value.int .i32)) ++ zs).toArray 21)) (.cells #[.slice (some ⟨w.heap.size, 0, none⟩) (runesL (bl x)).length cap] 93)
    rw [show (w.alloc (.cells (((runesL (bl x)).map (Value.int .i32)) ++ zs).toArray 21)).heap.size = w.heap.size + 1 by simp] at this
    exact this
  · have h1 := heap_alloc_new w (.cells (((runesL (bl x)).map (Value.int .i32)) ++ zs).toArray 21)
    have h2 : ((w.alloc (.cells (((runesL (bl x)).map (Value.int .i32)) ++ zs).toArray 21)).alloc (.cells #[.slice (some ⟨w.heap.size, 0, none⟩) (runesL (bl x)).length cap] 93)).drew.heap[w.heap.size]? = some (.cells (((runesL (bl x)).map (Value.int .i32)) ++ zs).toArray 21 (0, 0)) := by
      rw [← h1]; exact Below.heap_alloc _ _ _ (by simp)
    rw [Nat.zero_add, cell_of_heap h2, List.getElem?_toArray, List.getElem?_append_left]
    · exact hj
    · exact (List.getElem?_eq_some_iff.1 hj).1
theorem below_two {w : World} {o p : Obj} : Below w.heap.size w ((w.alloc o).alloc p).drew := (((Below.refl _ _).alloc (Nat.le_refl _) _).alloc (by simp) _).drew

/-- What parsePattern leaves. -/
def PatOk (cs : List PComp) (w : World) (e : Ending) (w' : World) : Prop := ∃ v, e = .returned (.tuple #[v, .bool true]) ∧ CompsAt (w.heap.size ≤ ·) w' v cs ∧ Below w.heap.size w w'
def PatRes (o : Option (List PComp)) (w : World) (e : Ending) (w' : World) : Prop :=
  match o with
  | some cs => PatOk cs w e w'
  | none => e = .returned (.tuple #[.slice none 0 0, .bool false]) ∧ Below w.heap.size w w'

set_option maxHeartbeats 2000000 in
theorem parsePattern_any (s : ByteArray) (w : World) (he : Env w) (hs : s.size ≤ 9223372036854775807) : Calls Tryd.prog 43 #[.string s] w (PatRes (patS (bl s)) w) := by
  have HE := Lib.hid he
  clear he
  by_cases h5 : s.size ≤ 512
  · cases htx : textB (bl s)
    · have HT := Lib.hid htx
      clear htx
      go_enter Tryd.func43, Tryd.ntmps43
      go_wp2_with fail
      refine (isText_any s w HE.out hs).mono ?_
      rintro e w1 ⟨rfl, hb1⟩
      rw [HT.out]
      have HB1 := Lib.hid hb1
      clear hb1
      go_wp2_with fail
      go_ret2
      have : patS (bl s) = none := by unfold patS; rw [if_pos (.inr HT.out)]
      rw [this]
      exact ⟨rfl, HB1.out⟩
    · have HT := Lib.hid htx
      clear htx
      go_enter Tryd.func43, Tryd.ntmps43
      go_wp2_with fail
      refine (isText_any s w HE.out hs).mono ?_
      rintro e w1 ⟨rfl, hb1⟩
      rw [HT.out]
      have HB1 := Lib.hid hb1
      clear hb1
      go_wp2_with fail
      refine (split_any s 47 w1 (HE.out.below HB1.out) (by omega)).mono ?_
      rintro e w' ⟨xs, hx, rfl, rfl⟩
      have hxl : xs.length ≤ 513 := by
        have h1 : (splitL 47 (bl s)).length = xs.length := by rw [← hx]; simp
        have h2 := splitL_len_le 47 (bl s)
        rw [← size_bl] at h2
        omega
      have HX := Lib.hid hx
      clear hx
      by_cases h16 : xs.length ≤ 16
      · have hpat : patS (bl s) = compsS (xs.map bl) := by
          unfold patS
          rw [if_neg (by rw [← size_bl, HT.out]; simp; omega), ← HX.out, if_neg (by simp; omega)]
        have HP := Lib.hid hpat
        clear hpat
        have hmk := run_made (P := Tryd.prog) (t := 62) (e := 90) (z := .agg #[.bool false, .slice none 0 0]) xs.length [.bool false, .slice none 0 0] Tryd.underlying62 (bytes := 32) (sz := 2) (by kernel_rfl) rfl rfl (by omega) (by omega) (by omega)
        have hxl1 : ((xs.map Value.string).toArray.size) = xs.length := by simp
        go_wp2_with fail
        clear hmk
        go_loopw [29] (fun i wr => ∃ (k : Nat) (cs : List PComp), k ≤ xs.length ∧ i = .int .i64 k ∧ CmpInv (w1.alloc (.cells (xs.map Value.string).toArray 9)) (w1.heap.size + 1) xs.length k cs wr ∧ compsS ((xs.map bl).take k) = some cs) (fun i _ => xs.length - (intOf i).toNat)
        case atStart =>
          refine ⟨0, [], Nat.zero_le _, rfl, ⟨⟨[], rfl, ?_⟩, (Below.refl _ _).alloc (by simp) _, by simp, rfl⟩, by simp [compsS]⟩
          have := heap_alloc_new (w1.alloc (.cells (xs.map Value.string).toArray 9)) (.cells (made [.bool false, .slice none 0 0] xs.length) 90)
          simpa [made] using this
        case round =>
          obtain ⟨k, cs, hk, rfl, hI, hc⟩ := hrel
          have HI := Lib.hid hI
          have HC := Lib.hid hc
          clear hc
          by_cases hlt : k < xs.length
          · obtain ⟨x, hx⟩ : ∃ x, xs[k]? = some x := ⟨xs[k], by simp [hlt]⟩
            have hcell : wr.cell? ⟨w1.heap.size, k, none⟩ = some (.string x) := (hI.below.cell (p := ⟨w1.heap.size, k, none⟩) (by simp)).trans (row_cell (map_get hx))
            have hxs : x.size ≤ 512 := by have := part_size HX.out hx; omega
            obtain ⟨c0, c1, cf⟩ := hI.cells hlt
            have cf0 := cf (k * 2)
            have cf1 := cf (k * 2 + 1)
            have HK := Lib.hid hx
            clear hx hI cf
            have hsn : compsS ((xs.map bl).take (k + 1)) = match compS (bl x) with | none => none | some c => some (cs ++ [c]) := by
              have e1 : (xs.map bl).take (k + 1) = (xs.map bl).take k ++ [bl x] := by
                rw [List.take_add_one]; simp [HK.out]
              rw [e1, compsS_snoc, HC.out]
            have HSN := Lib.hid hsn
            clear hsn
            by_cases h2 : bl x = [42, 42]
            · have e2 : (x.toList == [42, 42]) = true := by rw [toList_bl, h2]; rfl
              have H2 := Lib.hid h2
              clear h2
              go_wp2_with fail
              go_roundw
              case rel => exact ⟨k + 1, cs ++ [⟨true, []⟩], by omega, by go_num, HI.out.double hlt, by rw [HSN.out, H2.out]; rfl⟩
              case measure => simp [intOf]; omega
            · have e2 : (x.toList == [42, 42]) = false := by rw [toList_bl]; simpa using h2
              have H2 := Lib.hid h2
              clear h2
              have hcv := fun w => run_runes (P := Tryd.prog) (src := 9) (dst := 91) (e := 21) x Tryd.underlying9 Tryd.underlying91 Tryd.underlying21 (by omega) w
              have hrl := runesL_length (bl x)
              rw [← size_bl] at hrl
              have hcg := grownCap_ge wr (runesL (bl x)).length 0 21
              have hcm := grownCap_le_maxLen wr (runesL (bl x)).length 0 21 (by unfold maxLen; omega)
              have HSC := Lib.hid (scan_new (w := wr) hcg hcm (List.replicate (grownCap wr (runesL (bl x)).length 0 21 - (runesL (bl x)).length) (Value.int .i32 0)))
              clear hcg hcm
              go_wp2_with fail
              clear hcv
              cases hit : itemsL (runesL (bl x)) with
              | none =>
                have HIt := Lib.hid hit
                clear hit
                refine (items_any _ _ _ HSC.out (by omega)).mono ?_
                rw [HIt.out]
                rintro e w3 ⟨rfl, hg3⟩
                have hb3 : Below wr.heap.size wr w3 := grownBy.below below_two hg3 (by omega) (by simp; omega)
                have HI3 := Lib.hid (HI.out.grown hb3)
                clear hg3 hb3
                go_wp2_with fail
                go_ret2
                have hnone : compsS ((xs.map bl).take (k + 1)) = none := by rw [HSN.out, compS, if_neg H2.out, HIt.out]
                have : patS (bl s) = none := by
                  rw [HP.out, ← List.take_append_drop (k + 1) (xs.map bl)]
                  exact compsS_app_none _ _ hnone
                rw [this]
                exact ⟨rfl, below_next (below_next HB1.out ((Below.refl _ _).alloc (Nat.le_refl _) _)) (by simpa using HI3.out.below)⟩
              | some its =>
                have HIt := Lib.hid hit
                clear hit
                refine (items_any _ _ _ HSC.out (by omega)).mono ?_
                rw [HIt.out]
                rintro e w3 ⟨v, rfl, hv3, hg3⟩
                have hb3 : Below wr.heap.size wr w3 := grownBy.below below_two hg3 (by omega) (by simp; omega)
                have HI3 := Lib.hid (HI.out.grown hb3)
                have hcblt := HI.out.lt
                have HV3 := Lib.hid (ItemsAt.move (T := (w1.heap.size + 1 < ·)) (w' := w3) hv3 (fun j hj h2 => ⟨by simp at h2; omega, rfl⟩))
                obtain ⟨av, cv, rfl, hnv, hmv, -⟩ := hv3.shape ItemR.len
                clear hg3 hb3 hv3
                obtain ⟨d0, d1, df⟩ := HI3.out.cells hlt
                have df1 := df (k * 2 + 1)
                clear df c0 c1 cf0 cf1 hcell
                by_cases hn0 : its.length = 0
                · have e0 : ((its.length : Int) == 0) = true := by simpa using hn0
                  have hnil : its = [] := List.eq_nil_of_length_eq_zero hn0
                  have HN := Lib.hid hnil
                  clear hnil hn0
                  go_wp2_with fail
                  go_ret2
                  have hnone : compsS ((xs.map bl).take (k + 1)) = none := by rw [HSN.out, compS, if_neg H2.out, HIt.out, HN.out]; rfl
                  have : patS (bl s) = none := by
                    rw [HP.out, ← List.take_append_drop (k + 1) (xs.map bl)]
                    exact compsS_app_none _ _ hnone
                  rw [this]
                  exact ⟨rfl, below_next (below_next HB1.out ((Below.refl _ _).alloc (Nat.le_refl _) _)) (by simpa using HI3.out.below)⟩
                · have e0 : ((its.length : Int) == 0) = false := by simpa using hn0
                  have hnil : its ≠ [] := fun e => hn0 (by rw [e]; rfl)
                  have HN := Lib.hid hnil
                  clear hnil hn0
                  go_wp2_with fail
                  go_roundw
                  case rel => exact ⟨k + 1, cs ++ [⟨false, its⟩], by omega, by go_num, HI3.out.items hlt HV3.out, by rw [HSN.out, compS, if_neg H2.out, HIt.out]; simp [HN.out]⟩
                  case measure => simp [intOf]; omega
          · obtain rfl : k = xs.length := by omega
            clear hI
            go_wp2_with fail
            go_ret2
            have : patS (bl s) = some cs := by
              rw [HP.out, ← HC.out, List.take_of_length_le (by simp)]
            rw [this]
            obtain ⟨⟨done, hr, hbx⟩, hbl, hlt2, hl⟩ := HI.out
            have hsz1 := HB1.out.size
            refine ⟨.slice (some ⟨w1.heap.size + 1, 0, none⟩) cs.length cs.length, by rw [hl]; rfl, ⟨done, ⟨by rw [hr.len CompR.len], _, _, rfl, Nat.le_refl _, by rw [hl]; unfold maxLen; omega, .inr ⟨w1.heap.size + 1, 0, rfl, by omega, fun j u hj => ?_⟩⟩, hr.mono fun c x _ hc => hc.move fun j _ hj => ⟨by omega, rfl⟩⟩, below_next (below_next HB1.out ((Below.refl _ _).alloc (Nat.le_refl _) _)) (by simpa using hbl)⟩
            rw [Nat.zero_add, cell_of_heap hbx, List.getElem?_toArray, List.getElem?_append_left (List.getElem?_eq_some_iff.1 hj).1]
            exact hj
      · go_wp2_with fail
        go_ret2
        have : patS (bl s) = none := by
          unfold patS
          rw [if_neg (by rw [← size_bl, HT.out]; simp; omega), ← HX.out, if_pos (by simp; omega)]
        rw [this]
        exact ⟨rfl, below_next HB1.out ((Below.refl _ _).alloc (Nat.le_refl _) _)⟩
  · go_enter Tryd.func43, Tryd.ntmps43
    go_wp2_with fail
    go_ret2
    have : patS (bl s) = none := by unfold patS; rw [if_pos (.inl (by rw [← size_bl]; omega))]
    rw [this]
    exact ⟨rfl, Below.refl _ _⟩

end Go.Proofs.YtlipekkiaiaplaaDoor
