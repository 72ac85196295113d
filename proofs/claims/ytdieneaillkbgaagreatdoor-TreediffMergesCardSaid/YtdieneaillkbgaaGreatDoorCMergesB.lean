/- Texts of this proof, one after the other: FtA, App, FtB, FtC, FtD, Segs, Held, FtE, SortS, FtF, OwnE, FtL, FtP, FtQ, TdA, RfA, RfB, TdB, TdC, TdD, TdE, Rng, RngW, TdF, FtS, FtT. -/
import Derived.Test.YtdieneaillkbgaaGreatDoorCMergesA
/- Contracts of package filetree: validLink, valid, New; bytes.Clone. -/
namespace Go.Proofs.YtdieneaillkbgaaGreatDoor
open Go.RowKit
theorem cell20 {w : World} {b k : Nat} {cs : Array Value} {t : TypeId} {x : Nat × Nat} (h : w.heap[b]? = some (.cells cs t x)) : w.cell? ⟨b, k, none⟩ = cs[k]? := by simp [World.cell?, h]
theorem indexByte20 (s : ByteArray) (w : World) : Calls Tryz.prog 100 #[.string s, .int .u8 0] w fun e w' => e = .returned (.int .i64 (Lib.indexByte (bl s) 0)) ∧ w = w' :=
  (Tryz.strings_IndexByte s 0 w).mono fun _ _ ⟨he, hw⟩ => ⟨he, hw.symm⟩
set_option maxHeartbeats 1000000 in
theorem validLink_any (s : ByteArray) (w : World) (hs : s.size ≤ maxLen) : Calls Tryz.prog 87 #[.string s] w fun e w' => e = .returned (.bool (vLinkB (bl s))) ∧ w = w' := by
  unfold maxLen at hs
  have HX := Lib.hid (show vLinkB (bl s) = (decide (1 ≤ s.size) && decide (s.size ≤ 512) && !(bl s).contains 0) by unfold vLinkB; rw [size_bl])
  have HI := Lib.hid (indexByte_contains (bl s) 0)
  go_enter Tryz.func87, Tryz.ntmps87
  go_wp2_with (go_at_call 100; refine (indexByte20 s _).mono ?_; rintro e w3 ⟨rfl, rfl⟩)
  · go_ret
    refine ⟨ret_bool ?_, rfl⟩
    have z1 : decide (1 ≤ s.size) = true := by simp; omega
    have z2 : decide (s.size ≤ 512) = true := by simp; omega
    rw [HX.out, z1, z2, ← HI.out]
    rw [Bool.eq_iff_iff]
    simp
  · go_ret
    refine ⟨ret_bool ?_, rfl⟩
    have z2 : decide (s.size ≤ 512) = false := by simp; omega
    rw [HX.out, z2]
    simp
  · go_ret
    refine ⟨ret_bool ?_, rfl⟩
    have z1 : decide (1 ≤ s.size) = false := decide_eq_false (by omega)
    rw [HX.out, z1]
    simp
theorem valid20_is (s : ByteArray) (b : Bool) (w : World) (he : Env w) (h : validP (bl s) = b) : Calls Tryz.prog 86 #[.string s] w fun e w' => e = .returned (.bool b) ∧ Below w.heap.size w w' := by
  rw [← h]; exact valid_any s w he
set_option maxRecDepth 100000 in
set_option maxHeartbeats 2000000 in
theorem validE_any (S : Nat → Prop) (en : Ent) (v : Value) (w : World) (hd : DataAt S w v en.data) (hok : EntOk en) (henv : Env w) : Calls Tryz.prog 63 #[entV v en] w fun e w' => e = .returned (.bool (vEnt en)) ∧ Below w.heap.size w w' := by
  obtain ⟨_, a, cap, rfl, hc, hm, -⟩ := hd
  unfold maxLen at hm
  have HE := Lib.hid henv
  have HO := Lib.hid hok
  have hq1 := hok.pth
  have hq2 := hok.lnk
  unfold maxLen at hq1 hq2
  have HL := Lib.hid (show en.link.toList.isEmpty = decide (en.link.size = 0) by rw [toList_bl, size_bl, Bool.eq_iff_iff]; simp)
  clear henv hok
  unfold entV
  cases hv : validP (bl en.path)
  · have HVP := Lib.hid hv
    clear hv
    go_enter Tryz.func63, Tryz.ntmps63
    go_wp2_with fail
    obtain ⟨W, hW⟩ : ∃ W, W = w.alloc (.cells #[.string en.path, .int .i64 en.kind, .int .i64 en.mode, .int .i64 en.time, .slice a en.data.length cap, .string en.link] 48) := ⟨_, rfl⟩
    rw [← hW]
    have HBW := Lib.hid (show Below w.heap.size w W by rw [hW]; exact (Below.refl _ _).alloc (Nat.le_refl _) _)
    have HBX := Lib.hid (show W.heap[w.heap.size]? = some (.cells #[.string en.path, .int .i64 en.kind, .int .i64 en.mode, .int .i64 en.time, .slice a en.data.length cap, .string en.link] 48 (0, 0)) by rw [hW]; exact heap_alloc_new w _)
    clear hW
    refine (valid20_is en.path false _ (HE.out.below HBW.out) HVP.out).mono ?_
    rintro e w1 ⟨rfl, hb1⟩
    have HB1 := Lib.hid (below_next HBW.out hb1)
    clear hb1
    go_wp2_with fail
    go_ret
    exact ⟨ret_bool (by simp [vEnt, HVP.out]), HB1.out⟩
  · have HVP := Lib.hid hv
    clear hv
    by_cases hmt : 0 ≤ en.mode ∧ en.mode ≤ 511 ∧ 0 ≤ en.time
    · have HH := Lib.hid (show vEnt en = vKind en by obtain ⟨x1, x2, x3⟩ := hmt; unfold vEnt vHeadE; rw [HVP.out]; simp [x1, x2, x3])
      obtain ⟨hm1, hm2, hm3⟩ := hmt
      go_enter Tryz.func63, Tryz.ntmps63
      go_wp2_with fail
      obtain ⟨W, hW⟩ : ∃ W, W = w.alloc (.cells #[.string en.path, .int .i64 en.kind, .int .i64 en.mode, .int .i64 en.time, .slice a en.data.length cap, .string en.link] 48) := ⟨_, rfl⟩
      rw [← hW]
      have HBW := Lib.hid (show Below w.heap.size w W by rw [hW]; exact (Below.refl _ _).alloc (Nat.le_refl _) _)
      have HBX := Lib.hid (show W.heap[w.heap.size]? = some (.cells #[.string en.path, .int .i64 en.kind, .int .i64 en.mode, .int .i64 en.time, .slice a en.data.length cap, .string en.link] 48 (0, 0)) by rw [hW]; exact heap_alloc_new w _)
      clear hW
      refine (valid20_is en.path true _ (HE.out.below HBW.out) HVP.out).mono ?_
      rintro e w1 ⟨rfl, hb1⟩
      have HBXr := Lib.hid ((hb1.block w.heap.size ((Array.getElem?_eq_some_iff.1 HBX.out).1)).trans HBX.out)
      have HB1 := Lib.hid (below_next HBW.out hb1)
      have hlt1 : w.heap.size < w1.heap.size := (Array.getElem?_eq_some_iff.1 HBXr.out).1
      have c0 := cell20 (k := 0) HBXr.out
      have c1 := cell20 (k := 1) HBXr.out
      have c2 := cell20 (k := 2) HBXr.out
      have c3 := cell20 (k := 3) HBXr.out
      have c4 := cell20 (k := 4) HBXr.out
      have c5 := cell20 (k := 5) HBXr.out
      simp only [List.getElem?_toArray, List.getElem?_cons_succ, List.getElem?_cons_zero] at c0 c1 c2 c3 c4 c5
      clear hb1 HBX
      by_cases hk1 : en.kind = 1
      · have e1 : (en.kind == 1) = true := by simp [hk1]
        have HK := Lib.hid (show vKind en = (decide (en.data.length ≤ 1048576) && decide (en.link.size = 0)) by unfold vKind; rw [if_pos hk1])
        clear hk1
        go_wp2_with fail
        · go_ret
          refine ⟨ret_bool ?_, HB1.out⟩
          rw [HH.out, HK.out, HL.out, decide_eq_true (p := en.data.length ≤ 1048576) (by omega)]
          rfl
        · go_ret
          refine ⟨ret_bool ?_, HB1.out⟩
          rw [HH.out, HK.out, decide_eq_false (p := en.data.length ≤ 1048576) (by omega)]
          rfl
      · have e1 : (en.kind == 1) = false := by simp [hk1]
        by_cases hk2 : en.kind = 2
        · have e2 : (en.kind == 2) = true := by simp [hk2]
          have HK := Lib.hid (show vKind en = (decide (en.data.length = 0) && decide (en.link.size = 0)) by unfold vKind; rw [if_neg hk1, if_pos hk2])
          clear hk1 hk2
          go_wp2_with fail
          · go_ret
            refine ⟨ret_bool ?_, HB1.out⟩
            rw [HH.out, HK.out, HL.out, decide_eq_true (p := en.data.length = 0) (by have h : en.data = [] := by assumption
                                                                                     rw [h]; rfl)]
            rfl
          · go_ret
            refine ⟨ret_bool ?_, HB1.out⟩
            rw [HH.out, HK.out, decide_eq_false (p := en.data.length = 0) (fun h => absurd (List.eq_nil_of_length_eq_zero h) (by assumption))]
            rfl
        · have e2 : (en.kind == 2) = false := by simp [hk2]
          by_cases hk3 : en.kind = 3
          · have e3 : (en.kind == 3) = true := by simp [hk3]
            have HK := Lib.hid (show vKind en = (decide (en.data.length = 0) && vLinkB (bl en.link)) by unfold vKind; rw [if_neg hk1, if_neg hk2, if_pos hk3])
            clear hk1 hk2 hk3
            go_wp2_with (go_at_call 87; refine (validLink_any en.link _ HO.out.lnk).mono ?_; rintro e w3 ⟨rfl, rfl⟩)
            · go_ret
              refine ⟨ret_bool ?_, HB1.out⟩
              rw [HH.out, HK.out, decide_eq_true (p := en.data.length = 0) (by have h : en.data = [] := by assumption
                                                                               rw [h]; rfl)]
              rfl
            · go_ret
              refine ⟨ret_bool ?_, HB1.out⟩
              rw [HH.out, HK.out, decide_eq_false (p := en.data.length = 0) (fun h => absurd (List.eq_nil_of_length_eq_zero h) (by assumption))]
              rfl
          · have e3 : (en.kind == 3) = false := by simp [hk3]
            have HK := Lib.hid (show vKind en = false by unfold vKind; rw [if_neg hk1, if_neg hk2, if_neg hk3])
            clear hk1 hk2 hk3
            go_wp2_with fail
            go_ret
            exact ⟨ret_bool (by rw [HH.out, HK.out]), HB1.out⟩
    · have HF := Lib.hid (show vEnt en = false by
        have : vHeadE en = false := by
          unfold vHeadE; rw [Bool.eq_false_iff]; simp; omega
        unfold vEnt; rw [this]; simp)
      go_enter Tryz.func63, Tryz.ntmps63
      go_wp2_with fail
      obtain ⟨W, hW⟩ : ∃ W, W = w.alloc (.cells #[.string en.path, .int .i64 en.kind, .int .i64 en.mode, .int .i64 en.time, .slice a en.data.length cap, .string en.link] 48) := ⟨_, rfl⟩
      rw [← hW]
      have HBW := Lib.hid (show Below w.heap.size w W by rw [hW]; exact (Below.refl _ _).alloc (Nat.le_refl _) _)
      have HBX := Lib.hid (show W.heap[w.heap.size]? = some (.cells #[.string en.path, .int .i64 en.kind, .int .i64 en.mode, .int .i64 en.time, .slice a en.data.length cap, .string en.link] 48 (0, 0)) by rw [hW]; exact heap_alloc_new w _)
      clear hW
      refine (valid20_is en.path true _ (HE.out.below HBW.out) HVP.out).mono ?_
      rintro e w1 ⟨rfl, hb1⟩
      have HBXr := Lib.hid ((hb1.block w.heap.size ((Array.getElem?_eq_some_iff.1 HBX.out).1)).trans HBX.out)
      have HB1 := Lib.hid (below_next HBW.out hb1)
      have hlt1 : w.heap.size < w1.heap.size := (Array.getElem?_eq_some_iff.1 HBXr.out).1
      have c0 := cell20 (k := 0) HBXr.out
      have c1 := cell20 (k := 1) HBXr.out
      have c2 := cell20 (k := 2) HBXr.out
      have c3 := cell20 (k := 3) HBXr.out
      have c4 := cell20 (k := 4) HBXr.out
      have c5 := cell20 (k := 5) HBXr.out
      simp only [List.getElem?_toArray, List.getElem?_cons_succ, List.getElem?_cons_zero] at c0 c1 c2 c3 c4 c5
      clear hb1 HBX
      go_wp2_with fail
      all_goals first
        | (exfalso; omega)
        | (go_ret
           exact ⟨ret_bool (by rw [HF.out]), HB1.out⟩)
end Go.Proofs.YtdieneaillkbgaaGreatDoor

/- append with a whole slice behind it, onto a row that the call owns. -/
namespace Go.Proofs.YtdieneaillkbgaaGreatDoor
open Go Go.RowKit
theorem run_append_zero {P : Program} {w : World} (base : Nat) (t ty e : TypeId) (i : TypeInfo) (size : Nat) (ht : P.underlying t = some (.slice e)) (hi : P.info? e = some i)
    (v : Value) (n : Nat) (xs : List Value) (hown : w.ownsRow base e size v n xs) (a : Option Addr) (c : Nat) :
    (Builtin.append_ #[t, t] ty #[v, .slice a 0 c]).run P w = .ok v w := by
  rcases hown.2 with ⟨rfl, rfl⟩ | ⟨g, cap, cur, rfl, _, _, hnc, _⟩
  · cases a <;> simp [Builtin.append_, run_underlying ht, sizeOf, typeInfo, hi, Builtin.lenOf, Builtin.firstCells, loadCells, loadCellsFrom]
  · cases a <;> simp [Builtin.append_, run_underlying ht, sizeOf, typeInfo, hi, Builtin.lenOf, Builtin.firstCells, hnc, storeCells, loadCells, loadCellsFrom]
theorem wpList_appn {P : Program} {ops : Array Oper} {rest : List Oper} {o : Oper} {a : Act} {Q : Exit → Act → World → Prop} {w : World} {t e : TypeId} {sz bytes : Nat} {S : Nat → Prop} (T : AppTy P t e sz bytes) (hgd : o.guard = none) (s x : Operand)
    (ho : o.op = .call { callee := .builtin .append, args := #[s, x], argTypes := #[t, t] }) (base : Nat) (v : Value) (n : Nat) (xs : List Value) (hs : a.eval s = v) (hown : w.ownsRow base e sz v n xs) (vx : Value) (m : Nat) (news : List Value)
    (hx : a.eval x = vx) (hrow : RowAt S w sz vx m news) (h1 : ∀ u ∈ news, u.oneCell' = true) (hn : n + m < 1099511627775) (hbase : base ≤ w.heap.size)
    (h : ∀ v' w', w'.ownsRow base e sz v' (n + m) (xs ++ news) → w.grownBy w' v.ownBlock → wpList P ops Q rest (a.put o.dst v') w') : wpList P ops Q (o :: rest) a w := by
  obtain ⟨ht, ⟨i, z, h11, h12, h13, h14, h15⟩, hpos, hsm⟩ := T
  obtain ⟨hl, ad, cap, rfl, _, _, h0⟩ := hrow
  refine wpList_plain hgd fun K hK => ?_
  have hz : m = 0 → o.wp P a w K Q := by
    rintro rfl
    have hn0 : news = [] := List.eq_nil_of_length_eq_zero (by rw [hl]; simp)
    subst hn0
    have hrun := run_append_zero (P := P) (w := w) base t o.type e i sz ht h11 v n xs hown ad cap
    unfold Oper.wp execOp
    simp only [ho, resolve, invoke, builtin, Sem.run_bind, Sem.run_pure, Result.andThen_ok, List.map_toArray, List.map_cons, List.map_nil, hs, hx, hrun]
    exact hK _ _ (h v w (by simpa using hown) ⟨rfl, rfl, rfl, Nat.le_refl _, fun _ _ _ => rfl⟩)
  rcases h0 with h0 | ⟨b, of, rfl, _, hc⟩
  · exact hz h0
  · have hnews : ∀ (j : Nat) u, news[j]? = some u → w.cell? ((⟨b, of, none⟩ : Addr).add j) = some u := fun j u hj => by rw [add_lit]; exact hc j u hj
    have h63 : n + m ≤ maxLen := by unfold maxLen; omega
    have hby : (n + m) * bytes ≤ 140737488355328 := by
      have : (n + m) * bytes ≤ 1099511627775 * 128 := Nat.mul_le_mul (by omega) hsm
      omega
    obtain ⟨v', w', hr, h2, hg, _⟩ := run_append_own (P := P) w base t o.type e i z sz bytes ht h11 h12 h13 h14 h15 hpos v n xs hown ⟨b, of, none⟩ m cap news hl hnews h1 h63 hby hbase
    unfold Oper.wp execOp
    simp only [ho, resolve, invoke, builtin, Sem.run_bind, Sem.run_pure, Result.andThen_ok, List.map_toArray, List.map_cons, List.map_nil, hs, hx, hr]
    exact hK _ _ (h v' w' h2 hg)
end Go.Proofs.YtdieneaillkbgaaGreatDoor

/- Contracts of package filetree: bytes.Clone, copied. -/
namespace Go.Proofs.YtdieneaillkbgaaGreatDoor
open Go.RowKit
theorem clone_any (S : Nat → Prop) (v : Value) (bs : List UInt8) (w : World) (hd : DataAt S w v bs) (hl : bs.length ≤ 140737488355328) : Calls Tryz.prog 89 #[v] w fun e w' => ∃ v', e = .returned v' ∧ w'.ownsRow w.heap.size 5 1 v' bs.length (bs.map u8V) ∧ Below w.heap.size w w' := by
  obtain ⟨_, a, cap, rfl, hn, hm, h0⟩ := hd
  cases a with
  | none =>
    have hz : bs.length = 0 := by
      rcases h0 with h0 | ⟨b, o, ha, _⟩
      · exact h0
      · cases ha
    obtain rfl := List.eq_nil_of_length_eq_zero hz
    refine (Any.bytes_Clone_nil Tryz.laysClone _ _ w).mono ?_
    rintro e w' ⟨rfl, rfl⟩
    exact ⟨_, rfl, World.ownsRow_nil _ _ _ _, Below.refl _ _⟩
  | some a =>
    refine (Any.bytes_Clone_at Tryz.laysClone a bs.length cap (bs.map fun b => (b.toNat : Int)) w (by simp) hl ?_).mono ?_
    · intro i hi
      rcases h0 with h0 | ⟨b, o, ha, _, hc⟩
      · omega
      · cases ha
        rw [add_lit]
        refine hc i _ ?_
        simp [hi, u8V]
    · rintro e w' ⟨v', rfl, h1, _, h2⟩
      refine ⟨v', rfl, ?_, h2⟩
      rw [List.map_map] at h1
      exact h1
theorem data_of_owns {w : World} {base : Nat} {v : Value} {bs : List UInt8} (h : w.ownsRow base 5 1 v bs.length (bs.map u8V)) : DataAt (fun k => base ≤ k ∧ k < w.heap.size) w v bs :=
  RowAt.mono (row_of_owns h) (fun k hk hS => ⟨hS.1, hk⟩) (by omega)
theorem owns_le20 {w : World} {base base' size n : Nat} {e : TypeId} {v : Value} {xs : List Value} (h : w.ownsRow base e size v n xs) (hb : base' ≤ base) : w.ownsRow base' e size v n xs :=
  ⟨h.1, h.2.imp id (fun ⟨g, cap, cur, e1, h1, h2⟩ => ⟨g, cap, cur, e1, Nat.le_trans hb h1, h2⟩)⟩
theorem frozen20 {w : World} {b k : Nat} {cs : Array Value} {t : TypeId} (h : w.heap[b]? = some (.cells cs t (0, 0))) : w.frozen? ⟨b, k, none⟩ = false := by simp [World.frozen?, h]
theorem set20 {w : World} {b k : Nat} {cs : Array Value} {t : TypeId} (h : w.heap[b]? = some (.cells cs t (0, 0))) (x : Value) : (w.setCell ⟨b, k, none⟩ x).heap[b]? = some (.cells (cs.setIfInBounds k x) t (0, 0)) := by
  simp only [World.setCell, Array.getElem?_modify, if_true, h, Option.map_some]; rfl
theorem setOther20 {w : World} {b c k : Nat} {o : Obj} (h : w.heap[b]? = some o) (hne : b ≠ c) (x : Value) : (w.setCell ⟨c, k, none⟩ x).heap[b]? = some o := by
  rw [Below.heap_setCell _ _ _ _ hne]; exact h
theorem alloc20 {w : World} {b : Nat} {o : Obj} (h : w.heap[b]? = some o) (x : Obj) : (w.alloc x).heap[b]? = some o := by
  have hlt := (Array.getElem?_eq_some_iff.1 h).1
  rw [Below.heap_alloc _ _ _ hlt]; exact h
theorem new20 (w : World) (x : Obj) : (w.alloc x).heap[w.heap.size]? = some x := by show (w.heap.push x)[w.heap.size]? = some x; simp
theorem new20b (w : World) (x y : Obj) : ((w.alloc x).alloc y).heap[w.heap.size + 1]? = some y := by
  have := new20 (w.alloc x) y
  rwa [show (w.alloc x).heap.size = w.heap.size + 1 by show (w.heap.push x).size = _; simp] at this
theorem lt20 {w : World} {b : Nat} {o : Obj} (h : w.heap[b]? = some o) : b < w.heap.size := (Array.getElem?_eq_some_iff.1 h).1
theorem six20 {w : World} {b : Nat} {a0 a1 a2 a3 a4 a5 x0 x1 x2 x3 x4 x5 : Value} {t : TypeId} (h : w.heap[b]? = some (.cells #[a0, a1, a2, a3, a4, a5] t (0, 0))) :
    ((((((w.setCell ⟨b, 0, none⟩ x0).setCell ⟨b, 1, none⟩ x1).setCell ⟨b, 2, none⟩ x2).setCell ⟨b, 3, none⟩ x3).setCell ⟨b, 4, none⟩ x4).setCell ⟨b, 5, none⟩ x5).heap[b]? = some (.cells #[x0, x1, x2, x3, x4, x5] t (0, 0)) :=
  set20 (set20 (set20 (set20 (set20 (set20 h x0) x1) x2) x3) x4) x5
theorem below_set20 {B : Nat} {a w : World} {b k : Nat} {x : Value} (h : Below B a w) (hb : B ≤ b) : Below B a (w.setCell ⟨b, k, none⟩ x) := Below.setCell h hb x
end Go.Proofs.YtdieneaillkbgaaGreatDoor

/- Contracts of package filetree: same, New, parent. -/
namespace Go.Proofs.YtdieneaillkbgaaGreatDoor
open Go.RowKit
theorem conv_zero20 (a : Option Addr) (c : Nat) (w : World) : (convert 46 9 (.slice a 0 c)).run Tryz.prog w = .ok (.string ⟨#[]⟩) w := by cases a <;> kernel_rfl
theorem conv_data {S : Nat → Prop} {w : World} {v : Value} {bs : List UInt8} (hd : DataAt S w v bs) : (convert 46 9 v).run Tryz.prog w = .ok (.string (strOfNums (bs.map fun b => (b.toNat : Int)))) w := by
  obtain ⟨_, a, cap, rfl, hn, hm, h0⟩ := hd
  rcases h0 with h0 | ⟨b, o, rfl, _, hc⟩
  · obtain rfl := List.eq_nil_of_length_eq_zero h0
    exact conv_zero20 a cap w
  · exact run_convert_bytes_arg (P := Tryz.prog) w 46 5 Tryz.underlying46 Tryz.underlying5 b o bs.length cap (bs.map fun b => (b.toNat : Int)) (by simp) (fun i hi => by
      rw [hc i (u8V bs[i]) (by simp [hi])]
      simp [u8V, List.getD, hi]) 9 Tryz.underlying9
theorem equal20 (S T : Nat → Prop) (v1 v2 : Value) (bs cs : List UInt8) (w : World) (h1 : DataAt S w v1 bs) (h2 : DataAt T w v2 cs) : Calls Tryz.prog 85 #[v1, v2] w fun e w' => e = .returned (.bool (decide (bs = cs))) ∧ w = w' := by
  refine (Tryz.bytes_Equal v1 v2 _ _ w (conv_data h1) (conv_data h2)).mono ?_
  rintro e w' ⟨rfl, rfl⟩
  refine ⟨ret_bool ?_, rfl⟩
  have hb : ∀ l : List UInt8, Lib.bytesOf (l.map fun b => (b.toNat : Int)) = l := by
    intro l
    induction l with
    | nil => rfl
    | cons x l ih => simp [Lib.bytesOf] at ih ⊢; exact ih
  rw [hb, hb, Bool.eq_iff_iff]
  simp
end Go.Proofs.YtdieneaillkbgaaGreatDoor

/- Contracts of package filetree: New, parent. -/
namespace Go.Proofs.YtdieneaillkbgaaGreatDoor
open Go.RowKit Go.Maps
theorem zeroE_run (w : World) : (zeroValue 48).run Tryz.prog w = .ok zeroE w := by kernel_rfl
theorem mapTy : Tryz.prog.underlying 75 = some (.map 9 48) := Tryz.underlying75
theorem parent20 (p q : ByteArray) (w : World) (he : Env w) (hv : validP (bl p) = true) (hq : q = ⟨(parentL (bl p)).toArray⟩) :
    Calls Tryz.prog 64 #[.string p] w fun e w' => e = .returned (.tuple #[.string q, .bool true]) ∧ Below w.heap.size w w' := by
  rw [hq]; exact parent_any p w he hv
theorem empty20 (q : ByteArray) : q.toList.isEmpty = decide (bl q = []) := by rw [toList_bl, Bool.eq_iff_iff]; simp
end Go.Proofs.YtdieneaillkbgaaGreatDoor

/- A region that draws its order, cut into segments: within a segment the operations leave the world alone, and between segments there is one operation for which all earlier ones are waited for. Then the order of the text serves. -/
namespace Go.Proofs.YtdieneaillkbgaaGreatDoor
open Go
section
variable {P : Program} {ops : Array Oper} {md : Region.Mode} {w : World}
/-- Every operation before m is waited for by a later one up to m; every operation behind m waits for one from m on. -/
def cutB (md : Region.Mode) (ops : Array Oper) (m : Nat) : Bool :=
  ((List.range m).all fun i => decide (ops.size ≤ m) || (List.range (m + 1)).any fun j => decide (i < j) && Region.waitsFor md ops j i) &&
  ((List.range ops.size).all fun t => decide (t ≤ m) || (List.range t).any fun u => decide (m ≤ u) && Region.waitsFor md ops t u)
theorem cut_waits {m : Nat} {listed : Array Bool} (hc : cutB md ops m = true) (inv : HeadInv md ops m listed) :
    ∀ (d i : Nat), m - i = d → i < m → listed.getD i true = false → ∀ t, m ≤ t → t ∉ Region.ready md ops listed := by
  simp only [cutB, Bool.and_eq_true] at hc
  obtain ⟨hs, hch⟩ := hc
  intro d
  induction d using Nat.strongRecOn with
  | _ d ih =>
    intro i hd hi hun t ht hr
    obtain ⟨_, ot, hot, hall⟩ := mem_ready.1 hr
    have htlt : t < ops.size := (Array.getElem?_eq_some_iff.1 hot).1
    rcases Nat.lt_or_ge m t with htm | htm
    · have h1 := List.all_eq_true.1 hch t (List.mem_range.2 htlt)
      simp only [Bool.or_eq_true, decide_eq_true_eq] at h1
      rcases h1 with h1 | h1
      · omega
      · obtain ⟨u, hu, hu2⟩ := List.any_eq_true.1 h1
        simp only [Bool.and_eq_true, decide_eq_true_eq] at hu2
        obtain ⟨o', ho', e, he, hb, hon⟩ := Region.waitsFor_spec hu2.2
        have ho : o' = ot := Option.some.inj (ho'.symm.trans hot)
        subst ho
        have h2 := hall e he hb
        rw [hon, getD_both (inv.tail u hu2.1 (by have := List.mem_range.1 hu; omega))] at h2
        cases h2
    · have htm' : t = m := by omega
      subst htm'
      have h1 := List.all_eq_true.1 hs i (List.mem_range.2 hi)
      simp only [Bool.or_eq_true, decide_eq_true_eq] at h1
      rcases h1 with h1 | h1
      · omega
      · obtain ⟨j, hj, hj2⟩ := List.any_eq_true.1 h1
        simp only [Bool.and_eq_true, decide_eq_true_eq] at hj2
        obtain ⟨oj, hoj, e, he, hb, hon⟩ := Region.waitsFor_spec hj2.2
        have hjle := List.mem_range.1 hj
        rcases Nat.lt_or_ge j t with hjt | hjt
        · cases hl : listed.getD j false with
          | true =>
            have h2 := inv.closed j oj hoj hl e he hb
            rw [hon, getD_both hun] at h2
            cases h2
          | false =>
            exact ih (t - j) (by omega) j rfl hjt (getD_in (by rw [inv.size]; omega) hl) t (Nat.le_refl _) hr
        · have hjt' : j = t := by omega
          subst hjt'
          have ho : oj = ot := Option.some.inj (hoj.symm.trans hot)
          subst ho
          have h2 := hall e he hb
          rw [hon, getD_both hun] at h2
          cases h2
theorem seg_first {m i : Nat} {oi : Oper} {v : Value} {L : Array Bool → Act → Prop} (hi : ops[i]? = some oi) (hsel : ∀ (j : Nat) (o : Oper) cs b, ops[j]? = some o → o.op ≠ .select cs b)
    (hc : cutB md ops m = true) (hin : i < m) (hdone : ∀ listed a, L listed a → ∀ j ∈ Region.ready md ops listed, m ≤ j) :
    ∀ (f : Nat) (listed : Array Bool) (a : Act), HeadInv md ops m listed →
      (∀ j oj, ops[j]? = some oj → j ≠ i → listed.getD j true = false → (∀ e ∈ oj.after, Region.binds md e = true → e.on ≠ i) → oi.apart ops oj = true) →
      i ∈ Region.ready md ops listed → YieldsAt P ops w oi v a →
      wpAnyL P md ops w m L f (listed.setIfInBounds i true) (a.put oi.dst v) → wpAnyL P md ops w m L (f + 1) listed a := by
  intro f
  induction f with
  | zero =>
    intro listed a inv _ hr hy H
    have hun := (mem_ready.1 hr).1
    refine ⟨List.ne_nil_of_mem hr, fun j hj => ?_⟩
    have hjm : j < m := Nat.lt_of_not_le fun h => cut_waits hc inv _ i rfl hin hun j h hj
    refine ⟨hjm, ?_⟩
    by_cases hji : j = i
    · subst hji; exact hy.stOp hi H
    · have := hdone _ _ H j (ready_mono hj hji)
      omega
  | succ f ih =>
    intro listed a inv hfree hr hy H
    have hun := (mem_ready.1 hr).1
    refine ⟨List.ne_nil_of_mem hr, fun j hj => ?_⟩
    have hjm : j < m := Nat.lt_of_not_le fun h => cut_waits hc inv _ i rfl hin hun j h hj
    refine ⟨hjm, ?_⟩
    by_cases hji : j = i
    · subst hji; exact hy.stOp hi H
    · have h1 := (H.2 j (ready_mono hj hji)).2
      obtain ⟨hjun, oj, hoj, hall⟩ := mem_ready.1 hj
      have hnot : ∀ e ∈ oj.after, Region.binds md e = true → e.on ≠ i := fun e he hb heq => by
        have h1 := hall e he hb
        rw [heq, getD_both hun] at h1
        cases h1
      have h2 := stOp_put hoj (hfree j oj hoj hji hjun hnot) (fun cs b => hsel i oi cs b hi) (fun cs b => hsel j oj cs b hoj) hy h1
      refine stOp_mono (fun a' h3 => ih (listed.setIfInBounds j true) a' (inv.set hj hjm) (fun k ok hk hki hunk hno => ?_) (ready_mono hr (Ne.symm hji)) h3.1 ?_) h2
      · refine hfree k ok hk hki ?_ hno
        by_cases hjk : j = k
        · subst hjk; exact hjun
        · rw [getD_set_ne true hjk] at hunk; exact hunk
      · rw [Array.setIfInBounds_comm _ _ hji]
        exact h3.2
/-- The list behind n operations from k on. -/
def behind : Nat → Nat → Array Bool → Array Bool
  | 0, _, listed => listed
  | n + 1, k, listed => behind n (k + 1) (listed.setIfInBounds k true)
/-- The n operations from k on may be taken in the order of the text. -/
def segB (md : Region.Mode) (ops : Array Oper) : Nat → Nat → Array Bool → Bool
  | 0, k, listed => (Region.ready md ops listed).all fun j => decide (k ≤ j)
  | n + 1, k, listed => (Region.ready md ops listed).contains k && Region.free md ops listed k && segB md ops n (k + 1) (listed.setIfInBounds k true)
theorem seg_lex {m : Nat} {Lq : Act → Prop} (hsel : Region.noSelect ops = true) (hc : cutB md ops m = true) (LM : Array Bool) :
    ∀ (l : List Oper) (k : Nat) (listed : Array Bool) (a : Act), (∀ j, j < l.length → l[j]? = ops[k + j]?) → k + l.length = m → HeadInv md ops m listed →
    segB md ops l.length k listed = true → behind l.length k listed = LM → wpStill P ops w Lq l a →
    wpAnyL P md ops w m (fun listed' a' => listed' = LM ∧ Lq a') l.length listed a ∧ ∀ j ∈ Region.ready md ops LM, m ≤ j
  | [], k, listed, a, _, hk, _, hB, hL, h => by
    have hkm : k = m := by simpa using hk
    subst hkm
    have hLM : listed = LM := hL
    subst hLM
    refine ⟨⟨rfl, h⟩, fun j hj => ?_⟩
    have := List.all_eq_true.1 hB j hj
    simpa using this
  | o :: l, k, listed, a, hl, hk, inv, hB, hL, h => by
    have h0 : ops[k]? = some o := by simpa using (hl 0 (by simp)).symm
    simp only [List.length_cons, segB, Bool.and_eq_true] at hB
    obtain ⟨⟨hr, hf⟩, hB'⟩ := hB
    have hkm : k < m := by simp only [List.length_cons] at hk; omega
    have hr' : k ∈ Region.ready md ops listed := by simpa using hr
    have hst : stOp P ops w k (wpStill P ops w Lq l) a := by unfold stOp; simp only [h0]; exact h
    obtain ⟨v, hy, hK⟩ := yieldsAt_of_stOp h0 hst
    have IH := seg_lex hsel hc LM l (k + 1) _ _ (fun j hj => by have := hl (j + 1) (by simp; omega); simpa [Nat.add_assoc, Nat.add_comm 1 j] using this) (by simp only [List.length_cons] at hk; omega) (inv.set hr' hkm) hB' hL hK
    refine ⟨seg_first h0 (Region.noSelect_spec hsel) hc hkm (fun listed' a' hL' => ?_) l.length listed a inv (Region.free_spec h0 hf) hr' hy IH.1, IH.2⟩
    rw [hL'.1]; exact IH.2
/-- The list is closed, and nothing from m on is in it. -/
def headB (md : Region.Mode) (ops : Array Oper) (m : Nat) (listed : Array Bool) : Bool :=
  decide (listed.size = ops.size) &&
  ((List.range ops.size).all fun j => !listed.getD j false || match ops[j]? with | some oj => oj.after.all (fun e => !Region.binds md e || listed.getD e.on false) | none => true) &&
  ((List.range ops.size).all fun t => decide (t < m) || !listed.getD t true)
theorem headB_spec {m : Nat} {listed : Array Bool} (h : headB md ops m listed = true) : HeadInv md ops m listed := by
  simp only [headB, Bool.and_eq_true, decide_eq_true_eq] at h
  obtain ⟨⟨h1, h2⟩, h3⟩ := h
  refine ⟨h1, fun j oj hj hl e he hb => ?_, fun t ht ht2 => ?_⟩
  · have := List.all_eq_true.1 h2 j (List.mem_range.2 (Array.getElem?_eq_some_iff.1 hj).1)
    rw [hl, hj] at this
    simp only [Bool.not_true, Bool.false_or] at this
    have := Array.all_eq_true'.1 this e he
    rw [hb] at this
    simpa using this
  · have := List.all_eq_true.1 h3 t (List.mem_range.2 ht2)
    simp only [Bool.or_eq_true, decide_eq_true_eq] at this
    rcases this with h | h
    · omega
    · simpa using h
/-- The segments: some n: n operations that leave the world alone; none: one operation that all wait for. -/
def segsB (md : Region.Mode) (ops : Array Oper) : List (Option Nat) → Nat → Array Bool → Bool
  | [], k, listed => decide (k = ops.size) && (Region.ready md ops listed).isEmpty
  | some n :: s, k, listed => decide (k + n ≤ ops.size) && cutB md ops (k + n) && headB md ops (k + n) listed && segB md ops n k listed && segsB md ops s (k + n) (behind n k listed)
  | none :: s, k, listed => decide (k < ops.size) && decide (Region.ready md ops listed = [k]) && segsB md ops s (k + 1) (listed.setIfInBounds k true)
/-- A segment, closed to the look of 'whnf'. -/
@[irreducible] def Seg (P : Program) (ops : Array Oper) (w : World) (Q : Act → Prop) (l : List Oper) (a : Act) : Prop := wpStill P ops w Q l a
theorem Seg.out {Q : Act → Prop} {l : List Oper} {a : Act} (h : Seg P ops w Q l a) : wpStill P ops w Q l a := by unfold Seg at h; exact h
theorem Seg.of {Q : Act → Prop} {l : List Oper} {a : Act} (h : wpStill P ops w Q l a) : Seg P ops w Q l a := by unfold Seg; exact h
@[irreducible] def Bar (P : Program) (ops : Array Oper) (next : Act → World → Prop) (Q : Exit → Act → World → Prop) (l : List Oper) (a : Act) (w : World) : Prop := wpList P ops (Exit.then next Q) l a w
theorem Bar.out {next : Act → World → Prop} {Q : Exit → Act → World → Prop} {l : List Oper} {a : Act} (h : Bar P ops next Q l a w) : wpList P ops (Exit.then next Q) l a w := by unfold Bar at h; exact h
theorem Bar.of {next : Act → World → Prop} {Q : Exit → Act → World → Prop} {l : List Oper} {a : Act} (h : wpList P ops (Exit.then next Q) l a w) : Bar P ops next Q l a w := by unfold Bar; exact h
def wpSegs (P : Program) (ops : Array Oper) (Q : Exit → Act → World → Prop) : List (Option Nat) → List Oper → Act → World → Prop
  | [], _, a, w => Q .normal a w
  | some n :: s, l, a, w => Seg P ops w (fun a' => wpSegs P ops Q s (l.drop n) a' w) (l.take n) a
  | none :: s, l, a, w => Bar P ops (fun a' w' => wpSegs P ops Q s (l.drop 1) a' w') Q (l.take 1) a w
theorem wpAny_of_segs {Q : Exit → Act → World → Prop} (hsel : Region.noSelect ops = true) : ∀ (s : List (Option Nat)) (l : List Oper) (k : Nat) (listed : Array Bool) (a : Act) (w : World),
    (∀ j, l[j]? = ops[k + j]?) → segsB md ops s k listed = true → wpSegs P ops Q s l a w → wpAny P md ops Q (ops.size - k) listed a w
  | [], l, k, listed, a, w, hl, hB, h => by
    simp only [segsB, Bool.and_eq_true, decide_eq_true_eq] at hB
    rw [hB.1, Nat.sub_self]
    exact ⟨by simpa using hB.2, h⟩
  | some n :: s, l, k, listed, a, w, hl, hB, h => by
    simp only [segsB, Bool.and_eq_true, decide_eq_true_eq] at hB
    obtain ⟨⟨⟨⟨hn, hc⟩, hh⟩, hs⟩, hB'⟩ := hB
    have hll : l.length = ops.size - k := by
      have h1 : ∀ j, j < l.length ↔ k + j < ops.size := fun j => by
        constructor
        · intro hj; have := hl j; rw [List.getElem?_eq_getElem hj] at this; exact (Array.getElem?_eq_some_iff.1 this.symm).1
        · intro hj; have := hl j; rw [Array.getElem?_eq_getElem hj] at this; exact (List.getElem?_eq_some_iff.1 this).1
      rcases Nat.lt_trichotomy l.length (ops.size - k) with h2 | h2 | h2
      · have := (h1 l.length).2 (by omega); omega
      · exact h2
      · have := (h1 (ops.size - k)).1 h2; omega
    have htl : (l.take n).length = n := by simp; omega
    have H := seg_lex (P := P) (md := md) (w := w) hsel hc (behind n k listed) (l.take n) k listed a (fun j hj => by
      rw [htl] at hj
      rw [List.getElem?_take, if_pos hj]; exact hl j) (by rw [htl]) (headB_spec hh) (by rw [htl]; exact hs) (by rw [htl]) (Seg.out h)
    have := wpAny_of_head (Q' := Q) (g := ops.size - (k + n)) (fun listed' a' hL => by
      rw [hL.1]
      exact wpAny_of_segs hsel s (l.drop n) (k + n) _ a' w (fun j => by rw [List.getElem?_drop, hl, Nat.add_assoc]) hB' hL.2) _ _ _ H.1
    rw [htl, show n + (ops.size - (k + n)) = ops.size - k by omega] at this
    exact this
  | none :: s, l, k, listed, a, w, hl, hB, h => by
    simp only [segsB, Bool.and_eq_true, decide_eq_true_eq] at hB
    obtain ⟨⟨hk, hr⟩, hB'⟩ := hB
    obtain ⟨o, ho⟩ : ∃ o, ops[k]? = some o := ⟨ops[k], by simp [hk]⟩
    have h0 : l[0]? = some o := by rw [hl]; exact ho
    obtain ⟨l', rfl⟩ : ∃ l', l = o :: l' := by
      cases l with
      | nil => simp at h0
      | cons x y => simp at h0; exact ⟨y, by rw [h0]⟩
    rw [show ops.size - k = (ops.size - (k + 1)) + 1 by omega]
    refine ⟨fun h1 => (by rw [hr] at h1; cases h1), fun i hi => ?_⟩
    rw [hr] at hi
    have hik : i = k := by simpa using hi
    subst hik
    have hw : wpOp P ops Q i (fun a' w' => wpSegs P ops Q s l' a' w') a w := by
      unfold wpOp
      simp only [ho]
      exact Bar.out h
    exact wpOp_mono (fun a' w' h' => wpAny_of_segs hsel s l' (i + 1) _ a' w' (fun j => by have := hl (j + 1); simpa [Nat.add_assoc, Nat.add_comm 1 j] using this) hB' h') hw
theorem wp_region_segs {id : Nat} {Q : Exit → Act → World → Prop} {a : Act} {w : World} {l : List Oper} (s : List (Option Nat)) (hm : P.follows .mixedOrders = true) (hsel : Region.noSelect l.toArray = true)
    (hB : segsB .any l.toArray s 0 (Array.replicate l.toArray.size false) = true) (h : wpSegs P l.toArray Q s l a w.drew) : (Code.region id l.toArray true).wp P Q a w := by
  refine wp_region_any hm ?_
  have := wpAny_of_segs (md := .any) (P := P) (Q := Q) hsel s l 0 _ a w.drew (by simp) hB h
  simpa using this
/-- The steps of a segment; the region's operations are laid aside. -/
theorem seg_nil {Q : Act → Prop} {a : Act} (h : Q a) : Seg P ops w Q [] a := Seg.of h
theorem seg_skip {Q : Act → Prop} {a : Act} {o : Oper} {rest : List Oper} (hw : Region.wanted o (yielded ops a.tmps) = false) (h : Seg P ops w Q rest (a.put o.dst undef)) : Seg P ops w Q (o :: rest) a := by
  refine Seg.of ?_
  unfold wpStill; rw [hw]; exact h.out
theorem seg_run {Q : Act → Prop} {a : Act} {dst : Option Tmp} {op : Op} {ty : TypeId} {pos : String} {aft : Array Edge} {g : Option (Nat × Bool)} {rest : List Oper} (hw : Region.wanted ⟨dst, op, ty, pos, aft, g⟩ (yielded ops a.tmps) = true)
    (h : ∀ K : Act → Prop, (∀ a, Seg P ops w Q rest a → K a) → Oper.still P ⟨dst, op, ty, pos, #[], none⟩ a w K) : Seg P ops w Q (⟨dst, op, ty, pos, aft, g⟩ :: rest) a := by
  refine Seg.of ?_
  unfold wpStill; rw [hw]; exact h _ (fun _ h => h.out)
theorem bar_skip {Q : Exit → Act → World → Prop} {next : Act → World → Prop} {a : Act} {o : Oper} (hw : Region.wanted o (yielded ops a.tmps) = false) (h : next (a.put o.dst undef) w) : Bar P ops next Q [o] a w := by
  refine Bar.of ?_
  unfold wpList; rw [hw]; exact h
theorem bar_run {Q : Exit → Act → World → Prop} {next : Act → World → Prop} {a : Act} {dst : Option Tmp} {op : Op} {ty : TypeId} {pos : String} {aft : Array Edge} {g : Option (Nat × Bool)} (hw : Region.wanted ⟨dst, op, ty, pos, aft, g⟩ (yielded ops a.tmps) = true)
    (h : ∀ K : Act → World → Prop, (∀ a w, next a w → K a w) → wpList P #[] (Exit.then K Q) [⟨dst, op, ty, pos, #[], none⟩] a w) : Bar P ops next Q [⟨dst, op, ty, pos, aft, g⟩] a w := by
  refine Bar.of ?_
  have := h _ (fun _ _ h => h)
  unfold wpList at this ⊢
  rw [hw]
  simp only [Region.wanted, if_true] at this
  exact this
end
end Go.Proofs.YtdieneaillkbgaaGreatDoor

/- A region that draws its order: operations that yield the same in every world that meets S are taken first, in the order of the text; between them single operations that all wait for. -/
namespace Go.Proofs.YtdieneaillkbgaaGreatDoor
open Go
section
variable {P : Program} {ops : Array Oper} {Q : Exit → Act → World → Prop} {S : World → Prop}
/-- A region on its way, closed to the look of 'whnf'. -/
@[irreducible] def Hld (P : Program) (ops : Array Oper) (Q : Exit → Act → World → Prop) (S : World → Prop) (fuel : Nat) (listed : Array Bool) (a : Act) (w : World) : Prop := wpAnyH P .any ops Q S fuel listed a w
theorem Hld.of {fuel : Nat} {listed : Array Bool} {a : Act} {w : World} (h : wpAnyH P .any ops Q S fuel listed a w) : Hld P ops Q S fuel listed a w := by unfold Hld; exact h
theorem Hld.out {fuel : Nat} {listed : Array Bool} {a : Act} {w : World} (h : Hld P ops Q S fuel listed a w) : wpAnyH P .any ops Q S fuel listed a w := by unfold Hld at h; exact h
theorem hld_start {id : Nat} {a : Act} {w : World} {l : List Oper} (S : World → Prop) (hm : P.follows .mixedOrders = true) (h : Hld P l.toArray Q S l.length (Array.replicate l.length false) a w.drew) : (Code.region id l.toArray true).wp P Q a w := by
  refine wp_region_held (S := S) hm ?_
  have := h.out
  simpa using this
theorem hld_take {dst : Option Tmp} {op : Op} {ty : TypeId} {pos : String} {aft : Array Edge} {g : Option (Nat × Bool)} {v : Value} {fuel : Nat} {listed : Array Bool} {a : Act} {w : World} (i : Nat) (hi : ops[i]? = some ⟨dst, op, ty, pos, aft, g⟩)
    (hs : Region.noSelect ops = true) (hf : Region.free .any ops listed i = true) (hr : (Region.ready .any ops listed).contains i = true)
    (hQ : ∀ c a w, Q (.panic c) (a.put dst v) w → Q (.panic c) a w) (hw : Region.wanted ⟨dst, op, ty, pos, aft, g⟩ (yielded ops a.tmps) = true) (hS : S w)
    (hy : ∀ w', S w' → (execOp a.eval ⟨dst, op, ty, pos, aft, g⟩).run P w' = .ok (.value v) w')
    (h : Hld P ops Q S fuel (listed.setIfInBounds i true) (a.put dst v) w) : Hld P ops Q S (fuel + 1) listed a w :=
  Hld.of (wpAnyH_take (oi := ⟨dst, op, ty, pos, aft, g⟩) hi hs hf hr hQ (.inl ⟨hw, hy⟩) hS h.out)
theorem hld_bar {dst : Option Tmp} {op : Op} {ty : TypeId} {pos : String} {aft : Array Edge} {g : Option (Nat × Bool)} {fuel : Nat} {listed : Array Bool} {a : Act} {w : World} (i : Nat) (hi : ops[i]? = some ⟨dst, op, ty, pos, aft, g⟩) (hr : Region.ready .any ops listed = [i])
    (hw : Region.wanted ⟨dst, op, ty, pos, aft, g⟩ (yielded ops a.tmps) = true)
    (h : ∀ K : Act → World → Prop, (∀ a w, S w ∧ Hld P ops Q S fuel (listed.setIfInBounds i true) a w → K a w) → wpList P #[] (Exit.then K Q) [⟨dst, op, ty, pos, #[], none⟩] a w) : Hld P ops Q S (fuel + 1) listed a w := by
  refine Hld.of (wpAnyH_all hr (by simp) fun j hj => ?_)
  have hji : j = i := by simpa using hj
  subst hji
  have hb : Bar P ops (fun a' w' => S w' ∧ wpAnyH P .any ops Q S fuel (listed.setIfInBounds j true) a' w') Q [⟨dst, op, ty, pos, aft, g⟩] a w :=
    bar_run hw (fun K hK => h K (fun a w hh => hK a w ⟨hh.1, hh.2.out⟩))
  unfold wpOp
  simp only [hi]
  exact Bar.out hb
theorem hld_done {listed : Array Bool} {a : Act} {w : World} {fuel : Nat} (hr : Region.ready .any ops listed = []) (h : Q .normal a w) : Hld P ops Q S fuel listed a w := Hld.of (wpAnyH_done hr h fuel)
end
end Go.Proofs.YtdieneaillkbgaaGreatDoor

/- Contracts of package filetree: Put. -/
namespace Go.Proofs.YtdieneaillkbgaaGreatDoor
open Go.RowKit Go.Maps
theorem validE_is (S : Nat → Prop) (en : Ent) (v : Value) (b : Bool) (w : World) (hd : DataAt S w v en.data) (hok : EntOk en) (henv : Env w) (h : vEnt en = b) : Calls Tryz.prog 63 #[entV v en] w fun e w' => e = .returned (.bool b) ∧ Below w.heap.size w w' := by
  rw [← h]; exact validE_any S en v w hd hok henv
theorem vEnt_data {e : Ent} (h : vEnt e = true) : e.data.length ≤ 140737488355328 := by
  unfold vEnt vKind at h
  simp only [Bool.and_eq_true] at h
  have h2 := h.2
  split at h2
  · simp only [Bool.and_eq_true, decide_eq_true_eq] at h2; omega
  · split at h2
    · simp only [Bool.and_eq_true, decide_eq_true_eq] at h2; omega
    · split at h2
      · simp only [Bool.and_eq_true, decide_eq_true_eq] at h2; omega
      · simp at h2
end Go.Proofs.YtdieneaillkbgaaGreatDoor

/- slices.SortFunc at a row of paths that the call owns. -/
namespace Go.Proofs.YtdieneaillkbgaaGreatDoor
open Go.RowKit Go.Shelf Go.Lib Go.Sort
def toS (s : ByteArray) : SPath := if h : s.size ≤ 9223372036854775807 then ⟨s, h⟩ else default
theorem enc_toS {s : ByteArray} (h : s.size ≤ maxLen) : encP (toS s) = .string s := by
  unfold maxLen at h
  unfold toS encP
  rw [dif_pos (by omega)]
theorem val_toS {s : ByteArray} (h : s.size ≤ maxLen) : (toS s).1 = s := by
  unfold maxLen at h
  unfold toS
  rw [dif_pos (by omega)]
theorem enc_map {l : List ByteArray} (h : ∀ s ∈ l, s.size ≤ maxLen) : (l.map toS).map encP = l.map Value.string := by
  rw [List.map_map]
  exact List.map_congr_left (fun s hs => enc_toS (h s hs))
/-- Two orders of one set of paths: the sorted one. -/
theorem sorted_paths {acc M : List ByteArray} (hp : acc.Perm M) (hs : ∀ s ∈ acc, s.size ≤ maxLen) (hM : M.Pairwise fun a b => cmpL (bl a) (bl b) < 0) : ((acc.map toS).mergeSort fun x y => !(ltOf cmpS) y x) = M.map toS := by
  have hsM : ∀ s ∈ M, s.size ≤ maxLen := fun s h => hs s (hp.symm.subset h)
  have h1 : ((acc.map toS).mergeSort fun x y => !(ltOf cmpS) y x).Perm (M.map toS) := (List.mergeSort_perm _ _).trans (hp.map toS)
  have h2 : ((acc.map toS).mergeSort fun x y => !(ltOf cmpS) y x).Pairwise fun a b => (!(ltOf cmpS) b a) = true := by
    refine List.pairwise_mergeSort ?_ ?_ _
    · intro a b c hab hbc
      simp only [Bool.not_eq_true'] at hab hbc ⊢
      exact swoS.ntrans c b a hbc hab
    · intro a b
      simp only [Bool.or_eq_true, Bool.not_eq_true']
      by_cases h : ltOf cmpS b a = true
      · right
        rw [ltT] at h
        rw [ltF]
        have := cmp_neg (bl a.1) (bl b.1)
        omega
      · left; simpa using h
  have h3 : (M.map toS).Pairwise fun a b => (!(ltOf cmpS) b a) = true := by
    rw [List.pairwise_map]
    refine List.Pairwise.imp_of_mem ?_ hM
    intro a b ha hb hab
    simp only [Bool.not_eq_true']
    rw [ltF, val_toS (hsM a ha), val_toS (hsM b hb)]
    have := cmp_neg (bl a) (bl b)
    omega
  refine List.Perm.eq_of_pairwise (le := fun a b => (!(ltOf cmpS) b a) = true) (fun a b _ _ hab hba => ?_) h2 h3 h1
  simp only [Bool.not_eq_true'] at hab hba
  exact totS a b hba hab
theorem grown_grow (W : World) (os : Array Obj) : W.grownBy (grow W os) none := ⟨rfl, rfl, rfl, by simp [grow], fun k hk _ => by simp [grow, Array.getElem?_append, hk]⟩
theorem sort_any (base : Nat) (v : Value) (acc M : List ByteArray) (w : World) (h : w.ownsRow base 9 1 v acc.length (acc.map Value.string)) (hs : ∀ s ∈ acc, s.size ≤ maxLen) (hp : acc.Perm M) (hM : M.Pairwise fun a b => cmpL (bl a) (bl b) < 0) (hn : acc.length < 4611686018427387904) (hb : base ≤ w.heap.size) :
    Calls Tryz.prog 78 #[v, .func (.func 52) #[] #[]] w fun e w' => e = .returned (.tuple #[]) ∧ w'.ownsRow base 9 1 v M.length (M.map Value.string) ∧ Below base w w' := by
  by_cases hv : v = .slice none 0 0
  · have h0 : acc = [] := by
      rcases h.2 with ⟨_, h1⟩ | ⟨g, cap, cur, e1, _⟩
      · simpa using h1
      · rw [hv] at e1; cases e1
    subst h0
    obtain rfl := List.nil_perm.1 hp
    subst hv
    refine (Tryz.slices_SortFunc_none (α := SPath) none 0 _ w).mono ?_
    rintro e w' ⟨rfl, rfl⟩
    exact ⟨rfl, h, Below.refl _ _⟩
  · rw [← enc_map hs] at h
    obtain ⟨g, cap, rfl, h1, h2, h3, h4, h5, h6⟩ := holds_of_ownsRow h hv
    have eg : ∀ args w, (callFunc 52 args).run Tryz.prog w = .ok (.enter 52 args) w := enters_of Tryz.func52 (by kernel_rfl) rfl
    have hsz : (acc.map toS).toArray.size = acc.length := by simp
    have hS := Tryz.slices_SortFunc_total encP (fun _ => rfl) cmpS swoS 52 #[] g 0 cap (acc.map toS).toArray w eg (cmpReadsS g 0 (acc.map toS).toArray.size w).lays h6 h2 (by rw [hsz]; exact hn) totS
    rw [hsz] at hS
    refine hS.mono ?_
    rintro e w' ⟨rfl, n, os, rfl⟩
    have hsM : ∀ s ∈ M, s.size ≤ maxLen := fun s h => hs s (hp.symm.subset h)
    refine ⟨rfl, ?_, ?_⟩
    · rw [sorted_paths hp hs hM, ← enc_map hsM]
      have hl : (M.map toS).length = acc.length := by rw [List.length_map, hp.length_eq]
      have h7 := ownsRow_putRow (q := n) (ys := M.map toS) h hl (Nat.le_refl _)
      rw [← hl, List.take_length] at h7
      rw [hl] at h7
      rw [← hp.length_eq]
      exact h7.kept (grown_grow _ os) (.inr (by simp [Value.ownBlock]))
    · exact (below_putRow (q := n) (Below.refl base w) h1).grown (grown_grow _ os) (by simpa [putRow, mapBlock, Sort.ahead] using hb) (fun k hk => by cases hk)
end Go.Proofs.YtdieneaillkbgaaGreatDoor

/- Contracts of package filetree: paths. -/
namespace Go.Proofs.YtdieneaillkbgaaGreatDoor
open Go.RowKit Go.Maps
theorem ent_of_path {xs : List VEnt} (hn : (xs.map (fun x => x.2.path)).Nodup) {x y : VEnt} (hx : x ∈ xs) (hy : y ∈ xs) (h : x.2.path = y.2.path) : x = y := by
  unfold List.Nodup at hn
  rw [List.pairwise_map, List.pairwise_iff_getElem] at hn
  obtain ⟨i, hi, rfl⟩ := List.getElem_of_mem hx
  obtain ⟨j, hj, rfl⟩ := List.getElem_of_mem hy
  by_cases hij : i = j
  · subst hij; rfl
  · exfalso
    rcases Nat.lt_or_gt_of_ne hij with hlt | hlt
    · exact hn i j hi hj hlt h
    · exact hn j i hj hi hlt h.symm
theorem vent_nodup {xs : List VEnt} (hn : (xs.map (fun x => x.2.path)).Nodup) : xs.Nodup := by
  unfold List.Nodup at hn ⊢
  rw [List.pairwise_map] at hn
  exact hn.imp (fun h e => h (by rw [e]))
theorem pair_path {x y : VEnt} (h : pairOf x = pairOf y) : x.2.path = y.2.path := by
  have := congrArg Prod.fst h
  simpa [pairOf] using this
theorem vis_perm {S : Nat → Prop} {w : World} {mb : Nat} {xs vis : List VEnt} (hm : MapE S w mb xs) (hv : (vis.map pairOf).Perm (xs.map pairOf)) (hs : ∀ x ∈ vis, x ∈ xs) (hn : (vis.map (fun x => x.2.path)).Nodup) : vis.Perm xs := by
  refine (List.perm_ext_iff_of_nodup (vent_nodup hn) (vent_nodup hm.nodup)).2 (fun x => ⟨hs x, fun hx => ?_⟩)
  obtain ⟨y, hy, hyx⟩ := List.mem_map.1 (hv.symm.subset (List.mem_map.2 ⟨x, hx, rfl⟩))
  have := ent_of_path hm.nodup (hs y hy) hx (pair_path hyx)
  rw [← this]; exact hy
section
variable {P : Program} {k : TypeId} {w w' : World} {b r base sz n : Nat} {m vis : List (Value × Value)} {e : TypeId} {v : Value} {xs : List Value}
theorem rng_row (h : RngS P k w b r m vis) (ho : w.ownsRow base e sz v n xs) : some r ≠ v.ownBlock ∧ some b ≠ v.ownBlock := by
  obtain ⟨es, clock, since, seen, c0, hb, _, _, _, hr, _⟩ := h
  rcases ho.2 with ⟨rfl, _⟩ | ⟨g, cap, cur, rfl, _, hh, _⟩
  · exact ⟨by simp [Value.ownBlock], by simp [Value.ownBlock]⟩
  · constructor
    · intro e1
      simp only [Value.ownBlock, Option.some.injEq] at e1
      subst e1
      rw [hr] at hh; cases hh
    · intro e1
      simp only [Value.ownBlock, Option.some.injEq] at e1
      subst e1
      rw [hb] at hh; cases hh
theorem RngS.grown (h : RngS P k w b r m vis) (ho : w.ownsRow base e sz v n xs) (hg : w.grownBy w' v.ownBlock) : RngS P k w' b r m vis :=
  h.same (hg.block b h.map.lt (rng_row h ho).2) (hg.block r h.ltr (rng_row h ho).1)
end
theorem nodup_vsnoc {vis : List VEnt} (h : (vis.map (fun x => x.2.path)).Nodup) {x : VEnt} (hne : ∀ y ∈ vis, y.2.path ≠ x.2.path) : ((vis ++ [x]).map (fun x => x.2.path)).Nodup := by
  rw [List.map_append, List.nodup_append]
  refine ⟨h, by simp, fun a ha b hb => ?_⟩
  obtain ⟨y, hy, rfl⟩ := List.mem_map.1 ha
  simp only [List.map_cons, List.map_nil, List.mem_singleton] at hb
  rw [hb]; exact hne y hy
end Go.Proofs.YtdieneaillkbgaaGreatDoor

/- Rows of entries that a call owns. -/
namespace Go.Proofs.YtdieneaillkbgaaGreatDoor
open Go Go.RowKit Go.Maps
theorem Tryz.appEnts : AppTy Tryz.prog 22 48 6 80 := AppTy.mk' (z := zeroE) Tryz.underlying22 (by kernel_rfl) rfl (by decide) (by decide)
def entsC (ys : List VEnt) : List Value := ys.flatMap fun y => entC y.1 y.2
theorem entsC_snoc (ys : List VEnt) (y : VEnt) : entsC (ys ++ [y]) = entsC ys ++ entC y.1 y.2 := by simp [entsC]
theorem entsC_len : ∀ ys : List VEnt, (entsC ys).length = ys.length * 6
  | [] => rfl
  | y :: ys => by
    have := entsC_len ys
    unfold entsC at this ⊢
    rw [List.flatMap_cons, List.length_append, this, List.length_cons, show (entC y.1 y.2).length = 6 from rfl]; omega
theorem entC_one {a : Option Addr} {n c : Nat} {e : Ent} : ∀ u ∈ entC (.slice a n c) e, u.oneCell' = true := by
  intro u hu
  simp only [entC, List.mem_cons, List.not_mem_nil, or_false] at hu
  rcases hu with rfl | rfl | rfl | rfl | rfl | rfl <;> rfl
theorem entsC_in {S : Nat → Prop} {w : World} : ∀ {ys : List VEnt}, (∀ y ∈ ys, DataAt S w y.1 y.2.data ∧ EntOk y.2) → RowsIn (EntR S w) (entsC ys) (ys.map Prod.snd)
  | [], _ => rfl
  | y :: ys, h => ⟨entC y.1 y.2, entsC ys, by simp [entsC], ⟨y.1, rfl, h y (by simp)⟩, entsC_in (fun z hz => h z (by simp [hz]))⟩
theorem DataAt.slice {S : Nat → Prop} {w : World} {v : Value} {bs : List UInt8} (h : DataAt S w v bs) : ∃ a c, v = .slice a bs.length c ∧ bs.length ≤ c ∧ c ≤ maxLen := by
  obtain ⟨_, a, c, rfl, h1, h2, _⟩ := h
  exact ⟨a, c, rfl, h1, h2⟩
/-- Blocks at and above B, other than the row's own. -/
def FreeB (B : Nat) (w : World) (v : Value) (k : Nat) : Prop := B ≤ k ∧ k < w.heap.size ∧ some k ≠ v.ownBlock
structure GotE (B : Nat) (w : World) (v : Value) (ys : List VEnt) : Prop where
  row : w.ownsRow B 48 6 v ys.length (entsC ys)
  dat : ∀ y ∈ ys, DataAt (FreeB B w v) w y.1 y.2.data ∧ EntOk y.2
theorem GotE.nil (B : Nat) (w : World) : GotE B w (.slice none 0 0) [] := ⟨World.ownsRow_nil _ _ _ _, by simp⟩
theorem own_lt {w : World} {B n sz : Nat} {e : TypeId} {v : Value} {xs : List Value} (h : w.ownsRow B e sz v n xs) {k : Nat} (hk : v.ownBlock = some k) : B ≤ k ∧ k < w.heap.size := h.lt k hk
theorem own_below {w w' : World} {B n sz : Nat} {e : TypeId} {v : Value} {xs : List Value} (h : w.ownsRow B e sz v n xs) (hb : Below w.heap.size w w') : w'.ownsRow B e sz v n xs := by
  refine h.kept (row := none) ⟨hb.os, hb.tape, hb.output, hb.size, fun k hk _ => hb.block k hk⟩ ?_
  cases hv : v.ownBlock
  · exact .inl rfl
  · exact .inr (by simp)
theorem GotE.below {B : Nat} {w w' : World} {v : Value} {ys : List VEnt} (h : GotE B w v ys) (hb : Below w.heap.size w w') : GotE B w' v ys := by
  exact ⟨own_below h.row hb, fun y hy => ⟨data_mono ((h.dat y hy).1.below hb) (fun k hk => ⟨hk.1, Nat.lt_of_lt_of_le hk.2.1 hb.size, hk.2.2⟩), (h.dat y hy).2⟩⟩
/-- One more entry, whose data lie in new blocks. -/
theorem GotE.push {B : Nat} {w w1 w2 : World} {v v' : Value} {ys : List VEnt} (h : GotE B w v ys) (hb : Below w.heap.size w w1) {y : VEnt} (hd : DataAt (fun k => w.heap.size ≤ k ∧ k < w1.heap.size) w1 y.1 y.2.data) (hok : EntOk y.2) (hB : B ≤ w.heap.size)
    (hown : w2.ownsRow B 48 6 v' (ys.length + 1) (entsC ys ++ entC y.1 y.2)) (hg : w1.grownBy w2 v.ownBlock) (hpl : ∀ k, v'.ownBlock = some k → v.ownBlock = some k ∨ w1.heap.size ≤ k) : GotE B w2 v' (ys ++ [y]) := by
  have h1 := h.below hb
  have key : ∀ z : VEnt, DataAt (FreeB B w1 v) w1 z.1 z.2.data → DataAt (FreeB B w2 v') w2 z.1 z.2.data := by
    intro z hz
    have h3 := RowAt.same (w' := w2) (RowAt.mono (T := fun k => FreeB B w1 v k ∧ k < w1.heap.size) hz (fun k hk hS => ⟨hS, hk⟩) (by omega)) (fun k hk => hg.block k hk.2 hk.1.2.2)
    refine RowAt.mono h3 (fun k hk hS => ⟨hS.1.1, hk, fun e => ?_⟩) (by omega)
    rcases hpl k e.symm with h5 | h5
    · exact hS.1.2.2 h5.symm
    · have := hS.2; omega
  refine ⟨by rw [List.length_append, List.length_singleton, entsC_snoc]; exact hown, fun z hz => ?_⟩
  rcases List.mem_append.1 hz with hz | hz
  · exact ⟨key z (h1.dat z hz).1, (h.dat z hz).2⟩
  · rw [List.mem_singleton] at hz
    subst hz
    refine ⟨key z (data_mono hd (fun k hk => ⟨Nat.le_trans hB hk.1, hk.2, fun e => ?_⟩)), hok⟩
    have := (own_lt h.row e.symm).2
    omega
theorem GotE.le {B B' : Nat} {w : World} {v : Value} {ys : List VEnt} (h : GotE B w v ys) (hB : B' ≤ B) : GotE B' w v ys :=
  ⟨owns_le20 h.row hB, fun y hy => ⟨data_mono (h.dat y hy).1 (fun _k hk => ⟨Nat.le_trans hB hk.1, hk.2⟩), (h.dat y hy).2⟩⟩
theorem GotE.seq {B : Nat} {w : World} {v : Value} {ys : List VEnt} (h : GotE B w v ys) : EntsAt (fun k => B ≤ k ∧ k < w.heap.size) w v (ys.map Prod.snd) := by
  refine ⟨entsC ys, ?_, entsC_in (fun y hy => ⟨data_mono (h.dat y hy).1 (fun k hk => ⟨hk.1, hk.2.1⟩), (h.dat y hy).2⟩)⟩
  rw [List.length_map]
  exact RowAt.mono (row_of_owns h.row) (fun k hk hS => ⟨hS.1, hk⟩) (by omega)
end Go.Proofs.YtdieneaillkbgaaGreatDoor

/- Contracts of package filetree: Move. -/
namespace Go.Proofs.YtdieneaillkbgaaGreatDoor
open Go.RowKit Go.Maps
theorem make_ents (w : World) (n : Nat) (hn : n ≤ 4096) : ∃ mc : Array Value, (Instr.makeSlice 22 (.int .i64 0) (.int .i64 (n : Int))).run Tryz.prog w = .ok (.slice (some ⟨w.heap.size, 0, none⟩) 0 n) (w.alloc (.cells mc 48)) ∧ (w.alloc (.cells mc 48)).ownsRow w.heap.size 48 6 (.slice (some ⟨w.heap.size, 0, none⟩) 0 n) 0 [] := by
  obtain ⟨ht, ⟨i, z, h11, h12, h13, h14, h15⟩, hpos, hsm⟩ := Tryz.appEnts
  have hb' : (i.bytes : Int) * (n : Int) ≤ 281474976710656 := by
    have h : i.bytes * n ≤ 128 * 4096 := Nat.mul_le_mul (by omega) hn
    have h2 : ((i.bytes * n : Nat) : Int) ≤ 281474976710656 := by omega
    rwa [Int.natCast_mul] at h2
  have hr := run_make (P := Tryz.prog) w _ _ i z ht h11 h12 .i64 .i64 0 n (Int.le_refl _) (by omega) hb' (by omega)
  simp only [Int.toNat_zero, Int.toNat_natCast] at hr
  refine ⟨_, hr, World.ownsRow_made w _ n (Nat.le_refl _) (by unfold maxLen; omega) ?_⟩
  have := size_madeCells z.cells (n * i.size)
  rw [this, h13]
end Go.Proofs.YtdieneaillkbgaaGreatDoor

/- Contracts of package filetree: Check, its plain law and its map. -/
namespace Go.Proofs.YtdieneaillkbgaaGreatDoor
open Go.RowKit Go.Maps
theorem checkF_go : ∀ {m pre : List Ent} (r : List Ent), Tr (pre ++ m) → checkF pre (m ++ r) = checkF (pre ++ m) r
  | [], pre, r, _ => by simp
  | e :: m, pre, r, h => by
    have h1 : Tr (pre ++ [e]) := Tr.pre (M := m) (by simpa using h)
    have h2 := (checkAt_iff h1.pre e).2 h1
    have h3 := checkF_go (m := m) (pre := pre ++ [e]) r (by simpa using h)
    rw [List.cons_append, checkF, if_pos h2, h3]
    simp
theorem check_at {L : List Ent} (hl : L.length ≤ 4096) {k : Nat} (h : Tr (L.take k)) : checkP L = checkF (L.take k) (L.drop k) := by
  have h1 := checkF_go (m := L.take k) (pre := []) (L.drop k) (by simpa using h)
  rw [List.take_append_drop, List.nil_append] at h1
  unfold checkP
  rw [if_neg (by omega), h1]
theorem drop_cons {α : Type} {L : List α} {k : Nat} {e : α} (h : L[k]? = some e) : L.drop k = e :: L.drop (k + 1) := by
  obtain ⟨h1, h2⟩ := List.getElem?_eq_some_iff.1 h
  rw [List.drop_eq_getElem_cons h1, h2]
theorem check_stop {L : List Ent} (hl : L.length ≤ 4096) {k : Nat} (h : Tr (L.take k)) {e : Ent} (he : L[k]? = some e) {x : Int} (hx : checkAt (L.take k) e = x) (h0 : x ≠ 0) : checkP L = x := by
  rw [check_at hl h, drop_cons he, checkF, hx, if_neg h0]
theorem check_next {L : List Ent} {k : Nat} (h : Tr (L.take k)) {e : Ent} (he : L[k]? = some e) (hx : checkAt (L.take k) e = 0) : Tr (L.take (k + 1)) := by
  rw [List.take_add_one, he]
  exact (checkAt_iff h e).1 hx
theorem check_done {L : List Ent} (hl : L.length ≤ 4096) (h : Tr (L.take L.length)) : checkP L = 0 := by
  rw [check_at hl h, List.drop_length]; rfl
theorem check_big {L : List Ent} (hl : 4096 < L.length) : checkP L = 2 := by unfold checkP; rw [if_pos hl]
/-- The kinds by the paths. -/
def kindP (e : Ent) : Value × Value := (.string e.path, .int .i64 e.kind)
theorem mapIntTy : Tryz.prog.underlying 101 = some (.map 9 3) := Tryz.underlying101
theorem make_kinds (w : World) (n : Nat) (hn : n ≤ 4096) : (Instr.makeMap 101 (some (.int .i64 (n : Int)))).run Tryz.prog w = .ok (.map (some w.heap.size)) (w.alloc (.map #[] 0)) := by
  have h1 : IntKind.i64.wrap (n : Int) = n := by rw [IntKind.wrap_i64]; omega
  simp [Instr.makeMap, asInt, asIntOf]
theorem kinds_hit {w : World} {mb : Nat} {M : List Ent} (h : MapS Tryz.prog 9 w mb (M.map kindP)) {p : ByteArray} (hp : p.size ≤ maxLen) {f : Ent} (hf : findE M p = some f) :
    (Instr.lookup 101 (.map (some mb)) (.string p) true).run Tryz.prog w = .ok (.tuple #[.int .i64 f.kind, .bool true]) w := by
  obtain ⟨h1, h2⟩ := findE_some hf
  have h3 : (Value.string p, Value.int .i64 f.kind) ∈ M.map kindP := List.mem_map.2 ⟨f, h1, by rw [← h2]; rfl⟩
  have := h.is.hit lawStr20 mapIntTy (keyStr20 hp) h3 true
  simpa only [if_true] using this
theorem kinds_miss {w : World} {mb : Nat} {M : List Ent} (h : MapS Tryz.prog 9 w mb (M.map kindP)) {p : ByteArray} (hp : p.size ≤ maxLen) (hf : findE M p = none) :
    (Instr.lookup 101 (.map (some mb)) (.string p) true).run Tryz.prog w = .ok (.tuple #[.int .i64 0, .bool false]) w := by
  have hz : (zeroValue 3).run Tryz.prog w = .ok (.int .i64 0) w := by kernel_rfl
  have := h.is.miss lawStr20 mapIntTy hz (keyStr20 hp) (fun q hq e => by
    obtain ⟨x, hx, rfl⟩ := List.mem_map.1 hq
    simp only [kindP, Value.string.injEq] at e
    exact findE_none hf x hx e) true
  simpa only [if_true] using this
theorem kinds_new {M : List Ent} {e : Ent} (h : Tr (M ++ [e])) : ∀ q ∈ M.map kindP, q.1 ≠ Value.string e.path := by
  intro q hq hc
  obtain ⟨x, hx, rfl⟩ := List.mem_map.1 hq
  simp only [kindP, Value.string.injEq] at hc
  have hn := h.ord.nodup
  rw [List.map_append, List.nodup_append] at hn
  exact hn.2.2 x.path (List.mem_map.2 ⟨x, hx, rfl⟩) e.path (by simp) hc
theorem compare20 (a b : ByteArray) (o : Int) (w : World) (ha : a.size ≤ maxLen) (h : cmpL (bl a) (bl b) = o) : Calls Tryz.prog 52 #[.string a, .string b] w fun e w' => e = .returned (.int .i64 o) ∧ Below w.heap.size w w' := by
  rw [← h]; exact compare_any a b w (by unfold maxLen at ha; omega)
theorem after_zero (e : Ent) : afterE [] e = true := rfl
theorem after_at {L : List Ent} {k : Nat} {f e : Ent} (hf : L[k]? = some f) : afterE (L.take (k + 1)) e = decide (cmpL (bl f.path) (bl e.path) < 0) := by
  have : (L.take (k + 1)).getLast? = some f := by rw [List.take_add_one, hf]; simp
  unfold afterE
  rw [this]; rfl
end Go.Proofs.YtdieneaillkbgaaGreatDoor

/- Contracts of package filetree: Check. -/
namespace Go.Proofs.YtdieneaillkbgaaGreatDoor
open Go.RowKit Go.Maps
/-- What the call returns in a round, from the entry's own cells. -/
def RoundC (L : List Ent) (mb : Nat) (w : World) (k : Nat) (wr : World) : Prop := Tr (L.take k) ∧ MapS Tryz.prog 9 wr mb ((L.take k).map kindP) ∧ Below w.heap.size w wr
set_option maxRecDepth 100000 in
set_option maxHeartbeats 4000000 in
theorem check_any (S : Nat → Prop) (L : List Ent) (v : Value) (w : World) (hv : EntsAt S w v L) (henv : Env w) : Calls Tryz.prog 32 #[v] w fun e w' => e = .returned (.int .i64 (checkP L)) ∧ Below w.heap.size w w' := by
  have HV := Lib.hid hv
  have HE := Lib.hid henv
  obtain ⟨a, cap, rfl, hc, hm, -⟩ := SeqAt.shape hv EntR.len
  unfold maxLen at hm
  obtain ⟨n, hn⟩ : ∃ n, n = L.length := ⟨_, rfl⟩
  have HN := Lib.hid hn
  rw [← hn] at hc HV ⊢
  clear hv henv
  by_cases hbig : 4096 < n
  · have hbi : (4096 : Int) < (n : Int) := by omega
    have HC := Lib.hid (check_big (by rw [← hn]; exact hbig))
    clear hbig hn
    go_enter Tryz.func32, Tryz.ntmps32
    go_wp2_with fail
    go_ret
    exact ⟨ret_int (by rw [HC.out]), Below.refl _ _⟩
  · have hbi : (n : Int) ≤ (4096 : Int) := by omega
    have hmk := make_kinds w n (by omega)
    have HL4 := Lib.hid (show L.length ≤ 4096 by omega)
    clear hbig hn
    go_enter Tryz.func32, Tryz.ntmps32
    go_wp2_with fail
    obtain ⟨W0, hW0⟩ : ∃ W0, W0 = w.alloc (.map #[] 0) := ⟨_, rfl⟩
    rw [← hW0]
    have HM0 := Lib.hid (show MapS Tryz.prog 9 W0 w.heap.size [] by rw [hW0]; exact MapS.made w)
    have HB0 := Lib.hid (show Below w.heap.size w W0 by rw [hW0]; exact (Below.refl _ _).alloc (Nat.le_refl _) _)
    clear hW0
    clear hmk
    go_loopw [18] (fun i wr => ∃ k : Nat, k ≤ n ∧ i = .int .i64 k ∧ RoundC L w.heap.size w k wr) (fun i _ => n - (intOf i).toNat)
    case atStart => exact ⟨0, Nat.zero_le _, rfl, ⟨List.Pairwise.nil, by simp, by simp⟩, HM0.out, HB0.out⟩
    case round =>
      obtain ⟨k, hk, rfl, htr, hkm, hbr⟩ := hrel
      have HTR := Lib.hid htr
      have HKM := Lib.hid hkm
      have HBR := Lib.hid hbr
      clear htr hkm hbr
      by_cases hlt : k < n
      · obtain ⟨e, he⟩ : ∃ e, L[k]? = some e := ⟨L[k]'(by rw [← HN.out]; exact hlt), by simp⟩
        obtain ⟨b, o, dv, rfl, -, hb, hd, hok, -, q0, q1, q2, q3, q4, q5⟩ := ents_at (HV.out.below HBR.out) he
        have HAT := Lib.hid he
        have HD := Lib.hid hd
        have HOK := Lib.hid hok
        obtain ⟨a1, cap1, rfl, hd1, hd2⟩ := hd.slice
        unfold maxLen at hd2
        clear he hd hok
        cases hve : vEnt e
        · have HVE := Lib.hid hve
          have HCA := Lib.hid (show checkAt (L.take k) e = 1 by unfold checkAt; rw [hve]; rfl)
          clear hve
          go_wp2_with fail
          obtain ⟨W, hW⟩ : ∃ W, W = wr.alloc (.cells #[.string e.path, .int .i64 e.kind, .int .i64 e.mode, .int .i64 e.time, .slice a1 e.data.length cap1, .string e.link] 48) := ⟨_, rfl⟩
          rw [← hW]
          have HX := Lib.hid (show W.heap[wr.heap.size]? = some (.cells #[.string e.path, .int .i64 e.kind, .int .i64 e.mode, .int .i64 e.time, .slice a1 e.data.length cap1, .string e.link] 48 (0, 0)) by rw [hW]; exact new20 wr _)
          have HWL := Lib.hid (show Below wr.heap.size wr W by rw [hW]; exact (Below.refl _ _).alloc (Nat.le_refl _) _)
          have HBW := Lib.hid (below_next HBR.out HWL.out)
          clear hW
          refine (validE_is S e _ false _ (HD.out.below HWL.out) HOK.out (HE.out.below HBW.out) HVE.out).mono ?_
          rintro e7 w7 ⟨rfl, hb7⟩
          have HB9 := Lib.hid (below_next HBW.out hb7)
          clear hb7
          go_wp2_with fail
          go_ret
          exact ⟨ret_int (by rw [check_stop HL4.out HTR.out HAT.out (x := 1) HCA.out (by decide)]), HB9.out⟩
        · have HVE := Lib.hid hve
          obtain ⟨q, hq⟩ : ∃ q : ByteArray, q = ⟨(parentL (bl e.path)).toArray⟩ := ⟨_, rfl⟩
          have HBQ := Lib.hid (show bl q = parentL (bl e.path) by rw [hq]; exact bl_mk _)
          have HQ := Lib.hid hq
          have HQS := Lib.hid (show q.size ≤ maxLen by
            have h1 := parent_shorter (vEnt_path hve)
            have h2 := valid_size (vEnt_path hve)
            rw [size_bl, HBQ.out]; unfold maxLen; omega)
          clear hve hq
          rcases Nat.eq_zero_or_pos k with hk0 | hk0
          · have e9 : decide (0 < k) = false := by simp; omega
            have e8 : (k : Int) ≤ 0 := by omega
            have HCV := Lib.hid (show (vEnt e && afterE (L.take k) e) = true by rw [hk0, HVE.out]; rfl)
            clear hk0
            go_wp2_with fail
            obtain ⟨W, hW⟩ : ∃ W, W = wr.alloc (.cells #[.string e.path, .int .i64 e.kind, .int .i64 e.mode, .int .i64 e.time, .slice a1 e.data.length cap1, .string e.link] 48) := ⟨_, rfl⟩
            rw [← hW]
            have HX := Lib.hid (show W.heap[wr.heap.size]? = some (.cells #[.string e.path, .int .i64 e.kind, .int .i64 e.mode, .int .i64 e.time, .slice a1 e.data.length cap1, .string e.link] 48 (0, 0)) by rw [hW]; exact new20 wr _)
            have HWL := Lib.hid (show Below wr.heap.size wr W by rw [hW]; exact (Below.refl _ _).alloc (Nat.le_refl _) _)
            have HBW := Lib.hid (below_next HBR.out HWL.out)
            clear hW
            refine (validE_is S e _ true _ (HD.out.below HWL.out) HOK.out (HE.out.below HBW.out) HVE.out).mono ?_
            rintro e7 w7 ⟨rfl, hb7⟩
            have HX7 := Lib.hid ((hb7.block wr.heap.size (lt20 HX.out)).trans HX.out)
            have HL7 := Lib.hid (HWL.out.trans (hb7.mono HWL.out.size))
            have c0 := cell20 (k := 0) HX7.out
            have c1 := cell20 (k := 1) HX7.out
            have c2 := cell20 (k := 2) HX7.out
            have c3 := cell20 (k := 3) HX7.out
            have c4 := cell20 (k := 4) HX7.out
            have c5 := cell20 (k := 5) HX7.out
            simp only [List.getElem?_toArray, List.getElem?_cons_succ, List.getElem?_cons_zero] at c0 c1 c2 c3 c4 c5
            clear hb7
            go_wp2_with fail
            refine wp_region_segs [some 11, none, some 2] (by kernel_rfl) (by kernel_rfl) (by kernel_rfl) ?_
            simp only [wpSegs, List.take_succ_cons, List.take_zero, List.drop_succ_cons, List.drop_zero]
            obtain ⟨wd, hwd⟩ : ∃ wd : World, wd = w7.drew := ⟨_, rfl⟩
            rw [← hwd]
            have HLD := Lib.hid (show Below wr.heap.size wr wd by rw [hwd]; exact HL7.out.trans ((Below.refl w7.heap.size w7).drew.mono HL7.out.size))
            have HXD := Lib.hid (show wd.heap[wr.heap.size]? = some (.cells #[.string e.path, .int .i64 e.kind, .int .i64 e.mode, .int .i64 e.time, .slice a1 e.data.length cap1, .string e.link] 48 (0, 0)) by rw [hwd]; exact HX7.out)
            clear hwd c0 c1 c2 c3 c4 c5
            have c0 := cell20 (k := 0) HXD.out
            have c1 := cell20 (k := 1) HXD.out
            have c2 := cell20 (k := 2) HXD.out
            have c3 := cell20 (k := 3) HXD.out
            have c4 := cell20 (k := 4) HXD.out
            have c5 := cell20 (k := 5) HXD.out
            simp only [List.getElem?_toArray, List.getElem?_cons_succ, List.getElem?_cons_zero] at c0 c1 c2 c3 c4 c5
            repeat (first | (refine seg_skip rfl ?_; simp only [Act.put, List.setIfInBounds_toArray, List.set_cons_succ, List.set_cons_zero]) | (refine seg_run rfl (fun K hK => ?_); go_simp; refine hK _ ?_; clear hK K))
            refine seg_nil ?_
            refine bar_skip rfl ?_
            simp only [Act.put, List.setIfInBounds_toArray, List.set_cons_succ, List.set_cons_zero]
            repeat (first | (refine seg_skip rfl ?_; simp only [Act.put, List.setIfInBounds_toArray, List.set_cons_succ, List.set_cons_zero]) | (refine seg_run rfl (fun K hK => ?_); go_simp; refine hK _ ?_; clear hK K))
            refine seg_nil ?_
            clear c0 c1 c2 c3 c4 c5
            have HL8 := Lib.hid HLD.out
            have HX8 := Lib.hid HXD.out
            have HB8 := Lib.hid (below_next HBR.out HLD.out)
            have c0 := cell20 (k := 0) HX8.out
            have c1 := cell20 (k := 1) HX8.out
            have c2 := cell20 (k := 2) HX8.out
            have c3 := cell20 (k := 3) HX8.out
            have c4 := cell20 (k := 4) HX8.out
            have c5 := cell20 (k := 5) HX8.out
            simp only [List.getElem?_toArray, List.getElem?_cons_succ, List.getElem?_cons_zero] at c0 c1 c2 c3 c4 c5
            go_wp2_with fail
            by_cases h0 : parentL (bl e.path) = []
            · have e1 : q.toList.isEmpty = true := by rw [empty20, HBQ.out, decide_eq_true h0]
              have HTN := Lib.hid (check_next HTR.out HAT.out (show checkAt (L.take k) e = 0 by unfold checkAt; rw [if_pos HCV.out]; unfold dirE; rw [if_pos h0]))
              clear h0
              refine (parent20 e.path q _ (HE.out.below HB8.out) (vEnt_path HVE.out) HQ.out).mono ?_
              rintro e9 w9 ⟨rfl, hb9⟩
              have HL9 := Lib.hid (HL8.out.trans (hb9.mono HL8.out.size))
              have HB9 := Lib.hid (below_next HB8.out hb9)
              have HX9 := Lib.hid ((hb9.block wr.heap.size (lt20 HX8.out)).trans HX8.out)
              have HK9 := Lib.hid (HKM.out.same (HL9.out.block w.heap.size HKM.out.lt))
              clear hb9
              have c0 := cell20 (k := 0) HX9.out
              have c1 := cell20 (k := 1) HX9.out
              have c2 := cell20 (k := 2) HX9.out
              have c3 := cell20 (k := 3) HX9.out
              have c4 := cell20 (k := 4) HX9.out
              have c5 := cell20 (k := 5) HX9.out
              simp only [List.getElem?_toArray, List.getElem?_cons_succ, List.getElem?_cons_zero] at c0 c1 c2 c3 c4 c5
              go_wp2_with (at_mapUpdate; go_must (refine wpList_putS lawStr20 rfl _ _ _ _ rfl mapIntTy w.heap.size _ HK9.out rfl (.string e.path) (.int .i64 e.kind) rfl rfl (keyStr20 HOK.out.pth) (kinds_new (by have h1 := HTN.out; rw [List.take_add_one, HAT.out] at h1; exact h1)) ?_); intro w10 hm10 hg10)
              have HM10 := Lib.hid hm10
              have HG10 := Lib.hid hg10
              clear hm10 hg10 c0 c1 c2 c3 c4 c5
              go_wp2_with fail
              go_roundw
              case rel =>
                refine ⟨k + 1, by omega, by go_num, HTN.out, ?_, ?_⟩
                · rw [List.take_add_one, HAT.out, List.map_append]; exact HM10.out
                · exact HB9.out.grown HG10.out HB9.out.size (fun k e => by cases e; exact Nat.le_refl _)
              case measure => simp [intOf]; omega
            · have e1 : q.toList.isEmpty = false := by rw [empty20, HBQ.out, decide_eq_false h0]
              have HDI := Lib.hid (show ∀ x, (match findE (L.take k) q with | none => (4 : Int) | some f => if f.kind = 2 then 0 else 13) = x → checkAt (L.take k) e = x from fun x hx => by unfold checkAt; rw [if_pos HCV.out]; unfold dirE; rw [if_neg h0, ← HQ.out]; exact hx)
              clear h0
              cases hf : findE (L.take k) q with
              | none =>
                have HF := Lib.hid hf
                have HCA := Lib.hid (HDI.out 4 (by rw [hf]))
                clear hf
                refine (parent20 e.path q _ (HE.out.below HB8.out) (vEnt_path HVE.out) HQ.out).mono ?_
                rintro e9 w9 ⟨rfl, hb9⟩
                have HL9 := Lib.hid (HL8.out.trans (hb9.mono HL8.out.size))
                have HB9 := Lib.hid (below_next HB8.out hb9)
                have HX9 := Lib.hid ((hb9.block wr.heap.size (lt20 HX8.out)).trans HX8.out)
                have HK9 := Lib.hid (HKM.out.same (HL9.out.block w.heap.size HKM.out.lt))
                clear hb9
                have c0 := cell20 (k := 0) HX9.out
                have c1 := cell20 (k := 1) HX9.out
                have c2 := cell20 (k := 2) HX9.out
                have c3 := cell20 (k := 3) HX9.out
                have c4 := cell20 (k := 4) HX9.out
                have c5 := cell20 (k := 5) HX9.out
                simp only [List.getElem?_toArray, List.getElem?_cons_succ, List.getElem?_cons_zero] at c0 c1 c2 c3 c4 c5
                have hlk := kinds_miss HK9.out HQS.out HF.out
                go_wp2_with fail
                go_ret
                exact ⟨ret_int (by rw [check_stop HL4.out HTR.out HAT.out (x := 4) HCA.out (by decide)]), HB9.out⟩
              | some f =>
                have HF := Lib.hid hf
                by_cases hk2 : f.kind = 2
                · have e3 : (f.kind != 2) = false := by simp [hk2]
                  have HTN := Lib.hid (check_next HTR.out HAT.out (HDI.out 0 (by rw [hf]; simp only [if_pos hk2])))
                  clear hf hk2
                  refine (parent20 e.path q _ (HE.out.below HB8.out) (vEnt_path HVE.out) HQ.out).mono ?_
                  rintro e9 w9 ⟨rfl, hb9⟩
                  have HL9 := Lib.hid (HL8.out.trans (hb9.mono HL8.out.size))
                  have HB9 := Lib.hid (below_next HB8.out hb9)
                  have HX9 := Lib.hid ((hb9.block wr.heap.size (lt20 HX8.out)).trans HX8.out)
                  have HK9 := Lib.hid (HKM.out.same (HL9.out.block w.heap.size HKM.out.lt))
                  clear hb9
                  have c0 := cell20 (k := 0) HX9.out
                  have c1 := cell20 (k := 1) HX9.out
                  have c2 := cell20 (k := 2) HX9.out
                  have c3 := cell20 (k := 3) HX9.out
                  have c4 := cell20 (k := 4) HX9.out
                  have c5 := cell20 (k := 5) HX9.out
                  simp only [List.getElem?_toArray, List.getElem?_cons_succ, List.getElem?_cons_zero] at c0 c1 c2 c3 c4 c5
                  have hlk := kinds_hit HK9.out HQS.out HF.out
                  go_wp2_with (at_mapUpdate; go_must (refine wpList_putS lawStr20 rfl _ _ _ _ rfl mapIntTy w.heap.size _ HK9.out rfl (.string e.path) (.int .i64 e.kind) rfl rfl (keyStr20 HOK.out.pth) (kinds_new (by have h1 := HTN.out; rw [List.take_add_one, HAT.out] at h1; exact h1)) ?_); intro w10 hm10 hg10)
                  have HM10 := Lib.hid hm10
                  have HG10 := Lib.hid hg10
                  clear hm10 hg10 c0 c1 c2 c3 c4 c5
                  go_wp2_with fail
                  go_roundw
                  case rel =>
                    refine ⟨k + 1, by omega, by go_num, HTN.out, ?_, ?_⟩
                    · rw [List.take_add_one, HAT.out, List.map_append]; exact HM10.out
                    · exact HB9.out.grown HG10.out HB9.out.size (fun k e => by cases e; exact Nat.le_refl _)
                  case measure => simp [intOf]; omega
                · have e3 : (f.kind != 2) = true := by simp [hk2]
                  have HCA := Lib.hid (HDI.out 13 (by rw [hf]; simp only [if_neg hk2]))
                  clear hf hk2
                  refine (parent20 e.path q _ (HE.out.below HB8.out) (vEnt_path HVE.out) HQ.out).mono ?_
                  rintro e9 w9 ⟨rfl, hb9⟩
                  have HL9 := Lib.hid (HL8.out.trans (hb9.mono HL8.out.size))
                  have HB9 := Lib.hid (below_next HB8.out hb9)
                  have HX9 := Lib.hid ((hb9.block wr.heap.size (lt20 HX8.out)).trans HX8.out)
                  have HK9 := Lib.hid (HKM.out.same (HL9.out.block w.heap.size HKM.out.lt))
                  clear hb9
                  have c0 := cell20 (k := 0) HX9.out
                  have c1 := cell20 (k := 1) HX9.out
                  have c2 := cell20 (k := 2) HX9.out
                  have c3 := cell20 (k := 3) HX9.out
                  have c4 := cell20 (k := 4) HX9.out
                  have c5 := cell20 (k := 5) HX9.out
                  simp only [List.getElem?_toArray, List.getElem?_cons_succ, List.getElem?_cons_zero] at c0 c1 c2 c3 c4 c5
                  have hlk := kinds_hit HK9.out HQS.out HF.out
                  go_wp2_with fail
                  go_ret
                  exact ⟨ret_int (by rw [check_stop HL4.out HTR.out HAT.out (x := 13) HCA.out (by decide)]), HB9.out⟩
          · obtain ⟨j, rfl⟩ : ∃ j, k = j + 1 := ⟨k - 1, by omega⟩
            obtain ⟨f, hf⟩ : ∃ f, L[j]? = some f := ⟨L[j]'(by rw [← HN.out]; omega), by simp⟩
            obtain ⟨b', o', dv', he', -, -, -, hokf, -, p0, -⟩ := ents_at (HV.out.below HBR.out) hf
            simp only [Option.some.injEq, Addr.mk.injEq, and_true] at he'
            obtain ⟨rfl, rfl⟩ := he'
            have HPF := Lib.hid hokf.pth
            obtain ⟨c, hc⟩ : ∃ c, cmpL (bl f.path) (bl e.path) = c := ⟨_, rfl⟩
            have HC := Lib.hid hc
            have e9 : decide (0 < j + 1) = true := by simp
            have hjn : j < n := by omega
            have hjn2 : (j : Int) < (n : Int) := by omega
            have hjn3 : decide (j < n) = true := by simp; omega
            have hwj : IntKind.i64.wrap (j : Int) = j := by rw [IntKind.wrap_i64]; omega
            have HAF := Lib.hid (show afterE (L.take (j + 1)) e = decide (c < 0) by rw [after_at hf, hc])
            clear hf hokf hc hk0
            by_cases hneg : c < 0
            · have HCV := Lib.hid (show (vEnt e && afterE (L.take (j + 1)) e) = true by rw [HVE.out, HAF.out, decide_eq_true hneg]; rfl)
              have e8 : decide (0 ≤ c) = false := by simp; omega
              go_wp2_with fail
              obtain ⟨W, hW⟩ : ∃ W, W = wr.alloc (.cells #[.string e.path, .int .i64 e.kind, .int .i64 e.mode, .int .i64 e.time, .slice a1 e.data.length cap1, .string e.link] 48) := ⟨_, rfl⟩
              rw [← hW]
              have HX := Lib.hid (show W.heap[wr.heap.size]? = some (.cells #[.string e.path, .int .i64 e.kind, .int .i64 e.mode, .int .i64 e.time, .slice a1 e.data.length cap1, .string e.link] 48 (0, 0)) by rw [hW]; exact new20 wr _)
              have HWL := Lib.hid (show Below wr.heap.size wr W by rw [hW]; exact (Below.refl _ _).alloc (Nat.le_refl _) _)
              have HBW := Lib.hid (below_next HBR.out HWL.out)
              clear hW
              refine (validE_is S e _ true _ (HD.out.below HWL.out) HOK.out (HE.out.below HBW.out) HVE.out).mono ?_
              rintro e7 w7 ⟨rfl, hb7⟩
              have HX7 := Lib.hid ((hb7.block wr.heap.size (lt20 HX.out)).trans HX.out)
              have HL7 := Lib.hid (HWL.out.trans (hb7.mono HWL.out.size))
              have c0 := cell20 (k := 0) HX7.out
              have c1 := cell20 (k := 1) HX7.out
              have c2 := cell20 (k := 2) HX7.out
              have c3 := cell20 (k := 3) HX7.out
              have c4 := cell20 (k := 4) HX7.out
              have c5 := cell20 (k := 5) HX7.out
              simp only [List.getElem?_toArray, List.getElem?_cons_succ, List.getElem?_cons_zero] at c0 c1 c2 c3 c4 c5
              clear hb7
              go_wp2_with fail
              refine wp_region_segs [some 11, none, some 2] (by kernel_rfl) (by kernel_rfl) (by kernel_rfl) ?_
              simp only [wpSegs, List.take_succ_cons, List.take_zero, List.drop_succ_cons, List.drop_zero]
              obtain ⟨wd, hwd⟩ : ∃ wd : World, wd = w7.drew := ⟨_, rfl⟩
              rw [← hwd]
              have HLD := Lib.hid (show Below wr.heap.size wr wd by rw [hwd]; exact HL7.out.trans ((Below.refl w7.heap.size w7).drew.mono HL7.out.size))
              have HXD := Lib.hid (show wd.heap[wr.heap.size]? = some (.cells #[.string e.path, .int .i64 e.kind, .int .i64 e.mode, .int .i64 e.time, .slice a1 e.data.length cap1, .string e.link] 48 (0, 0)) by rw [hwd]; exact HX7.out)
              clear hwd c0 c1 c2 c3 c4 c5
              have c0 := cell20 (k := 0) HXD.out
              have c1 := cell20 (k := 1) HXD.out
              have c2 := cell20 (k := 2) HXD.out
              have c3 := cell20 (k := 3) HXD.out
              have c4 := cell20 (k := 4) HXD.out
              have c5 := cell20 (k := 5) HXD.out
              simp only [List.getElem?_toArray, List.getElem?_cons_succ, List.getElem?_cons_zero] at c0 c1 c2 c3 c4 c5
              have y0 := (HLD.out.cell (block_lt p0)).trans p0
              repeat (first | (refine seg_skip rfl ?_; simp only [Act.put, List.setIfInBounds_toArray, List.set_cons_succ, List.set_cons_zero]) | (refine seg_run rfl (fun K hK => ?_); go_simp; refine hK _ ?_; clear hK K))
              refine seg_nil ?_
              refine bar_run rfl (fun K hK => ?_)
              go_wp2_with (go_at_call 52; refine (compare20 f.path e.path c _ HPF.out HC.out).mono ?_; rintro e8' w8 ⟨rfl, hb8⟩; have HL8 := Lib.hid (HLD.out.trans (hb8.mono HLD.out.size)); have HX8 := Lib.hid ((hb8.block wr.heap.size (lt20 HXD.out)).trans HXD.out); clear hb8 c0 c1 c2 c3 c4 c5 y0)
              repeat (first | (refine seg_skip rfl ?_; simp only [Act.put, List.setIfInBounds_toArray, List.set_cons_succ, List.set_cons_zero]) | (refine seg_run rfl (fun K hK => ?_); go_simp; refine hK _ ?_; clear hK K))
              refine seg_nil ?_
              have HB8 := Lib.hid (below_next HBR.out HL8.out)
              have c0 := cell20 (k := 0) HX8.out
              have c1 := cell20 (k := 1) HX8.out
              have c2 := cell20 (k := 2) HX8.out
              have c3 := cell20 (k := 3) HX8.out
              have c4 := cell20 (k := 4) HX8.out
              have c5 := cell20 (k := 5) HX8.out
              simp only [List.getElem?_toArray, List.getElem?_cons_succ, List.getElem?_cons_zero] at c0 c1 c2 c3 c4 c5
              go_wp2_with fail
              by_cases h0 : parentL (bl e.path) = []
              · have e1 : q.toList.isEmpty = true := by rw [empty20, HBQ.out, decide_eq_true h0]
                have HTN := Lib.hid (check_next HTR.out HAT.out (show checkAt (L.take (j + 1)) e = 0 by unfold checkAt; rw [if_pos HCV.out]; unfold dirE; rw [if_pos h0]))
                clear h0
                refine (parent20 e.path q _ (HE.out.below HB8.out) (vEnt_path HVE.out) HQ.out).mono ?_
                rintro e9 w9 ⟨rfl, hb9⟩
                have HL9 := Lib.hid (HL8.out.trans (hb9.mono HL8.out.size))
                have HB9 := Lib.hid (below_next HB8.out hb9)
                have HX9 := Lib.hid ((hb9.block wr.heap.size (lt20 HX8.out)).trans HX8.out)
                have HK9 := Lib.hid (HKM.out.same (HL9.out.block w.heap.size HKM.out.lt))
                clear hb9
                have c0 := cell20 (k := 0) HX9.out
                have c1 := cell20 (k := 1) HX9.out
                have c2 := cell20 (k := 2) HX9.out
                have c3 := cell20 (k := 3) HX9.out
                have c4 := cell20 (k := 4) HX9.out
                have c5 := cell20 (k := 5) HX9.out
                simp only [List.getElem?_toArray, List.getElem?_cons_succ, List.getElem?_cons_zero] at c0 c1 c2 c3 c4 c5
                go_wp2_with (at_mapUpdate; go_must (refine wpList_putS lawStr20 rfl _ _ _ _ rfl mapIntTy w.heap.size _ HK9.out rfl (.string e.path) (.int .i64 e.kind) rfl rfl (keyStr20 HOK.out.pth) (kinds_new (by have h1 := HTN.out; rw [List.take_add_one, HAT.out] at h1; exact h1)) ?_); intro w10 hm10 hg10)
                have HM10 := Lib.hid hm10
                have HG10 := Lib.hid hg10
                clear hm10 hg10 c0 c1 c2 c3 c4 c5
                go_wp2_with fail
                go_roundw
                case rel =>
                  refine ⟨j + 1 + 1, by omega, by go_num, HTN.out, ?_, ?_⟩
                  · rw [List.take_add_one, HAT.out, List.map_append]; exact HM10.out
                  · exact HB9.out.grown HG10.out HB9.out.size (fun k e => by cases e; exact Nat.le_refl _)
                case measure => simp [intOf]; omega
              · have e1 : q.toList.isEmpty = false := by rw [empty20, HBQ.out, decide_eq_false h0]
                have HDI := Lib.hid (show ∀ x, (match findE (L.take (j + 1)) q with | none => (4 : Int) | some g => if g.kind = 2 then 0 else 13) = x → checkAt (L.take (j + 1)) e = x from fun x hx => by unfold checkAt; rw [if_pos HCV.out]; unfold dirE; rw [if_neg h0, ← HQ.out]; exact hx)
                clear h0
                cases hf : findE (L.take (j + 1)) q with
                | none =>
                  have HF := Lib.hid hf
                  have HCA := Lib.hid (HDI.out 4 (by rw [hf]))
                  clear hf
                  refine (parent20 e.path q _ (HE.out.below HB8.out) (vEnt_path HVE.out) HQ.out).mono ?_
                  rintro e9 w9 ⟨rfl, hb9⟩
                  have HL9 := Lib.hid (HL8.out.trans (hb9.mono HL8.out.size))
                  have HB9 := Lib.hid (below_next HB8.out hb9)
                  have HX9 := Lib.hid ((hb9.block wr.heap.size (lt20 HX8.out)).trans HX8.out)
                  have HK9 := Lib.hid (HKM.out.same (HL9.out.block w.heap.size HKM.out.lt))
                  clear hb9
                  have c0 := cell20 (k := 0) HX9.out
                  have c1 := cell20 (k := 1) HX9.out
                  have c2 := cell20 (k := 2) HX9.out
                  have c3 := cell20 (k := 3) HX9.out
                  have c4 := cell20 (k := 4) HX9.out
                  have c5 := cell20 (k := 5) HX9.out
                  simp only [List.getElem?_toArray, List.getElem?_cons_succ, List.getElem?_cons_zero] at c0 c1 c2 c3 c4 c5
                  have hlk := kinds_miss HK9.out HQS.out HF.out
                  go_wp2_with fail
                  go_ret
                  exact ⟨ret_int (by rw [check_stop HL4.out HTR.out HAT.out (x := 4) HCA.out (by decide)]), HB9.out⟩
                | some g =>
                  have HF := Lib.hid hf
                  by_cases hk2 : g.kind = 2
                  · have e3 : (g.kind != 2) = false := by simp [hk2]
                    have HTN := Lib.hid (check_next HTR.out HAT.out (HDI.out 0 (by rw [hf]; simp only [if_pos hk2])))
                    clear hf hk2
                    refine (parent20 e.path q _ (HE.out.below HB8.out) (vEnt_path HVE.out) HQ.out).mono ?_
                    rintro e9 w9 ⟨rfl, hb9⟩
                    have HL9 := Lib.hid (HL8.out.trans (hb9.mono HL8.out.size))
                    have HB9 := Lib.hid (below_next HB8.out hb9)
                    have HX9 := Lib.hid ((hb9.block wr.heap.size (lt20 HX8.out)).trans HX8.out)
                    have HK9 := Lib.hid (HKM.out.same (HL9.out.block w.heap.size HKM.out.lt))
                    clear hb9
                    have c0 := cell20 (k := 0) HX9.out
                    have c1 := cell20 (k := 1) HX9.out
                    have c2 := cell20 (k := 2) HX9.out
                    have c3 := cell20 (k := 3) HX9.out
                    have c4 := cell20 (k := 4) HX9.out
                    have c5 := cell20 (k := 5) HX9.out
                    simp only [List.getElem?_toArray, List.getElem?_cons_succ, List.getElem?_cons_zero] at c0 c1 c2 c3 c4 c5
                    have hlk := kinds_hit HK9.out HQS.out HF.out
                    go_wp2_with (at_mapUpdate; go_must (refine wpList_putS lawStr20 rfl _ _ _ _ rfl mapIntTy w.heap.size _ HK9.out rfl (.string e.path) (.int .i64 e.kind) rfl rfl (keyStr20 HOK.out.pth) (kinds_new (by have h1 := HTN.out; rw [List.take_add_one, HAT.out] at h1; exact h1)) ?_); intro w10 hm10 hg10)
                    have HM10 := Lib.hid hm10
                    have HG10 := Lib.hid hg10
                    clear hm10 hg10 c0 c1 c2 c3 c4 c5
                    go_wp2_with fail
                    go_roundw
                    case rel =>
                      refine ⟨j + 1 + 1, by omega, by go_num, HTN.out, ?_, ?_⟩
                      · rw [List.take_add_one, HAT.out, List.map_append]; exact HM10.out
                      · exact HB9.out.grown HG10.out HB9.out.size (fun k e => by cases e; exact Nat.le_refl _)
                    case measure => simp [intOf]; omega
                  · have e3 : (g.kind != 2) = true := by simp [hk2]
                    have HCA := Lib.hid (HDI.out 13 (by rw [hf]; simp only [if_neg hk2]))
                    clear hf hk2
                    refine (parent20 e.path q _ (HE.out.below HB8.out) (vEnt_path HVE.out) HQ.out).mono ?_
                    rintro e9 w9 ⟨rfl, hb9⟩
                    have HL9 := Lib.hid (HL8.out.trans (hb9.mono HL8.out.size))
                    have HB9 := Lib.hid (below_next HB8.out hb9)
                    have HX9 := Lib.hid ((hb9.block wr.heap.size (lt20 HX8.out)).trans HX8.out)
                    have HK9 := Lib.hid (HKM.out.same (HL9.out.block w.heap.size HKM.out.lt))
                    clear hb9
                    have c0 := cell20 (k := 0) HX9.out
                    have c1 := cell20 (k := 1) HX9.out
                    have c2 := cell20 (k := 2) HX9.out
                    have c3 := cell20 (k := 3) HX9.out
                    have c4 := cell20 (k := 4) HX9.out
                    have c5 := cell20 (k := 5) HX9.out
                    simp only [List.getElem?_toArray, List.getElem?_cons_succ, List.getElem?_cons_zero] at c0 c1 c2 c3 c4 c5
                    have hlk := kinds_hit HK9.out HQS.out HF.out
                    go_wp2_with fail
                    go_ret
                    exact ⟨ret_int (by rw [check_stop HL4.out HTR.out HAT.out (x := 13) HCA.out (by decide)]), HB9.out⟩
            · have HCA := Lib.hid (show checkAt (L.take (j + 1)) e = 1 by unfold checkAt; rw [HAF.out, decide_eq_false hneg]; simp)
              have e8 : decide (0 ≤ c) = true := by simp; omega
              have e7 : 0 ≤ c := by omega
              go_wp2_with fail
              obtain ⟨W, hW⟩ : ∃ W, W = wr.alloc (.cells #[.string e.path, .int .i64 e.kind, .int .i64 e.mode, .int .i64 e.time, .slice a1 e.data.length cap1, .string e.link] 48) := ⟨_, rfl⟩
              rw [← hW]
              have HX := Lib.hid (show W.heap[wr.heap.size]? = some (.cells #[.string e.path, .int .i64 e.kind, .int .i64 e.mode, .int .i64 e.time, .slice a1 e.data.length cap1, .string e.link] 48 (0, 0)) by rw [hW]; exact new20 wr _)
              have HWL := Lib.hid (show Below wr.heap.size wr W by rw [hW]; exact (Below.refl _ _).alloc (Nat.le_refl _) _)
              have HBW := Lib.hid (below_next HBR.out HWL.out)
              clear hW
              refine (validE_is S e _ true _ (HD.out.below HWL.out) HOK.out (HE.out.below HBW.out) HVE.out).mono ?_
              rintro e7 w7 ⟨rfl, hb7⟩
              have HX7 := Lib.hid ((hb7.block wr.heap.size (lt20 HX.out)).trans HX.out)
              have HL7 := Lib.hid (HWL.out.trans (hb7.mono HWL.out.size))
              have c0 := cell20 (k := 0) HX7.out
              have c1 := cell20 (k := 1) HX7.out
              have c2 := cell20 (k := 2) HX7.out
              have c3 := cell20 (k := 3) HX7.out
              have c4 := cell20 (k := 4) HX7.out
              have c5 := cell20 (k := 5) HX7.out
              simp only [List.getElem?_toArray, List.getElem?_cons_succ, List.getElem?_cons_zero] at c0 c1 c2 c3 c4 c5
              clear hb7
              go_wp2_with fail
              refine wp_region_segs [some 11, none, some 2] (by kernel_rfl) (by kernel_rfl) (by kernel_rfl) ?_
              simp only [wpSegs, List.take_succ_cons, List.take_zero, List.drop_succ_cons, List.drop_zero]
              obtain ⟨wd, hwd⟩ : ∃ wd : World, wd = w7.drew := ⟨_, rfl⟩
              rw [← hwd]
              have HLD := Lib.hid (show Below wr.heap.size wr wd by rw [hwd]; exact HL7.out.trans ((Below.refl w7.heap.size w7).drew.mono HL7.out.size))
              have HXD := Lib.hid (show wd.heap[wr.heap.size]? = some (.cells #[.string e.path, .int .i64 e.kind, .int .i64 e.mode, .int .i64 e.time, .slice a1 e.data.length cap1, .string e.link] 48 (0, 0)) by rw [hwd]; exact HX7.out)
              clear hwd c0 c1 c2 c3 c4 c5
              have c0 := cell20 (k := 0) HXD.out
              have c1 := cell20 (k := 1) HXD.out
              have c2 := cell20 (k := 2) HXD.out
              have c3 := cell20 (k := 3) HXD.out
              have c4 := cell20 (k := 4) HXD.out
              have c5 := cell20 (k := 5) HXD.out
              simp only [List.getElem?_toArray, List.getElem?_cons_succ, List.getElem?_cons_zero] at c0 c1 c2 c3 c4 c5
              have y0 := (HLD.out.cell (block_lt p0)).trans p0
              repeat (first | (refine seg_skip rfl ?_; simp only [Act.put, List.setIfInBounds_toArray, List.set_cons_succ, List.set_cons_zero]) | (refine seg_run rfl (fun K hK => ?_); go_simp; refine hK _ ?_; clear hK K))
              refine seg_nil ?_
              refine bar_run rfl (fun K hK => ?_)
              go_wp2_with (go_at_call 52; refine (compare20 f.path e.path c _ HPF.out HC.out).mono ?_; rintro e8' w8 ⟨rfl, hb8⟩; have HL8 := Lib.hid (HLD.out.trans (hb8.mono HLD.out.size)); clear hb8 c0 c1 c2 c3 c4 c5 y0)
              repeat (first | (refine seg_skip rfl ?_; simp only [Act.put, List.setIfInBounds_toArray, List.set_cons_succ, List.set_cons_zero]) | (refine seg_run rfl (fun K hK => ?_); go_simp; refine hK _ ?_; clear hK K))
              refine seg_nil ?_
              have HB9 := Lib.hid (below_next HBR.out HL8.out)
              go_wp2_with fail
              go_ret
              exact ⟨ret_int (by rw [check_stop HL4.out HTR.out HAT.out (x := 1) HCA.out (by decide)]), HB9.out⟩
      · have hk2 : k = n := by omega
        subst hk2
        go_wp2_with fail
        go_ret
        exact ⟨ret_int (by rw [check_done HL4.out (by rw [← HN.out]; exact HTR.out)]), HBR.out⟩
end Go.Proofs.YtdieneaillkbgaaGreatDoor

/- Contracts of package treediff: sameContent, same, copied, movable, validEntry. -/
namespace Go.Proofs.YtdieneaillkbgaaGreatDoor
open Go.RowKit Go.Maps
theorem copiedT_res {a : Act} {w : World} {b : Nat} {x0 x1 x2 x3 x4 x5 : Value} (h : w.heap[b]? = some (.cells #[x0, x1, x2, x3, x4, x5] 48 (0, 0)))
    (h2 : a.tmps[2]? = some (.pointer (some ⟨b, 0, none⟩))) : (results Tryz.f68 a.tmps).run Tryz.prog w = .ok (.agg #[x0, x1, x2, x3, x4, x5]) w := by
  have m0 := cell20 (k := 0) h
  have m1 := cell20 (k := 1) h
  have m2 := cell20 (k := 2) h
  have m3 := cell20 (k := 3) h
  have m4 := cell20 (k := 4) h
  have m5 := cell20 (k := 5) h
  simp only [List.getElem?_toArray, List.getElem?_cons_succ, List.getElem?_cons_zero] at m0 m1 m2 m3 m4 m5
  simp [results, Tryz.results68, go_sem, h2, m0, m1, m2, m3, m4, m5]
theorem copiedT_end {a : Act} {w : World} {b : Nat} {a0 a1 a2 a3 a4 a5 x0 x1 x2 x3 x4 x5 : Value} {Q : Ending → World → Prop} (h : w.heap[b]? = some (.cells #[a0, a1, a2, a3, a4, a5] 48 (0, 0)))
    (h2 : a.tmps[2]? = some (.pointer (some ⟨b, 0, none⟩))) (hd : a.defers = [])
    (hQ : Q (.returned (.agg #[x0, x1, x2, x3, x4, x5])) ((((((w.setCell ⟨b, 0, none⟩ x0).setCell ⟨b, 1, none⟩ x1).setCell ⟨b, 2, none⟩ x2).setCell ⟨b, 3, none⟩ x3).setCell ⟨b, 4, none⟩ x4).setCell ⟨b, 5, none⟩ x5)) :
    bodyPost Tryz.prog Tryz.f68 Q Exit.ret a ((((((w.setCell ⟨b, 0, none⟩ x0).setCell ⟨b, 1, none⟩ x1).setCell ⟨b, 2, none⟩ x2).setCell ⟨b, 3, none⟩ x3).setCell ⟨b, 4, none⟩ x4).setCell ⟨b, 5, none⟩ x5) :=
  bodyPost_ret (copiedT_res (six20 h) h2) hd hQ
set_option maxHeartbeats 1000000 in
theorem copiedT_any (S : Nat → Prop) (en : Ent) (v : Value) (w : World) (hd : DataAt S w v en.data) (hl : en.data.length ≤ 140737488355328) :
    Calls Tryz.prog 68 #[entV v en] w fun e w' => ∃ v', e = .returned (entV v' en) ∧ w'.ownsRow w.heap.size 5 1 v' en.data.length (en.data.map u8V) ∧ Below w.heap.size w w' := by
  have HD := Lib.hid hd
  obtain ⟨_, a, cap, rfl, hc, hm, -⟩ := hd
  unfold maxLen at hm
  unfold entV
  go_enter Tryz.func68, Tryz.ntmps68
  go_wp2_with fail
  obtain ⟨W, hW⟩ : ∃ W : World, W = (w.alloc (.cells #[.string en.path, .int .i64 en.kind, .int .i64 en.mode, .int .i64 en.time, .slice a en.data.length cap, .string en.link] 48)).alloc (.cells #[.string ⟨#[]⟩, .int .i64 0, .int .i64 0, .int .i64 0, .slice none 0 0, .string ⟨#[]⟩] 48) := ⟨_, rfl⟩
  rw [← hW]
  have HB0 := Lib.hid (show Below w.heap.size w W by rw [hW]; exact ((Below.refl _ _).alloc (Nat.le_refl _) _).alloc (by simp) _)
  have hz1 : W.heap[w.heap.size]? = some (.cells #[.string en.path, .int .i64 en.kind, .int .i64 en.mode, .int .i64 en.time, .slice a en.data.length cap, .string en.link] 48 (0, 0)) := by rw [hW]; exact alloc20 (new20 _ _) _
  have hz2 : W.heap[w.heap.size + 1]? = some (.cells #[.string ⟨#[]⟩, .int .i64 0, .int .i64 0, .int .i64 0, .slice none 0 0, .string ⟨#[]⟩] 48 (0, 0)) := by rw [hW]; exact new20b _ _ _
  refine (clone_any S _ en.data W (HD.out.below HB0.out) hl).mono ?_
  rintro e w1 ⟨v', rfl, ho, hb1⟩
  have HO := Lib.hid ho
  have HB1 := Lib.hid (below_next HB0.out hb1)
  have HX1 := Lib.hid ((hb1.block w.heap.size (lt20 hz1)).trans hz1)
  have HX2 := Lib.hid ((hb1.block (w.heap.size + 1) (lt20 hz2)).trans hz2)
  have HZ1 := Lib.hid (lt20 hz2)
  clear hz1 hz2 hW HB0 hb1 ho
  have q0 := cell20 (k := 0) HX1.out
  have q1 := cell20 (k := 1) HX1.out
  have q2 := cell20 (k := 2) HX1.out
  have q3 := cell20 (k := 3) HX1.out
  have q4 := cell20 (k := 4) HX1.out
  have q5 := cell20 (k := 5) HX1.out
  simp only [List.getElem?_toArray, List.getElem?_cons_succ, List.getElem?_cons_zero] at q0 q1 q2 q3 q4 q5
  have m0 := cell20 (k := 0) HX2.out
  have m1 := cell20 (k := 1) HX2.out
  have m2 := cell20 (k := 2) HX2.out
  have m3 := cell20 (k := 3) HX2.out
  have m4 := cell20 (k := 4) HX2.out
  have m5 := cell20 (k := 5) HX2.out
  simp only [List.getElem?_toArray, List.getElem?_cons_succ, List.getElem?_cons_zero] at m0 m1 m2 m3 m4 m5
  have g4 := frozen20 (k := 4) HX1.out
  have p0 := frozen20 (k := 0) HX2.out
  have p1 := frozen20 (k := 1) HX2.out
  have p2 := frozen20 (k := 2) HX2.out
  have p3 := frozen20 (k := 3) HX2.out
  have p4 := frozen20 (k := 4) HX2.out
  have p5 := frozen20 (k := 5) HX2.out
  obtain ⟨a', cap', hv', -, -⟩ := owns_shape HO.out
  rw [hv'] at HO ⊢
  go_wp2_with fail
  refine copiedT_end (b := w.heap.size + 1) (setOther20 HX2.out (by omega) _) (by kernel_rfl) (by kernel_rfl) ?_
  refine ⟨_, rfl, ?_, ?_⟩
  · have hz := HZ1.out
    refine owns_le20 (base := W.heap.size) ?_ (by omega)
    repeat refine ownsRow_setCell_below ?_ (by first | (show w.heap.size < _; omega) | (show w.heap.size + 1 < _; omega)) _
    exact HO.out
  · repeat refine below_set20 ?_ (by omega)
    exact HB1.out
theorem copiedT_flat (S : Nat → Prop) (en : Ent) (v : Value) (w : World) (hd : DataAt S w v en.data) (hl : en.data.length ≤ 140737488355328) :
    Calls Tryz.prog 68 #[entV v en] w fun e w' => ∃ a' cap', e = .returned (.agg #[.string en.path, .int .i64 en.kind, .int .i64 en.mode, .int .i64 en.time, .slice a' en.data.length cap', .string en.link]) ∧ w'.ownsRow w.heap.size 5 1 (.slice a' en.data.length cap') en.data.length (en.data.map u8V) ∧ Below w.heap.size w w' :=
  (copiedT_any S en v w hd hl).mono fun _ _ ⟨v', he, ho, hb⟩ => by
    obtain ⟨a', cap', rfl, _, _⟩ := owns_shape ho
    exact ⟨a', cap', he, ho, hb⟩
set_option maxRecDepth 100000 in
set_option maxHeartbeats 2000000 in
theorem sameC_any (S T : Nat → Prop) (a b : Ent) (va vb : Value) (w : World) (ha : DataAt S w va a.data) (hb : DataAt T w vb b.data) : Calls Tryz.prog 61 #[entV va a, entV vb b] w fun e w' => e = .returned (.bool (decide (a.data = b.data) && decide (a.link = b.link))) ∧ Below w.heap.size w w' := by
  have HA := Lib.hid ha
  have HB := Lib.hid hb
  obtain ⟨_, aa, ca, rfl, hc1, hm1, -⟩ := ha
  obtain ⟨_, ab, cb, rfl, hc2, hm2, -⟩ := hb
  unfold maxLen at hm1 hm2
  unfold entV
  go_enter Tryz.func61, Tryz.ntmps61
  have HN := Lib.hid (show ∀ x y : ByteArray, x.toList = y.toList ↔ x = y from fun x y => by rw [toList_bl, toList_bl]; exact ⟨bl_inj, fun h => by rw [h]⟩)
  go_wp2_with fail
  · refine (equal20 S T _ _ a.data b.data _ (by exact HA.out.below (((Below.refl _ _).alloc (Nat.le_refl _) _).alloc (by simp) _)) (by exact HB.out.below (((Below.refl _ _).alloc (Nat.le_refl _) _).alloc (by simp) _))).mono ?_
    rintro e w3 ⟨rfl, rfl⟩
    have y1 : a.link.toList = b.link.toList := by assumption
    have HL := Lib.hid ((HN.out _ _).1 y1)
    clear y1
    go_wp2_with fail
    go_ret
    exact ⟨ret_bool (by rw [decide_eq_true HL.out, Bool.and_true]), ((Below.refl _ _).alloc (Nat.le_refl _) _).alloc (by simp) _⟩
  · have y1 : ¬ a.link.toList = b.link.toList := by assumption
    have HL := Lib.hid (show ¬ a.link = b.link from fun h => y1 ((HN.out _ _).2 h))
    go_ret
    exact ⟨ret_bool (by rw [decide_eq_false HL.out, Bool.and_false]), ((Below.refl _ _).alloc (Nat.le_refl _) _).alloc (by simp) _⟩
set_option maxRecDepth 100000 in
set_option maxHeartbeats 2000000 in
theorem sameT_any (S T : Nat → Prop) (a b : Ent) (va vb : Value) (w : World) (ha : DataAt S w va a.data) (hb : DataAt T w vb b.data) : Calls Tryz.prog 67 #[entV va a, entV vb b] w fun e w' => e = .returned (.bool (decide (a = b))) ∧ Below w.heap.size w w' := by
  have HA := Lib.hid ha
  have HB := Lib.hid hb
  obtain ⟨_, aa, ca, rfl, hc1, hm1, -⟩ := ha
  obtain ⟨_, ab, cb, rfl, hc2, hm2, -⟩ := hb
  unfold maxLen at hm1 hm2
  unfold entV
  go_enter Tryz.func67, Tryz.ntmps67
  have HN := Lib.hid (show ∀ x y : ByteArray, x.toList = y.toList ↔ x = y from fun x y => by rw [toList_bl, toList_bl]; exact ⟨bl_inj, fun h => by rw [h]⟩)
  go_wp2_with fail
  · have y1 : a.path.toList = b.path.toList := by assumption
    have y2 : a.kind = b.kind := by assumption
    have y3 : a.mode = b.mode := by assumption
    have y4 : a.time = b.time := by assumption
    rw [← y2, ← y3, ← y4]
    have HX := Lib.hid (show (decide (a.data = b.data) && decide (a.link = b.link)) = decide (a = b) by
      clear HA HB
      cases a; cases b
      rw [HN.out] at y1
      simp only at y1 y2 y3 y4
      subst y1 y2 y3 y4
      simp)
    have Y2 := Lib.hid y2
    have Y3 := Lib.hid y3
    have Y4 := Lib.hid y4
    clear y1 y2 y3 y4
    obtain ⟨W, hW⟩ : ∃ W : World, W = (w.alloc (.cells #[.string a.path, .int .i64 a.kind, .int .i64 a.mode, .int .i64 a.time, .slice aa a.data.length ca, .string a.link] 48)).alloc (.cells #[.string b.path, .int .i64 a.kind, .int .i64 a.mode, .int .i64 a.time, .slice ab b.data.length cb, .string b.link] 48) := ⟨_, rfl⟩
    rw [← hW]
    have HB0 := Lib.hid (show Below w.heap.size w W by rw [hW]; exact ((Below.refl _ _).alloc (Nat.le_refl _) _).alloc (by simp) _)
    clear hW
    have hC := sameC_any S T a b (.slice aa a.data.length ca) (.slice ab b.data.length cb) W (HA.out.below HB0.out) (HB.out.below HB0.out)
    unfold entV at hC
    rw [← Y2.out, ← Y3.out, ← Y4.out] at hC
    refine hC.mono ?_
    rintro e w3 ⟨rfl, hb3⟩
    have HB3 := Lib.hid (below_next HB0.out hb3)
    clear hb3
    go_wp2_with fail
    go_ret
    exact ⟨ret_bool HX.out, HB3.out⟩
  all_goals (
    go_ret
    refine ⟨ret_bool ?_, ((Below.refl _ _).alloc (Nat.le_refl _) _).alloc (by simp) _⟩
    symm
    rw [decide_eq_false_iff_not]
    rintro rfl
    exact absurd rfl (by assumption))
end Go.Proofs.YtdieneaillkbgaaGreatDoor

/- Contracts of the specification kinkeepref20: Find. -/
namespace Go.Proofs.YtdieneaillkbgaaGreatDoor
open Go.RowKit Go.Maps
def findIx : List Ent → ByteArray → Nat → Int
  | [], _, _ => -1
  | e :: L, p, i => if e.path = p then (i : Int) else findIx L p (i + 1)
theorem findIx_drop {L : List Ent} {p : ByteArray} {k : Nat} {e : Ent} (h : L[k]? = some e) : findIx (L.drop k) p k = if e.path = p then (k : Int) else findIx (L.drop (k + 1)) p (k + 1) := by
  obtain ⟨hk, he⟩ := List.getElem?_eq_some_iff.1 h
  rw [List.drop_eq_getElem_cons hk, findIx, he]
/-- The place that is found: of the first entry with the path. -/
theorem findIx_spec {p : ByteArray} : ∀ (L : List Ent) (i : Nat), (findE L p = none ∧ findIx L p i = -1) ∨ ∃ j e, findE L p = some e ∧ L[j]? = some e ∧ findIx L p i = ((i + j : Nat) : Int)
  | [], i => .inl ⟨rfl, rfl⟩
  | e :: L, i => by
    by_cases h : e.path = p
    · right
      refine ⟨0, e, ?_, rfl, ?_⟩
      · unfold findE; rw [List.find?_cons_of_pos (by simp [h])]
      · rw [findIx, if_pos h]; simp
    · have hf : findE (e :: L) p = findE L p := by unfold findE; rw [List.find?_cons_of_neg (by simp [h])]
      rw [findIx, if_neg h, hf]
      rcases findIx_spec L (i + 1) with h1 | ⟨j, f, h1, h2, h3⟩
      · exact .inl h1
      · exact .inr ⟨j + 1, f, h1, by simpa using h2, by rw [h3]; congr 1; omega⟩
set_option maxRecDepth 100000 in
set_option maxHeartbeats 1000000 in
theorem r_find_any (S : Nat → Prop) (L : List Ent) (v : Value) (p : ByteArray) (w : World) (hv : EntsAt S w v L) :
    Calls Tryz.prog 65 #[v, .string p] w fun e w' => e = .returned (.int .i64 (findIx L p 0)) ∧ Below w.heap.size w w' := by
  have HV := Lib.hid hv
  obtain ⟨a, cap, rfl, hc, hm, -⟩ := SeqAt.shape hv EntR.len
  obtain ⟨n, hn⟩ : ∃ n, n = L.length := ⟨_, rfl⟩
  have HN := Lib.hid hn
  rw [← hn] at HV hc ⊢
  unfold maxLen at hm
  clear hv hn
  go_enter Tryz.func65, Tryz.ntmps65
  go_wp2_with fail
  go_loopw [5, 9] (fun _ i wr => ∃ k : Nat, k ≤ n ∧ i = .int .i64 k ∧ findIx L p 0 = findIx (L.drop k) p k ∧ Below w.heap.size w wr) (fun _ i _ => n - (intOf i).toNat)
  case atStart => exact ⟨0, Nat.zero_le _, rfl, rfl, Below.refl _ _⟩
  case round =>
    obtain ⟨k, hk, rfl, hfi, hbr⟩ := hrel
    have HFI := Lib.hid hfi
    have HBR := Lib.hid hbr
    by_cases hlt : k < n
    · obtain ⟨e, he⟩ : ∃ e, L[k]? = some e := ⟨L[k]'(by rw [← HN.out]; exact hlt), by simp⟩
      obtain ⟨b, o, dv, rfl, -, hb, hd, -, -, q0, q1, q2, q3, q4, q5⟩ := ents_at (HV.out.below hbr) he
      obtain ⟨_, ad, cd, rfl, hcd, hmd, -⟩ := hd
      have HAT := Lib.hid (findIx_drop (p := p) he)
      clear he hfi hbr
      by_cases hp : e.path = p
      · have e1 : (e.path.toList == p.toList) = true := by rw [hp]; simp
        have HR := Lib.hid (show findIx L p 0 = (k : Int) by rw [HFI.out, HAT.out, if_pos hp])
        clear hp
        go_wp2_with fail
        go_ret
        exact ⟨ret_int HR.out.symm, below_next HBR.out ((Below.refl _ _).alloc (Nat.le_refl _) _)⟩
      · have e1 : (e.path.toList == p.toList) = false := by
          rw [beq_eq_false_iff_ne]; intro h; exact hp (bl_inj (by rw [← toList_bl, ← toList_bl]; exact h))
        have HR := Lib.hid (show findIx L p 0 = findIx (L.drop (k + 1)) p (k + 1) by rw [HFI.out, HAT.out, if_neg hp])
        clear hp
        go_wp2_with fail
        go_roundw
        case rel => exact ⟨k + 1, by omega, by go_num, HR.out, below_next HBR.out ((Below.refl _ _).alloc (Nat.le_refl _) _)⟩
        case measure => simp [intOf]; omega
    · have HR := Lib.hid (show findIx L p 0 = -1 by rw [HFI.out, List.drop_of_length_le (by rw [← HN.out]; omega)]; rfl)
      clear hfi hbr
      go_wp2_with fail
      go_ret
      exact ⟨ret_int HR.out.symm, HBR.out⟩
end Go.Proofs.YtdieneaillkbgaaGreatDoor

/- Contracts of the specification kinkeepref20: Same. -/
namespace Go.Proofs.YtdieneaillkbgaaGreatDoor
open Go.RowKit Go.Maps
theorem conv20 {S : Nat → Prop} {w : World} {v : Value} {bs : List UInt8} (hd : DataAt S w v bs) : (convert 46 9 v).run Tryz.prog w = .ok (.string ⟨bs.toArray⟩) w := by
  have h := conv_data hd
  have e : strOfNums (bs.map fun b => (b.toNat : Int)) = ⟨bs.toArray⟩ := by
    simp only [strOfNums, List.map_map, Function.comp_def, Int.toNat_natCast]
    simp
  rw [e] at h
  exact h
set_option maxRecDepth 100000 in
set_option maxHeartbeats 2000000 in
theorem r_same20_any (S T : Nat → Prop) (a b : Ent) (va vb : Value) (w : World) (ha : DataAt S w va a.data) (hb : DataAt T w vb b.data) : Calls Tryz.prog 31 #[entV va a, entV vb b] w fun e w' => e = .returned (.bool (decide (a = b))) ∧ Below w.heap.size w w' := by
  obtain ⟨sa, hsa⟩ : ∃ sa : ByteArray, sa = ⟨a.data.toArray⟩ := ⟨_, rfl⟩
  obtain ⟨sb, hsb⟩ : ∃ sb : ByteArray, sb = ⟨b.data.toArray⟩ := ⟨_, rfl⟩
  have hca : ∀ c1 c2 : Array Value, (convert 46 9 va).run Tryz.prog ((w.alloc (.cells c1 48)).alloc (.cells c2 48)) = .ok (.string sa) ((w.alloc (.cells c1 48)).alloc (.cells c2 48)) := fun c1 c2 => by
    rw [hsa]; exact conv20 (ha.below (((Below.refl _ _).alloc (Nat.le_refl _) _).alloc (by simp) _))
  have hcb : ∀ c1 c2 : Array Value, (convert 46 9 vb).run Tryz.prog ((w.alloc (.cells c1 48)).alloc (.cells c2 48)) = .ok (.string sb) ((w.alloc (.cells c1 48)).alloc (.cells c2 48)) := fun c1 c2 => by
    rw [hsb]; exact conv20 (hb.below (((Below.refl _ _).alloc (Nat.le_refl _) _).alloc (by simp) _))
  have HSA := Lib.hid (show bl sa = a.data by rw [hsa]; exact bl_mk _)
  have HSB := Lib.hid (show bl sb = b.data by rw [hsb]; exact bl_mk _)
  obtain ⟨_, aa, ca, rfl, hc1, hm1, -⟩ := ha
  obtain ⟨_, ab, cb, rfl, hc2, hm2, -⟩ := hb
  unfold maxLen at hm1 hm2
  unfold entV
  clear hsa hsb
  have HN := Lib.hid (show ∀ x y : ByteArray, x.toList = y.toList ↔ x = y from fun x y => by rw [toList_bl, toList_bl]; exact ⟨bl_inj, fun h => by rw [h]⟩)
  go_enter Tryz.func31, Tryz.ntmps31
  go_wp2_with fail
  · have y1 : a.path.toList = b.path.toList := by assumption
    have y2 : a.kind = b.kind := by assumption
    have y3 : a.mode = b.mode := by assumption
    have y4 : a.time = b.time := by assumption
    have y5 : a.link.toList = b.link.toList := by assumption
    have HX := Lib.hid (show (sa.toList == sb.toList) = decide (a = b) by
      rw [toList_bl, toList_bl, HSA.out, HSB.out]
      cases a; cases b
      rw [HN.out] at y1 y5
      simp only at y1 y2 y3 y4 y5
      subst y1 y2 y3 y4 y5
      rw [Bool.eq_iff_iff]
      simp)
    go_ret
    exact ⟨ret_bool HX.out, ((Below.refl _ _).alloc (Nat.le_refl _) _).alloc (by simp) _⟩
  all_goals (
    go_ret
    refine ⟨ret_bool ?_, ((Below.refl _ _).alloc (Nat.le_refl _) _).alloc (by simp) _⟩
    symm
    rw [decide_eq_false_iff_not]
    rintro rfl
    exact absurd rfl (by assumption))
end Go.Proofs.YtdieneaillkbgaaGreatDoor

/- Contracts of package treediff: movable, validEntry, valid; changes as values. -/
namespace Go.Proofs.YtdieneaillkbgaaGreatDoor
open Go.RowKit Go.Maps
def contV (k : Int) (s : ByteArray) : Value := .agg #[.int .i64 k, .string s]
/-- What a movable entry has in common with the one at its source. -/
def contE (e : Ent) : Int × ByteArray := if e.kind = 1 ∧ 0 < e.data.length then (1, ⟨e.data.toArray⟩) else if e.kind = 3 then (3, e.link) else (0, ⟨#[]⟩)
set_option maxHeartbeats 1000000 in
theorem movable_res {a : Act} {w : World} {b : Nat} {x0 x1 e5 : Value} (h : w.heap[b]? = some (.cells #[x0, x1] 108 (0, 0)))
    (h4 : a.tmps[2]? = some (.pointer (some ⟨b, 0, none⟩))) (h5 : a.tmps[3]? = some e5) : (results Tryz.f66 a.tmps).run Tryz.prog w = .ok (.tuple #[.agg #[x0, x1], e5]) w := by
  have m0 := cell20 (k := 0) h
  have m1 := cell20 (k := 1) h
  simp only [List.getElem?_toArray, List.getElem?_cons_succ, List.getElem?_cons_zero] at m0 m1
  simp [results, Tryz.results66, go_sem, h4, h5, m0, m1]
theorem movable_end {a : Act} {w : World} {b : Nat} {x0 x1 e5 : Value} {Q : Ending → World → Prop} (h : w.heap[b]? = some (.cells #[x0, x1] 108 (0, 0)))
    (h4 : a.tmps[2]? = some (.pointer (some ⟨b, 0, none⟩))) (h5 : a.tmps[3]? = some e5) (hd : a.defers = []) (hQ : Q (.returned (.tuple #[.agg #[x0, x1], e5])) w) :
    bodyPost Tryz.prog Tryz.f66 Q Exit.ret a w := bodyPost_ret (movable_res h h4 h5) hd hQ
set_option maxRecDepth 100000 in
set_option maxHeartbeats 2000000 in
theorem movable_any (S : Nat → Prop) (en : Ent) (v : Value) (w : World) (hd : DataAt S w v en.data) :
    Calls Tryz.prog 66 #[entV v en] w fun e w' => e = .returned (.tuple #[contV (contE en).1 (contE en).2, .bool (movB en)]) ∧ Below w.heap.size w w' := by
  have HD := Lib.hid hd
  obtain ⟨sd, hsd⟩ : ∃ sd : ByteArray, sd = ⟨en.data.toArray⟩ := ⟨_, rfl⟩
  have hca : ∀ c1 c2 : Array Value, (convert 46 9 v).run Tryz.prog ((w.alloc (.cells c1 48)).alloc (.cells c2 108)) = .ok (.string sd) ((w.alloc (.cells c1 48)).alloc (.cells c2 108)) := fun c1 c2 => by
    rw [hsd]; exact conv20 (hd.below (((Below.refl _ _).alloc (Nat.le_refl _) _).alloc (by simp) _))
  have HSD := Lib.hid hsd
  clear hsd
  obtain ⟨_, a, cap, rfl, hc, hm, -⟩ := hd
  unfold maxLen at hm
  unfold entV contV
  go_enter Tryz.func66, Tryz.ntmps66
  have HB0 := Lib.hid (show ∀ c1 c2 : Array Value, Below w.heap.size w ((w.alloc (.cells c1 48)).alloc (.cells c2 108)) from fun c1 c2 => ((Below.refl _ _).alloc (Nat.le_refl _) _).alloc (by simp) _)
  by_cases h1 : en.kind = 1
  · by_cases h2 : 0 < en.data.length
    · have HM := Lib.hid (show contE en = (1, sd) ∧ movB en = true from ⟨by unfold contE; rw [if_pos ⟨h1, h2⟩, HSD.out], by unfold movB; simp [h1, h2]⟩)
      have h3 : (en.data.length : Int) > 0 := by omega
      go_wp2_with fail
      refine movable_end (b := w.heap.size + 1) (e5 := .bool true) (new20b _ _ _) (by kernel_rfl) (by kernel_rfl) (by kernel_rfl) ⟨?_, ?_⟩
      · rw [HM.out.1, HM.out.2]
      · exact HB0.out _ _
    · have HM := Lib.hid (show contE en = (0, ⟨#[]⟩) ∧ movB en = false from ⟨by unfold contE; rw [if_neg (fun h => h2 h.2), if_neg (by omega)], by unfold movB; simp [h1, h2]⟩)
      have h3 : en.data.length = 0 := by omega
      have h4 : ¬ en.kind = 3 := by omega
      go_wp2_with fail
      refine movable_end (b := w.heap.size + 1) (e5 := .bool false) (new20b _ _ _) (by kernel_rfl) (by kernel_rfl) (by kernel_rfl) ⟨?_, ?_⟩
      · rw [HM.out.1, HM.out.2]
      · exact HB0.out _ _
  · by_cases h2 : en.kind = 3
    · have HM := Lib.hid (show contE en = (3, en.link) ∧ movB en = true from ⟨by unfold contE; rw [if_neg (fun h => h1 h.1), if_pos h2], by unfold movB; simp [h2]⟩)
      go_wp2_with fail
      refine movable_end (b := w.heap.size + 1) (e5 := .bool true) (new20b _ _ _) (by kernel_rfl) (by kernel_rfl) (by kernel_rfl) ⟨?_, ?_⟩
      · rw [HM.out.1, HM.out.2]
      · exact HB0.out _ _
    · have HM := Lib.hid (show contE en = (0, ⟨#[]⟩) ∧ movB en = false from ⟨by unfold contE; rw [if_neg (fun h => h1 h.1), if_neg h2], by unfold movB; simp [h1, h2]⟩)
      go_wp2_with fail
      refine movable_end (b := w.heap.size + 1) (e5 := .bool false) (new20b _ _ _) (by kernel_rfl) (by kernel_rfl) (by kernel_rfl) ⟨?_, ?_⟩
      · rw [HM.out.1, HM.out.2]
      · exact HB0.out _ _
/- One entry as a list. -/
theorem check_one (e : Ent) : decide (checkP [e] ≠ 1) = vEnt e := by
  have : checkP [e] = if checkAt [] e ≠ 0 then checkAt [] e else 0 := by unfold checkP; simp [checkF]
  rw [this]
  unfold checkAt
  rw [after_zero, Bool.and_true]
  cases hv : vEnt e with
  | false => simp
  | true =>
    simp only [if_true]
    unfold dirE
    by_cases hp : parentL (bl e.path) = []
    · simp [hp]
    · simp [hp, findE]
theorem ents_lit {T : Nat → Prop} {w : World} {base c : Nat} {a : Option Addr} {v : Value} {e : Ent} (h : w.ownsRow base 48 6 (.slice a 1 c) 1 (entC v e)) (hd : DataAt T w v e.data) (hok : EntOk e) : EntsAt (fun _ => True) w (.slice a 1 c) [e] :=
  ⟨entC v e, RowAt.weak (row_of_owns h) (fun _ _ => trivial), entC v e, [], by simp, ⟨v, rfl, data_mono hd (fun _ _ => trivial), hok⟩, rfl⟩
set_option maxRecDepth 100000 in
set_option maxHeartbeats 2000000 in
theorem validEn_any (S : Nat → Prop) (en : Ent) (v : Value) (w : World) (hd : DataAt S w v en.data) (hok : EntOk en) (henv : Env w) : Calls Tryz.prog 97 #[entV v en] w fun e w' => e = .returned (.bool (vEnt en)) ∧ Below w.heap.size w w' := by
  have HD := Lib.hid hd
  have HOK := Lib.hid hok
  have HE := Lib.hid henv
  obtain ⟨_, a, cap, rfl, hc, hm, -⟩ := hd
  unfold maxLen at hm
  unfold entV
  clear henv hok
  go_enter Tryz.func97, Tryz.ntmps97
  go_wp2_with fail
  obtain ⟨w1, hw1⟩ : ∃ w1 : World, w1 = w.alloc (.cells #[.string en.path, .int .i64 en.kind, .int .i64 en.mode, .int .i64 en.time, .slice a en.data.length cap, .string en.link] 48) := ⟨_, rfl⟩
  rw [← hw1]
  have hb1 : Below w.heap.size w w1 := by rw [hw1]; exact (Below.refl _ _).alloc (Nat.le_refl _) _
  have hsz : w1.heap.size = w.heap.size + 1 := by rw [hw1]; simp
  clear hw1
  have h1 := World.ownsRow_lit (base := w1.heap.size) (e := 48) (size := 6) w1 (entC (.slice a en.data.length cap) en).toArray 1 (Nat.le_refl _) (by decide) rfl
  obtain ⟨W, hW⟩ : ∃ W : World, W = w1.alloc (.cells #[.string en.path, .int .i64 en.kind, .int .i64 en.mode, .int .i64 en.time, .slice a en.data.length cap, .string en.link] 48) := ⟨_, rfl⟩
  rw [← hW]
  have hb2 : Below w1.heap.size w1 W := by rw [hW]; exact (Below.refl _ _).alloc (Nat.le_refl _) _
  have h2 : W.ownsRow w1.heap.size 48 6 (.slice (some ⟨w1.heap.size, 0, none⟩) 1 1) 1 (entC (.slice a en.data.length cap) en) := by rw [hW]; exact h1
  rw [hsz] at h2
  clear hW h1 hsz
  have HBW := Lib.hid (below_next hb1 hb2)
  have HL := Lib.hid (ents_lit h2 (HD.out.below HBW.out) HOK.out)
  clear hb1 hb2 h2
  refine (check_any _ [en] _ W HL.out (HE.out.below HBW.out)).mono ?_
  rintro e w3 ⟨rfl, hb3⟩
  have HB3 := Lib.hid (below_next HBW.out hb3)
  clear hb3
  obtain ⟨n, hn⟩ : ∃ n, n = checkP [en] := ⟨_, rfl⟩
  rw [← hn]
  have HC := Lib.hid (show vEnt en = decide (n ≠ 1) by rw [hn]; exact (check_one en).symm)
  clear hn
  go_wp2_with fail
  go_ret
  refine ⟨ret_bool ?_, HB3.out⟩
  rw [HC.out, Bool.eq_iff_iff]; simp
end Go.Proofs.YtdieneaillkbgaaGreatDoor

/- Contracts of package treediff: changes as values; valid. -/
namespace Go.Proofs.YtdieneaillkbgaaGreatDoor
open Go.RowKit Go.Maps
structure ChgOk (c : Chg) : Prop where
  knd : (Lit.int .i64 c.kind).wf = true
  pth : c.path.size ≤ maxLen
  src : c.src.size ≤ maxLen
  en : EntOk c.en
def chgC (v : Value) (c : Chg) : List Value := [.int .i64 c.kind, .string c.path, .string c.src, .string c.en.path, .int .i64 c.en.kind, .int .i64 c.en.mode, .int .i64 c.en.time, v, .string c.en.link]
def chgV (v : Value) (c : Chg) : Value := .agg #[.int .i64 c.kind, .string c.path, .string c.src, .string c.en.path, .int .i64 c.en.kind, .int .i64 c.en.mode, .int .i64 c.en.time, v, .string c.en.link]
def ChgR (S : Nat → Prop) (w : World) (l : List Value) (c : Chg) : Prop := ∃ v, l = chgC v c ∧ DataAt S w v c.en.data ∧ ChgOk c
theorem ChgR.len {S : Nat → Prop} {w : World} (l : List Value) (c : Chg) (h : ChgR S w l c) : l.length = 9 := by obtain ⟨v, rfl, _⟩ := h; rfl
theorem ChgR.below {S : Nat → Prop} {w w' : World} {l : List Value} {c : Chg} (h : ChgR S w l c) (hb : Below w.heap.size w w') : ChgR S w' l c := by
  obtain ⟨v, h1, h2, h3⟩ := h
  exact ⟨v, h1, h2.below hb, h3⟩
def ChgsAt (S : Nat → Prop) (w : World) (v : Value) (l : List Chg) : Prop := SeqAt S w 9 (ChgR S w) v l
theorem ChgsAt.below {S : Nat → Prop} {w w' : World} {v : Value} {l : List Chg} (h : ChgsAt S w v l) (hb : Below w.heap.size w w') : ChgsAt S w' v l :=
  SeqAt.below h (by omega) hb (fun _ _ _ hr => hr.below hb)
/-- The nine cells of a change in a row. -/
theorem chgs_at {S : Nat → Prop} {w : World} {a : Option Addr} {n cap : Nat} {l : List Chg} (hv : ChgsAt S w (.slice a n cap) l) {k : Nat} {c : Chg} (hr : l[k]? = some c) :
    ∃ b o v, a = some ⟨b, o, none⟩ ∧ b < w.heap.size ∧ DataAt S w v c.en.data ∧ ChgOk c ∧ ∀ j, j < 9 → w.cell? ⟨b, o + k * 9 + j, none⟩ = (chgC v c)[j]? := by
  obtain ⟨a', cap', he, hn, hm, hat⟩ := SeqAt.shape hv ChgR.len
  simp only [Value.slice.injEq] at he
  obtain ⟨rfl, rfl, rfl⟩ := he
  obtain ⟨b, o, l', ha, hb, ⟨v, hc, hd, hok⟩, hl, hj⟩ := hat k c hr
  subst hc
  have hc0 := hj 0 (by omega)
  exact ⟨b, o, v, ha, block_lt (hc0.trans rfl), hd, hok, fun j hjl => by have h := hj j hjl; rwa [← Nat.add_assoc] at h⟩
theorem chgs_shape {S : Nat → Prop} {w : World} {v : Value} {l : List Chg} (hv : ChgsAt S w v l) : ∃ a c, v = .slice a l.length c ∧ l.length ≤ c ∧ c ≤ maxLen := by
  obtain ⟨a, c, he, hn, hm, _⟩ := SeqAt.shape hv ChgR.len
  exact ⟨a, c, he, hn, hm⟩
theorem str_eq {x y : ByteArray} : x.toList = y.toList ↔ x = y := by rw [toList_bl, toList_bl]; exact ⟨bl_inj, fun h => by rw [h]⟩
theorem str_none {x : ByteArray} : x.toList.isEmpty = decide (x = ⟨#[]⟩) := by
  rw [empty20, Bool.eq_iff_iff, decide_eq_true_eq, decide_eq_true_eq]
  exact ⟨fun h => bl_inj (h.trans rfl), fun h => by rw [h]; rfl⟩
set_option maxRecDepth 100000 in
set_option maxHeartbeats 2000000 in
theorem valid1 (S : Nat → Prop) (p s : ByteArray) (en : Ent) (v : Value) (w : World) (hd : DataAt S w v en.data) (henv : Env w) :
    Calls Tryz.prog 83 #[chgV v ⟨1, p, s, en⟩] w fun e w' => e = .returned (.bool (chgOk ⟨1, p, s, en⟩)) ∧ Below w.heap.size w w' := by
  have HD := Lib.hid hd
  have HE := Lib.hid henv
  obtain ⟨_, a, cap, rfl, hc, hm, -⟩ := hd
  unfold maxLen at hm
  have HR := Lib.hid (show chgOk ⟨1, p, s, en⟩ = (validP (bl p) && (decide (s = noPath) && decide (en = noEnt))) from rfl)
  unfold chgV
  simp only
  clear henv
  go_enter Tryz.func83, Tryz.ntmps83
  go_wp2_with fail
  obtain ⟨W, hW⟩ : ∃ W : World, W = w.alloc (.cells #[.int .i64 1, .string p, .string s, .string en.path, .int .i64 en.kind, .int .i64 en.mode, .int .i64 en.time, .slice a en.data.length cap, .string en.link] 58) := ⟨_, rfl⟩
  rw [← hW]
  have HB0 := Lib.hid (show Below w.heap.size w W by rw [hW]; exact (Below.refl _ _).alloc (Nat.le_refl _) _)
  have HX0 := Lib.hid (show W.heap[w.heap.size]? = some (.cells #[.int .i64 1, .string p, .string s, .string en.path, .int .i64 en.kind, .int .i64 en.mode, .int .i64 en.time, .slice a en.data.length cap, .string en.link] 58 (0, 0)) by rw [hW]; exact new20 w _)
  have hlt0 := lt20 HX0.out
  clear hW
  cases hv : validP (bl p) with
  | false =>
    refine (valid20_is p false W (HE.out.below HB0.out) hv).mono ?_
    have HV := Lib.hid hv
    rintro e w1 ⟨rfl, hb1⟩
    have HB1 := Lib.hid (below_next HB0.out hb1)
    have HX1 := Lib.hid ((hb1.block w.heap.size (lt20 HX0.out)).trans HX0.out)
    clear hb1
    have hlt0 := lt20 HX1.out
    have c0 := cell20 (k := 0) HX1.out
    have c1 := cell20 (k := 1) HX1.out
    have c2 := cell20 (k := 2) HX1.out
    have c3 := cell20 (k := 3) HX1.out
    have c4 := cell20 (k := 4) HX1.out
    have c5 := cell20 (k := 5) HX1.out
    have c6 := cell20 (k := 6) HX1.out
    have c7 := cell20 (k := 7) HX1.out
    have c8 := cell20 (k := 8) HX1.out
    simp only [List.getElem?_toArray, List.getElem?_cons_succ, List.getElem?_cons_zero] at c0 c1 c2 c3 c4 c5 c6 c7 c8
    clear hv
    go_wp2_with fail
    go_ret
    exact ⟨ret_bool (by rw [HR.out, HV.out]; rfl), HB1.out⟩
  | true =>
    refine (valid20_is p true W (HE.out.below HB0.out) hv).mono ?_
    have HV := Lib.hid hv
    rintro e w1 ⟨rfl, hb1⟩
    have HB1 := Lib.hid (below_next HB0.out hb1)
    have HX1 := Lib.hid ((hb1.block w.heap.size (lt20 HX0.out)).trans HX0.out)
    clear hb1
    have hlt0 := lt20 HX1.out
    have c0 := cell20 (k := 0) HX1.out
    have c1 := cell20 (k := 1) HX1.out
    have c2 := cell20 (k := 2) HX1.out
    have c3 := cell20 (k := 3) HX1.out
    have c4 := cell20 (k := 4) HX1.out
    have c5 := cell20 (k := 5) HX1.out
    have c6 := cell20 (k := 6) HX1.out
    have c7 := cell20 (k := 7) HX1.out
    have c8 := cell20 (k := 8) HX1.out
    simp only [List.getElem?_toArray, List.getElem?_cons_succ, List.getElem?_cons_zero] at c0 c1 c2 c3 c4 c5 c6 c7 c8
    clear hv
    by_cases hs : s = ⟨#[]⟩
    · have e1 : s.toList.isEmpty = true := by rw [str_none, decide_eq_true hs]
      have HS := Lib.hid hs
      clear hs
      go_wp2_with fail
      have hC := sameT_any S (fun _ => False) en noEnt (.slice a en.data.length cap) (.slice none 0 0) w1 (HD.out.below HB1.out) (DataAt.nil _ _)
      unfold entV noEnt at hC
      simp only at hC
      refine hC.mono ?_
      rintro e w2 ⟨rfl, hb2⟩
      have HB2 := Lib.hid (below_next HB1.out hb2)
      clear hb2 hC c0 c1 c2 c3 c4 c5 c6 c7 c8
      go_wp2_with fail
      go_ret
      exact ⟨ret_bool (by rw [HR.out, HV.out, HS.out]; rfl), HB2.out⟩
    · have e1 : s.toList.isEmpty = false := by rw [str_none, decide_eq_false hs]
      have HS := Lib.hid hs
      clear hs
      go_wp2_with fail
      go_ret
      exact ⟨ret_bool (by rw [HR.out, HV.out, decide_eq_false (show ¬ s = noPath from HS.out)]; rfl), HB1.out⟩
set_option maxRecDepth 100000 in
set_option maxHeartbeats 2000000 in
theorem valid2 (S : Nat → Prop) (p s : ByteArray) (en : Ent) (v : Value) (w : World) (hd : DataAt S w v en.data) (hok : EntOk en) (henv : Env w) :
    Calls Tryz.prog 83 #[chgV v ⟨2, p, s, en⟩] w fun e w' => e = .returned (.bool (chgOk ⟨2, p, s, en⟩)) ∧ Below w.heap.size w w' := by
  have HD := Lib.hid hd
  have HE := Lib.hid henv
  have HOK := Lib.hid hok
  obtain ⟨_, a, cap, rfl, hc, hm, -⟩ := hd
  unfold maxLen at hm
  have HR := Lib.hid (show chgOk ⟨2, p, s, en⟩ = (decide (p = en.path) && (validP (bl s) && (vEnt en && decide (en.kind ≠ 2)))) from rfl)
  unfold chgV
  simp only
  clear henv hok
  by_cases hp : p = en.path
  · subst hp
    go_enter Tryz.func83, Tryz.ntmps83
    go_wp2_with fail
    obtain ⟨W, hW⟩ : ∃ W : World, W = w.alloc (.cells #[.int .i64 2, .string en.path, .string s, .string en.path, .int .i64 en.kind, .int .i64 en.mode, .int .i64 en.time, .slice a en.data.length cap, .string en.link] 58) := ⟨_, rfl⟩
    rw [← hW]
    have HB0 := Lib.hid (show Below w.heap.size w W by rw [hW]; exact (Below.refl _ _).alloc (Nat.le_refl _) _)
    have HX0 := Lib.hid (show W.heap[w.heap.size]? = some (.cells #[.int .i64 2, .string en.path, .string s, .string en.path, .int .i64 en.kind, .int .i64 en.mode, .int .i64 en.time, .slice a en.data.length cap, .string en.link] 58 (0, 0)) by rw [hW]; exact new20 w _)
    have hlt0 := lt20 HX0.out
    clear hW
    cases hv : validP (bl s) with
    | false =>
      refine (valid20_is s false W (HE.out.below HB0.out) hv).mono ?_
      have HV := Lib.hid hv
      rintro e w1 ⟨rfl, hb1⟩
      have HB1 := Lib.hid (below_next HB0.out hb1)
      have HX1 := Lib.hid ((hb1.block w.heap.size (lt20 HX0.out)).trans HX0.out)
      clear hb1
      have hlt0 := lt20 HX1.out
      have c0 := cell20 (k := 0) HX1.out
      have c1 := cell20 (k := 1) HX1.out
      have c2 := cell20 (k := 2) HX1.out
      have c3 := cell20 (k := 3) HX1.out
      have c4 := cell20 (k := 4) HX1.out
      have c5 := cell20 (k := 5) HX1.out
      have c6 := cell20 (k := 6) HX1.out
      have c7 := cell20 (k := 7) HX1.out
      have c8 := cell20 (k := 8) HX1.out
      simp only [List.getElem?_toArray, List.getElem?_cons_succ, List.getElem?_cons_zero] at c0 c1 c2 c3 c4 c5 c6 c7 c8
      clear hv
      go_wp2_with fail
      go_ret
      exact ⟨ret_bool (by rw [HR.out, HV.out, Bool.false_and, Bool.and_false]), HB1.out⟩
    | true =>
      refine (valid20_is s true W (HE.out.below HB0.out) hv).mono ?_
      have HV := Lib.hid hv
      rintro e w1 ⟨rfl, hb1⟩
      have HB1 := Lib.hid (below_next HB0.out hb1)
      have HX1 := Lib.hid ((hb1.block w.heap.size (lt20 HX0.out)).trans HX0.out)
      clear hb1
      have hlt0 := lt20 HX1.out
      have c0 := cell20 (k := 0) HX1.out
      have c1 := cell20 (k := 1) HX1.out
      have c2 := cell20 (k := 2) HX1.out
      have c3 := cell20 (k := 3) HX1.out
      have c4 := cell20 (k := 4) HX1.out
      have c5 := cell20 (k := 5) HX1.out
      have c6 := cell20 (k := 6) HX1.out
      have c7 := cell20 (k := 7) HX1.out
      have c8 := cell20 (k := 8) HX1.out
      simp only [List.getElem?_toArray, List.getElem?_cons_succ, List.getElem?_cons_zero] at c0 c1 c2 c3 c4 c5 c6 c7 c8
      clear hv
      go_wp2_with fail
      cases hve : vEnt en with
      | false =>
        have hC := validEn_any S en (.slice a en.data.length cap) w1 (HD.out.below HB1.out) HOK.out (HE.out.below HB1.out)
        rw [hve] at hC
        unfold entV at hC
        refine hC.mono ?_
        have HVE := Lib.hid hve
        rintro e w2 ⟨rfl, hb2⟩
        have HB2 := Lib.hid (below_next HB1.out hb2)
        clear hb2 hC c0 c1 c2 c3 c4 c5 c6 c7 c8 hve
        go_wp2_with fail
        go_ret
        exact ⟨ret_bool (by rw [HR.out, HV.out, HVE.out]; simp), HB2.out⟩
      | true =>
        have hC := validEn_any S en (.slice a en.data.length cap) w1 (HD.out.below HB1.out) HOK.out (HE.out.below HB1.out)
        rw [hve] at hC
        unfold entV at hC
        refine hC.mono ?_
        have HVE := Lib.hid hve
        rintro e w2 ⟨rfl, hb2⟩
        clear c0 c1 c2 c3 c4 c5 c6 c7 c8 hve hC hlt0
        have HB2 := Lib.hid (below_next HB1.out hb2)
        have HX2 := Lib.hid ((hb2.block w.heap.size (lt20 HX1.out)).trans HX1.out)
        clear hb2
        have hlt0 := lt20 HX2.out
        have c0 := cell20 (k := 0) HX2.out
        have c1 := cell20 (k := 1) HX2.out
        have c2 := cell20 (k := 2) HX2.out
        have c3 := cell20 (k := 3) HX2.out
        have c4 := cell20 (k := 4) HX2.out
        have c5 := cell20 (k := 5) HX2.out
        have c6 := cell20 (k := 6) HX2.out
        have c7 := cell20 (k := 7) HX2.out
        have c8 := cell20 (k := 8) HX2.out
        simp only [List.getElem?_toArray, List.getElem?_cons_succ, List.getElem?_cons_zero] at c0 c1 c2 c3 c4 c5 c6 c7 c8
        have HRP := Lib.hid (show chgOk ⟨2, en.path, s, en⟩ = decide (en.kind ≠ 2) by rw [HR.out, HV.out, HVE.out]; simp)
        go_wp2_with fail
        go_ret
        refine ⟨ret_bool ?_, HB2.out⟩
        rw [HRP.out, Bool.eq_iff_iff]; simp
  · have e1 : ¬ p.toList = en.path.toList := fun h => hp (str_eq.1 h)
    have HP := Lib.hid hp
    clear hp
    go_enter Tryz.func83, Tryz.ntmps83
    go_wp2_with fail
    go_ret
    exact ⟨ret_bool (by rw [HR.out, decide_eq_false HP.out]; rfl), (Below.refl _ _).alloc (Nat.le_refl _) _⟩
set_option maxRecDepth 100000 in
set_option maxHeartbeats 2000000 in
theorem valid3 (S : Nat → Prop) (p s : ByteArray) (en : Ent) (v : Value) (w : World) (hd : DataAt S w v en.data) (hok : EntOk en) (henv : Env w) :
    Calls Tryz.prog 83 #[chgV v ⟨3, p, s, en⟩] w fun e w' => e = .returned (.bool (chgOk ⟨3, p, s, en⟩)) ∧ Below w.heap.size w w' := by
  have HD := Lib.hid hd
  have HE := Lib.hid henv
  have HOK := Lib.hid hok
  obtain ⟨_, a, cap, rfl, hc, hm, -⟩ := hd
  unfold maxLen at hm
  have HR := Lib.hid (show chgOk ⟨3, p, s, en⟩ = (decide (p = en.path) && (decide (s = noPath) && vEnt en)) from rfl)
  unfold chgV
  simp only
  clear henv hok
  by_cases hp : p = en.path
  · by_cases hs : s = ⟨#[]⟩
    · have e1 : s.toList.isEmpty = true := by rw [str_none, decide_eq_true hs]
      have HS := Lib.hid hs
      clear hs
      subst hp
      go_enter Tryz.func83, Tryz.ntmps83
      go_wp2_with fail
      obtain ⟨W, hW⟩ : ∃ W : World, W = w.alloc (.cells #[.int .i64 3, .string en.path, .string s, .string en.path, .int .i64 en.kind, .int .i64 en.mode, .int .i64 en.time, .slice a en.data.length cap, .string en.link] 58) := ⟨_, rfl⟩
      rw [← hW]
      have HB0 := Lib.hid (show Below w.heap.size w W by rw [hW]; exact (Below.refl _ _).alloc (Nat.le_refl _) _)
      clear hW
      have hC := validEn_any S en (.slice a en.data.length cap) W (HD.out.below HB0.out) HOK.out (HE.out.below HB0.out)
      unfold entV at hC
      refine hC.mono ?_
      rintro e w2 ⟨rfl, hb2⟩
      have HB2 := Lib.hid (below_next HB0.out hb2)
      clear hb2 hC
      go_wp2_with fail
      go_ret
      exact ⟨ret_bool (by rw [HR.out, HS.out]; simp [noPath]), HB2.out⟩
    · have e1 : s.toList.isEmpty = false := by rw [str_none, decide_eq_false hs]
      have HS := Lib.hid hs
      clear hs
      subst hp
      go_enter Tryz.func83, Tryz.ntmps83
      go_wp2_with fail
      go_ret
      exact ⟨ret_bool (by rw [HR.out, decide_eq_false (show ¬ s = noPath from HS.out)]; simp), (Below.refl _ _).alloc (Nat.le_refl _) _⟩
  · have e1 : ¬ p.toList = en.path.toList := fun h => hp (str_eq.1 h)
    have HP := Lib.hid hp
    clear hp
    go_enter Tryz.func83, Tryz.ntmps83
    go_wp2_with fail
    go_ret
    exact ⟨ret_bool (by rw [HR.out, decide_eq_false HP.out]; rfl), (Below.refl _ _).alloc (Nat.le_refl _) _⟩
set_option maxRecDepth 100000 in
set_option maxHeartbeats 2000000 in
theorem valid4 (S : Nat → Prop) (p s : ByteArray) (en : Ent) (v : Value) (w : World) (hd : DataAt S w v en.data) (hok : EntOk en) (henv : Env w) :
    Calls Tryz.prog 83 #[chgV v ⟨4, p, s, en⟩] w fun e w' => e = .returned (.bool (chgOk ⟨4, p, s, en⟩)) ∧ Below w.heap.size w w' := by
  have HD := Lib.hid hd
  have HE := Lib.hid henv
  have HOK := Lib.hid hok
  obtain ⟨_, a, cap, rfl, hc, hm, -⟩ := hd
  unfold maxLen at hm
  have HR := Lib.hid (show chgOk ⟨4, p, s, en⟩ = (decide (p = en.path) && (decide (s = noPath) && vEnt en)) from rfl)
  unfold chgV
  simp only
  clear henv hok
  by_cases hp : p = en.path
  · by_cases hs : s = ⟨#[]⟩
    · have e1 : s.toList.isEmpty = true := by rw [str_none, decide_eq_true hs]
      have HS := Lib.hid hs
      clear hs
      subst hp
      go_enter Tryz.func83, Tryz.ntmps83
      go_wp2_with fail
      obtain ⟨W, hW⟩ : ∃ W : World, W = w.alloc (.cells #[.int .i64 4, .string en.path, .string s, .string en.path, .int .i64 en.kind, .int .i64 en.mode, .int .i64 en.time, .slice a en.data.length cap, .string en.link] 58) := ⟨_, rfl⟩
      rw [← hW]
      have HB0 := Lib.hid (show Below w.heap.size w W by rw [hW]; exact (Below.refl _ _).alloc (Nat.le_refl _) _)
      clear hW
      have hC := validEn_any S en (.slice a en.data.length cap) W (HD.out.below HB0.out) HOK.out (HE.out.below HB0.out)
      unfold entV at hC
      refine hC.mono ?_
      rintro e w2 ⟨rfl, hb2⟩
      have HB2 := Lib.hid (below_next HB0.out hb2)
      clear hb2 hC
      go_wp2_with fail
      go_ret
      exact ⟨ret_bool (by rw [HR.out, HS.out]; simp [noPath]), HB2.out⟩
    · have e1 : s.toList.isEmpty = false := by rw [str_none, decide_eq_false hs]
      have HS := Lib.hid hs
      clear hs
      subst hp
      go_enter Tryz.func83, Tryz.ntmps83
      go_wp2_with fail
      go_ret
      exact ⟨ret_bool (by rw [HR.out, decide_eq_false (show ¬ s = noPath from HS.out)]; simp), (Below.refl _ _).alloc (Nat.le_refl _) _⟩
  · have e1 : ¬ p.toList = en.path.toList := fun h => hp (str_eq.1 h)
    have HP := Lib.hid hp
    clear hp
    go_enter Tryz.func83, Tryz.ntmps83
    go_wp2_with fail
    go_ret
    exact ⟨ret_bool (by rw [HR.out, decide_eq_false HP.out]; rfl), (Below.refl _ _).alloc (Nat.le_refl _) _⟩
set_option maxRecDepth 100000 in
set_option maxHeartbeats 2000000 in
theorem valid0 (c : Chg) (h1 : c.kind ≠ 1) (h2 : c.kind ≠ 2) (h3 : c.kind ≠ 3) (h4 : c.kind ≠ 4) (a : Option Addr) (n cap : Nat) (w : World) :
    Calls Tryz.prog 83 #[chgV (.slice a n cap) c] w fun e w' => e = .returned (.bool (chgOk c)) ∧ Below w.heap.size w w' := by
  have HR := Lib.hid (show chgOk c = false by unfold chgOk; rw [if_neg h1, if_neg h2, if_neg (by omega)])
  unfold chgV
  go_enter Tryz.func83, Tryz.ntmps83
  go_wp2_with fail
  go_ret
  exact ⟨ret_bool HR.out.symm, (Below.refl _ _).alloc (Nat.le_refl _) _⟩
theorem validC_any (S : Nat → Prop) (c : Chg) (v : Value) (w : World) (hd : DataAt S w v c.en.data) (hok : ChgOk c) (henv : Env w) :
    Calls Tryz.prog 83 #[chgV v c] w fun e w' => e = .returned (.bool (chgOk c)) ∧ Below w.heap.size w w' := by
  by_cases h1 : c.kind = 1
  · obtain ⟨k, p, s, en⟩ := c
    obtain rfl : k = 1 := h1
    exact valid1 S p s en v w hd henv
  · by_cases h2 : c.kind = 2
    · obtain ⟨k, p, s, en⟩ := c
      obtain rfl : k = 2 := h2
      exact valid2 S p s en v w hd hok.en henv
    · by_cases h3 : c.kind = 3
      · obtain ⟨k, p, s, en⟩ := c
        obtain rfl : k = 3 := h3
        exact valid3 S p s en v w hd hok.en henv
      · by_cases h4 : c.kind = 4
        · obtain ⟨k, p, s, en⟩ := c
          obtain rfl : k = 4 := h4
          exact valid4 S p s en v w hd hok.en henv
        · obtain ⟨a, cap, rfl, _⟩ := hd.slice
          exact valid0 c h1 h2 h3 h4 a _ cap w
end Go.Proofs.YtdieneaillkbgaaGreatDoor

/- Contracts of package treediff: check, byPath. -/
namespace Go.Proofs.YtdieneaillkbgaaGreatDoor
open Go.RowKit Go.Maps
theorem all_take {cs : List Chg} {k : Nat} {c : Chg} (h : (cs.take k).all chgOk = true) (hc : cs[k]? = some c) (ho : chgOk c = true) : (cs.take (k + 1)).all chgOk = true := by
  rw [List.take_add_one, hc, List.all_append, h]
  simp [ho]
set_option maxRecDepth 100000 in
set_option maxHeartbeats 4000000 in
theorem checkC_any (S T : Nat → Prop) (a : List Ent) (cs : List Chg) (va vl : Value) (w : World) (ha : EntsAt S w va a) (hl : ChgsAt T w vl cs) (henv : Env w) :
    Calls Tryz.prog 58 #[va, vl] w fun e w' => e = .returned (.int .i64 (chkC a cs)) ∧ Below w.heap.size w w' := by
  have HA := Lib.hid ha
  have HL := Lib.hid hl
  have HE := Lib.hid henv
  obtain ⟨al, cl, rfl, hc, hm⟩ := chgs_shape hl
  obtain ⟨n, hn⟩ : ∃ n, n = cs.length := ⟨_, rfl⟩
  rw [← hn] at hc HL ⊢
  have HN := Lib.hid hn
  unfold maxLen at hm
  clear ha hl henv hn
  obtain ⟨ca, hca⟩ : ∃ x, x = checkP a := ⟨_, rfl⟩
  have HCA := Lib.hid hca
  clear hca
  by_cases h0 : ca = 0
  · subst h0
    go_enter Tryz.func58, Tryz.ntmps58
    go_wp2_with fail
    refine (check_any S a va w HA.out HE.out).mono ?_
    rw [← HCA.out]
    rintro e w1 ⟨rfl, hb1⟩
    have HB1 := Lib.hid hb1
    clear hb1
    go_wp2_with fail
    go_loopw [15] (fun i wr => ∃ k : Nat, k ≤ n ∧ i = .int .i64 k ∧ (cs.take k).all chgOk = true ∧ Below w.heap.size w wr) (fun i _ => n - (intOf i).toNat)
    case atStart => exact ⟨0, Nat.zero_le _, rfl, rfl, HB1.out⟩
    case round =>
      obtain ⟨k, hk, rfl, hall, hbr⟩ := hrel
      have HALL := Lib.hid hall
      have HBR := Lib.hid hbr
      clear hall hbr
      by_cases hlt : k < n
      · obtain ⟨c, hcc⟩ : ∃ c, cs[k]? = some c := ⟨cs[k]'(by rw [← HN.out]; exact hlt), by simp⟩
        obtain ⟨b, o, dv, rfl, hb, hd, hok, hq⟩ := chgs_at (HL.out.below HBR.out) hcc
        have HAT := Lib.hid hcc
        have HD := Lib.hid hd
        have HOK := Lib.hid hok
        obtain ⟨a1, cap1, rfl, hd1, hd2⟩ := hd.slice
        unfold maxLen at hd2
        have c0 := (hq 0 (by omega)).trans rfl
        have c1 := (hq 1 (by omega)).trans rfl
        have c2 := (hq 2 (by omega)).trans rfl
        have c3 := (hq 3 (by omega)).trans rfl
        have c4 := (hq 4 (by omega)).trans rfl
        have c5 := (hq 5 (by omega)).trans rfl
        have c6 := (hq 6 (by omega)).trans rfl
        have c7 := (hq 7 (by omega)).trans rfl
        have c8 := (hq 8 (by omega)).trans rfl
        simp only [chgC, List.getElem?_cons_succ, List.getElem?_cons_zero, Nat.add_zero] at c0 c1 c2 c3 c4 c5 c6 c7 c8
        clear hcc hd hok hq
        go_wp2_with fail
        obtain ⟨W, hW⟩ : ∃ W : World, W = wr.alloc (.cells #[.int .i64 c.kind, .string c.path, .string c.src, .string c.en.path, .int .i64 c.en.kind, .int .i64 c.en.mode, .int .i64 c.en.time, .slice a1 c.en.data.length cap1, .string c.en.link] 58) := ⟨_, rfl⟩
        rw [← hW]
        have HW := Lib.hid (show Below wr.heap.size wr W by rw [hW]; exact (Below.refl _ _).alloc (Nat.le_refl _) _)
        clear hW c0 c1 c2 c3 c4 c5 c6 c7 c8
        have HBW := Lib.hid (below_next HBR.out HW.out)
        have hC := validC_any T c (.slice a1 c.en.data.length cap1) W (HD.out.below HW.out) HOK.out (HE.out.below HBW.out)
        unfold chgV at hC
        cases hv : chgOk c with
        | true =>
          rw [hv] at hC
          refine hC.mono ?_
          have HV := Lib.hid hv
          rintro e w2 ⟨rfl, hb2⟩
          have HB2 := Lib.hid (below_next HBW.out hb2)
          clear hb2 hC hv
          go_wp2_with fail
          go_roundw
          case rel => exact ⟨k + 1, by omega, by go_num, all_take HALL.out HAT.out HV.out, HB2.out⟩
          case measure => simp [intOf]; omega
        | false =>
          rw [hv] at hC
          refine hC.mono ?_
          have HV := Lib.hid hv
          rintro e w2 ⟨rfl, hb2⟩
          have HB2 := Lib.hid (below_next HBW.out hb2)
          clear hb2 hC hv
          go_wp2_with fail
          go_ret
          refine ⟨ret_int ?_, HB2.out⟩
          unfold chkC
          rw [← HCA.out, if_neg (by simp), if_pos]
          rw [Bool.eq_false_iff]
          intro hal
          have := List.all_eq_true.1 hal c (List.mem_of_getElem? HAT.out)
          rw [HV.out] at this; cases this
      · have hk2 : k = n := by omega
        subst hk2
        go_wp2_with fail
        go_ret
        refine ⟨ret_int ?_, HBR.out⟩
        have hal := HALL.out
        rw [HN.out, List.take_length] at hal
        unfold chkC
        rw [← HCA.out, if_neg (by simp), hal, if_neg (by simp)]
  · have HC := Lib.hid (show chkC a cs = ca by unfold chkC; rw [← HCA.out, if_pos h0])
    go_enter Tryz.func58, Tryz.ntmps58
    go_wp2_with fail
    refine (check_any S a va w HA.out HE.out).mono ?_
    rw [← HCA.out]
    rintro e w1 ⟨rfl, hb1⟩
    go_wp2_with fail
    go_ret
    exact ⟨ret_int (by rw [HC.out]), hb1⟩
end Go.Proofs.YtdieneaillkbgaaGreatDoor

/- Contracts of package treediff: byPath. -/
namespace Go.Proofs.YtdieneaillkbgaaGreatDoor
open Go.RowKit Go.Maps
theorem make_mapE (w : World) (n : Nat) (hn : n ≤ 4096) : (Instr.makeMap 75 (some (.int .i64 (n : Int)))).run Tryz.prog w = .ok (.map (some w.heap.size)) (w.alloc (.map #[] 0)) := by
  have h1 : IntKind.i64.wrap (n : Int) = n := by rw [IntKind.wrap_i64]; omega
  simp [Instr.makeMap, asInt, asIntOf]
theorem data_here {S : Nat → Prop} {w : World} {v : Value} {bs : List UInt8} (h : DataAt S w v bs) : DataAt (fun k => S k ∧ k < w.heap.size) w v bs :=
  RowAt.mono h (fun _ hk hS => ⟨hS, hk⟩) (by omega)
theorem ent_here {S : Nat → Prop} {w : World} {c : List Value} {e : Ent} (h : EntR S w c e) : EntR (fun k => S k ∧ k < w.heap.size) w c e := by
  obtain ⟨v, h1, h2, h3⟩ := h; exact ⟨v, h1, data_here h2, h3⟩
theorem ents_here {S : Nat → Prop} {w : World} {v : Value} {l : List Ent} (h : EntsAt S w v l) : EntsAt (fun k => S k ∧ k < w.heap.size) w v l :=
  SeqAt.mono h (by omega) (fun _ hk hS => ⟨hS, hk⟩) (fun _ _ _ hr => ent_here hr)
theorem take_fresh {L : List Ent} (hn : (L.map Ent.path).Nodup) {k : Nat} {e : Ent} (he : L[k]? = some e) : ∀ f ∈ L.take k, f.path ≠ e.path := by
  intro f hf
  obtain ⟨j, hj⟩ := List.mem_iff_getElem?.1 hf
  rw [List.getElem?_take] at hj
  split at hj
  · rename_i hjk
    intro h
    have h1 : (L.map Ent.path)[j]? = some f.path := by rw [List.getElem?_map, hj]; rfl
    have h2 : (L.map Ent.path)[k]? = some f.path := by rw [List.getElem?_map, he, h]; rfl
    have := (List.getElem?_inj (List.getElem?_eq_some_iff.1 h1).1 hn).1 (h1.trans h2.symm)
    omega
  · cases hj
set_option maxRecDepth 100000 in
set_option maxHeartbeats 4000000 in
theorem byPath_any (S : Nat → Prop) (L : List Ent) (v : Value) (w : World) (hv : EntsAt S w v L) (hnd : (L.map Ent.path).Nodup) (hlen : L.length ≤ 4096) :
    Calls Tryz.prog 45 #[v] w fun e w' => e = .returned (.map (some w.heap.size)) ∧ MapR (fun k => S k ∧ k < w.heap.size) w' w.heap.size (findE L) ∧ Below w.heap.size w w' := by
  have HV := Lib.hid (ents_here hv)
  have HND := Lib.hid hnd
  obtain ⟨a, cap, rfl, hc, hm, -⟩ := SeqAt.shape hv EntR.len
  unfold maxLen at hm
  obtain ⟨n, hn⟩ : ∃ n, n = L.length := ⟨_, rfl⟩
  have HN := Lib.hid hn
  rw [← hn] at hc HV hlen ⊢
  have hmk := make_mapE w n hlen
  obtain ⟨T, hT⟩ : ∃ T : Nat → Prop, T = fun k => S k ∧ k < w.heap.size := ⟨_, rfl⟩
  rw [← hT] at HV ⊢
  have HF := Lib.hid (show ¬ T w.heap.size by rw [hT]; intro h; exact absurd h.2 (Nat.lt_irrefl _))
  clear hv hn hnd hT
  go_enter Tryz.func45, Tryz.ntmps45
  go_wp2_with fail
  obtain ⟨W0, hW0⟩ : ∃ W : World, W = w.alloc (.map #[] 0) := ⟨_, rfl⟩
  rw [← hW0]
  have HM0 := Lib.hid (show MapR T W0 w.heap.size (fun _ => none) by rw [hW0]; exact MapR.made T w HF.out)
  have HB0 := Lib.hid (show Below w.heap.size w W0 by rw [hW0]; exact (Below.refl _ _).alloc (Nat.le_refl _) _)
  clear hW0 hmk
  go_loopw [11] (fun i wr => ∃ k : Nat, k ≤ n ∧ i = .int .i64 k ∧ MapR T wr w.heap.size (findE (L.take k)) ∧ Below w.heap.size w wr) (fun i _ => n - (intOf i).toNat)
  case atStart => exact ⟨0, Nat.zero_le _, rfl, HM0.out, HB0.out⟩
  case round =>
    obtain ⟨k, hk, rfl, hmr, hbr⟩ := hrel
    have HMR := Lib.hid hmr
    have HBR := Lib.hid hbr
    clear hmr hbr
    by_cases hlt : k < n
    · obtain ⟨e, he⟩ : ∃ e, L[k]? = some e := ⟨L[k]'(by rw [← HN.out]; exact hlt), by simp⟩
      obtain ⟨b, o, dv, rfl, -, hb, hd, hok, -, q0, q1, q2, q3, q4, q5⟩ := ents_at (HV.out.below HBR.out) he
      have HAT := Lib.hid he
      obtain ⟨a1, cap1, rfl, hd1, hd2⟩ := hd.slice
      unfold maxLen at hd2
      have hput := fun (W : World) (hW : Below wr.heap.size wr W) => (HMR.out.below hW).put mapTy (hd.below hW) hok
      have HPUT := Lib.hid hput
      clear he hd hok hput
      go_upto_region 5 with (fail)
      obtain ⟨W, hW⟩ : ∃ W : World, W = wr.alloc (.cells #[.string e.path, .int .i64 e.kind, .int .i64 e.mode, .int .i64 e.time, .slice a1 e.data.length cap1, .string e.link] 48) := ⟨_, rfl⟩
      rw [← hW]
      have HW := Lib.hid (show Below wr.heap.size wr W by rw [hW]; exact (Below.refl _ _).alloc (Nat.le_refl _) _)
      have HX := Lib.hid (show W.heap[wr.heap.size]? = some (.cells #[.string e.path, .int .i64 e.kind, .int .i64 e.mode, .int .i64 e.time, .slice a1 e.data.length cap1, .string e.link] 48 (0, 0)) by rw [hW]; exact new20 wr _)
      have hltW := lt20 HX.out
      clear hW q0 q1 q2 q3 q4 q5
      have c0 := cell20 (k := 0) HX.out
      have c1 := cell20 (k := 1) HX.out
      have c2 := cell20 (k := 2) HX.out
      have c3 := cell20 (k := 3) HX.out
      have c4 := cell20 (k := 4) HX.out
      have c5 := cell20 (k := 5) HX.out
      simp only [List.getElem?_toArray, List.getElem?_cons_succ, List.getElem?_cons_zero] at c0 c1 c2 c3 c4 c5
      have HBW := Lib.hid (below_next HBR.out HW.out)
      go_wp2_with (at_mapUpdate; go_must (refine wpList_updRun rfl _ _ _ _ rfl _ _ _ rfl rfl rfl (HPUT.out W HW.out) ?_); rintro w6 ⟨hm6, hg6⟩)
      have HM6 := Lib.hid hm6
      have HB6 := Lib.hid (HBW.out.grown hg6 HBW.out.size (fun k e => by cases e; exact Nat.le_refl _))
      clear hm6 hg6
      go_wp2_with fail
      go_roundw
      case rel =>
        refine ⟨k + 1, by omega, by go_num, ?_, HB6.out⟩
        rw [List.take_add_one, HAT.out]
        have := HM6.out
        rw [putL_snoc (take_fresh HND.out HAT.out)] at this
        exact this
      case measure => simp [intOf]; omega
    · have hk2 : k = n := by omega
      subst hk2
      go_wp2_with fail
      go_ret
      refine ⟨rfl, ?_, HBR.out⟩
      have := HMR.out
      rw [HN.out, List.take_length] at this
      exact this
end Go.Proofs.YtdieneaillkbgaaGreatDoor

/- A range over a function whose rounds know something of what they are handed, in the world in which they are handed it. -/
namespace Go.Proofs.YtdieneaillkbgaaGreatDoor
open Go Go.RowKit
/-- How a round's body may be left. -/
def roundEnd {α : Type} (Kp : World → World → Prop) (I : List α → World → Prop) (Ix : Code → List α → World → Prop) (xs : List α) (W : World) : Exit → Act → World → Prop
  | .normal, _, B => KeepsOthers W B ∧ Kp W B ∧ I xs B
  | .ret, _, B => KeepsOthers W B ∧ Ix .ret xs B
  | .exit id, _, B => KeepsOthers W B ∧ Ix (.exit id) xs B
  | .goto t, _, B => KeepsOthers W B ∧ Ix (.goto t) xs B
  | .panic _, _, _ => False
  | .outgrown, _, _ => False
section
variable {P : Program} {α : Type}
theorem below_none {W W' : World} (h : Below W.heap.size W W') : W.grownBy W' none := ⟨h.os, h.tape, h.output, h.size, fun k hk _ => h.block k hk⟩
/-- The record of the loop and the block of its deferred calls, beside the caller's own word. -/
theorem busy_ready {W : World} {l : Nat} {r : Loop} (h : W.heap[l]? = some (.loop r)) (o : Obj) : (W.putObj l o).heap[l]? = some o := World.putObj_heap_same (Array.getElem?_eq_some_iff.1 h).1
end
end Go.Proofs.YtdieneaillkbgaaGreatDoor

/- A range over a function that ranges over a map: wp_rangeD (XRng) with an iterator that turns a walk's object of its own between two rounds. -/
namespace Go.Proofs.YtdieneaillkbgaaGreatDoor
open Go Go.RowKit
/-- What an iterator promises to a loop: each round is asked at an element of which D holds; between two rounds what is new alone has turned. -/
def SeqW {α : Type} (P : Program) (g : Nat) (lb : Array Value) (encs : α → Array Value) (D : α → World → Prop) (Kp : World → World → Prop) (S Sp : List α → Prop) (N : Nat) (w : World) : Prop :=
  ∀ (l : Nat) (J Jx : List α → World → Prop) (W : World), Below w.heap.size w W → AbidesFrom W.heap.size J →
    (∀ pre x A, J pre A → D x A → pre.length < N → YieldAt Fence.wide 2 P l (encs x) A fun e B => (e = .returned (.bool true) ∧ J (pre ++ [x]) B ∧ Kp A B) ∨ (e = .returned (.bool false) ∧ Jx (pre ++ [x]) B)) →
    J [] W →
    CallsIn Fence.wide 3 P g (#[.func (.yield l) #[] #[]] ++ lb) W fun e B => (∃ v, e = .returned v) ∧ ((∃ xs, S xs ∧ J xs B) ∨ (∃ pre, Sp pre ∧ Jx pre B))
section
variable {P : Program} {α : Type}
theorem wp_rangeW {g : Operand} {ps : Array Tmp} {assign body : Code} {Q : Exit → Act → World → Prop} {a : Act} {w : World} {gf : Nat} {lb : Array Value} (hg : a.eval g = .func (.func gf) #[] lb) (eg : ∀ args w, (callFunc gf args).run P w = .ok (.enter gf args) w)
    {encs : α → Array Value} {D : α → World → Prop} {Kp : World → World → Prop} {S Sp : List α → Prop} {N : Nat} (hseq : SeqW P gf lb encs D Kp S Sp N w)
    (hKt : ∀ {A B C : World}, Kp A B → Kp B C → Kp A C) (hKb : ∀ (W : World) (l : Nat) (o o' : Obj), w.heap.size ≤ l → W.heap[l]? = some o → o.isCells = false → o.isWalk = false → Kp W (W.putObj l o')) (hps : ∀ x, (encs x).size = ps.size)
    (I : List α → World → Prop) (Ix : Code → List α → World → Prop) (Ax : List α → α → Act → World → Prop) (hI : OwnFrom w.heap.size I) (hIx : ∀ c, OwnFrom w.heap.size (Ix c))
    (hAx : OwnFrom w.heap.size (fun (s : List α × α × Act) W => Ax s.1 s.2.1 s.2.2 W)) (h0 : I [] w)
    (hassign : ∀ (l : Nat) (pre : List α) (x : α) (W : World), w.heap.size < W.heap.size → I pre W → D x W → pre.length < N → assign.wpIn (Fence.wide.inRound l) 2 P (Exit.then (fun a₁ B => KeepsOthers W B ∧ Kp W B ∧ Ax pre x a₁ B) (fun _ _ _ => False)) { tmps := (ps.zip (encs x)).foldl (fun t (p, v) => t.setIfInBounds p v) a.tmps, defers := [] } W)
    (hbody : ∀ (l : Nat) (pre : List α) (x : α) (a₁ : Act) (W : World), Ax pre x a₁ W → body.wpIn (Fence.wide.inRound l) 2 P (roundEnd Kp I Ix (pre ++ [x]) W) a₁ W)
    (hdone : ∀ (Dl : Nat) (xs : List α) (W : World), w.heap.size ≤ Dl → S xs → I xs W → W.heap[Dl]? = some (.deferred (some [])) → Q .normal { a with defers := { target := .collected Dl, args := #[] } :: a.defers } W)
    (hstop : ∀ (Dl : Nat) (c : Code) (pre : List α) (W : World), w.heap.size ≤ Dl → Sp pre → Ix c pre W → W.heap[Dl]? = some (.deferred (some [])) → c.wp P Q { a with defers := { target := .collected Dl, args := #[] } :: a.defers } W) :
    (Code.rangeFunc g ps assign body).wp P Q a w := by
  refine (wpIn_wide (n := 4)).1 (wpIn_rangeFunc (fun fn hfn => ?_))
  show ∃ l mark w₁ d w₁' f args w₂, _
  let rec_ : LoopState → Option Code → Loop := fun st pe => { state := st, pending := pe, fn := fn, tmps := a.tmps, params := ps, assign := assign, body := body, defers := w.heap.size }
  obtain ⟨rec, hrec⟩ : ∃ r, r = rec_ := ⟨_, rfl⟩
  have hrp : ∀ st pe, (rec st pe).params = ps := fun st pe => by rw [hrec]
  have hrs : ∀ st pe, (rec st pe).state = st := fun st pe => by rw [hrec]
  have hrj : ∀ st pe, (rec st pe).pending = pe := fun st pe => by rw [hrec]
  obtain ⟨L, hL⟩ : ∃ L, L = w.heap.size + 1 := ⟨_, rfl⟩
  obtain ⟨V, hV⟩ : ∃ V, (w.alloc (.deferred (some []))).alloc (.loop (rec .ready none)) = V := ⟨_, rfl⟩
  have hVL : V.heap[L]? = some (.loop (rec .ready none)) := by
    rw [← hV, hL]; have := World.alloc_heap_new (w.alloc (.deferred (some []))) (.loop (rec .ready none)); rwa [World.size_alloc] at this
  have hVD : V.heap[w.heap.size]? = some (.deferred (some [])) := by
    rw [← hV]; exact (Below.heap_alloc _ _ _ (by simp)).trans (World.alloc_heap_new w _)
  have hVI : I [] V := by rw [← hV]; exact hI.alloc _ (hI.alloc _ h0)
  have hVB : Below w.heap.size w V := by rw [← hV]; exact ((Below.refl _ w).alloc (Nat.le_refl _) _).alloc (by simp) _
  -- what stands between two rounds; what stands when one has left
  let J : List α → World → Prop := fun pre W => I pre W ∧ W.heap[L]? = some (.loop (rec .ready none)) ∧ W.heap[w.heap.size]? = some (.deferred (some []))
  let Jx : List α → World → Prop := fun pre W => ∃ c, Ix c pre W ∧ W.heap[L]? = some (.loop (rec .done (some c))) ∧ W.heap[w.heap.size]? = some (.deferred (some []))
  have hVs : w.heap.size + 2 ≤ V.heap.size := by rw [← hV]; simp
  have hJ : AbidesFrom V.heap.size J := by
    rintro s A B row ⟨h1, h2, h3⟩ hg hr
    have hne : ∀ (k : Nat) (o : Obj), A.heap[k]? = some o → o.isWalk = false → row ≠ some k := fun k o hk hw e => by
      obtain ⟨_, o', ho, hw'⟩ := hr k e
      rw [hk] at ho; cases ho; rw [hw] at hw'; cases hw'
    refine ⟨hI s A B row h1 hg (fun r e => ?_), ?_, ?_⟩
    · obtain ⟨h4, o, ho, hw⟩ := hr r e
      exact ⟨by omega, o, ho, by cases o <;> first | rfl | (simp [Obj.isWalk] at hw)⟩
    · exact (hg.block _ (Array.getElem?_eq_some_iff.1 h2).1 (fun e => hne _ _ h2 rfl e.symm)).trans h2
    · exact (hg.block _ (Array.getElem?_eq_some_iff.1 h3).1 (fun e => hne _ _ h3 rfl e.symm)).trans h3
  have hend : ∀ (jump : Option Code) (W B : World), W.heap[L]? = some (.loop (rec .busy none)) → W.heap[w.heap.size]? = some (.deferred (some [])) → KeepsOthers W B →
      (Instr.endRound L jump).run P B = .ok (.bool jump.isNone) (B.putObj L (.loop (rec (if jump.isNone then .ready else .done) jump))) ∧ B.heap[L]? = some (.loop (rec .busy none)) ∧
      (B.putObj L (.loop (rec (if jump.isNone then .ready else .done) jump))).heap[L]? = some (.loop (rec (if jump.isNone then .ready else .done) jump)) ∧
      (B.putObj L (.loop (rec (if jump.isNone then .ready else .done) jump))).heap[w.heap.size]? = some (.deferred (some [])) := by
    intro jump W B h1 h2 hk
    have hb := hk.same _ _ h1 rfl
    have hd := hk.same _ _ h2 rfl
    have := run_endRound (P := P) jump hb
    refine ⟨?_, hb, busy_ready hb _, (World.putObj_heap_other (by omega)).trans hd⟩
    rw [this, hrec]
  have hround : ∀ pre x A, J pre A → D x A → pre.length < N → YieldAt Fence.wide 2 P L (encs x) A fun e B => (e = .returned (.bool true) ∧ J (pre ++ [x]) B ∧ Kp A B) ∨ (e = .returned (.bool false) ∧ Jx (pre ++ [x]) B) := by
    rintro pre x A ⟨hi, hl, hk⟩ hd hN
    have hlt : L < A.heap.size := (Array.getElem?_eq_some_iff.1 hl).1
    have hy := run_yield (P := P) (args := encs x) hl (by rw [hrp]; exact hps x)
    refine ⟨_, _, _, _, hy, ?_⟩
    rw [hrec]
    refine roundIn_of_wpIn hfn (wpIn_mono (hassign L pre x A (by omega) hi hd hN) ?_)
    rintro e a₁ B hB
    cases e with
    | normal =>
      obtain ⟨hko, hkp, hax⟩ := hB
      have hl1 := hko.same _ _ hl rfl
      have hk1 := hko.same _ _ hk rfl
      have hbr := run_beginRound (P := P) hl1 (hrs _ _)
      refine ⟨_, hbr, ?_⟩
      have hbz : ({ rec .ready none with state := .busy } : Loop) = rec .busy none := by rw [hrec]
      rw [hbz]
      have hl2 := busy_ready hl1 (.loop (rec .busy none))
      have hk2 : (B.putObj L (.loop (rec .busy none))).heap[w.heap.size]? = some (.deferred (some [])) := (World.putObj_heap_other (by omega)).trans hk1
      have hax2 : Ax pre x a₁ (B.putObj L (.loop (rec .busy none))) := hAx.putObj (s := (pre, x, a₁)) _ hax (by omega) hl1 rfl
      have hkp2 : Kp A (B.putObj L (.loop (rec .busy none))) := hKt hkp (hKb _ _ _ _ (by omega) hl1 rfl rfl)
      refine wpIn_mono (hbody L pre x a₁ _ hax2) ?_
      rintro e a3 C hC
      cases e with
      | normal =>
        obtain ⟨c1, c2, c3⟩ := hC
        obtain ⟨r1, r2, r3, r4⟩ := hend none _ C hl2 hk2 c1
        exact ⟨_, _, r1, .inl ⟨rfl, ⟨hI.putObj _ c3 (by omega) r2 rfl, r3, r4⟩, hKt (hKt hkp2 c2) (hKb _ _ _ _ (by omega) r2 rfl rfl)⟩⟩
      | ret =>
        obtain ⟨c1, c3⟩ := hC
        obtain ⟨r1, r2, r3, r4⟩ := hend (some .ret) _ C hl2 hk2 c1
        exact ⟨_, _, r1, .inr ⟨rfl, _, (hIx _).putObj _ c3 (by omega) r2 rfl, r3, r4⟩⟩
      | exit id =>
        obtain ⟨c1, c3⟩ := hC
        obtain ⟨r1, r2, r3, r4⟩ := hend (some (.exit id)) _ C hl2 hk2 c1
        exact ⟨_, _, r1, .inr ⟨rfl, _, (hIx _).putObj _ c3 (by omega) r2 rfl, r3, r4⟩⟩
      | goto t =>
        obtain ⟨c1, c3⟩ := hC
        obtain ⟨r1, r2, r3, r4⟩ := hend (some (.goto t)) _ C hl2 hk2 c1
        exact ⟨_, _, r1, .inr ⟨rfl, _, (hIx _).putObj _ c3 (by omega) r2 rfl, r3, r4⟩⟩
      | panic ch => exact hC.elim
      | outgrown => exact hC.elim
    | ret => exact hB.elim
    | exit id => exact hB.elim
    | goto t => exact hB.elim
    | panic ch => exact hB.elim
    | outgrown => exact hB.elim
  refine ⟨L, [{ target := .collected w.heap.size, args := #[] }], V, { target := .fn (.func gf) lb, args := #[.func (.yield L) #[] #[]] }, V, gf, #[.func (.yield L) #[] #[]] ++ lb, V, ?_, ?_, fun _ _ => trivial, ?_, fun _ => by omega, ?_⟩
  · rw [← hV, hL, hrec]; exact run_enterLoop_outer _ _ _ _ _
  · simp only [resolve, hg]
    simp [go_sem]
  · simp [invoke, go_sem, eg]
  · refine (hseq L J Jx V hVB hJ hround ⟨hVI, hVL, hVD⟩).mono ?_
    rintro e B ⟨⟨v, rfl⟩, hB⟩
    rcases hB with ⟨xs, hS, hi, hl, hk⟩ | ⟨pre, hS, c, hi, hl, hk⟩
    · have := run_endLoop (P := P) hl (by rw [hrs]; simp)
      rw [hrj] at this
      exact ⟨none, _, this, hdone _ xs _ (Nat.le_refl _) hS (hI.putObj _ hi (by omega) hl rfl) ((World.putObj_heap_other (by omega)).trans hk)⟩
    · have := run_endLoop (P := P) hl (by rw [hrs]; simp)
      rw [hrj] at this
      exact ⟨some c, _, this, (wpIn_wide (n := 4)).2 (hstop _ c pre _ (Nat.le_refl _) hS ((hIx c).putObj _ hi (by omega) hl rfl) ((World.putObj_heap_other (by omega)).trans hk))⟩
end
end Go.Proofs.YtdieneaillkbgaaGreatDoor

/- Contracts: slices.SortedFunc over maps.Keys of a map keyed by paths, in the order of paths. -/
namespace Go.Proofs.YtdieneaillkbgaaGreatDoor
open Go Go.RowKit Go.Maps
attribute [local go_sem] Oper.semAt_some
/-- What a round keeps for an iterator over a map. -/
def KeyKp (n : Nat) (V W : World) : Prop := Below n V W ∧ KeepsWalks V W
theorem keyKp_t {n : Nat} {A B C : World} (h : KeyKp n A B) (k : KeyKp n B C) : KeyKp n A C := ⟨h.1.trans k.1, h.2.trans k.2⟩
theorem keyKp_b {n : Nat} {w : World} (hn : n ≤ w.heap.size) (W : World) (l : Nat) (o o' : Obj) (hl : w.heap.size ≤ l) (h : W.heap[l]? = some o) (hc : o.isCells = false) (hw : o.isWalk = false) : KeyKp n W (W.putObj l o') :=
  ⟨belowK_b hn W l o o' hl h hc hw, KeepsWalks.putObj o' h hw⟩
theorem RngS.walks {P : Program} {k : TypeId} {w w' : World} {b r : Nat} {m vis : List (Value × Value)} (h : RngS P k w b r m vis) (hk : KeepsWalks w w') : RngS P k w' b r m vis := by
  obtain ⟨es, clock, since, seen, c0, hb, he, hs, hkk, hr, h3⟩ := h
  exact ⟨es, clock, since, seen, c0, hk.same _ _ hb rfl, he, hs, hkk, hk.same _ _ hr rfl, h3⟩
theorem fst_mem {m : List (Value × Value)} {ks : List ByteArray} (h : m.map Prod.fst = ks.map Value.string) {k v : Value} (hm : (k, v) ∈ m) : ∃ x ∈ ks, k = .string x := by
  have : k ∈ m.map Prod.fst := List.mem_map.2 ⟨(k, v), hm, rfl⟩
  rw [h] at this
  obtain ⟨x, hx, he⟩ := List.mem_map.1 this
  exact ⟨x, hx, he.symm⟩
theorem str_perm {a b : List ByteArray} (h : (a.map Value.string).Perm (b.map Value.string)) : a.Perm b := by
  have key : ∀ l : List ByteArray, (l.map Value.string).filterMap (fun v => match v with | .string s => some s | _ => none) = l := by
    intro l
    induction l with
    | nil => rfl
    | cons x l ih => simp only [List.map_cons, List.filterMap_cons, ih]
  have := h.filterMap (fun v => match v with | .string s => some s | _ => none)
  rwa [key, key] at this
/-- A name has come: it is short. -/
def KeyD (x : ByteArray) (_ : World) : Prop := x.size ≤ maxLen
def keysBSeq (ks : List ByteArray) (bx n₀ : Nat) (w : World) : Prop :=
  SeqW Tryz.prog 79 #[.pointer (some ⟨bx, 0, none⟩)] (fun x : ByteArray => #[.string x]) KeyD (KeyKp n₀) (fun xs => xs.Perm ks) (fun _ => True) 4096 w
theorem keysBTy : Tryz.prog.underlying 57 = some (.map 9 4) := Tryz.underlying57
set_option maxRecDepth 100000 in
set_option maxHeartbeats 2000000 in
theorem keysB_seq (m : List (Value × Value)) (ks : List ByteArray) (mb bx : Nat) (w wc : World) (hm : MapS Tryz.prog 9 w mb m) (hks : m.map Prod.fst = ks.map Value.string) (hsz : ∀ k ∈ ks, k.size ≤ maxLen) (hlen : ks.length ≤ 4096)
    (hbc : Below w.heap.size w wc) (h1 : w.cell? ⟨bx, 0, none⟩ = some (.map (some mb))) : keysBSeq ks bx w.heap.size wc := by
  intro l J Jx W hbW' hJ hY h0
  have hbW := below_next hbc hbW'
  have HBW := Lib.hid hbW
  have HJ := Lib.hid hJ
  have HY := Lib.hid hY
  have H0 := Lib.hid h0
  have HM := Lib.hid (hm.same (hbW.block mb hm.lt))
  have HKS := Lib.hid hks
  have HSZ := Lib.hid hsz
  have HLEN := Lib.hid (show m.length ≤ 4096 by have := congrArg List.length hks; rw [List.length_map, List.length_map] at this; omega)
  have k1 := (hbW.cell (block_lt h1)).trans h1
  have hlt := block_lt k1
  clear hJ hY h0 hbW hbW' hbc hm hks hsz hlen h1
  refine callsIn_wide.2 ?_
  show Calls Tryz.prog 79 #[.func (.yield l) #[] #[], .pointer (some ⟨bx, 0, none⟩)] W _
  go_enter Tryz.func79, Tryz.ntmps79
  go_wp2_with (at_range; go_must (refine wpList_rangeS rfl _ _ rfl keysBTy mb _ rfl HM.out ?_); intro w0 hrg0 hb0 hs0)
  obtain ⟨r, hr⟩ : ∃ r, r = W.heap.size := ⟨_, rfl⟩
  rw [← hr] at hrg0 ⊢
  have HR := Lib.hid hr
  have HRG0 := Lib.hid hrg0
  have HB0 := Lib.hid hb0
  clear hr hs0 k1 hrg0 hb0
  go_loopw [3] (fun _ wr => ∃ (vis : List (Value × Value)) (pre : List ByteArray), vis.map Prod.fst = pre.map Value.string ∧ RngS Tryz.prog 9 wr mb r m vis ∧ J pre wr) (fun _ wr => wr.rangeLeft mb r)
  case atStart => exact ⟨[], [], rfl, HRG0.out, HJ.out _ _ _ none H0.out (below_none HB0.out) (fun r e => by cases e)⟩
  case round =>
    obtain ⟨vis, pre, hvp, hrg, hJk⟩ := hrel
    have HVP := Lib.hid hvp
    have HRG := Lib.hid hrg
    have HJK := Lib.hid hJk
    clear hvp hrg hJk
    go_wp2_with (at_next; go_must (refine wpList_nextS rfl _ rfl mb r _ _ rfl HRG.out ?_ ?_))
    · intro hdone
      go_wp2_with fail
      go_end0
      refine ⟨⟨_, rfl⟩, .inl ⟨pre, str_perm ?_, HJK.out⟩⟩
      rw [← HVP.out, ← HKS.out]
      exact hdone.map Prod.fst
    · intro key v1 w1 hmem hnew hrg1 hg1 hs1 hen
      obtain ⟨x, hx, rfl⟩ := fst_mem HKS.out hmem
      have HX := Lib.hid (HSZ.out x hx)
      have HRG1 := Lib.hid hrg1
      have HLEFT := Lib.hid HRG.out.left
      obtain ⟨es, clock, since, seen, c0, -, -, -, -, hri, -⟩ := HRG.out
      have HJ1 := Lib.hid (HJ.out _ _ _ (some r) HJK.out hg1 (fun r' e => by cases e; exact ⟨by rw [HR.out]; exact Nat.le_refl _, _, hri, rfl⟩))
      have hlp : pre.length < 4096 := by
        have h1 := hrg1.left
        have h2 := congrArg List.length HVP.out
        have h3 := HLEN.out
        rw [List.length_map, List.length_map] at h2
        rw [List.length_append, List.length_singleton] at h1
        omega
      obtain ⟨fn, tmps, assign, body, hy, hR⟩ := HY.out pre x w1 HJ1.out HX.out hlp
      clear hmem hnew hrg1 hg1 hs1 hx hri hlp
      go_upto_region 3 with (fail)
      clear hen
      refine (wpIn_wide (n := 3)).1 ?_
      gi_wp2
      refine hR.mono ?_
      rintro e6 w7 (⟨rfl, hj7, hk7⟩ | ⟨rfl, hj7⟩)
      · have HJ7 := Lib.hid hj7
        have HK7 := Lib.hid hk7
        clear hj7 hk7 hy hR
        gi_wp2
        go_wp2_with fail
        go_roundw
        case rel =>
          exact ⟨vis ++ [(.string x, v1)], pre ++ [x], by rw [List.map_append, List.map_append, HVP.out]; rfl, HRG1.out.walks HK7.out.2, HJ7.out⟩
        case measure =>
          have h1 := (HRG1.out.walks HK7.out.2).left
          have h2 := HLEFT.out
          simp only [List.length_append, List.length_singleton] at h1
          omega
      · have HJ7 := Lib.hid hj7
        clear hj7 hy hR
        gi_wp2
        go_wp2_with fail
        refine bodyPost_ret (results_none rfl _ _ _) rfl ?_
        exact ⟨⟨_, rfl⟩, .inr ⟨_, trivial, HJ7.out⟩⟩
def keysESeq (ks : List ByteArray) (bx n₀ : Nat) (w : World) : Prop :=
  SeqW Tryz.prog 92 #[.pointer (some ⟨bx, 0, none⟩)] (fun x : ByteArray => #[.string x]) KeyD (KeyKp n₀) (fun xs => xs.Perm ks) (fun _ => True) 4096 w
theorem keysETy : Tryz.prog.underlying 75 = some (.map 9 48) := Tryz.underlying75
set_option maxRecDepth 100000 in
set_option maxHeartbeats 2000000 in
theorem keysE_seq (m : List (Value × Value)) (ks : List ByteArray) (mb bx : Nat) (w wc : World) (hm : MapS Tryz.prog 9 w mb m) (hks : m.map Prod.fst = ks.map Value.string) (hsz : ∀ k ∈ ks, k.size ≤ maxLen) (hlen : ks.length ≤ 4096)
    (hbc : Below w.heap.size w wc) (h1 : w.cell? ⟨bx, 0, none⟩ = some (.map (some mb))) : keysESeq ks bx w.heap.size wc := by
  intro l J Jx W hbW' hJ hY h0
  have hbW := below_next hbc hbW'
  have HBW := Lib.hid hbW
  have HJ := Lib.hid hJ
  have HY := Lib.hid hY
  have H0 := Lib.hid h0
  have HM := Lib.hid (hm.same (hbW.block mb hm.lt))
  have HKS := Lib.hid hks
  have HSZ := Lib.hid hsz
  have HLEN := Lib.hid (show m.length ≤ 4096 by have := congrArg List.length hks; rw [List.length_map, List.length_map] at this; omega)
  have k1 := (hbW.cell (block_lt h1)).trans h1
  have hlt := block_lt k1
  clear hJ hY h0 hbW hbW' hbc hm hks hsz hlen h1
  refine callsIn_wide.2 ?_
  show Calls Tryz.prog 92 #[.func (.yield l) #[] #[], .pointer (some ⟨bx, 0, none⟩)] W _
  go_enter Tryz.func92, Tryz.ntmps92
  go_wp2_with (at_range; go_must (refine wpList_rangeS rfl _ _ rfl keysETy mb _ rfl HM.out ?_); intro w0 hrg0 hb0 hs0)
  obtain ⟨r, hr⟩ : ∃ r, r = W.heap.size := ⟨_, rfl⟩
  rw [← hr] at hrg0 ⊢
  have HR := Lib.hid hr
  have HRG0 := Lib.hid hrg0
  have HB0 := Lib.hid hb0
  clear hr hs0 k1 hrg0 hb0
  go_loopw [3] (fun _ wr => ∃ (vis : List (Value × Value)) (pre : List ByteArray), vis.map Prod.fst = pre.map Value.string ∧ RngS Tryz.prog 9 wr mb r m vis ∧ J pre wr) (fun _ wr => wr.rangeLeft mb r)
  case atStart => exact ⟨[], [], rfl, HRG0.out, HJ.out _ _ _ none H0.out (below_none HB0.out) (fun r e => by cases e)⟩
  case round =>
    obtain ⟨vis, pre, hvp, hrg, hJk⟩ := hrel
    have HVP := Lib.hid hvp
    have HRG := Lib.hid hrg
    have HJK := Lib.hid hJk
    clear hvp hrg hJk
    go_wp2_with (at_next; go_must (refine wpList_nextS rfl _ rfl mb r _ _ rfl HRG.out ?_ ?_))
    · intro hdone
      go_wp2_with fail
      go_end0
      refine ⟨⟨_, rfl⟩, .inl ⟨pre, str_perm ?_, HJK.out⟩⟩
      rw [← HVP.out, ← HKS.out]
      exact hdone.map Prod.fst
    · intro key v1 w1 hmem hnew hrg1 hg1 hs1 hen
      obtain ⟨x, hx, rfl⟩ := fst_mem HKS.out hmem
      have HX := Lib.hid (HSZ.out x hx)
      have HRG1 := Lib.hid hrg1
      have HLEFT := Lib.hid HRG.out.left
      obtain ⟨es, clock, since, seen, c0, -, -, -, -, hri, -⟩ := HRG.out
      have HJ1 := Lib.hid (HJ.out _ _ _ (some r) HJK.out hg1 (fun r' e => by cases e; exact ⟨by rw [HR.out]; exact Nat.le_refl _, _, hri, rfl⟩))
      have hlp : pre.length < 4096 := by
        have h1 := hrg1.left
        have h2 := congrArg List.length HVP.out
        have h3 := HLEN.out
        rw [List.length_map, List.length_map] at h2
        rw [List.length_append, List.length_singleton] at h1
        omega
      obtain ⟨fn, tmps, assign, body, hy, hR⟩ := HY.out pre x w1 HJ1.out HX.out hlp
      clear hmem hnew hrg1 hg1 hs1 hx hri hlp
      go_upto_region 3 with (fail)
      clear hen
      refine (wpIn_wide (n := 3)).1 ?_
      gi_wp2
      refine hR.mono ?_
      rintro e6 w7 (⟨rfl, hj7, hk7⟩ | ⟨rfl, hj7⟩)
      · have HJ7 := Lib.hid hj7
        have HK7 := Lib.hid hk7
        clear hj7 hk7 hy hR
        gi_wp2
        go_wp2_with fail
        go_roundw
        case rel =>
          exact ⟨vis ++ [(.string x, v1)], pre ++ [x], by rw [List.map_append, List.map_append, HVP.out]; rfl, HRG1.out.walks HK7.out.2, HJ7.out⟩
        case measure =>
          have h1 := (HRG1.out.walks HK7.out.2).left
          have h2 := HLEFT.out
          simp only [List.length_append, List.length_singleton] at h1
          omega
      · have HJ7 := Lib.hid hj7
        clear hj7 hy hR
        gi_wp2
        go_wp2_with fail
        refine bodyPost_ret (results_none rfl _ _ _) rfl ?_
        exact ⟨⟨_, rfl⟩, .inr ⟨_, trivial, HJ7.out⟩⟩
end Go.Proofs.YtdieneaillkbgaaGreatDoor

/- Contracts of package filetree: Walk, the function that it hands back. -/
namespace Go.Proofs.YtdieneaillkbgaaGreatDoor
open Go Go.RowKit Go.Maps
attribute [local go_sem] Oper.semAt_some
section
variable {t : TypeId} {A B C : World} {n : Nat}
end
end Go.Proofs.YtdieneaillkbgaaGreatDoor

/- Contracts of package filetree: slices.AppendSeq over Walk. -/
namespace Go.Proofs.YtdieneaillkbgaaGreatDoor
open Go Go.RowKit Go.Maps
attribute [local go_sem] Oper.semAt_some
/-- What turns no cells leaves owned rows. -/
theorem own_turn {A B : World} {row : Option Nat} {base sz m : Nat} {t : TypeId} {v : Value} {xs : List Value} (h : A.ownsRow base t sz v m xs) (hg : A.grownBy B row) (hr : ∀ r, row = some r → ∃ o : Obj, A.heap[r]? = some o ∧ o.isCells = false) : B.ownsRow base t sz v m xs := by
  refine h.kept hg ?_
  rcases h.2 with ⟨rfl, _⟩ | ⟨g, cap, cur, rfl, _, hgb, _⟩
  · exact .inl rfl
  · refine .inr fun e' => ?_
    obtain ⟨o, ho, hc⟩ := hr g (by simpa [Value.ownBlock] using e'.symm)
    rw [hgb] at ho; cases ho; cases hc
theorem own_block {A : World} {base sz m k : Nat} {t : TypeId} {v : Value} {xs : List Value} (h : A.ownsRow base t sz v m xs) (hk : v.ownBlock = some k) : ∃ cur, A.heap[k]? = some (.cells cur t (0, 0)) := by
  rcases h.2 with ⟨rfl, _⟩ | ⟨g, cap, cur, rfl, _, hgb, _⟩
  · cases hk
  · obtain rfl : g = k := by simpa [Value.ownBlock] using hk
    exact ⟨cur, hgb⟩
/-- Rows of two types lie in two blocks. -/
theorem own_apart {A : World} {b1 b2 s1 s2 m1 m2 : Nat} {t1 t2 : TypeId} {v1 v2 : Value} {x1 x2 : List Value} (h1 : A.ownsRow b1 t1 s1 v1 m1 x1) (h2 : A.ownsRow b2 t2 s2 v2 m2 x2) (ht : t1 ≠ t2) : v1.ownBlock = none ∨ v1.ownBlock ≠ v2.ownBlock := by
  cases h : v1.ownBlock with
  | none => exact .inl rfl
  | some k =>
    refine .inr fun e => ?_
    obtain ⟨c1, d1⟩ := own_block h1 h
    obtain ⟨c2, d2⟩ := own_block h2 e.symm
    rw [d1] at d2
    cases d2
    exact ht rfl
theorem cells_new (w : World) (l : List Value) (e2 : TypeId) : ∀ (j : Nat) (u : Value), l[j]? = some u → (w.alloc (.cells l.toArray e2)).cell? ((⟨w.heap.size, 0, none⟩ : Addr).add j) = some u := by
  intro j u hj
  have hadd : (⟨w.heap.size, 0, none⟩ : Addr).add j = ⟨w.heap.size, j, none⟩ := by unfold Addr.add; split <;> simp_all
  rw [hadd]
  have hh := heap_alloc_new w (.cells l.toArray e2)
  simp only [World.cell?, hh]
  simp [hj]
end Go.Proofs.YtdieneaillkbgaaGreatDoor
