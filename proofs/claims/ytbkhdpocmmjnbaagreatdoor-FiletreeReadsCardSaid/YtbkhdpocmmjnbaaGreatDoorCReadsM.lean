/- FiletreeReads: for every input the law returns true, and each argument reads afterwards as it read before (the tied card). -/
import Derived.Test.YtbkhdpocmmjnbaaGreatDoorMF
import Derived.ChangeKeysEq
import Derived.Laws.StructEq
import Derived.OrdersIn
import Derived.OwnWalkIn
import Derived.RangeFuncCalls
/- Contracts of the specification kinkeepref20: Size. -/
namespace Go.Proofs.YtbkhdpocmmjnbaaGreatDoor
open Go Go.RowKit Go.Maps


theorem row_gr {S : Nat → Prop} {w w' : World} {b sz n : Nat} {v : Value} {xs : List Value} (hsz : 0 < sz) (h : RowAt S w sz v n xs) (hf : ¬ S b) (hg : w.grownBy w' (some b)) : RowAt S w' sz v n xs := by
  have h2 := RowAt.mono (T := fun k => S k ∧ k < w.heap.size) h (fun k hk hS => ⟨hS, hk⟩) hsz
  have h3 := h2.same (w' := w') (fun k hk => hg.block k hk.2 (fun e => hf (by cases e; exact hk.1)))
  obtain ⟨hl, a, cap, hv, hn, hm, h0⟩ := h3
  refine ⟨hl, a, cap, hv, hn, hm, ?_⟩
  rcases h0 with h0 | ⟨b, o, ha, hb, hc⟩
  · exact .inl h0
  · exact .inr ⟨b, o, ha, hb.1, hc⟩
theorem ents_gr {S : Nat → Prop} {w w' : World} {b : Nat} {v : Value} {l : List Ent} (h : EntsAt S w v l) (hf : ¬ S b) (hg : w.grownBy w' (some b)) : EntsAt S w' v l := by
  obtain ⟨cells, h1, h2⟩ := h
  refine ⟨cells, row_gr (by omega) h1 hf hg, h2.mono (fun c x _ hr => ?_)⟩
  obtain ⟨v, r1, r2, r3⟩ := hr
  exact ⟨v, r1, data_grown r2 hf hg, r3⟩
theorem ents_cut {S : Nat → Prop} {w : World} {v : Value} {l : List Ent} (h : EntsAt S w v l) : EntsAt (fun k => S k ∧ k < w.heap.size) w v l :=
  SeqAt.mono h (by omega) (fun k hk hs => ⟨hs, hk⟩) (fun c x _ hr => by
    obtain ⟨v, r1, r2, r3⟩ := hr
    exact ⟨v, r1, RowAt.mono r2 (fun k hk hs => ⟨hs, hk⟩) (by omega), r3⟩)
theorem grown_st (W : World) (b k : Nat) (x : Value) : W.grownBy (W.setCell ⟨b, k, none⟩ x) (some b) :=
  ⟨rfl, rfl, rfl, by simp [World.setCell], fun i _ hi => Below.heap_setCell _ _ _ i (fun e => hi (by rw [e]))⟩
/-- An array of four numbers in a block. -/
def Four (W : World) (b : Nat) (c : Cnt) : Prop := W.heap[b]? = some (.cells #[.int .i64 c.files, .int .i64 c.dirs, .int .i64 c.links, .int .i64 c.bytes] 48 (0, 0))
theorem Four.below {W C : World} {b : Nat} {c : Cnt} (h : Four W b c) (hb : Below W.heap.size W C) : Four C b c := (hb.block b (lt20 h)).trans h
theorem Four.other {W : World} {b b' k : Nat} {c : Cnt} {x : Value} (h : Four W b c) (hne : b ≠ b') : Four (W.setCell ⟨b', k, none⟩ x) b c := setOther20 h hne x
theorem four_any {W : World} {b : Nat} {a0 a1 a2 a3 : Value} {c : Cnt} (h : W.heap[b]? = some (.cells #[a0, a1, a2, a3] 48 (0, 0))) (e0 : a0 = .int .i64 c.files) (e1 : a1 = .int .i64 c.dirs) (e2 : a2 = .int .i64 c.links) (e3 : a3 = .int .i64 c.bytes) : Four W b c := by
  subst e0 e1 e2 e3; exact h
theorem size4_res {a : Act} {w : World} {b : Nat} {c : Cnt} (h : Four w b c) (h4 : a.tmps[4]? = some (.pointer (some ⟨b, 0, none⟩))) : (results Tryz.f19 a.tmps).run Tryz.prog w = .ok (.agg #[.int .i64 c.files, .int .i64 c.dirs, .int .i64 c.links, .int .i64 c.bytes]) w := by
  have m0 := cell20 (k := 0) h
  have m1 := cell20 (k := 1) h
  have m2 := cell20 (k := 2) h
  have m3 := cell20 (k := 3) h
  simp only [List.getElem?_toArray, List.getElem?_cons_succ, List.getElem?_cons_zero] at m0 m1 m2 m3
  simp [results, Tryz.results19, go_sem, h4, m0, m1, m2, m3]
/-- What the loop of Size keeps. -/
structure SzK (T : Nat → Prop) (w : World) (b4 b5 : Nat) (M : List Ent) (v : Value) (c : Cnt) (W : World) : Prop where
  z : Four W b4 ⟨0, 0, 0, 0⟩
  s : Four W b5 c
  m : EntsAt T W v M
  b : Below w.heap.size w W
theorem SzK.below {T : Nat → Prop} {w W C : World} {b4 b5 : Nat} {M : List Ent} {v : Value} {c : Cnt} (h : SzK T w b4 b5 M v c W) (hb : Below W.heap.size W C) : SzK T w b4 b5 M v c C := ⟨h.z.below hb, h.s.below hb, h.m.below hb, below_next h.b hb⟩
theorem SzK.two {T : Nat → Prop} {w W : World} {b4 b5 j : Nat} {M : List Ent} {v x y : Value} {c c' : Cnt} (h : SzK T w b4 b5 M v c W) (hT : ¬ T b5) (h4 : b4 ≠ b5) (hw : w.heap.size ≤ b5)
    (hs : Four ((W.setCell ⟨b5, j, none⟩ x).setCell ⟨b5, 3, none⟩ y) b5 c') : SzK T w b4 b5 M v c' ((W.setCell ⟨b5, j, none⟩ x).setCell ⟨b5, 3, none⟩ y) :=
  ⟨(h.z.other h4).other h4, hs, ents_gr (ents_gr h.m hT (grown_st W b5 j x)) hT (grown_st _ b5 3 y), below_set20 (below_set20 h.b hw) hw⟩
set_option maxRecDepth 100000 in
set_option maxHeartbeats 2000000 in
theorem r_size_any (S : Nat → Prop) (L : List Ent) (v : Value) (p : ByteArray) (w : World) (hv : EntsAt S w v L) (hps : ∀ e ∈ L, e.path.size ≤ 65000) (hp : p.size ≤ 65000) (ht : TOk L) :
    Calls Tryz.prog 19 #[v, .string p] w fun e w' => e = .returned (.agg #[.int .i64 (cntL (atP L p)).files, .int .i64 (cntL (atP L p)).dirs, .int .i64 (cntL (atP L p)).links, .int .i64 (cntL (atP L p)).bytes]) ∧ Below w.heap.size w w' := by
  have HV := Lib.hid (ents_cut hv)
  have HPS := Lib.hid hps
  have HP := Lib.hid hp
  have HT := Lib.hid ht
  obtain ⟨a, cap, rfl, hc, hm, -⟩ := SeqAt.shape hv EntR.len
  unfold maxLen at hm
  obtain ⟨M, hM⟩ : ∃ M, M = atP L p := ⟨_, rfl⟩
  obtain ⟨n, hn⟩ : ∃ n, n = M.length := ⟨_, rfl⟩
  have hn4 : n ≤ 4096 := by
    rw [hn, hM]
    have := List.length_filter_le (fun e => inB p e && (decide (p.size = 0) || (findE L p).isSome)) L
    unfold atP
    have := ht.len
    omega
  have HM := Lib.hid hM
  have HN := Lib.hid hn
  clear hv hps hp ht hM hn
  go_enter Tryz.func19, Tryz.ntmps19
  go_wp2_with fail
  obtain ⟨w2, hw2⟩ : ∃ w2, w2 = (w.alloc (.cells #[.int .i64 0, .int .i64 0, .int .i64 0, .int .i64 0] 48)).alloc (.cells #[.int .i64 0, .int .i64 0, .int .i64 0, .int .i64 0] 48) := ⟨_, rfl⟩
  rw [← hw2]
  obtain ⟨b4, hb4⟩ : ∃ b4, b4 = w.heap.size := ⟨_, rfl⟩
  obtain ⟨b5, hb5⟩ : ∃ b5, b5 = w.heap.size + 1 := ⟨_, rfl⟩
  have F4 : Four w2 b4 ⟨0, 0, 0, 0⟩ := by rw [hw2, hb4]; exact alloc20 (new20 w _) _
  have F5 : Four w2 b5 ⟨0, 0, 0, 0⟩ := by rw [hw2, hb5]; exact new20b w _ _
  have hb2 : Below w.heap.size w w2 := by rw [hw2]; exact ((Below.refl _ _).alloc (Nat.le_refl _) _).alloc (by simp) _
  have hz2 : w2.heap.size = w.heap.size + 2 := by rw [hw2]; simp
  have HB2 := Lib.hid hb2
  have HNE := Lib.hid (show b4 ≠ b5 by omega)
  have HW5 := Lib.hid (show w.heap.size ≤ b5 by omega)
  have HW4 := Lib.hid (show w.heap.size ≤ b4 by omega)
  refine (r_at_any _ L _ p _ (HV.out.below hb2) HPS.out HP.out (by have := HT.out.len; omega)).mono ?_
  rintro e w3 ⟨v3, rfl, h3, hb3⟩
  obtain ⟨T, hT⟩ : ∃ T : Nat → Prop, T = fun k => (S k ∧ k < w.heap.size) ∨ w2.heap.size ≤ k := ⟨_, rfl⟩
  rw [← hT, ← HM.out] at h3
  have HT5 := Lib.hid (show ¬ T b5 by rw [hT]; rintro (h | h) <;> omega)
  obtain ⟨a3, c3, rfl, hc3, hm3, -⟩ := SeqAt.shape h3 EntR.len
  rw [← HN.out] at hc3 h3 ⊢
  unfold maxLen at hm3
  have HS3 := Lib.hid (show SzK T w b4 b5 M (.slice a3 n c3) (cK L p 0) w3 from ⟨F4.below hb3, F5.below hb3, h3, below_next HB2.out hb3⟩)
  rw [← hb5, ← hb4]
  clear hw2 hb4 hb5 F4 F5 hb2 hz2 h3 hb3 hT
  go_wp2_with fail
  go_loopw [12] (fun i wr => ∃ k : Nat, k ≤ n ∧ i = .int .i64 k ∧ SzK T w b4 b5 M (.slice a3 n c3) (cK L p k) wr) (fun i _ => n - (intOf i).toNat)
  case atStart => exact ⟨0, Nat.zero_le _, rfl, HS3.out⟩
  case round =>
    obtain ⟨k, hk, rfl, hsk⟩ := hrel
    have HSR := Lib.hid hsk
    clear hsk
    by_cases hlt : k < n
    · obtain ⟨e, hat⟩ : ∃ e, M[k]? = some e := ⟨M[k]'(by rw [← HN.out]; exact hlt), by simp⟩
      have hat2 : (atP L p)[k]? = some e := by rw [← HM.out]; exact hat
      have heL := atP_sub e (List.mem_of_getElem? hat2)
      have hvE := HT.out.val e heL
      obtain ⟨b, o, dv, rfl, -, hb, hd, hok, -, q0, q1, q2, q3, q4, q5⟩ := ents_at HSR.out.m hat
      obtain ⟨a1, cap1, rfl, hd1, hd2⟩ := hd.slice
      unfold maxLen at hd2
      have hdl := vEnt_data hvE
      have HAT := Lib.hid hat2
      have HKD := Lib.hid (kind_of hvE)
      have HDF := Lib.hid (fun hk => data_file hvE hk)
      obtain ⟨m1, m2, m3, m4⟩ := cK_le HT.out p k (by have := List.getElem?_eq_some_iff.1 hat2; obtain ⟨h, -⟩ := this; omega)
      obtain ⟨cz, hcz⟩ : ∃ cz, cz = cK L p k := ⟨_, rfl⟩
      have HCZ := Lib.hid hcz
      rw [← hcz] at m1 m2 m3 m4
      have m5 : cz.bytes ≤ 4294967296 := by omega
      clear hat hat2 heL hvE hd hok hcz
      go_upto_region 5 with (fail)
      obtain ⟨W4, hW4⟩ : ∃ W4, W4 = wr.alloc (.cells #[.string e.path, .int .i64 e.kind, .int .i64 e.mode, .int .i64 e.time, .slice a1 e.data.length cap1, .string e.link] 30) := ⟨_, rfl⟩
      rw [← hW4]
      have hx : W4.heap[wr.heap.size]? = some (.cells #[.string e.path, .int .i64 e.kind, .int .i64 e.mode, .int .i64 e.time, .slice a1 e.data.length cap1, .string e.link] 30 (0, 0)) := by rw [hW4]; exact new20 wr _
      have HS4 := Lib.hid (show SzK T w b4 b5 M (.slice (some ⟨b, o, none⟩) n c3) cz W4 by
        rw [hW4, HCZ.out]; exact HSR.out.below ((Below.refl _ _).alloc (Nat.le_refl _) _))
      clear hW4 q0 q1 q2 q3 q4 q5
      have c0 := cell20 (k := 0) hx
      have c1 := cell20 (k := 1) hx
      have c2 := cell20 (k := 2) hx
      have c3' := cell20 (k := 3) hx
      have c4 := cell20 (k := 4) hx
      have c5 := cell20 (k := 5) hx
      have d0 := cell20 (k := 0) HS4.out.s
      have d1 := cell20 (k := 1) HS4.out.s
      have d2 := cell20 (k := 2) HS4.out.s
      have d3 := cell20 (k := 3) HS4.out.s
      simp only [List.getElem?_toArray, List.getElem?_cons_succ, List.getElem?_cons_zero] at c0 c1 c2 c3' c4 c5 d0 d1 d2 d3
      have f0 := frozen20 (k := 0) HS4.out.s
      have f1 := frozen20 (k := 1) HS4.out.s
      have f2 := frozen20 (k := 2) HS4.out.s
      have f3 := frozen20 (k := 3) HS4.out.s
      have hne : wr.heap.size ≠ b5 := fun e => by have h1 := lt20 HSR.out.s; omega
      clear hx
      rcases HKD.out with hkd | hkd | hkd
      · have e1 : (e.kind == 1) = true := by simp [hkd]
        have HKK := Lib.hid hkd
        clear hkd
        have hk0 := HKK.out
        go_upto_region 13 with (fail)
        obtain ⟨W5, hW5⟩ : ∃ W5, W5 = (W4.setCell ⟨b5, 0, none⟩ (.int .i64 (cz.files + 1))).setCell ⟨b5, 3, none⟩ (.int .i64 (cz.bytes + e.data.length)) := ⟨_, rfl⟩
        rw [← hW5]
        have HS5 := Lib.hid (show SzK T w b4 b5 M (.slice (some ⟨b, o, none⟩) n c3) (cK L p (k + 1)) W5 by
          rw [hW5]
          refine HS4.out.two HT5.out HNE.out HW5.out (four_any (by simpa using set20 (k := 3) (set20 (k := 0) HS4.out.s (.int .i64 (cz.files + 1))) (.int .i64 (cz.bytes + e.data.length))) ?_ ?_ ?_ ?_) <;> (rw [cK_step HAT.out, ← HCZ.out]; simp [cntE, hk0]))
        clear hW5 d0 d1 d2 d3 f0 f1 f2 f3 c0 c1 c2 c3' c4 c5 hk0
        go_wp2_with fail
        go_roundw
        case rel => exact ⟨k + 1, by omega, by go_num, HS5.out⟩
        case measure => simp [intOf]; omega
      · have e1 : (e.kind == 1) = false := by simp [hkd]
        have e2 : (e.kind == 2) = true := by simp [hkd]
        have HKK := Lib.hid hkd
        clear hkd
        have hk0 := HKK.out
        go_upto_region 13 with (fail)
        obtain ⟨W5, hW5⟩ : ∃ W5, W5 = (W4.setCell ⟨b5, 1, none⟩ (.int .i64 (cz.dirs + 1))).setCell ⟨b5, 3, none⟩ (.int .i64 (cz.bytes + e.data.length)) := ⟨_, rfl⟩
        rw [← hW5]
        have HS5 := Lib.hid (show SzK T w b4 b5 M (.slice (some ⟨b, o, none⟩) n c3) (cK L p (k + 1)) W5 by
          rw [hW5]
          refine HS4.out.two HT5.out HNE.out HW5.out (four_any (by simpa using set20 (k := 3) (set20 (k := 1) HS4.out.s (.int .i64 (cz.dirs + 1))) (.int .i64 (cz.bytes + e.data.length))) ?_ ?_ ?_ ?_) <;> (rw [cK_step HAT.out, ← HCZ.out]; simp [cntE, hk0]))
        clear hW5 d0 d1 d2 d3 f0 f1 f2 f3 c0 c1 c2 c3' c4 c5 hk0
        go_wp2_with fail
        go_roundw
        case rel => exact ⟨k + 1, by omega, by go_num, HS5.out⟩
        case measure => simp [intOf]; omega
      · have e1 : (e.kind == 1) = false := by simp [hkd]
        have e2 : (e.kind == 2) = false := by simp [hkd]
        have e3 : (e.kind == 3) = true := by simp [hkd]
        have HKK := Lib.hid hkd
        clear hkd
        have hk0 := HKK.out
        go_upto_region 13 with (fail)
        obtain ⟨W5, hW5⟩ : ∃ W5, W5 = (W4.setCell ⟨b5, 2, none⟩ (.int .i64 (cz.links + 1))).setCell ⟨b5, 3, none⟩ (.int .i64 (cz.bytes + e.data.length)) := ⟨_, rfl⟩
        rw [← hW5]
        have HS5 := Lib.hid (show SzK T w b4 b5 M (.slice (some ⟨b, o, none⟩) n c3) (cK L p (k + 1)) W5 by
          rw [hW5]
          refine HS4.out.two HT5.out HNE.out HW5.out (four_any (by simpa using set20 (k := 3) (set20 (k := 2) HS4.out.s (.int .i64 (cz.links + 1))) (.int .i64 (cz.bytes + e.data.length))) ?_ ?_ ?_ ?_) <;> (rw [cK_step HAT.out, ← HCZ.out]; simp [cntE, hk0]))
        clear hW5 d0 d1 d2 d3 f0 f1 f2 f3 c0 c1 c2 c3' c4 c5 hk0
        go_wp2_with fail
        go_roundw
        case rel => exact ⟨k + 1, by omega, by go_num, HS5.out⟩
        case measure => simp [intOf]; omega
    · have hk2 : k = n := by omega
      have HCK := Lib.hid (show SzK T w b4 b5 M (.slice a3 n c3) (cntL (atP L p)) wr by
        have h1 := HSR.out
        unfold cK at h1
        rw [hk2, HN.out, HM.out, List.take_length] at h1
        rw [HN.out, HM.out]
        exact h1)
      obtain ⟨cz, hcz⟩ : ∃ cz, cz = cntL (atP L p) := ⟨_, rfl⟩
      have HZ := Lib.hid hcz
      rw [← hcz] at HCK
      clear hk2 hcz
      have d0 := cell20 (k := 0) HCK.out.s
      have d1 := cell20 (k := 1) HCK.out.s
      have d2 := cell20 (k := 2) HCK.out.s
      have d3 := cell20 (k := 3) HCK.out.s
      have z0 := cell20 (k := 0) HCK.out.z
      have z1 := cell20 (k := 1) HCK.out.z
      have z2 := cell20 (k := 2) HCK.out.z
      have z3 := cell20 (k := 3) HCK.out.z
      simp only [List.getElem?_toArray, List.getElem?_cons_succ, List.getElem?_cons_zero] at d0 d1 d2 d3 z0 z1 z2 z3
      have f0 := frozen20 (k := 0) HCK.out.z
      have f1 := frozen20 (k := 1) HCK.out.z
      have f2 := frozen20 (k := 2) HCK.out.z
      have f3 := frozen20 (k := 3) HCK.out.z
      go_wp2_with fail
      obtain ⟨WZ, hWZ⟩ : ∃ WZ, WZ = ((((wr.setCell ⟨b4, 0, none⟩ (.int .i64 cz.files)).setCell ⟨b4, 1, none⟩ (.int .i64 cz.dirs)).setCell ⟨b4, 2, none⟩ (.int .i64 cz.links)).setCell ⟨b4, 3, none⟩ (.int .i64 cz.bytes)) := ⟨_, rfl⟩
      rw [← hWZ]
      have hF : Four WZ b4 cz := by
        rw [hWZ]
        exact four_any (by simpa using set20 (k := 3) (set20 (k := 2) (set20 (k := 1) (set20 (k := 0) HCK.out.z (.int .i64 cz.files)) (.int .i64 cz.dirs)) (.int .i64 cz.links)) (.int .i64 cz.bytes)) rfl rfl rfl rfl
      have hB : Below w.heap.size w WZ := by
        rw [hWZ]
        exact below_set20 (below_set20 (below_set20 (below_set20 HCK.out.b HW4.out) HW4.out) HW4.out) HW4.out
      exact bodyPost_ret (size4_res hF (by kernel_rfl)) (by kernel_rfl) ⟨by rw [HZ.out], hB⟩

end Go.Proofs.YtbkhdpocmmjnbaaGreatDoor

/- The law FiletreeRuns: its walk. -/
namespace Go.Proofs.YtbkhdpocmmjnbaaGreatDoor
open Go Go.RowKit Go.Maps


theorem ops_cut {S : Nat → Prop} {w : World} {v : Value} {l : List POp} (h : OpsAt S w v l) : OpsAt (fun k => k < w.heap.size) w v l :=
  SeqAt.mono h (by omega) (fun k hk _ => hk) (fun c x _ hr => by
    obtain ⟨v, r1, r2, r3⟩ := hr
    exact ⟨v, r1, RowAt.mono r2 (fun k hk _ => hk) (by omega), r3⟩)
theorem ops_fst {l : List POp} {n : Nat} (h : n = l.length) {k : Nat} (hk : k < n) : ∃ x, l[k]? = some x := ⟨l[k]'(by rw [← h]; exact hk), by simp⟩
set_option maxRecDepth 100000 in
set_option maxHeartbeats 4000000 in
theorem runs_walk (l : List POp) (v : Value) (w : World) (hv : OpsAt (fun _ => True) w v l) (henv : Env w) :
    Calls Tryz.prog 3 #[v] w fun e w' => e = .returned (.bool true) ∧ Below w.heap.size w w' := by
  have HV := Lib.hid (ops_cut hv)
  have HE := Lib.hid henv
  obtain ⟨a, cap, rfl, hc, hm, -⟩ := SeqAt.shape hv OpR.len
  unfold maxLen at hm
  obtain ⟨n, hn⟩ : ∃ n, n = l.length := ⟨_, rfl⟩
  have HN := Lib.hid hn
  rw [← hn] at hc HV ⊢
  clear hv henv hn
  go_enter Tryz.func3, Tryz.ntmps3
  go_wp2_with fail
  refine (awakeT_any w HE.out).mono ?_
  rintro e w1 ⟨rfl, hb1⟩
  have HB1 := Lib.hid hb1
  clear hb1
  go_wp2_with fail
  refine (wide_any _ l _ _ (HV.out.below HB1.out)).mono ?_
  rintro e w2 ⟨wb, rfl, hsm, hb2⟩
  have HB2 := Lib.hid (below_next HB1.out hb2)
  have HSM := Lib.hid hsm
  clear hb2 hsm
  cases wb
  case true =>
    go_wp2_with fail
    go_ret
    exact ⟨rfl, HB2.out⟩
  have HSO := Lib.hid (HSM.out rfl).2
  go_wp2_with fail
  refine (newB_any _).mono ?_
  rintro e w3 ⟨rfl, ht3, hb3⟩
  obtain ⟨B, hB⟩ : ∃ B, B = w2.heap.size := ⟨_, rfl⟩
  rw [← hB] at ht3 ⊢
  have HBB := Lib.hid (show w.heap.size ≤ B by rw [hB]; exact HB2.out.size)
  have HT3 := Lib.hid ht3
  have HB3 := Lib.hid (below_next HB2.out hb3)
  have HLT3 := Lib.hid (show B + 1 < w3.heap.size from block_lt ht3.cell)
  clear ht3 hb3 hB
  go_wp2_with fail
  go_loopw [4, 16] (fun u i wr => ∃ (k : Nat) (L : List Ent), k ≤ n ∧ i = .int .i64 k ∧ TreeB B wr L ∧ EntsAt (fun j => j ≠ B) wr u L ∧ Below w.heap.size w wr) (fun _ i _ => n - (intOf i).toNat)
  case atStart => exact ⟨0, [], Nat.zero_le _, rfl, HT3.out, EntsAt.nil _ _, HB3.out⟩
  case round =>
    obtain ⟨k, L, hk, rfl, htr, her, hbr⟩ := hrel
    have HTR := Lib.hid htr
    have HER := Lib.hid her
    have HBR := Lib.hid hbr
    clear htr her hbr
    by_cases hlt : k < n
    · obtain ⟨x, hx⟩ := ops_fst HN.out hlt
      have HXM := Lib.hid (HSO.out x (List.mem_of_getElem? hx))
      obtain ⟨b, o, dv, rfl, hb, hd, hok, hq⟩ := ops_at (HV.out.below HBR.out) hx
      obtain ⟨a1, cap1, rfl, hd1, hd2⟩ := hd.slice
      have q0 := hq 0 (by omega)
      have q1 := hq 1 (by omega)
      have q2 := hq 2 (by omega)
      have q3 := hq 3 (by omega)
      have q4 := hq 4 (by omega)
      have q5 := hq 5 (by omega)
      have q6 := hq 6 (by omega)
      have q7 := hq 7 (by omega)
      have q8 := hq 8 (by omega)
      have q9 := hq 9 (by omega)
      simp only [opC, List.getElem?_cons_succ, List.getElem?_cons_zero, Nat.add_zero] at q0 q1 q2 q3 q4 q5 q6 q7 q8 q9
      have HX := Lib.hid hx
      have HD := Lib.hid hd
      have HOK := Lib.hid hok
      unfold maxLen at hd2
      clear hx hd hok hq
      go_wp2_with fail
      obtain ⟨W, hW⟩ : ∃ W, W = wr.alloc (.cells #[.int .i64 x.kind, .string x.en.path, .int .i64 x.en.kind, .int .i64 x.en.mode, .int .i64 x.en.time, .slice a1 x.en.data.length cap1, .string x.en.link, .string x.src, .string x.dst, .bool x.below] 32) := ⟨_, rfl⟩
      rw [← hW]
      have HXB := Lib.hid (show W.heap[wr.heap.size]? = some (.cells #[.int .i64 x.kind, .string x.en.path, .int .i64 x.en.kind, .int .i64 x.en.mode, .int .i64 x.en.time, .slice a1 x.en.data.length cap1, .string x.en.link, .string x.src, .string x.dst, .bool x.below] 32 (0, 0)) by rw [hW]; exact new20 wr _)
      have HWL := Lib.hid (show Below wr.heap.size wr W by rw [hW]; exact (Below.refl _ _).alloc (Nat.le_refl _) _)
      clear hW
      clear q0 q1 q2 q3 q4 q5 q6 q7 q8 q9
      have HTW := Lib.hid (HTR.out.below HWL.out)
      have HBW := Lib.hid (below_next HBR.out HWL.out)
      have HDB := Lib.hid (data_mono (S' := fun j => j ≠ B) (HD.out.below HWL.out) (fun j hj => by have := HBB.out; omega))
      refine (r_do_any (fun j => j ≠ B) L _ (.slice a1 x.en.data.length cap1) x _ (HER.out.below HWL.out) HTR.out.ok HDB.out HOK.out (by have := HXM.out.2.2.1; omega) (by have := HXM.out.1; omega) (by have := HXM.out.2.1; omega)).mono ?_
      rintro e w5 ⟨v5, rfl, he5, hb5⟩
      obtain ⟨y, hy⟩ : ∃ y, y = (doP L x).2 := ⟨_, rfl⟩
      rw [← hy]
      have HY := Lib.hid hy
      have hBW : B + 1 < W.heap.size := by have h1 := block_lt HTW.out.cell; simpa using h1
      have HE5 := Lib.hid (ents_mo (T := fun j => j ≠ B) he5 (fun j _ hj => by
        rcases hj with hj | hj
        · exact hj
        · omega))
      have HB5 := Lib.hid (below_next HBW.out hb5)
      have HT5 := Lib.hid (HTW.out.below hb5)
      have HX5 := Lib.hid ((hb5.block _ (lt20 HXB.out)).trans HXB.out)
      have HL5 := Lib.hid (HWL.out.trans (hb5.mono HWL.out.size))
      clear he5 hb5 hy
      have c0 := cell20 (k := 0) HX5.out
      have c1 := cell20 (k := 1) HX5.out
      have c2 := cell20 (k := 2) HX5.out
      have c3 := cell20 (k := 3) HX5.out
      have c4 := cell20 (k := 4) HX5.out
      have c5 := cell20 (k := 5) HX5.out
      have c6 := cell20 (k := 6) HX5.out
      have c7 := cell20 (k := 7) HX5.out
      have c8 := cell20 (k := 8) HX5.out
      have c9 := cell20 (k := 9) HX5.out
      simp only [List.getElem?_toArray, List.getElem?_cons_succ, List.getElem?_cons_zero] at c0 c1 c2 c3 c4 c5 c6 c7 c8 c9
      go_wp2_with fail
      refine (do_any _ _ _ _ _ x (.slice a1 x.en.data.length cap1) _ HT5.out (HD.out.below HL5.out) HOK.out (HE.out.below HB5.out)).mono ?_
      rintro e w6 hr
      obtain ⟨rfl, ht6, hg6⟩ := HT5.out.res hr
      rw [← HY.out]
      have HT6 := Lib.hid ht6
      have HE6 := Lib.hid (ents_gr HE5.out (fun h => h rfl) hg6)
      have HB6 := Lib.hid (HB5.out.grown hg6 HB5.out.size (fun k e => by cases e; exact HBB.out))
      clear hr ht6 hg6 c0 c1 c2 c3 c4 c5 c6 c7 c8 c9
      go_wp2_with fail
      go_roundw
      case rel => exact ⟨k + 1, (doP L x).1, by omega, by go_num, HT6.out, HE6.out, HB6.out⟩
      case measure => simp [intOf]; omega
    · go_wp2_with fail
      refine (entries_any _ _ _ L _ HTR.out).mono ?_
      rintro e w7 ⟨v7, rfl, hg7, hb7⟩
      have HG7 := Lib.hid hg7.seq
      have HB7 := Lib.hid (below_next HBR.out hb7)
      have HE7 := Lib.hid (HER.out.below hb7)
      clear hg7 hb7
      go_wp2_with fail
      refine (r_sameall_any _ _ _ _ _ _ _ HG7.out HE7.out).mono ?_
      rintro e w8 ⟨rfl, hb8⟩
      rw [decide_eq_true rfl]
      have HB8 := Lib.hid (below_next HB7.out hb8)
      clear hb8
      go_wp2_with fail
      go_ret
      exact ⟨rfl, HB8.out⟩

end Go.Proofs.YtbkhdpocmmjnbaaGreatDoor

/- Contracts of the specification kinkeepref20: List, Size. -/
namespace Go.Proofs.YtbkhdpocmmjnbaaGreatDoor
open Go Go.RowKit Go.Maps


set_option maxRecDepth 100000 in
set_option maxHeartbeats 2000000 in
theorem r_list_any (S : Nat → Prop) (L : List Ent) (v : Value) (d : ByteArray) (w : World) (hv : EntsAt S w v L) (hps : ∀ e ∈ L, e.path.size ≤ 65000) (hp : d.size ≤ 65000) (hl : L.length ≤ 8192) :
    Calls Tryz.prog 17 #[v, .string d] w (RList S (listP L d) w) := by
  have HV := Lib.hid hv
  have HPS := Lib.hid hps
  have HP := Lib.hid hp
  obtain ⟨a, cap, rfl, hc, hm, -⟩ := SeqAt.shape hv EntR.len
  unfold maxLen at hm
  obtain ⟨n, hn⟩ : ∃ n, n = L.length := ⟨_, rfl⟩
  have HN := Lib.hid hn
  rw [← hn] at hc HV hl ⊢
  obtain ⟨F, hF⟩ : ∃ F : Ent → Bool, F = fun e => decide (parentL (bl e.path) = bl d) := ⟨_, rfl⟩
  have HF := Lib.hid hF
  clear hv hps hn
  by_cases h0 : bl d = []
  · have e0 : d.toList.isEmpty = true := by rw [empty20, decide_eq_true h0]
    have e2 : (!d.toList.isEmpty) = false := by simp [e0]
    have HLP0 := Lib.hid (show listP L d = if dirE L (bl d) ≠ 0 then ([], dirE L (bl d)) else (L.filter F, 0) by unfold listP; rw [if_neg (fun h => h.1 (size_zero.2 h0)), hF])
    have HBZ := Lib.hid (Below.refl w.heap.size w)
    clear h0 hF
    go_enter Tryz.func17, Tryz.ntmps17
    obtain ⟨x, hx⟩ : ∃ x, dirE L (bl d) = x := ⟨_, rfl⟩
    have HX0 := Lib.hid hx
    by_cases h0 : x = 0
    · subst h0
      have HLP := Lib.hid (show listP L d = (L.filter F, 0) by rw [HLP0.out, if_neg (by simp [hx])])
      clear hx
      go_wp2_with fail
      refine (r_dir_is S L _ d 0 _ (HV.out.below HBZ.out) HX0.out).mono ?_
      rintro e w2 ⟨rfl, hb2⟩
      have HB2 := Lib.hid (below_next HBZ.out hb2)
      clear hb2
      have HB4 := Lib.hid HB2.out
      go_wp2_with fail
      go_loopw [7, 25] (fun v i wr => ∃ (k : Nat) (ys : List VEnt), k ≤ n ∧ i = .int .i64 k ∧ LoopG S w ((L.take k).filter F) ys v wr) (fun _ i _ => n - (intOf i).toNat)
      case atStart => exact ⟨0, [], Nat.zero_le _, rfl, by simpa using LoopG.nil S w HB4.out⟩
      case round =>
        obtain ⟨k, ys, hk, rfl, hlg⟩ := hrel
        have HLG := Lib.hid hlg
        obtain ⟨av, cv, hsv, hvn, hvm, hyl⟩ := hlg.shape
        subst hsv
        have hyk : ys.length ≤ k := by rw [hyl]; exact filt_le L F k
        clear hyl
        unfold maxLen at hvm
        clear hlg
        by_cases hlt : k < n
        · have hlt2 := hlt
          obtain ⟨e, he⟩ : ∃ e, L[k]? = some e := ⟨L[k]'(by rw [← HN.out]; exact hlt), by simp⟩
          obtain ⟨b, o, dv, rfl, -, hb, hd, hok, -, q0, q1, q2, q3, q4, q5⟩ := ents_at HV.out he
          have r0 := (HLG.out.2.2.2.cell (block_lt q0)).trans q0
          have r1 := (HLG.out.2.2.2.cell (block_lt q1)).trans q1
          have r2 := (HLG.out.2.2.2.cell (block_lt q2)).trans q2
          have r3 := (HLG.out.2.2.2.cell (block_lt q3)).trans q3
          have r4 := (HLG.out.2.2.2.cell (block_lt q4)).trans q4
          have r5 := (HLG.out.2.2.2.cell (block_lt q5)).trans q5
          have HX := Lib.hid he
          have HD := Lib.hid hd
          have HOK := Lib.hid hok
          have HPE := Lib.hid (HPS.out e (List.mem_of_getElem? he))
          obtain ⟨a1, cap1, rfl, hd1, hd2⟩ := hd.slice
          unfold maxLen at hd2
          clear he hd hok q0 q1 q2 q3 q4 q5
          go_wp2_with fail
          obtain ⟨W, hW⟩ : ∃ W, W = wr.alloc (.cells #[.string e.path, .int .i64 e.kind, .int .i64 e.mode, .int .i64 e.time, .slice a1 e.data.length cap1, .string e.link] 30) := ⟨_, rfl⟩
          rw [← hW]
          have HXW := Lib.hid (show W.heap[wr.heap.size]? = some (.cells #[.string e.path, .int .i64 e.kind, .int .i64 e.mode, .int .i64 e.time, .slice a1 e.data.length cap1, .string e.link] 30 (0, 0)) by rw [hW]; exact new20 wr _)
          have HWL := Lib.hid (show Below wr.heap.size wr W by rw [hW]; exact (Below.refl _ _).alloc (Nat.le_refl _) _)
          clear hW r0 r1 r2 r3 r4 r5
          by_cases hin : parentL (bl e.path) = bl d
          · have HFE := Lib.hid (show F e = true by rw [HF.out]; simp [hin])
            have HQ := Lib.hid (show d = ⟨(parentL (bl e.path)).toArray⟩ from path_bl hin.symm)
            clear hin
            refine (r_parent_is e.path d _ HPE.out HQ.out).mono ?_
            rintro e7 w7 ⟨rfl, hb7⟩
            have HL7 := Lib.hid (HWL.out.trans (hb7.mono HWL.out.size))
            have HX7 := Lib.hid ((hb7.block wr.heap.size (lt20 HXW.out)).trans HXW.out)
            clear hb7
            have c0 := cell20 (k := 0) HX7.out
            have c1 := cell20 (k := 1) HX7.out
            have c2 := cell20 (k := 2) HX7.out
            have c3 := cell20 (k := 3) HX7.out
            have c4 := cell20 (k := 4) HX7.out
            have c5 := cell20 (k := 5) HX7.out
            simp only [List.getElem?_toArray, List.getElem?_cons_succ, List.getElem?_cons_zero] at c0 c1 c2 c3 c4 c5
            have HO7 := Lib.hid (HLG.out.below HL7.out)
            have hsz7 : w.heap.size ≤ (w7).heap.size := HO7.out.2.2.2.size
            go_wp2_with (at_builtin; go_must (refine wpList_app1p Tryz.appEnts rfl _ _ rfl w.heap.size (.slice av ys.length cv) ys.length (entsC ys) rfl w7 (entC (.slice a1 e.data.length cap1) e) _ rfl rfl entC_one HO7.out.2.1 (by omega) hsz7 ?_); intro v' w8 hown8 hgrow8 _ _; have HPU := Lib.hid (HO7.out.push (y := (.slice a1 e.data.length cap1, e)) HD.out HOK.out hown8 hgrow8); clear hown8 hgrow8)
            go_wp2_with fail
            go_roundw
            case rel =>
              refine ⟨k + 1, ys ++ [(.slice a1 e.data.length cap1, e)], by omega, by go_num, ?_⟩
              rw [filt_step HX.out, if_pos HFE.out]
              exact HPU.out
            case measure => simp [intOf]; omega
          · have HFE := Lib.hid (show ¬ F e = true by rw [HF.out]; simp [hin])
            obtain ⟨q, hq⟩ : ∃ q : ByteArray, q = ⟨(parentL (bl e.path)).toArray⟩ := ⟨_, rfl⟩
            have HQ := Lib.hid hq
            have e1 : (q.toList == d.toList) = false := by
              rw [Bool.eq_false_iff]
              intro hc
              have h1 : bl q = bl d := by rw [← toList_bl, ← toList_bl]; simpa using hc
              exact hin (((congrArg bl hq).trans (bl_mk _)).symm.trans h1)
            clear hin hq
            refine (r_parent_is e.path q _ HPE.out HQ.out).mono ?_
            rintro e7 w7 ⟨rfl, hb7⟩
            have HL7 := Lib.hid (HWL.out.trans (hb7.mono HWL.out.size))
            clear hb7
            go_wp2_with fail
            go_roundw
            case rel =>
              refine ⟨k + 1, ys, by omega, by go_num, ?_⟩
              rw [filt_step HX.out, if_neg HFE.out, List.append_nil]
              exact HLG.out.below HL7.out
            case measure => simp [intOf]; omega
        · have hk2 : k = n := by omega
          have hout := HLG.out.out
          rw [hk2, HN.out, List.take_length] at hout
          have HOUT := Lib.hid hout
          clear hout
          go_wp2_with fail
          go_ret2
          exact ⟨.slice av ys.length cv, by rw [HLP.out]; rfl, by rw [HLP.out]; exact HOUT.out, HLG.out.2.2.2⟩
    · have e1 : (x != 0) = true := by simp [h0]
      have HLP := Lib.hid (show listP L d = ([], x) by rw [HLP0.out, if_pos (by rw [hx]; exact h0), hx])
      clear hx h0
      go_wp2_with fail
      refine (r_dir_is S L _ d x _ (HV.out.below HBZ.out) HX0.out).mono ?_
      rintro e w2 ⟨rfl, hb2⟩
      have HB2 := Lib.hid (below_next HBZ.out hb2)
      clear hb2
      go_wp2_with fail
      go_ret2
      exact ⟨.slice none 0 0, by rw [HLP.out]; rfl, by rw [HLP.out]; exact EntsAt.nil _ _, HB2.out⟩
  · have e0 : d.toList.isEmpty = false := by rw [empty20, decide_eq_false h0]
    have e2 : (!d.toList.isEmpty) = true := by simp [e0]
    cases hvp : validP (bl d)
    · have HVP := Lib.hid hvp
      have HLP := Lib.hid (show listP L d = ([], 1) by unfold listP; rw [if_pos ⟨fun h => h0 (size_zero.1 h), hvp⟩])
      clear h0 hF hvp
      go_enter Tryz.func17, Tryz.ntmps17
      go_wp2_with fail
      refine (r_valid20_is d false _ (by have := HP.out; omega) HVP.out).mono ?_
      rintro e w1 ⟨rfl, hb1⟩
      have HB1 := Lib.hid hb1
      clear hb1
      go_wp2_with fail
      go_ret2
      exact ⟨.slice none 0 0, by rw [HLP.out]; rfl, by rw [HLP.out]; exact EntsAt.nil _ _, HB1.out⟩
    · have HVP := Lib.hid hvp
      have HLP0 := Lib.hid (show listP L d = if dirE L (bl d) ≠ 0 then ([], dirE L (bl d)) else (L.filter F, 0) by unfold listP; rw [if_neg (fun h => by rw [hvp] at h; cases h.2), hF])
      clear h0 hF hvp
      go_enter Tryz.func17, Tryz.ntmps17
      go_wp2_with fail
      refine (r_valid20_is d true _ (by have := HP.out; omega) HVP.out).mono ?_
      rintro e w1 ⟨rfl, hb1⟩
      have HB1 := Lib.hid hb1
      clear hb1
      obtain ⟨x, hx⟩ : ∃ x, dirE L (bl d) = x := ⟨_, rfl⟩
      have HX0 := Lib.hid hx
      by_cases h0 : x = 0
      · subst h0
        have HLP := Lib.hid (show listP L d = (L.filter F, 0) by rw [HLP0.out, if_neg (by simp [hx])])
        clear hx
        go_wp2_with fail
        refine (r_dir_is S L _ d 0 _ (HV.out.below HB1.out) HX0.out).mono ?_
        rintro e w2 ⟨rfl, hb2⟩
        have HB2 := Lib.hid (below_next HB1.out hb2)
        clear hb2
        have HB4 := Lib.hid HB2.out
        go_wp2_with fail
        go_loopw [7, 25] (fun v i wr => ∃ (k : Nat) (ys : List VEnt), k ≤ n ∧ i = .int .i64 k ∧ LoopG S w ((L.take k).filter F) ys v wr) (fun _ i _ => n - (intOf i).toNat)
        case atStart => exact ⟨0, [], Nat.zero_le _, rfl, by simpa using LoopG.nil S w HB4.out⟩
        case round =>
          obtain ⟨k, ys, hk, rfl, hlg⟩ := hrel
          have HLG := Lib.hid hlg
          obtain ⟨av, cv, hsv, hvn, hvm, hyl⟩ := hlg.shape
          subst hsv
          have hyk : ys.length ≤ k := by rw [hyl]; exact filt_le L F k
          clear hyl
          unfold maxLen at hvm
          clear hlg
          by_cases hlt : k < n
          · have hlt2 := hlt
            obtain ⟨e, he⟩ : ∃ e, L[k]? = some e := ⟨L[k]'(by rw [← HN.out]; exact hlt), by simp⟩
            obtain ⟨b, o, dv, rfl, -, hb, hd, hok, -, q0, q1, q2, q3, q4, q5⟩ := ents_at HV.out he
            have r0 := (HLG.out.2.2.2.cell (block_lt q0)).trans q0
            have r1 := (HLG.out.2.2.2.cell (block_lt q1)).trans q1
            have r2 := (HLG.out.2.2.2.cell (block_lt q2)).trans q2
            have r3 := (HLG.out.2.2.2.cell (block_lt q3)).trans q3
            have r4 := (HLG.out.2.2.2.cell (block_lt q4)).trans q4
            have r5 := (HLG.out.2.2.2.cell (block_lt q5)).trans q5
            have HX := Lib.hid he
            have HD := Lib.hid hd
            have HOK := Lib.hid hok
            have HPE := Lib.hid (HPS.out e (List.mem_of_getElem? he))
            obtain ⟨a1, cap1, rfl, hd1, hd2⟩ := hd.slice
            unfold maxLen at hd2
            clear he hd hok q0 q1 q2 q3 q4 q5
            go_wp2_with fail
            obtain ⟨W, hW⟩ : ∃ W, W = wr.alloc (.cells #[.string e.path, .int .i64 e.kind, .int .i64 e.mode, .int .i64 e.time, .slice a1 e.data.length cap1, .string e.link] 30) := ⟨_, rfl⟩
            rw [← hW]
            have HXW := Lib.hid (show W.heap[wr.heap.size]? = some (.cells #[.string e.path, .int .i64 e.kind, .int .i64 e.mode, .int .i64 e.time, .slice a1 e.data.length cap1, .string e.link] 30 (0, 0)) by rw [hW]; exact new20 wr _)
            have HWL := Lib.hid (show Below wr.heap.size wr W by rw [hW]; exact (Below.refl _ _).alloc (Nat.le_refl _) _)
            clear hW r0 r1 r2 r3 r4 r5
            by_cases hin : parentL (bl e.path) = bl d
            · have HFE := Lib.hid (show F e = true by rw [HF.out]; simp [hin])
              have HQ := Lib.hid (show d = ⟨(parentL (bl e.path)).toArray⟩ from path_bl hin.symm)
              clear hin
              refine (r_parent_is e.path d _ HPE.out HQ.out).mono ?_
              rintro e7 w7 ⟨rfl, hb7⟩
              have HL7 := Lib.hid (HWL.out.trans (hb7.mono HWL.out.size))
              have HX7 := Lib.hid ((hb7.block wr.heap.size (lt20 HXW.out)).trans HXW.out)
              clear hb7
              have c0 := cell20 (k := 0) HX7.out
              have c1 := cell20 (k := 1) HX7.out
              have c2 := cell20 (k := 2) HX7.out
              have c3 := cell20 (k := 3) HX7.out
              have c4 := cell20 (k := 4) HX7.out
              have c5 := cell20 (k := 5) HX7.out
              simp only [List.getElem?_toArray, List.getElem?_cons_succ, List.getElem?_cons_zero] at c0 c1 c2 c3 c4 c5
              have HO7 := Lib.hid (HLG.out.below HL7.out)
              have hsz7 : w.heap.size ≤ (w7).heap.size := HO7.out.2.2.2.size
              go_wp2_with (at_builtin; go_must (refine wpList_app1p Tryz.appEnts rfl _ _ rfl w.heap.size (.slice av ys.length cv) ys.length (entsC ys) rfl w7 (entC (.slice a1 e.data.length cap1) e) _ rfl rfl entC_one HO7.out.2.1 (by omega) hsz7 ?_); intro v' w8 hown8 hgrow8 _ _; have HPU := Lib.hid (HO7.out.push (y := (.slice a1 e.data.length cap1, e)) HD.out HOK.out hown8 hgrow8); clear hown8 hgrow8)
              go_wp2_with fail
              go_roundw
              case rel =>
                refine ⟨k + 1, ys ++ [(.slice a1 e.data.length cap1, e)], by omega, by go_num, ?_⟩
                rw [filt_step HX.out, if_pos HFE.out]
                exact HPU.out
              case measure => simp [intOf]; omega
            · have HFE := Lib.hid (show ¬ F e = true by rw [HF.out]; simp [hin])
              obtain ⟨q, hq⟩ : ∃ q : ByteArray, q = ⟨(parentL (bl e.path)).toArray⟩ := ⟨_, rfl⟩
              have HQ := Lib.hid hq
              have e1 : (q.toList == d.toList) = false := by
                rw [Bool.eq_false_iff]
                intro hc
                have h1 : bl q = bl d := by rw [← toList_bl, ← toList_bl]; simpa using hc
                exact hin (((congrArg bl hq).trans (bl_mk _)).symm.trans h1)
              clear hin hq
              refine (r_parent_is e.path q _ HPE.out HQ.out).mono ?_
              rintro e7 w7 ⟨rfl, hb7⟩
              have HL7 := Lib.hid (HWL.out.trans (hb7.mono HWL.out.size))
              clear hb7
              go_wp2_with fail
              go_roundw
              case rel =>
                refine ⟨k + 1, ys, by omega, by go_num, ?_⟩
                rw [filt_step HX.out, if_neg HFE.out, List.append_nil]
                exact HLG.out.below HL7.out
              case measure => simp [intOf]; omega
          · have hk2 : k = n := by omega
            have hout := HLG.out.out
            rw [hk2, HN.out, List.take_length] at hout
            have HOUT := Lib.hid hout
            clear hout
            go_wp2_with fail
            go_ret2
            exact ⟨.slice av ys.length cv, by rw [HLP.out]; rfl, by rw [HLP.out]; exact HOUT.out, HLG.out.2.2.2⟩
      · have e1 : (x != 0) = true := by simp [h0]
        have HLP := Lib.hid (show listP L d = ([], x) by rw [HLP0.out, if_pos (by rw [hx]; exact h0), hx])
        clear hx h0
        go_wp2_with fail
        refine (r_dir_is S L _ d x _ (HV.out.below HB1.out) HX0.out).mono ?_
        rintro e w2 ⟨rfl, hb2⟩
        have HB2 := Lib.hid (below_next HB1.out hb2)
        clear hb2
        go_wp2_with fail
        go_ret2
        exact ⟨.slice none 0 0, by rw [HLP.out]; rfl, by rw [HLP.out]; exact EntsAt.nil _ _, HB2.out⟩

end Go.Proofs.YtbkhdpocmmjnbaaGreatDoor

/- Two arrays of four numbers are compared. -/
namespace Go.Proofs.YtbkhdpocmmjnbaaGreatDoor
open Go Go.RowKit Go.Maps

def cntV (c : Cnt) : Value := .agg #[.int .i64 c.files, .int .i64 c.dirs, .int .i64 c.links, .int .i64 c.bytes]
theorem eq4 (c c' : Cnt) (w : World) : (Op.equalIn 10000 48 (cntV c) (cntV c')).run Tryz.prog w = .ok (decide (c = c')) w := by
  have u2 := Tryz.underlying3
  have hu : Tryz.prog.underlying 48 = some (.array 4 3) := Tryz.underlying48
  obtain ⟨i, hi⟩ := Option.isSome_iff_exists.1 (show (Tryz.prog.info? 3).isSome = true by kernel_rfl)
  have hc : Tryz.prog.cellsOf 3 = 1 := by kernel_rfl
  rw [show (10000 : Nat) = 9999 + 1 from rfl]
  unfold cntV
  rw [run_equalIn_array w 9999 _ _ hu hi, hc]
  simp only [List.range, List.range.loop, Op.eqItems]
  rw [show (9999 : Nat) = 9998 + 1 from rfl]
  go_simp
  obtain ⟨a, b, c, d⟩ := c
  obtain ⟨a', b', c', d'⟩ := c'
  simp only [Cnt.mk.injEq]
  by_cases h1 : a = a' <;> by_cases h2 : b = b' <;> by_cases h3 : c = c' <;> by_cases h4 : d = d' <;> (simp [h1, h2, h3, h4]; try omega)

end Go.Proofs.YtbkhdpocmmjnbaaGreatDoor

/- The law FiletreeStays: its walk. -/
namespace Go.Proofs.YtbkhdpocmmjnbaaGreatDoor
open Go Go.RowKit Go.Maps

theorem doP_err {L : List Ent} {x : POp} (h : (doP L x).2 ≠ 0) : (doP L x).1 = L := by
  unfold doP at h ⊢
  split
  · rename_i h1
    rw [if_pos h1] at h
    unfold putP at h ⊢
    repeat' split
    all_goals first | rfl | (exfalso; apply h; simp_all)
  · rename_i h1
    rw [if_neg h1] at h
    split
    · rename_i h2
      rw [if_pos h2] at h
      unfold removeP at h ⊢
      repeat' split
      all_goals first | rfl | (exfalso; apply h; simp_all)
    · rename_i h2
      rw [if_neg h2] at h
      split
      · rename_i h3
        rw [if_pos h3] at h
        unfold moveP at h ⊢
        repeat' split
        all_goals first | rfl | (exfalso; apply h; simp_all)
      · rfl
theorem data_other {S : Nat → Prop} {w w' : World} {b : Nat} {v : Value} {bs : List UInt8} (h : DataAt S w v bs) (hf : ¬ S b) (hg : w.grownBy w' (some b)) : DataAt S w' v bs := data_grown h hf hg
theorem TreeAt.other {S : Nat → Prop} {w w' : World} {tb mb b : Nat} {L : List Ent} (h : TreeAt S w tb mb L) (hg : w.grownBy w' (some b)) (h1 : tb ≠ b) (h2 : mb ≠ b) (h3 : ¬ S b) : TreeAt S w' tb mb L := by
  obtain ⟨xs, hm, hp⟩ := h.ents
  exact ⟨hg.cell h.cell (fun e => h1 (Option.some.inj e)), h.ne, h.far, fun k hk => Nat.lt_of_lt_of_le (h.lt k hk) hg.size, h.ok, xs,
    ⟨hm.map.same (hg.block mb hm.map.lt (fun e => h2 (Option.some.inj e))), fun x hx => ⟨data_grown (hm.dat x hx).1 h3 hg, (hm.dat x hx).2⟩, hm.far⟩, hp⟩
theorem from_ok (S : Nat → Prop) (L : List Ent) (v : Value) (w : World) (hv : EntsAt S w v L) (henv : Env w) (h : TOk L) : Calls Tryz.prog 22 #[v] w fun e w' => Below w.heap.size w w' ∧ ∃ tb mb, e = .returned (.tuple #[.pointer (some ⟨tb, 0, none⟩), .int .i64 0]) ∧ NewTree w w' tb mb L :=
  (from_any S L v w hv henv).mono fun _ _ ⟨hb, hr⟩ => ⟨hb, (hr.resolve_left (fun h2 => h2.1 (checkP_iff.2 h))).2⟩
end Go.Proofs.YtbkhdpocmmjnbaaGreatDoor

/- The law FiletreeMoves: its walk. -/
namespace Go.Proofs.YtbkhdpocmmjnbaaGreatDoor
open Go Go.RowKit Go.Maps

theorem moveP_err {L : List Ent} {p q : ByteArray} (h : (moveP L p q).2 ≠ 0) : (moveP L p q).1 = L := by
  have := doP_err (L := L) (x := ⟨3, ⟨⟨#[]⟩, 0, 0, 0, [], ⟨#[]⟩⟩, p, q, false⟩)
  simp only [doP, if_neg (show ¬ (3 : Int) = 1 by decide), if_neg (show ¬ (3 : Int) = 2 by decide), if_true] at this
  exact this h
theorem get_some (S : Nat → Prop) (tb mb : Nat) (L : List Ent) (p : ByteArray) (f : Ent) (w : World) (ht : TreeAt S w tb mb L) (hps : p.size ≤ maxLen) (hf : findE L p = some f) :
    Calls Tryz.prog 13 #[.pointer (some ⟨tb, 0, none⟩), .string p] w fun e w' => ∃ a c, e = .returned (.tuple #[.agg #[.string f.path, .int .i64 f.kind, .int .i64 f.mode, .int .i64 f.time, .slice a f.data.length c, .string f.link], .bool true]) ∧ DataAt (fun k => w.heap.size ≤ k ∧ k < w'.heap.size) w' (.slice a f.data.length c) f.data ∧ Below w.heap.size w w' :=
  (get_any S tb mb L p w ht hps).mono fun e w' ⟨hb, hr⟩ => by
    rw [hf] at hr
    obtain ⟨v, rfl, ho⟩ := hr
    have hd := data_of_owns ho
    obtain ⟨a, c, rfl, -, -⟩ := owns_shape ho
    exact ⟨a, c, rfl, hd, hb⟩
theorem get_none (S : Nat → Prop) (tb mb : Nat) (L : List Ent) (p : ByteArray) (w : World) (ht : TreeAt S w tb mb L) (hps : p.size ≤ maxLen) (hf : findE L p = none) :
    Calls Tryz.prog 13 #[.pointer (some ⟨tb, 0, none⟩), .string p] w fun e w' => e = .returned (.tuple #[.agg #[.string ⟨#[]⟩, .int .i64 0, .int .i64 0, .int .i64 0, .slice none 0 0, .string ⟨#[]⟩], .bool false]) ∧ Below w.heap.size w w' :=
  (get_any S tb mb L p w ht hps).mono fun e w' ⟨hb, hr⟩ => by
    rw [hf] at hr
    exact ⟨hr, hb⟩
/-- Every Get of a law: what it hands back, and where its data lie. -/
def GotV (L : List Ent) (p : ByteArray) (B : Nat) (w' : World) (g : Ent) (a : Option Addr) (n c : Nat) (ok : Bool) : Prop :=
  DataAt (fun k => B ≤ k ∧ k < w'.heap.size) w' (.slice a n c) g.data ∧ n = g.data.length ∧ n ≤ c ∧ c ≤ maxLen ∧ ((ok = true ∧ findE L p = some g) ∨ (ok = false ∧ findE L p = none ∧ g = ⟨⟨#[]⟩, 0, 0, 0, [], ⟨#[]⟩⟩))
theorem get_v (S : Nat → Prop) (tb mb : Nat) (L : List Ent) (p : ByteArray) (w : World) (ht : TreeAt S w tb mb L) (hps : p.size ≤ maxLen) :
    Calls Tryz.prog 13 #[.pointer (some ⟨tb, 0, none⟩), .string p] w fun e w' => ∃ g a n c ok, e = .returned (.tuple #[.agg #[.string g.path, .int .i64 g.kind, .int .i64 g.mode, .int .i64 g.time, .slice a n c, .string g.link], .bool ok]) ∧ GotV L p w.heap.size w' g a n c ok ∧ Below w.heap.size w w' :=
  (get_any S tb mb L p w ht hps).mono fun e w' ⟨hb, hr⟩ => by
    cases hf : findE L p with
    | none =>
      rw [hf] at hr
      exact ⟨⟨⟨#[]⟩, 0, 0, 0, [], ⟨#[]⟩⟩, none, 0, 0, false, hr, ⟨DataAt.nil _ _, rfl, Nat.le_refl _, by decide, .inr ⟨rfl, hf, rfl⟩⟩, hb⟩
    | some f =>
      rw [hf] at hr
      obtain ⟨v, rfl, ho⟩ := hr
      have hd := data_of_owns ho
      obtain ⟨a, c, rfl, h1, h2⟩ := owns_shape ho
      exact ⟨f, a, _, c, true, rfl, ⟨hd, rfl, h1, h2, .inl ⟨rfl, hf⟩⟩, hb⟩
end Go.Proofs.YtbkhdpocmmjnbaaGreatDoor

/- Rows of bytes that are written. -/
namespace Go.Proofs.YtbkhdpocmmjnbaaGreatDoor
open Go Go.RowKit Go.Maps

def ByteV (B : Nat) (v : Value) (n : Nat) (W : World) : Prop := ∃ bs : List UInt8, bs.length = n ∧ W.ownsRow B 5 1 v n (bs.map u8V)
theorem grown_set (W : World) (b k : Nat) (x : Value) : W.grownBy (W.setCell ⟨b, k, none⟩ x) (some b) :=
  ⟨rfl, rfl, rfl, by simp [World.setCell], fun i _ hi => Below.heap_setCell _ _ _ i (fun e => hi (by rw [e]))⟩
theorem byteV_ent {B : Nat} {x : VEnt} {W : World} (h : EntNew B x W) : ByteV B x.1 x.2.data.length W := ⟨x.2.data, rfl, h.1⟩
theorem ByteV.le {B B' n : Nat} {v : Value} {W : World} (h : ByteV B v n W) (hB : B' ≤ B) : ByteV B' v n W := by
  obtain ⟨bs, h1, h2⟩ := h
  exact ⟨bs, h1, owns_le20 h2 hB⟩
theorem ByteV.below {B n : Nat} {v : Value} {W C : World} (h : ByteV B v n W) (hb : Below W.heap.size W C) : ByteV B v n C := by
  obtain ⟨bs, h1, h2⟩ := h
  exact ⟨bs, h1, own_below h2 hb⟩
theorem ByteV.turn {B n : Nat} {v : Value} {A C : World} {row : Option Nat} (h : ByteV B v n A) (hg : A.grownBy C row) (hr : ∀ r, row = some r → ∃ o : Obj, A.heap[r]? = some o ∧ o.isCells = false) : ByteV B v n C := by
  obtain ⟨bs, h1, h2⟩ := h
  exact ⟨bs, h1, own_turn h2 hg hr⟩
theorem ByteV.shape {B n : Nat} {v : Value} {W : World} (h : ByteV B v n W) : ∃ a c, v = .slice a n c ∧ n ≤ c ∧ c ≤ maxLen := by
  obtain ⟨bs, _, h2⟩ := h
  exact owns_shape h2
theorem take_set_map {cur : List Value} {bs : List UInt8} {n j : Nat} {x : UInt8} (h : cur.take n = bs.map u8V) : (cur.set j (u8V x)).take n = (bs.set j x).map u8V := by
  rw [List.take_set, h, List.map_set]
/-- A byte stored anywhere leaves rows of bytes rows of bytes. -/
theorem ByteV.set {B n g j : Nat} {v : Value} {W : World} (h : ByteV B v n W) (x : UInt8) : ByteV B v n (W.setCell ⟨g, j, none⟩ (u8V x)) := by
  obtain ⟨bs, h1, h2, h3⟩ := h
  rcases h3 with ⟨rfl, h4⟩ | ⟨g', cap, cur, rfl, hb, hh, hn, hm, hs, ht⟩
  · exact ⟨bs, h1, h2, .inl ⟨rfl, h4⟩⟩
  · by_cases hg : g = g'
    · subst hg
      refine ⟨bs.set j x, by rw [List.length_set]; exact h1, by rw [List.length_map, List.length_set, h1]; omega, .inr ⟨g, cap, cur.setIfInBounds j (u8V x), rfl, hb, set20 hh _, hn, hm, by simp [hs], ?_⟩⟩
      rw [Array.toList_setIfInBounds]
      exact take_set_map ht
    · exact ⟨bs, h1, h2, .inr ⟨g', cap, cur, rfl, hb, setOther20 hh (fun e => hg e.symm) _, hn, hm, hs, ht⟩⟩
/-- A byte of a row: where it lies, that it may be written. -/
theorem ByteV.at {B n j : Nat} {v : Value} {W : World} (h : ByteV B v n W) (hj : j < n) : ∃ (g cap : Nat) (x : UInt8) (cur : Array Value), v = .slice (some ⟨g, 0, none⟩) n cap ∧ n ≤ cap ∧ cap ≤ maxLen ∧ B ≤ g ∧ W.heap[g]? = some (.cells cur 5 (0, 0)) ∧ W.cell? ⟨g, j, none⟩ = some (.int .u8 (x.toNat : Int)) ∧ W.frozen? ⟨g, j, none⟩ = false := by
  obtain ⟨bs, h1, h2, h3⟩ := h
  rcases h3 with ⟨_, h4⟩ | ⟨g, cap, cur, rfl, hb, hh, hn, hm, hs, ht⟩
  · omega
  · have hjb : j < bs.length := by omega
    refine ⟨g, cap, bs[j], cur, rfl, hn, hm, hb, hh, ?_, frozen20 hh⟩
    rw [cell20 hh]
    have h5 : (cur.toList.take (n * 1))[j]? = (bs.map u8V)[j]? := by rw [ht]
    rw [List.getElem?_take, if_pos (by omega), List.getElem?_map, List.getElem?_eq_getElem hjb] at h5
    rw [← Array.getElem?_toList]
    exact h5
theorem row_set {W : World} {B sz m g j : Nat} {t : TypeId} {v x : Value} {xs : List Value} {cur : Array Value} (h : W.ownsRow B t sz v m xs) (hg : W.heap[g]? = some (.cells cur 5 (0, 0))) (ht : t ≠ 5) : (W.setCell ⟨g, j, none⟩ x).ownsRow B t sz v m xs := by
  refine h.kept (grown_set W g j x) ?_
  cases hv : v.ownBlock with
  | none => exact .inl rfl
  | some b =>
    refine .inr fun e => ?_
    obtain ⟨c, hc⟩ := own_block h hv
    have e := Option.some.inj e
    subst e
    rw [hg] at hc
    cases hc
    exact ht rfl
theorem blk_set {W : World} {b g j : Nat} {t : TypeId} {x : Value} {cs cur : Array Value} (h : W.heap[b]? = some (.cells cs t (0, 0))) (hg : W.heap[g]? = some (.cells cur 5 (0, 0))) (ht : t ≠ 5) : (W.setCell ⟨g, j, none⟩ x).heap[b]? = some (.cells cs t (0, 0)) := by
  refine setOther20 h (fun e => ?_) x
  subst e
  rw [hg] at h
  cases h
  exact ht rfl
/-- What a round has kept of what is no cells, and of rows of strings. -/
structure KK (W C : World) : Prop where
  o : KeepsOthers W C
  s : KeepTy 9 W C
theorem KK.refl (W : World) : KK W W := ⟨KeepsOthers.refl W, KeepTy.refl W⟩
theorem KK.below {W C D : World} (h : KK W C) (hb : Below C.heap.size C D) : KK W D := ⟨h.o.trans ⟨hb.size, fun k _o hk _ => (hb.block k (Array.getElem?_eq_some_iff.1 hk).1).trans hk⟩, h.s.trans (KeepTy.below hb)⟩
theorem KK.set {W C : World} {g j : Nat} {x : Value} {cur : Array Value} (h : KK W C) (hg : C.heap[g]? = some (.cells cur 5 (0, 0))) : KK W (C.setCell ⟨g, j, none⟩ x) :=
  ⟨h.o.trans (KeepsOthers.setCell _ _ _), h.s.trans (KeepTy.grown (grown_set C g j x) fun r e cs hcs => by cases e; rw [hg] at hcs; simp at hcs)⟩
/-- The law for a range whose loop variable is boxed in slot s. -/
theorem wp_rangeB {P : Program} {α : Type} {g : Operand} {ps : Array Tmp} {assign body : Code} {Q : Exit → Act → World → Prop} {a : Act} {w : World} {gf : Nat} {lb : Array Value} (hg : a.eval g = .func (.func gf) #[] lb) (eg : ∀ args w, (callFunc gf args).run P w = .ok (.enter gf args) w)
    {encs : α → Array Value} {D : α → World → Prop} {Kp : World → World → Prop} {S Sp : List α → Prop} {N : Nat} (hseq : SeqD P gf lb encs D Kp S Sp N w)
    (hKt : ∀ {A B C : World}, Kp A B → Kp B C → Kp A C) (hKb : ∀ (W : World) (l : Nat) (o o' : Obj), w.heap.size ≤ l → W.heap[l]? = some o → o.isCells = false → o.isWalk = false → Kp W (W.putObj l o')) (hps : ∀ x, (encs x).size = ps.size)
    (I : List α → World → Prop) (Ix : Code → List α → World → Prop) (s : Nat) (Rx : List α → α → Nat → World → Prop) (hI : OwnFrom w.heap.size I) (hIx : ∀ c, OwnFrom w.heap.size (Ix c))
    (hRx : OwnFrom w.heap.size (fun (s : List α × α × Nat) W => Rx s.1 s.2.1 s.2.2 W)) (h0 : I [] w)
    (hassign : ∀ (l : Nat) (pre : List α) (x : α) (W : World), w.heap.size < W.heap.size → I pre W → D x W → pre.length < N → assign.wpIn (Fence.wide.inRound l) 2 P (Exit.then (fun a₁ B => KeepsOthers W B ∧ Kp W B ∧ ∃ b, Rx pre x b B ∧ a₁ = { tmps := ((ps.zip (encs x)).foldl (fun t (p, v) => t.setIfInBounds p v) a.tmps).setIfInBounds s (.pointer (some ⟨b, 0, none⟩)), defers := [] }) (fun _ _ _ => False)) { tmps := (ps.zip (encs x)).foldl (fun t (p, v) => t.setIfInBounds p v) a.tmps, defers := [] } W)
    (hbody : ∀ (l : Nat) (pre : List α) (x : α) (b : Nat) (W : World), Rx pre x b W → body.wpIn (Fence.wide.inRound l) 2 P (roundEnd Kp I Ix (pre ++ [x]) W) { tmps := ((ps.zip (encs x)).foldl (fun t (p, v) => t.setIfInBounds p v) a.tmps).setIfInBounds s (.pointer (some ⟨b, 0, none⟩)), defers := [] } W)
    (hdone : ∀ (Dl : Nat) (xs : List α) (W : World), w.heap.size ≤ Dl → S xs → I xs W → W.heap[Dl]? = some (.deferred (some [])) → Q .normal { a with defers := { target := .collected Dl, args := #[] } :: a.defers } W)
    (hstop : ∀ (Dl : Nat) (c : Code) (pre : List α) (W : World), w.heap.size ≤ Dl → Sp pre → Ix c pre W → W.heap[Dl]? = some (.deferred (some [])) → c.wp P Q { a with defers := { target := .collected Dl, args := #[] } :: a.defers } W) :
    (Code.rangeFunc g ps assign body).wp P Q a w := by
  refine wp_rangeD hg eg hseq hKt hKb hps I Ix (fun pre x a₁ W => ∃ b, Rx pre x b W ∧ a₁ = { tmps := ((ps.zip (encs x)).foldl (fun t (p, v) => t.setIfInBounds p v) a.tmps).setIfInBounds s (.pointer (some ⟨b, 0, none⟩)), defers := [] }) hI hIx ?_ h0 hassign ?_ hdone hstop
  · rintro ⟨pre, x, a₁⟩ W W' row ⟨b, h1, h2⟩ hg hr
    exact ⟨b, hRx (pre, x, b) W W' row h1 hg hr, h2⟩
  · rintro l pre x a₁ W ⟨b, h1, rfl⟩
    exact hbody l pre x b W h1
theorem op_row {S : Nat → Prop} {w : World} {a : Option Addr} {c : Nat} {x : POp} (hd : DataAt S w (.slice a x.en.data.length c) x.en.data) (hok : OpOk x) : OpsAt (fun _ => True) (w.alloc (.cells #[.int .i64 x.kind, .string x.en.path, .int .i64 x.en.kind, .int .i64 x.en.mode, .int .i64 x.en.time, .slice a x.en.data.length c, .string x.en.link, .string x.src, .string x.dst, .bool x.below] 32)) (.slice (some ⟨w.heap.size, 0, none⟩) 1 1) [x] := by
  refine ⟨opC (.slice a x.en.data.length c) x, RowAt.weak (row_new (cells := opC (.slice a x.en.data.length c) x) (new20 w _) rfl (by decide)) (fun _ _ => trivial), ⟨opC (.slice a x.en.data.length c) x, [], by simp, ⟨.slice a x.en.data.length c, rfl, ?_, hok⟩, rfl⟩⟩
  exact data_mono (hd.below ((Below.refl _ _).alloc (Nat.le_refl _) _)) (fun _ _ => trivial)
theorem Tryz.appU8 : AppTy Tryz.prog 28 5 1 1 := AppTy.mk' (z := .int .u8 0) Tryz.underlying28 (by kernel_rfl) rfl (by decide) (by decide)
theorem inc_u8 (x : UInt8) : IntKind.u8.wrap ((x.toNat : Int) + 1) = ((x + 1).toNat : Int) := by
  rw [IntKind.wrap_u8, UInt8.toNat_add, show (1 : UInt8).toNat = 1 from rfl]
  have := x.toNat_lt
  omega
theorem ByteV.nil (B : Nat) (W : World) : ByteV B (.slice none 0 0) 0 W := ⟨[], rfl, World.ownsRow_nil _ _ _ _⟩
theorem get_w (S : Nat → Prop) (tb mb : Nat) (L : List Ent) (p : ByteArray) (w : World) (ht : TreeAt S w tb mb L) (hps : p.size ≤ maxLen) :
    Calls Tryz.prog 13 #[.pointer (some ⟨tb, 0, none⟩), .string p] w fun e w' => ∃ (g : Ent) (a : Option Addr) (c : Nat) (ok : Bool), e = .returned (.tuple #[.agg #[.string g.path, .int .i64 g.kind, .int .i64 g.mode, .int .i64 g.time, .slice a g.data.length c, .string g.link], .bool ok]) ∧ g.data.length ≤ c ∧ c ≤ maxLen ∧ ByteV w.heap.size (.slice a g.data.length c) g.data.length w' ∧ Below w.heap.size w w' :=
  (get_any S tb mb L p w ht hps).mono fun e w' ⟨hb, hr⟩ => by
    cases hf : findE L p with
    | none =>
      rw [hf] at hr
      exact ⟨⟨⟨#[]⟩, 0, 0, 0, [], ⟨#[]⟩⟩, none, 0, false, hr, Nat.le_refl _, by decide, ByteV.nil _ _, hb⟩
    | some f =>
      rw [hf] at hr
      obtain ⟨v, rfl, ho⟩ := hr
      obtain ⟨a, c, rfl, h1, h2⟩ := owns_shape ho
      exact ⟨f, a, c, true, rfl, h1, h2, ⟨f.data, rfl, ho⟩, hb⟩
/-- The trees of the law, beside what is written. -/
structure Two (c0 tb tm ub um bx : Nat) (St Su : Nat → Prop) (L : List Ent) (W : World) : Prop where
  t : TreeAt St W tb tm L
  u : TreeAt Su W ub um L
  st : ∀ k, St k → c0 ≤ k
  su : ∀ k, Su k → c0 ≤ k
  box : W.cell? ⟨bx, 0, none⟩ = some (.pointer (some ⟨tb, 0, none⟩))
theorem Two.below {c0 tb tm ub um bx : Nat} {St Su : Nat → Prop} {L : List Ent} {W C : World} (h : Two c0 tb tm ub um bx St Su L W) (hb : Below W.heap.size W C) : Two c0 tb tm ub um bx St Su L C :=
  ⟨h.t.below hb, h.u.below hb, h.st, h.su, (hb.cell (block_lt h.box)).trans h.box⟩
theorem Two.write {c0 tb tm ub um bx g : Nat} {St Su : Nat → Prop} {L : List Ent} {W C : World} (h : Two c0 tb tm ub um bx St Su L W) (hc : tb < c0 ∧ tm < c0 ∧ ub < c0 ∧ um < c0 ∧ bx < c0) (hg : W.grownBy C (some g)) (h0 : c0 ≤ g) (h1 : ¬ St g) (h2 : ¬ Su g) : Two c0 tb tm ub um bx St Su L C :=
  ⟨h.t.other hg (by omega) (by omega) h1, h.u.other hg (by omega) (by omega) h2, h.st, h.su, hg.cell h.box (fun e => by have := Option.some.inj e; simp only at this; omega)⟩
theorem grown_any {W C : World} {row : Option Nat} (h : W.grownBy C row) (hr : row = none) (b : Nat) : W.grownBy C (some b) := ⟨h.os, h.tape, h.output, h.size, fun k hk _ => h.block k hk (by rw [hr]; simp)⟩
theorem Two.writeO {c0 tb tm ub um bx : Nat} {St Su : Nat → Prop} {L : List Ent} {W C : World} {row : Option Nat} (h : Two c0 tb tm ub um bx St Su L W) (hc : tb < c0 ∧ tm < c0 ∧ ub < c0 ∧ um < c0 ∧ bx < c0) (hw : c0 ≤ W.heap.size) (hg : W.grownBy C row) (h0 : ∀ g, row = some g → c0 ≤ g ∧ ¬ St g ∧ ¬ Su g) : Two c0 tb tm ub um bx St Su L C := by
  cases row with
  | none => exact h.write hc (grown_any hg rfl W.heap.size) hw (fun hs => Nat.lt_irrefl _ (h.t.lt _ hs)) (fun hs => Nat.lt_irrefl _ (h.u.lt _ hs))
  | some g => exact h.write hc hg (h0 g rfl).1 (h0 g rfl).2.1 (h0 g rfl).2.2
theorem Two.lt {c0 tb tm ub um bx : Nat} {St Su : Nat → Prop} {L : List Ent} {W : World} (h : Two c0 tb tm ub um bx St Su L W) : (∀ k, St k → k < W.heap.size) ∧ ∀ k, Su k → k < W.heap.size := ⟨h.t.lt, h.u.lt⟩

end Go.Proofs.YtbkhdpocmmjnbaaGreatDoor

/- Contracts of package filetree: Walk's iterator, where rounds write rows that are older than the walk. -/
namespace Go.Proofs.YtbkhdpocmmjnbaaGreatDoor
open Go Go.RowKit Go.Maps
attribute [local go_sem] Oper.semAt_some

/-- What a round keeps of Walk's own: the tree, the box of the tree, and rows of strings. -/
structure WKeep (S : Nat → Prop) (tb mb : Nat) (L : List Ent) (b1 : Nat) (V W : World) : Prop where
  size : V.heap.size ≤ W.heap.size
  tree : TreeAt S V tb mb L → TreeAt S W tb mb L
  cell : ∀ x, Boxed V b1 25 x → Boxed W b1 25 x
  str : KeepTy 9 V W
section
variable {S : Nat → Prop} {tb mb b1 : Nat} {L : List Ent} {A B C : World}
theorem boxed_below {b : Nat} {t : TypeId} {v : Value} (h : Boxed A b t v) (hb : Below A.heap.size A B) : Boxed B b t v := (hb.block b h.lt).trans h
theorem wKeep_t (h : WKeep S tb mb L b1 A B) (k : WKeep S tb mb L b1 B C) : WKeep S tb mb L b1 A C := ⟨Nat.le_trans h.size k.size, fun t => k.tree (h.tree t), fun x hx => k.cell x (h.cell x hx), h.str.trans k.str⟩
theorem wKeep_below (h : Below A.heap.size A B) : WKeep S tb mb L b1 A B := ⟨h.size, fun t => t.below h, fun _ hx => boxed_below hx h, KeepTy.below h⟩
theorem wKeep_grown {r : Nat} (h : A.grownBy B (some r)) (h1 : tb ≠ r) (h2 : mb ≠ r) (h3 : ¬ S r) (hs : ∀ cs t, A.heap[r]? = some (.cells cs t (0, 0)) → t ≠ 9 ∧ t ≠ 25) : WKeep S tb mb L b1 A B :=
  ⟨h.size, fun t => t.other h h1 h2 h3, fun x hx => hx.kept h (fun e => by have := Option.some.inj e; subst this; exact (hs _ _ hx).2 rfl), KeepTy.grown h (fun r' e cs hcs => by cases e; exact (hs cs _ hcs).1 rfl)⟩
theorem wKeep_b {w : World} (ht : TreeAt S w tb mb L) (W : World) (l : Nat) (o o' : Obj) (hl : w.heap.size ≤ l) (h : W.heap[l]? = some o) (hc : o.isCells = false) (_ : o.isWalk = false) : WKeep S tb mb L b1 W (W.putObj l o') := by
  obtain ⟨xs, hm, _⟩ := ht.ents
  have g1 := block_lt ht.cell
  have g2 := hm.map.lt
  simp only at g1
  exact wKeep_grown (grownBy_putObj' W l o') (by omega) (by omega) (fun hs => by have := ht.lt _ hs; omega) (fun cs t hcs => by rw [h] at hcs; cases hcs; cases hc)
/-- What is no entry and no slice of entries lies as it lay. -/
def NotE (o : Obj) : Prop := ∀ (cs : Array Value) (t : TypeId), o = .cells cs t (0, 0) → t ≠ 30 ∧ t ≠ 27
def KeepE (V W : World) : Prop := ∀ (k : Nat) (o : Obj), V.heap[k]? = some o → NotE o → W.heap[k]? = some o
theorem KeepE.refl (V : World) : KeepE V V := fun _ _ h _ => h
theorem KeepE.trans (h : KeepE A B) (k : KeepE B C) : KeepE A C := fun i o hi hn => k i o (h i o hi hn) hn
theorem KeepE.below (h : Below A.heap.size A B) : KeepE A B := fun i _ hi _ => (h.block i (Array.getElem?_eq_some_iff.1 hi).1).trans hi
theorem KeepE.grown {r : Nat} (h : A.grownBy B (some r)) (hs : ∀ o, A.heap[r]? = some o → ¬ NotE o) : KeepE A B := fun i o hi hn => (h.block i (Array.getElem?_eq_some_iff.1 hi).1 (fun e => by have := Option.some.inj e; subst this; exact hs _ hi hn)).trans hi
theorem KeepE.turn {row : Option Nat} (h : KeepE A B) (hg : B.grownBy C row) (hr : ∀ r, row = some r → A.heap.size ≤ r) : KeepE A C := fun i o hi hn => (hg.block i (Array.getElem?_eq_some_iff.1 (h i o hi hn)).1 (fun e => by have h1 := hr i e.symm; have h2 := (Array.getElem?_eq_some_iff.1 hi).1; omega)).trans (h i o hi hn)
theorem not_entry (cs : Array Value) : ¬ NotE (.cells cs 30 (0, 0)) := fun h => (h cs _ rfl).1 rfl
theorem not_entries (cs : Array Value) : ¬ NotE (.cells cs 27 (0, 0)) := fun h => (h cs _ rfl).2 rfl
end
/-- An entry appended to the slice that a box holds. -/
theorem coll_app {S : Nat → Prop} {tb mb b1 B bx g' cap' : Nat} {L : List Ent} {w W w1 : World} {pre : List VEnt} {v : Value} {x : VEnt} {cs : Array Value} (hB : Below B w W) (hBw : B ≤ w.heap.size) (hbx : B ≤ bx) (ht : tb < B ∧ mb < B) (hS : ∀ k, S k → k < B)
    (hv : Boxed W bx 27 v) (hrow : W.ownsRow B 30 6 v pre.length (entsC pre)) (hdat : ∀ y ∈ pre, EntNew B y W) (hD : EntNew B x W)
    (hown : w1.ownsRow B 30 6 (.slice (some ⟨g', 0, none⟩) (pre.length + 1) cap') (pre.length + 1) (entsC pre ++ entC x.1 x.2)) (hgrow : (W.alloc (.cells cs 30)).grownBy w1 v.ownBlock) :
    KeepsOthers W (w1.setCell ⟨bx, 0, none⟩ (.slice (some ⟨g', 0, none⟩) (pre.length + 1) cap')) ∧ WKeep S tb mb L b1 W (w1.setCell ⟨bx, 0, none⟩ (.slice (some ⟨g', 0, none⟩) (pre.length + 1) cap')) ∧
      CollI B bx w (pre ++ [x]) (w1.setCell ⟨bx, 0, none⟩ (.slice (some ⟨g', 0, none⟩) (pre.length + 1) cap')) ∧ KeepE W (w1.setCell ⟨bx, 0, none⟩ (.slice (some ⟨g', 0, none⟩) (pre.length + 1) cap')) := by
  have hwW : B ≤ W.heap.size := Nat.le_trans hBw hB.size
  obtain ⟨hv1, hv2, hr2, hk2, hb2⟩ := hv.appended (by decide) hrow hwW hbx hown hgrow
  have hbw : Below W.heap.size W (W.alloc (.cells cs 30)) := (Below.refl _ _).alloc (Nat.le_refl _) _
  have key : ∀ y : VEnt, EntNew B y W → EntNew B y (w1.setCell ⟨bx, 0, none⟩ (.slice (some ⟨g', 0, none⟩) (pre.length + 1) cap')) := fun y hy => by
    have k1 := own_below hy.1 hbw
    have k2 := k1.kept hgrow (own_apart k1 (own_below hrow hbw) (by decide))
    exact ⟨k2.kept (grownBy_setCell' w1 _ _) (.inr (hv1.not_row (by decide) k2).symm), hy.2⟩
  have hrw := own_below hrow hbw
  have set1 : ∀ cs t, w1.heap[bx]? = some (.cells cs t (0, 0)) → t = 27 := fun cs t h => by rw [show w1.heap[bx]? = _ from hv1] at h; cases h; rfl
  have bxa := (hv.alloc (.cells cs 30))
  have step : ∃ r, (W.alloc (.cells cs 30)).grownBy w1 (some r) ∧ B ≤ r ∧ ∀ o, (W.alloc (.cells cs 30)).heap[r]? = some o → ∃ cs' t, o = .cells cs' t (0, 0) ∧ (t = 30 ∨ t = 27) := by
    cases hr : v.ownBlock with
    | none => exact ⟨bx, grown_any hgrow hr bx, hbx, fun o ho => by rw [show _ = _ from bxa] at ho; cases ho; exact ⟨_, _, rfl, .inr rfl⟩⟩
    | some r =>
      obtain ⟨cur, hcur⟩ := own_block hrw hr
      exact ⟨r, by rw [← hr]; exact hgrow, (own_lt hrow hr).1, fun o ho => by rw [hcur] at ho; cases ho; exact ⟨_, _, rfl, .inl rfl⟩⟩
  obtain ⟨r, hg1, hrB, hro⟩ := step
  have hg2 := grownBy_setCell' w1 bx (.slice (some ⟨g', 0, none⟩) (pre.length + 1) cap')
  refine ⟨hk2, wKeep_t (wKeep_t (wKeep_below hbw) (wKeep_grown hg1 (by omega) (by omega) (fun h => by have := hS _ h; omega) fun cs' t h => ?_)) (wKeep_grown hg2 (by omega) (by omega) (fun h => by have := hS _ h; omega) fun cs' t h => ?_), ⟨⟨_, hv2, ?_, fun y hy => ?_⟩, hB.trans hb2⟩, ((KeepE.below hbw).trans (KeepE.grown hg1 fun o ho => ?_)).trans (KeepE.grown hg2 fun o ho => ?_)⟩
  · obtain ⟨c2, t2, e2, ht2⟩ := hro _ h
    cases e2
    rcases ht2 with rfl | rfl <;> exact ⟨by decide, by decide⟩
  · rw [set1 _ _ h]
    exact ⟨by decide, by decide⟩
  · rw [List.length_append, List.length_singleton, entsC_snoc]
    exact hr2
  · rcases List.mem_append.1 hy with hy | hy
    · exact key y (hdat y hy)
    · rw [List.mem_singleton] at hy
      rw [hy]
      exact key _ hD
  · obtain ⟨c2, t2, rfl, ht2⟩ := hro _ ho
    rcases ht2 with rfl | rfl
    · exact not_entry _
    · exact not_entries _
  · rw [show w1.heap[bx]? = _ from hv1] at ho
    cases ho
    exact not_entries _
/-- The marks that loops over functions have left. -/
def markOf (D : Nat) : Deferred := { target := .collected D, args := #[] }
structure Marks (B : Nat) (Ds : List Nat) (W : World) : Prop where
  nodup : Ds.Nodup
  open_ : ∀ D ∈ Ds, W.heap[D]? = some (.deferred (some [])) ∧ B ≤ D
theorem Marks.keep {B : Nat} {Ds : List Nat} {V W : World} (h : Marks B Ds V) (hk : KeepE V W) : Marks B Ds W := ⟨h.nodup, fun D hD => ⟨hk D _ (h.open_ D hD).1 (fun cs t e => by cases e), (h.open_ D hD).2⟩⟩
theorem Marks.more {B D : Nat} {Ds : List Nat} {W : World} (h : Marks B Ds W) (hlt : ∀ E ∈ Ds, E < D) (hD : W.heap[D]? = some (.deferred (some []))) (hB : B ≤ D) : Marks B (D :: Ds) W :=
  ⟨List.nodup_cons.2 ⟨fun hm => Nat.lt_irrefl _ (hlt D hm), h.nodup⟩, fun E hE => by
    rcases List.mem_cons.1 hE with rfl | hE
    · exact ⟨hD, hB⟩
    · exact h.open_ E hE⟩
theorem Marks.lt {B : Nat} {Ds : List Nat} {W : World} (h : Marks B Ds W) : ∀ D ∈ Ds, D < W.heap.size := fun D hD => (Array.getElem?_eq_some_iff.1 (h.open_ D hD).1).1
theorem leaves_marks {P : Program} {F : Fence} {n B : Nat} {fn : Func} {tmps : Array Value} {R : Ending → World → Prop} {w : World} (hw : B ≤ w.heap.size) : ∀ (Ds : List Nat) (W : World), Marks w.heap.size Ds W → Below B w W → (∀ W', Below B w W' → LeavesIn F n P fn tmps R [] .returning W') → LeavesInM F n P fn tmps R (Ds.map markOf) .returning W
  | [], W, _, hb, hR => hR W hb
  | D :: Ds, W, hm, hb, hR => by
    have hD := hm.open_ D (List.mem_cons_self ..)
    refine ⟨by simp, .inl ⟨D, _, rfl, run_takeDeferred hD.1, ?_⟩⟩
    refine leaves_marks hw Ds _ ⟨(List.nodup_cons.1 hm.nodup).2, fun E hE => ⟨?_, (hm.open_ E (List.mem_cons_of_mem _ hE)).2⟩⟩ (hb.trans (belowK_b hw W D _ _ hD.2 hD.1 rfl rfl)) hR
    have hne : E ≠ D := fun e => (List.nodup_cons.1 hm.nodup).1 (e ▸ hE)
    exact ((grownBy_putObj' W D (.deferred none)).block E (Array.getElem?_eq_some_iff.1 (hm.open_ E (List.mem_cons_of_mem _ hE)).1).1 (fun e => hne (Option.some.inj e))).trans (hm.open_ E (List.mem_cons_of_mem _ hE)).1
set_option maxRecDepth 100000 in
set_option maxHeartbeats 2000000 in
theorem walk_seq2 (S : Nat → Prop) (tb mb : Nat) (L : List Ent) (p : ByteArray) (b1 b2 : Nat) (w : World) (ht : TreeAt S w tb mb L) (hps : p.size ≤ maxLen) (h1 : Boxed w b1 25 (.pointer (some ⟨tb, 0, none⟩))) (h2 : w.cell? ⟨b2, 0, none⟩ = some (.string p)) :
    SeqD Tryz.prog 40 #[.pointer (some ⟨b1, 0, none⟩), .pointer (some ⟨b2, 0, none⟩)] (fun x : VEnt => #[entV x.1 x.2]) (EntNew w.heap.size) (WKeep S tb mb L b1) (fun xs => xs.map Prod.snd = atP L p) (fun pre => ∃ k, pre.map Prod.snd = (atP L p).take k) 4096 w := by
  intro l J Jx W hbW hJ hY h0
  have HBW := Lib.hid hbW
  have HT := Lib.hid ht
  have HPS := Lib.hid hps
  have HJ := Lib.hid hJ
  have HY := Lib.hid hY
  have H0 := Lib.hid h0
  have k1 := (boxed_below h1 hbW).cell
  have k2 := (hbW.cell (block_lt h2)).trans h2
  have HK1 := Lib.hid (boxed_below h1 hbW)
  obtain ⟨n, hn⟩ : ∃ n, n = (pathsM L p).length := ⟨_, rfl⟩
  have hn2 : n = (atP L p).length := by rw [hn]; unfold pathsM; rw [List.length_map]
  have hn4 : n ≤ 4096 := by
    rw [hn2]
    have := List.length_filter_le (fun e => inB p e && (decide (p.size = 0) || (findE L p).isSome)) L
    unfold atP
    have := ht.ok.len
    omega
  have HN := Lib.hid hn
  have HN2 := Lib.hid hn2
  clear ht hps hJ hY h0 hbW h2 hn hn2
  refine callsIn_wide.2 ?_
  show Calls Tryz.prog 40 #[.func (.yield l) #[] #[], .pointer (some ⟨b1, 0, none⟩), .pointer (some ⟨b2, 0, none⟩)] W _
  go_enter Tryz.func40, Tryz.ntmps40
  go_wp2_with fail
  refine (paths_any S tb mb L p _ (HT.out.below HBW.out) HPS.out).mono ?_
  rintro e w5 ⟨v5, rfl, ho5, hb5⟩
  rw [← HN.out] at ho5
  obtain ⟨a5, c5, rfl, hn5, hm5⟩ := owns_shape ho5
  have HO5 := Lib.hid ho5
  have HB5 := Lib.hid hb5
  unfold maxLen at hm5
  clear ho5 hb5 k1 k2
  go_wp2_with fail
  go_loopw [12] (fun i wr => ∃ (k : Nat) (pre : List VEnt), k ≤ n ∧ i = .int .i64 k ∧ pre.map Prod.snd = (atP L p).take k ∧ J pre wr ∧ (W.heap.size ≤ wr.heap.size ∧ TreeAt S wr tb mb L ∧ Boxed wr b1 25 (.pointer (some ⟨tb, 0, none⟩))) ∧ wr.ownsRow W.heap.size 9 1 (.slice a5 n c5) n ((pathsM L p).map Value.string)) (fun i _ => n - (intOf i).toNat)
  case atStart => exact ⟨0, [], Nat.zero_le _, rfl, by simp, HJ.out _ _ _ H0.out HB5.out, ⟨HB5.out.size, (HT.out.below HBW.out).below HB5.out, boxed_below HK1.out HB5.out⟩, HO5.out⟩
  case round =>
    obtain ⟨k, pre, hk, rfl, hpre, hJk, hbr, hown⟩ := hrel
    have HPRE := Lib.hid hpre
    have HJK := Lib.hid hJk
    have HBR := Lib.hid hbr
    have HOWN := Lib.hid hown
    have HTR := Lib.hid hbr.2.1
    obtain ⟨xs, hm0, hperm⟩ := hbr.2.1.ents
    have HM := Lib.hid hm0
    have HPERM := Lib.hid hperm
    clear hpre hJk hbr hown hm0 hperm
    by_cases hlt : k < n
    · have hla : k < (atP L p).length := by rw [← HN2.out]; exact hlt
      obtain ⟨e, hat⟩ : ∃ e, (atP L p)[k]? = some e := ⟨_, List.getElem?_eq_getElem hla⟩
      have HAT := Lib.hid hat
      have heL := atP_sub e (List.mem_of_getElem? hat)
      have HVE := Lib.hid (HT.out.ok.val e heL)
      obtain ⟨v, hv⟩ := find_vent (HPERM.out.symm.subset heL)
      obtain ⟨hd0, hok0⟩ := HM.out.dat _ hv
      simp only at hd0 hok0
      obtain ⟨a1, cap1, rfl, hd1, hd2⟩ := hd0.slice
      have HD0 := Lib.hid hd0
      have HOK0 := Lib.hid hok0
      have hlk := HM.out.hit mapTy hv true
      have hcl := HTR.out.cell
      have hltb := block_lt hcl
      have hk1 := HBR.out.2.2.cell
      have hlk1 := block_lt hk1
      simp only at hltb hlk1
      unfold entV at hlk
      simp only [if_true] at hlk
      unfold maxLen at hd2
      obtain ⟨_, a3, c3, he3, _, _, h03⟩ := row_of_owns HOWN.out
      simp only [Value.slice.injEq] at he3
      obtain ⟨rfl, -, rfl⟩ := he3
      rcases h03 with h03 | ⟨b, o, rfl, -, hcc⟩
      · omega
      have hcq := hcc k (.string e.path) (by unfold pathsM; rw [List.getElem?_map, List.getElem?_map, hat]; rfl)
      clear hat hcc hla heL hv hd0 hok0
      go_upto_region 4 with (fail)
      obtain ⟨W4, hW4⟩ : ∃ W4, W4 = wr.alloc (.cells #[.string e.path, .int .i64 e.kind, .int .i64 e.mode, .int .i64 e.time, .slice a1 e.data.length cap1, .string e.link] 30) := ⟨_, rfl⟩
      rw [← hW4]
      have HX := Lib.hid (show W4.heap[wr.heap.size]? = some (.cells #[.string e.path, .int .i64 e.kind, .int .i64 e.mode, .int .i64 e.time, .slice a1 e.data.length cap1, .string e.link] 30 (0, 0)) by rw [hW4]; exact new20 wr _)
      have HWL := Lib.hid (show Below wr.heap.size wr W4 by rw [hW4]; exact (Below.refl _ _).alloc (Nat.le_refl _) _)
      clear hW4 hlk hcl hcq hk1
      have c0 := cell20 (k := 0) HX.out
      have c1 := cell20 (k := 1) HX.out
      have c2 := cell20 (k := 2) HX.out
      have c3 := cell20 (k := 3) HX.out
      have c4 := cell20 (k := 4) HX.out
      have c5 := cell20 (k := 5) HX.out
      simp only [List.getElem?_toArray, List.getElem?_cons_succ, List.getElem?_cons_zero] at c0 c1 c2 c3 c4 c5
      refine (wpIn_wide (n := 3)).1 ?_
      gi_wp2_with (refine ⟨trivial, ?_⟩; gi_at_call 32; refine (callsIn_wide.2 (copied_flat S e _ _ (HD0.out.below HWL.out) (vEnt_data HVE.out))).mono ?_; rintro e5 w6 ⟨a', cap', rfl, ho6, hb6⟩; have HB6 := Lib.hid (HWL.out.trans (hb6.mono HWL.out.size)); obtain ⟨fn, tmps, assign, body, hy, hR⟩ := HY.out pre (.slice a' e.data.length cap', e) w6 (HJ.out _ _ _ HJK.out HB6.out) ⟨owns_le20 ho6 (Nat.le_trans HBW.out.size (Nat.le_trans HBR.out.1 HWL.out.size)), HOK0.out⟩ (by have h1 := congrArg List.length HPRE.out; rw [List.length_map, List.length_take] at h1; omega); simp only [entV] at hy; have HO6 := Lib.hid ho6; clear ho6 hb6 c0 c1 c2 c3 c4 c5)
      refine hR.mono ?_
      rintro e6 w7 (⟨rfl, hj7, hk7⟩ | ⟨rfl, hj7⟩)
      · have HJ7 := Lib.hid hj7
        have HK7 := Lib.hid hk7
        have HBR6 := Lib.hid (wKeep_t (wKeep_below (S := S) (tb := tb) (mb := mb) (L := L) (b1 := b1) HB6.out) HK7.out)
        clear hj7 hk7 hy hR
        gi_wp2
        go_wp2_with fail
        go_roundw
        case rel =>
          refine ⟨k + 1, pre ++ [(.slice a' e.data.length cap', e)], by omega, by go_num, ?_, HJ7.out, ⟨Nat.le_trans HBR.out.1 HBR6.out.size, HBR6.out.tree HTR.out, HBR6.out.cell _ HBR.out.2.2⟩, HBR6.out.str.own HOWN.out⟩
          rw [List.take_add_one, HAT.out, List.map_append, HPRE.out]; rfl
        case measure => simp [intOf]; omega
      · have HJ7 := Lib.hid hj7
        clear hj7 hy hR
        gi_wp2
        go_wp2_with fail
        refine bodyPost_ret (results_none rfl _ _ _) rfl ?_
        refine ⟨⟨_, rfl⟩, .inr ⟨_, ⟨k + 1, ?_⟩, HJ7.out⟩⟩
        rw [List.take_add_one, HAT.out, List.map_append, HPRE.out]; rfl
    · have hk2 : k = n := by omega
      go_wp2_with fail
      go_end0
      refine ⟨⟨_, rfl⟩, .inl ⟨pre, ?_, HJK.out⟩⟩
      rw [HPRE.out, hk2, HN2.out, List.take_length]

end Go.Proofs.YtbkhdpocmmjnbaaGreatDoor

/- The plain law of FiletreeSums, and what its loops keep. -/
namespace Go.Proofs.YtbkhdpocmmjnbaaGreatDoor
open Go Go.RowKit Go.Maps

theorem walk_any2 (tb : Nat) (p : ByteArray) (w : World) : Calls Tryz.prog 21 #[.pointer (some ⟨tb, 0, none⟩), .string p] w fun e w' => e = .returned (.func (.func 40) #[] #[.pointer (some ⟨w.heap.size, 0, none⟩), .pointer (some ⟨w.heap.size + 1, 0, none⟩)]) ∧
    Boxed w' w.heap.size 25 (.pointer (some ⟨tb, 0, none⟩)) ∧ w'.cell? ⟨w.heap.size + 1, 0, none⟩ = some (.string p) ∧ Below w.heap.size w w' ∧ w'.heap.size = w.heap.size + 2 := by
  go_enter Tryz.func21, Tryz.ntmps21
  go_wp2_with fail
  go_ret
  exact ⟨rfl, (Boxed.new w _ _).alloc _, cell20 (new20b w _ _), ((Below.refl _ _).alloc (Nat.le_refl _) _).alloc (by simp) _, by simp⟩
/-- What the first kids bring together. -/
def kidsAt (L : List Ent) (d : ByteArray) (k : Nat) : List Ent := ((kidsE L d).take k).flatMap fun e => atP L e.path
theorem kidsAt_zero (L : List Ent) (d : ByteArray) : kidsAt L d 0 = [] := rfl
theorem kidsAt_step {L : List Ent} {d : ByteArray} {k : Nat} {e : Ent} (h : (kidsE L d)[k]? = some e) : kidsAt L d (k + 1) = kidsAt L d k ++ atP L e.path := by
  unfold kidsAt
  rw [List.take_add_one, h, List.flatMap_append]
  simp
theorem kidsAt_all {L : List Ent} (h : TOk L) {d : ByteArray} (hd : dirE L (bl d) = 0) : (findE L d).toList ++ kidsAt L d (kidsE L d).length = atP L d := by
  unfold kidsAt
  rw [List.take_length, sums_at h hd]
theorem kidsAt_split {L : List Ent} (h : TOk L) {d : ByteArray} (hd : dirE L (bl d) = 0) (k : Nat) : ∃ r, atP L d = (findE L d).toList ++ (kidsAt L d k ++ r) := by
  refine ⟨((kidsE L d).drop k).flatMap fun e => atP L e.path, ?_⟩
  rw [sums_at h hd]
  unfold kidsAt
  rw [← List.flatMap_append, List.take_append_drop]
theorem at_len {L : List Ent} (h : TOk L) (d : ByteArray) : (atP L d).length ≤ 4096 := by
  have := List.length_filter_le (fun e => inB d e && (decide (d.size = 0) || (findE L d).isSome)) L
  unfold atP
  have := h.len
  omega
theorem cnt_le {L : List Ent} (h : TOk L) (d : ByteArray) : (cntL (atP L d)).files ≤ 4096 ∧ (cntL (atP L d)).dirs ≤ 4096 ∧ (cntL (atP L d)).links ≤ 4096 ∧ (cntL (atP L d)).bytes ≤ 4294967296 := by
  have h1 := cK_le h d (atP L d).length (Nat.le_refl _)
  unfold cK at h1
  rw [List.take_length] at h1
  have := at_len h d
  omega
/-- A part of a sum is small. -/
theorem kids_small {L : List Ent} (h : TOk L) {d : ByteArray} (hd : dirE L (bl d) = 0) (k : Nat) : (cntL (kidsAt L d k)).files ≤ 4096 ∧ (cntL (kidsAt L d k)).dirs ≤ 4096 ∧ (cntL (kidsAt L d k)).links ≤ 4096 ∧ (cntL (kidsAt L d k)).bytes ≤ 4294967296 ∧ ((findE L d).toList ++ kidsAt L d k).length ≤ 4096 := by
  obtain ⟨r, hr⟩ := kidsAt_split h hd k
  have h1 := cnt_le h d
  have h2 := at_len h d
  rw [hr] at h2
  rw [hr, cnt_app, cnt_app] at h1
  simp only [addC, List.length_append] at h1 h2 ⊢
  omega
theorem kids_sum {L : List Ent} (h : TOk L) {d : ByteArray} (hd : dirE L (bl d) = 0) : cntL (atP L d) = ⟨(cntL (kidsAt L d (kidsE L d).length)).files, (cntL (kidsAt L d (kidsE L d).length)).dirs + (if d.size = 0 then 0 else 1), (cntL (kidsAt L d (kidsE L d).length)).links, (cntL (kidsAt L d (kidsE L d).length)).bytes⟩ := by
  rw [← kidsAt_all h hd, cnt_app, self_cnt h hd]
  simp only [addC, Cnt.mk.injEq]
  omega
theorem kid_path {L : List Ent} {d : ByteArray} {e : Ent} (h : e ∈ kidsE L d) : (⟨(parentL (bl e.path)).toArray⟩ : ByteArray) = d := by
  rw [(mem_kids.1 h).2]
  exact bl_inj (by simp [bl])
theorem entOk_of {S : Nat → Prop} {w : World} {tb mb : Nat} {L : List Ent} (h : TreeAt S w tb mb L) {e : Ent} (he : e ∈ L) : EntOk e := by
  obtain ⟨xs, hm, hp⟩ := h.ents
  obtain ⟨v, hv⟩ := find_vent (hp.symm.subset he)
  exact (hm.dat _ hv).2
/-- What the loops of the law keep. -/
structure SumK (w6 : World) (bx sb : Nat) (c : Cnt) (Ds : List Nat) (B0 : Nat) (pre : List VEnt) (W : World) : Prop where
  coll : CollI w6.heap.size bx w6 pre W
  sum : W.heap[sb]? = some (.cells #[.int .i64 c.files, .int .i64 c.dirs, .int .i64 c.links, .int .i64 c.bytes] 48 (0, 0))
  marks : Marks B0 Ds W
theorem SumK.below {w6 : World} {bx sb B0 : Nat} {c : Cnt} {Ds : List Nat} {pre : List VEnt} {W C : World} (h : SumK w6 bx sb c Ds B0 pre W) (hw : w6.heap.size ≤ W.heap.size) (hb : Below W.heap.size W C) : SumK w6 bx sb c Ds B0 pre C := by
  obtain ⟨⟨v, h1, h2, h3⟩, h4⟩ := h.coll
  exact ⟨⟨⟨v, boxed_below h1 hb, own_below h2 hb, fun y hy => ⟨own_below (h3 y hy).1 hb, (h3 y hy).2⟩⟩, h4.trans (hb.mono hw)⟩, (hb.block sb (lt20 h.sum)).trans h.sum, h.marks.keep (KeepE.below hb)⟩
theorem SumK.step {w6 : World} {bx sb B0 : Nat} {c : Cnt} {Ds : List Nat} {pre pre' : List VEnt} {W C : World} (h : SumK w6 bx sb c Ds B0 pre W) (hc : CollI w6.heap.size bx w6 pre' C) (hk : KeepE W C) : SumK w6 bx sb c Ds B0 pre' C :=
  ⟨hc, hk sb _ h.sum (fun cs t e => by cases e; exact ⟨by decide, by decide⟩), h.marks.keep hk⟩
theorem CollI.other {B bx sb j : Nat} {w W : World} {pre : List VEnt} {x : Value} {cs : Array Value} (h : CollI B bx w pre W) (hs : W.heap[sb]? = some (.cells cs 48 (0, 0))) (hB : B ≤ sb) : CollI B bx w pre (W.setCell ⟨sb, j, none⟩ x) := by
  obtain ⟨⟨v, h1, h2, h3⟩, h4⟩ := h
  have hg := grown_set W sb j x
  have ne : ∀ {b t} {c : Array Value}, W.heap[b]? = some (.cells c t (0, 0)) → t ≠ 48 → b ≠ sb := fun hb ht e => by subst e; rw [hs] at hb; cases hb; exact ht rfl
  have own : ∀ {t sz m} {u : Value} {xs : List Value}, W.ownsRow B t sz u m xs → t ≠ 48 → (W.setCell ⟨sb, j, none⟩ x).ownsRow B t sz u m xs := fun ho ht => ho.kept hg (by
    cases hv : Value.ownBlock _ with
    | none => exact .inl rfl
    | some b =>
      obtain ⟨c, hc⟩ := own_block ho hv
      exact .inr (fun e => ne hc ht (Option.some.inj e)))
  exact ⟨⟨v, h1.kept hg (fun e => ne h1 (by decide) (Option.some.inj e)), own h2 (by decide), fun y hy => ⟨own (h3 y hy).1 (by decide), (h3 y hy).2⟩⟩, below_set20 h4 hB⟩
theorem SumK.set4 {w6 : World} {bx sb B0 : Nat} {c c' : Cnt} {Ds : List Nat} {pre : List VEnt} {W : World} {y0 y1 y2 y3 : Value} (h : SumK w6 bx sb c Ds B0 pre W) (hs : w6.heap.size ≤ sb) (e0 : y0 = .int .i64 c'.files) (e1 : y1 = .int .i64 c'.dirs) (e2 : y2 = .int .i64 c'.links) (e3 : y3 = .int .i64 c'.bytes) :
    SumK w6 bx sb c' Ds B0 pre ((((W.setCell ⟨sb, 0, none⟩ y0).setCell ⟨sb, 1, none⟩ y1).setCell ⟨sb, 2, none⟩ y2).setCell ⟨sb, 3, none⟩ y3) := by
  subst e0 e1 e2 e3
  have s0 := set20 (k := 0) h.sum (.int .i64 c'.files)
  have s1 := set20 (k := 1) s0 (.int .i64 c'.dirs)
  have s2 := set20 (k := 2) s1 (.int .i64 c'.links)
  have s3 := set20 (k := 3) s2 (.int .i64 c'.bytes)
  refine ⟨(((h.coll.other h.sum hs).other s0 hs).other s1 hs).other s2 hs, by simpa using s3, h.marks.nodup, fun D hD => ⟨?_, (h.marks.open_ D hD).2⟩⟩
  have h1 := (h.marks.open_ D hD).1
  have hne : D ≠ sb := fun e => by subst e; rw [h.sum] at h1; cases h1
  exact setOther20 (setOther20 (setOther20 (setOther20 h1 hne _) hne _) hne _) hne _
theorem SumK.set1 {w6 : World} {bx sb B0 : Nat} {c : Cnt} {Ds : List Nat} {pre : List VEnt} {W : World} {y1 : Value} (h : SumK w6 bx sb c Ds B0 pre W) (hs : w6.heap.size ≤ sb) (e1 : y1 = .int .i64 (c.dirs + 1)) :
    SumK w6 bx sb ⟨c.files, c.dirs + 1, c.links, c.bytes⟩ Ds B0 pre (W.setCell ⟨sb, 1, none⟩ y1) := by
  subst e1
  have s1 := set20 (k := 1) h.sum (.int .i64 (c.dirs + 1))
  refine ⟨h.coll.other h.sum hs, by simpa using s1, h.marks.nodup, fun D hD => ⟨?_, (h.marks.open_ D hD).2⟩⟩
  have h1 := (h.marks.open_ D hD).1
  have hne : D ≠ sb := fun e => by subst e; rw [h.sum] at h1; cases h1
  exact setOther20 h1 hne _
theorem arr_range (a : Array Value) {n : Nat} (h : a.size = n) : a = ((List.range n).map fun i => a.getD i undef).toArray := by
  subst h
  apply Array.ext
  · simp
  · intro i h1 h2
    simp [h1]
/-- A frame of the law, slot by slot. -/
theorem frame149 (a : Array Value) (h : a.size = 149) : ∃ u : Nat → Value, (∀ i x, a[i]? = some x → u i = x) ∧ a = #[u 0, u 1, u 2, u 3, u 4, u 5, u 6, u 7, u 8, u 9, u 10, u 11, u 12, u 13, u 14, u 15, u 16, u 17, u 18, u 19, u 20, u 21, u 22, u 23, u 24, u 25, u 26, u 27, u 28, u 29, u 30, u 31, u 32, u 33, u 34, u 35, u 36, u 37, u 38, u 39, u 40, u 41, u 42, u 43, u 44, u 45, u 46, u 47, u 48, u 49, u 50, u 51, u 52, u 53, u 54, u 55, u 56, u 57, u 58, u 59, u 60, u 61, u 62, u 63, u 64, u 65, u 66, u 67, u 68, u 69, u 70, u 71, u 72, u 73, u 74, u 75, u 76, u 77, u 78, u 79, u 80, u 81, u 82, u 83, u 84, u 85, u 86, u 87, u 88, u 89, u 90, u 91, u 92, u 93, u 94, u 95, u 96, u 97, u 98, u 99, u 100, u 101, u 102, u 103, u 104, u 105, u 106, u 107, u 108, u 109, u 110, u 111, u 112, u 113, u 114, u 115, u 116, u 117, u 118, u 119, u 120, u 121, u 122, u 123, u 124, u 125, u 126, u 127, u 128, u 129, u 130, u 131, u 132, u 133, u 134, u 135, u 136, u 137, u 138, u 139, u 140, u 141, u 142, u 143, u 144, u 145, u 146, u 147, u 148] := by
  refine ⟨fun i => a.getD i undef, fun i x hx => by simp [Array.getD_eq_getD_getElem?, hx], (arr_range a h).trans ?_⟩
  kernel_rfl
end Go.Proofs.YtbkhdpocmmjnbaaGreatDoor

/- A region that draws its order, inside a round of a range over a function: the segments of the text's order serve there too. -/
namespace Go.Proofs.YtbkhdpocmmjnbaaGreatDoor
open Go

section
variable {P : Program} {ops : Array Oper} {md : Region.Mode} {Q : Exit → Act → World → Prop} {n l : Nat}
theorem rows_in {row : String} {args : Array Value} {w : World} {R : Value → World → Prop} (h : Go.Rows P row args w R) : Go.RowsIn (Fence.wide.inRound l) n P row args w R :=
  fun c cs _ => let ⟨v, w', r, s⟩ := h c cs; ⟨v, w', r, stepsIn_wide.2 s⟩
theorem op_in {o : Oper} {a : Act} {w : World} {K : Act → World → Prop} (hd : ∀ c, o.op ≠ .defer c) (h : o.wp P a w K Q) : o.wpIn (Fence.wide.inRound l) n P a w K Q := by
  refine ⟨fun _ _ => trivial, ?_⟩
  rw [Oper.semAt_eq _ _ _ hd]
  unfold Oper.wp at h
  generalize (execOp a.eval o).run P w = r at h
  cases r with
  | ok x w' =>
    cases x with
    | enter f args => exact ⟨(fun e => by cases e), CallsIn.inRound l (callsIn_wide.2 h)⟩
    | row row args => exact ⟨(fun e => by cases e), rows_in h⟩
    | value v => exact h
    | skip => exact h
    | defer d => exact h
    | _ => exact h.elim
  | halt x w' => cases x <;> exact h
theorem wpOp_in {i : Nat} {a : Act} {w : World} {K : Act → World → Prop} (hd : ∀ (i : Nat) (o : Oper) c, ops[i]? = some o → o.op ≠ .defer c) (hq : ¬ LetsOut Q) (h : wpOp P ops Q i K a w) : wpOpIn (Fence.wide.inRound l) n P ops Q i K a w := by
  unfold wpOp at h
  unfold wpOpIn
  split
  · rename_i ho
    simp only [ho] at h
    exact h
  · rename_i o ho
    simp only [ho] at h
    split
    · rename_i hw
      simp only [hw, if_true] at h
      exact op_in (fun c => hd i o c ho) (h.resolve_right fun h2 => hq h2.2)
    · rename_i hw
      simp only [hw] at h
      exact ⟨fun _ _ => trivial, h⟩
theorem wpAny_in (hd : ∀ (i : Nat) (o : Oper) c, ops[i]? = some o → o.op ≠ .defer c) (hq : ¬ LetsOut Q) : ∀ (fuel : Nat) (listed : Array Bool) (a : Act) (w : World), wpAny P md ops Q fuel listed a w → wpAnyIn (Fence.wide.inRound l) n P md ops Q fuel listed a w
  | 0, _, _, _, h => h
  | fuel + 1, _, _, _, h => ⟨h.1, fun i hi => wpOpIn_mono (fun a w h' => wpAny_in hd hq fuel _ a w h') (wpOp_in hd hq (h.2 i hi))⟩
def noDefer (ops : Array Oper) : Bool := ops.toList.all fun o => match o.op with | .defer _ => false | _ => true
theorem noDefer_spec (h : noDefer ops = true) (i : Nat) (o : Oper) (ho : ops[i]? = some o) : ∀ c, o.op ≠ .defer c := fun c e => by
  have h1 := List.all_eq_true.1 h o (List.mem_of_getElem? (by simpa using ho))
  rw [e] at h1
  cases h1
theorem wpIn_region_segs {id : Nat} {a : Act} {w : World} {L : List Oper} (s : List (Option Nat)) (hm : P.follows .mixedOrders = true) (hsel : Region.noSelect L.toArray = true) (hnd : noDefer L.toArray = true) (hq : ¬ LetsOut Q)
    (hB : segsB .any L.toArray s 0 (Array.replicate L.toArray.size false) = true) (h : wpSegs P L.toArray Q s L a w.drew) : (Code.region id L.toArray true).wpIn (Fence.wide.inRound l) n P Q a w := by
  refine wpIn_region_any hm ?_
  have := wpAny_of_segs (md := .any) (P := P) (Q := Q) hsel s L 0 _ a w.drew (by simp) hB h
  exact wpAny_in (fun i o c ho => noDefer_spec hnd i o ho c) hq _ _ _ _ (by simpa using this)
end

end Go.Proofs.YtbkhdpocmmjnbaaGreatDoor

/- The law FiletreeReads: its walk. -/
namespace Go.Proofs.YtbkhdpocmmjnbaaGreatDoor
open Go Go.RowKit Go.Maps
attribute [local go_sem] Oper.semAt_some





theorem reads_res {tmps : Array Value} {w : World} {b : Nat} {r : Bool} (h : w.heap[b]? = some (.cells #[.bool r] 4 (0, 0))) (h6 : tmps[6]? = some (.pointer (some ⟨b, 0, none⟩))) : (results Tryz.f4 tmps).run Tryz.prog w = .ok (.bool r) w := by
  have m0 := cell20 (k := 0) h
  simp only [List.getElem?_toArray, List.getElem?_cons_zero] at m0
  simp [results, Tryz.results4, go_sem, h6, m0]
theorem doP_ok {L : List Ent} (h : TOk L) (x : POp) : TOk (doP L x).1 := by
  unfold doP
  split
  · exact putP_ok h _
  · split
    · exact removeP_ok h _ _
    · split
      · exact moveP_ok h _ _
      · exact h
theorem box_set {W : World} {b : Nat} {x : Value} {t : TypeId} (h : W.heap[b]? = some (.cells #[x] t (0, 0))) (y : Value) : (W.setCell ⟨b, 0, none⟩ y).heap[b]? = some (.cells #[y] t (0, 0)) := by simpa using set20 (k := 0) h y
/-- What the law's loop over the walk keeps. -/
structure RdI (T : Nat → Prop) (b5 b6 b22 b23 : Nat) (vb : Value) (M : List Ent) (st : Int) (w : World) (r : Bool) (q : Nat) (W : World) : Prop where
  s : W.heap[b5]? = some (.cells #[.int .i64 st] 3 (0, 0))
  r : W.heap[b6]? = some (.cells #[.bool r] 4 (0, 0))
  l : W.heap[b22]? = some (.cells #[vb] 27 (0, 0))
  c : W.heap[b23]? = some (.cells #[.int .i64 q] 3 (0, 0))
  m : EntsAt T W vb M
  b : Below w.heap.size w W
theorem ents_gro {S : Nat → Prop} {w w' : World} {row : Option Nat} {v : Value} {l : List Ent} {z : Nat} (h : EntsAt S w v l) (hf : ∀ r, row = some r → ¬ S r) (hz : ¬ S z) (hg : w.grownBy w' row) : EntsAt S w' v l := by
  cases row with
  | none => exact ents_gr (b := z) h hz ⟨hg.os, hg.tape, hg.output, hg.size, fun k hk _ => hg.block k hk (fun e => by cases e)⟩
  | some r => exact ents_gr h (hf r rfl) hg
section
variable {T : Nat → Prop} {b5 b6 b22 b23 : Nat} {vb : Value} {M : List Ent} {st : Int} {w W C : World} {r : Bool} {q : Nat}
theorem RdI.turn {row : Option Nat} {Z : Nat} (h : RdI T b5 b6 b22 b23 vb M st w r q W) (hT : ∀ k, T k → k < Z ∧ k ≠ b23) (h5 : b5 < Z) (h6 : b6 < Z) (h22 : b22 < Z) (h23 : b23 < Z) (hw : w.heap.size ≤ Z) (hg : W.grownBy C row) (hr : ∀ x, row = some x → Z ≤ x) : RdI T b5 b6 b22 b23 vb M st w r q C := by
  have key : ∀ {b : Nat} {o : Obj}, b < Z → W.heap[b]? = some o → C.heap[b]? = some o := fun hb ho => (hg.block _ (lt20 ho) (fun e => by have := hr _ e.symm; omega)).trans ho
  exact ⟨key h5 h.s, key h6 h.r, key h22 h.l, key h23 h.c, ents_gro (z := b23) h.m (fun x e hx => by have := hr x e; have := (hT x hx).1; omega) (fun hx => (hT _ hx).2 rfl) hg, h.b.grown hg h.b.size (fun k e => by have := hr k e; omega)⟩
theorem RdI.below (h : RdI T b5 b6 b22 b23 vb M st w r q W) (hb : Below W.heap.size W C) : RdI T b5 b6 b22 b23 vb M st w r q C := by
  have key : ∀ {b : Nat} {o : Obj}, W.heap[b]? = some o → C.heap[b]? = some o := fun ho => (hb.block _ (lt20 ho)).trans ho
  exact ⟨key h.s, key h.r, key h.l, key h.c, h.m.below hb, below_next h.b hb⟩
theorem RdI.count (h : RdI T b5 b6 b22 b23 vb M st w r q W) (hT : ¬ T b23) (h5 : b5 ≠ b23) (h6 : b6 ≠ b23) (h22 : b22 ≠ b23) (hw : w.heap.size ≤ b23) (q' : Nat) : RdI T b5 b6 b22 b23 vb M st w r q' (W.setCell ⟨b23, 0, none⟩ (.int .i64 q')) :=
  ⟨setOther20 h.s h5 _, setOther20 h.r h6 _, setOther20 h.l h22 _, box_set h.c _, ents_gr h.m hT (grown_st W b23 0 _), below_set20 h.b hw⟩
theorem RdI.answer (h : RdI T b5 b6 b22 b23 vb M st w r q W) (hT : ¬ T b6) (h5 : b5 ≠ b6) (h22 : b22 ≠ b6) (h23 : b23 ≠ b6) (hw : w.heap.size ≤ b6) (r' : Bool) : RdI T b5 b6 b22 b23 vb M st w r' q (W.setCell ⟨b6, 0, none⟩ (.bool r')) :=
  ⟨setOther20 h.s h5 _, box_set h.r _, setOther20 h.l h22 _, setOther20 h.c h23 _, ents_gr h.m hT (grown_st W b6 0 _), below_set20 h.b hw⟩
end
/-- What a round that ends the law leaves. -/
def RdX (T : Nat → Prop) (b5 b6 b22 b23 : Nat) (vb : Value) (M : List Ent) (st : Int) (w : World) (c : Code) (xs : List VEnt) (W : World) : Prop :=
  c = .ret ∧ ∃ (r : Bool) (q : Nat), RdI T b5 b6 b22 b23 vb M st w r q W ∧ (r = true ∨ ∃ ys y, xs = ys ++ [y] ∧ M[ys.length]? ≠ some y.2)
theorem rdX_true {T : Nat → Prop} {b5 b6 b22 b23 : Nat} {vb : Value} {M N : List Ent} {st : Int} {w W : World} {c : Code} {xs : List VEnt} (h : RdX T b5 b6 b22 b23 vb M st w c xs W) (hN : N = M) (hp : ∃ k, xs.map Prod.snd = N.take k) : c = .ret ∧ ∃ q, RdI T b5 b6 b22 b23 vb M st w true q W := by
  obtain ⟨hc, r, q, hi, hr⟩ := h
  refine ⟨hc, q, ?_⟩
  rcases hr with rfl | ⟨ys, y, rfl, hne⟩
  · exact hi
  · exfalso
    obtain ⟨k, hk⟩ := hp
    rw [hN] at hk
    have h1 : ((ys ++ [y]).map Prod.snd)[ys.length]? = some y.2 := by simp
    rw [hk, List.getElem?_take] at h1
    split at h1
    · exact hne h1
    · cases h1
set_option maxRecDepth 100000 in
set_option maxHeartbeats 4000000 in
theorem reads_walk (l : List POp) (v : Value) (p : ByteArray) (st : Int) (w : World) (hv : OpsAt (fun _ => True) w v l) (hps : p.size ≤ maxLen) (hst : (Lit.int .i64 st).wf = true) (henv : Env w) :
    Calls Tryz.prog 4 #[v, .string p, .int .i64 st] w fun e w' => e = .returned (.bool true) ∧ Below w.heap.size w w' := by
  have HV := Lib.hid (ops_cut hv)
  have HE := Lib.hid henv
  have HPS := Lib.hid hps
  obtain ⟨a, cap, rfl, hc, hm, -⟩ := SeqAt.shape hv OpR.len
  unfold maxLen at hm hps
  obtain ⟨n, hn⟩ : ∃ n, n = l.length := ⟨_, rfl⟩
  have HN := Lib.hid hn
  rw [← hn] at hc HV ⊢
  clear hv henv hn
  refine (callsIn_wide (n := 4)).1 (callsIn_of_wp_marks Tryz.func4 rfl trivial ?_ rfl)
  simp only [Tryz.ntmps4, List.size_toArray, List.length_cons, List.length_nil, Nat.reduceAdd, Nat.reduceSub, Array.replicate_succ, Array.replicate_zero, List.push_toArray, List.append_toArray, List.nil_append, List.cons_append]
  refine (wpIn_wide (n := 4)).2 ?_
  go_wp2_with fail
  obtain ⟨w1, hw1⟩ : ∃ w1, w1 = (w.alloc (.cells #[.int .i64 st] 3)).alloc (.cells #[.bool false] 4) := ⟨_, rfl⟩
  rw [← hw1]
  obtain ⟨b6, hb6⟩ : ∃ b6, b6 = w.heap.size + 1 := ⟨_, rfl⟩
  obtain ⟨b5, hb5⟩ : ∃ b5, b5 = w.heap.size := ⟨_, rfl⟩
  have HS5 := Lib.hid (show w1.heap[b5]? = some (.cells #[.int .i64 st] 3 (0, 0)) by rw [hw1, hb5]; exact alloc20 (new20 w _) _)
  have HS6 := Lib.hid (show w1.heap[b6]? = some (.cells #[.bool false] 4 (0, 0)) by rw [hw1, hb6]; exact new20b w _ _)
  have HB1 := Lib.hid (show Below w.heap.size w w1 by rw [hw1]; exact ((Below.refl _ _).alloc (Nat.le_refl _) _).alloc (by simp) _)
  have HW6 := Lib.hid (show w.heap.size ≤ b6 by omega)
  have HLT5 := Lib.hid (show b5 < b6 by omega)
  have HZ1 := Lib.hid (show w1.heap.size = b6 + 1 by rw [hw1, hb6]; simp)
  rw [← hb6, ← hb5]
  clear hw1 hb6 hb5
  refine (awakeT_any w1 (HE.out.below HB1.out)).mono ?_
  rintro e w2 ⟨rfl, hb2⟩
  have HC2 := Lib.hid hb2
  clear hb2
  go_wp2_with fail
  refine (wide_any _ l _ _ (HV.out.below (below_next HB1.out HC2.out))).mono ?_
  rintro e w3 ⟨wb, rfl, hsm, hb3⟩
  have HC3 := Lib.hid (below_next HC2.out hb3)
  have HSM := Lib.hid hsm
  clear hb3 hsm
  cases wb
  case true =>
    have hf6 := frozen20 (k := 0) (HC3.out.block _ (lt20 HS6.out) |>.trans HS6.out)
    have hc6 := cell20 (k := 0) (HC3.out.block _ (lt20 HS6.out) |>.trans HS6.out)
    simp only [List.getElem?_toArray, List.getElem?_cons_zero] at hc6
    go_wp2_with fail
    exact ⟨_, reads_res (box_set (HC3.out.block _ (lt20 HS6.out) |>.trans HS6.out) _) rfl, rfl, below_set20 (below_next HB1.out HC3.out) HW6.out⟩
  by_cases hp6 : 600 < p.size
  · have hp6' : decide (600 < p.size) = true := by simp [hp6]
    have hf6 := frozen20 (k := 0) (HC3.out.block _ (lt20 HS6.out) |>.trans HS6.out)
    have hc6 := cell20 (k := 0) (HC3.out.block _ (lt20 HS6.out) |>.trans HS6.out)
    simp only [List.getElem?_toArray, List.getElem?_cons_zero] at hc6
    go_wp2_with fail
    exact ⟨_, reads_res (box_set (HC3.out.block _ (lt20 HS6.out) |>.trans HS6.out) _) rfl, rfl, below_set20 (below_next HB1.out HC3.out) HW6.out⟩
  have hp6' : decide (600 < p.size) = false := by simp; omega
  have hp6n : p.size ≤ 600 := by omega
  have HSO := Lib.hid (HSM.out rfl).2
  clear hp6
  go_wp2_with fail
  refine (play_any _ l _ _ (HV.out.below (below_next HB1.out HC3.out)) (HE.out.below (below_next HB1.out HC3.out))).mono ?_
  rintro e w4 ⟨rfl, ht4, hb4⟩
  obtain ⟨B, hB⟩ : ∃ B, B = w3.heap.size := ⟨_, rfl⟩
  rw [← hB] at ht4 ⊢
  have HBB := Lib.hid (show b6 < B by rw [hB]; have h1 := HZ1.out; have h2 := HC3.out.size; omega)
  have HT4 := Lib.hid ht4
  have HC4 := Lib.hid (below_next HC3.out hb4)
  have HLT := Lib.hid (show B + 1 < w4.heap.size from block_lt ht4.cell)
  obtain ⟨L, hL⟩ : ∃ L, L = playP [] l := ⟨_, rfl⟩
  rw [← hL] at HT4
  have HL := Lib.hid hL
  clear ht4 hb4 hB hL
  go_wp2_with fail
  go_loopw [8, 38] (fun u i wr => ∃ k : Nat, k ≤ n ∧ i = .int .i64 k ∧ TOk (playP [] (l.take k)) ∧ EntsAt (fun j => j ≠ B ∧ j ≠ b6) wr u (playP [] (l.take k)) ∧ Below w4.heap.size w4 wr) (fun _ i _ => n - (intOf i).toNat)
  case atStart => exact ⟨0, Nat.zero_le _, rfl, TOk.nil, EntsAt.nil _ _, Below.refl _ _⟩
  case round =>
    obtain ⟨k, hk, rfl, htk, her, hbr⟩ := hrel
    obtain ⟨Lk, hLk⟩ : ∃ Lk, Lk = playP [] (l.take k) := ⟨_, rfl⟩
    rw [← hLk] at htk her
    have HLK := Lib.hid hLk
    have HTK := Lib.hid htk
    have HER := Lib.hid her
    have HBR0 := Lib.hid hbr
    have HBR := Lib.hid (below_next HB1.out (below_next HC4.out hbr))
    clear htk her hbr hLk
    by_cases hlt : k < n
    · obtain ⟨x, hx⟩ := ops_fst HN.out hlt
      have HXM := Lib.hid (HSO.out x (List.mem_of_getElem? hx))
      obtain ⟨b, o, dv, rfl, hb, hd, hok, hq⟩ := ops_at (HV.out.below HBR.out) hx
      obtain ⟨a1, cap1, rfl, hd1, hd2⟩ := hd.slice
      have q0 := hq 0 (by omega)
      have q1 := hq 1 (by omega)
      have q2 := hq 2 (by omega)
      have q3 := hq 3 (by omega)
      have q4 := hq 4 (by omega)
      have q5 := hq 5 (by omega)
      have q6 := hq 6 (by omega)
      have q7 := hq 7 (by omega)
      have q8 := hq 8 (by omega)
      have q9 := hq 9 (by omega)
      simp only [opC, List.getElem?_cons_succ, List.getElem?_cons_zero, Nat.add_zero] at q0 q1 q2 q3 q4 q5 q6 q7 q8 q9
      have HX := Lib.hid hx
      have HD := Lib.hid hd
      have HOK := Lib.hid hok
      unfold maxLen at hd2
      clear hx hd hok hq
      go_wp2_with fail
      obtain ⟨W, hW⟩ : ∃ W, W = wr.alloc (.cells #[.int .i64 x.kind, .string x.en.path, .int .i64 x.en.kind, .int .i64 x.en.mode, .int .i64 x.en.time, .slice a1 x.en.data.length cap1, .string x.en.link, .string x.src, .string x.dst, .bool x.below] 32) := ⟨_, rfl⟩
      rw [← hW]
      have HXB := Lib.hid (show W.heap[wr.heap.size]? = some (.cells #[.int .i64 x.kind, .string x.en.path, .int .i64 x.en.kind, .int .i64 x.en.mode, .int .i64 x.en.time, .slice a1 x.en.data.length cap1, .string x.en.link, .string x.src, .string x.dst, .bool x.below] 32 (0, 0)) by rw [hW]; exact new20 wr _)
      have HWL := Lib.hid (show Below wr.heap.size wr W by rw [hW]; exact (Below.refl _ _).alloc (Nat.le_refl _) _)
      clear hW
      clear q0 q1 q2 q3 q4 q5 q6 q7 q8 q9
      have HDB := Lib.hid (data_mono (S' := fun j => j ≠ B ∧ j ≠ b6) (HD.out.below HWL.out) (fun j hj => by have := HBB.out; have := HW6.out; omega))
      refine (r_do_any (fun j => j ≠ B ∧ j ≠ b6) Lk _ (.slice a1 x.en.data.length cap1) x _ (HER.out.below HWL.out) HTK.out HDB.out HOK.out (by have := HXM.out.2.2.1; omega) (by have := HXM.out.1; omega) (by have := HXM.out.2.1; omega)).mono ?_
      rintro e w5 ⟨v5, rfl, he5, hb5⟩
      have HE5 := Lib.hid (ents_mo (T := fun j => j ≠ B ∧ j ≠ b6) he5 (fun j _ hj => by
        rcases hj with hj | hj
        · exact hj
        · have h1 := HBB.out; have h2 := HLT.out; have h3 := HBR0.out.size; have h4 := HWL.out.size; omega))
      have HB5 := Lib.hid (below_next HBR0.out (HWL.out.trans (hb5.mono HWL.out.size)))
      clear he5 hb5
      go_wp2_with fail
      go_roundw
      case rel =>
        refine ⟨k + 1, by omega, by go_num, ?_, ?_, HB5.out⟩
        · rw [List.take_add_one, HX.out]
          show TOk (playP [] (l.take k ++ [x]))
          rw [playP_snoc, ← HLK.out]
          exact doP_ok HTK.out x
        · rw [List.take_add_one, HX.out]
          show EntsAt _ _ _ (playP [] (l.take k ++ [x]))
          rw [playP_snoc, ← HLK.out]
          exact HE5.out
      case measure => simp [intOf]; omega
    · have hk2 : k = n := by omega
      have HLL := Lib.hid (show Lk = L by rw [HLK.out, hk2, HN.out, List.take_length, HL.out])
      have HEL := Lib.hid (show EntsAt (fun j => j ≠ B ∧ j ≠ b6) wr _ L from HLL.out ▸ HER.out)
      have HTR := Lib.hid (HT4.out.below HBR0.out)
      obtain ⟨av, cv, rfl, hcv, hmv, -⟩ := SeqAt.shape HEL.out EntR.len
      obtain ⟨m, hm2⟩ : ∃ m, m = L.length := ⟨_, rfl⟩
      have HM := Lib.hid hm2
      rw [← hm2] at hcv HEL ⊢
      unfold maxLen at hmv
      clear hk2 HLK HTK HER hm2
      go_wp2_with fail
      refine (get_any _ _ _ L p _ HTR.out HPS.out).mono ?_
      rintro e w6 ⟨hb6, hr6⟩
      have HD6 := Lib.hid hb6
      clear hb6
      rcases findIx_spec (p := p) L 0 with ⟨hf, hix⟩ | ⟨j, f, hf, hjf, hix⟩
      · rw [hf] at hr6
        subst hr6
        have HFX := Lib.hid hix
        clear hix hf
        obtain ⟨w7, hw7⟩ : ∃ w7, w7 = w6.alloc (.cells #[.string ⟨#[]⟩, .int .i64 0, .int .i64 0, .int .i64 0, .slice none 0 0, .string ⟨#[]⟩] 30) := ⟨_, rfl⟩
        have HX7 := Lib.hid (show w7.heap[w6.heap.size]? = some (.cells #[.string ⟨#[]⟩, .int .i64 0, .int .i64 0, .int .i64 0, .slice none 0 0, .string ⟨#[]⟩] 30 (0, 0)) by rw [hw7]; exact new20 w6 _)
        have HD7 := Lib.hid (show Below wr.heap.size wr w7 by rw [hw7]; exact below_next HD6.out ((Below.refl _ _).alloc (Nat.le_refl _) _))
        go_upto_region 13 with (fail)
        rw [← hw7]
        clear hw7
        go_wp2_with fail
        refine (r_find_is _ L _ p (-1) _ (HEL.out.below HD7.out) HFX.out).mono ?_
        rintro e w8 ⟨rfl, hb8⟩
        have HD8 := Lib.hid (below_next HD7.out hb8)
        have HX8 := Lib.hid ((hb8.block _ (lt20 HX7.out)).trans HX7.out)
        clear hb8
        have c0 := cell20 (k := 0) HX8.out
        have c1 := cell20 (k := 1) HX8.out
        have c2 := cell20 (k := 2) HX8.out
        have c3 := cell20 (k := 3) HX8.out
        have c4 := cell20 (k := 4) HX8.out
        have c5 := cell20 (k := 5) HX8.out
        simp only [List.getElem?_toArray, List.getElem?_cons_succ, List.getElem?_cons_zero] at c0 c1 c2 c3 c4 c5
        go_wp2_with fail
        refine wp_region_segs [some 12, none, some 9, none, some 3] (by kernel_rfl) (by kernel_rfl) (by kernel_rfl) ?_
        simp only [wpSegs, List.take_succ_cons, List.take_zero, List.drop_succ_cons, List.drop_zero]
        repeat (first | (refine seg_skip rfl ?_; simp only [Act.put, List.setIfInBounds_toArray, List.set_cons_succ, List.set_cons_zero]) | (refine seg_run rfl (fun K hK => ?_); go_simp; refine hK _ ?_; clear hK K))
        refine seg_nil ?_
        refine bar_skip rfl ?_
        simp only [Act.put, List.setIfInBounds_toArray, List.set_cons_succ, List.set_cons_zero]
        repeat (first | (refine seg_skip rfl ?_; simp only [Act.put, List.setIfInBounds_toArray, List.set_cons_succ, List.set_cons_zero]) | (refine seg_run rfl (fun K hK => ?_); go_simp; refine hK _ ?_; clear hK K))
        refine seg_nil ?_
        refine bar_run rfl (fun K hK => ?_)
        go_wp2_with fail
        refine (r_same20_is (fun _ => False) (fun _ => False) ⟨⟨#[]⟩, 0, 0, 0, [], ⟨#[]⟩⟩ ⟨⟨#[]⟩, 0, 0, 0, [], ⟨#[]⟩⟩ (.slice none 0 0) (.slice none 0 0) true _ (DataAt.nil _ _) (DataAt.nil _ _) (by simp)).mono ?_
        rintro e w9 ⟨rfl, hb9⟩
        have HD9 := Lib.hid (HD8.out.trans (((Below.refl w8.heap.size w8).drew.trans (hb9.mono (Nat.le_refl _))).mono HD8.out.size))
        clear hb9 c0 c1 c2 c3 c4 c5
        go_wp2_with fail
        repeat (first | (refine seg_skip rfl ?_; simp only [Act.put, List.setIfInBounds_toArray, List.set_cons_succ, List.set_cons_zero]) | (refine seg_run rfl (fun K hK => ?_); go_simp; refine hK _ ?_; clear hK K))
        refine seg_nil ?_
        go_wp2_with fail
        have HT9 := Lib.hid (HTR.out.below HD9.out)
        refine (list_any _ _ _ L p _ HT9.out HPS.out (HE.out.below (below_next HB1.out (below_next HC4.out (below_next HBR0.out HD9.out))))).mono ?_
        rintro e w10 ⟨v10, ks, rfl, hks, hg10, hb10⟩
        obtain ⟨y, hy⟩ : ∃ y, y = (listP L p).2 := ⟨_, rfl⟩
        rw [← hy]
        have HY := Lib.hid hy
        have HKS := Lib.hid hks
        have HK10 := Lib.hid hg10.seq
        have HD10 := Lib.hid (below_next HD9.out hb10)
        obtain ⟨a10, c10, rfl, hc10, hm10⟩ := owns_shape hg10.row
        unfold maxLen at hm10
        clear hy hks hg10 hb10
        go_wp2_with fail
        refine (r_list_any _ L (.slice av m cv) p _ (HEL.out.below HD10.out) (fun e he => by have := valid_size (vEnt_path (HTR.out.ok.val e he)); rw [size_bl]; omega) (by omega) (by have := HTR.out.ok.len; omega)).mono ?_
        rintro e w11 ⟨v11, rfl, h11, hb11⟩
        rw [← HY.out]
        have H11 := Lib.hid h11
        have HD11 := Lib.hid (below_next HD10.out hb11)
        have HK11 := Lib.hid (HK10.out.below hb11)
        clear h11 hb11
        go_wp2_with fail
        refine (r_sameall_any _ _ _ _ _ _ _ HK11.out H11.out).mono ?_
        rintro e w12 ⟨rfl, hb12⟩
        rw [HKS.out, decide_eq_true rfl]
        have HD12 := Lib.hid (below_next HD11.out hb12)
        clear hb12
        go_wp2_with fail
        have HT12 := Lib.hid (HTR.out.below HD12.out)
        refine (size_any _ _ _ L p _ HT12.out HPS.out).mono ?_
        rintro e w13 ⟨rfl, hb13⟩
        obtain ⟨cz, hcz⟩ : ∃ cz, cz = cntL (atP L p) := ⟨_, rfl⟩
        rw [← hcz]
        have HCZ := Lib.hid hcz
        have HD13 := Lib.hid (below_next HD12.out hb13)
        clear hb13 hcz
        go_wp2_with fail
        refine (r_size_any _ L (.slice av m cv) p _ (HEL.out.below HD13.out) (fun e he => by have := valid_size (vEnt_path (HTR.out.ok.val e he)); rw [size_bl]; omega) (by omega) HTR.out.ok).mono ?_
        rintro e w14 ⟨rfl, hb14⟩
        rw [← HCZ.out]
        have HD14 := Lib.hid (below_next HD13.out hb14)
        clear hb14
        have heq : (Op.equalIn 10000 48 (.agg #[.int .i64 cz.files, .int .i64 cz.dirs, .int .i64 cz.links, .int .i64 cz.bytes]) (.agg #[.int .i64 cz.files, .int .i64 cz.dirs, .int .i64 cz.links, .int .i64 cz.bytes])).run Tryz.prog w14 = .ok true w14 := by
          have h1 := eq4 cz cz w14
          rw [decide_eq_true rfl] at h1
          exact h1
        go_wp2_with fail
        clear heq
        refine (r_at_any _ L (.slice av m cv) p _ (HEL.out.below HD14.out) (fun e he => by have := valid_size (vEnt_path (HTR.out.ok.val e he)); rw [size_bl]; omega) (by omega) (by have := HTR.out.ok.len; omega)).mono ?_
        rintro e w15 ⟨v15, rfl, h15, hb15⟩
        have HD15 := Lib.hid (below_next HD14.out hb15)
        have H15 := Lib.hid (ents_cut h15)
        have HTW := Lib.hid (show ∀ k, ((k ≠ B ∧ k ≠ b6) ∨ w14.heap.size ≤ k) ∧ k < w15.heap.size → k ≠ b6 ∧ k < w15.heap.size from fun k hk => ⟨by
          rcases hk.1 with h | h
          · exact h.2
          · have h1 := HD14.out.size; have h2 := HBR0.out.size; have h3 := HLT.out; have h4 := HBB.out; omega, hk.2⟩)
        obtain ⟨T, hT⟩ : ∃ T : Nat → Prop, T = fun k => ((k ≠ B ∧ k ≠ b6) ∨ w14.heap.size ≤ k) ∧ k < w15.heap.size := ⟨_, rfl⟩
        rw [← hT] at H15
        have HTB := Lib.hid (show ∀ k, T k → k ≠ b6 ∧ k < w15.heap.size by rw [hT]; exact HTW.out)
        obtain ⟨M, hM⟩ : ∃ M, M = atP L p := ⟨_, rfl⟩
        rw [← hM] at H15
        have HMM := Lib.hid hM
        obtain ⟨nm, hnm⟩ : ∃ nm, nm = M.length := ⟨_, rfl⟩
        have HNM := Lib.hid hnm
        have hnm4 : nm ≤ 4096 := by
          rw [hnm, hM]
          have := List.length_filter_le (fun e => inB p e && (decide (p.size = 0) || (findE L p).isSome)) L
          unfold atP
          have := HTR.out.ok.len
          omega
        obtain ⟨a15, c15, rfl, hc15, hm15, -⟩ := SeqAt.shape H15.out EntR.len
        rw [← hnm] at hc15 H15 ⊢
        unfold maxLen at hm15
        clear h15 hb15 hT hM hnm HTW
        go_wp2_with fail
        obtain ⟨U, hU⟩ : ∃ U, U = (w15.alloc (.cells #[.slice a15 nm c15] 27)).alloc (.cells #[.int .i64 0] 3) := ⟨_, rfl⟩
        rw [← hU]
        obtain ⟨b23, hb23⟩ : ∃ b23, b23 = w15.heap.size + 1 := ⟨_, rfl⟩
        obtain ⟨b22, hb22⟩ : ∃ b22, b22 = w15.heap.size := ⟨_, rfl⟩
        have HS22 := Lib.hid (show U.heap[b22]? = some (.cells #[.slice a15 nm c15] 27 (0, 0)) by rw [hU, hb22]; exact alloc20 (new20 w15 _) _)
        have HS23 := Lib.hid (show U.heap[b23]? = some (.cells #[.int .i64 0] 3 (0, 0)) by rw [hU, hb23]; exact new20b w15 _ _)
        have HBU := Lib.hid (show Below w15.heap.size w15 U by rw [hU]; exact ((Below.refl _ _).alloc (Nat.le_refl _) _).alloc (by simp) _)
        have hsU : U.heap.size = w15.heap.size + 2 := by rw [hU]; simp
        have HSZ := Lib.hid (show b22 = w15.heap.size ∧ b23 = w15.heap.size + 1 from ⟨hb22, hb23⟩)
        rw [← hb23, ← hb22]
        clear hU hb23 hb22
        refine (walk_any2 (B + 1) p _).mono ?_
        rintro e V ⟨rfl, hw1, hw2, hbV, hsV⟩
        have HU1 := Lib.hid hw1
        have HU2 := Lib.hid hw2
        have HBV := Lib.hid hbV
        have HSU := Lib.hid hsU
        clear hw1 hw2 hbV hsV hsU
        go_wp2_with fail
        have z1 : w15.heap.size ≤ b22 := by have := HSZ.out.1; omega
        have z2 : b22 ≤ w15.heap.size := by have := HSZ.out.1; omega
        have z3 : w15.heap.size < b23 := by have := HSZ.out.2; omega
        have z4 : b23 < w15.heap.size + 2 := by have := HSZ.out.2; omega
        have hTV : U.heap.size ≤ V.heap.size := HBV.out.size
        have hUZ : w15.heap.size + 2 ≤ U.heap.size := by have := HSU.out; omega
        have hw15 : b6 < w15.heap.size ∧ B + 1 < w15.heap.size := by
          have h1 := HD15.out.size; have h2 := HBR0.out.size; have h3 := HLT.out; have h4 := HBB.out
          omega
        have h56 : b5 < b6 := HLT5.out
        have hww : w.heap.size ≤ b6 := HW6.out
        have HTT := Lib.hid (show ∀ k, T k → k < w15.heap.size ∧ k ≠ b23 from fun k hk => by have := (HTB.out k hk).2; exact ⟨this, by omega⟩)
        have HT6 := Lib.hid (show ¬ T b6 from fun h => (HTB.out _ h).1 rfl)
        have HT23 := Lib.hid (show ¬ T b23 from fun h => (HTT.out _ h).2 rfl)
        have HTV := Lib.hid (TreeAt.below (show TreeAt (newF (B + 2) wr) wr (B + 1) B L from HTR.out) (below_next (below_next HD15.out HBU.out) HBV.out))
        have HI0 := Lib.hid (show RdI T b5 b6 b22 b23 (.slice a15 nm c15) M st w false 0 V from by
          have hbv := (below_next HBU.out HBV.out)
          have hb1 := below_next HC4.out (below_next HBR0.out (below_next HD15.out hbv))
          exact ⟨(hb1.block _ (lt20 HS5.out)).trans HS5.out, (hb1.block _ (lt20 HS6.out)).trans HS6.out, (HBV.out.block _ (lt20 HS22.out)).trans HS22.out, (HBV.out.block _ (lt20 HS23.out)).trans HS23.out, H15.out.below hbv, below_next HB1.out hb1⟩)
        have hOI : OwnFrom V.heap.size (fun (xs : List VEnt) W => RdI T b5 b6 b22 b23 (.slice a15 nm c15) M st w false xs.length W) := fun xs X Y row h hg hr =>
          h.turn (Z := V.heap.size) (fun k hk => by have := HTT.out k hk; exact ⟨by omega, this.2⟩) (by omega) (by omega) (by omega) (by omega) (by have := HI0.out.b.size; omega) hg (fun x e => (hr x e).1)
        have hOX : ∀ c, OwnFrom V.heap.size (fun (xs : List VEnt) W => RdX T b5 b6 b22 b23 (.slice a15 nm c15) M st w c xs W) := fun c xs X Y row ⟨hc, r, q, hi, h2⟩ hg hr =>
          ⟨hc, r, q, hi.turn (Z := V.heap.size) (fun k hk => by have := HTT.out k hk; exact ⟨by omega, this.2⟩) (by omega) (by omega) (by omega) (by omega) (by have := HI0.out.b.size; omega) hg (fun x e => (hr x e).1), h2⟩
        have hwk : ∀ (X : World) (b : Nat) (x : Value) (cs : Array Value) (t : TypeId), X.heap[b]? = some (.cells cs t (0, 0)) → t ≠ 9 → t ≠ 25 → B + 1 ≠ b → B ≠ b → ¬ newF (B + 2) wr b → WKeep (newF (B + 2) wr) (B + 1) B L U.heap.size X (X.setCell ⟨b, 0, none⟩ x) := fun X b x cs t hb h1 h2 h3 h4 h5 =>
          wKeep_grown (grown_st X b 0 x) h3 h4 h5 (fun cs' t' e => by rw [hb] at e; cases e; exact ⟨h1, h2⟩)
        refine wp_rangeB (gf := 40) (lb := #[.pointer (some ⟨U.heap.size, 0, none⟩), .pointer (some ⟨U.heap.size + 1, 0, none⟩)]) rfl (enters_of Tryz.func40 (by kernel_rfl) rfl)
          (walk_seq2 (newF (B + 2) wr) (B + 1) B L p U.heap.size (U.heap.size + 1) V HTV.out HPS.out HU1.out HU2.out) wKeep_t (wKeep_b HTV.out) (fun _ => rfl)
          (fun xs W => RdI T b5 b6 b22 b23 (.slice a15 nm c15) M st w false xs.length W) (fun c xs W => RdX T b5 b6 b22 b23 (.slice a15 nm c15) M st w c xs W) 24
          (fun xs x b W => RdI T b5 b6 b22 b23 (.slice a15 nm c15) M st w false xs.length W ∧ EntNew V.heap.size x W ∧ xs.length < 4096 ∧ W.heap[b]? = some (.cells #[.string x.2.path, .int .i64 x.2.kind, .int .i64 x.2.mode, .int .i64 x.2.time, x.1, .string x.2.link] 30 (0, 0)))
          hOI hOX ?own HI0.out ?assign ?body ?done ?stop
        case own =>
          rintro ⟨xs, x, b⟩ X Y row ⟨h1, h2, h3, h4⟩ hg hr
          refine ⟨hOI xs X Y row h1 hg hr, ent_turn h2 hg (fun r e => (hr r e).2), h3, (hg.block b (Array.getElem?_eq_some_iff.1 h4).1 (fun e' => ?_)).trans h4⟩
          obtain ⟨_, ob, ho, hc⟩ := hr b e'.symm
          rw [h4] at ho; cases ho; cases hc
        case assign =>
          rintro l' xs ⟨v, e⟩ X hX hI hD hN
          obtain ⟨a', c', hv, -, -⟩ := owns_shape hD.1
          simp only at hv
          subst hv
          have hbw : Below X.heap.size X (X.alloc (.cells #[.string e.path, .int .i64 e.kind, .int .i64 e.mode, .int .i64 e.time, .slice a' e.data.length c', .string e.link] 30)) := (Below.refl _ _).alloc (Nat.le_refl _) _
          simp only [entV]
          gi_wp2
          refine ⟨KeepsOthers.alloc _ _, wKeep_below hbw, X.heap.size, ⟨hI.below hbw, ⟨own_below hD.1 hbw, hD.2⟩, hN, new20 X _⟩, ?_⟩
          kernel_rfl
        case body =>
          rintro l' xs ⟨v0, e⟩ bb X ⟨hI, hD, hN, hb⟩
          have HI := Lib.hid hI
          obtain ⟨a', c', hv0, ha1, ha2⟩ := owns_shape hD.1
          simp only at hv0
          subst hv0
          simp only at hb
          have HDA := Lib.hid (data_of_owns hD.1)
          have c0 := cell20 (k := 0) hb
          have c1 := cell20 (k := 1) hb
          have c2 := cell20 (k := 2) hb
          have c3 := cell20 (k := 3) hb
          have c4 := cell20 (k := 4) hb
          have c5 := cell20 (k := 5) hb
          have s0 := cell20 (k := 0) hI.s
          have l0 := cell20 (k := 0) hI.l
          have n0 := cell20 (k := 0) hI.c
          have r0 := cell20 (k := 0) hI.r
          simp only [List.getElem?_toArray, List.getElem?_cons_succ, List.getElem?_cons_zero] at c0 c1 c2 c3 c4 c5 s0 l0 n0 r0
          have fr := frozen20 (k := 0) hI.r
          have fc := frozen20 (k := 0) hI.c
          obtain ⟨q, hq⟩ : ∃ q, q = xs.length := ⟨_, rfl⟩
          have HQ := Lib.hid hq
          rw [← hq] at HI n0 hN
          simp only [entV]
          clear hI hD hb hq
          by_cases hqn : nm ≤ q
          · have e1 : decide (nm ≤ q) = true := by simp [hqn]
            gi_wp2_with fail
            refine wpIn_region_segs [some 10, none, some 2] (by kernel_rfl) (by kernel_rfl) (by kernel_rfl) (fun ⟨_, _, h⟩ => h) (by kernel_rfl) ?_
            simp only [wpSegs, List.take_succ_cons, List.take_zero, List.drop_succ_cons, List.drop_zero]
            repeat (first | (refine seg_skip rfl ?_; simp only [Act.put, List.setIfInBounds_toArray, List.set_cons_succ, List.set_cons_zero]) | (refine seg_run rfl (fun K hK => ?_); go_simp; refine hK _ ?_; clear hK K))
            refine seg_nil ?_
            refine bar_skip rfl ?_
            simp only [Act.put, List.setIfInBounds_toArray, List.set_cons_succ, List.set_cons_zero]
            repeat (first | (refine seg_skip rfl ?_; simp only [Act.put, List.setIfInBounds_toArray, List.set_cons_succ, List.set_cons_zero]) | (refine seg_run rfl (fun K hK => ?_); go_simp; refine hK _ ?_; clear hK K))
            refine seg_nil ?_
            gi_wp2_with fail
            refine ⟨(KeepsOthers.setCell _ _ _).trans (KeepsOthers.drew _), rfl, false, q, (HI.out.answer HT6.out (by omega) (by omega) (by omega) hww false).below (Below.refl _ _).drew, .inr ⟨xs, _, rfl, ?_⟩⟩
            rw [← HQ.out, List.getElem?_eq_none (by rw [← HNM.out]; exact hqn)]
            simp
          · have e1 : decide (nm ≤ q) = false := by simp; omega
            have hqn2 : q < nm := by omega
            obtain ⟨em, hem⟩ : ∃ em, M[q]? = some em := ⟨M[q]'(by rw [← HNM.out]; exact hqn2), by simp⟩
            have HEM := Lib.hid hem
            obtain ⟨mb, mo, mv, hma, -, -, hmd, -, -, p0, p1, p2, p3, p4, p5⟩ := ents_at HI.out.m hem
            subst hma
            obtain ⟨ma, mc, rfl, hm1, hm2⟩ := hmd.slice
            unfold maxLen at hm2
            have HMD := Lib.hid hmd
            obtain ⟨rb, hrb⟩ : ∃ rb, decide (e = em) = rb := ⟨_, rfl⟩
            have HRB := Lib.hid hrb
            clear hem hmd hrb
            gi_wp2_with fail
            refine wpIn_region_segs [some 10, none, some 2] (by kernel_rfl) (by kernel_rfl) (by kernel_rfl) (fun ⟨_, _, h⟩ => h) (by kernel_rfl) ?_
            simp only [wpSegs, List.take_succ_cons, List.take_zero, List.drop_succ_cons, List.drop_zero]
            repeat (first | (refine seg_skip rfl ?_; simp only [Act.put, List.setIfInBounds_toArray, List.set_cons_succ, List.set_cons_zero]) | (refine seg_run rfl (fun K hK => ?_); go_simp; refine hK _ ?_; clear hK K))
            refine seg_nil ?_
            refine bar_run rfl (fun K hK => ?_)
            go_wp2_with fail
            refine (r_same20_is _ _ e em (.slice a' e.data.length c') (.slice ma em.data.length mc) rb _ (HDA.out.below (Below.refl X.heap.size X).drew) (HMD.out.below (Below.refl X.heap.size X).drew) HRB.out).mono ?_
            rintro e9 X1 ⟨rfl, hbX⟩
            have HX1 := Lib.hid ((Below.refl X.heap.size X).drew.trans (hbX.mono (Nat.le_refl _)))
            clear hbX c0 c1 c2 c3 c4 c5 s0 l0 n0 r0 fr fc p0 p1 p2 p3 p4 p5
            have HI1 := Lib.hid (HI.out.below HX1.out)
            have s0 := cell20 (k := 0) HI1.out.s
            have n0 := cell20 (k := 0) HI1.out.c
            have r0 := cell20 (k := 0) HI1.out.r
            simp only [List.getElem?_toArray, List.getElem?_cons_zero] at s0 n0 r0
            have fr := frozen20 (k := 0) HI1.out.r
            have fc := frozen20 (k := 0) HI1.out.c
            have HKO := Lib.hid (show KeepsOthers X X1 from ⟨HX1.out.size, fun k o hk _ => (HX1.out.block k (lt20 hk)).trans hk⟩)
            cases rb
            · go_wp2_with fail
              repeat (first | (refine seg_skip rfl ?_; simp only [Act.put, List.setIfInBounds_toArray, List.set_cons_succ, List.set_cons_zero]) | (refine seg_run rfl (fun K hK => ?_); go_simp; refine hK _ ?_; clear hK K))
              refine seg_nil ?_
              gi_wp2_with fail
              refine ⟨HKO.out.trans (KeepsOthers.setCell _ _ _), rfl, false, q, HI1.out.answer HT6.out (by omega) (by omega) (by omega) hww false, .inr ⟨xs, _, rfl, ?_⟩⟩
              rw [← HQ.out, HEM.out]
              intro h
              have h1 := HRB.out
              rw [Option.some.inj h] at h1
              simp at h1
            · go_wp2_with fail
              repeat (first | (refine seg_skip rfl ?_; simp only [Act.put, List.setIfInBounds_toArray, List.set_cons_succ, List.set_cons_zero]) | (refine seg_run rfl (fun K hK => ?_); go_simp; refine hK _ ?_; clear hK K))
              refine seg_nil ?_
              by_cases hqs : ((q + 1 : Nat) : Int) = st
              · subst hqs
                gi_wp2_with fail
                rw [show (q : Int) + 1 = ((q + 1 : Nat) : Int) by omega]
                exact ⟨(HKO.out.trans (KeepsOthers.setCell _ _ _)).trans (KeepsOthers.setCell _ _ _), rfl, true, q + 1, (HI1.out.count HT23.out (by omega) (by omega) (by omega) (by omega) (q + 1)).answer HT6.out (by omega) (by omega) (by omega) hww true, .inl rfl⟩
              · have e3 : (((q + 1 : Nat) : Int) == st) = false := by simpa using hqs
                gi_wp2_with fail
                rw [show (q : Int) + 1 = ((q + 1 : Nat) : Int) by omega]
                refine ⟨HKO.out.trans (KeepsOthers.setCell _ _ _), wKeep_t (wKeep_below HX1.out) (hwk X1 b23 _ _ _ HI1.out.c (by decide) (by decide) (by omega) (by omega) (fun h => by have h1 := h.2; have h2 := HD15.out.size; omega)), ?_⟩
                have h1 := HI1.out.count HT23.out (by omega) (by omega) (by omega) (by omega) (q + 1)
                show RdI _ _ _ _ _ _ _ _ _ _ (xs ++ [_]).length _
                rw [List.length_append, List.length_singleton, ← HQ.out]
                exact h1
        case done =>
          rintro Dl ys W hDl hS hI hK
          obtain ⟨q, hq⟩ : ∃ q, q = ys.length := ⟨_, rfl⟩
          have hqn : q = nm := by
            have h1 := congrArg List.length hS
            rw [List.length_map, ← HMM.out, ← HNM.out] at h1
            omega
          rw [← hq] at hI
          subst hqn
          have HI := Lib.hid hI
          have HK := Lib.hid hK
          have HDL := Lib.hid (show w.heap.size ≤ Dl from Nat.le_trans (Nat.le_trans (by omega) hTV) hDl)
          have l0 := cell20 (k := 0) hI.l
          have n0 := cell20 (k := 0) hI.c
          have r0 := cell20 (k := 0) hI.r
          simp only [List.getElem?_toArray, List.getElem?_cons_zero] at l0 n0 r0
          have fr := frozen20 (k := 0) hI.r
          clear hS hI hK hq hDl
          go_wp2_with fail
          obtain ⟨W5, hW5⟩ : ∃ W5, W5 = W.setCell ⟨b6, 0, none⟩ (.bool true) := ⟨_, rfl⟩
          rw [← hW5]
          have HI5 := Lib.hid (show RdI T b5 b6 b22 b23 (.slice a15 q c15) M st w true q W5 by rw [hW5]; exact HI.out.answer HT6.out (by omega) (by omega) (by omega) hww true)
          have HK5 := Lib.hid (show W5.heap[Dl]? = some (.deferred (some [])) by
            rw [hW5]
            refine setOther20 HK.out (fun e' => ?_) _
            have h1 := HI.out.r
            rw [← e', HK.out] at h1
            cases h1)
          clear hW5 l0 n0 r0 fr
          refine ⟨by simp, .inl ⟨_, _, rfl, run_takeDeferred HK5.out, ?_⟩⟩
          refine ⟨_, reads_res (((grownBy_putObj' _ Dl (.deferred none)).block b6 (lt20 HI5.out.r) (fun e' => ?_)).trans HI5.out.r) rfl, rfl, HI5.out.b.trans (belowK_b (w := w) (Nat.le_refl _) _ Dl _ _ HDL.out HK5.out rfl rfl)⟩
          have h1 := HI5.out.r
          rw [Option.some.inj e', HK5.out] at h1
          cases h1
        case stop =>
          rintro Dl c xs W hDl hSp hX hK
          obtain ⟨rfl, q, hI⟩ := rdX_true hX HMM.out.symm hSp
          have HI5 := Lib.hid hI
          have HK5 := Lib.hid hK
          have HDL := Lib.hid (show w.heap.size ≤ Dl from Nat.le_trans (Nat.le_trans (by omega) hTV) hDl)
          clear hX hK hI hSp hDl
          go_wp2_with fail
          refine ⟨by simp, .inl ⟨_, _, rfl, run_takeDeferred HK5.out, ?_⟩⟩
          refine ⟨_, reads_res (((grownBy_putObj' _ Dl (.deferred none)).block b6 (lt20 HI5.out.r) (fun e' => ?_)).trans HI5.out.r) rfl, rfl, HI5.out.b.trans (belowK_b (w := w) (Nat.le_refl _) _ Dl _ _ HDL.out HK5.out rfl rfl)⟩
          have h1 := HI5.out.r
          rw [Option.some.inj e', HK5.out] at h1
          cases h1
      · rw [hf] at hr6
        obtain ⟨v6, rfl, ho6⟩ := hr6
        obtain ⟨af, cf, rfl, h61, h62⟩ := owns_shape ho6
        unfold entV
        unfold maxLen at h62
        have HFX := Lib.hid (show findIx L p 0 = (j : Int) by rw [hix]; simp)
        have HO6 := Lib.hid (data_of_owns ho6)
        have HJF := Lib.hid hjf
        clear hix hf ho6
        obtain ⟨w7, hw7⟩ : ∃ w7, w7 = w6.alloc (.cells #[.string f.path, .int .i64 f.kind, .int .i64 f.mode, .int .i64 f.time, .slice af f.data.length cf, .string f.link] 30) := ⟨_, rfl⟩
        have HX7 := Lib.hid (show w7.heap[w6.heap.size]? = some (.cells #[.string f.path, .int .i64 f.kind, .int .i64 f.mode, .int .i64 f.time, .slice af f.data.length cf, .string f.link] 30 (0, 0)) by rw [hw7]; exact new20 w6 _)
        have HE7 := Lib.hid (show Below w6.heap.size w6 w7 by rw [hw7]; exact (Below.refl _ _).alloc (Nat.le_refl _) _)
        have HD7 := Lib.hid (below_next HD6.out HE7.out)
        go_upto_region 13 with (fail)
        rw [← hw7]
        clear hw7
        go_wp2_with fail
        refine (r_find_is _ L _ p (j : Int) _ (HEL.out.below HD7.out) HFX.out).mono ?_
        rintro e w8 ⟨rfl, hb8⟩
        have HD8 := Lib.hid (below_next HD7.out hb8)
        have HE8 := Lib.hid (below_next HE7.out hb8)
        have HX8 := Lib.hid ((hb8.block _ (lt20 HX7.out)).trans HX7.out)
        clear hb8
        have hjm : j < m := by rw [HM.out]; exact (List.getElem?_eq_some_iff.1 hjf).1
        obtain ⟨b, o, dv, rfl, -, hb, hd, hok, -, q0, q1, q2, q3, q4, q5⟩ := ents_at (HEL.out.below HD8.out) hjf
        obtain ⟨a1, cap1, rfl, hd1, hd2⟩ := hd.slice
        have HDJ := Lib.hid hd
        unfold maxLen at hd2
        clear hjf hd hok
        have c0 := cell20 (k := 0) HX8.out
        have c1 := cell20 (k := 1) HX8.out
        have c2 := cell20 (k := 2) HX8.out
        have c3 := cell20 (k := 3) HX8.out
        have c4 := cell20 (k := 4) HX8.out
        have c5 := cell20 (k := 5) HX8.out
        simp only [List.getElem?_toArray, List.getElem?_cons_succ, List.getElem?_cons_zero] at c0 c1 c2 c3 c4 c5
        go_wp2_with fail
        refine wp_region_segs [some 12, none, some 9, none, some 3] (by kernel_rfl) (by kernel_rfl) (by kernel_rfl) ?_
        simp only [wpSegs, List.take_succ_cons, List.take_zero, List.drop_succ_cons, List.drop_zero]
        repeat (first | (refine seg_skip rfl ?_; simp only [Act.put, List.setIfInBounds_toArray, List.set_cons_succ, List.set_cons_zero]) | (refine seg_run rfl (fun K hK => ?_); go_simp; refine hK _ ?_; clear hK K))
        refine seg_nil ?_
        refine bar_run rfl (fun K hK => ?_)
        go_wp2_with fail
        refine (r_same20_is _ _ f f (.slice af f.data.length cf) (.slice a1 f.data.length cap1) true _ (HO6.out.below (HE8.out.trans ((Below.refl w8.heap.size w8).drew.mono HE8.out.size))) (HDJ.out.below (Below.refl w8.heap.size w8).drew) (by simp)).mono ?_
        rintro e w9 ⟨rfl, hb9⟩
        have HD9 := Lib.hid (HD8.out.trans (((Below.refl w8.heap.size w8).drew.trans (hb9.mono (Nat.le_refl _))).mono HD8.out.size))
        clear hb9 c0 c1 c2 c3 c4 c5 q0 q1 q2 q3 q4 q5
        go_wp2_with fail
        repeat (first | (refine seg_skip rfl ?_; simp only [Act.put, List.setIfInBounds_toArray, List.set_cons_succ, List.set_cons_zero]) | (refine seg_run rfl (fun K hK => ?_); go_simp; refine hK _ ?_; clear hK K))
        refine seg_nil ?_
        refine bar_skip rfl ?_
        simp only [Act.put, List.setIfInBounds_toArray, List.set_cons_succ, List.set_cons_zero]
        repeat (first | (refine seg_skip rfl ?_; simp only [Act.put, List.setIfInBounds_toArray, List.set_cons_succ, List.set_cons_zero]) | (refine seg_run rfl (fun K hK => ?_); go_simp; refine hK _ ?_; clear hK K))
        refine seg_nil ?_
        go_wp2_with fail
        have HT9 := Lib.hid (HTR.out.below HD9.out)
        refine (list_any _ _ _ L p _ HT9.out HPS.out (HE.out.below (below_next HB1.out (below_next HC4.out (below_next HBR0.out HD9.out))))).mono ?_
        rintro e w10 ⟨v10, ks, rfl, hks, hg10, hb10⟩
        obtain ⟨y, hy⟩ : ∃ y, y = (listP L p).2 := ⟨_, rfl⟩
        rw [← hy]
        have HY := Lib.hid hy
        have HKS := Lib.hid hks
        have HK10 := Lib.hid hg10.seq
        have HD10 := Lib.hid (below_next HD9.out hb10)
        obtain ⟨a10, c10, rfl, hc10, hm10⟩ := owns_shape hg10.row
        unfold maxLen at hm10
        clear hy hks hg10 hb10
        go_wp2_with fail
        refine (r_list_any _ L (.slice (some ⟨b, o, none⟩) m cv) p _ (HEL.out.below HD10.out) (fun e he => by have := valid_size (vEnt_path (HTR.out.ok.val e he)); rw [size_bl]; omega) (by omega) (by have := HTR.out.ok.len; omega)).mono ?_
        rintro e w11 ⟨v11, rfl, h11, hb11⟩
        rw [← HY.out]
        have H11 := Lib.hid h11
        have HD11 := Lib.hid (below_next HD10.out hb11)
        have HK11 := Lib.hid (HK10.out.below hb11)
        clear h11 hb11
        go_wp2_with fail
        refine (r_sameall_any _ _ _ _ _ _ _ HK11.out H11.out).mono ?_
        rintro e w12 ⟨rfl, hb12⟩
        rw [HKS.out, decide_eq_true rfl]
        have HD12 := Lib.hid (below_next HD11.out hb12)
        clear hb12
        go_wp2_with fail
        have HT12 := Lib.hid (HTR.out.below HD12.out)
        refine (size_any _ _ _ L p _ HT12.out HPS.out).mono ?_
        rintro e w13 ⟨rfl, hb13⟩
        obtain ⟨cz, hcz⟩ : ∃ cz, cz = cntL (atP L p) := ⟨_, rfl⟩
        rw [← hcz]
        have HCZ := Lib.hid hcz
        have HD13 := Lib.hid (below_next HD12.out hb13)
        clear hb13 hcz
        go_wp2_with fail
        refine (r_size_any _ L (.slice (some ⟨b, o, none⟩) m cv) p _ (HEL.out.below HD13.out) (fun e he => by have := valid_size (vEnt_path (HTR.out.ok.val e he)); rw [size_bl]; omega) (by omega) HTR.out.ok).mono ?_
        rintro e w14 ⟨rfl, hb14⟩
        rw [← HCZ.out]
        have HD14 := Lib.hid (below_next HD13.out hb14)
        clear hb14
        have heq : (Op.equalIn 10000 48 (.agg #[.int .i64 cz.files, .int .i64 cz.dirs, .int .i64 cz.links, .int .i64 cz.bytes]) (.agg #[.int .i64 cz.files, .int .i64 cz.dirs, .int .i64 cz.links, .int .i64 cz.bytes])).run Tryz.prog w14 = .ok true w14 := by
          have h1 := eq4 cz cz w14
          rw [decide_eq_true rfl] at h1
          exact h1
        go_wp2_with fail
        clear heq
        refine (r_at_any _ L (.slice (some ⟨b, o, none⟩) m cv) p _ (HEL.out.below HD14.out) (fun e he => by have := valid_size (vEnt_path (HTR.out.ok.val e he)); rw [size_bl]; omega) (by omega) (by have := HTR.out.ok.len; omega)).mono ?_
        rintro e w15 ⟨v15, rfl, h15, hb15⟩
        have HD15 := Lib.hid (below_next HD14.out hb15)
        have H15 := Lib.hid (ents_cut h15)
        have HTW := Lib.hid (show ∀ k, ((k ≠ B ∧ k ≠ b6) ∨ w14.heap.size ≤ k) ∧ k < w15.heap.size → k ≠ b6 ∧ k < w15.heap.size from fun k hk => ⟨by
          rcases hk.1 with h | h
          · exact h.2
          · have h1 := HD14.out.size; have h2 := HBR0.out.size; have h3 := HLT.out; have h4 := HBB.out; omega, hk.2⟩)
        obtain ⟨T, hT⟩ : ∃ T : Nat → Prop, T = fun k => ((k ≠ B ∧ k ≠ b6) ∨ w14.heap.size ≤ k) ∧ k < w15.heap.size := ⟨_, rfl⟩
        rw [← hT] at H15
        have HTB := Lib.hid (show ∀ k, T k → k ≠ b6 ∧ k < w15.heap.size by rw [hT]; exact HTW.out)
        obtain ⟨M, hM⟩ : ∃ M, M = atP L p := ⟨_, rfl⟩
        rw [← hM] at H15
        have HMM := Lib.hid hM
        obtain ⟨nm, hnm⟩ : ∃ nm, nm = M.length := ⟨_, rfl⟩
        have HNM := Lib.hid hnm
        have hnm4 : nm ≤ 4096 := by
          rw [hnm, hM]
          have := List.length_filter_le (fun e => inB p e && (decide (p.size = 0) || (findE L p).isSome)) L
          unfold atP
          have := HTR.out.ok.len
          omega
        obtain ⟨a15, c15, rfl, hc15, hm15, -⟩ := SeqAt.shape H15.out EntR.len
        rw [← hnm] at hc15 H15 ⊢
        unfold maxLen at hm15
        clear h15 hb15 hT hM hnm HTW
        go_wp2_with fail
        obtain ⟨U, hU⟩ : ∃ U, U = (w15.alloc (.cells #[.slice a15 nm c15] 27)).alloc (.cells #[.int .i64 0] 3) := ⟨_, rfl⟩
        rw [← hU]
        obtain ⟨b23, hb23⟩ : ∃ b23, b23 = w15.heap.size + 1 := ⟨_, rfl⟩
        obtain ⟨b22, hb22⟩ : ∃ b22, b22 = w15.heap.size := ⟨_, rfl⟩
        have HS22 := Lib.hid (show U.heap[b22]? = some (.cells #[.slice a15 nm c15] 27 (0, 0)) by rw [hU, hb22]; exact alloc20 (new20 w15 _) _)
        have HS23 := Lib.hid (show U.heap[b23]? = some (.cells #[.int .i64 0] 3 (0, 0)) by rw [hU, hb23]; exact new20b w15 _ _)
        have HBU := Lib.hid (show Below w15.heap.size w15 U by rw [hU]; exact ((Below.refl _ _).alloc (Nat.le_refl _) _).alloc (by simp) _)
        have hsU : U.heap.size = w15.heap.size + 2 := by rw [hU]; simp
        have HSZ := Lib.hid (show b22 = w15.heap.size ∧ b23 = w15.heap.size + 1 from ⟨hb22, hb23⟩)
        rw [← hb23, ← hb22]
        clear hU hb23 hb22
        refine (walk_any2 (B + 1) p _).mono ?_
        rintro e V ⟨rfl, hw1, hw2, hbV, hsV⟩
        have HU1 := Lib.hid hw1
        have HU2 := Lib.hid hw2
        have HBV := Lib.hid hbV
        have HSU := Lib.hid hsU
        clear hw1 hw2 hbV hsV hsU
        go_wp2_with fail
        have z1 : w15.heap.size ≤ b22 := by have := HSZ.out.1; omega
        have z2 : b22 ≤ w15.heap.size := by have := HSZ.out.1; omega
        have z3 : w15.heap.size < b23 := by have := HSZ.out.2; omega
        have z4 : b23 < w15.heap.size + 2 := by have := HSZ.out.2; omega
        have hTV : U.heap.size ≤ V.heap.size := HBV.out.size
        have hUZ : w15.heap.size + 2 ≤ U.heap.size := by have := HSU.out; omega
        have hw15 : b6 < w15.heap.size ∧ B + 1 < w15.heap.size := by
          have h1 := HD15.out.size; have h2 := HBR0.out.size; have h3 := HLT.out; have h4 := HBB.out
          omega
        have h56 : b5 < b6 := HLT5.out
        have hww : w.heap.size ≤ b6 := HW6.out
        have HTT := Lib.hid (show ∀ k, T k → k < w15.heap.size ∧ k ≠ b23 from fun k hk => by have := (HTB.out k hk).2; exact ⟨this, by omega⟩)
        have HT6 := Lib.hid (show ¬ T b6 from fun h => (HTB.out _ h).1 rfl)
        have HT23 := Lib.hid (show ¬ T b23 from fun h => (HTT.out _ h).2 rfl)
        have HTV := Lib.hid (TreeAt.below (show TreeAt (newF (B + 2) wr) wr (B + 1) B L from HTR.out) (below_next (below_next HD15.out HBU.out) HBV.out))
        have HI0 := Lib.hid (show RdI T b5 b6 b22 b23 (.slice a15 nm c15) M st w false 0 V from by
          have hbv := (below_next HBU.out HBV.out)
          have hb1 := below_next HC4.out (below_next HBR0.out (below_next HD15.out hbv))
          exact ⟨(hb1.block _ (lt20 HS5.out)).trans HS5.out, (hb1.block _ (lt20 HS6.out)).trans HS6.out, (HBV.out.block _ (lt20 HS22.out)).trans HS22.out, (HBV.out.block _ (lt20 HS23.out)).trans HS23.out, H15.out.below hbv, below_next HB1.out hb1⟩)
        have hOI : OwnFrom V.heap.size (fun (xs : List VEnt) W => RdI T b5 b6 b22 b23 (.slice a15 nm c15) M st w false xs.length W) := fun xs X Y row h hg hr =>
          h.turn (Z := V.heap.size) (fun k hk => by have := HTT.out k hk; exact ⟨by omega, this.2⟩) (by omega) (by omega) (by omega) (by omega) (by have := HI0.out.b.size; omega) hg (fun x e => (hr x e).1)
        have hOX : ∀ c, OwnFrom V.heap.size (fun (xs : List VEnt) W => RdX T b5 b6 b22 b23 (.slice a15 nm c15) M st w c xs W) := fun c xs X Y row ⟨hc, r, q, hi, h2⟩ hg hr =>
          ⟨hc, r, q, hi.turn (Z := V.heap.size) (fun k hk => by have := HTT.out k hk; exact ⟨by omega, this.2⟩) (by omega) (by omega) (by omega) (by omega) (by have := HI0.out.b.size; omega) hg (fun x e => (hr x e).1), h2⟩
        have hwk : ∀ (X : World) (b : Nat) (x : Value) (cs : Array Value) (t : TypeId), X.heap[b]? = some (.cells cs t (0, 0)) → t ≠ 9 → t ≠ 25 → B + 1 ≠ b → B ≠ b → ¬ newF (B + 2) wr b → WKeep (newF (B + 2) wr) (B + 1) B L U.heap.size X (X.setCell ⟨b, 0, none⟩ x) := fun X b x cs t hb h1 h2 h3 h4 h5 =>
          wKeep_grown (grown_st X b 0 x) h3 h4 h5 (fun cs' t' e => by rw [hb] at e; cases e; exact ⟨h1, h2⟩)
        refine wp_rangeB (gf := 40) (lb := #[.pointer (some ⟨U.heap.size, 0, none⟩), .pointer (some ⟨U.heap.size + 1, 0, none⟩)]) rfl (enters_of Tryz.func40 (by kernel_rfl) rfl)
          (walk_seq2 (newF (B + 2) wr) (B + 1) B L p U.heap.size (U.heap.size + 1) V HTV.out HPS.out HU1.out HU2.out) wKeep_t (wKeep_b HTV.out) (fun _ => rfl)
          (fun xs W => RdI T b5 b6 b22 b23 (.slice a15 nm c15) M st w false xs.length W) (fun c xs W => RdX T b5 b6 b22 b23 (.slice a15 nm c15) M st w c xs W) 24
          (fun xs x b W => RdI T b5 b6 b22 b23 (.slice a15 nm c15) M st w false xs.length W ∧ EntNew V.heap.size x W ∧ xs.length < 4096 ∧ W.heap[b]? = some (.cells #[.string x.2.path, .int .i64 x.2.kind, .int .i64 x.2.mode, .int .i64 x.2.time, x.1, .string x.2.link] 30 (0, 0)))
          hOI hOX ?own HI0.out ?assign ?body ?done ?stop
        case own =>
          rintro ⟨xs, x, b⟩ X Y row ⟨h1, h2, h3, h4⟩ hg hr
          refine ⟨hOI xs X Y row h1 hg hr, ent_turn h2 hg (fun r e => (hr r e).2), h3, (hg.block b (Array.getElem?_eq_some_iff.1 h4).1 (fun e' => ?_)).trans h4⟩
          obtain ⟨_, ob, ho, hc⟩ := hr b e'.symm
          rw [h4] at ho; cases ho; cases hc
        case assign =>
          rintro l' xs ⟨v, e⟩ X hX hI hD hN
          obtain ⟨a', c', hv, -, -⟩ := owns_shape hD.1
          simp only at hv
          subst hv
          have hbw : Below X.heap.size X (X.alloc (.cells #[.string e.path, .int .i64 e.kind, .int .i64 e.mode, .int .i64 e.time, .slice a' e.data.length c', .string e.link] 30)) := (Below.refl _ _).alloc (Nat.le_refl _) _
          simp only [entV]
          gi_wp2
          refine ⟨KeepsOthers.alloc _ _, wKeep_below hbw, X.heap.size, ⟨hI.below hbw, ⟨own_below hD.1 hbw, hD.2⟩, hN, new20 X _⟩, ?_⟩
          kernel_rfl
        case body =>
          rintro l' xs ⟨v0, e⟩ bb X ⟨hI, hD, hN, hb⟩
          have HI := Lib.hid hI
          obtain ⟨a', c', hv0, ha1, ha2⟩ := owns_shape hD.1
          simp only at hv0
          subst hv0
          simp only at hb
          have HDA := Lib.hid (data_of_owns hD.1)
          have c0 := cell20 (k := 0) hb
          have c1 := cell20 (k := 1) hb
          have c2 := cell20 (k := 2) hb
          have c3 := cell20 (k := 3) hb
          have c4 := cell20 (k := 4) hb
          have c5 := cell20 (k := 5) hb
          have s0 := cell20 (k := 0) hI.s
          have l0 := cell20 (k := 0) hI.l
          have n0 := cell20 (k := 0) hI.c
          have r0 := cell20 (k := 0) hI.r
          simp only [List.getElem?_toArray, List.getElem?_cons_succ, List.getElem?_cons_zero] at c0 c1 c2 c3 c4 c5 s0 l0 n0 r0
          have fr := frozen20 (k := 0) hI.r
          have fc := frozen20 (k := 0) hI.c
          obtain ⟨q, hq⟩ : ∃ q, q = xs.length := ⟨_, rfl⟩
          have HQ := Lib.hid hq
          rw [← hq] at HI n0 hN
          simp only [entV]
          clear hI hD hb hq
          by_cases hqn : nm ≤ q
          · have e1 : decide (nm ≤ q) = true := by simp [hqn]
            gi_wp2_with fail
            refine wpIn_region_segs [some 10, none, some 2] (by kernel_rfl) (by kernel_rfl) (by kernel_rfl) (fun ⟨_, _, h⟩ => h) (by kernel_rfl) ?_
            simp only [wpSegs, List.take_succ_cons, List.take_zero, List.drop_succ_cons, List.drop_zero]
            repeat (first | (refine seg_skip rfl ?_; simp only [Act.put, List.setIfInBounds_toArray, List.set_cons_succ, List.set_cons_zero]) | (refine seg_run rfl (fun K hK => ?_); go_simp; refine hK _ ?_; clear hK K))
            refine seg_nil ?_
            refine bar_skip rfl ?_
            simp only [Act.put, List.setIfInBounds_toArray, List.set_cons_succ, List.set_cons_zero]
            repeat (first | (refine seg_skip rfl ?_; simp only [Act.put, List.setIfInBounds_toArray, List.set_cons_succ, List.set_cons_zero]) | (refine seg_run rfl (fun K hK => ?_); go_simp; refine hK _ ?_; clear hK K))
            refine seg_nil ?_
            gi_wp2_with fail
            refine ⟨(KeepsOthers.setCell _ _ _).trans (KeepsOthers.drew _), rfl, false, q, (HI.out.answer HT6.out (by omega) (by omega) (by omega) hww false).below (Below.refl _ _).drew, .inr ⟨xs, _, rfl, ?_⟩⟩
            rw [← HQ.out, List.getElem?_eq_none (by rw [← HNM.out]; exact hqn)]
            simp
          · have e1 : decide (nm ≤ q) = false := by simp; omega
            have hqn2 : q < nm := by omega
            obtain ⟨em, hem⟩ : ∃ em, M[q]? = some em := ⟨M[q]'(by rw [← HNM.out]; exact hqn2), by simp⟩
            have HEM := Lib.hid hem
            obtain ⟨mb, mo, mv, hma, -, -, hmd, -, -, p0, p1, p2, p3, p4, p5⟩ := ents_at HI.out.m hem
            subst hma
            obtain ⟨ma, mc, rfl, hm1, hm2⟩ := hmd.slice
            unfold maxLen at hm2
            have HMD := Lib.hid hmd
            obtain ⟨rb, hrb⟩ : ∃ rb, decide (e = em) = rb := ⟨_, rfl⟩
            have HRB := Lib.hid hrb
            clear hem hmd hrb
            gi_wp2_with fail
            refine wpIn_region_segs [some 10, none, some 2] (by kernel_rfl) (by kernel_rfl) (by kernel_rfl) (fun ⟨_, _, h⟩ => h) (by kernel_rfl) ?_
            simp only [wpSegs, List.take_succ_cons, List.take_zero, List.drop_succ_cons, List.drop_zero]
            repeat (first | (refine seg_skip rfl ?_; simp only [Act.put, List.setIfInBounds_toArray, List.set_cons_succ, List.set_cons_zero]) | (refine seg_run rfl (fun K hK => ?_); go_simp; refine hK _ ?_; clear hK K))
            refine seg_nil ?_
            refine bar_run rfl (fun K hK => ?_)
            go_wp2_with fail
            refine (r_same20_is _ _ e em (.slice a' e.data.length c') (.slice ma em.data.length mc) rb _ (HDA.out.below (Below.refl X.heap.size X).drew) (HMD.out.below (Below.refl X.heap.size X).drew) HRB.out).mono ?_
            rintro e9 X1 ⟨rfl, hbX⟩
            have HX1 := Lib.hid ((Below.refl X.heap.size X).drew.trans (hbX.mono (Nat.le_refl _)))
            clear hbX c0 c1 c2 c3 c4 c5 s0 l0 n0 r0 fr fc p0 p1 p2 p3 p4 p5
            have HI1 := Lib.hid (HI.out.below HX1.out)
            have s0 := cell20 (k := 0) HI1.out.s
            have n0 := cell20 (k := 0) HI1.out.c
            have r0 := cell20 (k := 0) HI1.out.r
            simp only [List.getElem?_toArray, List.getElem?_cons_zero] at s0 n0 r0
            have fr := frozen20 (k := 0) HI1.out.r
            have fc := frozen20 (k := 0) HI1.out.c
            have HKO := Lib.hid (show KeepsOthers X X1 from ⟨HX1.out.size, fun k o hk _ => (HX1.out.block k (lt20 hk)).trans hk⟩)
            cases rb
            · go_wp2_with fail
              repeat (first | (refine seg_skip rfl ?_; simp only [Act.put, List.setIfInBounds_toArray, List.set_cons_succ, List.set_cons_zero]) | (refine seg_run rfl (fun K hK => ?_); go_simp; refine hK _ ?_; clear hK K))
              refine seg_nil ?_
              gi_wp2_with fail
              refine ⟨HKO.out.trans (KeepsOthers.setCell _ _ _), rfl, false, q, HI1.out.answer HT6.out (by omega) (by omega) (by omega) hww false, .inr ⟨xs, _, rfl, ?_⟩⟩
              rw [← HQ.out, HEM.out]
              intro h
              have h1 := HRB.out
              rw [Option.some.inj h] at h1
              simp at h1
            · go_wp2_with fail
              repeat (first | (refine seg_skip rfl ?_; simp only [Act.put, List.setIfInBounds_toArray, List.set_cons_succ, List.set_cons_zero]) | (refine seg_run rfl (fun K hK => ?_); go_simp; refine hK _ ?_; clear hK K))
              refine seg_nil ?_
              by_cases hqs : ((q + 1 : Nat) : Int) = st
              · subst hqs
                gi_wp2_with fail
                rw [show (q : Int) + 1 = ((q + 1 : Nat) : Int) by omega]
                exact ⟨(HKO.out.trans (KeepsOthers.setCell _ _ _)).trans (KeepsOthers.setCell _ _ _), rfl, true, q + 1, (HI1.out.count HT23.out (by omega) (by omega) (by omega) (by omega) (q + 1)).answer HT6.out (by omega) (by omega) (by omega) hww true, .inl rfl⟩
              · have e3 : (((q + 1 : Nat) : Int) == st) = false := by simpa using hqs
                gi_wp2_with fail
                rw [show (q : Int) + 1 = ((q + 1 : Nat) : Int) by omega]
                refine ⟨HKO.out.trans (KeepsOthers.setCell _ _ _), wKeep_t (wKeep_below HX1.out) (hwk X1 b23 _ _ _ HI1.out.c (by decide) (by decide) (by omega) (by omega) (fun h => by have h1 := h.2; have h2 := HD15.out.size; omega)), ?_⟩
                have h1 := HI1.out.count HT23.out (by omega) (by omega) (by omega) (by omega) (q + 1)
                show RdI _ _ _ _ _ _ _ _ _ _ (xs ++ [_]).length _
                rw [List.length_append, List.length_singleton, ← HQ.out]
                exact h1
        case done =>
          rintro Dl ys W hDl hS hI hK
          obtain ⟨q, hq⟩ : ∃ q, q = ys.length := ⟨_, rfl⟩
          have hqn : q = nm := by
            have h1 := congrArg List.length hS
            rw [List.length_map, ← HMM.out, ← HNM.out] at h1
            omega
          rw [← hq] at hI
          subst hqn
          have HI := Lib.hid hI
          have HK := Lib.hid hK
          have HDL := Lib.hid (show w.heap.size ≤ Dl from Nat.le_trans (Nat.le_trans (by omega) hTV) hDl)
          have l0 := cell20 (k := 0) hI.l
          have n0 := cell20 (k := 0) hI.c
          have r0 := cell20 (k := 0) hI.r
          simp only [List.getElem?_toArray, List.getElem?_cons_zero] at l0 n0 r0
          have fr := frozen20 (k := 0) hI.r
          clear hS hI hK hq hDl
          go_wp2_with fail
          obtain ⟨W5, hW5⟩ : ∃ W5, W5 = W.setCell ⟨b6, 0, none⟩ (.bool true) := ⟨_, rfl⟩
          rw [← hW5]
          have HI5 := Lib.hid (show RdI T b5 b6 b22 b23 (.slice a15 q c15) M st w true q W5 by rw [hW5]; exact HI.out.answer HT6.out (by omega) (by omega) (by omega) hww true)
          have HK5 := Lib.hid (show W5.heap[Dl]? = some (.deferred (some [])) by
            rw [hW5]
            refine setOther20 HK.out (fun e' => ?_) _
            have h1 := HI.out.r
            rw [← e', HK.out] at h1
            cases h1)
          clear hW5 l0 n0 r0 fr
          refine ⟨by simp, .inl ⟨_, _, rfl, run_takeDeferred HK5.out, ?_⟩⟩
          refine ⟨_, reads_res (((grownBy_putObj' _ Dl (.deferred none)).block b6 (lt20 HI5.out.r) (fun e' => ?_)).trans HI5.out.r) rfl, rfl, HI5.out.b.trans (belowK_b (w := w) (Nat.le_refl _) _ Dl _ _ HDL.out HK5.out rfl rfl)⟩
          have h1 := HI5.out.r
          rw [Option.some.inj e', HK5.out] at h1
          cases h1
        case stop =>
          rintro Dl c xs W hDl hSp hX hK
          obtain ⟨rfl, q, hI⟩ := rdX_true hX HMM.out.symm hSp
          have HI5 := Lib.hid hI
          have HK5 := Lib.hid hK
          have HDL := Lib.hid (show w.heap.size ≤ Dl from Nat.le_trans (Nat.le_trans (by omega) hTV) hDl)
          clear hX hK hI hSp hDl
          go_wp2_with fail
          refine ⟨by simp, .inl ⟨_, _, rfl, run_takeDeferred HK5.out, ?_⟩⟩
          refine ⟨_, reads_res (((grownBy_putObj' _ Dl (.deferred none)).block b6 (lt20 HI5.out.r) (fun e' => ?_)).trans HI5.out.r) rfl, rfl, HI5.out.b.trans (belowK_b (w := w) (Nat.le_refl _) _ Dl _ _ HDL.out HK5.out rfl rfl)⟩
          have h1 := HI5.out.r
          rw [Option.some.inj e', HK5.out] at h1
          cases h1

end Go.Proofs.YtbkhdpocmmjnbaaGreatDoor

/- FiletreeReads: for every input the law returns true, and each argument reads afterwards as it read before (the tied card). -/
namespace Go.Proofs.YtbkhdpocmmjnbaaGreatDoor
open Go.ChangeShapes Go.WideShapes Go.ChangeAt Go.RowKit Go.Lib Go.Shelf
open Go.ChangeMaps (open_string shut_string)

namespace CReads
set_option maxRecDepth 100000 in
theorem lifted (os : Os) (started : os.Started) (H : Type) (enc : TypeId × Value → H) :
    ReturnsInHanded {} Tryz.checked os 4 .any (fun w args => (Rows.filetreeReadsSpec.pre enc Tryz.prog Tryz.f4 [] false w args ∧ laidMetH Tryz.prog laidL w) ∧ sizedMet enc Tryz.prog Tryz.f4 (OpenSpec.ofChange Rows.filetreeReadsSpec) false w args)
      (Rows.filetreeReadsSpec.post enc Tryz.prog Tryz.f4 false true false false) := by
  refine handed (C := Tryz.checked) (X := fun w _ => laidMetH Tryz.prog laidL w) (fun _ _ _ hh h => h.of_heap hh) own started (by kernel_rfl) Tryz.func4
    (ChangeSpec.witness_shaped (enc := enc) (C := Tryz.checked) (os := os) (X := fun w _ => laidMetH Tryz.prog laidL w) false (World.laidAll Tryz.prog os laidL) #[.slice none 0 0, .string ⟨#[]⟩, .int .i64 0] 8 (World.laidAll_os _ _ _)
      (World.shaped_of_ZipB (by kernel_rfl) (by kernel_rfl)) (by kernel_rfl) (by kernel_rfl) (by kernel_rfl)
      (by rw [MakeChecks.laidMetH_plain _ _ _ (by kernel_rfl)]; exact laidMet_laidAll _ (by kernel_rfl) (by kernel_rfl))) ?_
  intro W base args ds gs before hval0 hW _hWt hL hsh
  have hval : ∀ (j : Nat) t v, Tryz.f4.params[j]? = some t → args[j]? = some v → Value.okWide Tryz.prog W .any base t v := hval0
  have hW' := hW
  obtain ⟨p, q, hA0, hV, rfl, _, _⟩ := hW
  have hA : DataW.TrodAll enc Tryz.prog W 0 (fun _ => true) true Tryz.f4.params.toList args.toList ds p := hA0
  rw [Tryz.params4] at hA hval
  obtain ⟨rfl, rfl⟩ := trodVars_none hV
  simp only [List.append_nil] at hW'
  obtain ⟨v0, v1, v2, d0, d1, d2, p0, p1, p2, rfl, rfl, rfl, h0, h1, h2⟩ := trodAll_three hA
  obtain ⟨l, hl⟩ := open_ops (hval 0 22 v0 rfl rfl) h0
  obtain ⟨q1, rfl, rfl, rfl, w1⟩ := open_string Tryz.underlying9 (hval 1 9 v1 rfl rfl) h1
  obtain ⟨q2, rfl, rfl, rfl, w2⟩ := open_int Tryz.underlying3 (hval 2 3 v2 rfl rfl) h2
  have hlt0 : ∀ x ∈ p0, x.block < W.heap.size := fun x hx => by simpa using hW'.lt x (by simp [hx])
  refine (reads_walk l v0 q1 q2 W hl w1 w2 (env_of hL hsh)).mono fun e W' ⟨he, hb⟩ => ?_
  subst he
  exact ⟨_, rfl, _, _, _, [], _, [], hW', trodAll_mk1 (shut_bool Tryz.underlying4 _), trodAll_mk3 (Below.trod laidOut (by kernel_rfl) (of_decide_eq_true (by kernel_rfl)) h0 hb hlt0) (shut_string Tryz.underlying9 w1) (shut_int Tryz.underlying3 w2), rfl, hb.frame _, fun h => by cases h⟩
theorem holds : Rows.FiletreeReadsSaid :=
  OpenClaim.holds_of_wide 4 Tryz.f4 rfl rfl rfl rfl rfl rfl rfl ⟨rfl, rfl, rfl, rfl, rfl⟩ rfl rfl rfl rfl rfl (by kernel_rfl) Tryz.func4 (by kernel_rfl)
    (of_decide_eq_true (by kernel_rfl)) (by unfold Func.isWrapper; first | (rw [if_pos (by decide +kernel)]; kernel_rfl) | (rw [if_neg (by decide +kernel)]; exact ⟨rfl, rfl⟩))
    (fun os started H enc _ => lifted os started H enc)
theorem card_holds : Rows.FiletreeReadsCardSaid :=
  Claim7.holds_tied_plain_at .later [] [.data, .pinned] true (true, "2207397a227789d21932012cf5ef2a1caaf28db5b6cb1625a63e75549e1d9883") false holds (fun _ h => by cases h) (by kernel_rfl) (fun _ h => by cases h) filetreeReads_row_tie rfl ⟨rfl, rfl⟩ (by kernel_rfl) rfl
    (fun f fn hf hfn => by
      obtain rfl : f = 4 := Option.some.inj ((show Tryz.prog.funcNamed "kinkeep/kinkeeplaw20.FiletreeReads" = some 4 by kernel_rfl).symm.trans hf) |>.symm
      obtain rfl : fn = Tryz.f4 := (Option.some.inj (Tryz.func4.symm.trans hfn)).symm
      exact ⟨by kernel_rfl, fun j t ht => by
        rw [Tryz.params4] at ht
        have hm : t ∈ [22, 9, 3] := by simpa using Array.mem_of_getElem? ht
        have hall : ([22, 9, 3].all fun u => !Tryz.prog.wantsStandIn u) = true := by kernel_rfl
        exact (show Tryz.prog.wantsStandIn t = false by simpa using List.all_eq_true.1 hall t hm)⟩)
    (by kernel_rfl)
#print axioms card_holds
end CReads
theorem filetreeReads_card : Rows.FiletreeReadsCardSaid := CReads.card_holds
end Go.Proofs.YtbkhdpocmmjnbaaGreatDoor
