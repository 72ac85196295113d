/- Texts of this proof, one after the other: RfN, RfO, RfL, RfJ, Eq4, LawStays, LawMoves, ByteV, FtV. -/
import Derived.Test.YtbkhdpocmmjnbaaGreatDoorME
import Derived.ChangeKeysEq
import Derived.Laws.StructEq
/- Contracts of the specification kinkeepref20: Move. -/
namespace Go.Proofs.YtbkhdpocmmjnbaaGreatDoor
open Go Go.RowKit Go.Maps


theorem moved_val {src dst : ByteArray} {e : Ent} (hi : inB src e = true) : dst ++ e.path.extract src.size e.path.size = (moveE src dst e).path := by
  rw [moveE_eq hi]
  refine bl_inj ?_
  simp only [bl, size_bl, ByteArray.data_append, ByteArray.data_extract, Array.toList_append, Array.toList_extract]
  congr 1
  rw [List.extract_eq_take_drop]
  refine List.take_of_length_le ?_
  rw [List.length_drop]
  exact Nat.le_refl _
theorem moveE_ok {src dst : ByteArray} {e : Ent} (h : EntOk e) (hp : (moveE src dst e).path.size ≤ maxLen) : EntOk (moveE src dst e) := by
  have h1 : (moveE src dst e) = { e with path := (moveE src dst e).path } := by unfold moveE; split <;> rfl
  rw [h1]
  exact { h with pth := hp }
theorem moveE_data {src dst : ByteArray} {e : Ent} : (moveE src dst e).data = e.data := by unfold moveE; split <;> rfl
theorem moveE_flat {src dst : ByteArray} {e : Ent} : (moveE src dst e) = ⟨(moveE src dst e).path, e.kind, e.mode, e.time, e.data, e.link⟩ := by unfold moveE; split <;> rfl
set_option maxRecDepth 100000 in
set_option maxHeartbeats 4000000 in
theorem r_move_any (S : Nat → Prop) (L : List Ent) (v : Value) (p q : ByteArray) (w : World) (hv : EntsAt S w v L) (ht : TOk L) (hp : p.size ≤ 65000) (hq : q.size ≤ 65000) :
    Calls Tryz.prog 30 #[v, .string p, .string q] w (RList S (moveP L p q) w) := by
  have HV := Lib.hid hv
  have HT := Lib.hid ht
  have HP := Lib.hid hp
  have HQ := Lib.hid hq
  have HPS := Lib.hid (show ∀ e ∈ L, e.path.size ≤ 512 from fun e he => by have := valid_size (vEnt_path (ht.val e he)); rw [size_bl]; omega)
  obtain ⟨a, cap, rfl, hc, hm, -⟩ := SeqAt.shape hv EntR.len
  unfold maxLen at hm
  obtain ⟨n, hn⟩ : ∃ n, n = L.length := ⟨_, rfl⟩
  have hn4 : n ≤ 4096 := by rw [hn]; exact ht.len
  have HN := Lib.hid hn
  rw [← hn] at hc HV ⊢
  clear hv ht hn
  go_enter Tryz.func30, Tryz.ntmps30
  go_wp2_with fail
  cases hvp : validP (bl p)
  · have HVP := Lib.hid hvp
    have HPM := Lib.hid (show moveP L p q = (L, 1) by unfold moveP; rw [hvp]; rfl)
    clear hvp
    refine (r_valid20_is p false _ (by have := HP.out; omega) HVP.out).mono ?_
    rintro e w1 ⟨rfl, hb1⟩
    have HB1 := Lib.hid hb1
    clear hb1
    go_wp2_with fail
    go_ret2
    exact ⟨.slice a n cap, by rw [HPM.out]; rfl, by rw [HPM.out]; exact ents_wide HV.out HB1.out, HB1.out⟩
  have HVP := Lib.hid hvp
  refine (r_valid20_is p true _ (by have := HP.out; omega) HVP.out).mono ?_
  rintro e w1 ⟨rfl, hb1⟩
  have HB1 := Lib.hid hb1
  clear hb1 hvp
  go_wp2_with fail
  cases hvq : validP (bl q)
  · have HVQ := Lib.hid hvq
    have HPM := Lib.hid (show moveP L p q = (L, 1) by unfold moveP; rw [HVP.out, hvq]; rfl)
    clear hvq
    refine (r_valid20_is q false _ (by have := HQ.out; omega) HVQ.out).mono ?_
    rintro e w2 ⟨rfl, hb2⟩
    have HB2 := Lib.hid (below_next HB1.out hb2)
    clear hb2
    go_wp2_with fail
    go_ret2
    exact ⟨.slice a n cap, by rw [HPM.out]; rfl, by rw [HPM.out]; exact ents_wide HV.out HB2.out, HB2.out⟩
  have HVQ := Lib.hid hvq
  refine (r_valid20_is q true _ (by have := HQ.out; omega) HVQ.out).mono ?_
  rintro e w2 ⟨rfl, hb2⟩
  have HB2 := Lib.hid (below_next HB1.out hb2)
  clear hb2 hvq
  go_wp2_with fail
  rcases findIx_spec (p := p) L 0 with ⟨hf, hix⟩ | ⟨j, f, hf, hjf, hix⟩
  · have HFX := Lib.hid hix
    have HPM := Lib.hid (show moveP L p q = (L, 4) by unfold moveP; rw [HVP.out, HVQ.out, hf]; rfl)
    clear hix hf
    refine (r_find_is S L _ p (-1) _ (HV.out.below HB2.out) HFX.out).mono ?_
    rintro e w3 ⟨rfl, hb3⟩
    have HB3 := Lib.hid (below_next HB2.out hb3)
    clear hb3
    go_wp2_with fail
    go_ret2
    exact ⟨.slice a n cap, by rw [HPM.out]; rfl, by rw [HPM.out]; exact ents_wide HV.out HB3.out, HB3.out⟩
  have HFX := Lib.hid (show findIx L p 0 = (j : Int) by rw [hix]; simp)
  have HF := Lib.hid hf
  clear hix hf hjf
  refine (r_find_is S L _ p (j : Int) _ (HV.out.below HB2.out) HFX.out).mono ?_
  rintro e w3 ⟨rfl, hb3⟩
  have HB3 := Lib.hid (below_next HB2.out hb3)
  clear hb3
  go_wp2_with fail
  cases hwi : withinB (bl p) (bl q)
  case true =>
    have HWI := Lib.hid hwi
    have HPM := Lib.hid (show moveP L p q = (L, 13) by unfold moveP; rw [HVP.out, HVQ.out, HF.out, hwi]; rfl)
    clear hwi
    refine (r_within20 p q true _ (by have := HP.out; omega) (by have := HQ.out; omega) HWI.out).mono ?_
    rintro e w4 ⟨rfl, hb4⟩
    have HB4 := Lib.hid (below_next HB3.out hb4)
    clear hb4
    go_wp2_with fail
    go_ret2
    exact ⟨.slice a n cap, by rw [HPM.out]; rfl, by rw [HPM.out]; exact ents_wide HV.out HB4.out, HB4.out⟩
  have HWI := Lib.hid hwi
  refine (r_within20 p q false _ (by have := HP.out; omega) (by have := HQ.out; omega) HWI.out).mono ?_
  rintro e w4 ⟨rfl, hb4⟩
  have HB4 := Lib.hid (below_next HB3.out hb4)
  clear hb4 hwi
  go_wp2_with fail
  rcases findIx_spec (p := q) L 0 with ⟨hg, hix⟩ | ⟨j2, g, hg, -, hix⟩
  case inr =>
    have HGX := Lib.hid (show findIx L q 0 = (j2 : Int) by rw [hix]; simp)
    have HPM := Lib.hid (show moveP L p q = (L, 5) by unfold moveP; rw [HVP.out, HVQ.out, HF.out, HWI.out, hg]; rfl)
    clear hix hg
    refine (r_find_is S L _ q (j2 : Int) _ (HV.out.below HB4.out) HGX.out).mono ?_
    rintro e w5 ⟨rfl, hb5⟩
    have HB5 := Lib.hid (below_next HB4.out hb5)
    clear hb5
    go_wp2_with fail
    go_ret2
    exact ⟨.slice a n cap, by rw [HPM.out]; rfl, by rw [HPM.out]; exact ents_wide HV.out HB5.out, HB5.out⟩
  have HGX := Lib.hid hix
  have HG := Lib.hid hg
  clear hix hg
  refine (r_find_is S L _ q (-1) _ (HV.out.below HB4.out) HGX.out).mono ?_
  rintro e w5 ⟨rfl, hb5⟩
  have HB5 := Lib.hid (below_next HB4.out hb5)
  clear hb5
  go_wp2_with fail
  obtain ⟨u, hu⟩ : ∃ u : ByteArray, u = ⟨(parentL (bl q)).toArray⟩ := ⟨_, rfl⟩
  have HU := Lib.hid hu
  have HUB := Lib.hid (show bl u = parentL (bl q) by rw [hu, bl_mk])
  clear hu
  refine (r_parent_is q u _ HQ.out HU.out).mono ?_
  rintro e w6 ⟨rfl, hb6⟩
  have HB6 := Lib.hid (below_next HB5.out hb6)
  clear hb6
  go_wp2_with fail
  obtain ⟨x, hx⟩ : ∃ x, dirE L (bl u) = x := ⟨_, rfl⟩
  have HXD := Lib.hid hx
  have hx2 : dirE L (parentL (bl q)) = x := by rw [← HUB.out]; exact hx
  refine (r_dir_is S L _ u x _ (HV.out.below HB6.out) HXD.out).mono ?_
  rintro e w7 ⟨rfl, hb7⟩
  have HB7 := Lib.hid (below_next HB6.out hb7)
  clear hb7 hx
  by_cases hx0 : x = 0
  case neg =>
    have e1 : (x != 0) = true := by simp [hx0]
    have HPM := Lib.hid (show moveP L p q = (L, x) by unfold moveP; rw [HVP.out, HVQ.out, HF.out, HWI.out, HG.out, hx2, if_neg (by simp), if_neg (by simp), if_neg (by simp), if_neg (by simp), if_pos hx0])
    clear hx2 hx0
    go_wp2_with fail
    go_ret2
    exact ⟨.slice a n cap, by rw [HPM.out]; rfl, by rw [HPM.out]; exact ents_wide HV.out HB7.out, HB7.out⟩
  subst hx0
  have HPM0 := Lib.hid (show moveP L p q = if (L.all fun e => !inB p e || validP (bl (moveE p q e).path)) = false then (L, 2) else (sortP (L.map (moveE p q)), 0) by
    unfold moveP; rw [HVP.out, HVQ.out, HF.out, HWI.out, HG.out, hx2, if_neg (by simp), if_neg (by simp), if_neg (by simp), if_neg (by simp), if_neg (by simp)])
  clear hx2
  have hps2 : p.size ≤ 512 := by have := valid_size HVP.out; rw [size_bl]; omega
  have hqs2 : q.size ≤ 512 := by have := valid_size HVQ.out; rw [size_bl]; omega
  go_wp2_with fail
  go_loopw [9, 45] (fun v i wr => ∃ (k : Nat) (ys : List VEnt), k ≤ n ∧ i = .int .i64 k ∧ LoopG S w ((L.take k).map (moveE p q)) ys v wr ∧ ((L.take k).all fun e => !inB p e || validP (bl (moveE p q e).path)) = true) (fun _ i _ => n - (intOf i).toNat)
  case atStart => exact ⟨0, [], Nat.zero_le _, rfl, by simpa using LoopG.nil S w HB7.out, by simp⟩
  case round =>
    obtain ⟨k, ys, hk, rfl, hlg, hall⟩ := hrel
    have HLG := Lib.hid hlg
    have HALL := Lib.hid hall
    obtain ⟨av, cv, hsv, hvn, hvm, hyl⟩ := hlg.shape
    subst hsv
    have hyk : ys.length ≤ k := by rw [hyl, List.length_map]; exact List.length_take_le _ _
    clear hyl
    unfold maxLen at hvm
    clear hlg hall
    by_cases hlt : k < n
    · have hlt2 := hlt
      obtain ⟨e, he⟩ : ∃ e, L[k]? = some e := ⟨L[k]'(by rw [← HN.out]; exact hlt), by simp⟩
      obtain ⟨b, o, dv, rfl, -, hb, hd, hok, -, q0, q1, q2, q3, q4, q5⟩ := ents_at HV.out he
      have r0 := (HLG.out.2.2.2.cell (block_lt q0)).trans q0
      have r1 := (HLG.out.2.2.2.cell (block_lt q1)).trans q1
      have r2 := (HLG.out.2.2.2.cell (block_lt q2)).trans q2
      have r3 := (HLG.out.2.2.2.cell (block_lt q3)).trans q3
      have r4 := (HLG.out.2.2.2.cell (block_lt q4)).trans q4
      have r5 := (HLG.out.2.2.2.cell (block_lt q5)).trans q5
      have HX := Lib.hid he
      have HD := Lib.hid hd
      have HOK := Lib.hid hok
      have HPE := Lib.hid (HPS.out e (List.mem_of_getElem? he))
      obtain ⟨a1, cap1, rfl, hd1, hd2⟩ := hd.slice
      unfold maxLen at hd2
      clear he hd hok q0 q1 q2 q3 q4 q5
      have heL := List.mem_of_getElem? HX.out
      go_upto_region 16 with (fail)
      obtain ⟨W, hW⟩ : ∃ W, W = wr.alloc (.cells #[.string e.path, .int .i64 e.kind, .int .i64 e.mode, .int .i64 e.time, .slice a1 e.data.length cap1, .string e.link] 30) := ⟨_, rfl⟩
      rw [← hW]
      have HXW := Lib.hid (show W.heap[wr.heap.size]? = some (.cells #[.string e.path, .int .i64 e.kind, .int .i64 e.mode, .int .i64 e.time, .slice a1 e.data.length cap1, .string e.link] 30 (0, 0)) by rw [hW]; exact new20 wr _)
      have HWL := Lib.hid (show Below wr.heap.size wr W by rw [hW]; exact (Below.refl _ _).alloc (Nat.le_refl _) _)
      clear hW r0 r1 r2 r3 r4 r5
      have c0 := cell20 (k := 0) HXW.out
      have c1 := cell20 (k := 1) HXW.out
      have c2 := cell20 (k := 2) HXW.out
      have c3 := cell20 (k := 3) HXW.out
      have c4 := cell20 (k := 4) HXW.out
      have c5 := cell20 (k := 5) HXW.out
      simp only [List.getElem?_toArray, List.getElem?_cons_succ, List.getElem?_cons_zero] at c0 c1 c2 c3 c4 c5
      go_wp2_with fail
      cases hin : inB p e
      · obtain ⟨np, hnp⟩ : ∃ np, np = e.path := ⟨_, rfl⟩
        have HNP := Lib.hid (show np = (moveE p q e).path by rw [moveE_no hin]; exact hnp)
        have HVN := Lib.hid (show (List.all [e] fun e => !inB p e || validP (bl (moveE p q e).path)) = true by simp [hin])
        have HOKN := Lib.hid (show EntOk ⟨np, e.kind, e.mode, e.time, e.data, e.link⟩ by rw [hnp]; exact HOK.out)
        refine (r_within20 p e.path false _ (by have := HP.out; omega) (by have := HPS.out e heL; omega) hin).mono ?_
        rintro e7 w8 ⟨rfl, hb8⟩
        have HL8 := Lib.hid (HWL.out.trans (hb8.mono HWL.out.size))
        have HX8 := Lib.hid (show w8.heap[wr.heap.size]? = some (.cells #[.string np, .int .i64 e.kind, .int .i64 e.mode, .int .i64 e.time, .slice a1 e.data.length cap1, .string e.link] 30 (0, 0)) by rw [hnp]; exact (hb8.block _ (lt20 HXW.out)).trans HXW.out)
        clear hb8 hin hnp c0 c1 c2 c3 c4 c5 heL
        have c0 := cell20 (k := 0) HX8.out
        have c1 := cell20 (k := 1) HX8.out
        have c2 := cell20 (k := 2) HX8.out
        have c3 := cell20 (k := 3) HX8.out
        have c4 := cell20 (k := 4) HX8.out
        have c5 := cell20 (k := 5) HX8.out
        simp only [List.getElem?_toArray, List.getElem?_cons_succ, List.getElem?_cons_zero] at c0 c1 c2 c3 c4 c5
        have HO7 := Lib.hid (HLG.out.below HL8.out)
        have hsz7 : w.heap.size ≤ (w8).heap.size := HO7.out.2.2.2.size
        go_wp2_with (at_builtin; go_must (refine wpList_app1p Tryz.appEnts rfl _ _ rfl w.heap.size (.slice av ys.length cv) ys.length (entsC ys) rfl w8 (entC (.slice a1 e.data.length cap1) ⟨np, e.kind, e.mode, e.time, e.data, e.link⟩) _ rfl rfl entC_one HO7.out.2.1 (by omega) hsz7 ?_); intro v' w9 hown9 hgrow9 _ _; have HPU := Lib.hid (HO7.out.push (y := (.slice a1 e.data.length cap1, ⟨np, e.kind, e.mode, e.time, e.data, e.link⟩)) HD.out HOKN.out hown9 hgrow9); clear hown9 hgrow9)
        go_wp2_with fail
        go_roundw
        case rel =>
          refine ⟨k + 1, ys ++ [(.slice a1 e.data.length cap1, ⟨np, e.kind, e.mode, e.time, e.data, e.link⟩)], by omega, by go_num, ?_, ?_⟩
          · have h1 := HPU.out
            rw [List.take_add_one, HX.out, List.map_append]
            show LoopG S w (_ ++ [moveE p q e]) _ _ _
            rw [moveE_flat (src := p) (dst := q) (e := e), ← HNP.out]
            exact h1
          · rw [List.take_add_one, HX.out]
            show (_ ++ [e]).all _ = true
            rw [List.all_append, HALL.out, HVN.out]
            rfl
        case measure => simp [intOf]; omega
      · have HIN := Lib.hid hin
        refine (r_within20 p e.path true _ (by have := HP.out; omega) (by have := HPS.out e heL; omega) hin).mono ?_
        rintro e7 w8 ⟨rfl, hb8⟩
        have HL8 := Lib.hid (HWL.out.trans (hb8.mono HWL.out.size))
        have HX8 := Lib.hid ((hb8.block _ (lt20 HXW.out)).trans HXW.out)
        obtain ⟨t, hbt, -⟩ := within_rest HT.out HVP.out heL hin
        have hle : p.size ≤ e.path.size := by rw [size_bl, size_bl, hbt]; simp
        have hes := HPS.out e heL
        clear hb8 hin c0 c1 c2 c3 c4 c5 hbt
        have c0 := cell20 (k := 0) HX8.out
        have c1 := cell20 (k := 1) HX8.out
        have c2 := cell20 (k := 2) HX8.out
        have c3 := cell20 (k := 3) HX8.out
        have c4 := cell20 (k := 4) HX8.out
        have c5 := cell20 (k := 5) HX8.out
        simp only [List.getElem?_toArray, List.getElem?_cons_succ, List.getElem?_cons_zero] at c0 c1 c2 c3 c4 c5
        have m0 := frozen20 (k := 0) HX8.out
        go_wp2_with fail
        obtain ⟨np, hnp⟩ : ∃ np, np = q ++ e.path.extract p.size e.path.size := ⟨_, rfl⟩
        have HNP := Lib.hid (show np = (moveE p q e).path by rw [hnp]; exact moved_val HIN.out)
        have hns : np.size ≤ 1024 := by rw [hnp, ByteArray.size_append, ByteArray.size_extract]; omega
        rw [← hnp]
        obtain ⟨V, hV⟩ : ∃ V, V = w8.setCell ⟨wr.heap.size, 0, none⟩ (.string np) := ⟨_, rfl⟩
        rw [← hV]
        have HL9 := Lib.hid (show Below wr.heap.size wr V by rw [hV]; exact below_set20 HL8.out (Nat.le_refl _))
        have HX9 := Lib.hid (show V.heap[wr.heap.size]? = some (.cells #[.string np, .int .i64 e.kind, .int .i64 e.mode, .int .i64 e.time, .slice a1 e.data.length cap1, .string e.link] 30 (0, 0)) by rw [hV]; exact set20 HX8.out _)
        have HOKN := Lib.hid (show EntOk ⟨np, e.kind, e.mode, e.time, e.data, e.link⟩ from { HOK.out with pth := by show np.size ≤ maxLen; unfold maxLen; omega })
        clear hV hnp c0 c1 c2 c3 c4 c5 m0
        cases hvn : validP (bl np)
        · have HVV := Lib.hid hvn
          have HPM := Lib.hid (show moveP L p q = (L, 2) by
            rw [HPM0.out, if_pos ?_]
            rw [Bool.eq_false_iff]
            intro hc
            have h1 := List.all_eq_true.1 hc e heL
            rw [HIN.out, ← HNP.out, hvn] at h1
            cases h1)
          clear hvn heL
          refine (r_valid20_is np false _ (by omega) HVV.out).mono ?_
          rintro e7 w10 ⟨rfl, hb10⟩
          have HBZ := Lib.hid (below_next HLG.out.2.2.2 (HL9.out.trans (hb10.mono HL9.out.size)))
          clear hb10
          go_wp2_with fail
          go_ret2
          exact ⟨.slice (some ⟨b, o, none⟩) n cap, by rw [HPM.out]; rfl, by rw [HPM.out]; exact ents_wide HV.out HBZ.out, HBZ.out⟩
        · have HVV := Lib.hid hvn
          have HVN := Lib.hid (show (List.all [e] fun e => !inB p e || validP (bl (moveE p q e).path)) = true by
            simp only [List.all_cons, List.all_nil, Bool.and_true]
            rw [← HNP.out, hvn]
            simp)
          clear hvn heL
          refine (r_valid20_is np true _ (by omega) HVV.out).mono ?_
          rintro e7 w10 ⟨rfl, hb10⟩
          have HL10 := Lib.hid (HL9.out.trans (hb10.mono HL9.out.size))
          have HX10 := Lib.hid ((hb10.block _ (lt20 HX9.out)).trans HX9.out)
          clear hb10
          have c0 := cell20 (k := 0) HX10.out
          have c1 := cell20 (k := 1) HX10.out
          have c2 := cell20 (k := 2) HX10.out
          have c3 := cell20 (k := 3) HX10.out
          have c4 := cell20 (k := 4) HX10.out
          have c5 := cell20 (k := 5) HX10.out
          simp only [List.getElem?_toArray, List.getElem?_cons_succ, List.getElem?_cons_zero] at c0 c1 c2 c3 c4 c5
          have HO7 := Lib.hid (HLG.out.below HL10.out)
          have hsz7 : w.heap.size ≤ (w10).heap.size := HO7.out.2.2.2.size
          go_wp2_with (at_builtin; go_must (refine wpList_app1p Tryz.appEnts rfl _ _ rfl w.heap.size (.slice av ys.length cv) ys.length (entsC ys) rfl w10 (entC (.slice a1 e.data.length cap1) ⟨np, e.kind, e.mode, e.time, e.data, e.link⟩) _ rfl rfl entC_one HO7.out.2.1 (by omega) hsz7 ?_); intro v' w9 hown9 hgrow9 _ _; have HPU := Lib.hid (HO7.out.push (y := (.slice a1 e.data.length cap1, ⟨np, e.kind, e.mode, e.time, e.data, e.link⟩)) HD.out HOKN.out hown9 hgrow9); clear hown9 hgrow9)
          go_wp2_with fail
          go_roundw
          case rel =>
            refine ⟨k + 1, ys ++ [(.slice a1 e.data.length cap1, ⟨np, e.kind, e.mode, e.time, e.data, e.link⟩)], by omega, by go_num, ?_, ?_⟩
            · have h1 := HPU.out
              rw [List.take_add_one, HX.out, List.map_append]
              show LoopG S w (_ ++ [moveE p q e]) _ _ _
              rw [moveE_flat (src := p) (dst := q) (e := e), ← HNP.out]
              exact h1
            · rw [List.take_add_one, HX.out]
              show (_ ++ [e]).all _ = true
              rw [List.all_append, HALL.out, HVN.out]
              rfl
          case measure => simp [intOf]; omega
    · have hk2 : k = n := by omega
      have hlx := HLG.out
      have hax := HALL.out
      rw [hk2, HN.out, List.take_length] at hlx hax
      have HLX := Lib.hid hlx
      have HPM := Lib.hid (show moveP L p q = (sortP (L.map (moveE p q)), 0) by rw [HPM0.out, if_neg (by rw [hax]; simp)])
      have HMS := Lib.hid (show ∀ e ∈ L.map (moveE p q), e.path.size ≤ 65000 from fun e he => by
        obtain ⟨f, hf, rfl⟩ := List.mem_map.1 he
        have h1 := HPS.out f hf
        cases hi : inB p f
        · rw [moveE_no hi]; omega
        · rw [← moved_val hi, ByteArray.size_append, ByteArray.size_extract]; omega)
      clear hlx hax hk2
      go_wp2_with fail
      refine (r_sorted_any (fun k => S k ∨ w.heap.size ≤ k) (L.map (moveE p q)) _ _ HLX.out.out HMS.out (by rw [List.length_map, ← HN.out]; omega)).mono ?_
      rintro e9 w9 ⟨v9, rfl, h9, hb9⟩
      have H9 := Lib.hid (ents_mo (T := fun k => S k ∨ w.heap.size ≤ k) h9 (fun k _ hk => by
        rcases hk with hk | hk
        · exact hk
        · exact .inr (Nat.le_trans HLX.out.2.2.2.size hk)))
      have HB9 := Lib.hid (below_next HLX.out.2.2.2 hb9)
      clear h9 hb9
      go_wp2_with fail
      go_ret2
      exact ⟨v9, by rw [HPM.out]; rfl, by rw [HPM.out]; exact H9.out, HB9.out⟩

end Go.Proofs.YtbkhdpocmmjnbaaGreatDoor

/- Contracts of the specification kinkeepref20: Do. -/
namespace Go.Proofs.YtbkhdpocmmjnbaaGreatDoor
open Go Go.RowKit Go.Maps

set_option maxRecDepth 100000 in
set_option maxHeartbeats 2000000 in
theorem r_do_any (S : Nat → Prop) (L : List Ent) (v ev : Value) (x : POp) (w : World) (hv : EntsAt S w v L) (ht : TOk L) (hd : DataAt S w ev x.en.data) (hok : OpOk x) (hpe : x.en.path.size ≤ 65000) (hps : x.src.size ≤ 65000) (hpd : x.dst.size ≤ 65000) :
    Calls Tryz.prog 8 #[v, opV ev x] w (RList S (doP L x) w) := by
  have HT := Lib.hid ht
  have HOK := Lib.hid hok
  have HP1 := Lib.hid hpe
  have HP2 := Lib.hid hps
  have HP3 := Lib.hid hpd
  obtain ⟨ap, cp, rfl, hcp, hmp⟩ := hd.slice
  unfold maxLen at hmp
  have HV0 := Lib.hid hv
  have HD0 := Lib.hid hd
  clear hv ht hd hok hpe hps hpd
  unfold opV
  go_enter Tryz.func8, Tryz.ntmps8
  go_upto_region 1 with (fail)
  obtain ⟨w1, hw1⟩ : ∃ w1, w1 = w.alloc (.cells #[.int .i64 x.kind, .string x.en.path, .int .i64 x.en.kind, .int .i64 x.en.mode, .int .i64 x.en.time, .slice ap x.en.data.length cp, .string x.en.link, .string x.src, .string x.dst, .bool x.below] 32) := ⟨_, rfl⟩
  rw [← hw1]
  have hx1 : w1.heap[w.heap.size]? = some (.cells #[.int .i64 x.kind, .string x.en.path, .int .i64 x.en.kind, .int .i64 x.en.mode, .int .i64 x.en.time, .slice ap x.en.data.length cp, .string x.en.link, .string x.src, .string x.dst, .bool x.below] 32 (0, 0)) := by rw [hw1]; exact new20 w _
  have HB1 := Lib.hid (show Below w.heap.size w w1 by rw [hw1]; exact (Below.refl _ _).alloc (Nat.le_refl _) _)
  have HV := Lib.hid (HV0.out.below HB1.out)
  have HD := Lib.hid (DataAt.below HD0.out HB1.out)
  clear hw1
  have c0 := cell20 (k := 0) hx1
  have c1 := cell20 (k := 1) hx1
  have c2 := cell20 (k := 2) hx1
  have c3 := cell20 (k := 3) hx1
  have c4 := cell20 (k := 4) hx1
  have c5 := cell20 (k := 5) hx1
  have c6 := cell20 (k := 6) hx1
  have c7 := cell20 (k := 7) hx1
  have c8 := cell20 (k := 8) hx1
  have c9 := cell20 (k := 9) hx1
  simp only [List.getElem?_toArray, List.getElem?_cons_succ, List.getElem?_cons_zero] at c0 c1 c2 c3 c4 c5 c6 c7 c8 c9
  clear hx1
  by_cases h1 : x.kind = 1
  · have e1 : (x.kind == 1) = true := by simp [h1]
    have HDO := Lib.hid (show doP L x = putP L x.en by unfold doP; rw [if_pos h1])
    clear h1
    go_wp2_with fail
    refine (r_put_any S L v (.slice ap x.en.data.length cp) x.en _ HV.out HT.out HD.out HOK.out.en HP1.out).mono ?_
    rintro e w2 ⟨v2, rfl, h2, h3⟩
    have H2 := Lib.hid h2
    have H3 := Lib.hid h3
    clear h2 h3
    go_wp2_with fail
    go_ret2
    exact rlist_of HB1.out ⟨v2, by rw [HDO.out]; rfl, by rw [HDO.out]; exact H2.out, H3.out⟩
  have e1 : (x.kind == 1) = false := by simp [h1]
  by_cases h2 : x.kind = 2
  · have e2 : (x.kind == 2) = true := by simp [h2]
    have HDO := Lib.hid (show doP L x = removeP L x.src x.below by unfold doP; rw [if_neg h1, if_pos h2])
    clear h1 h2
    go_wp2_with fail
    refine (r_remove_any S L v x.src x.below _ HV.out (fun e he => by have := valid_size (vEnt_path (HT.out.val e he)); rw [size_bl]; omega) HP2.out (by have := HT.out.len; omega)).mono ?_
    rintro e w2 ⟨v2, rfl, h2, h3⟩
    have H2 := Lib.hid h2
    have H3 := Lib.hid h3
    clear h2 h3
    go_wp2_with fail
    go_ret2
    exact rlist_of HB1.out ⟨v2, by rw [HDO.out]; rfl, by rw [HDO.out]; exact H2.out, H3.out⟩
  have e2 : (x.kind == 2) = false := by simp [h2]
  by_cases h3 : x.kind = 3
  · have e3 : (x.kind == 3) = true := by simp [h3]
    have HDO := Lib.hid (show doP L x = moveP L x.src x.dst by unfold doP; rw [if_neg h1, if_neg h2, if_pos h3])
    clear h1 h2 h3
    go_wp2_with fail
    refine (r_move_any S L v x.src x.dst _ HV.out HT.out HP2.out HP3.out).mono ?_
    rintro e w2 ⟨v2, rfl, h2, h3⟩
    have H2 := Lib.hid h2
    have H3 := Lib.hid h3
    clear h2 h3
    go_wp2_with fail
    go_ret2
    exact rlist_of HB1.out ⟨v2, by rw [HDO.out]; rfl, by rw [HDO.out]; exact H2.out, H3.out⟩
  have e3 : (x.kind == 3) = false := by simp [h3]
  have HDO := Lib.hid (show doP L x = (L, 0) by unfold doP; rw [if_neg h1, if_neg h2, if_neg h3])
  clear h1 h2 h3
  go_wp2_with fail
  go_ret2
  exact rlist_of HB1.out ⟨v, by rw [HDO.out]; rfl, by rw [HDO.out]; exact ents_wide HV.out (Below.refl _ _), Below.refl _ _⟩

end Go.Proofs.YtbkhdpocmmjnbaaGreatDoor

/- Contracts of the specification kinkeepref20: Size. -/
namespace Go.Proofs.YtbkhdpocmmjnbaaGreatDoor
open Go Go.RowKit Go.Maps


theorem row_gr {S : Nat → Prop} {w w' : World} {b sz n : Nat} {v : Value} {xs : List Value} (hsz : 0 < sz) (h : RowAt S w sz v n xs) (hf : ¬ S b) (hg : w.grownBy w' (some b)) : RowAt S w' sz v n xs := by
  have h2 := RowAt.mono (T := fun k => S k ∧ k < w.heap.size) h (fun k hk hS => ⟨hS, hk⟩) hsz
  have h3 := h2.same (w' := w') (fun k hk => hg.block k hk.2 (fun e => hf (by cases e; exact hk.1)))
  obtain ⟨hl, a, cap, hv, hn, hm, h0⟩ := h3
  refine ⟨hl, a, cap, hv, hn, hm, ?_⟩
  rcases h0 with h0 | ⟨b, o, ha, hb, hc⟩
  · exact .inl h0
  · exact .inr ⟨b, o, ha, hb.1, hc⟩
theorem ents_gr {S : Nat → Prop} {w w' : World} {b : Nat} {v : Value} {l : List Ent} (h : EntsAt S w v l) (hf : ¬ S b) (hg : w.grownBy w' (some b)) : EntsAt S w' v l := by
  obtain ⟨cells, h1, h2⟩ := h
  refine ⟨cells, row_gr (by omega) h1 hf hg, h2.mono (fun c x _ hr => ?_)⟩
  obtain ⟨v, r1, r2, r3⟩ := hr
  exact ⟨v, r1, data_grown r2 hf hg, r3⟩
theorem ents_cut {S : Nat → Prop} {w : World} {v : Value} {l : List Ent} (h : EntsAt S w v l) : EntsAt (fun k => S k ∧ k < w.heap.size) w v l :=
  SeqAt.mono h (by omega) (fun k hk hs => ⟨hs, hk⟩) (fun c x _ hr => by
    obtain ⟨v, r1, r2, r3⟩ := hr
    exact ⟨v, r1, RowAt.mono r2 (fun k hk hs => ⟨hs, hk⟩) (by omega), r3⟩)
theorem grown_st (W : World) (b k : Nat) (x : Value) : W.grownBy (W.setCell ⟨b, k, none⟩ x) (some b) :=
  ⟨rfl, rfl, rfl, by simp [World.setCell], fun i _ hi => Below.heap_setCell _ _ _ i (fun e => hi (by rw [e]))⟩
/-- An array of four numbers in a block. -/
def Four (W : World) (b : Nat) (c : Cnt) : Prop := W.heap[b]? = some (.cells #[.int .i64 c.files, .int .i64 c.dirs, .int .i64 c.links, .int .i64 c.bytes] 48 (0, 0))
theorem Four.below {W C : World} {b : Nat} {c : Cnt} (h : Four W b c) (hb : Below W.heap.size W C) : Four C b c := (hb.block b (lt20 h)).trans h
theorem Four.other {W : World} {b b' k : Nat} {c : Cnt} {x : Value} (h : Four W b c) (hne : b ≠ b') : Four (W.setCell ⟨b', k, none⟩ x) b c := setOther20 h hne x
theorem four_any {W : World} {b : Nat} {a0 a1 a2 a3 : Value} {c : Cnt} (h : W.heap[b]? = some (.cells #[a0, a1, a2, a3] 48 (0, 0))) (e0 : a0 = .int .i64 c.files) (e1 : a1 = .int .i64 c.dirs) (e2 : a2 = .int .i64 c.links) (e3 : a3 = .int .i64 c.bytes) : Four W b c := by
  subst e0 e1 e2 e3; exact h
theorem size4_res {a : Act} {w : World} {b : Nat} {c : Cnt} (h : Four w b c) (h4 : a.tmps[4]? = some (.pointer (some ⟨b, 0, none⟩))) : (results Tryz.f19 a.tmps).run Tryz.prog w = .ok (.agg #[.int .i64 c.files, .int .i64 c.dirs, .int .i64 c.links, .int .i64 c.bytes]) w := by
  have m0 := cell20 (k := 0) h
  have m1 := cell20 (k := 1) h
  have m2 := cell20 (k := 2) h
  have m3 := cell20 (k := 3) h
  simp only [List.getElem?_toArray, List.getElem?_cons_succ, List.getElem?_cons_zero] at m0 m1 m2 m3
  simp [results, Tryz.results19, go_sem, h4, m0, m1, m2, m3]
/-- What the loop of Size keeps. -/
structure SzK (T : Nat → Prop) (w : World) (b4 b5 : Nat) (M : List Ent) (v : Value) (c : Cnt) (W : World) : Prop where
  z : Four W b4 ⟨0, 0, 0, 0⟩
  s : Four W b5 c
  m : EntsAt T W v M
  b : Below w.heap.size w W
theorem SzK.below {T : Nat → Prop} {w W C : World} {b4 b5 : Nat} {M : List Ent} {v : Value} {c : Cnt} (h : SzK T w b4 b5 M v c W) (hb : Below W.heap.size W C) : SzK T w b4 b5 M v c C := ⟨h.z.below hb, h.s.below hb, h.m.below hb, below_next h.b hb⟩
theorem SzK.two {T : Nat → Prop} {w W : World} {b4 b5 j : Nat} {M : List Ent} {v x y : Value} {c c' : Cnt} (h : SzK T w b4 b5 M v c W) (hT : ¬ T b5) (h4 : b4 ≠ b5) (hw : w.heap.size ≤ b5)
    (hs : Four ((W.setCell ⟨b5, j, none⟩ x).setCell ⟨b5, 3, none⟩ y) b5 c') : SzK T w b4 b5 M v c' ((W.setCell ⟨b5, j, none⟩ x).setCell ⟨b5, 3, none⟩ y) :=
  ⟨(h.z.other h4).other h4, hs, ents_gr (ents_gr h.m hT (grown_st W b5 j x)) hT (grown_st _ b5 3 y), below_set20 (below_set20 h.b hw) hw⟩
set_option maxRecDepth 100000 in
set_option maxHeartbeats 2000000 in
theorem r_size_any (S : Nat → Prop) (L : List Ent) (v : Value) (p : ByteArray) (w : World) (hv : EntsAt S w v L) (hps : ∀ e ∈ L, e.path.size ≤ 65000) (hp : p.size ≤ 65000) (ht : TOk L) :
    Calls Tryz.prog 19 #[v, .string p] w fun e w' => e = .returned (.agg #[.int .i64 (cntL (atP L p)).files, .int .i64 (cntL (atP L p)).dirs, .int .i64 (cntL (atP L p)).links, .int .i64 (cntL (atP L p)).bytes]) ∧ Below w.heap.size w w' := by
  have HV := Lib.hid (ents_cut hv)
  have HPS := Lib.hid hps
  have HP := Lib.hid hp
  have HT := Lib.hid ht
  obtain ⟨a, cap, rfl, hc, hm, -⟩ := SeqAt.shape hv EntR.len
  unfold maxLen at hm
  obtain ⟨M, hM⟩ : ∃ M, M = atP L p := ⟨_, rfl⟩
  obtain ⟨n, hn⟩ : ∃ n, n = M.length := ⟨_, rfl⟩
  have hn4 : n ≤ 4096 := by
    rw [hn, hM]
    have := List.length_filter_le (fun e => inB p e && (decide (p.size = 0) || (findE L p).isSome)) L
    unfold atP
    have := ht.len
    omega
  have HM := Lib.hid hM
  have HN := Lib.hid hn
  clear hv hps hp ht hM hn
  go_enter Tryz.func19, Tryz.ntmps19
  go_wp2_with fail
  obtain ⟨w2, hw2⟩ : ∃ w2, w2 = (w.alloc (.cells #[.int .i64 0, .int .i64 0, .int .i64 0, .int .i64 0] 48)).alloc (.cells #[.int .i64 0, .int .i64 0, .int .i64 0, .int .i64 0] 48) := ⟨_, rfl⟩
  rw [← hw2]
  obtain ⟨b4, hb4⟩ : ∃ b4, b4 = w.heap.size := ⟨_, rfl⟩
  obtain ⟨b5, hb5⟩ : ∃ b5, b5 = w.heap.size + 1 := ⟨_, rfl⟩
  have F4 : Four w2 b4 ⟨0, 0, 0, 0⟩ := by rw [hw2, hb4]; exact alloc20 (new20 w _) _
  have F5 : Four w2 b5 ⟨0, 0, 0, 0⟩ := by rw [hw2, hb5]; exact new20b w _ _
  have hb2 : Below w.heap.size w w2 := by rw [hw2]; exact ((Below.refl _ _).alloc (Nat.le_refl _) _).alloc (by simp) _
  have hz2 : w2.heap.size = w.heap.size + 2 := by rw [hw2]; simp
  have HB2 := Lib.hid hb2
  have HNE := Lib.hid (show b4 ≠ b5 by omega)
  have HW5 := Lib.hid (show w.heap.size ≤ b5 by omega)
  have HW4 := Lib.hid (show w.heap.size ≤ b4 by omega)
  refine (r_at_any _ L _ p _ (HV.out.below hb2) HPS.out HP.out (by have := HT.out.len; omega)).mono ?_
  rintro e w3 ⟨v3, rfl, h3, hb3⟩
  obtain ⟨T, hT⟩ : ∃ T : Nat → Prop, T = fun k => (S k ∧ k < w.heap.size) ∨ w2.heap.size ≤ k := ⟨_, rfl⟩
  rw [← hT, ← HM.out] at h3
  have HT5 := Lib.hid (show ¬ T b5 by rw [hT]; rintro (h | h) <;> omega)
  obtain ⟨a3, c3, rfl, hc3, hm3, -⟩ := SeqAt.shape h3 EntR.len
  rw [← HN.out] at hc3 h3 ⊢
  unfold maxLen at hm3
  have HS3 := Lib.hid (show SzK T w b4 b5 M (.slice a3 n c3) (cK L p 0) w3 from ⟨F4.below hb3, F5.below hb3, h3, below_next HB2.out hb3⟩)
  rw [← hb5, ← hb4]
  clear hw2 hb4 hb5 F4 F5 hb2 hz2 h3 hb3 hT
  go_wp2_with fail
  go_loopw [12] (fun i wr => ∃ k : Nat, k ≤ n ∧ i = .int .i64 k ∧ SzK T w b4 b5 M (.slice a3 n c3) (cK L p k) wr) (fun i _ => n - (intOf i).toNat)
  case atStart => exact ⟨0, Nat.zero_le _, rfl, HS3.out⟩
  case round =>
    obtain ⟨k, hk, rfl, hsk⟩ := hrel
    have HSR := Lib.hid hsk
    clear hsk
    by_cases hlt : k < n
    · obtain ⟨e, hat⟩ : ∃ e, M[k]? = some e := ⟨M[k]'(by rw [← HN.out]; exact hlt), by simp⟩
      have hat2 : (atP L p)[k]? = some e := by rw [← HM.out]; exact hat
      have heL := atP_sub e (List.mem_of_getElem? hat2)
      have hvE := HT.out.val e heL
      obtain ⟨b, o, dv, rfl, -, hb, hd, hok, -, q0, q1, q2, q3, q4, q5⟩ := ents_at HSR.out.m hat
      obtain ⟨a1, cap1, rfl, hd1, hd2⟩ := hd.slice
      unfold maxLen at hd2
      have hdl := vEnt_data hvE
      have HAT := Lib.hid hat2
      have HKD := Lib.hid (kind_of hvE)
      have HDF := Lib.hid (fun hk => data_file hvE hk)
      obtain ⟨m1, m2, m3, m4⟩ := cK_le HT.out p k (by have := List.getElem?_eq_some_iff.1 hat2; obtain ⟨h, -⟩ := this; omega)
      obtain ⟨cz, hcz⟩ : ∃ cz, cz = cK L p k := ⟨_, rfl⟩
      have HCZ := Lib.hid hcz
      rw [← hcz] at m1 m2 m3 m4
      have m5 : cz.bytes ≤ 4294967296 := by omega
      clear hat hat2 heL hvE hd hok hcz
      go_upto_region 5 with (fail)
      obtain ⟨W4, hW4⟩ : ∃ W4, W4 = wr.alloc (.cells #[.string e.path, .int .i64 e.kind, .int .i64 e.mode, .int .i64 e.time, .slice a1 e.data.length cap1, .string e.link] 30) := ⟨_, rfl⟩
      rw [← hW4]
      have hx : W4.heap[wr.heap.size]? = some (.cells #[.string e.path, .int .i64 e.kind, .int .i64 e.mode, .int .i64 e.time, .slice a1 e.data.length cap1, .string e.link] 30 (0, 0)) := by rw [hW4]; exact new20 wr _
      have HS4 := Lib.hid (show SzK T w b4 b5 M (.slice (some ⟨b, o, none⟩) n c3) cz W4 by
        rw [hW4, HCZ.out]; exact HSR.out.below ((Below.refl _ _).alloc (Nat.le_refl _) _))
      clear hW4 q0 q1 q2 q3 q4 q5
      have c0 := cell20 (k := 0) hx
      have c1 := cell20 (k := 1) hx
      have c2 := cell20 (k := 2) hx
      have c3' := cell20 (k := 3) hx
      have c4 := cell20 (k := 4) hx
      have c5 := cell20 (k := 5) hx
      have d0 := cell20 (k := 0) HS4.out.s
      have d1 := cell20 (k := 1) HS4.out.s
      have d2 := cell20 (k := 2) HS4.out.s
      have d3 := cell20 (k := 3) HS4.out.s
      simp only [List.getElem?_toArray, List.getElem?_cons_succ, List.getElem?_cons_zero] at c0 c1 c2 c3' c4 c5 d0 d1 d2 d3
      have f0 := frozen20 (k := 0) HS4.out.s
      have f1 := frozen20 (k := 1) HS4.out.s
      have f2 := frozen20 (k := 2) HS4.out.s
      have f3 := frozen20 (k := 3) HS4.out.s
      have hne : wr.heap.size ≠ b5 := fun e => by have h1 := lt20 HSR.out.s; omega
      clear hx
      rcases HKD.out with hkd | hkd | hkd
      · have e1 : (e.kind == 1) = true := by simp [hkd]
        have HKK := Lib.hid hkd
        clear hkd
        have hk0 := HKK.out
        go_upto_region 13 with (fail)
        obtain ⟨W5, hW5⟩ : ∃ W5, W5 = (W4.setCell ⟨b5, 0, none⟩ (.int .i64 (cz.files + 1))).setCell ⟨b5, 3, none⟩ (.int .i64 (cz.bytes + e.data.length)) := ⟨_, rfl⟩
        rw [← hW5]
        have HS5 := Lib.hid (show SzK T w b4 b5 M (.slice (some ⟨b, o, none⟩) n c3) (cK L p (k + 1)) W5 by
          rw [hW5]
          refine HS4.out.two HT5.out HNE.out HW5.out (four_any (by simpa using set20 (k := 3) (set20 (k := 0) HS4.out.s (.int .i64 (cz.files + 1))) (.int .i64 (cz.bytes + e.data.length))) ?_ ?_ ?_ ?_) <;> (rw [cK_step HAT.out, ← HCZ.out]; simp [cntE, hk0]))
        clear hW5 d0 d1 d2 d3 f0 f1 f2 f3 c0 c1 c2 c3' c4 c5 hk0
        go_wp2_with fail
        go_roundw
        case rel => exact ⟨k + 1, by omega, by go_num, HS5.out⟩
        case measure => simp [intOf]; omega
      · have e1 : (e.kind == 1) = false := by simp [hkd]
        have e2 : (e.kind == 2) = true := by simp [hkd]
        have HKK := Lib.hid hkd
        clear hkd
        have hk0 := HKK.out
        go_upto_region 13 with (fail)
        obtain ⟨W5, hW5⟩ : ∃ W5, W5 = (W4.setCell ⟨b5, 1, none⟩ (.int .i64 (cz.dirs + 1))).setCell ⟨b5, 3, none⟩ (.int .i64 (cz.bytes + e.data.length)) := ⟨_, rfl⟩
        rw [← hW5]
        have HS5 := Lib.hid (show SzK T w b4 b5 M (.slice (some ⟨b, o, none⟩) n c3) (cK L p (k + 1)) W5 by
          rw [hW5]
          refine HS4.out.two HT5.out HNE.out HW5.out (four_any (by simpa using set20 (k := 3) (set20 (k := 1) HS4.out.s (.int .i64 (cz.dirs + 1))) (.int .i64 (cz.bytes + e.data.length))) ?_ ?_ ?_ ?_) <;> (rw [cK_step HAT.out, ← HCZ.out]; simp [cntE, hk0]))
        clear hW5 d0 d1 d2 d3 f0 f1 f2 f3 c0 c1 c2 c3' c4 c5 hk0
        go_wp2_with fail
        go_roundw
        case rel => exact ⟨k + 1, by omega, by go_num, HS5.out⟩
        case measure => simp [intOf]; omega
      · have e1 : (e.kind == 1) = false := by simp [hkd]
        have e2 : (e.kind == 2) = false := by simp [hkd]
        have e3 : (e.kind == 3) = true := by simp [hkd]
        have HKK := Lib.hid hkd
        clear hkd
        have hk0 := HKK.out
        go_upto_region 13 with (fail)
        obtain ⟨W5, hW5⟩ : ∃ W5, W5 = (W4.setCell ⟨b5, 2, none⟩ (.int .i64 (cz.links + 1))).setCell ⟨b5, 3, none⟩ (.int .i64 (cz.bytes + e.data.length)) := ⟨_, rfl⟩
        rw [← hW5]
        have HS5 := Lib.hid (show SzK T w b4 b5 M (.slice (some ⟨b, o, none⟩) n c3) (cK L p (k + 1)) W5 by
          rw [hW5]
          refine HS4.out.two HT5.out HNE.out HW5.out (four_any (by simpa using set20 (k := 3) (set20 (k := 2) HS4.out.s (.int .i64 (cz.links + 1))) (.int .i64 (cz.bytes + e.data.length))) ?_ ?_ ?_ ?_) <;> (rw [cK_step HAT.out, ← HCZ.out]; simp [cntE, hk0]))
        clear hW5 d0 d1 d2 d3 f0 f1 f2 f3 c0 c1 c2 c3' c4 c5 hk0
        go_wp2_with fail
        go_roundw
        case rel => exact ⟨k + 1, by omega, by go_num, HS5.out⟩
        case measure => simp [intOf]; omega
    · have hk2 : k = n := by omega
      have HCK := Lib.hid (show SzK T w b4 b5 M (.slice a3 n c3) (cntL (atP L p)) wr by
        have h1 := HSR.out
        unfold cK at h1
        rw [hk2, HN.out, HM.out, List.take_length] at h1
        rw [HN.out, HM.out]
        exact h1)
      obtain ⟨cz, hcz⟩ : ∃ cz, cz = cntL (atP L p) := ⟨_, rfl⟩
      have HZ := Lib.hid hcz
      rw [← hcz] at HCK
      clear hk2 hcz
      have d0 := cell20 (k := 0) HCK.out.s
      have d1 := cell20 (k := 1) HCK.out.s
      have d2 := cell20 (k := 2) HCK.out.s
      have d3 := cell20 (k := 3) HCK.out.s
      have z0 := cell20 (k := 0) HCK.out.z
      have z1 := cell20 (k := 1) HCK.out.z
      have z2 := cell20 (k := 2) HCK.out.z
      have z3 := cell20 (k := 3) HCK.out.z
      simp only [List.getElem?_toArray, List.getElem?_cons_succ, List.getElem?_cons_zero] at d0 d1 d2 d3 z0 z1 z2 z3
      have f0 := frozen20 (k := 0) HCK.out.z
      have f1 := frozen20 (k := 1) HCK.out.z
      have f2 := frozen20 (k := 2) HCK.out.z
      have f3 := frozen20 (k := 3) HCK.out.z
      go_wp2_with fail
      obtain ⟨WZ, hWZ⟩ : ∃ WZ, WZ = ((((wr.setCell ⟨b4, 0, none⟩ (.int .i64 cz.files)).setCell ⟨b4, 1, none⟩ (.int .i64 cz.dirs)).setCell ⟨b4, 2, none⟩ (.int .i64 cz.links)).setCell ⟨b4, 3, none⟩ (.int .i64 cz.bytes)) := ⟨_, rfl⟩
      rw [← hWZ]
      have hF : Four WZ b4 cz := by
        rw [hWZ]
        exact four_any (by simpa using set20 (k := 3) (set20 (k := 2) (set20 (k := 1) (set20 (k := 0) HCK.out.z (.int .i64 cz.files)) (.int .i64 cz.dirs)) (.int .i64 cz.links)) (.int .i64 cz.bytes)) rfl rfl rfl rfl
      have hB : Below w.heap.size w WZ := by
        rw [hWZ]
        exact below_set20 (below_set20 (below_set20 (below_set20 HCK.out.b HW4.out) HW4.out) HW4.out) HW4.out
      exact bodyPost_ret (size4_res hF (by kernel_rfl)) (by kernel_rfl) ⟨by rw [HZ.out], hB⟩

end Go.Proofs.YtbkhdpocmmjnbaaGreatDoor

/- Contracts of the specification kinkeepref20: List, Size. -/
namespace Go.Proofs.YtbkhdpocmmjnbaaGreatDoor
open Go Go.RowKit Go.Maps


set_option maxRecDepth 100000 in
set_option maxHeartbeats 2000000 in
theorem r_list_any (S : Nat → Prop) (L : List Ent) (v : Value) (d : ByteArray) (w : World) (hv : EntsAt S w v L) (hps : ∀ e ∈ L, e.path.size ≤ 65000) (hp : d.size ≤ 65000) (hl : L.length ≤ 8192) :
    Calls Tryz.prog 17 #[v, .string d] w (RList S (listP L d) w) := by
  have HV := Lib.hid hv
  have HPS := Lib.hid hps
  have HP := Lib.hid hp
  obtain ⟨a, cap, rfl, hc, hm, -⟩ := SeqAt.shape hv EntR.len
  unfold maxLen at hm
  obtain ⟨n, hn⟩ : ∃ n, n = L.length := ⟨_, rfl⟩
  have HN := Lib.hid hn
  rw [← hn] at hc HV hl ⊢
  obtain ⟨F, hF⟩ : ∃ F : Ent → Bool, F = fun e => decide (parentL (bl e.path) = bl d) := ⟨_, rfl⟩
  have HF := Lib.hid hF
  clear hv hps hn
  by_cases h0 : bl d = []
  · have e0 : d.toList.isEmpty = true := by rw [empty20, decide_eq_true h0]
    have e2 : (!d.toList.isEmpty) = false := by simp [e0]
    have HLP0 := Lib.hid (show listP L d = if dirE L (bl d) ≠ 0 then ([], dirE L (bl d)) else (L.filter F, 0) by unfold listP; rw [if_neg (fun h => h.1 (size_zero.2 h0)), hF])
    have HBZ := Lib.hid (Below.refl w.heap.size w)
    clear h0 hF
    go_enter Tryz.func17, Tryz.ntmps17
    obtain ⟨x, hx⟩ : ∃ x, dirE L (bl d) = x := ⟨_, rfl⟩
    have HX0 := Lib.hid hx
    by_cases h0 : x = 0
    · subst h0
      have HLP := Lib.hid (show listP L d = (L.filter F, 0) by rw [HLP0.out, if_neg (by simp [hx])])
      clear hx
      go_wp2_with fail
      refine (r_dir_is S L _ d 0 _ (HV.out.below HBZ.out) HX0.out).mono ?_
      rintro e w2 ⟨rfl, hb2⟩
      have HB2 := Lib.hid (below_next HBZ.out hb2)
      clear hb2
      have HB4 := Lib.hid HB2.out
      go_wp2_with fail
      go_loopw [7, 25] (fun v i wr => ∃ (k : Nat) (ys : List VEnt), k ≤ n ∧ i = .int .i64 k ∧ LoopG S w ((L.take k).filter F) ys v wr) (fun _ i _ => n - (intOf i).toNat)
      case atStart => exact ⟨0, [], Nat.zero_le _, rfl, by simpa using LoopG.nil S w HB4.out⟩
      case round =>
        obtain ⟨k, ys, hk, rfl, hlg⟩ := hrel
        have HLG := Lib.hid hlg
        obtain ⟨av, cv, hsv, hvn, hvm, hyl⟩ := hlg.shape
        subst hsv
        have hyk : ys.length ≤ k := by rw [hyl]; exact filt_le L F k
        clear hyl
        unfold maxLen at hvm
        clear hlg
        by_cases hlt : k < n
        · have hlt2 := hlt
          obtain ⟨e, he⟩ : ∃ e, L[k]? = some e := ⟨L[k]'(by rw [← HN.out]; exact hlt), by simp⟩
          obtain ⟨b, o, dv, rfl, -, hb, hd, hok, -, q0, q1, q2, q3, q4, q5⟩ := ents_at HV.out he
          have r0 := (HLG.out.2.2.2.cell (block_lt q0)).trans q0
          have r1 := (HLG.out.2.2.2.cell (block_lt q1)).trans q1
          have r2 := (HLG.out.2.2.2.cell (block_lt q2)).trans q2
          have r3 := (HLG.out.2.2.2.cell (block_lt q3)).trans q3
          have r4 := (HLG.out.2.2.2.cell (block_lt q4)).trans q4
          have r5 := (HLG.out.2.2.2.cell (block_lt q5)).trans q5
          have HX := Lib.hid he
          have HD := Lib.hid hd
          have HOK := Lib.hid hok
          have HPE := Lib.hid (HPS.out e (List.mem_of_getElem? he))
          obtain ⟨a1, cap1, rfl, hd1, hd2⟩ := hd.slice
          unfold maxLen at hd2
          clear he hd hok q0 q1 q2 q3 q4 q5
          go_wp2_with fail
          obtain ⟨W, hW⟩ : ∃ W, W = wr.alloc (.cells #[.string e.path, .int .i64 e.kind, .int .i64 e.mode, .int .i64 e.time, .slice a1 e.data.length cap1, .string e.link] 30) := ⟨_, rfl⟩
          rw [← hW]
          have HXW := Lib.hid (show W.heap[wr.heap.size]? = some (.cells #[.string e.path, .int .i64 e.kind, .int .i64 e.mode, .int .i64 e.time, .slice a1 e.data.length cap1, .string e.link] 30 (0, 0)) by rw [hW]; exact new20 wr _)
          have HWL := Lib.hid (show Below wr.heap.size wr W by rw [hW]; exact (Below.refl _ _).alloc (Nat.le_refl _) _)
          clear hW r0 r1 r2 r3 r4 r5
          by_cases hin : parentL (bl e.path) = bl d
          · have HFE := Lib.hid (show F e = true by rw [HF.out]; simp [hin])
            have HQ := Lib.hid (show d = ⟨(parentL (bl e.path)).toArray⟩ from path_bl hin.symm)
            clear hin
            refine (r_parent_is e.path d _ HPE.out HQ.out).mono ?_
            rintro e7 w7 ⟨rfl, hb7⟩
            have HL7 := Lib.hid (HWL.out.trans (hb7.mono HWL.out.size))
            have HX7 := Lib.hid ((hb7.block wr.heap.size (lt20 HXW.out)).trans HXW.out)
            clear hb7
            have c0 := cell20 (k := 0) HX7.out
            have c1 := cell20 (k := 1) HX7.out
            have c2 := cell20 (k := 2) HX7.out
            have c3 := cell20 (k := 3) HX7.out
            have c4 := cell20 (k := 4) HX7.out
            have c5 := cell20 (k := 5) HX7.out
            simp only [List.getElem?_toArray, List.getElem?_cons_succ, List.getElem?_cons_zero] at c0 c1 c2 c3 c4 c5
            have HO7 := Lib.hid (HLG.out.below HL7.out)
            have hsz7 : w.heap.size ≤ (w7).heap.size := HO7.out.2.2.2.size
            go_wp2_with (at_builtin; go_must (refine wpList_app1p Tryz.appEnts rfl _ _ rfl w.heap.size (.slice av ys.length cv) ys.length (entsC ys) rfl w7 (entC (.slice a1 e.data.length cap1) e) _ rfl rfl entC_one HO7.out.2.1 (by omega) hsz7 ?_); intro v' w8 hown8 hgrow8 _ _; have HPU := Lib.hid (HO7.out.push (y := (.slice a1 e.data.length cap1, e)) HD.out HOK.out hown8 hgrow8); clear hown8 hgrow8)
            go_wp2_with fail
            go_roundw
            case rel =>
              refine ⟨k + 1, ys ++ [(.slice a1 e.data.length cap1, e)], by omega, by go_num, ?_⟩
              rw [filt_step HX.out, if_pos HFE.out]
              exact HPU.out
            case measure => simp [intOf]; omega
          · have HFE := Lib.hid (show ¬ F e = true by rw [HF.out]; simp [hin])
            obtain ⟨q, hq⟩ : ∃ q : ByteArray, q = ⟨(parentL (bl e.path)).toArray⟩ := ⟨_, rfl⟩
            have HQ := Lib.hid hq
            have e1 : (q.toList == d.toList) = false := by
              rw [Bool.eq_false_iff]
              intro hc
              have h1 : bl q = bl d := by rw [← toList_bl, ← toList_bl]; simpa using hc
              exact hin (((congrArg bl hq).trans (bl_mk _)).symm.trans h1)
            clear hin hq
            refine (r_parent_is e.path q _ HPE.out HQ.out).mono ?_
            rintro e7 w7 ⟨rfl, hb7⟩
            have HL7 := Lib.hid (HWL.out.trans (hb7.mono HWL.out.size))
            clear hb7
            go_wp2_with fail
            go_roundw
            case rel =>
              refine ⟨k + 1, ys, by omega, by go_num, ?_⟩
              rw [filt_step HX.out, if_neg HFE.out, List.append_nil]
              exact HLG.out.below HL7.out
            case measure => simp [intOf]; omega
        · have hk2 : k = n := by omega
          have hout := HLG.out.out
          rw [hk2, HN.out, List.take_length] at hout
          have HOUT := Lib.hid hout
          clear hout
          go_wp2_with fail
          go_ret2
          exact ⟨.slice av ys.length cv, by rw [HLP.out]; rfl, by rw [HLP.out]; exact HOUT.out, HLG.out.2.2.2⟩
    · have e1 : (x != 0) = true := by simp [h0]
      have HLP := Lib.hid (show listP L d = ([], x) by rw [HLP0.out, if_pos (by rw [hx]; exact h0), hx])
      clear hx h0
      go_wp2_with fail
      refine (r_dir_is S L _ d x _ (HV.out.below HBZ.out) HX0.out).mono ?_
      rintro e w2 ⟨rfl, hb2⟩
      have HB2 := Lib.hid (below_next HBZ.out hb2)
      clear hb2
      go_wp2_with fail
      go_ret2
      exact ⟨.slice none 0 0, by rw [HLP.out]; rfl, by rw [HLP.out]; exact EntsAt.nil _ _, HB2.out⟩
  · have e0 : d.toList.isEmpty = false := by rw [empty20, decide_eq_false h0]
    have e2 : (!d.toList.isEmpty) = true := by simp [e0]
    cases hvp : validP (bl d)
    · have HVP := Lib.hid hvp
      have HLP := Lib.hid (show listP L d = ([], 1) by unfold listP; rw [if_pos ⟨fun h => h0 (size_zero.1 h), hvp⟩])
      clear h0 hF hvp
      go_enter Tryz.func17, Tryz.ntmps17
      go_wp2_with fail
      refine (r_valid20_is d false _ (by have := HP.out; omega) HVP.out).mono ?_
      rintro e w1 ⟨rfl, hb1⟩
      have HB1 := Lib.hid hb1
      clear hb1
      go_wp2_with fail
      go_ret2
      exact ⟨.slice none 0 0, by rw [HLP.out]; rfl, by rw [HLP.out]; exact EntsAt.nil _ _, HB1.out⟩
    · have HVP := Lib.hid hvp
      have HLP0 := Lib.hid (show listP L d = if dirE L (bl d) ≠ 0 then ([], dirE L (bl d)) else (L.filter F, 0) by unfold listP; rw [if_neg (fun h => by rw [hvp] at h; cases h.2), hF])
      clear h0 hF hvp
      go_enter Tryz.func17, Tryz.ntmps17
      go_wp2_with fail
      refine (r_valid20_is d true _ (by have := HP.out; omega) HVP.out).mono ?_
      rintro e w1 ⟨rfl, hb1⟩
      have HB1 := Lib.hid hb1
      clear hb1
      obtain ⟨x, hx⟩ : ∃ x, dirE L (bl d) = x := ⟨_, rfl⟩
      have HX0 := Lib.hid hx
      by_cases h0 : x = 0
      · subst h0
        have HLP := Lib.hid (show listP L d = (L.filter F, 0) by rw [HLP0.out, if_neg (by simp [hx])])
        clear hx
        go_wp2_with fail
        refine (r_dir_is S L _ d 0 _ (HV.out.below HB1.out) HX0.out).mono ?_
        rintro e w2 ⟨rfl, hb2⟩
        have HB2 := Lib.hid (below_next HB1.out hb2)
        clear hb2
        have HB4 := Lib.hid HB2.out
        go_wp2_with fail
        go_loopw [7, 25] (fun v i wr => ∃ (k : Nat) (ys : List VEnt), k ≤ n ∧ i = .int .i64 k ∧ LoopG S w ((L.take k).filter F) ys v wr) (fun _ i _ => n - (intOf i).toNat)
        case atStart => exact ⟨0, [], Nat.zero_le _, rfl, by simpa using LoopG.nil S w HB4.out⟩
        case round =>
          obtain ⟨k, ys, hk, rfl, hlg⟩ := hrel
          have HLG := Lib.hid hlg
          obtain ⟨av, cv, hsv, hvn, hvm, hyl⟩ := hlg.shape
          subst hsv
          have hyk : ys.length ≤ k := by rw [hyl]; exact filt_le L F k
          clear hyl
          unfold maxLen at hvm
          clear hlg
          by_cases hlt : k < n
          · have hlt2 := hlt
            obtain ⟨e, he⟩ : ∃ e, L[k]? = some e := ⟨L[k]'(by rw [← HN.out]; exact hlt), by simp⟩
            obtain ⟨b, o, dv, rfl, -, hb, hd, hok, -, q0, q1, q2, q3, q4, q5⟩ := ents_at HV.out he
            have r0 := (HLG.out.2.2.2.cell (block_lt q0)).trans q0
            have r1 := (HLG.out.2.2.2.cell (block_lt q1)).trans q1
            have r2 := (HLG.out.2.2.2.cell (block_lt q2)).trans q2
            have r3 := (HLG.out.2.2.2.cell (block_lt q3)).trans q3
            have r4 := (HLG.out.2.2.2.cell (block_lt q4)).trans q4
            have r5 := (HLG.out.2.2.2.cell (block_lt q5)).trans q5
            have HX := Lib.hid he
            have HD := Lib.hid hd
            have HOK := Lib.hid hok
            have HPE := Lib.hid (HPS.out e (List.mem_of_getElem? he))
            obtain ⟨a1, cap1, rfl, hd1, hd2⟩ := hd.slice
            unfold maxLen at hd2
            clear he hd hok q0 q1 q2 q3 q4 q5
            go_wp2_with fail
            obtain ⟨W, hW⟩ : ∃ W, W = wr.alloc (.cells #[.string e.path, .int .i64 e.kind, .int .i64 e.mode, .int .i64 e.time, .slice a1 e.data.length cap1, .string e.link] 30) := ⟨_, rfl⟩
            rw [← hW]
            have HXW := Lib.hid (show W.heap[wr.heap.size]? = some (.cells #[.string e.path, .int .i64 e.kind, .int .i64 e.mode, .int .i64 e.time, .slice a1 e.data.length cap1, .string e.link] 30 (0, 0)) by rw [hW]; exact new20 wr _)
            have HWL := Lib.hid (show Below wr.heap.size wr W by rw [hW]; exact (Below.refl _ _).alloc (Nat.le_refl _) _)
            clear hW r0 r1 r2 r3 r4 r5
            by_cases hin : parentL (bl e.path) = bl d
            · have HFE := Lib.hid (show F e = true by rw [HF.out]; simp [hin])
              have HQ := Lib.hid (show d = ⟨(parentL (bl e.path)).toArray⟩ from path_bl hin.symm)
              clear hin
              refine (r_parent_is e.path d _ HPE.out HQ.out).mono ?_
              rintro e7 w7 ⟨rfl, hb7⟩
              have HL7 := Lib.hid (HWL.out.trans (hb7.mono HWL.out.size))
              have HX7 := Lib.hid ((hb7.block wr.heap.size (lt20 HXW.out)).trans HXW.out)
              clear hb7
              have c0 := cell20 (k := 0) HX7.out
              have c1 := cell20 (k := 1) HX7.out
              have c2 := cell20 (k := 2) HX7.out
              have c3 := cell20 (k := 3) HX7.out
              have c4 := cell20 (k := 4) HX7.out
              have c5 := cell20 (k := 5) HX7.out
              simp only [List.getElem?_toArray, List.getElem?_cons_succ, List.getElem?_cons_zero] at c0 c1 c2 c3 c4 c5
              have HO7 := Lib.hid (HLG.out.below HL7.out)
              have hsz7 : w.heap.size ≤ (w7).heap.size := HO7.out.2.2.2.size
              go_wp2_with (at_builtin; go_must (refine wpList_app1p Tryz.appEnts rfl _ _ rfl w.heap.size (.slice av ys.length cv) ys.length (entsC ys) rfl w7 (entC (.slice a1 e.data.length cap1) e) _ rfl rfl entC_one HO7.out.2.1 (by omega) hsz7 ?_); intro v' w8 hown8 hgrow8 _ _; have HPU := Lib.hid (HO7.out.push (y := (.slice a1 e.data.length cap1, e)) HD.out HOK.out hown8 hgrow8); clear hown8 hgrow8)
              go_wp2_with fail
              go_roundw
              case rel =>
                refine ⟨k + 1, ys ++ [(.slice a1 e.data.length cap1, e)], by omega, by go_num, ?_⟩
                rw [filt_step HX.out, if_pos HFE.out]
                exact HPU.out
              case measure => simp [intOf]; omega
            · have HFE := Lib.hid (show ¬ F e = true by rw [HF.out]; simp [hin])
              obtain ⟨q, hq⟩ : ∃ q : ByteArray, q = ⟨(parentL (bl e.path)).toArray⟩ := ⟨_, rfl⟩
              have HQ := Lib.hid hq
              have e1 : (q.toList == d.toList) = false := by
                rw [Bool.eq_false_iff]
                intro hc
                have h1 : bl q = bl d := by rw [← toList_bl, ← toList_bl]; simpa using hc
                exact hin (((congrArg bl hq).trans (bl_mk _)).symm.trans h1)
              clear hin hq
              refine (r_parent_is e.path q _ HPE.out HQ.out).mono ?_
              rintro e7 w7 ⟨rfl, hb7⟩
              have HL7 := Lib.hid (HWL.out.trans (hb7.mono HWL.out.size))
              clear hb7
              go_wp2_with fail
              go_roundw
              case rel =>
                refine ⟨k + 1, ys, by omega, by go_num, ?_⟩
                rw [filt_step HX.out, if_neg HFE.out, List.append_nil]
                exact HLG.out.below HL7.out
              case measure => simp [intOf]; omega
          · have hk2 : k = n := by omega
            have hout := HLG.out.out
            rw [hk2, HN.out, List.take_length] at hout
            have HOUT := Lib.hid hout
            clear hout
            go_wp2_with fail
            go_ret2
            exact ⟨.slice av ys.length cv, by rw [HLP.out]; rfl, by rw [HLP.out]; exact HOUT.out, HLG.out.2.2.2⟩
      · have e1 : (x != 0) = true := by simp [h0]
        have HLP := Lib.hid (show listP L d = ([], x) by rw [HLP0.out, if_pos (by rw [hx]; exact h0), hx])
        clear hx h0
        go_wp2_with fail
        refine (r_dir_is S L _ d x _ (HV.out.below HB1.out) HX0.out).mono ?_
        rintro e w2 ⟨rfl, hb2⟩
        have HB2 := Lib.hid (below_next HB1.out hb2)
        clear hb2
        go_wp2_with fail
        go_ret2
        exact ⟨.slice none 0 0, by rw [HLP.out]; rfl, by rw [HLP.out]; exact EntsAt.nil _ _, HB2.out⟩

end Go.Proofs.YtbkhdpocmmjnbaaGreatDoor

/- Two arrays of four numbers are compared. -/
namespace Go.Proofs.YtbkhdpocmmjnbaaGreatDoor
open Go Go.RowKit Go.Maps

def cntV (c : Cnt) : Value := .agg #[.int .i64 c.files, .int .i64 c.dirs, .int .i64 c.links, .int .i64 c.bytes]
theorem eq4 (c c' : Cnt) (w : World) : (Op.equalIn 10000 48 (cntV c) (cntV c')).run Tryz.prog w = .ok (decide (c = c')) w := by
  have u2 := Tryz.underlying3
  have hu : Tryz.prog.underlying 48 = some (.array 4 3) := Tryz.underlying48
  obtain ⟨i, hi⟩ := Option.isSome_iff_exists.1 (show (Tryz.prog.info? 3).isSome = true by kernel_rfl)
  have hc : Tryz.prog.cellsOf 3 = 1 := by kernel_rfl
  rw [show (10000 : Nat) = 9999 + 1 from rfl]
  unfold cntV
  rw [run_equalIn_array w 9999 _ _ hu hi, hc]
  simp only [List.range, List.range.loop, Op.eqItems]
  rw [show (9999 : Nat) = 9998 + 1 from rfl]
  go_simp
  obtain ⟨a, b, c, d⟩ := c
  obtain ⟨a', b', c', d'⟩ := c'
  simp only [Cnt.mk.injEq]
  by_cases h1 : a = a' <;> by_cases h2 : b = b' <;> by_cases h3 : c = c' <;> by_cases h4 : d = d' <;> (simp [h1, h2, h3, h4]; try omega)

end Go.Proofs.YtbkhdpocmmjnbaaGreatDoor

/- The law FiletreeStays: its walk. -/
namespace Go.Proofs.YtbkhdpocmmjnbaaGreatDoor
open Go Go.RowKit Go.Maps

theorem doP_err {L : List Ent} {x : POp} (h : (doP L x).2 ≠ 0) : (doP L x).1 = L := by
  unfold doP at h ⊢
  split
  · rename_i h1
    rw [if_pos h1] at h
    unfold putP at h ⊢
    repeat' split
    all_goals first | rfl | (exfalso; apply h; simp_all)
  · rename_i h1
    rw [if_neg h1] at h
    split
    · rename_i h2
      rw [if_pos h2] at h
      unfold removeP at h ⊢
      repeat' split
      all_goals first | rfl | (exfalso; apply h; simp_all)
    · rename_i h2
      rw [if_neg h2] at h
      split
      · rename_i h3
        rw [if_pos h3] at h
        unfold moveP at h ⊢
        repeat' split
        all_goals first | rfl | (exfalso; apply h; simp_all)
      · rfl
theorem data_other {S : Nat → Prop} {w w' : World} {b : Nat} {v : Value} {bs : List UInt8} (h : DataAt S w v bs) (hf : ¬ S b) (hg : w.grownBy w' (some b)) : DataAt S w' v bs := data_grown h hf hg
theorem TreeAt.other {S : Nat → Prop} {w w' : World} {tb mb b : Nat} {L : List Ent} (h : TreeAt S w tb mb L) (hg : w.grownBy w' (some b)) (h1 : tb ≠ b) (h2 : mb ≠ b) (h3 : ¬ S b) : TreeAt S w' tb mb L := by
  obtain ⟨xs, hm, hp⟩ := h.ents
  exact ⟨hg.cell h.cell (fun e => h1 (Option.some.inj e)), h.ne, h.far, fun k hk => Nat.lt_of_lt_of_le (h.lt k hk) hg.size, h.ok, xs,
    ⟨hm.map.same (hg.block mb hm.map.lt (fun e => h2 (Option.some.inj e))), fun x hx => ⟨data_grown (hm.dat x hx).1 h3 hg, (hm.dat x hx).2⟩, hm.far⟩, hp⟩
theorem from_ok (S : Nat → Prop) (L : List Ent) (v : Value) (w : World) (hv : EntsAt S w v L) (henv : Env w) (h : TOk L) : Calls Tryz.prog 22 #[v] w fun e w' => Below w.heap.size w w' ∧ ∃ tb mb, e = .returned (.tuple #[.pointer (some ⟨tb, 0, none⟩), .int .i64 0]) ∧ NewTree w w' tb mb L :=
  (from_any S L v w hv henv).mono fun _ _ ⟨hb, hr⟩ => ⟨hb, (hr.resolve_left (fun h2 => h2.1 (checkP_iff.2 h))).2⟩
end Go.Proofs.YtbkhdpocmmjnbaaGreatDoor

/- The law FiletreeMoves: its walk. -/
namespace Go.Proofs.YtbkhdpocmmjnbaaGreatDoor
open Go Go.RowKit Go.Maps

theorem moveP_err {L : List Ent} {p q : ByteArray} (h : (moveP L p q).2 ≠ 0) : (moveP L p q).1 = L := by
  have := doP_err (L := L) (x := ⟨3, ⟨⟨#[]⟩, 0, 0, 0, [], ⟨#[]⟩⟩, p, q, false⟩)
  simp only [doP, if_neg (show ¬ (3 : Int) = 1 by decide), if_neg (show ¬ (3 : Int) = 2 by decide), if_true] at this
  exact this h
theorem get_some (S : Nat → Prop) (tb mb : Nat) (L : List Ent) (p : ByteArray) (f : Ent) (w : World) (ht : TreeAt S w tb mb L) (hps : p.size ≤ maxLen) (hf : findE L p = some f) :
    Calls Tryz.prog 13 #[.pointer (some ⟨tb, 0, none⟩), .string p] w fun e w' => ∃ a c, e = .returned (.tuple #[.agg #[.string f.path, .int .i64 f.kind, .int .i64 f.mode, .int .i64 f.time, .slice a f.data.length c, .string f.link], .bool true]) ∧ DataAt (fun k => w.heap.size ≤ k ∧ k < w'.heap.size) w' (.slice a f.data.length c) f.data ∧ Below w.heap.size w w' :=
  (get_any S tb mb L p w ht hps).mono fun e w' ⟨hb, hr⟩ => by
    rw [hf] at hr
    obtain ⟨v, rfl, ho⟩ := hr
    have hd := data_of_owns ho
    obtain ⟨a, c, rfl, -, -⟩ := owns_shape ho
    exact ⟨a, c, rfl, hd, hb⟩
theorem get_none (S : Nat → Prop) (tb mb : Nat) (L : List Ent) (p : ByteArray) (w : World) (ht : TreeAt S w tb mb L) (hps : p.size ≤ maxLen) (hf : findE L p = none) :
    Calls Tryz.prog 13 #[.pointer (some ⟨tb, 0, none⟩), .string p] w fun e w' => e = .returned (.tuple #[.agg #[.string ⟨#[]⟩, .int .i64 0, .int .i64 0, .int .i64 0, .slice none 0 0, .string ⟨#[]⟩], .bool false]) ∧ Below w.heap.size w w' :=
  (get_any S tb mb L p w ht hps).mono fun e w' ⟨hb, hr⟩ => by
    rw [hf] at hr
    exact ⟨hr, hb⟩
/-- Every Get of a law: what it hands back, and where its data lie. -/
def GotV (L : List Ent) (p : ByteArray) (B : Nat) (w' : World) (g : Ent) (a : Option Addr) (n c : Nat) (ok : Bool) : Prop :=
  DataAt (fun k => B ≤ k ∧ k < w'.heap.size) w' (.slice a n c) g.data ∧ n = g.data.length ∧ n ≤ c ∧ c ≤ maxLen ∧ ((ok = true ∧ findE L p = some g) ∨ (ok = false ∧ findE L p = none ∧ g = ⟨⟨#[]⟩, 0, 0, 0, [], ⟨#[]⟩⟩))
theorem get_v (S : Nat → Prop) (tb mb : Nat) (L : List Ent) (p : ByteArray) (w : World) (ht : TreeAt S w tb mb L) (hps : p.size ≤ maxLen) :
    Calls Tryz.prog 13 #[.pointer (some ⟨tb, 0, none⟩), .string p] w fun e w' => ∃ g a n c ok, e = .returned (.tuple #[.agg #[.string g.path, .int .i64 g.kind, .int .i64 g.mode, .int .i64 g.time, .slice a n c, .string g.link], .bool ok]) ∧ GotV L p w.heap.size w' g a n c ok ∧ Below w.heap.size w w' :=
  (get_any S tb mb L p w ht hps).mono fun e w' ⟨hb, hr⟩ => by
    cases hf : findE L p with
    | none =>
      rw [hf] at hr
      exact ⟨⟨⟨#[]⟩, 0, 0, 0, [], ⟨#[]⟩⟩, none, 0, 0, false, hr, ⟨DataAt.nil _ _, rfl, Nat.le_refl _, by decide, .inr ⟨rfl, hf, rfl⟩⟩, hb⟩
    | some f =>
      rw [hf] at hr
      obtain ⟨v, rfl, ho⟩ := hr
      have hd := data_of_owns ho
      obtain ⟨a, c, rfl, h1, h2⟩ := owns_shape ho
      exact ⟨f, a, _, c, true, rfl, ⟨hd, rfl, h1, h2, .inl ⟨rfl, hf⟩⟩, hb⟩
end Go.Proofs.YtbkhdpocmmjnbaaGreatDoor

/- Rows of bytes that are written. -/
namespace Go.Proofs.YtbkhdpocmmjnbaaGreatDoor
open Go Go.RowKit Go.Maps

def ByteV (B : Nat) (v : Value) (n : Nat) (W : World) : Prop := ∃ bs : List UInt8, bs.length = n ∧ W.ownsRow B 5 1 v n (bs.map u8V)
theorem grown_set (W : World) (b k : Nat) (x : Value) : W.grownBy (W.setCell ⟨b, k, none⟩ x) (some b) :=
  ⟨rfl, rfl, rfl, by simp [World.setCell], fun i _ hi => Below.heap_setCell _ _ _ i (fun e => hi (by rw [e]))⟩
theorem byteV_ent {B : Nat} {x : VEnt} {W : World} (h : EntNew B x W) : ByteV B x.1 x.2.data.length W := ⟨x.2.data, rfl, h.1⟩
theorem ByteV.le {B B' n : Nat} {v : Value} {W : World} (h : ByteV B v n W) (hB : B' ≤ B) : ByteV B' v n W := by
  obtain ⟨bs, h1, h2⟩ := h
  exact ⟨bs, h1, owns_le20 h2 hB⟩
theorem ByteV.below {B n : Nat} {v : Value} {W C : World} (h : ByteV B v n W) (hb : Below W.heap.size W C) : ByteV B v n C := by
  obtain ⟨bs, h1, h2⟩ := h
  exact ⟨bs, h1, own_below h2 hb⟩
theorem ByteV.turn {B n : Nat} {v : Value} {A C : World} {row : Option Nat} (h : ByteV B v n A) (hg : A.grownBy C row) (hr : ∀ r, row = some r → ∃ o : Obj, A.heap[r]? = some o ∧ o.isCells = false) : ByteV B v n C := by
  obtain ⟨bs, h1, h2⟩ := h
  exact ⟨bs, h1, own_turn h2 hg hr⟩
theorem ByteV.shape {B n : Nat} {v : Value} {W : World} (h : ByteV B v n W) : ∃ a c, v = .slice a n c ∧ n ≤ c ∧ c ≤ maxLen := by
  obtain ⟨bs, _, h2⟩ := h
  exact owns_shape h2
theorem take_set_map {cur : List Value} {bs : List UInt8} {n j : Nat} {x : UInt8} (h : cur.take n = bs.map u8V) : (cur.set j (u8V x)).take n = (bs.set j x).map u8V := by
  rw [List.take_set, h, List.map_set]
/-- A byte stored anywhere leaves rows of bytes rows of bytes. -/
theorem ByteV.set {B n g j : Nat} {v : Value} {W : World} (h : ByteV B v n W) (x : UInt8) : ByteV B v n (W.setCell ⟨g, j, none⟩ (u8V x)) := by
  obtain ⟨bs, h1, h2, h3⟩ := h
  rcases h3 with ⟨rfl, h4⟩ | ⟨g', cap, cur, rfl, hb, hh, hn, hm, hs, ht⟩
  · exact ⟨bs, h1, h2, .inl ⟨rfl, h4⟩⟩
  · by_cases hg : g = g'
    · subst hg
      refine ⟨bs.set j x, by rw [List.length_set]; exact h1, by rw [List.length_map, List.length_set, h1]; omega, .inr ⟨g, cap, cur.setIfInBounds j (u8V x), rfl, hb, set20 hh _, hn, hm, by simp [hs], ?_⟩⟩
      rw [Array.toList_setIfInBounds]
      exact take_set_map ht
    · exact ⟨bs, h1, h2, .inr ⟨g', cap, cur, rfl, hb, setOther20 hh (fun e => hg e.symm) _, hn, hm, hs, ht⟩⟩
/-- A byte of a row: where it lies, that it may be written. -/
theorem ByteV.at {B n j : Nat} {v : Value} {W : World} (h : ByteV B v n W) (hj : j < n) : ∃ (g cap : Nat) (x : UInt8) (cur : Array Value), v = .slice (some ⟨g, 0, none⟩) n cap ∧ n ≤ cap ∧ cap ≤ maxLen ∧ B ≤ g ∧ W.heap[g]? = some (.cells cur 5 (0, 0)) ∧ W.cell? ⟨g, j, none⟩ = some (.int .u8 (x.toNat : Int)) ∧ W.frozen? ⟨g, j, none⟩ = false := by
  obtain ⟨bs, h1, h2, h3⟩ := h
  rcases h3 with ⟨_, h4⟩ | ⟨g, cap, cur, rfl, hb, hh, hn, hm, hs, ht⟩
  · omega
  · have hjb : j < bs.length := by omega
    refine ⟨g, cap, bs[j], cur, rfl, hn, hm, hb, hh, ?_, frozen20 hh⟩
    rw [cell20 hh]
    have h5 : (cur.toList.take (n * 1))[j]? = (bs.map u8V)[j]? := by rw [ht]
    rw [List.getElem?_take, if_pos (by omega), List.getElem?_map, List.getElem?_eq_getElem hjb] at h5
    rw [← Array.getElem?_toList]
    exact h5
theorem row_set {W : World} {B sz m g j : Nat} {t : TypeId} {v x : Value} {xs : List Value} {cur : Array Value} (h : W.ownsRow B t sz v m xs) (hg : W.heap[g]? = some (.cells cur 5 (0, 0))) (ht : t ≠ 5) : (W.setCell ⟨g, j, none⟩ x).ownsRow B t sz v m xs := by
  refine h.kept (grown_set W g j x) ?_
  cases hv : v.ownBlock with
  | none => exact .inl rfl
  | some b =>
    refine .inr fun e => ?_
    obtain ⟨c, hc⟩ := own_block h hv
    have e := Option.some.inj e
    subst e
    rw [hg] at hc
    cases hc
    exact ht rfl
theorem blk_set {W : World} {b g j : Nat} {t : TypeId} {x : Value} {cs cur : Array Value} (h : W.heap[b]? = some (.cells cs t (0, 0))) (hg : W.heap[g]? = some (.cells cur 5 (0, 0))) (ht : t ≠ 5) : (W.setCell ⟨g, j, none⟩ x).heap[b]? = some (.cells cs t (0, 0)) := by
  refine setOther20 h (fun e => ?_) x
  subst e
  rw [hg] at h
  cases h
  exact ht rfl
/-- What a round has kept of what is no cells, and of rows of strings. -/
structure KK (W C : World) : Prop where
  o : KeepsOthers W C
  s : KeepTy 9 W C
theorem KK.refl (W : World) : KK W W := ⟨KeepsOthers.refl W, KeepTy.refl W⟩
theorem KK.below {W C D : World} (h : KK W C) (hb : Below C.heap.size C D) : KK W D := ⟨h.o.trans ⟨hb.size, fun k _o hk _ => (hb.block k (Array.getElem?_eq_some_iff.1 hk).1).trans hk⟩, h.s.trans (KeepTy.below hb)⟩
theorem KK.set {W C : World} {g j : Nat} {x : Value} {cur : Array Value} (h : KK W C) (hg : C.heap[g]? = some (.cells cur 5 (0, 0))) : KK W (C.setCell ⟨g, j, none⟩ x) :=
  ⟨h.o.trans (KeepsOthers.setCell _ _ _), h.s.trans (KeepTy.grown (grown_set C g j x) fun r e cs hcs => by cases e; rw [hg] at hcs; simp at hcs)⟩
/-- The law for a range whose loop variable is boxed in slot s. -/
theorem wp_rangeB {P : Program} {α : Type} {g : Operand} {ps : Array Tmp} {assign body : Code} {Q : Exit → Act → World → Prop} {a : Act} {w : World} {gf : Nat} {lb : Array Value} (hg : a.eval g = .func (.func gf) #[] lb) (eg : ∀ args w, (callFunc gf args).run P w = .ok (.enter gf args) w)
    {encs : α → Array Value} {D : α → World → Prop} {Kp : World → World → Prop} {S Sp : List α → Prop} {N : Nat} (hseq : SeqD P gf lb encs D Kp S Sp N w)
    (hKt : ∀ {A B C : World}, Kp A B → Kp B C → Kp A C) (hKb : ∀ (W : World) (l : Nat) (o o' : Obj), w.heap.size ≤ l → W.heap[l]? = some o → o.isCells = false → o.isWalk = false → Kp W (W.putObj l o')) (hps : ∀ x, (encs x).size = ps.size)
    (I : List α → World → Prop) (Ix : Code → List α → World → Prop) (s : Nat) (Rx : List α → α → Nat → World → Prop) (hI : OwnFrom w.heap.size I) (hIx : ∀ c, OwnFrom w.heap.size (Ix c))
    (hRx : OwnFrom w.heap.size (fun (s : List α × α × Nat) W => Rx s.1 s.2.1 s.2.2 W)) (h0 : I [] w)
    (hassign : ∀ (l : Nat) (pre : List α) (x : α) (W : World), w.heap.size < W.heap.size → I pre W → D x W → pre.length < N → assign.wpIn (Fence.wide.inRound l) 2 P (Exit.then (fun a₁ B => KeepsOthers W B ∧ Kp W B ∧ ∃ b, Rx pre x b B ∧ a₁ = { tmps := ((ps.zip (encs x)).foldl (fun t (p, v) => t.setIfInBounds p v) a.tmps).setIfInBounds s (.pointer (some ⟨b, 0, none⟩)), defers := [] }) (fun _ _ _ => False)) { tmps := (ps.zip (encs x)).foldl (fun t (p, v) => t.setIfInBounds p v) a.tmps, defers := [] } W)
    (hbody : ∀ (l : Nat) (pre : List α) (x : α) (b : Nat) (W : World), Rx pre x b W → body.wpIn (Fence.wide.inRound l) 2 P (roundEnd Kp I Ix (pre ++ [x]) W) { tmps := ((ps.zip (encs x)).foldl (fun t (p, v) => t.setIfInBounds p v) a.tmps).setIfInBounds s (.pointer (some ⟨b, 0, none⟩)), defers := [] } W)
    (hdone : ∀ (Dl : Nat) (xs : List α) (W : World), w.heap.size ≤ Dl → S xs → I xs W → W.heap[Dl]? = some (.deferred (some [])) → Q .normal { a with defers := { target := .collected Dl, args := #[] } :: a.defers } W)
    (hstop : ∀ (Dl : Nat) (c : Code) (pre : List α) (W : World), w.heap.size ≤ Dl → Sp pre → Ix c pre W → W.heap[Dl]? = some (.deferred (some [])) → c.wp P Q { a with defers := { target := .collected Dl, args := #[] } :: a.defers } W) :
    (Code.rangeFunc g ps assign body).wp P Q a w := by
  refine wp_rangeD hg eg hseq hKt hKb hps I Ix (fun pre x a₁ W => ∃ b, Rx pre x b W ∧ a₁ = { tmps := ((ps.zip (encs x)).foldl (fun t (p, v) => t.setIfInBounds p v) a.tmps).setIfInBounds s (.pointer (some ⟨b, 0, none⟩)), defers := [] }) hI hIx ?_ h0 hassign ?_ hdone hstop
  · rintro ⟨pre, x, a₁⟩ W W' row ⟨b, h1, h2⟩ hg hr
    exact ⟨b, hRx (pre, x, b) W W' row h1 hg hr, h2⟩
  · rintro l pre x a₁ W ⟨b, h1, rfl⟩
    exact hbody l pre x b W h1
theorem op_row {S : Nat → Prop} {w : World} {a : Option Addr} {c : Nat} {x : POp} (hd : DataAt S w (.slice a x.en.data.length c) x.en.data) (hok : OpOk x) : OpsAt (fun _ => True) (w.alloc (.cells #[.int .i64 x.kind, .string x.en.path, .int .i64 x.en.kind, .int .i64 x.en.mode, .int .i64 x.en.time, .slice a x.en.data.length c, .string x.en.link, .string x.src, .string x.dst, .bool x.below] 32)) (.slice (some ⟨w.heap.size, 0, none⟩) 1 1) [x] := by
  refine ⟨opC (.slice a x.en.data.length c) x, RowAt.weak (row_new (cells := opC (.slice a x.en.data.length c) x) (new20 w _) rfl (by decide)) (fun _ _ => trivial), ⟨opC (.slice a x.en.data.length c) x, [], by simp, ⟨.slice a x.en.data.length c, rfl, ?_, hok⟩, rfl⟩⟩
  exact data_mono (hd.below ((Below.refl _ _).alloc (Nat.le_refl _) _)) (fun _ _ => trivial)
theorem Tryz.appU8 : AppTy Tryz.prog 28 5 1 1 := AppTy.mk' (z := .int .u8 0) Tryz.underlying28 (by kernel_rfl) rfl (by decide) (by decide)
theorem inc_u8 (x : UInt8) : IntKind.u8.wrap ((x.toNat : Int) + 1) = ((x + 1).toNat : Int) := by
  rw [IntKind.wrap_u8, UInt8.toNat_add, show (1 : UInt8).toNat = 1 from rfl]
  have := x.toNat_lt
  omega
theorem ByteV.nil (B : Nat) (W : World) : ByteV B (.slice none 0 0) 0 W := ⟨[], rfl, World.ownsRow_nil _ _ _ _⟩
theorem get_w (S : Nat → Prop) (tb mb : Nat) (L : List Ent) (p : ByteArray) (w : World) (ht : TreeAt S w tb mb L) (hps : p.size ≤ maxLen) :
    Calls Tryz.prog 13 #[.pointer (some ⟨tb, 0, none⟩), .string p] w fun e w' => ∃ (g : Ent) (a : Option Addr) (c : Nat) (ok : Bool), e = .returned (.tuple #[.agg #[.string g.path, .int .i64 g.kind, .int .i64 g.mode, .int .i64 g.time, .slice a g.data.length c, .string g.link], .bool ok]) ∧ g.data.length ≤ c ∧ c ≤ maxLen ∧ ByteV w.heap.size (.slice a g.data.length c) g.data.length w' ∧ Below w.heap.size w w' :=
  (get_any S tb mb L p w ht hps).mono fun e w' ⟨hb, hr⟩ => by
    cases hf : findE L p with
    | none =>
      rw [hf] at hr
      exact ⟨⟨⟨#[]⟩, 0, 0, 0, [], ⟨#[]⟩⟩, none, 0, false, hr, Nat.le_refl _, by decide, ByteV.nil _ _, hb⟩
    | some f =>
      rw [hf] at hr
      obtain ⟨v, rfl, ho⟩ := hr
      obtain ⟨a, c, rfl, h1, h2⟩ := owns_shape ho
      exact ⟨f, a, c, true, rfl, h1, h2, ⟨f.data, rfl, ho⟩, hb⟩
/-- The trees of the law, beside what is written. -/
structure Two (c0 tb tm ub um bx : Nat) (St Su : Nat → Prop) (L : List Ent) (W : World) : Prop where
  t : TreeAt St W tb tm L
  u : TreeAt Su W ub um L
  st : ∀ k, St k → c0 ≤ k
  su : ∀ k, Su k → c0 ≤ k
  box : W.cell? ⟨bx, 0, none⟩ = some (.pointer (some ⟨tb, 0, none⟩))
theorem Two.below {c0 tb tm ub um bx : Nat} {St Su : Nat → Prop} {L : List Ent} {W C : World} (h : Two c0 tb tm ub um bx St Su L W) (hb : Below W.heap.size W C) : Two c0 tb tm ub um bx St Su L C :=
  ⟨h.t.below hb, h.u.below hb, h.st, h.su, (hb.cell (block_lt h.box)).trans h.box⟩
theorem Two.write {c0 tb tm ub um bx g : Nat} {St Su : Nat → Prop} {L : List Ent} {W C : World} (h : Two c0 tb tm ub um bx St Su L W) (hc : tb < c0 ∧ tm < c0 ∧ ub < c0 ∧ um < c0 ∧ bx < c0) (hg : W.grownBy C (some g)) (h0 : c0 ≤ g) (h1 : ¬ St g) (h2 : ¬ Su g) : Two c0 tb tm ub um bx St Su L C :=
  ⟨h.t.other hg (by omega) (by omega) h1, h.u.other hg (by omega) (by omega) h2, h.st, h.su, hg.cell h.box (fun e => by have := Option.some.inj e; simp only at this; omega)⟩
theorem grown_any {W C : World} {row : Option Nat} (h : W.grownBy C row) (hr : row = none) (b : Nat) : W.grownBy C (some b) := ⟨h.os, h.tape, h.output, h.size, fun k hk _ => h.block k hk (by rw [hr]; simp)⟩
theorem Two.writeO {c0 tb tm ub um bx : Nat} {St Su : Nat → Prop} {L : List Ent} {W C : World} {row : Option Nat} (h : Two c0 tb tm ub um bx St Su L W) (hc : tb < c0 ∧ tm < c0 ∧ ub < c0 ∧ um < c0 ∧ bx < c0) (hw : c0 ≤ W.heap.size) (hg : W.grownBy C row) (h0 : ∀ g, row = some g → c0 ≤ g ∧ ¬ St g ∧ ¬ Su g) : Two c0 tb tm ub um bx St Su L C := by
  cases row with
  | none => exact h.write hc (grown_any hg rfl W.heap.size) hw (fun hs => Nat.lt_irrefl _ (h.t.lt _ hs)) (fun hs => Nat.lt_irrefl _ (h.u.lt _ hs))
  | some g => exact h.write hc hg (h0 g rfl).1 (h0 g rfl).2.1 (h0 g rfl).2.2
theorem Two.lt {c0 tb tm ub um bx : Nat} {St Su : Nat → Prop} {L : List Ent} {W : World} (h : Two c0 tb tm ub um bx St Su L W) : (∀ k, St k → k < W.heap.size) ∧ ∀ k, Su k → k < W.heap.size := ⟨h.t.lt, h.u.lt⟩

end Go.Proofs.YtbkhdpocmmjnbaaGreatDoor

/- Contracts of package filetree: Walk's iterator, where rounds write rows that are older than the walk. -/
namespace Go.Proofs.YtbkhdpocmmjnbaaGreatDoor
open Go Go.RowKit Go.Maps
attribute [local go_sem] Oper.semAt_some

/-- What a round keeps of Walk's own: the tree, the box of the tree, and rows of strings. -/
structure WKeep (S : Nat → Prop) (tb mb : Nat) (L : List Ent) (b1 : Nat) (V W : World) : Prop where
  size : V.heap.size ≤ W.heap.size
  tree : TreeAt S V tb mb L → TreeAt S W tb mb L
  cell : ∀ x, Boxed V b1 25 x → Boxed W b1 25 x
  str : KeepTy 9 V W
section
variable {S : Nat → Prop} {tb mb b1 : Nat} {L : List Ent} {A B C : World}
theorem boxed_below {b : Nat} {t : TypeId} {v : Value} (h : Boxed A b t v) (hb : Below A.heap.size A B) : Boxed B b t v := (hb.block b h.lt).trans h
theorem wKeep_t (h : WKeep S tb mb L b1 A B) (k : WKeep S tb mb L b1 B C) : WKeep S tb mb L b1 A C := ⟨Nat.le_trans h.size k.size, fun t => k.tree (h.tree t), fun x hx => k.cell x (h.cell x hx), h.str.trans k.str⟩
theorem wKeep_below (h : Below A.heap.size A B) : WKeep S tb mb L b1 A B := ⟨h.size, fun t => t.below h, fun _ hx => boxed_below hx h, KeepTy.below h⟩
theorem wKeep_grown {r : Nat} (h : A.grownBy B (some r)) (h1 : tb ≠ r) (h2 : mb ≠ r) (h3 : ¬ S r) (hs : ∀ cs t, A.heap[r]? = some (.cells cs t (0, 0)) → t ≠ 9 ∧ t ≠ 25) : WKeep S tb mb L b1 A B :=
  ⟨h.size, fun t => t.other h h1 h2 h3, fun x hx => hx.kept h (fun e => by have := Option.some.inj e; subst this; exact (hs _ _ hx).2 rfl), KeepTy.grown h (fun r' e cs hcs => by cases e; exact (hs cs _ hcs).1 rfl)⟩
theorem wKeep_b {w : World} (ht : TreeAt S w tb mb L) (W : World) (l : Nat) (o o' : Obj) (hl : w.heap.size ≤ l) (h : W.heap[l]? = some o) (hc : o.isCells = false) (_ : o.isWalk = false) : WKeep S tb mb L b1 W (W.putObj l o') := by
  obtain ⟨xs, hm, _⟩ := ht.ents
  have g1 := block_lt ht.cell
  have g2 := hm.map.lt
  simp only at g1
  exact wKeep_grown (grownBy_putObj' W l o') (by omega) (by omega) (fun hs => by have := ht.lt _ hs; omega) (fun cs t hcs => by rw [h] at hcs; cases hcs; cases hc)
/-- What is no entry and no slice of entries lies as it lay. -/
def NotE (o : Obj) : Prop := ∀ (cs : Array Value) (t : TypeId), o = .cells cs t (0, 0) → t ≠ 30 ∧ t ≠ 27
def KeepE (V W : World) : Prop := ∀ (k : Nat) (o : Obj), V.heap[k]? = some o → NotE o → W.heap[k]? = some o
theorem KeepE.refl (V : World) : KeepE V V := fun _ _ h _ => h
theorem KeepE.trans (h : KeepE A B) (k : KeepE B C) : KeepE A C := fun i o hi hn => k i o (h i o hi hn) hn
theorem KeepE.below (h : Below A.heap.size A B) : KeepE A B := fun i _ hi _ => (h.block i (Array.getElem?_eq_some_iff.1 hi).1).trans hi
theorem KeepE.grown {r : Nat} (h : A.grownBy B (some r)) (hs : ∀ o, A.heap[r]? = some o → ¬ NotE o) : KeepE A B := fun i o hi hn => (h.block i (Array.getElem?_eq_some_iff.1 hi).1 (fun e => by have := Option.some.inj e; subst this; exact hs _ hi hn)).trans hi
theorem KeepE.turn {row : Option Nat} (h : KeepE A B) (hg : B.grownBy C row) (hr : ∀ r, row = some r → A.heap.size ≤ r) : KeepE A C := fun i o hi hn => (hg.block i (Array.getElem?_eq_some_iff.1 (h i o hi hn)).1 (fun e => by have h1 := hr i e.symm; have h2 := (Array.getElem?_eq_some_iff.1 hi).1; omega)).trans (h i o hi hn)
theorem not_entry (cs : Array Value) : ¬ NotE (.cells cs 30 (0, 0)) := fun h => (h cs _ rfl).1 rfl
theorem not_entries (cs : Array Value) : ¬ NotE (.cells cs 27 (0, 0)) := fun h => (h cs _ rfl).2 rfl
end
/-- An entry appended to the slice that a box holds. -/
theorem coll_app {S : Nat → Prop} {tb mb b1 B bx g' cap' : Nat} {L : List Ent} {w W w1 : World} {pre : List VEnt} {v : Value} {x : VEnt} {cs : Array Value} (hB : Below B w W) (hBw : B ≤ w.heap.size) (hbx : B ≤ bx) (ht : tb < B ∧ mb < B) (hS : ∀ k, S k → k < B)
    (hv : Boxed W bx 27 v) (hrow : W.ownsRow B 30 6 v pre.length (entsC pre)) (hdat : ∀ y ∈ pre, EntNew B y W) (hD : EntNew B x W)
    (hown : w1.ownsRow B 30 6 (.slice (some ⟨g', 0, none⟩) (pre.length + 1) cap') (pre.length + 1) (entsC pre ++ entC x.1 x.2)) (hgrow : (W.alloc (.cells cs 30)).grownBy w1 v.ownBlock) :
    KeepsOthers W (w1.setCell ⟨bx, 0, none⟩ (.slice (some ⟨g', 0, none⟩) (pre.length + 1) cap')) ∧ WKeep S tb mb L b1 W (w1.setCell ⟨bx, 0, none⟩ (.slice (some ⟨g', 0, none⟩) (pre.length + 1) cap')) ∧
      CollI B bx w (pre ++ [x]) (w1.setCell ⟨bx, 0, none⟩ (.slice (some ⟨g', 0, none⟩) (pre.length + 1) cap')) ∧ KeepE W (w1.setCell ⟨bx, 0, none⟩ (.slice (some ⟨g', 0, none⟩) (pre.length + 1) cap')) := by
  have hwW : B ≤ W.heap.size := Nat.le_trans hBw hB.size
  obtain ⟨hv1, hv2, hr2, hk2, hb2⟩ := hv.appended (by decide) hrow hwW hbx hown hgrow
  have hbw : Below W.heap.size W (W.alloc (.cells cs 30)) := (Below.refl _ _).alloc (Nat.le_refl _) _
  have key : ∀ y : VEnt, EntNew B y W → EntNew B y (w1.setCell ⟨bx, 0, none⟩ (.slice (some ⟨g', 0, none⟩) (pre.length + 1) cap')) := fun y hy => by
    have k1 := own_below hy.1 hbw
    have k2 := k1.kept hgrow (own_apart k1 (own_below hrow hbw) (by decide))
    exact ⟨k2.kept (grownBy_setCell' w1 _ _) (.inr (hv1.not_row (by decide) k2).symm), hy.2⟩
  have hrw := own_below hrow hbw
  have set1 : ∀ cs t, w1.heap[bx]? = some (.cells cs t (0, 0)) → t = 27 := fun cs t h => by rw [show w1.heap[bx]? = _ from hv1] at h; cases h; rfl
  have bxa := (hv.alloc (.cells cs 30))
  have step : ∃ r, (W.alloc (.cells cs 30)).grownBy w1 (some r) ∧ B ≤ r ∧ ∀ o, (W.alloc (.cells cs 30)).heap[r]? = some o → ∃ cs' t, o = .cells cs' t (0, 0) ∧ (t = 30 ∨ t = 27) := by
    cases hr : v.ownBlock with
    | none => exact ⟨bx, grown_any hgrow hr bx, hbx, fun o ho => by rw [show _ = _ from bxa] at ho; cases ho; exact ⟨_, _, rfl, .inr rfl⟩⟩
    | some r =>
      obtain ⟨cur, hcur⟩ := own_block hrw hr
      exact ⟨r, by rw [← hr]; exact hgrow, (own_lt hrow hr).1, fun o ho => by rw [hcur] at ho; cases ho; exact ⟨_, _, rfl, .inl rfl⟩⟩
  obtain ⟨r, hg1, hrB, hro⟩ := step
  have hg2 := grownBy_setCell' w1 bx (.slice (some ⟨g', 0, none⟩) (pre.length + 1) cap')
  refine ⟨hk2, wKeep_t (wKeep_t (wKeep_below hbw) (wKeep_grown hg1 (by omega) (by omega) (fun h => by have := hS _ h; omega) fun cs' t h => ?_)) (wKeep_grown hg2 (by omega) (by omega) (fun h => by have := hS _ h; omega) fun cs' t h => ?_), ⟨⟨_, hv2, ?_, fun y hy => ?_⟩, hB.trans hb2⟩, ((KeepE.below hbw).trans (KeepE.grown hg1 fun o ho => ?_)).trans (KeepE.grown hg2 fun o ho => ?_)⟩
  · obtain ⟨c2, t2, e2, ht2⟩ := hro _ h
    cases e2
    rcases ht2 with rfl | rfl <;> exact ⟨by decide, by decide⟩
  · rw [set1 _ _ h]
    exact ⟨by decide, by decide⟩
  · rw [List.length_append, List.length_singleton, entsC_snoc]
    exact hr2
  · rcases List.mem_append.1 hy with hy | hy
    · exact key y (hdat y hy)
    · rw [List.mem_singleton] at hy
      rw [hy]
      exact key _ hD
  · obtain ⟨c2, t2, rfl, ht2⟩ := hro _ ho
    rcases ht2 with rfl | rfl
    · exact not_entry _
    · exact not_entries _
  · rw [show w1.heap[bx]? = _ from hv1] at ho
    cases ho
    exact not_entries _
/-- The marks that loops over functions have left. -/
def markOf (D : Nat) : Deferred := { target := .collected D, args := #[] }
structure Marks (B : Nat) (Ds : List Nat) (W : World) : Prop where
  nodup : Ds.Nodup
  open_ : ∀ D ∈ Ds, W.heap[D]? = some (.deferred (some [])) ∧ B ≤ D
theorem Marks.keep {B : Nat} {Ds : List Nat} {V W : World} (h : Marks B Ds V) (hk : KeepE V W) : Marks B Ds W := ⟨h.nodup, fun D hD => ⟨hk D _ (h.open_ D hD).1 (fun cs t e => by cases e), (h.open_ D hD).2⟩⟩
theorem Marks.more {B D : Nat} {Ds : List Nat} {W : World} (h : Marks B Ds W) (hlt : ∀ E ∈ Ds, E < D) (hD : W.heap[D]? = some (.deferred (some []))) (hB : B ≤ D) : Marks B (D :: Ds) W :=
  ⟨List.nodup_cons.2 ⟨fun hm => Nat.lt_irrefl _ (hlt D hm), h.nodup⟩, fun E hE => by
    rcases List.mem_cons.1 hE with rfl | hE
    · exact ⟨hD, hB⟩
    · exact h.open_ E hE⟩
theorem Marks.lt {B : Nat} {Ds : List Nat} {W : World} (h : Marks B Ds W) : ∀ D ∈ Ds, D < W.heap.size := fun D hD => (Array.getElem?_eq_some_iff.1 (h.open_ D hD).1).1
theorem leaves_marks {P : Program} {F : Fence} {n B : Nat} {fn : Func} {tmps : Array Value} {R : Ending → World → Prop} {w : World} (hw : B ≤ w.heap.size) : ∀ (Ds : List Nat) (W : World), Marks w.heap.size Ds W → Below B w W → (∀ W', Below B w W' → LeavesIn F n P fn tmps R [] .returning W') → LeavesInM F n P fn tmps R (Ds.map markOf) .returning W
  | [], W, _, hb, hR => hR W hb
  | D :: Ds, W, hm, hb, hR => by
    have hD := hm.open_ D (List.mem_cons_self ..)
    refine ⟨by simp, .inl ⟨D, _, rfl, run_takeDeferred hD.1, ?_⟩⟩
    refine leaves_marks hw Ds _ ⟨(List.nodup_cons.1 hm.nodup).2, fun E hE => ⟨?_, (hm.open_ E (List.mem_cons_of_mem _ hE)).2⟩⟩ (hb.trans (belowK_b hw W D _ _ hD.2 hD.1 rfl rfl)) hR
    have hne : E ≠ D := fun e => (List.nodup_cons.1 hm.nodup).1 (e ▸ hE)
    exact ((grownBy_putObj' W D (.deferred none)).block E (Array.getElem?_eq_some_iff.1 (hm.open_ E (List.mem_cons_of_mem _ hE)).1).1 (fun e => hne (Option.some.inj e))).trans (hm.open_ E (List.mem_cons_of_mem _ hE)).1
set_option maxRecDepth 100000 in
set_option maxHeartbeats 2000000 in
theorem walk_seq2 (S : Nat → Prop) (tb mb : Nat) (L : List Ent) (p : ByteArray) (b1 b2 : Nat) (w : World) (ht : TreeAt S w tb mb L) (hps : p.size ≤ maxLen) (h1 : Boxed w b1 25 (.pointer (some ⟨tb, 0, none⟩))) (h2 : w.cell? ⟨b2, 0, none⟩ = some (.string p)) :
    SeqD Tryz.prog 40 #[.pointer (some ⟨b1, 0, none⟩), .pointer (some ⟨b2, 0, none⟩)] (fun x : VEnt => #[entV x.1 x.2]) (EntNew w.heap.size) (WKeep S tb mb L b1) (fun xs => xs.map Prod.snd = atP L p) (fun pre => ∃ k, pre.map Prod.snd = (atP L p).take k) 4096 w := by
  intro l J Jx W hbW hJ hY h0
  have HBW := Lib.hid hbW
  have HT := Lib.hid ht
  have HPS := Lib.hid hps
  have HJ := Lib.hid hJ
  have HY := Lib.hid hY
  have H0 := Lib.hid h0
  have k1 := (boxed_below h1 hbW).cell
  have k2 := (hbW.cell (block_lt h2)).trans h2
  have HK1 := Lib.hid (boxed_below h1 hbW)
  obtain ⟨n, hn⟩ : ∃ n, n = (pathsM L p).length := ⟨_, rfl⟩
  have hn2 : n = (atP L p).length := by rw [hn]; unfold pathsM; rw [List.length_map]
  have hn4 : n ≤ 4096 := by
    rw [hn2]
    have := List.length_filter_le (fun e => inB p e && (decide (p.size = 0) || (findE L p).isSome)) L
    unfold atP
    have := ht.ok.len
    omega
  have HN := Lib.hid hn
  have HN2 := Lib.hid hn2
  clear ht hps hJ hY h0 hbW h2 hn hn2
  refine callsIn_wide.2 ?_
  show Calls Tryz.prog 40 #[.func (.yield l) #[] #[], .pointer (some ⟨b1, 0, none⟩), .pointer (some ⟨b2, 0, none⟩)] W _
  go_enter Tryz.func40, Tryz.ntmps40
  go_wp2_with fail
  refine (paths_any S tb mb L p _ (HT.out.below HBW.out) HPS.out).mono ?_
  rintro e w5 ⟨v5, rfl, ho5, hb5⟩
  rw [← HN.out] at ho5
  obtain ⟨a5, c5, rfl, hn5, hm5⟩ := owns_shape ho5
  have HO5 := Lib.hid ho5
  have HB5 := Lib.hid hb5
  unfold maxLen at hm5
  clear ho5 hb5 k1 k2
  go_wp2_with fail
  go_loopw [12] (fun i wr => ∃ (k : Nat) (pre : List VEnt), k ≤ n ∧ i = .int .i64 k ∧ pre.map Prod.snd = (atP L p).take k ∧ J pre wr ∧ (W.heap.size ≤ wr.heap.size ∧ TreeAt S wr tb mb L ∧ Boxed wr b1 25 (.pointer (some ⟨tb, 0, none⟩))) ∧ wr.ownsRow W.heap.size 9 1 (.slice a5 n c5) n ((pathsM L p).map Value.string)) (fun i _ => n - (intOf i).toNat)
  case atStart => exact ⟨0, [], Nat.zero_le _, rfl, by simp, HJ.out _ _ _ H0.out HB5.out, ⟨HB5.out.size, (HT.out.below HBW.out).below HB5.out, boxed_below HK1.out HB5.out⟩, HO5.out⟩
  case round =>
    obtain ⟨k, pre, hk, rfl, hpre, hJk, hbr, hown⟩ := hrel
    have HPRE := Lib.hid hpre
    have HJK := Lib.hid hJk
    have HBR := Lib.hid hbr
    have HOWN := Lib.hid hown
    have HTR := Lib.hid hbr.2.1
    obtain ⟨xs, hm0, hperm⟩ := hbr.2.1.ents
    have HM := Lib.hid hm0
    have HPERM := Lib.hid hperm
    clear hpre hJk hbr hown hm0 hperm
    by_cases hlt : k < n
    · have hla : k < (atP L p).length := by rw [← HN2.out]; exact hlt
      obtain ⟨e, hat⟩ : ∃ e, (atP L p)[k]? = some e := ⟨_, List.getElem?_eq_getElem hla⟩
      have HAT := Lib.hid hat
      have heL := atP_sub e (List.mem_of_getElem? hat)
      have HVE := Lib.hid (HT.out.ok.val e heL)
      obtain ⟨v, hv⟩ := find_vent (HPERM.out.symm.subset heL)
      obtain ⟨hd0, hok0⟩ := HM.out.dat _ hv
      simp only at hd0 hok0
      obtain ⟨a1, cap1, rfl, hd1, hd2⟩ := hd0.slice
      have HD0 := Lib.hid hd0
      have HOK0 := Lib.hid hok0
      have hlk := HM.out.hit mapTy hv true
      have hcl := HTR.out.cell
      have hltb := block_lt hcl
      have hk1 := HBR.out.2.2.cell
      have hlk1 := block_lt hk1
      simp only at hltb hlk1
      unfold entV at hlk
      simp only [if_true] at hlk
      unfold maxLen at hd2
      obtain ⟨_, a3, c3, he3, _, _, h03⟩ := row_of_owns HOWN.out
      simp only [Value.slice.injEq] at he3
      obtain ⟨rfl, -, rfl⟩ := he3
      rcases h03 with h03 | ⟨b, o, rfl, -, hcc⟩
      · omega
      have hcq := hcc k (.string e.path) (by unfold pathsM; rw [List.getElem?_map, List.getElem?_map, hat]; rfl)
      clear hat hcc hla heL hv hd0 hok0
      go_upto_region 4 with (fail)
      obtain ⟨W4, hW4⟩ : ∃ W4, W4 = wr.alloc (.cells #[.string e.path, .int .i64 e.kind, .int .i64 e.mode, .int .i64 e.time, .slice a1 e.data.length cap1, .string e.link] 30) := ⟨_, rfl⟩
      rw [← hW4]
      have HX := Lib.hid (show W4.heap[wr.heap.size]? = some (.cells #[.string e.path, .int .i64 e.kind, .int .i64 e.mode, .int .i64 e.time, .slice a1 e.data.length cap1, .string e.link] 30 (0, 0)) by rw [hW4]; exact new20 wr _)
      have HWL := Lib.hid (show Below wr.heap.size wr W4 by rw [hW4]; exact (Below.refl _ _).alloc (Nat.le_refl _) _)
      clear hW4 hlk hcl hcq hk1
      have c0 := cell20 (k := 0) HX.out
      have c1 := cell20 (k := 1) HX.out
      have c2 := cell20 (k := 2) HX.out
      have c3 := cell20 (k := 3) HX.out
      have c4 := cell20 (k := 4) HX.out
      have c5 := cell20 (k := 5) HX.out
      simp only [List.getElem?_toArray, List.getElem?_cons_succ, List.getElem?_cons_zero] at c0 c1 c2 c3 c4 c5
      refine (wpIn_wide (n := 3)).1 ?_
      gi_wp2_with (refine ⟨trivial, ?_⟩; gi_at_call 32; refine (callsIn_wide.2 (copied_flat S e _ _ (HD0.out.below HWL.out) (vEnt_data HVE.out))).mono ?_; rintro e5 w6 ⟨a', cap', rfl, ho6, hb6⟩; have HB6 := Lib.hid (HWL.out.trans (hb6.mono HWL.out.size)); obtain ⟨fn, tmps, assign, body, hy, hR⟩ := HY.out pre (.slice a' e.data.length cap', e) w6 (HJ.out _ _ _ HJK.out HB6.out) ⟨owns_le20 ho6 (Nat.le_trans HBW.out.size (Nat.le_trans HBR.out.1 HWL.out.size)), HOK0.out⟩ (by have h1 := congrArg List.length HPRE.out; rw [List.length_map, List.length_take] at h1; omega); simp only [entV] at hy; have HO6 := Lib.hid ho6; clear ho6 hb6 c0 c1 c2 c3 c4 c5)
      refine hR.mono ?_
      rintro e6 w7 (⟨rfl, hj7, hk7⟩ | ⟨rfl, hj7⟩)
      · have HJ7 := Lib.hid hj7
        have HK7 := Lib.hid hk7
        have HBR6 := Lib.hid (wKeep_t (wKeep_below (S := S) (tb := tb) (mb := mb) (L := L) (b1 := b1) HB6.out) HK7.out)
        clear hj7 hk7 hy hR
        gi_wp2
        go_wp2_with fail
        go_roundw
        case rel =>
          refine ⟨k + 1, pre ++ [(.slice a' e.data.length cap', e)], by omega, by go_num, ?_, HJ7.out, ⟨Nat.le_trans HBR.out.1 HBR6.out.size, HBR6.out.tree HTR.out, HBR6.out.cell _ HBR.out.2.2⟩, HBR6.out.str.own HOWN.out⟩
          rw [List.take_add_one, HAT.out, List.map_append, HPRE.out]; rfl
        case measure => simp [intOf]; omega
      · have HJ7 := Lib.hid hj7
        clear hj7 hy hR
        gi_wp2
        go_wp2_with fail
        refine bodyPost_ret (results_none rfl _ _ _) rfl ?_
        refine ⟨⟨_, rfl⟩, .inr ⟨_, ⟨k + 1, ?_⟩, HJ7.out⟩⟩
        rw [List.take_add_one, HAT.out, List.map_append, HPRE.out]; rfl
    · have hk2 : k = n := by omega
      go_wp2_with fail
      go_end0
      refine ⟨⟨_, rfl⟩, .inl ⟨pre, ?_, HJK.out⟩⟩
      rw [HPRE.out, hk2, HN2.out, List.take_length]

end Go.Proofs.YtbkhdpocmmjnbaaGreatDoor
