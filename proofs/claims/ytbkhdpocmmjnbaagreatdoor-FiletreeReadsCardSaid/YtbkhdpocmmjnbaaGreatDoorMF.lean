/- Texts of this proof, one after the other: RfN, RfO. -/
import Derived.Test.YtbkhdpocmmjnbaaGreatDoorME
/- Contracts of the specification kinkeepref20: Move. -/
namespace Go.Proofs.YtbkhdpocmmjnbaaGreatDoor
open Go Go.RowKit Go.Maps


theorem moved_val {src dst : ByteArray} {e : Ent} (hi : inB src e = true) : dst ++ e.path.extract src.size e.path.size = (moveE src dst e).path := by
  rw [moveE_eq hi]
  refine bl_inj ?_
  simp only [bl, size_bl, ByteArray.data_append, ByteArray.data_extract, Array.toList_append, Array.toList_extract]
  congr 1
  rw [List.extract_eq_take_drop]
  refine List.take_of_length_le ?_
  rw [List.length_drop]
  exact Nat.le_refl _
theorem moveE_ok {src dst : ByteArray} {e : Ent} (h : EntOk e) (hp : (moveE src dst e).path.size ≤ maxLen) : EntOk (moveE src dst e) := by
  have h1 : (moveE src dst e) = { e with path := (moveE src dst e).path } := by unfold moveE; split <;> rfl
  rw [h1]
  exact { h with pth := hp }
theorem moveE_data {src dst : ByteArray} {e : Ent} : (moveE src dst e).data = e.data := by unfold moveE; split <;> rfl
theorem moveE_flat {src dst : ByteArray} {e : Ent} : (moveE src dst e) = ⟨(moveE src dst e).path, e.kind, e.mode, e.time, e.data, e.link⟩ := by unfold moveE; split <;> rfl
set_option maxRecDepth 100000 in
set_option maxHeartbeats 4000000 in
theorem r_move_any (S : Nat → Prop) (L : List Ent) (v : Value) (p q : ByteArray) (w : World) (hv : EntsAt S w v L) (ht : TOk L) (hp : p.size ≤ 65000) (hq : q.size ≤ 65000) :
    Calls Tryz.prog 30 #[v, .string p, .string q] w (RList S (moveP L p q) w) := by
  have HV := Lib.hid hv
  have HT := Lib.hid ht
  have HP := Lib.hid hp
  have HQ := Lib.hid hq
  have HPS := Lib.hid (show ∀ e ∈ L, e.path.size ≤ 512 from fun e he => by have := valid_size (vEnt_path (ht.val e he)); rw [size_bl]; omega)
  obtain ⟨a, cap, rfl, hc, hm, -⟩ := SeqAt.shape hv EntR.len
  unfold maxLen at hm
  obtain ⟨n, hn⟩ : ∃ n, n = L.length := ⟨_, rfl⟩
  have hn4 : n ≤ 4096 := by rw [hn]; exact ht.len
  have HN := Lib.hid hn
  rw [← hn] at hc HV ⊢
  clear hv ht hn
  go_enter Tryz.func30, Tryz.ntmps30
  go_wp2_with fail
  cases hvp : validP (bl p)
  · have HVP := Lib.hid hvp
    have HPM := Lib.hid (show moveP L p q = (L, 1) by unfold moveP; rw [hvp]; rfl)
    clear hvp
    refine (r_valid20_is p false _ (by have := HP.out; omega) HVP.out).mono ?_
    rintro e w1 ⟨rfl, hb1⟩
    have HB1 := Lib.hid hb1
    clear hb1
    go_wp2_with fail
    go_ret2
    exact ⟨.slice a n cap, by rw [HPM.out]; rfl, by rw [HPM.out]; exact ents_wide HV.out HB1.out, HB1.out⟩
  have HVP := Lib.hid hvp
  refine (r_valid20_is p true _ (by have := HP.out; omega) HVP.out).mono ?_
  rintro e w1 ⟨rfl, hb1⟩
  have HB1 := Lib.hid hb1
  clear hb1 hvp
  go_wp2_with fail
  cases hvq : validP (bl q)
  · have HVQ := Lib.hid hvq
    have HPM := Lib.hid (show moveP L p q = (L, 1) by unfold moveP; rw [HVP.out, hvq]; rfl)
    clear hvq
    refine (r_valid20_is q false _ (by have := HQ.out; omega) HVQ.out).mono ?_
    rintro e w2 ⟨rfl, hb2⟩
    have HB2 := Lib.hid (below_next HB1.out hb2)
    clear hb2
    go_wp2_with fail
    go_ret2
    exact ⟨.slice a n cap, by rw [HPM.out]; rfl, by rw [HPM.out]; exact ents_wide HV.out HB2.out, HB2.out⟩
  have HVQ := Lib.hid hvq
  refine (r_valid20_is q true _ (by have := HQ.out; omega) HVQ.out).mono ?_
  rintro e w2 ⟨rfl, hb2⟩
  have HB2 := Lib.hid (below_next HB1.out hb2)
  clear hb2 hvq
  go_wp2_with fail
  rcases findIx_spec (p := p) L 0 with ⟨hf, hix⟩ | ⟨j, f, hf, hjf, hix⟩
  · have HFX := Lib.hid hix
    have HPM := Lib.hid (show moveP L p q = (L, 4) by unfold moveP; rw [HVP.out, HVQ.out, hf]; rfl)
    clear hix hf
    refine (r_find_is S L _ p (-1) _ (HV.out.below HB2.out) HFX.out).mono ?_
    rintro e w3 ⟨rfl, hb3⟩
    have HB3 := Lib.hid (below_next HB2.out hb3)
    clear hb3
    go_wp2_with fail
    go_ret2
    exact ⟨.slice a n cap, by rw [HPM.out]; rfl, by rw [HPM.out]; exact ents_wide HV.out HB3.out, HB3.out⟩
  have HFX := Lib.hid (show findIx L p 0 = (j : Int) by rw [hix]; simp)
  have HF := Lib.hid hf
  clear hix hf hjf
  refine (r_find_is S L _ p (j : Int) _ (HV.out.below HB2.out) HFX.out).mono ?_
  rintro e w3 ⟨rfl, hb3⟩
  have HB3 := Lib.hid (below_next HB2.out hb3)
  clear hb3
  go_wp2_with fail
  cases hwi : withinB (bl p) (bl q)
  case true =>
    have HWI := Lib.hid hwi
    have HPM := Lib.hid (show moveP L p q = (L, 13) by unfold moveP; rw [HVP.out, HVQ.out, HF.out, hwi]; rfl)
    clear hwi
    refine (r_within20 p q true _ (by have := HP.out; omega) (by have := HQ.out; omega) HWI.out).mono ?_
    rintro e w4 ⟨rfl, hb4⟩
    have HB4 := Lib.hid (below_next HB3.out hb4)
    clear hb4
    go_wp2_with fail
    go_ret2
    exact ⟨.slice a n cap, by rw [HPM.out]; rfl, by rw [HPM.out]; exact ents_wide HV.out HB4.out, HB4.out⟩
  have HWI := Lib.hid hwi
  refine (r_within20 p q false _ (by have := HP.out; omega) (by have := HQ.out; omega) HWI.out).mono ?_
  rintro e w4 ⟨rfl, hb4⟩
  have HB4 := Lib.hid (below_next HB3.out hb4)
  clear hb4 hwi
  go_wp2_with fail
  rcases findIx_spec (p := q) L 0 with ⟨hg, hix⟩ | ⟨j2, g, hg, -, hix⟩
  case inr =>
    have HGX := Lib.hid (show findIx L q 0 = (j2 : Int) by rw [hix]; simp)
    have HPM := Lib.hid (show moveP L p q = (L, 5) by unfold moveP; rw [HVP.out, HVQ.out, HF.out, HWI.out, hg]; rfl)
    clear hix hg
    refine (r_find_is S L _ q (j2 : Int) _ (HV.out.below HB4.out) HGX.out).mono ?_
    rintro e w5 ⟨rfl, hb5⟩
    have HB5 := Lib.hid (below_next HB4.out hb5)
    clear hb5
    go_wp2_with fail
    go_ret2
    exact ⟨.slice a n cap, by rw [HPM.out]; rfl, by rw [HPM.out]; exact ents_wide HV.out HB5.out, HB5.out⟩
  have HGX := Lib.hid hix
  have HG := Lib.hid hg
  clear hix hg
  refine (r_find_is S L _ q (-1) _ (HV.out.below HB4.out) HGX.out).mono ?_
  rintro e w5 ⟨rfl, hb5⟩
  have HB5 := Lib.hid (below_next HB4.out hb5)
  clear hb5
  go_wp2_with fail
  obtain ⟨u, hu⟩ : ∃ u : ByteArray, u = ⟨(parentL (bl q)).toArray⟩ := ⟨_, rfl⟩
  have HU := Lib.hid hu
  have HUB := Lib.hid (show bl u = parentL (bl q) by rw [hu, bl_mk])
  clear hu
  refine (r_parent_is q u _ HQ.out HU.out).mono ?_
  rintro e w6 ⟨rfl, hb6⟩
  have HB6 := Lib.hid (below_next HB5.out hb6)
  clear hb6
  go_wp2_with fail
  obtain ⟨x, hx⟩ : ∃ x, dirE L (bl u) = x := ⟨_, rfl⟩
  have HXD := Lib.hid hx
  have hx2 : dirE L (parentL (bl q)) = x := by rw [← HUB.out]; exact hx
  refine (r_dir_is S L _ u x _ (HV.out.below HB6.out) HXD.out).mono ?_
  rintro e w7 ⟨rfl, hb7⟩
  have HB7 := Lib.hid (below_next HB6.out hb7)
  clear hb7 hx
  by_cases hx0 : x = 0
  case neg =>
    have e1 : (x != 0) = true := by simp [hx0]
    have HPM := Lib.hid (show moveP L p q = (L, x) by unfold moveP; rw [HVP.out, HVQ.out, HF.out, HWI.out, HG.out, hx2, if_neg (by simp), if_neg (by simp), if_neg (by simp), if_neg (by simp), if_pos hx0])
    clear hx2 hx0
    go_wp2_with fail
    go_ret2
    exact ⟨.slice a n cap, by rw [HPM.out]; rfl, by rw [HPM.out]; exact ents_wide HV.out HB7.out, HB7.out⟩
  subst hx0
  have HPM0 := Lib.hid (show moveP L p q = if (L.all fun e => !inB p e || validP (bl (moveE p q e).path)) = false then (L, 2) else (sortP (L.map (moveE p q)), 0) by
    unfold moveP; rw [HVP.out, HVQ.out, HF.out, HWI.out, HG.out, hx2, if_neg (by simp), if_neg (by simp), if_neg (by simp), if_neg (by simp), if_neg (by simp)])
  clear hx2
  have hps2 : p.size ≤ 512 := by have := valid_size HVP.out; rw [size_bl]; omega
  have hqs2 : q.size ≤ 512 := by have := valid_size HVQ.out; rw [size_bl]; omega
  go_wp2_with fail
  go_loopw [9, 45] (fun v i wr => ∃ (k : Nat) (ys : List VEnt), k ≤ n ∧ i = .int .i64 k ∧ LoopG S w ((L.take k).map (moveE p q)) ys v wr ∧ ((L.take k).all fun e => !inB p e || validP (bl (moveE p q e).path)) = true) (fun _ i _ => n - (intOf i).toNat)
  case atStart => exact ⟨0, [], Nat.zero_le _, rfl, by simpa using LoopG.nil S w HB7.out, by simp⟩
  case round =>
    obtain ⟨k, ys, hk, rfl, hlg, hall⟩ := hrel
    have HLG := Lib.hid hlg
    have HALL := Lib.hid hall
    obtain ⟨av, cv, hsv, hvn, hvm, hyl⟩ := hlg.shape
    subst hsv
    have hyk : ys.length ≤ k := by rw [hyl, List.length_map]; exact List.length_take_le _ _
    clear hyl
    unfold maxLen at hvm
    clear hlg hall
    by_cases hlt : k < n
    · have hlt2 := hlt
      obtain ⟨e, he⟩ : ∃ e, L[k]? = some e := ⟨L[k]'(by rw [← HN.out]; exact hlt), by simp⟩
      obtain ⟨b, o, dv, rfl, -, hb, hd, hok, -, q0, q1, q2, q3, q4, q5⟩ := ents_at HV.out he
      have r0 := (HLG.out.2.2.2.cell (block_lt q0)).trans q0
      have r1 := (HLG.out.2.2.2.cell (block_lt q1)).trans q1
      have r2 := (HLG.out.2.2.2.cell (block_lt q2)).trans q2
      have r3 := (HLG.out.2.2.2.cell (block_lt q3)).trans q3
      have r4 := (HLG.out.2.2.2.cell (block_lt q4)).trans q4
      have r5 := (HLG.out.2.2.2.cell (block_lt q5)).trans q5
      have HX := Lib.hid he
      have HD := Lib.hid hd
      have HOK := Lib.hid hok
      have HPE := Lib.hid (HPS.out e (List.mem_of_getElem? he))
      obtain ⟨a1, cap1, rfl, hd1, hd2⟩ := hd.slice
      unfold maxLen at hd2
      clear he hd hok q0 q1 q2 q3 q4 q5
      have heL := List.mem_of_getElem? HX.out
      go_upto_region 16 with (fail)
      obtain ⟨W, hW⟩ : ∃ W, W = wr.alloc (.cells #[.string e.path, .int .i64 e.kind, .int .i64 e.mode, .int .i64 e.time, .slice a1 e.data.length cap1, .string e.link] 30) := ⟨_, rfl⟩
      rw [← hW]
      have HXW := Lib.hid (show W.heap[wr.heap.size]? = some (.cells #[.string e.path, .int .i64 e.kind, .int .i64 e.mode, .int .i64 e.time, .slice a1 e.data.length cap1, .string e.link] 30 (0, 0)) by rw [hW]; exact new20 wr _)
      have HWL := Lib.hid (show Below wr.heap.size wr W by rw [hW]; exact (Below.refl _ _).alloc (Nat.le_refl _) _)
      clear hW r0 r1 r2 r3 r4 r5
      have c0 := cell20 (k := 0) HXW.out
      have c1 := cell20 (k := 1) HXW.out
      have c2 := cell20 (k := 2) HXW.out
      have c3 := cell20 (k := 3) HXW.out
      have c4 := cell20 (k := 4) HXW.out
      have c5 := cell20 (k := 5) HXW.out
      simp only [List.getElem?_toArray, List.getElem?_cons_succ, List.getElem?_cons_zero] at c0 c1 c2 c3 c4 c5
      go_wp2_with fail
      cases hin : inB p e
      · obtain ⟨np, hnp⟩ : ∃ np, np = e.path := ⟨_, rfl⟩
        have HNP := Lib.hid (show np = (moveE p q e).path by rw [moveE_no hin]; exact hnp)
        have HVN := Lib.hid (show (List.all [e] fun e => !inB p e || validP (bl (moveE p q e).path)) = true by simp [hin])
        have HOKN := Lib.hid (show EntOk ⟨np, e.kind, e.mode, e.time, e.data, e.link⟩ by rw [hnp]; exact HOK.out)
        refine (r_within20 p e.path false _ (by have := HP.out; omega) (by have := HPS.out e heL; omega) hin).mono ?_
        rintro e7 w8 ⟨rfl, hb8⟩
        have HL8 := Lib.hid (HWL.out.trans (hb8.mono HWL.out.size))
        have HX8 := Lib.hid (show w8.heap[wr.heap.size]? = some (.cells #[.string np, .int .i64 e.kind, .int .i64 e.mode, .int .i64 e.time, .slice a1 e.data.length cap1, .string e.link] 30 (0, 0)) by rw [hnp]; exact (hb8.block _ (lt20 HXW.out)).trans HXW.out)
        clear hb8 hin hnp c0 c1 c2 c3 c4 c5 heL
        have c0 := cell20 (k := 0) HX8.out
        have c1 := cell20 (k := 1) HX8.out
        have c2 := cell20 (k := 2) HX8.out
        have c3 := cell20 (k := 3) HX8.out
        have c4 := cell20 (k := 4) HX8.out
        have c5 := cell20 (k := 5) HX8.out
        simp only [List.getElem?_toArray, List.getElem?_cons_succ, List.getElem?_cons_zero] at c0 c1 c2 c3 c4 c5
        have HO7 := Lib.hid (HLG.out.below HL8.out)
        have hsz7 : w.heap.size ≤ (w8).heap.size := HO7.out.2.2.2.size
        go_wp2_with (at_builtin; go_must (refine wpList_app1p Tryz.appEnts rfl _ _ rfl w.heap.size (.slice av ys.length cv) ys.length (entsC ys) rfl w8 (entC (.slice a1 e.data.length cap1) ⟨np, e.kind, e.mode, e.time, e.data, e.link⟩) _ rfl rfl entC_one HO7.out.2.1 (by omega) hsz7 ?_); intro v' w9 hown9 hgrow9 _ _; have HPU := Lib.hid (HO7.out.push (y := (.slice a1 e.data.length cap1, ⟨np, e.kind, e.mode, e.time, e.data, e.link⟩)) HD.out HOKN.out hown9 hgrow9); clear hown9 hgrow9)
        go_wp2_with fail
        go_roundw
        case rel =>
          refine ⟨k + 1, ys ++ [(.slice a1 e.data.length cap1, ⟨np, e.kind, e.mode, e.time, e.data, e.link⟩)], by omega, by go_num, ?_, ?_⟩
          · have h1 := HPU.out
            rw [List.take_add_one, HX.out, List.map_append]
            show LoopG S w (_ ++ [moveE p q e]) _ _ _
            rw [moveE_flat (src := p) (dst := q) (e := e), ← HNP.out]
            exact h1
          · rw [List.take_add_one, HX.out]
            show (_ ++ [e]).all _ = true
            rw [List.all_append, HALL.out, HVN.out]
            rfl
        case measure => simp [intOf]; omega
      · have HIN := Lib.hid hin
        refine (r_within20 p e.path true _ (by have := HP.out; omega) (by have := HPS.out e heL; omega) hin).mono ?_
        rintro e7 w8 ⟨rfl, hb8⟩
        have HL8 := Lib.hid (HWL.out.trans (hb8.mono HWL.out.size))
        have HX8 := Lib.hid ((hb8.block _ (lt20 HXW.out)).trans HXW.out)
        obtain ⟨t, hbt, -⟩ := within_rest HT.out HVP.out heL hin
        have hle : p.size ≤ e.path.size := by rw [size_bl, size_bl, hbt]; simp
        have hes := HPS.out e heL
        clear hb8 hin c0 c1 c2 c3 c4 c5 hbt
        have c0 := cell20 (k := 0) HX8.out
        have c1 := cell20 (k := 1) HX8.out
        have c2 := cell20 (k := 2) HX8.out
        have c3 := cell20 (k := 3) HX8.out
        have c4 := cell20 (k := 4) HX8.out
        have c5 := cell20 (k := 5) HX8.out
        simp only [List.getElem?_toArray, List.getElem?_cons_succ, List.getElem?_cons_zero] at c0 c1 c2 c3 c4 c5
        have m0 := frozen20 (k := 0) HX8.out
        go_wp2_with fail
        obtain ⟨np, hnp⟩ : ∃ np, np = q ++ e.path.extract p.size e.path.size := ⟨_, rfl⟩
        have HNP := Lib.hid (show np = (moveE p q e).path by rw [hnp]; exact moved_val HIN.out)
        have hns : np.size ≤ 1024 := by rw [hnp, ByteArray.size_append, ByteArray.size_extract]; omega
        rw [← hnp]
        obtain ⟨V, hV⟩ : ∃ V, V = w8.setCell ⟨wr.heap.size, 0, none⟩ (.string np) := ⟨_, rfl⟩
        rw [← hV]
        have HL9 := Lib.hid (show Below wr.heap.size wr V by rw [hV]; exact below_set20 HL8.out (Nat.le_refl _))
        have HX9 := Lib.hid (show V.heap[wr.heap.size]? = some (.cells #[.string np, .int .i64 e.kind, .int .i64 e.mode, .int .i64 e.time, .slice a1 e.data.length cap1, .string e.link] 30 (0, 0)) by rw [hV]; exact set20 HX8.out _)
        have HOKN := Lib.hid (show EntOk ⟨np, e.kind, e.mode, e.time, e.data, e.link⟩ from { HOK.out with pth := by show np.size ≤ maxLen; unfold maxLen; omega })
        clear hV hnp c0 c1 c2 c3 c4 c5 m0
        cases hvn : validP (bl np)
        · have HVV := Lib.hid hvn
          have HPM := Lib.hid (show moveP L p q = (L, 2) by
            rw [HPM0.out, if_pos ?_]
            rw [Bool.eq_false_iff]
            intro hc
            have h1 := List.all_eq_true.1 hc e heL
            rw [HIN.out, ← HNP.out, hvn] at h1
            cases h1)
          clear hvn heL
          refine (r_valid20_is np false _ (by omega) HVV.out).mono ?_
          rintro e7 w10 ⟨rfl, hb10⟩
          have HBZ := Lib.hid (below_next HLG.out.2.2.2 (HL9.out.trans (hb10.mono HL9.out.size)))
          clear hb10
          go_wp2_with fail
          go_ret2
          exact ⟨.slice (some ⟨b, o, none⟩) n cap, by rw [HPM.out]; rfl, by rw [HPM.out]; exact ents_wide HV.out HBZ.out, HBZ.out⟩
        · have HVV := Lib.hid hvn
          have HVN := Lib.hid (show (List.all [e] fun e => !inB p e || validP (bl (moveE p q e).path)) = true by
            simp only [List.all_cons, List.all_nil, Bool.and_true]
            rw [← HNP.out, hvn]
            simp)
          clear hvn heL
          refine (r_valid20_is np true _ (by omega) HVV.out).mono ?_
          rintro e7 w10 ⟨rfl, hb10⟩
          have HL10 := Lib.hid (HL9.out.trans (hb10.mono HL9.out.size))
          have HX10 := Lib.hid ((hb10.block _ (lt20 HX9.out)).trans HX9.out)
          clear hb10
          have c0 := cell20 (k := 0) HX10.out
          have c1 := cell20 (k := 1) HX10.out
          have c2 := cell20 (k := 2) HX10.out
          have c3 := cell20 (k := 3) HX10.out
          have c4 := cell20 (k := 4) HX10.out
          have c5 := cell20 (k := 5) HX10.out
          simp only [List.getElem?_toArray, List.getElem?_cons_succ, List.getElem?_cons_zero] at c0 c1 c2 c3 c4 c5
          have HO7 := Lib.hid (HLG.out.below HL10.out)
          have hsz7 : w.heap.size ≤ (w10).heap.size := HO7.out.2.2.2.size
          go_wp2_with (at_builtin; go_must (refine wpList_app1p Tryz.appEnts rfl _ _ rfl w.heap.size (.slice av ys.length cv) ys.length (entsC ys) rfl w10 (entC (.slice a1 e.data.length cap1) ⟨np, e.kind, e.mode, e.time, e.data, e.link⟩) _ rfl rfl entC_one HO7.out.2.1 (by omega) hsz7 ?_); intro v' w9 hown9 hgrow9 _ _; have HPU := Lib.hid (HO7.out.push (y := (.slice a1 e.data.length cap1, ⟨np, e.kind, e.mode, e.time, e.data, e.link⟩)) HD.out HOKN.out hown9 hgrow9); clear hown9 hgrow9)
          go_wp2_with fail
          go_roundw
          case rel =>
            refine ⟨k + 1, ys ++ [(.slice a1 e.data.length cap1, ⟨np, e.kind, e.mode, e.time, e.data, e.link⟩)], by omega, by go_num, ?_, ?_⟩
            · have h1 := HPU.out
              rw [List.take_add_one, HX.out, List.map_append]
              show LoopG S w (_ ++ [moveE p q e]) _ _ _
              rw [moveE_flat (src := p) (dst := q) (e := e), ← HNP.out]
              exact h1
            · rw [List.take_add_one, HX.out]
              show (_ ++ [e]).all _ = true
              rw [List.all_append, HALL.out, HVN.out]
              rfl
          case measure => simp [intOf]; omega
    · have hk2 : k = n := by omega
      have hlx := HLG.out
      have hax := HALL.out
      rw [hk2, HN.out, List.take_length] at hlx hax
      have HLX := Lib.hid hlx
      have HPM := Lib.hid (show moveP L p q = (sortP (L.map (moveE p q)), 0) by rw [HPM0.out, if_neg (by rw [hax]; simp)])
      have HMS := Lib.hid (show ∀ e ∈ L.map (moveE p q), e.path.size ≤ 65000 from fun e he => by
        obtain ⟨f, hf, rfl⟩ := List.mem_map.1 he
        have h1 := HPS.out f hf
        cases hi : inB p f
        · rw [moveE_no hi]; omega
        · rw [← moved_val hi, ByteArray.size_append, ByteArray.size_extract]; omega)
      clear hlx hax hk2
      go_wp2_with fail
      refine (r_sorted_any (fun k => S k ∨ w.heap.size ≤ k) (L.map (moveE p q)) _ _ HLX.out.out HMS.out (by rw [List.length_map, ← HN.out]; omega)).mono ?_
      rintro e9 w9 ⟨v9, rfl, h9, hb9⟩
      have H9 := Lib.hid (ents_mo (T := fun k => S k ∨ w.heap.size ≤ k) h9 (fun k _ hk => by
        rcases hk with hk | hk
        · exact hk
        · exact .inr (Nat.le_trans HLX.out.2.2.2.size hk)))
      have HB9 := Lib.hid (below_next HLX.out.2.2.2 hb9)
      clear h9 hb9
      go_wp2_with fail
      go_ret2
      exact ⟨v9, by rw [HPM.out]; rfl, by rw [HPM.out]; exact H9.out, HB9.out⟩

end Go.Proofs.YtbkhdpocmmjnbaaGreatDoor

/- Contracts of the specification kinkeepref20: Do. -/
namespace Go.Proofs.YtbkhdpocmmjnbaaGreatDoor
open Go Go.RowKit Go.Maps

set_option maxRecDepth 100000 in
set_option maxHeartbeats 2000000 in
theorem r_do_any (S : Nat → Prop) (L : List Ent) (v ev : Value) (x : POp) (w : World) (hv : EntsAt S w v L) (ht : TOk L) (hd : DataAt S w ev x.en.data) (hok : OpOk x) (hpe : x.en.path.size ≤ 65000) (hps : x.src.size ≤ 65000) (hpd : x.dst.size ≤ 65000) :
    Calls Tryz.prog 8 #[v, opV ev x] w (RList S (doP L x) w) := by
  have HT := Lib.hid ht
  have HOK := Lib.hid hok
  have HP1 := Lib.hid hpe
  have HP2 := Lib.hid hps
  have HP3 := Lib.hid hpd
  obtain ⟨ap, cp, rfl, hcp, hmp⟩ := hd.slice
  unfold maxLen at hmp
  have HV0 := Lib.hid hv
  have HD0 := Lib.hid hd
  clear hv ht hd hok hpe hps hpd
  unfold opV
  go_enter Tryz.func8, Tryz.ntmps8
  go_upto_region 1 with (fail)
  obtain ⟨w1, hw1⟩ : ∃ w1, w1 = w.alloc (.cells #[.int .i64 x.kind, .string x.en.path, .int .i64 x.en.kind, .int .i64 x.en.mode, .int .i64 x.en.time, .slice ap x.en.data.length cp, .string x.en.link, .string x.src, .string x.dst, .bool x.below] 32) := ⟨_, rfl⟩
  rw [← hw1]
  have hx1 : w1.heap[w.heap.size]? = some (.cells #[.int .i64 x.kind, .string x.en.path, .int .i64 x.en.kind, .int .i64 x.en.mode, .int .i64 x.en.time, .slice ap x.en.data.length cp, .string x.en.link, .string x.src, .string x.dst, .bool x.below] 32 (0, 0)) := by rw [hw1]; exact new20 w _
  have HB1 := Lib.hid (show Below w.heap.size w w1 by rw [hw1]; exact (Below.refl _ _).alloc (Nat.le_refl _) _)
  have HV := Lib.hid (HV0.out.below HB1.out)
  have HD := Lib.hid (DataAt.below HD0.out HB1.out)
  clear hw1
  have c0 := cell20 (k := 0) hx1
  have c1 := cell20 (k := 1) hx1
  have c2 := cell20 (k := 2) hx1
  have c3 := cell20 (k := 3) hx1
  have c4 := cell20 (k := 4) hx1
  have c5 := cell20 (k := 5) hx1
  have c6 := cell20 (k := 6) hx1
  have c7 := cell20 (k := 7) hx1
  have c8 := cell20 (k := 8) hx1
  have c9 := cell20 (k := 9) hx1
  simp only [List.getElem?_toArray, List.getElem?_cons_succ, List.getElem?_cons_zero] at c0 c1 c2 c3 c4 c5 c6 c7 c8 c9
  clear hx1
  by_cases h1 : x.kind = 1
  · have e1 : (x.kind == 1) = true := by simp [h1]
    have HDO := Lib.hid (show doP L x = putP L x.en by unfold doP; rw [if_pos h1])
    clear h1
    go_wp2_with fail
    refine (r_put_any S L v (.slice ap x.en.data.length cp) x.en _ HV.out HT.out HD.out HOK.out.en HP1.out).mono ?_
    rintro e w2 ⟨v2, rfl, h2, h3⟩
    have H2 := Lib.hid h2
    have H3 := Lib.hid h3
    clear h2 h3
    go_wp2_with fail
    go_ret2
    exact rlist_of HB1.out ⟨v2, by rw [HDO.out]; rfl, by rw [HDO.out]; exact H2.out, H3.out⟩
  have e1 : (x.kind == 1) = false := by simp [h1]
  by_cases h2 : x.kind = 2
  · have e2 : (x.kind == 2) = true := by simp [h2]
    have HDO := Lib.hid (show doP L x = removeP L x.src x.below by unfold doP; rw [if_neg h1, if_pos h2])
    clear h1 h2
    go_wp2_with fail
    refine (r_remove_any S L v x.src x.below _ HV.out (fun e he => by have := valid_size (vEnt_path (HT.out.val e he)); rw [size_bl]; omega) HP2.out (by have := HT.out.len; omega)).mono ?_
    rintro e w2 ⟨v2, rfl, h2, h3⟩
    have H2 := Lib.hid h2
    have H3 := Lib.hid h3
    clear h2 h3
    go_wp2_with fail
    go_ret2
    exact rlist_of HB1.out ⟨v2, by rw [HDO.out]; rfl, by rw [HDO.out]; exact H2.out, H3.out⟩
  have e2 : (x.kind == 2) = false := by simp [h2]
  by_cases h3 : x.kind = 3
  · have e3 : (x.kind == 3) = true := by simp [h3]
    have HDO := Lib.hid (show doP L x = moveP L x.src x.dst by unfold doP; rw [if_neg h1, if_neg h2, if_pos h3])
    clear h1 h2 h3
    go_wp2_with fail
    refine (r_move_any S L v x.src x.dst _ HV.out HT.out HP2.out HP3.out).mono ?_
    rintro e w2 ⟨v2, rfl, h2, h3⟩
    have H2 := Lib.hid h2
    have H3 := Lib.hid h3
    clear h2 h3
    go_wp2_with fail
    go_ret2
    exact rlist_of HB1.out ⟨v2, by rw [HDO.out]; rfl, by rw [HDO.out]; exact H2.out, H3.out⟩
  have e3 : (x.kind == 3) = false := by simp [h3]
  have HDO := Lib.hid (show doP L x = (L, 0) by unfold doP; rw [if_neg h1, if_neg h2, if_neg h3])
  clear h1 h2 h3
  go_wp2_with fail
  go_ret2
  exact rlist_of HB1.out ⟨v, by rw [HDO.out]; rfl, by rw [HDO.out]; exact ents_wide HV.out (Below.refl _ _), Below.refl _ _⟩

end Go.Proofs.YtbkhdpocmmjnbaaGreatDoor
