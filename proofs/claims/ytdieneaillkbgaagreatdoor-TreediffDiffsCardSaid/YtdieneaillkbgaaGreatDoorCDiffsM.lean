/- TreediffDiffs: for every input the law returns true, and each argument reads afterwards as it read before (the tied card). -/
import Derived.Test.YtdieneaillkbgaaGreatDoorCDiffsG
/- The reference kinkeepref23: Diff (under way). -/
namespace Go.Proofs.YtdieneaillkbgaaGreatDoor
open Go Go.RowKit Go.Maps
set_option maxRecDepth 100000 in
set_option maxHeartbeats 40000000 in
theorem r_diff_any (S T : Nat → Prop) (a b : List Ent) (va vb : Value) (w : World) (ha : EntsAt S w va a) (hb : EntsAt T w vb b) (hta : TOk a) (htb : TOk b) (hna : a.length ≤ 40) (hnb : b.length ≤ 40) :
    Calls Tryz.prog 18 #[va, vb] w fun e w' => ∃ v, e = .returned v ∧ ChgsAt (fun _ => True) w' v (diffP a b) ∧ Below w.heap.size w w' := by
  have HA := Lib.hid (ents_old ha)
  have HB := Lib.hid (ents_old hb)
  have HTA := Lib.hid hta
  have HTB := Lib.hid htb
  obtain ⟨aa, ca, rfl, hca, hma, -⟩ := SeqAt.shape ha EntR.len
  obtain ⟨ab, cb, rfl, hcb, hmb, -⟩ := SeqAt.shape hb EntR.len
  unfold maxLen at hma hmb
  obtain ⟨n, hn⟩ : ∃ n, n = a.length := ⟨_, rfl⟩
  obtain ⟨m, hm⟩ : ∃ m, m = b.length := ⟨_, rfl⟩
  rw [← hn] at hca hna HA ⊢
  rw [← hm] at hcb hnb HB ⊢
  have HN := Lib.hid hn
  have HM := Lib.hid hm
  clear ha hb hta htb hn hm
  go_enter Tryz.func18, Tryz.ntmps18
  go_wp2_with fail
  go_loopw [5, 23] (fun v i wr => ∃ (k : Nat) (ys : List VEnt), k ≤ n ∧ i = .int .i64 k ∧ LoopH a b w k v ys wr) (fun _ i _ => n - (intOf i).toNat)
  case atStart => exact ⟨0, [], Nat.zero_le _, rfl, by simp [goneE], World.ownsRow_nil _ _ _ _, by simp, Below.refl _ _⟩
  case round =>
    obtain ⟨k, ys, hk, rfl, hlp⟩ := hrel
    obtain ⟨av, cv, hsv, hvn, hvm⟩ := owns_shape hlp.row
    subst hsv
    unfold maxLen at hvm
    have hyl : ys.length ≤ 65536 := by
      have := congrArg List.length hlp.out
      have h2 := List.length_filter_le (fun x : Ent => !keptE b x) (a.take k)
      unfold goneE at this
      rw [List.length_map] at this
      rw [List.length_take] at h2
      omega
    have HLP := Lib.hid hlp
    clear hlp
    by_cases hlt : k < n
    · obtain ⟨e, hcc⟩ : ∃ e, a[k]? = some e := ⟨a[k]'(by rw [← HN.out]; exact hlt), by simp⟩
      obtain ⟨b0, o0, dv, rfl, -, hb0, hd, hok, -, q0, q1, q2, q3, q4, q5⟩ := ents_at HA.out hcc
      replace q0 := (HLP.out.bel.cell hb0).trans q0
      replace q1 := (HLP.out.bel.cell hb0).trans q1
      replace q2 := (HLP.out.bel.cell hb0).trans q2
      replace q3 := (HLP.out.bel.cell hb0).trans q3
      replace q4 := (HLP.out.bel.cell hb0).trans q4
      replace q5 := (HLP.out.bel.cell hb0).trans q5
      have hb01 : b0 < wr.heap.size := Nat.lt_of_lt_of_le hb0 HLP.out.bel.size
      have HD := Lib.hid hd
      have HOK := Lib.hid hok
      have HDT := Lib.hid (gone_take (b := b) hcc)
      have HGA := Lib.hid (gone_at (b := b) (HTA.out.val e (List.mem_of_getElem? hcc)))
      obtain ⟨a1, cap1, rfl, hd1, hd2⟩ := hd.slice
      unfold maxLen at hd2
      clear hcc hd hok
      go_upto_region 5 with (fail)
      obtain ⟨W, hW⟩ : ∃ Z : World, Z = wr.alloc (.cells #[.string e.path, .int .i64 e.kind, .int .i64 e.mode, .int .i64 e.time, .slice a1 e.data.length cap1, .string e.link] 48) := ⟨_, rfl⟩
      rw [← hW]
      have HW := Lib.hid (show Below wr.heap.size wr W by rw [hW]; exact (Below.refl _ _).alloc (Nat.le_refl _) _)
      have HX := Lib.hid (show W.heap[wr.heap.size]? = some (.cells #[.string e.path, .int .i64 e.kind, .int .i64 e.mode, .int .i64 e.time, .slice a1 e.data.length cap1, .string e.link] 48 (0, 0)) by rw [hW]; exact new20 wr _)
      have HBW := Lib.hid (below_next HLP.out.bel HW.out)
      clear hW q0 q1 q2 q3 q4 q5
      refine hld_start (fun w' => w'.cell? ⟨wr.heap.size, 0, none⟩ = some (.string e.path) ∧ w'.cell? ⟨wr.heap.size, 1, none⟩ = some (.int .i64 e.kind)) (by kernel_rfl) ?_
      obtain ⟨V, hV⟩ : ∃ V : World, V = W.drew := ⟨_, rfl⟩
      rw [← hV]
      have HV := Lib.hid (show Below W.heap.size W V by rw [hV]; exact bel_drew)
      clear hV
      have HXV := Lib.hid ((HV.out.block _ (lt20 HX.out)).trans HX.out)
      have HBV := Lib.hid (below_next HBW.out HV.out)
      have hS1 := And.intro (cell20 (k := 0) HXV.out) (cell20 (k := 1) HXV.out)
      simp only [List.getElem?_toArray, List.getElem?_cons_zero, List.getElem?_cons_succ] at hS1
      refine hld_take 0 rfl (by kernel_rfl) (by kernel_rfl) (by kernel_rfl) (fun _ _ _ h => h) rfl hS1 (by rintro w' ⟨hw1, hw2⟩; go_simp; rfl) ?_
      simp only [Act.put, List.setIfInBounds_toArray, List.set_cons_succ, List.set_cons_zero]
      refine hld_take 1 rfl (by kernel_rfl) (by kernel_rfl) (by kernel_rfl) (fun _ _ _ h => h) rfl hS1 (by rintro w' ⟨hw1, hw2⟩; go_simp; rfl) ?_
      simp only [Act.put, List.setIfInBounds_toArray, List.set_cons_succ, List.set_cons_zero]
      refine hld_take 2 rfl (by kernel_rfl) (by kernel_rfl) (by kernel_rfl) (fun _ _ _ h => h) rfl hS1 (by rintro w' ⟨hw1, hw2⟩; go_simp; rfl) ?_
      simp only [Act.put, List.setIfInBounds_toArray, List.set_cons_succ, List.set_cons_zero]
      refine hld_take 5 rfl (by kernel_rfl) (by kernel_rfl) (by kernel_rfl) (fun _ _ _ h => h) rfl hS1 (by rintro w' ⟨hw1, hw2⟩; go_simp; rfl) ?_
      simp only [Act.put, List.setIfInBounds_toArray, List.set_cons_succ, List.set_cons_zero]
      refine hld_take 6 rfl (by kernel_rfl) (by kernel_rfl) (by kernel_rfl) (fun _ _ _ h => h) rfl hS1 (by rintro w' ⟨hw1, hw2⟩; go_simp; rfl) ?_
      simp only [Act.put, List.setIfInBounds_toArray, List.set_cons_succ, List.set_cons_zero]
      refine hld_bar 3 rfl (by kernel_rfl) rfl (fun K hK => ?_)
      go_wp2_with (go_at_call 43; refine (r_at_any _ b (.slice ab m cb) e.path V (HB.out.below HBV.out)).mono ?_; rintro e9 w9 ⟨a9, c9, rfl, -, -, hb9⟩)
      have HB9 := Lib.hid hb9
      have HX9 := Lib.hid ((hb9.block _ (lt20 HXV.out)).trans HXV.out)
      have hS1 := And.intro (cell20 (k := 0) HX9.out) (cell20 (k := 1) HX9.out)
      simp only [List.getElem?_toArray, List.getElem?_cons_zero, List.getElem?_cons_succ] at hS1
      clear hb9
      refine ⟨hS1, ?_⟩
      unfold entV
      have hfl := fldK
      refine hld_take 4 rfl (by kernel_rfl) (by kernel_rfl) (by kernel_rfl) (fun _ _ _ h => h) rfl hS1 (by rintro w' ⟨hw1, hw2⟩; go_simp; rfl) ?_
      simp only [Act.put, List.setIfInBounds_toArray, List.set_cons_succ, List.set_cons_zero]
      clear hfl
      refine hld_take 7 rfl (by kernel_rfl) (by kernel_rfl) (by kernel_rfl) (fun _ _ _ h => h) rfl hS1 (by rintro w' ⟨hw1, hw2⟩; go_simp; rfl) ?_
      simp only [Act.put, List.setIfInBounds_toArray, List.set_cons_succ, List.set_cons_zero]
      refine hld_done (by kernel_rfl) ?_
      clear hS1
      have HX9B := Lib.hid (below_next HBV.out HB9.out)
      have HAT := Lib.hid (show (!keptE b e) = decide ((atE b e.path).kind ≠ e.kind) from HGA.out)
      have r0 := cell20 (k := 0) HX9.out
      have r1 := cell20 (k := 1) HX9.out
      have r2 := cell20 (k := 2) HX9.out
      have r3 := cell20 (k := 3) HX9.out
      have r4 := cell20 (k := 4) HX9.out
      have r5 := cell20 (k := 5) HX9.out
      have hltr := lt20 HX9.out
      simp only [List.getElem?_toArray, List.getElem?_cons_succ, List.getElem?_cons_zero] at r0 r1 r2 r3 r4 r5
      have hrow := own_below (own_below (own_below HLP.out.row HW.out) HV.out) HB9.out
      have hbb : w.heap.size ≤ w9.heap.size := HX9B.out.size
      have HROW := Lib.hid hrow
      have HSZ := Lib.hid hbb
      by_cases hp : (atE b e.path).kind = e.kind
      · have e1 : ((atE b e.path).kind != e.kind) = false := by simp [hp]
        have HP := Lib.hid (show (!keptE b e) = false by rw [HAT.out]; simp [hp])
        clear hp
        go_wp2_with fail
        go_roundw
        case rel => exact ⟨k + 1, ys, by omega, by go_num, by rw [HDT.out, HP.out]; simp; exact HLP.out.out, HROW.out, HLP.out.dat, HX9B.out⟩
        case measure => simp [intOf]; omega
      · have e1 : ((atE b e.path).kind != e.kind) = true := by simp [hp]
        have HP := Lib.hid (show (!keptE b e) = true by rw [HAT.out]; simp [hp])
        clear hp
        go_wp2_with (at_builtin; go_must (refine wpList_app1p Tryz.appEnts rfl _ _ rfl w.heap.size (.slice av ys.length cv) ys.length (entsC ys) rfl w9 (entC (.slice a1 e.data.length cap1) e) _ rfl rfl entC_one hrow (by omega) hbb ?_); intro v8 w8 hown8 hg8 _ hpl8; have HOWN8 := Lib.hid hown8; have HG8 := Lib.hid hg8; clear hown8 hg8 hpl8 r0 r1 r2 r3 r4 r5 hltr)
        go_roundw
        case rel =>
          refine ⟨k + 1, ys ++ [(.slice a1 e.data.length cap1, e)], by omega, by go_num, ?_, ?_, ?_, ?_⟩
          · rw [List.map_append, HLP.out.out, HDT.out, HP.out]; rfl
          · rw [List.length_append, List.length_singleton, entsC_snoc]; exact HOWN8.out
          · intro y hy
            rcases List.mem_append.1 hy with hy | hy
            · exact HLP.out.dat y hy
            · rw [List.mem_singleton] at hy
              subst hy
              exact ⟨HD.out, HOK.out⟩
          · exact below_grown HX9B.out HROW.out HG8.out (Nat.le_refl _) HSZ.out
        case measure => simp [intOf]; omega
    · have hk2 : k = n := by omega
      obtain ⟨G, hG⟩ : ∃ G, G = goneE a b := ⟨_, rfl⟩
      have HG := Lib.hid hG
      have HGY := Lib.hid (show ys.map Prod.snd = G by
        have h1 := HLP.out.out
        rw [hk2, HN.out, List.take_length] at h1
        rw [hG]; exact h1)
      have HROW := Lib.hid HLP.out.row
      have HGO := Lib.hid (show EntsAt (Old wr) wr (.slice av ys.length cv) G from by
        rw [← HGY.out]
        exact ents_old (gotE_shared HLP.out.row HLP.out.bel HLP.out.dat))
      have HDAT := Lib.hid HLP.out.dat
      have HBE := Lib.hid HLP.out.bel
      clear hk2 hk HLP hG
      obtain ⟨w1, hw1⟩ : ∃ Z : World, Z = wr := ⟨_, rfl⟩
      rw [← hw1] at HROW HBE HGO ⊢
      clear hw1
      have hmk := make_marks w1 ys.length hyl
      go_upto_region 10 with (fail)
      obtain ⟨ub, hub⟩ : ∃ z, z = w1.heap.size := ⟨_, rfl⟩
      obtain ⟨w2, hw2⟩ : ∃ Z : World, Z = w1.alloc (.cells (marks (List.replicate ys.length false)) 4) := ⟨_, rfl⟩
      have HU2 := Lib.hid (show w2.heap[ub]? = some (.cells (marks (List.replicate ys.length false)) 4 (0, 0)) by rw [hw2, hub]; exact new20 w1 _)
      have HB2 := Lib.hid (show Below w1.heap.size w1 w2 by rw [hw2]; exact (Below.refl _ _).alloc (Nat.le_refl _) _)
      rw [← hw2, ← hub]
      have HUB := Lib.hid hub
      clear hw2 hub hmk
      go_wp2_with fail
      go_loopw [9, 10, 11, 45] (fun vm vd vy i wr => ∃ (k : Nat) (s : RSt) (ym yd yy : List VChg), k ≤ m ∧ i = .int .i64 k ∧ s = (b.take k).foldl (stepR a G) ⟨List.replicate G.length false, [], [], []⟩ ∧ LoopY w w2 ub s vm vd vy ym yd yy wr) (fun _ _ _ i _ => m - (intOf i).toNat)
      case atStart =>
        refine ⟨0, ⟨List.replicate G.length false, [], [], []⟩, [], [], [], Nat.zero_le _, rfl, rfl, ⟨rfl, World.ownsRow_nil _ _ _ _, by simp⟩, ⟨rfl, World.ownsRow_nil _ _ _ _, by simp⟩, ⟨rfl, World.ownsRow_nil _ _ _ _, by simp⟩, ?_, ?_, ?_, ?_, lt20 HU2.out, Below.refl _ _⟩
        · intro k h; cases h
        · intro k h; cases h
        · intro k h; cases h
        · rw [show G.length = ys.length by rw [← HGY.out, List.length_map]]; exact HU2.out
      case round =>
        obtain ⟨k, s, ym, yd, yy, hk, rfl, hs, hlp⟩ := hrel
        have HLP := Lib.hid hlp
        have HS := Lib.hid hs
        obtain ⟨am, cm, hsm, -, hvm⟩ := owns_shape hlp.mo.row
        obtain ⟨ad, cd, hsd, -, hvd⟩ := owns_shape hlp.ad.row
        obtain ⟨ay, cy, hsy, -, hvy⟩ := owns_shape hlp.md.row
        subst hsm hsd hsy
        unfold maxLen at hvm hvd hvy
        have HBR := Lib.hid (show Below w.heap.size w wr from (HBE.out.trans (HB2.out.mono HBE.out.size)).trans (HLP.out.bel.mono (by rw [HUB.out]; exact HBE.out.size)))
        have HSL := Lib.hid (show s.u.length = G.length by rw [hs, fold_len, List.length_replicate])
        have HNM := Lib.hid (show ym.length ≤ 40 ∧ yd.length ≤ 40 ∧ yy.length ≤ 40 by
          have h1 := fold_small (a := a) (g := G) (b.take k) ⟨List.replicate G.length false, [], [], []⟩
          rw [← hs, List.length_take] at h1
          rw [hlp.mo.len, hlp.ad.len, hlp.md.len]
          simp only [List.length_nil, Nat.zero_add] at h1
          omega)
        clear hlp hs
        by_cases hlt : k < m
        · obtain ⟨y, hcc⟩ : ∃ y, b[k]? = some y := ⟨b[k]'(by rw [← HM.out]; exact hlt), by simp⟩
          obtain ⟨b0, o0, dv, rfl, -, hb0, hd, hok, -, q0, q1, q2, q3, q4, q5⟩ := ents_at HB.out hcc
          replace q0 := (HBR.out.cell hb0).trans q0
          replace q1 := (HBR.out.cell hb0).trans q1
          replace q2 := (HBR.out.cell hb0).trans q2
          replace q3 := (HBR.out.cell hb0).trans q3
          replace q4 := (HBR.out.cell hb0).trans q4
          replace q5 := (HBR.out.cell hb0).trans q5
          have hb01 : b0 < wr.heap.size := Nat.lt_of_lt_of_le hb0 HBR.out.size
          have HYD := Lib.hid hd
          have HYOK := Lib.hid hok
          have HYV := Lib.hid (HTB.out.val y (List.mem_of_getElem? hcc))
          have HST := Lib.hid (fold_take (a := a) (g := G) (s0 := ⟨List.replicate G.length false, [], [], []⟩) hcc)
          obtain ⟨a1, cap1, rfl, hd1, hd2⟩ := hd.slice
          unfold maxLen at hd2
          clear hcc hd hok
          go_upto_region 13 with (fail)
          obtain ⟨W, hW⟩ : ∃ Z : World, Z = wr.alloc (.cells #[.string y.path, .int .i64 y.kind, .int .i64 y.mode, .int .i64 y.time, .slice a1 y.data.length cap1, .string y.link] 48) := ⟨_, rfl⟩
          rw [← hW]
          have HW := Lib.hid (show Below wr.heap.size wr W by rw [hW]; exact (Below.refl _ _).alloc (Nat.le_refl _) _)
          have HX := Lib.hid (show W.heap[wr.heap.size]? = some (.cells #[.string y.path, .int .i64 y.kind, .int .i64 y.mode, .int .i64 y.time, .slice a1 y.data.length cap1, .string y.link] 48 (0, 0)) by rw [hW]; exact new20 wr _)
          clear hW q0 q1 q2 q3 q4 q5
          have hat := r_at_any _ a (.slice aa n ca) y.path W (HA.out.below (below_next HBR.out HW.out))
          obtain ⟨x, hxe⟩ : ∃ x, x = atE a y.path := ⟨_, rfl⟩
          unfold AtRes entV at hat
          rw [← hxe] at hat
          have HXE := Lib.hid hxe
          clear hxe
          have c0 := cell20 (k := 0) HX.out
          have c1 := cell20 (k := 1) HX.out
          have c2 := cell20 (k := 2) HX.out
          have c3 := cell20 (k := 3) HX.out
          have c4 := cell20 (k := 4) HX.out
          have c5 := cell20 (k := 5) HX.out
          have hltX := lt20 HX.out
          simp only [List.getElem?_toArray, List.getElem?_cons_succ, List.getElem?_cons_zero] at c0 c1 c2 c3 c4 c5
          go_upto_region 14 with (go_at_call 43; refine hat.mono ?_; rintro e9 w9 ⟨a9, c9, rfl, hd9, hok9, hb9⟩; have HD9 := Lib.hid hd9; have HOK9 := Lib.hid hok9; have HB9 := Lib.hid hb9; have HX9 := Lib.hid ((hb9.block _ (lt20 HX.out)).trans HX.out); clear hd9 hok9 hb9 hat c0 c1 c2 c3 c4 c5 hltX)
          obtain ⟨W3, hW3⟩ : ∃ Z : World, Z = w9.alloc (.cells #[.string x.path, .int .i64 x.kind, .int .i64 x.mode, .int .i64 x.time, .slice a9 x.data.length c9, .string x.link] 48) := ⟨_, rfl⟩
          rw [← hW3]
          have hb93 : Below w9.heap.size w9 W3 := by rw [hW3]; exact (Below.refl _ _).alloc (Nat.le_refl _) _
          have HXX := Lib.hid (show W3.heap[w9.heap.size]? = some (.cells #[.string x.path, .int .i64 x.kind, .int .i64 x.mode, .int .i64 x.time, .slice a9 x.data.length c9, .string x.link] 48 (0, 0)) by rw [hW3]; exact new20 w9 _)
          have HXY := Lib.hid ((hb93.block _ (lt20 HX9.out)).trans HX9.out)
          have HBW := Lib.hid (below_next (below_next HW.out HB9.out) hb93)
          have HDX := Lib.hid (HD9.out.below hb93)
          have HDY := Lib.hid (HYD.out.below (below_next HBR.out HBW.out))
          clear hW3 hb93
          have c0 := cell20 (k := 0) HXY.out
          have c1 := cell20 (k := 1) HXY.out
          have c2 := cell20 (k := 2) HXY.out
          have c3 := cell20 (k := 3) HXY.out
          have c4 := cell20 (k := 4) HXY.out
          have c5 := cell20 (k := 5) HXY.out
          have hltX := lt20 HXY.out
          simp only [List.getElem?_toArray, List.getElem?_cons_succ, List.getElem?_cons_zero] at c0 c1 c2 c3 c4 c5
          have d0 := cell20 (k := 0) HXX.out
          have d1 := cell20 (k := 1) HXX.out
          have d2 := cell20 (k := 2) HXX.out
          have d3 := cell20 (k := 3) HXX.out
          have d4 := cell20 (k := 4) HXX.out
          have d5 := cell20 (k := 5) HXX.out
          have hltD := lt20 HXX.out
          simp only [List.getElem?_toArray, List.getElem?_cons_succ, List.getElem?_cons_zero] at d0 d1 d2 d3 d4 d5
          by_cases hkk : x.kind = y.kind
          · have e1 : (x.kind == y.kind) = true := by simp [hkk]
            have HKK := Lib.hid hkk
            clear hkk
            by_cases hxy : x = y
            · have HEQ := Lib.hid (show decide (x = y) = true by simp [hxy])
              have HSE := Lib.hid (show s = stepR a G s y by unfold stepR; rw [← HXE.out, if_pos HKK.out, if_pos hxy])
              clear hxy
              go_wp2_with (go_at_call 31; refine (r_same20_is _ _ x y _ _ true _ HDX.out HDY.out HEQ.out).mono ?_; rintro e5 w5 ⟨rfl, hb5⟩; have HB5 := Lib.hid (below_next HBW.out hb5); clear hb5 c0 c1 c2 c3 c4 c5 hltX d0 d1 d2 d3 d4 d5 hltD)
              go_roundw
              case rel => exact ⟨k + 1, s, ym, yd, yy, by omega, by go_num, by rw [HST.out, ← HS.out]; exact HSE.out, HLP.out.below HB5.out⟩
              case measure => simp [intOf]; omega
            · have HEQ := Lib.hid (show decide (x = y) = false by simp [hxy])
              have HSE := Lib.hid (show (⟨s.u, s.mo, s.ad, s.md ++ [⟨4, y.path, noPath, y⟩]⟩ : RSt) = stepR a G s y by unfold stepR; rw [← HXE.out, if_pos HKK.out, if_neg hxy])
              clear hxy
              go_upto_region 16 with (go_at_call 31; refine (r_same20_is _ _ x y _ _ false _ HDX.out HDY.out HEQ.out).mono ?_; rintro e5 w5 ⟨rfl, hb5⟩; have HX5 := Lib.hid ((hb5.block _ (lt20 HXY.out)).trans HXY.out); have HB5 := Lib.hid (below_next HBW.out hb5); clear hb5 c0 c1 c2 c3 c4 c5 hltX d0 d1 d2 d3 d4 d5 hltD)
              have c0 := cell20 (k := 0) HX5.out
              have c1 := cell20 (k := 1) HX5.out
              have c2 := cell20 (k := 2) HX5.out
              have c3 := cell20 (k := 3) HX5.out
              have c4 := cell20 (k := 4) HX5.out
              have c5 := cell20 (k := 5) HX5.out
              have hltX := lt20 HX5.out
              simp only [List.getElem?_toArray, List.getElem?_cons_succ, List.getElem?_cons_zero] at c0 c1 c2 c3 c4 c5
              have HL5 := Lib.hid (HLP.out.below HB5.out)
              have hrow := HL5.out.md.row
              have hbb : w2.heap.size ≤ w5.heap.size := HL5.out.size
              have hny := HNM.out.2.2
              go_wp2_with (at_builtin; go_must (refine wpList_app1p Tryz.appRChgs rfl _ _ rfl w2.heap.size (.slice ay yy.length cy) yy.length (chgsC yy) rfl w5 (chgC (.slice a1 y.data.length cap1) ⟨4, y.path, noPath, y⟩) _ rfl rfl chgC_one hrow (by omega) hbb ?_); intro v8 w8 hown8 hg8 _ hpl8; have HP8 := Lib.hid (HL5.out.pushMd (c := ⟨4, y.path, noPath, y⟩) HYD.out (chg_ok (by decide) HYOK.out.pth noPath_ok HYOK.out) hown8 hg8 hpl8); clear hown8 hg8 hpl8 c0 c1 c2 c3 c4 c5 hltX)
              go_roundw
              case rel => exact ⟨k + 1, ⟨s.u, s.mo, s.ad, s.md ++ [⟨4, y.path, noPath, y⟩]⟩, ym, yd, _, by omega, by go_num, by rw [HST.out, ← HS.out]; exact HSE.out, HP8.out⟩
              case measure => simp [intOf]; omega
          · have e1 : (x.kind == y.kind) = false := by simp [hkk]
            have HKK := Lib.hid hkk
            clear hkk
            go_upto_region 18 with (fail)
            obtain ⟨yb, hyb⟩ : ∃ z, z = wr.heap.size := ⟨_, rfl⟩
            rw [← hyb] at HXY ⊢
            have HNE := Lib.hid (show yb ≠ ub by have := lt20 HLP.out.us; omega)
            have HNY := Lib.hid (show ∀ k, (Value.slice am ym.length cm).ownBlock = some k → k < yb from fun k hk => by have := (own_lt HLP.out.mo.row hk).2; omega)
            have HU3 := Lib.hid (HLP.out.below HBW.out).us
            have HGW := Lib.hid (show Below w1.heap.size w1 W3 from (HB2.out.trans (by rw [← HUB.out]; exact HLP.out.bel)).trans (HBW.out.mono (Nat.le_trans HB2.out.size HLP.out.size)))
            clear hyb c0 c1 c2 c3 c4 c5 hltX d0 d1 d2 d3 d4 d5 hltD
            go_wp2_with fail
            go_loopw [16, 71] (fun fr i w4 => ∃ j : Nat, j ≤ ys.length ∧ i = .int .i64 j ∧ fr = .int .i64 (fromV (fromK y G s.u j)) ∧ Below W3.heap.size W3 w4) (fun _ i _ => ys.length - (intOf i).toNat)
            case atStart => exact ⟨0, Nat.zero_le _, rfl, rfl, Below.refl _ _⟩
            case round =>
              obtain ⟨j, hj, rfl, rfl, hb4⟩ := hrel
              have HB4 := Lib.hid hb4
              clear hb4
              obtain ⟨F, hF⟩ : ∃ F, F = fromK y G s.u j := ⟨_, rfl⟩
              rw [← hF]
              have HF := Lib.hid hF.symm
              clear hF
              by_cases hltj : j < ys.length
              · obtain ⟨g, hg⟩ : ∃ g, G[j]? = some g := ⟨G[j]'(by rw [← HGY.out, List.length_map]; exact hltj), by simp⟩
                obtain ⟨bu, hbu⟩ : ∃ bu, s.u[j]? = some bu := ⟨s.u[j]'(by rw [HSL.out, ← HGY.out, List.length_map]; exact hltj), by simp⟩
                obtain ⟨b3, o3, dg, rfl, -, hb3, hdg, hokg, -, p0, p1, p2, p3, p4, p5⟩ := ents_at HGO.out hg
                have HG4 := Lib.hid (HGW.out.trans (HB4.out.mono HGW.out.size))
                replace p0 := (HG4.out.cell hb3).trans p0
                replace p1 := (HG4.out.cell hb3).trans p1
                replace p2 := (HG4.out.cell hb3).trans p2
                replace p3 := (HG4.out.cell hb3).trans p3
                replace p4 := (HG4.out.cell hb3).trans p4
                replace p5 := (HG4.out.cell hb3).trans p5
                have hb31 : b3 < wr.heap.size := Nat.lt_of_lt_of_le hb3 HG4.out.size
                have HGD := Lib.hid (hdg.below HG4.out)
                obtain ⟨a3, cap3, rfl, hd3, hd4⟩ := hdg.slice
                unfold maxLen at hd4
                have HNX := Lib.hid (fun (hn : fromK y G s.u j = none) => from_none hn hg hbu)
                have HMK := Lib.hid (marks_get hbu)
                clear hg hbu hdg hokg
                go_upto_region 21 with (fail)
                obtain ⟨W4, hW4⟩ : ∃ Z : World, Z = wr.alloc (.cells #[.string g.path, .int .i64 g.kind, .int .i64 g.mode, .int .i64 g.time, .slice a3 g.data.length cap3, .string g.link] 48) := ⟨_, rfl⟩
                rw [← hW4]
                have hb44 : Below wr.heap.size wr W4 := by rw [hW4]; exact (Below.refl _ _).alloc (Nat.le_refl _) _
                have HXG := Lib.hid (show W4.heap[wr.heap.size]? = some (.cells #[.string g.path, .int .i64 g.kind, .int .i64 g.mode, .int .i64 g.time, .slice a3 g.data.length cap3, .string g.link] 48 (0, 0)) by rw [hW4]; exact new20 wr _)
                have HW4 := Lib.hid (below_next HB4.out hb44)
                have HXY4 := Lib.hid ((HW4.out.block _ (lt20 HXY.out)).trans HXY.out)
                have HU4 := Lib.hid ((HW4.out.block _ (lt20 HU3.out)).trans HU3.out)
                have HGD4 := Lib.hid (HGD.out.below hb44)
                have HDY4 := Lib.hid (HDY.out.below HW4.out)
                clear hW4 p0 p1 p2 p3 p4 p5 hb44
                cases F with
                | some q =>
                  have e2 : decide ((q : Int) < 0) = false := by simp
                  unfold fromV
                  have c0 := cell20 (k := 0) HXY4.out
                  have c1 := cell20 (k := 1) HXY4.out
                  have c2 := cell20 (k := 2) HXY4.out
                  have c3 := cell20 (k := 3) HXY4.out
                  have c4 := cell20 (k := 4) HXY4.out
                  have c5 := cell20 (k := 5) HXY4.out
                  have hltX := lt20 HXY4.out
                  simp only [List.getElem?_toArray, List.getElem?_cons_succ, List.getElem?_cons_zero] at c0 c1 c2 c3 c4 c5
                  go_wp2_with fail
                  go_roundw
                  case rel => exact ⟨j + 1, by omega, by go_num, by rw [from_some HF.out]; rfl, HW4.out⟩
                  case measure => simp [intOf]; omega
                | none =>
                  unfold fromV
                  have HN2 := Lib.hid (HNX.out HF.out)
                  have hmk : W4.cell? ⟨ub, j, none⟩ = some (.bool bu) := (cell20 (k := j) HU4.out).trans HMK.out
                  have hltU := lt20 HU4.out
                  cases bu with
                  | true =>
                    have c0 := cell20 (k := 0) HXY4.out
                    have c1 := cell20 (k := 1) HXY4.out
                    have c2 := cell20 (k := 2) HXY4.out
                    have c3 := cell20 (k := 3) HXY4.out
                    have c4 := cell20 (k := 4) HXY4.out
                    have c5 := cell20 (k := 5) HXY4.out
                    have hltX := lt20 HXY4.out
                    simp only [List.getElem?_toArray, List.getElem?_cons_succ, List.getElem?_cons_zero] at c0 c1 c2 c3 c4 c5
                    go_wp2_with fail
                    go_roundw
                    case rel => exact ⟨j + 1, by omega, by go_num, by rw [HN2.out]; rfl, HW4.out⟩
                    case measure => simp [intOf]; omega
                  | false =>
                    have c0 := cell20 (k := 0) HXY4.out
                    have c1 := cell20 (k := 1) HXY4.out
                    have c2 := cell20 (k := 2) HXY4.out
                    have c3 := cell20 (k := 3) HXY4.out
                    have c4 := cell20 (k := 4) HXY4.out
                    have c5 := cell20 (k := 5) HXY4.out
                    have hltX := lt20 HXY4.out
                    simp only [List.getElem?_toArray, List.getElem?_cons_succ, List.getElem?_cons_zero] at c0 c1 c2 c3 c4 c5
                    have d0 := cell20 (k := 0) HXG.out
                    have d1 := cell20 (k := 1) HXG.out
                    have d2 := cell20 (k := 2) HXG.out
                    have d3 := cell20 (k := 3) HXG.out
                    have d4 := cell20 (k := 4) HXG.out
                    have d5 := cell20 (k := 5) HXG.out
                    have hltD := lt20 HXG.out
                    simp only [List.getElem?_toArray, List.getElem?_cons_succ, List.getElem?_cons_zero] at d0 d1 d2 d3 d4 d5
                    have hal := r_alike_any _ _ g y (.slice a3 g.data.length cap3) (.slice a1 y.data.length cap1) W4 HGD4.out HDY4.out
                    unfold entV at hal
                    cases hac : alikeE g y with
                    | false =>
                      have HWT := Lib.hid (show (!false && wantY y g) = false by unfold wantY; rw [hac]; rfl)
                      rw [hac] at hal
                      clear hac
                      go_wp2_with (go_at_call 44; refine hal.mono ?_; rintro e6 w6 ⟨rfl, hb6⟩; have HB6 := Lib.hid (below_next HW4.out hb6); clear hb6 hal c0 c1 c2 c3 c4 c5 hltX d0 d1 d2 d3 d4 d5 hltD)
                      go_roundw
                      case rel => exact ⟨j + 1, by omega, by go_num, by rw [HN2.out, HWT.out]; rfl, HB6.out⟩
                      case measure => simp [intOf]; omega
                    | true =>
                      rw [hac] at hal
                      by_cases h3 : y.kind = 3
                      · have e3 : (y.kind == 3) = true := by simp [h3]
                        have HWT := Lib.hid (show (!false && wantY y g) = true by unfold wantY; rw [hac]; simp [h3])
                        clear hac h3
                        go_wp2_with (go_at_call 44; refine hal.mono ?_; rintro e6 w6 ⟨rfl, hb6⟩; have HB6 := Lib.hid (below_next HW4.out hb6); replace c1 := (hb6.cell hltX).trans c1; replace c4 := (hb6.cell hltX).trans c4; replace hltX := Nat.lt_of_lt_of_le hltX hb6.size; clear hb6 hal c0 c2 c3 c5 d0 d1 d2 d3 d4 d5 hltD)
                        go_roundw
                        case rel => exact ⟨j + 1, by omega, by go_num, by rw [HN2.out, HWT.out]; rfl, HB6.out⟩
                        case measure => simp [intOf]; omega
                      · have e3 : (y.kind == 3) = false := by simp [h3]
                        by_cases hl : 0 < y.data.length
                        · have e4 : decide ((0 : Int) < (y.data.length : Int)) = true := decide_eq_true (by omega)
                          have HWT := Lib.hid (show (!false && wantY y g) = true by unfold wantY; rw [hac]; simp [hl])
                          clear hac h3
                          go_wp2_with (go_at_call 44; refine hal.mono ?_; rintro e6 w6 ⟨rfl, hb6⟩; have HB6 := Lib.hid (below_next HW4.out hb6); replace c1 := (hb6.cell hltX).trans c1; replace c4 := (hb6.cell hltX).trans c4; replace hltX := Nat.lt_of_lt_of_le hltX hb6.size; clear hb6 hal c0 c2 c3 c5 d0 d1 d2 d3 d4 d5 hltD)
                          go_roundw
                          case rel => exact ⟨j + 1, by omega, by go_num, by rw [HN2.out, HWT.out]; rfl, HB6.out⟩
                          case measure => simp [intOf]; omega
                        · have e4 : decide ((0 : Int) < (y.data.length : Int)) = false := decide_eq_false (by omega)
                          have HWT := Lib.hid (show (!false && wantY y g) = false by unfold wantY; rw [hac]; simp [hl, h3])
                          clear hac h3
                          go_wp2_with (go_at_call 44; refine hal.mono ?_; rintro e6 w6 ⟨rfl, hb6⟩; have HB6 := Lib.hid (below_next HW4.out hb6); replace c1 := (hb6.cell hltX).trans c1; replace c4 := (hb6.cell hltX).trans c4; replace hltX := Nat.lt_of_lt_of_le hltX hb6.size; clear hb6 hal c0 c2 c3 c5 d0 d1 d2 d3 d4 d5 hltD)
                          go_roundw
                          case rel => exact ⟨j + 1, by omega, by go_num, by rw [HN2.out, HWT.out]; rfl, HB6.out⟩
                          case measure => simp [intOf]; omega
              · have hj2 : j = ys.length := by omega
                have HFA := Lib.hid (show fromIx y G s.u = F by rw [← from_all, ← HF.out, hj2, ← HGY.out, List.length_map])
                have hlg : G.length = ys.length := by rw [← HGY.out, List.length_map]
                have HLG := Lib.hid hlg
                have HXY4 := Lib.hid ((HB4.out.block _ (lt20 HXY.out)).trans HXY.out)
                have HBR4 := Lib.hid (below_next HBW.out HB4.out)
                have HL4 := Lib.hid (HLP.out.below HBR4.out)
                clear hj2 hlg HF
                obtain ⟨w5, hw5⟩ : ∃ Z : World, Z = wr := ⟨_, rfl⟩
                rw [← hw5] at HL4 HXY4 HB4 ⊢
                clear hw5
                have c0 := cell20 (k := 0) HXY4.out
                have c1 := cell20 (k := 1) HXY4.out
                have c2 := cell20 (k := 2) HXY4.out
                have c3 := cell20 (k := 3) HXY4.out
                have c4 := cell20 (k := 4) HXY4.out
                have c5 := cell20 (k := 5) HXY4.out
                have hltX := lt20 HXY4.out
                simp only [List.getElem?_toArray, List.getElem?_cons_succ, List.getElem?_cons_zero] at c0 c1 c2 c3 c4 c5
                cases F with
                | none =>
                  have HSE := Lib.hid (show (⟨s.u, s.mo, s.ad ++ [⟨3, y.path, noPath, y⟩], s.md⟩ : RSt) = stepR a G s y by unfold stepR; rw [← HXE.out, if_neg HKK.out, HFA.out])
                  unfold fromV
                  have hrow := HL4.out.ad.row
                  have hbb : w2.heap.size ≤ w5.heap.size := HL4.out.size
                  have hny := HNM.out.2.1
                  go_wp2_with (at_builtin; go_must (refine wpList_app1p Tryz.appRChgs rfl _ _ rfl w2.heap.size (.slice ad yd.length cd) yd.length (chgsC yd) rfl w5 (chgC (.slice a1 y.data.length cap1) ⟨3, y.path, noPath, y⟩) _ rfl rfl chgC_one hrow (by omega) hbb ?_); intro v8 w8 hown8 hg8 _ hpl8; have HP8 := Lib.hid (HL4.out.pushAd (c := ⟨3, y.path, noPath, y⟩) HYD.out (chg_ok (by decide) HYOK.out.pth noPath_ok HYOK.out) hown8 hg8 hpl8); clear hown8 hg8 hpl8 c0 c1 c2 c3 c4 c5 hltX)
                  go_roundw
                  case rel => exact ⟨k + 1, ⟨s.u, s.mo, s.ad ++ [⟨3, y.path, noPath, y⟩], s.md⟩, ym, _, yy, by omega, by go_num, by rw [HST.out, ← HS.out]; exact HSE.out, HP8.out⟩
                  case measure => simp [intOf]; omega
                | some q =>
                  have hql : q < G.length := from_lt HSL.out HFA.out
                  obtain ⟨g, hg⟩ : ∃ g, G[q]? = some g := ⟨G[q], List.getElem?_eq_getElem hql⟩
                  obtain ⟨bu, hbu⟩ : ∃ bu, s.u[q]? = some bu := ⟨s.u[q]'(by rw [HSL.out]; exact hql), List.getElem?_eq_getElem _⟩
                  have HSE := Lib.hid (show (⟨s.u.set q true, s.mo ++ [⟨2, y.path, g.path, y⟩], s.ad, s.md⟩ : RSt) = stepR a G s y by unfold stepR; rw [← HXE.out, if_neg HKK.out, HFA.out]; simp only [hg, Option.getD_some])
                  obtain ⟨b3, o3, dg, rfl, -, hb3, -, hokg, -, p0, -⟩ := ents_at HGO.out hg
                  have HGP := Lib.hid hokg.pth
                  have HG5 := Lib.hid (HGW.out.trans (HB4.out.mono HGW.out.size))
                  have HP0 := Lib.hid ((HG5.out.cell hb3).trans p0)
                  have HB3 := Lib.hid hb3
                  have hqy : q < ys.length := by rw [← HLG.out]; exact hql
                  have hmk : w5.cell? ⟨ub, q, none⟩ = some (.bool bu) := (cell20 (k := q) HL4.out.us).trans (marks_get hbu)
                  have hfz := frozen20 (k := q) HL4.out.us
                  have hltU := lt20 HL4.out.us
                  have e2 : decide ((q : Int) < 0) = false := by simp
                  clear p0 hokg hb3 hg hbu hql
                  unfold fromV
                  go_upto_region 27 with (fail)
                  obtain ⟨w6, hw6⟩ : ∃ Z : World, Z = w5.setCell ⟨ub, q, none⟩ (.bool true) := ⟨_, rfl⟩
                  rw [← hw6]
                  have HL6 := Lib.hid (show LoopY w w2 ub ⟨s.u.set q true, s.mo, s.ad, s.md⟩ (.slice am ym.length cm) (.slice ad yd.length cd) (.slice ay yy.length cy) ym yd yy w6 by rw [hw6]; exact HL4.out.mark q)
                  have HXY6 := Lib.hid (show w6.heap[yb]? = some (.cells #[.string y.path, .int .i64 y.kind, .int .i64 y.mode, .int .i64 y.time, .slice a1 y.data.length cap1, .string y.link] 48 (0, 0)) by rw [hw6]; exact setOther20 HXY4.out HNE.out _)
                  have HP6 := Lib.hid (show w6.cell? ⟨b3, o3 + q * 6, none⟩ = some (.string g.path) by rw [hw6]; exact ((below_set20 (B := ub) (Below.refl _ w5) (Nat.le_refl _)).cell (by rw [HUB.out]; exact HB3.out)).trans HP0.out)
                  clear hw6 c0 c1 c2 c3 c4 c5 hltX hmk hfz hltU e2
                  refine hld_start (fun w' => w'.cell? ⟨yb, 0, none⟩ = some (.string y.path) ∧ w'.cell? ⟨yb, 1, none⟩ = some (.int .i64 y.kind) ∧ w'.cell? ⟨yb, 2, none⟩ = some (.int .i64 y.mode) ∧ w'.cell? ⟨yb, 3, none⟩ = some (.int .i64 y.time) ∧ w'.cell? ⟨yb, 4, none⟩ = some (.slice a1 y.data.length cap1) ∧ w'.cell? ⟨yb, 5, none⟩ = some (.string y.link) ∧ w'.cell? ⟨b3, o3 + q * 6, none⟩ = some (.string g.path)) (by kernel_rfl) ?_
                  obtain ⟨V, hV⟩ : ∃ V : World, V = w6.drew := ⟨_, rfl⟩
                  rw [← hV]
                  have HV := Lib.hid (show Below w6.heap.size w6 V by rw [hV]; exact bel_drew)
                  clear hV
                  have HLV := Lib.hid (HL6.out.below HV.out)
                  have HXV := Lib.hid ((HV.out.block _ (lt20 HXY6.out)).trans HXY6.out)
                  have HPV := Lib.hid ((HV.out.cell (by have := HB3.out; have := HL6.out.size; have := HUB.out; have := HL6.out.ul; show b3 < _; omega)).trans HP6.out)
                  have c0 := cell20 (k := 0) HXV.out
                  have c1 := cell20 (k := 1) HXV.out
                  have c2 := cell20 (k := 2) HXV.out
                  have c3 := cell20 (k := 3) HXV.out
                  have c4 := cell20 (k := 4) HXV.out
                  have c5 := cell20 (k := 5) HXV.out
                  have hltX := lt20 HXV.out
                  simp only [List.getElem?_toArray, List.getElem?_cons_succ, List.getElem?_cons_zero] at c0 c1 c2 c3 c4 c5
                  have hS1 := And.intro c0 (And.intro c1 (And.intro c2 (And.intro c3 (And.intro c4 (And.intro c5 HPV.out)))))
                  clear c0 c1 c2 c3 c4 c5 hltX
                  refine hld_take 0 rfl (by kernel_rfl) (by kernel_rfl) (by kernel_rfl) (fun _ _ _ h => h) rfl hS1 (by rintro w' ⟨hw0, hw1, hw2, hw3, hw4, hw5, hw6⟩; go_simp; rfl) ?_
                  simp only [Act.put, List.setIfInBounds_toArray, List.set_cons_succ, List.set_cons_zero]
                  refine hld_take 1 rfl (by kernel_rfl) (by kernel_rfl) (by kernel_rfl) (fun _ _ _ h => h) rfl hS1 (by rintro w' ⟨hw0, hw1, hw2, hw3, hw4, hw5, hw6⟩; go_simp; rfl) ?_
                  simp only [Act.put, List.setIfInBounds_toArray, List.set_cons_succ, List.set_cons_zero]
                  refine hld_take 2 rfl (by kernel_rfl) (by kernel_rfl) (by kernel_rfl) (fun _ _ _ h => h) rfl hS1 (by rintro w' ⟨hw0, hw1, hw2, hw3, hw4, hw5, hw6⟩; go_simp; rfl) ?_
                  simp only [Act.put, List.setIfInBounds_toArray, List.set_cons_succ, List.set_cons_zero]
                  refine hld_take 3 rfl (by kernel_rfl) (by kernel_rfl) (by kernel_rfl) (fun _ _ _ h => h) rfl hS1 (by rintro w' ⟨hw0, hw1, hw2, hw3, hw4, hw5, hw6⟩; go_simp; rfl) ?_
                  simp only [Act.put, List.setIfInBounds_toArray, List.set_cons_succ, List.set_cons_zero]
                  refine hld_take 4 rfl (by kernel_rfl) (by kernel_rfl) (by kernel_rfl) (fun _ _ _ h => h) rfl hS1 (by rintro w' ⟨hw0, hw1, hw2, hw3, hw4, hw5, hw6⟩; go_simp; rfl) ?_
                  simp only [Act.put, List.setIfInBounds_toArray, List.set_cons_succ, List.set_cons_zero]
                  refine hld_take 5 rfl (by kernel_rfl) (by kernel_rfl) (by kernel_rfl) (fun _ _ _ h => h) rfl hS1 (by rintro w' ⟨hw0, hw1, hw2, hw3, hw4, hw5, hw6⟩; go_simp; rfl) ?_
                  simp only [Act.put, List.setIfInBounds_toArray, List.set_cons_succ, List.set_cons_zero]
                  refine hld_take 6 rfl (by kernel_rfl) (by kernel_rfl) (by kernel_rfl) (fun _ _ _ h => h) rfl hS1 (by rintro w' ⟨hw0, hw1, hw2, hw3, hw4, hw5, hw6⟩; go_simp; rfl) ?_
                  simp only [Act.put, List.setIfInBounds_toArray, List.set_cons_succ, List.set_cons_zero]
                  refine hld_take 7 rfl (by kernel_rfl) (by kernel_rfl) (by kernel_rfl) (fun _ _ _ h => h) rfl hS1 (by rintro w' ⟨hw0, hw1, hw2, hw3, hw4, hw5, hw6⟩; go_simp; rfl) ?_
                  simp only [Act.put, List.setIfInBounds_toArray, List.set_cons_succ, List.set_cons_zero]
                  refine hld_take 8 rfl (by kernel_rfl) (by kernel_rfl) (by kernel_rfl) (fun _ _ _ h => h) rfl hS1 (by rintro w' ⟨hw0, hw1, hw2, hw3, hw4, hw5, hw6⟩; go_simp; rfl) ?_
                  simp only [Act.put, List.setIfInBounds_toArray, List.set_cons_succ, List.set_cons_zero]
                  refine hld_take 9 rfl (by kernel_rfl) (by kernel_rfl) (by kernel_rfl) (fun _ _ _ h => h) rfl hS1 (by rintro w' ⟨hw0, hw1, hw2, hw3, hw4, hw5, hw6⟩; go_simp; rfl) ?_
                  simp only [Act.put, List.setIfInBounds_toArray, List.set_cons_succ, List.set_cons_zero]
                  refine hld_bar 10 rfl (by kernel_rfl) rfl (fun K hK => ?_)
                  go_wp2_with fail
                  have hb7 : Below V.heap.size V (V.alloc (.cells (chgC (.slice a1 y.data.length cap1) ⟨2, y.path, g.path, y⟩).toArray 50)) := (Below.refl _ _).alloc (Nat.le_refl _) _
                  have hb3v : b3 < V.heap.size := by have := HB3.out; have := HLV.out.size; have := HUB.out; have := HLV.out.ul; omega
                  have HX7 := Lib.hid ((hb7.block _ (lt20 HXV.out)).trans HXV.out)
                  have HP7 := Lib.hid ((hb7.cell hb3v).trans HPV.out)
                  have c0 := cell20 (k := 0) HX7.out
                  have c1 := cell20 (k := 1) HX7.out
                  have c2 := cell20 (k := 2) HX7.out
                  have c3 := cell20 (k := 3) HX7.out
                  have c4 := cell20 (k := 4) HX7.out
                  have c5 := cell20 (k := 5) HX7.out
                  have hltX := lt20 HX7.out
                  simp only [List.getElem?_toArray, List.getElem?_cons_succ, List.getElem?_cons_zero] at c0 c1 c2 c3 c4 c5
                  refine ⟨⟨c0, c1, c2, c3, c4, c5, HP7.out⟩, ?_⟩
                  clear c0 c1 c2 c3 c4 c5 hltX hS1
                  refine hld_bar 11 rfl (by kernel_rfl) rfl (fun K hK => ?_)
                  have hrow := HLV.out.mo.row
                  have hbb : w2.heap.size ≤ V.heap.size := HLV.out.size
                  have hny := HNM.out.1
                  go_wp2_with (at_builtin; go_must (refine wpList_app1p Tryz.appRChgs rfl _ _ rfl w2.heap.size (.slice am ym.length cm) ym.length (chgsC ym) rfl V (chgC (.slice a1 y.data.length cap1) ⟨2, y.path, g.path, y⟩) _ rfl rfl chgC_one hrow (by omega) hbb ?_); intro v8 w8 hown8 hg8 _ hpl8; have HP8 := Lib.hid (HLV.out.pushMo (c := ⟨2, y.path, g.path, y⟩) HYD.out (chg_ok (by decide) HYOK.out.pth HGP.out HYOK.out) hown8 hg8 hpl8); have HG8 := Lib.hid hg8; clear hown8 hg8 hpl8)
                  have HX8 := Lib.hid ((HG8.out.block yb (lt20 HXV.out) (fun e => by have := HNY.out _ e.symm; omega)).trans HXV.out)
                  have HPC8 := Lib.hid (HG8.out.cell HPV.out (fun e => by have h1 := (own_lt HLV.out.mo.row e.symm).1; have h2 := HB3.out; have h3 := HUB.out; have h4 := HLV.out.ul; simp only at h1; omega))
                  have c0 := cell20 (k := 0) HX8.out
                  have c1 := cell20 (k := 1) HX8.out
                  have c2 := cell20 (k := 2) HX8.out
                  have c3 := cell20 (k := 3) HX8.out
                  have c4 := cell20 (k := 4) HX8.out
                  have c5 := cell20 (k := 5) HX8.out
                  have hltX := lt20 HX8.out
                  simp only [List.getElem?_toArray, List.getElem?_cons_succ, List.getElem?_cons_zero] at c0 c1 c2 c3 c4 c5
                  refine ⟨⟨c0, c1, c2, c3, c4, c5, HPC8.out⟩, ?_⟩
                  have hS1 := And.intro c0 (And.intro c1 (And.intro c2 (And.intro c3 (And.intro c4 (And.intro c5 HPC8.out)))))
                  clear c0 c1 c2 c3 c4 c5 hltX
                  refine hld_take 12 rfl (by kernel_rfl) (by kernel_rfl) (by kernel_rfl) (fun _ _ _ h => h) rfl hS1 (by rintro w' ⟨hw0, hw1, hw2, hw3, hw4, hw5, hw6⟩; go_simp; rfl) ?_
                  simp only [Act.put, List.setIfInBounds_toArray, List.set_cons_succ, List.set_cons_zero]
                  refine hld_done (by kernel_rfl) ?_
                  clear hS1
                  go_wp2_with fail
                  go_roundw
                  case rel => exact ⟨k + 1, ⟨s.u.set q true, s.mo ++ [⟨2, y.path, g.path, y⟩], s.ad, s.md⟩, _, yd, yy, by omega, by go_num, by rw [HST.out, ← HS.out]; exact HSE.out, HP8.out⟩
                  case measure => simp [intOf]; omega
        · have hk2 : k = m := by omega
          have HSF := Lib.hid (show diffR a b = (unused G s.u).map remC ++ s.mo ++ s.ad ++ s.md by
            have h1 : s = diffRS a b := by rw [HS.out, hk2, HM.out, List.take_length, HG.out]; rfl
            unfold diffR
            rw [← h1, HG.out])
          have HLG := Lib.hid (show G.length = ys.length by rw [← HGY.out, List.length_map])
          obtain ⟨w3, hw3⟩ : ∃ Z : World, Z = wr := ⟨_, rfl⟩
          rw [← hw3] at HLP HBR ⊢
          have HU3 := Lib.hid HLP.out.us
          have HGW := Lib.hid (show Below w1.heap.size w1 w3 from HB2.out.trans (by rw [← HUB.out]; exact HLP.out.bel))
          clear hk2 hw3
          go_wp2_with fail
          go_loopw [12, 130] (fun v i wr => ∃ (k : Nat) (zs : List VChg), k ≤ ys.length ∧ i = .int .i64 k ∧ LoopZ G s.u w w3 k v zs wr) (fun _ i _ => ys.length - (intOf i).toNat)
          case atStart => exact ⟨0, [], Nat.zero_le _, rfl, ⟨⟨by simp [unused], World.ownsRow_nil _ _ _ _, by simp⟩, Below.refl _ _⟩⟩
          case round =>
            obtain ⟨j, zs, hj, rfl, hlz⟩ := hrel
            obtain ⟨az, cz, hsz, -, hvz⟩ := owns_shape hlz.row.row
            subst hsz
            unfold maxLen at hvz
            have HLZ := Lib.hid hlz
            have hzl : zs.length ≤ 65536 := by
              have h1 := hlz.row.len
              have h2 := (unused_sub (G.take j) s.u).length_le
              rw [List.length_map] at h1
              rw [List.length_take] at h2
              omega
            clear hlz
            by_cases hlt3 : j < ys.length
            · obtain ⟨g, hg⟩ : ∃ g, G[j]? = some g := ⟨G[j]'(by rw [HLG.out]; exact hlt3), List.getElem?_eq_getElem _⟩
              obtain ⟨bu, hbu⟩ : ∃ bu, s.u[j]? = some bu := ⟨s.u[j]'(by rw [HSL.out, HLG.out]; exact hlt3), List.getElem?_eq_getElem _⟩
              obtain ⟨b3, o3, dg, rfl, -, hb3, hdg, hokg, -, p0, p1, p2, p3, p4, p5⟩ := ents_at HGO.out hg
              have HG4 := Lib.hid (HGW.out.trans (HLZ.out.bel.mono HGW.out.size))
              replace p0 := (HG4.out.cell hb3).trans p0
              replace p1 := (HG4.out.cell hb3).trans p1
              replace p2 := (HG4.out.cell hb3).trans p2
              replace p3 := (HG4.out.cell hb3).trans p3
              replace p4 := (HG4.out.cell hb3).trans p4
              replace p5 := (HG4.out.cell hb3).trans p5
              have hb31 : b3 < wr.heap.size := Nat.lt_of_lt_of_le hb3 HG4.out.size
              have HGP := Lib.hid hokg.pth
              have HUT := Lib.hid (unused_take hg hbu)
              have HMK := Lib.hid (marks_get hbu)
              obtain ⟨a3, cap3, rfl, hd3, hd4⟩ := hdg.slice
              unfold maxLen at hd4
              clear hg hbu hdg hokg
              go_upto_region 32 with (fail)
              obtain ⟨W4, hW4⟩ : ∃ Z : World, Z = wr.alloc (.cells #[.string g.path, .int .i64 g.kind, .int .i64 g.mode, .int .i64 g.time, .slice a3 g.data.length cap3, .string g.link] 48) := ⟨_, rfl⟩
              rw [← hW4]
              have HW4 := Lib.hid (show Below wr.heap.size wr W4 by rw [hW4]; exact (Below.refl _ _).alloc (Nat.le_refl _) _)
              have HXG := Lib.hid (show W4.heap[wr.heap.size]? = some (.cells #[.string g.path, .int .i64 g.kind, .int .i64 g.mode, .int .i64 g.time, .slice a3 g.data.length cap3, .string g.link] 48 (0, 0)) by rw [hW4]; exact new20 wr _)
              have HB4 := Lib.hid (below_next HLZ.out.bel HW4.out)
              have HU4 := Lib.hid ((HB4.out.block _ (lt20 HU3.out)).trans HU3.out)
              clear hW4 p0 p1 p2 p3 p4 p5
              have hmk : W4.cell? ⟨ub, j, none⟩ = some (.bool bu) := (cell20 (k := j) HU4.out).trans HMK.out
              have hltU := lt20 HU4.out
              have c0 := cell20 (k := 0) HXG.out
              have c1 := cell20 (k := 1) HXG.out
              have c2 := cell20 (k := 2) HXG.out
              have c3 := cell20 (k := 3) HXG.out
              have c4 := cell20 (k := 4) HXG.out
              have c5 := cell20 (k := 5) HXG.out
              have hltX := lt20 HXG.out
              simp only [List.getElem?_toArray, List.getElem?_cons_succ, List.getElem?_cons_zero] at c0 c1 c2 c3 c4 c5
              cases bu with
              | true =>
                go_wp2_with fail
                go_roundw
                case rel => exact ⟨j + 1, zs, by omega, by go_num, ⟨by rw [HUT.out, if_pos rfl, List.append_nil]; exact HLZ.out.row.below HW4.out, HB4.out⟩⟩
                case measure => simp [intOf]; omega
              | false =>
                have hrow := own_below HLZ.out.row.row HW4.out
                have HROWZ := Lib.hid hrow
                have hbb : w3.heap.size ≤ W4.heap.size := HB4.out.size
                go_wp2_with (at_builtin; go_must (refine wpList_app1p Tryz.appRChgs rfl _ _ rfl w3.heap.size (.slice az zs.length cz) zs.length (chgsC zs) rfl W4 (chgC (.slice none 0 0) (remC g)) _ rfl rfl chgC_one hrow (by omega) hbb ?_); intro v8 w8 hown8 hg8 _ hpl8; have HOWN8 := Lib.hid hown8; have HG8 := Lib.hid hg8; clear hown8 hg8 hpl8 c0 c1 c2 c3 c4 c5 hltX hmk hltU)
                go_roundw
                case rel => exact ⟨j + 1, zs ++ [(.slice none 0 0, remC g)], by omega, by go_num, ⟨by rw [HUT.out, if_neg (by simp), List.map_append]; exact HLZ.out.row.push (DataAt.nil _ _) (rem_ok HGP.out) HOWN8.out, below_grown HB4.out HROWZ.out HG8.out (Nat.le_refl _) HB4.out.size⟩⟩
                case measure => simp [intOf]; omega
            · have hj2 : j = ys.length := by omega
              have HZ := Lib.hid (show zs.map Prod.snd = (unused G s.u).map remC by
                have h1 := HLZ.out.row.out
                rw [hj2, ← HLG.out, List.take_length] at h1
                exact h1)
              have HZR := Lib.hid HLZ.out.row.row
              have HBZ := Lib.hid HLZ.out.bel
              have hmb := HNM.out
              clear hj2
              go_wp2_with (first | (at_builtin; refine wpList_appn Tryz.appRChgs rfl _ _ rfl w3.heap.size (.slice b2 (zs.length + ym.length + yd.length) j2) (zs.length + ym.length + yd.length) (chgsC zs ++ chgsC ym ++ chgsC yd) rfl HO2.out (.slice ay yy.length cy) yy.length (chgsC yy) rfl (row_of_owns (own_below HLP.out.md.row HC2.out)) (chgsC_oneC HLP.out.md.dat) (by omega) HC2.out.size ?_; intro v3 U3 hown3 hg3; have HO3 := Lib.hid hown3; have HC3 := Lib.hid (below_grown HC2.out HO2.out hg3 (Nat.le_refl _) HC2.out.size); obtain ⟨b3, j3, rfl, -, -⟩ := owns_shape hown3; clear hown3 hg3) | (at_builtin; refine wpList_appn Tryz.appRChgs rfl _ _ rfl w3.heap.size (.slice b1 (zs.length + ym.length) j1) (zs.length + ym.length) (chgsC zs ++ chgsC ym) rfl HO1.out (.slice ad yd.length cd) yd.length (chgsC yd) rfl (row_of_owns (own_below HLP.out.ad.row HC1.out)) (chgsC_oneC HLP.out.ad.dat) (by omega) HC1.out.size ?_; intro v2 U2 hown2 hg2; have HO2 := Lib.hid hown2; have HC2 := Lib.hid (below_grown HC1.out HO1.out hg2 (Nat.le_refl _) HC1.out.size); obtain ⟨b2, j2, rfl, -, -⟩ := owns_shape hown2; clear hown2 hg2) | (at_builtin; refine wpList_appn Tryz.appRChgs rfl _ _ rfl w3.heap.size (.slice az zs.length cz) (zs.length) (chgsC zs) rfl HZR.out (.slice am ym.length cm) ym.length (chgsC ym) rfl (row_of_owns (own_below HLP.out.mo.row HBZ.out)) (chgsC_oneC HLP.out.mo.dat) (by omega) HBZ.out.size ?_; intro v1 U1 hown1 hg1; have HO1 := Lib.hid hown1; have HC1 := Lib.hid (below_grown HBZ.out HZR.out hg1 (Nat.le_refl _) HBZ.out.size); obtain ⟨b1, j1, rfl, -, -⟩ := owns_shape hown1; clear hown1 hg1))
              go_ret
              have HBF := below_next HBR.out HC3.out
              refine ⟨_, rfl, ?_, HBF⟩
              rw [← diff_same HTA.out HTB.out, HSF.out, ← HZ.out, ← HLP.out.mo.out, ← HLP.out.ad.out, ← HLP.out.md.out, ← List.map_append, ← List.map_append, ← List.map_append]
              refine chgs_shared (B := w3.heap.size) ?_ HBF ?_
              · rw [List.length_append, List.length_append, List.length_append, chgsC_app, chgsC_app, chgsC_app]; exact HO3.out
              · intro y hy
                simp only [List.mem_append] at hy
                rcases hy with ((hy | hy) | hy) | hy
                · exact HLZ.out.row.dat y hy
                · exact HLP.out.mo.dat y hy
                · exact HLP.out.ad.dat y hy
                · exact HLP.out.md.dat y hy
end Go.Proofs.YtdieneaillkbgaaGreatDoor

/- The law TreediffDiffs: its walk. -/
namespace Go.Proofs.YtdieneaillkbgaaGreatDoor
open Go Go.RowKit Go.Maps
set_option maxRecDepth 100000 in
set_option maxHeartbeats 2000000 in
theorem diffs_walk (a b : List Ent) (va vb : Value) (w : World) (ha : EntsAt (fun _ => True) w va a) (hb : EntsAt (fun _ => True) w vb b) (henv : Env w) :
    Calls Tryz.prog 3 #[va, vb] w fun e w' => e = .returned (.bool true) ∧ Below w.heap.size w w' := by
  obtain ⟨aa, ca, rfl, hca, hma, -⟩ := SeqAt.shape ha EntR.len
  obtain ⟨ab, cb, rfl, hcb, hmb, -⟩ := SeqAt.shape hb EntR.len
  unfold maxLen at hma hmb
  have HA := Lib.hid ha
  have HB := Lib.hid hb
  have HE := Lib.hid henv
  obtain ⟨na, hna⟩ : ∃ n, n = a.length := ⟨_, rfl⟩
  obtain ⟨nb, hnb⟩ : ∃ n, n = b.length := ⟨_, rfl⟩
  rw [← hna] at hca HA ⊢
  rw [← hnb] at hcb HB ⊢
  clear ha hb henv hna hnb
  go_enter Tryz.func3, Tryz.ntmps3
  go_wp2_with fail
  refine (awD_any w HE.out).mono ?_
  rintro e w1 ⟨rfl, hb1⟩
  have HB1 := Lib.hid hb1
  clear hb1
  go_wp2_with fail
  obtain ⟨w2, hw2⟩ : ∃ Z : World, Z = w1.alloc (.cells #[.slice aa na ca, .slice ab nb cb] 22) := ⟨_, rfl⟩
  have hb2 : Below w1.heap.size w1 w2 := by rw [hw2]; exact (Below.refl _ _).alloc (Nat.le_refl _) _
  have HLS := Lib.hid (show ListsAt (fun _ => True) w2 (.slice (some ⟨w1.heap.size, 0, none⟩) 2 2) [(.slice aa na ca, a), (.slice ab nb cb, b)] by
    rw [hw2]
    exact lists_new (ls := [(.slice aa na ca, a), (.slice ab nb cb, b)]) (by simp) (fun x hx => by
      simp only [List.mem_cons, List.not_mem_nil, or_false] at hx
      rcases hx with rfl | rfl
      · exact HA.out.below HB1.out
      · exact HB.out.below HB1.out))
  have HB2 := Lib.hid (below_next HB1.out hb2)
  rw [← hw2]
  clear hw2 hb2
  refine (large23_any _ _ _ w2 HLS.out).mono ?_
  rintro e w3 ⟨tb, rfl, htr, hb3⟩
  have HTR := Lib.hid htr
  have HB3 := Lib.hid (below_next HB2.out hb3)
  clear htr hb3
  cases tb
  case true =>
    go_wp2_with fail
    go_ret
    exact ⟨rfl, HB3.out⟩
  have HLA := Lib.hid (HTR.out (by trivial) _ (List.mem_cons_self ..))
  have HLB := Lib.hid (HTR.out (by trivial) _ (List.mem_cons_of_mem _ (List.mem_cons_self ..)))
  clear HTR HLS
  have HPA := Lib.hid (show ∀ e ∈ a, e.path.size ≤ 65000 from fun e he => by have := (HLA.out.2 e he).1; omega)
  have HPB := Lib.hid (show ∀ e ∈ b, e.path.size ≤ 65000 from fun e he => by have := (HLB.out.2 e he).1; omega)
  obtain ⟨z1, hz1⟩ : ∃ z, z = checkP a := ⟨_, rfl⟩
  obtain ⟨z2, hz2⟩ : ∃ z, z = checkP b := ⟨_, rfl⟩
  have HZ1 := Lib.hid hz1
  have HZ2 := Lib.hid hz2
  clear hz1 hz2
  go_wp2_with fail
  by_cases h1 : z1 = 0
  · subst h1
    by_cases h2 : z2 = 0
    · subst h2
      have HTA := Lib.hid (checkP_iff.1 HZ1.out.symm)
      have HTB := Lib.hid (checkP_iff.1 HZ2.out.symm)
      obtain ⟨L, hL⟩ : ∃ L, L = diffP a b := ⟨_, rfl⟩
      have HL := Lib.hid hL
      have HDQ := Lib.hid (show diffQ a b = (L, 0) by rw [hL]; exact diffQ_tok HTA.out HTB.out)
      have HLN := Lib.hid (show L.length ≤ 4096 by
        have h1 := @diff_len a b HTA.out
        have h2 := HLA.out.1
        have h3 := HLB.out.1
        try simp only at h2 h3
        rw [hL]; omega)
      clear hL
      refine (diff_flat _ _ a b _ _ w3 L 0 HDQ.out (HA.out.below HB3.out) (HB.out.below HB3.out) (HE.out.below HB3.out)).mono ?_
      rintro e w4 ⟨al, cl, rfl, hls, hcl, hb4⟩
      have HLS := Lib.hid hls
      have HB4 := Lib.hid (below_next HB3.out hb4)
      clear hls hb4
      obtain ⟨nl, hnl⟩ : ∃ n, n = L.length := ⟨_, rfl⟩
      rw [← hnl] at HLS ⊢
      clear hnl
      go_wp2_with fail
      refine (r_check_any _ a _ w4 (HA.out.below HB4.out) HPA.out).mono ?_
      rw [← HZ1.out]
      rintro e w5 ⟨rfl, hb5⟩
      have HB5 := Lib.hid (below_next HB4.out hb5)
      have HLS5 := Lib.hid (HLS.out.below hb5)
      clear hb5
      go_wp2_with fail
      refine (r_check_any _ b _ w5 (HB.out.below HB5.out) HPB.out).mono ?_
      rw [← HZ2.out]
      rintro e w6 ⟨rfl, hb6⟩
      have HB6 := Lib.hid (below_next HB5.out hb6)
      have HLS6 := Lib.hid (HLS5.out.below hb6)
      clear hb6
      go_wp2_with fail
      refine (r_diff_any _ _ a b _ _ w6 (HA.out.below HB6.out) (HB.out.below HB6.out) HTA.out HTB.out HLA.out.1 HLB.out.1).mono ?_
      rintro e w7 ⟨v7, rfl, hd7, hb7⟩
      rw [← HL.out] at hd7
      have HD7 := Lib.hid hd7
      have HB7 := Lib.hid (below_next HB6.out hb7)
      have HLS7 := Lib.hid (HLS6.out.below hb7)
      clear hb7 hd7
      go_wp2_with fail
      refine (same_any _ _ L L _ _ w7 HLS7.out HD7.out HLN.out).mono ?_
      rw [decide_eq_true rfl]
      rintro e w8 ⟨rfl, hb8⟩
      have HB8 := Lib.hid (below_next HB7.out hb8)
      clear hb8
      go_wp2_with fail
      go_ret
      exact ⟨rfl, HB8.out⟩
    · have HDQ := Lib.hid (show diffQ a b = ([], z2) by unfold diffQ; rw [← HZ1.out, ← HZ2.out, if_neg (by simp), if_pos h2])
      have e1 : (z2 != 0) = true := by simp [h2]
      clear h2
      refine (diff_flat _ _ a b _ _ w3 [] z2 HDQ.out (HA.out.below HB3.out) (HB.out.below HB3.out) (HE.out.below HB3.out)).mono ?_
      rintro e w4 ⟨al, cl, rfl, -, hcl, hb4⟩
      have HB4 := Lib.hid (below_next HB3.out hb4)
      clear hb4
      try simp only [List.length_nil]
      go_wp2_with fail
      refine (r_check_any _ a _ w4 (HA.out.below HB4.out) HPA.out).mono ?_
      rw [← HZ1.out]
      rintro e w5 ⟨rfl, hb5⟩
      have HB5 := Lib.hid (below_next HB4.out hb5)
      clear hb5
      go_wp2_with fail
      refine (r_check_any _ b _ w5 (HB.out.below HB5.out) HPB.out).mono ?_
      rw [← HZ2.out]
      rintro e w6 ⟨rfl, hb6⟩
      have HB6 := Lib.hid (below_next HB5.out hb6)
      clear hb6
      go_wp2_with fail
      go_ret
      exact ⟨rfl, HB6.out⟩
  · have HDQ := Lib.hid (show diffQ a b = ([], z1) by unfold diffQ; rw [← HZ1.out, if_pos h1])
    have e1 : (z1 != 0) = true := by simp [h1]
    have e2 : (z1 == 0) = false := by simp [h1]
    clear h1
    refine (diff_flat _ _ a b _ _ w3 [] z1 HDQ.out (HA.out.below HB3.out) (HB.out.below HB3.out) (HE.out.below HB3.out)).mono ?_
    rintro e w4 ⟨al, cl, rfl, -, hcl, hb4⟩
    have HB4 := Lib.hid (below_next HB3.out hb4)
    clear hb4
    try simp only [List.length_nil]
    go_wp2_with fail
    refine (r_check_any _ a _ w4 (HA.out.below HB4.out) HPA.out).mono ?_
    rw [← HZ1.out]
    rintro e w5 ⟨rfl, hb5⟩
    have HB5 := Lib.hid (below_next HB4.out hb5)
    clear hb5
    go_wp2_with fail
    go_ret
    exact ⟨rfl, HB5.out⟩
end Go.Proofs.YtdieneaillkbgaaGreatDoor

/- What the laws share: from the form's words (shaped, laid) to the walks' premises, and back. -/
namespace Go.Proofs.YtdieneaillkbgaaGreatDoor
open Go.ChangeShapes Go.WideShapes Go.ChangeAt Go.RowKit Go.Lib Go.Shelf
open Go.ChangeMaps (open_string shut_string)
section
variable {H : Type} {enc : TypeId × Value → H}
/-- The wrap that hands on both the shape of the world and a further condition. -/
theorem handed {a : Assume} {C : Checked} {os : Os} {f : FuncId} {fn : Func} {s : ChangeSpec} {conds : List PathCond} {apart fresh handsOn again : Bool} {X : World → Array Value → Prop}
    (hX : ∀ (w w' : World) (args : Array Value), w.heap = w'.heap → X w args → X w' args)
    (own : ownKnob C.prog.godebug = none) (started : os.Started) (noInit : C.prog.inits.idxOf? f = none) (hfn : C.prog.funcs[f]? = some fn)
    (witness : ∃ (w : World) (tape : Tape) (i : Input), w.os = os ∧ (w.forCall tape i).Shaped C.prog ∧ i.vars = [] ∧ Input.okWide C.prog (w.forCall tape i) .any w.heap.size f i ∧
      ((s.pre enc C.prog fn conds apart (w.forCall tape i).memory i.args ∧ X (w.forCall tape i).memory i.args) ∧ sizedMet enc C.prog fn (OpenSpec.ofChange s) apart (w.forCall tape i).memory i.args) ∧ a.holds C.prog (lone (Frame.enter C.prog f i.args .normal) [] (w.forCall tape i)))
    (contract : ∀ (W : World) (base : Nat) (args : Array Value) (ds gs : List (DataW H)) (before : List MemPlace),
      (∀ (j : Nat) t v, fn.params[j]? = some t → args[j]? = some v → Value.okWide C.prog W .any base t v) →
      DataW.Whole enc C.prog fn.params.toList s.vars apart W args.toList ds gs before →
      (DataW.weightsEach C.prog (fn.params.toList ++ s.plain.varTypes C.prog) (ds ++ gs)).all (· ≤ reachBytes) = true → X W args → W.ShapedOpen C.prog →
      Calls C.prog f args W fun e W' => ∃ v, e = .returned v ∧ s.post enc C.prog fn apart fresh handsOn again W args v W') :
    ReturnsInHanded a C os f .any (fun w args => (s.pre enc C.prog fn conds apart w args ∧ X w args) ∧ sizedMet enc C.prog fn (OpenSpec.ofChange s) apart w args) (s.post enc C.prog fn apart fresh handsOn again) := by
  refine returnsInHanded_of_calls own started noInit witness ?_
  intro w tape i _ hsh _ hok hpre hholds
  obtain ⟨_, _, _, fn', hfn', _, _, _, _, hval⟩ := hok
  have e : fn' = fn := Option.some.inj (hfn'.symm.trans hfn)
  subst e
  obtain ⟨⟨⟨ds, gs, before, hw, hc⟩, hx⟩, hz⟩ := hpre
  have hw' := DataW.Whole.of_heap (w' := w.forCall tape i) (by rfl) hw
  refine (contract (w.forCall tape i) w.heap.size i.args ds gs before hval hw' (hz.weights hw) (hX _ _ _ (by rfl) hx) hsh).mono fun e W' ⟨v, he, hp⟩ => ?_
  subst he
  exact ChangeSpec.post_blind hp
end
def laidL : List (String × DataW Unit) := [("unicode/utf8.acceptRanges", Rows.laid_unicode_utf8_acceptRanges), ("unicode/utf8.first", Rows.laid_unicode_utf8_first)]
theorem own : ownKnob Tryz.prog.godebug = none := by kernel_rfl
theorem laidOut : laidOutB Tryz.prog = true := by kernel_rfl
theorem accept_eq : (Rows.laid_unicode_utf8_acceptRanges : DataW Unit) = acceptData := by kernel_rfl
theorem env_of {W : World} (hL : laidMetH Tryz.prog laidL W) (hsh : W.ShapedOpen Tryz.prog) : Env W := by
  rw [MakeChecks.laidMetH_plain _ _ _ (by kernel_rfl)] at hL
  refine ⟨?_, ?_⟩
  · exact cell_of_shapedOpen_int (zero := #[.int .i64 0]) (t := 3) hsh (of_decide_eq_true (by kernel_rfl)) (by kernel_rfl) rfl (by kernel_rfl) (by kernel_rfl) Tryz.underlying3
  · have h1 := Lib.laidMet.reads hL (.head _)
    have h2 := Lib.laidMet.reads hL (.tail _ (.head _))
    rw [accept_eq] at h1
    exact utf8Tabs_of_readsT (U8Types.of196 Tryz.laysValid) ⟨by kernel_rfl, by kernel_rfl, by kernel_rfl, by kernel_rfl, by kernel_rfl, by kernel_rfl, by kernel_rfl⟩ (Pinned.utf8First_eq ▸ h2) h1
end Go.Proofs.YtdieneaillkbgaaGreatDoor

/- From the form's reading of slices and structs to the rows of the walks. -/
namespace Go.Proofs.YtdieneaillkbgaaGreatDoor
open Go.ChangeShapes Go.WideShapes Go.ChangeAt Go.RowKit Go.Lib Go.Shelf
section
variable {H : Type} {enc : TypeId × Value → H} {P : Program} {W : World} {base : Nat}
theorem add_add (a : Addr) (i j : Nat) : (a.add i).add j = a.add (i + j) := by
  unfold Addr.add
  by_cases hi : i = 0
  · simp [hi]
  · by_cases hj : j = 0
    · simp [hi, hj]
    · simp [hi, hj]; omega
/-- A slice as it is read, its elements' cells read by R. -/
theorem seq_read {α : Type} {R : List Value → α → Prop} {t e : TypeId} {sz : Nat} {spare : Nat → Bool} {held : Bool} {fuel : Nat} {cs0 : List Value} {y0 : DataW H × List MemPlace} (ht : P.underlying t = some (.slice e)) (hc : P.cellsOf e = sz) (hpos : 0 < sz)
    (hR : ∀ n cs y, DataW.trod enc P W base spare held n e cs = some y → ∃ x, R cs x) (hs : ∀ c x, R c x → c.length = sz)
    (hf : DataW.trod enc P W base spare held fuel t cs0 = some y0) : ∃ v, cs0 = [v] ∧ ∃ xs : List α, SeqAt (fun _ => True) W sz R v xs := by
  rcases DataW.trod_slice ht hf with ⟨hcs, _⟩ | ⟨a, len0, cap0, elems, rest, n, _, hcs, _, hb, hl, hm, hlen, hel, _, _⟩
  · exact ⟨_, hcs, [], SeqAt.nil⟩
  · refine ⟨_, hcs, ?_⟩
    rw [hc] at hel
    have each : ∀ i, i < len0 → ∃ cs x, R cs x ∧ cs.length = sz ∧ ∀ j, j < sz → W.cell? (a.add (i * sz + j)) = cs[j]? := by
      intro i hi
      have h1 := hel i hi
      rw [List.getElem?_eq_getElem (by omega), Option.bind_eq_some_iff] at h1
      obtain ⟨cs, hcs, hy⟩ := h1
      obtain ⟨x, hx⟩ := hR n cs _ hy
      refine ⟨cs, x, hx, hs cs x hx, fun j hj => ?_⟩
      have h3 := World.cells?_some hcs
      rw [← add_add]
      exact h3.2.2 j hj
    have main : ∀ m, m ≤ len0 → ∃ (cells : List Value) (xs : List α), xs.length = m ∧ cells.length = m * sz ∧ RowsIn R cells xs ∧ ∀ (j : Nat) u, cells[j]? = some u → W.cell? (a.add j) = some u := by
      intro m
      induction m with
      | zero => intro _; exact ⟨[], [], rfl, by simp, rfl, fun j u hj => by simp at hj⟩
      | succ m ih =>
        intro hm
        obtain ⟨cells, xs, h1, h2, h3, h4⟩ := ih (by omega)
        obtain ⟨cs, x, hx, hcl, hcc⟩ := each m (by omega)
        refine ⟨cells ++ cs, xs ++ [x], by simp [h1], by rw [List.length_append, h2, hcl, Nat.add_mul]; omega, RowsIn.snoc h3 hx, fun j u hj => ?_⟩
        rcases Nat.lt_or_ge j cells.length with hj2 | hj2
        · rw [List.getElem?_append_left hj2] at hj; exact h4 j u hj
        · rw [List.getElem?_append_right hj2] at hj
          have hlt := (List.getElem?_eq_some_iff.1 hj).1
          have := hcc (j - cells.length) (by omega)
          rw [h2, show m * sz + (j - m * sz) = j by omega] at this
          rw [this, ← h2]; exact hj
    obtain ⟨cells, xs, h1, h2, h3, h4⟩ := main len0 (Nat.le_refl _)
    subst h1
    refine ⟨xs, cells, ⟨h2, some a, cap0, rfl, hl, hm, ?_⟩, h3⟩
    rcases Nat.eq_zero_or_pos xs.length with h0 | h0
    · exact .inl h0
    · right
      have hpl : 0 < cells.length := by rw [h2]; exact Nat.mul_pos h0 hpos
      have hc0 := h4 0 cells[0] (by simp [hpl])
      have hsp : a.spot = none := by simpa [Addr.add] using World.cell?_spot hc0
      obtain ⟨b, o, sp⟩ := a
      simp only at hsp
      subst hsp
      refine ⟨b, o, rfl, trivial, fun j u hj => ?_⟩
      have := h4 j u hj
      rw [add_lit] at this; exact this
/-- A slice that came in: its elements' cells, read by R. -/
theorem open_seq {α : Type} {R : List Value → α → Prop} {t e : TypeId} {sz b0 : Nat} {spare : Nat → Bool} {held : Bool} {v : Value} {d : DataW H} {ps : List MemPlace} (ht : P.underlying t = some (.slice e)) (hc : P.cellsOf e = sz) (hpos : 0 < sz)
    (hR : ∀ n cs y, DataW.trod enc P W base spare held n e cs = some y → ∃ x, R cs x) (hs : ∀ c x, R c x → c.length = sz)
    (hval : Value.okWide P W .any b0 t v) (h : DataW.Trod enc P W base spare held t v d ps) : ∃ xs : List α, SeqAt (fun _ => True) W sz R v xs := by
  obtain ⟨a0, len0, cap0, rfl⟩ := okWide_slice ht hval
  obtain ⟨fuel, hf⟩ := h
  obtain ⟨v, h1, h2⟩ := seq_read ht hc hpos hR hs hf
  simp [Value.cells] at h1
  subst h1
  exact h2
end
section
variable {H : Type} {enc : TypeId × Value → H} {W : World} {base b0 : Nat} {spare : Nat → Bool} {held : Bool} {v : Value} {d : DataW H} {ps : List MemPlace}
theorem field_read {P : Program} {t : TypeId} {fs : Array Field} {fuel : Nat} {cs : List Value} {x : DataW H × List MemPlace} (ht : P.underlying t = some (.struct fs)) (h : DataW.trod enc P W base spare held fuel t cs = some x) (i : Nat) {f : Field} (hf : fs[i]? = some f) :
    ∃ n y, DataW.trod enc P W base spare held n f.type ((cs.drop f.offset).take (P.cellsOf f.type)) = some y := by
  obtain ⟨xs, n, _, _, _, hlen, hF⟩ := DataW.trod_struct ht h
  have hi : i < xs.length := by rw [hlen]; exact (Array.getElem?_eq_some_iff.1 hf).1
  exact ⟨n, xs[i], by rw [hF i f hf]; simp [hi]⟩
theorem struct_len {P : Program} {t : TypeId} {fs : Array Field} {fuel : Nat} {cs : List Value} {x : DataW H × List MemPlace} (ht : P.underlying t = some (.struct fs)) (h : DataW.trod enc P W base spare held fuel t cs = some x) : cs.length = P.cellsOf t := by
  obtain ⟨xs, n, _, _, hl, _, _⟩ := DataW.trod_struct ht h
  exact hl
theorem cellsStr : Tryz.prog.cellsOf 9 = 1 := by kernel_rfl
theorem cellsInt : Tryz.prog.cellsOf 3 = 1 := by kernel_rfl
theorem cellsU8 : Tryz.prog.cellsOf 5 = 1 := by kernel_rfl
theorem cellsData : Tryz.prog.cellsOf 46 = 1 := by kernel_rfl
theorem cellsEnt : Tryz.prog.cellsOf 48 = 6 := by kernel_rfl
theorem list6 {α : Type} {cs : List α} (h : cs.length = 6) : ∃ c0 c1 c2 c3 c4 c5, cs = [c0, c1, c2, c3, c4, c5] := by
  match cs, h with
  | [c0, c1, c2, c3, c4, c5], _ => exact ⟨c0, c1, c2, c3, c4, c5, rfl⟩
def ByteR (c : List Value) (b : UInt8) : Prop := c = [u8V b]
theorem read_byte {n : Nat} {cs : List Value} {y : DataW H × List MemPlace} (h : DataW.trod enc Tryz.prog W base spare held n 5 cs = some y) : ∃ b, ByteR cs b := by
  obtain ⟨a, e, _, hw⟩ := DataW.trod_int Tryz.underlying5 h
  have h1 : 0 ≤ a ∧ a ≤ 255 := by
    simp only [Lit.wf, Bool.and_eq_true, decide_eq_true_eq] at hw
    exact ⟨hw.1, hw.2⟩
  refine ⟨UInt8.ofNat a.toNat, ?_⟩
  unfold ByteR u8V
  rw [e, UInt8.toNat_ofNat_of_lt' (by show a.toNat < 256; omega), Int.toNat_of_nonneg h1.1]
theorem bytes_of_seq {S : Nat → Prop} {w : World} {v : Value} {bs : List UInt8} (h : SeqAt S w 1 ByteR v bs) : DataAt S w v bs := by
  obtain ⟨cells, h1, h2⟩ := h
  have : ∀ (bs : List UInt8) (cells : List Value), RowsIn ByteR cells bs → cells = bs.map u8V := by
    intro bs
    induction bs with
    | nil => intro cells h; exact h
    | cons x bs ih =>
      rintro cells ⟨c, rest, rfl, hc, hr⟩
      rw [ih rest hr, show c = [u8V x] from hc]; rfl
  rw [this bs cells h2] at h1
  exact h1
set_option maxRecDepth 100000 in
theorem read_data {n : Nat} {cs : List Value} {y : DataW H × List MemPlace} (h : DataW.trod enc Tryz.prog W base spare held n 46 cs = some y) : ∃ v, cs = [v] ∧ ∃ bs, DataAt (fun _ => True) W v bs := by
  obtain ⟨v, h1, bs, h2⟩ := seq_read (R := ByteR) Tryz.underlying46 cellsU8 (by omega) (fun n cs y hy => read_byte hy) (fun c x hc => by rw [show c = [u8V x] from hc]; rfl) h
  exact ⟨v, h1, bs, bytes_of_seq h2⟩
set_option maxRecDepth 100000 in
theorem read_ent {n : Nat} {cs : List Value} {y : DataW H × List MemPlace} (h : DataW.trod enc Tryz.prog W base spare held n 48 cs = some y) : ∃ e, EntR (fun _ => True) W cs e := by
  have hl := struct_len Tryz.underlying48 h
  rw [cellsEnt] at hl
  obtain ⟨c0, c1, c2, c3, c4, c5, rfl⟩ := list6 hl
  obtain ⟨n0, y0, h0⟩ := field_read Tryz.underlying48 h 0 rfl
  obtain ⟨n1, y1, h1⟩ := field_read Tryz.underlying48 h 1 rfl
  obtain ⟨n2, y2, h2⟩ := field_read Tryz.underlying48 h 2 rfl
  obtain ⟨n3, y3, h3⟩ := field_read Tryz.underlying48 h 3 rfl
  obtain ⟨n4, y4, h4⟩ := field_read Tryz.underlying48 h 4 rfl
  obtain ⟨n5, y5, h5⟩ := field_read Tryz.underlying48 h 5 rfl
  simp only [List.getElem_toArray, List.getElem_cons_zero, List.getElem_cons_succ, cellsStr, cellsInt, cellsData] at h0 h1 h2 h3 h4 h5
  obtain ⟨a0, e0, _, g0⟩ := DataW.trod_string Tryz.underlying9 h0
  obtain ⟨a1, e1, _, g1⟩ := DataW.trod_int Tryz.underlying3 h1
  obtain ⟨a2, e2, _, g2⟩ := DataW.trod_int Tryz.underlying3 h2
  obtain ⟨a3, e3, _, g3⟩ := DataW.trod_int Tryz.underlying3 h3
  obtain ⟨a4, e4, bs, g4⟩ := read_data h4
  obtain ⟨a5, e5, _, g5⟩ := DataW.trod_string Tryz.underlying9 h5
  simp at e0 e1 e2 e3 e4 e5
  subst e0 e1 e2 e3 e4 e5
  exact ⟨⟨a0, a1, a2, a3, bs, a5⟩, _, rfl, g4, ⟨g0, g5, g1, g2, g3⟩⟩
set_option maxRecDepth 100000 in
theorem open_ents (hval : Value.okWide Tryz.prog W .any b0 22 v) (h : DataW.Trod enc Tryz.prog W base spare held 22 v d ps) : ∃ xs, EntsAt (fun _ => True) W v xs :=
  @open_seq H enc Tryz.prog W base Ent (EntR (fun _ => True) W) 22 48 6 b0 spare held v d ps Tryz.underlying22 cellsEnt (by omega) (fun n cs y hy => read_ent hy) EntR.len hval h
end
end Go.Proofs.YtdieneaillkbgaaGreatDoor

/- TreediffDiffs: for every input the law returns true, and each argument reads afterwards as it read before (the tied card). -/
namespace Go.Proofs.YtdieneaillkbgaaGreatDoor
open Go.ChangeShapes Go.WideShapes Go.ChangeAt Go.RowKit Go.Lib Go.Shelf
open Go.ChangeMaps (open_string shut_string)
namespace CDiffs
set_option maxRecDepth 100000 in
theorem lifted (os : Os) (started : os.Started) (H : Type) (enc : TypeId × Value → H) :
    ReturnsInHanded {} Tryz.checked os 3 .any (fun w args => (Rows.treediffDiffsSpec.pre enc Tryz.prog Tryz.f3 [] false w args ∧ laidMetH Tryz.prog laidL w) ∧ sizedMet enc Tryz.prog Tryz.f3 (OpenSpec.ofChange Rows.treediffDiffsSpec) false w args)
      (Rows.treediffDiffsSpec.post enc Tryz.prog Tryz.f3 false true false false) := by
  refine handed (C := Tryz.checked) (X := fun w _ => laidMetH Tryz.prog laidL w) (fun _ _ _ hh h => h.of_heap hh) own started (by kernel_rfl) Tryz.func3
    (ChangeSpec.witness_shaped (enc := enc) (C := Tryz.checked) (os := os) (X := fun w _ => laidMetH Tryz.prog laidL w) false (World.laidAll Tryz.prog os laidL) #[.slice none 0 0, .slice none 0 0] 8 (World.laidAll_os _ _ _)
      (World.shaped_of_ZipB (by kernel_rfl) (by kernel_rfl)) (by kernel_rfl) (by kernel_rfl) (by kernel_rfl)
      (by rw [MakeChecks.laidMetH_plain _ _ _ (by kernel_rfl)]; exact laidMet_laidAll _ (by kernel_rfl) (by kernel_rfl))) ?_
  intro W base args ds gs before hval0 hW _hWt hL hsh
  have hval : ∀ (j : Nat) t v, Tryz.f3.params[j]? = some t → args[j]? = some v → Value.okWide Tryz.prog W .any base t v := hval0
  have hW' := hW
  obtain ⟨p, q, hA0, hV, rfl, _, _⟩ := hW
  have hA : DataW.TrodAll enc Tryz.prog W 0 (fun _ => true) true Tryz.f3.params.toList args.toList ds p := hA0
  rw [Tryz.params3] at hA hval
  obtain ⟨rfl, rfl⟩ := trodVars_none hV
  simp only [List.append_nil] at hW'
  obtain ⟨v0, v1, d0, d1, p0, p1, rfl, rfl, rfl, h0, h1⟩ := trodAll_two hA
  obtain ⟨l0, hl0⟩ := open_ents (hval 0 22 v0 rfl rfl) h0
  have hlt0 : ∀ x ∈ p0, x.block < W.heap.size := fun x hx => by simpa using hW'.lt x (by simp [hx])
  obtain ⟨l1, hl1⟩ := open_ents (hval 1 22 v1 rfl rfl) h1
  have hlt1 : ∀ x ∈ p1, x.block < W.heap.size := fun x hx => by simpa using hW'.lt x (by simp [hx])
  refine (diffs_walk l0 l1 v0 v1 W hl0 hl1 (env_of hL hsh)).mono fun e W' ⟨he, hb⟩ => ?_
  subst he
  exact ⟨_, rfl, _, _, _, [], _, [], hW', trodAll_mk1 (shut_bool Tryz.underlying4 _), trodAll_mk2 (Below.trod laidOut (by kernel_rfl) (of_decide_eq_true (by kernel_rfl)) h0 hb hlt0) (Below.trod laidOut (by kernel_rfl) (of_decide_eq_true (by kernel_rfl)) h1 hb hlt1), rfl, hb.frame _, fun h => by cases h⟩
theorem holds : Rows.TreediffDiffsSaid :=
  OpenClaim.holds_of_wide 3 Tryz.f3 rfl rfl rfl rfl rfl rfl rfl ⟨rfl, rfl, rfl, rfl, rfl⟩ rfl rfl rfl rfl rfl (by kernel_rfl) Tryz.func3 (by kernel_rfl)
    (of_decide_eq_true (by kernel_rfl)) (by unfold Func.isWrapper; first | (rw [if_pos (by decide +kernel)]; kernel_rfl) | (rw [if_neg (by decide +kernel)]; exact ⟨rfl, rfl⟩))
    (fun os started H enc _ => lifted os started H enc)
theorem card_holds : Rows.TreediffDiffsCardSaid :=
  Claim7.holds_tied_plain_at .later [] [.data, .pinned] true (true, "26f308a74d533cd0a72c14b9da7e68f4e1e057f8caa1e49e6438d7b0ff3c70c4") false holds (fun _ h => by cases h) (by kernel_rfl) (fun _ h => by cases h) treediffDiffs_row_tie rfl ⟨rfl, rfl⟩ (by kernel_rfl) rfl
    (fun f fn hf hfn => by
      obtain rfl : f = 3 := Option.some.inj ((show Tryz.prog.funcNamed "kinkeep/kinkeeplaw23.TreediffDiffs" = some 3 by kernel_rfl).symm.trans hf) |>.symm
      obtain rfl : fn = Tryz.f3 := (Option.some.inj (Tryz.func3.symm.trans hfn)).symm
      exact ⟨by kernel_rfl, fun j t ht => by
        rw [Tryz.params3] at ht
        have hm : t ∈ [22] := by simpa using Array.mem_of_getElem? ht
        have hall : ([22].all fun u => !Tryz.prog.wantsStandIn u) = true := by kernel_rfl
        exact (show Tryz.prog.wantsStandIn t = false by simpa using List.all_eq_true.1 hall t hm)⟩)
    (by kernel_rfl)
#print axioms card_holds
end CDiffs
theorem treediffDiffs_card : Rows.TreediffDiffsCardSaid := CDiffs.card_holds
end Go.Proofs.YtdieneaillkbgaaGreatDoor
