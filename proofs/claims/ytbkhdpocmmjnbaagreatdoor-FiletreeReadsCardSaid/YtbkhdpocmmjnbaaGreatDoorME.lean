/- Texts of this proof, one after the other: RfS, RfM. -/
import Derived.Test.YtbkhdpocmmjnbaaGreatDoorMD
/- Contracts of the specification kinkeepref20: sorted. -/
namespace Go.Proofs.YtbkhdpocmmjnbaaGreatDoor
open Go Go.RowKit Go.Maps



def preS (L : List Ent) (k : Nat) : List Ent := (L.take k).foldl insE []
theorem preS_step {L : List Ent} {k : Nat} {e : Ent} (h : L[k]? = some e) : preS L (k + 1) = insE (preS L k) e := by
  unfold preS
  rw [List.take_add_one, h, List.foldl_append]; rfl
theorem preS_perm (L : List Ent) (k : Nat) : (preS L k).Perm (L.take k) := by
  have := foldl_ins_perm (L.take k) []
  simpa [preS] using this
theorem preS_all (L : List Ent) : preS L L.length = sortP L := by unfold preS sortP; rw [List.take_length]
theorem preS_mem {L : List Ent} {k : Nat} {e : Ent} (h : e ∈ preS L k) : e ∈ L := List.mem_of_mem_take ((preS_perm L k).mem_iff.1 h)
theorem preS_len {L : List Ent} {k : Nat} (h : k ≤ L.length) : (preS L k).length = k := by rw [(preS_perm L k).length_eq, List.length_take]; omega
theorem entsC_oneC {S : Nat → Prop} {w : World} {ys : List VEnt} (h : ∀ y ∈ ys, DataAt S w y.1 y.2.data ∧ EntOk y.2) : ∀ u ∈ entsC ys, u.oneCell' = true := by
  intro u hu
  unfold entsC at hu
  obtain ⟨y, hy, hu⟩ := List.mem_flatMap.1 hu
  obtain ⟨a, c, hv, -, -⟩ := (h y hy).1.slice
  rw [hv] at hu
  exact entC_one u hu
theorem row_one {w : World} {z : Nat} {dv : Value} {e : Ent} (h : w.heap[z]? = some (.cells #[.string e.path, .int .i64 e.kind, .int .i64 e.mode, .int .i64 e.time, dv, .string e.link] 30 (0, 0))) : RowAt (fun k => k = z) w 6 (.slice (some ⟨z, 0, none⟩) 1 1) 1 (entC dv e) :=
  ⟨rfl, _, 1, rfl, Nat.le_refl _, by unfold maxLen; omega, .inr ⟨z, 0, rfl, rfl, fun j u hj => by
    rw [Nat.zero_add, cell20 h]
    simpa [entC, List.getElem?_toArray] using hj⟩⟩
/-- The list with one more entry, where all of it lies. -/
theorem ins_end {S T : Nat → Prop} {w W U : World} {B0 j : Nat} {ys : List VEnt} {y : VEnt} {v : Value} (hb : Below w.heap.size w U) (hd : ∀ x ∈ ys, DataAt T w x.1 x.2.data ∧ EntOk x.2) (hy : DataAt T w y.1 y.2.data ∧ EntOk y.2) (hj : j ≤ ys.length)
    (hown : U.ownsRow W.heap.size 30 6 v (j + 1 + (ys.length - j)) ((entsC (ys.take j) ++ entC y.1 y.2) ++ entsC (ys.drop j))) (hB : B0 ≤ W.heap.size) (hT : ∀ k, T k → S k) (hS : ∀ k, B0 ≤ k → S k) : EntsAt S U v ((ys.map Prod.snd).take j ++ [y.2] ++ (ys.map Prod.snd).drop j) := by
  have h1 := row_of_owns hown
  have hc : (entsC (ys.take j) ++ entC y.1 y.2) ++ entsC (ys.drop j) = entsC (ys.take j ++ [y] ++ ys.drop j) := by rw [entsC_app, entsC_app]; simp [entsC]
  have hn : j + 1 + (ys.length - j) = (ys.take j ++ [y] ++ ys.drop j).length := by simp; omega
  rw [hc, hn] at h1
  have hm : (ys.map Prod.snd).take j ++ [y.2] ++ (ys.map Prod.snd).drop j = (ys.take j ++ [y] ++ ys.drop j).map Prod.snd := by simp [List.map_take, List.map_drop]
  rw [hm]
  refine ListV.ents ⟨h1.weak (fun k hk => hS k (Nat.le_trans hB hk.1)), fun x hx => ?_⟩
  have hx2 : x = y ∨ x ∈ ys := by
    rcases List.mem_append.1 hx with hx | hx
    · rcases List.mem_append.1 hx with hx | hx
      · exact .inr (List.mem_of_mem_take hx)
      · exact .inl (List.mem_singleton.1 hx)
    · exact .inr (List.mem_of_mem_drop hx)
  rcases hx2 with rfl | hx
  · exact ⟨data_mono (hy.1.below hb) hT, hy.2⟩
  · exact ⟨data_mono ((hd x hx).1.below hb) hT, (hd x hx).2⟩
/-- What holds of the list under way. -/
def SortK (T : Nat → Prop) (w : World) (M : List Ent) (v : Value) (wr : World) : Prop := EntsAt T wr v M ∧ Below w.heap.size w wr ∧ (v = .slice none 0 0 ∨ ∃ b o c, v = .slice (some ⟨b, o, none⟩) M.length c)
set_option maxRecDepth 100000 in
set_option maxHeartbeats 4000000 in
theorem r_sorted_any (S : Nat → Prop) (L : List Ent) (v : Value) (w : World) (hv : EntsAt S w v L) (hps : ∀ e ∈ L, e.path.size ≤ 65000) (hl : L.length ≤ 8200) :
    Calls Tryz.prog 47 #[v] w fun e w' => ∃ v', e = .returned v' ∧ EntsAt (fun k => S k ∨ w.heap.size ≤ k) w' v' (sortP L) ∧ Below w.heap.size w w' := by
  have HV := Lib.hid hv
  have HPS := Lib.hid hps
  obtain ⟨a, cap, rfl, hc, hm, -⟩ := SeqAt.shape hv EntR.len
  unfold maxLen at hm
  obtain ⟨n, hn⟩ : ∃ n, n = L.length := ⟨_, rfl⟩
  have HN := Lib.hid hn
  rw [← hn] at hc HV hl ⊢
  clear hv hps hn
  go_enter Tryz.func47, Tryz.ntmps47
  go_wp2_with fail
  go_loopw [3, 9] (fun v i wr => ∃ k : Nat, k ≤ n ∧ i = .int .i64 k ∧ SortK (fun k => S k ∨ w.heap.size ≤ k) w (preS L k) v wr) (fun _ i _ => n - (intOf i).toNat)
  case atStart => exact ⟨0, Nat.zero_le _, rfl, EntsAt.nil _ _, Below.refl _ _, .inl rfl⟩
  case round =>
    obtain ⟨k, hk, rfl, hsk⟩ := hrel
    obtain ⟨wo, rfl⟩ : ∃ wo, wo = wr := ⟨_, rfl⟩
    obtain ⟨M, hM⟩ : ∃ M, M = preS L k := ⟨_, rfl⟩
    rw [← hM] at hsk
    have HM := Lib.hid hM
    obtain ⟨hes, hbr, hsh⟩ := hsk
    have HES := Lib.hid hes
    have HBR := Lib.hid hbr
    by_cases hlt : k < n
    · obtain ⟨m, hm0⟩ : ∃ m, m = M.length := ⟨_, rfl⟩
      have hmk : m = k := by rw [hm0, hM]; exact preS_len (by rw [← HN.out]; omega)
      have HMK := Lib.hid hmk
      have hml : m ≤ 8200 := by omega
      clear hmk
      obtain ⟨ys, hym, hlv⟩ := hes.listV
      have HML := Lib.hid (show m = ys.length by rw [hm0, ← hym, List.length_map])
      have HM0 := Lib.hid hm0
      have HYM := Lib.hid hym
      obtain ⟨av, cv, rfl, hcv, hmv, -⟩ := SeqAt.shape hes EntR.len
      have HNIL := Lib.hid (show av = none → m = 0 ∧ cv = 0 from fun h => by
        subst h
        rcases hsh with h | ⟨b, o, c, h⟩
        · simp only [Value.slice.injEq] at h
          exact ⟨hm0.trans h.2.1, h.2.2⟩
        · simp at h)
      have hva : av = none ∨ ∃ b o, av = some ⟨b, o, none⟩ := by
        rcases hsh with h | ⟨b, o, c, h⟩
        · simp only [Value.slice.injEq] at h; exact .inl h.1
        · simp only [Value.slice.injEq] at h; exact .inr ⟨b, o, h.1⟩
      have HRW := Lib.hid (show RowAt (fun k => S k ∨ w.heap.size ≤ k) wo 6 (.slice av m cv) m (entsC ys) by have h1 := hlv.row; rw [← HML.out, ← hm0] at h1; exact h1)
      have HDY := Lib.hid hlv.dat
      rw [← hm0] at hcv ⊢
      unfold maxLen at hmv
      obtain ⟨e, he⟩ : ∃ e, L[k]? = some e := ⟨L[k]'(by rw [← HN.out]; exact hlt), by simp⟩
      obtain ⟨b, o, dv, rfl, -, hb, hd, hok, -, q0, q1, q2, q3, q4, q5⟩ := ents_at (HV.out.below HBR.out) he
      have HX := Lib.hid he
      have HDE := Lib.hid (data_mono (S' := fun k => S k ∨ w.heap.size ≤ k) hd (fun _ h => .inl h))
      have HOK := Lib.hid hok
      have HPE := Lib.hid (HPS.out e (List.mem_of_getElem? he))
      obtain ⟨a1, cap1, rfl, hd1, hd2⟩ := hd.slice
      unfold maxLen at hd2
      have HPM := Lib.hid (show ∀ f ∈ M, f.path.size ≤ 65536 from fun f hf => by have := HPS.out f (preS_mem (by rw [← hM]; exact hf)); omega)
      clear hM hm0 hym hlv hes hsh he hd hok
      go_upto_region 5 with (fail)
      obtain ⟨W, hW⟩ : ∃ W, W = wo.alloc (.cells #[.string e.path, .int .i64 e.kind, .int .i64 e.mode, .int .i64 e.time, .slice a1 e.data.length cap1, .string e.link] 30) := ⟨_, rfl⟩
      rw [← hW]
      have HXW := Lib.hid (show W.heap[wo.heap.size]? = some (.cells #[.string e.path, .int .i64 e.kind, .int .i64 e.mode, .int .i64 e.time, .slice a1 e.data.length cap1, .string e.link] 30 (0, 0)) by rw [hW]; exact new20 wo _)
      have HWL := Lib.hid (show Below wo.heap.size wo W by rw [hW]; exact (Below.refl _ _).alloc (Nat.le_refl _) _)
      clear hW q0 q1 q2 q3 q4 q5
      go_wp2_with fail
      go_loopw [6] (fun j wq => ∃ j' : Nat, j = .int .i64 j' ∧ j' ≤ m ∧ insAt M e m = insAt M e j' ∧ Below W.heap.size W wq) (fun j _ => (intOf j).toNat)
      case atStart => exact ⟨m, rfl, Nat.le_refl _, rfl, Below.refl _ _⟩
      case round =>
        obtain ⟨j, rfl, hjm, hji, hbq⟩ := hrel
        have HIX := Lib.hid hji
        have HBQ := Lib.hid hbq
        have HXQ := Lib.hid ((hbq.block _ (lt20 HXW.out)).trans HXW.out)
        clear hji hbq
        rcases Nat.eq_zero_or_pos j with hj0 | hj0
        · have e9 : decide (0 < j) = false := by simp; omega
          have e8 : (j : Int) ≤ 0 := by omega
          have HJ := Lib.hid (show insAt M e m = j by rw [HIX.out, hj0]; rfl)
          have HJ0 := Lib.hid hj0
          clear hj0
          go_wp2_with fail
          refine wp_region_segs [some 11, none, some 2] (by kernel_rfl) (by kernel_rfl) (by kernel_rfl) ?_
          simp only [wpSegs, List.take_succ_cons, List.take_zero, List.drop_succ_cons, List.drop_zero]
          obtain ⟨W2, hW2⟩ : ∃ W2 : World, W2 = wr.drew := ⟨_, rfl⟩
          rw [← hW2]
          have HBQ2 := Lib.hid (show Below W.heap.size W W2 by rw [hW2]; exact HBQ.out.trans ((Below.refl wr.heap.size wr).drew.mono HBQ.out.size))
          clear hW2
          repeat (first | (refine seg_skip rfl ?_; simp only [Act.put, List.setIfInBounds_toArray, List.set_cons_succ, List.set_cons_zero]) | (refine seg_run rfl (fun K hK => ?_); go_simp; refine hK _ ?_; clear hK K))
          refine seg_nil ?_
          refine bar_skip rfl ?_
          simp only [Act.put, List.setIfInBounds_toArray, List.set_cons_succ, List.set_cons_zero]
          repeat (first | (refine seg_skip rfl ?_; simp only [Act.put, List.setIfInBounds_toArray, List.set_cons_succ, List.set_cons_zero]) | (refine seg_run rfl (fun K hK => ?_); go_simp; refine hK _ ?_; clear hK K))
          refine seg_nil ?_
          go_wp2_with fail
          refine hld_start (fun w' => w'.cell? ⟨wo.heap.size, 0, none⟩ = some (.string e.path) ∧ w'.cell? ⟨wo.heap.size, 1, none⟩ = some (.int .i64 e.kind) ∧ w'.cell? ⟨wo.heap.size, 2, none⟩ = some (.int .i64 e.mode) ∧ w'.cell? ⟨wo.heap.size, 3, none⟩ = some (.int .i64 e.time) ∧ w'.cell? ⟨wo.heap.size, 4, none⟩ = some (.slice a1 e.data.length cap1) ∧ w'.cell? ⟨wo.heap.size, 5, none⟩ = some (.string e.link)) (by kernel_rfl) ?_
          obtain ⟨V, hV⟩ : ∃ V : World, V = (W2).drew := ⟨_, rfl⟩
          rw [← hV]
          have HBV := Lib.hid (show Below W.heap.size W V by rw [hV]; exact HBQ2.out.trans ((Below.refl (W2).heap.size (W2)).drew.mono HBQ2.out.size))
          clear hV
          have HBX := HBV
          have HXX := Lib.hid ((HBX.out.block _ (lt20 HXW.out)).trans HXW.out)
          have c0 := cell20 (k := 0) HXX.out
          have c1 := cell20 (k := 1) HXX.out
          have c2 := cell20 (k := 2) HXX.out
          have c3 := cell20 (k := 3) HXX.out
          have c4 := cell20 (k := 4) HXX.out
          have c5 := cell20 (k := 5) HXX.out
          simp only [List.getElem?_toArray, List.getElem?_cons_succ, List.getElem?_cons_zero] at c0 c1 c2 c3 c4 c5
          have hrw := HRW.out
          rcases hva with hva | ⟨b1, o1, hva⟩
          · subst hva
            obtain ⟨hm0, hc0⟩ := HNIL.out rfl
            subst hm0 hc0
            have hj0 : j = 0 := by omega
            subst hj0
            have HP := Lib.hid (show RowAt (fun k => S k ∨ w.heap.size ≤ k) W 6 _ (0) (entsC (ys.take (0))) from by
              rw [entsC_take]; exact (row_take hrw hjm).below (by omega) HWL.out)
            have HDT := Lib.hid (show ∀ y ∈ ys.take (0), DataAt (fun k => S k ∨ w.heap.size ≤ k) wo y.1 y.2.data ∧ EntOk y.2 from fun y hy => HDY.out y (List.mem_of_mem_take hy))
            have HDD := Lib.hid (show ∀ y ∈ ys.drop (0), DataAt (fun k => S k ∨ w.heap.size ≤ k) wo y.1 y.2.data ∧ EntOk y.2 from fun y hy => HDY.out y (List.mem_of_mem_drop hy))
            have HQ := Lib.hid (show RowAt (fun k => S k ∨ w.heap.size ≤ k) W 6 (.slice none (0 - 0) (0 - 0)) (0 - 0) (entsC (ys.drop 0)) from by
              have h1 : ys = [] := List.eq_nil_of_length_eq_zero HML.out.symm
              subst h1
              exact RowAt.nil _ _ _)
            clear hrw
            refine hld_take 1 rfl (by kernel_rfl) (by kernel_rfl) (by kernel_rfl) (fun _ _ _ h => h) rfl (by go_simp) (by intro w' hw'; go_simp; rfl) ?_
            simp only [Act.put, List.setIfInBounds_toArray, List.set_cons_succ, List.set_cons_zero]
            refine hld_take 2 rfl (by kernel_rfl) (by kernel_rfl) (by kernel_rfl) (fun _ _ _ h => h) rfl (by go_simp) (by intro w' hw'; go_simp; rfl) ?_
            simp only [Act.put, List.setIfInBounds_toArray, List.set_cons_succ, List.set_cons_zero]
            refine hld_take 3 rfl (by kernel_rfl) (by kernel_rfl) (by kernel_rfl) (fun _ _ _ h => h) rfl (by go_simp) (by intro w' hw'; go_simp; rfl) ?_
            simp only [Act.put, List.setIfInBounds_toArray, List.set_cons_succ, List.set_cons_zero]
            refine hld_take 5 rfl (by kernel_rfl) (by kernel_rfl) (by kernel_rfl) (fun _ _ _ h => h) rfl ⟨c0, c1, c2, c3, c4, c5⟩ (by rintro w' ⟨h0, h1, h2, h3, h4, h5⟩; go_simp; rfl) ?_
            simp only [Act.put, List.setIfInBounds_toArray, List.set_cons_succ, List.set_cons_zero]
            refine hld_take 8 rfl (by kernel_rfl) (by kernel_rfl) (by kernel_rfl) (fun _ _ _ h => h) rfl (by go_simp) (by intro w' hw'; go_simp; rfl) ?_
            simp only [Act.put, List.setIfInBounds_toArray, List.set_cons_succ, List.set_cons_zero]
            refine hld_take 9 rfl (by kernel_rfl) (by kernel_rfl) (by kernel_rfl) (fun _ _ _ h => h) rfl (by go_simp) (by intro w' hw'; go_simp; rfl) ?_
            simp only [Act.put, List.setIfInBounds_toArray, List.set_cons_succ, List.set_cons_zero]
            refine hld_take 10 rfl (by kernel_rfl) (by kernel_rfl) (by kernel_rfl) (fun _ _ _ h => h) rfl (by go_simp) (by intro w' hw'; go_simp; rfl) ?_
            simp only [Act.put, List.setIfInBounds_toArray, List.set_cons_succ, List.set_cons_zero]
            refine Hld.of (wpAnyH_all (rs := [0, 6]) (by kernel_rfl) (by simp) fun jj hjj => ?_)
            simp only [List.mem_cons, List.not_mem_nil, or_false] at hjj
            rcases hjj with rfl | rfl
            · refine hld_opr 0 rfl rfl (fun K hK => ?_)
              go_wp2_with fail
              obtain ⟨U1, hU⟩ : ∃ u : World, u = (V).alloc (.cells #[] 30) := ⟨_, rfl⟩
              rw [← hU]
              have hbu : Below (V).heap.size V U1 := by rw [hU]; exact (Below.refl _ _).alloc (Nat.le_refl _) _
              have HO1 := Lib.hid (show (U1).ownsRow W.heap.size 30 6 (.slice (some ⟨(V).heap.size, 0, none⟩) 0 0) 0 [] by rw [hU]; exact World.ownsRow_lit (base := W.heap.size) V #[] 0 HBV.out.size (Nat.zero_le _) (by simp))
              have HBU1 := Lib.hid (HBV.out.trans (hbu.mono HBV.out.size))
              clear hU c0 c1 c2 c3 c4 c5
              have HBX := HBU1
              have HXX := Lib.hid ((HBX.out.block _ (lt20 HXW.out)).trans HXW.out)
              have c0 := cell20 (k := 0) HXX.out
              have c1 := cell20 (k := 1) HXX.out
              have c2 := cell20 (k := 2) HXX.out
              have c3 := cell20 (k := 3) HXX.out
              have c4 := cell20 (k := 4) HXX.out
              have c5 := cell20 (k := 5) HXX.out
              simp only [List.getElem?_toArray, List.getElem?_cons_succ, List.getElem?_cons_zero] at c0 c1 c2 c3 c4 c5
              refine ⟨⟨c0, c1, c2, c3, c4, c5⟩, ?_⟩
              refine Hld.of (wpAnyH_all (rs := [4, 6]) (by kernel_rfl) (by simp) fun jj hjj => ?_)
              simp only [List.mem_cons, List.not_mem_nil, or_false] at hjj
              rcases hjj with rfl | rfl
              · refine hld_opr 4 rfl rfl (fun K hK => ?_)
                go_wp2_with (at_builtin; go_must (refine wpList_appn Tryz.appEnts rfl _ _ rfl W.heap.size _ 0 [] rfl HO1.out _ (0) (entsC (ys.take (0))) rfl (HP.out.below (by omega) HBU1.out) (entsC_oneC HDT.out) (by omega) HBU1.out.size ?_); intro v1 U2 hown1 hg1)
                have HBU2 := Lib.hid (below_grown HBU1.out HO1.out hg1 (Nat.le_refl _) HBU1.out.size)
                have HO2 := Lib.hid (show (U2).ownsRow W.heap.size 30 6 v1 (0) (entsC (ys.take (0))) by rw [Nat.zero_add, List.nil_append] at hown1; exact hown1)
                have HG1 := Lib.hid hg1
                obtain ⟨g1, k1, rfl, -, -⟩ := owns_shape HO2.out
                clear hown1 hg1 c0 c1 c2 c3 c4 c5
                have HBX := HBU2
                have HXX := Lib.hid ((HBX.out.block _ (lt20 HXW.out)).trans HXW.out)
                have c0 := cell20 (k := 0) HXX.out
                have c1 := cell20 (k := 1) HXX.out
                have c2 := cell20 (k := 2) HXX.out
                have c3 := cell20 (k := 3) HXX.out
                have c4 := cell20 (k := 4) HXX.out
                have c5 := cell20 (k := 5) HXX.out
                simp only [List.getElem?_toArray, List.getElem?_cons_succ, List.getElem?_cons_zero] at c0 c1 c2 c3 c4 c5
                refine ⟨⟨c0, c1, c2, c3, c4, c5⟩, ?_⟩
                refine hld_bar 6 rfl (by kernel_rfl) rfl (fun K hK => ?_)
                go_wp2_with fail
                obtain ⟨U3, hU⟩ : ∃ u : World, u = (U2).alloc (.cells #[.string e.path, .int .i64 e.kind, .int .i64 e.mode, .int .i64 e.time, .slice a1 e.data.length cap1, .string e.link] 30) := ⟨_, rfl⟩
                rw [← hU]
                have hbu : Below (U2).heap.size U2 U3 := by rw [hU]; exact (Below.refl _ _).alloc (Nat.le_refl _) _
                have HZ3 := Lib.hid (show (U3).heap[(U2).heap.size]? = some (.cells #[.string e.path, .int .i64 e.kind, .int .i64 e.mode, .int .i64 e.time, .slice a1 e.data.length cap1, .string e.link] 30 (0, 0)) by rw [hU]; exact new20 _ _)
                have HBU3 := Lib.hid (HBU2.out.trans (hbu.mono HBU2.out.size))
                clear hU c0 c1 c2 c3 c4 c5
                have HBX := HBU3
                have HXX := Lib.hid ((HBX.out.block _ (lt20 HXW.out)).trans HXW.out)
                have c0 := cell20 (k := 0) HXX.out
                have c1 := cell20 (k := 1) HXX.out
                have c2 := cell20 (k := 2) HXX.out
                have c3 := cell20 (k := 3) HXX.out
                have c4 := cell20 (k := 4) HXX.out
                have c5 := cell20 (k := 5) HXX.out
                simp only [List.getElem?_toArray, List.getElem?_cons_succ, List.getElem?_cons_zero] at c0 c1 c2 c3 c4 c5
                refine ⟨⟨c0, c1, c2, c3, c4, c5⟩, ?_⟩
                have HO3 := Lib.hid (own_below HO2.out hbu)
                clear hbu
                refine hld_bar 7 rfl (by kernel_rfl) rfl (fun K hK => ?_)
                go_wp2_with (at_builtin; go_must (refine wpList_appn Tryz.appEnts rfl _ _ rfl W.heap.size _ (0) (entsC (ys.take (0))) rfl HO3.out _ 1 (entC (.slice a1 e.data.length cap1) e) rfl (row_one HZ3.out) entC_one (by omega) HBU3.out.size ?_); intro v2 U8 hown2 hg2)
                have HBU8 := Lib.hid (below_grown HBU3.out HO3.out hg2 (Nat.le_refl _) HBU3.out.size)
                have HO8 := Lib.hid hown2
                obtain ⟨g2, k2, rfl, -, -⟩ := owns_shape HO8.out
                clear hown2 hg2 c0 c1 c2 c3 c4 c5
                have HBX := HBU8
                have HXX := Lib.hid ((HBX.out.block _ (lt20 HXW.out)).trans HXW.out)
                have c0 := cell20 (k := 0) HXX.out
                have c1 := cell20 (k := 1) HXX.out
                have c2 := cell20 (k := 2) HXX.out
                have c3 := cell20 (k := 3) HXX.out
                have c4 := cell20 (k := 4) HXX.out
                have c5 := cell20 (k := 5) HXX.out
                simp only [List.getElem?_toArray, List.getElem?_cons_succ, List.getElem?_cons_zero] at c0 c1 c2 c3 c4 c5
                refine ⟨⟨c0, c1, c2, c3, c4, c5⟩, ?_⟩
                refine hld_bar 11 rfl (by kernel_rfl) rfl (fun K hK => ?_)
                go_wp2_with (at_builtin; go_must (refine wpList_appn Tryz.appEnts rfl _ _ rfl W.heap.size _ (0 + 1) (entsC (ys.take (0)) ++ entC (.slice a1 e.data.length cap1) e) rfl HO8.out _ (0 - 0) (entsC (ys.drop (0))) rfl (HQ.out.below (by omega) HBU8.out) (entsC_oneC HDD.out) (by omega) HBU8.out.size ?_); intro v3 U9 hown3 hg3)
                have HBU9 := Lib.hid (below_grown HBU8.out HO8.out hg3 (Nat.le_refl _) HBU8.out.size)
                have HO9 := Lib.hid hown3
                clear hown3 hg3 c0 c1 c2 c3 c4 c5
                have HBX := HBU9
                have HXX := Lib.hid ((HBX.out.block _ (lt20 HXW.out)).trans HXW.out)
                have c0 := cell20 (k := 0) HXX.out
                have c1 := cell20 (k := 1) HXX.out
                have c2 := cell20 (k := 2) HXX.out
                have c3 := cell20 (k := 3) HXX.out
                have c4 := cell20 (k := 4) HXX.out
                have c5 := cell20 (k := 5) HXX.out
                simp only [List.getElem?_toArray, List.getElem?_cons_succ, List.getElem?_cons_zero] at c0 c1 c2 c3 c4 c5
                refine ⟨⟨c0, c1, c2, c3, c4, c5⟩, ?_⟩
                refine hld_take 12 rfl (by kernel_rfl) (by kernel_rfl) (by kernel_rfl) (fun _ _ _ h => h) rfl (by go_simp) (by intro w' hw'; go_simp; rfl) ?_
                simp only [Act.put, List.setIfInBounds_toArray, List.set_cons_succ, List.set_cons_zero]
                refine hld_done (by kernel_rfl) ?_
                go_wp2_with fail
                go_roundw
                case rel =>
                  refine ⟨k + 1, by omega, by go_num, ?_⟩
                  rw [preS_step HX.out, ← HM.out]
                  have hb9 := HWL.out.trans (HBU9.out.mono HWL.out.size)
                  have h1 := ins_end (S := fun k => S k ∨ w.heap.size ≤ k) (B0 := w.heap.size) (y := (.slice a1 e.data.length cap1, e)) hb9 HDY.out ⟨HDE.out, HOK.out⟩ (by rw [← HML.out]; exact hjm) (by rw [← HML.out]; first | exact HO9.out | (rw [HMN.out]; exact HO9.out)) (Nat.le_trans HBR.out.size HWL.out.size) (fun _ h => h) (fun _ h => .inr h)
                  rw [HYM.out, ← insE_at (show insAt M e M.length = 0 by rw [← HM0.out]; exact HJ.out)] at h1
                  refine ⟨h1, below_next HBR.out hb9, ?_⟩
                  rcases HO9.out.2 with ⟨hv, h0⟩ | ⟨g, cp, cur, hv, -⟩
                  · omega
                  · refine .inr ⟨g, 0, cp, ?_⟩
                    obtain ⟨_, _, he, _⟩ := SeqAt.shape h1 EntR.len
                    rw [hv] at he ⊢
                    simp only [Value.slice.injEq] at he
                    rw [he.2.1]
                case measure => simp [intOf]; omega
              · refine hld_opr 6 rfl rfl (fun K hK => ?_)
                go_wp2_with fail
                obtain ⟨U2, hU⟩ : ∃ u : World, u = (U1).alloc (.cells #[.string e.path, .int .i64 e.kind, .int .i64 e.mode, .int .i64 e.time, .slice a1 e.data.length cap1, .string e.link] 30) := ⟨_, rfl⟩
                rw [← hU]
                have hbu : Below (U1).heap.size U1 U2 := by rw [hU]; exact (Below.refl _ _).alloc (Nat.le_refl _) _
                have HZ2 := Lib.hid (show (U2).heap[(U1).heap.size]? = some (.cells #[.string e.path, .int .i64 e.kind, .int .i64 e.mode, .int .i64 e.time, .slice a1 e.data.length cap1, .string e.link] 30 (0, 0)) by rw [hU]; exact new20 _ _)
                have HBU2 := Lib.hid (HBU1.out.trans (hbu.mono HBU1.out.size))
                clear hU c0 c1 c2 c3 c4 c5
                have HBX := HBU2
                have HXX := Lib.hid ((HBX.out.block _ (lt20 HXW.out)).trans HXW.out)
                have c0 := cell20 (k := 0) HXX.out
                have c1 := cell20 (k := 1) HXX.out
                have c2 := cell20 (k := 2) HXX.out
                have c3 := cell20 (k := 3) HXX.out
                have c4 := cell20 (k := 4) HXX.out
                have c5 := cell20 (k := 5) HXX.out
                simp only [List.getElem?_toArray, List.getElem?_cons_succ, List.getElem?_cons_zero] at c0 c1 c2 c3 c4 c5
                refine ⟨⟨c0, c1, c2, c3, c4, c5⟩, ?_⟩
                have HO2 := Lib.hid (own_below HO1.out hbu)
                have HLT := Lib.hid (show V.heap.size < U1.heap.size from ((own_lt HO1.out rfl).2))
                clear hbu
                refine hld_bar 4 rfl (by kernel_rfl) rfl (fun K hK => ?_)
                go_wp2_with (at_builtin; go_must (refine wpList_appn Tryz.appEnts rfl _ _ rfl W.heap.size _ 0 [] rfl HO2.out _ (0) (entsC (ys.take (0))) rfl (HP.out.below (by omega) HBU2.out) (entsC_oneC HDT.out) (by omega) HBU2.out.size ?_); intro v1 U3 hown1 hg1)
                have HBU3 := Lib.hid (below_grown HBU2.out HO2.out hg1 (Nat.le_refl _) HBU2.out.size)
                have HO3 := Lib.hid (show (U3).ownsRow W.heap.size 30 6 v1 (0) (entsC (ys.take (0))) by rw [Nat.zero_add, List.nil_append] at hown1; exact hown1)
                have HG1 := Lib.hid hg1
                obtain ⟨g1, k1, rfl, -, -⟩ := owns_shape HO3.out
                clear hown1 hg1 c0 c1 c2 c3 c4 c5
                have HBX := HBU3
                have HXX := Lib.hid ((HBX.out.block _ (lt20 HXW.out)).trans HXW.out)
                have c0 := cell20 (k := 0) HXX.out
                have c1 := cell20 (k := 1) HXX.out
                have c2 := cell20 (k := 2) HXX.out
                have c3 := cell20 (k := 3) HXX.out
                have c4 := cell20 (k := 4) HXX.out
                have c5 := cell20 (k := 5) HXX.out
                simp only [List.getElem?_toArray, List.getElem?_cons_succ, List.getElem?_cons_zero] at c0 c1 c2 c3 c4 c5
                refine ⟨⟨c0, c1, c2, c3, c4, c5⟩, ?_⟩
                have HZ3 := Lib.hid ((HG1.out.block _ (lt20 HZ2.out) (fun e' => by have h1 : U1.heap.size = V.heap.size := Option.some.inj e'; have h2 := HLT.out; omega)).trans HZ2.out)
                refine hld_bar 7 rfl (by kernel_rfl) rfl (fun K hK => ?_)
                go_wp2_with (at_builtin; go_must (refine wpList_appn Tryz.appEnts rfl _ _ rfl W.heap.size _ (0) (entsC (ys.take (0))) rfl HO3.out _ 1 (entC (.slice a1 e.data.length cap1) e) rfl (row_one HZ3.out) entC_one (by omega) HBU3.out.size ?_); intro v2 U8 hown2 hg2)
                have HBU8 := Lib.hid (below_grown HBU3.out HO3.out hg2 (Nat.le_refl _) HBU3.out.size)
                have HO8 := Lib.hid hown2
                obtain ⟨g2, k2, rfl, -, -⟩ := owns_shape HO8.out
                clear hown2 hg2 c0 c1 c2 c3 c4 c5
                have HBX := HBU8
                have HXX := Lib.hid ((HBX.out.block _ (lt20 HXW.out)).trans HXW.out)
                have c0 := cell20 (k := 0) HXX.out
                have c1 := cell20 (k := 1) HXX.out
                have c2 := cell20 (k := 2) HXX.out
                have c3 := cell20 (k := 3) HXX.out
                have c4 := cell20 (k := 4) HXX.out
                have c5 := cell20 (k := 5) HXX.out
                simp only [List.getElem?_toArray, List.getElem?_cons_succ, List.getElem?_cons_zero] at c0 c1 c2 c3 c4 c5
                refine ⟨⟨c0, c1, c2, c3, c4, c5⟩, ?_⟩
                refine hld_bar 11 rfl (by kernel_rfl) rfl (fun K hK => ?_)
                go_wp2_with (at_builtin; go_must (refine wpList_appn Tryz.appEnts rfl _ _ rfl W.heap.size _ (0 + 1) (entsC (ys.take (0)) ++ entC (.slice a1 e.data.length cap1) e) rfl HO8.out _ (0 - 0) (entsC (ys.drop (0))) rfl (HQ.out.below (by omega) HBU8.out) (entsC_oneC HDD.out) (by omega) HBU8.out.size ?_); intro v3 U9 hown3 hg3)
                have HBU9 := Lib.hid (below_grown HBU8.out HO8.out hg3 (Nat.le_refl _) HBU8.out.size)
                have HO9 := Lib.hid hown3
                clear hown3 hg3 c0 c1 c2 c3 c4 c5
                have HBX := HBU9
                have HXX := Lib.hid ((HBX.out.block _ (lt20 HXW.out)).trans HXW.out)
                have c0 := cell20 (k := 0) HXX.out
                have c1 := cell20 (k := 1) HXX.out
                have c2 := cell20 (k := 2) HXX.out
                have c3 := cell20 (k := 3) HXX.out
                have c4 := cell20 (k := 4) HXX.out
                have c5 := cell20 (k := 5) HXX.out
                simp only [List.getElem?_toArray, List.getElem?_cons_succ, List.getElem?_cons_zero] at c0 c1 c2 c3 c4 c5
                refine ⟨⟨c0, c1, c2, c3, c4, c5⟩, ?_⟩
                refine hld_take 12 rfl (by kernel_rfl) (by kernel_rfl) (by kernel_rfl) (fun _ _ _ h => h) rfl (by go_simp) (by intro w' hw'; go_simp; rfl) ?_
                simp only [Act.put, List.setIfInBounds_toArray, List.set_cons_succ, List.set_cons_zero]
                refine hld_done (by kernel_rfl) ?_
                go_wp2_with fail
                go_roundw
                case rel =>
                  refine ⟨k + 1, by omega, by go_num, ?_⟩
                  rw [preS_step HX.out, ← HM.out]
                  have hb9 := HWL.out.trans (HBU9.out.mono HWL.out.size)
                  have h1 := ins_end (S := fun k => S k ∨ w.heap.size ≤ k) (B0 := w.heap.size) (y := (.slice a1 e.data.length cap1, e)) hb9 HDY.out ⟨HDE.out, HOK.out⟩ (by rw [← HML.out]; exact hjm) (by rw [← HML.out]; first | exact HO9.out | (rw [HMN.out]; exact HO9.out)) (Nat.le_trans HBR.out.size HWL.out.size) (fun _ h => h) (fun _ h => .inr h)
                  rw [HYM.out, ← insE_at (show insAt M e M.length = 0 by rw [← HM0.out]; exact HJ.out)] at h1
                  refine ⟨h1, below_next HBR.out hb9, ?_⟩
                  rcases HO9.out.2 with ⟨hv, h0⟩ | ⟨g, cp, cur, hv, -⟩
                  · omega
                  · refine .inr ⟨g, 0, cp, ?_⟩
                    obtain ⟨_, _, he, _⟩ := SeqAt.shape h1 EntR.len
                    rw [hv] at he ⊢
                    simp only [Value.slice.injEq] at he
                    rw [he.2.1]
                case measure => simp [intOf]; omega
            · refine hld_opr 6 rfl rfl (fun K hK => ?_)
              go_wp2_with fail
              obtain ⟨U1, hU⟩ : ∃ u : World, u = (V).alloc (.cells #[.string e.path, .int .i64 e.kind, .int .i64 e.mode, .int .i64 e.time, .slice a1 e.data.length cap1, .string e.link] 30) := ⟨_, rfl⟩
              rw [← hU]
              have hbu : Below (V).heap.size V U1 := by rw [hU]; exact (Below.refl _ _).alloc (Nat.le_refl _) _
              have HZ1 := Lib.hid (show (U1).heap[(V).heap.size]? = some (.cells #[.string e.path, .int .i64 e.kind, .int .i64 e.mode, .int .i64 e.time, .slice a1 e.data.length cap1, .string e.link] 30 (0, 0)) by rw [hU]; exact new20 _ _)
              have HBU1 := Lib.hid (HBV.out.trans (hbu.mono HBV.out.size))
              clear hU c0 c1 c2 c3 c4 c5
              have HBX := HBU1
              have HXX := Lib.hid ((HBX.out.block _ (lt20 HXW.out)).trans HXW.out)
              have c0 := cell20 (k := 0) HXX.out
              have c1 := cell20 (k := 1) HXX.out
              have c2 := cell20 (k := 2) HXX.out
              have c3 := cell20 (k := 3) HXX.out
              have c4 := cell20 (k := 4) HXX.out
              have c5 := cell20 (k := 5) HXX.out
              simp only [List.getElem?_toArray, List.getElem?_cons_succ, List.getElem?_cons_zero] at c0 c1 c2 c3 c4 c5
              refine ⟨⟨c0, c1, c2, c3, c4, c5⟩, ?_⟩
              clear hbu
              refine hld_bar 0 rfl (by kernel_rfl) rfl (fun K hK => ?_)
              go_wp2_with fail
              obtain ⟨U2, hU⟩ : ∃ u : World, u = (U1).alloc (.cells #[] 30) := ⟨_, rfl⟩
              rw [← hU]
              have hbu : Below (U1).heap.size U1 U2 := by rw [hU]; exact (Below.refl _ _).alloc (Nat.le_refl _) _
              have HO2 := Lib.hid (show (U2).ownsRow W.heap.size 30 6 (.slice (some ⟨(U1).heap.size, 0, none⟩) 0 0) 0 [] by rw [hU]; exact World.ownsRow_lit (base := W.heap.size) U1 #[] 0 HBU1.out.size (Nat.zero_le _) (by simp))
              have HBU2 := Lib.hid (HBU1.out.trans (hbu.mono HBU1.out.size))
              clear hU c0 c1 c2 c3 c4 c5
              have HBX := HBU2
              have HXX := Lib.hid ((HBX.out.block _ (lt20 HXW.out)).trans HXW.out)
              have c0 := cell20 (k := 0) HXX.out
              have c1 := cell20 (k := 1) HXX.out
              have c2 := cell20 (k := 2) HXX.out
              have c3 := cell20 (k := 3) HXX.out
              have c4 := cell20 (k := 4) HXX.out
              have c5 := cell20 (k := 5) HXX.out
              simp only [List.getElem?_toArray, List.getElem?_cons_succ, List.getElem?_cons_zero] at c0 c1 c2 c3 c4 c5
              refine ⟨⟨c0, c1, c2, c3, c4, c5⟩, ?_⟩
              have HZ2 := Lib.hid ((hbu.block _ (lt20 HZ1.out)).trans HZ1.out)
              have HLT := Lib.hid (show V.heap.size < U1.heap.size from lt20 HZ1.out)
              clear hbu
              refine hld_bar 4 rfl (by kernel_rfl) rfl (fun K hK => ?_)
              go_wp2_with (at_builtin; go_must (refine wpList_appn Tryz.appEnts rfl _ _ rfl W.heap.size _ 0 [] rfl HO2.out _ (0) (entsC (ys.take (0))) rfl (HP.out.below (by omega) HBU2.out) (entsC_oneC HDT.out) (by omega) HBU2.out.size ?_); intro v1 U3 hown1 hg1)
              have HBU3 := Lib.hid (below_grown HBU2.out HO2.out hg1 (Nat.le_refl _) HBU2.out.size)
              have HO3 := Lib.hid (show (U3).ownsRow W.heap.size 30 6 v1 (0) (entsC (ys.take (0))) by rw [Nat.zero_add, List.nil_append] at hown1; exact hown1)
              have HG1 := Lib.hid hg1
              obtain ⟨g1, k1, rfl, -, -⟩ := owns_shape HO3.out
              clear hown1 hg1 c0 c1 c2 c3 c4 c5
              have HBX := HBU3
              have HXX := Lib.hid ((HBX.out.block _ (lt20 HXW.out)).trans HXW.out)
              have c0 := cell20 (k := 0) HXX.out
              have c1 := cell20 (k := 1) HXX.out
              have c2 := cell20 (k := 2) HXX.out
              have c3 := cell20 (k := 3) HXX.out
              have c4 := cell20 (k := 4) HXX.out
              have c5 := cell20 (k := 5) HXX.out
              simp only [List.getElem?_toArray, List.getElem?_cons_succ, List.getElem?_cons_zero] at c0 c1 c2 c3 c4 c5
              refine ⟨⟨c0, c1, c2, c3, c4, c5⟩, ?_⟩
              have HZ3 := Lib.hid ((HG1.out.block _ (lt20 HZ2.out) (fun e' => by have h1 : V.heap.size = U1.heap.size := Option.some.inj e'; have h2 := HLT.out; omega)).trans HZ2.out)
              refine hld_bar 7 rfl (by kernel_rfl) rfl (fun K hK => ?_)
              go_wp2_with (at_builtin; go_must (refine wpList_appn Tryz.appEnts rfl _ _ rfl W.heap.size _ (0) (entsC (ys.take (0))) rfl HO3.out _ 1 (entC (.slice a1 e.data.length cap1) e) rfl (row_one HZ3.out) entC_one (by omega) HBU3.out.size ?_); intro v2 U8 hown2 hg2)
              have HBU8 := Lib.hid (below_grown HBU3.out HO3.out hg2 (Nat.le_refl _) HBU3.out.size)
              have HO8 := Lib.hid hown2
              obtain ⟨g2, k2, rfl, -, -⟩ := owns_shape HO8.out
              clear hown2 hg2 c0 c1 c2 c3 c4 c5
              have HBX := HBU8
              have HXX := Lib.hid ((HBX.out.block _ (lt20 HXW.out)).trans HXW.out)
              have c0 := cell20 (k := 0) HXX.out
              have c1 := cell20 (k := 1) HXX.out
              have c2 := cell20 (k := 2) HXX.out
              have c3 := cell20 (k := 3) HXX.out
              have c4 := cell20 (k := 4) HXX.out
              have c5 := cell20 (k := 5) HXX.out
              simp only [List.getElem?_toArray, List.getElem?_cons_succ, List.getElem?_cons_zero] at c0 c1 c2 c3 c4 c5
              refine ⟨⟨c0, c1, c2, c3, c4, c5⟩, ?_⟩
              refine hld_bar 11 rfl (by kernel_rfl) rfl (fun K hK => ?_)
              go_wp2_with (at_builtin; go_must (refine wpList_appn Tryz.appEnts rfl _ _ rfl W.heap.size _ (0 + 1) (entsC (ys.take (0)) ++ entC (.slice a1 e.data.length cap1) e) rfl HO8.out _ (0 - 0) (entsC (ys.drop (0))) rfl (HQ.out.below (by omega) HBU8.out) (entsC_oneC HDD.out) (by omega) HBU8.out.size ?_); intro v3 U9 hown3 hg3)
              have HBU9 := Lib.hid (below_grown HBU8.out HO8.out hg3 (Nat.le_refl _) HBU8.out.size)
              have HO9 := Lib.hid hown3
              clear hown3 hg3 c0 c1 c2 c3 c4 c5
              have HBX := HBU9
              have HXX := Lib.hid ((HBX.out.block _ (lt20 HXW.out)).trans HXW.out)
              have c0 := cell20 (k := 0) HXX.out
              have c1 := cell20 (k := 1) HXX.out
              have c2 := cell20 (k := 2) HXX.out
              have c3 := cell20 (k := 3) HXX.out
              have c4 := cell20 (k := 4) HXX.out
              have c5 := cell20 (k := 5) HXX.out
              simp only [List.getElem?_toArray, List.getElem?_cons_succ, List.getElem?_cons_zero] at c0 c1 c2 c3 c4 c5
              refine ⟨⟨c0, c1, c2, c3, c4, c5⟩, ?_⟩
              refine hld_take 12 rfl (by kernel_rfl) (by kernel_rfl) (by kernel_rfl) (fun _ _ _ h => h) rfl (by go_simp) (by intro w' hw'; go_simp; rfl) ?_
              simp only [Act.put, List.setIfInBounds_toArray, List.set_cons_succ, List.set_cons_zero]
              refine hld_done (by kernel_rfl) ?_
              go_wp2_with fail
              go_roundw
              case rel =>
                refine ⟨k + 1, by omega, by go_num, ?_⟩
                rw [preS_step HX.out, ← HM.out]
                have hb9 := HWL.out.trans (HBU9.out.mono HWL.out.size)
                have h1 := ins_end (S := fun k => S k ∨ w.heap.size ≤ k) (B0 := w.heap.size) (y := (.slice a1 e.data.length cap1, e)) hb9 HDY.out ⟨HDE.out, HOK.out⟩ (by rw [← HML.out]; exact hjm) (by rw [← HML.out]; first | exact HO9.out | (rw [HMN.out]; exact HO9.out)) (Nat.le_trans HBR.out.size HWL.out.size) (fun _ h => h) (fun _ h => .inr h)
                rw [HYM.out, ← insE_at (show insAt M e M.length = 0 by rw [← HM0.out]; exact HJ.out)] at h1
                refine ⟨h1, below_next HBR.out hb9, ?_⟩
                rcases HO9.out.2 with ⟨hv, h0⟩ | ⟨g, cp, cur, hv, -⟩
                · omega
                · refine .inr ⟨g, 0, cp, ?_⟩
                  obtain ⟨_, _, he, _⟩ := SeqAt.shape h1 EntR.len
                  rw [hv] at he ⊢
                  simp only [Value.slice.injEq] at he
                  rw [he.2.1]
              case measure => simp [intOf]; omega
          · subst hva
            have HP := Lib.hid (show RowAt (fun k => S k ∨ w.heap.size ≤ k) W 6 _ (j) (entsC (ys.take (j))) from by
              rw [entsC_take]; exact (row_take hrw hjm).below (by omega) HWL.out)
            have HDT := Lib.hid (show ∀ y ∈ ys.take (j), DataAt (fun k => S k ∨ w.heap.size ≤ k) wo y.1 y.2.data ∧ EntOk y.2 from fun y hy => HDY.out y (List.mem_of_mem_take hy))
            have HDD := Lib.hid (show ∀ y ∈ ys.drop (j), DataAt (fun k => S k ∨ w.heap.size ≤ k) wo y.1 y.2.data ∧ EntOk y.2 from fun y hy => HDY.out y (List.mem_of_mem_drop hy))
            by_cases hjc : j = cv
            · subst hjc
              have HQ := Lib.hid (show RowAt (fun k => S k ∨ w.heap.size ≤ k) W 6 (.slice (some ⟨b1, o1, none⟩) 0 0) 0 (entsC (ys.drop j)) from by
                rw [List.drop_eq_nil_of_le (by rw [← HML.out]; omega)]
                exact row_none (by unfold maxLen; omega))
              have HMN := Lib.hid (show m - j = 0 by omega)
              clear hrw
              refine hld_take 1 rfl (by kernel_rfl) (by kernel_rfl) (by kernel_rfl) (fun _ _ _ h => h) rfl (by go_simp) (by intro w' hw'; go_simp; rfl) ?_
              simp only [Act.put, List.setIfInBounds_toArray, List.set_cons_succ, List.set_cons_zero]
              refine hld_take 2 rfl (by kernel_rfl) (by kernel_rfl) (by kernel_rfl) (fun _ _ _ h => h) rfl (by go_simp) (by intro w' hw'; go_simp; rfl) ?_
              simp only [Act.put, List.setIfInBounds_toArray, List.set_cons_succ, List.set_cons_zero]
              refine hld_take 3 rfl (by kernel_rfl) (by kernel_rfl) (by kernel_rfl) (fun _ _ _ h => h) rfl (by go_simp) (by intro w' hw'; go_simp; rfl) ?_
              simp only [Act.put, List.setIfInBounds_toArray, List.set_cons_succ, List.set_cons_zero]
              refine hld_take 5 rfl (by kernel_rfl) (by kernel_rfl) (by kernel_rfl) (fun _ _ _ h => h) rfl ⟨c0, c1, c2, c3, c4, c5⟩ (by rintro w' ⟨h0, h1, h2, h3, h4, h5⟩; go_simp; rfl) ?_
              simp only [Act.put, List.setIfInBounds_toArray, List.set_cons_succ, List.set_cons_zero]
              refine hld_take 8 rfl (by kernel_rfl) (by kernel_rfl) (by kernel_rfl) (fun _ _ _ h => h) rfl (by go_simp) (by intro w' hw'; go_simp; rfl) ?_
              simp only [Act.put, List.setIfInBounds_toArray, List.set_cons_succ, List.set_cons_zero]
              refine hld_take 9 rfl (by kernel_rfl) (by kernel_rfl) (by kernel_rfl) (fun _ _ _ h => h) rfl (by go_simp) (by intro w' hw'; go_simp; rfl) ?_
              simp only [Act.put, List.setIfInBounds_toArray, List.set_cons_succ, List.set_cons_zero]
              refine hld_take 10 rfl (by kernel_rfl) (by kernel_rfl) (by kernel_rfl) (fun _ _ _ h => h) rfl (by go_simp) (by intro w' hw'; go_simp; rfl) ?_
              simp only [Act.put, List.setIfInBounds_toArray, List.set_cons_succ, List.set_cons_zero]
              refine Hld.of (wpAnyH_all (rs := [0, 6]) (by kernel_rfl) (by simp) fun jj hjj => ?_)
              simp only [List.mem_cons, List.not_mem_nil, or_false] at hjj
              rcases hjj with rfl | rfl
              · refine hld_opr 0 rfl rfl (fun K hK => ?_)
                go_wp2_with fail
                obtain ⟨U1, hU⟩ : ∃ u : World, u = (V).alloc (.cells #[] 30) := ⟨_, rfl⟩
                rw [← hU]
                have hbu : Below (V).heap.size V U1 := by rw [hU]; exact (Below.refl _ _).alloc (Nat.le_refl _) _
                have HO1 := Lib.hid (show (U1).ownsRow W.heap.size 30 6 (.slice (some ⟨(V).heap.size, 0, none⟩) 0 0) 0 [] by rw [hU]; exact World.ownsRow_lit (base := W.heap.size) V #[] 0 HBV.out.size (Nat.zero_le _) (by simp))
                have HBU1 := Lib.hid (HBV.out.trans (hbu.mono HBV.out.size))
                clear hU c0 c1 c2 c3 c4 c5
                have HBX := HBU1
                have HXX := Lib.hid ((HBX.out.block _ (lt20 HXW.out)).trans HXW.out)
                have c0 := cell20 (k := 0) HXX.out
                have c1 := cell20 (k := 1) HXX.out
                have c2 := cell20 (k := 2) HXX.out
                have c3 := cell20 (k := 3) HXX.out
                have c4 := cell20 (k := 4) HXX.out
                have c5 := cell20 (k := 5) HXX.out
                simp only [List.getElem?_toArray, List.getElem?_cons_succ, List.getElem?_cons_zero] at c0 c1 c2 c3 c4 c5
                refine ⟨⟨c0, c1, c2, c3, c4, c5⟩, ?_⟩
                refine Hld.of (wpAnyH_all (rs := [4, 6]) (by kernel_rfl) (by simp) fun jj hjj => ?_)
                simp only [List.mem_cons, List.not_mem_nil, or_false] at hjj
                rcases hjj with rfl | rfl
                · refine hld_opr 4 rfl rfl (fun K hK => ?_)
                  go_wp2_with (at_builtin; go_must (refine wpList_appn Tryz.appEnts rfl _ _ rfl W.heap.size _ 0 [] rfl HO1.out _ (j) (entsC (ys.take (j))) rfl (HP.out.below (by omega) HBU1.out) (entsC_oneC HDT.out) (by omega) HBU1.out.size ?_); intro v1 U2 hown1 hg1)
                  have HBU2 := Lib.hid (below_grown HBU1.out HO1.out hg1 (Nat.le_refl _) HBU1.out.size)
                  have HO2 := Lib.hid (show (U2).ownsRow W.heap.size 30 6 v1 (j) (entsC (ys.take (j))) by rw [Nat.zero_add, List.nil_append] at hown1; exact hown1)
                  have HG1 := Lib.hid hg1
                  obtain ⟨g1, k1, rfl, -, -⟩ := owns_shape HO2.out
                  clear hown1 hg1 c0 c1 c2 c3 c4 c5
                  have HBX := HBU2
                  have HXX := Lib.hid ((HBX.out.block _ (lt20 HXW.out)).trans HXW.out)
                  have c0 := cell20 (k := 0) HXX.out
                  have c1 := cell20 (k := 1) HXX.out
                  have c2 := cell20 (k := 2) HXX.out
                  have c3 := cell20 (k := 3) HXX.out
                  have c4 := cell20 (k := 4) HXX.out
                  have c5 := cell20 (k := 5) HXX.out
                  simp only [List.getElem?_toArray, List.getElem?_cons_succ, List.getElem?_cons_zero] at c0 c1 c2 c3 c4 c5
                  refine ⟨⟨c0, c1, c2, c3, c4, c5⟩, ?_⟩
                  refine hld_bar 6 rfl (by kernel_rfl) rfl (fun K hK => ?_)
                  go_wp2_with fail
                  obtain ⟨U3, hU⟩ : ∃ u : World, u = (U2).alloc (.cells #[.string e.path, .int .i64 e.kind, .int .i64 e.mode, .int .i64 e.time, .slice a1 e.data.length cap1, .string e.link] 30) := ⟨_, rfl⟩
                  rw [← hU]
                  have hbu : Below (U2).heap.size U2 U3 := by rw [hU]; exact (Below.refl _ _).alloc (Nat.le_refl _) _
                  have HZ3 := Lib.hid (show (U3).heap[(U2).heap.size]? = some (.cells #[.string e.path, .int .i64 e.kind, .int .i64 e.mode, .int .i64 e.time, .slice a1 e.data.length cap1, .string e.link] 30 (0, 0)) by rw [hU]; exact new20 _ _)
                  have HBU3 := Lib.hid (HBU2.out.trans (hbu.mono HBU2.out.size))
                  clear hU c0 c1 c2 c3 c4 c5
                  have HBX := HBU3
                  have HXX := Lib.hid ((HBX.out.block _ (lt20 HXW.out)).trans HXW.out)
                  have c0 := cell20 (k := 0) HXX.out
                  have c1 := cell20 (k := 1) HXX.out
                  have c2 := cell20 (k := 2) HXX.out
                  have c3 := cell20 (k := 3) HXX.out
                  have c4 := cell20 (k := 4) HXX.out
                  have c5 := cell20 (k := 5) HXX.out
                  simp only [List.getElem?_toArray, List.getElem?_cons_succ, List.getElem?_cons_zero] at c0 c1 c2 c3 c4 c5
                  refine ⟨⟨c0, c1, c2, c3, c4, c5⟩, ?_⟩
                  have HO3 := Lib.hid (own_below HO2.out hbu)
                  clear hbu
                  refine hld_bar 7 rfl (by kernel_rfl) rfl (fun K hK => ?_)
                  go_wp2_with (at_builtin; go_must (refine wpList_appn Tryz.appEnts rfl _ _ rfl W.heap.size _ (j) (entsC (ys.take (j))) rfl HO3.out _ 1 (entC (.slice a1 e.data.length cap1) e) rfl (row_one HZ3.out) entC_one (by omega) HBU3.out.size ?_); intro v2 U8 hown2 hg2)
                  have HBU8 := Lib.hid (below_grown HBU3.out HO3.out hg2 (Nat.le_refl _) HBU3.out.size)
                  have HO8 := Lib.hid hown2
                  obtain ⟨g2, k2, rfl, -, -⟩ := owns_shape HO8.out
                  clear hown2 hg2 c0 c1 c2 c3 c4 c5
                  have HBX := HBU8
                  have HXX := Lib.hid ((HBX.out.block _ (lt20 HXW.out)).trans HXW.out)
                  have c0 := cell20 (k := 0) HXX.out
                  have c1 := cell20 (k := 1) HXX.out
                  have c2 := cell20 (k := 2) HXX.out
                  have c3 := cell20 (k := 3) HXX.out
                  have c4 := cell20 (k := 4) HXX.out
                  have c5 := cell20 (k := 5) HXX.out
                  simp only [List.getElem?_toArray, List.getElem?_cons_succ, List.getElem?_cons_zero] at c0 c1 c2 c3 c4 c5
                  refine ⟨⟨c0, c1, c2, c3, c4, c5⟩, ?_⟩
                  refine hld_bar 11 rfl (by kernel_rfl) rfl (fun K hK => ?_)
                  go_wp2_with (at_builtin; go_must (refine wpList_appn Tryz.appEnts rfl _ _ rfl W.heap.size _ (j + 1) (entsC (ys.take (j)) ++ entC (.slice a1 e.data.length cap1) e) rfl HO8.out _ (0) (entsC (ys.drop (j))) rfl (HQ.out.below (by omega) HBU8.out) (entsC_oneC HDD.out) (by omega) HBU8.out.size ?_); intro v3 U9 hown3 hg3)
                  have HBU9 := Lib.hid (below_grown HBU8.out HO8.out hg3 (Nat.le_refl _) HBU8.out.size)
                  have HO9 := Lib.hid hown3
                  clear hown3 hg3 c0 c1 c2 c3 c4 c5
                  have HBX := HBU9
                  have HXX := Lib.hid ((HBX.out.block _ (lt20 HXW.out)).trans HXW.out)
                  have c0 := cell20 (k := 0) HXX.out
                  have c1 := cell20 (k := 1) HXX.out
                  have c2 := cell20 (k := 2) HXX.out
                  have c3 := cell20 (k := 3) HXX.out
                  have c4 := cell20 (k := 4) HXX.out
                  have c5 := cell20 (k := 5) HXX.out
                  simp only [List.getElem?_toArray, List.getElem?_cons_succ, List.getElem?_cons_zero] at c0 c1 c2 c3 c4 c5
                  refine ⟨⟨c0, c1, c2, c3, c4, c5⟩, ?_⟩
                  refine hld_take 12 rfl (by kernel_rfl) (by kernel_rfl) (by kernel_rfl) (fun _ _ _ h => h) rfl (by go_simp) (by intro w' hw'; go_simp; rfl) ?_
                  simp only [Act.put, List.setIfInBounds_toArray, List.set_cons_succ, List.set_cons_zero]
                  refine hld_done (by kernel_rfl) ?_
                  go_wp2_with fail
                  go_roundw
                  case rel =>
                    refine ⟨k + 1, by omega, by go_num, ?_⟩
                    rw [preS_step HX.out, ← HM.out]
                    have hb9 := HWL.out.trans (HBU9.out.mono HWL.out.size)
                    have h1 := ins_end (S := fun k => S k ∨ w.heap.size ≤ k) (B0 := w.heap.size) (y := (.slice a1 e.data.length cap1, e)) hb9 HDY.out ⟨HDE.out, HOK.out⟩ (by rw [← HML.out]; exact hjm) (by rw [← HML.out]; first | exact HO9.out | (rw [HMN.out]; exact HO9.out)) (Nat.le_trans HBR.out.size HWL.out.size) (fun _ h => h) (fun _ h => .inr h)
                    rw [HYM.out, ← insE_at (show insAt M e M.length = j by rw [← HM0.out]; exact HJ.out)] at h1
                    refine ⟨h1, below_next HBR.out hb9, ?_⟩
                    rcases HO9.out.2 with ⟨hv, h0⟩ | ⟨g, cp, cur, hv, -⟩
                    · omega
                    · refine .inr ⟨g, 0, cp, ?_⟩
                      obtain ⟨_, _, he, _⟩ := SeqAt.shape h1 EntR.len
                      rw [hv] at he ⊢
                      simp only [Value.slice.injEq] at he
                      rw [he.2.1]
                  case measure => simp [intOf]; omega
                · refine hld_opr 6 rfl rfl (fun K hK => ?_)
                  go_wp2_with fail
                  obtain ⟨U2, hU⟩ : ∃ u : World, u = (U1).alloc (.cells #[.string e.path, .int .i64 e.kind, .int .i64 e.mode, .int .i64 e.time, .slice a1 e.data.length cap1, .string e.link] 30) := ⟨_, rfl⟩
                  rw [← hU]
                  have hbu : Below (U1).heap.size U1 U2 := by rw [hU]; exact (Below.refl _ _).alloc (Nat.le_refl _) _
                  have HZ2 := Lib.hid (show (U2).heap[(U1).heap.size]? = some (.cells #[.string e.path, .int .i64 e.kind, .int .i64 e.mode, .int .i64 e.time, .slice a1 e.data.length cap1, .string e.link] 30 (0, 0)) by rw [hU]; exact new20 _ _)
                  have HBU2 := Lib.hid (HBU1.out.trans (hbu.mono HBU1.out.size))
                  clear hU c0 c1 c2 c3 c4 c5
                  have HBX := HBU2
                  have HXX := Lib.hid ((HBX.out.block _ (lt20 HXW.out)).trans HXW.out)
                  have c0 := cell20 (k := 0) HXX.out
                  have c1 := cell20 (k := 1) HXX.out
                  have c2 := cell20 (k := 2) HXX.out
                  have c3 := cell20 (k := 3) HXX.out
                  have c4 := cell20 (k := 4) HXX.out
                  have c5 := cell20 (k := 5) HXX.out
                  simp only [List.getElem?_toArray, List.getElem?_cons_succ, List.getElem?_cons_zero] at c0 c1 c2 c3 c4 c5
                  refine ⟨⟨c0, c1, c2, c3, c4, c5⟩, ?_⟩
                  have HO2 := Lib.hid (own_below HO1.out hbu)
                  have HLT := Lib.hid (show V.heap.size < U1.heap.size from ((own_lt HO1.out rfl).2))
                  clear hbu
                  refine hld_bar 4 rfl (by kernel_rfl) rfl (fun K hK => ?_)
                  go_wp2_with (at_builtin; go_must (refine wpList_appn Tryz.appEnts rfl _ _ rfl W.heap.size _ 0 [] rfl HO2.out _ (j) (entsC (ys.take (j))) rfl (HP.out.below (by omega) HBU2.out) (entsC_oneC HDT.out) (by omega) HBU2.out.size ?_); intro v1 U3 hown1 hg1)
                  have HBU3 := Lib.hid (below_grown HBU2.out HO2.out hg1 (Nat.le_refl _) HBU2.out.size)
                  have HO3 := Lib.hid (show (U3).ownsRow W.heap.size 30 6 v1 (j) (entsC (ys.take (j))) by rw [Nat.zero_add, List.nil_append] at hown1; exact hown1)
                  have HG1 := Lib.hid hg1
                  obtain ⟨g1, k1, rfl, -, -⟩ := owns_shape HO3.out
                  clear hown1 hg1 c0 c1 c2 c3 c4 c5
                  have HBX := HBU3
                  have HXX := Lib.hid ((HBX.out.block _ (lt20 HXW.out)).trans HXW.out)
                  have c0 := cell20 (k := 0) HXX.out
                  have c1 := cell20 (k := 1) HXX.out
                  have c2 := cell20 (k := 2) HXX.out
                  have c3 := cell20 (k := 3) HXX.out
                  have c4 := cell20 (k := 4) HXX.out
                  have c5 := cell20 (k := 5) HXX.out
                  simp only [List.getElem?_toArray, List.getElem?_cons_succ, List.getElem?_cons_zero] at c0 c1 c2 c3 c4 c5
                  refine ⟨⟨c0, c1, c2, c3, c4, c5⟩, ?_⟩
                  have HZ3 := Lib.hid ((HG1.out.block _ (lt20 HZ2.out) (fun e' => by have h1 : U1.heap.size = V.heap.size := Option.some.inj e'; have h2 := HLT.out; omega)).trans HZ2.out)
                  refine hld_bar 7 rfl (by kernel_rfl) rfl (fun K hK => ?_)
                  go_wp2_with (at_builtin; go_must (refine wpList_appn Tryz.appEnts rfl _ _ rfl W.heap.size _ (j) (entsC (ys.take (j))) rfl HO3.out _ 1 (entC (.slice a1 e.data.length cap1) e) rfl (row_one HZ3.out) entC_one (by omega) HBU3.out.size ?_); intro v2 U8 hown2 hg2)
                  have HBU8 := Lib.hid (below_grown HBU3.out HO3.out hg2 (Nat.le_refl _) HBU3.out.size)
                  have HO8 := Lib.hid hown2
                  obtain ⟨g2, k2, rfl, -, -⟩ := owns_shape HO8.out
                  clear hown2 hg2 c0 c1 c2 c3 c4 c5
                  have HBX := HBU8
                  have HXX := Lib.hid ((HBX.out.block _ (lt20 HXW.out)).trans HXW.out)
                  have c0 := cell20 (k := 0) HXX.out
                  have c1 := cell20 (k := 1) HXX.out
                  have c2 := cell20 (k := 2) HXX.out
                  have c3 := cell20 (k := 3) HXX.out
                  have c4 := cell20 (k := 4) HXX.out
                  have c5 := cell20 (k := 5) HXX.out
                  simp only [List.getElem?_toArray, List.getElem?_cons_succ, List.getElem?_cons_zero] at c0 c1 c2 c3 c4 c5
                  refine ⟨⟨c0, c1, c2, c3, c4, c5⟩, ?_⟩
                  refine hld_bar 11 rfl (by kernel_rfl) rfl (fun K hK => ?_)
                  go_wp2_with (at_builtin; go_must (refine wpList_appn Tryz.appEnts rfl _ _ rfl W.heap.size _ (j + 1) (entsC (ys.take (j)) ++ entC (.slice a1 e.data.length cap1) e) rfl HO8.out _ (0) (entsC (ys.drop (j))) rfl (HQ.out.below (by omega) HBU8.out) (entsC_oneC HDD.out) (by omega) HBU8.out.size ?_); intro v3 U9 hown3 hg3)
                  have HBU9 := Lib.hid (below_grown HBU8.out HO8.out hg3 (Nat.le_refl _) HBU8.out.size)
                  have HO9 := Lib.hid hown3
                  clear hown3 hg3 c0 c1 c2 c3 c4 c5
                  have HBX := HBU9
                  have HXX := Lib.hid ((HBX.out.block _ (lt20 HXW.out)).trans HXW.out)
                  have c0 := cell20 (k := 0) HXX.out
                  have c1 := cell20 (k := 1) HXX.out
                  have c2 := cell20 (k := 2) HXX.out
                  have c3 := cell20 (k := 3) HXX.out
                  have c4 := cell20 (k := 4) HXX.out
                  have c5 := cell20 (k := 5) HXX.out
                  simp only [List.getElem?_toArray, List.getElem?_cons_succ, List.getElem?_cons_zero] at c0 c1 c2 c3 c4 c5
                  refine ⟨⟨c0, c1, c2, c3, c4, c5⟩, ?_⟩
                  refine hld_take 12 rfl (by kernel_rfl) (by kernel_rfl) (by kernel_rfl) (fun _ _ _ h => h) rfl (by go_simp) (by intro w' hw'; go_simp; rfl) ?_
                  simp only [Act.put, List.setIfInBounds_toArray, List.set_cons_succ, List.set_cons_zero]
                  refine hld_done (by kernel_rfl) ?_
                  go_wp2_with fail
                  go_roundw
                  case rel =>
                    refine ⟨k + 1, by omega, by go_num, ?_⟩
                    rw [preS_step HX.out, ← HM.out]
                    have hb9 := HWL.out.trans (HBU9.out.mono HWL.out.size)
                    have h1 := ins_end (S := fun k => S k ∨ w.heap.size ≤ k) (B0 := w.heap.size) (y := (.slice a1 e.data.length cap1, e)) hb9 HDY.out ⟨HDE.out, HOK.out⟩ (by rw [← HML.out]; exact hjm) (by rw [← HML.out]; first | exact HO9.out | (rw [HMN.out]; exact HO9.out)) (Nat.le_trans HBR.out.size HWL.out.size) (fun _ h => h) (fun _ h => .inr h)
                    rw [HYM.out, ← insE_at (show insAt M e M.length = j by rw [← HM0.out]; exact HJ.out)] at h1
                    refine ⟨h1, below_next HBR.out hb9, ?_⟩
                    rcases HO9.out.2 with ⟨hv, h0⟩ | ⟨g, cp, cur, hv, -⟩
                    · omega
                    · refine .inr ⟨g, 0, cp, ?_⟩
                      obtain ⟨_, _, he, _⟩ := SeqAt.shape h1 EntR.len
                      rw [hv] at he ⊢
                      simp only [Value.slice.injEq] at he
                      rw [he.2.1]
                  case measure => simp [intOf]; omega
              · refine hld_opr 6 rfl rfl (fun K hK => ?_)
                go_wp2_with fail
                obtain ⟨U1, hU⟩ : ∃ u : World, u = (V).alloc (.cells #[.string e.path, .int .i64 e.kind, .int .i64 e.mode, .int .i64 e.time, .slice a1 e.data.length cap1, .string e.link] 30) := ⟨_, rfl⟩
                rw [← hU]
                have hbu : Below (V).heap.size V U1 := by rw [hU]; exact (Below.refl _ _).alloc (Nat.le_refl _) _
                have HZ1 := Lib.hid (show (U1).heap[(V).heap.size]? = some (.cells #[.string e.path, .int .i64 e.kind, .int .i64 e.mode, .int .i64 e.time, .slice a1 e.data.length cap1, .string e.link] 30 (0, 0)) by rw [hU]; exact new20 _ _)
                have HBU1 := Lib.hid (HBV.out.trans (hbu.mono HBV.out.size))
                clear hU c0 c1 c2 c3 c4 c5
                have HBX := HBU1
                have HXX := Lib.hid ((HBX.out.block _ (lt20 HXW.out)).trans HXW.out)
                have c0 := cell20 (k := 0) HXX.out
                have c1 := cell20 (k := 1) HXX.out
                have c2 := cell20 (k := 2) HXX.out
                have c3 := cell20 (k := 3) HXX.out
                have c4 := cell20 (k := 4) HXX.out
                have c5 := cell20 (k := 5) HXX.out
                simp only [List.getElem?_toArray, List.getElem?_cons_succ, List.getElem?_cons_zero] at c0 c1 c2 c3 c4 c5
                refine ⟨⟨c0, c1, c2, c3, c4, c5⟩, ?_⟩
                clear hbu
                refine hld_bar 0 rfl (by kernel_rfl) rfl (fun K hK => ?_)
                go_wp2_with fail
                obtain ⟨U2, hU⟩ : ∃ u : World, u = (U1).alloc (.cells #[] 30) := ⟨_, rfl⟩
                rw [← hU]
                have hbu : Below (U1).heap.size U1 U2 := by rw [hU]; exact (Below.refl _ _).alloc (Nat.le_refl _) _
                have HO2 := Lib.hid (show (U2).ownsRow W.heap.size 30 6 (.slice (some ⟨(U1).heap.size, 0, none⟩) 0 0) 0 [] by rw [hU]; exact World.ownsRow_lit (base := W.heap.size) U1 #[] 0 HBU1.out.size (Nat.zero_le _) (by simp))
                have HBU2 := Lib.hid (HBU1.out.trans (hbu.mono HBU1.out.size))
                clear hU c0 c1 c2 c3 c4 c5
                have HBX := HBU2
                have HXX := Lib.hid ((HBX.out.block _ (lt20 HXW.out)).trans HXW.out)
                have c0 := cell20 (k := 0) HXX.out
                have c1 := cell20 (k := 1) HXX.out
                have c2 := cell20 (k := 2) HXX.out
                have c3 := cell20 (k := 3) HXX.out
                have c4 := cell20 (k := 4) HXX.out
                have c5 := cell20 (k := 5) HXX.out
                simp only [List.getElem?_toArray, List.getElem?_cons_succ, List.getElem?_cons_zero] at c0 c1 c2 c3 c4 c5
                refine ⟨⟨c0, c1, c2, c3, c4, c5⟩, ?_⟩
                have HZ2 := Lib.hid ((hbu.block _ (lt20 HZ1.out)).trans HZ1.out)
                have HLT := Lib.hid (show V.heap.size < U1.heap.size from lt20 HZ1.out)
                clear hbu
                refine hld_bar 4 rfl (by kernel_rfl) rfl (fun K hK => ?_)
                go_wp2_with (at_builtin; go_must (refine wpList_appn Tryz.appEnts rfl _ _ rfl W.heap.size _ 0 [] rfl HO2.out _ (j) (entsC (ys.take (j))) rfl (HP.out.below (by omega) HBU2.out) (entsC_oneC HDT.out) (by omega) HBU2.out.size ?_); intro v1 U3 hown1 hg1)
                have HBU3 := Lib.hid (below_grown HBU2.out HO2.out hg1 (Nat.le_refl _) HBU2.out.size)
                have HO3 := Lib.hid (show (U3).ownsRow W.heap.size 30 6 v1 (j) (entsC (ys.take (j))) by rw [Nat.zero_add, List.nil_append] at hown1; exact hown1)
                have HG1 := Lib.hid hg1
                obtain ⟨g1, k1, rfl, -, -⟩ := owns_shape HO3.out
                clear hown1 hg1 c0 c1 c2 c3 c4 c5
                have HBX := HBU3
                have HXX := Lib.hid ((HBX.out.block _ (lt20 HXW.out)).trans HXW.out)
                have c0 := cell20 (k := 0) HXX.out
                have c1 := cell20 (k := 1) HXX.out
                have c2 := cell20 (k := 2) HXX.out
                have c3 := cell20 (k := 3) HXX.out
                have c4 := cell20 (k := 4) HXX.out
                have c5 := cell20 (k := 5) HXX.out
                simp only [List.getElem?_toArray, List.getElem?_cons_succ, List.getElem?_cons_zero] at c0 c1 c2 c3 c4 c5
                refine ⟨⟨c0, c1, c2, c3, c4, c5⟩, ?_⟩
                have HZ3 := Lib.hid ((HG1.out.block _ (lt20 HZ2.out) (fun e' => by have h1 : V.heap.size = U1.heap.size := Option.some.inj e'; have h2 := HLT.out; omega)).trans HZ2.out)
                refine hld_bar 7 rfl (by kernel_rfl) rfl (fun K hK => ?_)
                go_wp2_with (at_builtin; go_must (refine wpList_appn Tryz.appEnts rfl _ _ rfl W.heap.size _ (j) (entsC (ys.take (j))) rfl HO3.out _ 1 (entC (.slice a1 e.data.length cap1) e) rfl (row_one HZ3.out) entC_one (by omega) HBU3.out.size ?_); intro v2 U8 hown2 hg2)
                have HBU8 := Lib.hid (below_grown HBU3.out HO3.out hg2 (Nat.le_refl _) HBU3.out.size)
                have HO8 := Lib.hid hown2
                obtain ⟨g2, k2, rfl, -, -⟩ := owns_shape HO8.out
                clear hown2 hg2 c0 c1 c2 c3 c4 c5
                have HBX := HBU8
                have HXX := Lib.hid ((HBX.out.block _ (lt20 HXW.out)).trans HXW.out)
                have c0 := cell20 (k := 0) HXX.out
                have c1 := cell20 (k := 1) HXX.out
                have c2 := cell20 (k := 2) HXX.out
                have c3 := cell20 (k := 3) HXX.out
                have c4 := cell20 (k := 4) HXX.out
                have c5 := cell20 (k := 5) HXX.out
                simp only [List.getElem?_toArray, List.getElem?_cons_succ, List.getElem?_cons_zero] at c0 c1 c2 c3 c4 c5
                refine ⟨⟨c0, c1, c2, c3, c4, c5⟩, ?_⟩
                refine hld_bar 11 rfl (by kernel_rfl) rfl (fun K hK => ?_)
                go_wp2_with (at_builtin; go_must (refine wpList_appn Tryz.appEnts rfl _ _ rfl W.heap.size _ (j + 1) (entsC (ys.take (j)) ++ entC (.slice a1 e.data.length cap1) e) rfl HO8.out _ (0) (entsC (ys.drop (j))) rfl (HQ.out.below (by omega) HBU8.out) (entsC_oneC HDD.out) (by omega) HBU8.out.size ?_); intro v3 U9 hown3 hg3)
                have HBU9 := Lib.hid (below_grown HBU8.out HO8.out hg3 (Nat.le_refl _) HBU8.out.size)
                have HO9 := Lib.hid hown3
                clear hown3 hg3 c0 c1 c2 c3 c4 c5
                have HBX := HBU9
                have HXX := Lib.hid ((HBX.out.block _ (lt20 HXW.out)).trans HXW.out)
                have c0 := cell20 (k := 0) HXX.out
                have c1 := cell20 (k := 1) HXX.out
                have c2 := cell20 (k := 2) HXX.out
                have c3 := cell20 (k := 3) HXX.out
                have c4 := cell20 (k := 4) HXX.out
                have c5 := cell20 (k := 5) HXX.out
                simp only [List.getElem?_toArray, List.getElem?_cons_succ, List.getElem?_cons_zero] at c0 c1 c2 c3 c4 c5
                refine ⟨⟨c0, c1, c2, c3, c4, c5⟩, ?_⟩
                refine hld_take 12 rfl (by kernel_rfl) (by kernel_rfl) (by kernel_rfl) (fun _ _ _ h => h) rfl (by go_simp) (by intro w' hw'; go_simp; rfl) ?_
                simp only [Act.put, List.setIfInBounds_toArray, List.set_cons_succ, List.set_cons_zero]
                refine hld_done (by kernel_rfl) ?_
                go_wp2_with fail
                go_roundw
                case rel =>
                  refine ⟨k + 1, by omega, by go_num, ?_⟩
                  rw [preS_step HX.out, ← HM.out]
                  have hb9 := HWL.out.trans (HBU9.out.mono HWL.out.size)
                  have h1 := ins_end (S := fun k => S k ∨ w.heap.size ≤ k) (B0 := w.heap.size) (y := (.slice a1 e.data.length cap1, e)) hb9 HDY.out ⟨HDE.out, HOK.out⟩ (by rw [← HML.out]; exact hjm) (by rw [← HML.out]; first | exact HO9.out | (rw [HMN.out]; exact HO9.out)) (Nat.le_trans HBR.out.size HWL.out.size) (fun _ h => h) (fun _ h => .inr h)
                  rw [HYM.out, ← insE_at (show insAt M e M.length = j by rw [← HM0.out]; exact HJ.out)] at h1
                  refine ⟨h1, below_next HBR.out hb9, ?_⟩
                  rcases HO9.out.2 with ⟨hv, h0⟩ | ⟨g, cp, cur, hv, -⟩
                  · omega
                  · refine .inr ⟨g, 0, cp, ?_⟩
                    obtain ⟨_, _, he, _⟩ := SeqAt.shape h1 EntR.len
                    rw [hv] at he ⊢
                    simp only [Value.slice.injEq] at he
                    rw [he.2.1]
                case measure => simp [intOf]; omega
            · have HQ := Lib.hid (show RowAt (fun k => S k ∨ w.heap.size ≤ k) W 6 (.slice (some ⟨b1, o1 + j * 6, none⟩) (m - j) (cv - j)) (m - j) (entsC (ys.drop j)) from by
                rw [entsC_drop]
                exact (row_drop hrw hjm).below (by omega) HWL.out)
              have hjc2 : j < cv := by omega
              have hjc3 : j ≤ cv := by omega
              clear hrw hjc
              refine hld_take 1 rfl (by kernel_rfl) (by kernel_rfl) (by kernel_rfl) (fun _ _ _ h => h) rfl (by go_simp) (by intro w' hw'; go_simp; rfl) ?_
              simp only [Act.put, List.setIfInBounds_toArray, List.set_cons_succ, List.set_cons_zero]
              refine hld_take 2 rfl (by kernel_rfl) (by kernel_rfl) (by kernel_rfl) (fun _ _ _ h => h) rfl (by go_simp) (by intro w' hw'; go_simp; rfl) ?_
              simp only [Act.put, List.setIfInBounds_toArray, List.set_cons_succ, List.set_cons_zero]
              refine hld_take 3 rfl (by kernel_rfl) (by kernel_rfl) (by kernel_rfl) (fun _ _ _ h => h) rfl (by go_simp) (by intro w' hw'; go_simp; rfl) ?_
              simp only [Act.put, List.setIfInBounds_toArray, List.set_cons_succ, List.set_cons_zero]
              refine hld_take 5 rfl (by kernel_rfl) (by kernel_rfl) (by kernel_rfl) (fun _ _ _ h => h) rfl ⟨c0, c1, c2, c3, c4, c5⟩ (by rintro w' ⟨h0, h1, h2, h3, h4, h5⟩; go_simp; rfl) ?_
              simp only [Act.put, List.setIfInBounds_toArray, List.set_cons_succ, List.set_cons_zero]
              refine hld_take 8 rfl (by kernel_rfl) (by kernel_rfl) (by kernel_rfl) (fun _ _ _ h => h) rfl (by go_simp) (by intro w' hw'; go_simp; rfl) ?_
              simp only [Act.put, List.setIfInBounds_toArray, List.set_cons_succ, List.set_cons_zero]
              refine hld_take 9 rfl (by kernel_rfl) (by kernel_rfl) (by kernel_rfl) (fun _ _ _ h => h) rfl (by go_simp) (by intro w' hw'; go_simp; rfl) ?_
              simp only [Act.put, List.setIfInBounds_toArray, List.set_cons_succ, List.set_cons_zero]
              refine hld_take 10 rfl (by kernel_rfl) (by kernel_rfl) (by kernel_rfl) (fun _ _ _ h => h) rfl (by go_simp) (by intro w' hw'; go_simp; rfl) ?_
              simp only [Act.put, List.setIfInBounds_toArray, List.set_cons_succ, List.set_cons_zero]
              refine Hld.of (wpAnyH_all (rs := [0, 6]) (by kernel_rfl) (by simp) fun jj hjj => ?_)
              simp only [List.mem_cons, List.not_mem_nil, or_false] at hjj
              rcases hjj with rfl | rfl
              · refine hld_opr 0 rfl rfl (fun K hK => ?_)
                go_wp2_with fail
                obtain ⟨U1, hU⟩ : ∃ u : World, u = (V).alloc (.cells #[] 30) := ⟨_, rfl⟩
                rw [← hU]
                have hbu : Below (V).heap.size V U1 := by rw [hU]; exact (Below.refl _ _).alloc (Nat.le_refl _) _
                have HO1 := Lib.hid (show (U1).ownsRow W.heap.size 30 6 (.slice (some ⟨(V).heap.size, 0, none⟩) 0 0) 0 [] by rw [hU]; exact World.ownsRow_lit (base := W.heap.size) V #[] 0 HBV.out.size (Nat.zero_le _) (by simp))
                have HBU1 := Lib.hid (HBV.out.trans (hbu.mono HBV.out.size))
                clear hU c0 c1 c2 c3 c4 c5
                have HBX := HBU1
                have HXX := Lib.hid ((HBX.out.block _ (lt20 HXW.out)).trans HXW.out)
                have c0 := cell20 (k := 0) HXX.out
                have c1 := cell20 (k := 1) HXX.out
                have c2 := cell20 (k := 2) HXX.out
                have c3 := cell20 (k := 3) HXX.out
                have c4 := cell20 (k := 4) HXX.out
                have c5 := cell20 (k := 5) HXX.out
                simp only [List.getElem?_toArray, List.getElem?_cons_succ, List.getElem?_cons_zero] at c0 c1 c2 c3 c4 c5
                refine ⟨⟨c0, c1, c2, c3, c4, c5⟩, ?_⟩
                refine Hld.of (wpAnyH_all (rs := [4, 6]) (by kernel_rfl) (by simp) fun jj hjj => ?_)
                simp only [List.mem_cons, List.not_mem_nil, or_false] at hjj
                rcases hjj with rfl | rfl
                · refine hld_opr 4 rfl rfl (fun K hK => ?_)
                  go_wp2_with (at_builtin; go_must (refine wpList_appn Tryz.appEnts rfl _ _ rfl W.heap.size _ 0 [] rfl HO1.out _ (j) (entsC (ys.take (j))) rfl (HP.out.below (by omega) HBU1.out) (entsC_oneC HDT.out) (by omega) HBU1.out.size ?_); intro v1 U2 hown1 hg1)
                  have HBU2 := Lib.hid (below_grown HBU1.out HO1.out hg1 (Nat.le_refl _) HBU1.out.size)
                  have HO2 := Lib.hid (show (U2).ownsRow W.heap.size 30 6 v1 (j) (entsC (ys.take (j))) by rw [Nat.zero_add, List.nil_append] at hown1; exact hown1)
                  have HG1 := Lib.hid hg1
                  obtain ⟨g1, k1, rfl, -, -⟩ := owns_shape HO2.out
                  clear hown1 hg1 c0 c1 c2 c3 c4 c5
                  have HBX := HBU2
                  have HXX := Lib.hid ((HBX.out.block _ (lt20 HXW.out)).trans HXW.out)
                  have c0 := cell20 (k := 0) HXX.out
                  have c1 := cell20 (k := 1) HXX.out
                  have c2 := cell20 (k := 2) HXX.out
                  have c3 := cell20 (k := 3) HXX.out
                  have c4 := cell20 (k := 4) HXX.out
                  have c5 := cell20 (k := 5) HXX.out
                  simp only [List.getElem?_toArray, List.getElem?_cons_succ, List.getElem?_cons_zero] at c0 c1 c2 c3 c4 c5
                  refine ⟨⟨c0, c1, c2, c3, c4, c5⟩, ?_⟩
                  refine hld_bar 6 rfl (by kernel_rfl) rfl (fun K hK => ?_)
                  go_wp2_with fail
                  obtain ⟨U3, hU⟩ : ∃ u : World, u = (U2).alloc (.cells #[.string e.path, .int .i64 e.kind, .int .i64 e.mode, .int .i64 e.time, .slice a1 e.data.length cap1, .string e.link] 30) := ⟨_, rfl⟩
                  rw [← hU]
                  have hbu : Below (U2).heap.size U2 U3 := by rw [hU]; exact (Below.refl _ _).alloc (Nat.le_refl _) _
                  have HZ3 := Lib.hid (show (U3).heap[(U2).heap.size]? = some (.cells #[.string e.path, .int .i64 e.kind, .int .i64 e.mode, .int .i64 e.time, .slice a1 e.data.length cap1, .string e.link] 30 (0, 0)) by rw [hU]; exact new20 _ _)
                  have HBU3 := Lib.hid (HBU2.out.trans (hbu.mono HBU2.out.size))
                  clear hU c0 c1 c2 c3 c4 c5
                  have HBX := HBU3
                  have HXX := Lib.hid ((HBX.out.block _ (lt20 HXW.out)).trans HXW.out)
                  have c0 := cell20 (k := 0) HXX.out
                  have c1 := cell20 (k := 1) HXX.out
                  have c2 := cell20 (k := 2) HXX.out
                  have c3 := cell20 (k := 3) HXX.out
                  have c4 := cell20 (k := 4) HXX.out
                  have c5 := cell20 (k := 5) HXX.out
                  simp only [List.getElem?_toArray, List.getElem?_cons_succ, List.getElem?_cons_zero] at c0 c1 c2 c3 c4 c5
                  refine ⟨⟨c0, c1, c2, c3, c4, c5⟩, ?_⟩
                  have HO3 := Lib.hid (own_below HO2.out hbu)
                  clear hbu
                  refine hld_bar 7 rfl (by kernel_rfl) rfl (fun K hK => ?_)
                  go_wp2_with (at_builtin; go_must (refine wpList_appn Tryz.appEnts rfl _ _ rfl W.heap.size _ (j) (entsC (ys.take (j))) rfl HO3.out _ 1 (entC (.slice a1 e.data.length cap1) e) rfl (row_one HZ3.out) entC_one (by omega) HBU3.out.size ?_); intro v2 U8 hown2 hg2)
                  have HBU8 := Lib.hid (below_grown HBU3.out HO3.out hg2 (Nat.le_refl _) HBU3.out.size)
                  have HO8 := Lib.hid hown2
                  obtain ⟨g2, k2, rfl, -, -⟩ := owns_shape HO8.out
                  clear hown2 hg2 c0 c1 c2 c3 c4 c5
                  have HBX := HBU8
                  have HXX := Lib.hid ((HBX.out.block _ (lt20 HXW.out)).trans HXW.out)
                  have c0 := cell20 (k := 0) HXX.out
                  have c1 := cell20 (k := 1) HXX.out
                  have c2 := cell20 (k := 2) HXX.out
                  have c3 := cell20 (k := 3) HXX.out
                  have c4 := cell20 (k := 4) HXX.out
                  have c5 := cell20 (k := 5) HXX.out
                  simp only [List.getElem?_toArray, List.getElem?_cons_succ, List.getElem?_cons_zero] at c0 c1 c2 c3 c4 c5
                  refine ⟨⟨c0, c1, c2, c3, c4, c5⟩, ?_⟩
                  refine hld_bar 11 rfl (by kernel_rfl) rfl (fun K hK => ?_)
                  go_wp2_with (at_builtin; go_must (refine wpList_appn Tryz.appEnts rfl _ _ rfl W.heap.size _ (j + 1) (entsC (ys.take (j)) ++ entC (.slice a1 e.data.length cap1) e) rfl HO8.out _ (m - j) (entsC (ys.drop (j))) rfl (HQ.out.below (by omega) HBU8.out) (entsC_oneC HDD.out) (by omega) HBU8.out.size ?_); intro v3 U9 hown3 hg3)
                  have HBU9 := Lib.hid (below_grown HBU8.out HO8.out hg3 (Nat.le_refl _) HBU8.out.size)
                  have HO9 := Lib.hid hown3
                  clear hown3 hg3 c0 c1 c2 c3 c4 c5
                  have HBX := HBU9
                  have HXX := Lib.hid ((HBX.out.block _ (lt20 HXW.out)).trans HXW.out)
                  have c0 := cell20 (k := 0) HXX.out
                  have c1 := cell20 (k := 1) HXX.out
                  have c2 := cell20 (k := 2) HXX.out
                  have c3 := cell20 (k := 3) HXX.out
                  have c4 := cell20 (k := 4) HXX.out
                  have c5 := cell20 (k := 5) HXX.out
                  simp only [List.getElem?_toArray, List.getElem?_cons_succ, List.getElem?_cons_zero] at c0 c1 c2 c3 c4 c5
                  refine ⟨⟨c0, c1, c2, c3, c4, c5⟩, ?_⟩
                  refine hld_take 12 rfl (by kernel_rfl) (by kernel_rfl) (by kernel_rfl) (fun _ _ _ h => h) rfl (by go_simp) (by intro w' hw'; go_simp; rfl) ?_
                  simp only [Act.put, List.setIfInBounds_toArray, List.set_cons_succ, List.set_cons_zero]
                  refine hld_done (by kernel_rfl) ?_
                  go_wp2_with fail
                  go_roundw
                  case rel =>
                    refine ⟨k + 1, by omega, by go_num, ?_⟩
                    rw [preS_step HX.out, ← HM.out]
                    have hb9 := HWL.out.trans (HBU9.out.mono HWL.out.size)
                    have h1 := ins_end (S := fun k => S k ∨ w.heap.size ≤ k) (B0 := w.heap.size) (y := (.slice a1 e.data.length cap1, e)) hb9 HDY.out ⟨HDE.out, HOK.out⟩ (by rw [← HML.out]; exact hjm) (by rw [← HML.out]; first | exact HO9.out | (rw [HMN.out]; exact HO9.out)) (Nat.le_trans HBR.out.size HWL.out.size) (fun _ h => h) (fun _ h => .inr h)
                    rw [HYM.out, ← insE_at (show insAt M e M.length = j by rw [← HM0.out]; exact HJ.out)] at h1
                    refine ⟨h1, below_next HBR.out hb9, ?_⟩
                    rcases HO9.out.2 with ⟨hv, h0⟩ | ⟨g, cp, cur, hv, -⟩
                    · omega
                    · refine .inr ⟨g, 0, cp, ?_⟩
                      obtain ⟨_, _, he, _⟩ := SeqAt.shape h1 EntR.len
                      rw [hv] at he ⊢
                      simp only [Value.slice.injEq] at he
                      rw [he.2.1]
                  case measure => simp [intOf]; omega
                · refine hld_opr 6 rfl rfl (fun K hK => ?_)
                  go_wp2_with fail
                  obtain ⟨U2, hU⟩ : ∃ u : World, u = (U1).alloc (.cells #[.string e.path, .int .i64 e.kind, .int .i64 e.mode, .int .i64 e.time, .slice a1 e.data.length cap1, .string e.link] 30) := ⟨_, rfl⟩
                  rw [← hU]
                  have hbu : Below (U1).heap.size U1 U2 := by rw [hU]; exact (Below.refl _ _).alloc (Nat.le_refl _) _
                  have HZ2 := Lib.hid (show (U2).heap[(U1).heap.size]? = some (.cells #[.string e.path, .int .i64 e.kind, .int .i64 e.mode, .int .i64 e.time, .slice a1 e.data.length cap1, .string e.link] 30 (0, 0)) by rw [hU]; exact new20 _ _)
                  have HBU2 := Lib.hid (HBU1.out.trans (hbu.mono HBU1.out.size))
                  clear hU c0 c1 c2 c3 c4 c5
                  have HBX := HBU2
                  have HXX := Lib.hid ((HBX.out.block _ (lt20 HXW.out)).trans HXW.out)
                  have c0 := cell20 (k := 0) HXX.out
                  have c1 := cell20 (k := 1) HXX.out
                  have c2 := cell20 (k := 2) HXX.out
                  have c3 := cell20 (k := 3) HXX.out
                  have c4 := cell20 (k := 4) HXX.out
                  have c5 := cell20 (k := 5) HXX.out
                  simp only [List.getElem?_toArray, List.getElem?_cons_succ, List.getElem?_cons_zero] at c0 c1 c2 c3 c4 c5
                  refine ⟨⟨c0, c1, c2, c3, c4, c5⟩, ?_⟩
                  have HO2 := Lib.hid (own_below HO1.out hbu)
                  have HLT := Lib.hid (show V.heap.size < U1.heap.size from ((own_lt HO1.out rfl).2))
                  clear hbu
                  refine hld_bar 4 rfl (by kernel_rfl) rfl (fun K hK => ?_)
                  go_wp2_with (at_builtin; go_must (refine wpList_appn Tryz.appEnts rfl _ _ rfl W.heap.size _ 0 [] rfl HO2.out _ (j) (entsC (ys.take (j))) rfl (HP.out.below (by omega) HBU2.out) (entsC_oneC HDT.out) (by omega) HBU2.out.size ?_); intro v1 U3 hown1 hg1)
                  have HBU3 := Lib.hid (below_grown HBU2.out HO2.out hg1 (Nat.le_refl _) HBU2.out.size)
                  have HO3 := Lib.hid (show (U3).ownsRow W.heap.size 30 6 v1 (j) (entsC (ys.take (j))) by rw [Nat.zero_add, List.nil_append] at hown1; exact hown1)
                  have HG1 := Lib.hid hg1
                  obtain ⟨g1, k1, rfl, -, -⟩ := owns_shape HO3.out
                  clear hown1 hg1 c0 c1 c2 c3 c4 c5
                  have HBX := HBU3
                  have HXX := Lib.hid ((HBX.out.block _ (lt20 HXW.out)).trans HXW.out)
                  have c0 := cell20 (k := 0) HXX.out
                  have c1 := cell20 (k := 1) HXX.out
                  have c2 := cell20 (k := 2) HXX.out
                  have c3 := cell20 (k := 3) HXX.out
                  have c4 := cell20 (k := 4) HXX.out
                  have c5 := cell20 (k := 5) HXX.out
                  simp only [List.getElem?_toArray, List.getElem?_cons_succ, List.getElem?_cons_zero] at c0 c1 c2 c3 c4 c5
                  refine ⟨⟨c0, c1, c2, c3, c4, c5⟩, ?_⟩
                  have HZ3 := Lib.hid ((HG1.out.block _ (lt20 HZ2.out) (fun e' => by have h1 : U1.heap.size = V.heap.size := Option.some.inj e'; have h2 := HLT.out; omega)).trans HZ2.out)
                  refine hld_bar 7 rfl (by kernel_rfl) rfl (fun K hK => ?_)
                  go_wp2_with (at_builtin; go_must (refine wpList_appn Tryz.appEnts rfl _ _ rfl W.heap.size _ (j) (entsC (ys.take (j))) rfl HO3.out _ 1 (entC (.slice a1 e.data.length cap1) e) rfl (row_one HZ3.out) entC_one (by omega) HBU3.out.size ?_); intro v2 U8 hown2 hg2)
                  have HBU8 := Lib.hid (below_grown HBU3.out HO3.out hg2 (Nat.le_refl _) HBU3.out.size)
                  have HO8 := Lib.hid hown2
                  obtain ⟨g2, k2, rfl, -, -⟩ := owns_shape HO8.out
                  clear hown2 hg2 c0 c1 c2 c3 c4 c5
                  have HBX := HBU8
                  have HXX := Lib.hid ((HBX.out.block _ (lt20 HXW.out)).trans HXW.out)
                  have c0 := cell20 (k := 0) HXX.out
                  have c1 := cell20 (k := 1) HXX.out
                  have c2 := cell20 (k := 2) HXX.out
                  have c3 := cell20 (k := 3) HXX.out
                  have c4 := cell20 (k := 4) HXX.out
                  have c5 := cell20 (k := 5) HXX.out
                  simp only [List.getElem?_toArray, List.getElem?_cons_succ, List.getElem?_cons_zero] at c0 c1 c2 c3 c4 c5
                  refine ⟨⟨c0, c1, c2, c3, c4, c5⟩, ?_⟩
                  refine hld_bar 11 rfl (by kernel_rfl) rfl (fun K hK => ?_)
                  go_wp2_with (at_builtin; go_must (refine wpList_appn Tryz.appEnts rfl _ _ rfl W.heap.size _ (j + 1) (entsC (ys.take (j)) ++ entC (.slice a1 e.data.length cap1) e) rfl HO8.out _ (m - j) (entsC (ys.drop (j))) rfl (HQ.out.below (by omega) HBU8.out) (entsC_oneC HDD.out) (by omega) HBU8.out.size ?_); intro v3 U9 hown3 hg3)
                  have HBU9 := Lib.hid (below_grown HBU8.out HO8.out hg3 (Nat.le_refl _) HBU8.out.size)
                  have HO9 := Lib.hid hown3
                  clear hown3 hg3 c0 c1 c2 c3 c4 c5
                  have HBX := HBU9
                  have HXX := Lib.hid ((HBX.out.block _ (lt20 HXW.out)).trans HXW.out)
                  have c0 := cell20 (k := 0) HXX.out
                  have c1 := cell20 (k := 1) HXX.out
                  have c2 := cell20 (k := 2) HXX.out
                  have c3 := cell20 (k := 3) HXX.out
                  have c4 := cell20 (k := 4) HXX.out
                  have c5 := cell20 (k := 5) HXX.out
                  simp only [List.getElem?_toArray, List.getElem?_cons_succ, List.getElem?_cons_zero] at c0 c1 c2 c3 c4 c5
                  refine ⟨⟨c0, c1, c2, c3, c4, c5⟩, ?_⟩
                  refine hld_take 12 rfl (by kernel_rfl) (by kernel_rfl) (by kernel_rfl) (fun _ _ _ h => h) rfl (by go_simp) (by intro w' hw'; go_simp; rfl) ?_
                  simp only [Act.put, List.setIfInBounds_toArray, List.set_cons_succ, List.set_cons_zero]
                  refine hld_done (by kernel_rfl) ?_
                  go_wp2_with fail
                  go_roundw
                  case rel =>
                    refine ⟨k + 1, by omega, by go_num, ?_⟩
                    rw [preS_step HX.out, ← HM.out]
                    have hb9 := HWL.out.trans (HBU9.out.mono HWL.out.size)
                    have h1 := ins_end (S := fun k => S k ∨ w.heap.size ≤ k) (B0 := w.heap.size) (y := (.slice a1 e.data.length cap1, e)) hb9 HDY.out ⟨HDE.out, HOK.out⟩ (by rw [← HML.out]; exact hjm) (by rw [← HML.out]; first | exact HO9.out | (rw [HMN.out]; exact HO9.out)) (Nat.le_trans HBR.out.size HWL.out.size) (fun _ h => h) (fun _ h => .inr h)
                    rw [HYM.out, ← insE_at (show insAt M e M.length = j by rw [← HM0.out]; exact HJ.out)] at h1
                    refine ⟨h1, below_next HBR.out hb9, ?_⟩
                    rcases HO9.out.2 with ⟨hv, h0⟩ | ⟨g, cp, cur, hv, -⟩
                    · omega
                    · refine .inr ⟨g, 0, cp, ?_⟩
                      obtain ⟨_, _, he, _⟩ := SeqAt.shape h1 EntR.len
                      rw [hv] at he ⊢
                      simp only [Value.slice.injEq] at he
                      rw [he.2.1]
                  case measure => simp [intOf]; omega
              · refine hld_opr 6 rfl rfl (fun K hK => ?_)
                go_wp2_with fail
                obtain ⟨U1, hU⟩ : ∃ u : World, u = (V).alloc (.cells #[.string e.path, .int .i64 e.kind, .int .i64 e.mode, .int .i64 e.time, .slice a1 e.data.length cap1, .string e.link] 30) := ⟨_, rfl⟩
                rw [← hU]
                have hbu : Below (V).heap.size V U1 := by rw [hU]; exact (Below.refl _ _).alloc (Nat.le_refl _) _
                have HZ1 := Lib.hid (show (U1).heap[(V).heap.size]? = some (.cells #[.string e.path, .int .i64 e.kind, .int .i64 e.mode, .int .i64 e.time, .slice a1 e.data.length cap1, .string e.link] 30 (0, 0)) by rw [hU]; exact new20 _ _)
                have HBU1 := Lib.hid (HBV.out.trans (hbu.mono HBV.out.size))
                clear hU c0 c1 c2 c3 c4 c5
                have HBX := HBU1
                have HXX := Lib.hid ((HBX.out.block _ (lt20 HXW.out)).trans HXW.out)
                have c0 := cell20 (k := 0) HXX.out
                have c1 := cell20 (k := 1) HXX.out
                have c2 := cell20 (k := 2) HXX.out
                have c3 := cell20 (k := 3) HXX.out
                have c4 := cell20 (k := 4) HXX.out
                have c5 := cell20 (k := 5) HXX.out
                simp only [List.getElem?_toArray, List.getElem?_cons_succ, List.getElem?_cons_zero] at c0 c1 c2 c3 c4 c5
                refine ⟨⟨c0, c1, c2, c3, c4, c5⟩, ?_⟩
                clear hbu
                refine hld_bar 0 rfl (by kernel_rfl) rfl (fun K hK => ?_)
                go_wp2_with fail
                obtain ⟨U2, hU⟩ : ∃ u : World, u = (U1).alloc (.cells #[] 30) := ⟨_, rfl⟩
                rw [← hU]
                have hbu : Below (U1).heap.size U1 U2 := by rw [hU]; exact (Below.refl _ _).alloc (Nat.le_refl _) _
                have HO2 := Lib.hid (show (U2).ownsRow W.heap.size 30 6 (.slice (some ⟨(U1).heap.size, 0, none⟩) 0 0) 0 [] by rw [hU]; exact World.ownsRow_lit (base := W.heap.size) U1 #[] 0 HBU1.out.size (Nat.zero_le _) (by simp))
                have HBU2 := Lib.hid (HBU1.out.trans (hbu.mono HBU1.out.size))
                clear hU c0 c1 c2 c3 c4 c5
                have HBX := HBU2
                have HXX := Lib.hid ((HBX.out.block _ (lt20 HXW.out)).trans HXW.out)
                have c0 := cell20 (k := 0) HXX.out
                have c1 := cell20 (k := 1) HXX.out
                have c2 := cell20 (k := 2) HXX.out
                have c3 := cell20 (k := 3) HXX.out
                have c4 := cell20 (k := 4) HXX.out
                have c5 := cell20 (k := 5) HXX.out
                simp only [List.getElem?_toArray, List.getElem?_cons_succ, List.getElem?_cons_zero] at c0 c1 c2 c3 c4 c5
                refine ⟨⟨c0, c1, c2, c3, c4, c5⟩, ?_⟩
                have HZ2 := Lib.hid ((hbu.block _ (lt20 HZ1.out)).trans HZ1.out)
                have HLT := Lib.hid (show V.heap.size < U1.heap.size from lt20 HZ1.out)
                clear hbu
                refine hld_bar 4 rfl (by kernel_rfl) rfl (fun K hK => ?_)
                go_wp2_with (at_builtin; go_must (refine wpList_appn Tryz.appEnts rfl _ _ rfl W.heap.size _ 0 [] rfl HO2.out _ (j) (entsC (ys.take (j))) rfl (HP.out.below (by omega) HBU2.out) (entsC_oneC HDT.out) (by omega) HBU2.out.size ?_); intro v1 U3 hown1 hg1)
                have HBU3 := Lib.hid (below_grown HBU2.out HO2.out hg1 (Nat.le_refl _) HBU2.out.size)
                have HO3 := Lib.hid (show (U3).ownsRow W.heap.size 30 6 v1 (j) (entsC (ys.take (j))) by rw [Nat.zero_add, List.nil_append] at hown1; exact hown1)
                have HG1 := Lib.hid hg1
                obtain ⟨g1, k1, rfl, -, -⟩ := owns_shape HO3.out
                clear hown1 hg1 c0 c1 c2 c3 c4 c5
                have HBX := HBU3
                have HXX := Lib.hid ((HBX.out.block _ (lt20 HXW.out)).trans HXW.out)
                have c0 := cell20 (k := 0) HXX.out
                have c1 := cell20 (k := 1) HXX.out
                have c2 := cell20 (k := 2) HXX.out
                have c3 := cell20 (k := 3) HXX.out
                have c4 := cell20 (k := 4) HXX.out
                have c5 := cell20 (k := 5) HXX.out
                simp only [List.getElem?_toArray, List.getElem?_cons_succ, List.getElem?_cons_zero] at c0 c1 c2 c3 c4 c5
                refine ⟨⟨c0, c1, c2, c3, c4, c5⟩, ?_⟩
                have HZ3 := Lib.hid ((HG1.out.block _ (lt20 HZ2.out) (fun e' => by have h1 : V.heap.size = U1.heap.size := Option.some.inj e'; have h2 := HLT.out; omega)).trans HZ2.out)
                refine hld_bar 7 rfl (by kernel_rfl) rfl (fun K hK => ?_)
                go_wp2_with (at_builtin; go_must (refine wpList_appn Tryz.appEnts rfl _ _ rfl W.heap.size _ (j) (entsC (ys.take (j))) rfl HO3.out _ 1 (entC (.slice a1 e.data.length cap1) e) rfl (row_one HZ3.out) entC_one (by omega) HBU3.out.size ?_); intro v2 U8 hown2 hg2)
                have HBU8 := Lib.hid (below_grown HBU3.out HO3.out hg2 (Nat.le_refl _) HBU3.out.size)
                have HO8 := Lib.hid hown2
                obtain ⟨g2, k2, rfl, -, -⟩ := owns_shape HO8.out
                clear hown2 hg2 c0 c1 c2 c3 c4 c5
                have HBX := HBU8
                have HXX := Lib.hid ((HBX.out.block _ (lt20 HXW.out)).trans HXW.out)
                have c0 := cell20 (k := 0) HXX.out
                have c1 := cell20 (k := 1) HXX.out
                have c2 := cell20 (k := 2) HXX.out
                have c3 := cell20 (k := 3) HXX.out
                have c4 := cell20 (k := 4) HXX.out
                have c5 := cell20 (k := 5) HXX.out
                simp only [List.getElem?_toArray, List.getElem?_cons_succ, List.getElem?_cons_zero] at c0 c1 c2 c3 c4 c5
                refine ⟨⟨c0, c1, c2, c3, c4, c5⟩, ?_⟩
                refine hld_bar 11 rfl (by kernel_rfl) rfl (fun K hK => ?_)
                go_wp2_with (at_builtin; go_must (refine wpList_appn Tryz.appEnts rfl _ _ rfl W.heap.size _ (j + 1) (entsC (ys.take (j)) ++ entC (.slice a1 e.data.length cap1) e) rfl HO8.out _ (m - j) (entsC (ys.drop (j))) rfl (HQ.out.below (by omega) HBU8.out) (entsC_oneC HDD.out) (by omega) HBU8.out.size ?_); intro v3 U9 hown3 hg3)
                have HBU9 := Lib.hid (below_grown HBU8.out HO8.out hg3 (Nat.le_refl _) HBU8.out.size)
                have HO9 := Lib.hid hown3
                clear hown3 hg3 c0 c1 c2 c3 c4 c5
                have HBX := HBU9
                have HXX := Lib.hid ((HBX.out.block _ (lt20 HXW.out)).trans HXW.out)
                have c0 := cell20 (k := 0) HXX.out
                have c1 := cell20 (k := 1) HXX.out
                have c2 := cell20 (k := 2) HXX.out
                have c3 := cell20 (k := 3) HXX.out
                have c4 := cell20 (k := 4) HXX.out
                have c5 := cell20 (k := 5) HXX.out
                simp only [List.getElem?_toArray, List.getElem?_cons_succ, List.getElem?_cons_zero] at c0 c1 c2 c3 c4 c5
                refine ⟨⟨c0, c1, c2, c3, c4, c5⟩, ?_⟩
                refine hld_take 12 rfl (by kernel_rfl) (by kernel_rfl) (by kernel_rfl) (fun _ _ _ h => h) rfl (by go_simp) (by intro w' hw'; go_simp; rfl) ?_
                simp only [Act.put, List.setIfInBounds_toArray, List.set_cons_succ, List.set_cons_zero]
                refine hld_done (by kernel_rfl) ?_
                go_wp2_with fail
                go_roundw
                case rel =>
                  refine ⟨k + 1, by omega, by go_num, ?_⟩
                  rw [preS_step HX.out, ← HM.out]
                  have hb9 := HWL.out.trans (HBU9.out.mono HWL.out.size)
                  have h1 := ins_end (S := fun k => S k ∨ w.heap.size ≤ k) (B0 := w.heap.size) (y := (.slice a1 e.data.length cap1, e)) hb9 HDY.out ⟨HDE.out, HOK.out⟩ (by rw [← HML.out]; exact hjm) (by rw [← HML.out]; first | exact HO9.out | (rw [HMN.out]; exact HO9.out)) (Nat.le_trans HBR.out.size HWL.out.size) (fun _ h => h) (fun _ h => .inr h)
                  rw [HYM.out, ← insE_at (show insAt M e M.length = j by rw [← HM0.out]; exact HJ.out)] at h1
                  refine ⟨h1, below_next HBR.out hb9, ?_⟩
                  rcases HO9.out.2 with ⟨hv, h0⟩ | ⟨g, cp, cur, hv, -⟩
                  · omega
                  · refine .inr ⟨g, 0, cp, ?_⟩
                    obtain ⟨_, _, he, _⟩ := SeqAt.shape h1 EntR.len
                    rw [hv] at he ⊢
                    simp only [Value.slice.injEq] at he
                    rw [he.2.1]
                case measure => simp [intOf]; omega
        · obtain ⟨jp, rfl⟩ : ∃ jp, j = jp + 1 := ⟨j - 1, by omega⟩
          obtain ⟨f, hf⟩ : ∃ f, M[jp]? = some f := ⟨M[jp]'(by rw [← HM0.out]; omega), by simp⟩
          have hva2 := hva
          obtain ⟨b1, o1, dv', rfl, -, -, -, -, -, p0, -⟩ := ents_at HES.out hf
          have HPF := Lib.hid (HPM.out f (List.mem_of_getElem? hf))
          obtain ⟨c, hc'⟩ : ∃ c, cmpL (bl f.path) (bl e.path) = c := ⟨_, rfl⟩
          have HC := Lib.hid hc'
          have e9 : decide (0 < jp + 1) = true := by simp
          have hjn : jp < m := by omega
          have hjn2 : (jp : Int) < (m : Int) := by omega
          have hjn3 : decide (jp < m) = true := by simp; omega
          have hwj : IntKind.i64.wrap (jp : Int) = jp := by rw [IntKind.wrap_i64]; omega
          have HF := Lib.hid hf
          have y0 := ((HWL.out.trans (HBQ.out.mono HWL.out.size)).cell (block_lt p0)).trans p0
          have c0 := cell20 (k := 0) HXQ.out
          simp only [List.getElem?_toArray, List.getElem?_cons_zero] at c0
          clear hf hc' p0 hj0
          by_cases hpos : 0 < c
          · have e8 : decide (0 < c) = true := by simp [hpos]
            have HJ := Lib.hid (show insAt M e m = insAt M e jp from HIX.out.trans (insAt_go HF.out (by unfold cmpE; rw [HC.out]; exact hpos)))
            go_wp2_with fail
            refine wp_region_segs [some 11, none, some 2] (by kernel_rfl) (by kernel_rfl) (by kernel_rfl) ?_
            simp only [wpSegs, List.take_succ_cons, List.take_zero, List.drop_succ_cons, List.drop_zero]
            repeat (first | (refine seg_skip rfl ?_; simp only [Act.put, List.setIfInBounds_toArray, List.set_cons_succ, List.set_cons_zero]) | (refine seg_run rfl (fun K hK => ?_); go_simp; refine hK _ ?_; clear hK K))
            refine seg_nil ?_
            refine bar_run rfl (fun K hK => ?_)
            go_wp2_with (go_at_call 60; refine (r_compare20 f.path e.path c _ HPF.out HC.out).mono ?_; rintro e8' w8 ⟨rfl, hb8⟩; have HB8 := Lib.hid (HBQ.out.trans (((Below.refl wr.heap.size wr).drew.trans (hb8.mono (Nat.le_refl _))).mono HBQ.out.size)); clear hb8)
            repeat (first | (refine seg_skip rfl ?_; simp only [Act.put, List.setIfInBounds_toArray, List.set_cons_succ, List.set_cons_zero]) | (refine seg_run rfl (fun K hK => ?_); go_simp; refine hK _ ?_; clear hK K))
            refine seg_nil ?_
            go_wp2_with fail
            go_roundw
            case rel => exact ⟨jp, by go_num, by omega, HJ.out, HB8.out⟩
            case measure => simp [intOf]
          · have e8 : decide (0 < c) = false := by simp; omega
            have e7 : c ≤ 0 := by omega
            have HJ := Lib.hid (show insAt M e m = jp + 1 from HIX.out.trans (insAt_stop HF.out (by unfold cmpE; rw [HC.out]; exact hpos)))
            go_wp2_with fail
            refine wp_region_segs [some 11, none, some 2] (by kernel_rfl) (by kernel_rfl) (by kernel_rfl) ?_
            simp only [wpSegs, List.take_succ_cons, List.take_zero, List.drop_succ_cons, List.drop_zero]
            repeat (first | (refine seg_skip rfl ?_; simp only [Act.put, List.setIfInBounds_toArray, List.set_cons_succ, List.set_cons_zero]) | (refine seg_run rfl (fun K hK => ?_); go_simp; refine hK _ ?_; clear hK K))
            refine seg_nil ?_
            refine bar_run rfl (fun K hK => ?_)
            go_wp2_with (go_at_call 60; refine (r_compare20 f.path e.path c _ HPF.out HC.out).mono ?_; rintro e8' w8 ⟨rfl, hb8⟩; have HB8 := Lib.hid (HBQ.out.trans (((Below.refl wr.heap.size wr).drew.trans (hb8.mono (Nat.le_refl _))).mono HBQ.out.size)); clear hb8)
            repeat (first | (refine seg_skip rfl ?_; simp only [Act.put, List.setIfInBounds_toArray, List.set_cons_succ, List.set_cons_zero]) | (refine seg_run rfl (fun K hK => ?_); go_simp; refine hK _ ?_; clear hK K))
            refine seg_nil ?_
            go_wp2_with fail
            obtain ⟨j, hj⟩ : ∃ j, j = jp + 1 := ⟨_, rfl⟩
            rw [show (jp : Int) + 1 = (j : Int) by omega]
            have HJ2 := Lib.hid (show insAt M e m = j by rw [hj]; exact HJ.out)
            have hjm2 : j ≤ m := by omega
            clear HJ hjm
            have HJ := HJ2
            have hjm := hjm2
            clear HJ2 hjm2 hj hpos e8 e7 y0 c0 hjn hjn2 hjn3 hwj e9 hva hva2
            refine hld_start (fun w' => w'.cell? ⟨wo.heap.size, 0, none⟩ = some (.string e.path) ∧ w'.cell? ⟨wo.heap.size, 1, none⟩ = some (.int .i64 e.kind) ∧ w'.cell? ⟨wo.heap.size, 2, none⟩ = some (.int .i64 e.mode) ∧ w'.cell? ⟨wo.heap.size, 3, none⟩ = some (.int .i64 e.time) ∧ w'.cell? ⟨wo.heap.size, 4, none⟩ = some (.slice a1 e.data.length cap1) ∧ w'.cell? ⟨wo.heap.size, 5, none⟩ = some (.string e.link)) (by kernel_rfl) ?_
            obtain ⟨V, hV⟩ : ∃ V : World, V = (w8).drew := ⟨_, rfl⟩
            rw [← hV]
            have HBV := Lib.hid (show Below W.heap.size W V by rw [hV]; exact HB8.out.trans ((Below.refl (w8).heap.size (w8)).drew.mono HB8.out.size))
            clear hV
            have HBX := HBV
            have HXX := Lib.hid ((HBX.out.block _ (lt20 HXW.out)).trans HXW.out)
            have c0 := cell20 (k := 0) HXX.out
            have c1 := cell20 (k := 1) HXX.out
            have c2 := cell20 (k := 2) HXX.out
            have c3 := cell20 (k := 3) HXX.out
            have c4 := cell20 (k := 4) HXX.out
            have c5 := cell20 (k := 5) HXX.out
            simp only [List.getElem?_toArray, List.getElem?_cons_succ, List.getElem?_cons_zero] at c0 c1 c2 c3 c4 c5
            have hrw := HRW.out
            have HP := Lib.hid (show RowAt (fun k => S k ∨ w.heap.size ≤ k) W 6 _ (j) (entsC (ys.take (j))) from by
              rw [entsC_take]; exact (row_take hrw hjm).below (by omega) HWL.out)
            have HDT := Lib.hid (show ∀ y ∈ ys.take (j), DataAt (fun k => S k ∨ w.heap.size ≤ k) wo y.1 y.2.data ∧ EntOk y.2 from fun y hy => HDY.out y (List.mem_of_mem_take hy))
            have HDD := Lib.hid (show ∀ y ∈ ys.drop (j), DataAt (fun k => S k ∨ w.heap.size ≤ k) wo y.1 y.2.data ∧ EntOk y.2 from fun y hy => HDY.out y (List.mem_of_mem_drop hy))
            by_cases hjc : j = cv
            · subst hjc
              have HQ := Lib.hid (show RowAt (fun k => S k ∨ w.heap.size ≤ k) W 6 (.slice (some ⟨b1, o1, none⟩) 0 0) 0 (entsC (ys.drop j)) from by
                rw [List.drop_eq_nil_of_le (by rw [← HML.out]; omega)]
                exact row_none (by unfold maxLen; omega))
              have HMN := Lib.hid (show m - j = 0 by omega)
              clear hrw
              refine hld_take 1 rfl (by kernel_rfl) (by kernel_rfl) (by kernel_rfl) (fun _ _ _ h => h) rfl (by go_simp) (by intro w' hw'; go_simp; rfl) ?_
              simp only [Act.put, List.setIfInBounds_toArray, List.set_cons_succ, List.set_cons_zero]
              refine hld_take 2 rfl (by kernel_rfl) (by kernel_rfl) (by kernel_rfl) (fun _ _ _ h => h) rfl (by go_simp) (by intro w' hw'; go_simp; rfl) ?_
              simp only [Act.put, List.setIfInBounds_toArray, List.set_cons_succ, List.set_cons_zero]
              refine hld_take 3 rfl (by kernel_rfl) (by kernel_rfl) (by kernel_rfl) (fun _ _ _ h => h) rfl (by go_simp) (by intro w' hw'; go_simp; rfl) ?_
              simp only [Act.put, List.setIfInBounds_toArray, List.set_cons_succ, List.set_cons_zero]
              refine hld_take 5 rfl (by kernel_rfl) (by kernel_rfl) (by kernel_rfl) (fun _ _ _ h => h) rfl ⟨c0, c1, c2, c3, c4, c5⟩ (by rintro w' ⟨h0, h1, h2, h3, h4, h5⟩; go_simp; rfl) ?_
              simp only [Act.put, List.setIfInBounds_toArray, List.set_cons_succ, List.set_cons_zero]
              refine hld_take 8 rfl (by kernel_rfl) (by kernel_rfl) (by kernel_rfl) (fun _ _ _ h => h) rfl (by go_simp) (by intro w' hw'; go_simp; rfl) ?_
              simp only [Act.put, List.setIfInBounds_toArray, List.set_cons_succ, List.set_cons_zero]
              refine hld_take 9 rfl (by kernel_rfl) (by kernel_rfl) (by kernel_rfl) (fun _ _ _ h => h) rfl (by go_simp) (by intro w' hw'; go_simp; rfl) ?_
              simp only [Act.put, List.setIfInBounds_toArray, List.set_cons_succ, List.set_cons_zero]
              refine hld_take 10 rfl (by kernel_rfl) (by kernel_rfl) (by kernel_rfl) (fun _ _ _ h => h) rfl (by go_simp) (by intro w' hw'; go_simp; rfl) ?_
              simp only [Act.put, List.setIfInBounds_toArray, List.set_cons_succ, List.set_cons_zero]
              refine Hld.of (wpAnyH_all (rs := [0, 6]) (by kernel_rfl) (by simp) fun jj hjj => ?_)
              simp only [List.mem_cons, List.not_mem_nil, or_false] at hjj
              rcases hjj with rfl | rfl
              · refine hld_opr 0 rfl rfl (fun K hK => ?_)
                go_wp2_with fail
                obtain ⟨U1, hU⟩ : ∃ u : World, u = (V).alloc (.cells #[] 30) := ⟨_, rfl⟩
                rw [← hU]
                have hbu : Below (V).heap.size V U1 := by rw [hU]; exact (Below.refl _ _).alloc (Nat.le_refl _) _
                have HO1 := Lib.hid (show (U1).ownsRow W.heap.size 30 6 (.slice (some ⟨(V).heap.size, 0, none⟩) 0 0) 0 [] by rw [hU]; exact World.ownsRow_lit (base := W.heap.size) V #[] 0 HBV.out.size (Nat.zero_le _) (by simp))
                have HBU1 := Lib.hid (HBV.out.trans (hbu.mono HBV.out.size))
                clear hU c0 c1 c2 c3 c4 c5
                have HBX := HBU1
                have HXX := Lib.hid ((HBX.out.block _ (lt20 HXW.out)).trans HXW.out)
                have c0 := cell20 (k := 0) HXX.out
                have c1 := cell20 (k := 1) HXX.out
                have c2 := cell20 (k := 2) HXX.out
                have c3 := cell20 (k := 3) HXX.out
                have c4 := cell20 (k := 4) HXX.out
                have c5 := cell20 (k := 5) HXX.out
                simp only [List.getElem?_toArray, List.getElem?_cons_succ, List.getElem?_cons_zero] at c0 c1 c2 c3 c4 c5
                refine ⟨⟨c0, c1, c2, c3, c4, c5⟩, ?_⟩
                refine Hld.of (wpAnyH_all (rs := [4, 6]) (by kernel_rfl) (by simp) fun jj hjj => ?_)
                simp only [List.mem_cons, List.not_mem_nil, or_false] at hjj
                rcases hjj with rfl | rfl
                · refine hld_opr 4 rfl rfl (fun K hK => ?_)
                  go_wp2_with (at_builtin; go_must (refine wpList_appn Tryz.appEnts rfl _ _ rfl W.heap.size _ 0 [] rfl HO1.out _ (j) (entsC (ys.take (j))) rfl (HP.out.below (by omega) HBU1.out) (entsC_oneC HDT.out) (by omega) HBU1.out.size ?_); intro v1 U2 hown1 hg1)
                  have HBU2 := Lib.hid (below_grown HBU1.out HO1.out hg1 (Nat.le_refl _) HBU1.out.size)
                  have HO2 := Lib.hid (show (U2).ownsRow W.heap.size 30 6 v1 (j) (entsC (ys.take (j))) by rw [Nat.zero_add, List.nil_append] at hown1; exact hown1)
                  have HG1 := Lib.hid hg1
                  obtain ⟨g1, k1, rfl, -, -⟩ := owns_shape HO2.out
                  clear hown1 hg1 c0 c1 c2 c3 c4 c5
                  have HBX := HBU2
                  have HXX := Lib.hid ((HBX.out.block _ (lt20 HXW.out)).trans HXW.out)
                  have c0 := cell20 (k := 0) HXX.out
                  have c1 := cell20 (k := 1) HXX.out
                  have c2 := cell20 (k := 2) HXX.out
                  have c3 := cell20 (k := 3) HXX.out
                  have c4 := cell20 (k := 4) HXX.out
                  have c5 := cell20 (k := 5) HXX.out
                  simp only [List.getElem?_toArray, List.getElem?_cons_succ, List.getElem?_cons_zero] at c0 c1 c2 c3 c4 c5
                  refine ⟨⟨c0, c1, c2, c3, c4, c5⟩, ?_⟩
                  refine hld_bar 6 rfl (by kernel_rfl) rfl (fun K hK => ?_)
                  go_wp2_with fail
                  obtain ⟨U3, hU⟩ : ∃ u : World, u = (U2).alloc (.cells #[.string e.path, .int .i64 e.kind, .int .i64 e.mode, .int .i64 e.time, .slice a1 e.data.length cap1, .string e.link] 30) := ⟨_, rfl⟩
                  rw [← hU]
                  have hbu : Below (U2).heap.size U2 U3 := by rw [hU]; exact (Below.refl _ _).alloc (Nat.le_refl _) _
                  have HZ3 := Lib.hid (show (U3).heap[(U2).heap.size]? = some (.cells #[.string e.path, .int .i64 e.kind, .int .i64 e.mode, .int .i64 e.time, .slice a1 e.data.length cap1, .string e.link] 30 (0, 0)) by rw [hU]; exact new20 _ _)
                  have HBU3 := Lib.hid (HBU2.out.trans (hbu.mono HBU2.out.size))
                  clear hU c0 c1 c2 c3 c4 c5
                  have HBX := HBU3
                  have HXX := Lib.hid ((HBX.out.block _ (lt20 HXW.out)).trans HXW.out)
                  have c0 := cell20 (k := 0) HXX.out
                  have c1 := cell20 (k := 1) HXX.out
                  have c2 := cell20 (k := 2) HXX.out
                  have c3 := cell20 (k := 3) HXX.out
                  have c4 := cell20 (k := 4) HXX.out
                  have c5 := cell20 (k := 5) HXX.out
                  simp only [List.getElem?_toArray, List.getElem?_cons_succ, List.getElem?_cons_zero] at c0 c1 c2 c3 c4 c5
                  refine ⟨⟨c0, c1, c2, c3, c4, c5⟩, ?_⟩
                  have HO3 := Lib.hid (own_below HO2.out hbu)
                  clear hbu
                  refine hld_bar 7 rfl (by kernel_rfl) rfl (fun K hK => ?_)
                  go_wp2_with (at_builtin; go_must (refine wpList_appn Tryz.appEnts rfl _ _ rfl W.heap.size _ (j) (entsC (ys.take (j))) rfl HO3.out _ 1 (entC (.slice a1 e.data.length cap1) e) rfl (row_one HZ3.out) entC_one (by omega) HBU3.out.size ?_); intro v2 U8 hown2 hg2)
                  have HBU8 := Lib.hid (below_grown HBU3.out HO3.out hg2 (Nat.le_refl _) HBU3.out.size)
                  have HO8 := Lib.hid hown2
                  obtain ⟨g2, k2, rfl, -, -⟩ := owns_shape HO8.out
                  clear hown2 hg2 c0 c1 c2 c3 c4 c5
                  have HBX := HBU8
                  have HXX := Lib.hid ((HBX.out.block _ (lt20 HXW.out)).trans HXW.out)
                  have c0 := cell20 (k := 0) HXX.out
                  have c1 := cell20 (k := 1) HXX.out
                  have c2 := cell20 (k := 2) HXX.out
                  have c3 := cell20 (k := 3) HXX.out
                  have c4 := cell20 (k := 4) HXX.out
                  have c5 := cell20 (k := 5) HXX.out
                  simp only [List.getElem?_toArray, List.getElem?_cons_succ, List.getElem?_cons_zero] at c0 c1 c2 c3 c4 c5
                  refine ⟨⟨c0, c1, c2, c3, c4, c5⟩, ?_⟩
                  refine hld_bar 11 rfl (by kernel_rfl) rfl (fun K hK => ?_)
                  go_wp2_with (at_builtin; go_must (refine wpList_appn Tryz.appEnts rfl _ _ rfl W.heap.size _ (j + 1) (entsC (ys.take (j)) ++ entC (.slice a1 e.data.length cap1) e) rfl HO8.out _ (0) (entsC (ys.drop (j))) rfl (HQ.out.below (by omega) HBU8.out) (entsC_oneC HDD.out) (by omega) HBU8.out.size ?_); intro v3 U9 hown3 hg3)
                  have HBU9 := Lib.hid (below_grown HBU8.out HO8.out hg3 (Nat.le_refl _) HBU8.out.size)
                  have HO9 := Lib.hid hown3
                  clear hown3 hg3 c0 c1 c2 c3 c4 c5
                  have HBX := HBU9
                  have HXX := Lib.hid ((HBX.out.block _ (lt20 HXW.out)).trans HXW.out)
                  have c0 := cell20 (k := 0) HXX.out
                  have c1 := cell20 (k := 1) HXX.out
                  have c2 := cell20 (k := 2) HXX.out
                  have c3 := cell20 (k := 3) HXX.out
                  have c4 := cell20 (k := 4) HXX.out
                  have c5 := cell20 (k := 5) HXX.out
                  simp only [List.getElem?_toArray, List.getElem?_cons_succ, List.getElem?_cons_zero] at c0 c1 c2 c3 c4 c5
                  refine ⟨⟨c0, c1, c2, c3, c4, c5⟩, ?_⟩
                  refine hld_take 12 rfl (by kernel_rfl) (by kernel_rfl) (by kernel_rfl) (fun _ _ _ h => h) rfl (by go_simp) (by intro w' hw'; go_simp; rfl) ?_
                  simp only [Act.put, List.setIfInBounds_toArray, List.set_cons_succ, List.set_cons_zero]
                  refine hld_done (by kernel_rfl) ?_
                  go_wp2_with fail
                  go_roundw
                  case rel =>
                    refine ⟨k + 1, by omega, by go_num, ?_⟩
                    rw [preS_step HX.out, ← HM.out]
                    have hb9 := HWL.out.trans (HBU9.out.mono HWL.out.size)
                    have h1 := ins_end (S := fun k => S k ∨ w.heap.size ≤ k) (B0 := w.heap.size) (y := (.slice a1 e.data.length cap1, e)) hb9 HDY.out ⟨HDE.out, HOK.out⟩ (by rw [← HML.out]; exact hjm) (by rw [← HML.out]; first | exact HO9.out | (rw [HMN.out]; exact HO9.out)) (Nat.le_trans HBR.out.size HWL.out.size) (fun _ h => h) (fun _ h => .inr h)
                    rw [HYM.out, ← insE_at (show insAt M e M.length = j by rw [← HM0.out]; exact HJ.out)] at h1
                    refine ⟨h1, below_next HBR.out hb9, ?_⟩
                    rcases HO9.out.2 with ⟨hv, h0⟩ | ⟨g, cp, cur, hv, -⟩
                    · omega
                    · refine .inr ⟨g, 0, cp, ?_⟩
                      obtain ⟨_, _, he, _⟩ := SeqAt.shape h1 EntR.len
                      rw [hv] at he ⊢
                      simp only [Value.slice.injEq] at he
                      rw [he.2.1]
                  case measure => simp [intOf]; omega
                · refine hld_opr 6 rfl rfl (fun K hK => ?_)
                  go_wp2_with fail
                  obtain ⟨U2, hU⟩ : ∃ u : World, u = (U1).alloc (.cells #[.string e.path, .int .i64 e.kind, .int .i64 e.mode, .int .i64 e.time, .slice a1 e.data.length cap1, .string e.link] 30) := ⟨_, rfl⟩
                  rw [← hU]
                  have hbu : Below (U1).heap.size U1 U2 := by rw [hU]; exact (Below.refl _ _).alloc (Nat.le_refl _) _
                  have HZ2 := Lib.hid (show (U2).heap[(U1).heap.size]? = some (.cells #[.string e.path, .int .i64 e.kind, .int .i64 e.mode, .int .i64 e.time, .slice a1 e.data.length cap1, .string e.link] 30 (0, 0)) by rw [hU]; exact new20 _ _)
                  have HBU2 := Lib.hid (HBU1.out.trans (hbu.mono HBU1.out.size))
                  clear hU c0 c1 c2 c3 c4 c5
                  have HBX := HBU2
                  have HXX := Lib.hid ((HBX.out.block _ (lt20 HXW.out)).trans HXW.out)
                  have c0 := cell20 (k := 0) HXX.out
                  have c1 := cell20 (k := 1) HXX.out
                  have c2 := cell20 (k := 2) HXX.out
                  have c3 := cell20 (k := 3) HXX.out
                  have c4 := cell20 (k := 4) HXX.out
                  have c5 := cell20 (k := 5) HXX.out
                  simp only [List.getElem?_toArray, List.getElem?_cons_succ, List.getElem?_cons_zero] at c0 c1 c2 c3 c4 c5
                  refine ⟨⟨c0, c1, c2, c3, c4, c5⟩, ?_⟩
                  have HO2 := Lib.hid (own_below HO1.out hbu)
                  have HLT := Lib.hid (show V.heap.size < U1.heap.size from ((own_lt HO1.out rfl).2))
                  clear hbu
                  refine hld_bar 4 rfl (by kernel_rfl) rfl (fun K hK => ?_)
                  go_wp2_with (at_builtin; go_must (refine wpList_appn Tryz.appEnts rfl _ _ rfl W.heap.size _ 0 [] rfl HO2.out _ (j) (entsC (ys.take (j))) rfl (HP.out.below (by omega) HBU2.out) (entsC_oneC HDT.out) (by omega) HBU2.out.size ?_); intro v1 U3 hown1 hg1)
                  have HBU3 := Lib.hid (below_grown HBU2.out HO2.out hg1 (Nat.le_refl _) HBU2.out.size)
                  have HO3 := Lib.hid (show (U3).ownsRow W.heap.size 30 6 v1 (j) (entsC (ys.take (j))) by rw [Nat.zero_add, List.nil_append] at hown1; exact hown1)
                  have HG1 := Lib.hid hg1
                  obtain ⟨g1, k1, rfl, -, -⟩ := owns_shape HO3.out
                  clear hown1 hg1 c0 c1 c2 c3 c4 c5
                  have HBX := HBU3
                  have HXX := Lib.hid ((HBX.out.block _ (lt20 HXW.out)).trans HXW.out)
                  have c0 := cell20 (k := 0) HXX.out
                  have c1 := cell20 (k := 1) HXX.out
                  have c2 := cell20 (k := 2) HXX.out
                  have c3 := cell20 (k := 3) HXX.out
                  have c4 := cell20 (k := 4) HXX.out
                  have c5 := cell20 (k := 5) HXX.out
                  simp only [List.getElem?_toArray, List.getElem?_cons_succ, List.getElem?_cons_zero] at c0 c1 c2 c3 c4 c5
                  refine ⟨⟨c0, c1, c2, c3, c4, c5⟩, ?_⟩
                  have HZ3 := Lib.hid ((HG1.out.block _ (lt20 HZ2.out) (fun e' => by have h1 : U1.heap.size = V.heap.size := Option.some.inj e'; have h2 := HLT.out; omega)).trans HZ2.out)
                  refine hld_bar 7 rfl (by kernel_rfl) rfl (fun K hK => ?_)
                  go_wp2_with (at_builtin; go_must (refine wpList_appn Tryz.appEnts rfl _ _ rfl W.heap.size _ (j) (entsC (ys.take (j))) rfl HO3.out _ 1 (entC (.slice a1 e.data.length cap1) e) rfl (row_one HZ3.out) entC_one (by omega) HBU3.out.size ?_); intro v2 U8 hown2 hg2)
                  have HBU8 := Lib.hid (below_grown HBU3.out HO3.out hg2 (Nat.le_refl _) HBU3.out.size)
                  have HO8 := Lib.hid hown2
                  obtain ⟨g2, k2, rfl, -, -⟩ := owns_shape HO8.out
                  clear hown2 hg2 c0 c1 c2 c3 c4 c5
                  have HBX := HBU8
                  have HXX := Lib.hid ((HBX.out.block _ (lt20 HXW.out)).trans HXW.out)
                  have c0 := cell20 (k := 0) HXX.out
                  have c1 := cell20 (k := 1) HXX.out
                  have c2 := cell20 (k := 2) HXX.out
                  have c3 := cell20 (k := 3) HXX.out
                  have c4 := cell20 (k := 4) HXX.out
                  have c5 := cell20 (k := 5) HXX.out
                  simp only [List.getElem?_toArray, List.getElem?_cons_succ, List.getElem?_cons_zero] at c0 c1 c2 c3 c4 c5
                  refine ⟨⟨c0, c1, c2, c3, c4, c5⟩, ?_⟩
                  refine hld_bar 11 rfl (by kernel_rfl) rfl (fun K hK => ?_)
                  go_wp2_with (at_builtin; go_must (refine wpList_appn Tryz.appEnts rfl _ _ rfl W.heap.size _ (j + 1) (entsC (ys.take (j)) ++ entC (.slice a1 e.data.length cap1) e) rfl HO8.out _ (0) (entsC (ys.drop (j))) rfl (HQ.out.below (by omega) HBU8.out) (entsC_oneC HDD.out) (by omega) HBU8.out.size ?_); intro v3 U9 hown3 hg3)
                  have HBU9 := Lib.hid (below_grown HBU8.out HO8.out hg3 (Nat.le_refl _) HBU8.out.size)
                  have HO9 := Lib.hid hown3
                  clear hown3 hg3 c0 c1 c2 c3 c4 c5
                  have HBX := HBU9
                  have HXX := Lib.hid ((HBX.out.block _ (lt20 HXW.out)).trans HXW.out)
                  have c0 := cell20 (k := 0) HXX.out
                  have c1 := cell20 (k := 1) HXX.out
                  have c2 := cell20 (k := 2) HXX.out
                  have c3 := cell20 (k := 3) HXX.out
                  have c4 := cell20 (k := 4) HXX.out
                  have c5 := cell20 (k := 5) HXX.out
                  simp only [List.getElem?_toArray, List.getElem?_cons_succ, List.getElem?_cons_zero] at c0 c1 c2 c3 c4 c5
                  refine ⟨⟨c0, c1, c2, c3, c4, c5⟩, ?_⟩
                  refine hld_take 12 rfl (by kernel_rfl) (by kernel_rfl) (by kernel_rfl) (fun _ _ _ h => h) rfl (by go_simp) (by intro w' hw'; go_simp; rfl) ?_
                  simp only [Act.put, List.setIfInBounds_toArray, List.set_cons_succ, List.set_cons_zero]
                  refine hld_done (by kernel_rfl) ?_
                  go_wp2_with fail
                  go_roundw
                  case rel =>
                    refine ⟨k + 1, by omega, by go_num, ?_⟩
                    rw [preS_step HX.out, ← HM.out]
                    have hb9 := HWL.out.trans (HBU9.out.mono HWL.out.size)
                    have h1 := ins_end (S := fun k => S k ∨ w.heap.size ≤ k) (B0 := w.heap.size) (y := (.slice a1 e.data.length cap1, e)) hb9 HDY.out ⟨HDE.out, HOK.out⟩ (by rw [← HML.out]; exact hjm) (by rw [← HML.out]; first | exact HO9.out | (rw [HMN.out]; exact HO9.out)) (Nat.le_trans HBR.out.size HWL.out.size) (fun _ h => h) (fun _ h => .inr h)
                    rw [HYM.out, ← insE_at (show insAt M e M.length = j by rw [← HM0.out]; exact HJ.out)] at h1
                    refine ⟨h1, below_next HBR.out hb9, ?_⟩
                    rcases HO9.out.2 with ⟨hv, h0⟩ | ⟨g, cp, cur, hv, -⟩
                    · omega
                    · refine .inr ⟨g, 0, cp, ?_⟩
                      obtain ⟨_, _, he, _⟩ := SeqAt.shape h1 EntR.len
                      rw [hv] at he ⊢
                      simp only [Value.slice.injEq] at he
                      rw [he.2.1]
                  case measure => simp [intOf]; omega
              · refine hld_opr 6 rfl rfl (fun K hK => ?_)
                go_wp2_with fail
                obtain ⟨U1, hU⟩ : ∃ u : World, u = (V).alloc (.cells #[.string e.path, .int .i64 e.kind, .int .i64 e.mode, .int .i64 e.time, .slice a1 e.data.length cap1, .string e.link] 30) := ⟨_, rfl⟩
                rw [← hU]
                have hbu : Below (V).heap.size V U1 := by rw [hU]; exact (Below.refl _ _).alloc (Nat.le_refl _) _
                have HZ1 := Lib.hid (show (U1).heap[(V).heap.size]? = some (.cells #[.string e.path, .int .i64 e.kind, .int .i64 e.mode, .int .i64 e.time, .slice a1 e.data.length cap1, .string e.link] 30 (0, 0)) by rw [hU]; exact new20 _ _)
                have HBU1 := Lib.hid (HBV.out.trans (hbu.mono HBV.out.size))
                clear hU c0 c1 c2 c3 c4 c5
                have HBX := HBU1
                have HXX := Lib.hid ((HBX.out.block _ (lt20 HXW.out)).trans HXW.out)
                have c0 := cell20 (k := 0) HXX.out
                have c1 := cell20 (k := 1) HXX.out
                have c2 := cell20 (k := 2) HXX.out
                have c3 := cell20 (k := 3) HXX.out
                have c4 := cell20 (k := 4) HXX.out
                have c5 := cell20 (k := 5) HXX.out
                simp only [List.getElem?_toArray, List.getElem?_cons_succ, List.getElem?_cons_zero] at c0 c1 c2 c3 c4 c5
                refine ⟨⟨c0, c1, c2, c3, c4, c5⟩, ?_⟩
                clear hbu
                refine hld_bar 0 rfl (by kernel_rfl) rfl (fun K hK => ?_)
                go_wp2_with fail
                obtain ⟨U2, hU⟩ : ∃ u : World, u = (U1).alloc (.cells #[] 30) := ⟨_, rfl⟩
                rw [← hU]
                have hbu : Below (U1).heap.size U1 U2 := by rw [hU]; exact (Below.refl _ _).alloc (Nat.le_refl _) _
                have HO2 := Lib.hid (show (U2).ownsRow W.heap.size 30 6 (.slice (some ⟨(U1).heap.size, 0, none⟩) 0 0) 0 [] by rw [hU]; exact World.ownsRow_lit (base := W.heap.size) U1 #[] 0 HBU1.out.size (Nat.zero_le _) (by simp))
                have HBU2 := Lib.hid (HBU1.out.trans (hbu.mono HBU1.out.size))
                clear hU c0 c1 c2 c3 c4 c5
                have HBX := HBU2
                have HXX := Lib.hid ((HBX.out.block _ (lt20 HXW.out)).trans HXW.out)
                have c0 := cell20 (k := 0) HXX.out
                have c1 := cell20 (k := 1) HXX.out
                have c2 := cell20 (k := 2) HXX.out
                have c3 := cell20 (k := 3) HXX.out
                have c4 := cell20 (k := 4) HXX.out
                have c5 := cell20 (k := 5) HXX.out
                simp only [List.getElem?_toArray, List.getElem?_cons_succ, List.getElem?_cons_zero] at c0 c1 c2 c3 c4 c5
                refine ⟨⟨c0, c1, c2, c3, c4, c5⟩, ?_⟩
                have HZ2 := Lib.hid ((hbu.block _ (lt20 HZ1.out)).trans HZ1.out)
                have HLT := Lib.hid (show V.heap.size < U1.heap.size from lt20 HZ1.out)
                clear hbu
                refine hld_bar 4 rfl (by kernel_rfl) rfl (fun K hK => ?_)
                go_wp2_with (at_builtin; go_must (refine wpList_appn Tryz.appEnts rfl _ _ rfl W.heap.size _ 0 [] rfl HO2.out _ (j) (entsC (ys.take (j))) rfl (HP.out.below (by omega) HBU2.out) (entsC_oneC HDT.out) (by omega) HBU2.out.size ?_); intro v1 U3 hown1 hg1)
                have HBU3 := Lib.hid (below_grown HBU2.out HO2.out hg1 (Nat.le_refl _) HBU2.out.size)
                have HO3 := Lib.hid (show (U3).ownsRow W.heap.size 30 6 v1 (j) (entsC (ys.take (j))) by rw [Nat.zero_add, List.nil_append] at hown1; exact hown1)
                have HG1 := Lib.hid hg1
                obtain ⟨g1, k1, rfl, -, -⟩ := owns_shape HO3.out
                clear hown1 hg1 c0 c1 c2 c3 c4 c5
                have HBX := HBU3
                have HXX := Lib.hid ((HBX.out.block _ (lt20 HXW.out)).trans HXW.out)
                have c0 := cell20 (k := 0) HXX.out
                have c1 := cell20 (k := 1) HXX.out
                have c2 := cell20 (k := 2) HXX.out
                have c3 := cell20 (k := 3) HXX.out
                have c4 := cell20 (k := 4) HXX.out
                have c5 := cell20 (k := 5) HXX.out
                simp only [List.getElem?_toArray, List.getElem?_cons_succ, List.getElem?_cons_zero] at c0 c1 c2 c3 c4 c5
                refine ⟨⟨c0, c1, c2, c3, c4, c5⟩, ?_⟩
                have HZ3 := Lib.hid ((HG1.out.block _ (lt20 HZ2.out) (fun e' => by have h1 : V.heap.size = U1.heap.size := Option.some.inj e'; have h2 := HLT.out; omega)).trans HZ2.out)
                refine hld_bar 7 rfl (by kernel_rfl) rfl (fun K hK => ?_)
                go_wp2_with (at_builtin; go_must (refine wpList_appn Tryz.appEnts rfl _ _ rfl W.heap.size _ (j) (entsC (ys.take (j))) rfl HO3.out _ 1 (entC (.slice a1 e.data.length cap1) e) rfl (row_one HZ3.out) entC_one (by omega) HBU3.out.size ?_); intro v2 U8 hown2 hg2)
                have HBU8 := Lib.hid (below_grown HBU3.out HO3.out hg2 (Nat.le_refl _) HBU3.out.size)
                have HO8 := Lib.hid hown2
                obtain ⟨g2, k2, rfl, -, -⟩ := owns_shape HO8.out
                clear hown2 hg2 c0 c1 c2 c3 c4 c5
                have HBX := HBU8
                have HXX := Lib.hid ((HBX.out.block _ (lt20 HXW.out)).trans HXW.out)
                have c0 := cell20 (k := 0) HXX.out
                have c1 := cell20 (k := 1) HXX.out
                have c2 := cell20 (k := 2) HXX.out
                have c3 := cell20 (k := 3) HXX.out
                have c4 := cell20 (k := 4) HXX.out
                have c5 := cell20 (k := 5) HXX.out
                simp only [List.getElem?_toArray, List.getElem?_cons_succ, List.getElem?_cons_zero] at c0 c1 c2 c3 c4 c5
                refine ⟨⟨c0, c1, c2, c3, c4, c5⟩, ?_⟩
                refine hld_bar 11 rfl (by kernel_rfl) rfl (fun K hK => ?_)
                go_wp2_with (at_builtin; go_must (refine wpList_appn Tryz.appEnts rfl _ _ rfl W.heap.size _ (j + 1) (entsC (ys.take (j)) ++ entC (.slice a1 e.data.length cap1) e) rfl HO8.out _ (0) (entsC (ys.drop (j))) rfl (HQ.out.below (by omega) HBU8.out) (entsC_oneC HDD.out) (by omega) HBU8.out.size ?_); intro v3 U9 hown3 hg3)
                have HBU9 := Lib.hid (below_grown HBU8.out HO8.out hg3 (Nat.le_refl _) HBU8.out.size)
                have HO9 := Lib.hid hown3
                clear hown3 hg3 c0 c1 c2 c3 c4 c5
                have HBX := HBU9
                have HXX := Lib.hid ((HBX.out.block _ (lt20 HXW.out)).trans HXW.out)
                have c0 := cell20 (k := 0) HXX.out
                have c1 := cell20 (k := 1) HXX.out
                have c2 := cell20 (k := 2) HXX.out
                have c3 := cell20 (k := 3) HXX.out
                have c4 := cell20 (k := 4) HXX.out
                have c5 := cell20 (k := 5) HXX.out
                simp only [List.getElem?_toArray, List.getElem?_cons_succ, List.getElem?_cons_zero] at c0 c1 c2 c3 c4 c5
                refine ⟨⟨c0, c1, c2, c3, c4, c5⟩, ?_⟩
                refine hld_take 12 rfl (by kernel_rfl) (by kernel_rfl) (by kernel_rfl) (fun _ _ _ h => h) rfl (by go_simp) (by intro w' hw'; go_simp; rfl) ?_
                simp only [Act.put, List.setIfInBounds_toArray, List.set_cons_succ, List.set_cons_zero]
                refine hld_done (by kernel_rfl) ?_
                go_wp2_with fail
                go_roundw
                case rel =>
                  refine ⟨k + 1, by omega, by go_num, ?_⟩
                  rw [preS_step HX.out, ← HM.out]
                  have hb9 := HWL.out.trans (HBU9.out.mono HWL.out.size)
                  have h1 := ins_end (S := fun k => S k ∨ w.heap.size ≤ k) (B0 := w.heap.size) (y := (.slice a1 e.data.length cap1, e)) hb9 HDY.out ⟨HDE.out, HOK.out⟩ (by rw [← HML.out]; exact hjm) (by rw [← HML.out]; first | exact HO9.out | (rw [HMN.out]; exact HO9.out)) (Nat.le_trans HBR.out.size HWL.out.size) (fun _ h => h) (fun _ h => .inr h)
                  rw [HYM.out, ← insE_at (show insAt M e M.length = j by rw [← HM0.out]; exact HJ.out)] at h1
                  refine ⟨h1, below_next HBR.out hb9, ?_⟩
                  rcases HO9.out.2 with ⟨hv, h0⟩ | ⟨g, cp, cur, hv, -⟩
                  · omega
                  · refine .inr ⟨g, 0, cp, ?_⟩
                    obtain ⟨_, _, he, _⟩ := SeqAt.shape h1 EntR.len
                    rw [hv] at he ⊢
                    simp only [Value.slice.injEq] at he
                    rw [he.2.1]
                case measure => simp [intOf]; omega
            · have HQ := Lib.hid (show RowAt (fun k => S k ∨ w.heap.size ≤ k) W 6 (.slice (some ⟨b1, o1 + j * 6, none⟩) (m - j) (cv - j)) (m - j) (entsC (ys.drop j)) from by
                rw [entsC_drop]
                exact (row_drop hrw hjm).below (by omega) HWL.out)
              have hjc2 : j < cv := by omega
              have hjc3 : j ≤ cv := by omega
              clear hrw hjc
              refine hld_take 1 rfl (by kernel_rfl) (by kernel_rfl) (by kernel_rfl) (fun _ _ _ h => h) rfl (by go_simp) (by intro w' hw'; go_simp; rfl) ?_
              simp only [Act.put, List.setIfInBounds_toArray, List.set_cons_succ, List.set_cons_zero]
              refine hld_take 2 rfl (by kernel_rfl) (by kernel_rfl) (by kernel_rfl) (fun _ _ _ h => h) rfl (by go_simp) (by intro w' hw'; go_simp; rfl) ?_
              simp only [Act.put, List.setIfInBounds_toArray, List.set_cons_succ, List.set_cons_zero]
              refine hld_take 3 rfl (by kernel_rfl) (by kernel_rfl) (by kernel_rfl) (fun _ _ _ h => h) rfl (by go_simp) (by intro w' hw'; go_simp; rfl) ?_
              simp only [Act.put, List.setIfInBounds_toArray, List.set_cons_succ, List.set_cons_zero]
              refine hld_take 5 rfl (by kernel_rfl) (by kernel_rfl) (by kernel_rfl) (fun _ _ _ h => h) rfl ⟨c0, c1, c2, c3, c4, c5⟩ (by rintro w' ⟨h0, h1, h2, h3, h4, h5⟩; go_simp; rfl) ?_
              simp only [Act.put, List.setIfInBounds_toArray, List.set_cons_succ, List.set_cons_zero]
              refine hld_take 8 rfl (by kernel_rfl) (by kernel_rfl) (by kernel_rfl) (fun _ _ _ h => h) rfl (by go_simp) (by intro w' hw'; go_simp; rfl) ?_
              simp only [Act.put, List.setIfInBounds_toArray, List.set_cons_succ, List.set_cons_zero]
              refine hld_take 9 rfl (by kernel_rfl) (by kernel_rfl) (by kernel_rfl) (fun _ _ _ h => h) rfl (by go_simp) (by intro w' hw'; go_simp; rfl) ?_
              simp only [Act.put, List.setIfInBounds_toArray, List.set_cons_succ, List.set_cons_zero]
              refine hld_take 10 rfl (by kernel_rfl) (by kernel_rfl) (by kernel_rfl) (fun _ _ _ h => h) rfl (by go_simp) (by intro w' hw'; go_simp; rfl) ?_
              simp only [Act.put, List.setIfInBounds_toArray, List.set_cons_succ, List.set_cons_zero]
              refine Hld.of (wpAnyH_all (rs := [0, 6]) (by kernel_rfl) (by simp) fun jj hjj => ?_)
              simp only [List.mem_cons, List.not_mem_nil, or_false] at hjj
              rcases hjj with rfl | rfl
              · refine hld_opr 0 rfl rfl (fun K hK => ?_)
                go_wp2_with fail
                obtain ⟨U1, hU⟩ : ∃ u : World, u = (V).alloc (.cells #[] 30) := ⟨_, rfl⟩
                rw [← hU]
                have hbu : Below (V).heap.size V U1 := by rw [hU]; exact (Below.refl _ _).alloc (Nat.le_refl _) _
                have HO1 := Lib.hid (show (U1).ownsRow W.heap.size 30 6 (.slice (some ⟨(V).heap.size, 0, none⟩) 0 0) 0 [] by rw [hU]; exact World.ownsRow_lit (base := W.heap.size) V #[] 0 HBV.out.size (Nat.zero_le _) (by simp))
                have HBU1 := Lib.hid (HBV.out.trans (hbu.mono HBV.out.size))
                clear hU c0 c1 c2 c3 c4 c5
                have HBX := HBU1
                have HXX := Lib.hid ((HBX.out.block _ (lt20 HXW.out)).trans HXW.out)
                have c0 := cell20 (k := 0) HXX.out
                have c1 := cell20 (k := 1) HXX.out
                have c2 := cell20 (k := 2) HXX.out
                have c3 := cell20 (k := 3) HXX.out
                have c4 := cell20 (k := 4) HXX.out
                have c5 := cell20 (k := 5) HXX.out
                simp only [List.getElem?_toArray, List.getElem?_cons_succ, List.getElem?_cons_zero] at c0 c1 c2 c3 c4 c5
                refine ⟨⟨c0, c1, c2, c3, c4, c5⟩, ?_⟩
                refine Hld.of (wpAnyH_all (rs := [4, 6]) (by kernel_rfl) (by simp) fun jj hjj => ?_)
                simp only [List.mem_cons, List.not_mem_nil, or_false] at hjj
                rcases hjj with rfl | rfl
                · refine hld_opr 4 rfl rfl (fun K hK => ?_)
                  go_wp2_with (at_builtin; go_must (refine wpList_appn Tryz.appEnts rfl _ _ rfl W.heap.size _ 0 [] rfl HO1.out _ (j) (entsC (ys.take (j))) rfl (HP.out.below (by omega) HBU1.out) (entsC_oneC HDT.out) (by omega) HBU1.out.size ?_); intro v1 U2 hown1 hg1)
                  have HBU2 := Lib.hid (below_grown HBU1.out HO1.out hg1 (Nat.le_refl _) HBU1.out.size)
                  have HO2 := Lib.hid (show (U2).ownsRow W.heap.size 30 6 v1 (j) (entsC (ys.take (j))) by rw [Nat.zero_add, List.nil_append] at hown1; exact hown1)
                  have HG1 := Lib.hid hg1
                  obtain ⟨g1, k1, rfl, -, -⟩ := owns_shape HO2.out
                  clear hown1 hg1 c0 c1 c2 c3 c4 c5
                  have HBX := HBU2
                  have HXX := Lib.hid ((HBX.out.block _ (lt20 HXW.out)).trans HXW.out)
                  have c0 := cell20 (k := 0) HXX.out
                  have c1 := cell20 (k := 1) HXX.out
                  have c2 := cell20 (k := 2) HXX.out
                  have c3 := cell20 (k := 3) HXX.out
                  have c4 := cell20 (k := 4) HXX.out
                  have c5 := cell20 (k := 5) HXX.out
                  simp only [List.getElem?_toArray, List.getElem?_cons_succ, List.getElem?_cons_zero] at c0 c1 c2 c3 c4 c5
                  refine ⟨⟨c0, c1, c2, c3, c4, c5⟩, ?_⟩
                  refine hld_bar 6 rfl (by kernel_rfl) rfl (fun K hK => ?_)
                  go_wp2_with fail
                  obtain ⟨U3, hU⟩ : ∃ u : World, u = (U2).alloc (.cells #[.string e.path, .int .i64 e.kind, .int .i64 e.mode, .int .i64 e.time, .slice a1 e.data.length cap1, .string e.link] 30) := ⟨_, rfl⟩
                  rw [← hU]
                  have hbu : Below (U2).heap.size U2 U3 := by rw [hU]; exact (Below.refl _ _).alloc (Nat.le_refl _) _
                  have HZ3 := Lib.hid (show (U3).heap[(U2).heap.size]? = some (.cells #[.string e.path, .int .i64 e.kind, .int .i64 e.mode, .int .i64 e.time, .slice a1 e.data.length cap1, .string e.link] 30 (0, 0)) by rw [hU]; exact new20 _ _)
                  have HBU3 := Lib.hid (HBU2.out.trans (hbu.mono HBU2.out.size))
                  clear hU c0 c1 c2 c3 c4 c5
                  have HBX := HBU3
                  have HXX := Lib.hid ((HBX.out.block _ (lt20 HXW.out)).trans HXW.out)
                  have c0 := cell20 (k := 0) HXX.out
                  have c1 := cell20 (k := 1) HXX.out
                  have c2 := cell20 (k := 2) HXX.out
                  have c3 := cell20 (k := 3) HXX.out
                  have c4 := cell20 (k := 4) HXX.out
                  have c5 := cell20 (k := 5) HXX.out
                  simp only [List.getElem?_toArray, List.getElem?_cons_succ, List.getElem?_cons_zero] at c0 c1 c2 c3 c4 c5
                  refine ⟨⟨c0, c1, c2, c3, c4, c5⟩, ?_⟩
                  have HO3 := Lib.hid (own_below HO2.out hbu)
                  clear hbu
                  refine hld_bar 7 rfl (by kernel_rfl) rfl (fun K hK => ?_)
                  go_wp2_with (at_builtin; go_must (refine wpList_appn Tryz.appEnts rfl _ _ rfl W.heap.size _ (j) (entsC (ys.take (j))) rfl HO3.out _ 1 (entC (.slice a1 e.data.length cap1) e) rfl (row_one HZ3.out) entC_one (by omega) HBU3.out.size ?_); intro v2 U8 hown2 hg2)
                  have HBU8 := Lib.hid (below_grown HBU3.out HO3.out hg2 (Nat.le_refl _) HBU3.out.size)
                  have HO8 := Lib.hid hown2
                  obtain ⟨g2, k2, rfl, -, -⟩ := owns_shape HO8.out
                  clear hown2 hg2 c0 c1 c2 c3 c4 c5
                  have HBX := HBU8
                  have HXX := Lib.hid ((HBX.out.block _ (lt20 HXW.out)).trans HXW.out)
                  have c0 := cell20 (k := 0) HXX.out
                  have c1 := cell20 (k := 1) HXX.out
                  have c2 := cell20 (k := 2) HXX.out
                  have c3 := cell20 (k := 3) HXX.out
                  have c4 := cell20 (k := 4) HXX.out
                  have c5 := cell20 (k := 5) HXX.out
                  simp only [List.getElem?_toArray, List.getElem?_cons_succ, List.getElem?_cons_zero] at c0 c1 c2 c3 c4 c5
                  refine ⟨⟨c0, c1, c2, c3, c4, c5⟩, ?_⟩
                  refine hld_bar 11 rfl (by kernel_rfl) rfl (fun K hK => ?_)
                  go_wp2_with (at_builtin; go_must (refine wpList_appn Tryz.appEnts rfl _ _ rfl W.heap.size _ (j + 1) (entsC (ys.take (j)) ++ entC (.slice a1 e.data.length cap1) e) rfl HO8.out _ (m - j) (entsC (ys.drop (j))) rfl (HQ.out.below (by omega) HBU8.out) (entsC_oneC HDD.out) (by omega) HBU8.out.size ?_); intro v3 U9 hown3 hg3)
                  have HBU9 := Lib.hid (below_grown HBU8.out HO8.out hg3 (Nat.le_refl _) HBU8.out.size)
                  have HO9 := Lib.hid hown3
                  clear hown3 hg3 c0 c1 c2 c3 c4 c5
                  have HBX := HBU9
                  have HXX := Lib.hid ((HBX.out.block _ (lt20 HXW.out)).trans HXW.out)
                  have c0 := cell20 (k := 0) HXX.out
                  have c1 := cell20 (k := 1) HXX.out
                  have c2 := cell20 (k := 2) HXX.out
                  have c3 := cell20 (k := 3) HXX.out
                  have c4 := cell20 (k := 4) HXX.out
                  have c5 := cell20 (k := 5) HXX.out
                  simp only [List.getElem?_toArray, List.getElem?_cons_succ, List.getElem?_cons_zero] at c0 c1 c2 c3 c4 c5
                  refine ⟨⟨c0, c1, c2, c3, c4, c5⟩, ?_⟩
                  refine hld_take 12 rfl (by kernel_rfl) (by kernel_rfl) (by kernel_rfl) (fun _ _ _ h => h) rfl (by go_simp) (by intro w' hw'; go_simp; rfl) ?_
                  simp only [Act.put, List.setIfInBounds_toArray, List.set_cons_succ, List.set_cons_zero]
                  refine hld_done (by kernel_rfl) ?_
                  go_wp2_with fail
                  go_roundw
                  case rel =>
                    refine ⟨k + 1, by omega, by go_num, ?_⟩
                    rw [preS_step HX.out, ← HM.out]
                    have hb9 := HWL.out.trans (HBU9.out.mono HWL.out.size)
                    have h1 := ins_end (S := fun k => S k ∨ w.heap.size ≤ k) (B0 := w.heap.size) (y := (.slice a1 e.data.length cap1, e)) hb9 HDY.out ⟨HDE.out, HOK.out⟩ (by rw [← HML.out]; exact hjm) (by rw [← HML.out]; first | exact HO9.out | (rw [HMN.out]; exact HO9.out)) (Nat.le_trans HBR.out.size HWL.out.size) (fun _ h => h) (fun _ h => .inr h)
                    rw [HYM.out, ← insE_at (show insAt M e M.length = j by rw [← HM0.out]; exact HJ.out)] at h1
                    refine ⟨h1, below_next HBR.out hb9, ?_⟩
                    rcases HO9.out.2 with ⟨hv, h0⟩ | ⟨g, cp, cur, hv, -⟩
                    · omega
                    · refine .inr ⟨g, 0, cp, ?_⟩
                      obtain ⟨_, _, he, _⟩ := SeqAt.shape h1 EntR.len
                      rw [hv] at he ⊢
                      simp only [Value.slice.injEq] at he
                      rw [he.2.1]
                  case measure => simp [intOf]; omega
                · refine hld_opr 6 rfl rfl (fun K hK => ?_)
                  go_wp2_with fail
                  obtain ⟨U2, hU⟩ : ∃ u : World, u = (U1).alloc (.cells #[.string e.path, .int .i64 e.kind, .int .i64 e.mode, .int .i64 e.time, .slice a1 e.data.length cap1, .string e.link] 30) := ⟨_, rfl⟩
                  rw [← hU]
                  have hbu : Below (U1).heap.size U1 U2 := by rw [hU]; exact (Below.refl _ _).alloc (Nat.le_refl _) _
                  have HZ2 := Lib.hid (show (U2).heap[(U1).heap.size]? = some (.cells #[.string e.path, .int .i64 e.kind, .int .i64 e.mode, .int .i64 e.time, .slice a1 e.data.length cap1, .string e.link] 30 (0, 0)) by rw [hU]; exact new20 _ _)
                  have HBU2 := Lib.hid (HBU1.out.trans (hbu.mono HBU1.out.size))
                  clear hU c0 c1 c2 c3 c4 c5
                  have HBX := HBU2
                  have HXX := Lib.hid ((HBX.out.block _ (lt20 HXW.out)).trans HXW.out)
                  have c0 := cell20 (k := 0) HXX.out
                  have c1 := cell20 (k := 1) HXX.out
                  have c2 := cell20 (k := 2) HXX.out
                  have c3 := cell20 (k := 3) HXX.out
                  have c4 := cell20 (k := 4) HXX.out
                  have c5 := cell20 (k := 5) HXX.out
                  simp only [List.getElem?_toArray, List.getElem?_cons_succ, List.getElem?_cons_zero] at c0 c1 c2 c3 c4 c5
                  refine ⟨⟨c0, c1, c2, c3, c4, c5⟩, ?_⟩
                  have HO2 := Lib.hid (own_below HO1.out hbu)
                  have HLT := Lib.hid (show V.heap.size < U1.heap.size from ((own_lt HO1.out rfl).2))
                  clear hbu
                  refine hld_bar 4 rfl (by kernel_rfl) rfl (fun K hK => ?_)
                  go_wp2_with (at_builtin; go_must (refine wpList_appn Tryz.appEnts rfl _ _ rfl W.heap.size _ 0 [] rfl HO2.out _ (j) (entsC (ys.take (j))) rfl (HP.out.below (by omega) HBU2.out) (entsC_oneC HDT.out) (by omega) HBU2.out.size ?_); intro v1 U3 hown1 hg1)
                  have HBU3 := Lib.hid (below_grown HBU2.out HO2.out hg1 (Nat.le_refl _) HBU2.out.size)
                  have HO3 := Lib.hid (show (U3).ownsRow W.heap.size 30 6 v1 (j) (entsC (ys.take (j))) by rw [Nat.zero_add, List.nil_append] at hown1; exact hown1)
                  have HG1 := Lib.hid hg1
                  obtain ⟨g1, k1, rfl, -, -⟩ := owns_shape HO3.out
                  clear hown1 hg1 c0 c1 c2 c3 c4 c5
                  have HBX := HBU3
                  have HXX := Lib.hid ((HBX.out.block _ (lt20 HXW.out)).trans HXW.out)
                  have c0 := cell20 (k := 0) HXX.out
                  have c1 := cell20 (k := 1) HXX.out
                  have c2 := cell20 (k := 2) HXX.out
                  have c3 := cell20 (k := 3) HXX.out
                  have c4 := cell20 (k := 4) HXX.out
                  have c5 := cell20 (k := 5) HXX.out
                  simp only [List.getElem?_toArray, List.getElem?_cons_succ, List.getElem?_cons_zero] at c0 c1 c2 c3 c4 c5
                  refine ⟨⟨c0, c1, c2, c3, c4, c5⟩, ?_⟩
                  have HZ3 := Lib.hid ((HG1.out.block _ (lt20 HZ2.out) (fun e' => by have h1 : U1.heap.size = V.heap.size := Option.some.inj e'; have h2 := HLT.out; omega)).trans HZ2.out)
                  refine hld_bar 7 rfl (by kernel_rfl) rfl (fun K hK => ?_)
                  go_wp2_with (at_builtin; go_must (refine wpList_appn Tryz.appEnts rfl _ _ rfl W.heap.size _ (j) (entsC (ys.take (j))) rfl HO3.out _ 1 (entC (.slice a1 e.data.length cap1) e) rfl (row_one HZ3.out) entC_one (by omega) HBU3.out.size ?_); intro v2 U8 hown2 hg2)
                  have HBU8 := Lib.hid (below_grown HBU3.out HO3.out hg2 (Nat.le_refl _) HBU3.out.size)
                  have HO8 := Lib.hid hown2
                  obtain ⟨g2, k2, rfl, -, -⟩ := owns_shape HO8.out
                  clear hown2 hg2 c0 c1 c2 c3 c4 c5
                  have HBX := HBU8
                  have HXX := Lib.hid ((HBX.out.block _ (lt20 HXW.out)).trans HXW.out)
                  have c0 := cell20 (k := 0) HXX.out
                  have c1 := cell20 (k := 1) HXX.out
                  have c2 := cell20 (k := 2) HXX.out
                  have c3 := cell20 (k := 3) HXX.out
                  have c4 := cell20 (k := 4) HXX.out
                  have c5 := cell20 (k := 5) HXX.out
                  simp only [List.getElem?_toArray, List.getElem?_cons_succ, List.getElem?_cons_zero] at c0 c1 c2 c3 c4 c5
                  refine ⟨⟨c0, c1, c2, c3, c4, c5⟩, ?_⟩
                  refine hld_bar 11 rfl (by kernel_rfl) rfl (fun K hK => ?_)
                  go_wp2_with (at_builtin; go_must (refine wpList_appn Tryz.appEnts rfl _ _ rfl W.heap.size _ (j + 1) (entsC (ys.take (j)) ++ entC (.slice a1 e.data.length cap1) e) rfl HO8.out _ (m - j) (entsC (ys.drop (j))) rfl (HQ.out.below (by omega) HBU8.out) (entsC_oneC HDD.out) (by omega) HBU8.out.size ?_); intro v3 U9 hown3 hg3)
                  have HBU9 := Lib.hid (below_grown HBU8.out HO8.out hg3 (Nat.le_refl _) HBU8.out.size)
                  have HO9 := Lib.hid hown3
                  clear hown3 hg3 c0 c1 c2 c3 c4 c5
                  have HBX := HBU9
                  have HXX := Lib.hid ((HBX.out.block _ (lt20 HXW.out)).trans HXW.out)
                  have c0 := cell20 (k := 0) HXX.out
                  have c1 := cell20 (k := 1) HXX.out
                  have c2 := cell20 (k := 2) HXX.out
                  have c3 := cell20 (k := 3) HXX.out
                  have c4 := cell20 (k := 4) HXX.out
                  have c5 := cell20 (k := 5) HXX.out
                  simp only [List.getElem?_toArray, List.getElem?_cons_succ, List.getElem?_cons_zero] at c0 c1 c2 c3 c4 c5
                  refine ⟨⟨c0, c1, c2, c3, c4, c5⟩, ?_⟩
                  refine hld_take 12 rfl (by kernel_rfl) (by kernel_rfl) (by kernel_rfl) (fun _ _ _ h => h) rfl (by go_simp) (by intro w' hw'; go_simp; rfl) ?_
                  simp only [Act.put, List.setIfInBounds_toArray, List.set_cons_succ, List.set_cons_zero]
                  refine hld_done (by kernel_rfl) ?_
                  go_wp2_with fail
                  go_roundw
                  case rel =>
                    refine ⟨k + 1, by omega, by go_num, ?_⟩
                    rw [preS_step HX.out, ← HM.out]
                    have hb9 := HWL.out.trans (HBU9.out.mono HWL.out.size)
                    have h1 := ins_end (S := fun k => S k ∨ w.heap.size ≤ k) (B0 := w.heap.size) (y := (.slice a1 e.data.length cap1, e)) hb9 HDY.out ⟨HDE.out, HOK.out⟩ (by rw [← HML.out]; exact hjm) (by rw [← HML.out]; first | exact HO9.out | (rw [HMN.out]; exact HO9.out)) (Nat.le_trans HBR.out.size HWL.out.size) (fun _ h => h) (fun _ h => .inr h)
                    rw [HYM.out, ← insE_at (show insAt M e M.length = j by rw [← HM0.out]; exact HJ.out)] at h1
                    refine ⟨h1, below_next HBR.out hb9, ?_⟩
                    rcases HO9.out.2 with ⟨hv, h0⟩ | ⟨g, cp, cur, hv, -⟩
                    · omega
                    · refine .inr ⟨g, 0, cp, ?_⟩
                      obtain ⟨_, _, he, _⟩ := SeqAt.shape h1 EntR.len
                      rw [hv] at he ⊢
                      simp only [Value.slice.injEq] at he
                      rw [he.2.1]
                  case measure => simp [intOf]; omega
              · refine hld_opr 6 rfl rfl (fun K hK => ?_)
                go_wp2_with fail
                obtain ⟨U1, hU⟩ : ∃ u : World, u = (V).alloc (.cells #[.string e.path, .int .i64 e.kind, .int .i64 e.mode, .int .i64 e.time, .slice a1 e.data.length cap1, .string e.link] 30) := ⟨_, rfl⟩
                rw [← hU]
                have hbu : Below (V).heap.size V U1 := by rw [hU]; exact (Below.refl _ _).alloc (Nat.le_refl _) _
                have HZ1 := Lib.hid (show (U1).heap[(V).heap.size]? = some (.cells #[.string e.path, .int .i64 e.kind, .int .i64 e.mode, .int .i64 e.time, .slice a1 e.data.length cap1, .string e.link] 30 (0, 0)) by rw [hU]; exact new20 _ _)
                have HBU1 := Lib.hid (HBV.out.trans (hbu.mono HBV.out.size))
                clear hU c0 c1 c2 c3 c4 c5
                have HBX := HBU1
                have HXX := Lib.hid ((HBX.out.block _ (lt20 HXW.out)).trans HXW.out)
                have c0 := cell20 (k := 0) HXX.out
                have c1 := cell20 (k := 1) HXX.out
                have c2 := cell20 (k := 2) HXX.out
                have c3 := cell20 (k := 3) HXX.out
                have c4 := cell20 (k := 4) HXX.out
                have c5 := cell20 (k := 5) HXX.out
                simp only [List.getElem?_toArray, List.getElem?_cons_succ, List.getElem?_cons_zero] at c0 c1 c2 c3 c4 c5
                refine ⟨⟨c0, c1, c2, c3, c4, c5⟩, ?_⟩
                clear hbu
                refine hld_bar 0 rfl (by kernel_rfl) rfl (fun K hK => ?_)
                go_wp2_with fail
                obtain ⟨U2, hU⟩ : ∃ u : World, u = (U1).alloc (.cells #[] 30) := ⟨_, rfl⟩
                rw [← hU]
                have hbu : Below (U1).heap.size U1 U2 := by rw [hU]; exact (Below.refl _ _).alloc (Nat.le_refl _) _
                have HO2 := Lib.hid (show (U2).ownsRow W.heap.size 30 6 (.slice (some ⟨(U1).heap.size, 0, none⟩) 0 0) 0 [] by rw [hU]; exact World.ownsRow_lit (base := W.heap.size) U1 #[] 0 HBU1.out.size (Nat.zero_le _) (by simp))
                have HBU2 := Lib.hid (HBU1.out.trans (hbu.mono HBU1.out.size))
                clear hU c0 c1 c2 c3 c4 c5
                have HBX := HBU2
                have HXX := Lib.hid ((HBX.out.block _ (lt20 HXW.out)).trans HXW.out)
                have c0 := cell20 (k := 0) HXX.out
                have c1 := cell20 (k := 1) HXX.out
                have c2 := cell20 (k := 2) HXX.out
                have c3 := cell20 (k := 3) HXX.out
                have c4 := cell20 (k := 4) HXX.out
                have c5 := cell20 (k := 5) HXX.out
                simp only [List.getElem?_toArray, List.getElem?_cons_succ, List.getElem?_cons_zero] at c0 c1 c2 c3 c4 c5
                refine ⟨⟨c0, c1, c2, c3, c4, c5⟩, ?_⟩
                have HZ2 := Lib.hid ((hbu.block _ (lt20 HZ1.out)).trans HZ1.out)
                have HLT := Lib.hid (show V.heap.size < U1.heap.size from lt20 HZ1.out)
                clear hbu
                refine hld_bar 4 rfl (by kernel_rfl) rfl (fun K hK => ?_)
                go_wp2_with (at_builtin; go_must (refine wpList_appn Tryz.appEnts rfl _ _ rfl W.heap.size _ 0 [] rfl HO2.out _ (j) (entsC (ys.take (j))) rfl (HP.out.below (by omega) HBU2.out) (entsC_oneC HDT.out) (by omega) HBU2.out.size ?_); intro v1 U3 hown1 hg1)
                have HBU3 := Lib.hid (below_grown HBU2.out HO2.out hg1 (Nat.le_refl _) HBU2.out.size)
                have HO3 := Lib.hid (show (U3).ownsRow W.heap.size 30 6 v1 (j) (entsC (ys.take (j))) by rw [Nat.zero_add, List.nil_append] at hown1; exact hown1)
                have HG1 := Lib.hid hg1
                obtain ⟨g1, k1, rfl, -, -⟩ := owns_shape HO3.out
                clear hown1 hg1 c0 c1 c2 c3 c4 c5
                have HBX := HBU3
                have HXX := Lib.hid ((HBX.out.block _ (lt20 HXW.out)).trans HXW.out)
                have c0 := cell20 (k := 0) HXX.out
                have c1 := cell20 (k := 1) HXX.out
                have c2 := cell20 (k := 2) HXX.out
                have c3 := cell20 (k := 3) HXX.out
                have c4 := cell20 (k := 4) HXX.out
                have c5 := cell20 (k := 5) HXX.out
                simp only [List.getElem?_toArray, List.getElem?_cons_succ, List.getElem?_cons_zero] at c0 c1 c2 c3 c4 c5
                refine ⟨⟨c0, c1, c2, c3, c4, c5⟩, ?_⟩
                have HZ3 := Lib.hid ((HG1.out.block _ (lt20 HZ2.out) (fun e' => by have h1 : V.heap.size = U1.heap.size := Option.some.inj e'; have h2 := HLT.out; omega)).trans HZ2.out)
                refine hld_bar 7 rfl (by kernel_rfl) rfl (fun K hK => ?_)
                go_wp2_with (at_builtin; go_must (refine wpList_appn Tryz.appEnts rfl _ _ rfl W.heap.size _ (j) (entsC (ys.take (j))) rfl HO3.out _ 1 (entC (.slice a1 e.data.length cap1) e) rfl (row_one HZ3.out) entC_one (by omega) HBU3.out.size ?_); intro v2 U8 hown2 hg2)
                have HBU8 := Lib.hid (below_grown HBU3.out HO3.out hg2 (Nat.le_refl _) HBU3.out.size)
                have HO8 := Lib.hid hown2
                obtain ⟨g2, k2, rfl, -, -⟩ := owns_shape HO8.out
                clear hown2 hg2 c0 c1 c2 c3 c4 c5
                have HBX := HBU8
                have HXX := Lib.hid ((HBX.out.block _ (lt20 HXW.out)).trans HXW.out)
                have c0 := cell20 (k := 0) HXX.out
                have c1 := cell20 (k := 1) HXX.out
                have c2 := cell20 (k := 2) HXX.out
                have c3 := cell20 (k := 3) HXX.out
                have c4 := cell20 (k := 4) HXX.out
                have c5 := cell20 (k := 5) HXX.out
                simp only [List.getElem?_toArray, List.getElem?_cons_succ, List.getElem?_cons_zero] at c0 c1 c2 c3 c4 c5
                refine ⟨⟨c0, c1, c2, c3, c4, c5⟩, ?_⟩
                refine hld_bar 11 rfl (by kernel_rfl) rfl (fun K hK => ?_)
                go_wp2_with (at_builtin; go_must (refine wpList_appn Tryz.appEnts rfl _ _ rfl W.heap.size _ (j + 1) (entsC (ys.take (j)) ++ entC (.slice a1 e.data.length cap1) e) rfl HO8.out _ (m - j) (entsC (ys.drop (j))) rfl (HQ.out.below (by omega) HBU8.out) (entsC_oneC HDD.out) (by omega) HBU8.out.size ?_); intro v3 U9 hown3 hg3)
                have HBU9 := Lib.hid (below_grown HBU8.out HO8.out hg3 (Nat.le_refl _) HBU8.out.size)
                have HO9 := Lib.hid hown3
                clear hown3 hg3 c0 c1 c2 c3 c4 c5
                have HBX := HBU9
                have HXX := Lib.hid ((HBX.out.block _ (lt20 HXW.out)).trans HXW.out)
                have c0 := cell20 (k := 0) HXX.out
                have c1 := cell20 (k := 1) HXX.out
                have c2 := cell20 (k := 2) HXX.out
                have c3 := cell20 (k := 3) HXX.out
                have c4 := cell20 (k := 4) HXX.out
                have c5 := cell20 (k := 5) HXX.out
                simp only [List.getElem?_toArray, List.getElem?_cons_succ, List.getElem?_cons_zero] at c0 c1 c2 c3 c4 c5
                refine ⟨⟨c0, c1, c2, c3, c4, c5⟩, ?_⟩
                refine hld_take 12 rfl (by kernel_rfl) (by kernel_rfl) (by kernel_rfl) (fun _ _ _ h => h) rfl (by go_simp) (by intro w' hw'; go_simp; rfl) ?_
                simp only [Act.put, List.setIfInBounds_toArray, List.set_cons_succ, List.set_cons_zero]
                refine hld_done (by kernel_rfl) ?_
                go_wp2_with fail
                go_roundw
                case rel =>
                  refine ⟨k + 1, by omega, by go_num, ?_⟩
                  rw [preS_step HX.out, ← HM.out]
                  have hb9 := HWL.out.trans (HBU9.out.mono HWL.out.size)
                  have h1 := ins_end (S := fun k => S k ∨ w.heap.size ≤ k) (B0 := w.heap.size) (y := (.slice a1 e.data.length cap1, e)) hb9 HDY.out ⟨HDE.out, HOK.out⟩ (by rw [← HML.out]; exact hjm) (by rw [← HML.out]; first | exact HO9.out | (rw [HMN.out]; exact HO9.out)) (Nat.le_trans HBR.out.size HWL.out.size) (fun _ h => h) (fun _ h => .inr h)
                  rw [HYM.out, ← insE_at (show insAt M e M.length = j by rw [← HM0.out]; exact HJ.out)] at h1
                  refine ⟨h1, below_next HBR.out hb9, ?_⟩
                  rcases HO9.out.2 with ⟨hv, h0⟩ | ⟨g, cp, cur, hv, -⟩
                  · omega
                  · refine .inr ⟨g, 0, cp, ?_⟩
                    obtain ⟨_, _, he, _⟩ := SeqAt.shape h1 EntR.len
                    rw [hv] at he ⊢
                    simp only [Value.slice.injEq] at he
                    rw [he.2.1]
                case measure => simp [intOf]; omega
    · have hk2 : k = n := by omega
      have HS2 := Lib.hid (show EntsAt (fun k => S k ∨ w.heap.size ≤ k) wo _ (sortP L) by
        have h1 := HES.out
        rw [HM.out, hk2, HN.out, preS_all] at h1
        exact h1)
      go_wp2_with fail
      go_ret
      exact ⟨_, rfl, HS2.out, HBR.out⟩

end Go.Proofs.YtbkhdpocmmjnbaaGreatDoor

/- Contracts of the specification kinkeepref20: Put. -/
namespace Go.Proofs.YtbkhdpocmmjnbaaGreatDoor
open Go Go.RowKit Go.Maps


theorem ents_mo {S T : Nat → Prop} {w : World} {v : Value} {l : List Ent} (h : EntsAt S w v l) (hs : ∀ k, k < w.heap.size → S k → T k) : EntsAt T w v l :=
  SeqAt.mono h (by omega) hs (fun c x _ hr => by
    obtain ⟨v, r1, r2, r3⟩ := hr
    exact ⟨v, r1, RowAt.mono r2 hs (by omega), r3⟩)
theorem nodup_idx {L : List Ent} (h : (L.map Ent.path).Nodup) {k j : Nat} {e f : Ent} (hk : L[k]? = some e) (hj : L[j]? = some f) (hp : e.path = f.path) : k = j := by
  obtain ⟨h1, h2⟩ := List.getElem?_eq_some_iff.1 hk
  obtain ⟨h3, h4⟩ := List.getElem?_eq_some_iff.1 hj
  have := (List.getElem_inj (h₀ := by simpa using h1) (h₁ := by simpa using h3) h).1 (by simp [h2, h4, hp])
  exact this
theorem filter_len {L : List Ent} (F : Ent → Bool) : (L.filter F).length ≤ L.length := List.length_filter_le F L
theorem rlist_of {S : Nat → Prop} {r : List Ent × Int} {w w1 w' : World} {e : Ending} (hb : Below w.heap.size w w1) (h : RList S r w1 e w') : RList S r w e w' := by
  obtain ⟨v, h1, h2, h3⟩ := h
  exact ⟨v, h1, ents_mo h2 (fun k _ hk => hk.imp id (Nat.le_trans hb.size)), below_next hb h3⟩
set_option maxRecDepth 100000 in
set_option maxHeartbeats 4000000 in
theorem r_put_any (S : Nat → Prop) (L : List Ent) (v ev : Value) (en : Ent) (w : World) (hv : EntsAt S w v L) (ht : TOk L) (hd : DataAt S w ev en.data) (hok : EntOk en) (hpe : en.path.size ≤ 65000) :
    Calls Tryz.prog 28 #[v, entV ev en] w (RList S (putP L en) w) := by
  have HV := Lib.hid hv
  have HT := Lib.hid ht
  have HD := Lib.hid hd
  have HOK := Lib.hid hok
  have HPN := Lib.hid hpe
  have HPS := Lib.hid (show ∀ e ∈ L, e.path.size ≤ 65000 from fun e he => by have := valid_size (vEnt_path (ht.val e he)); rw [size_bl]; omega)
  obtain ⟨a, cap, rfl, hc, hm, -⟩ := SeqAt.shape hv EntR.len
  obtain ⟨ap, cp, rfl, hcp, hmp⟩ := hd.slice
  unfold maxLen at hm hmp
  obtain ⟨n, hn⟩ : ∃ n, n = L.length := ⟨_, rfl⟩
  have hn4 : n ≤ 4096 := by rw [hn]; exact ht.len
  have HN := Lib.hid hn
  rw [← hn] at hc HV ⊢
  obtain ⟨F, hF⟩ : ∃ F : Ent → Bool, F = fun x => decide (x.path ≠ en.path) := ⟨_, rfl⟩
  have HF := Lib.hid hF
  obtain ⟨q, hq⟩ : ∃ q : ByteArray, q = ⟨(parentL (bl en.path)).toArray⟩ := ⟨_, rfl⟩
  have HQ := Lib.hid hq
  have HQB := Lib.hid (show bl q = parentL (bl en.path) by rw [hq, bl_mk])
  have HMS := Lib.hid (show ∀ e ∈ L.filter F ++ [en], e.path.size ≤ 65000 from fun e he => by
    rcases List.mem_append.1 he with he | he
    · exact HPS.out e (List.mem_filter.1 he).1
    · rw [List.mem_singleton.1 he]; exact hpe)
  have HML := Lib.hid (show (L.filter F ++ [en]).length ≤ 8200 by
    have h1 := filter_len (L := L) F
    rw [List.length_append, List.length_singleton]
    omega)
  clear hv ht hd hok hpe hn hF hq
  unfold entV
  go_enter Tryz.func28, Tryz.ntmps28
  go_wp2_with fail
  obtain ⟨w1, hw1⟩ : ∃ w1, w1 = w.alloc (.cells #[.string en.path, .int .i64 en.kind, .int .i64 en.mode, .int .i64 en.time, .slice ap en.data.length cp, .string en.link] 30) := ⟨_, rfl⟩
  rw [← hw1]
  have HX1 := Lib.hid (show w1.heap[w.heap.size]? = some (.cells #[.string en.path, .int .i64 en.kind, .int .i64 en.mode, .int .i64 en.time, .slice ap en.data.length cp, .string en.link] 30 (0, 0)) by rw [hw1]; exact new20 w _)
  have HB1 := Lib.hid (show Below w.heap.size w w1 by rw [hw1]; exact (Below.refl _ _).alloc (Nat.le_refl _) _)
  clear hw1
  have HV := Lib.hid (HV.out.below HB1.out)
  have HD := Lib.hid (DataAt.below HD.out HB1.out)
  cases hvb : vEnt en
  · have HPM := Lib.hid (show putP L en = (L, 1) by unfold putP; rw [if_pos hvb])
    have HVB := Lib.hid hvb
    clear hvb
    refine (r_validE_is _ en (.slice ap en.data.length cp) false _ HD.out HOK.out (by have := HPN.out; omega) HVB.out).mono ?_
    rintro e w2 ⟨rfl, hb2⟩
    have HB2 := Lib.hid hb2
    clear hb2
    go_wp2_with fail
    go_ret2
    exact rlist_of HB1.out ⟨.slice a n cap, by rw [HPM.out]; rfl, by rw [HPM.out]; exact ents_wide HV.out HB2.out, HB2.out⟩
  have HVB := Lib.hid hvb
  have HP0 := Lib.hid (show putP L en = if dirE L (bl q) ≠ 0 then (L, dirE L (bl q)) else match findE L en.path with
    | some f => if f.kind ≠ en.kind then (L, 13) else (sortP (L.filter F ++ [en]), 0)
    | none => if 4096 ≤ n then (L, 7) else (sortP (L ++ [en]), 0) by unfold putP; rw [hvb, HQB.out, HF.out, HN.out]; rfl)
  clear hvb
  refine (r_validE_is _ en (.slice ap en.data.length cp) true _ HD.out HOK.out (by have := HPN.out; omega) HVB.out).mono ?_
  rintro e w2 ⟨rfl, hb2⟩
  have HB2 := Lib.hid hb2
  have HX2 := Lib.hid ((hb2.block _ (lt20 HX1.out)).trans HX1.out)
  clear hb2
  have c0 := cell20 (k := 0) HX2.out
  have c1 := cell20 (k := 1) HX2.out
  have c2 := cell20 (k := 2) HX2.out
  have c3 := cell20 (k := 3) HX2.out
  have c4 := cell20 (k := 4) HX2.out
  have c5 := cell20 (k := 5) HX2.out
  simp only [List.getElem?_toArray, List.getElem?_cons_succ, List.getElem?_cons_zero] at c0 c1 c2 c3 c4 c5
  go_wp2_with fail
  refine (r_parent_is en.path q _ HPN.out HQ.out).mono ?_
  rintro e w3 ⟨rfl, hb3⟩
  have HB3 := Lib.hid (below_next HB2.out hb3)
  have HX3 := Lib.hid ((hb3.block _ (lt20 HX2.out)).trans HX2.out)
  clear hb3 c0 c1 c2 c3 c4 c5
  go_wp2_with fail
  obtain ⟨x, hx⟩ : ∃ x, dirE L (bl q) = x := ⟨_, rfl⟩
  have HXD := Lib.hid hx
  refine (r_dir_is S L _ q x _ (HV.out.below HB3.out) HXD.out).mono ?_
  rintro e w4 ⟨rfl, hb4⟩
  have HB4 := Lib.hid (below_next HB3.out hb4)
  have HX4 := Lib.hid ((hb4.block _ (lt20 HX3.out)).trans HX3.out)
  clear hb4
  by_cases hx0 : x = 0
  case neg =>
    have e1 : (x != 0) = true := by simp [hx0]
    have HPM := Lib.hid (show putP L en = (L, x) by rw [HP0.out, hx, if_pos hx0])
    clear hx hx0
    go_wp2_with fail
    go_ret2
    exact rlist_of HB1.out ⟨.slice a n cap, by rw [HPM.out]; rfl, by rw [HPM.out]; exact ents_wide HV.out HB4.out, HB4.out⟩
  subst hx0
  have HP1 := Lib.hid (HP0.out.trans (if_neg (by rw [hx]; simp)))
  clear hx
  have c0 := cell20 (k := 0) HX4.out
  have c1 := cell20 (k := 1) HX4.out
  have c2 := cell20 (k := 2) HX4.out
  have c3 := cell20 (k := 3) HX4.out
  have c4 := cell20 (k := 4) HX4.out
  have c5 := cell20 (k := 5) HX4.out
  simp only [List.getElem?_toArray, List.getElem?_cons_succ, List.getElem?_cons_zero] at c0 c1 c2 c3 c4 c5
  go_wp2_with fail
  rcases findIx_spec (p := en.path) L 0 with ⟨hf, hix⟩ | ⟨j, f, hf, hjf, hix⟩
  · have HFX := Lib.hid hix
    have HF0 := Lib.hid hf
    have HPZ := Lib.hid (show putP L en = if 4096 ≤ n then (L, 7) else (sortP (L ++ [en]), 0) by have h1 := HP1.out; rw [hf] at h1; exact h1)
    clear hix hf
    refine (r_find_is S L _ en.path (-1) _ (HV.out.below HB4.out) HFX.out).mono ?_
    rintro e w5 ⟨rfl, hb5⟩
    have HB5 := Lib.hid (below_next HB4.out hb5)
    have HX5 := Lib.hid ((hb5.block _ (lt20 HX4.out)).trans HX4.out)
    clear hb5 c0 c1 c2 c3 c4 c5
    go_wp2_with fail
    go_quiet (fail)
    obtain ⟨w6, hw6⟩ : ∃ w6, w6 = w5.drewN nq := ⟨_, rfl⟩
    rw [← hw6]
    have HB6 := Lib.hid (show Below w1.heap.size w1 w6 from below_next HB5.out (by rw [hw6]; exact ⟨rfl, rfl, rfl, Nat.le_refl _, fun _ _ => rfl⟩))
    clear hw6
    by_cases h4 : 4096 ≤ n
    · have e2 : decide (4096 ≤ n) = true := by simp [h4]
      have HPM := Lib.hid (show putP L en = (L, 7) by rw [HPZ.out, if_pos h4])
      go_wp2_with fail
      go_ret2
      exact rlist_of HB1.out ⟨.slice a n cap, by rw [HPM.out]; rfl, by rw [HPM.out]; exact ents_wide HV.out HB6.out, HB6.out⟩
    · have e2 : decide (4096 ≤ n) = false := by simp; omega
      have HPM := Lib.hid (show putP L en = (sortP (L.filter F ++ [en]), 0) by
        rw [HPZ.out, if_neg h4, HF.out, List.filter_eq_self.2 (fun x hx => by simpa using findE_none HF0.out x hx)])
      go_wp2_with fail
      go_loopw [8, 51] (fun v i wr => ∃ (k : Nat) (ys : List VEnt), k ≤ n ∧ i = .int .i64 k ∧ LoopG S w1 ((L.take k).filter F) ys v wr) (fun _ i _ => n - (intOf i).toNat)
      case atStart => exact ⟨0, [], Nat.zero_le _, rfl, by simpa using LoopG.nil S w1 HB6.out⟩
      case round =>
        obtain ⟨k, ys, hk, rfl, hlg⟩ := hrel
        have HLG := Lib.hid hlg
        obtain ⟨av, cv, hsv, hvn, hvm, hyl⟩ := hlg.shape
        subst hsv
        have hyk : ys.length ≤ k := by rw [hyl]; exact filt_le L F k
        clear hyl
        unfold maxLen at hvm
        clear hlg
        by_cases hlt : k < n
        · have hlt2 := hlt
          obtain ⟨e, he⟩ : ∃ e, L[k]? = some e := ⟨L[k]'(by rw [← HN.out]; exact hlt), by simp⟩
          obtain ⟨b, o, dv, hab, -, hb, hd, hok, -, q0, q1, q2, q3, q4, q5⟩ := ents_at HV.out he
          subst hab
          have r0 := (HLG.out.2.2.2.cell (block_lt q0)).trans q0
          have r1 := (HLG.out.2.2.2.cell (block_lt q1)).trans q1
          have r2 := (HLG.out.2.2.2.cell (block_lt q2)).trans q2
          have r3 := (HLG.out.2.2.2.cell (block_lt q3)).trans q3
          have r4 := (HLG.out.2.2.2.cell (block_lt q4)).trans q4
          have r5 := (HLG.out.2.2.2.cell (block_lt q5)).trans q5
          have HX := Lib.hid he
          have HD := Lib.hid hd
          have HOK := Lib.hid hok
          have HPE := Lib.hid (HPS.out e (List.mem_of_getElem? he))
          obtain ⟨a1, cap1, rfl, hd1, hd2⟩ := hd.slice
          unfold maxLen at hd2
          clear he hd hok q0 q1 q2 q3 q4 q5
          go_upto_region 15 with (fail)
          obtain ⟨W, hW⟩ : ∃ W, W = wr.alloc (.cells #[.string e.path, .int .i64 e.kind, .int .i64 e.mode, .int .i64 e.time, .slice a1 e.data.length cap1, .string e.link] 30) := ⟨_, rfl⟩
          rw [← hW]
          have HXW := Lib.hid (show W.heap[wr.heap.size]? = some (.cells #[.string e.path, .int .i64 e.kind, .int .i64 e.mode, .int .i64 e.time, .slice a1 e.data.length cap1, .string e.link] 30 (0, 0)) by rw [hW]; exact new20 wr _)
          have HWL := Lib.hid (show Below wr.heap.size wr W by rw [hW]; exact (Below.refl _ _).alloc (Nat.le_refl _) _)
          clear hW r0 r1 r2 r3 r4 r5
          have HFE := Lib.hid (show F e = true by rw [HF.out]; simpa using findE_none HF0.out e (List.mem_of_getElem? HX.out))
          have e5 : ((k : Int) != -1) = true := by simp <;> omega
          have HO7 := Lib.hid (HLG.out.below HWL.out)
          have hsz7 : w1.heap.size ≤ W.heap.size := HO7.out.2.2.2.size
          have c0 := cell20 (k := 0) HXW.out
          have c1 := cell20 (k := 1) HXW.out
          have c2 := cell20 (k := 2) HXW.out
          have c3 := cell20 (k := 3) HXW.out
          have c4 := cell20 (k := 4) HXW.out
          have c5 := cell20 (k := 5) HXW.out
          simp only [List.getElem?_toArray, List.getElem?_cons_succ, List.getElem?_cons_zero] at c0 c1 c2 c3 c4 c5
          go_wp2_with (at_builtin; go_must (refine wpList_app1p Tryz.appEnts rfl _ _ rfl w1.heap.size (.slice av ys.length cv) ys.length (entsC ys) rfl W (entC (.slice a1 e.data.length cap1) e) _ rfl rfl entC_one HO7.out.2.1 (by omega) hsz7 ?_); intro v' w8 hown8 hgrow8 _ _; have HPU := Lib.hid (HO7.out.push (y := (.slice a1 e.data.length cap1, e)) HD.out HOK.out hown8 hgrow8); clear hown8 hgrow8)
          go_wp2_with fail
          go_roundw
          case rel =>
            refine ⟨k + 1, ys ++ [(.slice a1 e.data.length cap1, e)], by omega, by go_num, ?_⟩
            rw [filt_step HX.out, if_pos HFE.out]
            exact HPU.out
          case measure => simp [intOf]; omega
        · have hk2 : k = n := by omega
          have hlx := HLG.out
          rw [hk2, HN.out, List.take_length] at hlx
          have HLX := Lib.hid hlx
          have HXR := Lib.hid ((HLX.out.2.2.2.block _ (lt20 HX1.out)).trans HX1.out)
          have hsz7 : w1.heap.size ≤ wr.heap.size := HLX.out.2.2.2.size
          have hyn : ys.length ≤ 4096 := by omega
          clear hlx hk2
          have c0 := cell20 (k := 0) HXR.out
          have c1 := cell20 (k := 1) HXR.out
          have c2 := cell20 (k := 2) HXR.out
          have c3 := cell20 (k := 3) HXR.out
          have c4 := cell20 (k := 4) HXR.out
          have c5 := cell20 (k := 5) HXR.out
          simp only [List.getElem?_toArray, List.getElem?_cons_succ, List.getElem?_cons_zero] at c0 c1 c2 c3 c4 c5
          go_wp2_with (at_builtin; go_must (refine wpList_app1p Tryz.appEnts rfl _ _ rfl w1.heap.size (.slice av ys.length cv) ys.length (entsC ys) rfl wr (entC (.slice ap en.data.length cp) en) _ rfl rfl entC_one HLX.out.2.1 (by omega) hsz7 ?_); intro v' w8 hown8 hgrow8 _ _; have HPU := Lib.hid (HLX.out.push (y := (.slice ap en.data.length cp, en)) HD.out HOK.out hown8 hgrow8); clear hown8 hgrow8)
          refine (r_sorted_any (fun k => S k ∨ w1.heap.size ≤ k) (L.filter F ++ [en]) _ _ HPU.out.out HMS.out HML.out).mono ?_
          rintro e9 w9 ⟨v9, rfl, h9, hb9⟩
          have H9 := Lib.hid (ents_mo (T := fun k => S k ∨ w1.heap.size ≤ k) h9 (fun k _ hk => by
            rcases hk with hk | hk
            · exact hk
            · exact .inr (Nat.le_trans HPU.out.2.2.2.size hk)))
          have HB9 := Lib.hid (below_next HPU.out.2.2.2 hb9)
          clear h9 hb9 c0 c1 c2 c3 c4 c5
          go_wp2_with fail
          go_ret2
          exact rlist_of HB1.out ⟨v9, by rw [HPM.out]; rfl, by rw [HPM.out]; exact H9.out, HB9.out⟩
  · have HFX := Lib.hid (show findIx L en.path 0 = (j : Int) by rw [hix]; simp)
    have HF0 := Lib.hid hf
    have HJF := Lib.hid hjf
    have hjn : j < n := by rw [HN.out]; exact (List.getElem?_eq_some_iff.1 hjf).1
    have HPZ := Lib.hid (show putP L en = if f.kind ≠ en.kind then (L, 13) else (sortP (L.filter F ++ [en]), 0) by have h1 := HP1.out; rw [hf] at h1; exact h1)
    clear hix hf
    refine (r_find_is S L _ en.path (j : Int) _ (HV.out.below HB4.out) HFX.out).mono ?_
    rintro e w5 ⟨rfl, hb5⟩
    have HB5 := Lib.hid (below_next HB4.out hb5)
    have HX5 := Lib.hid ((hb5.block _ (lt20 HX4.out)).trans HX4.out)
    clear hb5 c0 c1 c2 c3 c4 c5
    obtain ⟨b0, o0, dv, rfl, -, -, -, -, -, -, q1, -⟩ := ents_at (HV.out.below HB5.out) hjf
    clear hjf
    have c0 := cell20 (k := 0) HX5.out
    have c1 := cell20 (k := 1) HX5.out
    have c2 := cell20 (k := 2) HX5.out
    have c3 := cell20 (k := 3) HX5.out
    have c4 := cell20 (k := 4) HX5.out
    have c5 := cell20 (k := 5) HX5.out
    simp only [List.getElem?_toArray, List.getElem?_cons_succ, List.getElem?_cons_zero] at c0 c1 c2 c3 c4 c5
    go_wp2_with fail
    by_cases hfk : f.kind = en.kind
    · have e3 : (f.kind != en.kind) = false := by simp [hfk]
      have HPM := Lib.hid (show putP L en = (sortP (L.filter F ++ [en]), 0) by rw [HPZ.out, if_neg (fun h => h hfk)])
      go_quiet (fail)
      obtain ⟨w6, hw6⟩ : ∃ w6, w6 = w5.drewN nq := ⟨_, rfl⟩
      rw [← hw6]
      have HB6 := Lib.hid (show Below w1.heap.size w1 w6 from below_next HB5.out (by rw [hw6]; exact ⟨rfl, rfl, rfl, Nat.le_refl _, fun _ _ => rfl⟩))
      clear hw6 c0 c1 c2 c3 c4 c5 hfk q1
      go_wp2_with fail
      go_loopw [8, 51] (fun v i wr => ∃ (k : Nat) (ys : List VEnt), k ≤ n ∧ i = .int .i64 k ∧ LoopG S w1 ((L.take k).filter F) ys v wr) (fun _ i _ => n - (intOf i).toNat)
      case atStart => exact ⟨0, [], Nat.zero_le _, rfl, by simpa using LoopG.nil S w1 HB6.out⟩
      case round =>
        obtain ⟨k, ys, hk, rfl, hlg⟩ := hrel
        have HLG := Lib.hid hlg
        obtain ⟨av, cv, hsv, hvn, hvm, hyl⟩ := hlg.shape
        subst hsv
        have hyk : ys.length ≤ k := by rw [hyl]; exact filt_le L F k
        clear hyl
        unfold maxLen at hvm
        clear hlg
        by_cases hlt : k < n
        · have hlt2 := hlt
          obtain ⟨e, he⟩ : ∃ e, L[k]? = some e := ⟨L[k]'(by rw [← HN.out]; exact hlt), by simp⟩
          obtain ⟨b, o, dv, hab, -, hb, hd, hok, -, q0, q1, q2, q3, q4, q5⟩ := ents_at HV.out he
          (obtain ⟨rfl, rfl⟩ : b0 = b ∧ o0 = o := by simpa using hab)
          have r0 := (HLG.out.2.2.2.cell (block_lt q0)).trans q0
          have r1 := (HLG.out.2.2.2.cell (block_lt q1)).trans q1
          have r2 := (HLG.out.2.2.2.cell (block_lt q2)).trans q2
          have r3 := (HLG.out.2.2.2.cell (block_lt q3)).trans q3
          have r4 := (HLG.out.2.2.2.cell (block_lt q4)).trans q4
          have r5 := (HLG.out.2.2.2.cell (block_lt q5)).trans q5
          have HX := Lib.hid he
          have HD := Lib.hid hd
          have HOK := Lib.hid hok
          have HPE := Lib.hid (HPS.out e (List.mem_of_getElem? he))
          obtain ⟨a1, cap1, rfl, hd1, hd2⟩ := hd.slice
          unfold maxLen at hd2
          clear he hd hok q0 q1 q2 q3 q4 q5
          go_upto_region 15 with (fail)
          obtain ⟨W, hW⟩ : ∃ W, W = wr.alloc (.cells #[.string e.path, .int .i64 e.kind, .int .i64 e.mode, .int .i64 e.time, .slice a1 e.data.length cap1, .string e.link] 30) := ⟨_, rfl⟩
          rw [← hW]
          have HXW := Lib.hid (show W.heap[wr.heap.size]? = some (.cells #[.string e.path, .int .i64 e.kind, .int .i64 e.mode, .int .i64 e.time, .slice a1 e.data.length cap1, .string e.link] 30 (0, 0)) by rw [hW]; exact new20 wr _)
          have HWL := Lib.hid (show Below wr.heap.size wr W by rw [hW]; exact (Below.refl _ _).alloc (Nat.le_refl _) _)
          clear hW r0 r1 r2 r3 r4 r5
          by_cases hkj : k = j
          · have HFE := Lib.hid (show ¬ F e = true by
              have h1 := HX.out
              rw [hkj, HJF.out] at h1
              cases h1
              rw [HF.out]
              simp [(findE_some HF0.out).2])
            have e5 : (k != j) = false := by simp [hkj]
            have e6 : ((k : Int) != (j : Int)) = false := by simp [hkj]
            clear hkj
            go_wp2_with fail
            go_roundw
            case rel =>
              refine ⟨k + 1, ys, by omega, by go_num, ?_⟩
              rw [filt_step HX.out, if_neg HFE.out, List.append_nil]
              exact HLG.out.below HWL.out
            case measure => simp [intOf]; omega
          · have HFE := Lib.hid (show F e = true by
              rw [HF.out]
              have h1 : e.path ≠ en.path := fun h => hkj (nodup_idx HT.out.nodup HX.out HJF.out (h.trans (findE_some HF0.out).2.symm))
              simpa using h1)
            have e5 : (k != j) = true := by simp [hkj]
            have e6 : ((k : Int) != (j : Int)) = true := by simp; omega
            clear hkj
            have HO7 := Lib.hid (HLG.out.below HWL.out)
            have hsz7 : w1.heap.size ≤ W.heap.size := HO7.out.2.2.2.size
            have c0 := cell20 (k := 0) HXW.out
            have c1 := cell20 (k := 1) HXW.out
            have c2 := cell20 (k := 2) HXW.out
            have c3 := cell20 (k := 3) HXW.out
            have c4 := cell20 (k := 4) HXW.out
            have c5 := cell20 (k := 5) HXW.out
            simp only [List.getElem?_toArray, List.getElem?_cons_succ, List.getElem?_cons_zero] at c0 c1 c2 c3 c4 c5
            go_wp2_with (at_builtin; go_must (refine wpList_app1p Tryz.appEnts rfl _ _ rfl w1.heap.size (.slice av ys.length cv) ys.length (entsC ys) rfl W (entC (.slice a1 e.data.length cap1) e) _ rfl rfl entC_one HO7.out.2.1 (by omega) hsz7 ?_); intro v' w8 hown8 hgrow8 _ _; have HPU := Lib.hid (HO7.out.push (y := (.slice a1 e.data.length cap1, e)) HD.out HOK.out hown8 hgrow8); clear hown8 hgrow8)
            go_wp2_with fail
            go_roundw
            case rel =>
              refine ⟨k + 1, ys ++ [(.slice a1 e.data.length cap1, e)], by omega, by go_num, ?_⟩
              rw [filt_step HX.out, if_pos HFE.out]
              exact HPU.out
            case measure => simp [intOf]; omega
        · have hk2 : k = n := by omega
          have hlx := HLG.out
          rw [hk2, HN.out, List.take_length] at hlx
          have HLX := Lib.hid hlx
          have HXR := Lib.hid ((HLX.out.2.2.2.block _ (lt20 HX1.out)).trans HX1.out)
          have hsz7 : w1.heap.size ≤ wr.heap.size := HLX.out.2.2.2.size
          have hyn : ys.length ≤ 4096 := by omega
          clear hlx hk2
          have c0 := cell20 (k := 0) HXR.out
          have c1 := cell20 (k := 1) HXR.out
          have c2 := cell20 (k := 2) HXR.out
          have c3 := cell20 (k := 3) HXR.out
          have c4 := cell20 (k := 4) HXR.out
          have c5 := cell20 (k := 5) HXR.out
          simp only [List.getElem?_toArray, List.getElem?_cons_succ, List.getElem?_cons_zero] at c0 c1 c2 c3 c4 c5
          go_wp2_with (at_builtin; go_must (refine wpList_app1p Tryz.appEnts rfl _ _ rfl w1.heap.size (.slice av ys.length cv) ys.length (entsC ys) rfl wr (entC (.slice ap en.data.length cp) en) _ rfl rfl entC_one HLX.out.2.1 (by omega) hsz7 ?_); intro v' w8 hown8 hgrow8 _ _; have HPU := Lib.hid (HLX.out.push (y := (.slice ap en.data.length cp, en)) HD.out HOK.out hown8 hgrow8); clear hown8 hgrow8)
          refine (r_sorted_any (fun k => S k ∨ w1.heap.size ≤ k) (L.filter F ++ [en]) _ _ HPU.out.out HMS.out HML.out).mono ?_
          rintro e9 w9 ⟨v9, rfl, h9, hb9⟩
          have H9 := Lib.hid (ents_mo (T := fun k => S k ∨ w1.heap.size ≤ k) h9 (fun k _ hk => by
            rcases hk with hk | hk
            · exact hk
            · exact .inr (Nat.le_trans HPU.out.2.2.2.size hk)))
          have HB9 := Lib.hid (below_next HPU.out.2.2.2 hb9)
          clear h9 hb9 c0 c1 c2 c3 c4 c5
          go_wp2_with fail
          go_ret2
          exact rlist_of HB1.out ⟨v9, by rw [HPM.out]; rfl, by rw [HPM.out]; exact H9.out, HB9.out⟩
    · have e3 : (f.kind != en.kind) = true := by simp [hfk]
      have HPM := Lib.hid (show putP L en = (L, 13) by rw [HPZ.out, if_pos hfk])
      go_quiet (fail)
      obtain ⟨w6, hw6⟩ : ∃ w6, w6 = w5.drewN nq := ⟨_, rfl⟩
      rw [← hw6]
      have HB6 := Lib.hid (show Below w1.heap.size w1 w6 from below_next HB5.out (by rw [hw6]; exact ⟨rfl, rfl, rfl, Nat.le_refl _, fun _ _ => rfl⟩))
      clear hw6 c0 c1 c2 c3 c4 c5 hfk q1
      go_wp2_with fail
      go_ret2
      exact rlist_of HB1.out ⟨.slice (some ⟨b0, o0, none⟩) n cap, by rw [HPM.out]; rfl, by rw [HPM.out]; exact ents_wide HV.out HB6.out, HB6.out⟩

end Go.Proofs.YtbkhdpocmmjnbaaGreatDoor
