/- FiletreeRuns: for every input the law returns true, and each argument reads afterwards as it read before (the tied card). -/
import Derived.Test.YtbkhdpocmmjnbaaGreatDoorMF
/- The law FiletreeRuns: its walk. -/
namespace Go.Proofs.YtbkhdpocmmjnbaaGreatDoor
open Go Go.RowKit Go.Maps


theorem ops_cut {S : Nat → Prop} {w : World} {v : Value} {l : List POp} (h : OpsAt S w v l) : OpsAt (fun k => k < w.heap.size) w v l :=
  SeqAt.mono h (by omega) (fun k hk _ => hk) (fun c x _ hr => by
    obtain ⟨v, r1, r2, r3⟩ := hr
    exact ⟨v, r1, RowAt.mono r2 (fun k hk _ => hk) (by omega), r3⟩)
theorem ops_fst {l : List POp} {n : Nat} (h : n = l.length) {k : Nat} (hk : k < n) : ∃ x, l[k]? = some x := ⟨l[k]'(by rw [← h]; exact hk), by simp⟩
set_option maxRecDepth 100000 in
set_option maxHeartbeats 4000000 in
theorem runs_walk (l : List POp) (v : Value) (w : World) (hv : OpsAt (fun _ => True) w v l) (henv : Env w) :
    Calls Tryz.prog 3 #[v] w fun e w' => e = .returned (.bool true) ∧ Below w.heap.size w w' := by
  have HV := Lib.hid (ops_cut hv)
  have HE := Lib.hid henv
  obtain ⟨a, cap, rfl, hc, hm, -⟩ := SeqAt.shape hv OpR.len
  unfold maxLen at hm
  obtain ⟨n, hn⟩ : ∃ n, n = l.length := ⟨_, rfl⟩
  have HN := Lib.hid hn
  rw [← hn] at hc HV ⊢
  clear hv henv hn
  go_enter Tryz.func3, Tryz.ntmps3
  go_wp2_with fail
  refine (awakeT_any w HE.out).mono ?_
  rintro e w1 ⟨rfl, hb1⟩
  have HB1 := Lib.hid hb1
  clear hb1
  go_wp2_with fail
  refine (wide_any _ l _ _ (HV.out.below HB1.out)).mono ?_
  rintro e w2 ⟨wb, rfl, hsm, hb2⟩
  have HB2 := Lib.hid (below_next HB1.out hb2)
  have HSM := Lib.hid hsm
  clear hb2 hsm
  cases wb
  case true =>
    go_wp2_with fail
    go_ret
    exact ⟨rfl, HB2.out⟩
  have HSO := Lib.hid (HSM.out rfl).2
  go_wp2_with fail
  refine (newB_any _).mono ?_
  rintro e w3 ⟨rfl, ht3, hb3⟩
  obtain ⟨B, hB⟩ : ∃ B, B = w2.heap.size := ⟨_, rfl⟩
  rw [← hB] at ht3 ⊢
  have HBB := Lib.hid (show w.heap.size ≤ B by rw [hB]; exact HB2.out.size)
  have HT3 := Lib.hid ht3
  have HB3 := Lib.hid (below_next HB2.out hb3)
  have HLT3 := Lib.hid (show B + 1 < w3.heap.size from block_lt ht3.cell)
  clear ht3 hb3 hB
  go_wp2_with fail
  go_loopw [4, 16] (fun u i wr => ∃ (k : Nat) (L : List Ent), k ≤ n ∧ i = .int .i64 k ∧ TreeB B wr L ∧ EntsAt (fun j => j ≠ B) wr u L ∧ Below w.heap.size w wr) (fun _ i _ => n - (intOf i).toNat)
  case atStart => exact ⟨0, [], Nat.zero_le _, rfl, HT3.out, EntsAt.nil _ _, HB3.out⟩
  case round =>
    obtain ⟨k, L, hk, rfl, htr, her, hbr⟩ := hrel
    have HTR := Lib.hid htr
    have HER := Lib.hid her
    have HBR := Lib.hid hbr
    clear htr her hbr
    by_cases hlt : k < n
    · obtain ⟨x, hx⟩ := ops_fst HN.out hlt
      have HXM := Lib.hid (HSO.out x (List.mem_of_getElem? hx))
      obtain ⟨b, o, dv, rfl, hb, hd, hok, hq⟩ := ops_at (HV.out.below HBR.out) hx
      obtain ⟨a1, cap1, rfl, hd1, hd2⟩ := hd.slice
      have q0 := hq 0 (by omega)
      have q1 := hq 1 (by omega)
      have q2 := hq 2 (by omega)
      have q3 := hq 3 (by omega)
      have q4 := hq 4 (by omega)
      have q5 := hq 5 (by omega)
      have q6 := hq 6 (by omega)
      have q7 := hq 7 (by omega)
      have q8 := hq 8 (by omega)
      have q9 := hq 9 (by omega)
      simp only [opC, List.getElem?_cons_succ, List.getElem?_cons_zero, Nat.add_zero] at q0 q1 q2 q3 q4 q5 q6 q7 q8 q9
      have HX := Lib.hid hx
      have HD := Lib.hid hd
      have HOK := Lib.hid hok
      unfold maxLen at hd2
      clear hx hd hok hq
      go_wp2_with fail
      obtain ⟨W, hW⟩ : ∃ W, W = wr.alloc (.cells #[.int .i64 x.kind, .string x.en.path, .int .i64 x.en.kind, .int .i64 x.en.mode, .int .i64 x.en.time, .slice a1 x.en.data.length cap1, .string x.en.link, .string x.src, .string x.dst, .bool x.below] 32) := ⟨_, rfl⟩
      rw [← hW]
      have HXB := Lib.hid (show W.heap[wr.heap.size]? = some (.cells #[.int .i64 x.kind, .string x.en.path, .int .i64 x.en.kind, .int .i64 x.en.mode, .int .i64 x.en.time, .slice a1 x.en.data.length cap1, .string x.en.link, .string x.src, .string x.dst, .bool x.below] 32 (0, 0)) by rw [hW]; exact new20 wr _)
      have HWL := Lib.hid (show Below wr.heap.size wr W by rw [hW]; exact (Below.refl _ _).alloc (Nat.le_refl _) _)
      clear hW
      clear q0 q1 q2 q3 q4 q5 q6 q7 q8 q9
      have HTW := Lib.hid (HTR.out.below HWL.out)
      have HBW := Lib.hid (below_next HBR.out HWL.out)
      have HDB := Lib.hid (data_mono (S' := fun j => j ≠ B) (HD.out.below HWL.out) (fun j hj => by have := HBB.out; omega))
      refine (r_do_any (fun j => j ≠ B) L _ (.slice a1 x.en.data.length cap1) x _ (HER.out.below HWL.out) HTR.out.ok HDB.out HOK.out (by have := HXM.out.2.2.1; omega) (by have := HXM.out.1; omega) (by have := HXM.out.2.1; omega)).mono ?_
      rintro e w5 ⟨v5, rfl, he5, hb5⟩
      obtain ⟨y, hy⟩ : ∃ y, y = (doP L x).2 := ⟨_, rfl⟩
      rw [← hy]
      have HY := Lib.hid hy
      have hBW : B + 1 < W.heap.size := by have h1 := block_lt HTW.out.cell; simpa using h1
      have HE5 := Lib.hid (ents_mo (T := fun j => j ≠ B) he5 (fun j _ hj => by
        rcases hj with hj | hj
        · exact hj
        · omega))
      have HB5 := Lib.hid (below_next HBW.out hb5)
      have HT5 := Lib.hid (HTW.out.below hb5)
      have HX5 := Lib.hid ((hb5.block _ (lt20 HXB.out)).trans HXB.out)
      have HL5 := Lib.hid (HWL.out.trans (hb5.mono HWL.out.size))
      clear he5 hb5 hy
      have c0 := cell20 (k := 0) HX5.out
      have c1 := cell20 (k := 1) HX5.out
      have c2 := cell20 (k := 2) HX5.out
      have c3 := cell20 (k := 3) HX5.out
      have c4 := cell20 (k := 4) HX5.out
      have c5 := cell20 (k := 5) HX5.out
      have c6 := cell20 (k := 6) HX5.out
      have c7 := cell20 (k := 7) HX5.out
      have c8 := cell20 (k := 8) HX5.out
      have c9 := cell20 (k := 9) HX5.out
      simp only [List.getElem?_toArray, List.getElem?_cons_succ, List.getElem?_cons_zero] at c0 c1 c2 c3 c4 c5 c6 c7 c8 c9
      go_wp2_with fail
      refine (do_any _ _ _ _ _ x (.slice a1 x.en.data.length cap1) _ HT5.out (HD.out.below HL5.out) HOK.out (HE.out.below HB5.out)).mono ?_
      rintro e w6 hr
      obtain ⟨rfl, ht6, hg6⟩ := HT5.out.res hr
      rw [← HY.out]
      have HT6 := Lib.hid ht6
      have HE6 := Lib.hid (ents_gr HE5.out (fun h => h rfl) hg6)
      have HB6 := Lib.hid (HB5.out.grown hg6 HB5.out.size (fun k e => by cases e; exact HBB.out))
      clear hr ht6 hg6 c0 c1 c2 c3 c4 c5 c6 c7 c8 c9
      go_wp2_with fail
      go_roundw
      case rel => exact ⟨k + 1, (doP L x).1, by omega, by go_num, HT6.out, HE6.out, HB6.out⟩
      case measure => simp [intOf]; omega
    · go_wp2_with fail
      refine (entries_any _ _ _ L _ HTR.out).mono ?_
      rintro e w7 ⟨v7, rfl, hg7, hb7⟩
      have HG7 := Lib.hid hg7.seq
      have HB7 := Lib.hid (below_next HBR.out hb7)
      have HE7 := Lib.hid (HER.out.below hb7)
      clear hg7 hb7
      go_wp2_with fail
      refine (r_sameall_any _ _ _ _ _ _ _ HG7.out HE7.out).mono ?_
      rintro e w8 ⟨rfl, hb8⟩
      rw [decide_eq_true rfl]
      have HB8 := Lib.hid (below_next HB7.out hb8)
      clear hb8
      go_wp2_with fail
      go_ret
      exact ⟨rfl, HB8.out⟩

end Go.Proofs.YtbkhdpocmmjnbaaGreatDoor

/- FiletreeRuns: for every input the law returns true, and each argument reads afterwards as it read before (the tied card). -/
namespace Go.Proofs.YtbkhdpocmmjnbaaGreatDoor
open Go.ChangeShapes Go.WideShapes Go.ChangeAt Go.RowKit Go.Lib Go.Shelf
open Go.ChangeMaps (open_string shut_string)

namespace CRuns
set_option maxRecDepth 100000 in
theorem lifted (os : Os) (started : os.Started) (H : Type) (enc : TypeId × Value → H) :
    ReturnsInHanded {} Tryz.checked os 3 .any (fun w args => (Rows.filetreeRunsSpec.pre enc Tryz.prog Tryz.f3 [] false w args ∧ laidMetH Tryz.prog laidL w) ∧ sizedMet enc Tryz.prog Tryz.f3 (OpenSpec.ofChange Rows.filetreeRunsSpec) false w args)
      (Rows.filetreeRunsSpec.post enc Tryz.prog Tryz.f3 false true false false) := by
  refine handed (C := Tryz.checked) (X := fun w _ => laidMetH Tryz.prog laidL w) (fun _ _ _ hh h => h.of_heap hh) own started (by kernel_rfl) Tryz.func3
    (ChangeSpec.witness_shaped (enc := enc) (C := Tryz.checked) (os := os) (X := fun w _ => laidMetH Tryz.prog laidL w) false (World.laidAll Tryz.prog os laidL) #[.slice none 0 0] 8 (World.laidAll_os _ _ _)
      (World.shaped_of_ZipB (by kernel_rfl) (by kernel_rfl)) (by kernel_rfl) (by kernel_rfl) (by kernel_rfl)
      (by rw [MakeChecks.laidMetH_plain _ _ _ (by kernel_rfl)]; exact laidMet_laidAll _ (by kernel_rfl) (by kernel_rfl))) ?_
  intro W base args ds gs before hval0 hW _hWt hL hsh
  have hval : ∀ (j : Nat) t v, Tryz.f3.params[j]? = some t → args[j]? = some v → Value.okWide Tryz.prog W .any base t v := hval0
  have hW' := hW
  obtain ⟨p, q, hA0, hV, rfl, _, _⟩ := hW
  have hA : DataW.TrodAll enc Tryz.prog W 0 (fun _ => true) true Tryz.f3.params.toList args.toList ds p := hA0
  rw [Tryz.params3] at hA hval
  obtain ⟨rfl, rfl⟩ := trodVars_none hV
  simp only [List.append_nil] at hW'
  obtain ⟨v0, d0, rfl, rfl, h0⟩ := trodAll_one hA
  obtain ⟨l, hl⟩ := open_ops (hval 0 22 v0 rfl rfl) h0
  have hlt0 : ∀ x ∈ p, x.block < W.heap.size := fun x hx => by simpa using hW'.lt x (by simp [hx])
  refine (runs_walk l v0 W hl (env_of hL hsh)).mono fun e W' ⟨he, hb⟩ => ?_
  subst he
  exact ⟨_, rfl, _, _, _, [], _, [], hW', trodAll_mk1 (shut_bool Tryz.underlying4 _), trodAll_mk1 (Below.trod laidOut (by kernel_rfl) (of_decide_eq_true (by kernel_rfl)) h0 hb hlt0), rfl, hb.frame _, fun h => by cases h⟩
theorem holds : Rows.FiletreeRunsSaid :=
  OpenClaim.holds_of_wide 3 Tryz.f3 rfl rfl rfl rfl rfl rfl rfl ⟨rfl, rfl, rfl, rfl, rfl⟩ rfl rfl rfl rfl rfl (by kernel_rfl) Tryz.func3 (by kernel_rfl)
    (of_decide_eq_true (by kernel_rfl)) (by unfold Func.isWrapper; first | (rw [if_pos (by decide +kernel)]; kernel_rfl) | (rw [if_neg (by decide +kernel)]; exact ⟨rfl, rfl⟩))
    (fun os started H enc _ => lifted os started H enc)
theorem card_holds : Rows.FiletreeRunsCardSaid :=
  Claim7.holds_tied_plain_at .later [] [.data, .pinned] true (true, "2207397a227789d21932012cf5ef2a1caaf28db5b6cb1625a63e75549e1d9883") false holds (fun _ h => by cases h) (by kernel_rfl) (fun _ h => by cases h) filetreeRuns_row_tie rfl ⟨rfl, rfl⟩ (by kernel_rfl) rfl
    (fun f fn hf hfn => by
      obtain rfl : f = 3 := Option.some.inj ((show Tryz.prog.funcNamed "kinkeep/kinkeeplaw20.FiletreeRuns" = some 3 by kernel_rfl).symm.trans hf) |>.symm
      obtain rfl : fn = Tryz.f3 := (Option.some.inj (Tryz.func3.symm.trans hfn)).symm
      exact ⟨by kernel_rfl, fun j t ht => by
        rw [Tryz.params3] at ht
        have hm : t ∈ [22] := by simpa using Array.mem_of_getElem? ht
        have hall : ([22].all fun u => !Tryz.prog.wantsStandIn u) = true := by kernel_rfl
        exact (show Tryz.prog.wantsStandIn t = false by simpa using List.all_eq_true.1 hall t hm)⟩)
    (by kernel_rfl)
#print axioms card_holds
end CRuns
theorem filetreeRuns_card : Rows.FiletreeRunsCardSaid := CRuns.card_holds
end Go.Proofs.YtbkhdpocmmjnbaaGreatDoor
