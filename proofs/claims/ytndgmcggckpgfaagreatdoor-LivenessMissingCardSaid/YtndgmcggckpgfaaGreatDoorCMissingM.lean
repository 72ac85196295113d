/- LivenessMissing: for every input the law returns true, and each argument reads afterwards as it read before (the tied card). -/
import Derived.Test.YtndgmcggckpgfaaGreatDoorMG
/- The law LivenessMissing: its walk. -/
namespace Go.Proofs.YtndgmcggckpgfaaGreatDoor
open Go.RowKit


theorem eachM_U (f : Ref → Except Int (List Ref)) (roots : List Ref) : eachM f roots = eachU f roots := rfl
set_option maxRecDepth 100000 in
set_option maxHeartbeats 4000000 in
theorem missing_walk (sv cv : Value) (roots : List Ref) (cs : List (ByteArray × List UInt8)) (w : World) (he : Env w) (hs : SnapsAt (fun _ => True) w sv roots) (hc : ContIn (fun _ => True) w cv cs) :
    Calls Tryz.prog 7 #[sv, cv] w fun e w' => e = .returned (.bool true) ∧ Below w.heap.size w w' := by
  have HRK := Lib.hid hs.ok
  obtain ⟨sa, sc, rfl, hsc, hsm, -⟩ := SeqAt.shape hs SnapR.len
  have HSC := Lib.hid (And.intro hsc hsm)
  unfold maxLen at hsm
  obtain ⟨cm, rfl⟩ := cont_map hc
  have HL := Lib.hid (show LCtx w w (.slice sa roots.length sc) (.map cm) roots cs from ⟨he, hs, hc, Below.refl _ _⟩)
  clear he hs hc
  go_enter Tryz.func7, Tryz.ntmps7
  go_wp2_with fail
  have hb := (Below.refl w.heap.size w).alloc (Nat.le_refl _) (.cells #[.slice sa roots.length sc] 22)
  have HLq := Lib.hid (HL.out.next hb)
  clear HL
  have HL := HLq
  clear HLq
  refine (few_any _ _ _ _ cs [roots.length] _ HL.out.cont (lens_one HSC.out.1 HSC.out.2)).mono ?_
  clear hb
  rintro e w1 ⟨fb, rfl, hb, hfew⟩
  have HLq := Lib.hid (HL.out.next hb)
  clear HL
  have HL := HLq
  clear HLq
  clear hb
  cases fb
  · clear hfew
    go_wp2_with fail
    refine (awake48_any _ HL.out.env).mono ?_
    rintro e wz ⟨rfl, hbz⟩
    have HLZ := Lib.hid (HL.out.next hbz)
    clear hbz
    go_wp2_with fail
    go_ret
    exact ⟨rfl, HLZ.out.below⟩
  · obtain ⟨h6, h80⟩ := hfew rfl
    have h6' : roots.length ≤ 6 := h6 _ (by simp)
    have HMM := Lib.hid (missMOf_missF h80)
    have HMR := Lib.hid (missOf_missF h80)
    have HLE := Lib.hid (show ∀ r rl, missF cs r = .ok rl → rl.length ≤ 1000000000 from fun r rl h => missF_le h80 h)
    clear hfew h6 h80
    go_wp2_with fail
    refine (missingL_any cs _ HMM.out HLE.out _ _ _ _ roots _ HL.out.snaps HL.out.cont.at HL.out.env (by omega)).mono ?_
    rintro e w2 ⟨hb, hres⟩
    have HLq := Lib.hid (HL.out.next hb)
    clear HL
    have HL := HLq
    clear HLq
    rw [eachM_U] at hres
    cases hm : eachU (missF cs) roots with
    | error x =>
      rw [hm] at hres
      obtain ⟨rfl, -⟩ := hres
      have HM := Lib.hid hm
      clear hm hb
      go_wp2_with fail
      refine (missing48_any cs _ HMR.out HLE.out _ _ _ _ roots _ HL.out.snaps HL.out.cont.at HL.out.env (by omega)).mono ?_
      rintro e w3 ⟨hb, hres⟩
      have HLq := Lib.hid (HL.out.next hb)
      clear HL
      have HL := HLq
      clear HLq
      rw [HM.out] at hres
      obtain ⟨rfl, -⟩ := hres
      clear hb
      go_wp2_with fail
      refine (awake48_any _ HL.out.env).mono ?_
      rintro e w4 ⟨rfl, hb⟩
      have HLq := Lib.hid (HL.out.next hb)
      clear HL
      have HL := HLq
      clear HLq
      clear hb
      go_wp2_with fail
      refine (sameRefs_is (fun _ => True) (fun _ => True) _ _ [] [] true _ SeqAt.nil SeqAt.nil (by simp)).mono ?_
      rintro e w5 ⟨rfl, hb⟩
      have HLq := Lib.hid (HL.out.next hb)
      clear HL
      have HL := HLq
      clear HLq
      clear hb
      go_wp2_with fail
      go_ret
      exact ⟨rfl, HL.out.below⟩
    | ok l =>
      rw [hm] at hres
      obtain ⟨v, rfl, hv⟩ := hres
      have HM := Lib.hid hm
      have HG := Lib.hid hv
      obtain ⟨ga, gc, rfl, -, -, -⟩ := SeqAt.shape hv RefR.len
      clear hm hv hb
      go_wp2_with fail
      refine (missing48_any cs _ HMR.out HLE.out _ _ _ _ roots _ HL.out.snaps HL.out.cont.at HL.out.env (by omega)).mono ?_
      rintro e w3 ⟨hb, hres⟩
      have HLq := Lib.hid (HL.out.next hb)
      clear HL
      have HL := HLq
      clear HLq
      have HQq := Lib.hid (show RefsAt _ w3 _ _ from SeqAt.below HG.out (by omega) hb (fun _ _ _ h => h))
      clear HG
      have HG := HQq
      clear HQq
      rw [HM.out] at hres
      obtain ⟨v, rfl, hv⟩ := hres
      have HH := Lib.hid hv
      obtain ⟨ha, hc', rfl, -, -, -⟩ := SeqAt.shape hv RefR.len
      clear hb hv
      go_wp2_with fail
      refine (awake48_any _ HL.out.env).mono ?_
      rintro e w4 ⟨rfl, hb⟩
      have HLq := Lib.hid (HL.out.next hb)
      clear HL
      have HL := HLq
      clear HLq
      have HQq := Lib.hid (show RefsAt _ w4 _ _ from SeqAt.below HG.out (by omega) hb (fun _ _ _ h => h))
      clear HG
      have HG := HQq
      clear HQq
      have HQq := Lib.hid (show RefsAt _ w4 _ _ from SeqAt.below HH.out (by omega) hb (fun _ _ _ h => h))
      clear HH
      have HH := HQq
      clear HQq
      clear hb
      go_wp2_with fail
      refine (sameRefs_is _ _ _ _ l l true _ HG.out HH.out (by simp)).mono ?_
      rintro e w5 ⟨rfl, hb⟩
      have HLq := Lib.hid (HL.out.next hb)
      clear HL
      have HL := HLq
      clear HLq
      clear hb
      go_wp2_with fail
      go_ret
      exact ⟨rfl, HL.out.below⟩

end Go.Proofs.YtndgmcggckpgfaaGreatDoor

/- LivenessMissing: for every input the law returns true, and each argument reads afterwards as it read before (the tied card). -/
namespace Go.Proofs.YtndgmcggckpgfaaGreatDoor
open Go.ChangeShapes Go.WideShapes Go.ChangeAt Go.RowKit Go.Lib Go.Shelf
open Go.ChangeMaps (open_string shut_string)

namespace CMissing
set_option maxRecDepth 100000 in
theorem lifted (os : Os) (started : os.Started) (H : Type) (enc : TypeId × Value → H) :
    ReturnsInHanded {} Tryz.checked os 7 .any (fun w args => (Rows.livenessMissingSpec.pre enc Tryz.prog Tryz.f7 [] false w args ∧ laidMetH Tryz.prog laidL w) ∧ sizedMet enc Tryz.prog Tryz.f7 (OpenSpec.ofChange Rows.livenessMissingSpec) false w args)
      (Rows.livenessMissingSpec.post enc Tryz.prog Tryz.f7 false true false false) := by
  refine handed (C := Tryz.checked) (X := fun w _ => laidMetH Tryz.prog laidL w) (fun _ _ _ hh h => h.of_heap hh) own started (by kernel_rfl) Tryz.func7
    (ChangeSpec.witness_shaped (enc := enc) (C := Tryz.checked) (os := os) (X := fun w _ => laidMetH Tryz.prog laidL w) false (World.laidAll Tryz.prog os laidL) #[.slice none 0 0, .map none] 8 (World.laidAll_os _ _ _)
      (World.shaped_of_ZipB (by kernel_rfl) (by kernel_rfl)) (by kernel_rfl) (by kernel_rfl) (by kernel_rfl)
      (by rw [MakeChecks.laidMetH_plain _ _ _ (by kernel_rfl)]; exact laidMet_laidAll _ (by kernel_rfl) (by kernel_rfl))) ?_
  intro W base args ds gs before hval0 hW _hWt hL hsh
  have hval : ∀ (j : Nat) t v, Tryz.f7.params[j]? = some t → args[j]? = some v → Value.okWide Tryz.prog W .any base t v := hval0
  have hW' := hW
  obtain ⟨p, q, hA0, hV, rfl, _, _⟩ := hW
  have hA : DataW.TrodAll enc Tryz.prog W 0 (fun _ => true) true Tryz.f7.params.toList args.toList ds p := hA0
  rw [Tryz.params7] at hA hval
  obtain ⟨rfl, rfl⟩ := trodVars_none hV
  simp only [List.append_nil] at hW'
  obtain ⟨v0, v1, d0, d1, p0, p1, rfl, rfl, rfl, h0, h1⟩ := trodAll_two hA
  obtain ⟨rs0, hrs0⟩ := open_snaps (hval 0 22 v0 rfl rfl) h0
  obtain ⟨cs1, hcs1⟩ := open_cont (hval 1 23 v1 rfl rfl) h1
  have hlt0 : ∀ x ∈ p0, x.block < W.heap.size := fun x hx => by simpa using hW'.lt x (by simp [hx])
  have hlt1 : ∀ x ∈ p1, x.block < W.heap.size := fun x hx => by simpa using hW'.lt x (by simp [hx])
  refine (missing_walk v0 v1 rs0 cs1 W (env_of hL hsh) hrs0 hcs1).mono fun e W' ⟨he, hb⟩ => ?_
  subst he
  exact ⟨_, rfl, _, _, _, [], _, [], hW', trodAll_mk1 (shut_bool Tryz.underlying4 _), trodAll_mk2 (Below.trod laidOut (by kernel_rfl) (of_decide_eq_true (by kernel_rfl)) h0 hb hlt0) (Below.trod laidOut (by kernel_rfl) (of_decide_eq_true (by kernel_rfl)) h1 hb hlt1), rfl, hb.frame _, fun h => by cases h⟩
theorem holds : Rows.LivenessMissingSaid :=
  OpenClaim.holds_of_wide 7 Tryz.f7 rfl rfl rfl rfl rfl rfl rfl ⟨rfl, rfl, rfl, rfl, rfl⟩ rfl rfl rfl rfl rfl (by kernel_rfl) Tryz.func7 (by kernel_rfl)
    (of_decide_eq_true (by kernel_rfl)) (by unfold Func.isWrapper; first | (rw [if_pos (by decide +kernel)]; kernel_rfl) | (rw [if_neg (by decide +kernel)]; exact ⟨rfl, rfl⟩))
    (fun os started H enc _ => lifted os started H enc)
theorem card_holds : Rows.LivenessMissingCardSaid :=
  Claim7.holds_tied_plain_at .later [] [.data, .pinned] true (true, "8763d9110891523682653750762d1a7552683129e318fb1c4c0f53c8f9932086") false holds (fun _ h => by cases h) (by kernel_rfl) (fun _ h => by cases h) livenessMissing_row_tie rfl ⟨rfl, rfl⟩ (by kernel_rfl) rfl
    (fun f fn hf hfn => by
      obtain rfl : f = 7 := Option.some.inj ((show Tryz.prog.funcNamed "kinkeep/kinkeeplaw48.LivenessMissing" = some 7 by kernel_rfl).symm.trans hf) |>.symm
      obtain rfl : fn = Tryz.f7 := (Option.some.inj (Tryz.func7.symm.trans hfn)).symm
      exact ⟨by kernel_rfl, fun j t ht => by
        rw [Tryz.params7] at ht
        have hm : t ∈ [22, 23] := by simpa using Array.mem_of_getElem? ht
        have hall : ([22, 23].all fun u => !Tryz.prog.wantsStandIn u) = true := by kernel_rfl
        exact (show Tryz.prog.wantsStandIn t = false by simpa using List.all_eq_true.1 hall t hm)⟩)
    (by kernel_rfl)
#print axioms card_holds
end CMissing
theorem livenessMissing_card : Rows.LivenessMissingCardSaid := CMissing.card_holds
end Go.Proofs.YtndgmcggckpgfaaGreatDoor
