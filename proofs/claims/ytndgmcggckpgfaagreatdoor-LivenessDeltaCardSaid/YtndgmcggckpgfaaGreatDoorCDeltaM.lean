/- LivenessDelta: for every input the law returns true, and each argument reads afterwards as it read before (the tied card). -/
import Derived.Test.YtndgmcggckpgfaaGreatDoorMG
/- The law LivenessDelta: its walk. -/
namespace Go.Proofs.YtndgmcggckpgfaaGreatDoor
open Go.RowKit


set_option maxRecDepth 100000 in
set_option maxHeartbeats 4000000 in
theorem delta_walk (av bv cv : Value) (ra rb : List Ref) (cs : List (ByteArray × List UInt8)) (w : World) (he : Env w) (ha : SnapsAt (fun _ => True) w av ra) (hb : SnapsAt (fun _ => True) w bv rb) (hc : ContIn (fun _ => True) w cv cs) :
    Calls Tryz.prog 6 #[av, bv, cv] w fun e w' => e = .returned (.bool true) ∧ Below w.heap.size w w' := by
  have HRA := Lib.hid ha.ok
  have HRB := Lib.hid hb.ok
  obtain ⟨aa, ac, rfl, hac, ham, -⟩ := SeqAt.shape ha SnapR.len
  obtain ⟨ba, bc, rfl, hbc, hbm, -⟩ := SeqAt.shape hb SnapR.len
  have HSC := Lib.hid (And.intro (And.intro hac ham) (And.intro hbc hbm))
  unfold maxLen at ham hbm
  obtain ⟨cm, rfl⟩ := cont_map hc
  have HL := Lib.hid (show LCtx2 w w (.slice aa ra.length ac) (.slice ba rb.length bc) (.map cm) ra rb cs from ⟨he, ha, hb, hc, Below.refl _ _⟩)
  clear he ha hb hc
  go_enter Tryz.func6, Tryz.ntmps6
  go_wp2_with fail
  have hb := (Below.refl w.heap.size w).alloc (Nat.le_refl _) (.cells #[.slice aa ra.length ac, .slice ba rb.length bc] 22)
  have HLq := Lib.hid (HL.out.next hb)
  clear HL
  have HL := HLq
  clear HLq
  refine (few_any _ _ _ _ cs [ra.length, rb.length] _ HL.out.cont (lens_two HSC.out.1.1 HSC.out.1.2 HSC.out.2.1 HSC.out.2.2)).mono ?_
  clear hb
  rintro e w1 ⟨fb, rfl, hb, hfew⟩
  have HLq := Lib.hid (HL.out.next hb)
  clear HL
  have HL := HLq
  clear HLq
  clear hb
  cases fb
  · clear hfew
    go_wp2_with fail
    refine (awake48_any _ HL.out.env).mono ?_
    rintro e wz ⟨rfl, hbz⟩
    have HLZ := Lib.hid (HL.out.next hbz)
    clear hbz
    go_wp2_with fail
    go_ret
    exact ⟨rfl, HLZ.out.below⟩
  · obtain ⟨h6, h80⟩ := hfew rfl
    have h6a : ra.length ≤ 6 := h6 _ (by simp)
    have h6b : rb.length ≤ 6 := h6 _ (by simp)
    have HN := Lib.hid (needF_ok h80)
    have HRF := Lib.hid (refsOf_needF h80)
    clear hfew h6 h80
    go_wp2_with fail
    refine (Delta_any cs _ HN.out _ _ _ _ _ _ ra rb _ HL.out.a HL.out.b HL.out.cont.at HL.out.env (by omega) (by omega)).mono ?_
    rintro e w2 ⟨hb, hres⟩
    have HLq := Lib.hid (HL.out.next hb)
    clear HL
    have HL := HLq
    clear HLq
    clear hb
    cases hea : eachP (needF cs) ra with
    | error x =>
      have hde : deltaE (needF cs) ra rb = .error x := by unfold deltaE; rw [hea]
      rw [hde] at hres
      obtain ⟨rfl, hx⟩ := hres
      have e1 : (x != 0) = true := by simp [hx]
      have e2 : (x == 0) = false := by simp [hx]
      have HX := Lib.hid hx
      have HEA := Lib.hid hea
      clear hea hx hde
      go_wp2_with fail
      refine (each48_any cs _ HRF.out _ _ _ _ ra _ HL.out.a HL.out.cont.at HL.out.env (by omega)).mono ?_
      rintro e w3 ⟨hb, hres⟩
      have HLq := Lib.hid (HL.out.next hb)
      clear HL
      have HL := HLq
      clear HLq
      rw [HEA.out] at hres
      obtain ⟨rfl, -⟩ := hres
      clear hb
      go_wp2_with fail
      refine (each48_any cs _ HRF.out _ _ _ _ rb _ HL.out.b HL.out.cont.at HL.out.env (by omega)).mono ?_
      rintro e w4 ⟨hb, hres⟩
      have HLq := Lib.hid (HL.out.next hb)
      clear HL
      have HL := HLq
      clear HLq
      clear hb
      cases heb : eachP (needF cs) rb with
      | error y =>
        rw [heb] at hres
        obtain ⟨rfl, -⟩ := hres
        clear heb
        go_wp2_with fail
        refine (awake48_any _ HL.out.env).mono ?_
        rintro e wz ⟨rfl, hbz⟩
        have HLZ := Lib.hid (HL.out.next hbz)
        clear hbz
        go_wp2_with fail
        go_ret
        exact ⟨rfl, HLZ.out.below⟩
      | ok lb =>
        rw [heb] at hres
        obtain ⟨v, rfl, -⟩ := hres
        clear heb
        go_wp2_with fail
        refine (awake48_any _ HL.out.env).mono ?_
        rintro e wz ⟨rfl, hbz⟩
        have HLZ := Lib.hid (HL.out.next hbz)
        clear hbz
        go_wp2_with fail
        go_ret
        exact ⟨rfl, HLZ.out.below⟩
    | ok la =>
      have HEA := Lib.hid hea
      cases heb : eachP (needF cs) rb with
      | error x =>
        have hde : deltaE (needF cs) ra rb = .error x := by unfold deltaE; rw [hea]; simp only [heb]
        rw [hde] at hres
        obtain ⟨rfl, hx⟩ := hres
        have e1 : (x != 0) = true := by simp [hx]
        have e2 : (x == 0) = false := by simp [hx]
        have HX := Lib.hid hx
        have HEB := Lib.hid heb
        clear hea heb hx hde
        go_wp2_with fail
        refine (each48_any cs _ HRF.out _ _ _ _ ra _ HL.out.a HL.out.cont.at HL.out.env (by omega)).mono ?_
        rintro e w3 ⟨hb, hres⟩
        have HLq := Lib.hid (HL.out.next hb)
        clear HL
        have HL := HLq
        clear HLq
        rw [HEA.out] at hres
        obtain ⟨v, rfl, -⟩ := hres
        clear hb
        go_wp2_with fail
        refine (each48_any cs _ HRF.out _ _ _ _ rb _ HL.out.b HL.out.cont.at HL.out.env (by omega)).mono ?_
        rintro e w4 ⟨hb, hres⟩
        have HLq := Lib.hid (HL.out.next hb)
        clear HL
        have HL := HLq
        clear HLq
        rw [HEB.out] at hres
        obtain ⟨rfl, -⟩ := hres
        clear hb
        go_wp2_with fail
        refine (awake48_any _ HL.out.env).mono ?_
        rintro e wz ⟨rfl, hbz⟩
        have HLZ := Lib.hid (HL.out.next hbz)
        clear hbz
        go_wp2_with fail
        go_ret
        exact ⟨rfl, HLZ.out.below⟩
      | ok lb =>
        have hde : deltaE (needF cs) ra rb = .ok (la, lb) := by unfold deltaE; rw [hea]; simp only [heb]
        rw [hde] at hres
        obtain ⟨gv, lv, rfl, hgv, hlv⟩ := hres
        have HEB := Lib.hid heb
        have HG := Lib.hid hgv
        have HLO := Lib.hid hlv
        have HLA := Lib.hid (eachP_le HN.out HRA.out hea)
        have HLB := Lib.hid (eachP_le HN.out HRB.out heb)
        have HUA := Lib.hid (union_le HN.out HRA.out hea (by omega))
        have HUB := Lib.hid (union_le HN.out HRB.out heb (by omega))
        have hul : la.length ≤ 1000 := by rw [eachP_len hea]; omega
        have hul2 : lb.length ≤ 1000 := by rw [eachP_len heb]; omega
        obtain ⟨ga, gc, rfl, hgc, hgm, -⟩ := SeqAt.shape hgv RefR.len
        obtain ⟨oa, oc, rfl, hoc, hom, -⟩ := SeqAt.shape hlv RefR.len
        clear hea heb hde hgv hlv
        go_wp2_with fail
        refine (each48_any cs _ HRF.out _ _ _ _ ra _ HL.out.a HL.out.cont.at HL.out.env (by omega)).mono ?_
        rintro e w3 ⟨hb, hres⟩
        have HLq := Lib.hid (HL.out.next hb)
        clear HL
        have HL := HLq
        clear HLq
        have HQq := Lib.hid (show RefsAt _ w3 _ _ from SeqAt.below HG.out (by omega) hb (fun _ _ _ h => h))
        clear HG
        have HG := HQq
        clear HQq
        have HQq := Lib.hid (show RefsAt _ w3 _ _ from SeqAt.below HLO.out (by omega) hb (fun _ _ _ h => h))
        clear HLO
        have HLO := HQq
        clear HQq
        rw [HEA.out] at hres
        obtain ⟨va, rfl, hva⟩ := hres
        have HVA := Lib.hid hva
        obtain ⟨a1, c1, rfl, -, -, -⟩ := SeqAt.shape hva ListR.len
        clear hb hva
        go_wp2_with fail
        refine (each48_any cs _ HRF.out _ _ _ _ rb _ HL.out.b HL.out.cont.at HL.out.env (by omega)).mono ?_
        rintro e w4 ⟨hb, hres⟩
        have HLq := Lib.hid (HL.out.next hb)
        clear HL
        have HL := HLq
        clear HLq
        have HQq := Lib.hid (show RefsAt _ w4 _ _ from SeqAt.below HG.out (by omega) hb (fun _ _ _ h => h))
        clear HG
        have HG := HQq
        clear HQq
        have HQq := Lib.hid (show RefsAt _ w4 _ _ from SeqAt.below HLO.out (by omega) hb (fun _ _ _ h => h))
        clear HLO
        have HLO := HQq
        clear HQq
        have HQq := Lib.hid (ListsAt.below HVA.out hb)
        clear HVA
        have HVA := HQq
        clear HQq
        rw [HEB.out] at hres
        obtain ⟨vb, rfl, hvb⟩ := hres
        have HVB := Lib.hid hvb
        obtain ⟨a2, c2, rfl, -, -, -⟩ := SeqAt.shape hvb ListR.len
        clear hb hvb
        go_wp2_with fail
        refine (awake48_any _ HL.out.env).mono ?_
        rintro e w5 ⟨rfl, hb⟩
        have HLq := Lib.hid (HL.out.next hb)
        clear HL
        have HL := HLq
        clear HLq
        have HQq := Lib.hid (show RefsAt _ w5 _ _ from SeqAt.below HG.out (by omega) hb (fun _ _ _ h => h))
        clear HG
        have HG := HQq
        clear HQq
        have HQq := Lib.hid (show RefsAt _ w5 _ _ from SeqAt.below HLO.out (by omega) hb (fun _ _ _ h => h))
        clear HLO
        have HLO := HQq
        clear HQq
        have HQq := Lib.hid (ListsAt.below HVA.out hb)
        clear HVA
        have HVA := HQq
        clear HQq
        have HQq := Lib.hid (ListsAt.below HVB.out hb)
        clear HVB
        have HVB := HQq
        clear HQq
        clear hb
        go_wp2_with fail
        refine (union48_any _ _ lb _ HVB.out hul2 HLB.out).mono ?_
        rintro e w6 ⟨vub, rfl, hvub, hb⟩
        have HLq := Lib.hid (HL.out.next hb)
        clear HL
        have HL := HLq
        clear HLq
        have HQq := Lib.hid (show RefsAt _ w6 _ _ from SeqAt.below HG.out (by omega) hb (fun _ _ _ h => h))
        clear HG
        have HG := HQq
        clear HQq
        have HQq := Lib.hid (show RefsAt _ w6 _ _ from SeqAt.below HLO.out (by omega) hb (fun _ _ _ h => h))
        clear HLO
        have HLO := HQq
        clear HQq
        have HQq := Lib.hid (ListsAt.below HVA.out hb)
        clear HVA
        have HVA := HQq
        clear HQq
        have HQq := Lib.hid (ListsAt.below HVB.out hb)
        clear HVB
        have HVB := HQq
        clear HQq
        have HU1 := Lib.hid hvub
        obtain ⟨u1, uc1, rfl, -, -, -⟩ := SeqAt.shape hvub RefR.len
        clear hb hvub
        go_wp2_with fail
        refine (union48_any _ _ la _ HVA.out hul HLA.out).mono ?_
        rintro e w7 ⟨vua, rfl, hvua, hb⟩
        have HLq := Lib.hid (HL.out.next hb)
        clear HL
        have HL := HLq
        clear HLq
        have HQq := Lib.hid (show RefsAt _ w7 _ _ from SeqAt.below HG.out (by omega) hb (fun _ _ _ h => h))
        clear HG
        have HG := HQq
        clear HQq
        have HQq := Lib.hid (show RefsAt _ w7 _ _ from SeqAt.below HLO.out (by omega) hb (fun _ _ _ h => h))
        clear HLO
        have HLO := HQq
        clear HQq
        have HQq := Lib.hid (show RefsAt _ w7 _ _ from SeqAt.below HU1.out (by omega) hb (fun _ _ _ h => h))
        clear HU1
        have HU1 := HQq
        clear HQq
        have HQq := Lib.hid (ListsAt.below HVA.out hb)
        clear HVA
        have HVA := HQq
        clear HQq
        have HQq := Lib.hid (ListsAt.below HVB.out hb)
        clear HVB
        have HVB := HQq
        clear HQq
        have HU2 := Lib.hid hvua
        obtain ⟨u2, uc2, rfl, -, -, -⟩ := SeqAt.shape hvua RefR.len
        clear hb hvua
        go_wp2_with fail
        refine (less48_any _ _ _ _ (unionP lb) (unionP la) _ HU1.out HU2.out HUB.out).mono ?_
        rintro e w8 ⟨vl1, rfl, hvl1, hb⟩
        have HLq := Lib.hid (HL.out.next hb)
        clear HL
        have HL := HLq
        clear HLq
        have HQq := Lib.hid (show RefsAt _ w8 _ _ from SeqAt.below HG.out (by omega) hb (fun _ _ _ h => h))
        clear HG
        have HG := HQq
        clear HQq
        have HQq := Lib.hid (show RefsAt _ w8 _ _ from SeqAt.below HLO.out (by omega) hb (fun _ _ _ h => h))
        clear HLO
        have HLO := HQq
        clear HQq
        have HQq := Lib.hid (ListsAt.below HVA.out hb)
        clear HVA
        have HVA := HQq
        clear HQq
        have HQq := Lib.hid (ListsAt.below HVB.out hb)
        clear HVB
        have HVB := HQq
        clear HQq
        have HL1 := Lib.hid hvl1
        obtain ⟨l1, lc1, rfl, -, -, -⟩ := SeqAt.shape hvl1 RefR.len
        clear hb hvl1 HU1 HU2
        go_wp2_with fail
        refine (sameRefs_is _ _ _ _ (lessP (unionP lb) (unionP la)) (lessP (unionP lb) (unionP la)) true _ HG.out HL1.out (by simp)).mono ?_
        rintro e w9 ⟨rfl, hb⟩
        have HLq := Lib.hid (HL.out.next hb)
        clear HL
        have HL := HLq
        clear HLq
        have HQq := Lib.hid (show RefsAt _ w9 _ _ from SeqAt.below HLO.out (by omega) hb (fun _ _ _ h => h))
        clear HLO
        have HLO := HQq
        clear HQq
        have HQq := Lib.hid (ListsAt.below HVA.out hb)
        clear HVA
        have HVA := HQq
        clear HQq
        have HQq := Lib.hid (ListsAt.below HVB.out hb)
        clear HVB
        have HVB := HQq
        clear HQq
        clear hb HL1 HG
        go_wp2_with fail
        refine (union48_any _ _ la _ HVA.out hul HLA.out).mono ?_
        rintro e w10 ⟨vua, rfl, hvua, hb⟩
        have HLq := Lib.hid (HL.out.next hb)
        clear HL
        have HL := HLq
        clear HLq
        have HQq := Lib.hid (show RefsAt _ w10 _ _ from SeqAt.below HLO.out (by omega) hb (fun _ _ _ h => h))
        clear HLO
        have HLO := HQq
        clear HQq
        have HQq := Lib.hid (ListsAt.below HVB.out hb)
        clear HVB
        have HVB := HQq
        clear HQq
        have HU1 := Lib.hid hvua
        obtain ⟨u3, uc3, rfl, -, -, -⟩ := SeqAt.shape hvua RefR.len
        clear hb hvua HVA
        go_wp2_with fail
        refine (union48_any _ _ lb _ HVB.out hul2 HLB.out).mono ?_
        rintro e w11 ⟨vub, rfl, hvub, hb⟩
        have HLq := Lib.hid (HL.out.next hb)
        clear HL
        have HL := HLq
        clear HLq
        have HQq := Lib.hid (show RefsAt _ w11 _ _ from SeqAt.below HLO.out (by omega) hb (fun _ _ _ h => h))
        clear HLO
        have HLO := HQq
        clear HQq
        have HQq := Lib.hid (show RefsAt _ w11 _ _ from SeqAt.below HU1.out (by omega) hb (fun _ _ _ h => h))
        clear HU1
        have HU1 := HQq
        clear HQq
        have HU2 := Lib.hid hvub
        obtain ⟨u4, uc4, rfl, -, -, -⟩ := SeqAt.shape hvub RefR.len
        clear hb hvub HVB
        go_wp2_with fail
        refine (less48_any _ _ _ _ (unionP la) (unionP lb) _ HU1.out HU2.out HUA.out).mono ?_
        rintro e w12 ⟨vl2, rfl, hvl2, hb⟩
        have HLq := Lib.hid (HL.out.next hb)
        clear HL
        have HL := HLq
        clear HLq
        have HQq := Lib.hid (show RefsAt _ w12 _ _ from SeqAt.below HLO.out (by omega) hb (fun _ _ _ h => h))
        clear HLO
        have HLO := HQq
        clear HQq
        have HL1 := Lib.hid hvl2
        obtain ⟨l2, lc2, rfl, -, -, -⟩ := SeqAt.shape hvl2 RefR.len
        clear hb hvl2 HU1 HU2
        go_wp2_with fail
        refine (sameRefs_is _ _ _ _ (lessP (unionP la) (unionP lb)) (lessP (unionP la) (unionP lb)) true _ HLO.out HL1.out (by simp)).mono ?_
        rintro e w13 ⟨rfl, hb⟩
        have HLq := Lib.hid (HL.out.next hb)
        clear HL
        have HL := HLq
        clear HLq
        clear hb
        go_wp2_with fail
        go_ret
        exact ⟨rfl, HL.out.below⟩

end Go.Proofs.YtndgmcggckpgfaaGreatDoor

/- LivenessDelta: for every input the law returns true, and each argument reads afterwards as it read before (the tied card). -/
namespace Go.Proofs.YtndgmcggckpgfaaGreatDoor
open Go.ChangeShapes Go.WideShapes Go.ChangeAt Go.RowKit Go.Lib Go.Shelf
open Go.ChangeMaps (open_string shut_string)

namespace CDelta
set_option maxRecDepth 100000 in
theorem lifted (os : Os) (started : os.Started) (H : Type) (enc : TypeId × Value → H) :
    ReturnsInHanded {} Tryz.checked os 6 .any (fun w args => (Rows.livenessDeltaSpec.pre enc Tryz.prog Tryz.f6 [] false w args ∧ laidMetH Tryz.prog laidL w) ∧ sizedMet enc Tryz.prog Tryz.f6 (OpenSpec.ofChange Rows.livenessDeltaSpec) false w args)
      (Rows.livenessDeltaSpec.post enc Tryz.prog Tryz.f6 false true false false) := by
  refine handed (C := Tryz.checked) (X := fun w _ => laidMetH Tryz.prog laidL w) (fun _ _ _ hh h => h.of_heap hh) own started (by kernel_rfl) Tryz.func6
    (ChangeSpec.witness_shaped (enc := enc) (C := Tryz.checked) (os := os) (X := fun w _ => laidMetH Tryz.prog laidL w) false (World.laidAll Tryz.prog os laidL) #[.slice none 0 0, .slice none 0 0, .map none] 8 (World.laidAll_os _ _ _)
      (World.shaped_of_ZipB (by kernel_rfl) (by kernel_rfl)) (by kernel_rfl) (by kernel_rfl) (by kernel_rfl)
      (by rw [MakeChecks.laidMetH_plain _ _ _ (by kernel_rfl)]; exact laidMet_laidAll _ (by kernel_rfl) (by kernel_rfl))) ?_
  intro W base args ds gs before hval0 hW _hWt hL hsh
  have hval : ∀ (j : Nat) t v, Tryz.f6.params[j]? = some t → args[j]? = some v → Value.okWide Tryz.prog W .any base t v := hval0
  have hW' := hW
  obtain ⟨p, q, hA0, hV, rfl, _, _⟩ := hW
  have hA : DataW.TrodAll enc Tryz.prog W 0 (fun _ => true) true Tryz.f6.params.toList args.toList ds p := hA0
  rw [Tryz.params6] at hA hval
  obtain ⟨rfl, rfl⟩ := trodVars_none hV
  simp only [List.append_nil] at hW'
  obtain ⟨v0, v1, v2, d0, d1, d2, p0, p1, p2, rfl, rfl, rfl, h0, h1, h2⟩ := trodAll_three hA
  obtain ⟨rs0, hrs0⟩ := open_snaps (hval 0 22 v0 rfl rfl) h0
  obtain ⟨rs1, hrs1⟩ := open_snaps (hval 1 22 v1 rfl rfl) h1
  obtain ⟨cs2, hcs2⟩ := open_cont (hval 2 23 v2 rfl rfl) h2
  have hlt0 : ∀ x ∈ p0, x.block < W.heap.size := fun x hx => by simpa using hW'.lt x (by simp [hx])
  have hlt1 : ∀ x ∈ p1, x.block < W.heap.size := fun x hx => by simpa using hW'.lt x (by simp [hx])
  have hlt2 : ∀ x ∈ p2, x.block < W.heap.size := fun x hx => by simpa using hW'.lt x (by simp [hx])
  refine (delta_walk v0 v1 v2 rs0 rs1 cs2 W (env_of hL hsh) hrs0 hrs1 hcs2).mono fun e W' ⟨he, hb⟩ => ?_
  subst he
  exact ⟨_, rfl, _, _, _, [], _, [], hW', trodAll_mk1 (shut_bool Tryz.underlying4 _), trodAll_mk3 (Below.trod laidOut (by kernel_rfl) (of_decide_eq_true (by kernel_rfl)) h0 hb hlt0) (Below.trod laidOut (by kernel_rfl) (of_decide_eq_true (by kernel_rfl)) h1 hb hlt1) (Below.trod laidOut (by kernel_rfl) (of_decide_eq_true (by kernel_rfl)) h2 hb hlt2), rfl, hb.frame _, fun h => by cases h⟩
theorem holds : Rows.LivenessDeltaSaid :=
  OpenClaim.holds_of_wide 6 Tryz.f6 rfl rfl rfl rfl rfl rfl rfl ⟨rfl, rfl, rfl, rfl, rfl⟩ rfl rfl rfl rfl rfl (by kernel_rfl) Tryz.func6 (by kernel_rfl)
    (of_decide_eq_true (by kernel_rfl)) (by unfold Func.isWrapper; first | (rw [if_pos (by decide +kernel)]; kernel_rfl) | (rw [if_neg (by decide +kernel)]; exact ⟨rfl, rfl⟩))
    (fun os started H enc _ => lifted os started H enc)
theorem card_holds : Rows.LivenessDeltaCardSaid :=
  Claim7.holds_tied_plain_at .later [] [.data, .pinned] true (true, "8763d9110891523682653750762d1a7552683129e318fb1c4c0f53c8f9932086") false holds (fun _ h => by cases h) (by kernel_rfl) (fun _ h => by cases h) livenessDelta_row_tie rfl ⟨rfl, rfl⟩ (by kernel_rfl) rfl
    (fun f fn hf hfn => by
      obtain rfl : f = 6 := Option.some.inj ((show Tryz.prog.funcNamed "kinkeep/kinkeeplaw48.LivenessDelta" = some 6 by kernel_rfl).symm.trans hf) |>.symm
      obtain rfl : fn = Tryz.f6 := (Option.some.inj (Tryz.func6.symm.trans hfn)).symm
      exact ⟨by kernel_rfl, fun j t ht => by
        rw [Tryz.params6] at ht
        have hm : t ∈ [22, 22, 23] := by simpa using Array.mem_of_getElem? ht
        have hall : ([22, 22, 23].all fun u => !Tryz.prog.wantsStandIn u) = true := by kernel_rfl
        exact (show Tryz.prog.wantsStandIn t = false by simpa using List.all_eq_true.1 hall t hm)⟩)
    (by kernel_rfl)
#print axioms card_holds
end CDelta
theorem livenessDelta_card : Rows.LivenessDeltaCardSaid := CDelta.card_holds
end Go.Proofs.YtndgmcggckpgfaaGreatDoor
