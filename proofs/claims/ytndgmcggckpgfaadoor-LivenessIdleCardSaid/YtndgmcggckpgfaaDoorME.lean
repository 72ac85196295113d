/- Texts of this proof, one after the other: Awake48, Frame, Few, SetH, Open, OpenW, Bytes, Same, RefBytes, Others, LiveP. -/
import Derived.Test.YtndgmcggckpgfaaDoorMD
import Derived.ProofKit
import Derived.Carry
import Derived.Lay
import Derived.PinnedBridge
import Derived.Lib.LaidU8T
import Derived.SevenTiedAt
import Derived.HandedShaped
import Derived.Shelf.Vars
import Derived.Test.YtndgmcggckpgfaaDoorTie
import Derived.Test.YtndgmcggckpgfaaDoorCards
import Derived.Maps.RangeWalk
import Derived.Lib.SmallJoins
import Derived.WalkLawsBesides
import Derived.IntWalk
/- The chapter's example: awake returns true. -/
namespace Go.Proofs.YtndgmcggckpgfaaDoor
open Go Go.RowKit Go.Maps


theorem exCount1 : mapE countP (eachP (needF exC1) [exR1, exR2]) = .ok [(exR1, 1), (exA, 2), (exR2, 1), (exB, 1)] := by kernel_rfl
theorem exCount2 : mapE countP (eachP (needF exC2) [exR1, exR2]) = .ok [(exR1, 1), (exA, 2), (exR2, 1), (exB, 1)] := by kernel_rfl
theorem exExcl1 : exclE (needF exC1) [exR1, exR2] 0 = .ok [exR1] := by kernel_rfl
theorem exExcl2 : exclE (needF exC2) [exR1, exR2] 0 = .ok [exR1] := by kernel_rfl
theorem exKeep1 : mapE (fun ls => keepTo ls (nameB 98) ls.length) (eachP (needF exC1) [exR1, exR2]) = .ok [1] := by kernel_rfl
theorem exKeep2 : mapE (fun ls => keepTo ls (nameB 98) ls.length) (eachP (needF exC2) [exR1, exR2]) = .ok [1] := by kernel_rfl
/-- What the example's contents give. -/
structure ExOk (cs : List (ByteArray × List UInt8)) : Prop where
  need : NeedOk cs (needF cs)
  count : mapE countP (eachP (needF cs) [exR1, exR2]) = .ok [(exR1, 1), (exA, 2), (exR2, 1), (exB, 1)]
  excl : exclE (needF cs) [exR1, exR2] 0 = .ok [exR1]
  keep : mapE (fun ls => keepTo ls (nameB 98) ls.length) (eachP (needF cs) [exR1, exR2]) = .ok [1]
theorem exOk_of {cs : List (ByteArray × List UInt8)} (h : cs = exC1 ∨ cs = exC2) : ExOk cs := by
  rcases h with rfl | rfl
  · exact ⟨needF_ok (by decide), exCount1, exExcl1, exKeep1⟩
  · exact ⟨needF_ok (by decide), exCount2, exExcl2, exKeep2⟩
theorem uses_at {S : Nat → Prop} {w w' : World} {a : Option Addr} {n cap : Nat} {us : List (Ref × Int)} (hv : UsesAt S w (.slice a n cap) us) (hb : Below w.heap.size w w') {k : Nat} {p : Ref × Int} (hp : us[k]? = some p) :
    ∃ b o, a = some ⟨b, o, none⟩ ∧ RefOk p.1 ∧ ∀ j, j < 4 → w'.cell? ⟨b, o + k * 4 + j, none⟩ = (useC p)[j]? := by
  obtain ⟨a', cap', hv', _, _, hx⟩ := SeqAt.shape hv UseR.len
  cases hv'
  obtain ⟨b, o, c, rfl, hS, ⟨rfl, hok⟩, _, hcl⟩ := hx k p hp
  have q0 := hcl 0 (by omega)
  have hlt : b < w.heap.size := block_lt (a := ⟨b, o + (k * 4 + 0), none⟩) (v := .string p.1.name) q0
  refine ⟨b, o, rfl, hok, fun j hj => ?_⟩
  rw [Nat.add_assoc]
  exact (hb.cell (p := ⟨b, o + (k * 4 + j), none⟩) hlt).trans (hcl j hj)
/-- Cells that read. -/
def AllC (w : World) : List (Addr × Value) → Prop
  | [] => True
  | p :: l => w.cell? p.1 = some p.2 ∧ AllC w l
theorem AllC.below {w w' : World} : ∀ {l : List (Addr × Value)}, AllC w l → Below w.heap.size w w' → AllC w' l
  | [], _, _ => trivial
  | _ :: _, h, hb => ⟨(hb.cell (block_lt h.1)).trans h.1, AllC.below h.2 hb⟩
set_option maxRecDepth 100000 in
set_option maxHeartbeats 4000000 in
theorem awake48_any (w : World) (he : Env w) : Calls Tryd.prog 7 #[] w fun e w' => e = .returned (.bool true) ∧ Below w.heap.size w w' := by
  have HE := Lib.hid he
  clear he
  go_enter Tryd.func7, Tryd.ntmps7
  go_wp2_with fail
  refine (example_any w).mono ?_
  rintro e w1 ⟨sv, cv, cs, hcs, rfl, hsv, hcv, hb1⟩
  have HX := Lib.hid (exOk_of hcs)
  have HS := Lib.hid hsv
  have HC := Lib.hid hcv
  have HB1 := Lib.hid hb1
  have HE1 := Lib.hid (HE.out.below hb1)
  obtain ⟨sa, sc, rfl, -, -, -⟩ := SeqAt.shape hsv SnapR.len
  have hcm : ∃ cm, cv = .map cm := by
    rcases hcv with ⟨rfl, _⟩ | ⟨b, m, rfl, _⟩
    · exact ⟨_, rfl⟩
    · exact ⟨_, rfl⟩
  obtain ⟨cm, rfl⟩ := hcm
  clear hcs hsv hcv hb1
  go_wp2_with fail
  refine (Counts_any cs _ HX.out.need _ _ _ _ _ _ HS.out HC.out HE1.out (by decide)).mono ?_
  rintro e w2 ⟨hb2, hres⟩
  rw [HX.out.count] at hres
  obtain ⟨uv, rfl, huv⟩ := hres
  have HB2 := Lib.hid (below_next HB1.out hb2)
  have HS2 := Lib.hid (SeqAt.below HS.out (by omega) hb2 (fun _ _ _ h => h))
  have HC2 := Lib.hid (HC.out.below hb2)
  have HE2 := Lib.hid (HE1.out.below hb2)
  have HU2 := Lib.hid huv
  obtain ⟨ua, uc, rfl, -, -, -⟩ := SeqAt.shape huv UseR.len
  clear huv hb2
  go_wp2_with fail
  refine (Exclusive_any cs _ HX.out.need _ _ _ _ _ _ _ HS2.out HC2.out HE2.out (by decide)).mono ?_
  rintro e w3 ⟨hb3, hres⟩
  rw [HX.out.excl] at hres
  obtain ⟨xv, rfl, hxv⟩ := hres
  have HB3 := Lib.hid (below_next HB2.out hb3)
  have HS3 := Lib.hid (show SnapsAt _ w3 _ _ from SeqAt.below HS2.out (by omega) hb3 (fun _ _ _ h => h))
  have HC3 := Lib.hid (HC2.out.below hb3)
  have HE3 := Lib.hid (HE2.out.below hb3)
  have HU3 := Lib.hid (show UsesAt _ w3 _ _ from SeqAt.below HU2.out (by omega) hb3 (fun _ _ _ h => h))
  have HX3 := Lib.hid hxv
  obtain ⟨xa, xc, rfl, -, -, -⟩ := SeqAt.shape hxv RefR.len
  clear hxv hb3
  go_upto_region 4 with (fail)
  refine wp_region_segs [some 26] (by kernel_rfl) (by kernel_rfl) (by kernel_rfl) ?_
  simp only [wpSegs, List.take_succ_cons, List.take_zero, List.drop_succ_cons, List.drop_zero]
  obtain ⟨W, hW⟩ : ∃ W : World, W = w3.drew := ⟨_, rfl⟩
  rw [← hW]
  have hbw : Below w3.heap.size w3 W := by rw [hW]; exact (Below.refl _ _).drew
  have HB4 := Lib.hid (below_next HB3.out hbw)
  have HC4 := Lib.hid (HC3.out.below hbw)
  have HE4 := Lib.hid (HE3.out.below hbw)
  have HS4 := Lib.hid (show SnapsAt _ W _ _ from SeqAt.below HS3.out (by omega) hbw (fun _ _ _ h => h))
  have HU4 := Lib.hid (show UsesAt _ W _ _ from SeqAt.below HU3.out (by omega) hbw (fun _ _ _ h => h))
  have HX4 := Lib.hid (show RefsAt _ W _ _ from SeqAt.below HX3.out (by omega) hbw (fun _ _ _ h => h))
  clear hW hbw
  obtain ⟨xb, xo, rfl, -, x0, x1, x2⟩ := refs_at HX4.out (Below.refl _ _) (k := 0) (r := exR1) rfl
  obtain ⟨sb, so, a1, a2, a3, a4, a5, sp, sh, rfl, -, hs0⟩ := snaps_at HS4.out (Below.refl _ _) (k := 0) (r := exR1) rfl
  have y0 := hs0 3 (by omega)
  have y1 := hs0 4 (by omega)
  have y2 := hs0 5 (by omega)
  simp only [List.getElem?_cons_zero, List.getElem?_cons_succ, Nat.zero_mul, Nat.add_zero] at x0 x1 x2 y0 y1 y2
  have heq := eqRef exR1 exR1
  unfold refV at heq
  simp only [decide_true] at heq
  clear hs0
  obtain ⟨ub, uo, rfl, -, hu3⟩ := uses_at HU4.out (Below.refl _ _) (k := 3) (p := (exB, 1)) rfl
  have z0 := hu3 0 (by omega)
  simp only [useC, List.getElem?_cons_zero, List.getElem?_cons_succ, Nat.add_zero, Nat.reduceMul, Nat.reduceAdd, exB] at z0
  clear hu3
  repeat (first | (refine seg_skip rfl ?_; simp only [Act.put, List.setIfInBounds_toArray, List.set_cons_succ, List.set_cons_zero]) | (refine seg_run rfl (fun K hK => ?_); go_simp; refine hK _ ?_; clear hK K))
  refine seg_nil ?_
  go_wp2_with fail
  refine (Keepers_any cs _ HX.out.need _ _ _ _ _ (nameB 98) _ HS4.out HC4.out HE4.out (by decide)).mono ?_
  rintro e w5 ⟨hb5, hres⟩
  rw [HX.out.keep] at hres
  obtain ⟨kv, rfl, hkv⟩ := hres
  have HB5 := Lib.hid (below_next HB4.out hb5)
  have HS5 := Lib.hid (show SnapsAt _ w5 _ _ from SeqAt.below HS4.out (by omega) hb5 (fun _ _ _ h => h))
  have HU5 := Lib.hid (show UsesAt _ w5 _ _ from SeqAt.below HU4.out (by omega) hb5 (fun _ _ _ h => h))
  have HK5 := Lib.hid hkv
  obtain ⟨_, ka, kc, rfl, -, -, -⟩ := hkv
  clear hb5 x0 x1 x2 y0 y1 y2 z0 heq
  go_upto_region 7 with (fail)
  obtain ⟨W5, hW⟩ : ∃ W : World, W = w5.drew := ⟨_, rfl⟩
  have hbw : Below w5.heap.size w5 W5 := by rw [hW]; exact (Below.refl _ _).drew
  have HB6 := Lib.hid (below_next HB5.out hbw)
  have HS6 := Lib.hid (show SnapsAt _ W5 _ _ from SeqAt.below HS5.out (by omega) hbw (fun _ _ _ h => h))
  have HU6 := Lib.hid (show UsesAt _ W5 _ _ from SeqAt.below HU5.out (by omega) hbw (fun _ _ _ h => h))
  have HK6 := Lib.hid (show IntsAt _ W5 _ _ from RowAt.below HK5.out (by omega) hbw)
  have HWE := Lib.hid hW
  clear hW hbw
  have hu0 := uses_at HU6.out (Below.refl _ _) (k := 0) (p := (exR1, 1)) rfl
  have hu1 := uses_at HU6.out (Below.refl _ _) (k := 1) (p := (exA, 2)) rfl
  have hu2 := uses_at HU6.out (Below.refl _ _) (k := 2) (p := (exR2, 1)) rfl
  have hu3 := uses_at HU6.out (Below.refl _ _) (k := 3) (p := (exB, 1)) rfl
  have hs0 := snaps_at HS6.out (Below.refl _ _) (k := 0) (r := exR1) rfl
  have hs1 := snaps_at HS6.out (Below.refl _ _) (k := 1) (r := exR2) rfl
  obtain ⟨_, _, e0, -, hu0⟩ := hu0
  cases e0
  obtain ⟨_, _, e0, -, hu1⟩ := hu1
  cases e0
  obtain ⟨_, _, e0, -, hu2⟩ := hu2
  cases e0
  obtain ⟨_, _, e0, -, hu3⟩ := hu3
  cases e0
  obtain ⟨_, _, b1, b2, b3, b4, b5, bp, bh, e0, -, hs0⟩ := hs0
  cases e0
  obtain ⟨_, _, d1, d2, d3, d4, d5, dp, dh, e0, -, hs1⟩ := hs1
  cases e0
  have u00 := hu0 0 (by omega)
  have u01 := hu0 1 (by omega)
  have u02 := hu0 2 (by omega)
  have u03 := hu0 3 (by omega)
  have u13 := hu1 3 (by omega)
  have u20 := hu2 0 (by omega)
  have u21 := hu2 1 (by omega)
  have u22 := hu2 2 (by omega)
  have u33 := hu3 3 (by omega)
  have y0 := hs0 3 (by omega)
  have y1 := hs0 4 (by omega)
  have y2 := hs0 5 (by omega)
  have y3 := hs1 3 (by omega)
  have y4 := hs1 4 (by omega)
  have y5 := hs1 5 (by omega)
  simp only [useC, List.getElem?_cons_zero, List.getElem?_cons_succ, Nat.zero_mul, Nat.add_zero, Nat.reduceMul, Nat.reduceAdd, Nat.one_mul, Nat.add_assoc] at u00 u01 u02 u03 u13 u20 u21 u22 u33 y0 y1 y2 y3 y4 y5
  clear hu0 hu1 hu2 hu3 hs0 hs1
  have heq := eqUse (exR1, 1) (exR1, 1)
  unfold useV at heq
  simp only [decide_true] at heq
  have heq2 := eqRef exR2 exR2
  unfold refV at heq2
  simp only [decide_true] at heq2
  have HAC := Lib.hid (show AllC W5 [(⟨ub, uo, none⟩, .string exR1.name), (⟨ub, uo + 1, none⟩, .int .i64 exR1.gen), (⟨ub, uo + 2, none⟩, .int .i64 exR1.size), (⟨ub, uo + 3, none⟩, .int .i64 1), (⟨ub, uo + 7, none⟩, .int .i64 2), (⟨ub, uo + 8, none⟩, .string exR2.name), (⟨ub, uo + 9, none⟩, .int .i64 exR2.gen), (⟨ub, uo + 10, none⟩, .int .i64 exR2.size), (⟨ub, uo + 15, none⟩, .int .i64 1), (⟨sb, so + 3, none⟩, .string exR1.name), (⟨sb, so + 4, none⟩, .int .i64 exR1.gen), (⟨sb, so + 5, none⟩, .int .i64 exR1.size), (⟨sb, so + 13, none⟩, .string exR2.name), (⟨sb, so + 14, none⟩, .int .i64 exR2.gen), (⟨sb, so + 15, none⟩, .int .i64 exR2.size)] from ⟨u00, u01, u02, u03, u13, u20, u21, u22, u33, y0, y1, y2, y3, y4, y5, trivial⟩)
  clear u00 u01 u02 u03 u13 u20 u21 u22 u33 y0 y1 y2 y3 y4 y5
  refine hld_start (fun w' => AllC w' [(⟨ub, uo, none⟩, .string exR1.name), (⟨ub, uo + 1, none⟩, .int .i64 exR1.gen), (⟨ub, uo + 2, none⟩, .int .i64 exR1.size), (⟨ub, uo + 3, none⟩, .int .i64 1), (⟨ub, uo + 7, none⟩, .int .i64 2), (⟨ub, uo + 8, none⟩, .string exR2.name), (⟨ub, uo + 9, none⟩, .int .i64 exR2.gen), (⟨ub, uo + 10, none⟩, .int .i64 exR2.size), (⟨ub, uo + 15, none⟩, .int .i64 1), (⟨sb, so + 3, none⟩, .string exR1.name), (⟨sb, so + 4, none⟩, .int .i64 exR1.gen), (⟨sb, so + 5, none⟩, .int .i64 exR1.size), (⟨sb, so + 13, none⟩, .string exR2.name), (⟨sb, so + 14, none⟩, .int .i64 exR2.gen), (⟨sb, so + 15, none⟩, .int .i64 exR2.size)]) (by kernel_rfl) ?_
  rw [← HWE.out]
  refine hld_take 0 rfl (by kernel_rfl) (by kernel_rfl) (by kernel_rfl) (fun _ _ _ h => h) rfl HAC.out (by rintro w' ⟨v0, v1, v2, v3, v4, v5, v6, v7, v8, v9, v10, v11, v12, v13, v14, -⟩; simp only at v0 v1 v2 v3 v4 v5 v6 v7 v8 v9 v10 v11 v12 v13 v14; go_simp; rfl) ?_
  simp only [Act.put, List.setIfInBounds_toArray, List.set_cons_succ, List.set_cons_zero]
  refine hld_take 1 rfl (by kernel_rfl) (by kernel_rfl) (by kernel_rfl) (fun _ _ _ h => h) rfl HAC.out (by rintro w' ⟨v0, v1, v2, v3, v4, v5, v6, v7, v8, v9, v10, v11, v12, v13, v14, -⟩; simp only at v0 v1 v2 v3 v4 v5 v6 v7 v8 v9 v10 v11 v12 v13 v14; go_simp; rfl) ?_
  simp only [Act.put, List.setIfInBounds_toArray, List.set_cons_succ, List.set_cons_zero]
  refine hld_take 2 rfl (by kernel_rfl) (by kernel_rfl) (by kernel_rfl) (fun _ _ _ h => h) rfl HAC.out (by rintro w' ⟨v0, v1, v2, v3, v4, v5, v6, v7, v8, v9, v10, v11, v12, v13, v14, -⟩; simp only at v0 v1 v2 v3 v4 v5 v6 v7 v8 v9 v10 v11 v12 v13 v14; go_simp; rfl) ?_
  simp only [Act.put, List.setIfInBounds_toArray, List.set_cons_succ, List.set_cons_zero]
  refine hld_take 3 rfl (by kernel_rfl) (by kernel_rfl) (by kernel_rfl) (fun _ _ _ h => h) rfl HAC.out (by rintro w' ⟨v0, v1, v2, v3, v4, v5, v6, v7, v8, v9, v10, v11, v12, v13, v14, -⟩; simp only at v0 v1 v2 v3 v4 v5 v6 v7 v8 v9 v10 v11 v12 v13 v14; go_simp; rfl) ?_
  simp only [Act.put, List.setIfInBounds_toArray, List.set_cons_succ, List.set_cons_zero]
  refine hld_take 4 rfl (by kernel_rfl) (by kernel_rfl) (by kernel_rfl) (fun _ _ _ h => h) rfl HAC.out (by rintro w' ⟨v0, v1, v2, v3, v4, v5, v6, v7, v8, v9, v10, v11, v12, v13, v14, -⟩; simp only at v0 v1 v2 v3 v4 v5 v6 v7 v8 v9 v10 v11 v12 v13 v14; go_simp; rfl) ?_
  simp only [Act.put, List.setIfInBounds_toArray, List.set_cons_succ, List.set_cons_zero]
  refine hld_take 5 rfl (by kernel_rfl) (by kernel_rfl) (by kernel_rfl) (fun _ _ _ h => h) rfl HAC.out (by rintro w' ⟨v0, v1, v2, v3, v4, v5, v6, v7, v8, v9, v10, v11, v12, v13, v14, -⟩; simp only at v0 v1 v2 v3 v4 v5 v6 v7 v8 v9 v10 v11 v12 v13 v14; go_simp; rfl) ?_
  simp only [Act.put, List.setIfInBounds_toArray, List.set_cons_succ, List.set_cons_zero]
  refine hld_take 6 rfl (by kernel_rfl) (by kernel_rfl) (by kernel_rfl) (fun _ _ _ h => h) rfl HAC.out (by rintro w' ⟨v0, v1, v2, v3, v4, v5, v6, v7, v8, v9, v10, v11, v12, v13, v14, -⟩; simp only at v0 v1 v2 v3 v4 v5 v6 v7 v8 v9 v10 v11 v12 v13 v14; go_simp; rfl) ?_
  simp only [Act.put, List.setIfInBounds_toArray, List.set_cons_succ, List.set_cons_zero]
  refine hld_take 7 rfl (by kernel_rfl) (by kernel_rfl) (by kernel_rfl) (fun _ _ _ h => h) rfl HAC.out (by rintro w' ⟨v0, v1, v2, v3, v4, v5, v6, v7, v8, v9, v10, v11, v12, v13, v14, -⟩; simp only at v0 v1 v2 v3 v4 v5 v6 v7 v8 v9 v10 v11 v12 v13 v14; go_simp; rfl) ?_
  simp only [Act.put, List.setIfInBounds_toArray, List.set_cons_succ, List.set_cons_zero]
  refine hld_take 8 rfl (by kernel_rfl) (by kernel_rfl) (by kernel_rfl) (fun _ _ _ h => h) rfl HAC.out (by rintro w' ⟨v0, v1, v2, v3, v4, v5, v6, v7, v8, v9, v10, v11, v12, v13, v14, -⟩; simp only at v0 v1 v2 v3 v4 v5 v6 v7 v8 v9 v10 v11 v12 v13 v14; go_simp; rfl) ?_
  simp only [Act.put, List.setIfInBounds_toArray, List.set_cons_succ, List.set_cons_zero]
  refine hld_take 9 rfl (by kernel_rfl) (by kernel_rfl) (by kernel_rfl) (fun _ _ _ h => h) rfl HAC.out (by rintro w' ⟨v0, v1, v2, v3, v4, v5, v6, v7, v8, v9, v10, v11, v12, v13, v14, -⟩; simp only at v0 v1 v2 v3 v4 v5 v6 v7 v8 v9 v10 v11 v12 v13 v14; go_simp; rfl) ?_
  simp only [Act.put, List.setIfInBounds_toArray, List.set_cons_succ, List.set_cons_zero]
  refine hld_take 10 rfl (by kernel_rfl) (by kernel_rfl) (by kernel_rfl) (fun _ _ _ h => h) rfl HAC.out (by rintro w' ⟨v0, v1, v2, v3, v4, v5, v6, v7, v8, v9, v10, v11, v12, v13, v14, -⟩; simp only at v0 v1 v2 v3 v4 v5 v6 v7 v8 v9 v10 v11 v12 v13 v14; go_simp; rfl) ?_
  simp only [Act.put, List.setIfInBounds_toArray, List.set_cons_succ, List.set_cons_zero]
  refine hld_take 11 rfl (by kernel_rfl) (by kernel_rfl) (by kernel_rfl) (fun _ _ _ h => h) rfl HAC.out (by rintro w' ⟨v0, v1, v2, v3, v4, v5, v6, v7, v8, v9, v10, v11, v12, v13, v14, -⟩; simp only at v0 v1 v2 v3 v4 v5 v6 v7 v8 v9 v10 v11 v12 v13 v14; go_simp; rfl) ?_
  simp only [Act.put, List.setIfInBounds_toArray, List.set_cons_succ, List.set_cons_zero]
  refine hld_take 12 rfl (by kernel_rfl) (by kernel_rfl) (by kernel_rfl) (fun _ _ _ h => h) rfl HAC.out (by rintro w' ⟨v0, v1, v2, v3, v4, v5, v6, v7, v8, v9, v10, v11, v12, v13, v14, -⟩; simp only at v0 v1 v2 v3 v4 v5 v6 v7 v8 v9 v10 v11 v12 v13 v14; go_simp; rfl) ?_
  simp only [Act.put, List.setIfInBounds_toArray, List.set_cons_succ, List.set_cons_zero]
  refine hld_take 13 rfl (by kernel_rfl) (by kernel_rfl) (by kernel_rfl) (fun _ _ _ h => h) rfl HAC.out (by rintro w' ⟨v0, v1, v2, v3, v4, v5, v6, v7, v8, v9, v10, v11, v12, v13, v14, -⟩; simp only at v0 v1 v2 v3 v4 v5 v6 v7 v8 v9 v10 v11 v12 v13 v14; go_simp; rfl) ?_
  simp only [Act.put, List.setIfInBounds_toArray, List.set_cons_succ, List.set_cons_zero]
  refine hld_take 14 rfl (by kernel_rfl) (by kernel_rfl) (by kernel_rfl) (fun _ _ _ h => h) rfl HAC.out (by rintro w' ⟨v0, v1, v2, v3, v4, v5, v6, v7, v8, v9, v10, v11, v12, v13, v14, -⟩; simp only at v0 v1 v2 v3 v4 v5 v6 v7 v8 v9 v10 v11 v12 v13 v14; go_simp; rfl) ?_
  simp only [Act.put, List.setIfInBounds_toArray, List.set_cons_succ, List.set_cons_zero]
  refine hld_take 15 rfl (by kernel_rfl) (by kernel_rfl) (by kernel_rfl) (fun _ _ _ h => h) rfl HAC.out (by rintro w' ⟨v0, v1, v2, v3, v4, v5, v6, v7, v8, v9, v10, v11, v12, v13, v14, -⟩; simp only at v0 v1 v2 v3 v4 v5 v6 v7 v8 v9 v10 v11 v12 v13 v14; go_simp; rfl) ?_
  simp only [Act.put, List.setIfInBounds_toArray, List.set_cons_succ, List.set_cons_zero]
  refine hld_take 16 rfl (by kernel_rfl) (by kernel_rfl) (by kernel_rfl) (fun _ _ _ h => h) rfl HAC.out (by rintro w' ⟨v0, v1, v2, v3, v4, v5, v6, v7, v8, v9, v10, v11, v12, v13, v14, -⟩; simp only at v0 v1 v2 v3 v4 v5 v6 v7 v8 v9 v10 v11 v12 v13 v14; go_simp; rfl) ?_
  simp only [Act.put, List.setIfInBounds_toArray, List.set_cons_succ, List.set_cons_zero]
  refine hld_take 17 rfl (by kernel_rfl) (by kernel_rfl) (by kernel_rfl) (fun _ _ _ h => h) rfl HAC.out (by rintro w' ⟨v0, v1, v2, v3, v4, v5, v6, v7, v8, v9, v10, v11, v12, v13, v14, -⟩; simp only at v0 v1 v2 v3 v4 v5 v6 v7 v8 v9 v10 v11 v12 v13 v14; go_simp; rfl) ?_
  simp only [Act.put, List.setIfInBounds_toArray, List.set_cons_succ, List.set_cons_zero]
  refine hld_take 18 rfl (by kernel_rfl) (by kernel_rfl) (by kernel_rfl) (fun _ _ _ h => h) rfl HAC.out (by rintro w' ⟨v0, v1, v2, v3, v4, v5, v6, v7, v8, v9, v10, v11, v12, v13, v14, -⟩; simp only at v0 v1 v2 v3 v4 v5 v6 v7 v8 v9 v10 v11 v12 v13 v14; go_simp; rfl) ?_
  simp only [Act.put, List.setIfInBounds_toArray, List.set_cons_succ, List.set_cons_zero]
  refine hld_take 19 rfl (by kernel_rfl) (by kernel_rfl) (by kernel_rfl) (fun _ _ _ h => h) rfl HAC.out (by rintro w' ⟨v0, v1, v2, v3, v4, v5, v6, v7, v8, v9, v10, v11, v12, v13, v14, -⟩; simp only at v0 v1 v2 v3 v4 v5 v6 v7 v8 v9 v10 v11 v12 v13 v14; go_simp; rfl) ?_
  simp only [Act.put, List.setIfInBounds_toArray, List.set_cons_succ, List.set_cons_zero]
  refine hld_take 20 rfl (by kernel_rfl) (by kernel_rfl) (by kernel_rfl) (fun _ _ _ h => h) rfl HAC.out (by rintro w' ⟨v0, v1, v2, v3, v4, v5, v6, v7, v8, v9, v10, v11, v12, v13, v14, -⟩; simp only at v0 v1 v2 v3 v4 v5 v6 v7 v8 v9 v10 v11 v12 v13 v14; go_simp; rfl) ?_
  simp only [Act.put, List.setIfInBounds_toArray, List.set_cons_succ, List.set_cons_zero]
  refine hld_take 21 rfl (by kernel_rfl) (by kernel_rfl) (by kernel_rfl) (fun _ _ _ h => h) rfl HAC.out (by rintro w' ⟨v0, v1, v2, v3, v4, v5, v6, v7, v8, v9, v10, v11, v12, v13, v14, -⟩; simp only at v0 v1 v2 v3 v4 v5 v6 v7 v8 v9 v10 v11 v12 v13 v14; go_simp; rfl) ?_
  simp only [Act.put, List.setIfInBounds_toArray, List.set_cons_succ, List.set_cons_zero]
  refine hld_take 22 rfl (by kernel_rfl) (by kernel_rfl) (by kernel_rfl) (fun _ _ _ h => h) rfl HAC.out (by rintro w' ⟨v0, v1, v2, v3, v4, v5, v6, v7, v8, v9, v10, v11, v12, v13, v14, -⟩; simp only at v0 v1 v2 v3 v4 v5 v6 v7 v8 v9 v10 v11 v12 v13 v14; go_simp; rfl) ?_
  simp only [Act.put, List.setIfInBounds_toArray, List.set_cons_succ, List.set_cons_zero]
  refine hld_take 23 rfl (by kernel_rfl) (by kernel_rfl) (by kernel_rfl) (fun _ _ _ h => h) rfl HAC.out (by rintro w' ⟨v0, v1, v2, v3, v4, v5, v6, v7, v8, v9, v10, v11, v12, v13, v14, -⟩; simp only at v0 v1 v2 v3 v4 v5 v6 v7 v8 v9 v10 v11 v12 v13 v14; go_simp; rfl) ?_
  simp only [Act.put, List.setIfInBounds_toArray, List.set_cons_succ, List.set_cons_zero]
  refine hld_take 24 rfl (by kernel_rfl) (by kernel_rfl) (by kernel_rfl) (fun _ _ _ h => h) rfl HAC.out (by rintro w' ⟨v0, v1, v2, v3, v4, v5, v6, v7, v8, v9, v10, v11, v12, v13, v14, -⟩; simp only at v0 v1 v2 v3 v4 v5 v6 v7 v8 v9 v10 v11 v12 v13 v14; go_simp; rfl) ?_
  simp only [Act.put, List.setIfInBounds_toArray, List.set_cons_succ, List.set_cons_zero]
  refine hld_take 25 rfl (by kernel_rfl) (by kernel_rfl) (by kernel_rfl) (fun _ _ _ h => h) rfl HAC.out (by rintro w' ⟨v0, v1, v2, v3, v4, v5, v6, v7, v8, v9, v10, v11, v12, v13, v14, -⟩; simp only at v0 v1 v2 v3 v4 v5 v6 v7 v8 v9 v10 v11 v12 v13 v14; go_simp; rfl) ?_
  simp only [Act.put, List.setIfInBounds_toArray, List.set_cons_succ, List.set_cons_zero]
  refine hld_take 26 rfl (by kernel_rfl) (by kernel_rfl) (by kernel_rfl) (fun _ _ _ h => h) rfl HAC.out (by rintro w' ⟨v0, v1, v2, v3, v4, v5, v6, v7, v8, v9, v10, v11, v12, v13, v14, -⟩; simp only at v0 v1 v2 v3 v4 v5 v6 v7 v8 v9 v10 v11 v12 v13 v14; go_simp; rfl) ?_
  simp only [Act.put, List.setIfInBounds_toArray, List.set_cons_succ, List.set_cons_zero]
  refine hld_take 27 rfl (by kernel_rfl) (by kernel_rfl) (by kernel_rfl) (fun _ _ _ h => h) rfl HAC.out (by rintro w' ⟨v0, v1, v2, v3, v4, v5, v6, v7, v8, v9, v10, v11, v12, v13, v14, -⟩; simp only at v0 v1 v2 v3 v4 v5 v6 v7 v8 v9 v10 v11 v12 v13 v14; go_simp; rfl) ?_
  simp only [Act.put, List.setIfInBounds_toArray, List.set_cons_succ, List.set_cons_zero]
  refine hld_take 28 rfl (by kernel_rfl) (by kernel_rfl) (by kernel_rfl) (fun _ _ _ h => h) rfl HAC.out (by rintro w' ⟨v0, v1, v2, v3, v4, v5, v6, v7, v8, v9, v10, v11, v12, v13, v14, -⟩; simp only at v0 v1 v2 v3 v4 v5 v6 v7 v8 v9 v10 v11 v12 v13 v14; go_simp; rfl) ?_
  simp only [Act.put, List.setIfInBounds_toArray, List.set_cons_succ, List.set_cons_zero]
  refine hld_take 29 rfl (by kernel_rfl) (by kernel_rfl) (by kernel_rfl) (fun _ _ _ h => h) rfl HAC.out (by rintro w' ⟨v0, v1, v2, v3, v4, v5, v6, v7, v8, v9, v10, v11, v12, v13, v14, -⟩; simp only at v0 v1 v2 v3 v4 v5 v6 v7 v8 v9 v10 v11 v12 v13 v14; go_simp; rfl) ?_
  simp only [Act.put, List.setIfInBounds_toArray, List.set_cons_succ, List.set_cons_zero]
  refine hld_take 30 rfl (by kernel_rfl) (by kernel_rfl) (by kernel_rfl) (fun _ _ _ h => h) rfl HAC.out (by rintro w' ⟨v0, v1, v2, v3, v4, v5, v6, v7, v8, v9, v10, v11, v12, v13, v14, -⟩; simp only at v0 v1 v2 v3 v4 v5 v6 v7 v8 v9 v10 v11 v12 v13 v14; go_simp; rfl) ?_
  simp only [Act.put, List.setIfInBounds_toArray, List.set_cons_succ, List.set_cons_zero]
  refine hld_take 31 rfl (by kernel_rfl) (by kernel_rfl) (by kernel_rfl) (fun _ _ _ h => h) rfl HAC.out (by rintro w' ⟨v0, v1, v2, v3, v4, v5, v6, v7, v8, v9, v10, v11, v12, v13, v14, -⟩; simp only at v0 v1 v2 v3 v4 v5 v6 v7 v8 v9 v10 v11 v12 v13 v14; go_simp; rfl) ?_
  simp only [Act.put, List.setIfInBounds_toArray, List.set_cons_succ, List.set_cons_zero]
  refine hld_take 32 rfl (by kernel_rfl) (by kernel_rfl) (by kernel_rfl) (fun _ _ _ h => h) rfl HAC.out (by rintro w' ⟨v0, v1, v2, v3, v4, v5, v6, v7, v8, v9, v10, v11, v12, v13, v14, -⟩; simp only at v0 v1 v2 v3 v4 v5 v6 v7 v8 v9 v10 v11 v12 v13 v14; go_simp; rfl) ?_
  simp only [Act.put, List.setIfInBounds_toArray, List.set_cons_succ, List.set_cons_zero]
  refine hld_take 33 rfl (by kernel_rfl) (by kernel_rfl) (by kernel_rfl) (fun _ _ _ h => h) rfl HAC.out (by rintro w' ⟨v0, v1, v2, v3, v4, v5, v6, v7, v8, v9, v10, v11, v12, v13, v14, -⟩; simp only at v0 v1 v2 v3 v4 v5 v6 v7 v8 v9 v10 v11 v12 v13 v14; go_simp; rfl) ?_
  simp only [Act.put, List.setIfInBounds_toArray, List.set_cons_succ, List.set_cons_zero]
  refine hld_take 34 rfl (by kernel_rfl) (by kernel_rfl) (by kernel_rfl) (fun _ _ _ h => h) rfl HAC.out (by rintro w' ⟨v0, v1, v2, v3, v4, v5, v6, v7, v8, v9, v10, v11, v12, v13, v14, -⟩; simp only at v0 v1 v2 v3 v4 v5 v6 v7 v8 v9 v10 v11 v12 v13 v14; go_simp; rfl) ?_
  simp only [Act.put, List.setIfInBounds_toArray, List.set_cons_succ, List.set_cons_zero]
  refine hld_take 35 rfl (by kernel_rfl) (by kernel_rfl) (by kernel_rfl) (fun _ _ _ h => h) rfl HAC.out (by rintro w' ⟨v0, v1, v2, v3, v4, v5, v6, v7, v8, v9, v10, v11, v12, v13, v14, -⟩; simp only at v0 v1 v2 v3 v4 v5 v6 v7 v8 v9 v10 v11 v12 v13 v14; go_simp; rfl) ?_
  simp only [Act.put, List.setIfInBounds_toArray, List.set_cons_succ, List.set_cons_zero]
  refine hld_take 36 rfl (by kernel_rfl) (by kernel_rfl) (by kernel_rfl) (fun _ _ _ h => h) rfl HAC.out (by rintro w' ⟨v0, v1, v2, v3, v4, v5, v6, v7, v8, v9, v10, v11, v12, v13, v14, -⟩; simp only at v0 v1 v2 v3 v4 v5 v6 v7 v8 v9 v10 v11 v12 v13 v14; go_simp; rfl) ?_
  simp only [Act.put, List.setIfInBounds_toArray, List.set_cons_succ, List.set_cons_zero]
  refine hld_take 37 rfl (by kernel_rfl) (by kernel_rfl) (by kernel_rfl) (fun _ _ _ h => h) rfl HAC.out (by rintro w' ⟨v0, v1, v2, v3, v4, v5, v6, v7, v8, v9, v10, v11, v12, v13, v14, -⟩; simp only at v0 v1 v2 v3 v4 v5 v6 v7 v8 v9 v10 v11 v12 v13 v14; go_simp; rfl) ?_
  simp only [Act.put, List.setIfInBounds_toArray, List.set_cons_succ, List.set_cons_zero]
  refine hld_take 38 rfl (by kernel_rfl) (by kernel_rfl) (by kernel_rfl) (fun _ _ _ h => h) rfl HAC.out (by rintro w' ⟨v0, v1, v2, v3, v4, v5, v6, v7, v8, v9, v10, v11, v12, v13, v14, -⟩; simp only at v0 v1 v2 v3 v4 v5 v6 v7 v8 v9 v10 v11 v12 v13 v14; go_simp; rfl) ?_
  simp only [Act.put, List.setIfInBounds_toArray, List.set_cons_succ, List.set_cons_zero]
  refine hld_take 39 rfl (by kernel_rfl) (by kernel_rfl) (by kernel_rfl) (fun _ _ _ h => h) rfl HAC.out (by rintro w' ⟨v0, v1, v2, v3, v4, v5, v6, v7, v8, v9, v10, v11, v12, v13, v14, -⟩; simp only at v0 v1 v2 v3 v4 v5 v6 v7 v8 v9 v10 v11 v12 v13 v14; go_simp; rfl) ?_
  simp only [Act.put, List.setIfInBounds_toArray, List.set_cons_succ, List.set_cons_zero]
  refine hld_bar 40 rfl (by kernel_rfl) rfl (fun K hK => ?_)
  go_wp2_with fail
  obtain ⟨W6, hW6⟩ : ∃ W : World, W = W5.alloc (.cells #[.int .i64 1] 3) := ⟨_, rfl⟩
  rw [← hW6]
  have hbw : Below W5.heap.size W5 W6 := by rw [hW6]; exact (Below.refl _ _).alloc (Nat.le_refl _) _
  have HB7 := Lib.hid (below_next HB6.out hbw)
  have HK7 := Lib.hid (show IntsAt _ W6 _ _ from RowAt.below HK6.out (by omega) hbw)
  have HAC2 := Lib.hid (HAC.out.below hbw)
  have HI7 := Lib.hid (show IntsAt (fun _ => True) W6 (.slice (some ⟨W5.heap.size, 0, none⟩) 1 1) [1] by rw [hW6]; exact (row_lit (cells := [.int .i64 1]) (heap_alloc_new W5 _) rfl (by decide)).weak (fun _ _ => trivial))
  clear hW6 hbw HAC
  have HAC := HAC2
  refine ⟨HAC.out, ?_⟩
  refine hld_bar 41 rfl (by kernel_rfl) rfl (fun K hK => ?_)
  go_wp2_with (go_at_call 22; refine (ints04_any _ _ _ _ [1] [1] _ HK7.out HI7.out).mono ?_; rintro e w8 ⟨rfl, hb8⟩)
  have HB8 := Lib.hid (below_next HB7.out hb8)
  have HAC3 := Lib.hid (HAC.out.below hb8)
  clear HAC HAC2 hb8
  have HAC := HAC3
  refine ⟨HAC.out, ?_⟩
  refine hld_take 42 rfl (by kernel_rfl) (by kernel_rfl) (by kernel_rfl) (fun _ _ _ h => h) rfl HAC.out (by rintro w' ⟨v0, v1, v2, v3, v4, v5, v6, v7, v8, v9, v10, v11, v12, v13, v14, -⟩; simp only at v0 v1 v2 v3 v4 v5 v6 v7 v8 v9 v10 v11 v12 v13 v14; go_simp; rfl) ?_
  simp only [Act.put, List.setIfInBounds_toArray, List.set_cons_succ, List.set_cons_zero]
  refine hld_take 43 rfl (by kernel_rfl) (by kernel_rfl) (by kernel_rfl) (fun _ _ _ h => h) rfl HAC.out (by rintro w' ⟨v0, v1, v2, v3, v4, v5, v6, v7, v8, v9, v10, v11, v12, v13, v14, -⟩; simp only at v0 v1 v2 v3 v4 v5 v6 v7 v8 v9 v10 v11 v12 v13 v14; go_simp; rfl) ?_
  simp only [Act.put, List.setIfInBounds_toArray, List.set_cons_succ, List.set_cons_zero]
  refine hld_done (by kernel_rfl) ?_
  go_wp2_with fail
  go_ret
  exact ⟨rfl, HB8.out⟩

end Go.Proofs.YtndgmcggckpgfaaDoor

/- What the laws share: from the form's words (shaped, laid) to the walks' premises, and back. -/
namespace Go.Proofs.YtndgmcggckpgfaaDoor
open Go.ChangeShapes Go.WideShapes Go.ChangeAt Go.RowKit Go.Lib Go.Shelf
open Go.ChangeMaps (open_string shut_string)

section
variable {H : Type} {enc : TypeId × Value → H}
/-- The wrap that hands on both the shape of the world and a further condition. -/
theorem handed {a : Assume} {C : Checked} {os : Os} {f : FuncId} {fn : Func} {s : ChangeSpec} {conds : List PathCond} {apart fresh handsOn again : Bool} {X : World → Array Value → Prop}
    (hX : ∀ (w w' : World) (args : Array Value), w.heap = w'.heap → X w args → X w' args)
    (own : ownKnob C.prog.godebug = none) (started : os.Started) (noInit : C.prog.inits.idxOf? f = none) (hfn : C.prog.funcs[f]? = some fn)
    (witness : ∃ (w : World) (tape : Tape) (i : Input), w.os = os ∧ (w.forCall tape i).Shaped C.prog ∧ i.vars = [] ∧ Input.okWide C.prog (w.forCall tape i) .any w.heap.size f i ∧
      ((s.pre enc C.prog fn conds apart (w.forCall tape i).memory i.args ∧ X (w.forCall tape i).memory i.args) ∧ sizedMet enc C.prog fn (OpenSpec.ofChange s) apart (w.forCall tape i).memory i.args) ∧ a.holds C.prog (lone (Frame.enter C.prog f i.args .normal) [] (w.forCall tape i)))
    (contract : ∀ (W : World) (base : Nat) (args : Array Value) (ds gs : List (DataW H)) (before : List MemPlace),
      (∀ (j : Nat) t v, fn.params[j]? = some t → args[j]? = some v → Value.okWide C.prog W .any base t v) →
      DataW.Whole enc C.prog fn.params.toList s.vars apart W args.toList ds gs before →
      (DataW.weightsEach C.prog (fn.params.toList ++ s.plain.varTypes C.prog) (ds ++ gs)).all (· ≤ reachBytes) = true → X W args → W.ShapedOpen C.prog →
      Calls C.prog f args W fun e W' => ∃ v, e = .returned v ∧ s.post enc C.prog fn apart fresh handsOn again W args v W') :
    ReturnsInHanded a C os f .any (fun w args => (s.pre enc C.prog fn conds apart w args ∧ X w args) ∧ sizedMet enc C.prog fn (OpenSpec.ofChange s) apart w args) (s.post enc C.prog fn apart fresh handsOn again) := by
  refine returnsInHanded_of_calls own started noInit witness ?_
  intro w tape i _ hsh _ hok hpre hholds
  obtain ⟨_, _, _, fn', hfn', _, _, _, _, hval⟩ := hok
  have e : fn' = fn := Option.some.inj (hfn'.symm.trans hfn)
  subst e
  obtain ⟨⟨⟨ds, gs, before, hw, hc⟩, hx⟩, hz⟩ := hpre
  have hw' := DataW.Whole.of_heap (w' := w.forCall tape i) (by rfl) hw
  refine (contract (w.forCall tape i) w.heap.size i.args ds gs before hval hw' (hz.weights hw) (hX _ _ _ (by rfl) hx) hsh).mono fun e W' ⟨v, he, hp⟩ => ?_
  subst he
  exact ChangeSpec.post_blind hp
end

def laidL : List (String × DataW Unit) := [("unicode/utf8.acceptRanges", Rows.laid_unicode_utf8_acceptRanges), ("unicode/utf8.first", Rows.laid_unicode_utf8_first)]
theorem own : ownKnob Tryd.prog.godebug = none := by kernel_rfl
theorem accept_eq : (Rows.laid_unicode_utf8_acceptRanges : DataW Unit) = acceptData := by kernel_rfl
theorem env_of {W : World} (hL : laidMetH Tryd.prog laidL W) (hsh : W.ShapedOpen Tryd.prog) : Env W := by
  rw [MakeChecks.laidMetH_plain _ _ _ (by kernel_rfl)] at hL
  refine ⟨?_, ?_⟩
  · exact cell_of_shapedOpen_int (zero := #[.int .i64 0]) (t := 3) hsh (of_decide_eq_true (by kernel_rfl)) (by kernel_rfl) rfl (by kernel_rfl) (by kernel_rfl) Tryd.underlying3
  · have h1 := Lib.laidMet.reads hL (.head _)
    have h2 := Lib.laidMet.reads hL (.tail _ (.head _))
    rw [accept_eq] at h1
    exact utf8Tabs_of_readsT (U8Types.of196 Tryd.laysValid) ⟨by kernel_rfl, by kernel_rfl, by kernel_rfl, by kernel_rfl, by kernel_rfl, by kernel_rfl, by kernel_rfl⟩ (Pinned.utf8First_eq ▸ h2) h1

end Go.Proofs.YtndgmcggckpgfaaDoor

/- Contents that came in; few. -/
namespace Go.Proofs.YtndgmcggckpgfaaDoor
open Go Go.RowKit Go.Maps Go.MapKept

def readS (v : Value) : Option (DataW Unit × List MemPlace) := match v with
  | .slice _ _ _ => some (.nil, [])
  | _ => none
/-- A map of contents that came in. -/
def ContIn (S : Nat → Prop) (w : World) (cv : Value) (cs : List (ByteArray × List UInt8)) : Prop :=
  (cv = .map none ∧ cs = []) ∨ ∃ b es clock, cv = .map (some b) ∧ S b ∧ w.heap[b]? = some (.map es clock) ∧ es.size ≤ maxLen ∧ Stamped es clock ∧ (∀ x ∈ es.toList, ∃ l, keyOf Tryd.prog 9 x.key = some l) ∧ EntsIn S w (es.toList.map fun e => (e.key, e.val)) cs
theorem EntsIn.len {S : Nat → Prop} {w : World} : ∀ {m : List (Value × Value)} {cs : List (ByteArray × List UInt8)}, EntsIn S w m cs → m.length = cs.length
  | [], [], _ => rfl
  | [], _ :: _, h => False.elim h
  | _ :: _, [], h => False.elim h
  | (_, _) :: _, (_, _) :: _, h => by simp [EntsIn.len h.2.2]
theorem EntsIn.vals {S : Nat → Prop} {w : World} : ∀ {m : List (Value × Value)} {cs : List (ByteArray × List UInt8)}, EntsIn S w m cs → ∀ p ∈ m, ∃ n bs, p.1 = .string n ∧ BytesAt S w p.2 bs
  | [], [], _, _, hp => by simp at hp
  | [], _ :: _, h, _, _ => False.elim h
  | _ :: _, [], h, _, _ => False.elim h
  | (k, v) :: m, (n, bs) :: cs, h, p, hp => by
    rcases List.mem_cons.1 hp with rfl | hp
    · exact ⟨n, bs, h.1, h.2.1⟩
    · exact EntsIn.vals h.2.2 p hp
theorem ContIn.at {S : Nat → Prop} {w : World} {cv : Value} {cs : List (ByteArray × List UInt8)} (h : ContIn S w cv cs) : ContAt S w cv cs := by
  rcases h with h | ⟨b, es, clock, h1, h2, h3, h4, h5, h6, h7⟩
  · exact .inl h
  · refine .inr ⟨b, _, h1, h2, ⟨es, clock, h3, rfl, ?_, ?_⟩, h7⟩
    · rw [List.map_map]
      exact h5.2.2
    · intro p hp
      obtain ⟨x, hx, rfl⟩ := List.mem_map.1 hp
      exact h6 x hx
theorem ContIn.below {S : Nat → Prop} {w w' : World} {cv : Value} {cs : List (ByteArray × List UInt8)} (h : ContIn S w cv cs) (hb : Below w.heap.size w w') : ContIn S w' cv cs := by
  rcases h with h | ⟨b, es, clock, h1, h2, h3, h4, h5, h6, h7⟩
  · exact .inl h
  · exact .inr ⟨b, es, clock, h1, h2, (hb.block b (Array.getElem?_eq_some_iff.1 h3).1).trans h3, h4, h5, h6, h7.mono (fun v bs hv => RowAt.below hv (by omega) hb)⟩
theorem ContIn.owns {S : Nat → Prop} {w : World} {b : Nat} {cs : List (ByteArray × List UInt8)} (h : ContIn S w (.map (some b)) cs) : b < w.heap.size ∧ ∃ es clock, w.heap[b]? = some (.map es clock) ∧ es.size = cs.length ∧ ∃ D, w.ownsMap (H := Unit) Tryd.prog 9 readS b es.size D := by
  rcases h with ⟨h, _⟩ | ⟨b', es, clock, h1, h2, h3, h4, h5, h6, h7⟩
  · cases h
  · cases h1
    have hF : WideElems.Fit Tryd.prog 9 readS es clock := ⟨h4, h5, fun x hx => by
      obtain ⟨l, hl⟩ := h6 x hx
      obtain ⟨n, bs, _, hb⟩ := h7.vals (x.key, x.val) (List.mem_map.2 ⟨x, hx, rfl⟩)
      obtain ⟨_, a, cap, hv, _⟩ := hb
      simp only at hv
      simp [WideElems.rd, hl, hv, readS]⟩
    have hs : es.size = cs.length := by have := h7.len; simpa using this
    exact ⟨(Array.getElem?_eq_some_iff.1 h3).1, es, clock, h3, hs, _, ⟨es, clock, h3, hF, Nat.le_refl _, rfl⟩⟩
theorem run_len_map {w : World} {b : Nat} {es : Array MapEntry} {clock : Nat} (hb : w.heap[b]? = some (.map es clock)) (ty : TypeId) : (Builtin.len_ #[27] ty #[.map (some b)]).run Tryd.prog w = .ok (.int .i64 (es.size : Int)) w := by
  simp [Builtin.len_, run_underlying Tryd.underlying27, MapKept.run_getObj_map hb, goInt, Result.andThen]
def LenR (c : List Value) (n : Nat) : Prop := ∃ a cap, c = [.slice a n cap] ∧ n ≤ cap ∧ cap ≤ maxLen
theorem LenR.len (c : List Value) (n : Nat) (h : LenR c n) : c.length = 1 := by obtain ⟨a, cap, rfl, _⟩ := h; rfl
def LensAt (S : Nat → Prop) (w : World) (v : Value) (l : List Nat) : Prop := SeqAt S w 1 LenR v l
def FewRes (cs : List (ByteArray × List UInt8)) (lens : List Nat) (w : World) (e : Ending) (w' : World) : Prop := ∃ b, e = .returned (.bool b) ∧ Below w.heap.size w w' ∧ (b = true → (∀ n ∈ lens, n ≤ 6) ∧ cs.length ≤ 80)
theorem lens_at {S : Nat → Prop} {w w' : World} {a : Option Addr} {n cap : Nat} {ls : List Nat} (hv : LensAt S w (.slice a n cap) ls) (hb : Below w.heap.size w w') {k m : Nat} (hl : ls[k]? = some m) :
    ∃ b o ca cc, a = some ⟨b, o, none⟩ ∧ w'.cell? ⟨b, o + k, none⟩ = some (.slice ca m cc) ∧ m ≤ cc ∧ cc ≤ maxLen := by
  obtain ⟨a', cap', hv', _, _, hx⟩ := SeqAt.shape hv LenR.len
  cases hv'
  obtain ⟨b, o, c, rfl, hS, ⟨ca, cc, rfl, h1, h2⟩, _, hcl⟩ := hx k m hl
  have q0 := hcl 0 (by omega)
  simp only [List.getElem?_cons_zero, Nat.mul_one, Nat.add_zero] at q0
  exact ⟨b, o, ca, cc, rfl, (hb.cell (block_lt q0)).trans q0, h1, h2⟩
set_option maxRecDepth 100000 in
set_option maxHeartbeats 2000000 in
theorem few_any (S T : Nat → Prop) (cv lv : Value) (cs : List (ByteArray × List UInt8)) (lens : List Nat) (w : World) (hc : ContIn S w cv cs) (hv : LensAt T w lv lens) : Calls Tryd.prog 10 #[cv, lv] w (FewRes cs lens w) := by
  obtain ⟨a, cap, rfl, hcp, hm, -⟩ := SeqAt.shape hv LenR.len
  unfold maxLen at hm
  have HC := Lib.hid hc
  have HV := Lib.hid hv
  clear hc hv
  go_enter Tryd.func10, Tryd.ntmps10
  go_wp2_with fail
  go_loop [5] (fun i => ∃ k : Nat, k ≤ lens.length ∧ i = .int .i64 k ∧ ∀ n ∈ lens.take k, n ≤ 6) (fun i => lens.length - (intOf i).toNat)
  case atStart => exact ⟨0, Nat.zero_le _, rfl, by simp⟩
  case round =>
    obtain ⟨k, hk, rfl, h6⟩ := hrel
    have H6 := Lib.hid h6
    clear h6
    by_cases hlt : k < lens.length
    · obtain ⟨m, hmm⟩ : ∃ m, lens[k]? = some m := ⟨lens[k], by simp [hlt]⟩
      obtain ⟨b, o, ca, cc, rfl, q0, hc1, hc2⟩ := lens_at HV.out (Below.refl _ _) hmm
      unfold maxLen at hc2
      have HMM := Lib.hid hmm
      clear hmm
      by_cases hm6 : 6 < m
      · go_wp2_with fail
        go_ret
        exact ⟨false, rfl, Below.refl _ _, fun h => by cases h⟩
      · have HT := Lib.hid (show ∀ n ∈ lens.take (k + 1), n ≤ 6 by
          rw [take_snoc' HMM.out]
          intro n hn
          rcases List.mem_append.1 hn with hn | hn
          · exact H6.out n hn
          · simp only [List.mem_singleton] at hn; subst hn; omega)
        go_wp2_with fail
        go_round
        case rel => exact ⟨k + 1, by omega, by go_num, HT.out⟩
        case measure => simp [intOf]; omega
    · obtain rfl : k = lens.length := by omega
      have HL := Lib.hid (show ∀ n ∈ lens, n ≤ 6 by have := H6.out; rwa [List.take_of_length_le (Nat.le_refl _)] at this)
      have hcx := HC.out
      rcases id hcx with ⟨rfl, rfl⟩ | ⟨mb, _, _, rfl, _⟩
      · have hr := fun (w : World) => run_range_nilMap (P := Tryd.prog) w 27 9 65 Tryd.underlying27
        have hn := fun (w : World) (ty : TypeId) (a b : Nat) (s : Array Nat) => run_next_nilMap (P := Tryd.prog) w ty a b s
        have hln := fun (w : World) (ty : TypeId) => Maps.len_nil (P := Tryd.prog) (w := w) (k := 9) (e := 65) Tryd.underlying27 ty
        clear hcx
        go_wp2_with fail
        go_loopw [6] (fun n wr => n = .int .i64 0 ∧ wr = w.alloc (.mapIter none 0 #[] 0)) (fun _ _ => 0)
        case atStart => exact ⟨rfl, rfl⟩
        case round =>
          obtain ⟨rfl, rfl⟩ := hrel
          go_wp2_with fail
          go_ret
          exact ⟨_, rfl, (Below.refl _ _).alloc (Nat.le_refl _) _, fun _ => ⟨HL.out, by simp⟩⟩
      · obtain ⟨hmb, es, clock, hes, hsz, D, hown⟩ := ContIn.owns hcx
        have HES := Lib.hid hes
        have HSZ := Lib.hid hsz
        have HOWN := Lib.hid hown
        clear hcx hes hsz hown
        go_wp2_with (at_range; go_must (refine wpList_range_own _ rfl _ 27 rfl 9 65 lawStr Tryd.underlying27 readS mb es.size D rfl HOWN.out ?_); intro w0 hrg0 hg0 hs0)
        have HR0 := Lib.hid hrg0
        have HB0 := Lib.hid (show Below w.heap.size w w0 from ⟨hg0.os, hg0.tape, hg0.output, hg0.size, fun k hk => hg0.block k hk (by simp)⟩)
        clear hrg0 hg0 hs0
        try go_frame
        go_loopw [6] (fun n wr => ∃ x left cnt, n = .int .i64 x ∧ wr.ranges Tryd.prog 9 readS mb w.heap.size es.size D left cnt ∧ Below w.heap.size w wr) (fun _ wr => wr.rangeLeft mb w.heap.size)
        case atStart => exact ⟨0, _, _, rfl, HR0.out, HB0.out⟩
        case round =>
          obtain ⟨x, left, cnt, rfl, hrg, hb⟩ := hrel
          have HRG := Lib.hid hrg
          have HB := Lib.hid hb
          have hlm := fun (ty : TypeId) => run_len_map ((hb.block mb hmb).trans HES.out) ty
          clear hrg hb HR0 HB0
          go_wp2_with (at_next; go_must (refine wpList_next_ranges _ rfl _ rfl 9 lawStr readS Value.string (fun c : Option Addr × Nat × Nat => Value.slice c.1 c.2.1 c.2.2) (fun key kl h => by cases key <;> simp [keyOf, Tryd.underlying9, mapKey] at h; exact ⟨_, rfl⟩) (fun v y h => by cases v <;> simp [readS] at h; exact ⟨(_, _, _), rfl⟩) mb w.heap.size es.size D left cnt rfl HRG.out ?_ ?_))
          · intro _ _
            by_cases he : es.size ≤ 80
            · go_wp2_with fail
              go_ret
              exact ⟨_, rfl, HB.out, fun _ => ⟨HL.out, by rw [← HSZ.out]; exact he⟩⟩
            · go_wp2_with fail
              go_ret
              exact ⟨false, rfl, HB.out, fun h => by cases h⟩
          · intro key ca cn cc kl y1 y2 w1 cnt1 _ _ _ _ hrg1 hlt1 hg1 hs1 hen
            have HB1 := Lib.hid (show Below w.heap.size w w1 from HB.out.grown hg1 HB.out.size (fun k hk => by cases hk; exact Nat.le_refl _))
            have HRG1 := Lib.hid hrg1
            clear hrg1 hg1 hs1 hlm
            go_wp2_with fail
            go_roundw
            case rel => exact ⟨_, _, cnt1, rfl, HRG1.out, HB1.out⟩
            case measure => rw [HRG1.out.left_eq, HRG.out.left_eq]; omega

end Go.Proofs.YtndgmcggckpgfaaDoor

/- Contracts of package liveness: setOf, divide, Idle. -/
namespace Go.Proofs.YtndgmcggckpgfaaDoor
open Go.RowKit

def SetOfRes (rs : List Ref) (w : World) (e : Ending) (w' : World) : Prop := Below w.heap.size w w' ∧ ∃ nb mb v, e = .returned (.pointer (some ⟨nb, 0, none⟩)) ∧ StAt w' w.heap.size nb mb v (menAll rs [])
set_option maxRecDepth 100000 in
set_option maxHeartbeats 2000000 in
theorem setOf_any (S : Nat → Prop) (lv : Value) (l : List Ref) (w1 : World) (hv : RefsAt S w1 lv l) (hlen : l.length < 1099511627775) :
    Calls Tryd.prog 34 #[lv] w1 (SetOfRes l w1) := by
  obtain ⟨la, lc, rfl, hcc, hccm, -⟩ := SeqAt.shape hv RefR.len
  unfold maxLen at hccm
  have HV := Lib.hid (show RefsAt (fun k => k < w1.heap.size) w1 (.slice la l.length lc) l from RefsAt.same hv (fun k hk _ => ⟨hk, rfl⟩))
  clear hv
  go_enter Tryd.func34, Tryd.ntmps34
  go_wp2_with fail
  refine (newSet_any w1 w1.heap.size).mono ?_
  rintro e w2 ⟨rfl, hst, hb2, hz2⟩
  have HST := Lib.hid hst
  have HB2 := Lib.hid hb2
  clear hst hb2
  go_wp2_with fail
  go_loopw [9] (fun i wq => ∃ (j : Nat) (v : Value), j ≤ l.length ∧ i = .int .i64 j ∧ StAt wq w1.heap.size (w1.heap.size + 1) w1.heap.size v (menAll (l.take j) []) ∧ Below w1.heap.size w1 wq) (fun i _ => l.length - (intOf i).toNat)
  case atStart => exact ⟨0, _, Nat.zero_le _, rfl, HST.out, HB2.out⟩
  case round =>
    obtain ⟨j, v3, hj, rfl, hst3, hb3⟩ := hrel
    have HS3 := Lib.hid hst3
    have HB3 := Lib.hid hb3
    clear hst3 hb3
    by_cases hlt2 : j < l.length
    · obtain ⟨c, hc⟩ : ∃ c, l[j]? = some c := ⟨l[j], by simp [hlt2]⟩
      obtain ⟨b2, o2, rfl, hcok, p0, p1, p2⟩ := refs_at HV.out HB3.out hc
      have HCO := Lib.hid hcok
      have HSN2 := Lib.hid (show menAll (l.take (j + 1)) [] = mentionP c (menAll (l.take j) []) by rw [take_snoc' hc, menAll_snoc])
      have HML := Lib.hid (show (menAll (l.take j) []).length < 1099511627775 by
        have h1 := menAll_len (l.take j) []
        rw [List.length_take, List.length_nil] at h1
        omega)
      have HAL := Lib.hid ((Below.refl wr.heap.size wr).alloc (Nat.le_refl _) (.cells #[.string c.name, .int .i64 c.gen, .int .i64 c.size] 37))
      have HS4 := Lib.hid (HS3.out.below HAL.out)
      have HB4 := Lib.hid (below_next HB3.out HAL.out)
      clear hc hcok
      go_wp2_with fail
      refine (add_any w1.heap.size (w1.heap.size + 1) w1.heap.size v3 _ c _ HS4.out HCO.out HML.out HB4.out.size).mono ?_
      rintro e w4 ⟨rfl, v4, hst4, hg4, -⟩
      have HB5 := Lib.hid (show Below w1.heap.size w1 w4 from HB4.out.trans (hg4.below HB4.out.size (fun k hk => st_ge HS4.out (Nat.le_refl _) (by omega) (Nat.le_refl _) hk)))
      have HS5 := Lib.hid hst4
      clear hst4 hg4 p0 p1 p2
      go_wp2_with fail
      go_roundw
      case rel => exact ⟨j + 1, v4, by omega, by go_num, by rw [HSN2.out]; exact HS5.out, HB5.out⟩
      case measure => simp [intOf]; omega
    · obtain rfl : j = l.length := by omega
      rw [List.take_of_length_le (Nat.le_refl _)] at HS3
      go_wp2_with fail
      go_ret
      exact ⟨HB3.out, _, _, _, rfl, HS3.out⟩

/-- A stripe: its name and its references. -/
structure Stripe where
  id : ByteArray
  refs : List Ref
def StripeR (S : Nat → Prop) (w : World) (c : List Value) (x : Stripe) : Prop := ∃ (a1 a2 a3 a4 : Int) (rv : Value), c = [.string x.id, .int .i64 a1, .int .i64 a2, .int .i64 a3, .int .i64 a4, rv] ∧ RefsAt S w rv x.refs
theorem StripeR.len {S : Nat → Prop} {w : World} (c : List Value) (x : Stripe) (h : StripeR S w c x) : c.length = 6 := by obtain ⟨_, _, _, _, _, rfl, _⟩ := h; rfl
def StripesAt (S : Nat → Prop) (w : World) (v : Value) (xs : List Stripe) : Prop := SeqAt S w 6 (StripeR S w) v xs
theorem StripesAt.below {S : Nat → Prop} {w w' : World} {v : Value} {xs : List Stripe} (h : StripesAt S w v xs) (hb : Below w.heap.size w w') : StripesAt S w' v xs :=
  SeqAt.below h (by omega) hb (fun c x _ ⟨a1, a2, a3, a4, rv, h1, h2⟩ => ⟨a1, a2, a3, a4, rv, h1, SeqAt.below h2 (by omega) hb (fun _ _ _ h => h)⟩)
theorem stripes_at {S : Nat → Prop} {w w' : World} {a : Option Addr} {n cap : Nat} {xs : List Stripe} (hv : StripesAt S w (.slice a n cap) xs) (hb : Below w.heap.size w w') {k : Nat} {x : Stripe} (hx : xs[k]? = some x) :
    ∃ b o a1 a2 a3 a4 ra rc, a = some ⟨b, o, none⟩ ∧ x.refs.length ≤ rc ∧ rc ≤ maxLen ∧ RefsAt S w' (.slice ra x.refs.length rc) x.refs ∧ ∀ j, j < 6 → w'.cell? ⟨b, o + k * 6 + j, none⟩ = ([.string x.id, .int .i64 a1, .int .i64 a2, .int .i64 a3, .int .i64 a4, .slice ra x.refs.length rc] : List Value)[j]? := by
  obtain ⟨a', cap', hv', _, _, hxx⟩ := SeqAt.shape hv StripeR.len
  cases hv'
  obtain ⟨b, o, c, rfl, hS, ⟨a1, a2, a3, a4, rv, rfl, hrf⟩, _, hcl⟩ := hxx k x hx
  obtain ⟨ra, rc, rfl, h1, h2, -⟩ := SeqAt.shape hrf RefR.len
  have q0 := hcl 0 (by omega)
  have hlt : b < w.heap.size := block_lt (a := ⟨b, o + (k * 6 + 0), none⟩) (v := .string x.id) q0
  refine ⟨b, o, a1, a2, a3, a4, ra, rc, rfl, h1, h2, SeqAt.below hrf (by omega) hb (fun _ _ _ h => h), fun j hj => ?_⟩
  rw [Nat.add_assoc]
  exact (hb.cell (p := ⟨b, o + (k * 6 + j), none⟩) hlt).trans (hcl j hj)
def usedB (refs l : List Ref) : Bool := refs.any fun r => decide (r ∈ l)
def idsP (b : Bool) (xs : List Stripe) (l : List Ref) : List ByteArray := (xs.filter fun x => usedB x.refs l == b).map Stripe.id
theorem idsP_snoc (b : Bool) (xs : List Stripe) (l : List Ref) (x : Stripe) : idsP b (xs ++ [x]) l = if usedB x.refs l = b then idsP b xs l ++ [x.id] else idsP b xs l := by
  unfold idsP
  rw [List.filter_append, List.map_append]
  by_cases h : usedB x.refs l = b <;> simp [h]
theorem idsP_le (b : Bool) (xs : List Stripe) (l : List Ref) : (idsP b xs l).length ≤ xs.length := by unfold idsP; rw [List.length_map]; exact List.length_filter_le _ _
def StrsRes (xs : List ByteArray) (w : World) (e : Ending) (w' : World) : Prop := ∃ v, e = .returned v ∧ StrsAt (w.heap.size ≤ ·) w' v xs ∧ Below w.heap.size w w'
def DivRes (i b : List ByteArray) (w : World) (e : Ending) (w' : World) : Prop := ∃ iv bv, e = .returned (.tuple #[iv, bv]) ∧ StrsAt (w.heap.size ≤ ·) w' iv i ∧ StrsAt (w.heap.size ≤ ·) w' bv b ∧ Below w.heap.size w w'

/-- What stands at the head of a round of divide. -/
structure DivAt (w wr : World) (nb mb : Nat) (sv iv bv : Value) (L : List Ref) (i b : List ByteArray) : Prop where
  set : StAt wr w.heap.size nb mb sv L
  idle : wr.ownsRow w.heap.size 9 1 iv i.length (i.map Value.string)
  busy : wr.ownsRow w.heap.size 9 1 bv b.length (b.map Value.string)
  apart : iv.ownBlock = none ∨ iv.ownBlock ≠ bv.ownBlock
  below : Below w.heap.size w wr
section
variable {w wr w' : World} {nb mb : Nat} {sv iv bv v' : Value} {L : List Ref} {i b : List ByteArray}
theorem DivAt.next (h : DivAt w wr nb mb sv iv bv L i b) (hb : Below wr.heap.size wr w') : DivAt w w' nb mb sv iv bv L i b :=
  ⟨h.set.below hb, owns_below h.idle hb, owns_below h.busy hb, h.apart, below_next h.below hb⟩
theorem strs_apart {w : World} {base base2 nb mb : Nat} {v uv : Value} {l : List Ref} {n : Nat} {xs : List Value} (h : StAt w base nb mb v l) (ho : w.ownsRow base2 9 1 uv n xs) {k : Nat} (hk : uv.ownBlock = some k) : ¬ StOwn nb mb v k := by
  obtain ⟨cs, hc⟩ := owns_block ho hk
  exact h.notown hc (by decide) (by decide)
theorem DivAt.addIdle (h : DivAt w wr nb mb sv iv bv L i b) {x : ByteArray} (ho : w'.ownsRow w.heap.size 9 1 v' (i.length + 1) (i.map Value.string ++ [.string x])) (hg : wr.grownBy w' iv.ownBlock) (hp : ∀ k, v'.ownBlock = some k → iv.ownBlock = some k ∨ wr.heap.size ≤ k) : DivAt w w' nb mb sv v' bv L (i ++ [x]) b := by
  refine ⟨h.set.keep (fun k hk ho2 => hg.block k hk (fun e => strs_apart h.set h.idle e.symm ho2)), by rw [List.length_append, List.map_append]; exact ho, h.busy.kept hg ?_, ?_, below_grown h.below h.idle hg (Nat.le_refl _) h.below.size⟩
  · rcases h.apart with e | e
    · rw [e]; cases bv.ownBlock <;> simp
    · exact .inr (Ne.symm e)
  · cases hv : v'.ownBlock with
    | none => exact .inl rfl
    | some k =>
      refine .inr (fun e => ?_)
      rcases hp k hv with e2 | e2
      · rcases h.apart with e3 | e3
        · rw [e3] at e2; cases e2
        · exact e3 (e2.trans e)
      · have := (h.busy.lt k e.symm).2; omega
theorem DivAt.addBusy (h : DivAt w wr nb mb sv iv bv L i b) {x : ByteArray} (ho : w'.ownsRow w.heap.size 9 1 v' (b.length + 1) (b.map Value.string ++ [.string x])) (hg : wr.grownBy w' bv.ownBlock) (hp : ∀ k, v'.ownBlock = some k → bv.ownBlock = some k ∨ wr.heap.size ≤ k) : DivAt w w' nb mb sv iv v' L i (b ++ [x]) := by
  refine ⟨h.set.keep (fun k hk ho2 => hg.block k hk (fun e => strs_apart h.set h.busy e.symm ho2)), h.idle.kept hg ?_, by rw [List.length_append, List.map_append]; exact ho, ?_, below_grown h.below h.busy hg (Nat.le_refl _) h.below.size⟩
  · exact h.apart
  · cases hv : iv.ownBlock with
    | none => exact .inl rfl
    | some k =>
      refine .inr (fun e => ?_)
      rcases hp k e.symm with e2 | e2
      · rcases h.apart with e3 | e3
        · rw [e3] at hv; cases hv
        · exact e3 (hv.trans e2.symm)
      · have := (h.idle.lt k hv).2; omega
end
set_option maxRecDepth 100000 in
set_option maxHeartbeats 4000000 in
theorem divide_any (S T : Nat → Prop) (xv lv : Value) (xs : List Stripe) (l : List Ref) (w : World) (hx : StripesAt T w xv xs) (hv : RefsAt S w lv l) (hlen : l.length < 1099511627775) (hxl : xs.length < 1099511627775) :
    Calls Tryd.prog 29 #[xv, lv] w (DivRes (idsP false xs (menAll l [])) (idsP true xs (menAll l [])) w) := by
  obtain ⟨xa, xc, rfl, hxcc, hxcm, -⟩ := SeqAt.shape hx StripeR.len
  unfold maxLen at hxcm
  have HX := Lib.hid hx
  have HS := Lib.hid (setOf_any S lv l w hv hlen)
  clear hx hv
  go_enter Tryd.func29, Tryd.ntmps29
  go_wp2_with fail
  refine HS.out.mono ?_
  rintro e w1 ⟨hb1, nb, mb, sv, rfl, hst⟩
  have HD := Lib.hid (show DivAt w w1 nb mb sv (.slice none 0 0) (.slice none 0 0) (menAll l []) [] [] from ⟨hst, World.ownsRow_nil _ _ _ _, World.ownsRow_nil _ _ _ _, .inl rfl, hb1⟩)
  clear hst hb1 HS
  go_wp2_with fail
  go_loopw [4, 5, 16] (fun iv bv i wr => ∃ (k : Nat), k ≤ xs.length ∧ i = .int .i64 k ∧ DivAt w wr nb mb sv iv bv (menAll l []) (idsP false (xs.take k) (menAll l [])) (idsP true (xs.take k) (menAll l []))) (fun _ _ i _ => xs.length - (intOf i).toNat)
  case atStart => exact ⟨0, Nat.zero_le _, rfl, HD.out⟩
  case round =>
    obtain ⟨k, hk, rfl, hd⟩ := hrel
    have HDR := Lib.hid hd
    obtain ⟨ia, ic, rfl, hin, him⟩ := owns_shape hd.idle
    obtain ⟨ba, bc, rfl, hbn, hbm⟩ := owns_shape hd.busy
    have hil := idsP_le false (xs.take k) (menAll l [])
    have hbl := idsP_le true (xs.take k) (menAll l [])
    rw [List.length_take] at hil hbl
    clear hd HD
    by_cases hlt : k < xs.length
    · obtain ⟨x, hx⟩ : ∃ x, xs[k]? = some x := ⟨xs[k], by simp [hlt]⟩
      obtain ⟨b, o, a1, a2, a3, a4, ra, rc, rfl, hrc, hrm, hrf, hcl⟩ := stripes_at HX.out HDR.out.below hx
      unfold maxLen at hrm
      have q0 := hcl 0 (by omega)
      have q1 := hcl 1 (by omega)
      have q2 := hcl 2 (by omega)
      have q3 := hcl 3 (by omega)
      have q4 := hcl 4 (by omega)
      have q5 := hcl 5 (by omega)
      simp only [List.getElem?_cons_zero, List.getElem?_cons_succ, Nat.add_zero] at q0 q1 q2 q3 q4 q5
      have HSI := Lib.hid (show idsP false (xs.take (k + 1)) (menAll l []) = if usedB x.refs (menAll l []) = false then idsP false (xs.take k) (menAll l []) ++ [x.id] else idsP false (xs.take k) (menAll l []) by rw [take_snoc' hx, idsP_snoc])
      have HSB := Lib.hid (show idsP true (xs.take (k + 1)) (menAll l []) = if usedB x.refs (menAll l []) = true then idsP true (xs.take k) (menAll l []) ++ [x.id] else idsP true (xs.take k) (menAll l []) by rw [take_snoc' hx, idsP_snoc])
      have HAL := Lib.hid ((Below.refl wr.heap.size wr).alloc (Nat.le_refl _) (.cells #[.string x.id, .int .i64 a1, .int .i64 a2, .int .i64 a3, .int .i64 a4, .slice ra x.refs.length rc] 47))
      have HD1 := Lib.hid (HDR.out.next HAL.out)
      have HRF := Lib.hid (show RefsAt (fun k => k < wr.heap.size) wr (.slice ra x.refs.length rc) x.refs from RefsAt.same hrf (fun k hk _ => ⟨hk, rfl⟩))
      have HBX := Lib.hid (heap_alloc_new wr (.cells #[.string x.id, .int .i64 a1, .int .i64 a2, .int .i64 a3, .int .i64 a4, .slice ra x.refs.length rc] 47))
      obtain ⟨wo, hwo⟩ : ∃ wo : World, wo = wr := ⟨_, rfl⟩
      subst hwo
      obtain ⟨iL, hiL⟩ : ∃ iL, iL = idsP false (xs.take k) (menAll l []) := ⟨_, rfl⟩
      obtain ⟨bL, hbL⟩ : ∃ bL, bL = idsP true (xs.take k) (menAll l []) := ⟨_, rfl⟩
      rw [← hiL] at HSI HD1 hil hin ⊢
      rw [← hbL] at HSB HD1 hbl hbn ⊢
      clear hx hrf hcl hiL hbL HDR
      go_wp2_with fail
      go_loopw [9, 23] (fun u i wq => ∃ (j : Nat), j ≤ x.refs.length ∧ i = .int .i64 j ∧ u = .bool (usedB (x.refs.take j) (menAll l [])) ∧ DivAt w wq nb mb sv (.slice ia iL.length ic) (.slice ba bL.length bc) (menAll l []) iL bL ∧ Below wo.heap.size wo wq ∧ wq.heap[wo.heap.size]? = some (.cells #[.string x.id, .int .i64 a1, .int .i64 a2, .int .i64 a3, .int .i64 a4, .slice ra x.refs.length rc] 47 (0, 0))) (fun _ i _ => x.refs.length - (intOf i).toNat)
      case atStart => exact ⟨0, Nat.zero_le _, rfl, rfl, HD1.out, HAL.out, HBX.out⟩
      case round =>
        obtain ⟨j, hj, rfl, rfl, hd2, hb2, hbx2⟩ := hrel
        have HD2 := Lib.hid hd2
        have HB2 := Lib.hid hb2
        have HBX2 := Lib.hid hbx2
        obtain ⟨u, hu⟩ : ∃ u, usedB (x.refs.take j) (menAll l []) = u := ⟨_, rfl⟩
        have HU := Lib.hid hu
        rw [hu]
        clear hd2 hb2 hbx2 hu HD1 HAL HBX
        by_cases hlt2 : j < x.refs.length
        · obtain ⟨c, hc⟩ : ∃ c, x.refs[j]? = some c := ⟨x.refs[j], by simp [hlt2]⟩
          obtain ⟨b2, o2, rfl, hcok, p0, p1, p2⟩ := refs_at HRF.out HB2.out hc
          have HCO := Lib.hid hcok
          have HSN := Lib.hid (show usedB (x.refs.take (j + 1)) (menAll l []) = (u || decide (c ∈ menAll l [])) by
            have := HU.out
            unfold usedB at this ⊢
            rw [take_snoc' hc, List.any_append, this]; simp)
          have HAL3 := Lib.hid ((Below.refl wr.heap.size wr).alloc (Nat.le_refl _) (.cells #[.string c.name, .int .i64 c.gen, .int .i64 c.size] 37))
          have HD3 := Lib.hid (HD2.out.next HAL3.out)
          have HB3 := Lib.hid (below_next HB2.out HAL3.out)
          have HBX3 := Lib.hid (allocH HBX2.out (.cells #[.string c.name, .int .i64 c.gen, .int .i64 c.size] 37))
          clear hc hcok
          cases u
          · obtain ⟨d, hd⟩ : ∃ d, decide (c ∈ menAll l []) = d := ⟨_, rfl⟩
            have HDD := Lib.hid hd
            have HSN2 := Lib.hid (show usedB (x.refs.take (j + 1)) (menAll l []) = d by rw [HSN.out, hd]; rfl)
            clear hd HSN
            go_wp2_with fail
            refine (has_is w.heap.size nb mb sv (menAll l []) c d _ HD3.out.set HCO.out HDD.out).mono ?_
            rintro e w4 ⟨rfl, hb4⟩
            have HD4 := Lib.hid (HD3.out.next hb4)
            have HB4 := Lib.hid (below_next HB3.out hb4)
            have HBX4 := Lib.hid ((hb4.block wo.heap.size (lt_of_block HBX3.out)).trans HBX3.out)
            clear hb4 p0 p1 p2
            go_wp2_with fail
            go_roundw
            case rel => exact ⟨j + 1, by omega, by go_num, by rw [HSN2.out], HD4.out, HB4.out, HBX4.out⟩
            case measure => simp [intOf]; omega
          · have HSN2 := Lib.hid (show usedB (x.refs.take (j + 1)) (menAll l []) = true by rw [HSN.out]; rfl)
            clear HSN
            go_wp2_with fail
            go_roundw
            case rel => exact ⟨j + 1, by omega, by go_num, by rw [HSN2.out], HD3.out, HB3.out, HBX3.out⟩
            case measure => simp [intOf]; omega
        · obtain rfl : j = x.refs.length := by omega
          have HUU := Lib.hid (show usedB x.refs (menAll l []) = u by have := HU.out; rwa [List.take_of_length_le (Nat.le_refl _)] at this)
          have c0 := cellH (k := 0) HBX2.out
          simp only [List.getElem?_toArray, List.getElem?_cons_succ, List.getElem?_cons_zero] at c0
          have hzz := HD2.out.below.size
          clear q0 q1 q2 q3 q4 q5
          cases u
          · have HI2 := Lib.hid (show idsP false (xs.take (k + 1)) (menAll l []) = iL ++ [x.id] by rw [HSI.out, if_pos HUU.out])
            have HB3 := Lib.hid (show idsP true (xs.take (k + 1)) (menAll l []) = bL by rw [HSB.out, HUU.out]; rfl)
            go_wp2_with (at_builtin; go_must (refine wpList_app1p Tryd.appStrings rfl _ _ rfl w.heap.size (.slice ia iL.length ic) iL.length (iL.map Value.string) rfl wr [.string x.id] _ rfl rfl (by simp; rfl) HD2.out.idle (by omega) hzz ?_); intro v' wc hown' hgrow' _ hpl; have HD5 := Lib.hid (HD2.out.addIdle hown' hgrow' hpl); obtain ⟨ae, ce, rfl, -, -⟩ := owns_shape hown'; clear hown' hgrow' hpl)
            go_roundw
            case rel => exact ⟨k + 1, by omega, by go_num, by rw [HI2.out, HB3.out]; exact HD5.out⟩
            case measure => simp [intOf]; omega
          · have HI2 := Lib.hid (show idsP true (xs.take (k + 1)) (menAll l []) = bL ++ [x.id] by rw [HSB.out, if_pos HUU.out])
            have HB3 := Lib.hid (show idsP false (xs.take (k + 1)) (menAll l []) = iL by rw [HSI.out, HUU.out]; rfl)
            go_wp2_with (at_builtin; go_must (refine wpList_app1p Tryd.appStrings rfl _ _ rfl w.heap.size (.slice ba bL.length bc) bL.length (bL.map Value.string) rfl wr [.string x.id] _ rfl rfl (by simp; rfl) HD2.out.busy (by omega) hzz ?_); intro v' wc hown' hgrow' _ hpl; have HD5 := Lib.hid (HD2.out.addBusy hown' hgrow' hpl); obtain ⟨ae, ce, rfl, -, -⟩ := owns_shape hown'; clear hown' hgrow' hpl)
            go_roundw
            case rel => exact ⟨k + 1, by omega, by go_num, by rw [HI2.out, HB3.out]; exact HD5.out⟩
            case measure => simp [intOf]; omega
    · obtain rfl : k = xs.length := by omega
      rw [List.take_of_length_le (Nat.le_refl _)] at HDR hin hbn hil hbl ⊢
      go_wp2_with fail
      go_ret2
      exact ⟨_, _, rfl, (row_of_owns HDR.out.idle).weak (fun k hk => hk.1), (row_of_owns HDR.out.busy).weak (fun k hk => hk.1), HDR.out.below⟩
set_option maxRecDepth 100000 in
set_option maxHeartbeats 1000000 in
theorem Idle_any (S T : Nat → Prop) (xv lv : Value) (xs : List Stripe) (l : List Ref) (w : World) (hx : StripesAt T w xv xs) (hv : RefsAt S w lv l) (hlen : l.length < 1099511627775) (hxl : xs.length < 1099511627775) :
    Calls Tryd.prog 18 #[xv, lv] w (StrsRes (idsP false xs (menAll l [])) w) := by
  have HD := Lib.hid (divide_any S T xv lv xs l w hx hv hlen hxl)
  clear hx hv
  go_enter Tryd.func18, Tryd.ntmps18
  go_wp2_with fail
  refine HD.out.mono ?_
  rintro e w1 ⟨iv, bv, rfl, hi, hb, hb1⟩
  have HI := Lib.hid hi
  have HB := Lib.hid hb1
  obtain ⟨_, a, cap, rfl, hn, hm, -⟩ := hi
  clear hb hb1
  go_wp2_with fail
  go_ret
  exact ⟨_, rfl, HI.out, HB.out⟩

end Go.Proofs.YtndgmcggckpgfaaDoor

/- From the form's reading of slices, structs and maps to the rows of the walks. -/
namespace Go.Proofs.YtndgmcggckpgfaaDoor
open Go.ChangeShapes Go.WideShapes Go.ChangeAt Go.RowKit Go.Lib Go.Shelf

section
variable {H : Type} {enc : TypeId × Value → H} {P : Program} {W : World} {base : Nat}
theorem add_add (a : Addr) (i j : Nat) : (a.add i).add j = a.add (i + j) := by
  unfold Addr.add
  by_cases hi : i = 0
  · simp [hi]
  · by_cases hj : j = 0
    · simp [hi, hj]
    · simp [hi, hj]; omega
/-- A slice as it is read, its elements' cells read by R. -/
theorem seq_read {α : Type} {R : List Value → α → Prop} {t e : TypeId} {sz : Nat} {spare : Nat → Bool} {held : Bool} {fuel : Nat} {cs0 : List Value} {y0 : DataW H × List MemPlace} (ht : P.underlying t = some (.slice e)) (hc : P.cellsOf e = sz) (hpos : 0 < sz)
    (hR : ∀ n cs y, DataW.trod enc P W base spare held n e cs = some y → ∃ x, R cs x) (hs : ∀ c x, R c x → c.length = sz)
    (hf : DataW.trod enc P W base spare held fuel t cs0 = some y0) : ∃ v, cs0 = [v] ∧ ∃ xs : List α, SeqAt (fun _ => True) W sz R v xs := by
  rcases DataW.trod_slice ht hf with ⟨hcs, _⟩ | ⟨a, len0, cap0, elems, rest, n, _, hcs, _, hb, hl, hm, hlen, hel, _, _⟩
  · exact ⟨_, hcs, [], SeqAt.nil⟩
  · refine ⟨_, hcs, ?_⟩
    rw [hc] at hel
    have each : ∀ i, i < len0 → ∃ cs x, R cs x ∧ cs.length = sz ∧ ∀ j, j < sz → W.cell? (a.add (i * sz + j)) = cs[j]? := by
      intro i hi
      have h1 := hel i hi
      rw [List.getElem?_eq_getElem (by omega), Option.bind_eq_some_iff] at h1
      obtain ⟨cs, hcs, hy⟩ := h1
      obtain ⟨x, hx⟩ := hR n cs _ hy
      refine ⟨cs, x, hx, hs cs x hx, fun j hj => ?_⟩
      have h3 := World.cells?_some hcs
      rw [← add_add]
      exact h3.2.2 j hj
    have main : ∀ m, m ≤ len0 → ∃ (cells : List Value) (xs : List α), xs.length = m ∧ cells.length = m * sz ∧ RowsIn R cells xs ∧ ∀ (j : Nat) u, cells[j]? = some u → W.cell? (a.add j) = some u := by
      intro m
      induction m with
      | zero => intro _; exact ⟨[], [], rfl, by simp, rfl, fun j u hj => by simp at hj⟩
      | succ m ih =>
        intro hm
        obtain ⟨cells, xs, h1, h2, h3, h4⟩ := ih (by omega)
        obtain ⟨cs, x, hx, hcl, hcc⟩ := each m (by omega)
        refine ⟨cells ++ cs, xs ++ [x], by simp [h1], by rw [List.length_append, h2, hcl, Nat.add_mul]; omega, RowsIn.snoc h3 hx, fun j u hj => ?_⟩
        rcases Nat.lt_or_ge j cells.length with hj2 | hj2
        · rw [List.getElem?_append_left hj2] at hj; exact h4 j u hj
        · rw [List.getElem?_append_right hj2] at hj
          have hlt := (List.getElem?_eq_some_iff.1 hj).1
          have := hcc (j - cells.length) (by omega)
          rw [h2, show m * sz + (j - m * sz) = j by omega] at this
          rw [this, ← h2]; exact hj
    obtain ⟨cells, xs, h1, h2, h3, h4⟩ := main len0 (Nat.le_refl _)
    subst h1
    refine ⟨xs, cells, ⟨h2, some a, cap0, rfl, hl, hm, ?_⟩, h3⟩
    rcases Nat.eq_zero_or_pos xs.length with h0 | h0
    · exact .inl h0
    · right
      have hpl : 0 < cells.length := by rw [h2]; exact Nat.mul_pos h0 hpos
      have hc0 := h4 0 cells[0] (by simp [hpl])
      have hsp : a.spot = none := by simpa [Addr.add] using World.cell?_spot hc0
      obtain ⟨b, o, sp⟩ := a
      simp only at hsp
      subst hsp
      refine ⟨b, o, rfl, trivial, fun j u hj => ?_⟩
      have := h4 j u hj
      rw [add_lit] at this; exact this
/-- A slice that came in: its elements' cells, read by R. -/
theorem open_seq {α : Type} {R : List Value → α → Prop} {t e : TypeId} {sz b0 : Nat} {spare : Nat → Bool} {held : Bool} {v : Value} {d : DataW H} {ps : List MemPlace} (ht : P.underlying t = some (.slice e)) (hc : P.cellsOf e = sz) (hpos : 0 < sz)
    (hR : ∀ n cs y, DataW.trod enc P W base spare held n e cs = some y → ∃ x, R cs x) (hs : ∀ c x, R c x → c.length = sz)
    (hval : Value.okWide P W .any b0 t v) (h : DataW.Trod enc P W base spare held t v d ps) : ∃ xs : List α, SeqAt (fun _ => True) W sz R v xs := by
  obtain ⟨a0, len0, cap0, rfl⟩ := okWide_slice ht hval
  obtain ⟨fuel, hf⟩ := h
  obtain ⟨v, h1, h2⟩ := seq_read ht hc hpos hR hs hf
  simp [Value.cells] at h1
  subst h1
  exact h2
end

section
variable {H : Type} {enc : TypeId × Value → H} {W : World} {base b0 : Nat} {spare : Nat → Bool} {held : Bool} {v : Value} {d : DataW H} {ps : List MemPlace}
theorem field_read {P : Program} {t : TypeId} {fs : Array Field} {fuel : Nat} {cs : List Value} {x : DataW H × List MemPlace} (ht : P.underlying t = some (.struct fs)) (h : DataW.trod enc P W base spare held fuel t cs = some x) (i : Nat) {f : Field} (hf : fs[i]? = some f) :
    ∃ n y, DataW.trod enc P W base spare held n f.type ((cs.drop f.offset).take (P.cellsOf f.type)) = some y := by
  obtain ⟨xs, n, _, _, _, hlen, hF⟩ := DataW.trod_struct ht h
  have hi : i < xs.length := by rw [hlen]; exact (Array.getElem?_eq_some_iff.1 hf).1
  exact ⟨n, xs[i], by rw [hF i f hf]; simp [hi]⟩
theorem struct_len {P : Program} {t : TypeId} {fs : Array Field} {fuel : Nat} {cs : List Value} {x : DataW H × List MemPlace} (ht : P.underlying t = some (.struct fs)) (h : DataW.trod enc P W base spare held fuel t cs = some x) : cs.length = P.cellsOf t := by
  obtain ⟨xs, n, _, _, hl, _, _⟩ := DataW.trod_struct ht h
  exact hl
theorem cellsStr : Tryd.prog.cellsOf 9 = 1 := by kernel_rfl
theorem cellsInt : Tryd.prog.cellsOf 3 = 1 := by kernel_rfl
theorem cellsBool : Tryd.prog.cellsOf 4 = 1 := by kernel_rfl
theorem cellsU8 : Tryd.prog.cellsOf 5 = 1 := by kernel_rfl
theorem cellsRefs : Tryd.prog.cellsOf 22 = 1 := by kernel_rfl
theorem cellsSnap : Tryd.prog.cellsOf 55 = 10 := by kernel_rfl
theorem cellsStripe : Tryd.prog.cellsOf 47 = 6 := by kernel_rfl
theorem list3 {α : Type} {cs : List α} (h : cs.length = 3) : ∃ c0 c1 c2, cs = [c0, c1, c2] := by
  match cs, h with
  | [c0, c1, c2], _ => exact ⟨c0, c1, c2, rfl⟩
theorem list6 {α : Type} {cs : List α} (h : cs.length = 6) : ∃ c0 c1 c2 c3 c4 c5, cs = [c0, c1, c2, c3, c4, c5] := by
  match cs, h with
  | [c0, c1, c2, c3, c4, c5], _ => exact ⟨c0, c1, c2, c3, c4, c5, rfl⟩
theorem list10 {α : Type} {cs : List α} (h : cs.length = 10) : ∃ c0 c1 c2 c3 c4 c5 c6 c7 c8 c9, cs = [c0, c1, c2, c3, c4, c5, c6, c7, c8, c9] := by
  match cs, h with
  | [c0, c1, c2, c3, c4, c5, c6, c7, c8, c9], _ => exact ⟨c0, c1, c2, c3, c4, c5, c6, c7, c8, c9, rfl⟩
set_option maxRecDepth 100000 in
theorem read_ref {n : Nat} {cs : List Value} {y : DataW H × List MemPlace} (h : DataW.trod enc Tryd.prog W base spare held n 37 cs = some y) : ∃ r, RefR cs r := by
  have hl := struct_len Tryd.underlying37 h
  rw [cellsRef] at hl
  obtain ⟨c0, c1, c2, rfl⟩ := list3 hl
  obtain ⟨n0, y0, h0⟩ := field_read Tryd.underlying37 h 0 rfl
  obtain ⟨n1, y1, h1⟩ := field_read Tryd.underlying37 h 1 rfl
  obtain ⟨n2, y2, h2⟩ := field_read Tryd.underlying37 h 2 rfl
  simp only [List.getElem_toArray, List.getElem_cons_zero, List.getElem_cons_succ, cellsStr, cellsInt] at h0 h1 h2
  obtain ⟨s, e0, _, hs⟩ := DataW.trod_string Tryd.underlying9 h0
  obtain ⟨g, e1, _, hg⟩ := DataW.trod_int Tryd.underlying3 h1
  obtain ⟨z, e2, _, hz⟩ := DataW.trod_int Tryd.underlying3 h2
  simp at e0 e1 e2
  subst e0 e1 e2
  exact ⟨⟨s, g, z⟩, rfl, ⟨hs, hg, hz⟩⟩
set_option maxRecDepth 100000 in
theorem open_refs (hval : Value.okWide Tryd.prog W .any b0 22 v) (h : DataW.Trod enc Tryd.prog W base spare held 22 v d ps) : ∃ rs, RefsAt (fun _ => True) W v rs :=
  @open_seq H enc Tryd.prog W base Ref RefR 22 37 3 b0 spare held v d ps Tryd.underlying22 cellsRef (by omega) (fun n cs y hy => read_ref hy) RefR.len hval h
set_option maxRecDepth 100000 in
theorem read_snap {n : Nat} {cs : List Value} {y : DataW H × List MemPlace} (h : DataW.trod enc Tryd.prog W base spare held n 55 cs = some y) : ∃ r, SnapR cs r := by
  have hl := struct_len Tryd.underlying55 h
  rw [cellsSnap] at hl
  obtain ⟨c0, c1, c2, c3, c4, c5, c6, c7, c8, c9, rfl⟩ := list10 hl
  obtain ⟨n0, y0, h0⟩ := field_read Tryd.underlying55 h 0 rfl
  obtain ⟨n1, y1, h1⟩ := field_read Tryd.underlying55 h 1 rfl
  obtain ⟨n2, y2, h2⟩ := field_read Tryd.underlying55 h 2 rfl
  obtain ⟨n3, y3, h3⟩ := field_read Tryd.underlying55 h 3 rfl
  obtain ⟨n4, y4, h4⟩ := field_read Tryd.underlying55 h 4 rfl
  obtain ⟨n5, y5, h5⟩ := field_read Tryd.underlying55 h 5 rfl
  obtain ⟨n6, y6, h6⟩ := field_read Tryd.underlying55 h 6 rfl
  obtain ⟨n7, y7, h7⟩ := field_read Tryd.underlying55 h 7 rfl
  simp only [List.getElem_toArray, List.getElem_cons_zero, List.getElem_cons_succ, cellsStr, cellsInt, cellsBool, cellsRef] at h0 h1 h2 h3 h4 h5 h6 h7
  obtain ⟨a0, e0, _⟩ := DataW.trod_int Tryd.underlying3 h0
  obtain ⟨a1, e1, _⟩ := DataW.trod_int Tryd.underlying3 h1
  obtain ⟨a2, e2, _⟩ := DataW.trod_int Tryd.underlying3 h2
  obtain ⟨r, e3, hr⟩ := read_ref h3
  obtain ⟨a4, e4, _⟩ := DataW.trod_int Tryd.underlying3 h4
  obtain ⟨a5, e5, _⟩ := DataW.trod_int Tryd.underlying3 h5
  obtain ⟨a6, e6, _⟩ := DataW.trod_string Tryd.underlying9 h6
  obtain ⟨a7, e7, _⟩ := DataW.trod_bool Tryd.underlying4 h7
  simp [refC] at e0 e1 e2 e3 e4 e5 e6 e7
  obtain ⟨e3, e3', e3''⟩ := e3
  subst e0 e1 e2 e3 e3' e3'' e4 e5 e6 e7
  exact ⟨r, a0, a1, a2, a4, a5, a6, a7, rfl, hr⟩
set_option maxRecDepth 100000 in
theorem open_snaps (hval : Value.okWide Tryd.prog W .any b0 26 v) (h : DataW.Trod enc Tryd.prog W base spare held 26 v d ps) : ∃ rs, SnapsAt (fun _ => True) W v rs :=
  @open_seq H enc Tryd.prog W base Ref SnapR 26 55 10 b0 spare held v d ps Tryd.underlying26 cellsSnap (by omega) (fun n cs y hy => read_snap hy) SnapR.len hval h
set_option maxRecDepth 100000 in
theorem read_refs {n : Nat} {cs : List Value} {y : DataW H × List MemPlace} (h : DataW.trod enc Tryd.prog W base spare held n 22 cs = some y) : ∃ v, cs = [v] ∧ ∃ rs, RefsAt (fun _ => True) W v rs :=
  seq_read (R := RefR) Tryd.underlying22 cellsRef (by omega) (fun n cs y hy => read_ref hy) RefR.len h
def ByteR (c : List Value) (b : UInt8) : Prop := c = [byteV b]
theorem read_byte {n : Nat} {cs : List Value} {y : DataW H × List MemPlace} (h : DataW.trod enc Tryd.prog W base spare held n 5 cs = some y) : ∃ b, ByteR cs b := by
  obtain ⟨a, e, _, hw⟩ := DataW.trod_int Tryd.underlying5 h
  have h1 : 0 ≤ a ∧ a ≤ 255 := by
    simp only [Lit.wf, Bool.and_eq_true, decide_eq_true_eq] at hw
    exact ⟨hw.1, hw.2⟩
  refine ⟨UInt8.ofNat a.toNat, ?_⟩
  unfold ByteR
  rw [byteV_nat (by omega), e, Int.toNat_of_nonneg h1.1]
theorem bytes_of_seq {S : Nat → Prop} {w : World} {v : Value} {bs : List UInt8} (h : SeqAt S w 1 ByteR v bs) : BytesAt S w v bs := by
  obtain ⟨cells, h1, h2⟩ := h
  have : ∀ (bs : List UInt8) (cells : List Value), RowsIn ByteR cells bs → cells = bs.map byteV := by
    intro bs
    induction bs with
    | nil => intro cells h; exact h
    | cons x bs ih =>
      rintro cells ⟨c, rest, rfl, hc, hr⟩
      rw [ih rest hr, show c = [byteV x] from hc]; rfl
  rw [this bs cells h2] at h1
  exact h1
set_option maxRecDepth 100000 in
theorem read_bytes {n : Nat} {cs : List Value} {y : DataW H × List MemPlace} (h : DataW.trod enc Tryd.prog W base spare held n 65 cs = some y) : ∃ v, cs = [v] ∧ ∃ bs, BytesAt (fun _ => True) W v bs := by
  obtain ⟨v, h1, bs, h2⟩ := seq_read (R := ByteR) Tryd.underlying65 cellsU8 (by omega) (fun n cs y hy => read_byte hy) (fun c x hc => by rw [show c = [byteV x] from hc]; rfl) h
  exact ⟨v, h1, bs, bytes_of_seq h2⟩
set_option maxRecDepth 100000 in
theorem read_stripe {n : Nat} {cs : List Value} {y : DataW H × List MemPlace} (h : DataW.trod enc Tryd.prog W base spare held n 47 cs = some y) : ∃ x, StripeR (fun _ => True) W cs x := by
  have hl := struct_len Tryd.underlying47 h
  rw [cellsStripe] at hl
  obtain ⟨c0, c1, c2, c3, c4, c5, rfl⟩ := list6 hl
  obtain ⟨n0, y0, h0⟩ := field_read Tryd.underlying47 h 0 rfl
  obtain ⟨n1, y1, h1⟩ := field_read Tryd.underlying47 h 1 rfl
  obtain ⟨n2, y2, h2⟩ := field_read Tryd.underlying47 h 2 rfl
  obtain ⟨n3, y3, h3⟩ := field_read Tryd.underlying47 h 3 rfl
  obtain ⟨n4, y4, h4⟩ := field_read Tryd.underlying47 h 4 rfl
  obtain ⟨n5, y5, h5⟩ := field_read Tryd.underlying47 h 5 rfl
  simp only [List.getElem_toArray, List.getElem_cons_zero, List.getElem_cons_succ, cellsStr, cellsInt, cellsRefs] at h0 h1 h2 h3 h4 h5
  obtain ⟨s, e0, _⟩ := DataW.trod_string Tryd.underlying9 h0
  obtain ⟨a1, e1, _⟩ := DataW.trod_int Tryd.underlying3 h1
  obtain ⟨a2, e2, _⟩ := DataW.trod_int Tryd.underlying3 h2
  obtain ⟨a3, e3, _⟩ := DataW.trod_int Tryd.underlying3 h3
  obtain ⟨a4, e4, _⟩ := DataW.trod_int Tryd.underlying3 h4
  obtain ⟨v, e5, rs, hv⟩ := read_refs h5
  simp at e0 e1 e2 e3 e4 e5
  subst e0 e1 e2 e3 e4 e5
  exact ⟨⟨s, rs⟩, a1, a2, a3, a4, _, rfl, hv⟩
set_option maxRecDepth 100000 in
theorem open_stripes (hval : Value.okWide Tryd.prog W .any b0 43 v) (h : DataW.Trod enc Tryd.prog W base spare held 43 v d ps) : ∃ xs, StripesAt (fun _ => True) W v xs :=
  @open_seq H enc Tryd.prog W base Stripe (StripeR (fun _ => True) W) 43 47 6 b0 spare held v d ps Tryd.underlying43 cellsStripe (by omega) (fun n cs y hy => read_stripe hy) StripeR.len hval h
theorem ents_of {n : Nat} {sp : Nat → Bool} : ∀ {es : List MapEntry}, (∀ x ∈ es, ∃ y, WideElems.rd Tryd.prog 9 (WideElems.elemAt enc Tryd.prog W base sp held n 65) x = some y) → ∃ cs, EntsIn (fun _ => True) W (es.map fun e => (e.key, e.val)) cs
  | [], _ => ⟨[], trivial⟩
  | x :: es, h => by
    obtain ⟨cs, hcs⟩ := ents_of (es := es) (fun y hy => h y (by simp [hy]))
    obtain ⟨y, hy⟩ := h x (by simp)
    have hk := WideElems.rd_key hy
    obtain ⟨z, hz, _⟩ := WideElems.rd_val hy
    have hkey : ∃ s, x.key = .string s := by
      cases hx : x.key <;> rw [hx] at hk <;> simp [keyOf, Tryd.underlying9, mapKey] at hk
      exact ⟨_, rfl⟩
    obtain ⟨s, hs⟩ := hkey
    unfold WideElems.elemAt at hz
    split at hz
    · obtain ⟨v, h1, bs, h2⟩ := read_bytes hz
      have hv : x.val = v := by
        rename_i hfm
        cases hxv : x.val <;> rw [hxv] at h1 hfm <;> simp_all [Value.cells, Value.formed, Tryd.underlying65]
      exact ⟨(s, bs) :: cs, hs, by rw [hv]; exact h2, hcs⟩
    · cases hz
set_option maxRecDepth 100000 in
theorem open_cont (hval : Value.okWide Tryd.prog W .any b0 27 v) (h : DataW.Trod enc Tryd.prog W base spare held 27 v d ps) : ∃ cs, ContIn (fun _ => True) W v cs := by
  obtain ⟨a, rfl⟩ := okWide_map Tryd.underlying27 hval
  obtain ⟨fuel, hf⟩ := h
  rcases WideElems.open_map Tryd.underlying27 hf with ⟨hcs, _⟩ | ⟨b, es, clock, n, _, hcs, hb, _, hF, _⟩
  · simp [Value.cells] at hcs
    subst hcs
    exact ⟨[], .inl ⟨rfl, rfl⟩⟩
  · simp [Value.cells] at hcs
    subst hcs
    obtain ⟨cs, hents⟩ := ents_of hF.reads
    exact ⟨cs, .inr ⟨b, es, clock, rfl, trivial, hb, hF.size, hF.stamped, fun x hx => by
      obtain ⟨y, hy⟩ := hF.reads x hx
      exact ⟨y.1, WideElems.rd_key hy⟩, hents⟩⟩
end
end Go.Proofs.YtndgmcggckpgfaaDoor

/- Stripes that came in: the form's own reach bounds their references. -/
namespace Go.Proofs.YtndgmcggckpgfaaDoor
open Go.ChangeShapes Go.WideShapes Go.ChangeAt Go.RowKit Go.Lib Go.Shelf

section
variable {H : Type} {enc : TypeId × Value → H} {W : World} {base b0 : Nat} {spare : Nat → Bool} {held : Bool} {v : Value} {d : DataW H} {ps : List MemPlace}
/-- No weight passes the reach. -/
def Light (P : Program) (t : TypeId) (d : DataW H) : Prop := (d.weights P t).all (fun x => decide (x ≤ reachBytes)) = true
theorem light_all {P : Program} {e : TypeId} : ∀ {ds : List (DataW H)} {d : DataW H}, d ∈ ds → (DataW.weightsAll P e ds).all (fun x => decide (x ≤ reachBytes)) = true → Light P e d
  | [], d, h, _ => by simp at h
  | a :: ds, d, h, hw => by
    rw [DataW.weightsAll, List.all_append, Bool.and_eq_true] at hw
    rcases List.mem_cons.1 h with rfl | h
    · exact hw.1
    · exact light_all h hw.2
theorem light_each {P : Program} : ∀ {ts : List TypeId} {ds : List (DataW H)} {i : Nat} {t : TypeId} {d : DataW H}, ts[i]? = some t → ds[i]? = some d → (DataW.weightsEach P ts ds).all (fun x => decide (x ≤ reachBytes)) = true → Light P t d
  | [], _, _, _, _, h, _, _ => by simp at h
  | _ :: _, [], _, _, _, _, h, _ => by simp at h
  | t0 :: ts, d0 :: ds, 0, t, d, h1, h2, hw => by
    simp at h1 h2
    subst h1 h2
    rw [DataW.weightsEach, List.all_append, Bool.and_eq_true] at hw
    exact hw.1
  | t0 :: ts, d0 :: ds, i + 1, t, d, h1, h2, hw => by
    rw [DataW.weightsEach, List.all_append, Bool.and_eq_true] at hw
    exact light_each (by simpa using h1) (by simpa using h2) hw.2
/-- A slice as it is read: no weight of an element passes the reach, nor does the slice's own. -/
theorem slice_light {P : Program} {t e : TypeId} {es rest : List (DataW H)} (ht : P.underlying t = some (.slice e)) (h : Light P t (.slice es rest)) : es.length * P.bytesOf e ≤ reachBytes ∧ ∀ d ∈ es, Light P e d := by
  unfold Light at h
  rw [DataW.weights, ht] at h
  simp only [List.all_cons, List.all_append, Bool.and_eq_true, decide_eq_true_eq] at h
  exact ⟨Nat.le_trans (Nat.mul_le_mul_right _ (by omega)) h.1, fun d hd => light_all hd h.2.1⟩
theorem struct_light {P : Program} {t : TypeId} {fs : Array Field} {parts : List (DataW H)} (ht : P.underlying t = some (.struct fs)) (h : Light P t (.agg parts)) {i : Nat} {f : Field} {d : DataW H} (hf : fs[i]? = some f) (hd : parts[i]? = some d) : Light P f.type d := by
  unfold Light at h
  rw [DataW.weights, ht] at h
  exact light_each (i := i) (by simp [hf]) hd h
theorem field_light {P : Program} {t : TypeId} {fs : Array Field} {fuel : Nat} {cs : List Value} {x : DataW H × List MemPlace} (ht : P.underlying t = some (.struct fs)) (h : DataW.trod enc P W base spare held fuel t cs = some x) (hL : Light P t x.1) (i : Nat) {f : Field} (hf : fs[i]? = some f) :
    ∃ n y, DataW.trod enc P W base spare held n f.type ((cs.drop f.offset).take (P.cellsOf f.type)) = some y ∧ Light P f.type y.1 := by
  obtain ⟨xs, n, _, hx, _, hlen, hF⟩ := DataW.trod_struct ht h
  have hi : i < xs.length := by rw [hlen]; exact (Array.getElem?_eq_some_iff.1 hf).1
  refine ⟨n, xs[i], by rw [hF i f hf]; simp [hi], ?_⟩
  rw [hx] at hL
  exact struct_light ht hL hf (by simp [hi])
theorem seq_light {α : Type} {P : Program} {R : List Value → α → Prop} {t e : TypeId} {sz : Nat} {fuel : Nat} {cs0 : List Value} {y0 : DataW H × List MemPlace} (ht : P.underlying t = some (.slice e)) (hc : P.cellsOf e = sz) (hpos : 0 < sz)
    (hR : ∀ n cs y, DataW.trod enc P W base spare held n e cs = some y → Light P e y.1 → ∃ x, R cs x) (hs : ∀ c x, R c x → c.length = sz)
    (hf : DataW.trod enc P W base spare held fuel t cs0 = some y0) (hL : Light P t y0.1) : ∃ v, cs0 = [v] ∧ ∃ xs : List α, SeqAt (fun _ => True) W sz R v xs ∧ xs.length * P.bytesOf e ≤ reachBytes := by
  rcases DataW.trod_slice ht hf with ⟨hcs, _⟩ | ⟨a, len0, cap0, elems, rest, n, _, hcs, hy0, hb, hl, hm, hlen, hel, _, _⟩
  · exact ⟨_, hcs, [], SeqAt.nil, by simp⟩
  · refine ⟨_, hcs, ?_⟩
    rw [hc] at hel
    rw [hy0] at hL
    obtain ⟨hL1, hL2⟩ := slice_light ht hL
    rw [List.length_map, hlen] at hL1
    have each : ∀ i, i < len0 → ∃ cs x, R cs x ∧ cs.length = sz ∧ ∀ j, j < sz → W.cell? (a.add (i * sz + j)) = cs[j]? := by
      intro i hi
      have h1 := hel i hi
      rw [List.getElem?_eq_getElem (by omega), Option.bind_eq_some_iff] at h1
      obtain ⟨cs, hcs, hy⟩ := h1
      obtain ⟨x, hx⟩ := hR n cs _ hy (hL2 _ (List.mem_map.2 ⟨_, List.getElem_mem (by omega), rfl⟩))
      refine ⟨cs, x, hx, hs cs x hx, fun j hj => ?_⟩
      have h3 := World.cells?_some hcs
      rw [← add_add]
      exact h3.2.2 j hj
    have main : ∀ m, m ≤ len0 → ∃ (cells : List Value) (xs : List α), xs.length = m ∧ cells.length = m * sz ∧ RowsIn R cells xs ∧ ∀ (j : Nat) u, cells[j]? = some u → W.cell? (a.add j) = some u := by
      intro m
      induction m with
      | zero => intro _; exact ⟨[], [], rfl, by simp, rfl, fun j u hj => by simp at hj⟩
      | succ m ih =>
        intro hm
        obtain ⟨cells, xs, h1, h2, h3, h4⟩ := ih (by omega)
        obtain ⟨cs, x, hx, hcl, hcc⟩ := each m (by omega)
        refine ⟨cells ++ cs, xs ++ [x], by simp [h1], by rw [List.length_append, h2, hcl, Nat.add_mul]; omega, RowsIn.snoc h3 hx, fun j u hj => ?_⟩
        rcases Nat.lt_or_ge j cells.length with hj2 | hj2
        · rw [List.getElem?_append_left hj2] at hj; exact h4 j u hj
        · rw [List.getElem?_append_right hj2] at hj
          have hlt := (List.getElem?_eq_some_iff.1 hj).1
          have := hcc (j - cells.length) (by omega)
          rw [h2, show m * sz + (j - m * sz) = j by omega] at this
          rw [this, ← h2]; exact hj
    obtain ⟨cells, xs, h1, h2, h3, h4⟩ := main len0 (Nat.le_refl _)
    subst h1
    refine ⟨xs, ⟨cells, ⟨h2, some a, cap0, rfl, hl, hm, ?_⟩, h3⟩, hL1⟩
    rcases Nat.eq_zero_or_pos xs.length with h0 | h0
    · exact .inl h0
    · right
      have hpl : 0 < cells.length := by rw [h2]; exact Nat.mul_pos h0 hpos
      have hc0 := h4 0 cells[0] (by simp [hpl])
      have hsp : a.spot = none := by simpa [Addr.add] using World.cell?_spot hc0
      obtain ⟨b, o, sp⟩ := a
      simp only at hsp
      subst hsp
      refine ⟨b, o, rfl, trivial, fun j u hj => ?_⟩
      have := h4 j u hj
      rw [add_lit] at this; exact this
theorem bytesRef : Tryd.prog.bytesOf 37 = 32 := by kernel_rfl
/-- A stripe whose references the reach bounds. -/
def StripeB (w : World) (c : List Value) (x : Stripe) : Prop := StripeR (fun _ => True) w c x ∧ x.refs.length < 4398046511104
set_option maxRecDepth 100000 in
theorem read_stripeB {n : Nat} {cs : List Value} {y : DataW H × List MemPlace} (h : DataW.trod enc Tryd.prog W base spare held n 47 cs = some y) (hL : Light Tryd.prog 47 y.1) : ∃ x, StripeB W cs x := by
  have hl := struct_len Tryd.underlying47 h
  rw [cellsStripe] at hl
  obtain ⟨c0, c1, c2, c3, c4, c5, rfl⟩ := list6 hl
  obtain ⟨n0, y0, h0⟩ := field_read Tryd.underlying47 h 0 rfl
  obtain ⟨n1, y1, h1⟩ := field_read Tryd.underlying47 h 1 rfl
  obtain ⟨n2, y2, h2⟩ := field_read Tryd.underlying47 h 2 rfl
  obtain ⟨n3, y3, h3⟩ := field_read Tryd.underlying47 h 3 rfl
  obtain ⟨n4, y4, h4⟩ := field_read Tryd.underlying47 h 4 rfl
  obtain ⟨n5, y5, h5, hL5⟩ := field_light Tryd.underlying47 h hL 5 rfl
  simp only [List.getElem_toArray, List.getElem_cons_zero, List.getElem_cons_succ, cellsStr, cellsInt, cellsRefs] at h0 h1 h2 h3 h4 h5 hL5
  obtain ⟨s, e0, _⟩ := DataW.trod_string Tryd.underlying9 h0
  obtain ⟨a1, e1, _⟩ := DataW.trod_int Tryd.underlying3 h1
  obtain ⟨a2, e2, _⟩ := DataW.trod_int Tryd.underlying3 h2
  obtain ⟨a3, e3, _⟩ := DataW.trod_int Tryd.underlying3 h3
  obtain ⟨a4, e4, _⟩ := DataW.trod_int Tryd.underlying3 h4
  obtain ⟨v, e5, rs, hv, hb⟩ := seq_light (R := RefR) Tryd.underlying22 cellsRef (by omega) (fun n cs y hy _ => read_ref hy) RefR.len h5 hL5
  rw [bytesRef] at hb
  unfold reachBytes at hb
  simp at e0 e1 e2 e3 e4 e5
  subst e0 e1 e2 e3 e4 e5
  exact ⟨⟨s, rs⟩, ⟨a1, a2, a3, a4, _, rfl, hv⟩, by simp only; omega⟩
theorem stripes_of : ∀ {xs : List Stripe} {cells : List Value}, RowsIn (StripeB W) cells xs → RowsIn (StripeR (fun _ => True) W) cells xs ∧ ∀ x ∈ xs, x.refs.length < 4398046511104
  | [], _, h => ⟨h, by simp⟩
  | x :: xs, _, ⟨c, rest, e, hx, hr⟩ => by
    obtain ⟨h1, h2⟩ := stripes_of hr
    refine ⟨⟨c, rest, e, hx.1, h1⟩, fun y hy => ?_⟩
    rcases List.mem_cons.1 hy with rfl | hy
    · exact hx.2
    · exact h2 y hy
set_option maxRecDepth 100000 in
theorem open_stripesB (hval : Value.okWide Tryd.prog W .any b0 43 v) (h : DataW.Trod enc Tryd.prog W base spare held 43 v d ps) (hL : Light Tryd.prog 43 d) : ∃ xs, StripesAt (fun _ => True) W v xs ∧ ∀ x ∈ xs, x.refs.length < 4398046511104 := by
  obtain ⟨a0, len0, cap0, rfl⟩ := okWide_slice Tryd.underlying43 hval
  obtain ⟨fuel, hf⟩ := h
  obtain ⟨v, h1, xs, ⟨cells, h2, h3⟩, _⟩ := seq_light (R := StripeB W) Tryd.underlying43 cellsStripe (by omega) (fun n cs y hy hy2 => read_stripeB hy hy2) (fun c x hx => StripeR.len c x hx.1) hf hL
  simp [Value.cells] at h1
  subst h1
  obtain ⟨h4, h5⟩ := stripes_of h3
  exact ⟨xs, ⟨cells, h2, h4⟩, h5⟩
end
end Go.Proofs.YtndgmcggckpgfaaDoor

/- Contracts of package liveness: Bytes. -/
namespace Go.Proofs.YtndgmcggckpgfaaDoor
open Go Go.RowKit Go.Maps

/-- A set of names: map[string]bool. -/
structure NamesAt (w : World) (b : Nat) (l : List ByteArray) : Prop where
  map : MapIs Tryd.prog 9 w b (l.map fun n => (.string n, .bool true))
  ok : ∀ n ∈ l, n.size ≤ maxLen
theorem NamesAt.same {w w' : World} {b : Nat} {l : List ByteArray} (h : NamesAt w b l) (hs : w'.heap[b]? = w.heap[b]?) : NamesAt w' b l := ⟨h.map.same hs, h.ok⟩
theorem NamesAt.made (w : World) : NamesAt (w.alloc (.map #[] 0)) w.heap.size [] := ⟨MapIs.made w, by simp⟩
def nameIn (l : List ByteArray) (n : ByteArray) : Bool := l.any fun x => decide (x = n)
theorem nameIn_iff {l : List ByteArray} {n : ByteArray} : nameIn l n = true ↔ n ∈ l := by unfold nameIn; simp
theorem nameIn_yes {l : List ByteArray} {n : ByteArray} (h : n ∈ l) : nameIn l n = true := nameIn_iff.2 h
theorem nameIn_no {l : List ByteArray} {n : ByteArray} (h : n ∉ l) : nameIn l n = false := by
  cases hc : nameIn l n
  · rfl
  · exact absurd (nameIn_iff.1 hc) h
theorem NamesAt.look {w : World} {b : Nat} {l : List ByteArray} (h : NamesAt w b l) {n : ByteArray} (hn : n.size ≤ maxLen) : (Instr.lookup 62 (.map (some b)) (.string n) false).run Tryd.prog w = .ok (.bool (nameIn l n)) w := by
  by_cases hm : n ∈ l
  · rw [h.map.hit lawStr Tryd.underlying62 (keyStr hn) (val := .bool true) (List.mem_map.2 ⟨n, hm, rfl⟩) false]
    rw [nameIn_yes hm]; rfl
  · rw [h.map.miss lawStr Tryd.underlying62 (z := .bool false) (by kernel_rfl) (keyStr hn) (fun p hp e => ?_) false]
    · rw [nameIn_no hm]; rfl
    · obtain ⟨x, hx, rfl⟩ := List.mem_map.1 hp
      simp only [Value.string.injEq] at e
      exact hm (e ▸ hx)
theorem wpList_nameadd {w : World} {ops : Array Oper} {rest : List Oper} {o : Oper} {a : Act} {Q : Exit → Act → World → Prop} (hg : o.guard = none) (mo x v : Operand) (hop : o.op = Op.mapUpdate 62 mo x v) (b : Nat) (l : List ByteArray) (h : NamesAt w b l) (hmo : a.eval mo = .map (some b)) (n : ByteArray) (hn : n.size ≤ maxLen) (hx : a.eval x = .string n) (hv : a.eval v = .bool true) (hnew : n ∉ l)
    (hK : ∀ w', NamesAt w' b (l ++ [n]) → w.grownBy w' (some b) → wpList Tryd.prog ops Q rest (a.put o.dst undef) w') : wpList Tryd.prog ops Q (o :: rest) a w :=
  wpList_put lawStr hg mo x v _ hop Tryd.underlying62 b _ h.map hmo _ _ hx hv (keyStr hn) (fun p hp e => by
    obtain ⟨y, hy, rfl⟩ := List.mem_map.1 hp
    simp only [Value.string.injEq] at e
    exact hnew (e ▸ hy)) (fun w' h1 h2 => hK w' ⟨by rw [List.map_append]; exact h1, fun y hy => by
      rcases List.mem_append.1 hy with hy | hy
      · exact h.ok y hy
      · simp only [List.mem_singleton] at hy; subst hy; exact hn⟩ h2)
/-- x := m[k] at the operation. -/
theorem wpList_lookv {P : Program} {w : World} {ops : Array Oper} {rest : List Oper} {o : Oper} {a : Act} {Q : Exit → Act → World → Prop} (hg : o.guard = none) (mo x : Operand) (t : TypeId) (c : Bool) (hop : o.op = Op.lookup t mo x c)
    (mv key v : Value) (hmo : a.eval mo = mv) (hx : a.eval x = key) (hrun : (Instr.lookup t mv key c).run P w = .ok v w) (hK : wpList P ops Q rest (a.put o.dst v) w) : wpList P ops Q (o :: rest) a w := by
  refine wpList_plain hg fun K' hK' => ?_
  unfold Oper.wp
  simp [execOp, hop, hmo, hx, hrun, Result.andThen]
  exact hK' _ _ hK
def sizeOk (r : Ref) : Bool := decide (0 ≤ r.size) && decide (r.size ≤ 32768)
def bytesTo (rs : List Ref) : Nat → Int
  | 0 => 0
  | k + 1 => match rs[k]? with
    | none => bytesTo rs k
    | some r => if named (rs.take k) r.name = false ∧ sizeOk r = true then min (bytesTo rs k + r.size) 1099511627776 else bytesTo rs k
theorem bytesTo_le (rs : List Ref) : ∀ k, 0 ≤ bytesTo rs k ∧ bytesTo rs k ≤ 1099511627776
  | 0 => by simp [bytesTo]
  | k + 1 => by
    obtain ⟨h1, h2⟩ := bytesTo_le rs k
    rw [bytesTo]
    split
    · exact ⟨h1, h2⟩
    · split
      · rename_i r _ h
        have h3 := h.2
        simp only [sizeOk, Bool.and_eq_true, decide_eq_true_eq] at h3
        omega
      · exact ⟨h1, h2⟩
theorem bytesTo_skip {rs : List Ref} {k : Nat} {r : Ref} (h : rs[k]? = some r) (h2 : ¬ (named (rs.take k) r.name = false ∧ sizeOk r = true)) : bytesTo rs (k + 1) = bytesTo rs k := by
  rw [bytesTo, h]; simp only [if_neg h2]
theorem bytesTo_add {rs : List Ref} {k : Nat} {r : Ref} (h : rs[k]? = some r) (h1 : named (rs.take k) r.name = false) (h2 : sizeOk r = true) : bytesTo rs (k + 1) = min (bytesTo rs k + r.size) 1099511627776 := by
  rw [bytesTo, h]; simp only [if_pos (And.intro h1 h2)]
theorem named_snoc (l : List Ref) (r : Ref) (n : ByteArray) : named (l ++ [r]) n = (named l n || decide (r.name = n)) := by unfold named; rw [List.any_append]; simp
set_option maxRecDepth 100000 in
set_option maxHeartbeats 2000000 in
theorem Bytes_any (S : Nat → Prop) (v : Value) (rs : List Ref) (w : World) (hv : RefsAt S w v rs) :
    Calls Tryd.prog 8 #[v] w fun e w' => e = .returned (.int .i64 (bytesTo rs rs.length)) ∧ Below w.heap.size w w' := by
  obtain ⟨a, cap, rfl, hc, hm, -⟩ := SeqAt.shape hv RefR.len
  unfold maxLen at hm
  have hmm := @run_makeMap Tryd.prog
  have HV := Lib.hid hv
  have HN0 := Lib.hid (NamesAt.made w)
  have HB0 := Lib.hid ((Below.refl w.heap.size w).alloc (Nat.le_refl _) (.map #[] 0))
  clear hv
  go_enter Tryd.func8, Tryd.ntmps8
  go_wp2_with fail
  go_loopw [4, 10] (fun s i wr => ∃ (k : Nat) (l : List ByteArray), k ≤ rs.length ∧ i = .int .i64 k ∧ s = .int .i64 (bytesTo rs k) ∧ NamesAt wr w.heap.size l ∧ (∀ n, n ∈ l ↔ named (rs.take k) n = true) ∧ Below w.heap.size w wr) (fun _ i _ => rs.length - (intOf i).toNat)
  case atStart => exact ⟨0, [], Nat.zero_le _, rfl, rfl, HN0.out, by simp [named], HB0.out⟩
  case round =>
    obtain ⟨k, l, hk, rfl, rfl, hnm, hmem, hb⟩ := hrel
    have HN := Lib.hid hnm
    have HM := Lib.hid hmem
    have HB := Lib.hid hb
    have hbd := bytesTo_le rs k
    obtain ⟨hbd0, hbd1⟩ := hbd
    clear hnm hmem hb HN0 HB0
    by_cases hlt : k < rs.length
    · obtain ⟨r, hr⟩ : ∃ r, rs[k]? = some r := ⟨rs[k], by simp [hlt]⟩
      obtain ⟨b, o, rfl, hrok, q0, q1, q2⟩ := refs_at HV.out HB.out hr
      have HR := Lib.hid hr
      have HRO := Lib.hid hrok
      have HSN := Lib.hid (show ∀ n, named (rs.take (k + 1)) n = (named (rs.take k) n || decide (r.name = n)) from fun n => by rw [take_snoc' hr, named_snoc])
      obtain ⟨W, hW⟩ : ∃ W : World, W = wr.alloc (.cells #[.string r.name, .int .i64 r.gen, .int .i64 r.size] 37) := ⟨_, rfl⟩
      have HBA := Lib.hid (show Below wr.heap.size wr W by rw [hW]; exact (Below.refl wr.heap.size wr).alloc (Nat.le_refl _) _)
      have HNA := Lib.hid (HN.out.same (HBA.out.block w.heap.size HN.out.map.lt))
      have HBX := Lib.hid (show W.heap[wr.heap.size]? = some (.cells #[.string r.name, .int .i64 r.gen, .int .i64 r.size] 37 (0, 0)) by rw [hW]; exact heap_alloc_new wr _)
      have HB1 := Lib.hid (below_next HB.out HBA.out)
      have hlk := HNA.out.look HRO.out.nm
      have p0 := cellH (k := 0) HBX.out
      have p2 := cellH (k := 2) HBX.out
      simp only [List.getElem?_toArray, List.getElem?_cons_succ, List.getElem?_cons_zero] at p0 p2
      clear hr hrok
      go_upto_region 6 with (fail)
      rw [← hW]
      clear hW q0 q1 q2
      by_cases hin : r.name ∈ l
      · have hd := nameIn_yes hin
        rw [hd] at hlk
        have HT := Lib.hid (show bytesTo rs (k + 1) = bytesTo rs k from bytesTo_skip HR.out (fun h => by rw [(HM.out _).1 hin] at h; simp at h))
        have HM2 := Lib.hid (show ∀ n, n ∈ l ↔ named (rs.take (k + 1)) n = true from fun n => by
          rw [HSN.out, Bool.or_eq_true, ← HM.out, decide_eq_true_eq]
          exact ⟨.inl, fun h => by rcases h with h | h; exact h; exact h ▸ hin⟩)
        have HLK := Lib.hid hlk
        clear hd hin hlk
        go_wp2_with ((at_lookup; go_must (refine wpList_lookv rfl _ _ _ _ rfl _ _ _ rfl rfl HLK.out ?_)))
        go_roundw
        case rel => exact ⟨k + 1, l, by omega, by go_num, by rw [HT.out], HNA.out, HM2.out, HB1.out⟩
        case measure => simp [intOf]; omega
      · have hd := nameIn_no hin
        rw [hd] at hlk
        have HNI := Lib.hid hin
        have HNF := Lib.hid (show named (rs.take k) r.name = false by cases h : named (rs.take k) r.name; rfl; exact absurd ((HM.out _).2 h) hin)
        have HM2 := Lib.hid (show ∀ n, n ∈ l ++ [r.name] ↔ named (rs.take (k + 1)) n = true from fun n => by
          rw [HSN.out, Bool.or_eq_true, ← HM.out, decide_eq_true_eq, List.mem_append, List.mem_singleton]
          exact ⟨fun h => by rcases h with h | h; exact .inl h; exact .inr h.symm, fun h => by rcases h with h | h; exact .inl h; exact .inr h.symm⟩)
        have HLK := Lib.hid hlk
        clear hd hin hlk
        go_upto_region 8 with (first | (at_lookup; go_must (refine wpList_lookv rfl _ _ _ _ rfl _ _ _ rfl rfl HLK.out ?_)) | (at_mapUpdate; go_must (refine wpList_nameadd rfl _ _ _ rfl w.heap.size l HNA.out rfl r.name HRO.out.nm rfl rfl HNI.out ?_); intro w2 hset hg2))
        have hlt2 := HNA.out.map.lt
        have hwl : w.heap.size < wr.heap.size := HN.out.map.lt
        have HBX2 := Lib.hid (keepH hg2 HBX.out (by omega))
        have HB2 := Lib.hid (show Below w.heap.size w w2 from HB1.out.grown hg2 (HB1.out.size) (fun k hk => by cases hk; exact Nat.le_refl _))
        have HS2 := Lib.hid hset
        have s2 := cellH (k := 2) HBX2.out
        simp only [List.getElem?_toArray, List.getElem?_cons_succ, List.getElem?_cons_zero] at s2
        clear hset hg2 p0 p2 HLK hlt2
        by_cases hs0 : 0 ≤ r.size
        · by_cases hs1 : r.size ≤ 32768
          · have HT := Lib.hid (bytesTo_add HR.out HNF.out (by simp [sizeOk, hs0, hs1]))
            go_wp2_with fail
            go_roundw
            case rel => exact ⟨k + 1, _, by omega, by go_num, by rw [HT.out], HS2.out, HM2.out, HB2.out⟩
            case measure => simp [intOf]; omega
          · have HT := Lib.hid (show bytesTo rs (k + 1) = bytesTo rs k from bytesTo_skip HR.out (fun h => by have := h.2; simp [sizeOk] at this; omega))
            go_wp2_with fail
            go_roundw
            case rel => exact ⟨k + 1, _, by omega, by go_num, by rw [HT.out], HS2.out, HM2.out, HB2.out⟩
            case measure => simp [intOf]; omega
        · have HT := Lib.hid (show bytesTo rs (k + 1) = bytesTo rs k from bytesTo_skip HR.out (fun h => by have := h.2; simp [sizeOk] at this; omega))
          go_wp2_with fail
          go_roundw
          case rel => exact ⟨k + 1, _, by omega, by go_num, by rw [HT.out], HS2.out, HM2.out, HB2.out⟩
          case measure => simp [intOf]; omega
    · obtain rfl : k = rs.length := by omega
      go_wp2_with fail
      go_ret
      exact ⟨rfl, HB.out⟩

end Go.Proofs.YtndgmcggckpgfaaDoor

/- Contracts of the reference of package manifest: Has, SameRefs. -/
namespace Go.Proofs.YtndgmcggckpgfaaDoor
open Go.RowKit


set_option maxRecDepth 100000 in
set_option maxHeartbeats 2000000 in
theorem has24_any (S : Nat → Prop) (v : Value) (rs : List Ref) (x : Ref) (w : World) (hv : RefsAt S w v rs) (hx : RefOk x) :
    Calls Tryd.prog 14 #[v, refV x] w fun e w' => e = .returned (.bool (decide (x ∈ rs))) ∧ Below w.heap.size w w' := by
  obtain ⟨a, cap, rfl, hc, hm, -⟩ := SeqAt.shape hv RefR.len
  unfold maxLen at hm
  have HV := Lib.hid hv
  have HB0 := Lib.hid ((Below.refl w.heap.size w).alloc (Nat.le_refl _) (.cells #[.string x.name, .int .i64 x.gen, .int .i64 x.size] 37))
  have HBX := Lib.hid (heap_alloc_new w (.cells #[.string x.name, .int .i64 x.gen, .int .i64 x.size] 37))
  unfold refV
  clear hv
  go_enter Tryd.func14, Tryd.ntmps14
  go_wp2_with fail
  go_loopw [5] (fun i wr => ∃ k : Nat, k ≤ rs.length ∧ i = .int .i64 k ∧ x ∉ rs.take k ∧ Below w.heap.size w wr ∧ wr.heap[w.heap.size]? = some (.cells #[.string x.name, .int .i64 x.gen, .int .i64 x.size] 37 (0, 0))) (fun i _ => rs.length - (intOf i).toNat)
  case atStart => exact ⟨0, Nat.zero_le _, rfl, by simp, HB0.out, HBX.out⟩
  case round =>
    obtain ⟨k, hk, rfl, hn, hb, hbx⟩ := hrel
    have HN := Lib.hid hn
    have HB := Lib.hid hb
    have HBY := Lib.hid hbx
    clear hn hb hbx
    by_cases hlt : k < rs.length
    · obtain ⟨r, hr⟩ : ∃ r, rs[k]? = some r := ⟨rs[k], by simp [hlt]⟩
      have HR := Lib.hid hr
      have HSN := Lib.hid (take_snoc' hr)
      have heq := eqRef r x
      obtain ⟨W, hW⟩ : ∃ W : World, W = wr.drew := ⟨_, rfl⟩
      have HBW := Lib.hid (show Below w.heap.size w W by rw [hW]; exact HB.out.drew)
      have HBZ := Lib.hid (show W.heap[w.heap.size]? = some (.cells #[.string x.name, .int .i64 x.gen, .int .i64 x.size] 37 (0, 0)) by rw [hW]; exact HBY.out)
      obtain ⟨b, o, rfl, hrok, q0, q1, q2⟩ := refs_at HV.out HBW.out hr
      have p0 := cellH (k := 0) HBZ.out
      have p1 := cellH (k := 1) HBZ.out
      have p2 := cellH (k := 2) HBZ.out
      simp only [List.getElem?_toArray, List.getElem?_cons_succ, List.getElem?_cons_zero] at p0 p1 p2
      unfold refV at heq
      clear hr hrok
      by_cases hm : r = x
      · have e1 : decide (r = x) = true := by simp [hm]
        rw [e1] at heq
        have HT := Lib.hid (show decide (x ∈ rs) = true by rw [← hm]; simp [List.mem_of_getElem? HR.out])
        clear e1 hm
        go_wp2_with fail
        refine wp_region_segs [some 6] (by kernel_rfl) (by kernel_rfl) (by kernel_rfl) ?_
        simp only [wpSegs, List.take_succ_cons, List.take_zero, List.drop_succ_cons, List.drop_zero]
        rw [← hW]
        clear hW
        repeat (first | (refine seg_skip rfl ?_; simp only [Act.put, List.setIfInBounds_toArray, List.set_cons_succ, List.set_cons_zero]) | (refine seg_run rfl (fun K hK => ?_); go_simp; refine hK _ ?_; clear hK K))
        refine seg_nil ?_
        go_wp2_with fail
        go_ret
        exact ⟨ret_bool HT.out.symm, HBW.out⟩
      · have e1 : decide (r = x) = false := by simp [hm]
        rw [e1] at heq
        have HT := Lib.hid (show x ∉ rs.take (k + 1) by rw [HSN.out]; simp only [List.mem_append, List.mem_singleton, not_or]; exact ⟨HN.out, fun e => hm e.symm⟩)
        clear e1 hm
        go_wp2_with fail
        refine wp_region_segs [some 6] (by kernel_rfl) (by kernel_rfl) (by kernel_rfl) ?_
        simp only [wpSegs, List.take_succ_cons, List.take_zero, List.drop_succ_cons, List.drop_zero]
        rw [← hW]
        clear hW
        repeat (first | (refine seg_skip rfl ?_; simp only [Act.put, List.setIfInBounds_toArray, List.set_cons_succ, List.set_cons_zero]) | (refine seg_run rfl (fun K hK => ?_); go_simp; refine hK _ ?_; clear hK K))
        refine seg_nil ?_
        go_wp2_with fail
        go_roundw
        case rel => exact ⟨k + 1, by omega, by go_num, HT.out, HBW.out, HBZ.out⟩
        case measure => simp [intOf]; omega
    · obtain rfl : k = rs.length := by omega
      have HT := Lib.hid (show decide (x ∈ rs) = false by have := HN.out; rw [List.take_of_length_le (Nat.le_refl _)] at this; simp [this])
      go_wp2_with fail
      go_ret
      exact ⟨ret_bool HT.out.symm, HB.out⟩
set_option maxRecDepth 100000 in
set_option maxHeartbeats 2000000 in
theorem sameRefs_any (S T : Nat → Prop) (v u : Value) (rs ss : List Ref) (w : World) (hv : RefsAt S w v rs) (hu : RefsAt T w u ss) :
    Calls Tryd.prog 16 #[v, u] w fun e w' => e = .returned (.bool (decide (rs = ss))) ∧ Below w.heap.size w w' := by
  obtain ⟨a, cap, rfl, hc, hm, -⟩ := SeqAt.shape hv RefR.len
  obtain ⟨a2, cap2, rfl, hc2, hm2, -⟩ := SeqAt.shape hu RefR.len
  unfold maxLen at hm hm2
  have HV := Lib.hid hv
  have HU := Lib.hid hu
  clear hv hu
  by_cases hl : rs.length = ss.length
  · have HL := Lib.hid hl
    have hl2 : ss.length = rs.length := hl.symm
    rw [hl2] at HU hc2 ⊢
    clear hl hl2
    go_enter Tryd.func16, Tryd.ntmps16
    go_wp2_with fail
    go_loopw [5] (fun i wr => ∃ k : Nat, k ≤ rs.length ∧ i = .int .i64 k ∧ rs.take k = ss.take k ∧ Below w.heap.size w wr) (fun i _ => rs.length - (intOf i).toNat)
    case atStart => exact ⟨0, Nat.zero_le _, rfl, by simp, Below.refl _ _⟩
    case round =>
      obtain ⟨k, hk, rfl, hn, hb⟩ := hrel
      have HN := Lib.hid hn
      have HB := Lib.hid hb
      clear hn hb
      by_cases hlt : k < rs.length
      · obtain ⟨r, hr⟩ : ∃ r, rs[k]? = some r := ⟨rs[k], by simp [hlt]⟩
        obtain ⟨x, hx⟩ : ∃ x, ss[k]? = some x := ⟨ss[k]'(by have := HL.out; omega), by simp⟩
        have HR := Lib.hid hr
        have HX := Lib.hid hx
        have heq := eqRef r x
        obtain ⟨W, hW⟩ : ∃ W : World, W = wr.drew := ⟨_, rfl⟩
        have HBW := Lib.hid (show Below w.heap.size w W by rw [hW]; exact HB.out.drew)
        obtain ⟨b, o, rfl, hrok, q0, q1, q2⟩ := refs_at HV.out HBW.out hr
        obtain ⟨b2, o2, rfl, hrok2, p0, p1, p2⟩ := refs_at (by have := HU.out; rw [HL.out] at this; exact this) HBW.out hx
        unfold refV at heq
        clear hr hrok hx hrok2
        by_cases hm : r = x
        · have e1 : decide (r = x) = true := by simp [hm]
          rw [e1] at heq
          have HT := Lib.hid (show rs.take (k + 1) = ss.take (k + 1) by rw [take_snoc' HR.out, take_snoc' HX.out, HN.out, hm])
          clear e1 hm
          go_wp2_with fail
          refine wp_region_segs [some 9] (by kernel_rfl) (by kernel_rfl) (by kernel_rfl) ?_
          simp only [wpSegs, List.take_succ_cons, List.take_zero, List.drop_succ_cons, List.drop_zero]
          rw [← hW]
          clear hW
          repeat (first | (refine seg_skip rfl ?_; simp only [Act.put, List.setIfInBounds_toArray, List.set_cons_succ, List.set_cons_zero]) | (refine seg_run rfl (fun K hK => ?_); go_simp; refine hK _ ?_; clear hK K))
          refine seg_nil ?_
          go_wp2_with fail
          go_roundw
          case rel => exact ⟨k + 1, by omega, by go_num, HT.out, HBW.out⟩
          case measure => simp [intOf]; omega
        · have e1 : decide (r = x) = false := by simp [hm]
          rw [e1] at heq
          have HT := Lib.hid (show decide (rs = ss) = false by
            rw [decide_eq_false_iff_not]
            intro e
            have h1 := HR.out
            rw [e, HX.out] at h1
            exact hm (Option.some.inj h1).symm)
          clear e1 hm
          go_wp2_with fail
          refine wp_region_segs [some 9] (by kernel_rfl) (by kernel_rfl) (by kernel_rfl) ?_
          simp only [wpSegs, List.take_succ_cons, List.take_zero, List.drop_succ_cons, List.drop_zero]
          rw [← hW]
          clear hW
          repeat (first | (refine seg_skip rfl ?_; simp only [Act.put, List.setIfInBounds_toArray, List.set_cons_succ, List.set_cons_zero]) | (refine seg_run rfl (fun K hK => ?_); go_simp; refine hK _ ?_; clear hK K))
          refine seg_nil ?_
          go_wp2_with fail
          go_ret
          exact ⟨ret_bool HT.out.symm, HBW.out⟩
      · obtain rfl : k = rs.length := by omega
        have HT := Lib.hid (show decide (rs = ss) = true by
          have := HN.out
          rw [List.take_of_length_le (Nat.le_refl _), List.take_of_length_le (by rw [HL.out]; exact Nat.le_refl _)] at this
          simp [this])
        go_wp2_with fail
        go_ret
        exact ⟨ret_bool HT.out.symm, HB.out⟩
  · have HT := Lib.hid (show decide (rs = ss) = false by rw [decide_eq_false_iff_not]; intro e; exact hl (by rw [e]))
    have e1 : ((rs.length : Int) != (ss.length : Int)) = true := by simp; omega
    clear hl
    go_enter Tryd.func16, Tryd.ntmps16
    go_wp2_with fail
    go_ret
    exact ⟨ret_bool HT.out.symm, Below.refl _ _⟩

end Go.Proofs.YtndgmcggckpgfaaDoor

/- Contracts of the reference of package liveness: Named, Bytes. -/
namespace Go.Proofs.YtndgmcggckpgfaaDoor
open Go.RowKit


theorem RowsIn.take {α : Type} {R : List Value → α → Prop} {sz : Nat} (hs : ∀ c x, R c x → c.length = sz) : ∀ {xs : List α} {cells : List Value} (k : Nat), RowsIn R cells xs → k ≤ xs.length → RowsIn R (cells.take (k * sz)) (xs.take k)
  | _, _, 0, _, _ => by simp [RowsIn]
  | [], _, k + 1, _, h => by simp at h
  | x :: xs, cells, k + 1, ⟨c, rest, hc, hx, hr⟩, h => by
    subst hc
    have hl := hs c x hx
    refine ⟨c, rest.take (k * sz), ?_, hx, RowsIn.take hs k hr (by simpa using h)⟩
    rw [List.take_append, hl, List.take_of_length_le (by rw [hl, Nat.succ_mul]; omega), Nat.succ_mul]
    congr 2; omega
/-- The first k of a list behind a slice value. -/
theorem SeqAt.takeN {α : Type} {S : Nat → Prop} {w : World} {sz : Nat} {R : List Value → α → Prop} {a : Option Addr} {n cap : Nat} {xs : List α} (hs : ∀ c x, R c x → c.length = sz) (h : SeqAt S w sz R (.slice a n cap) xs) {k : Nat} (hk : k ≤ xs.length) : SeqAt S w sz R (.slice a k cap) (xs.take k) := by
  obtain ⟨cells, ⟨hl, a', cap', hv, hn, hm, h0⟩, hr⟩ := h
  cases hv
  have hlt : (xs.take k).length = k := by rw [List.length_take]; omega
  refine ⟨cells.take (k * sz), ⟨?_, a, cap, by rw [hlt], by omega, hm, ?_⟩, RowsIn.take hs k hr hk⟩
  · rw [List.length_take, hl, hlt]
    exact Nat.min_eq_left (Nat.mul_le_mul_right _ hk)
  · rcases h0 with h0 | ⟨b, o, ha, hb, hc⟩
    · exact .inl (by omega)
    · refine .inr ⟨b, o, ha, hb, fun j u hj => hc j u ?_⟩
      rw [List.getElem?_take] at hj
      split at hj
      · exact hj
      · cases hj
theorem RefsAt.takeN {S : Nat → Prop} {w : World} {a : Option Addr} {n cap : Nat} {rs : List Ref} (h : RefsAt S w (.slice a n cap) rs) {k : Nat} (hk : k ≤ rs.length) : RefsAt S w (.slice a k cap) (rs.take k) := SeqAt.takeN RefR.len h hk
set_option maxRecDepth 100000 in
set_option maxHeartbeats 2000000 in
theorem named48_any (S : Nat → Prop) (v : Value) (rs : List Ref) (name : ByteArray) (w : World) (hv : RefsAt S w v rs) :
    Calls Tryd.prog 23 #[v, .string name] w fun e w' => e = .returned (.bool (named rs name)) ∧ w = w' := by
  obtain ⟨a, cap, rfl, hc, hm, -⟩ := SeqAt.shape hv RefR.len
  unfold maxLen at hm
  have HV := Lib.hid hv
  clear hv
  go_enter Tryd.func23, Tryd.ntmps23
  go_wp2_with fail
  go_loop [5] (fun i => ∃ k : Nat, k ≤ rs.length ∧ i = .int .i64 k ∧ named (rs.take k) name = false) (fun i => rs.length - (intOf i).toNat)
  case atStart => exact ⟨0, Nat.zero_le _, rfl, rfl⟩
  case round =>
    obtain ⟨k, hk, rfl, hn⟩ := hrel
    have HN := Lib.hid hn
    clear hn
    by_cases hlt : k < rs.length
    · obtain ⟨r, hr⟩ : ∃ r, rs[k]? = some r := ⟨rs[k], by simp [hlt]⟩
      have HR := Lib.hid hr
      obtain ⟨b, o, rfl, hrok, q0, q1, q2⟩ := refs_at HV.out (Below.refl _ _) hr
      clear hr hrok
      by_cases hm : r.name = name
      · have e1 : (r.name.toList == name.toList) = true := by rw [hm]; simp
        have HT := Lib.hid (show named rs name = true by unfold named; rw [List.any_eq_true]; exact ⟨r, List.mem_of_getElem? HR.out, by simp [hm]⟩)
        clear hm
        go_wp2_with fail
        go_ret
        exact ⟨ret_bool HT.out.symm, rfl⟩
      · have e1 : (r.name.toList == name.toList) = false := by
          rw [toList_bl, toList_bl]; simp only [beq_eq_false_iff_ne]; exact fun e => hm (bl_inj e)
        have HT := Lib.hid (show named (rs.take (k + 1)) name = false by rw [take_snoc' HR.out, named_snoc, HN.out]; simp [hm])
        clear hm
        go_wp2_with fail
        go_round
        case rel => exact ⟨k + 1, by omega, by go_num, HT.out⟩
        case measure => simp [intOf]; omega
    · obtain rfl : k = rs.length := by omega
      have HT := Lib.hid (show named rs name = false by have := HN.out; rwa [List.take_of_length_le (Nat.le_refl _)] at this)
      go_wp2_with fail
      go_ret
      exact ⟨ret_bool HT.out.symm, rfl⟩
theorem named48_is (S : Nat → Prop) (v : Value) (rs : List Ref) (name : ByteArray) (b : Bool) (w : World) (hv : RefsAt S w v rs) (h : named rs name = b) :
    Calls Tryd.prog 23 #[v, .string name] w fun e w' => e = .returned (.bool b) ∧ w = w' := by rw [← h]; exact named48_any S v rs name w hv
set_option maxRecDepth 100000 in
set_option maxHeartbeats 4000000 in
theorem Bytes48_any (S : Nat → Prop) (v : Value) (rs : List Ref) (w : World) (hv : RefsAt S w v rs) :
    Calls Tryd.prog 9 #[v] w fun e w' => e = .returned (.int .i64 (bytesTo rs rs.length)) ∧ Below w.heap.size w w' := by
  obtain ⟨a, cap, rfl, hc, hm, -⟩ := SeqAt.shape hv RefR.len
  unfold maxLen at hm
  have HV := Lib.hid hv
  clear hv
  go_enter Tryd.func9, Tryd.ntmps9
  go_wp2_with fail
  go_loopw [3, 4] (fun s i wr => ∃ k : Nat, k ≤ rs.length ∧ i = .int .i64 k ∧ s = .int .i64 (bytesTo rs k) ∧ Below w.heap.size w wr) (fun _ i _ => rs.length - (intOf i).toNat)
  case atStart => exact ⟨0, Nat.zero_le _, rfl, rfl, Below.refl _ _⟩
  case round =>
    obtain ⟨k, hk, rfl, rfl, hb⟩ := hrel
    have HB := Lib.hid hb
    obtain ⟨hbd0, hbd1⟩ := bytesTo_le rs k
    clear hb
    by_cases hlt : k < rs.length
    · obtain ⟨r, hr⟩ : ∃ r, rs[k]? = some r := ⟨rs[k], by simp [hlt]⟩
      have HR := Lib.hid hr
      obtain ⟨W, hW⟩ : ∃ W : World, W = wr.drew := ⟨_, rfl⟩
      have HBW := Lib.hid (show Below w.heap.size w W by rw [hW]; exact HB.out.drew)
      obtain ⟨b, o, rfl, hrok, q0, q1, q2⟩ := refs_at HV.out HBW.out hr
      have HP := Lib.hid (RefsAt.takeN (SeqAt.below HV.out (by omega) HBW.out (fun _ _ _ h => h)) (k := k) hk)
      have hkc : k ≤ cap := by omega
      clear hr hrok
      go_wp2_with fail
      cases hn : named (rs.take k) r.name
      · have HN := Lib.hid hn
        clear hn
        refine wp_region_segs [some 8, none, some 17] (by kernel_rfl) (by kernel_rfl) (by kernel_rfl) ?_
        simp only [wpSegs, List.take_succ_cons, List.take_zero, List.drop_succ_cons, List.drop_zero]
        rw [← hW]
        clear hW
        repeat (first | (refine seg_skip rfl ?_; simp only [Act.put, List.setIfInBounds_toArray, List.set_cons_succ, List.set_cons_zero]) | (refine seg_run rfl (fun K hK => ?_); go_simp; refine hK _ ?_; clear hK K))
        refine seg_nil ?_
        refine bar_run rfl (fun K hK => ?_)
        go_wp2_with fail
        refine (named48_is _ _ _ _ false _ HP.out HN.out).mono ?_
        rintro e w' ⟨rfl, rfl⟩
        by_cases hs0 : 0 ≤ r.size
        · by_cases hs1 : r.size ≤ 32768
          · have HT := Lib.hid (bytesTo_add HR.out HN.out (by simp [sizeOk, hs0, hs1]))
            go_wp2_with fail
            repeat (first | (refine seg_skip rfl ?_; simp only [Act.put, List.setIfInBounds_toArray, List.set_cons_succ, List.set_cons_zero]) | (refine seg_run rfl (fun K hK => ?_); go_simp; refine hK _ ?_; clear hK K))
            refine seg_nil ?_
            go_wp2_with fail
            go_roundw
            case rel => exact ⟨k + 1, by omega, by go_num, by rw [HT.out], HBW.out⟩
            case measure => simp [intOf]; omega
          · have HT := Lib.hid (show bytesTo rs (k + 1) = bytesTo rs k from bytesTo_skip HR.out (fun h => by have := h.2; simp [sizeOk] at this; omega))
            have e1 : decide (r.size ≤ 32768) = false := by simpa using hs1
            go_wp2_with fail
            repeat (first | (refine seg_skip rfl ?_; simp only [Act.put, List.setIfInBounds_toArray, List.set_cons_succ, List.set_cons_zero]) | (refine seg_run rfl (fun K hK => ?_); go_simp; refine hK _ ?_; clear hK K))
            refine seg_nil ?_
            go_wp2_with fail
            go_roundw
            case rel => exact ⟨k + 1, by omega, by go_num, by rw [HT.out], HBW.out⟩
            case measure => simp [intOf]; omega
        · have HT := Lib.hid (show bytesTo rs (k + 1) = bytesTo rs k from bytesTo_skip HR.out (fun h => by have := h.2; simp [sizeOk] at this; omega))
          have e1 : decide (0 ≤ r.size) = false := by simpa using hs0
          go_wp2_with fail
          repeat (first | (refine seg_skip rfl ?_; simp only [Act.put, List.setIfInBounds_toArray, List.set_cons_succ, List.set_cons_zero]) | (refine seg_run rfl (fun K hK => ?_); go_simp; refine hK _ ?_; clear hK K))
          refine seg_nil ?_
          go_wp2_with fail
          go_roundw
          case rel => exact ⟨k + 1, by omega, by go_num, by rw [HT.out], HBW.out⟩
          case measure => simp [intOf]; omega
      · have HN := Lib.hid hn
        have HT := Lib.hid (show bytesTo rs (k + 1) = bytesTo rs k from bytesTo_skip HR.out (fun h => by rw [hn] at h; simp at h))
        clear hn
        refine wp_region_segs [some 8, none, some 17] (by kernel_rfl) (by kernel_rfl) (by kernel_rfl) ?_
        simp only [wpSegs, List.take_succ_cons, List.take_zero, List.drop_succ_cons, List.drop_zero]
        rw [← hW]
        clear hW
        repeat (first | (refine seg_skip rfl ?_; simp only [Act.put, List.setIfInBounds_toArray, List.set_cons_succ, List.set_cons_zero]) | (refine seg_run rfl (fun K hK => ?_); go_simp; refine hK _ ?_; clear hK K))
        refine seg_nil ?_
        refine bar_run rfl (fun K hK => ?_)
        go_wp2_with fail
        refine (named48_is _ _ _ _ true _ HP.out HN.out).mono ?_
        rintro e w' ⟨rfl, rfl⟩
        go_wp2_with fail
        repeat (first | (refine seg_skip rfl ?_; simp only [Act.put, List.setIfInBounds_toArray, List.set_cons_succ, List.set_cons_zero]) | (refine seg_run rfl (fun K hK => ?_); go_simp; refine hK _ ?_; clear hK K))
        refine seg_nil ?_
        go_wp2_with fail
        go_roundw
        case rel => exact ⟨k + 1, by omega, by go_num, by rw [HT.out], HBW.out⟩
        case measure => simp [intOf]; omega
    · obtain rfl : k = rs.length := by omega
      go_wp2_with fail
      go_ret
      exact ⟨rfl, HB.out⟩

end Go.Proofs.YtndgmcggckpgfaaDoor

/- Snapshots without one, snapshots of two lists: contracts of others. -/
namespace Go.Proofs.YtndgmcggckpgfaaDoor
open Go.RowKit


theorem Tryd.appSnaps : AppTy Tryd.prog 26 55 10 96 := AppTy.mk' (z := .agg #[.int .i64 0, .int .i64 0, .int .i64 0, .string ⟨#[]⟩, .int .i64 0, .int .i64 0, .int .i64 0, .int .i64 0, .string ⟨#[]⟩, .bool false]) Tryd.underlying26 (by kernel_rfl) rfl (by decide) (by decide)
theorem snaps_one {cells : List Value} : ∀ {rs : List Ref}, RowsIn SnapR cells rs → ∀ u ∈ cells, u.oneCell' = true := by
  intro rs
  induction rs generalizing cells with
  | nil => intro h; have : cells = [] := h; subst this; simp
  | cons r rs ih =>
    rintro ⟨c, rest, rfl, ⟨a, b, d, f, g, p, h, rfl, _⟩, hr⟩ u hu
    rcases List.mem_append.1 hu with hu | hu
    · simp only [List.mem_cons, List.not_mem_nil, or_false] at hu
      rcases hu with rfl | rfl | rfl | rfl | rfl | rfl | rfl | rfl | rfl | rfl <;> rfl
    · exact ih hr u hu
theorem RowsIn.append {α : Type} {R : List Value → α → Prop} : ∀ {xs ys : List α} {c d : List Value}, RowsIn R c xs → RowsIn R d ys → RowsIn R (c ++ d) (xs ++ ys)
  | [], ys, c, d, h1, h2 => by have : c = [] := h1; subst this; exact h2
  | x :: xs, ys, c, d, ⟨c0, rest, e, hx, hr⟩, h2 => by
    subst e
    exact ⟨c0, rest ++ d, by rw [List.append_assoc], hx, RowsIn.append hr h2⟩
theorem RowsIn.dropN {α : Type} {R : List Value → α → Prop} {sz : Nat} (hs : ∀ c x, R c x → c.length = sz) {xs : List α} {cells : List Value} (k : Nat) (h : RowsIn R cells xs) (hk : k ≤ xs.length) : RowsIn R (cells.drop (k * sz)) (xs.drop k) := RowsIn.drop hs k h hk
/-- Behind the first k of a list. -/
theorem SeqAt.dropN {α : Type} {S : Nat → Prop} {w : World} {sz : Nat} {R : List Value → α → Prop} {b o n cap : Nat} {xs : List α} (hs : ∀ c x, R c x → c.length = sz) (h : SeqAt S w sz R (.slice (some ⟨b, o, none⟩) n cap) xs) {k o' : Nat} (hk : k ≤ xs.length) (ho : k < xs.length → o' = o + k * sz) :
    SeqAt S w sz R (.slice (some ⟨b, o', none⟩) (xs.length - k) (cap - k)) (xs.drop k) := by
  obtain ⟨cells, ⟨hl, a', cap', hv, hn, hm, h0⟩, hr⟩ := h
  cases hv
  have hlt : (xs.drop k).length = xs.length - k := List.length_drop
  refine ⟨cells.drop (k * sz), ⟨?_, some ⟨b, o', none⟩, cap - k, by rw [hlt], by omega, by omega, ?_⟩, RowsIn.drop hs k hr hk⟩
  · rw [List.length_drop, hl, hlt, Nat.sub_mul]
  · rcases Nat.lt_or_ge k xs.length with hkl | hkl
    · rcases h0 with h0 | ⟨b', o2, ha, hb, hc⟩
      · omega
      · cases ha
        refine .inr ⟨b, o', rfl, hb, fun j u hj => ?_⟩
        rw [List.getElem?_drop] at hj
        rw [ho hkl, Nat.add_assoc]
        exact hc _ u hj
    · exact .inl (by omega)
set_option maxRecDepth 100000 in
set_option maxHeartbeats 2000000 in
theorem others_any (S : Nat → Prop) (sv : Value) (roots : List Ref) (ix : Nat) (w : World) (hs : SnapsAt S w sv roots) (hi : ix < roots.length) (hlen : roots.length ≤ 1000) :
    Calls Tryd.prog 13 #[sv, .int .i64 (ix : Int)] w fun e w' => ∃ v, e = .returned v ∧ SnapsAt (w.heap.size ≤ ·) w' v (roots.eraseIdx ix) ∧ Below w.heap.size w w' := by
  have hs2 : SnapsAt (· < w.heap.size) w sv roots := by
    obtain ⟨cells, h1, h2⟩ := hs
    exact ⟨cells, h1.mono (fun k hk _ => hk) (by omega), h2⟩
  obtain ⟨a, cap, rfl, hcp, hm, hx⟩ := SeqAt.shape hs SnapR.len
  unfold maxLen at hm
  obtain ⟨r, hr⟩ : ∃ r, roots[ix]? = some r := ⟨roots[ix], by simp [hi]⟩
  obtain ⟨b, o, c, rfl, -, -, -, -⟩ := hx ix r hr
  have HS := Lib.hid hs2
  clear hs hs2 hx hr
  go_enter Tryd.func13, Tryd.ntmps13
  go_wp2_with fail
  refine hld_start (fun _ => True) (by kernel_rfl) ?_
  obtain ⟨W, hW⟩ : ∃ W : World, W = w.drew := ⟨_, rfl⟩
  rw [← hW]
  have HB := Lib.hid (show Below w.heap.size w W by rw [hW]; exact (Below.refl _ _).drew)
  clear hW
  have hic : ix ≤ cap := by omega
  have hic1 : ix + 1 ≤ cap := by omega
  have hic2 : ix + 1 ≤ roots.length := by omega
  have hw1 : IntKind.i64.wrap ((ix : Int) + 1) = (ix : Int) + 1 := IntWalk.i64_in _ (by omega)
  have hw4 : (ix : Int) + 1 ≤ (roots.length : Int) := by omega
  have hw2 : (0 : Int) ≤ (ix : Int) + 1 := by omega
  have hw3 : ((ix : Int) + 1).toNat = ix + 1 := by omega
  refine hld_take 1 rfl (by kernel_rfl) (by kernel_rfl) (by kernel_rfl) (fun _ _ _ h => h) rfl (by go_simp) (by intro w' hw'; go_simp; rfl) ?_
  simp only [Act.put, List.setIfInBounds_toArray, List.set_cons_succ, List.set_cons_zero]
  refine hld_take 2 rfl (by kernel_rfl) (by kernel_rfl) (by kernel_rfl) (fun _ _ _ h => h) rfl (by go_simp) (by intro w' hw'; go_simp; rfl) ?_
  simp only [Act.put, List.setIfInBounds_toArray, List.set_cons_succ, List.set_cons_zero]
  refine hld_take 3 rfl (by kernel_rfl) (by kernel_rfl) (by kernel_rfl) (fun _ _ _ h => h) rfl (by go_simp) (by intro w' hw'; go_simp; rfl) ?_
  simp only [Act.put, List.setIfInBounds_toArray, List.set_cons_succ, List.set_cons_zero]
  refine hld_take 5 rfl (by kernel_rfl) (by kernel_rfl) (by kernel_rfl) (fun _ _ _ h => h) rfl (by go_simp) (by intro w' hw'; go_simp; rfl) ?_
  simp only [Act.put, List.setIfInBounds_toArray, List.set_cons_succ, List.set_cons_zero]
  refine hld_take 6 rfl (by kernel_rfl) (by kernel_rfl) (by kernel_rfl) (fun _ _ _ h => h) rfl (by go_simp) (by intro w' hw'; go_simp; rfl) ?_
  simp only [Act.put, List.setIfInBounds_toArray, List.set_cons_succ, List.set_cons_zero]
  refine hld_take 7 rfl (by kernel_rfl) (by kernel_rfl) (by kernel_rfl) (fun _ _ _ h => h) rfl (by go_simp) (by intro w' hw'; go_simp; rfl) ?_
  simp only [Act.put, List.setIfInBounds_toArray, List.set_cons_succ, List.set_cons_zero]
  have fin : ∀ o', (ix + 1 < roots.length → o' = o + (ix + 1) * 10) → SnapsAt (· < w.heap.size) W (.slice (some ⟨b, o', none⟩) (roots.length - (ix + 1)) (cap - (ix + 1))) (roots.drop (ix + 1)) :=
    fun o' h => SeqAt.dropN SnapR.len (SeqAt.below HS.out (by omega) HB.out (fun _ _ _ h => h)) hic2 h
  have HF := Lib.hid fin
  clear fin
  by_cases hcc : ix + 1 = cap
  · subst hcc
    have HO := Lib.hid (show SnapsAt (· < w.heap.size) W (.slice (some ⟨b, o, none⟩) 0 0) (roots.drop (ix + 1)) by
      have h1 := HF.out o (fun h => by omega)
      rwa [show roots.length - (ix + 1) = 0 by omega, show ix + 1 - (ix + 1) = 0 by omega] at h1)
    refine hld_take 8 rfl (by kernel_rfl) (by kernel_rfl) (by kernel_rfl) (fun _ _ _ h => h) rfl (by go_simp) (by intro w' hw'; go_simp; rfl) ?_
    simp only [Act.put, List.setIfInBounds_toArray, List.set_cons_succ, List.set_cons_zero]
    have HP := Lib.hid (show SnapsAt (· < w.heap.size) W (.slice (some ⟨b, o, none⟩) ix _) (roots.take ix) from SeqAt.takeN SnapR.len (SeqAt.below HS.out (by omega) HB.out (fun _ _ _ h => h)) (by omega))
    refine hld_bar 0 rfl (by kernel_rfl) rfl (fun K hK => ?_)
    go_wp2_with fail
    obtain ⟨W1, hW1⟩ : ∃ W1 : World, W1 = W.alloc (.cells #[] 55) := ⟨_, rfl⟩
    rw [← hW1]
    have HO1 := Lib.hid (show W1.ownsRow w.heap.size 55 10 (.slice (some ⟨W.heap.size, 0, none⟩) 0 0) 0 [] by rw [hW1]; exact World.ownsRow_lit (base := w.heap.size) W #[] 0 HB.out.size (Nat.zero_le _) (by simp))
    have HBA := Lib.hid (show Below W.heap.size W W1 by rw [hW1]; exact (Below.refl _ _).alloc (Nat.le_refl _) _)
    have HB1 := Lib.hid (below_next HB.out HBA.out)
    have HP1 := Lib.hid (show SnapsAt (· < w.heap.size) W1 _ _ from SeqAt.below HP.out (by omega) HBA.out (fun _ _ _ h => h))
    have HQ1 := Lib.hid (show SnapsAt (· < w.heap.size) W1 _ _ from SeqAt.below HO.out (by omega) HBA.out (fun _ _ _ h => h))
    clear hW1 HBA
    obtain ⟨c1, hr1, hin1⟩ := HP1.out
    obtain ⟨c2, hr2, hin2⟩ := HQ1.out
    have HR1 := Lib.hid hr1
    have HR2 := Lib.hid hr2
    have HI1 := Lib.hid hin1
    have HI2 := Lib.hid hin2
    have hl1 : (roots.take ix).length ≤ 1000 := by rw [List.length_take]; omega
    have hl2 : (roots.drop (ix + 1)).length ≤ 1000 := by rw [List.length_drop]; omega
    have hz1 := HB1.out.size
    clear hr1 hr2 hin1 hin2
    refine ⟨trivial, ?_⟩
    refine hld_bar 4 rfl (by kernel_rfl) rfl (fun K hK => ?_)
    go_wp2_with (at_builtin; go_must (refine wpList_appn Tryd.appSnaps rfl _ _ rfl w.heap.size (.slice (some ⟨W.heap.size, 0, none⟩) 0 0) 0 [] rfl HO1.out _ (roots.take ix).length c1 rfl HR1.out (snaps_one HI1.out) (by omega) hz1 ?_); intro v1 W2 hown1 hg1)
    have HO2 := Lib.hid hown1
    have HB2 := Lib.hid (below_grown HB1.out HO1.out hg1 (Nat.le_refl _) hz1)
    have hz2 := HB2.out.size
    have HR3 := Lib.hid (show RowAt (fun k => k < w.heap.size) W2 10 _ _ c2 from HR2.out.same (fun k hk => (HB2.out.block k hk).trans (HB1.out.block k hk).symm))
    obtain ⟨a1, k1, rfl, -, -⟩ := owns_shape hown1
    clear hown1 hg1
    refine ⟨trivial, ?_⟩
    refine hld_bar 9 rfl (by kernel_rfl) rfl (fun K hK => ?_)
    go_wp2_with (at_builtin; go_must (refine wpList_appn Tryd.appSnaps rfl _ _ rfl w.heap.size (.slice a1 (0 + (roots.take ix).length) k1) (0 + (roots.take ix).length) ([] ++ c1) rfl HO2.out _ (roots.drop (ix + 1)).length c2 rfl HR3.out (snaps_one HI2.out) (by omega) hz2 ?_); intro v2 W3 hown2 hg2)
    have HB3 := Lib.hid (below_grown HB2.out HO2.out hg2 (Nat.le_refl _) hz2)
    have HF3 := Lib.hid (show SnapsAt (w.heap.size ≤ ·) W3 v2 (roots.eraseIdx ix) by
      have h1 := row_of_owns hown2
      have he : roots.eraseIdx ix = roots.take ix ++ roots.drop (ix + 1) := List.eraseIdx_eq_take_drop_succ roots ix
      have hlen3 : (roots.eraseIdx ix).length = 0 + (roots.take ix).length + (roots.drop (ix + 1)).length := by rw [he, List.length_append]; omega
      refine ⟨([] ++ c1) ++ c2, ?_, ?_⟩
      · rw [hlen3]; exact h1.weak (fun k hk => hk.1)
      · rw [he]; exact RowsIn.append (by simpa using HI1.out) HI2.out)
    obtain ⟨rn, hrn⟩ : ∃ rn, rn = roots.eraseIdx ix := ⟨_, rfl⟩
    rw [← hrn] at HF3
    have HRN := Lib.hid hrn
    obtain ⟨a2, k2, rfl, -, -, -⟩ := SeqAt.shape HF3.out SnapR.len
    clear hown2 hg2 hrn
    refine ⟨trivial, ?_⟩
    refine hld_take 10 rfl (by kernel_rfl) (by kernel_rfl) (by kernel_rfl) (fun _ _ _ h => h) rfl (by go_simp) (by intro w' hw'; go_simp; rfl) ?_
    simp only [Act.put, List.setIfInBounds_toArray, List.set_cons_succ, List.set_cons_zero]
    refine hld_done (by kernel_rfl) ?_
    go_wp2_with fail
    go_ret
    exact ⟨_, rfl, by rw [← HRN.out]; exact HF3.out, HB3.out⟩
  · have hcc2 : ¬ cap = ix + 1 := fun e => hcc e.symm
    have HO := Lib.hid (HF.out (o + (ix + 1) * 10) (fun _ => rfl))
    refine hld_take 8 rfl (by kernel_rfl) (by kernel_rfl) (by kernel_rfl) (fun _ _ _ h => h) rfl (by go_simp) (by intro w' hw'; go_simp; rfl) ?_
    simp only [Act.put, List.setIfInBounds_toArray, List.set_cons_succ, List.set_cons_zero]
    have HP := Lib.hid (show SnapsAt (· < w.heap.size) W (.slice (some ⟨b, o, none⟩) ix _) (roots.take ix) from SeqAt.takeN SnapR.len (SeqAt.below HS.out (by omega) HB.out (fun _ _ _ h => h)) (by omega))
    refine hld_bar 0 rfl (by kernel_rfl) rfl (fun K hK => ?_)
    go_wp2_with fail
    obtain ⟨W1, hW1⟩ : ∃ W1 : World, W1 = W.alloc (.cells #[] 55) := ⟨_, rfl⟩
    rw [← hW1]
    have HO1 := Lib.hid (show W1.ownsRow w.heap.size 55 10 (.slice (some ⟨W.heap.size, 0, none⟩) 0 0) 0 [] by rw [hW1]; exact World.ownsRow_lit (base := w.heap.size) W #[] 0 HB.out.size (Nat.zero_le _) (by simp))
    have HBA := Lib.hid (show Below W.heap.size W W1 by rw [hW1]; exact (Below.refl _ _).alloc (Nat.le_refl _) _)
    have HB1 := Lib.hid (below_next HB.out HBA.out)
    have HP1 := Lib.hid (show SnapsAt (· < w.heap.size) W1 _ _ from SeqAt.below HP.out (by omega) HBA.out (fun _ _ _ h => h))
    have HQ1 := Lib.hid (show SnapsAt (· < w.heap.size) W1 _ _ from SeqAt.below HO.out (by omega) HBA.out (fun _ _ _ h => h))
    clear hW1 HBA
    obtain ⟨c1, hr1, hin1⟩ := HP1.out
    obtain ⟨c2, hr2, hin2⟩ := HQ1.out
    have HR1 := Lib.hid hr1
    have HR2 := Lib.hid hr2
    have HI1 := Lib.hid hin1
    have HI2 := Lib.hid hin2
    have hl1 : (roots.take ix).length ≤ 1000 := by rw [List.length_take]; omega
    have hl2 : (roots.drop (ix + 1)).length ≤ 1000 := by rw [List.length_drop]; omega
    have hz1 := HB1.out.size
    clear hr1 hr2 hin1 hin2
    refine ⟨trivial, ?_⟩
    refine hld_bar 4 rfl (by kernel_rfl) rfl (fun K hK => ?_)
    go_wp2_with (at_builtin; go_must (refine wpList_appn Tryd.appSnaps rfl _ _ rfl w.heap.size (.slice (some ⟨W.heap.size, 0, none⟩) 0 0) 0 [] rfl HO1.out _ (roots.take ix).length c1 rfl HR1.out (snaps_one HI1.out) (by omega) hz1 ?_); intro v1 W2 hown1 hg1)
    have HO2 := Lib.hid hown1
    have HB2 := Lib.hid (below_grown HB1.out HO1.out hg1 (Nat.le_refl _) hz1)
    have hz2 := HB2.out.size
    have HR3 := Lib.hid (show RowAt (fun k => k < w.heap.size) W2 10 _ _ c2 from HR2.out.same (fun k hk => (HB2.out.block k hk).trans (HB1.out.block k hk).symm))
    obtain ⟨a1, k1, rfl, -, -⟩ := owns_shape hown1
    clear hown1 hg1
    refine ⟨trivial, ?_⟩
    refine hld_bar 9 rfl (by kernel_rfl) rfl (fun K hK => ?_)
    go_wp2_with (at_builtin; go_must (refine wpList_appn Tryd.appSnaps rfl _ _ rfl w.heap.size (.slice a1 (0 + (roots.take ix).length) k1) (0 + (roots.take ix).length) ([] ++ c1) rfl HO2.out _ (roots.drop (ix + 1)).length c2 rfl HR3.out (snaps_one HI2.out) (by omega) hz2 ?_); intro v2 W3 hown2 hg2)
    have HB3 := Lib.hid (below_grown HB2.out HO2.out hg2 (Nat.le_refl _) hz2)
    have HF3 := Lib.hid (show SnapsAt (w.heap.size ≤ ·) W3 v2 (roots.eraseIdx ix) by
      have h1 := row_of_owns hown2
      have he : roots.eraseIdx ix = roots.take ix ++ roots.drop (ix + 1) := List.eraseIdx_eq_take_drop_succ roots ix
      have hlen3 : (roots.eraseIdx ix).length = 0 + (roots.take ix).length + (roots.drop (ix + 1)).length := by rw [he, List.length_append]; omega
      refine ⟨([] ++ c1) ++ c2, ?_, ?_⟩
      · rw [hlen3]; exact h1.weak (fun k hk => hk.1)
      · rw [he]; exact RowsIn.append (by simpa using HI1.out) HI2.out)
    obtain ⟨rn, hrn⟩ : ∃ rn, rn = roots.eraseIdx ix := ⟨_, rfl⟩
    rw [← hrn] at HF3
    have HRN := Lib.hid hrn
    obtain ⟨a2, k2, rfl, -, -, -⟩ := SeqAt.shape HF3.out SnapR.len
    clear hown2 hg2 hrn
    refine ⟨trivial, ?_⟩
    refine hld_take 10 rfl (by kernel_rfl) (by kernel_rfl) (by kernel_rfl) (fun _ _ _ h => h) rfl (by go_simp) (by intro w' hw'; go_simp; rfl) ?_
    simp only [Act.put, List.setIfInBounds_toArray, List.set_cons_succ, List.set_cons_zero]
    refine hld_done (by kernel_rfl) ?_
    go_wp2_with fail
    go_ret
    exact ⟨_, rfl, by rw [← HRN.out]; exact HF3.out, HB3.out⟩

end Go.Proofs.YtndgmcggckpgfaaDoor

/- What snapshots need, in plain words: unions, differences, one left out. -/
namespace Go.Proofs.YtndgmcggckpgfaaDoor
open Go.RowKit

theorem foldMen_mem : ∀ (ls : List (List Ref)) (acc : List Ref) (x : Ref), x ∈ ls.foldl (fun acc l => menAll l acc) acc ↔ x ∈ acc ∨ ∃ l ∈ ls, x ∈ l
  | [], acc, x => by simp
  | l :: ls, acc, x => by
    rw [List.foldl_cons, foldMen_mem ls, menAll_mem, or_assoc]
    simp
theorem unionP_mem {ls : List (List Ref)} {x : Ref} : x ∈ unionP ls ↔ ∃ l ∈ ls, x ∈ l := by
  unfold unionP; rw [foldMen_mem]; simp
theorem foldMen_nodup : ∀ (ls : List (List Ref)) {acc : List Ref}, acc.Nodup → (ls.foldl (fun acc l => menAll l acc) acc).Nodup
  | [], _, h => h
  | l :: ls, _, h => foldMen_nodup ls (menAll_nodup l h)
theorem unionP_nodup (ls : List (List Ref)) : (unionP ls).Nodup := foldMen_nodup ls List.nodup_nil
theorem lessP_mem {rs l : List Ref} {x : Ref} : x ∈ lessP rs l ↔ x ∈ rs ∧ x ∉ l := by unfold lessP; simp
theorem lessP_nodup {rs l : List Ref} (h : rs.Nodup) : (lessP rs l).Nodup := List.Pairwise.filter _ h
theorem men_less (A U : List Ref) (r : Ref) : mentionP r (A ++ lessP U A) = A ++ lessP (mentionP r U) A := by
  unfold mentionP
  by_cases hA : r ∈ A
  · rw [if_pos (by simp [hA])]
    split
    · rfl
    · rw [lessP_snoc, if_pos hA]
  · by_cases hU : r ∈ U
    · rw [if_pos hU, if_pos (by simp [lessP_mem, hU, hA])]
    · rw [if_neg hU, if_neg (by simp [lessP_mem, hU, hA]), lessP_snoc, if_neg hA, List.append_assoc]
theorem menAll_less (A : List Ref) : ∀ (l U : List Ref), menAll l (A ++ lessP U A) = A ++ lessP (menAll l U) A
  | [], _ => rfl
  | r :: l, U => by
    show menAll l (mentionP r (A ++ lessP U A)) = A ++ lessP (menAll l (mentionP r U)) A
    rw [men_less, menAll_less A l]
theorem foldMen_less (A : List Ref) : ∀ (ls : List (List Ref)) (U : List Ref), ls.foldl (fun acc l => menAll l acc) (A ++ lessP U A) = A ++ lessP (ls.foldl (fun acc l => menAll l acc) U) A
  | [], _ => rfl
  | l :: ls, U => by rw [List.foldl_cons, List.foldl_cons, menAll_less, foldMen_less A ls]
theorem union_append (a b : List (List Ref)) : unionP (a ++ b) = unionP a ++ lessP (unionP b) (unionP a) := by
  have h := foldMen_less (unionP a) b []
  have e : lessP [] (unionP a) = [] := rfl
  rw [e, List.append_nil] at h
  rw [← show b.foldl (fun acc l => menAll l acc) [] = unionP b from rfl, ← h]
  unfold unionP
  rw [List.foldl_append]
theorem same_len {a b : List Ref} (ha : a.Nodup) (hb : b.Nodup) (h : ∀ x, x ∈ a ↔ x ∈ b) : a.length = b.length :=
  Nat.le_antisymm (nodup_le ha (fun x hx => (h x).1 hx)) (nodup_le hb (fun x hx => (h x).2 hx))
theorem mem_split {ls : List (List Ref)} {i : Nat} {lx : List Ref} (h : ls[i]? = some lx) {x : Ref} : (∃ l ∈ ls, x ∈ l) ↔ x ∈ lx ∨ ∃ l ∈ ls.eraseIdx i, x ∈ l := by
  obtain ⟨hi, rfl⟩ := List.getElem?_eq_some_iff.1 h
  constructor
  · rintro ⟨l, hl, hx⟩
    obtain ⟨j, hj, rfl⟩ := List.getElem_of_mem hl
    by_cases e : j = i
    · subst e; exact .inl hx
    · exact .inr ⟨ls[j], by rw [List.mem_eraseIdx_iff_getElem]; exact ⟨j, hj, e, rfl⟩, hx⟩
  · rintro (hx | ⟨l, hl, hx⟩)
    · exact ⟨_, List.getElem_mem hi, hx⟩
    · exact ⟨l, List.mem_of_mem_eraseIdx hl, hx⟩
theorem drop_none {ls : List (List Ref)} {i : Nat} : lessP (unionP (ls.eraseIdx i)) (unionP ls) = [] := by
  apply List.eq_nil_iff_forall_not_mem.2
  intro x hx
  obtain ⟨h1, h2⟩ := lessP_mem.1 hx
  obtain ⟨l, hl, hxl⟩ := unionP_mem.1 h1
  exact h2 (unionP_mem.2 ⟨l, List.mem_of_mem_eraseIdx hl, hxl⟩)
theorem drop_mem {ls : List (List Ref)} {i : Nat} {lx : List Ref} (h : ls[i]? = some lx) (x : Ref) : x ∈ lessP lx (unionP (ls.eraseIdx i)) ↔ x ∈ lessP (unionP ls) (unionP (ls.eraseIdx i)) := by
  rw [lessP_mem, lessP_mem, unionP_mem, unionP_mem, mem_split h]
  constructor
  · rintro ⟨h1, h2⟩; exact ⟨.inl h1, h2⟩
  · rintro ⟨h1 | h1, h2⟩
    · exact ⟨h1, h2⟩
    · exact absurd h1 h2
theorem drop_len {ls : List (List Ref)} {i : Nat} {lx : List Ref} (h : ls[i]? = some lx) (hn : lx.Nodup) : (lessP lx (unionP (ls.eraseIdx i))).length = (lessP (unionP ls) (unionP (ls.eraseIdx i))).length :=
  same_len (lessP_nodup hn) (lessP_nodup (unionP_nodup ls)) (drop_mem h)
theorem less_twice (l U : List Ref) : lessP (lessP l U) U = lessP l U := by unfold lessP; rw [List.filter_filter]; simp
theorem eachP_append {need : Ref → Except Int (List Ref)} : ∀ {a b : List Ref} {la lb : List (List Ref)}, eachP need a = .ok la → eachP need b = .ok lb → eachP need (a ++ b) = .ok (la ++ lb)
  | [], b, la, lb, h1, h2 => by simp only [eachP, Except.ok.injEq] at h1; subst h1; exact h2
  | r :: a, b, la, lb, h1, h2 => by
    rw [eachP] at h1
    cases hr : need r with
    | error y => rw [hr] at h1; simp at h1
    | ok l0 =>
      rw [hr] at h1
      simp only at h1
      cases hk : eachP need a with
      | error y => rw [hk] at h1; simp at h1
      | ok ls' =>
        rw [hk] at h1
        simp only [Except.ok.injEq] at h1
        subst h1
        rw [List.cons_append, eachP, hr]
        simp only [eachP_append hk h2, List.cons_append]
theorem eachP_append_err {need : Ref → Except Int (List Ref)} {x : Int} : ∀ {a b : List Ref}, (eachP need a = .error x → eachP need (a ++ b) = .error x) ∧ (∀ la, eachP need a = .ok la → eachP need b = .error x → eachP need (a ++ b) = .error x)
  | [], b => ⟨fun h => by simp [eachP] at h, fun la _ h => h⟩
  | r :: a, b => by
    have ih := eachP_append_err (need := need) (x := x) (a := a) (b := b)
    constructor
    · intro h
      rw [eachP] at h
      rw [List.cons_append, eachP]
      cases hr : need r with
      | error y => rw [hr] at h; simpa using h
      | ok l0 =>
        rw [hr] at h
        simp only at h ⊢
        cases hk : eachP need a with
        | error y =>
          rw [hk] at h
          simp only [Except.error.injEq] at h
          subst h
          rw [ih.1 hk]
        | ok ls' => rw [hk] at h; simp at h
    · intro la h h2
      rw [eachP] at h
      rw [List.cons_append, eachP]
      cases hr : need r with
      | error y => rw [hr] at h; simp at h
      | ok l0 =>
        rw [hr] at h
        simp only at h ⊢
        cases hk : eachP need a with
        | error y => rw [hk] at h; simp at h
        | ok ls' => rw [ih.2 ls' hk h2]
theorem eachP_erase {need : Ref → Except Int (List Ref)} : ∀ {rs : List Ref} {ls : List (List Ref)} (i : Nat), eachP need rs = .ok ls → eachP need (rs.eraseIdx i) = .ok (ls.eraseIdx i)
  | [], ls, i, h => by simp only [eachP, Except.ok.injEq] at h; subst h; simp [eachP]
  | r :: rs, ls, i, h => by
    rw [eachP] at h
    cases hr : need r with
    | error y => rw [hr] at h; simp at h
    | ok l0 =>
      rw [hr] at h
      simp only at h
      cases hk : eachP need rs with
      | error y => rw [hk] at h; simp at h
      | ok ls' =>
        rw [hk] at h
        simp only [Except.ok.injEq] at h
        subst h
        cases i with
        | zero => simpa using hk
        | succ i =>
          rw [List.eraseIdx_cons_succ, List.eraseIdx_cons_succ, eachP, hr]
          simp only [eachP_erase i hk]
theorem eachP_get {need : Ref → Except Int (List Ref)} {rs : List Ref} {ls : List (List Ref)} (h : eachP need rs = .ok ls) {l : List Ref} (hl : l ∈ ls) : ∃ r ∈ rs, need r = .ok l := eachP_mem h l hl
/-- Whether a stripe is idle. -/
def idleB (refs l : List Ref) : Bool := !refs.any fun r => decide (r ∈ l)
theorem idle_less (refs l : List Ref) : (lessP refs l).length = refs.length ↔ idleB refs l = true := by
  unfold lessP idleB
  rw [List.length_filter_eq_length_iff]
  simp

end Go.Proofs.YtndgmcggckpgfaaDoor
