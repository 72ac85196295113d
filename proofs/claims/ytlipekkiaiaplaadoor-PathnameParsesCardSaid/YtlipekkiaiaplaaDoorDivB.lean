/- divide over items and runes. -/
import Derived.Test.YtlipekkiaiaplaaDoorDivA
import Derived.Test.YtlipekkiaiaplaaDoorSegs
import Derived.StillTailTactics
import Derived.Deep.RegionWith
import Derived.Deep.RegionHeld3
namespace Go.Proofs.YtlipekkiaiaplaaDoor
open Go.RowKit

theorem old_cell {w0 W : World} {B : Nat} (hb : Below B w0 W) (hB : w0.heap.size = B) {a : Addr} {u : Value} (h : w0.cell? a = some u) : W.cell? a = some u :=
  (hb.cell (by have := block_lt h; omega)).trans h

theorem wrap64_id {n : Int} (h0 : 0 ≤ n) (h1 : n ≤ 9223372036854775807) : wrap64 n = n := IntWalk.wrap64_in n ⟨by omega, h1⟩

set_option maxRecDepth 100000 in
set_option maxHeartbeats 2000000 in
theorem fromI_step (ps : List PItem) (ts : List Int) (S : Nat → Prop) (w0 : World) (B : Nat) (pv tv : Value) (hB : w0.heap.size = B) (hp : ItemsAt S w0 pv ps) (htv : RowAt S w0 1 tv ts.length (ts.map (Value.int .i32)))
    (hn : ps.length ≤ 65536) (hm : ts.length ≤ 65536) (i j : Nat) (w : World) (tr : List Bool) (hi : i ≤ ps.length) (hj : j ≤ ts.length)
    (IH : i < ps.length → FromC PItem.star itemM ps ts (i + 1) w0 B ((ps.length + 1) * (ts.length + 1)) 102 pv tv (.func (.func 87) #[] #[]) (.func (.func 88) #[] #[]))
    (hst : DivSt w0 B ((ps.length + 1) * (ts.length + 1)) 102 pv tv (.func (.func 87) #[] #[]) (.func (.func 88) #[] #[]) tr w) (hinv : TrInv PItem.star itemM ps ts i tr) :
    Calls Tryd.prog 102 #[.int .i64 i, .int .i64 j, .pointer (some ⟨B + 1, 0, none⟩), .pointer (some ⟨B + 5, 0, none⟩), .pointer (some ⟨B, 0, none⟩), .pointer (some ⟨B + 2, 0, none⟩), .pointer (some ⟨B + 3, 0, none⟩), .pointer (some ⟨B + 6, 0, none⟩)] w
      (FromRes PItem.star itemM ps ts i j w0 B ((ps.length + 1) * (ts.length + 1)) 102 pv tv (.func (.func 87) #[] #[]) (.func (.func 88) #[] #[]) tr) := by
  obtain ⟨pa, pc, rfl, hpc, hpm, hpx⟩ := hp.shape ItemR.len
  obtain ⟨_, ta, tc, rfl, htc, htm, ht0⟩ := htv
  unfold maxLen at hpm htm
  obtain ⟨c0, c1, c2, c3, c5, c6, -, hlen, -, -⟩ := id hst
  have HST := Lib.hid hst
  have HINV := Lib.hid hinv
  have HIH := Lib.hid IH
  clear IH
  have HPX := Lib.hid hpx
  have HT0 := Lib.hid ht0
  have HLEN := Lib.hid hlen
  have hpS := hp
  have HPS := Lib.hid hpS
  clear hst hinv hpx ht0 hlen hp hpS
  obtain ⟨N, hN⟩ : ∃ N : Nat, N = (ps.length + 1) * (ts.length + 1) := ⟨_, rfl⟩
  have hpN : i * (ts.length + 1) + j < N := by rw [hN]; exact place_lt _ _ _ _ hi hj
  have hNb : N ≤ 4295098369 := by
    have h1 : (ps.length + 1) * (ts.length + 1) ≤ 65537 * 65537 := Nat.mul_le_mul (by omega) (by omega)
    omega
  have hX : (i : Int) * ((ts.length : Int) + 1) = ((i * (ts.length + 1) : Nat) : Int) := by simp
  have hb1 : 0 ≤ (i : Int) * ((ts.length : Int) + 1) := by rw [hX]; omega
  have hb2 : (i : Int) * ((ts.length : Int) + 1) ≤ 4295098369 := by rw [hX]; omega
  have hb3 : (i : Int) * ((ts.length : Int) + 1) + (j : Int) < (N : Int) := by rw [hX]; omega
  obtain ⟨b0, hq⟩ : ∃ b, tr[i * (ts.length + 1) + j]? = some b := ⟨tr[i * (ts.length + 1) + j]'(by rw [HLEN.out, ← hN]; exact hpN), by simp⟩
  have HQ := Lib.hid hq
  have c4 := HST.out.cell hq
  have f4 := HST.out.free (i * (ts.length + 1) + j)
  rw [← hN] at c5 HST HIH ⊢
  have HN := Lib.hid hN
  clear hN hq HLEN hX
  cases b0 with
  | true =>
    go_enter Tryd.func102, Tryd.ntmps102
    go_wp2_with fail
    go_ret
    have hf : dv PItem.star itemM (ps.drop i) (ts.drop j) = false := HINV.out.hit hi hj HQ.out
    exact ⟨tr, by rw [hf]; rfl, HST.out, fun _ => HINV.out, fun _ _ => rfl⟩
  | false =>
    have hst1 := HST.out.mark (i * (ts.length + 1) + j)
    have HST1 := Lib.hid hst1
    have HINV1 := Lib.hid (HINV.out.marked (j := j) hj)
    obtain ⟨d0, d1, d2, d3, d5, d6, -, -, -, -⟩ := hst1
    by_cases hin : i = ps.length
    · have e1 : ((i : Int) == (ps.length : Int)) = true := by rw [hin]; simp
      have HIN := Lib.hid hin
      clear hin
      go_enter Tryd.func102, Tryd.ntmps102
      go_wp2_with fail
      go_ret
      have hdv := dv_end (star := PItem.star) (M := itemM) HIN.out hj
      refine ⟨tr.set (i * (ts.length + 1) + j) true, ?_, HST1.out, fun hf => HINV.out.down HINV1.out (fun q' _ => rfl) hf, fun q' hq' => ?_⟩
      · rw [hdv]
        exact ret_bool (by rw [Bool.eq_iff_iff]; simp; omega)
      · rw [List.getElem?_set_ne]
        omega
    · have hin' : i < ps.length := by omega
      have e1 : ((i : Int) == (ps.length : Int)) = false := by rw [beq_eq_false_iff_ne]; omega
      clear hin
      obtain ⟨it, hit⟩ : ∃ it, ps[i]? = some it := ⟨ps[i], by simp [hin']⟩
      obtain ⟨pb, po, c, rfl, hSb, ⟨rv, rfl, hrv⟩, -, hcl⟩ := HPX.out i it hit
      have HIT := Lib.hid hit
      have HRV := Lib.hid hrv
      have q0 := hcl 0 (by omega)
      have q1 := hcl 1 (by omega)
      have q2 := hcl 2 (by omega)
      have q3 := hcl 3 (by omega)
      simp only [Nat.add_zero, ← Nat.add_assoc, List.getElem?_cons_zero, List.getElem?_cons_succ] at q0 q1 q2 q3
      have Q0 := Lib.hid q0
      have Q1 := Lib.hid q1
      have Q2 := Lib.hid q2
      have Q3 := Lib.hid q3
      have g0 := old_cell HST1.out.below hB q0
      have g1 := old_cell HST1.out.below hB q1
      have g2 := old_cell HST1.out.below hB q2
      have g3 := old_cell HST1.out.below hB q3
      clear hit hrv hcl q0 q1 q2 q3
      cases hs : it.star
      · have HS := Lib.hid hs
        clear hs
        go_enter Tryd.func102, Tryd.ntmps102
        go_wp2_with fail
        clear c0 c1 c2 c3 c4 c5 c6 f4
        generalize hW : w.setCell ⟨B + 4, i * (ts.length + 1) + j, none⟩ (.bool true) = W at *
        clear hW hb1 hb2 hb3 hpN hNb
        refine wp_region_segs [some 5, none, some 1] (by kernel_rfl) (by kernel_rfl) (by kernel_rfl) ?_
        simp only [wpSegs, List.take_succ_cons, List.take_zero, List.drop_succ_cons, List.drop_zero]
        have HST2 := Lib.hid (HST1.out.grown (Below.refl _ W).drew)
        repeat (first | (refine seg_skip rfl ?_; simp only [Act.put, List.setIfInBounds_toArray, List.set_cons_succ, List.set_cons_zero]) | (refine seg_run rfl (fun K hK => ?_); go_simp; refine hK _ ?_; clear hK K))
        refine seg_nil ?_
        clear d0 d1 d2 d3 d5 d6 g0 g1 g2 g3 HST1
        generalize W.drew = W2 at *
        refine bar_run rfl (fun K hK => ?_)
        go_wp2_with (go_at_call 87; refine (itemStar_any it rv _).mono ?_; rintro e w3 ⟨rfl, hb3⟩; rw [HS.out]; have HST3 := Lib.hid (HST2.out.grown hb3); clear hb3 HST2)
        repeat (first | (refine seg_skip rfl ?_; simp only [Act.put, List.setIfInBounds_toArray, List.set_cons_succ, List.set_cons_zero]) | (refine seg_run rfl (fun K hK => ?_); go_simp; refine hK _ ?_; clear hK K))
        refine seg_nil ?_
        go_wp2_with fail
        obtain ⟨d0, d1, d2, d3, d5, d6, -, -, -, -⟩ := id HST3.out
        have g0 := old_cell HST3.out.below hB Q0.out
        have g1 := old_cell HST3.out.below hB Q1.out
        have g2 := old_cell HST3.out.below hB Q2.out
        have g3 := old_cell HST3.out.below hB Q3.out
        by_cases hjm : j < ts.length
        · have ejm : decide ((j : Int) < (ts.length : Int)) = true := by simpa using hjm
          obtain ⟨x, hx⟩ : ∃ x, ts[j]? = some x := ⟨ts[j], by simp [hjm]⟩
          obtain ⟨tb, tof, rfl, hSt, htcl⟩ := HT0.out.resolve_left (by omega)
          have hx3 := old_cell HST3.out.below hB (htcl j (.int .i32 x) (by simp [hx]))
          have HX := Lib.hid hx
          clear hx htcl
          cases hM : itemM it x
          · have HM := Lib.hid hM
            clear hM
            have ejm2 : (j : Int) < (ts.length : Int) := by omega
            refine wp_region_segs [some 14, none, some 7, none, some 2] (by kernel_rfl) (by kernel_rfl) (by kernel_rfl) ?_
            simp only [wpSegs, List.take_succ_cons, List.take_zero, List.drop_succ_cons, List.drop_zero]
            have HST3' := Lib.hid (HST3.out.grown (Below.refl _ w3).drew)
            repeat (first | (refine seg_skip rfl ?_; simp only [Act.put, List.setIfInBounds_toArray, List.set_cons_succ, List.set_cons_zero]) | (refine seg_run rfl (fun K hK => ?_); go_simp; refine hK _ ?_; clear hK K))
            refine seg_nil ?_
            clear d0 d1 d2 d3 d5 d6 g0 g1 g2 g3 hx3
            have hrv4 : RangesAt S w3.drew rv it.ranges := RowAt.below HRV.out (by omega) (by have := HST3'.out.below; rw [← hB] at this; exact this)
            have HRV4 := Lib.hid hrv4
            clear hrv4
            generalize w3.drew = w3d at *
            refine bar_run rfl (fun K hK => ?_)
            go_wp2_with (go_at_call 88; refine (itemMatches_any S it x rv _ HRV4.out).mono ?_; rintro e w4 ⟨rfl, hb4⟩; rw [HM.out]; have HST4 := Lib.hid (HST3'.out.grown hb4); clear hb4)
            repeat (first | (refine seg_skip rfl ?_; simp only [Act.put, List.setIfInBounds_toArray, List.set_cons_succ, List.set_cons_zero]) | (refine seg_run rfl (fun K hK => ?_); go_simp; refine hK _ ?_; clear hK K))
            refine seg_nil ?_
            refine bar_skip rfl ?_
            simp only [Act.put, List.setIfInBounds_toArray, List.set_cons_succ, List.set_cons_zero]
            repeat (first | (refine seg_skip rfl ?_; simp only [Act.put, List.setIfInBounds_toArray, List.set_cons_succ, List.set_cons_zero]) | (refine seg_run rfl (fun K hK => ?_); go_simp; refine hK _ ?_; clear hK K))
            refine seg_nil ?_
            go_wp2_with fail
            go_ret
            have hdv := show dv PItem.star itemM (ps.drop i) (ts.drop j) = false by rw [dv_one HIT.out HS.out HX.out, HM.out]; rfl
            refine ⟨tr.set (i * (ts.length + 1) + j) true, by rw [hdv]; rfl, HST4.out, fun hf => HINV.out.down HINV1.out (fun _ _ => rfl) hf, fun q hq => ?_⟩
            rw [List.getElem?_set_ne (by omega)]
          · have HM := Lib.hid hM
            clear hM
            have ejm2 : (j : Int) < (ts.length : Int) := by omega
            refine wp_region_segs [some 14, none, some 7, none, some 2] (by kernel_rfl) (by kernel_rfl) (by kernel_rfl) ?_
            simp only [wpSegs, List.take_succ_cons, List.take_zero, List.drop_succ_cons, List.drop_zero]
            have HST3' := Lib.hid (HST3.out.grown (Below.refl _ w3).drew)
            repeat (first | (refine seg_skip rfl ?_; simp only [Act.put, List.setIfInBounds_toArray, List.set_cons_succ, List.set_cons_zero]) | (refine seg_run rfl (fun K hK => ?_); go_simp; refine hK _ ?_; clear hK K))
            refine seg_nil ?_
            clear d0 d1 d2 d3 d5 d6 g0 g1 g2 g3 hx3
            have hrv4 : RangesAt S w3.drew rv it.ranges := RowAt.below HRV.out (by omega) (by have := HST3'.out.below; rw [← hB] at this; exact this)
            have HRV4 := Lib.hid hrv4
            clear hrv4
            generalize w3.drew = w3d at *
            refine bar_run rfl (fun K hK => ?_)
            go_wp2_with (go_at_call 88; refine (itemMatches_any S it x rv _ HRV4.out).mono ?_; rintro e w4 ⟨rfl, hb4⟩; rw [HM.out]; have HST4 := Lib.hid (HST3'.out.grown hb4); clear hb4)
            have d6 := HST4.out.c6
            repeat (first | (refine seg_skip rfl ?_; simp only [Act.put, List.setIfInBounds_toArray, List.set_cons_succ, List.set_cons_zero]) | (refine seg_run rfl (fun K hK => ?_); go_simp; refine hK _ ?_; clear hK K))
            refine seg_nil ?_
            refine bar_run rfl (fun K hK => ?_)
            go_wp2_with (go_at_call 102; refine (HIH.out hin' _ _ (j + 1) w4 (tr.set (i * (ts.length + 1) + j) true) (by omega) (by omega) (by omega) HST4.out HINV1.out).mono ?_; rintro e w5 ⟨tr2, rfl, hst5, hinv5, hsame5⟩; have HST5 := Lib.hid hst5; have HINV5 := Lib.hid hinv5; have HSM5 := Lib.hid hsame5; clear hst5 hinv5 hsame5)
            repeat (first | (refine seg_skip rfl ?_; simp only [Act.put, List.setIfInBounds_toArray, List.set_cons_succ, List.set_cons_zero]) | (refine seg_run rfl (fun K hK => ?_); go_simp; refine hK _ ?_; clear hK K))
            refine seg_nil ?_
            go_wp2_with fail
            go_ret
            have hdv : dv PItem.star itemM (ps.drop i) (ts.drop j) = dv PItem.star itemM (ps.drop (i + 1)) (ts.drop (j + 1)) := by rw [dv_one HIT.out HS.out HX.out, HM.out]; rfl
            refine ⟨tr2, by rw [hdv]; rfl, HST5.out, fun hf => HINV.out.down (HINV5.out (by rw [← hdv]; exact hf)) (fun q hq => HSM5.out q hq) hf, fun q hq => ?_⟩
            rw [HSM5.out q (by rw [Nat.add_mul]; omega), List.getElem?_set_ne (by omega)]
        · have ejm : decide ((j : Int) < (ts.length : Int)) = false := by simpa using hjm
          go_quiet (fail)
          go_wp2_with fail
          go_ret
          have HST4 := Lib.hid (HST3.out.grown (below_draws (Below.refl _ w3) nq))
          have hdv := show dv PItem.star itemM (ps.drop i) (ts.drop j) = false from dv_none HIT.out HS.out (by omega)
          refine ⟨tr.set (i * (ts.length + 1) + j) true, by rw [hdv]; rfl, HST4.out, fun hf => HINV.out.down HINV1.out (fun _ _ => rfl) hf, fun q hq => ?_⟩
          rw [List.getElem?_set_ne (by omega)]
      · have HS := Lib.hid hs
        clear hs
        go_enter Tryd.func102, Tryd.ntmps102
        go_wp2_with fail
        clear c0 c1 c2 c3 c4 c5 c6 f4
        generalize hW : w.setCell ⟨B + 4, i * (ts.length + 1) + j, none⟩ (.bool true) = W at *
        clear hW hb1 hb2 hb3 hpN hNb
        refine wp_region_segs [some 5, none, some 1] (by kernel_rfl) (by kernel_rfl) (by kernel_rfl) ?_
        simp only [wpSegs, List.take_succ_cons, List.take_zero, List.drop_succ_cons, List.drop_zero]
        have HST2 := Lib.hid (HST1.out.grown (Below.refl _ W).drew)
        repeat (first | (refine seg_skip rfl ?_; simp only [Act.put, List.setIfInBounds_toArray, List.set_cons_succ, List.set_cons_zero]) | (refine seg_run rfl (fun K hK => ?_); go_simp; refine hK _ ?_; clear hK K))
        refine seg_nil ?_
        clear d0 d1 d2 d3 d5 d6 g0 g1 g2 g3 HST1
        generalize W.drew = W2 at *
        refine bar_run rfl (fun K hK => ?_)
        go_wp2_with (go_at_call 87; refine (itemStar_any it rv _).mono ?_; rintro e w3 ⟨rfl, hb3⟩; rw [HS.out]; have HST3 := Lib.hid (HST2.out.grown hb3); clear hb3 HST2)
        repeat (first | (refine seg_skip rfl ?_; simp only [Act.put, List.setIfInBounds_toArray, List.set_cons_succ, List.set_cons_zero]) | (refine seg_run rfl (fun K hK => ?_); go_simp; refine hK _ ?_; clear hK K))
        refine seg_nil ?_
        go_wp2_with fail
        go_loopw [12] (fun en wr => ∃ (k : Nat) (tr' : List Bool), j ≤ k ∧ k ≤ ts.length + 1 ∧ en = .int .i64 k ∧ DivSt w0 B N 102 (.slice (some ⟨pb, po, none⟩) ps.length pc) (.slice ta ts.length tc) (.func (.func 87) #[] #[]) (.func (.func 88) #[] #[]) tr' wr ∧
            TrInv PItem.star itemM ps ts (i + 1) tr' ∧ (∀ q, q < (i + 1) * (ts.length + 1) → tr'[q]? = (tr.set (i * (ts.length + 1) + j) true)[q]?) ∧ dv PItem.star itemM (ps.drop i) (ts.drop j) = (decide (k ≤ ts.length) && anySuf (dv PItem.star itemM (ps.drop (i + 1))) (ts.drop k))) (fun en _ => ts.length + 1 - (intOf en).toNat)
        case atStart => exact ⟨j, _, Nat.le_refl _, by omega, rfl, HST3.out, HINV1.out, fun _ _ => rfl, by rw [dv_star HIT.out HS.out]; simp [hj]⟩
        case round =>
          obtain ⟨k, tr', hjk, hk, rfl, hst4, hinv4, hsm4, hdv4⟩ := hrel
          have HST4 := Lib.hid hst4
          have HINV4 := Lib.hid hinv4
          have HSM4 := Lib.hid hsm4
          have HDV4 := Lib.hid hdv4
          obtain ⟨d0, d1, d2, d3, d5, d6, -, -, -, -⟩ := hst4
          clear hinv4 hsm4 hdv4
          by_cases hkm : k ≤ ts.length
          · cases hdvk : dv PItem.star itemM (ps.drop (i + 1)) (ts.drop k)
            · have HDVK := Lib.hid hdvk
              clear hdvk
              go_wp2_with (go_at_call 102; refine (HIH.out hin' _ _ k wr tr' (by omega) (by omega) (by omega) HST4.out HINV4.out).mono ?_; rintro e w5 ⟨tr2, rfl, hst5, hinv5, hsame5⟩; rw [HDVK.out]; have HST5 := Lib.hid hst5; have HINV5 := Lib.hid hinv5; have HSM5 := Lib.hid hsame5; clear hst5 hinv5 hsame5)
              go_roundw
              case rel =>
                refine ⟨k + 1, tr2, by omega, by omega, by go_num, HST5.out, HINV5.out HDVK.out, fun q hq => (HSM5.out q hq).trans (HSM4.out q hq), ?_⟩
                rw [HDV4.out]
                by_cases hlt : k < ts.length
                · rw [anySuf_step _ hlt, HDVK.out]; simp [hkm, show k + 1 ≤ ts.length by omega]
                · rw [anySuf_end _ (show k = ts.length by omega), HDVK.out]; simp [show ¬ k + 1 ≤ ts.length by omega]
              case measure => simp [intOf]; omega
            · have HDVK := Lib.hid hdvk
              clear hdvk
              go_wp2_with (go_at_call 102; refine (HIH.out hin' _ _ k wr tr' (by omega) (by omega) (by omega) HST4.out HINV4.out).mono ?_; rintro e w5 ⟨tr2, rfl, hst5, hinv5, hsame5⟩; rw [HDVK.out]; have HST5 := Lib.hid hst5; have HINV5 := Lib.hid hinv5; have HSM5 := Lib.hid hsame5; clear hst5 hinv5 hsame5)
              go_ret
              have hdv : dv PItem.star itemM (ps.drop i) (ts.drop j) = true := by
                rw [HDV4.out]
                by_cases hlt : k < ts.length
                · rw [anySuf_step _ hlt, HDVK.out]; simp [hkm]
                · rw [anySuf_end _ (show k = ts.length by omega), HDVK.out]; simp [hkm]
              refine ⟨tr2, by rw [hdv]; rfl, HST5.out, (fun hf => by rw [hdv] at hf; cases hf), fun q hq => ?_⟩
              rw [HSM5.out q (by rw [Nat.add_mul]; omega), HSM4.out q (by rw [Nat.add_mul]; omega), List.getElem?_set_ne (by omega)]
          · go_wp2_with fail
            go_ret
            have hdv : dv PItem.star itemM (ps.drop i) (ts.drop j) = false := by rw [HDV4.out]; simp [hkm]
            refine ⟨tr', by rw [hdv]; rfl, HST4.out, fun hf => HINV.out.down HINV4.out HSM4.out hf, fun q hq => ?_⟩
            rw [HSM4.out q (by rw [Nat.add_mul]; omega), List.getElem?_set_ne (by omega)]

theorem fromI (ps : List PItem) (ts : List Int) (S : Nat → Prop) (w0 : World) (B : Nat) (pv tv : Value) (hB : w0.heap.size = B) (hp : ItemsAt S w0 pv ps) (htv : RowAt S w0 1 tv ts.length (ts.map (Value.int .i32)))
    (hn : ps.length ≤ 65536) (hm : ts.length ≤ 65536) : ∀ (d i : Nat), ps.length - i = d → i ≤ ps.length → FromC PItem.star itemM ps ts i w0 B ((ps.length + 1) * (ts.length + 1)) 102 pv tv (.func (.func 87) #[] #[]) (.func (.func 88) #[] #[])
  | 0, i, hd, hi => by
    intro ii jj j w tr h1 h2 hj hst hinv
    subst h1 h2
    exact fromI_step ps ts S w0 B pv tv hB hp htv hn hm i j w tr hi hj (fun h => by omega) hst hinv
  | d + 1, i, hd, hi => by
    intro ii jj j w tr h1 h2 hj hst hinv
    subst h1 h2
    exact fromI_step ps ts S w0 B pv tv hB hp htv hn hm i j w tr hi hj (fun h => fromI ps ts S w0 B pv tv hB hp htv hn hm d (i + 1) (by omega) (by omega)) hst hinv

end Go.Proofs.YtlipekkiaiaplaaDoor
