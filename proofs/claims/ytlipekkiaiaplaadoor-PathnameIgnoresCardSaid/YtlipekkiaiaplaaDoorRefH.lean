/- Contracts of the specification of chapter 18: matches. -/
import Derived.Test.YtlipekkiaiaplaaDoorRefG
namespace Go.Proofs.YtlipekkiaiaplaaDoor
open Go.RowKit

theorem dv_st0 {P T : Type} {star : P → Bool} {m : P → T → Bool} {p : P} {ps : List P} (h : star p = true) : dv star m (p :: ps) [] = dv star m ps [] := by
  rw [dv, if_pos h, anySuf]
theorem dv_st1 {P T : Type} {star : P → Bool} {m : P → T → Bool} {p : P} {ps : List P} {t : T} {ts : List T} (h : star p = true) : dv star m (p :: ps) (t :: ts) = (dv star m ps (t :: ts) || dv star m (p :: ps) ts) := by
  have e : ∀ us, dv star m (p :: ps) us = anySuf (dv star m ps) us := fun us => by rw [dv, if_pos h]
  rw [e, e, anySuf]
theorem dv_no0 {P T : Type} {star : P → Bool} {m : P → T → Bool} {p : P} {ps : List P} (h : star p = false) : dv star m (p :: ps) ([] : List T) = false := by
  rw [dv, h]; rfl
theorem dv_no1 {P T : Type} {star : P → Bool} {m : P → T → Bool} {p : P} {ps : List P} {t : T} {ts : List T} (h : star p = false) : dv star m (p :: ps) (t :: ts) = (m p t && dv star m ps ts) := by
  have e : dv star m (p :: ps) (t :: ts) = headM (m p) (dv star m ps) (t :: ts) := by rw [dv, h]; rfl
  rw [e]; rfl

/-- matches' contract at a size. -/
def MatC (N : Nat) : Prop := ∀ (its : List PItem) (rs : List Int) (S : Nat → Prop) (pv tv : Value) (w : World), its.length + rs.length ≤ N → RItemsAt S w pv its → RunesAt S w tv rs →
  Calls Tryd.prog 72 #[pv, tv] w fun e w' => e = .returned (.bool (dv PItem.star hasM its rs)) ∧ Below w.heap.size w w'
theorem MatC.at {N : Nat} (h : MatC N) (its : List PItem) (rs : List Int) (S : Nat → Prop) (pv tv : Value) (w : World) (hN : its.length + rs.length ≤ N) (hp : RItemsAt S w pv its) (ht : RunesAt S w tv rs) :
    Calls Tryd.prog 72 #[pv, tv] w fun e w' => e = .returned (.bool (dv PItem.star hasM its rs)) ∧ Below w.heap.size w w' := h its rs S pv tv w hN hp ht
theorem RItemsAt.below' {S : Nat → Prop} {w w' : World} {v : Value} {its : List PItem} (h : RItemsAt S w v its) (hb : Below w.heap.size w w') : RItemsAt S w' v its := h.move (fun k hk hs => ⟨hs, hb.block k hk⟩)

set_option maxRecDepth 100000 in
set_option maxHeartbeats 4000000 in
theorem r_matches_set (N : Nat) (IH : MatC (N - 1)) (it : PItem) (its : List PItem) (rs : List Int) (S : Nat → Prop) (pv tv : Value) (w : World) (hN : (it :: its).length + rs.length ≤ N) (hp : RItemsAt S w pv (it :: its)) (ht : RunesAt S w tv rs) (hst : it.star = false) :
    Calls Tryd.prog 72 #[pv, tv] w fun e w' => e = .returned (.bool (dv PItem.star hasM (it :: its) rs)) ∧ Below w.heap.size w w' := by
  have HP := Lib.hid hp
  have HT := Lib.hid ht
  have HIH := Lib.hid IH
  obtain ⟨b, o, pc, c, rfl, hpc1, hpc2, ⟨rv, rfl, hrv⟩, hcj⟩ := seq_head RItemR.len hp
  have c0 := hcj 0 (by omega)
  have c1 := hcj 1 (by omega)
  have c2 := hcj 2 (by omega)
  simp only [Nat.add_zero, List.getElem?_cons_zero, List.getElem?_cons_succ] at c0 c1 c2
  obtain ⟨ra, rc, rfl⟩ : ∃ ra rc, rv = .slice ra it.ranges.length rc := by obtain ⟨_, ra, rc, h, _⟩ := hrv; exact ⟨ra, rc, h⟩
  have HRV0 := Lib.hid hrv
  clear IH hcj hrv
  unfold maxLen at hpc2
  simp only [List.length_cons] at hN
  have HS := Lib.hid hst
  rw [hst] at c0
  clear hst
  cases rs with
  | nil =>
    obtain ⟨ta, tc, rfl, -, -, -⟩ := ht.shape
    clear hp ht
    simp only [List.length_nil]
    go_enter Tryd.func72, Tryd.ntmps72
    go_wp2_with fail
    go_quiet (fail)
    go_wp2_with fail
    go_ret
    exact ⟨ret_bool (by rw [dv_no0 HS.out]), below_draws (Below.refl _ _) _⟩
  | cons r rs =>
    obtain ⟨tb, tq, tc, c', rfl, htc1, htc2, hc', hdj⟩ := seq_head RuneR.len (runes_seq ht)
    have d0 := hdj 0 (by omega)
    rw [show c' = [.int .i32 r] from hc'] at d0
    simp only [Nat.add_zero, List.getElem?_cons_zero] at d0
    have HRV := Lib.hid (show RangesAt S w.drew (.slice ra it.ranges.length rc) it.ranges from RowAt.below HRV0.out (by omega) (Below.refl _ w).drew)
    clear hp ht hdj hc' HRV0
    unfold maxLen at htc2
    simp only [List.length_cons] at hN
    have e0 : decide ((0 : Int) < (rs.length : Int) + 1) = true := by simp <;> omega
    have g1 : (1 : Int) ≤ (rs.length : Int) + 1 := by omega
    have g2 : (1 : Int) ≤ (its.length : Int) + 1 := by omega
    by_cases hp1 : pc = 1
    · subst hp1
      obtain ⟨hnil, hti⟩ := seq_tail1 HP.out
      have HTI := Lib.hid (show RItemsAt S w (.slice (some ⟨b, o, none⟩) 0 0) its by rw [hnil]; exact hti)
      have hl0 : its.length = 0 := by rw [hnil]; rfl
      clear hti hnil
      rw [hl0] at hpc1 HP ⊢
      clear hl0
      by_cases ht1 : tc = 1
      · subst ht1
        obtain ⟨hnil, htt⟩ := seq_tail1 (runes_seq HT.out)
        have HTT := Lib.hid (show RunesAt S w (.slice (some ⟨tb, tq, none⟩) 0 0) rs by rw [hnil]; exact seq_runes htt)
        have hl1 : rs.length = 0 := by rw [hnil]; rfl
        clear htt hnil
        have e1 : decide ((0 : Int) < ((0 : Nat) : Int) + 1) = true := by decide
        rw [hl1] at htc1 HT ⊢
        clear hl1 e0
        cases hm : hasM it r
        · have HM := Lib.hid hm
          clear hm
          go_enter Tryd.func72, Tryd.ntmps72
          go_wp2_with fail
          refine wp_region_segs [some 10, none, some 6, none, some 2] (by kernel_rfl) (by kernel_rfl) (by kernel_rfl) ?_
          simp only [wpSegs, List.take_succ_cons, List.take_zero, List.drop_succ_cons, List.drop_zero]
          repeat (first | (refine seg_skip rfl ?_; simp only [Act.put, List.setIfInBounds_toArray, List.set_cons_succ, List.set_cons_zero]) | (refine seg_run rfl (fun K hK => ?_); go_simp; refine hK _ ?_; clear hK K))
          refine seg_nil ?_
          clear c0 c1 c2 d0
          refine bar_run rfl (fun K hK => ?_)
          go_wp2_with (go_at_call 90; refine (r_has_any S it false r _ _ HRV.out).mono ?_; rintro e w1 ⟨rfl, hb1⟩; rw [HM.out]; have HB1 := Lib.hid hb1; clear hb1)
          repeat (first | (refine seg_skip rfl ?_; simp only [Act.put, List.setIfInBounds_toArray, List.set_cons_succ, List.set_cons_zero]) | (refine seg_run rfl (fun K hK => ?_); go_simp; refine hK _ ?_; clear hK K))
          refine seg_nil ?_
          refine bar_skip rfl ?_
          simp only [Act.put, List.setIfInBounds_toArray, List.set_cons_succ, List.set_cons_zero]
          repeat (first | (refine seg_skip rfl ?_; simp only [Act.put, List.setIfInBounds_toArray, List.set_cons_succ, List.set_cons_zero]) | (refine seg_run rfl (fun K hK => ?_); go_simp; refine hK _ ?_; clear hK K))
          refine seg_nil ?_
          go_wp2_with fail
          go_ret
          exact ⟨ret_bool (by rw [dv_no1 HS.out, HM.out]; rfl), below_next (Below.refl _ w).drew HB1.out⟩
        · have HM := Lib.hid hm
          clear hm
          go_enter Tryd.func72, Tryd.ntmps72
          go_wp2_with fail
          refine wp_region_segs [some 10, none, some 6, none, some 2] (by kernel_rfl) (by kernel_rfl) (by kernel_rfl) ?_
          simp only [wpSegs, List.take_succ_cons, List.take_zero, List.drop_succ_cons, List.drop_zero]
          repeat (first | (refine seg_skip rfl ?_; simp only [Act.put, List.setIfInBounds_toArray, List.set_cons_succ, List.set_cons_zero]) | (refine seg_run rfl (fun K hK => ?_); go_simp; refine hK _ ?_; clear hK K))
          refine seg_nil ?_
          clear c0 c1 c2 d0
          refine bar_run rfl (fun K hK => ?_)
          go_wp2_with (go_at_call 90; refine (r_has_any S it false r _ _ HRV.out).mono ?_; rintro e w1 ⟨rfl, hb1⟩; rw [HM.out]; have hbw := below_next (Below.refl _ w).drew hb1; have HI1 := Lib.hid (show RItemsAt S w1 (.slice (some ⟨b, o, none⟩) 0 0) its from RItemsAt.below' HTI.out hbw); have HT1 := Lib.hid (show RunesAt S w1 (.slice (some ⟨tb, tq, none⟩) 0 0) rs from RowAt.below HTT.out (by omega) hbw); have HB1 := Lib.hid hbw; clear hb1 hbw)
          repeat (first | (refine seg_skip rfl ?_; simp only [Act.put, List.setIfInBounds_toArray, List.set_cons_succ, List.set_cons_zero]) | (refine seg_run rfl (fun K hK => ?_); go_simp; refine hK _ ?_; clear hK K))
          refine seg_nil ?_
          refine bar_run rfl (fun K hK => ?_)
          go_wp2_with (go_at_call 72; (with_reducible refine (MatC.at HIH.out its rs S (.slice (some ⟨b, o, none⟩) 0 0) (.slice (some ⟨tb, tq, none⟩) 0 0) w1 (by omega) HI1.out HT1.out).mono ?_); rintro e w2 ⟨rfl, hb2⟩; have HB2 := Lib.hid hb2; clear hb2)
          repeat (first | (refine seg_skip rfl ?_; simp only [Act.put, List.setIfInBounds_toArray, List.set_cons_succ, List.set_cons_zero]) | (refine seg_run rfl (fun K hK => ?_); go_simp; refine hK _ ?_; clear hK K))
          refine seg_nil ?_
          go_wp2_with fail
          go_ret
          exact ⟨ret_bool (by rw [dv_no1 HS.out, HM.out]; rfl), below_next HB1.out HB2.out⟩
      · have HTT := Lib.hid (seq_runes (seq_tail2 RuneR.len (runes_seq HT.out)))
        have ht1' : (tc == 1) = false := by simpa using ht1
        cases hm : hasM it r
        · have HM := Lib.hid hm
          clear hm
          go_enter Tryd.func72, Tryd.ntmps72
          go_wp2_with fail
          refine wp_region_segs [some 10, none, some 6, none, some 2] (by kernel_rfl) (by kernel_rfl) (by kernel_rfl) ?_
          simp only [wpSegs, List.take_succ_cons, List.take_zero, List.drop_succ_cons, List.drop_zero]
          repeat (first | (refine seg_skip rfl ?_; simp only [Act.put, List.setIfInBounds_toArray, List.set_cons_succ, List.set_cons_zero]) | (refine seg_run rfl (fun K hK => ?_); go_simp; refine hK _ ?_; clear hK K))
          refine seg_nil ?_
          clear c0 c1 c2 d0
          refine bar_run rfl (fun K hK => ?_)
          go_wp2_with (go_at_call 90; refine (r_has_any S it false r _ _ HRV.out).mono ?_; rintro e w1 ⟨rfl, hb1⟩; rw [HM.out]; have HB1 := Lib.hid hb1; clear hb1)
          repeat (first | (refine seg_skip rfl ?_; simp only [Act.put, List.setIfInBounds_toArray, List.set_cons_succ, List.set_cons_zero]) | (refine seg_run rfl (fun K hK => ?_); go_simp; refine hK _ ?_; clear hK K))
          refine seg_nil ?_
          refine bar_skip rfl ?_
          simp only [Act.put, List.setIfInBounds_toArray, List.set_cons_succ, List.set_cons_zero]
          repeat (first | (refine seg_skip rfl ?_; simp only [Act.put, List.setIfInBounds_toArray, List.set_cons_succ, List.set_cons_zero]) | (refine seg_run rfl (fun K hK => ?_); go_simp; refine hK _ ?_; clear hK K))
          refine seg_nil ?_
          go_wp2_with fail
          go_ret
          exact ⟨ret_bool (by rw [dv_no1 HS.out, HM.out]; rfl), below_next (Below.refl _ w).drew HB1.out⟩
        · have HM := Lib.hid hm
          clear hm
          go_enter Tryd.func72, Tryd.ntmps72
          go_wp2_with fail
          refine wp_region_segs [some 10, none, some 6, none, some 2] (by kernel_rfl) (by kernel_rfl) (by kernel_rfl) ?_
          simp only [wpSegs, List.take_succ_cons, List.take_zero, List.drop_succ_cons, List.drop_zero]
          repeat (first | (refine seg_skip rfl ?_; simp only [Act.put, List.setIfInBounds_toArray, List.set_cons_succ, List.set_cons_zero]) | (refine seg_run rfl (fun K hK => ?_); go_simp; refine hK _ ?_; clear hK K))
          refine seg_nil ?_
          clear c0 c1 c2 d0
          refine bar_run rfl (fun K hK => ?_)
          go_wp2_with (go_at_call 90; refine (r_has_any S it false r _ _ HRV.out).mono ?_; rintro e w1 ⟨rfl, hb1⟩; rw [HM.out]; have hbw := below_next (Below.refl _ w).drew hb1; have HI1 := Lib.hid (show RItemsAt S w1 (.slice (some ⟨b, o, none⟩) 0 0) its from RItemsAt.below' HTI.out hbw); have HT1 := Lib.hid (show RunesAt S w1 (.slice (some ⟨tb, tq + 1, none⟩) rs.length (tc - 1)) rs from RowAt.below HTT.out (by omega) hbw); have HB1 := Lib.hid hbw; clear hb1 hbw)
          repeat (first | (refine seg_skip rfl ?_; simp only [Act.put, List.setIfInBounds_toArray, List.set_cons_succ, List.set_cons_zero]) | (refine seg_run rfl (fun K hK => ?_); go_simp; refine hK _ ?_; clear hK K))
          refine seg_nil ?_
          refine bar_run rfl (fun K hK => ?_)
          go_wp2_with (go_at_call 72; (with_reducible refine (MatC.at HIH.out its rs S (.slice (some ⟨b, o, none⟩) 0 0) (.slice (some ⟨tb, tq + 1, none⟩) rs.length (tc - 1)) w1 (by omega) HI1.out HT1.out).mono ?_); rintro e w2 ⟨rfl, hb2⟩; have HB2 := Lib.hid hb2; clear hb2)
          repeat (first | (refine seg_skip rfl ?_; simp only [Act.put, List.setIfInBounds_toArray, List.set_cons_succ, List.set_cons_zero]) | (refine seg_run rfl (fun K hK => ?_); go_simp; refine hK _ ?_; clear hK K))
          refine seg_nil ?_
          go_wp2_with fail
          go_ret
          exact ⟨ret_bool (by rw [dv_no1 HS.out, HM.out]; rfl), below_next HB1.out HB2.out⟩
    · have HTI := Lib.hid (show RItemsAt S w _ its from seq_tail2 RItemR.len HP.out)
      have hp1' : (pc == 1) = false := by simpa using hp1
      by_cases ht1 : tc = 1
      · subst ht1
        obtain ⟨hnil, htt⟩ := seq_tail1 (runes_seq HT.out)
        have HTT := Lib.hid (show RunesAt S w (.slice (some ⟨tb, tq, none⟩) 0 0) rs by rw [hnil]; exact seq_runes htt)
        have hl1 : rs.length = 0 := by rw [hnil]; rfl
        clear htt hnil
        have e1 : decide ((0 : Int) < ((0 : Nat) : Int) + 1) = true := by decide
        rw [hl1] at htc1 HT ⊢
        clear hl1 e0
        cases hm : hasM it r
        · have HM := Lib.hid hm
          clear hm
          go_enter Tryd.func72, Tryd.ntmps72
          go_wp2_with fail
          refine wp_region_segs [some 10, none, some 6, none, some 2] (by kernel_rfl) (by kernel_rfl) (by kernel_rfl) ?_
          simp only [wpSegs, List.take_succ_cons, List.take_zero, List.drop_succ_cons, List.drop_zero]
          repeat (first | (refine seg_skip rfl ?_; simp only [Act.put, List.setIfInBounds_toArray, List.set_cons_succ, List.set_cons_zero]) | (refine seg_run rfl (fun K hK => ?_); go_simp; refine hK _ ?_; clear hK K))
          refine seg_nil ?_
          clear c0 c1 c2 d0
          refine bar_run rfl (fun K hK => ?_)
          go_wp2_with (go_at_call 90; refine (r_has_any S it false r _ _ HRV.out).mono ?_; rintro e w1 ⟨rfl, hb1⟩; rw [HM.out]; have HB1 := Lib.hid hb1; clear hb1)
          repeat (first | (refine seg_skip rfl ?_; simp only [Act.put, List.setIfInBounds_toArray, List.set_cons_succ, List.set_cons_zero]) | (refine seg_run rfl (fun K hK => ?_); go_simp; refine hK _ ?_; clear hK K))
          refine seg_nil ?_
          refine bar_skip rfl ?_
          simp only [Act.put, List.setIfInBounds_toArray, List.set_cons_succ, List.set_cons_zero]
          repeat (first | (refine seg_skip rfl ?_; simp only [Act.put, List.setIfInBounds_toArray, List.set_cons_succ, List.set_cons_zero]) | (refine seg_run rfl (fun K hK => ?_); go_simp; refine hK _ ?_; clear hK K))
          refine seg_nil ?_
          go_wp2_with fail
          go_ret
          exact ⟨ret_bool (by rw [dv_no1 HS.out, HM.out]; rfl), below_next (Below.refl _ w).drew HB1.out⟩
        · have HM := Lib.hid hm
          clear hm
          go_enter Tryd.func72, Tryd.ntmps72
          go_wp2_with fail
          refine wp_region_segs [some 10, none, some 6, none, some 2] (by kernel_rfl) (by kernel_rfl) (by kernel_rfl) ?_
          simp only [wpSegs, List.take_succ_cons, List.take_zero, List.drop_succ_cons, List.drop_zero]
          repeat (first | (refine seg_skip rfl ?_; simp only [Act.put, List.setIfInBounds_toArray, List.set_cons_succ, List.set_cons_zero]) | (refine seg_run rfl (fun K hK => ?_); go_simp; refine hK _ ?_; clear hK K))
          refine seg_nil ?_
          clear c0 c1 c2 d0
          refine bar_run rfl (fun K hK => ?_)
          go_wp2_with (go_at_call 90; refine (r_has_any S it false r _ _ HRV.out).mono ?_; rintro e w1 ⟨rfl, hb1⟩; rw [HM.out]; have hbw := below_next (Below.refl _ w).drew hb1; have HI1 := Lib.hid (show RItemsAt S w1 (.slice (some ⟨b, o + 3, none⟩) its.length (pc - 1)) its from RItemsAt.below' HTI.out hbw); have HT1 := Lib.hid (show RunesAt S w1 (.slice (some ⟨tb, tq, none⟩) 0 0) rs from RowAt.below HTT.out (by omega) hbw); have HB1 := Lib.hid hbw; clear hb1 hbw)
          repeat (first | (refine seg_skip rfl ?_; simp only [Act.put, List.setIfInBounds_toArray, List.set_cons_succ, List.set_cons_zero]) | (refine seg_run rfl (fun K hK => ?_); go_simp; refine hK _ ?_; clear hK K))
          refine seg_nil ?_
          refine bar_run rfl (fun K hK => ?_)
          go_wp2_with (go_at_call 72; (with_reducible refine (MatC.at HIH.out its rs S (.slice (some ⟨b, o + 3, none⟩) its.length (pc - 1)) (.slice (some ⟨tb, tq, none⟩) 0 0) w1 (by omega) HI1.out HT1.out).mono ?_); rintro e w2 ⟨rfl, hb2⟩; have HB2 := Lib.hid hb2; clear hb2)
          repeat (first | (refine seg_skip rfl ?_; simp only [Act.put, List.setIfInBounds_toArray, List.set_cons_succ, List.set_cons_zero]) | (refine seg_run rfl (fun K hK => ?_); go_simp; refine hK _ ?_; clear hK K))
          refine seg_nil ?_
          go_wp2_with fail
          go_ret
          exact ⟨ret_bool (by rw [dv_no1 HS.out, HM.out]; rfl), below_next HB1.out HB2.out⟩
      · have HTT := Lib.hid (seq_runes (seq_tail2 RuneR.len (runes_seq HT.out)))
        have ht1' : (tc == 1) = false := by simpa using ht1
        cases hm : hasM it r
        · have HM := Lib.hid hm
          clear hm
          go_enter Tryd.func72, Tryd.ntmps72
          go_wp2_with fail
          refine wp_region_segs [some 10, none, some 6, none, some 2] (by kernel_rfl) (by kernel_rfl) (by kernel_rfl) ?_
          simp only [wpSegs, List.take_succ_cons, List.take_zero, List.drop_succ_cons, List.drop_zero]
          repeat (first | (refine seg_skip rfl ?_; simp only [Act.put, List.setIfInBounds_toArray, List.set_cons_succ, List.set_cons_zero]) | (refine seg_run rfl (fun K hK => ?_); go_simp; refine hK _ ?_; clear hK K))
          refine seg_nil ?_
          clear c0 c1 c2 d0
          refine bar_run rfl (fun K hK => ?_)
          go_wp2_with (go_at_call 90; refine (r_has_any S it false r _ _ HRV.out).mono ?_; rintro e w1 ⟨rfl, hb1⟩; rw [HM.out]; have HB1 := Lib.hid hb1; clear hb1)
          repeat (first | (refine seg_skip rfl ?_; simp only [Act.put, List.setIfInBounds_toArray, List.set_cons_succ, List.set_cons_zero]) | (refine seg_run rfl (fun K hK => ?_); go_simp; refine hK _ ?_; clear hK K))
          refine seg_nil ?_
          refine bar_skip rfl ?_
          simp only [Act.put, List.setIfInBounds_toArray, List.set_cons_succ, List.set_cons_zero]
          repeat (first | (refine seg_skip rfl ?_; simp only [Act.put, List.setIfInBounds_toArray, List.set_cons_succ, List.set_cons_zero]) | (refine seg_run rfl (fun K hK => ?_); go_simp; refine hK _ ?_; clear hK K))
          refine seg_nil ?_
          go_wp2_with fail
          go_ret
          exact ⟨ret_bool (by rw [dv_no1 HS.out, HM.out]; rfl), below_next (Below.refl _ w).drew HB1.out⟩
        · have HM := Lib.hid hm
          clear hm
          go_enter Tryd.func72, Tryd.ntmps72
          go_wp2_with fail
          refine wp_region_segs [some 10, none, some 6, none, some 2] (by kernel_rfl) (by kernel_rfl) (by kernel_rfl) ?_
          simp only [wpSegs, List.take_succ_cons, List.take_zero, List.drop_succ_cons, List.drop_zero]
          repeat (first | (refine seg_skip rfl ?_; simp only [Act.put, List.setIfInBounds_toArray, List.set_cons_succ, List.set_cons_zero]) | (refine seg_run rfl (fun K hK => ?_); go_simp; refine hK _ ?_; clear hK K))
          refine seg_nil ?_
          clear c0 c1 c2 d0
          refine bar_run rfl (fun K hK => ?_)
          go_wp2_with (go_at_call 90; refine (r_has_any S it false r _ _ HRV.out).mono ?_; rintro e w1 ⟨rfl, hb1⟩; rw [HM.out]; have hbw := below_next (Below.refl _ w).drew hb1; have HI1 := Lib.hid (show RItemsAt S w1 (.slice (some ⟨b, o + 3, none⟩) its.length (pc - 1)) its from RItemsAt.below' HTI.out hbw); have HT1 := Lib.hid (show RunesAt S w1 (.slice (some ⟨tb, tq + 1, none⟩) rs.length (tc - 1)) rs from RowAt.below HTT.out (by omega) hbw); have HB1 := Lib.hid hbw; clear hb1 hbw)
          repeat (first | (refine seg_skip rfl ?_; simp only [Act.put, List.setIfInBounds_toArray, List.set_cons_succ, List.set_cons_zero]) | (refine seg_run rfl (fun K hK => ?_); go_simp; refine hK _ ?_; clear hK K))
          refine seg_nil ?_
          refine bar_run rfl (fun K hK => ?_)
          go_wp2_with (go_at_call 72; (with_reducible refine (MatC.at HIH.out its rs S (.slice (some ⟨b, o + 3, none⟩) its.length (pc - 1)) (.slice (some ⟨tb, tq + 1, none⟩) rs.length (tc - 1)) w1 (by omega) HI1.out HT1.out).mono ?_); rintro e w2 ⟨rfl, hb2⟩; have HB2 := Lib.hid hb2; clear hb2)
          repeat (first | (refine seg_skip rfl ?_; simp only [Act.put, List.setIfInBounds_toArray, List.set_cons_succ, List.set_cons_zero]) | (refine seg_run rfl (fun K hK => ?_); go_simp; refine hK _ ?_; clear hK K))
          refine seg_nil ?_
          go_wp2_with fail
          go_ret
          exact ⟨ret_bool (by rw [dv_no1 HS.out, HM.out]; rfl), below_next HB1.out HB2.out⟩

set_option maxRecDepth 100000 in
set_option maxHeartbeats 4000000 in
theorem r_matches_star (N : Nat) (IH : MatC (N - 1)) (it : PItem) (its : List PItem) (rs : List Int) (S : Nat → Prop) (pv tv : Value) (w : World) (hN : (it :: its).length + rs.length ≤ N) (hp : RItemsAt S w pv (it :: its)) (ht : RunesAt S w tv rs) (hst : it.star = true) :
    Calls Tryd.prog 72 #[pv, tv] w fun e w' => e = .returned (.bool (dv PItem.star hasM (it :: its) rs)) ∧ Below w.heap.size w w' := by
  have HP := Lib.hid hp
  have HT := Lib.hid ht
  have HIH := Lib.hid IH
  obtain ⟨b, o, pc, c, rfl, hpc1, hpc2, ⟨rv, rfl, hrv⟩, hcj⟩ := seq_head RItemR.len hp
  have c0 := hcj 0 (by omega)
  have c1 := hcj 1 (by omega)
  have c2 := hcj 2 (by omega)
  simp only [Nat.add_zero, List.getElem?_cons_zero, List.getElem?_cons_succ] at c0 c1 c2
  obtain ⟨ra, rc, rfl⟩ : ∃ ra rc, rv = .slice ra it.ranges.length rc := by obtain ⟨_, ra, rc, h, _⟩ := hrv; exact ⟨ra, rc, h⟩
  have HRV0 := Lib.hid hrv
  clear IH hcj hrv
  unfold maxLen at hpc2
  simp only [List.length_cons] at hN
  have HS := Lib.hid hst
  rw [hst] at c0
  clear hst HRV0
  cases rs with
  | nil =>
    obtain ⟨ta, tc, rfl, -, -, -⟩ := ht.shape
    clear hp ht
    have HTN := Lib.hid (show RunesAt S w (.slice ta 0 tc) [] from HT.out)
    simp only [List.length_nil] at hN ⊢
    by_cases hp1 : pc = 1
    · subst hp1
      obtain ⟨rfl, hti⟩ := seq_tail1 HP.out
      have HTI := Lib.hid (show RItemsAt S w (.slice (some ⟨b, o, none⟩) 0 0) [] from hti)
      clear hti
      simp only [List.length_nil, Nat.zero_add] at hN hpc1 ⊢
      obtain ⟨its, hits⟩ : ∃ its : List PItem, its = [] := ⟨_, rfl⟩
      rw [← hits] at HTI ⊢
      have hN : its.length + 1 + 0 ≤ N := by rw [hits]; exact hN
      clear hits
      go_enter Tryd.func72, Tryd.ntmps72
      go_wp2_with fail
      (with_reducible refine (MatC.at HIH.out its [] S (.slice (some ⟨b, o, none⟩) 0 0) (.slice ta 0 tc) w (by simp only [List.length_nil] at hN ⊢; omega) HTI.out HTN.out).mono ?_)
      rintro e w1 ⟨rfl, hb1⟩
      have HB1 := Lib.hid hb1
      clear hb1
      cases hd : dv PItem.star hasM its []
      all_goals (
        have HD := Lib.hid hd
        clear hd
        go_wp2_with fail
        go_ret
        exact ⟨ret_bool (by rw [dv_st0 HS.out, HD.out]), HB1.out⟩)
    · have HTI := Lib.hid (show RItemsAt S w (.slice (some ⟨b, o + 3, none⟩) its.length (pc - 1)) its from seq_tail2 RItemR.len HP.out)
      have hp1' : (pc == 1) = false := by simpa using hp1
      go_enter Tryd.func72, Tryd.ntmps72
      go_wp2_with fail
      (with_reducible refine (MatC.at HIH.out its [] S (.slice (some ⟨b, o + 3, none⟩) its.length (pc - 1)) (.slice ta 0 tc) w (by simp only [List.length_nil] at hN ⊢; omega) HTI.out HTN.out).mono ?_)
      rintro e w1 ⟨rfl, hb1⟩
      have HB1 := Lib.hid hb1
      clear hb1
      cases hd : dv PItem.star hasM its []
      all_goals (
        have HD := Lib.hid hd
        clear hd
        go_wp2_with fail
        go_ret
        exact ⟨ret_bool (by rw [dv_st0 HS.out, HD.out]), HB1.out⟩)
  | cons r rs =>
    obtain ⟨tb, tq, tc, c', rfl, htc1, htc2, hc', hdj⟩ := seq_head RuneR.len (runes_seq ht)
    clear hp ht hdj hc'
    unfold maxLen at htc2
    have HTC := Lib.hid (show RunesAt S w (.slice (some ⟨tb, tq, none⟩) (rs.length + 1) tc) (r :: rs) from HT.out)
    simp only [List.length_cons] at hN
    have e0 : (0 : Int) < (rs.length : Int) + 1 := by omega
    by_cases hp1 : pc = 1
    · subst hp1
      obtain ⟨hnil, hti⟩ := seq_tail1 HP.out
      have HTI := Lib.hid (show RItemsAt S w (.slice (some ⟨b, o, none⟩) 0 0) its by rw [hnil]; exact hti)
      have hl0 : its.length = 0 := by rw [hnil]; rfl
      clear hti hnil
      rw [hl0] at hpc1 HP ⊢
      have hN : its.length + 1 + (rs.length + 1) ≤ N := hN
      clear hl0
      by_cases ht1 : tc = 1
      · subst ht1
        obtain ⟨hnil, htt⟩ := seq_tail1 (runes_seq HT.out)
        have HTT := Lib.hid (show RunesAt S w (.slice (some ⟨tb, tq, none⟩) 0 0) rs by rw [hnil]; exact seq_runes htt)
        have hl1 : rs.length = 0 := by rw [hnil]; rfl
        clear htt hnil
        rw [hl1] at HTC htc1 HT ⊢
        clear hl1 e0
        go_enter Tryd.func72, Tryd.ntmps72
        go_wp2_with fail
        (with_reducible refine (MatC.at HIH.out its (r :: rs) S (.slice (some ⟨b, o, none⟩) 0 0) _ w (by simp only [List.length_cons] at hN ⊢; omega) HTI.out HTC.out).mono ?_)
        rintro e w1 ⟨rfl, hb1⟩
        have HB1 := Lib.hid hb1
        cases hd : dv PItem.star hasM its (r :: rs)
        · have HD := Lib.hid hd
          have HP1 := Lib.hid (show RItemsAt S w1 _ (it :: its) from RItemsAt.below' HP.out hb1)
          have HT1 := Lib.hid (show RunesAt S w1 (.slice (some ⟨tb, tq, none⟩) 0 0) rs from RowAt.below HTT.out (by omega) hb1)
          clear hd hb1
          go_wp2_with fail
          (with_reducible refine (MatC.at HIH.out (it :: its) rs S _ (.slice (some ⟨tb, tq, none⟩) 0 0) w1 (by simp only [List.length_cons] at hN ⊢; omega) HP1.out HT1.out).mono ?_)
          rintro e w2 ⟨rfl, hb2⟩
          have HB2 := Lib.hid hb2
          clear hb2
          cases hd2 : dv PItem.star hasM (it :: its) rs
          all_goals (
            have HD2 := Lib.hid hd2
            clear hd2
            go_wp2_with fail
            go_ret
            exact ⟨ret_bool (by rw [dv_st1 HS.out, HD.out, HD2.out]; rfl), below_next HB1.out HB2.out⟩)
        · have HD := Lib.hid hd
          clear hd hb1
          go_wp2_with fail
          go_ret
          exact ⟨ret_bool (by rw [dv_st1 HS.out, HD.out]; rfl), HB1.out⟩
      · have HTT := Lib.hid (seq_runes (seq_tail2 RuneR.len (runes_seq HT.out)))
        have ht1' : (tc == 1) = false := by simpa using ht1
        go_enter Tryd.func72, Tryd.ntmps72
        go_wp2_with fail
        (with_reducible refine (MatC.at HIH.out its (r :: rs) S (.slice (some ⟨b, o, none⟩) 0 0) _ w (by simp only [List.length_cons] at hN ⊢; omega) HTI.out HTC.out).mono ?_)
        rintro e w1 ⟨rfl, hb1⟩
        have HB1 := Lib.hid hb1
        cases hd : dv PItem.star hasM its (r :: rs)
        · have HD := Lib.hid hd
          have HP1 := Lib.hid (show RItemsAt S w1 _ (it :: its) from RItemsAt.below' HP.out hb1)
          have HT1 := Lib.hid (show RunesAt S w1 (.slice (some ⟨tb, tq + 1, none⟩) rs.length (tc - 1)) rs from RowAt.below HTT.out (by omega) hb1)
          clear hd hb1
          go_wp2_with fail
          (with_reducible refine (MatC.at HIH.out (it :: its) rs S _ (.slice (some ⟨tb, tq + 1, none⟩) rs.length (tc - 1)) w1 (by simp only [List.length_cons] at hN ⊢; omega) HP1.out HT1.out).mono ?_)
          rintro e w2 ⟨rfl, hb2⟩
          have HB2 := Lib.hid hb2
          clear hb2
          cases hd2 : dv PItem.star hasM (it :: its) rs
          all_goals (
            have HD2 := Lib.hid hd2
            clear hd2
            go_wp2_with fail
            go_ret
            exact ⟨ret_bool (by rw [dv_st1 HS.out, HD.out, HD2.out]; rfl), below_next HB1.out HB2.out⟩)
        · have HD := Lib.hid hd
          clear hd hb1
          go_wp2_with fail
          go_ret
          exact ⟨ret_bool (by rw [dv_st1 HS.out, HD.out]; rfl), HB1.out⟩
    · have HTI := Lib.hid (show RItemsAt S w (.slice (some ⟨b, o + 3, none⟩) its.length (pc - 1)) its from seq_tail2 RItemR.len HP.out)
      have hp1' : (pc == 1) = false := by simpa using hp1
      by_cases ht1 : tc = 1
      · subst ht1
        obtain ⟨hnil, htt⟩ := seq_tail1 (runes_seq HT.out)
        have HTT := Lib.hid (show RunesAt S w (.slice (some ⟨tb, tq, none⟩) 0 0) rs by rw [hnil]; exact seq_runes htt)
        have hl1 : rs.length = 0 := by rw [hnil]; rfl
        clear htt hnil
        rw [hl1] at HTC htc1 HT ⊢
        clear hl1 e0
        go_enter Tryd.func72, Tryd.ntmps72
        go_wp2_with fail
        (with_reducible refine (MatC.at HIH.out its (r :: rs) S (.slice (some ⟨b, o + 3, none⟩) its.length (pc - 1)) _ w (by simp only [List.length_cons] at hN ⊢; omega) HTI.out HTC.out).mono ?_)
        rintro e w1 ⟨rfl, hb1⟩
        have HB1 := Lib.hid hb1
        cases hd : dv PItem.star hasM its (r :: rs)
        · have HD := Lib.hid hd
          have HP1 := Lib.hid (show RItemsAt S w1 _ (it :: its) from RItemsAt.below' HP.out hb1)
          have HT1 := Lib.hid (show RunesAt S w1 (.slice (some ⟨tb, tq, none⟩) 0 0) rs from RowAt.below HTT.out (by omega) hb1)
          clear hd hb1
          go_wp2_with fail
          (with_reducible refine (MatC.at HIH.out (it :: its) rs S _ (.slice (some ⟨tb, tq, none⟩) 0 0) w1 (by simp only [List.length_cons] at hN ⊢; omega) HP1.out HT1.out).mono ?_)
          rintro e w2 ⟨rfl, hb2⟩
          have HB2 := Lib.hid hb2
          clear hb2
          cases hd2 : dv PItem.star hasM (it :: its) rs
          all_goals (
            have HD2 := Lib.hid hd2
            clear hd2
            go_wp2_with fail
            go_ret
            exact ⟨ret_bool (by rw [dv_st1 HS.out, HD.out, HD2.out]; rfl), below_next HB1.out HB2.out⟩)
        · have HD := Lib.hid hd
          clear hd hb1
          go_wp2_with fail
          go_ret
          exact ⟨ret_bool (by rw [dv_st1 HS.out, HD.out]; rfl), HB1.out⟩
      · have HTT := Lib.hid (seq_runes (seq_tail2 RuneR.len (runes_seq HT.out)))
        have ht1' : (tc == 1) = false := by simpa using ht1
        go_enter Tryd.func72, Tryd.ntmps72
        go_wp2_with fail
        (with_reducible refine (MatC.at HIH.out its (r :: rs) S (.slice (some ⟨b, o + 3, none⟩) its.length (pc - 1)) _ w (by simp only [List.length_cons] at hN ⊢; omega) HTI.out HTC.out).mono ?_)
        rintro e w1 ⟨rfl, hb1⟩
        have HB1 := Lib.hid hb1
        cases hd : dv PItem.star hasM its (r :: rs)
        · have HD := Lib.hid hd
          have HP1 := Lib.hid (show RItemsAt S w1 _ (it :: its) from RItemsAt.below' HP.out hb1)
          have HT1 := Lib.hid (show RunesAt S w1 (.slice (some ⟨tb, tq + 1, none⟩) rs.length (tc - 1)) rs from RowAt.below HTT.out (by omega) hb1)
          clear hd hb1
          go_wp2_with fail
          (with_reducible refine (MatC.at HIH.out (it :: its) rs S _ (.slice (some ⟨tb, tq + 1, none⟩) rs.length (tc - 1)) w1 (by simp only [List.length_cons] at hN ⊢; omega) HP1.out HT1.out).mono ?_)
          rintro e w2 ⟨rfl, hb2⟩
          have HB2 := Lib.hid hb2
          clear hb2
          cases hd2 : dv PItem.star hasM (it :: its) rs
          all_goals (
            have HD2 := Lib.hid hd2
            clear hd2
            go_wp2_with fail
            go_ret
            exact ⟨ret_bool (by rw [dv_st1 HS.out, HD.out, HD2.out]; rfl), below_next HB1.out HB2.out⟩)
        · have HD := Lib.hid hd
          clear hd hb1
          go_wp2_with fail
          go_ret
          exact ⟨ret_bool (by rw [dv_st1 HS.out, HD.out]; rfl), HB1.out⟩


set_option maxHeartbeats 400000 in
theorem r_matches_nil (rs : List Int) (S : Nat → Prop) (pv tv : Value) (w : World) (hp : RItemsAt S w pv []) (ht : RunesAt S w tv rs) :
    Calls Tryd.prog 72 #[pv, tv] w fun e w' => e = .returned (.bool (dv PItem.star hasM [] rs)) ∧ Below w.heap.size w w' := by
  obtain ⟨pa, pc, rfl, -, -, -⟩ := SeqAt.shape hp RItemR.len
  obtain ⟨ta, tc, rfl, -, -, -⟩ := ht.shape
  clear hp ht
  simp only [List.length_nil]
  go_enter Tryd.func72, Tryd.ntmps72
  go_wp2_with fail
  go_ret
  refine ⟨ret_bool ?_, Below.refl _ _⟩
  rw [Bool.eq_iff_iff]
  simp [dv]
theorem r_matches_any : ∀ N, MatC N
  | 0 => fun its rs S pv tv w hN hp ht => by
    have : its = [] := List.eq_nil_of_length_eq_zero (by omega)
    subst this
    exact r_matches_nil rs S pv tv w hp ht
  | N + 1 => fun its rs S pv tv w hN hp ht => by
    cases its with
    | nil => exact r_matches_nil rs S pv tv w hp ht
    | cons it its =>
      cases hst : it.star
      · exact r_matches_set (N + 1) (r_matches_any N) it its rs S pv tv w hN hp ht hst
      · exact r_matches_star (N + 1) (r_matches_any N) it its rs S pv tv w hN hp ht hst

end Go.Proofs.YtlipekkiaiaplaaDoor
