/- LivenessNeeds: for every input the law returns true, and each argument reads afterwards as it read before (the tied card). -/
import Derived.Test.YtndgmcggckpgfaaGreatDoorMG
/- How many lists hold a reference: what Counts counts (plain). -/
namespace Go.Proofs.YtndgmcggckpgfaaGreatDoor
open Go.RowKit

def cntP (ls : List (List Ref)) (r : Ref) : Nat := (ls.filter fun l => decide (r ∈ l)).length
theorem cntP_snoc (ls : List (List Ref)) (l : List Ref) (r : Ref) : cntP (ls ++ [l]) r = cntP ls r + if r ∈ l then 1 else 0 := by
  unfold cntP
  rw [List.filter_append, List.length_append]
  by_cases h : r ∈ l <;> simp [h]
theorem cntP_le (ls : List (List Ref)) (r : Ref) : cntP ls r ≤ ls.length := List.length_filter_le _ _
theorem map_keys {f : Ref → Int} : ∀ (U : List Ref), (U.map fun x => (x, f x)).map Prod.fst = U
  | [] => rfl
  | x :: U => by rw [List.map_cons, List.map_cons, map_keys U]
theorem nodup_at {U : List Ref} (h : U.Nodup) {r : Ref} {j : Nat} (hj : U[j]? = some r) : U.idxOf r = j := by
  obtain ⟨hj1, rfl⟩ := List.getElem?_eq_some_iff.1 hj
  exact h.idxOf_getElem j hj1
theorem bumpP_map {f : Ref → Int} {U : List Ref} (hn : U.Nodup) (r : Ref) (h0 : r ∉ U → f r = 0) (hs : wrap64 (f r + 1) = f r + 1) : bumpP r (U.map fun x => (x, f x)) = (mentionP r U).map fun x => (x, f x + if x = r then 1 else 0) := by
  unfold bumpP mentionP
  rw [map_keys]
  by_cases hm : r ∈ U
  · rw [if_pos hm, if_pos hm]
    apply List.ext_getElem?
    intro j
    rw [List.getElem?_modify, List.getElem?_map, List.getElem?_map]
    cases hj : U[j]? with
    | none => simp
    | some x =>
      simp only [Option.map_some, Option.map_eq_map]
      by_cases e : U.idxOf r = j
      · rw [if_pos e]
        have hx : x = r := by
          have h1 := List.getElem_idxOf (List.idxOf_lt_length_iff.2 hm)
          rw [List.getElem?_eq_some_iff] at hj
          obtain ⟨hj1, hj2⟩ := hj
          subst e
          rw [← hj2]; exact h1
        subst hx
        simp [incP, hs]
      · rw [if_neg e]
        have hx : ¬ x = r := fun h => e (by subst h; exact nodup_at hn hj)
        simp [hx]
  · rw [if_neg hm, if_neg hm, List.map_append]
    congr 1
    · apply List.map_congr_left
      intro x hx
      have : ¬ x = r := fun h => hm (h ▸ hx)
      simp [this]
    · simp [h0 hm]
theorem bumpAll_map : ∀ {l U : List Ref} {f : Ref → Int}, l.Nodup → U.Nodup → (∀ r, r ∉ U → f r = 0) → (∀ r ∈ l, wrap64 (f r + 1) = f r + 1) → bumpAll l (U.map fun x => (x, f x)) = (menAll l U).map fun x => (x, f x + if x ∈ l then 1 else 0)
  | [], U, f, _, _, _, _ => by simp [bumpAll, menAll]
  | r :: l, U, f, hl, hn, h0, hs => by
    obtain ⟨hr, hl2⟩ := List.nodup_cons.1 hl
    show bumpAll l (bumpP r (U.map fun x => (x, f x))) = (menAll l (mentionP r U)).map _
    rw [bumpP_map hn r (h0 r) (hs r (by simp)), bumpAll_map hl2 (mentionP_nodup hn) (fun x hx => ?_) (fun x hx => ?_)]
    · apply List.map_congr_left
      intro x _
      by_cases e : x = r
      · subst e; simp [hr]
      · simp [e]
    · rw [mentionP_mem] at hx
      rw [h0 x (fun h => hx (.inl h)), if_neg (fun h => hx (.inr h))]; rfl
    · have hxr : ¬ x = r := fun e => hr (e ▸ hx)
      rw [if_neg hxr, Int.add_zero]
      exact hs x (by simp [hx])
theorem countP_map : ∀ {ls : List (List Ref)}, (∀ l ∈ ls, l.Nodup) → ls.length < 4611686018427387904 → countP ls = (unionP ls).map fun x => (x, (cntP ls x : Int)) := by
  intro ls
  generalize hk : ls.length = k
  induction k generalizing ls with
  | zero =>
    intro _ _
    have : ls = [] := List.eq_nil_of_length_eq_zero hk
    subst this; rfl
  | succ k ih =>
    intro hn hlt
    have hne : ls ≠ [] := fun e => by subst e; simp at hk
    obtain ⟨ls', l, rfl⟩ : ∃ ls' l, ls = ls' ++ [l] := ⟨ls.dropLast, ls.getLast hne, (List.dropLast_concat_getLast hne).symm⟩
    have hk2 : ls'.length = k := by simp at hk; exact hk
    rw [countP_snoc, ih hk2 (fun x hx => hn x (by simp [hx])) (by omega), unionP_snoc, bumpAll_map (hn l (by simp)) (unionP_nodup ls') (fun r hr => ?_) (fun r _ => ?_)]
    · apply List.map_congr_left
      intro x _
      rw [cntP_snoc]
      by_cases h : x ∈ l <;> simp [h]
    · have : cntP ls' r = 0 := by
        unfold cntP
        rw [List.length_eq_zero_iff, List.filter_eq_nil_iff]
        intro l' hl' h
        simp only [decide_eq_true_eq] at h
        exact hr (unionP_mem.2 ⟨l', hl', h⟩)
      rw [this]; rfl
    · have := cntP_le ls' r
      unfold wrap64; omega

end Go.Proofs.YtndgmcggckpgfaaGreatDoor

/- The law LivenessNeeds: its walk. -/
namespace Go.Proofs.YtndgmcggckpgfaaGreatDoor
open Go.RowKit



theorem UsesAt.below {S : Nat → Prop} {w w' : World} {v : Value} {us : List (Ref × Int)} (h : UsesAt S w v us) (hb : Below w.heap.size w w') : UsesAt S w' v us := SeqAt.below h (by omega) hb (fun _ _ _ h => h)
theorem cnt_take {ls : List (List Ref)} {k : Nat} {l : List Ref} (h : ls[k]? = some l) (r : Ref) : cntP (ls.take (k + 1)) r = cntP (ls.take k) r + if r ∈ l then 1 else 0 := by
  rw [take_snoc' h, cntP_snoc]
set_option maxRecDepth 100000 in
set_option maxHeartbeats 4000000 in
theorem needs_walk (sv cv : Value) (roots : List Ref) (cs : List (ByteArray × List UInt8)) (w : World) (he : Env w) (hs : SnapsAt (fun _ => True) w sv roots) (hc : ContIn (fun _ => True) w cv cs) :
    Calls Tryz.prog 4 #[sv, cv] w fun e w' => e = .returned (.bool true) ∧ Below w.heap.size w w' := by
  have HRK := Lib.hid hs.ok
  obtain ⟨sa, sc, rfl, hsc, hsm, -⟩ := SeqAt.shape hs SnapR.len
  have HSC := Lib.hid (And.intro hsc hsm)
  unfold maxLen at hsm
  obtain ⟨cm, rfl⟩ := cont_map hc
  have HL := Lib.hid (show LCtx w w (.slice sa roots.length sc) (.map cm) roots cs from ⟨he, hs, hc, Below.refl _ _⟩)
  clear he hs hc
  go_enter Tryz.func4, Tryz.ntmps4
  go_wp2_with fail
  have hb := (Below.refl w.heap.size w).alloc (Nat.le_refl _) (.cells #[.slice sa roots.length sc] 22)
  have HLq := Lib.hid (HL.out.next hb)
  clear HL
  have HL := HLq
  clear HLq
  refine (few_any _ _ _ _ cs [roots.length] _ HL.out.cont (lens_one HSC.out.1 HSC.out.2)).mono ?_
  clear hb
  rintro e w1 ⟨fb, rfl, hb, hfew⟩
  have HLq := Lib.hid (HL.out.next hb)
  clear HL
  have HL := HLq
  clear HLq
  clear hb
  cases fb
  · clear hfew
    go_wp2_with fail
    refine (awake48_any _ HL.out.env).mono ?_
    rintro e wz ⟨rfl, hbz⟩
    have HLZ := Lib.hid (HL.out.next hbz)
    clear hbz
    go_wp2_with fail
    go_ret
    exact ⟨rfl, HLZ.out.below⟩
  · obtain ⟨h6, h80⟩ := hfew rfl
    have h6' : roots.length ≤ 6 := h6 _ (by simp)
    have HN := Lib.hid (needF_ok h80)
    have HRF := Lib.hid (refsOf_needF h80)
    clear hfew h6 h80
    go_wp2_with fail
    refine (Needed_any cs _ HN.out _ _ _ _ roots _ HL.out.snaps HL.out.cont.at HL.out.env (by omega)).mono ?_
    rintro e w2 ⟨hb, hres⟩
    have HLq := Lib.hid (HL.out.next hb)
    clear HL
    have HL := HLq
    clear HLq
    cases hea : eachP (needF cs) roots with
    | error x =>
      rw [hea] at hres
      obtain ⟨rfl, hx⟩ := hres
      have e1 : (x != 0) = true := by simp [hx]
      have HEA := Lib.hid hea
      clear hea hx hb
      go_wp2_with fail
      refine (Counts_any cs _ HN.out _ _ _ _ roots _ HL.out.snaps HL.out.cont.at HL.out.env (by omega)).mono ?_
      rintro e w3 ⟨hb, hres⟩
      have HLq := Lib.hid (HL.out.next hb)
      clear HL
      have HL := HLq
      clear HLq
      rw [HEA.out] at hres
      obtain ⟨rfl, -⟩ := hres
      clear hb
      go_wp2_with fail
      refine (each48_any cs _ HRF.out _ _ _ _ roots _ HL.out.snaps HL.out.cont.at HL.out.env (by omega)).mono ?_
      rintro e w4 ⟨hb, hres⟩
      have HLq := Lib.hid (HL.out.next hb)
      clear HL
      have HL := HLq
      clear HLq
      rw [HEA.out] at hres
      obtain ⟨rfl, -⟩ := hres
      clear hb
      go_wp2_with fail
      refine (union48_any (fun _ => True) _ [] _ SeqAt.nil (by simp) (by simp)).mono ?_
      rintro e w5 ⟨uv, rfl, huv, hb⟩
      have HLq := Lib.hid (HL.out.next hb)
      clear HL
      have HL := HLq
      clear HLq
      have huv2 : RefsAt (w4.heap.size ≤ ·) w5 uv [] := huv
      have HU := Lib.hid huv2
      obtain ⟨ua, uc, rfl, -, -, -⟩ := SeqAt.shape huv2 RefR.len
      clear hb huv huv2
      go_wp2_with fail
      refine (sameRefs_is (fun _ => True) _ _ _ [] [] true _ SeqAt.nil HU.out (by simp)).mono ?_
      rintro e w6 ⟨rfl, hb⟩
      have HLq := Lib.hid (HL.out.next hb)
      clear HL
      have HL := HLq
      clear HLq
      clear hb
      go_wp2_with fail
      go_loopw [12] (fun i wr => i = .int .i64 0 ∧ wr = w6) (fun _ _ => 0)
      case atStart => exact ⟨rfl, rfl⟩
      case round =>
        obtain ⟨rfl, rfl⟩ := hrel
        go_wp2_with fail
        refine (awake48_any _ HL.out.env).mono ?_
        rintro e wz ⟨rfl, hbz⟩
        have HLZ := Lib.hid (HL.out.next hbz)
        clear hbz
        go_wp2_with fail
        go_ret
        exact ⟨rfl, HLZ.out.below⟩
    | ok ls =>
      rw [hea] at hres
      obtain ⟨lv, rfl, hlv⟩ := hres
      have HEA := Lib.hid hea
      obtain ⟨all, hall⟩ : ∃ all, all = unionP ls := ⟨_, rfl⟩
      have hlv2 : RefsAt (w1.heap.size ≤ ·) w2 lv all := by rw [hall]; exact hlv
      have HG := Lib.hid hlv2
      obtain ⟨ga, gc, rfl, -, -, -⟩ := SeqAt.shape hlv2 RefR.len
      have HALL := Lib.hid hall
      have HLS := Lib.hid (eachP_le HN.out HRK.out hea)
      have hlen : ls.length ≤ 6 := by rw [eachP_len hea]; omega
      have HCP := Lib.hid (show countP ls = all.map fun x => (x, (cntP ls x : Int)) by
        rw [hall]
        refine countP_map (fun l hl => ?_) (by omega)
        obtain ⟨r, hr1, hr2⟩ := eachP_mem hea l hl
        exact needF_nd hr2)
      clear hea hlv hlv2 hall hb
      go_wp2_with fail
      refine (Counts_any cs _ HN.out _ _ _ _ roots _ HL.out.snaps HL.out.cont.at HL.out.env (by omega)).mono ?_
      rintro e w3 ⟨hb, hres⟩
      have HLq := Lib.hid (HL.out.next hb)
      clear HL
      have HL := HLq
      clear HLq
      have HQq := Lib.hid (show RefsAt _ w3 _ _ from SeqAt.below HG.out (by omega) hb (fun _ _ _ h => h))
      clear HG
      have HG := HQq
      clear HQq
      rw [HEA.out] at hres
      obtain ⟨uv, rfl, huv⟩ := hres
      obtain ⟨us, hus⟩ : ∃ us, us = countP ls := ⟨_, rfl⟩
      have huv2 : UsesAt (w2.heap.size ≤ ·) w3 uv us := by rw [hus]; exact huv
      have HU := Lib.hid huv2
      obtain ⟨ua, uc, rfl, huc, hum, -⟩ := SeqAt.shape huv2 UseR.len
      unfold maxLen at hum
      have HUS := Lib.hid (hus.trans HCP.out)
      clear hb huv huv2 hus
      go_wp2_with fail
      refine (each48_any cs _ HRF.out _ _ _ _ roots _ HL.out.snaps HL.out.cont.at HL.out.env (by omega)).mono ?_
      rintro e w4 ⟨hb, hres⟩
      have HLq := Lib.hid (HL.out.next hb)
      clear HL
      have HL := HLq
      clear HLq
      have HQq := Lib.hid (show RefsAt _ w4 _ _ from SeqAt.below HG.out (by omega) hb (fun _ _ _ h => h))
      clear HG
      have HG := HQq
      clear HQq
      have HQq := Lib.hid (UsesAt.below HU.out hb)
      clear HU
      have HU := HQq
      clear HQq
      rw [HEA.out] at hres
      obtain ⟨va, rfl, hva⟩ := hres
      have HVA := Lib.hid hva
      obtain ⟨a1, c1, rfl, hac1, hac2, -⟩ := SeqAt.shape hva ListR.len
      unfold maxLen at hac2
      clear hb hva
      go_wp2_with fail
      refine (union48_any _ _ ls _ HVA.out (by omega) HLS.out).mono ?_
      rintro e w5 ⟨nv, rfl, hnv, hb⟩
      have HLq := Lib.hid (HL.out.next hb)
      clear HL
      have HL := HLq
      clear HLq
      have HQq := Lib.hid (show RefsAt _ w5 _ _ from SeqAt.below HG.out (by omega) hb (fun _ _ _ h => h))
      clear HG
      have HG := HQq
      clear HQq
      have HQq := Lib.hid (UsesAt.below HU.out hb)
      clear HU
      have HU := HQq
      clear HQq
      have HQq := Lib.hid (ListsAt.below HVA.out hb)
      clear HVA
      have HVA := HQq
      clear HQq
      have hnv2 : RefsAt (w4.heap.size ≤ ·) w5 nv all := by rw [HALL.out]; exact hnv
      have HNV := Lib.hid hnv2
      obtain ⟨na, nc, rfl, hnc, hnm, -⟩ := SeqAt.shape hnv2 RefR.len
      unfold maxLen at hnm
      clear hb hnv hnv2
      go_wp2_with fail
      refine (sameRefs_is _ _ _ _ all all true _ HG.out HNV.out (by simp)).mono ?_
      rintro e w6 ⟨rfl, hb⟩
      have HLq := Lib.hid (HL.out.next hb)
      clear HL
      have HL := HLq
      clear HLq
      have HQq := Lib.hid (show RefsAt _ w6 _ _ from SeqAt.below HNV.out (by omega) hb (fun _ _ _ h => h))
      clear HNV
      have HNV := HQq
      clear HQq
      have HQq := Lib.hid (UsesAt.below HU.out hb)
      clear HU
      have HU := HQq
      clear HQq
      have HQq := Lib.hid (ListsAt.below HVA.out hb)
      clear HVA
      have HVA := HQq
      clear HQq
      have e1 : ((us.length : Int) != (all.length : Int)) = false := by rw [HUS.out]; simp
      clear hb HG
      go_wp2_with fail
      clear e1
      go_loopw [12] (fun i wr => ∃ k : Nat, k ≤ all.length ∧ i = .int .i64 k ∧ Below w6.heap.size w6 wr) (fun i _ => all.length - (intOf i).toNat)
      case atStart => exact ⟨0, Nat.zero_le _, rfl, Below.refl _ _⟩
      case round =>
        obtain ⟨k, hk, rfl, hbr⟩ := hrel
        have HBR := Lib.hid hbr
        clear hbr
        by_cases hlt : k < all.length
        · obtain ⟨r, hr⟩ : ∃ r, all[k]? = some r := ⟨all[k], by simp [hlt]⟩
          have HR := Lib.hid hr
          have HRO := Lib.hid (show RefOk r from by obtain ⟨_, _, _, h, _⟩ := refs_at HNV.out HBR.out hr; exact h)
          clear hr
          go_wp2_with fail
          obtain ⟨wo, hwo⟩ : ∃ wo : World, wo = wr := ⟨_, rfl⟩
          subst hwo
          go_loopw [13, 14] (fun n j wq => ∃ m : Nat, m ≤ ls.length ∧ j = .int .i64 m ∧ n = .int .i64 (cntP (ls.take m) r : Int) ∧ Below w6.heap.size w6 wq) (fun _ j _ => ls.length - (intOf j).toNat)
          case atStart => exact ⟨0, Nat.zero_le _, rfl, rfl, HBR.out⟩
          case round =>
            obtain ⟨m, hm, rfl, rfl, hbq⟩ := hrel
            have HBQ := Lib.hid hbq
            have hcl := cntP_le (ls.take m) r
            rw [List.length_take] at hcl
            clear hbq
            by_cases hlt2 : m < ls.length
            · obtain ⟨l, hl⟩ : ∃ l, ls[m]? = some l := ⟨ls[m], by simp [hlt2]⟩
              have HSN := Lib.hid (cnt_take hl r)
              obtain ⟨W, hW⟩ : ∃ W : World, W = wr.drew := ⟨_, rfl⟩
              have HBW := Lib.hid (show Below w6.heap.size w6 W by rw [hW]; exact HBQ.out.drew)
              obtain ⟨b, o, ca, cc, rfl, q0, hrf⟩ := lists_at HVA.out HBW.out hl
              have HRFL := Lib.hid hrf
              obtain ⟨b2, o2, rfl, -, p0, p1, p2⟩ := refs_at HNV.out HBW.out HR.out
              clear hl hrf
              by_cases hmem : r ∈ l
              · have HM := Lib.hid (show decide (r ∈ l) = true by simp [hmem])
                have HSN2 := Lib.hid (HSN.out.trans (by rw [if_pos hmem]))
                clear hmem
                go_wp2_with fail
                refine wp_region_segs [some 8, none] (by kernel_rfl) (by kernel_rfl) (by kernel_rfl) ?_
                simp only [wpSegs, List.take_succ_cons, List.take_zero, List.drop_succ_cons, List.drop_zero]
                rw [← hW]
                clear hW
                repeat (first | (refine seg_skip rfl ?_; simp only [Act.put, List.setIfInBounds_toArray, List.set_cons_succ, List.set_cons_zero]) | (refine seg_run rfl (fun K hK => ?_); go_simp; refine hK _ ?_; clear hK K))
                refine seg_nil ?_
                refine bar_run rfl (fun K hK => ?_)
                go_wp2_with (go_at_call 17; refine (has24_is _ _ l r true _ HRFL.out HRO.out HM.out).mono ?_; rintro e w7 ⟨rfl, hb⟩)
                have HB7 := Lib.hid (below_next HBW.out hb)
                clear hb q0 p0 p1 p2
                go_wp2_with fail
                go_roundw
                case rel => exact ⟨m + 1, by omega, by go_num, by rw [HSN2.out]; go_num, HB7.out⟩
                case measure => simp [intOf]; omega
              · have HM := Lib.hid (show decide (r ∈ l) = false by simp [hmem])
                have HSN2 := Lib.hid (HSN.out.trans (by rw [if_neg hmem, Nat.add_zero]))
                clear hmem
                go_wp2_with fail
                refine wp_region_segs [some 8, none] (by kernel_rfl) (by kernel_rfl) (by kernel_rfl) ?_
                simp only [wpSegs, List.take_succ_cons, List.take_zero, List.drop_succ_cons, List.drop_zero]
                rw [← hW]
                clear hW
                repeat (first | (refine seg_skip rfl ?_; simp only [Act.put, List.setIfInBounds_toArray, List.set_cons_succ, List.set_cons_zero]) | (refine seg_run rfl (fun K hK => ?_); go_simp; refine hK _ ?_; clear hK K))
                refine seg_nil ?_
                refine bar_run rfl (fun K hK => ?_)
                go_wp2_with (go_at_call 17; refine (has24_is _ _ l r false _ HRFL.out HRO.out HM.out).mono ?_; rintro e w7 ⟨rfl, hb⟩)
                have HB7 := Lib.hid (below_next HBW.out hb)
                clear hb q0 p0 p1 p2
                go_wp2_with fail
                go_roundw
                case rel => exact ⟨m + 1, by omega, by go_num, by rw [HSN2.out], HB7.out⟩
                case measure => simp [intOf]; omega
            · obtain rfl : m = ls.length := by omega
              have HTK := Lib.hid (show cntP (ls.take ls.length) r = cntP ls r by rw [List.take_of_length_le (Nat.le_refl _)])
              rw [HTK.out]
              obtain ⟨n, hn⟩ : ∃ n : Int, n = (cntP ls r : Int) := ⟨_, rfl⟩
              rw [← hn]
              have HUK := Lib.hid (show us[k]? = some (r, n) by rw [HUS.out, List.getElem?_map, HR.out, hn]; rfl)
              have hul : k < us.length := (List.getElem?_eq_some_iff.1 HUK.out).1
              obtain ⟨W, hW⟩ : ∃ W : World, W = wr.drew := ⟨_, rfl⟩
              have HBW := Lib.hid (show Below w6.heap.size w6 W by rw [hW]; exact HBQ.out.drew)
              obtain ⟨b, o, rfl, -, hu3⟩ := uses_at HU.out HBW.out HUK.out
              have z0 := hu3 0 (by omega)
              have z1 := hu3 1 (by omega)
              have z2 := hu3 2 (by omega)
              have z3 := hu3 3 (by omega)
              simp only [useC, List.getElem?_cons_zero, List.getElem?_cons_succ, Nat.add_zero] at z0 z1 z2 z3
              obtain ⟨b2, o2, rfl, -, p0, p1, p2⟩ := refs_at HNV.out HBW.out HR.out
              have heq : ∀ w, (Op.equalIn 10000 45 (.agg #[.string r.name, .int .i64 r.gen, .int .i64 r.size, .int .i64 n]) (.agg #[.string r.name, .int .i64 r.gen, .int .i64 r.size, .int .i64 n])).run Tryz.prog w = .ok true w := fun w => by
                have h1 := eqUse (r, n) (r, n) w
                simpa [useV] using h1
              clear hu3 hn
              go_wp2_with fail
              refine wp_region_segs [some 11] (by kernel_rfl) (by kernel_rfl) (by kernel_rfl) ?_
              simp only [wpSegs, List.take_succ_cons, List.take_zero]
              rw [← hW]
              clear hW
              repeat (first | (refine seg_skip rfl ?_; simp only [Act.put, List.setIfInBounds_toArray, List.set_cons_succ, List.set_cons_zero]) | (refine seg_run rfl (fun K hK => ?_); go_simp; refine hK _ ?_; clear hK K))
              refine seg_nil ?_
              go_wp2_with fail
              go_roundw
              case rel => exact ⟨k + 1, by omega, by go_num, HBW.out⟩
              case measure => simp [intOf]; omega
        · obtain rfl : k = all.length := by omega
          have hb := HBR.out
          have HLq := Lib.hid (HL.out.next hb)
          clear HL
          have HL := HLq
          clear HLq
          clear hb
          go_wp2_with fail
          refine (awake48_any _ HL.out.env).mono ?_
          rintro e wz ⟨rfl, hbz⟩
          have HLZ := Lib.hid (HL.out.next hbz)
          clear hbz
          go_wp2_with fail
          go_ret
          exact ⟨rfl, HLZ.out.below⟩

end Go.Proofs.YtndgmcggckpgfaaGreatDoor

/- LivenessNeeds: for every input the law returns true, and each argument reads afterwards as it read before (the tied card). -/
namespace Go.Proofs.YtndgmcggckpgfaaGreatDoor
open Go.ChangeShapes Go.WideShapes Go.ChangeAt Go.RowKit Go.Lib Go.Shelf
open Go.ChangeMaps (open_string shut_string)

namespace CNeeds
set_option maxRecDepth 100000 in
theorem lifted (os : Os) (started : os.Started) (H : Type) (enc : TypeId × Value → H) :
    ReturnsInHanded {} Tryz.checked os 4 .any (fun w args => (Rows.livenessNeedsSpec.pre enc Tryz.prog Tryz.f4 [] false w args ∧ laidMetH Tryz.prog laidL w) ∧ sizedMet enc Tryz.prog Tryz.f4 (OpenSpec.ofChange Rows.livenessNeedsSpec) false w args)
      (Rows.livenessNeedsSpec.post enc Tryz.prog Tryz.f4 false true false false) := by
  refine handed (C := Tryz.checked) (X := fun w _ => laidMetH Tryz.prog laidL w) (fun _ _ _ hh h => h.of_heap hh) own started (by kernel_rfl) Tryz.func4
    (ChangeSpec.witness_shaped (enc := enc) (C := Tryz.checked) (os := os) (X := fun w _ => laidMetH Tryz.prog laidL w) false (World.laidAll Tryz.prog os laidL) #[.slice none 0 0, .map none] 8 (World.laidAll_os _ _ _)
      (World.shaped_of_ZipB (by kernel_rfl) (by kernel_rfl)) (by kernel_rfl) (by kernel_rfl) (by kernel_rfl)
      (by rw [MakeChecks.laidMetH_plain _ _ _ (by kernel_rfl)]; exact laidMet_laidAll _ (by kernel_rfl) (by kernel_rfl))) ?_
  intro W base args ds gs before hval0 hW _hWt hL hsh
  have hval : ∀ (j : Nat) t v, Tryz.f4.params[j]? = some t → args[j]? = some v → Value.okWide Tryz.prog W .any base t v := hval0
  have hW' := hW
  obtain ⟨p, q, hA0, hV, rfl, _, _⟩ := hW
  have hA : DataW.TrodAll enc Tryz.prog W 0 (fun _ => true) true Tryz.f4.params.toList args.toList ds p := hA0
  rw [Tryz.params4] at hA hval
  obtain ⟨rfl, rfl⟩ := trodVars_none hV
  simp only [List.append_nil] at hW'
  obtain ⟨v0, v1, d0, d1, p0, p1, rfl, rfl, rfl, h0, h1⟩ := trodAll_two hA
  obtain ⟨rs0, hrs0⟩ := open_snaps (hval 0 22 v0 rfl rfl) h0
  obtain ⟨cs1, hcs1⟩ := open_cont (hval 1 23 v1 rfl rfl) h1
  have hlt0 : ∀ x ∈ p0, x.block < W.heap.size := fun x hx => by simpa using hW'.lt x (by simp [hx])
  have hlt1 : ∀ x ∈ p1, x.block < W.heap.size := fun x hx => by simpa using hW'.lt x (by simp [hx])
  refine (needs_walk v0 v1 rs0 cs1 W (env_of hL hsh) hrs0 hcs1).mono fun e W' ⟨he, hb⟩ => ?_
  subst he
  exact ⟨_, rfl, _, _, _, [], _, [], hW', trodAll_mk1 (shut_bool Tryz.underlying4 _), trodAll_mk2 (Below.trod laidOut (by kernel_rfl) (of_decide_eq_true (by kernel_rfl)) h0 hb hlt0) (Below.trod laidOut (by kernel_rfl) (of_decide_eq_true (by kernel_rfl)) h1 hb hlt1), rfl, hb.frame _, fun h => by cases h⟩
theorem holds : Rows.LivenessNeedsSaid :=
  OpenClaim.holds_of_wide 4 Tryz.f4 rfl rfl rfl rfl rfl rfl rfl ⟨rfl, rfl, rfl, rfl, rfl⟩ rfl rfl rfl rfl rfl (by kernel_rfl) Tryz.func4 (by kernel_rfl)
    (of_decide_eq_true (by kernel_rfl)) (by unfold Func.isWrapper; first | (rw [if_pos (by decide +kernel)]; kernel_rfl) | (rw [if_neg (by decide +kernel)]; exact ⟨rfl, rfl⟩))
    (fun os started H enc _ => lifted os started H enc)
theorem card_holds : Rows.LivenessNeedsCardSaid :=
  Claim7.holds_tied_plain_at .later [] [.data, .pinned] true (true, "8763d9110891523682653750762d1a7552683129e318fb1c4c0f53c8f9932086") false holds (fun _ h => by cases h) (by kernel_rfl) (fun _ h => by cases h) livenessNeeds_row_tie rfl ⟨rfl, rfl⟩ (by kernel_rfl) rfl
    (fun f fn hf hfn => by
      obtain rfl : f = 4 := Option.some.inj ((show Tryz.prog.funcNamed "kinkeep/kinkeeplaw48.LivenessNeeds" = some 4 by kernel_rfl).symm.trans hf) |>.symm
      obtain rfl : fn = Tryz.f4 := (Option.some.inj (Tryz.func4.symm.trans hfn)).symm
      exact ⟨by kernel_rfl, fun j t ht => by
        rw [Tryz.params4] at ht
        have hm : t ∈ [22, 23] := by simpa using Array.mem_of_getElem? ht
        have hall : ([22, 23].all fun u => !Tryz.prog.wantsStandIn u) = true := by kernel_rfl
        exact (show Tryz.prog.wantsStandIn t = false by simpa using List.all_eq_true.1 hall t hm)⟩)
    (by kernel_rfl)
#print axioms card_holds
end CNeeds
theorem livenessNeeds_card : Rows.LivenessNeedsCardSaid := CNeeds.card_holds
end Go.Proofs.YtndgmcggckpgfaaGreatDoor
