/- TreediffMerges: for every input the law returns true, and each argument reads afterwards as it read before (the tied card). -/
import Derived.Test.YtdieneaillkbgaaGreatDoorCMergesG
/- The reference kinkeepref23: add. -/
namespace Go.Proofs.YtdieneaillkbgaaGreatDoor
open Go Go.RowKit Go.Maps
/-- A path put into an ascending list, once. -/
def addS (L : List ByteArray) (p : ByteArray) : List ByteArray := if (L.dropWhile fun x => decide (cmpL (bl x) (bl p) < 0)).head? = some p then L else (L.takeWhile fun x => decide (cmpL (bl x) (bl p) < 0)) ++ p :: L.dropWhile fun x => decide (cmpL (bl x) (bl p) < 0)
theorem while_at {α : Type} {P : α → Bool} {L : List α} {j : Nat} (h : ∀ f ∈ L.take j, P f = true) (hs : L.length ≤ j ∨ ∃ f, L[j]? = some f ∧ ¬ P f = true) : L.takeWhile P = L.take j ∧ L.dropWhile P = L.drop j := by
  have h1 : (L.drop j).takeWhile P = [] ∧ (L.drop j).dropWhile P = L.drop j := by
    rcases hs with hs | ⟨f, hf, hc⟩
    · rw [List.drop_eq_nil_of_le hs]; exact ⟨rfl, rfl⟩
    · obtain ⟨hl, rfl⟩ := List.getElem?_eq_some_iff.1 hf
      rw [List.drop_eq_getElem_cons hl]
      exact ⟨List.takeWhile_cons_of_neg hc, List.dropWhile_cons_of_neg hc⟩
  constructor
  · rw [← List.take_append_drop j L, List.takeWhile_append_of_pos h, List.take_append_drop, h1.1, List.append_nil]
  · rw [← List.take_append_drop j L, List.dropWhile_append_of_pos h, List.take_append_drop, h1.2]
theorem addS_at {L : List ByteArray} {p : ByteArray} {j : Nat} (h : ∀ f ∈ L.take j, cmpL (bl f) (bl p) < 0) (hs : L.length ≤ j ∨ ∃ f, L[j]? = some f ∧ ¬ cmpL (bl f) (bl p) < 0) (hp : L[j]? ≠ some p) : addS L p = L.take j ++ [p] ++ L.drop j := by
  have h1 := while_at (P := fun x => decide (cmpL (bl x) (bl p) < 0)) (L := L) (j := j) (fun f hf => by simpa using h f hf) (hs.imp id fun ⟨f, hf, hc⟩ => ⟨f, hf, by simpa using hc⟩)
  unfold addS
  rw [h1.1, h1.2, if_neg (by rw [List.head?_drop]; exact hp)]
  simp
theorem addS_has {L : List ByteArray} {p f : ByteArray} {j : Nat} (h : ∀ f ∈ L.take j, cmpL (bl f) (bl p) < 0) (hs : L[j]? = some f ∧ ¬ cmpL (bl f) (bl p) < 0) (hp : f = p) : addS L p = L := by
  have h1 := while_at (P := fun x => decide (cmpL (bl x) (bl p) < 0)) (L := L) (j := j) (fun f hf => by simpa using h f hf) (.inr ⟨f, hs.1, by simpa using hs.2⟩)
  unfold addS
  rw [h1.2, if_pos (by rw [List.head?_drop, hs.1, hp])]
theorem strs_one (l : List ByteArray) : ∀ u ∈ l.map Value.string, u.oneCell' = true := by
  intro u hu
  obtain ⟨x, _, rfl⟩ := List.mem_map.1 hu
  rfl
theorem row_one1 {w : World} {z : Nat} {x : Value} {t : TypeId} (h : w.heap[z]? = some (.cells #[x] t (0, 0))) : RowAt (fun k => k = z) w 1 (.slice (some ⟨z, 0, none⟩) 1 1) 1 [x] :=
  ⟨rfl, _, 1, rfl, Nat.le_refl _, by unfold maxLen; omega, .inr ⟨z, 0, rfl, rfl, fun j u hj => by
    rw [Nat.zero_add, cell20 h]
    simpa [List.getElem?_toArray] using hj⟩⟩
theorem strs_all {S : Nat → Prop} {w : World} {v : Value} {l : List ByteArray} (h : StrsAt S w v l) : StrsAt (fun _ => True) w v l := RowAt.mono h (fun _ _ _ => trivial) (by omega)
set_option maxRecDepth 100000 in
set_option maxHeartbeats 4000000 in
theorem r_add_any (S : Nat → Prop) (L : List ByteArray) (vl : Value) (p : ByteArray) (w : World) (hl : StrsAt S w vl L) (hsh : Shp vl) (hn : L.length ≤ 8200) (hps : ∀ f ∈ L, f.size ≤ 65536) :
    Calls Tryz.prog 53 #[vl, .string p] w fun en w' => ∃ v, en = .returned v ∧ StrsAt (fun j => S j ∨ w.heap.size ≤ j) w' v (addS L p) ∧ Below w.heap.size w w' ∧ Shp v := by
  have hes : StrsAt (fun _ => True) w vl L := strs_all hl
  have HES := Lib.hid hes
  have HESS := Lib.hid hl
  have HPM := Lib.hid hps
  have HSH := Lib.hid hsh
  obtain ⟨m, hm0⟩ : ∃ m, m = L.length := ⟨_, rfl⟩
  have HM0 := Lib.hid hm0
  obtain ⟨av, cv, rfl, hcv, hmv, -⟩ := StrsAt.shape hes
  have HNIL := Lib.hid (show av = none → m = 0 ∧ cv = 0 from fun h => by
    subst h
    rcases hsh with h | ⟨b, o, n, c, h⟩ | ⟨a, c, h⟩
    · simp only [Value.slice.injEq] at h
      exact ⟨hm0.trans h.2.1, h.2.2⟩
    · simp at h
    · simp at h)
  have hva : av = none ∨ (∃ b o, av = some ⟨b, o, none⟩) ∨ (m = 0 ∧ ∃ b o s, av = some ⟨b, o, some s⟩) := by
    rcases hsh with h | ⟨b, o, n, c, h⟩ | ⟨⟨b, o, sp⟩, c, h⟩
    · simp only [Value.slice.injEq] at h; exact .inl h.1
    · simp only [Value.slice.injEq] at h; exact .inr (.inl ⟨b, o, h.1⟩)
    · simp only [Value.slice.injEq] at h
      cases sp with
      | none => exact .inr (.inl ⟨b, o, h.1⟩)
      | some s => exact .inr (.inr ⟨hm0.trans h.2.1, b, o, s, h.1⟩)
  have HRW := Lib.hid (show RowAt (fun _ => True) w 1 (.slice av m cv) m (L.map Value.string) by rw [hm0]; exact hes)
  rw [← hm0] at hcv hn HSH ⊢
  unfold maxLen at hmv
  clear hl hsh hes hm0 hps
  go_enter Tryz.func53, Tryz.ntmps53
  go_wp2_with fail
  go_loopw [5] (fun j wq => ∃ j' : Nat, j = .int .i64 j' ∧ j' ≤ m ∧ (∀ f ∈ L.take j', cmpL (bl f) (bl p) < 0) ∧ Below w.heap.size w wq) (fun j _ => m - (intOf j).toNat)
  case atStart => exact ⟨0, rfl, Nat.zero_le _, by simp, Below.refl _ _⟩
  case round =>
    obtain ⟨j, rfl, hjm, hji, hbq⟩ := hrel
    have HIX := Lib.hid hji
    have HBQ := Lib.hid hbq
    clear hji hbq
    by_cases hjl : j < m
    case' pos =>
      obtain ⟨f, hf⟩ : ∃ f, L[j]? = some f := ⟨L[j]'(by rw [← HM0.out]; omega), by simp⟩
      obtain ⟨_, _, he, _, _, hcell⟩ := StrsAt.shape HES.out
      obtain ⟨b1, o1, hab, -, p0⟩ := hcell j f hf
      simp only [Value.slice.injEq] at he
      obtain ⟨rfl, -, rfl⟩ := he
      subst hab
      have HPF := Lib.hid (HPM.out f (List.mem_of_getElem? hf))
      obtain ⟨c, hc'⟩ : ∃ c, cmpL (bl f) (bl p) = c := ⟨_, rfl⟩
      have HC := Lib.hid hc'
      have e9 : decide (j < m) = true := by simp; omega
      have hjn2 : (j : Int) < (m : Int) := by omega
      have HF := Lib.hid hf
      have y0 := (HBQ.out.cell (block_lt p0)).trans p0
      have hlt0 := block_lt y0
      clear hf hc' p0 hcell
      by_cases hneg : c < 0
      case pos =>
        have e8 : decide (c < 0) = true := by simp [hneg]
        have HIN := Lib.hid (show ∀ f ∈ L.take (j + 1), cmpL (bl f) (bl p) < 0 from fun x hx => by
          rw [List.take_add_one, HF.out] at hx
          rcases List.mem_append.1 hx with hx | hx
          · exact HIX.out x hx
          · rw [show x = f by simpa using hx, HC.out]; exact hneg)
        go_wp2_with (go_at_call 39; refine (r_compare20 f p c _ HPF.out HC.out).mono ?_; rintro e8' w8 ⟨rfl, hb8⟩; have HB8 := Lib.hid (below_next HBQ.out hb8); clear hb8)
        go_roundw
        case rel => exact ⟨j + 1, by go_num, by omega, HIN.out, HB8.out⟩
        case measure => simp [intOf]; omega
      case' neg =>
        have e8 : decide (c < 0) = false := by simp; omega
        have HNEG := Lib.hid (show ¬ cmpL (bl f) (bl p) < 0 by rw [HC.out]; exact hneg)
        by_cases hfp : f = p
        case pos =>
          have e2 : (f.toList == p.toList) = true := by rw [hfp]; simp
          have HR := Lib.hid (addS_has HIX.out ⟨HF.out, HNEG.out⟩ hfp)
          clear hfp
          go_wp2_with (go_at_call 39; refine (r_compare20 f p c _ HPF.out HC.out).mono ?_; rintro e8' w8 ⟨rfl, hb8⟩; have HB8 := Lib.hid (below_next HBQ.out hb8); replace y0 := (hb8.cell hlt0).trans y0; replace hlt0 := Nat.lt_of_lt_of_le hlt0 hb8.size; clear hb8)
          go_ret
          exact ⟨_, rfl, by rw [HR.out]; exact (show StrsAt (fun j => S j ∨ w.heap.size ≤ j) _ _ L by have h1 := RowAt.mono (HESS.out.below (by omega) HB8.out) (T := fun j => S j ∨ w.heap.size ≤ j) (fun _ _ h => .inl h) (by omega); rw [← HM0.out] at h1; rw [StrsAt, ← HM0.out]; exact h1), HB8.out, HSH.out⟩
        case' neg =>
          have e2 : (f.toList == p.toList) = false := by rw [beq_eq_false_iff_ne]; intro h; exact hfp (str_eq.1 h)
          have HJ := Lib.hid (show addS L p = L.take j ++ [p] ++ L.drop j from addS_at HIX.out (.inr ⟨f, HF.out, HNEG.out⟩) (by rw [HF.out]; intro h; exact hfp (Option.some.inj h)))
          clear hfp
          go_upto_region 6 with (go_at_call 39; refine (r_compare20 f p c _ HPF.out HC.out).mono ?_; rintro e8' w8 ⟨rfl, hb8⟩; have HB8 := Lib.hid (below_next HBQ.out hb8); replace y0 := (hb8.cell hlt0).trans y0; replace hlt0 := Nat.lt_of_lt_of_le hlt0 hb8.size; clear hb8)
          clear e8 e2 y0 hjn2 e9 hva hneg hlt0
          refine hld_start (fun _ => True) (by kernel_rfl) ?_
          obtain ⟨V, hV⟩ : ∃ V : World, V = (w8).drew := ⟨_, rfl⟩
          rw [← hV]
          have HBV := Lib.hid (show Below w.heap.size w V by rw [hV]; exact below_next HB8.out bel_drew)
          clear hV
          have hrw := HRW.out
          obtain ⟨J, hJJ⟩ : ∃ J, J = j := ⟨_, rfl⟩
          obtain ⟨N, hNN⟩ : ∃ N, N = L.length - J := ⟨_, rfl⟩
          have HJL := Lib.hid (show J ≤ L.length by rw [hJJ, ← HM0.out]; exact hjm)
          have hJN : J + N ≤ 8200 := by have := HM0.out; have := HJL.out; omega
          have HIJ := Lib.hid (show addS L p = L.take J ++ [p] ++ L.drop J by rw [hJJ]; exact HJ.out)
          have HP := Lib.hid (show RowAt (fun _ => True) w 1 _ J ((L.take J).map Value.string) from by
            have h1 := row_take (sz := 1) hrw hjm
            rw [Nat.mul_one, ← List.map_take] at h1
            rw [hJJ]; exact h1)
          have HQ := Lib.hid (show RowAt (fun _ => True) w 1 (.slice (some ⟨b1, o1 + j, none⟩) (m - j) (cv - j)) N ((L.drop J).map Value.string) from by
            have h1 := row_drop (sz := 1) hrw hjm
            rw [Nat.mul_one, ← List.map_drop] at h1
            rw [hNN, hJJ, ← HM0.out]
            exact h1)
          have hjc2 : j < cv := by omega
          have hjc3 : j ≤ cv := by omega
          have HNN := Lib.hid hNN
          clear hrw hJJ hNN
          refine hld_take 1 rfl (by kernel_rfl) (by kernel_rfl) (by kernel_rfl) (fun _ _ _ h => h) rfl trivial (by intro w' _; go_simp; rfl) ?_
          simp only [Act.put, List.setIfInBounds_toArray, List.set_cons_succ, List.set_cons_zero]
          refine hld_take 2 rfl (by kernel_rfl) (by kernel_rfl) (by kernel_rfl) (fun _ _ _ h => h) rfl trivial (by intro w' _; go_simp; rfl) ?_
          simp only [Act.put, List.setIfInBounds_toArray, List.set_cons_succ, List.set_cons_zero]
          refine hld_take 3 rfl (by kernel_rfl) (by kernel_rfl) (by kernel_rfl) (fun _ _ _ h => h) rfl trivial (by intro w' _; go_simp; rfl) ?_
          simp only [Act.put, List.setIfInBounds_toArray, List.set_cons_succ, List.set_cons_zero]
          refine hld_take 5 rfl (by kernel_rfl) (by kernel_rfl) (by kernel_rfl) (fun _ _ _ h => h) rfl trivial (by intro w' _; go_simp; rfl) ?_
          simp only [Act.put, List.setIfInBounds_toArray, List.set_cons_succ, List.set_cons_zero]
          refine hld_take 8 rfl (by kernel_rfl) (by kernel_rfl) (by kernel_rfl) (fun _ _ _ h => h) rfl trivial (by intro w' _; go_simp; rfl) ?_
          simp only [Act.put, List.setIfInBounds_toArray, List.set_cons_succ, List.set_cons_zero]
          refine hld_take 9 rfl (by kernel_rfl) (by kernel_rfl) (by kernel_rfl) (fun _ _ _ h => h) rfl trivial (by intro w' _; go_simp; rfl) ?_
          simp only [Act.put, List.setIfInBounds_toArray, List.set_cons_succ, List.set_cons_zero]
          refine hld_take 10 rfl (by kernel_rfl) (by kernel_rfl) (by kernel_rfl) (fun _ _ _ h => h) rfl trivial (by intro w' _; go_simp; rfl) ?_
          simp only [Act.put, List.setIfInBounds_toArray, List.set_cons_succ, List.set_cons_zero]
    case' neg =>
      have hj2 : m = j := by omega
      subst hj2
      have HJ := Lib.hid (show addS L p = L.take m ++ [p] ++ L.drop m from addS_at HIX.out (.inl (by rw [← HM0.out]; exact Nat.le_refl _)) (by rw [HM0.out, List.getElem?_eq_none (Nat.le_refl _)]; simp))
      go_upto_region 6 with (fail)
      refine hld_start (fun _ => True) (by kernel_rfl) ?_
      obtain ⟨V, hV⟩ : ∃ V : World, V = (wr).drew := ⟨_, rfl⟩
      rw [← hV]
      have HBV := Lib.hid (show Below w.heap.size w V by rw [hV]; exact below_next HBQ.out bel_drew)
      clear hV
      have hrw := HRW.out
      rcases hva with hva | ⟨b1, o1, hva⟩ | ⟨hm0, b1, o1, sp, hva⟩
      case' inl =>
        subst hva
        obtain ⟨hm0, hc0⟩ := HNIL.out rfl
        subst hm0 hc0
        obtain ⟨J, hJJ⟩ : ∃ J, J = 0 := ⟨_, rfl⟩
        obtain ⟨N, hNN⟩ : ∃ N, N = L.length - J := ⟨_, rfl⟩
        have HJL := Lib.hid (show J ≤ L.length by rw [hJJ, ← HM0.out]; exact hjm)
        have hJN : J + N ≤ 8200 := by have := HM0.out; have := HJL.out; omega
        have HIJ := Lib.hid (show addS L p = L.take J ++ [p] ++ L.drop J by rw [hJJ]; exact HJ.out)
        have HP := Lib.hid (show RowAt (fun _ => True) w 1 _ J ((L.take J).map Value.string) from by
          have h1 := row_take (sz := 1) hrw hjm
          rw [Nat.mul_one, ← List.map_take] at h1
          rw [hJJ]; exact h1)
        have HQ := Lib.hid (show RowAt (fun _ => True) w 1 (.slice none (0 - 0) (0 - 0)) N ((L.drop J).map Value.string) from by
          have h1 : L.length ≤ J := by have := HM0.out; omega
          rw [List.drop_eq_nil_of_le h1, hNN, Nat.sub_eq_zero_of_le h1]
          exact row_none (by unfold maxLen; omega))
        have HNN := Lib.hid hNN
        clear hrw hJJ hNN
        refine hld_take 1 rfl (by kernel_rfl) (by kernel_rfl) (by kernel_rfl) (fun _ _ _ h => h) rfl trivial (by intro w' _; go_simp; rfl) ?_
        simp only [Act.put, List.setIfInBounds_toArray, List.set_cons_succ, List.set_cons_zero]
        refine hld_take 2 rfl (by kernel_rfl) (by kernel_rfl) (by kernel_rfl) (fun _ _ _ h => h) rfl trivial (by intro w' _; go_simp; rfl) ?_
        simp only [Act.put, List.setIfInBounds_toArray, List.set_cons_succ, List.set_cons_zero]
        refine hld_take 3 rfl (by kernel_rfl) (by kernel_rfl) (by kernel_rfl) (fun _ _ _ h => h) rfl trivial (by intro w' _; go_simp; rfl) ?_
        simp only [Act.put, List.setIfInBounds_toArray, List.set_cons_succ, List.set_cons_zero]
        refine hld_take 5 rfl (by kernel_rfl) (by kernel_rfl) (by kernel_rfl) (fun _ _ _ h => h) rfl trivial (by intro w' _; go_simp; rfl) ?_
        simp only [Act.put, List.setIfInBounds_toArray, List.set_cons_succ, List.set_cons_zero]
        refine hld_take 8 rfl (by kernel_rfl) (by kernel_rfl) (by kernel_rfl) (fun _ _ _ h => h) rfl trivial (by intro w' _; go_simp; rfl) ?_
        simp only [Act.put, List.setIfInBounds_toArray, List.set_cons_succ, List.set_cons_zero]
        refine hld_take 9 rfl (by kernel_rfl) (by kernel_rfl) (by kernel_rfl) (fun _ _ _ h => h) rfl trivial (by intro w' _; go_simp; rfl) ?_
        simp only [Act.put, List.setIfInBounds_toArray, List.set_cons_succ, List.set_cons_zero]
        refine hld_take 10 rfl (by kernel_rfl) (by kernel_rfl) (by kernel_rfl) (fun _ _ _ h => h) rfl trivial (by intro w' _; go_simp; rfl) ?_
        simp only [Act.put, List.setIfInBounds_toArray, List.set_cons_succ, List.set_cons_zero]
      case' inr.inl =>
        subst hva
        by_cases hjc : m = cv
        case' pos =>
          subst hjc
          obtain ⟨J, hJJ⟩ : ∃ J, J = m := ⟨_, rfl⟩
          obtain ⟨N, hNN⟩ : ∃ N, N = L.length - J := ⟨_, rfl⟩
          have HJL := Lib.hid (show J ≤ L.length by rw [hJJ, ← HM0.out]; exact hjm)
          have hJN : J + N ≤ 8200 := by have := HM0.out; have := HJL.out; omega
          have HIJ := Lib.hid (show addS L p = L.take J ++ [p] ++ L.drop J by rw [hJJ]; exact HJ.out)
          have HP := Lib.hid (show RowAt (fun _ => True) w 1 _ J ((L.take J).map Value.string) from by
            have h1 := row_take (sz := 1) hrw hjm
            rw [Nat.mul_one, ← List.map_take] at h1
            rw [hJJ]; exact h1)
          have HQ := Lib.hid (show RowAt (fun _ => True) w 1 (.slice (some ⟨b1, o1, none⟩) 0 0) N ((L.drop J).map Value.string) from by
            have h1 : L.length ≤ J := by have := HM0.out; omega
            rw [List.drop_eq_nil_of_le h1, hNN, Nat.sub_eq_zero_of_le h1]
            exact row_none (by unfold maxLen; omega))
          have HNN := Lib.hid hNN
          clear hrw hJJ hNN
          refine hld_take 1 rfl (by kernel_rfl) (by kernel_rfl) (by kernel_rfl) (fun _ _ _ h => h) rfl trivial (by intro w' _; go_simp; rfl) ?_
          simp only [Act.put, List.setIfInBounds_toArray, List.set_cons_succ, List.set_cons_zero]
          refine hld_take 2 rfl (by kernel_rfl) (by kernel_rfl) (by kernel_rfl) (fun _ _ _ h => h) rfl trivial (by intro w' _; go_simp; rfl) ?_
          simp only [Act.put, List.setIfInBounds_toArray, List.set_cons_succ, List.set_cons_zero]
          refine hld_take 3 rfl (by kernel_rfl) (by kernel_rfl) (by kernel_rfl) (fun _ _ _ h => h) rfl trivial (by intro w' _; go_simp; rfl) ?_
          simp only [Act.put, List.setIfInBounds_toArray, List.set_cons_succ, List.set_cons_zero]
          refine hld_take 5 rfl (by kernel_rfl) (by kernel_rfl) (by kernel_rfl) (fun _ _ _ h => h) rfl trivial (by intro w' _; go_simp; rfl) ?_
          simp only [Act.put, List.setIfInBounds_toArray, List.set_cons_succ, List.set_cons_zero]
          refine hld_take 8 rfl (by kernel_rfl) (by kernel_rfl) (by kernel_rfl) (fun _ _ _ h => h) rfl trivial (by intro w' _; go_simp; rfl) ?_
          simp only [Act.put, List.setIfInBounds_toArray, List.set_cons_succ, List.set_cons_zero]
          refine hld_take 9 rfl (by kernel_rfl) (by kernel_rfl) (by kernel_rfl) (fun _ _ _ h => h) rfl trivial (by intro w' _; go_simp; rfl) ?_
          simp only [Act.put, List.setIfInBounds_toArray, List.set_cons_succ, List.set_cons_zero]
          refine hld_take 10 rfl (by kernel_rfl) (by kernel_rfl) (by kernel_rfl) (fun _ _ _ h => h) rfl trivial (by intro w' _; go_simp; rfl) ?_
          simp only [Act.put, List.setIfInBounds_toArray, List.set_cons_succ, List.set_cons_zero]
        case' neg =>
          obtain ⟨J, hJJ⟩ : ∃ J, J = m := ⟨_, rfl⟩
          obtain ⟨N, hNN⟩ : ∃ N, N = L.length - J := ⟨_, rfl⟩
          have HJL := Lib.hid (show J ≤ L.length by rw [hJJ, ← HM0.out]; exact hjm)
          have hJN : J + N ≤ 8200 := by have := HM0.out; have := HJL.out; omega
          have HIJ := Lib.hid (show addS L p = L.take J ++ [p] ++ L.drop J by rw [hJJ]; exact HJ.out)
          have HP := Lib.hid (show RowAt (fun _ => True) w 1 _ J ((L.take J).map Value.string) from by
            have h1 := row_take (sz := 1) hrw hjm
            rw [Nat.mul_one, ← List.map_take] at h1
            rw [hJJ]; exact h1)
          have HQ := Lib.hid (show RowAt (fun _ => True) w 1 (.slice (some ⟨b1, o1 + m, none⟩) 0 (cv - m)) N ((L.drop J).map Value.string) from by
            have h1 : L.length ≤ J := by have := HM0.out; omega
            rw [List.drop_eq_nil_of_le h1, hNN, Nat.sub_eq_zero_of_le h1]
            exact row_none (by unfold maxLen; omega))
          have hjc2 : m < cv := by omega
          have hjc3 : m ≤ cv := by omega
          clear hjc
          have HNN := Lib.hid hNN
          clear hrw hJJ hNN
          refine hld_take 1 rfl (by kernel_rfl) (by kernel_rfl) (by kernel_rfl) (fun _ _ _ h => h) rfl trivial (by intro w' _; go_simp; rfl) ?_
          simp only [Act.put, List.setIfInBounds_toArray, List.set_cons_succ, List.set_cons_zero]
          refine hld_take 2 rfl (by kernel_rfl) (by kernel_rfl) (by kernel_rfl) (fun _ _ _ h => h) rfl trivial (by intro w' _; go_simp; rfl) ?_
          simp only [Act.put, List.setIfInBounds_toArray, List.set_cons_succ, List.set_cons_zero]
          refine hld_take 3 rfl (by kernel_rfl) (by kernel_rfl) (by kernel_rfl) (fun _ _ _ h => h) rfl trivial (by intro w' _; go_simp; rfl) ?_
          simp only [Act.put, List.setIfInBounds_toArray, List.set_cons_succ, List.set_cons_zero]
          refine hld_take 5 rfl (by kernel_rfl) (by kernel_rfl) (by kernel_rfl) (fun _ _ _ h => h) rfl trivial (by intro w' _; go_simp; rfl) ?_
          simp only [Act.put, List.setIfInBounds_toArray, List.set_cons_succ, List.set_cons_zero]
          refine hld_take 8 rfl (by kernel_rfl) (by kernel_rfl) (by kernel_rfl) (fun _ _ _ h => h) rfl trivial (by intro w' _; go_simp; rfl) ?_
          simp only [Act.put, List.setIfInBounds_toArray, List.set_cons_succ, List.set_cons_zero]
          refine hld_take 9 rfl (by kernel_rfl) (by kernel_rfl) (by kernel_rfl) (fun _ _ _ h => h) rfl trivial (by intro w' _; go_simp; rfl) ?_
          simp only [Act.put, List.setIfInBounds_toArray, List.set_cons_succ, List.set_cons_zero]
          refine hld_take 10 rfl (by kernel_rfl) (by kernel_rfl) (by kernel_rfl) (fun _ _ _ h => h) rfl trivial (by intro w' _; go_simp; rfl) ?_
          simp only [Act.put, List.setIfInBounds_toArray, List.set_cons_succ, List.set_cons_zero]
      case' inr.inr =>
        subst hva
        subst hm0
        obtain ⟨J, hJJ⟩ : ∃ J, J = 0 := ⟨_, rfl⟩
        obtain ⟨N, hNN⟩ : ∃ N, N = L.length - J := ⟨_, rfl⟩
        have HJL := Lib.hid (show J ≤ L.length by rw [hJJ, ← HM0.out]; exact hjm)
        have hJN : J + N ≤ 8200 := by have := HM0.out; have := HJL.out; omega
        have HIJ := Lib.hid (show addS L p = L.take J ++ [p] ++ L.drop J by rw [hJJ]; exact HJ.out)
        have HP := Lib.hid (show RowAt (fun _ => True) w 1 _ J ((L.take J).map Value.string) from by
          have h1 := row_take (sz := 1) hrw hjm
          rw [Nat.mul_one, ← List.map_take] at h1
          rw [hJJ]; exact h1)
        have HQ := Lib.hid (show RowAt (fun _ => True) w 1 (.slice (some ⟨b1, o1, some sp⟩) 0 cv) N ((L.drop J).map Value.string) from by
          have h1 : L.length ≤ J := by have := HM0.out; omega
          rw [List.drop_eq_nil_of_le h1, hNN, Nat.sub_eq_zero_of_le h1]
          exact row_none (by unfold maxLen; omega))
        have HNN := Lib.hid hNN
        clear hrw hJJ hNN
        refine hld_take 1 rfl (by kernel_rfl) (by kernel_rfl) (by kernel_rfl) (fun _ _ _ h => h) rfl trivial (by intro w' _; go_simp; rfl) ?_
        simp only [Act.put, List.setIfInBounds_toArray, List.set_cons_succ, List.set_cons_zero]
        refine hld_take 2 rfl (by kernel_rfl) (by kernel_rfl) (by kernel_rfl) (fun _ _ _ h => h) rfl trivial (by intro w' _; go_simp; rfl) ?_
        simp only [Act.put, List.setIfInBounds_toArray, List.set_cons_succ, List.set_cons_zero]
        refine hld_take 3 rfl (by kernel_rfl) (by kernel_rfl) (by kernel_rfl) (fun _ _ _ h => h) rfl trivial (by intro w' _; go_simp; rfl) ?_
        simp only [Act.put, List.setIfInBounds_toArray, List.set_cons_succ, List.set_cons_zero]
        refine hld_take 5 rfl (by kernel_rfl) (by kernel_rfl) (by kernel_rfl) (fun _ _ _ h => h) rfl trivial (by intro w' _; go_simp; rfl) ?_
        simp only [Act.put, List.setIfInBounds_toArray, List.set_cons_succ, List.set_cons_zero]
        refine hld_take 8 rfl (by kernel_rfl) (by kernel_rfl) (by kernel_rfl) (fun _ _ _ h => h) rfl trivial (by intro w' _; go_simp; rfl) ?_
        simp only [Act.put, List.setIfInBounds_toArray, List.set_cons_succ, List.set_cons_zero]
        refine hld_take 9 rfl (by kernel_rfl) (by kernel_rfl) (by kernel_rfl) (fun _ _ _ h => h) rfl trivial (by intro w' _; go_simp; rfl) ?_
        simp only [Act.put, List.setIfInBounds_toArray, List.set_cons_succ, List.set_cons_zero]
        refine hld_take 10 rfl (by kernel_rfl) (by kernel_rfl) (by kernel_rfl) (fun _ _ _ h => h) rfl trivial (by intro w' _; go_simp; rfl) ?_
        simp only [Act.put, List.setIfInBounds_toArray, List.set_cons_succ, List.set_cons_zero]
    all_goals
      skip
      refine Hld.of (wpAnyH_all (rs := [0, 6]) (by kernel_rfl) (by simp) fun jj hjj => ?_)
      simp only [List.mem_cons, List.not_mem_nil, or_false] at hjj
      rcases hjj with rfl | rfl
      case' inr =>
        refine hld_opr 6 rfl rfl (fun K hK => ?_)
        go_wp2_with fail
        obtain ⟨U1, hU⟩ : ∃ u : World, u = (V).alloc (.cells #[.string p] 9) := ⟨_, rfl⟩
        rw [← hU]
        have hbu : Below (V).heap.size V U1 := by rw [hU]; exact (Below.refl _ _).alloc (Nat.le_refl _) _
        have HZ1 := Lib.hid (show (U1).heap[(V).heap.size]? = some (.cells #[.string p] 9 (0, 0)) by rw [hU]; exact new20 _ _)
        have HBU1 := Lib.hid (HBV.out.trans (hbu.mono HBV.out.size))
        clear hU
        try refine ⟨trivial, ?_⟩
        try simp only [Act.put, List.setIfInBounds_toArray, List.set_cons_succ, List.set_cons_zero]
        clear hbu
        refine hld_bar 0 rfl (by kernel_rfl) rfl (fun K hK => ?_)
        go_wp2_with fail
        obtain ⟨U2, hU⟩ : ∃ u : World, u = (U1).alloc (.cells #[] 9) := ⟨_, rfl⟩
        rw [← hU]
        have hbu : Below (U1).heap.size U1 U2 := by rw [hU]; exact (Below.refl _ _).alloc (Nat.le_refl _) _
        have HO2 := Lib.hid (show (U2).ownsRow w.heap.size 9 1 (.slice (some ⟨(U1).heap.size, 0, none⟩) 0 0) 0 [] by rw [hU]; exact World.ownsRow_lit (base := w.heap.size) U1 #[] 0 HBU1.out.size (Nat.zero_le _) (by simp))
        have HBU2 := Lib.hid (HBU1.out.trans (hbu.mono HBU1.out.size))
        clear hU
        try refine ⟨trivial, ?_⟩
        try simp only [Act.put, List.setIfInBounds_toArray, List.set_cons_succ, List.set_cons_zero]
        have HZ2 := Lib.hid ((hbu.block _ (lt20 HZ1.out)).trans HZ1.out)
        have HLT := Lib.hid (show V.heap.size < U1.heap.size from lt20 HZ1.out)
        clear hbu
        refine hld_bar 4 rfl (by kernel_rfl) rfl (fun K hK => ?_)
        go_wp2_with (at_builtin; go_must (refine wpList_appn Tryz.appStrings rfl _ _ rfl w.heap.size _ 0 [] rfl HO2.out _ J ((L.take J).map Value.string) rfl (HP.out.below (by omega) HBU2.out) (strs_one _) (by omega) HBU2.out.size ?_); intro v1 U3 hown1 hg1)
        have HBU3 := Lib.hid (below_grown HBU2.out HO2.out hg1 (Nat.le_refl _) HBU2.out.size)
        have HO3 := Lib.hid (show (U3).ownsRow w.heap.size 9 1 v1 J ((L.take J).map Value.string) by rw [Nat.zero_add, List.nil_append] at hown1; exact hown1)
        have HG1 := Lib.hid hg1
        obtain ⟨g1, k1, rfl, -, -⟩ := owns_shape HO3.out
        clear hown1 hg1
        try refine ⟨trivial, ?_⟩
        try simp only [Act.put, List.setIfInBounds_toArray, List.set_cons_succ, List.set_cons_zero]
        have HZ3 := Lib.hid ((HG1.out.block _ (lt20 HZ2.out) (fun e' => by have h1 : V.heap.size = U1.heap.size := Option.some.inj e'; have h2 := HLT.out; omega)).trans HZ2.out)
      case' inl =>
        refine hld_opr 0 rfl rfl (fun K hK => ?_)
        go_wp2_with fail
        obtain ⟨U1, hU⟩ : ∃ u : World, u = (V).alloc (.cells #[] 9) := ⟨_, rfl⟩
        rw [← hU]
        have hbu : Below (V).heap.size V U1 := by rw [hU]; exact (Below.refl _ _).alloc (Nat.le_refl _) _
        have HO1 := Lib.hid (show (U1).ownsRow w.heap.size 9 1 (.slice (some ⟨(V).heap.size, 0, none⟩) 0 0) 0 [] by rw [hU]; exact World.ownsRow_lit (base := w.heap.size) V #[] 0 HBV.out.size (Nat.zero_le _) (by simp))
        have HBU1 := Lib.hid (HBV.out.trans (hbu.mono HBV.out.size))
        clear hU
        try refine ⟨trivial, ?_⟩
        try simp only [Act.put, List.setIfInBounds_toArray, List.set_cons_succ, List.set_cons_zero]
        refine Hld.of (wpAnyH_all (rs := [4, 6]) (by kernel_rfl) (by simp) fun jj hjj => ?_)
        simp only [List.mem_cons, List.not_mem_nil, or_false] at hjj
        rcases hjj with rfl | rfl
        case' inr =>
          refine hld_opr 6 rfl rfl (fun K hK => ?_)
          go_wp2_with fail
          obtain ⟨U2, hU⟩ : ∃ u : World, u = (U1).alloc (.cells #[.string p] 9) := ⟨_, rfl⟩
          rw [← hU]
          have hbu : Below (U1).heap.size U1 U2 := by rw [hU]; exact (Below.refl _ _).alloc (Nat.le_refl _) _
          have HZ2 := Lib.hid (show (U2).heap[(U1).heap.size]? = some (.cells #[.string p] 9 (0, 0)) by rw [hU]; exact new20 _ _)
          have HBU2 := Lib.hid (HBU1.out.trans (hbu.mono HBU1.out.size))
          clear hU
          try refine ⟨trivial, ?_⟩
          try simp only [Act.put, List.setIfInBounds_toArray, List.set_cons_succ, List.set_cons_zero]
          have HO2 := Lib.hid (own_below HO1.out hbu)
          have HLT := Lib.hid (show V.heap.size < U1.heap.size from ((own_lt HO1.out rfl).2))
          clear hbu
          refine hld_bar 4 rfl (by kernel_rfl) rfl (fun K hK => ?_)
          go_wp2_with (at_builtin; go_must (refine wpList_appn Tryz.appStrings rfl _ _ rfl w.heap.size _ 0 [] rfl HO2.out _ J ((L.take J).map Value.string) rfl (HP.out.below (by omega) HBU2.out) (strs_one _) (by omega) HBU2.out.size ?_); intro v1 U3 hown1 hg1)
          have HBU3 := Lib.hid (below_grown HBU2.out HO2.out hg1 (Nat.le_refl _) HBU2.out.size)
          have HO3 := Lib.hid (show (U3).ownsRow w.heap.size 9 1 v1 J ((L.take J).map Value.string) by rw [Nat.zero_add, List.nil_append] at hown1; exact hown1)
          have HG1 := Lib.hid hg1
          obtain ⟨g1, k1, rfl, -, -⟩ := owns_shape HO3.out
          clear hown1 hg1
          try refine ⟨trivial, ?_⟩
          try simp only [Act.put, List.setIfInBounds_toArray, List.set_cons_succ, List.set_cons_zero]
          have HZ3 := Lib.hid ((HG1.out.block _ (lt20 HZ2.out) (fun e' => by have h1 : U1.heap.size = V.heap.size := Option.some.inj e'; have h2 := HLT.out; omega)).trans HZ2.out)
        case' inl =>
          refine hld_opr 4 rfl rfl (fun K hK => ?_)
          go_wp2_with (at_builtin; go_must (refine wpList_appn Tryz.appStrings rfl _ _ rfl w.heap.size _ 0 [] rfl HO1.out _ J ((L.take J).map Value.string) rfl (HP.out.below (by omega) HBU1.out) (strs_one _) (by omega) HBU1.out.size ?_); intro v1 U2 hown1 hg1)
          have HBU2 := Lib.hid (below_grown HBU1.out HO1.out hg1 (Nat.le_refl _) HBU1.out.size)
          have HO2 := Lib.hid (show (U2).ownsRow w.heap.size 9 1 v1 J ((L.take J).map Value.string) by rw [Nat.zero_add, List.nil_append] at hown1; exact hown1)
          have HG1 := Lib.hid hg1
          obtain ⟨g1, k1, rfl, -, -⟩ := owns_shape HO2.out
          clear hown1 hg1
          try refine ⟨trivial, ?_⟩
          try simp only [Act.put, List.setIfInBounds_toArray, List.set_cons_succ, List.set_cons_zero]
          refine hld_bar 6 rfl (by kernel_rfl) rfl (fun K hK => ?_)
          go_wp2_with fail
          obtain ⟨U3, hU⟩ : ∃ u : World, u = (U2).alloc (.cells #[.string p] 9) := ⟨_, rfl⟩
          rw [← hU]
          have hbu : Below (U2).heap.size U2 U3 := by rw [hU]; exact (Below.refl _ _).alloc (Nat.le_refl _) _
          have HZ3 := Lib.hid (show (U3).heap[(U2).heap.size]? = some (.cells #[.string p] 9 (0, 0)) by rw [hU]; exact new20 _ _)
          have HBU3 := Lib.hid (HBU2.out.trans (hbu.mono HBU2.out.size))
          clear hU
          try refine ⟨trivial, ?_⟩
          try simp only [Act.put, List.setIfInBounds_toArray, List.set_cons_succ, List.set_cons_zero]
          have HO3 := Lib.hid (own_below HO2.out hbu)
          clear hbu
      all_goals
        skip
        refine hld_bar 7 rfl (by kernel_rfl) rfl (fun K hK => ?_)
        go_wp2_with (at_builtin; go_must (refine wpList_appn Tryz.appStrings rfl _ _ rfl w.heap.size _ J ((L.take J).map Value.string) rfl HO3.out _ 1 [Value.string p] rfl (row_one1 HZ3.out) (strs_one [p]) (by omega) HBU3.out.size ?_); intro v2 U8 hown2 hg2)
        have HBU8 := Lib.hid (below_grown HBU3.out HO3.out hg2 (Nat.le_refl _) HBU3.out.size)
        have HO8 := Lib.hid hown2
        obtain ⟨g2, k2, rfl, -, -⟩ := owns_shape HO8.out
        clear hown2 hg2
        try refine ⟨trivial, ?_⟩
        try simp only [Act.put, List.setIfInBounds_toArray, List.set_cons_succ, List.set_cons_zero]
        refine hld_bar 11 rfl (by kernel_rfl) rfl (fun K hK => ?_)
        go_wp2_with (at_builtin; go_must (refine wpList_appn Tryz.appStrings rfl _ _ rfl w.heap.size _ (J + 1) ((L.take J).map Value.string ++ [Value.string p]) rfl HO8.out _ N ((L.drop J).map Value.string) rfl (HQ.out.below (by omega) HBU8.out) (strs_one _) (by omega) HBU8.out.size ?_); intro v3 U9 hown3 hg3)
        have HBU9 := Lib.hid (below_grown HBU8.out HO8.out hg3 (Nat.le_refl _) HBU8.out.size)
        have HO9 := Lib.hid hown3
        clear hown3 hg3
        try refine ⟨trivial, ?_⟩
        try simp only [Act.put, List.setIfInBounds_toArray, List.set_cons_succ, List.set_cons_zero]
        refine hld_take 12 rfl (by kernel_rfl) (by kernel_rfl) (by kernel_rfl) (fun _ _ _ h => h) rfl trivial (by intro w' _; go_simp; rfl) ?_
        simp only [Act.put, List.setIfInBounds_toArray, List.set_cons_succ, List.set_cons_zero]
        refine hld_done (by kernel_rfl) ?_
        go_wp2_with fail
        go_ret
        have h1 := row_of_owns HO9.out
        have hc : ((L.take J).map Value.string ++ [Value.string p]) ++ (L.drop J).map Value.string = (L.take J ++ [p] ++ L.drop J).map Value.string := by simp
        have hn2 : J + 1 + N = (L.take J ++ [p] ++ L.drop J).length := by simp only [List.length_append, List.length_take, List.length_drop, List.length_singleton]; have := HJL.out; rw [HNN.out]; omega
        rw [hc, hn2] at h1
        rw [HIJ.out]
        exact ⟨_, rfl, RowAt.mono h1 (fun _ _ h => .inr h.1) (by omega), HBU9.out, own_shp HO9.out⟩
end Go.Proofs.YtdieneaillkbgaaGreatDoor

/- Merges of three trees, in plain words: what the specification's Merge does, step by step. -/
namespace Go.Proofs.YtdieneaillkbgaaGreatDoor
open Go
def AscP (L : List ByteArray) : Prop := L.Pairwise fun a b => cmpL (bl a) (bl b) < 0
theorem cmpP_trans {a b c : ByteArray} (h1 : cmpL (bl a) (bl b) < 0) (h2 : cmpL (bl b) (bl c) < 0) : cmpL (bl a) (bl c) < 0 :=
  cmpE_lt_trans (a := ⟨a, 0, 0, 0, [], a⟩) (b := ⟨b, 0, 0, 0, [], b⟩) (c := ⟨c, 0, 0, 0, [], c⟩) h1 h2
theorem addS_lt {L : List ByteArray} {x p : ByteArray} (h : cmpL (bl x) (bl p) < 0) : addS (x :: L) p = x :: addS L p := by
  unfold addS
  rw [List.takeWhile_cons_of_pos (by simpa using h), List.dropWhile_cons_of_pos (by simpa using h)]
  split <;> rfl
theorem addS_ge {L : List ByteArray} {x p : ByteArray} (h : ¬ cmpL (bl x) (bl p) < 0) : addS (x :: L) p = if x = p then x :: L else p :: x :: L := by
  unfold addS
  rw [List.takeWhile_cons_of_neg (by simpa using h), List.dropWhile_cons_of_neg (by simpa using h)]
  simp
theorem addS_mem {p q : ByteArray} : ∀ {L : List ByteArray}, q ∈ addS L p ↔ q = p ∨ q ∈ L
  | [] => by simp [addS]
  | x :: L => by
    by_cases h : cmpL (bl x) (bl p) < 0
    · rw [addS_lt h, List.mem_cons, addS_mem, List.mem_cons]
      constructor
      · rintro (h | h | h) <;> simp [h]
      · rintro (h | h | h) <;> simp [h]
    · rw [addS_ge h]
      split
      · rename_i hx; subst hx; simp
      · simp
theorem addS_asc {p : ByteArray} : ∀ {L : List ByteArray}, AscP L → AscP (addS L p)
  | [], _ => by simp [addS, AscP]
  | x :: L, h => by
    have hx := List.pairwise_cons.1 h
    by_cases hlt : cmpL (bl x) (bl p) < 0
    · rw [addS_lt hlt]
      refine List.pairwise_cons.2 ⟨fun q hq => ?_, addS_asc hx.2⟩
      rcases addS_mem.1 hq with rfl | hq
      · exact hlt
      · exact hx.1 q hq
    · rw [addS_ge hlt]
      split
      · exact h
      · rename_i hne
        have h1 := cmp_neg (bl x) (bl p)
        have h2 : cmpL (bl x) (bl p) ≠ 0 := fun h0 => hne (bl_inj ((cmp_zero _ _).1 h0))
        have h3 : cmpL (bl p) (bl x) < 0 := by omega
        refine List.pairwise_cons.2 ⟨fun q hq => ?_, h⟩
        rcases List.mem_cons.1 hq with rfl | hq
        · exact h3
        · exact cmpP_trans h3 (hx.1 q hq)
theorem addS_len {p : ByteArray} : ∀ {L : List ByteArray}, (addS L p).length ≤ L.length + 1
  | [] => by simp [addS]
  | x :: L => by
    by_cases h : cmpL (bl x) (bl p) < 0
    · rw [addS_lt h, List.length_cons, List.length_cons]; have := addS_len (p := p) (L := L); omega
    · rw [addS_ge h]; split <;> simp
/-- An ascending list of the paths of a set. -/
structure SetP (L : List ByteArray) (K : ByteArray → Bool) : Prop where
  asc : AscP L
  mem : ∀ q, q ∈ L ↔ K q = true
theorem SetP.add {L : List ByteArray} {K : ByteArray → Bool} (h : SetP L K) (p : ByteArray) : SetP (addS L p) (fun q => decide (q = p) || K q) :=
  ⟨addS_asc h.asc, fun q => by rw [addS_mem, h.mem]; simp⟩
theorem SetP.of {L : List ByteArray} {K K' : ByteArray → Bool} (h : SetP L K) (e : ∀ q, K q = K' q) : SetP L K' := ⟨h.asc, fun q => by rw [h.mem, e]⟩
theorem asc_nodup {L : List ByteArray} (h : AscP L) : L.Nodup := h.imp fun {a b} h e => by rw [e, (cmp_zero (bl b) (bl b)).2 rfl] at h; omega
/-- The paths of lists of entries. -/
def addAll (L : List ByteArray) (es : List Ent) : List ByteArray := es.foldl (fun L e => addS L e.path) L
theorem addAll_snoc {L : List ByteArray} {es : List Ent} {e : Ent} : addAll L (es ++ [e]) = addS (addAll L es) e.path := by unfold addAll; rw [List.foldl_append]; rfl
theorem addAll_asc {es : List Ent} : ∀ {L : List ByteArray}, AscP L → AscP (addAll L es) := by
  induction es with
  | nil => exact fun h => h
  | cons e es ih => exact fun h => ih (addS_asc h)
theorem addAll_mem {q : ByteArray} {es : List Ent} : ∀ {L : List ByteArray}, q ∈ addAll L es ↔ q ∈ L ∨ q ∈ es.map Ent.path := by
  induction es with
  | nil => intro L; simp [addAll]
  | cons e es ih =>
    intro L
    have h1 : addAll L (e :: es) = addAll (addS L e.path) es := rfl
    rw [h1, ih, addS_mem, List.map_cons, List.mem_cons]
    constructor
    · rintro ((h | h) | h) <;> simp [h]
    · rintro (h | h | h) <;> simp [h]
theorem addAll_len {es : List Ent} : ∀ {L : List ByteArray}, (addAll L es).length ≤ L.length + es.length := by
  induction es with
  | nil => intro L; exact Nat.le_refl _
  | cons e es ih =>
    intro L
    have h1 : addAll L (e :: es) = addAll (addS L e.path) es := rfl
    have h2 := ih (L := addS L e.path)
    have h3 := addS_len (p := e.path) (L := L)
    rw [h1, List.length_cons]; omega
/- A list of entries that answers as a look-up. -/
structure LookL (M : List Ent) (R : Look) : Prop where
  ord : SortedE M
  look : ∀ p, findE M p = R p
theorem LookL.of {M : List Ent} {R R' : Look} (h : LookL M R) (e : R = R') : LookL M R' := e ▸ h
theorem LookL.mem {M : List Ent} {R : Look} (h : LookL M R) {e : Ent} : e ∈ M ↔ R e.path = some e := by rw [look_mem h.ord, h.look]
theorem drop_look {M : List Ent} {p q : ByteArray} : findE (dropE M p) q = if q = p then none else findE M q := by
  induction M with
  | nil => simp [dropE, findE]
  | cons x M ih =>
    unfold dropE at ih ⊢
    by_cases hx : x.path = p
    · rw [List.filter_cons_of_neg (by simpa using hx), ih, findE_cons]
      by_cases hq : q = p
      · rw [if_pos hq, if_pos hq]
      · rw [if_neg hq, if_neg hq, if_neg (fun h => hq (by rw [← h, hx]))]
    · rw [List.filter_cons_of_pos (by simpa using hx), findE_cons, findE_cons, ih]
      by_cases hq : x.path = q
      · rw [if_pos hq, if_pos hq, if_neg (fun h => hx (by rw [hq, h]))]
      · rw [if_neg hq, if_neg hq]
theorem drop_sorted {M : List Ent} {p : ByteArray} (h : SortedE M) : SortedE (dropE M p) := List.Pairwise.sublist List.filter_sublist h
theorem LookL.put {M : List Ent} {R : Look} (h : LookL M R) {y : Ent} {p : ByteArray} (hy : y.path = p) (hn : R p = none) : LookL (insF M y) (setL R p (some y)) := by
  have hne : ∀ f ∈ M, f.path ≠ y.path := fun f hf e => by
    have h1 := h.mem.1 hf
    rw [e, hy, hn] at h1; cases h1
  have hs := insF_sorted h.ord hne
  refine ⟨hs, fun q => ?_⟩
  have hp : (y :: M).Perm (insF M y) := (insF_perm M y).symm
  have hnd : ((y :: M).map Ent.path).Nodup := ((insF_perm M y).map Ent.path).nodup_iff.1 hs.nodup
  rw [← findE_perm hp hnd, findE_cons, h.look]
  unfold setL
  by_cases hq : q = p
  · rw [if_pos hq, if_pos (by rw [hy, hq])]
  · rw [if_neg hq, if_neg (by rw [hy]; exact fun h => hq h.symm)]
theorem LookL.swap {M : List Ent} {R : Look} (h : LookL M R) {y : Ent} {p : ByteArray} (hy : y.path = p) : LookL (insF (dropE M p) y) (setL R p (some y)) := by
  have h0 : LookL (dropE M p) (fun q => if q = p then none else R q) := ⟨drop_sorted h.ord, fun q => by rw [drop_look, h.look]⟩
  refine (h0.put hy (by simp)).of ?_
  funext q
  unfold setL
  by_cases hq : q = p
  · rw [if_pos hq, if_pos hq]
  · rw [if_neg hq, if_neg hq]; exact if_neg hq
/- What is decided at one path. -/
def hvE (x l r : List Ent) (p : ByteArray) : Ent := if atE l p = atE r p then atE l p else if atE l p = atE x p then atE r p else atE l p
def cfE (x l r : List Ent) (p : ByteArray) : Bool := decide (atE l p ≠ atE r p) && (decide (atE l p ≠ atE x p) && decide (atE r p ≠ atE x p))
theorem at_same {l r : List Ent} (hl : TOk l) (hr : TOk r) {p : ByteArray} : atE l p = atE r p ↔ findE l p = findE r p := by
  unfold atE
  cases h1 : findE l p with
  | none =>
    cases h2 : findE r p with
    | none => simp
    | some f =>
      have h3 := vEnt_kind (hr.val f (findE_some h2).1)
      simp only [Option.getD_none, Option.getD_some, reduceCtorEq, iff_false]
      intro h; rw [← h] at h3; exact h3 rfl
  | some e =>
    have h3 := vEnt_kind (hl.val e (findE_some h1).1)
    cases h2 : findE r p with
    | none =>
      simp only [Option.getD_none, Option.getD_some, reduceCtorEq, iff_false]
      intro h; rw [h] at h3; exact h3 rfl
    | some f => simp
theorem hv_dec {x l r : List Ent} (hx : TOk x) (hl : TOk l) (hr : TOk r) (p : ByteArray) : hvE x l r p = (decM x l r p).getD noEnt ∧ cfE x l r p = confM x l r p := by
  unfold hvE cfE decM confM
  have h1 := at_same hl hr (p := p)
  have h2 := at_same hl hx (p := p)
  have h3 := at_same hr hx (p := p)
  constructor
  · by_cases a1 : findE l p = findE r p
    · rw [if_pos a1, if_pos (h1.2 a1)]; rfl
    · rw [if_neg a1, if_neg (fun h => a1 (h1.1 h))]
      by_cases a2 : findE l p = findE x p
      · rw [if_pos a2, if_pos (h2.2 a2)]; rfl
      · rw [if_neg a2, if_neg (fun h => a2 (h2.1 h))]; rfl
  · rw [decide_eq_decide.2 (not_congr h1), decide_eq_decide.2 (not_congr h2), decide_eq_decide.2 (not_congr h3)]
theorem dec_kind {x l r : List Ent} (hl : TOk l) (hr : TOk r) {p : ByteArray} {e : Ent} (h : decM x l r p = some e) : e.kind ≠ 0 ∧ e.path = p := by
  rcases dec_from (x := x) (l := l) (r := r) (p := p) with h1 | h1
  · rw [h1] at h; have := findE_some h; exact ⟨vEnt_kind (hl.val e this.1), this.2⟩
  · rw [h1] at h; have := findE_some h; exact ⟨vEnt_kind (hr.val e this.1), this.2⟩
/- Leaving out what has no directory above it. -/
def keptL (M : List Ent) (R : Look) (k : Nat) : List Ent := (M.take k).filter fun e => (outM R e.path).isSome
theorem kept_sorted {M : List Ent} {R : Look} (h : LookL M R) (k : Nat) : SortedE (keptL M R k) := List.Pairwise.sublist (List.filter_sublist.trans (List.take_sublist k M)) h.ord
theorem kept_all {M : List Ent} {R : Look} (h : LookL M R) : LookL (keptL M R M.length) (outM R) := by
  refine ⟨kept_sorted h _, fun p => ?_⟩
  have hs := kept_sorted h M.length
  cases ho : outM R p with
  | none =>
    cases hf : findE (keptL M R M.length) p with
    | none => rfl
    | some f =>
      obtain ⟨h1, h2⟩ := findE_some hf
      have h3 := (List.mem_filter.1 h1).2
      rw [h2, ho] at h3; cases h3
  | some f =>
    have hR : R p = some f := by unfold outM at ho; split at ho; exact ho; cases ho
    have hf := findE_some (by rw [h.look]; exact hR : findE M p = some f)
    have hk : f ∈ keptL M R M.length := List.mem_filter.2 ⟨by rw [List.take_length]; exact hf.1, by rw [hf.2, ho]; rfl⟩
    have h1 := (look_mem hs).1 hk
    rw [hf.2] at h1; exact h1
theorem kept_par {M : List Ent} {R : Look} (h : LookL M R) {k : Nat} {e : Ent} (he : M[k]? = some e) (hd : parentL (bl e.path) ≠ []) : findE (keptL M R k) ⟨(parentL (bl e.path)).toArray⟩ = outM R ⟨(parentL (bl e.path)).toArray⟩ := by
  have hlt : cmpL (bl ⟨(parentL (bl e.path)).toArray⟩) (bl e.path) < 0 := by rw [bl_of]; exact up_cmp (up_step.2 ⟨hd, Or.inl rfl⟩)
  obtain ⟨q, hq⟩ : ∃ q : ByteArray, q = ⟨(parentL (bl e.path)).toArray⟩ := ⟨_, rfl⟩
  rw [← hq] at hlt ⊢
  cases ho : outM R q with
  | none =>
    cases hf : findE (keptL M R k) q with
    | none => rfl
    | some f =>
      obtain ⟨h1, h2⟩ := findE_some hf
      have h3 := (List.mem_filter.1 h1).2
      rw [h2, ho] at h3; cases h3
  | some f =>
    have hR : R q = some f := by unfold outM at ho; split at ho; exact ho; cases ho
    obtain ⟨hm, hfp⟩ := findE_some (by rw [h.look]; exact hR : findE M q = some f)
    obtain ⟨j, hj⟩ := List.mem_iff_getElem?.1 hm
    obtain ⟨hj1, hj2⟩ := List.getElem?_eq_some_iff.1 hj
    obtain ⟨hk1, hk2⟩ := List.getElem?_eq_some_iff.1 he
    have hjk : j < k := by
      rcases Nat.lt_trichotomy j k with h1 | h1 | h1
      · exact h1
      · exfalso; subst h1; rw [hj] at he; have := Option.some.inj he; rw [← this, hfp, (cmp_zero _ _).2 rfl] at hlt; omega
      · exfalso
        have h2 := List.pairwise_iff_getElem.1 h.ord k j hk1 hj1 h1
        rw [hk2, hj2] at h2
        unfold cmpE at h2
        rw [hfp] at h2
        have := cmp_neg (bl e.path) (bl q)
        omega
    have hk : f ∈ keptL M R k := List.mem_filter.2 ⟨List.mem_iff_getElem?.2 ⟨j, by rw [List.getElem?_take, if_pos hjk, hj]⟩, by rw [hfp, ho]; rfl⟩
    have h1 := (look_mem (kept_sorted h k)).1 hk
    rw [hfp] at h1; exact h1
theorem kept_step {M : List Ent} {R : Look} {k : Nat} {e : Ent} (he : M[k]? = some e) : keptL M R (k + 1) = keptL M R k ++ if (outM R e.path).isSome = true then [e] else [] := by
  unfold keptL
  rw [List.take_add_one, he, List.filter_append]
  congr 1
  cases h : (outM R e.path).isSome <;> simp [h]
/-- The paths left out so far. -/
theorem outK_step {K0 : ByteArray → Bool} {M : List Ent} {R : Look} {k : Nat} {e : Ent} (he : M[k]? = some e) (q : ByteArray) : outK K0 R ((M.take (k + 1)).map Ent.path) q = ((decide (q = e.path) && (outM R e.path).isNone) || outK K0 R ((M.take k).map Ent.path) q) := by
  unfold outK
  rw [List.take_add_one, he, Option.toList_some, List.map_append, List.map_singleton, hasP_snoc]
  by_cases hq : q = e.path
  · subst hq; cases K0 e.path <;> cases hasP ((M.take k).map Ent.path) e.path <;> simp
  · rw [decide_eq_false (fun h : e.path = q => hq h.symm), decide_eq_false hq]; simp
end Go.Proofs.YtdieneaillkbgaaGreatDoor

/- The reference kinkeepref23: Merge. -/
namespace Go.Proofs.YtdieneaillkbgaaGreatDoor
open Go Go.RowKit Go.Maps
theorem addAll_pth {N : Nat} {es : List Ent} {L : List ByteArray} (h : ∀ f ∈ L, f.size ≤ N) (h2 : ∀ e ∈ es, e.path.size ≤ N) : ∀ f ∈ addAll L es, f.size ≤ N := fun f hf => by
  rcases addAll_mem.1 hf with hf | hf
  · exact h f hf
  · obtain ⟨e, he, rfl⟩ := List.mem_map.1 hf; exact h2 e he
theorem three_small {x l r : List Ent} {N M : Nat} (h : x.length ≤ N ∧ l.length ≤ N ∧ r.length ≤ N) (h2 : (∀ e ∈ x, e.path.size ≤ M) ∧ (∀ e ∈ l, e.path.size ≤ M) ∧ ∀ e ∈ r, e.path.size ≤ M) (k : Nat) :
    ([x, l, r].take k).flatten.length ≤ 3 * N ∧ ∀ e ∈ ([x, l, r].take k).flatten, e.path.size ≤ M := by
  constructor
  · match k with
    | 0 => simp
    | 1 => simp; omega
    | 2 => simp; omega
    | k + 3 => simp; omega
  · intro e he
    obtain ⟨L, hL, hm⟩ := List.mem_flatten.1 he
    have := List.mem_of_mem_take hL
    clear he hL
    simp only [List.mem_cons, List.not_mem_nil, or_false] at this
    rcases this with h | h | h
    · exact h2.1 e (h ▸ hm)
    · exact h2.2.1 e (h ▸ hm)
    · exact h2.2.2 e (h ▸ hm)
theorem look_small {M : List Ent} {R : Look} {ps : List ByteArray} (h : LookL M R) (hs : ∀ q, (R q).isSome = true → q ∈ ps) : M.length ≤ ps.length ∧ ∀ e ∈ M, e.path ∈ ps := by
  have h1 : ∀ e ∈ M, e.path ∈ ps := fun e he => hs _ (by rw [h.mem.1 he]; rfl)
  refine ⟨?_, h1⟩
  have := nodup_length (m := ps) h.ord.nodup (fun p hp => by obtain ⟨e, he, rfl⟩ := List.mem_map.1 hp; exact h1 e he)
  rw [List.length_map] at this; exact this
theorem set_small {L ps : List ByteArray} {K : ByteArray → Bool} (h : SetP L K) (hs : ∀ q, K q = true → q ∈ ps) : L.length ≤ ps.length ∧ ∀ f ∈ L, f ∈ ps :=
  ⟨nodup_length (asc_nodup h.asc) fun p hp => hs p ((h.mem p).1 hp), fun p hp => hs p ((h.mem p).1 hp)⟩
/-- A merge under way: the entries so far and the paths in conflict. -/
structure MergeAt (R : Look) (K : ByteArray → Bool) (w : World) (vc vo : Value) (cs : List ByteArray) (M : List Ent) (wr : World) : Prop where
  look : LookL M R
  conf : SetP cs K
  cl : StrsAt (fun _ => True) wr vc cs
  csh : Shp vc
  ml : EntsAt (fun _ => True) wr vo M
  msh : Shp vo
  bel : Below w.heap.size w wr
theorem seenR_in {x l r : List Ent} {s : List ByteArray} {q : ByteArray} (h : (seenR x l r s q).isSome = true) : q ∈ s := by
  unfold seenR at h
  split at h
  · rename_i hq; exact hasP_iff.1 hq
  · cases h
theorem seenK_in {x l r : List Ent} {s : List ByteArray} {q : ByteArray} (h : seenK x l r s q = true) : q ∈ s := by
  unfold seenK at h
  rw [Bool.and_eq_true] at h
  exact hasP_iff.1 h.1
structure PathsL (es : List Ent) (w : World) (v : Value) (ps : List ByteArray) (wr : World) : Prop where
  out : ps = addAll [] es
  lies : StrsAt (fun _ => True) wr v ps
  shp : Shp v
  bel : Below w.heap.size w wr
theorem asc_out {ps : List ByteArray} (h : AscP ps) {k : Nat} {p : ByteArray} (hp : ps[k]? = some p) : p ∉ ps.take k := by
  intro hm
  obtain ⟨j, hj⟩ := List.mem_iff_getElem?.1 hm
  rw [List.getElem?_take] at hj
  split at hj
  · rename_i hjk
    obtain ⟨hj1, hj2⟩ := List.getElem?_eq_some_iff.1 hj
    obtain ⟨hk1, hk2⟩ := List.getElem?_eq_some_iff.1 hp
    have h2 := List.pairwise_iff_getElem.1 h j k hj1 hk1 hjk
    rw [hk2, hj2, (cmp_zero _ _).2 rfl] at h2
    omega
  · cases hj
theorem seenR_out {x l r : List Ent} {s : List ByteArray} {p : ByteArray} (h : p ∉ s) : seenR x l r s p = none := by
  unfold seenR
  rw [if_neg (fun h2 => h (hasP_iff.1 h2))]
theorem seenR_none {x l r : List Ent} {s : List ByteArray} {p : ByteArray} (h : p ∉ s) (hd : decM x l r p = none) : seenR x l r (s ++ [p]) = seenR x l r s := by
  rw [← seenR_step, hd]
  funext q
  unfold setL
  by_cases hq : q = p
  · rw [if_pos hq, hq, seenR_out h]
  · rw [if_neg hq]
theorem MergeAt.below {R : Look} {K : ByteArray → Bool} {w wr w' : World} {vc vo : Value} {cs : List ByteArray} {M : List Ent} (h : MergeAt R K w vc vo cs M wr) (hb : Below wr.heap.size wr w') : MergeAt R K w vc vo cs M w' :=
  ⟨h.look, h.conf, h.cl.below (by omega) hb, h.csh, h.ml.below hb, h.msh, below_next h.bel hb⟩
theorem at_dir {M : List Ent} {R : Look} (h : LookL M R) (q : ByteArray) : isDirO (R q) = decide ((atE M q).kind = 2) := by
  rw [← h.look]
  unfold atE
  cases findE M q <;> rfl
theorem kept_dir {M : List Ent} {R : Look} {k : Nat} {e : Ent} (h : LookL M R) (he : M[k]? = some e) {q : ByteArray} (hq : bl q = parentL (bl e.path)) : dirE (keptL M R k) (bl q) = 0 ↔ (outM R e.path).isSome = true := by
  have hR : R e.path = some e := h.mem.1 (List.mem_of_getElem? he)
  have hqe : q = ⟨(parentL (bl e.path)).toArray⟩ := bl_inj (hq.trans (bl_of _).symm)
  rw [dirE_bl, out_step]
  by_cases hp : parentL (bl e.path) = []
  · rw [if_pos (by rw [hq, hp]), if_pos (.inl hp), hR]; simp
  · rw [if_neg (by rw [hq]; exact hp), hqe, kept_par h he hp]
    cases ho : outM R ⟨(parentL (bl e.path)).toArray⟩ with
    | none => simp [hp, isDirO]
    | some f =>
      by_cases hk : f.kind = 2
      · simp [isDirO, hk, hR]
      · simp [hp, isDirO, hk]
structure KeptAt (M : List Ent) (R : Look) (K0 : ByteArray → Bool) (w : World) (k : Nat) (vc vk : Value) (cs : List ByteArray) (ys : List VEnt) (wr : World) : Prop where
  out : ys.map Prod.snd = keptL M R k
  conf : SetP cs (outK K0 R ((M.take k).map Ent.path))
  cl : StrsAt (fun j => vk.ownBlock ≠ some j) wr vc cs
  csh : Shp vc
  row : wr.ownsRow w.heap.size 48 6 vk ys.length (entsC ys)
  dat : ∀ y ∈ ys, DataAt (fun j => j < w.heap.size) w y.1 y.2.data ∧ EntOk y.2
  bel : Below w.heap.size w wr
theorem kept_len {M : List Ent} {R : Look} {k : Nat} : (keptL M R k).length ≤ M.length := Nat.le_trans (List.length_filter_le _ _) (by rw [List.length_take]; omega)
theorem strs_grown {S : Nat → Prop} {w w' : World} {v : Value} {n : Nat} {xs : List Value} {r : Option Nat} (h : RowAt S w 1 v n xs) (hg : w.grownBy w' r) (hs : ∀ k, S k → r ≠ some k) : RowAt S w' 1 v n xs := by
  have h2 := RowAt.mono (T := fun k => S k ∧ k < w.heap.size) h (fun k hk hS => ⟨hS, hk⟩) (by omega)
  have h3 := h2.same (w' := w') (fun k hk => hg.block k hk.2 (fun e => hs k hk.1 e.symm))
  exact RowAt.mono h3 (fun k _ hk => hk.1) (by omega)
theorem keptK {M : List Ent} {R : Look} {K0 : ByteArray → Bool} {w wr w6 w8 : World} {k : Nat} {vc vk v8 dv : Value} {cs : List ByteArray} {ys : List VEnt} {e : Ent} (h : KeptAt M R K0 w k vc vk cs ys wr) (hks : keptL M R (k + 1) = keptL M R k ++ if (outM R e.path).isSome = true then [e] else []) (his : (outM R e.path).isSome = true)
    (hos : ∀ q, outK K0 R ((M.take (k + 1)).map Ent.path) q = ((decide (q = e.path) && (outM R e.path).isNone) || outK K0 R ((M.take k).map Ent.path) q)) (hd : DataAt (fun j => j < w.heap.size) w dv e.data) (hok : EntOk e) (hown : w8.ownsRow w.heap.size 48 6 v8 (ys.length + 1) (entsC ys ++ entC dv e)) (hg : w6.grownBy w8 vk.ownBlock)
    (hpl : ∀ j, v8.ownBlock = some j → vk.ownBlock = some j ∨ w6.heap.size ≤ j) (hrow : w6.ownsRow w.heap.size 48 6 vk ys.length (entsC ys)) (hb : Below wr.heap.size wr w6) (hbb : w.heap.size ≤ w6.heap.size) : KeptAt M R K0 w (k + 1) vc v8 cs (ys ++ [(dv, e)]) w8 := by
  have hn : (outM R e.path).isNone = false := by cases h3 : outM R e.path with
    | none => rw [h3] at his; cases his
    | some f => rfl
  refine ⟨?_, h.conf.of (fun q => ?_), ?_, h.csh, ?_, ?_, below_grown (below_next h.bel hb) hrow hg (Nat.le_refl _) hbb⟩
  · rw [List.map_append, h.out, hks, if_pos his]; rfl
  · rw [hos, hn, Bool.and_false, Bool.false_or]
  · have h1 := h.cl.below (by omega) hb
    have h2 := RowAt.mono (T := fun j => v8.ownBlock ≠ some j ∧ vk.ownBlock ≠ some j) h1 (fun j hj hS => ⟨fun e => (hpl j e).elim hS (fun h => by omega), hS⟩) (by omega)
    exact RowAt.mono (strs_grown h2 hg (fun j hj => hj.2)) (fun j _ hj => hj.1) (by omega)
  · rw [List.length_append, List.length_singleton, entsC_snoc]; exact hown
  · intro y hy
    rcases List.mem_append.1 hy with hy | hy
    · exact h.dat y hy
    · rw [List.mem_singleton] at hy
      subst hy
      exact ⟨hd, hok⟩
theorem kinv_in {R0 : Look} {l s : List Ent} {F : ByteArray → Bool} (h : KInv R0 l s F) (hl : TOk l) {q : ByteArray} (hq : F q = true) : q ∈ l.map Ent.path := by
  have h1 := h.fix q hq
  unfold fixM needM at h1
  rw [Bool.and_eq_true, List.any_eq_true] at h1
  obtain ⟨⟨e, he, hx⟩, _⟩ := h1
  rw [Bool.and_eq_true] at hx
  have h2 := left_dir hl he hx.2
  refine findE_isSome.1 ?_
  unfold hasE
  cases hf : findE l q with
  | none => rw [hf] at h2; cases h2
  | some f => rfl
theorem dec_in {x l r : List Ent} {q : ByteArray} (h : (decM x l r q).isSome = true) : q ∈ l.map Ent.path ∨ q ∈ r.map Ent.path := by
  rcases dec_from (x := x) (l := l) (r := r) (p := q) with h1 | h1
  · rw [h1] at h; exact .inl (findE_isSome.1 h)
  · rw [h1] at h; exact .inr (findE_isSome.1 h)
theorem conf_in {x l r : List Ent} {q : ByteArray} (h : confM x l r q = true) : q ∈ l.map Ent.path ∨ q ∈ r.map Ent.path := by
  cases hl : findE l q with
  | some f => exact .inl (findE_isSome.1 (show (findE l q).isSome = true by rw [hl]; rfl))
  | none =>
    cases hr : findE r q with
    | some f => exact .inr (findE_isSome.1 (show (findE r q).isSome = true by rw [hr]; rfl))
    | none => rw [(dec_out (x := x) hl hr).2] at h; cases h
theorem fix_in {x l r s : List Ent} {F : ByteArray → Bool} (h : KInv (decM x l r) l s F) (hl : TOk l) {q : ByteArray} (hq : (fixR (decM x l r) l F q).isSome = true) : q ∈ l.map Ent.path ∨ q ∈ r.map Ent.path := by
  unfold fixR at hq
  by_cases hF : F q = true
  · exact .inl (kinv_in h hl hF)
  · rw [if_neg hF] at hq; exact dec_in hq
theorem fix_nil (R0 : Look) (l : List Ent) : fixR R0 l (fun _ => false) = R0 := by funext q; unfold fixR; simp
theorem same_left {l : List Ent} {e : Ent} (hk : e.kind ≠ 0) : e = atE l e.path ↔ findE l e.path = some e := by
  unfold atE
  cases h : findE l e.path with
  | none =>
    simp only [Option.getD_none, reduceCtorEq, iff_false]
    intro h2; rw [h2] at hk; exact hk rfl
  | some f => simp only [Option.getD_some, Option.some.injEq]; exact ⟨fun h => h.symm, fun h => h.symm⟩
/-- Those of a list that are in the left tree. -/
def leftL (l M : List Ent) : List Ent := M.filter fun e => decide (findE l e.path = some e)
theorem left_step {l M : List Ent} {k : Nat} {e : Ent} (he : M[k]? = some e) : leftL l (M.take (k + 1)) = leftL l (M.take k) ++ if findE l e.path = some e then [e] else [] := by
  unfold leftL
  rw [List.take_add_one, he, List.filter_append]
  congr 1
  by_cases h : findE l e.path = some e
  · rw [if_pos h]; simp [h]
  · rw [if_neg h]; simp [h]
theorem left_end {x l r M : List Ent} {F : ByteArray → Bool} (hl : TOk l) (hM : LookL M (decM x l r)) (h : KInv (decM x l r) l (leftL l M) F) : F = fixM (decM x l r) l := by
  refine KInv.fin ⟨h.fix, fun e he hR q hq => h.done e (List.mem_filter.2 ⟨hM.mem.2 hR, by simpa using findE_mem hl.nodup he⟩) hR q hq⟩
theorem parent_short {c : List UInt8} (h : c ≠ []) : (parentL c).length < c.length := by
  by_cases hp : parentL c = []
  · rw [hp]; exact List.length_pos_iff.2 h
  · obtain ⟨t, ht⟩ := parent_back hp
    have := congrArg List.length ht
    simp only [List.length_append, List.length_cons] at this
    omega
set_option maxRecDepth 100000 in
set_option maxHeartbeats 40000000 in
theorem r_merge_any (S T U : Nat → Prop) (x l r : List Ent) (vx vl vr : Value) (w : World) (hx : EntsAt S w vx x) (hl : EntsAt T w vl l) (hr : EntsAt U w vr r) (htx : TOk x) (htl : TOk l) (htr : TOk r)
  (hlen : x.length ≤ 40 ∧ l.length ≤ 40 ∧ r.length ≤ 40) (hps : (∀ e ∈ x, e.path.size ≤ 65000) ∧ (∀ e ∈ l, e.path.size ≤ 65000) ∧ ∀ e ∈ r, e.path.size ≤ 65000) :
  Calls Tryz.prog 20 #[vx, vl, vr] w fun e w' => ∃ m k vm vk, e = .returned (.tuple #[vm, vk, .int .i64 0]) ∧ IsMerge x l r m k ∧ EntsAt (fun _ => True) w' vm m ∧ StrsAt (fun _ => True) w' vk k ∧ Below w.heap.size w w' := by
 have HX := Lib.hid (ents_old hx)
 have HL := Lib.hid (ents_old hl)
 have HR := Lib.hid (ents_old hr)
 have HTX := Lib.hid htx
 have HTL := Lib.hid htl
 have HTR := Lib.hid htr
 have HLEN := Lib.hid hlen
 have HPS := Lib.hid hps
 obtain ⟨ax, cx, rfl, hcx, hmx, -⟩ := SeqAt.shape hx EntR.len
 obtain ⟨al, cl, rfl, hcl, hml, -⟩ := SeqAt.shape hl EntR.len
 obtain ⟨ar, cr, rfl, hcr, hmr, -⟩ := SeqAt.shape hr EntR.len
 unfold maxLen at hmx hml hmr
 obtain ⟨nx, hnx⟩ : ∃ n, n = x.length := ⟨_, rfl⟩
 obtain ⟨nl, hnl⟩ : ∃ n, n = l.length := ⟨_, rfl⟩
 obtain ⟨nr, hnr⟩ : ∃ n, n = r.length := ⟨_, rfl⟩
 rw [← hnx] at hcx HX ⊢
 rw [← hnl] at hcl HL ⊢
 rw [← hnr] at hcr HR ⊢
 have HNX := Lib.hid hnx
 have HNL := Lib.hid hnl
 have HNR := Lib.hid hnr
 clear hx hl hr htx htl htr hnx hnl hnr hlen hps
 go_enter Tryz.func20, Tryz.ntmps20
 go_wp2_with fail
 obtain ⟨w1, hw1⟩ : ∃ Z : World, Z = w.alloc (.cells #[.slice ax nx cx, .slice al nl cl, .slice ar nr cr] 22) := ⟨_, rfl⟩
 rw [← hw1]
 have HB1 := Lib.hid (show Below w.heap.size w w1 by rw [hw1]; exact (Below.refl _ _).alloc (Nat.le_refl _) _)
 have HQ1 := Lib.hid (show w1.heap[w.heap.size]? = some (.cells #[.slice ax nx cx, .slice al nl cl, .slice ar nr cr] 22 (0, 0)) by rw [hw1]; exact new20 w _)
 obtain ⟨lb, hlb⟩ : ∃ z, z = w.heap.size := ⟨_, rfl⟩
 rw [← hlb] at HQ1 ⊢
 clear hw1 hlb
 go_loopw [9, 33] (fun pv i wr => ∃ (k : Nat) (ps : List ByteArray), k ≤ 3 ∧ i = .int .i64 k ∧ PathsL (([x, l, r].take k).flatten) w1 pv ps wr) (fun _ i _ => 3 - (intOf i).toNat)
 case atStart => exact ⟨0, [], Nat.zero_le _, rfl, ⟨rfl, RowAt.nil _ _ _, .inl rfl, Below.refl _ _⟩⟩
 case round =>
  obtain ⟨k, ps, hk, rfl, hlp⟩ := hrel
  have HLP := Lib.hid hlp
  clear hlp
  obtain ⟨wo, hwo⟩ : ∃ Z : World, Z = wr := ⟨_, rfl⟩
  rw [← hwo] at HLP ⊢
  clear hwo
  have HQO := Lib.hid ((HLP.out.bel.block _ (lt20 HQ1.out)).trans HQ1.out)
  have HBO := Lib.hid (below_next HB1.out HLP.out.bel)
  by_cases hlt : k < 3
  ·obtain ⟨cur, ac, cc, n, hn, hcell, hcur, hfl, hcl2, hpc⟩ : ∃ (cur : List Ent) (ac : Option Addr) (cc n : Nat), n = cur.length ∧ wo.cell? ⟨lb, k, none⟩ = some (.slice ac n cc) ∧ EntsAt (fun _ => True) wo (.slice ac n cc) cur ∧ ([x, l, r].take (k + 1)).flatten = ([x, l, r].take k).flatten ++ cur ∧ cur.length ≤ 40 ∧ ∀ e ∈ cur, e.path.size ≤ 65000 := by
    have h0 := cell20 (k := k) HQO.out
    rcases (show k = 0 ∨ k = 1 ∨ k = 2 by omega) with rfl | rfl | rfl
    ·exact ⟨x, ax, cx, nx, HNX.out, h0, ents_all (HX.out.below HBO.out), by simp, HLEN.out.1, HPS.out.1⟩
    ·exact ⟨l, al, cl, nl, HNL.out, h0, ents_all (HL.out.below HBO.out), by simp, HLEN.out.2.1, HPS.out.2.1⟩
    ·exact ⟨r, ar, cr, nr, HNR.out, h0, ents_all (HR.out.below HBO.out), by simp, HLEN.out.2.2, HPS.out.2.2⟩
   obtain ⟨_, _, he, hcn, hcm, -⟩ := SeqAt.shape hcur EntR.len
   simp only [Value.slice.injEq] at he
   obtain ⟨-, -, rfl⟩ := he
   unfold maxLen at hcm
   rw [← hn] at hcn
   have HCUR := Lib.hid hcur
   have HFL := Lib.hid hfl
   have HN := Lib.hid hn
   have HCL := Lib.hid hcl2
   have HPC := Lib.hid hpc
   have hltb := lt20 HQO.out
   clear hcur hfl hn hcl2 hpc
   have hk3 : (k : Int) < 3 := by omega
   go_wp2_with fail
   have HFS := Lib.hid (three_small HLEN.out HPS.out k)
   go_loopw [9, 39] (fun pv i w4 => ∃ (j : Nat) (ps2 : List ByteArray), j ≤ n ∧ i = .int .i64 j ∧ PathsL (([x, l, r].take k).flatten ++ cur.take j) wo pv ps2 w4) (fun _ i _ => n - (intOf i).toNat)
   case atStart => exact ⟨0, ps, Nat.zero_le _, rfl, ⟨by rw [List.take_zero, List.append_nil]; exact HLP.out.out, HLP.out.lies, HLP.out.shp, Below.refl _ _⟩⟩
   case round =>
    obtain ⟨j, ps2, hj, rfl, hlq⟩ := hrel
    have HLQ := Lib.hid hlq
    clear hlq
    by_cases hltj : j < n
    ·obtain ⟨e, hec⟩ : ∃ e, cur[j]? = some e := ⟨cur[j]'(by rw [← HN.out]; exact hltj), by simp⟩
     obtain ⟨b0, o0, dv, rfl, -, hb0, hd, hok, -, q0, q1, q2, q3, q4, q5⟩ := ents_at (HCUR.out.below HLQ.out.bel) hec
     have HPE := Lib.hid hok.pth
     have HEC := Lib.hid hec
     obtain ⟨a1, cap1, rfl, hd1, hd2⟩ := hd.slice
     unfold maxLen at hd2
     clear hec hd hok
     go_upto_region 8 with (fail)
     obtain ⟨W, hW⟩ : ∃ Z : World, Z = wr.alloc (.cells #[.string e.path, .int .i64 e.kind, .int .i64 e.mode, .int .i64 e.time, .slice a1 e.data.length cap1, .string e.link] 48) := ⟨_, rfl⟩
     rw [← hW]
     have HW := Lib.hid (show Below wr.heap.size wr W by rw [hW]; exact (Below.refl _ _).alloc (Nat.le_refl _) _)
     have HXW := Lib.hid (show W.heap[wr.heap.size]? = some (.cells #[.string e.path, .int .i64 e.kind, .int .i64 e.mode, .int .i64 e.time, .slice a1 e.data.length cap1, .string e.link] 48 (0, 0)) by rw [hW]; exact new20 wr _)
     clear hW q0 q1 q2 q3 q4 q5
     have HPL := Lib.hid (show ps2.length ≤ 8200 ∧ ∀ f ∈ ps2, f.size ≤ 65536 by
      rw [HLQ.out.out]
      constructor
      ·have h1 := @addAll_len (([x, l, r].take k).flatten ++ cur.take j) []
       have h2 := HFS.out.1
       have h3 := HCL.out
       rw [List.length_append, List.length_take, List.length_nil] at h1
       omega
      ·refine addAll_pth (by simp) fun e he => ?_
       rcases List.mem_append.1 he with he | he
       ·have := HFS.out.2 e he; omega
       ·have := HPC.out e (List.mem_of_mem_take he); omega)
     have c0 := cell20 (k := 0) HXW.out
     have c1 := cell20 (k := 1) HXW.out
     have c2 := cell20 (k := 2) HXW.out
     have c3 := cell20 (k := 3) HXW.out
     have c4 := cell20 (k := 4) HXW.out
     have c5 := cell20 (k := 5) HXW.out
     have hltX := lt20 HXW.out
     simp only [List.getElem?_toArray, List.getElem?_cons_succ, List.getElem?_cons_zero] at c0 c1 c2 c3 c4 c5
     have hadd := r_add_any _ ps2 _ e.path W (HLQ.out.lies.below (by omega) HW.out) HLQ.out.shp HPL.out.1 HPL.out.2
     go_wp2_with (go_at_call 53; refine hadd.mono ?_; rintro e5 w5 ⟨v5, rfl, hs5, hb5, hsh5⟩; have HS5 := Lib.hid (strs_all hs5); have HSH5 := Lib.hid hsh5; have HB5 := Lib.hid (below_next (below_next HLQ.out.bel HW.out) hb5); clear hs5 hsh5 hb5 hadd c0 c1 c2 c3 c4 c5 hltX)
     go_roundw
     case rel => exact ⟨j + 1, addS ps2 e.path, by omega, by go_num, ⟨by rw [HLQ.out.out, List.take_add_one, HEC.out, Option.toList_some, ← List.append_assoc, addAll_snoc], HS5.out, HSH5.out, HB5.out⟩⟩
     case measure => simp [intOf]; omega
    ·have hj2 : j = n := by omega
     have HO := Lib.hid (show ps2 = addAll [] (([x, l, r].take (k + 1)).flatten) by rw [HLQ.out.out, HFL.out, hj2, HN.out, List.take_length])
     clear hj2
     go_wp2_with fail
     go_roundw
     case rel => exact ⟨k + 1, ps2, by omega, by go_num, ⟨HO.out, HLQ.out.lies, HLQ.out.shp, HLP.out.bel.trans (HLQ.out.bel.mono HLP.out.bel.size)⟩⟩
     case measure => simp [intOf]; omega
  ·have hk3 : k = 3 := by omega
   obtain ⟨PS, hPS⟩ : ∃ PS, PS = addAll [] (x ++ l ++ r) := ⟨_, rfl⟩
   have HPSQ := Lib.hid hPS
   have hps : ps = PS := by rw [HLP.out.out, hk3, hPS]; simp
   subst hps
   obtain ⟨np, hnp⟩ : ∃ n, n = ps.length := ⟨_, rfl⟩
   have HNP := Lib.hid hnp
   have HPAS := Lib.hid (show AscP ps by rw [hPS]; exact addAll_asc List.Pairwise.nil)
   have HPL := Lib.hid (show ps.length ≤ 120 ∧ ∀ f ∈ ps, f.size ≤ 65000 by
    have h3 := three_small HLEN.out HPS.out 3
    have e3 : ([x, l, r].take 3).flatten = x ++ l ++ r := by simp
    rw [e3] at h3
    rw [hPS]
    constructor
    ·have h1 := @addAll_len (x ++ l ++ r) []
     rw [List.length_nil] at h1
     omega
    ·exact addAll_pth (by simp) h3.2)
   obtain ⟨ap, cp, hsv, hcp, hmp, -⟩ := StrsAt.shape HLP.out.lies
   subst hsv
   rw [← hnp] at HLP hcp ⊢
   unfold maxLen at hmp
   clear hPS hnp hk3
   go_wp2_with fail
   obtain ⟨w2, hw2⟩ : ∃ Z : World, Z = wo := ⟨_, rfl⟩
   rw [← hw2] at HLP HBO ⊢
   clear hw2 HQO
   go_loopw [10, 15, 51] (fun vc vo i wr => ∃ (k : Nat) (cs : List ByteArray) (M : List Ent), k ≤ np ∧ i = .int .i64 k ∧ MergeAt (seenR x l r (ps.take k)) (seenK x l r (ps.take k)) w2 vc vo cs M wr) (fun _ _ i _ => np - (intOf i).toNat)
   case atStart =>
    refine ⟨0, [], [], Nat.zero_le _, rfl, ⟨⟨List.Pairwise.nil, fun p => ?_⟩, ⟨List.Pairwise.nil, fun q => ?_⟩, RowAt.nil _ _ _, .inl rfl, EntsAt.nil _ _, .inl rfl, Below.refl _ _⟩⟩
    ·simp [seenR, hasP, findE]
    ·simp [seenK, hasP]
   case round =>
    obtain ⟨k, cs, M, hk, rfl, hma⟩ := hrel
    have HMA := Lib.hid hma
    have HB3 := Lib.hid (below_next HBO.out hma.bel)
    clear hma
    by_cases hlt3 : k < np
    ·obtain ⟨p, hp⟩ : ∃ p, ps[k]? = some p := ⟨ps[k]'(by rw [← HNP.out]; exact hlt3), by simp⟩
     obtain ⟨_, _, he, _, _, hcell⟩ := StrsAt.shape (HLP.out.lies.below (by omega) HMA.out.bel)
     obtain ⟨b1, o1, hab, -, p0⟩ := hcell k p hp
     simp only [Value.slice.injEq] at he
     obtain ⟨rfl, -, rfl⟩ := he
     subst hab
     have hltp := block_lt p0
     have HP := Lib.hid hp
     have HPZ := Lib.hid (HPL.out.2 p (List.mem_of_getElem? hp))
     clear hp hcell
     have HDX := Lib.hid (hv_dec HTX.out HTL.out HTR.out p)
     obtain ⟨ex, hex⟩ : ∃ e, e = atE x p := ⟨_, rfl⟩
     obtain ⟨el, hel⟩ : ∃ e, e = atE l p := ⟨_, rfl⟩
     obtain ⟨er, her⟩ : ∃ e, e = atE r p := ⟨_, rfl⟩
     unfold hvE cfE at HDX
     rw [← hex, ← hel, ← her] at HDX
     have HEX := Lib.hid hex
     have HEL := Lib.hid hel
     have HER := Lib.hid her
     clear hex hel her
     obtain ⟨w3, hw3⟩ : ∃ Z : World, Z = wr := ⟨_, rfl⟩
     rw [← hw3] at HMA HB3 p0 hltp ⊢
     clear hw3
     have hax := r_at_any _ x (.slice ax nx cx) p w3 (HX.out.below HB3.out)
     unfold AtRes entV at hax
     rw [← HEX.out] at hax
     go_wp2_with fail
     refine hax.mono ?_
     rintro e4 w4 ⟨xa, xc, rfl, hxd, -, hb4⟩
     have HXD := Lib.hid hxd
     have HW4 := Lib.hid hb4
     have hal := r_at_any _ l (.slice al nl cl) p w4 (HL.out.below (below_next HB3.out hb4))
     unfold AtRes entV at hal
     rw [← HEL.out] at hal
     clear hax hxd hb4
     go_wp2_with fail
     refine hal.mono ?_
     rintro e5 w5 ⟨la, lc, rfl, hld, hlok, hb5⟩
     have HLD := Lib.hid hld
     have HLOK := Lib.hid hlok
     have HXD5 := Lib.hid (HXD.out.below hb5)
     have HW5 := Lib.hid (below_next HW4.out hb5)
     have har := r_at_any _ r (.slice ar nr cr) p w5 (HR.out.below (below_next HB3.out HW5.out))
     unfold AtRes entV at har
     rw [← HER.out] at har
     clear hal hld hlok hb5 HXD
     go_upto_region 16 with (go_at_call 43; refine har.mono ?_; rintro e6 w6 ⟨ra, rc, rfl, hrd, hrok, hb6⟩; have HRD := Lib.hid (data_mono (S' := fun j => j < w6.heap.size) (data_here hrd) (fun k hk => hk.2)); have HROK := Lib.hid hrok; have HXD6 := Lib.hid (HXD5.out.below hb6); have HLD6 := Lib.hid (HLD.out.below hb6); have HW6 := Lib.hid (below_next HW5.out hb6); clear hrd hrok hb6 har)
     obtain ⟨wa, hwa⟩ : ∃ Z : World, Z = w6.alloc (.cells #[.string ex.path, .int .i64 ex.kind, .int .i64 ex.mode, .int .i64 ex.time, .slice xa ex.data.length xc, .string ex.link] 48) := ⟨_, rfl⟩
     have hsa : w6.heap.size + 1 = wa.heap.size := by rw [hwa]; simp
     have hba : Below w6.heap.size w6 wa := by rw [hwa]; exact (Below.refl _ _).alloc (Nat.le_refl _) _
     have hxa : wa.heap[w6.heap.size]? = some (.cells #[.string ex.path, .int .i64 ex.kind, .int .i64 ex.mode, .int .i64 ex.time, .slice xa ex.data.length xc, .string ex.link] 48 (0, 0)) := by rw [hwa]; exact new20 w6 _
     rw [← hwa, hsa]
     obtain ⟨wb, hwb⟩ : ∃ Z : World, Z = wa.alloc (.cells #[.string el.path, .int .i64 el.kind, .int .i64 el.mode, .int .i64 el.time, .slice la el.data.length lc, .string el.link] 48) := ⟨_, rfl⟩
     have hsb : wa.heap.size + 1 = wb.heap.size := by rw [hwb]; simp
     have hbb : Below wa.heap.size wa wb := by rw [hwb]; exact (Below.refl _ _).alloc (Nat.le_refl _) _
     have hlb : wb.heap[wa.heap.size]? = some (.cells #[.string el.path, .int .i64 el.kind, .int .i64 el.mode, .int .i64 el.time, .slice la el.data.length lc, .string el.link] 48 (0, 0)) := by rw [hwb]; exact new20 wa _
     rw [← hwb, hsb]
     obtain ⟨wc, hwc⟩ : ∃ Z : World, Z = wb.alloc (.cells #[.string er.path, .int .i64 er.kind, .int .i64 er.mode, .int .i64 er.time, .slice ra er.data.length rc, .string er.link] 48) := ⟨_, rfl⟩
     have hbc : Below wb.heap.size wb wc := by rw [hwc]; exact (Below.refl _ _).alloc (Nat.le_refl _) _
     have hrc : wc.heap[wb.heap.size]? = some (.cells #[.string er.path, .int .i64 er.kind, .int .i64 er.mode, .int .i64 er.time, .slice ra er.data.length rc, .string er.link] 48 (0, 0)) := by rw [hwc]; exact new20 wb _
     rw [← hwc]
     have hbbc := below_next hbb hbc
     have HXC := Lib.hid ((hbbc.block _ (lt20 hxa)).trans hxa)
     have HLC := Lib.hid ((hbc.block _ (lt20 hlb)).trans hlb)
     have HRC := Lib.hid hrc
     have HW7 := Lib.hid (below_next HW6.out (below_next hba hbbc))
     have HXD7 := Lib.hid (HXD6.out.below (below_next hba hbbc))
     have HLD7 := Lib.hid (HLD6.out.below (below_next hba hbbc))
     have HRD7 := Lib.hid (HRD.out.below (below_next hba hbbc))
     obtain ⟨bx, hbx⟩ : ∃ z, z = w6.heap.size := ⟨_, rfl⟩
     obtain ⟨bl2, hbl2⟩ : ∃ z, z = wa.heap.size := ⟨_, rfl⟩
     obtain ⟨br, hbr⟩ : ∃ z, z = wb.heap.size := ⟨_, rfl⟩
     have HBX6 := Lib.hid (show w6.heap.size ≤ bx by omega)
     rw [← hbx] at HXC ⊢
     rw [← hbl2] at HLC ⊢
     rw [← hbr] at HRC ⊢
     clear hwa hsa hba hxa hwb hsb hbb hlb hwc hbc hrc hbbc hbx hbl2 hbr
     have c0 := cell20 (k := 0) HLC.out
     have c1 := cell20 (k := 1) HLC.out
     have c2 := cell20 (k := 2) HLC.out
     have c3 := cell20 (k := 3) HLC.out
     have c4 := cell20 (k := 4) HLC.out
     have c5 := cell20 (k := 5) HLC.out
     have hltX := lt20 HLC.out
     simp only [List.getElem?_toArray, List.getElem?_cons_succ, List.getElem?_cons_zero] at c0 c1 c2 c3 c4 c5
     go_upto_region 17 with (fail)
     obtain ⟨wd, hwd⟩ : ∃ Z : World, Z = wc.alloc (.cells #[.string el.path, .int .i64 el.kind, .int .i64 el.mode, .int .i64 el.time, .slice la el.data.length lc, .string el.link] 48) := ⟨_, rfl⟩
     have hbd : Below wc.heap.size wc wd := by rw [hwd]; exact (Below.refl _ _).alloc (Nat.le_refl _) _
     have HHD := Lib.hid (show wd.heap[wc.heap.size]? = some (.cells #[.string el.path, .int .i64 el.kind, .int .i64 el.mode, .int .i64 el.time, .slice la el.data.length lc, .string el.link] 48 (0, 0)) by rw [hwd]; exact new20 wc _)
     rw [← hwd]
     have HXD8 := Lib.hid ((hbd.block _ (lt20 HXC.out)).trans HXC.out)
     have HLD8 := Lib.hid ((hbd.block _ (lt20 HLC.out)).trans HLC.out)
     have HRD8 := Lib.hid ((hbd.block _ (lt20 HRC.out)).trans HRC.out)
     have HW8 := Lib.hid (below_next HW7.out hbd)
     have HXV := Lib.hid (HXD7.out.below hbd)
     have HLV := Lib.hid (HLD7.out.below hbd)
     have HRV := Lib.hid (HRD7.out.below hbd)
     obtain ⟨bh, hbh⟩ : ∃ z, z = wc.heap.size := ⟨_, rfl⟩
     have HNW := Lib.hid (show w3.heap.size ≤ bh ∧ bx < bh ∧ bl2 < bh ∧ br < bh by
      have h1 := lt20 HXC.out
      have h2 := lt20 HLC.out
      have h3 := lt20 HRC.out
      have h4 := HW7.out.size
      omega)
     rw [← hbh] at HHD ⊢
     clear hwd hbd hbh c0 c1 c2 c3 c4 c5 hltX HXC HLC HRC
     have HSTK := Lib.hid (show ps.take (k + 1) = ps.take k ++ [p] by rw [List.take_add_one, HP.out]; rfl)
     have HOUT := Lib.hid (asc_out HPAS.out HP.out)
     have hfd := HDX.out.2
     have hvd := HDX.out.1
     have c0 := cell20 (k := 0) HLD8.out
     have c1 := cell20 (k := 1) HLD8.out
     have c2 := cell20 (k := 2) HLD8.out
     have c3 := cell20 (k := 3) HLD8.out
     have c4 := cell20 (k := 4) HLD8.out
     have c5 := cell20 (k := 5) HLD8.out
     have hltX := lt20 HLD8.out
     simp only [List.getElem?_toArray, List.getElem?_cons_succ, List.getElem?_cons_zero] at c0 c1 c2 c3 c4 c5
     have d0 := cell20 (k := 0) HRD8.out
     have d1 := cell20 (k := 1) HRD8.out
     have d2 := cell20 (k := 2) HRD8.out
     have d3 := cell20 (k := 3) HRD8.out
     have d4 := cell20 (k := 4) HRD8.out
     have d5 := cell20 (k := 5) HRD8.out
     have hltD := lt20 HRD8.out
     simp only [List.getElem?_toArray, List.getElem?_cons_succ, List.getElem?_cons_zero] at d0 d1 d2 d3 d4 d5
     by_cases g1 : el = er
     case' pos =>
      have HQ := Lib.hid (show decide (el = er) = true by simp [g1])
      have HHE := Lib.hid (show el = (decM x l r p).getD noEnt by rw [← hvd, if_pos g1])
      have HCF := Lib.hid (show SetP cs (seenK x l r (ps.take (k + 1))) from HMA.out.conf.of (fun q => by rw [HSTK.out, seenK_step, ← hfd]; simp [g1]))
      clear g1 hfd hvd HDX
      go_upto_region 22 with (go_at_call 31; refine (r_same20_is _ _ el er _ _ true wd HLV.out HRV.out HQ.out).mono ?_; rintro e9 w9 ⟨rfl, hb9⟩; have HBN := Lib.hid hb9; clear hb9 c0 c1 c2 c3 c4 c5 hltX d0 d1 d2 d3 d4 d5 hltD)
      replace HXD8 := Lib.hid ((HBN.out.block _ (lt20 HXD8.out)).trans HXD8.out)
      replace HLD8 := Lib.hid ((HBN.out.block _ (lt20 HLD8.out)).trans HLD8.out)
      replace HRD8 := Lib.hid ((HBN.out.block _ (lt20 HRD8.out)).trans HRD8.out)
      replace HHD := Lib.hid ((HBN.out.block _ (lt20 HHD.out)).trans HHD.out)
      replace HXV := Lib.hid (HXV.out.below HBN.out)
      replace HLV := Lib.hid (HLV.out.below HBN.out)
      replace HRV := Lib.hid (HRV.out.below HBN.out)
      replace HW8 := Lib.hid (below_next HW8.out HBN.out)
      clear HBN
      have HCL := Lib.hid (HMA.out.cl.below (by omega) HW8.out)
      have HSC := Lib.hid HMA.out.csh
      have HVD := Lib.hid HLV.out
      have HVK := Lib.hid HLOK.out
      clear HXD8 HLD8 HRD8 HXV HLV HRV HLOK HROK HXD7 HLD7 HRD7 HXD6 HLD6 HRD HXD5 HLD
      obtain ⟨hv, rfl⟩ : ∃ z, z = el := ⟨_, rfl⟩
      obtain ⟨ha, rfl⟩ : ∃ z, z = la := ⟨_, rfl⟩
      obtain ⟨hc, rfl⟩ : ∃ z, z = lc := ⟨_, rfl⟩
      obtain ⟨wz, rfl⟩ : ∃ z, z = w9 := ⟨_, rfl⟩
     case' neg =>
      have HQ := Lib.hid (show decide (el = er) = false by simp [g1])
      go_upto_region 18 with (go_at_call 31; refine (r_same20_is _ _ el er _ _ false wd HLV.out HRV.out HQ.out).mono ?_; rintro e9 w9 ⟨rfl, hb9⟩; have HBN := Lib.hid hb9; clear hb9 c0 c1 c2 c3 c4 c5 hltX d0 d1 d2 d3 d4 d5 hltD)
      replace HXD8 := Lib.hid ((HBN.out.block _ (lt20 HXD8.out)).trans HXD8.out)
      replace HLD8 := Lib.hid ((HBN.out.block _ (lt20 HLD8.out)).trans HLD8.out)
      replace HRD8 := Lib.hid ((HBN.out.block _ (lt20 HRD8.out)).trans HRD8.out)
      replace HHD := Lib.hid ((HBN.out.block _ (lt20 HHD.out)).trans HHD.out)
      replace HXV := Lib.hid (HXV.out.below HBN.out)
      replace HLV := Lib.hid (HLV.out.below HBN.out)
      replace HRV := Lib.hid (HRV.out.below HBN.out)
      replace HW8 := Lib.hid (below_next HW8.out HBN.out)
      clear HBN
      clear HQ
      have c0 := cell20 (k := 0) HLD8.out
      have c1 := cell20 (k := 1) HLD8.out
      have c2 := cell20 (k := 2) HLD8.out
      have c3 := cell20 (k := 3) HLD8.out
      have c4 := cell20 (k := 4) HLD8.out
      have c5 := cell20 (k := 5) HLD8.out
      have hltX := lt20 HLD8.out
      simp only [List.getElem?_toArray, List.getElem?_cons_succ, List.getElem?_cons_zero] at c0 c1 c2 c3 c4 c5
      have d0 := cell20 (k := 0) HXD8.out
      have d1 := cell20 (k := 1) HXD8.out
      have d2 := cell20 (k := 2) HXD8.out
      have d3 := cell20 (k := 3) HXD8.out
      have d4 := cell20 (k := 4) HXD8.out
      have d5 := cell20 (k := 5) HXD8.out
      have hltD := lt20 HXD8.out
      simp only [List.getElem?_toArray, List.getElem?_cons_succ, List.getElem?_cons_zero] at d0 d1 d2 d3 d4 d5
      by_cases g2 : el = ex
      case' pos =>
       have HQ := Lib.hid (show decide (el = ex) = true by simp [g2])
       have HHE := Lib.hid (show er = (decM x l r p).getD noEnt by rw [← hvd, if_neg g1, if_pos g2])
       have HCF := Lib.hid (show SetP cs (seenK x l r (ps.take (k + 1))) from HMA.out.conf.of (fun q => by rw [HSTK.out, seenK_step, ← hfd]; simp [g2]))
       clear g1 g2 hfd hvd HDX
       go_upto_region 19 with (go_at_call 31; refine (r_same20_is _ _ el ex _ _ true w9 HLV.out HXV.out HQ.out).mono ?_; rintro e9 w10 ⟨rfl, hb9⟩; have HBN := Lib.hid hb9; clear hb9 c0 c1 c2 c3 c4 c5 hltX d0 d1 d2 d3 d4 d5 hltD)
       replace HXD8 := Lib.hid ((HBN.out.block _ (lt20 HXD8.out)).trans HXD8.out)
       replace HLD8 := Lib.hid ((HBN.out.block _ (lt20 HLD8.out)).trans HLD8.out)
       replace HRD8 := Lib.hid ((HBN.out.block _ (lt20 HRD8.out)).trans HRD8.out)
       replace HHD := Lib.hid ((HBN.out.block _ (lt20 HHD.out)).trans HHD.out)
       replace HXV := Lib.hid (HXV.out.below HBN.out)
       replace HLV := Lib.hid (HLV.out.below HBN.out)
       replace HRV := Lib.hid (HRV.out.below HBN.out)
       replace HW8 := Lib.hid (below_next HW8.out HBN.out)
       clear HBN
       have c0 := cell20 (k := 0) HRD8.out
       have c1 := cell20 (k := 1) HRD8.out
       have c2 := cell20 (k := 2) HRD8.out
       have c3 := cell20 (k := 3) HRD8.out
       have c4 := cell20 (k := 4) HRD8.out
       have c5 := cell20 (k := 5) HRD8.out
       have hltX := lt20 HRD8.out
       simp only [List.getElem?_toArray, List.getElem?_cons_succ, List.getElem?_cons_zero] at c0 c1 c2 c3 c4 c5
       have hltH := lt20 HHD.out
       have f0 := frozen20 (k := 0) HHD.out
       have f1 := frozen20 (k := 1) HHD.out
       have f2 := frozen20 (k := 2) HHD.out
       have f3 := frozen20 (k := 3) HHD.out
       have f4 := frozen20 (k := 4) HHD.out
       have f5 := frozen20 (k := 5) HHD.out
       have z0 := cell20 (k := 0) HHD.out
       have z1 := cell20 (k := 1) HHD.out
       have z2 := cell20 (k := 2) HHD.out
       have z3 := cell20 (k := 3) HHD.out
       have z4 := cell20 (k := 4) HHD.out
       have z5 := cell20 (k := 5) HHD.out
       simp only [List.getElem?_toArray, List.getElem?_cons_succ, List.getElem?_cons_zero] at z0 z1 z2 z3 z4 z5
       go_upto_region 22 with (fail)
       clear c0 c1 c2 c3 c4 c5 hltX f0 f1 f2 f3 f4 f5 z0 z1 z2 z3 z4 z5 hltH
       obtain ⟨w11, hw11⟩ : ∃ Z : World, Z = (((((w10.setCell ⟨bh, 0, none⟩ (.string er.path)).setCell ⟨bh, 1, none⟩ (.int .i64 er.kind)).setCell ⟨bh, 2, none⟩ (.int .i64 er.mode)).setCell ⟨bh, 3, none⟩ (.int .i64 er.time)).setCell ⟨bh, 4, none⟩ (.slice ra er.data.length rc)).setCell ⟨bh, 5, none⟩ (.string er.link) := ⟨_, rfl⟩
       rw [← hw11]
       have hgr : w10.grownBy w11 (some bh) := by
        rw [hw11]
        exact grown_two (grown_two (grown_two (grown_two (grown_two (grown_set bh 0 _) (grown_set bh 1 _)) (grown_set bh 2 _)) (grown_set bh 3 _)) (grown_set bh 4 _)) (grown_set bh 5 _)
       have hh11 := (show w11.heap[bh]? = some (.cells #[.string er.path, .int .i64 er.kind, .int .i64 er.mode, .int .i64 er.time, .slice ra er.data.length rc, .string er.link] 48 (0, 0)) by rw [hw11]; exact six20 HHD.out)
       have hb11 : Below w3.heap.size w3 w11 := HW8.out.grown hgr HW8.out.size (fun k e => by cases e; exact HNW.out.1)
       have HVD := Lib.hid (data_grown HRV.out (by have h1 := HNW.out.2.1; have h2 := HBX6.out; omega) hgr)
       clear HHD HW8
       have HHD := Lib.hid hh11
       have HW8 := Lib.hid hb11
       have HCL := Lib.hid (HMA.out.cl.below (by omega) HW8.out)
       have HSC := Lib.hid HMA.out.csh
       have HVK := Lib.hid HROK.out
       clear hw11 hgr hh11 hb11 HXD8 HLD8 HRD8 HXV HLV HRV HLOK HROK HXD7 HLD7 HRD7 HXD6 HLD6 HRD HXD5 HLD
       obtain ⟨hv, rfl⟩ : ∃ z, z = er := ⟨_, rfl⟩
       obtain ⟨ha, rfl⟩ : ∃ z, z = ra := ⟨_, rfl⟩
       obtain ⟨hc, rfl⟩ : ∃ z, z = rc := ⟨_, rfl⟩
       obtain ⟨wz, rfl⟩ : ∃ z, z = w11 := ⟨_, rfl⟩
      case' neg =>
       have HQ := Lib.hid (show decide (el = ex) = false by simp [g2])
       have HHE := Lib.hid (show el = (decM x l r p).getD noEnt by rw [← hvd, if_neg g1, if_neg g2])
       go_upto_region 20 with (go_at_call 31; refine (r_same20_is _ _ el ex _ _ false w9 HLV.out HXV.out HQ.out).mono ?_; rintro e9 w10 ⟨rfl, hb9⟩; have HBN := Lib.hid hb9; clear hb9 c0 c1 c2 c3 c4 c5 hltX d0 d1 d2 d3 d4 d5 hltD)
       replace HXD8 := Lib.hid ((HBN.out.block _ (lt20 HXD8.out)).trans HXD8.out)
       replace HLD8 := Lib.hid ((HBN.out.block _ (lt20 HLD8.out)).trans HLD8.out)
       replace HRD8 := Lib.hid ((HBN.out.block _ (lt20 HRD8.out)).trans HRD8.out)
       replace HHD := Lib.hid ((HBN.out.block _ (lt20 HHD.out)).trans HHD.out)
       replace HXV := Lib.hid (HXV.out.below HBN.out)
       replace HLV := Lib.hid (HLV.out.below HBN.out)
       replace HRV := Lib.hid (HRV.out.below HBN.out)
       replace HW8 := Lib.hid (below_next HW8.out HBN.out)
       clear HBN
       clear HQ
       have c0 := cell20 (k := 0) HRD8.out
       have c1 := cell20 (k := 1) HRD8.out
       have c2 := cell20 (k := 2) HRD8.out
       have c3 := cell20 (k := 3) HRD8.out
       have c4 := cell20 (k := 4) HRD8.out
       have c5 := cell20 (k := 5) HRD8.out
       have hltX := lt20 HRD8.out
       simp only [List.getElem?_toArray, List.getElem?_cons_succ, List.getElem?_cons_zero] at c0 c1 c2 c3 c4 c5
       have d0 := cell20 (k := 0) HXD8.out
       have d1 := cell20 (k := 1) HXD8.out
       have d2 := cell20 (k := 2) HXD8.out
       have d3 := cell20 (k := 3) HXD8.out
       have d4 := cell20 (k := 4) HXD8.out
       have d5 := cell20 (k := 5) HXD8.out
       have hltD := lt20 HXD8.out
       simp only [List.getElem?_toArray, List.getElem?_cons_succ, List.getElem?_cons_zero] at d0 d1 d2 d3 d4 d5
       by_cases g3 : er = ex
       case' pos =>
        have HQ := Lib.hid (show decide (er = ex) = true by simp [g3])
        have HCF := Lib.hid (show SetP cs (seenK x l r (ps.take (k + 1))) from HMA.out.conf.of (fun q => by rw [HSTK.out, seenK_step, ← hfd]; simp [g3]))
        clear g1 g2 g3 hfd hvd HDX
        go_upto_region 22 with (go_at_call 31; refine (r_same20_is _ _ er ex _ _ true w10 HRV.out HXV.out HQ.out).mono ?_; rintro e9 w11 ⟨rfl, hb9⟩; have HBN := Lib.hid hb9; clear hb9 c0 c1 c2 c3 c4 c5 hltX d0 d1 d2 d3 d4 d5 hltD)
        replace HXD8 := Lib.hid ((HBN.out.block _ (lt20 HXD8.out)).trans HXD8.out)
        replace HLD8 := Lib.hid ((HBN.out.block _ (lt20 HLD8.out)).trans HLD8.out)
        replace HRD8 := Lib.hid ((HBN.out.block _ (lt20 HRD8.out)).trans HRD8.out)
        replace HHD := Lib.hid ((HBN.out.block _ (lt20 HHD.out)).trans HHD.out)
        replace HXV := Lib.hid (HXV.out.below HBN.out)
        replace HLV := Lib.hid (HLV.out.below HBN.out)
        replace HRV := Lib.hid (HRV.out.below HBN.out)
        replace HW8 := Lib.hid (below_next HW8.out HBN.out)
        clear HBN
        have HCL := Lib.hid (HMA.out.cl.below (by omega) HW8.out)
        have HSC := Lib.hid HMA.out.csh
        have HVD := Lib.hid HLV.out
        have HVK := Lib.hid HLOK.out
        clear HXD8 HLD8 HRD8 HXV HLV HRV HLOK HROK HXD7 HLD7 HRD7 HXD6 HLD6 HRD HXD5 HLD
        obtain ⟨hv, rfl⟩ : ∃ z, z = el := ⟨_, rfl⟩
        obtain ⟨ha, rfl⟩ : ∃ z, z = la := ⟨_, rfl⟩
        obtain ⟨hc, rfl⟩ : ∃ z, z = lc := ⟨_, rfl⟩
        obtain ⟨wz, rfl⟩ : ∃ z, z = w11 := ⟨_, rfl⟩
       case' neg =>
        have HQ := Lib.hid (show decide (er = ex) = false by simp [g3])
        have HCF := Lib.hid (show SetP (addS cs p) (seenK x l r (ps.take (k + 1))) from (HMA.out.conf.add p).of (fun q => by rw [HSTK.out, seenK_step, ← hfd]; simp [g1, g2, g3]))
        clear g1 g2 g3 hfd hvd HDX
        go_upto_region 21 with (go_at_call 31; refine (r_same20_is _ _ er ex _ _ false w10 HRV.out HXV.out HQ.out).mono ?_; rintro e9 w11 ⟨rfl, hb9⟩; have HBN := Lib.hid hb9; clear hb9 c0 c1 c2 c3 c4 c5 hltX d0 d1 d2 d3 d4 d5 hltD)
        replace HXD8 := Lib.hid ((HBN.out.block _ (lt20 HXD8.out)).trans HXD8.out)
        replace HLD8 := Lib.hid ((HBN.out.block _ (lt20 HLD8.out)).trans HLD8.out)
        replace HRD8 := Lib.hid ((HBN.out.block _ (lt20 HRD8.out)).trans HRD8.out)
        replace HHD := Lib.hid ((HBN.out.block _ (lt20 HHD.out)).trans HHD.out)
        replace HXV := Lib.hid (HXV.out.below HBN.out)
        replace HLV := Lib.hid (HLV.out.below HBN.out)
        replace HRV := Lib.hid (HRV.out.below HBN.out)
        replace HW8 := Lib.hid (below_next HW8.out HBN.out)
        clear HBN
        have hcs := set_small HMA.out.conf (fun q hq => List.mem_of_mem_take (seenK_in hq))
        have hadd := r_add_any _ cs _ p w11 (HMA.out.cl.below (by omega) HW8.out) HMA.out.csh (by have := HPL.out.1; omega) (fun f hf => by have := HPL.out.2 f (hcs.2 f hf); omega)
        clear hcs
        go_upto_region 22 with (go_at_call 53; refine hadd.mono ?_; rintro e12 w12 ⟨v12, rfl, hs12, hb12, hsh12⟩; have HCL := Lib.hid (strs_all hs12); have HSC := Lib.hid hsh12; have HBN := Lib.hid hb12; clear hs12 hsh12 hb12 hadd)
        replace HXD8 := Lib.hid ((HBN.out.block _ (lt20 HXD8.out)).trans HXD8.out)
        replace HLD8 := Lib.hid ((HBN.out.block _ (lt20 HLD8.out)).trans HLD8.out)
        replace HRD8 := Lib.hid ((HBN.out.block _ (lt20 HRD8.out)).trans HRD8.out)
        replace HHD := Lib.hid ((HBN.out.block _ (lt20 HHD.out)).trans HHD.out)
        replace HXV := Lib.hid (HXV.out.below HBN.out)
        replace HLV := Lib.hid (HLV.out.below HBN.out)
        replace HRV := Lib.hid (HRV.out.below HBN.out)
        replace HW8 := Lib.hid (below_next HW8.out HBN.out)
        clear HBN
        have HVD := Lib.hid HLV.out
        have HVK := Lib.hid HLOK.out
        clear HXD8 HLD8 HRD8 HXV HLV HRV HLOK HROK HXD7 HLD7 HRD7 HXD6 HLD6 HRD HXD5 HLD
        obtain ⟨hv, rfl⟩ : ∃ z, z = el := ⟨_, rfl⟩
        obtain ⟨ha, rfl⟩ : ∃ z, z = la := ⟨_, rfl⟩
        obtain ⟨hc, rfl⟩ : ∃ z, z = lc := ⟨_, rfl⟩
        obtain ⟨wz, rfl⟩ : ∃ z, z = w12 := ⟨_, rfl⟩
     all_goals
      skip
      have HBZ := Lib.hid (below_next HMA.out.bel HW8.out)
      have c0 := cell20 (k := 0) HHD.out
      have c1 := cell20 (k := 1) HHD.out
      have c2 := cell20 (k := 2) HHD.out
      have c3 := cell20 (k := 3) HHD.out
      have c4 := cell20 (k := 4) HHD.out
      have c5 := cell20 (k := 5) HHD.out
      have hltX := lt20 HHD.out
      simp only [List.getElem?_toArray, List.getElem?_cons_succ, List.getElem?_cons_zero] at c0 c1 c2 c3 c4 c5
      by_cases hk0 : hv.kind = 0
      ·have e1 : (hv.kind != 0) = false := by simp [hk0]
       have HDN := Lib.hid (show decM x l r p = none by
        cases h : decM x l r p with
        | none => rfl
        | some f =>
         have h1 := HHE.out
         rw [h, Option.getD_some] at h1
         rw [h1] at hk0
         exact absurd hk0 (dec_kind HTL.out HTR.out h).1)
       clear hk0
       go_wp2_with fail
       go_roundw
       case rel => exact ⟨k + 1, _, M, by omega, by go_num, ⟨by rw [HSTK.out, seenR_none HOUT.out HDN.out]; exact HMA.out.look, HCF.out, HCL.out, HSC.out, HMA.out.ml.below HW8.out, HMA.out.msh, HBZ.out⟩⟩
       case measure => simp [intOf]; omega
      ·have e1 : (hv.kind != 0) = true := by simp [hk0]
       have HDN := Lib.hid (show decM x l r p = some hv by
        cases h : decM x l r p with
        | none =>
         have h1 := HHE.out
         rw [h, Option.getD_none] at h1
         rw [h1] at hk0
         exact absurd rfl hk0
        | some f =>
         have h1 := HHE.out
         rw [h, Option.getD_some] at h1
         rw [h1])
       clear hk0
       have hms := look_small HMA.out.look (fun q hq => List.mem_of_mem_take (seenR_in hq))
       have hins := r_insert_any _ _ M _ (.slice ha hv.data.length hc) hv wz (HMA.out.ml.below HW8.out) HMA.out.msh HVD.out HVK.out (by have := HPL.out.1; omega) (fun f hf => by have := HPL.out.2 _ (hms.2 f hf); omega)
       unfold entV at hins
       clear hms
       have HLK := Lib.hid (show LookL (insF M hv) (seenR x l r (ps.take (k + 1))) by
        rw [HSTK.out]
        refine (HMA.out.look.put (dec_kind HTL.out HTR.out HDN.out).2 (seenR_out HOUT.out)).of ?_
        rw [← HDN.out, seenR_step])
       go_wp2_with (go_at_call 54; refine hins.mono ?_; rintro e13 w13 ⟨v13, rfl, hs13, hb13, hsh13⟩; have HS13 := Lib.hid hs13; have HSH13 := Lib.hid hsh13; have HCL13 := Lib.hid (HCL.out.below (by omega) hb13); have HB13 := Lib.hid (below_next HBZ.out hb13); clear hs13 hsh13 hb13 hins c0 c1 c2 c3 c4 c5 hltX)
       go_roundw
       case rel => exact ⟨k + 1, _, insF M hv, by omega, by go_num, ⟨HLK.out, HCF.out, HCL13.out, HSC.out, HS13.out, HSH13.out, HB13.out⟩⟩
       case measure => simp [intOf]; omega
    ·have hk2 : k = np := by omega
     have HIN := Lib.hid (show ∀ q, q ∈ l.map Ent.path ∨ q ∈ r.map Ent.path → q ∈ ps from fun q hq => by
      rw [HPSQ.out, addAll_mem, List.map_append, List.map_append]
      rcases hq with hq | hq
      ·exact .inr (List.mem_append_left _ (List.mem_append_right _ hq))
      ·exact .inr (List.mem_append_right _ hq))
     have hse := seen_end (x := x) HIN.out
     have htk : ps.take k = ps := by rw [hk2, HNP.out, List.take_length]
     have HM0 := Lib.hid (show MergeAt (decM x l r) (confM x l r) w2 _ _ cs M wr by have h1 := HMA.out; rw [htk, hse.1, hse.2] at h1; exact h1)
     obtain ⟨w3, hw3⟩ : ∃ Z : World, Z = wr := ⟨_, rfl⟩
     rw [← hw3] at HM0 HB3 ⊢
     obtain ⟨a0, c0, hv0, hc0, hm0, -⟩ := SeqAt.shape HM0.out.ml EntR.len
     subst hv0
     obtain ⟨n0, hn0⟩ : ∃ n, n = M.length := ⟨_, rfl⟩
     rw [← hn0] at HM0 hc0 ⊢
     have HN0 := Lib.hid hn0
     have HMO := Lib.hid (ents_old HM0.out.ml)
     unfold maxLen at hm0
     have hms := look_small HM0.out.look (fun q hq => HIN.out q (dec_in hq))
     have HN0L := Lib.hid (show M.length ≤ 120 by have := HPL.out.1; omega)
     have HMP := Lib.hid (show ∀ e ∈ M, e.path.size ≤ 65000 from fun e he => HPL.out.2 _ (hms.2 e he))
     clear hk2 hse htk hw3 HMA hn0 hms
     go_wp2_with fail
     go_loopw [10, 15, 91] (fun vc vo i wr => ∃ (k : Nat) (F : ByteArray → Bool) (cs : List ByteArray) (M2 : List Ent), k ≤ n0 ∧ i = .int .i64 k ∧ KInv (decM x l r) l (leftL l (M.take k)) F ∧ MergeAt (fixR (decM x l r) l F) (fun q => confM x l r q || F q) w3 vc vo cs M2 wr) (fun _ _ i _ => n0 - (intOf i).toNat)
     case atStart =>
      refine ⟨0, fun _ => false, cs, M, Nat.zero_le _, rfl, by rw [List.take_zero]; exact KInv.nil _ _, ⟨by rw [fix_nil]; exact HM0.out.look, HM0.out.conf.of (fun q => by simp), HM0.out.cl, HM0.out.csh, HM0.out.ml, HM0.out.msh, Below.refl _ _⟩⟩
     case round =>
      obtain ⟨k, F, cs2, M2, hk, rfl, hki, hma⟩ := hrel
      have HKI := Lib.hid hki
      have HMA := Lib.hid hma
      have HB4 := Lib.hid (below_next HB3.out hma.bel)
      clear hki hma
      by_cases hlt4 : k < n0
      ·obtain ⟨e, hec⟩ : ∃ e, M[k]? = some e := ⟨M[k]'(by rw [← HN0.out]; exact hlt4), by simp⟩
       obtain ⟨b0, o0, dv, rfl, -, hb0, hd, hok, -, q0, q1, q2, q3, q4, q5⟩ := ents_at (HMO.out.below HMA.out.bel) hec
       have HED := Lib.hid hd
       have HEC := Lib.hid hec
       have HRE := Lib.hid (HM0.out.look.mem.1 (List.mem_of_getElem? hec))
       have HEZ := Lib.hid (HMP.out e (List.mem_of_getElem? hec))
       have HLS := Lib.hid (left_step (l := l) hec)
       have HSL := Lib.hid (same_left (l := l) (dec_kind HTL.out HTR.out HRE.out).1)
       obtain ⟨a1, cap1, rfl, hd1, hd2⟩ := hd.slice
       unfold maxLen at hd2
       clear hec hd hok
       go_upto_region 28 with (fail)
       obtain ⟨W, hW⟩ : ∃ Z : World, Z = wr.alloc (.cells #[.string e.path, .int .i64 e.kind, .int .i64 e.mode, .int .i64 e.time, .slice a1 e.data.length cap1, .string e.link] 48) := ⟨_, rfl⟩
       rw [← hW]
       have HW := Lib.hid (show Below wr.heap.size wr W by rw [hW]; exact (Below.refl _ _).alloc (Nat.le_refl _) _)
       have HXW := Lib.hid (show W.heap[wr.heap.size]? = some (.cells #[.string e.path, .int .i64 e.kind, .int .i64 e.mode, .int .i64 e.time, .slice a1 e.data.length cap1, .string e.link] 48 (0, 0)) by rw [hW]; exact new20 wr _)
       clear hW q0 q1 q2 q3 q4 q5
       have HBW := Lib.hid (below_next HB4.out HW.out)
       obtain ⟨eb, heb⟩ : ∃ z, z = wr.heap.size := ⟨_, rfl⟩
       rw [← heb] at HXW ⊢
       clear heb
       refine hld_start (fun w' => w'.cell? ⟨eb, 0, none⟩ = some (.string e.path) ∧ w'.cell? ⟨eb, 1, none⟩ = some (.int .i64 e.kind) ∧ w'.cell? ⟨eb, 2, none⟩ = some (.int .i64 e.mode) ∧ w'.cell? ⟨eb, 3, none⟩ = some (.int .i64 e.time) ∧ w'.cell? ⟨eb, 4, none⟩ = some (.slice a1 e.data.length cap1) ∧ w'.cell? ⟨eb, 5, none⟩ = some (.string e.link)) (by kernel_rfl) ?_
       obtain ⟨V, hV⟩ : ∃ V : World, V = W.drew := ⟨_, rfl⟩
       rw [← hV]
       have HV := Lib.hid (show Below W.heap.size W V by rw [hV]; exact bel_drew)
       have HXV := Lib.hid ((HV.out.block _ (lt20 HXW.out)).trans HXW.out)
       have HWV := Lib.hid (below_next HW.out HV.out)
       clear hV
       have c0 := cell20 (k := 0) HXV.out
       have c1 := cell20 (k := 1) HXV.out
       have c2 := cell20 (k := 2) HXV.out
       have c3 := cell20 (k := 3) HXV.out
       have c4 := cell20 (k := 4) HXV.out
       have c5 := cell20 (k := 5) HXV.out
       have hltX := lt20 HXV.out
       simp only [List.getElem?_toArray, List.getElem?_cons_succ, List.getElem?_cons_zero] at c0 c1 c2 c3 c4 c5
       have hS1 := And.intro c0 (And.intro c1 (And.intro c2 (And.intro c3 (And.intro c4 c5))))
       clear c0 c1 c2 c3 c4 c5 hltX
       refine hld_take 0 rfl (by kernel_rfl) (by kernel_rfl) (by kernel_rfl) (fun _ _ _ h => h) rfl hS1 (by rintro w' ⟨hw0, hw1, hw2, hw3, hw4, hw5⟩; go_simp; rfl) ?_
       simp only [Act.put, List.setIfInBounds_toArray, List.set_cons_succ, List.set_cons_zero]
       refine hld_take 1 rfl (by kernel_rfl) (by kernel_rfl) (by kernel_rfl) (fun _ _ _ h => h) rfl hS1 (by rintro w' ⟨hw0, hw1, hw2, hw3, hw4, hw5⟩; go_simp; rfl) ?_
       simp only [Act.put, List.setIfInBounds_toArray, List.set_cons_succ, List.set_cons_zero]
       refine hld_take 2 rfl (by kernel_rfl) (by kernel_rfl) (by kernel_rfl) (fun _ _ _ h => h) rfl hS1 (by rintro w' ⟨hw0, hw1, hw2, hw3, hw4, hw5⟩; go_simp; rfl) ?_
       simp only [Act.put, List.setIfInBounds_toArray, List.set_cons_succ, List.set_cons_zero]
       refine hld_take 3 rfl (by kernel_rfl) (by kernel_rfl) (by kernel_rfl) (fun _ _ _ h => h) rfl hS1 (by rintro w' ⟨hw0, hw1, hw2, hw3, hw4, hw5⟩; go_simp; rfl) ?_
       simp only [Act.put, List.setIfInBounds_toArray, List.set_cons_succ, List.set_cons_zero]
       refine hld_bar 4 rfl (by kernel_rfl) rfl (fun K hK => ?_)
       have hat := r_at_any _ l (.slice al nl cl) e.path V (HL.out.below (below_next HB4.out HWV.out))
       obtain ⟨y, hye⟩ : ∃ y, y = atE l e.path := ⟨_, rfl⟩
       unfold AtRes entV at hat
       rw [← hye] at hat HSL
       clear hye
       go_wp2_with (go_at_call 43; refine hat.mono ?_; rintro e5 w5 ⟨ya, yc, rfl, hyd, -, hb5⟩; have HYD := Lib.hid hyd; have HX5 := Lib.hid ((hb5.block _ (lt20 HXV.out)).trans HXV.out); have HW5 := Lib.hid (below_next HWV.out hb5); clear hyd hb5 hat hS1)
       have c0 := cell20 (k := 0) HX5.out
       have c1 := cell20 (k := 1) HX5.out
       have c2 := cell20 (k := 2) HX5.out
       have c3 := cell20 (k := 3) HX5.out
       have c4 := cell20 (k := 4) HX5.out
       have c5 := cell20 (k := 5) HX5.out
       have hltX := lt20 HX5.out
       simp only [List.getElem?_toArray, List.getElem?_cons_succ, List.getElem?_cons_zero] at c0 c1 c2 c3 c4 c5
       have hS1 := And.intro c0 (And.intro c1 (And.intro c2 (And.intro c3 (And.intro c4 c5))))
       clear c0 c1 c2 c3 c4 c5 hltX
       refine ⟨hS1, ?_⟩
       refine hld_bar 5 rfl (by kernel_rfl) rfl (fun K hK => ?_)
       obtain ⟨bs, hbs⟩ : ∃ b, b = decide (e = y) := ⟨_, rfl⟩
       have HQ := Lib.hid hbs.symm
       clear hbs
       go_wp2_with (go_at_call 31; refine (r_same20_is _ _ e y _ _ bs w5 (HED.out.below HW5.out) HYD.out HQ.out).mono ?_; rintro e6 w6 ⟨rfl, hb6⟩; have HX6 := Lib.hid ((hb6.block _ (lt20 HX5.out)).trans HX5.out); have HW6 := Lib.hid (below_next HW5.out hb6); clear hb6 hS1)
       have c0 := cell20 (k := 0) HX6.out
       have c1 := cell20 (k := 1) HX6.out
       have c2 := cell20 (k := 2) HX6.out
       have c3 := cell20 (k := 3) HX6.out
       have c4 := cell20 (k := 4) HX6.out
       have c5 := cell20 (k := 5) HX6.out
       have hltX := lt20 HX6.out
       simp only [List.getElem?_toArray, List.getElem?_cons_succ, List.getElem?_cons_zero] at c0 c1 c2 c3 c4 c5
       have hS1 := And.intro c0 (And.intro c1 (And.intro c2 (And.intro c3 (And.intro c4 c5))))
       clear c0 c1 c2 c3 c4 c5 hltX
       refine ⟨hS1, ?_⟩
       refine hld_take 6 rfl (by kernel_rfl) (by kernel_rfl) (by kernel_rfl) (fun _ _ _ h => h) rfl hS1 (by rintro w' ⟨hw0, hw1, hw2, hw3, hw4, hw5⟩; go_simp; rfl) ?_
       simp only [Act.put, List.setIfInBounds_toArray, List.set_cons_succ, List.set_cons_zero]
       refine hld_done (by kernel_rfl) ?_
       clear hS1
       have HMW := Lib.hid (HMA.out.below HW6.out)
       have HBW6 := Lib.hid (below_next HB4.out HW6.out)
       cases bs with
       | false =>
        have HNL := Lib.hid (show leftL l (M.take (k + 1)) = leftL l (M.take k) by
         rw [HLS.out, if_neg, List.append_nil]
         intro h
         have h1 := HQ.out
         rw [decide_eq_false_iff_not] at h1
         exact h1 (HSL.out.2 h))
        go_wp2_with fail
        go_roundw
        case rel => exact ⟨k + 1, F, cs2, M2, by omega, by go_num, by rw [HNL.out]; exact HKI.out, HMW.out⟩
        case measure => simp [intOf]; omega
       | true =>
        have HFE := Lib.hid (show findE l e.path = some e from HSL.out.1 (by have h1 := HQ.out; rw [decide_eq_true_eq] at h1; exact h1))
        have HEL := Lib.hid (findE_some HFE.out).1
        have HNL := Lib.hid (show leftL l (M.take (k + 1)) = leftL l (M.take k) ++ [e] by rw [HLS.out, if_pos HFE.out])
        have HU0 := Lib.hid (UInv.start HKI.out HEL.out (by unfold fixR; split; exact HFE.out; exact HRE.out))
        obtain ⟨q0, hq0⟩ : ∃ q, q = (⟨(parentL (bl e.path)).toArray⟩ : ByteArray) := ⟨_, rfl⟩
        have HQ0 := Lib.hid (show bl q0 = parentL (bl e.path) by rw [hq0, bl_of])
        have HQZ := Lib.hid (show q0.size ≤ 65000 by
         have h1 := HEZ.out
         rw [size_bl] at h1 ⊢
         rw [HQ0.out]
         by_cases hz : bl e.path = []
         ·rw [hz]; exact (show (parentL []).length ≤ 65000 by decide)
         ·have := parent_short hz; omega)
        have hpar := r_parent20_any e.path w6 HEZ.out
        rw [← hq0] at hpar
        clear hq0
        have c0 := cell20 (k := 0) HX6.out
        have c1 := cell20 (k := 1) HX6.out
        have c2 := cell20 (k := 2) HX6.out
        have c3 := cell20 (k := 3) HX6.out
        have c4 := cell20 (k := 4) HX6.out
        have c5 := cell20 (k := 5) HX6.out
        have hltX := lt20 HX6.out
        simp only [List.getElem?_toArray, List.getElem?_cons_succ, List.getElem?_cons_zero] at c0 c1 c2 c3 c4 c5
        go_wp2_with (go_at_call 41; refine hpar.mono ?_; rintro e7 w7 ⟨rfl, hb7⟩; have HM7 := Lib.hid (HMW.out.below hb7); have HB7 := Lib.hid hb7; clear hb7 hpar c0 c1 c2 c3 c4 c5 hltX)
        go_loopw [10, 15, 24] (fun vc vo v wr => ∃ (q : ByteArray) (G : ByteArray → Bool) (cs3 : List ByteArray) (M3 : List Ent), v = .string q ∧ q.size ≤ 65000 ∧ UInv (decM x l r) l (leftL l (M.take k)) e G (bl q) ∧ MergeAt (fixR (decM x l r) l G) (fun q => confM x l r q || G q) w3 vc vo cs3 M3 wr) (fun _ _ v _ => strLen v)
        case atStart => exact ⟨q0, F, cs2, M2, rfl, HQZ.out, by rw [HQ0.out]; exact HU0.out, HM7.out⟩
        case round =>
         obtain ⟨q, G, cs3, M3, rfl, hqz, hu, hm3⟩ := hrel
         have HQ3 := Lib.hid hqz
         have HU := Lib.hid hu
         have HM3 := Lib.hid hm3
         have HB5 := Lib.hid (below_next HB3.out hm3.bel)
         clear hqz hu hm3
         by_cases hq : bl q = []
         ·have e1 : q.toList.isEmpty = true := by rw [empty20, decide_eq_true hq]
          have HF := Lib.hid (show KInv (decM x l r) l (leftL l (M.take (k + 1))) G by rw [HNL.out]; have := HU.out; rw [hq] at this; exact this.stop)
          clear hq
          go_wp2_with fail
          go_roundw
          case rel => exact ⟨k + 1, G, cs3, M3, by omega, by go_num, HF.out, HM3.out⟩
          case measure => simp [intOf]; omega
         ·have e1 : q.toList.isEmpty = false := by rw [empty20, decide_eq_false hq]
          have HQN := Lib.hid hq
          have HSHORT := Lib.hid (parent_short hq)
          clear hq
          obtain ⟨q2, hq2⟩ : ∃ z, z = (⟨(parentL (bl q)).toArray⟩ : ByteArray) := ⟨_, rfl⟩
          have HQ2 := Lib.hid (show bl q2 = parentL (bl q) by rw [hq2, bl_of])
          have HPAR := Lib.hid (fun W => by have h1 := r_parent20_any q W HQ3.out; rw [← hq2] at h1; exact h1)
          have HQ2Z := Lib.hid (show q2.size ≤ 65000 ∧ q2.size < q.size by
           have h1 := HQ3.out
           have h2 := HSHORT.out
           rw [size_bl] at h1
           rw [size_bl, size_bl, HQ2.out]
           omega)
          clear hq2
          have hat := r_at_any _ M3 _ q wr HM3.out.ml
          obtain ⟨g, hg⟩ : ∃ g, g = atE M3 q := ⟨_, rfl⟩
          unfold AtRes entV at hat
          rw [← hg] at hat
          have HDK := Lib.hid (show isDirO (fixR (decM x l r) l G q) = decide (g.kind = 2) by rw [hg]; exact at_dir HM3.out.look q)
          clear hg
          have hfl := fldK
          by_cases hk2 : g.kind = 2
          ·have HU4 := Lib.hid (show UInv (decM x l r) l (leftL l (M.take k)) e G (bl q2) by
            rw [HQ2.out]; exact HU.out.keep HQN.out (by rw [bl_back, HDK.out, decide_eq_true hk2]))
           have e2 : (g.kind != 2) = false := by simp [hk2]
           clear hk2
           go_wp2_with fail
           refine hat.mono ?_
           rintro e8 w8 ⟨ga, gc, rfl, -, -, hb8⟩
           have HB8 := Lib.hid hb8
           clear hb8 hat
           go_wp2_with fail
           refine (HPAR.out _).mono ?_
           rintro e9 w9 ⟨rfl, hb9⟩
           have HM9 := Lib.hid (HM3.out.below (below_next HB8.out hb9))
           clear hb9 HPAR
           go_wp2_with fail
           go_roundw
           case rel => exact ⟨q2, G, cs3, M3, rfl, HQ2Z.out.1, HU4.out, HM9.out⟩
           case measure => simp [strLen]; exact HQ2Z.out.2
          ·have HD := Lib.hid (show isDirO (fixR (decM x l r) l G q) = false by rw [HDK.out]; simp [hk2])
           have e2 : (g.kind != 2) = true := by simp [hk2]
           have HME := Lib.hid (show UInv (decM x l r) l (leftL l (M.take k)) e (addF G q) (bl q2) ∧ setL (fixR (decM x l r) l G) q (findE l q) = fixR (decM x l r) l (addF G q) by
            have h1 := HU.out.mend HTL.out HEL.out HQN.out (by rw [bl_back]; exact HD.out)
            rw [bl_back, ← HQ2.out] at h1
            exact h1)
           have HYD := Lib.hid (show ∃ d, findE l q = some d ∧ atE l q = d ∧ d.path = q by
            have h1 := left_dir HTL.out HEL.out (HU.out.here HQN.out)
            cases hf : findE l q with
            | none => rw [hf] at h1; cases h1
            | some d => exact ⟨d, rfl, by unfold atE; rw [hf]; rfl, (findE_some hf).2⟩)
           obtain ⟨d, hd1, hd2, hd3⟩ := HYD.out
           have HD1 := Lib.hid hd1
           have HD3 := Lib.hid hd3
           have HPSQ2 := Lib.hid (show ∀ q, (fixR (decM x l r) l G q).isSome = true → q ∈ ps from fun q hq => HIN.out q (fix_in HU.out.base HTL.out hq))
           have hms := look_small HM3.out.look HPSQ2.out
           have HML3 := Lib.hid (show M3.length ≤ 120 ∧ ∀ e ∈ M3, e.path.size ≤ 65000 from ⟨by have := HPL.out.1; omega, fun e he => HPL.out.2 _ (hms.2 e he)⟩)
           have hcs := set_small HM3.out.conf (fun q hq => by
            rw [Bool.or_eq_true] at hq
            rcases hq with hq | hq
            ·exact HIN.out q (conf_in hq)
            ·exact HIN.out q (.inl (kinv_in HU.out.base HTL.out hq)))
           have HCS3 := Lib.hid (show cs3.length ≤ 120 ∧ ∀ f ∈ cs3, f.size ≤ 65000 from ⟨by have := HPL.out.1; omega, fun f hf => HPL.out.2 _ (hcs.2 f hf)⟩)
           have hal := fun W hW => r_at_any _ l (.slice al nl cl) q W (HL.out.below hW)
           unfold AtRes entV at hal
           rw [hd2] at hal
           have HAL := Lib.hid hal
           clear hk2 hd1 hd2 hd3 HYD hms hcs hal
           go_wp2_with fail
           refine hat.mono ?_
           rintro e8 w8 ⟨ga, gc, rfl, -, -, hb8⟩
           have HB8 := Lib.hid hb8
           clear hb8 hat
           go_wp2_with fail
           clear hfl
           refine (r_without_any _ M3 _ q w8 (HM3.out.ml.below HB8.out) (by have := HML3.out.1; omega)).mono ?_
           rintro e9 w9 ⟨v9, rfl, hs9, hb9, hsh9⟩
           have HS9 := Lib.hid hs9
           have HSH9 := Lib.hid hsh9
           have HB9 := Lib.hid (below_next HB8.out hb9)
           clear hs9 hsh9 hb9
           go_wp2_with fail
           refine (HAL.out w9 (below_next HB5.out HB9.out)).mono ?_
           rintro e10 w10 ⟨da, dc, rfl, hdd, hdok, hb10⟩
           have HDD := Lib.hid hdd
           have HDOK := Lib.hid hdok
           have HS10 := Lib.hid (HS9.out.below hb10)
           have HB10 := Lib.hid (below_next HB9.out hb10)
           clear hdd hdok hb10 HAL
           have hins := r_insert_any _ _ (dropE M3 q) _ (.slice da d.data.length dc) d w10 HS10.out HSH9.out HDD.out HDOK.out (by have := HML3.out.1; have := List.length_filter_le (fun x : Ent => decide (x.path ≠ q)) M3; unfold dropE; omega) (fun f hf => by have := HML3.out.2 f (List.mem_filter.1 hf).1; omega)
           unfold entV at hins
           go_wp2_with fail
           refine hins.mono ?_
           rintro e11 w11 ⟨v11, rfl, hs11, hb11, hsh11⟩
           have HS11 := Lib.hid hs11
           have HSH11 := Lib.hid hsh11
           have HB11 := Lib.hid (below_next HB10.out hb11)
           clear hs11 hsh11 hb11 hins
           go_wp2_with fail
           refine (r_add_any _ cs3 _ q w11 (HM3.out.cl.below (by omega) HB11.out) HM3.out.csh (by have := HCS3.out.1; omega) (fun f hf => by have := HCS3.out.2 f hf; omega)).mono ?_
           rintro e12 w12 ⟨v12, rfl, hs12, hb12, hsh12⟩
           have HS12 := Lib.hid (strs_all hs12)
           have HSH12 := Lib.hid hsh12
           have HS112 := Lib.hid (HS11.out.below hb12)
           have HB12 := Lib.hid (below_next HB11.out hb12)
           clear hs12 hsh12 hb12
           go_wp2_with fail
           refine (HPAR.out _).mono ?_
           rintro e13 w13 ⟨rfl, hb13⟩
           have HB13 := Lib.hid (below_next HB12.out hb13)
           have HS13 := Lib.hid (HS112.out.below hb13)
           have HC13 := Lib.hid (HS12.out.below (by omega) hb13)
           clear hb13 HPAR
           go_wp2_with fail
           go_roundw
           case rel => exact ⟨q2, addF G q, addS cs3 q, insF (dropE M3 q) d, rfl, HQ2Z.out.1, HME.out.1, ⟨by rw [← HME.out.2, HD1.out]; exact HM3.out.look.swap HD3.out, (HM3.out.conf.add q).of (fun z => by unfold addF; cases decide (z = q) <;> cases confM x l r z <;> simp), HC13.out, HSH12.out, HS13.out, HSH11.out, below_next HM3.out.bel HB13.out⟩⟩
           case measure => simp [strLen]; exact HQ2Z.out.2
      ·have hk2 : k = n0 := by omega
       have hF := left_end HTL.out HM0.out.look (by have h1 := HKI.out; rw [hk2, HN0.out, List.take_length] at h1; exact h1)
       subst hF
       have HM4 := Lib.hid (show MergeAt (midM x l r) (fun q => confM x l r q || fixM (decM x l r) l q) w3 _ _ cs2 M2 wr from HMA.out)
       have hsup : ∀ q, (midM x l r q).isSome = true → q ∈ ps := fun q hq => HIN.out q (fix_in HKI.out HTL.out hq)
       have hms := look_small HM4.out.look hsup
       have HM4L := Lib.hid (show M2.length ≤ 120 ∧ ∀ e ∈ M2, e.path.size ≤ 65000 from ⟨by have := HPL.out.1; omega, fun e he => HPL.out.2 _ (hms.2 e he)⟩)
       have HSUP := Lib.hid (show ∀ q, isK x l r q = true → q ∈ ps from fun q hq => by
        unfold isK at hq
        rw [Bool.or_eq_true, Bool.or_eq_true, Bool.and_eq_true] at hq
        rcases hq with hq | hq | hq
        ·exact HIN.out q (conf_in hq)
        ·exact HIN.out q (.inl (kinv_in HKI.out HTL.out hq))
        ·exact hsup q hq.1)
       clear hk2 hsup hms HKI HMA
       obtain ⟨w4, hw4⟩ : ∃ Z : World, Z = wr := ⟨_, rfl⟩
       rw [← hw4] at HM4 HB4 ⊢
       clear hw4
       obtain ⟨a2, c2, hv2, hc2, hm2, -⟩ := SeqAt.shape HM4.out.ml EntR.len
       subst hv2
       obtain ⟨n2, hn2⟩ : ∃ n, n = M2.length := ⟨_, rfl⟩
       rw [← hn2] at HM4 hc2 ⊢
       have HN2 := Lib.hid hn2
       have HMO2 := Lib.hid (ents_old HM4.out.ml)
       unfold maxLen at hm2
       clear hn2
       go_wp2_with fail
       go_loopw [10, 25, 127] (fun vc vk i wr => ∃ (k : Nat) (cs3 : List ByteArray) (ys : List VEnt), k ≤ n2 ∧ i = .int .i64 k ∧ KeptAt M2 (midM x l r) (fun q => confM x l r q || fixM (decM x l r) l q) w4 k vc vk cs3 ys wr) (fun _ _ i _ => n2 - (intOf i).toNat)
       case atStart =>
        refine ⟨0, cs2, [], Nat.zero_le _, rfl, ⟨by simp [keptL], HM4.out.conf.of (fun q => by simp [outK, hasP]), RowAt.mono HM4.out.cl (fun _ _ _ h => by cases h) (by omega), HM4.out.csh, World.ownsRow_nil _ _ _ _, by simp, Below.refl _ _⟩⟩
       case round =>
        obtain ⟨k, cs3, ys, hk, rfl, hka⟩ := hrel
        obtain ⟨av, cv, hsv, hvn, hvm⟩ := owns_shape hka.row
        subst hsv
        unfold maxLen at hvm
        have hyl : ys.length ≤ 120 := by
         have h1 := congrArg List.length hka.out
         have h2 := @kept_len M2 (midM x l r) k
         have h3 := HM4L.out.1
         rw [List.length_map] at h1
         omega
        have HKA := Lib.hid hka
        have HKE := Lib.hid (show EntsAt (fun _ => True) wr (.slice av ys.length cv) (keptL M2 (midM x l r) k) by rw [← hka.out]; exact gotE_shared hka.row hka.bel hka.dat)
        have hcs := set_small hka.conf (fun q hq => by
         unfold outK at hq
         rw [Bool.or_eq_true, Bool.or_eq_true, Bool.and_eq_true] at hq
         rcases hq with (hq | hq) | hq
         ·exact HSUP.out q (by unfold isK; rw [hq]; rfl)
         ·exact HSUP.out q (by unfold isK; rw [hq]; simp)
         ·have h1 := hasP_iff.1 hq.1
          obtain ⟨f, hf, rfl⟩ := List.mem_map.1 h1
          have h2 := HM4.out.look.mem.1 (List.mem_of_mem_take hf)
          have h3 := hq.2
          refine HSUP.out _ ?_
          unfold isK
          unfold outM at h3
          cases ha : allUp (midM x l r) f.path with
          | true => rw [ha, if_pos rfl, h2] at h3; cases h3
          | false => rw [h2]; simp)
        have HCS3 := Lib.hid (show cs3.length ≤ 120 ∧ ∀ f ∈ cs3, f.size ≤ 65000 from ⟨by have := HPL.out.1; omega, fun f hf => HPL.out.2 _ (hcs.2 f hf)⟩)
        have HB7 := Lib.hid (below_next HB4.out hka.bel)
        clear hka hcs
        by_cases hlt6 : k < n2
        ·obtain ⟨e, hec⟩ : ∃ e, M2[k]? = some e := ⟨M2[k]'(by rw [← HN2.out]; exact hlt6), by simp⟩
         obtain ⟨b0, o0, dv, rfl, -, hb0, hd, hok, -, q0, q1, q2, q3, q4, q5⟩ := ents_at HMO2.out hec
         replace q0 := (HKA.out.bel.cell hb0).trans q0
         replace q1 := (HKA.out.bel.cell hb0).trans q1
         replace q2 := (HKA.out.bel.cell hb0).trans q2
         replace q3 := (HKA.out.bel.cell hb0).trans q3
         replace q4 := (HKA.out.bel.cell hb0).trans q4
         replace q5 := (HKA.out.bel.cell hb0).trans q5
         have hb01 : b0 < wr.heap.size := Nat.lt_of_lt_of_le hb0 HKA.out.bel.size
         have HED := Lib.hid (data_mono (S' := fun j => j < w4.heap.size) (data_here hd) (fun k hk => hk.2))
         have HEOK := Lib.hid hok
         have HEC := Lib.hid hec
         have HEZ := Lib.hid (HM4L.out.2 e (List.mem_of_getElem? hec))
         have HKS := Lib.hid (kept_step (R := midM x l r) hec)
         have HOS := Lib.hid (outK_step (K0 := fun q => confM x l r q || fixM (decM x l r) l q) (R := midM x l r) hec)
         obtain ⟨a1, cap1, rfl, hd1, hd2⟩ := hd.slice
         unfold maxLen at hd2
         obtain ⟨q0', hq0⟩ : ∃ q, q = (⟨(parentL (bl e.path)).toArray⟩ : ByteArray) := ⟨_, rfl⟩
         have HKD := Lib.hid (kept_dir (q := q0') HM4.out.look hec (by rw [hq0, bl_of]))
         have hpar := fun W => r_parent20_any e.path W HEZ.out
         rw [← hq0] at hpar
         have HPAR := Lib.hid hpar
         clear hec hd hok hq0 hpar
         go_upto_region 40 with (fail)
         obtain ⟨W, hW⟩ : ∃ Z : World, Z = wr.alloc (.cells #[.string e.path, .int .i64 e.kind, .int .i64 e.mode, .int .i64 e.time, .slice a1 e.data.length cap1, .string e.link] 48) := ⟨_, rfl⟩
         rw [← hW]
         have HW := Lib.hid (show Below wr.heap.size wr W by rw [hW]; exact (Below.refl _ _).alloc (Nat.le_refl _) _)
         have HXW := Lib.hid (show W.heap[wr.heap.size]? = some (.cells #[.string e.path, .int .i64 e.kind, .int .i64 e.mode, .int .i64 e.time, .slice a1 e.data.length cap1, .string e.link] 48 (0, 0)) by rw [hW]; exact new20 wr _)
         clear hW q0 q1 q2 q3 q4 q5
         have c0 := cell20 (k := 0) HXW.out
         have c1 := cell20 (k := 1) HXW.out
         have c2 := cell20 (k := 2) HXW.out
         have c3 := cell20 (k := 3) HXW.out
         have c4 := cell20 (k := 4) HXW.out
         have c5 := cell20 (k := 5) HXW.out
         have hltX := lt20 HXW.out
         simp only [List.getElem?_toArray, List.getElem?_cons_succ, List.getElem?_cons_zero] at c0 c1 c2 c3 c4 c5
         go_wp2_with fail
         refine (HPAR.out W).mono ?_
         rintro e5 w5 ⟨rfl, hb5⟩
         have HX5 := Lib.hid ((hb5.block _ (lt20 HXW.out)).trans HXW.out)
         have HW5 := Lib.hid (below_next HW.out hb5)
         clear hb5 HPAR c0 c1 c2 c3 c4 c5 hltX
         have hdir := r_dir_any _ (keptL M2 (midM x l r) k) (.slice av ys.length cv) q0' w5 (HKE.out.below HW5.out)
         obtain ⟨dr, hdr⟩ : ∃ z, z = dirE (keptL M2 (midM x l r) k) (bl q0') := ⟨_, rfl⟩
         rw [← hdr] at hdir HKD
         clear hdr
         by_cases hdz : dr = 0
         ·subst hdz
          have HIS := Lib.hid (HKD.out.1 rfl)
          go_upto_region 41 with (go_at_call 40; refine hdir.mono ?_; rintro e6 w6 ⟨rfl, hb6⟩; have HX6 := Lib.hid ((hb6.block _ (lt20 HX5.out)).trans HX5.out); have HW6 := Lib.hid (below_next HW5.out hb6); clear hb6 hdir)
          have c0 := cell20 (k := 0) HX6.out
          have c1 := cell20 (k := 1) HX6.out
          have c2 := cell20 (k := 2) HX6.out
          have c3 := cell20 (k := 3) HX6.out
          have c4 := cell20 (k := 4) HX6.out
          have c5 := cell20 (k := 5) HX6.out
          have hltX := lt20 HX6.out
          simp only [List.getElem?_toArray, List.getElem?_cons_succ, List.getElem?_cons_zero] at c0 c1 c2 c3 c4 c5
          have hrow := own_below HKA.out.row HW6.out
          have hbb : w4.heap.size ≤ w6.heap.size := Nat.le_trans HKA.out.bel.size HW6.out.size
          have HROW := Lib.hid hrow
          have HBB := Lib.hid hbb
          go_wp2_with (at_builtin; go_must (refine wpList_app1p Tryz.appEnts rfl _ _ rfl w4.heap.size (.slice av ys.length cv) ys.length (entsC ys) rfl w6 (entC (.slice a1 e.data.length cap1) e) _ rfl rfl entC_one hrow (by omega) hbb ?_); intro v8 w8 hown8 hg8 _ hpl8; have HOWN8 := Lib.hid hown8; have HG8 := Lib.hid hg8; have HPL8 := Lib.hid hpl8; clear hown8 hg8 hpl8 c0 c1 c2 c3 c4 c5 hltX)
          go_roundw
          case rel => exact ⟨k + 1, cs3, ys ++ [(.slice a1 e.data.length cap1, e)], by omega, by go_num, keptK HKA.out HKS.out HIS.out HOS.out HED.out HEOK.out HOWN8.out HG8.out HPL8.out HROW.out HW6.out HBB.out⟩
          case measure => simp [intOf]; omega
         ·have HIS := Lib.hid (show ¬ (outM (midM x l r) e.path).isSome = true from fun h => hdz (HKD.out.2 h))
          have e1 : (dr == 0) = false := by simp [hdz]
          clear hdz
          go_upto_region 42 with (go_at_call 40; refine hdir.mono ?_; rintro e6 w6 ⟨rfl, hb6⟩; have HX6 := Lib.hid ((hb6.block _ (lt20 HX5.out)).trans HX5.out); have HW6 := Lib.hid (below_next HW5.out hb6); clear hb6 hdir)
          have c0 := cell20 (k := 0) HX6.out
          have c1 := cell20 (k := 1) HX6.out
          have c2 := cell20 (k := 2) HX6.out
          have c3 := cell20 (k := 3) HX6.out
          have c4 := cell20 (k := 4) HX6.out
          have c5 := cell20 (k := 5) HX6.out
          have hltX := lt20 HX6.out
          simp only [List.getElem?_toArray, List.getElem?_cons_succ, List.getElem?_cons_zero] at c0 c1 c2 c3 c4 c5
          have hadd := r_add_any _ cs3 _ e.path w6 (HKA.out.cl.below (by omega) HW6.out) HKA.out.csh (by have := HCS3.out.1; omega) (fun f hf => by have := HCS3.out.2 f hf; omega)
          go_wp2_with (go_at_call 53; refine hadd.mono ?_; rintro e7 w7 ⟨v7, rfl, hs7, hb7, hsh7⟩; have HS7 := Lib.hid hs7; have HSH7 := Lib.hid hsh7; have HW7 := Lib.hid (below_next HW6.out hb7); clear hs7 hsh7 hb7 hadd c0 c1 c2 c3 c4 c5 hltX)
          go_roundw
          case rel => exact ⟨k + 1, addS cs3 e.path, ys, by omega, by go_num, ⟨by rw [HKS.out, if_neg HIS.out, List.append_nil]; exact HKA.out.out, (HKA.out.conf.add e.path).of (fun q => by
           rw [HOS.out]
           have h1 : (outM (midM x l r) e.path).isNone = true := by have h2 := HIS.out; cases h3 : outM (midM x l r) e.path with
            | none => rfl
            | some f => rw [h3] at h2; exact absurd rfl h2
           rw [h1, Bool.and_true]), RowAt.mono HS7.out (fun j hj h => h.elim id (fun h2 e => by have := (own_lt HKA.out.row e).2; have := HW6.out.size; omega)) (by omega), HSH7.out, own_below HKA.out.row HW7.out, HKA.out.dat, below_next HKA.out.bel HW7.out⟩⟩
          case measure => simp [intOf]; omega
        ·have hk6 : k = n2 := by omega
         have HFIN := Lib.hid (show IsMerge x l r (keptL M2 (midM x l r) k) cs3 by
          have htk : M2.take k = M2 := by rw [hk6, HN2.out, List.take_length]
          have h1 := kept_all HM4.out.look
          have hoe := (out_end (R0 := midM x l r) (ps := M2.map Ent.path) (fun p => by
           rw [← HM4.out.look.look]
           exact findE_isSome.symm) (fun q => confM x l r q || fixM (decM x l r) l q)).2
          have hcf := HKA.out.conf
          rw [htk, hoe, merge_k] at hcf
          rw [hk6, HN2.out]
          exact ⟨h1.ord, h1.look, hcf.asc, hcf.mem⟩)
         clear hk6
         go_wp2_with fail
         go_ret3
         exact ⟨_, cs3, _, _, rfl, HFIN.out, HKE.out, strs_all HKA.out.cl, HB7.out⟩
end Go.Proofs.YtdieneaillkbgaaGreatDoor

/- The law TreediffMerges: its walk. -/
namespace Go.Proofs.YtdieneaillkbgaaGreatDoor
open Go Go.RowKit Go.Maps
/-- What is known of the program's answer. -/
structure MrgAns (a b c : List Ent) (chk : Int) (a7 a8 : Option Addr) (n7 n8 c7 c8 : Nat) (w : World) : Prop where
  ck : chk = mrgChk a b c
  bad : chk ≠ 0 → n7 = 0 ∧ n8 = 0
  good : chk = 0 → ∃ m k, n7 = m.length ∧ n8 = k.length ∧ IsMerge a b c m k ∧ EntsAt (fun _ => True) w (.slice a7 n7 c7) m ∧ StrsAt (fun _ => True) w (.slice a8 n8 c8) k
  cap : c7 ≤ 9223372036854775807 ∧ c8 ≤ 9223372036854775807 ∧ n7 ≤ c7 ∧ n8 ≤ c8
theorem mrg_ans {a b c : List Ent} {w w' : World} {e : Ending} (h : MergeRes a b c w e w') : ∃ chk a7 a8 n7 n8 c7 c8, e = .returned (.tuple #[.slice a7 n7 c7, .slice a8 n8 c8, .int .i64 chk]) ∧ MrgAns a b c chk a7 a8 n7 n8 c7 c8 w' ∧ Below w.heap.size w w' := by
  rcases h with ⟨h0, rfl, hb⟩ | ⟨h0, v, vk, ys, k, rfl, hm, hg, hk, hb⟩
  · exact ⟨_, none, none, 0, 0, 0, 0, rfl, ⟨rfl, fun _ => ⟨rfl, rfl⟩, fun h => absurd h h0, by decide⟩, hb⟩
  · obtain ⟨a', c', rfl, h1, hx⟩ := owns_shape hg.row
    obtain ⟨ak, ck, rfl, h2, hxk⟩ := owns_shape hk
    unfold maxLen at hx hxk
    refine ⟨0, a', ak, _, _, c', ck, rfl, ⟨h0.symm, fun h => absurd rfl h, fun _ => ⟨ys.map Prod.snd, k, by rw [List.length_map], rfl, hm, ?_, ?_⟩, by omega⟩, hb⟩
    · exact ents_all hg.seq
    · exact RowAt.mono (row_of_owns hk) (fun _ _ _ => trivial) (by omega)
theorem mrgChk_zero {a b c : List Ent} : mrgChk a b c = 0 ↔ checkP a = 0 ∧ checkP b = 0 ∧ checkP c = 0 := by
  unfold mrgChk
  constructor
  · intro h
    by_cases h1 : checkP a ≠ 0
    · rw [if_pos h1] at h; exact absurd h h1
    · rw [if_neg h1] at h
      by_cases h2 : checkP b ≠ 0
      · rw [if_pos h2] at h; exact absurd h h2
      · rw [if_neg h2] at h; exact ⟨by omega, by omega, h⟩
  · rintro ⟨h1, h2, h3⟩
    rw [if_neg (by omega), if_neg (by omega)]; exact h3
set_option maxRecDepth 100000 in
set_option maxHeartbeats 4000000 in
theorem merges_walk (a b c : List Ent) (va vb vc : Value) (w : World) (ha : EntsAt (fun _ => True) w va a) (hb : EntsAt (fun _ => True) w vb b) (hc : EntsAt (fun _ => True) w vc c) (henv : Env w) :
    Calls Tryz.prog 4 #[va, vb, vc] w fun e w' => e = .returned (.bool true) ∧ Below w.heap.size w w' := by
  obtain ⟨aa, ca, rfl, hca, hma, -⟩ := SeqAt.shape ha EntR.len
  obtain ⟨ab, cb, rfl, hcb, hmb, -⟩ := SeqAt.shape hb EntR.len
  obtain ⟨ac, cc, rfl, hcc, hmc, -⟩ := SeqAt.shape hc EntR.len
  unfold maxLen at hma hmb hmc
  have HA := Lib.hid ha
  have HB := Lib.hid hb
  have HC := Lib.hid hc
  have HE := Lib.hid henv
  obtain ⟨na, hna⟩ : ∃ n, n = a.length := ⟨_, rfl⟩
  obtain ⟨nb, hnb⟩ : ∃ n, n = b.length := ⟨_, rfl⟩
  obtain ⟨nc, hnc⟩ : ∃ n, n = c.length := ⟨_, rfl⟩
  rw [← hna] at hca HA ⊢
  rw [← hnb] at hcb HB ⊢
  rw [← hnc] at hcc HC ⊢
  clear ha hb hc henv hna hnb hnc
  go_enter Tryz.func4, Tryz.ntmps4
  go_wp2_with fail
  refine (awD_any w HE.out).mono ?_
  rintro e w1 ⟨rfl, hb1⟩
  have HB1 := Lib.hid hb1
  clear hb1
  go_wp2_with fail
  obtain ⟨w2, hw2⟩ : ∃ Z : World, Z = w1.alloc (.cells #[.slice aa na ca, .slice ab nb cb, .slice ac nc cc] 22) := ⟨_, rfl⟩
  have hb2 : Below w1.heap.size w1 w2 := by rw [hw2]; exact (Below.refl _ _).alloc (Nat.le_refl _) _
  have HLS := Lib.hid (show ListsAt (fun _ => True) w2 (.slice (some ⟨w1.heap.size, 0, none⟩) 3 3) [(.slice aa na ca, a), (.slice ab nb cb, b), (.slice ac nc cc, c)] by
    rw [hw2]
    exact lists_new (ls := [(.slice aa na ca, a), (.slice ab nb cb, b), (.slice ac nc cc, c)]) (by simp) (fun x hx => by
      simp only [List.mem_cons, List.not_mem_nil, or_false] at hx
      rcases hx with rfl | rfl | rfl
      · exact HA.out.below HB1.out
      · exact HB.out.below HB1.out
      · exact HC.out.below HB1.out))
  have HB2 := Lib.hid (below_next HB1.out hb2)
  rw [← hw2]
  clear hw2 hb2
  refine (large23_any _ _ _ w2 HLS.out).mono ?_
  rintro e w3 ⟨tb, rfl, htr, hb3⟩
  have HTR := Lib.hid htr
  have HB3 := Lib.hid (below_next HB2.out hb3)
  clear htr hb3
  cases tb
  case true =>
    go_wp2_with fail
    go_ret
    exact ⟨rfl, HB3.out⟩
  have HLA := Lib.hid (HTR.out (by trivial) _ (List.mem_cons_self ..))
  have HLB := Lib.hid (HTR.out (by trivial) _ (List.mem_cons_of_mem _ (List.mem_cons_self ..)))
  have HLC := Lib.hid (HTR.out (by trivial) _ (List.mem_cons_of_mem _ (List.mem_cons_of_mem _ (List.mem_cons_self ..))))
  clear HTR HLS
  have HM := Lib.hid (show a.length ≤ 40 ∧ b.length ≤ 40 ∧ c.length ≤ 40 from ⟨HLA.out.1, HLB.out.1, HLC.out.1⟩)
  have HPS := Lib.hid (show (∀ e ∈ a, e.path.size ≤ 65000) ∧ (∀ e ∈ b, e.path.size ≤ 65000) ∧ ∀ e ∈ c, e.path.size ≤ 65000 from ⟨fun e he => by have := (HLA.out.2 e he).1; omega, fun e he => by have := (HLB.out.2 e he).1; omega, fun e he => by have := (HLC.out.2 e he).1; omega⟩)
  go_wp2_with fail
  refine (merge_any _ _ _ a b c _ _ _ w3 (HA.out.below HB3.out) (HB.out.below HB3.out) (HC.out.below HB3.out) (by have := HM.out; omega) (HE.out.below HB3.out)).mono ?_
  intro e w4 hr
  obtain ⟨chk, a7, a8, n7, n8, c7, c8, rfl, hans, hb4⟩ := mrg_ans hr
  have HANS := Lib.hid hans
  have HB4 := Lib.hid (below_next HB3.out hb4)
  obtain ⟨hcap1, hcap2, hcap3, hcap4⟩ := hans.cap
  clear hr hans hb4
  go_wp2_with fail
  obtain ⟨w5, hw5⟩ : ∃ Z : World, Z = w4.alloc (.cells #[.slice aa na ca, .slice ab nb cb, .slice ac nc cc] 22) := ⟨_, rfl⟩
  rw [← hw5]
  have HW5 := Lib.hid (show Below w4.heap.size w4 w5 by rw [hw5]; exact (Below.refl _ _).alloc (Nat.le_refl _) _)
  have HQ5 := Lib.hid (show w5.heap[w4.heap.size]? = some (.cells #[.slice aa na ca, .slice ab nb cb, .slice ac nc cc] 22 (0, 0)) by rw [hw5]; exact new20 w4 _)
  obtain ⟨lb, hlb⟩ : ∃ z, z = w4.heap.size := ⟨_, rfl⟩
  rw [← hlb] at HQ5 ⊢
  clear hw5 hlb
  go_loopw [37] (fun i wr => ∃ k : Nat, k ≤ 3 ∧ i = .int .i64 k ∧ ((1 ≤ k → checkP a = 0) ∧ (2 ≤ k → checkP b = 0) ∧ (3 ≤ k → checkP c = 0)) ∧ Below w5.heap.size w5 wr) (fun i _ => 3 - (intOf i).toNat)
  case atStart => exact ⟨0, Nat.zero_le _, rfl, ⟨by omega, by omega, by omega⟩, Below.refl _ _⟩
  case round =>
    obtain ⟨k, hk, rfl, hz, hbr⟩ := hrel
    have HZ := Lib.hid hz
    have HW6 := Lib.hid (below_next HW5.out hbr)
    have HBR := Lib.hid hbr
    have HB6 := Lib.hid (below_next HB4.out HW6.out)
    have HQ6 := Lib.hid ((hbr.block _ (lt20 HQ5.out)).trans HQ5.out)
    clear hz hbr
    by_cases hlt : k < 3
    · obtain ⟨cur, v6, hcell, hcur, hpc, hchk, hnext⟩ : ∃ (cur : List Ent) (v6 : Value), wr.cell? ⟨lb, k, none⟩ = some v6 ∧ EntsAt (fun _ => True) wr v6 cur ∧ (∀ e ∈ cur, e.path.size ≤ 65000) ∧ (checkP cur ≠ 0 → mrgChk a b c = checkP cur) ∧ (checkP cur = 0 → ((1 ≤ k + 1 → checkP a = 0) ∧ (2 ≤ k + 1 → checkP b = 0) ∧ (3 ≤ k + 1 → checkP c = 0))) := by
        have h0 := cell20 (k := k) HQ6.out
        have hz := HZ.out
        rcases (show k = 0 ∨ k = 1 ∨ k = 2 by omega) with rfl | rfl | rfl
        · exact ⟨a, _, h0, HA.out.below HB6.out, HPS.out.1, fun h => by unfold mrgChk; rw [if_pos h], fun h => ⟨fun _ => h, by omega, by omega⟩⟩
        · exact ⟨b, _, h0, HB.out.below HB6.out, HPS.out.2.1, fun h => by unfold mrgChk; rw [if_neg (by have := hz.1 (by omega); omega), if_pos h], fun h => ⟨fun _ => hz.1 (by omega), fun _ => h, by omega⟩⟩
        · exact ⟨c, _, h0, HC.out.below HB6.out, HPS.out.2.2, fun h => by unfold mrgChk; rw [if_neg (by have := hz.1 (by omega); omega), if_neg (by have := hz.2.1 (by omega); omega)], fun h => ⟨fun _ => hz.1 (by omega), fun _ => hz.2.1 (by omega), fun _ => h⟩⟩
      have HCUR := Lib.hid hcur
      have HPC := Lib.hid hpc
      have HCHK := Lib.hid hchk
      have HNX := Lib.hid hnext
      have hltb := lt20 HQ6.out
      clear hcur hpc hchk hnext
      have hk3 : (k : Int) < 3 := by omega
      obtain ⟨z, hz⟩ : ∃ z, z = checkP cur := ⟨_, rfl⟩
      have hrc := r_check_any _ cur v6 wr HCUR.out HPC.out
      rw [← hz] at HCHK HNX hrc
      clear hz
      by_cases hz0 : z = 0
      · subst hz0
        go_wp2_with (go_at_call 16; refine hrc.mono ?_; rintro e7 w7 ⟨rfl, hb7⟩; have HB7 := Lib.hid (below_next HBR.out hb7); clear hb7 hrc)
        go_roundw
        case rel => exact ⟨k + 1, by omega, by go_num, HNX.out (by trivial), HB7.out⟩
        case measure => simp [intOf]; omega
      · have e1 : (z != 0) = true := by simp [hz0]
        have hc1 : chk = z := HANS.out.ck.trans (HCHK.out hz0)
        obtain ⟨hn7, hn8⟩ := HANS.out.bad (by rw [hc1]; exact hz0)
        clear hz0
        subst hc1 hn7 hn8
        go_wp2_with (go_at_call 16; refine hrc.mono ?_; rintro e7 w7 ⟨rfl, hb7⟩; have HB7 := Lib.hid (below_next HB6.out hb7); clear hb7 hrc)
        go_ret
        exact ⟨rfl, HB7.out⟩
    · have hz3 : checkP a = 0 ∧ checkP b = 0 ∧ checkP c = 0 := ⟨HZ.out.1 (by omega), HZ.out.2.1 (by omega), HZ.out.2.2 (by omega)⟩
      have hc0 : chk = 0 := by rw [HANS.out.ck]; exact mrgChk_zero.2 hz3
      obtain ⟨m, ks, hn7, hn8, hmg, hm7, hk8⟩ := HANS.out.good hc0
      have HT := Lib.hid (show TOk a ∧ TOk b ∧ TOk c from ⟨checkP_iff.1 hz3.1, checkP_iff.1 hz3.2.1, checkP_iff.1 hz3.2.2⟩)
      have HMG := Lib.hid hmg
      have HM7 := Lib.hid (hm7.below HW6.out)
      have HK8 := Lib.hid (hk8.below (by omega) HW6.out)
      have HN8 := Lib.hid hn8
      subst hc0
      clear hz3 hmg hm7 hk8 hn7 hn8 HANS
      go_wp2_with fail
      refine (r_merge_any _ _ _ a b c _ _ _ wr (HA.out.below HB6.out) (HB.out.below HB6.out) (HC.out.below HB6.out) HT.out.1 HT.out.2.1 HT.out.2.2 HM.out HPS.out).mono ?_
      rintro e w7 ⟨m', k', vm, vk, rfl, hm', hem, hek, hb7⟩
      obtain ⟨h1, h2⟩ := merge_one HMG.out hm'
      subst h1 h2
      have HEM := Lib.hid hem
      obtain ⟨ak, ck, rfl, hck1, hck2, -⟩ := StrsAt.shape hek
      rw [← HN8.out] at hek hck1 ⊢
      unfold maxLen at hck2
      have HEK := Lib.hid hek
      have HM77 := Lib.hid (HM7.out.below hb7)
      have HK87 := Lib.hid (HK8.out.below (by omega) hb7)
      have HB7 := Lib.hid (below_next HB6.out hb7)
      clear hm' hem hek hb7
      go_wp2_with fail
      refine (r_sameall_any _ _ m m _ _ w7 HM77.out HEM.out).mono ?_
      rw [decide_eq_true rfl]
      rintro e w8 ⟨rfl, hb8⟩
      have HEK8 := Lib.hid (HEK.out.below (by omega) hb8)
      have HK88 := Lib.hid (HK87.out.below (by omega) hb8)
      have HB8 := Lib.hid (below_next HB7.out hb8)
      clear hb8
      go_wp2_with fail
      go_loopw [85] (fun i wr => ∃ k : Nat, k ≤ n8 ∧ i = .int .i64 k ∧ Below w8.heap.size w8 wr) (fun i _ => n8 - (intOf i).toNat)
      case atStart => exact ⟨0, Nat.zero_le _, rfl, Below.refl _ _⟩
      case round =>
        obtain ⟨j, hj, rfl, hbj⟩ := hrel
        have HBJ := Lib.hid hbj
        clear hbj
        by_cases hlj : j < n8
        · obtain ⟨p, hp⟩ : ∃ p, ks[j]? = some p := ⟨ks[j]'(by rw [← HN8.out]; exact hlj), by simp⟩
          obtain ⟨_, _, he1, _, _, hcell1⟩ := StrsAt.shape (HK88.out.below (by omega) HBJ.out)
          obtain ⟨b1, o1, hab1, -, p0⟩ := hcell1 j p hp
          simp only [Value.slice.injEq] at he1
          obtain ⟨rfl, -, rfl⟩ := he1
          subst hab1
          obtain ⟨_, _, he2, _, _, hcell2⟩ := StrsAt.shape (HEK8.out.below (by omega) HBJ.out)
          obtain ⟨b2, o2, hab2, -, p1⟩ := hcell2 j p hp
          simp only [Value.slice.injEq] at he2
          obtain ⟨rfl, -, rfl⟩ := he2
          subst hab2
          clear hcell1 hcell2 hp
          go_upto_region 19 with (fail)
          refine wp_region_segs [some 9] (by kernel_rfl) (by kernel_rfl) (by kernel_rfl) ?_
          simp only [wpSegs, List.take_succ_cons, List.take_zero]
          repeat (first | (refine seg_skip rfl ?_; simp only [Act.put, List.setIfInBounds_toArray, List.set_cons_succ, List.set_cons_zero]) | (refine seg_run rfl (fun K hK => ?_); go_simp; refine hK _ ?_; clear hK K))
          refine seg_nil ?_
          go_wp2_with fail
          go_roundw
          case rel => exact ⟨j + 1, by omega, by go_num, below_next HBJ.out bel_drew⟩
          case measure => simp [intOf]; omega
        · go_wp2_with fail
          go_ret
          exact ⟨rfl, below_next HB8.out HBJ.out⟩
end Go.Proofs.YtdieneaillkbgaaGreatDoor

/- What the laws share: from the form's words (shaped, laid) to the walks' premises, and back. -/
namespace Go.Proofs.YtdieneaillkbgaaGreatDoor
open Go.ChangeShapes Go.WideShapes Go.ChangeAt Go.RowKit Go.Lib Go.Shelf
open Go.ChangeMaps (open_string shut_string)
section
variable {H : Type} {enc : TypeId × Value → H}
/-- The wrap that hands on both the shape of the world and a further condition. -/
theorem handed {a : Assume} {C : Checked} {os : Os} {f : FuncId} {fn : Func} {s : ChangeSpec} {conds : List PathCond} {apart fresh handsOn again : Bool} {X : World → Array Value → Prop}
    (hX : ∀ (w w' : World) (args : Array Value), w.heap = w'.heap → X w args → X w' args)
    (own : ownKnob C.prog.godebug = none) (started : os.Started) (noInit : C.prog.inits.idxOf? f = none) (hfn : C.prog.funcs[f]? = some fn)
    (witness : ∃ (w : World) (tape : Tape) (i : Input), w.os = os ∧ (w.forCall tape i).Shaped C.prog ∧ i.vars = [] ∧ Input.okWide C.prog (w.forCall tape i) .any w.heap.size f i ∧
      ((s.pre enc C.prog fn conds apart (w.forCall tape i).memory i.args ∧ X (w.forCall tape i).memory i.args) ∧ sizedMet enc C.prog fn (OpenSpec.ofChange s) apart (w.forCall tape i).memory i.args) ∧ a.holds C.prog (lone (Frame.enter C.prog f i.args .normal) [] (w.forCall tape i)))
    (contract : ∀ (W : World) (base : Nat) (args : Array Value) (ds gs : List (DataW H)) (before : List MemPlace),
      (∀ (j : Nat) t v, fn.params[j]? = some t → args[j]? = some v → Value.okWide C.prog W .any base t v) →
      DataW.Whole enc C.prog fn.params.toList s.vars apart W args.toList ds gs before →
      (DataW.weightsEach C.prog (fn.params.toList ++ s.plain.varTypes C.prog) (ds ++ gs)).all (· ≤ reachBytes) = true → X W args → W.ShapedOpen C.prog →
      Calls C.prog f args W fun e W' => ∃ v, e = .returned v ∧ s.post enc C.prog fn apart fresh handsOn again W args v W') :
    ReturnsInHanded a C os f .any (fun w args => (s.pre enc C.prog fn conds apart w args ∧ X w args) ∧ sizedMet enc C.prog fn (OpenSpec.ofChange s) apart w args) (s.post enc C.prog fn apart fresh handsOn again) := by
  refine returnsInHanded_of_calls own started noInit witness ?_
  intro w tape i _ hsh _ hok hpre hholds
  obtain ⟨_, _, _, fn', hfn', _, _, _, _, hval⟩ := hok
  have e : fn' = fn := Option.some.inj (hfn'.symm.trans hfn)
  subst e
  obtain ⟨⟨⟨ds, gs, before, hw, hc⟩, hx⟩, hz⟩ := hpre
  have hw' := DataW.Whole.of_heap (w' := w.forCall tape i) (by rfl) hw
  refine (contract (w.forCall tape i) w.heap.size i.args ds gs before hval hw' (hz.weights hw) (hX _ _ _ (by rfl) hx) hsh).mono fun e W' ⟨v, he, hp⟩ => ?_
  subst he
  exact ChangeSpec.post_blind hp
end
def laidL : List (String × DataW Unit) := [("unicode/utf8.acceptRanges", Rows.laid_unicode_utf8_acceptRanges), ("unicode/utf8.first", Rows.laid_unicode_utf8_first)]
theorem own : ownKnob Tryz.prog.godebug = none := by kernel_rfl
theorem laidOut : laidOutB Tryz.prog = true := by kernel_rfl
theorem accept_eq : (Rows.laid_unicode_utf8_acceptRanges : DataW Unit) = acceptData := by kernel_rfl
theorem env_of {W : World} (hL : laidMetH Tryz.prog laidL W) (hsh : W.ShapedOpen Tryz.prog) : Env W := by
  rw [MakeChecks.laidMetH_plain _ _ _ (by kernel_rfl)] at hL
  refine ⟨?_, ?_⟩
  · exact cell_of_shapedOpen_int (zero := #[.int .i64 0]) (t := 3) hsh (of_decide_eq_true (by kernel_rfl)) (by kernel_rfl) rfl (by kernel_rfl) (by kernel_rfl) Tryz.underlying3
  · have h1 := Lib.laidMet.reads hL (.head _)
    have h2 := Lib.laidMet.reads hL (.tail _ (.head _))
    rw [accept_eq] at h1
    exact utf8Tabs_of_readsT (U8Types.of196 Tryz.laysValid) ⟨by kernel_rfl, by kernel_rfl, by kernel_rfl, by kernel_rfl, by kernel_rfl, by kernel_rfl, by kernel_rfl⟩ (Pinned.utf8First_eq ▸ h2) h1
end Go.Proofs.YtdieneaillkbgaaGreatDoor

/- From the form's reading of slices and structs to the rows of the walks. -/
namespace Go.Proofs.YtdieneaillkbgaaGreatDoor
open Go.ChangeShapes Go.WideShapes Go.ChangeAt Go.RowKit Go.Lib Go.Shelf
section
variable {H : Type} {enc : TypeId × Value → H} {P : Program} {W : World} {base : Nat}
theorem add_add (a : Addr) (i j : Nat) : (a.add i).add j = a.add (i + j) := by
  unfold Addr.add
  by_cases hi : i = 0
  · simp [hi]
  · by_cases hj : j = 0
    · simp [hi, hj]
    · simp [hi, hj]; omega
/-- A slice as it is read, its elements' cells read by R. -/
theorem seq_read {α : Type} {R : List Value → α → Prop} {t e : TypeId} {sz : Nat} {spare : Nat → Bool} {held : Bool} {fuel : Nat} {cs0 : List Value} {y0 : DataW H × List MemPlace} (ht : P.underlying t = some (.slice e)) (hc : P.cellsOf e = sz) (hpos : 0 < sz)
    (hR : ∀ n cs y, DataW.trod enc P W base spare held n e cs = some y → ∃ x, R cs x) (hs : ∀ c x, R c x → c.length = sz)
    (hf : DataW.trod enc P W base spare held fuel t cs0 = some y0) : ∃ v, cs0 = [v] ∧ ∃ xs : List α, SeqAt (fun _ => True) W sz R v xs := by
  rcases DataW.trod_slice ht hf with ⟨hcs, _⟩ | ⟨a, len0, cap0, elems, rest, n, _, hcs, _, hb, hl, hm, hlen, hel, _, _⟩
  · exact ⟨_, hcs, [], SeqAt.nil⟩
  · refine ⟨_, hcs, ?_⟩
    rw [hc] at hel
    have each : ∀ i, i < len0 → ∃ cs x, R cs x ∧ cs.length = sz ∧ ∀ j, j < sz → W.cell? (a.add (i * sz + j)) = cs[j]? := by
      intro i hi
      have h1 := hel i hi
      rw [List.getElem?_eq_getElem (by omega), Option.bind_eq_some_iff] at h1
      obtain ⟨cs, hcs, hy⟩ := h1
      obtain ⟨x, hx⟩ := hR n cs _ hy
      refine ⟨cs, x, hx, hs cs x hx, fun j hj => ?_⟩
      have h3 := World.cells?_some hcs
      rw [← add_add]
      exact h3.2.2 j hj
    have main : ∀ m, m ≤ len0 → ∃ (cells : List Value) (xs : List α), xs.length = m ∧ cells.length = m * sz ∧ RowsIn R cells xs ∧ ∀ (j : Nat) u, cells[j]? = some u → W.cell? (a.add j) = some u := by
      intro m
      induction m with
      | zero => intro _; exact ⟨[], [], rfl, by simp, rfl, fun j u hj => by simp at hj⟩
      | succ m ih =>
        intro hm
        obtain ⟨cells, xs, h1, h2, h3, h4⟩ := ih (by omega)
        obtain ⟨cs, x, hx, hcl, hcc⟩ := each m (by omega)
        refine ⟨cells ++ cs, xs ++ [x], by simp [h1], by rw [List.length_append, h2, hcl, Nat.add_mul]; omega, RowsIn.snoc h3 hx, fun j u hj => ?_⟩
        rcases Nat.lt_or_ge j cells.length with hj2 | hj2
        · rw [List.getElem?_append_left hj2] at hj; exact h4 j u hj
        · rw [List.getElem?_append_right hj2] at hj
          have hlt := (List.getElem?_eq_some_iff.1 hj).1
          have := hcc (j - cells.length) (by omega)
          rw [h2, show m * sz + (j - m * sz) = j by omega] at this
          rw [this, ← h2]; exact hj
    obtain ⟨cells, xs, h1, h2, h3, h4⟩ := main len0 (Nat.le_refl _)
    subst h1
    refine ⟨xs, cells, ⟨h2, some a, cap0, rfl, hl, hm, ?_⟩, h3⟩
    rcases Nat.eq_zero_or_pos xs.length with h0 | h0
    · exact .inl h0
    · right
      have hpl : 0 < cells.length := by rw [h2]; exact Nat.mul_pos h0 hpos
      have hc0 := h4 0 cells[0] (by simp [hpl])
      have hsp : a.spot = none := by simpa [Addr.add] using World.cell?_spot hc0
      obtain ⟨b, o, sp⟩ := a
      simp only at hsp
      subst hsp
      refine ⟨b, o, rfl, trivial, fun j u hj => ?_⟩
      have := h4 j u hj
      rw [add_lit] at this; exact this
/-- A slice that came in: its elements' cells, read by R. -/
theorem open_seq {α : Type} {R : List Value → α → Prop} {t e : TypeId} {sz b0 : Nat} {spare : Nat → Bool} {held : Bool} {v : Value} {d : DataW H} {ps : List MemPlace} (ht : P.underlying t = some (.slice e)) (hc : P.cellsOf e = sz) (hpos : 0 < sz)
    (hR : ∀ n cs y, DataW.trod enc P W base spare held n e cs = some y → ∃ x, R cs x) (hs : ∀ c x, R c x → c.length = sz)
    (hval : Value.okWide P W .any b0 t v) (h : DataW.Trod enc P W base spare held t v d ps) : ∃ xs : List α, SeqAt (fun _ => True) W sz R v xs := by
  obtain ⟨a0, len0, cap0, rfl⟩ := okWide_slice ht hval
  obtain ⟨fuel, hf⟩ := h
  obtain ⟨v, h1, h2⟩ := seq_read ht hc hpos hR hs hf
  simp [Value.cells] at h1
  subst h1
  exact h2
end
section
variable {H : Type} {enc : TypeId × Value → H} {W : World} {base b0 : Nat} {spare : Nat → Bool} {held : Bool} {v : Value} {d : DataW H} {ps : List MemPlace}
theorem field_read {P : Program} {t : TypeId} {fs : Array Field} {fuel : Nat} {cs : List Value} {x : DataW H × List MemPlace} (ht : P.underlying t = some (.struct fs)) (h : DataW.trod enc P W base spare held fuel t cs = some x) (i : Nat) {f : Field} (hf : fs[i]? = some f) :
    ∃ n y, DataW.trod enc P W base spare held n f.type ((cs.drop f.offset).take (P.cellsOf f.type)) = some y := by
  obtain ⟨xs, n, _, _, _, hlen, hF⟩ := DataW.trod_struct ht h
  have hi : i < xs.length := by rw [hlen]; exact (Array.getElem?_eq_some_iff.1 hf).1
  exact ⟨n, xs[i], by rw [hF i f hf]; simp [hi]⟩
theorem struct_len {P : Program} {t : TypeId} {fs : Array Field} {fuel : Nat} {cs : List Value} {x : DataW H × List MemPlace} (ht : P.underlying t = some (.struct fs)) (h : DataW.trod enc P W base spare held fuel t cs = some x) : cs.length = P.cellsOf t := by
  obtain ⟨xs, n, _, _, hl, _, _⟩ := DataW.trod_struct ht h
  exact hl
theorem cellsStr : Tryz.prog.cellsOf 9 = 1 := by kernel_rfl
theorem cellsInt : Tryz.prog.cellsOf 3 = 1 := by kernel_rfl
theorem cellsU8 : Tryz.prog.cellsOf 5 = 1 := by kernel_rfl
theorem cellsData : Tryz.prog.cellsOf 46 = 1 := by kernel_rfl
theorem cellsEnt : Tryz.prog.cellsOf 48 = 6 := by kernel_rfl
theorem list6 {α : Type} {cs : List α} (h : cs.length = 6) : ∃ c0 c1 c2 c3 c4 c5, cs = [c0, c1, c2, c3, c4, c5] := by
  match cs, h with
  | [c0, c1, c2, c3, c4, c5], _ => exact ⟨c0, c1, c2, c3, c4, c5, rfl⟩
def ByteR (c : List Value) (b : UInt8) : Prop := c = [u8V b]
theorem read_byte {n : Nat} {cs : List Value} {y : DataW H × List MemPlace} (h : DataW.trod enc Tryz.prog W base spare held n 5 cs = some y) : ∃ b, ByteR cs b := by
  obtain ⟨a, e, _, hw⟩ := DataW.trod_int Tryz.underlying5 h
  have h1 : 0 ≤ a ∧ a ≤ 255 := by
    simp only [Lit.wf, Bool.and_eq_true, decide_eq_true_eq] at hw
    exact ⟨hw.1, hw.2⟩
  refine ⟨UInt8.ofNat a.toNat, ?_⟩
  unfold ByteR u8V
  rw [e, UInt8.toNat_ofNat_of_lt' (by show a.toNat < 256; omega), Int.toNat_of_nonneg h1.1]
theorem bytes_of_seq {S : Nat → Prop} {w : World} {v : Value} {bs : List UInt8} (h : SeqAt S w 1 ByteR v bs) : DataAt S w v bs := by
  obtain ⟨cells, h1, h2⟩ := h
  have : ∀ (bs : List UInt8) (cells : List Value), RowsIn ByteR cells bs → cells = bs.map u8V := by
    intro bs
    induction bs with
    | nil => intro cells h; exact h
    | cons x bs ih =>
      rintro cells ⟨c, rest, rfl, hc, hr⟩
      rw [ih rest hr, show c = [u8V x] from hc]; rfl
  rw [this bs cells h2] at h1
  exact h1
set_option maxRecDepth 100000 in
theorem read_data {n : Nat} {cs : List Value} {y : DataW H × List MemPlace} (h : DataW.trod enc Tryz.prog W base spare held n 46 cs = some y) : ∃ v, cs = [v] ∧ ∃ bs, DataAt (fun _ => True) W v bs := by
  obtain ⟨v, h1, bs, h2⟩ := seq_read (R := ByteR) Tryz.underlying46 cellsU8 (by omega) (fun n cs y hy => read_byte hy) (fun c x hc => by rw [show c = [u8V x] from hc]; rfl) h
  exact ⟨v, h1, bs, bytes_of_seq h2⟩
set_option maxRecDepth 100000 in
theorem read_ent {n : Nat} {cs : List Value} {y : DataW H × List MemPlace} (h : DataW.trod enc Tryz.prog W base spare held n 48 cs = some y) : ∃ e, EntR (fun _ => True) W cs e := by
  have hl := struct_len Tryz.underlying48 h
  rw [cellsEnt] at hl
  obtain ⟨c0, c1, c2, c3, c4, c5, rfl⟩ := list6 hl
  obtain ⟨n0, y0, h0⟩ := field_read Tryz.underlying48 h 0 rfl
  obtain ⟨n1, y1, h1⟩ := field_read Tryz.underlying48 h 1 rfl
  obtain ⟨n2, y2, h2⟩ := field_read Tryz.underlying48 h 2 rfl
  obtain ⟨n3, y3, h3⟩ := field_read Tryz.underlying48 h 3 rfl
  obtain ⟨n4, y4, h4⟩ := field_read Tryz.underlying48 h 4 rfl
  obtain ⟨n5, y5, h5⟩ := field_read Tryz.underlying48 h 5 rfl
  simp only [List.getElem_toArray, List.getElem_cons_zero, List.getElem_cons_succ, cellsStr, cellsInt, cellsData] at h0 h1 h2 h3 h4 h5
  obtain ⟨a0, e0, _, g0⟩ := DataW.trod_string Tryz.underlying9 h0
  obtain ⟨a1, e1, _, g1⟩ := DataW.trod_int Tryz.underlying3 h1
  obtain ⟨a2, e2, _, g2⟩ := DataW.trod_int Tryz.underlying3 h2
  obtain ⟨a3, e3, _, g3⟩ := DataW.trod_int Tryz.underlying3 h3
  obtain ⟨a4, e4, bs, g4⟩ := read_data h4
  obtain ⟨a5, e5, _, g5⟩ := DataW.trod_string Tryz.underlying9 h5
  simp at e0 e1 e2 e3 e4 e5
  subst e0 e1 e2 e3 e4 e5
  exact ⟨⟨a0, a1, a2, a3, bs, a5⟩, _, rfl, g4, ⟨g0, g5, g1, g2, g3⟩⟩
set_option maxRecDepth 100000 in
theorem open_ents (hval : Value.okWide Tryz.prog W .any b0 22 v) (h : DataW.Trod enc Tryz.prog W base spare held 22 v d ps) : ∃ xs, EntsAt (fun _ => True) W v xs :=
  @open_seq H enc Tryz.prog W base Ent (EntR (fun _ => True) W) 22 48 6 b0 spare held v d ps Tryz.underlying22 cellsEnt (by omega) (fun n cs y hy => read_ent hy) EntR.len hval h
end
end Go.Proofs.YtdieneaillkbgaaGreatDoor

/- TreediffMerges: for every input the law returns true, and each argument reads afterwards as it read before (the tied card). -/
namespace Go.Proofs.YtdieneaillkbgaaGreatDoor
open Go.ChangeShapes Go.WideShapes Go.ChangeAt Go.RowKit Go.Lib Go.Shelf
open Go.ChangeMaps (open_string shut_string)
namespace CMerges
set_option maxRecDepth 100000 in
theorem lifted (os : Os) (started : os.Started) (H : Type) (enc : TypeId × Value → H) :
    ReturnsInHanded {} Tryz.checked os 4 .any (fun w args => (Rows.treediffMergesSpec.pre enc Tryz.prog Tryz.f4 [] false w args ∧ laidMetH Tryz.prog laidL w) ∧ sizedMet enc Tryz.prog Tryz.f4 (OpenSpec.ofChange Rows.treediffMergesSpec) false w args)
      (Rows.treediffMergesSpec.post enc Tryz.prog Tryz.f4 false true false false) := by
  refine handed (C := Tryz.checked) (X := fun w _ => laidMetH Tryz.prog laidL w) (fun _ _ _ hh h => h.of_heap hh) own started (by kernel_rfl) Tryz.func4
    (ChangeSpec.witness_shaped (enc := enc) (C := Tryz.checked) (os := os) (X := fun w _ => laidMetH Tryz.prog laidL w) false (World.laidAll Tryz.prog os laidL) #[.slice none 0 0, .slice none 0 0, .slice none 0 0] 8 (World.laidAll_os _ _ _)
      (World.shaped_of_ZipB (by kernel_rfl) (by kernel_rfl)) (by kernel_rfl) (by kernel_rfl) (by kernel_rfl)
      (by rw [MakeChecks.laidMetH_plain _ _ _ (by kernel_rfl)]; exact laidMet_laidAll _ (by kernel_rfl) (by kernel_rfl))) ?_
  intro W base args ds gs before hval0 hW _hWt hL hsh
  have hval : ∀ (j : Nat) t v, Tryz.f4.params[j]? = some t → args[j]? = some v → Value.okWide Tryz.prog W .any base t v := hval0
  have hW' := hW
  obtain ⟨p, q, hA0, hV, rfl, _, _⟩ := hW
  have hA : DataW.TrodAll enc Tryz.prog W 0 (fun _ => true) true Tryz.f4.params.toList args.toList ds p := hA0
  rw [Tryz.params4] at hA hval
  obtain ⟨rfl, rfl⟩ := trodVars_none hV
  simp only [List.append_nil] at hW'
  obtain ⟨v0, v1, v2, d0, d1, d2, p0, p1, p2, rfl, rfl, rfl, h0, h1, h2⟩ := trodAll_three hA
  obtain ⟨l0, hl0⟩ := open_ents (hval 0 22 v0 rfl rfl) h0
  have hlt0 : ∀ x ∈ p0, x.block < W.heap.size := fun x hx => by simpa using hW'.lt x (by simp [hx])
  obtain ⟨l1, hl1⟩ := open_ents (hval 1 22 v1 rfl rfl) h1
  have hlt1 : ∀ x ∈ p1, x.block < W.heap.size := fun x hx => by simpa using hW'.lt x (by simp [hx])
  obtain ⟨l2, hl2⟩ := open_ents (hval 2 22 v2 rfl rfl) h2
  have hlt2 : ∀ x ∈ p2, x.block < W.heap.size := fun x hx => by simpa using hW'.lt x (by simp [hx])
  refine (merges_walk l0 l1 l2 v0 v1 v2 W hl0 hl1 hl2 (env_of hL hsh)).mono fun e W' ⟨he, hb⟩ => ?_
  subst he
  exact ⟨_, rfl, _, _, _, [], _, [], hW', trodAll_mk1 (shut_bool Tryz.underlying4 _), trodAll_mk3 (Below.trod laidOut (by kernel_rfl) (of_decide_eq_true (by kernel_rfl)) h0 hb hlt0) (Below.trod laidOut (by kernel_rfl) (of_decide_eq_true (by kernel_rfl)) h1 hb hlt1) (Below.trod laidOut (by kernel_rfl) (of_decide_eq_true (by kernel_rfl)) h2 hb hlt2), rfl, hb.frame _, fun h => by cases h⟩
theorem holds : Rows.TreediffMergesSaid :=
  OpenClaim.holds_of_wide 4 Tryz.f4 rfl rfl rfl rfl rfl rfl rfl ⟨rfl, rfl, rfl, rfl, rfl⟩ rfl rfl rfl rfl rfl (by kernel_rfl) Tryz.func4 (by kernel_rfl)
    (of_decide_eq_true (by kernel_rfl)) (by unfold Func.isWrapper; first | (rw [if_pos (by decide +kernel)]; kernel_rfl) | (rw [if_neg (by decide +kernel)]; exact ⟨rfl, rfl⟩))
    (fun os started H enc _ => lifted os started H enc)
theorem card_holds : Rows.TreediffMergesCardSaid :=
  Claim7.holds_tied_plain_at .later [] [.data, .pinned] true (true, "26f308a74d533cd0a72c14b9da7e68f4e1e057f8caa1e49e6438d7b0ff3c70c4") false holds (fun _ h => by cases h) (by kernel_rfl) (fun _ h => by cases h) treediffMerges_row_tie rfl ⟨rfl, rfl⟩ (by kernel_rfl) rfl
    (fun f fn hf hfn => by
      obtain rfl : f = 4 := Option.some.inj ((show Tryz.prog.funcNamed "kinkeep/kinkeeplaw23.TreediffMerges" = some 4 by kernel_rfl).symm.trans hf) |>.symm
      obtain rfl : fn = Tryz.f4 := (Option.some.inj (Tryz.func4.symm.trans hfn)).symm
      exact ⟨by kernel_rfl, fun j t ht => by
        rw [Tryz.params4] at ht
        have hm : t ∈ [22] := by simpa using Array.mem_of_getElem? ht
        have hall : ([22].all fun u => !Tryz.prog.wantsStandIn u) = true := by kernel_rfl
        exact (show Tryz.prog.wantsStandIn t = false by simpa using List.all_eq_true.1 hall t hm)⟩)
    (by kernel_rfl)
#print axioms card_holds
end CMerges
theorem treediffMerges_card : Rows.TreediffMergesCardSaid := CMerges.card_holds
end Go.Proofs.YtdieneaillkbgaaGreatDoor
