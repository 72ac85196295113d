/- LivenessExclusive: for every input the law returns true, and each argument reads afterwards as it read before (the tied card). -/
import Derived.Test.YtndgmcggckpgfaaGreatDoorMG
import Derived.IntWalk
/- Snapshots without one, snapshots of two lists: contracts of others. -/
namespace Go.Proofs.YtndgmcggckpgfaaGreatDoor
open Go.RowKit


theorem Tryz.appSnaps : AppTy Tryz.prog 22 62 10 96 := AppTy.mk' (z := .agg #[.int .i64 0, .int .i64 0, .int .i64 0, .string ⟨#[]⟩, .int .i64 0, .int .i64 0, .int .i64 0, .int .i64 0, .string ⟨#[]⟩, .bool false]) Tryz.underlying22 (by kernel_rfl) rfl (by decide) (by decide)
theorem snaps_one {cells : List Value} : ∀ {rs : List Ref}, RowsIn SnapR cells rs → ∀ u ∈ cells, u.oneCell' = true := by
  intro rs
  induction rs generalizing cells with
  | nil => intro h; have : cells = [] := h; subst this; simp
  | cons r rs ih =>
    rintro ⟨c, rest, rfl, ⟨a, b, d, f, g, p, h, rfl, _⟩, hr⟩ u hu
    rcases List.mem_append.1 hu with hu | hu
    · simp only [List.mem_cons, List.not_mem_nil, or_false] at hu
      rcases hu with rfl | rfl | rfl | rfl | rfl | rfl | rfl | rfl | rfl | rfl <;> rfl
    · exact ih hr u hu
theorem RowsIn.append {α : Type} {R : List Value → α → Prop} : ∀ {xs ys : List α} {c d : List Value}, RowsIn R c xs → RowsIn R d ys → RowsIn R (c ++ d) (xs ++ ys)
  | [], ys, c, d, h1, h2 => by have : c = [] := h1; subst this; exact h2
  | x :: xs, ys, c, d, ⟨c0, rest, e, hx, hr⟩, h2 => by
    subst e
    exact ⟨c0, rest ++ d, by rw [List.append_assoc], hx, RowsIn.append hr h2⟩
theorem RowsIn.dropN {α : Type} {R : List Value → α → Prop} {sz : Nat} (hs : ∀ c x, R c x → c.length = sz) {xs : List α} {cells : List Value} (k : Nat) (h : RowsIn R cells xs) (hk : k ≤ xs.length) : RowsIn R (cells.drop (k * sz)) (xs.drop k) := RowsIn.drop hs k h hk
/-- Behind the first k of a list. -/
theorem SeqAt.dropN {α : Type} {S : Nat → Prop} {w : World} {sz : Nat} {R : List Value → α → Prop} {b o n cap : Nat} {xs : List α} (hs : ∀ c x, R c x → c.length = sz) (h : SeqAt S w sz R (.slice (some ⟨b, o, none⟩) n cap) xs) {k o' : Nat} (hk : k ≤ xs.length) (ho : k < xs.length → o' = o + k * sz) :
    SeqAt S w sz R (.slice (some ⟨b, o', none⟩) (xs.length - k) (cap - k)) (xs.drop k) := by
  obtain ⟨cells, ⟨hl, a', cap', hv, hn, hm, h0⟩, hr⟩ := h
  cases hv
  have hlt : (xs.drop k).length = xs.length - k := List.length_drop
  refine ⟨cells.drop (k * sz), ⟨?_, some ⟨b, o', none⟩, cap - k, by rw [hlt], by omega, by omega, ?_⟩, RowsIn.drop hs k hr hk⟩
  · rw [List.length_drop, hl, hlt, Nat.sub_mul]
  · rcases Nat.lt_or_ge k xs.length with hkl | hkl
    · rcases h0 with h0 | ⟨b', o2, ha, hb, hc⟩
      · omega
      · cases ha
        refine .inr ⟨b, o', rfl, hb, fun j u hj => ?_⟩
        rw [List.getElem?_drop] at hj
        rw [ho hkl, Nat.add_assoc]
        exact hc _ u hj
    · exact .inl (by omega)
end Go.Proofs.YtndgmcggckpgfaaGreatDoor

/- The law LivenessExclusive: its walk. -/
namespace Go.Proofs.YtndgmcggckpgfaaGreatDoor
open Go.RowKit



theorem RefsAt.lts {S : Nat → Prop} {w : World} {v : Value} {rs : List Ref} (h : RefsAt S w v rs) : RefsAt (· < w.heap.size) w v rs := by
  obtain ⟨cells, h1, h2⟩ := h
  exact ⟨cells, h1.mono (fun k hk _ => hk) (by omega), h2⟩
theorem ListsAt.lts {S : Nat → Prop} {w : World} {v : Value} {ls : List (List Ref)} (h : ListsAt S w v ls) : ListsAt (· < w.heap.size) w v ls := by
  obtain ⟨cells, h1, h2⟩ := h
  exact ⟨cells, h1.mono (fun k hk _ => hk) (by omega), h2.mono (fun c x _ ⟨a, cap, e, h⟩ => ⟨a, cap, e, RefsAt.lts h⟩)⟩
theorem lists_one {S : Nat → Prop} {w : World} {cells : List Value} : ∀ {ls : List (List Ref)}, RowsIn (ListR S w) cells ls → ∀ u ∈ cells, u.oneCell' = true := by
  intro ls
  induction ls generalizing cells with
  | nil => intro h; have : cells = [] := h; subst this; simp
  | cons r rs ih =>
    rintro ⟨c, rest, rfl, ⟨a, cap, rfl, _⟩, hr⟩ u hu
    rcases List.mem_append.1 hu with hu | hu
    · simp only [List.mem_cons, List.not_mem_nil, or_false] at hu
      subst hu; rfl
    · exact ih hr u hu
theorem ListsAt.takeN {S : Nat → Prop} {w : World} {a : Option Addr} {n cap : Nat} {ls : List (List Ref)} (h : ListsAt S w (.slice a n cap) ls) {k : Nat} (hk : k ≤ ls.length) : ListsAt S w (.slice a k cap) (ls.take k) := SeqAt.takeN ListR.len h hk
set_option maxRecDepth 100000 in
set_option maxHeartbeats 4000000 in
theorem exclusive_walk (sv cv : Value) (roots : List Ref) (cs : List (ByteArray × List UInt8)) (index : Int) (w : World) (he : Env w) (hs : SnapsAt (fun _ => True) w sv roots) (hc : ContIn (fun _ => True) w cv cs) :
    Calls Tryz.prog 3 #[sv, .int .i64 index, cv] w fun e w' => e = .returned (.bool true) ∧ Below w.heap.size w w' := by
  have HRK := Lib.hid hs.ok
  obtain ⟨sa, sc, rfl, hsc, hsm, -⟩ := SeqAt.shape hs SnapR.len
  have HSC := Lib.hid (And.intro hsc hsm)
  unfold maxLen at hsm
  obtain ⟨cm, rfl⟩ := cont_map hc
  have HL := Lib.hid (show LCtx w w (.slice sa roots.length sc) (.map cm) roots cs from ⟨he, hs, hc, Below.refl _ _⟩)
  clear he hs hc
  go_enter Tryz.func3, Tryz.ntmps3
  go_wp2_with fail
  have hb := (Below.refl w.heap.size w).alloc (Nat.le_refl _) (.cells #[.slice sa roots.length sc] 22)
  have HLq := Lib.hid (HL.out.next hb)
  clear HL
  have HL := HLq
  clear HLq
  refine (few_any _ _ _ _ cs [roots.length] _ HL.out.cont (lens_one HSC.out.1 HSC.out.2)).mono ?_
  clear hb
  rintro e w1 ⟨fb, rfl, hb, hfew⟩
  have HLq := Lib.hid (HL.out.next hb)
  clear HL
  have HL := HLq
  clear HLq
  clear hb
  cases fb
  · clear hfew
    go_wp2_with fail
    refine (awake48_any _ HL.out.env).mono ?_
    rintro e wz ⟨rfl, hbz⟩
    have HLZ := Lib.hid (HL.out.next hbz)
    clear hbz
    go_wp2_with fail
    go_ret
    exact ⟨rfl, HLZ.out.below⟩
  · obtain ⟨h6, h80⟩ := hfew rfl
    have h6' : roots.length ≤ 6 := h6 _ (by simp)
    have HN := Lib.hid (needF_ok h80)
    have HRF := Lib.hid (refsOf_needF h80)
    clear hfew h6 h80
    go_wp2_with fail
    refine (Exclusive_any cs _ HN.out _ _ _ _ roots index _ HL.out.snaps HL.out.cont.at HL.out.env (by omega)).mono ?_
    rintro e w2 ⟨hb, hres⟩
    have HLq := Lib.hid (HL.out.next hb)
    clear HL
    have HL := HLq
    clear HLq
    by_cases hin : index < 0 ∨ (roots.length : Int) ≤ index
    · have hx : exclE (needF cs) roots index = .error 1 := by unfold exclE; rw [if_pos hin]
      rw [hx] at hres
      obtain ⟨rfl, -⟩ := hres
      clear hb hx
      by_cases h0 : index < 0
      · clear hin
        go_wp2_with fail
        refine (awake48_any _ HL.out.env).mono ?_
        rintro e wz ⟨rfl, hbz⟩
        have HLZ := Lib.hid (HL.out.next hbz)
        clear hbz
        go_wp2_with fail
        go_ret
        exact ⟨rfl, HLZ.out.below⟩
      · have h1 : (roots.length : Int) ≤ index := by omega
        clear hin
        go_wp2_with fail
        refine (awake48_any _ HL.out.env).mono ?_
        rintro e wz ⟨rfl, hbz⟩
        have HLZ := Lib.hid (HL.out.next hbz)
        clear hbz
        go_wp2_with fail
        go_ret
        exact ⟨rfl, HLZ.out.below⟩
    · obtain ⟨ix, rfl⟩ : ∃ ix : Nat, index = (ix : Int) := ⟨index.toNat, by omega⟩
      have hix : ix < roots.length := by omega
      rw [exclE_in hix] at hres
      clear hin
      cases hea : eachP (needF cs) roots with
      | error x =>
        rw [hea] at hres
        obtain ⟨rfl, hx⟩ := hres
        have e1 : (x != 0) = true := by simp [hx]
        have HEA := Lib.hid hea
        clear hea hx hb
        go_wp2_with fail
        refine (each48_any cs _ HRF.out _ _ _ _ roots _ HL.out.snaps HL.out.cont.at HL.out.env (by omega)).mono ?_
        rintro e w4 ⟨hb, hres⟩
        have HLq := Lib.hid (HL.out.next hb)
        clear HL
        have HL := HLq
        clear HLq
        rw [HEA.out] at hres
        obtain ⟨rfl, -⟩ := hres
        clear hb
        go_wp2_with fail
        refine (awake48_any _ HL.out.env).mono ?_
        rintro e wz ⟨rfl, hbz⟩
        have HLZ := Lib.hid (HL.out.next hbz)
        clear hbz
        go_wp2_with fail
        go_ret
        exact ⟨rfl, HLZ.out.below⟩
      | ok ls =>
        rw [hea] at hres
        obtain ⟨xv, rfl, hxv⟩ := hres
        have hll : ls.length = roots.length := eachP_len hea
        obtain ⟨lx, hlx⟩ : ∃ lx, ls[ix]? = some lx := ⟨ls[ix]'(by omega), by simp⟩
        have hgd : ls.getD ix [] = lx := by rw [List.getD_eq_getElem?_getD, hlx]; rfl
        obtain ⟨xl, hxl⟩ : ∃ xl, xl = lessP lx (unionP (ls.eraseIdx ix)) := ⟨_, rfl⟩
        have hxv2 : RefsAt (w1.heap.size ≤ ·) w2 xv xl := by rw [hxl, ← hgd]; exact hxv
        have HG := Lib.hid hxv2
        obtain ⟨xa, xc, rfl, -, -, -⟩ := SeqAt.shape hxv2 RefR.len
        have HXL := Lib.hid hxl
        have HLX := Lib.hid hlx
        have HEA := Lib.hid hea
        have HLS := Lib.hid (eachP_le HN.out HRK.out hea)
        have HRE := Lib.hid (show ∀ l ∈ ls.eraseIdx ix, l.length ≤ 1000000000 from fun l hl => HLS.out l (List.mem_of_mem_eraseIdx hl))
        have hixl : ix < ls.length := by omega
        have HLL := Lib.hid (show lx.length < 4398046511104 from Nat.lt_of_le_of_lt (HLS.out lx (List.mem_of_getElem? hlx)) (by decide))
        have hlen : ls.length ≤ 1000 := by omega
        clear hea hxv hxv2 hxl hgd hlx hb hll
        go_wp2_with fail
        refine (each48_any cs _ HRF.out _ _ _ _ roots _ HL.out.snaps HL.out.cont.at HL.out.env (by omega)).mono ?_
        rintro e w4 ⟨hb, hres⟩
        have HLq := Lib.hid (HL.out.next hb)
        clear HL
        have HL := HLq
        clear HLq
        have HQq := Lib.hid (show RefsAt _ w4 _ _ from SeqAt.below HG.out (by omega) hb (fun _ _ _ h => h))
        clear HG
        have HG := HQq
        clear HQq
        rw [HEA.out] at hres
        obtain ⟨va, rfl, hva⟩ := hres
        have HS := Lib.hid (ListsAt.lts hva)
        have HVA := Lib.hid hva
        obtain ⟨a, cap, rfl, hcp, hm, hx⟩ := SeqAt.shape hva ListR.len
        unfold maxLen at hm
        obtain ⟨b, o, c, rfl, -, -, -, -⟩ := hx ix lx HLX.out
        clear hb hva hx
        go_wp2_with fail
        refine hld_start (fun _ => True) (by kernel_rfl) ?_
        obtain ⟨W, hW⟩ : ∃ W : World, W = w4.drew := ⟨_, rfl⟩
        rw [← hW]
        have HB := Lib.hid (show Below w4.heap.size w4 W by rw [hW]; exact (Below.refl _ _).drew)
        have HRL := Lib.hid (show (ls.eraseIdx ix).length ≤ 1000 from Nat.le_trans (List.length_eraseIdx_le ls ix) hlen)
        clear hW
        have hic : ix ≤ cap := by omega
        have hic1 : ix + 1 ≤ cap := by omega
        have hic2 : ix + 1 ≤ ls.length := by omega
        have hw1 : IntKind.i64.wrap ((ix : Int) + 1) = (ix : Int) + 1 := IntWalk.i64_in _ (by omega)
        have hw4 : (ix : Int) + 1 ≤ (ls.length : Int) := by omega
        have hw2 : (0 : Int) ≤ (ix : Int) + 1 := by omega
        have hw3 : ((ix : Int) + 1).toNat = ix + 1 := by omega
        refine hld_take 1 rfl (by kernel_rfl) (by kernel_rfl) (by kernel_rfl) (fun _ _ _ h => h) rfl (by go_simp) (by intro w' hw'; go_simp; rfl) ?_
        simp only [Act.put, List.setIfInBounds_toArray, List.set_cons_succ, List.set_cons_zero]
        refine hld_take 2 rfl (by kernel_rfl) (by kernel_rfl) (by kernel_rfl) (fun _ _ _ h => h) rfl (by go_simp) (by intro w' hw'; go_simp; rfl) ?_
        simp only [Act.put, List.setIfInBounds_toArray, List.set_cons_succ, List.set_cons_zero]
        refine hld_take 3 rfl (by kernel_rfl) (by kernel_rfl) (by kernel_rfl) (fun _ _ _ h => h) rfl (by go_simp) (by intro w' hw'; go_simp; rfl) ?_
        simp only [Act.put, List.setIfInBounds_toArray, List.set_cons_succ, List.set_cons_zero]
        refine hld_take 5 rfl (by kernel_rfl) (by kernel_rfl) (by kernel_rfl) (fun _ _ _ h => h) rfl (by go_simp) (by intro w' hw'; go_simp; rfl) ?_
        simp only [Act.put, List.setIfInBounds_toArray, List.set_cons_succ, List.set_cons_zero]
        refine hld_take 6 rfl (by kernel_rfl) (by kernel_rfl) (by kernel_rfl) (fun _ _ _ h => h) rfl (by go_simp) (by intro w' hw'; go_simp; rfl) ?_
        simp only [Act.put, List.setIfInBounds_toArray, List.set_cons_succ, List.set_cons_zero]
        refine hld_take 7 rfl (by kernel_rfl) (by kernel_rfl) (by kernel_rfl) (fun _ _ _ h => h) rfl (by go_simp) (by intro w' hw'; go_simp; rfl) ?_
        simp only [Act.put, List.setIfInBounds_toArray, List.set_cons_succ, List.set_cons_zero]
        have fin : ∀ o', (ix + 1 < ls.length → o' = o + (ix + 1) * 1) → ListsAt (· < w4.heap.size) W (.slice (some ⟨b, o', none⟩) (ls.length - (ix + 1)) (cap - (ix + 1))) (ls.drop (ix + 1)) :=
          fun o' h => SeqAt.dropN ListR.len (ListsAt.below HS.out HB.out) hic2 h
        have HF := Lib.hid fin
        clear fin
        by_cases hcc : ix + 1 = cap
        · subst hcc
          have HO := Lib.hid (show ListsAt (· < w4.heap.size) W (.slice (some ⟨b, o, none⟩) 0 0) (ls.drop (ix + 1)) by
            have h1 := HF.out o (fun h => by omega)
            rwa [show ls.length - (ix + 1) = 0 by omega, show ix + 1 - (ix + 1) = 0 by omega] at h1)
          refine hld_take 8 rfl (by kernel_rfl) (by kernel_rfl) (by kernel_rfl) (fun _ _ _ h => h) rfl (by go_simp) (by intro w' hw'; go_simp; rfl) ?_
          simp only [Act.put, List.setIfInBounds_toArray, List.set_cons_succ, List.set_cons_zero]
          have HP := Lib.hid (show ListsAt (· < w4.heap.size) W (.slice (some ⟨b, o, none⟩) ix _) (ls.take ix) from ListsAt.takeN (ListsAt.below HS.out HB.out) (by omega))
          refine hld_bar 0 rfl (by kernel_rfl) rfl (fun K hK => ?_)
          go_wp2_with fail
          obtain ⟨W1, hW1⟩ : ∃ W1 : World, W1 = W.alloc (.cells #[] 26) := ⟨_, rfl⟩
          rw [← hW1]
          have HO1 := Lib.hid (show W1.ownsRow w4.heap.size 26 1 (.slice (some ⟨W.heap.size, 0, none⟩) 0 0) 0 [] by rw [hW1]; exact World.ownsRow_lit (base := w4.heap.size) W #[] 0 HB.out.size (Nat.zero_le _) (by simp))
          have HBA := Lib.hid (show Below W.heap.size W W1 by rw [hW1]; exact (Below.refl _ _).alloc (Nat.le_refl _) _)
          have HB1 := Lib.hid (below_next HB.out HBA.out)
          have HP1 := Lib.hid (ListsAt.below HP.out HBA.out)
          have HQ1 := Lib.hid (ListsAt.below HO.out HBA.out)
          clear hW1 HBA
          obtain ⟨c1, hr1, hin1⟩ := HP1.out
          obtain ⟨c2, hr2, hin2⟩ := HQ1.out
          have HR1 := Lib.hid hr1
          have HR2 := Lib.hid hr2
          have HI1 := Lib.hid hin1
          have HI2 := Lib.hid hin2
          have hl1 : (ls.take ix).length ≤ 1000 := by rw [List.length_take]; omega
          have hl2 : (ls.drop (ix + 1)).length ≤ 1000 := by rw [List.length_drop]; omega
          have hz1 := HB1.out.size
          clear hr1 hr2 hin1 hin2
          refine ⟨trivial, ?_⟩
          refine hld_bar 4 rfl (by kernel_rfl) rfl (fun K hK => ?_)
          go_wp2_with (at_builtin; go_must (refine wpList_appn Tryz.appLists rfl _ _ rfl w4.heap.size (.slice (some ⟨W.heap.size, 0, none⟩) 0 0) 0 [] rfl HO1.out _ (ls.take ix).length c1 rfl HR1.out (lists_one HI1.out) (by omega) hz1 ?_); intro v1 W2 hown1 hg1)
          have HO2 := Lib.hid hown1
          have HB2 := Lib.hid (below_grown HB1.out HO1.out hg1 (Nat.le_refl _) hz1)
          have hz2 := HB2.out.size
          have HR3 := Lib.hid (show RowAt (fun k => k < w4.heap.size) W2 1 _ _ c2 from HR2.out.same (fun k hk => (HB2.out.block k hk).trans (HB1.out.block k hk).symm))
          obtain ⟨a1', k1, rfl, -, -⟩ := owns_shape hown1
          clear hown1 hg1
          refine ⟨trivial, ?_⟩
          refine hld_bar 9 rfl (by kernel_rfl) rfl (fun K hK => ?_)
          go_wp2_with (at_builtin; go_must (refine wpList_appn Tryz.appLists rfl _ _ rfl w4.heap.size (.slice a1' (0 + (ls.take ix).length) k1) (0 + (ls.take ix).length) ([] ++ c1) rfl HO2.out _ (ls.drop (ix + 1)).length c2 rfl HR3.out (lists_one HI2.out) (by omega) hz2 ?_); intro v2 W3 hown2 hg2)
          have HB3 := Lib.hid (below_grown HB2.out HO2.out hg2 (Nat.le_refl _) hz2)
          have HF3 := Lib.hid (show ListsAt (fun _ => True) W3 v2 (ls.eraseIdx ix) by
            have h1 := row_of_owns hown2
            have he : ls.eraseIdx ix = ls.take ix ++ ls.drop (ix + 1) := List.eraseIdx_eq_take_drop_succ ls ix
            have hlen3 : (ls.eraseIdx ix).length = 0 + (ls.take ix).length + (ls.drop (ix + 1)).length := by rw [he, List.length_append]; omega
            refine ⟨([] ++ c1) ++ c2, ?_, ?_⟩
            · rw [hlen3]; exact h1.weak (fun k hk => trivial)
            · rw [he]
              exact (RowsIn.append (by simpa using HI1.out) HI2.out).mono (fun c x _ ⟨a, cap, e, h⟩ => ⟨a, cap, e, RefsAt.same h (fun k hk hS => ⟨trivial, (HB3.out.block k hS).trans (HB1.out.block k hS).symm⟩)⟩))
          obtain ⟨rn, hrn⟩ : ∃ rn, rn = ls.eraseIdx ix := ⟨_, rfl⟩
          rw [← hrn] at HF3
          have HRN := Lib.hid hrn
          obtain ⟨a2, k2, rfl, -, -, -⟩ := SeqAt.shape HF3.out ListR.len
          clear hown2 hg2 hrn
          refine ⟨trivial, ?_⟩
          refine hld_take 10 rfl (by kernel_rfl) (by kernel_rfl) (by kernel_rfl) (fun _ _ _ h => h) rfl (by go_simp) (by intro w' hw'; go_simp; rfl) ?_
          simp only [Act.put, List.setIfInBounds_toArray, List.set_cons_succ, List.set_cons_zero]
          refine hld_done (by kernel_rfl) ?_
          go_wp2_with fail
          clear hw1 hw2 hw3 hw4
          have hb := HB3.out
          have HLq := Lib.hid (HL.out.next hb)
          clear HL
          have HL := HLq
          clear HLq
          have HQq := Lib.hid (show RefsAt _ W3 _ _ from SeqAt.below HG.out (by omega) hb (fun _ _ _ h => h))
          clear HG
          have HG := HQq
          clear HQq
          obtain ⟨b0, o0, ca, cc, e0, q0, hrf⟩ := lists_at HVA.out HB3.out HLX.out
          cases e0
          have HRX := Lib.hid hrf
          have HQ0 := Lib.hid q0
          obtain ⟨W4, hW4⟩ : ∃ W4 : World, W4 = W3.drew := ⟨_, rfl⟩
          have hbd : Below W3.heap.size W3 W4 := by rw [hW4]; exact (Below.refl _ _).drew
          clear hb hrf q0
          refine hld_start (fun w' => w'.cell? ⟨b, o + ix, none⟩ = some (.slice ca lx.length cc)) (by kernel_rfl) ?_
          rw [← hW4]
          clear hW4
          have hb := hbd
          have HLq := Lib.hid (HL.out.next hb)
          clear HL
          have HL := HLq
          clear HLq
          have HQq := Lib.hid (show RefsAt _ W4 _ _ from SeqAt.below HG.out (by omega) hb (fun _ _ _ h => h))
          clear HG
          have HG := HQq
          clear HQq
          have HQq := Lib.hid (show RefsAt _ W4 _ _ from SeqAt.below HRX.out (by omega) hb (fun _ _ _ h => h))
          clear HRX
          have HRX := HQq
          clear HQq
          have HF4 := Lib.hid (ListsAt.below HF3.out hbd)
          have HQ4 := Lib.hid ((hbd.cell (block_lt HQ0.out)).trans HQ0.out)
          clear hb hbd
          refine hld_bar 0 rfl (by kernel_rfl) rfl (fun K hK => ?_)
          go_wp2_with (go_at_call 9; refine (awake48_any _ HL.out.env).mono ?_; rintro e w5 ⟨rfl, hb⟩)
          have HLq := Lib.hid (HL.out.next hb)
          clear HL
          have HL := HLq
          clear HLq
          have HQq := Lib.hid (show RefsAt _ w5 _ _ from SeqAt.below HG.out (by omega) hb (fun _ _ _ h => h))
          clear HG
          have HG := HQq
          clear HQq
          have HQq := Lib.hid (show RefsAt _ w5 _ _ from SeqAt.below HRX.out (by omega) hb (fun _ _ _ h => h))
          clear HRX
          have HRX := HQq
          clear HQq
          have HQq := Lib.hid (ListsAt.below HF4.out hb)
          clear HF4
          have HF4 := HQq
          clear HQq
          have HQ5 := Lib.hid ((hb.cell (block_lt HQ4.out)).trans HQ4.out)
          clear hb
          refine ⟨HQ5.out, ?_⟩
          have z5 := HQ5.out
          refine hld_take 1 rfl (by kernel_rfl) (by kernel_rfl) (by kernel_rfl) (fun _ _ _ h => h) rfl (by go_simp) (by intro w' hw'; go_simp; rfl) ?_
          simp only [Act.put, List.setIfInBounds_toArray, List.set_cons_succ, List.set_cons_zero]
          refine hld_take 2 rfl (by kernel_rfl) (by kernel_rfl) (by kernel_rfl) (fun _ _ _ h => h) rfl (by go_simp) (by intro w' hw'; go_simp; rfl) ?_
          simp only [Act.put, List.setIfInBounds_toArray, List.set_cons_succ, List.set_cons_zero]
          refine hld_take 3 rfl (by kernel_rfl) (by kernel_rfl) (by kernel_rfl) (fun _ _ _ h => h) rfl (by go_simp) (by intro w' hw'; go_simp; rfl) ?_
          simp only [Act.put, List.setIfInBounds_toArray, List.set_cons_succ, List.set_cons_zero]
          refine hld_take 4 rfl (by kernel_rfl) (by kernel_rfl) (by kernel_rfl) (fun _ _ _ h => h) rfl (by go_simp) (by intro w' hw'; go_simp; rfl) ?_
          simp only [Act.put, List.setIfInBounds_toArray, List.set_cons_succ, List.set_cons_zero]
          refine hld_take 5 rfl (by kernel_rfl) (by kernel_rfl) (by kernel_rfl) (fun _ _ _ h => h) rfl (by go_simp) (by intro w' hw'; go_simp; rfl) ?_
          simp only [Act.put, List.setIfInBounds_toArray, List.set_cons_succ, List.set_cons_zero]
          refine hld_take 6 rfl (by kernel_rfl) (by kernel_rfl) (by kernel_rfl) (fun _ _ _ h => h) rfl (by go_simp) (by intro w' hw'; go_simp; rfl) ?_
          simp only [Act.put, List.setIfInBounds_toArray, List.set_cons_succ, List.set_cons_zero]
          refine hld_take 7 rfl (by kernel_rfl) (by kernel_rfl) (by kernel_rfl) (fun _ _ _ h => h) rfl (by go_simp) (by intro w' hw'; go_simp; rfl) ?_
          simp only [Act.put, List.setIfInBounds_toArray, List.set_cons_succ, List.set_cons_zero]
          clear z5
          refine hld_bar 8 rfl (by kernel_rfl) rfl (fun K hK => ?_)
          have HRL2 := Lib.hid (show rn.length ≤ 1000 by rw [HRN.out]; exact HRL.out)
          have HRE2 := Lib.hid (show ∀ l ∈ rn, l.length ≤ 1000000000 by rw [HRN.out]; exact HRE.out)
          go_wp2_with (go_at_call 14; refine (union48_any _ _ rn _ HF4.out HRL2.out HRE2.out).mono ?_; rintro e w6 ⟨uv, rfl, huv, hb⟩; obtain ⟨ua, uc, rfl, -, -, -⟩ := SeqAt.shape huv RefR.len; have HU := Lib.hid huv)
          have HLq := Lib.hid (HL.out.next hb)
          clear HL
          have HL := HLq
          clear HLq
          have HQq := Lib.hid (show RefsAt _ w6 _ _ from SeqAt.below HG.out (by omega) hb (fun _ _ _ h => h))
          clear HG
          have HG := HQq
          clear HQq
          have HQq := Lib.hid (show RefsAt _ w6 _ _ from SeqAt.below HRX.out (by omega) hb (fun _ _ _ h => h))
          clear HRX
          have HRX := HQq
          clear HQq
          have HQ6 := Lib.hid ((hb.cell (block_lt HQ5.out)).trans HQ5.out)
          clear hb huv
          refine ⟨HQ6.out, ?_⟩
          refine hld_bar 9 rfl (by kernel_rfl) rfl (fun K hK => ?_)
          go_wp2_with (go_at_call 13; refine (less48_any _ _ _ _ lx (unionP rn) _ HRX.out HU.out HLL.out).mono ?_; rintro e w7 ⟨lv, rfl, hlv, hb⟩; have hlv2 : RefsAt (w6.heap.size ≤ ·) w7 lv xl := (by rw [HXL.out, ← HRN.out]; exact hlv); obtain ⟨la, lc, rfl, -, -, -⟩ := SeqAt.shape hlv2 RefR.len; have HLV := Lib.hid hlv2)
          have HLq := Lib.hid (HL.out.next hb)
          clear HL
          have HL := HLq
          clear HLq
          have HQq := Lib.hid (show RefsAt _ w7 _ _ from SeqAt.below HG.out (by omega) hb (fun _ _ _ h => h))
          clear HG
          have HG := HQq
          clear HQq
          have HQ7 := Lib.hid ((hb.cell (block_lt HQ6.out)).trans HQ6.out)
          clear hb hlv hlv2
          refine ⟨HQ7.out, ?_⟩
          refine hld_bar 10 rfl (by kernel_rfl) rfl (fun K hK => ?_)
          go_wp2_with (go_at_call 12; refine (sameRefs_is _ _ _ _ xl xl true _ HG.out HLV.out (by simp)).mono ?_; rintro e w8 ⟨rfl, hb⟩)
          have HLq := Lib.hid (HL.out.next hb)
          clear HL
          have HL := HLq
          clear HLq
          have HQ8 := Lib.hid ((hb.cell (block_lt HQ7.out)).trans HQ7.out)
          clear hb
          refine ⟨HQ8.out, ?_⟩
          have z8 := HQ8.out
          refine hld_take 11 rfl (by kernel_rfl) (by kernel_rfl) (by kernel_rfl) (fun _ _ _ h => h) rfl (by go_simp) (by intro w' hw'; go_simp; rfl) ?_
          simp only [Act.put, List.setIfInBounds_toArray, List.set_cons_succ, List.set_cons_zero]
          refine hld_take 12 rfl (by kernel_rfl) (by kernel_rfl) (by kernel_rfl) (fun _ _ _ h => h) rfl (by go_simp) (by intro w' hw'; go_simp; rfl) ?_
          simp only [Act.put, List.setIfInBounds_toArray, List.set_cons_succ, List.set_cons_zero]
          refine hld_done (by kernel_rfl) ?_
          clear z8
          go_wp2_with fail
          go_ret
          exact ⟨rfl, HL.out.below⟩
        · have hcc2 : ¬ cap = ix + 1 := fun e => hcc e.symm
          have HO := Lib.hid (HF.out (o + (ix + 1)) (fun _ => by omega))
          refine hld_take 8 rfl (by kernel_rfl) (by kernel_rfl) (by kernel_rfl) (fun _ _ _ h => h) rfl (by go_simp) (by intro w' hw'; go_simp; rfl) ?_
          simp only [Act.put, List.setIfInBounds_toArray, List.set_cons_succ, List.set_cons_zero]
          have HP := Lib.hid (show ListsAt (· < w4.heap.size) W (.slice (some ⟨b, o, none⟩) ix _) (ls.take ix) from ListsAt.takeN (ListsAt.below HS.out HB.out) (by omega))
          refine hld_bar 0 rfl (by kernel_rfl) rfl (fun K hK => ?_)
          go_wp2_with fail
          obtain ⟨W1, hW1⟩ : ∃ W1 : World, W1 = W.alloc (.cells #[] 26) := ⟨_, rfl⟩
          rw [← hW1]
          have HO1 := Lib.hid (show W1.ownsRow w4.heap.size 26 1 (.slice (some ⟨W.heap.size, 0, none⟩) 0 0) 0 [] by rw [hW1]; exact World.ownsRow_lit (base := w4.heap.size) W #[] 0 HB.out.size (Nat.zero_le _) (by simp))
          have HBA := Lib.hid (show Below W.heap.size W W1 by rw [hW1]; exact (Below.refl _ _).alloc (Nat.le_refl _) _)
          have HB1 := Lib.hid (below_next HB.out HBA.out)
          have HP1 := Lib.hid (ListsAt.below HP.out HBA.out)
          have HQ1 := Lib.hid (ListsAt.below HO.out HBA.out)
          clear hW1 HBA
          obtain ⟨c1, hr1, hin1⟩ := HP1.out
          obtain ⟨c2, hr2, hin2⟩ := HQ1.out
          have HR1 := Lib.hid hr1
          have HR2 := Lib.hid hr2
          have HI1 := Lib.hid hin1
          have HI2 := Lib.hid hin2
          have hl1 : (ls.take ix).length ≤ 1000 := by rw [List.length_take]; omega
          have hl2 : (ls.drop (ix + 1)).length ≤ 1000 := by rw [List.length_drop]; omega
          have hz1 := HB1.out.size
          clear hr1 hr2 hin1 hin2
          refine ⟨trivial, ?_⟩
          refine hld_bar 4 rfl (by kernel_rfl) rfl (fun K hK => ?_)
          go_wp2_with (at_builtin; go_must (refine wpList_appn Tryz.appLists rfl _ _ rfl w4.heap.size (.slice (some ⟨W.heap.size, 0, none⟩) 0 0) 0 [] rfl HO1.out _ (ls.take ix).length c1 rfl HR1.out (lists_one HI1.out) (by omega) hz1 ?_); intro v1 W2 hown1 hg1)
          have HO2 := Lib.hid hown1
          have HB2 := Lib.hid (below_grown HB1.out HO1.out hg1 (Nat.le_refl _) hz1)
          have hz2 := HB2.out.size
          have HR3 := Lib.hid (show RowAt (fun k => k < w4.heap.size) W2 1 _ _ c2 from HR2.out.same (fun k hk => (HB2.out.block k hk).trans (HB1.out.block k hk).symm))
          obtain ⟨a1', k1, rfl, -, -⟩ := owns_shape hown1
          clear hown1 hg1
          refine ⟨trivial, ?_⟩
          refine hld_bar 9 rfl (by kernel_rfl) rfl (fun K hK => ?_)
          go_wp2_with (at_builtin; go_must (refine wpList_appn Tryz.appLists rfl _ _ rfl w4.heap.size (.slice a1' (0 + (ls.take ix).length) k1) (0 + (ls.take ix).length) ([] ++ c1) rfl HO2.out _ (ls.drop (ix + 1)).length c2 rfl HR3.out (lists_one HI2.out) (by omega) hz2 ?_); intro v2 W3 hown2 hg2)
          have HB3 := Lib.hid (below_grown HB2.out HO2.out hg2 (Nat.le_refl _) hz2)
          have HF3 := Lib.hid (show ListsAt (fun _ => True) W3 v2 (ls.eraseIdx ix) by
            have h1 := row_of_owns hown2
            have he : ls.eraseIdx ix = ls.take ix ++ ls.drop (ix + 1) := List.eraseIdx_eq_take_drop_succ ls ix
            have hlen3 : (ls.eraseIdx ix).length = 0 + (ls.take ix).length + (ls.drop (ix + 1)).length := by rw [he, List.length_append]; omega
            refine ⟨([] ++ c1) ++ c2, ?_, ?_⟩
            · rw [hlen3]; exact h1.weak (fun k hk => trivial)
            · rw [he]
              exact (RowsIn.append (by simpa using HI1.out) HI2.out).mono (fun c x _ ⟨a, cap, e, h⟩ => ⟨a, cap, e, RefsAt.same h (fun k hk hS => ⟨trivial, (HB3.out.block k hS).trans (HB1.out.block k hS).symm⟩)⟩))
          obtain ⟨rn, hrn⟩ : ∃ rn, rn = ls.eraseIdx ix := ⟨_, rfl⟩
          rw [← hrn] at HF3
          have HRN := Lib.hid hrn
          obtain ⟨a2, k2, rfl, -, -, -⟩ := SeqAt.shape HF3.out ListR.len
          clear hown2 hg2 hrn
          refine ⟨trivial, ?_⟩
          refine hld_take 10 rfl (by kernel_rfl) (by kernel_rfl) (by kernel_rfl) (fun _ _ _ h => h) rfl (by go_simp) (by intro w' hw'; go_simp; rfl) ?_
          simp only [Act.put, List.setIfInBounds_toArray, List.set_cons_succ, List.set_cons_zero]
          refine hld_done (by kernel_rfl) ?_
          go_wp2_with fail
          clear hw1 hw2 hw3 hw4
          have hb := HB3.out
          have HLq := Lib.hid (HL.out.next hb)
          clear HL
          have HL := HLq
          clear HLq
          have HQq := Lib.hid (show RefsAt _ W3 _ _ from SeqAt.below HG.out (by omega) hb (fun _ _ _ h => h))
          clear HG
          have HG := HQq
          clear HQq
          obtain ⟨b0, o0, ca, cc, e0, q0, hrf⟩ := lists_at HVA.out HB3.out HLX.out
          cases e0
          have HRX := Lib.hid hrf
          have HQ0 := Lib.hid q0
          obtain ⟨W4, hW4⟩ : ∃ W4 : World, W4 = W3.drew := ⟨_, rfl⟩
          have hbd : Below W3.heap.size W3 W4 := by rw [hW4]; exact (Below.refl _ _).drew
          clear hb hrf q0
          refine hld_start (fun w' => w'.cell? ⟨b, o + ix, none⟩ = some (.slice ca lx.length cc)) (by kernel_rfl) ?_
          rw [← hW4]
          clear hW4
          have hb := hbd
          have HLq := Lib.hid (HL.out.next hb)
          clear HL
          have HL := HLq
          clear HLq
          have HQq := Lib.hid (show RefsAt _ W4 _ _ from SeqAt.below HG.out (by omega) hb (fun _ _ _ h => h))
          clear HG
          have HG := HQq
          clear HQq
          have HQq := Lib.hid (show RefsAt _ W4 _ _ from SeqAt.below HRX.out (by omega) hb (fun _ _ _ h => h))
          clear HRX
          have HRX := HQq
          clear HQq
          have HF4 := Lib.hid (ListsAt.below HF3.out hbd)
          have HQ4 := Lib.hid ((hbd.cell (block_lt HQ0.out)).trans HQ0.out)
          clear hb hbd
          refine hld_bar 0 rfl (by kernel_rfl) rfl (fun K hK => ?_)
          go_wp2_with (go_at_call 9; refine (awake48_any _ HL.out.env).mono ?_; rintro e w5 ⟨rfl, hb⟩)
          have HLq := Lib.hid (HL.out.next hb)
          clear HL
          have HL := HLq
          clear HLq
          have HQq := Lib.hid (show RefsAt _ w5 _ _ from SeqAt.below HG.out (by omega) hb (fun _ _ _ h => h))
          clear HG
          have HG := HQq
          clear HQq
          have HQq := Lib.hid (show RefsAt _ w5 _ _ from SeqAt.below HRX.out (by omega) hb (fun _ _ _ h => h))
          clear HRX
          have HRX := HQq
          clear HQq
          have HQq := Lib.hid (ListsAt.below HF4.out hb)
          clear HF4
          have HF4 := HQq
          clear HQq
          have HQ5 := Lib.hid ((hb.cell (block_lt HQ4.out)).trans HQ4.out)
          clear hb
          refine ⟨HQ5.out, ?_⟩
          have z5 := HQ5.out
          refine hld_take 1 rfl (by kernel_rfl) (by kernel_rfl) (by kernel_rfl) (fun _ _ _ h => h) rfl (by go_simp) (by intro w' hw'; go_simp; rfl) ?_
          simp only [Act.put, List.setIfInBounds_toArray, List.set_cons_succ, List.set_cons_zero]
          refine hld_take 2 rfl (by kernel_rfl) (by kernel_rfl) (by kernel_rfl) (fun _ _ _ h => h) rfl (by go_simp) (by intro w' hw'; go_simp; rfl) ?_
          simp only [Act.put, List.setIfInBounds_toArray, List.set_cons_succ, List.set_cons_zero]
          refine hld_take 3 rfl (by kernel_rfl) (by kernel_rfl) (by kernel_rfl) (fun _ _ _ h => h) rfl (by go_simp) (by intro w' hw'; go_simp; rfl) ?_
          simp only [Act.put, List.setIfInBounds_toArray, List.set_cons_succ, List.set_cons_zero]
          refine hld_take 4 rfl (by kernel_rfl) (by kernel_rfl) (by kernel_rfl) (fun _ _ _ h => h) rfl (by go_simp) (by intro w' hw'; go_simp; rfl) ?_
          simp only [Act.put, List.setIfInBounds_toArray, List.set_cons_succ, List.set_cons_zero]
          refine hld_take 5 rfl (by kernel_rfl) (by kernel_rfl) (by kernel_rfl) (fun _ _ _ h => h) rfl (by go_simp) (by intro w' hw'; go_simp; rfl) ?_
          simp only [Act.put, List.setIfInBounds_toArray, List.set_cons_succ, List.set_cons_zero]
          refine hld_take 6 rfl (by kernel_rfl) (by kernel_rfl) (by kernel_rfl) (fun _ _ _ h => h) rfl (by go_simp) (by intro w' hw'; go_simp; rfl) ?_
          simp only [Act.put, List.setIfInBounds_toArray, List.set_cons_succ, List.set_cons_zero]
          refine hld_take 7 rfl (by kernel_rfl) (by kernel_rfl) (by kernel_rfl) (fun _ _ _ h => h) rfl (by go_simp) (by intro w' hw'; go_simp; rfl) ?_
          simp only [Act.put, List.setIfInBounds_toArray, List.set_cons_succ, List.set_cons_zero]
          clear z5
          refine hld_bar 8 rfl (by kernel_rfl) rfl (fun K hK => ?_)
          have HRL2 := Lib.hid (show rn.length ≤ 1000 by rw [HRN.out]; exact HRL.out)
          have HRE2 := Lib.hid (show ∀ l ∈ rn, l.length ≤ 1000000000 by rw [HRN.out]; exact HRE.out)
          go_wp2_with (go_at_call 14; refine (union48_any _ _ rn _ HF4.out HRL2.out HRE2.out).mono ?_; rintro e w6 ⟨uv, rfl, huv, hb⟩; obtain ⟨ua, uc, rfl, -, -, -⟩ := SeqAt.shape huv RefR.len; have HU := Lib.hid huv)
          have HLq := Lib.hid (HL.out.next hb)
          clear HL
          have HL := HLq
          clear HLq
          have HQq := Lib.hid (show RefsAt _ w6 _ _ from SeqAt.below HG.out (by omega) hb (fun _ _ _ h => h))
          clear HG
          have HG := HQq
          clear HQq
          have HQq := Lib.hid (show RefsAt _ w6 _ _ from SeqAt.below HRX.out (by omega) hb (fun _ _ _ h => h))
          clear HRX
          have HRX := HQq
          clear HQq
          have HQ6 := Lib.hid ((hb.cell (block_lt HQ5.out)).trans HQ5.out)
          clear hb huv
          refine ⟨HQ6.out, ?_⟩
          refine hld_bar 9 rfl (by kernel_rfl) rfl (fun K hK => ?_)
          go_wp2_with (go_at_call 13; refine (less48_any _ _ _ _ lx (unionP rn) _ HRX.out HU.out HLL.out).mono ?_; rintro e w7 ⟨lv, rfl, hlv, hb⟩; have hlv2 : RefsAt (w6.heap.size ≤ ·) w7 lv xl := (by rw [HXL.out, ← HRN.out]; exact hlv); obtain ⟨la, lc, rfl, -, -, -⟩ := SeqAt.shape hlv2 RefR.len; have HLV := Lib.hid hlv2)
          have HLq := Lib.hid (HL.out.next hb)
          clear HL
          have HL := HLq
          clear HLq
          have HQq := Lib.hid (show RefsAt _ w7 _ _ from SeqAt.below HG.out (by omega) hb (fun _ _ _ h => h))
          clear HG
          have HG := HQq
          clear HQq
          have HQ7 := Lib.hid ((hb.cell (block_lt HQ6.out)).trans HQ6.out)
          clear hb hlv hlv2
          refine ⟨HQ7.out, ?_⟩
          refine hld_bar 10 rfl (by kernel_rfl) rfl (fun K hK => ?_)
          go_wp2_with (go_at_call 12; refine (sameRefs_is _ _ _ _ xl xl true _ HG.out HLV.out (by simp)).mono ?_; rintro e w8 ⟨rfl, hb⟩)
          have HLq := Lib.hid (HL.out.next hb)
          clear HL
          have HL := HLq
          clear HLq
          have HQ8 := Lib.hid ((hb.cell (block_lt HQ7.out)).trans HQ7.out)
          clear hb
          refine ⟨HQ8.out, ?_⟩
          have z8 := HQ8.out
          refine hld_take 11 rfl (by kernel_rfl) (by kernel_rfl) (by kernel_rfl) (fun _ _ _ h => h) rfl (by go_simp) (by intro w' hw'; go_simp; rfl) ?_
          simp only [Act.put, List.setIfInBounds_toArray, List.set_cons_succ, List.set_cons_zero]
          refine hld_take 12 rfl (by kernel_rfl) (by kernel_rfl) (by kernel_rfl) (fun _ _ _ h => h) rfl (by go_simp) (by intro w' hw'; go_simp; rfl) ?_
          simp only [Act.put, List.setIfInBounds_toArray, List.set_cons_succ, List.set_cons_zero]
          refine hld_done (by kernel_rfl) ?_
          clear z8
          go_wp2_with fail
          go_ret
          exact ⟨rfl, HL.out.below⟩

end Go.Proofs.YtndgmcggckpgfaaGreatDoor

/- LivenessExclusive: for every input the law returns true, and each argument reads afterwards as it read before (the tied card). -/
namespace Go.Proofs.YtndgmcggckpgfaaGreatDoor
open Go.ChangeShapes Go.WideShapes Go.ChangeAt Go.RowKit Go.Lib Go.Shelf
open Go.ChangeMaps (open_string shut_string)

namespace CExclusive
set_option maxRecDepth 100000 in
theorem lifted (os : Os) (started : os.Started) (H : Type) (enc : TypeId × Value → H) :
    ReturnsInHanded {} Tryz.checked os 3 .any (fun w args => (Rows.livenessExclusiveSpec.pre enc Tryz.prog Tryz.f3 [] false w args ∧ laidMetH Tryz.prog laidL w) ∧ sizedMet enc Tryz.prog Tryz.f3 (OpenSpec.ofChange Rows.livenessExclusiveSpec) false w args)
      (Rows.livenessExclusiveSpec.post enc Tryz.prog Tryz.f3 false true false false) := by
  refine handed (C := Tryz.checked) (X := fun w _ => laidMetH Tryz.prog laidL w) (fun _ _ _ hh h => h.of_heap hh) own started (by kernel_rfl) Tryz.func3
    (ChangeSpec.witness_shaped (enc := enc) (C := Tryz.checked) (os := os) (X := fun w _ => laidMetH Tryz.prog laidL w) false (World.laidAll Tryz.prog os laidL) #[.slice none 0 0, .int .i64 0, .map none] 8 (World.laidAll_os _ _ _)
      (World.shaped_of_ZipB (by kernel_rfl) (by kernel_rfl)) (by kernel_rfl) (by kernel_rfl) (by kernel_rfl)
      (by rw [MakeChecks.laidMetH_plain _ _ _ (by kernel_rfl)]; exact laidMet_laidAll _ (by kernel_rfl) (by kernel_rfl))) ?_
  intro W base args ds gs before hval0 hW _hWt hL hsh
  have hval : ∀ (j : Nat) t v, Tryz.f3.params[j]? = some t → args[j]? = some v → Value.okWide Tryz.prog W .any base t v := hval0
  have hW' := hW
  obtain ⟨p, q, hA0, hV, rfl, _, _⟩ := hW
  have hA : DataW.TrodAll enc Tryz.prog W 0 (fun _ => true) true Tryz.f3.params.toList args.toList ds p := hA0
  rw [Tryz.params3] at hA hval
  obtain ⟨rfl, rfl⟩ := trodVars_none hV
  simp only [List.append_nil] at hW'
  obtain ⟨v0, v1, v2, d0, d1, d2, p0, p1, p2, rfl, rfl, rfl, h0, h1, h2⟩ := trodAll_three hA
  obtain ⟨rs0, hrs0⟩ := open_snaps (hval 0 22 v0 rfl rfl) h0
  obtain ⟨n1, rfl, rfl, rfl, hw1⟩ := open_int Tryz.underlying3 (hval 1 3 v1 rfl rfl) h1
  obtain ⟨cs2, hcs2⟩ := open_cont (hval 2 23 v2 rfl rfl) h2
  have hlt0 : ∀ x ∈ p0, x.block < W.heap.size := fun x hx => by simpa using hW'.lt x (by simp [hx])
  have hlt2 : ∀ x ∈ p2, x.block < W.heap.size := fun x hx => by simpa using hW'.lt x (by simp [hx])
  refine (exclusive_walk v0 v2 rs0 cs2 n1 W (env_of hL hsh) hrs0 hcs2).mono fun e W' ⟨he, hb⟩ => ?_
  subst he
  exact ⟨_, rfl, _, _, _, [], _, [], hW', trodAll_mk1 (shut_bool Tryz.underlying4 _), trodAll_mk3 (Below.trod laidOut (by kernel_rfl) (of_decide_eq_true (by kernel_rfl)) h0 hb hlt0) (shut_int Tryz.underlying3 hw1) (Below.trod laidOut (by kernel_rfl) (of_decide_eq_true (by kernel_rfl)) h2 hb hlt2), rfl, hb.frame _, fun h => by cases h⟩
theorem holds : Rows.LivenessExclusiveSaid :=
  OpenClaim.holds_of_wide 3 Tryz.f3 rfl rfl rfl rfl rfl rfl rfl ⟨rfl, rfl, rfl, rfl, rfl⟩ rfl rfl rfl rfl rfl (by kernel_rfl) Tryz.func3 (by kernel_rfl)
    (of_decide_eq_true (by kernel_rfl)) (by unfold Func.isWrapper; first | (rw [if_pos (by decide +kernel)]; kernel_rfl) | (rw [if_neg (by decide +kernel)]; exact ⟨rfl, rfl⟩))
    (fun os started H enc _ => lifted os started H enc)
theorem card_holds : Rows.LivenessExclusiveCardSaid :=
  Claim7.holds_tied_plain_at .later [] [.data, .pinned] true (true, "8763d9110891523682653750762d1a7552683129e318fb1c4c0f53c8f9932086") false holds (fun _ h => by cases h) (by kernel_rfl) (fun _ h => by cases h) livenessExclusive_row_tie rfl ⟨rfl, rfl⟩ (by kernel_rfl) rfl
    (fun f fn hf hfn => by
      obtain rfl : f = 3 := Option.some.inj ((show Tryz.prog.funcNamed "kinkeep/kinkeeplaw48.LivenessExclusive" = some 3 by kernel_rfl).symm.trans hf) |>.symm
      obtain rfl : fn = Tryz.f3 := (Option.some.inj (Tryz.func3.symm.trans hfn)).symm
      exact ⟨by kernel_rfl, fun j t ht => by
        rw [Tryz.params3] at ht
        have hm : t ∈ [22, 3, 23] := by simpa using Array.mem_of_getElem? ht
        have hall : ([22, 3, 23].all fun u => !Tryz.prog.wantsStandIn u) = true := by kernel_rfl
        exact (show Tryz.prog.wantsStandIn t = false by simpa using List.all_eq_true.1 hall t hm)⟩)
    (by kernel_rfl)
#print axioms card_holds
end CExclusive
theorem livenessExclusive_card : Rows.LivenessExclusiveCardSaid := CExclusive.card_holds
end Go.Proofs.YtndgmcggckpgfaaGreatDoor
