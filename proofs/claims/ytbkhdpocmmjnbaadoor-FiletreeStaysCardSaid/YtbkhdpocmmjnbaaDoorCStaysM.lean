/- FiletreeStays: for every input the law returns true, and each argument reads afterwards as it read before (the tied card). -/
import Derived.Test.YtbkhdpocmmjnbaaDoorMD
/- The law FiletreeStays: its walk. -/
namespace Go.Proofs.YtbkhdpocmmjnbaaDoor
open Go Go.RowKit Go.Maps

theorem doP_err {L : List Ent} {x : POp} (h : (doP L x).2 ≠ 0) : (doP L x).1 = L := by
  unfold doP at h ⊢
  split
  · rename_i h1
    rw [if_pos h1] at h
    unfold putP at h ⊢
    repeat' split
    all_goals first | rfl | (exfalso; apply h; simp_all)
  · rename_i h1
    rw [if_neg h1] at h
    split
    · rename_i h2
      rw [if_pos h2] at h
      unfold removeP at h ⊢
      repeat' split
      all_goals first | rfl | (exfalso; apply h; simp_all)
    · rename_i h2
      rw [if_neg h2] at h
      split
      · rename_i h3
        rw [if_pos h3] at h
        unfold moveP at h ⊢
        repeat' split
        all_goals first | rfl | (exfalso; apply h; simp_all)
      · rfl
theorem data_other {S : Nat → Prop} {w w' : World} {b : Nat} {v : Value} {bs : List UInt8} (h : DataAt S w v bs) (hf : ¬ S b) (hg : w.grownBy w' (some b)) : DataAt S w' v bs := data_grown h hf hg
theorem TreeAt.other {S : Nat → Prop} {w w' : World} {tb mb b : Nat} {L : List Ent} (h : TreeAt S w tb mb L) (hg : w.grownBy w' (some b)) (h1 : tb ≠ b) (h2 : mb ≠ b) (h3 : ¬ S b) : TreeAt S w' tb mb L := by
  obtain ⟨xs, hm, hp⟩ := h.ents
  exact ⟨hg.cell h.cell (fun e => h1 (Option.some.inj e)), h.ne, h.far, fun k hk => Nat.lt_of_lt_of_le (h.lt k hk) hg.size, h.ok, xs,
    ⟨hm.map.same (hg.block mb hm.map.lt (fun e => h2 (Option.some.inj e))), fun x hx => ⟨data_grown (hm.dat x hx).1 h3 hg, (hm.dat x hx).2⟩, hm.far⟩, hp⟩
theorem equal_is (S T : Nat → Prop) (tb mb ub nb : Nat) (L M : List Ent) (r : Bool) (w : World) (ht : TreeAt S w tb mb L) (hu : TreeAt T w ub nb M) (hr : decide (L = M) = r) :
    Calls Tryd.prog 31 #[.pointer (some ⟨tb, 0, none⟩), .pointer (some ⟨ub, 0, none⟩)] w fun e w' => e = .returned (.bool r) ∧ Below w.heap.size w w' := by
  rw [← hr]; exact equal_any S T tb mb ub nb L M w ht hu
theorem from_ok (S : Nat → Prop) (L : List Ent) (v : Value) (w : World) (hv : EntsAt S w v L) (henv : Env w) (h : TOk L) : Calls Tryd.prog 11 #[v] w fun e w' => Below w.heap.size w w' ∧ ∃ tb mb, e = .returned (.tuple #[.pointer (some ⟨tb, 0, none⟩), .int .i64 0]) ∧ NewTree w w' tb mb L :=
  (from_any S L v w hv henv).mono fun _ _ ⟨hb, hr⟩ => ⟨hb, (hr.resolve_left (fun h2 => h2.1 (checkP_iff.2 h))).2⟩
set_option maxRecDepth 100000 in
set_option maxHeartbeats 4000000 in
theorem stays_walk (l : List POp) (v : Value) (w : World) (hv : OpsAt (fun _ => True) w v l) (henv : Env w) :
    Calls Tryd.prog 8 #[v] w fun e w' => e = .returned (.bool true) ∧ Below w.heap.size w w' := by
  have HV := Lib.hid hv
  have HE := Lib.hid henv
  obtain ⟨a, cap, rfl, hc, hm, -⟩ := SeqAt.shape hv OpR.len
  unfold maxLen at hm
  obtain ⟨n, hn⟩ : ∃ n, n = l.length := ⟨_, rfl⟩
  have HN := Lib.hid hn
  rw [← hn] at hc HV ⊢
  clear hv henv hn
  go_enter Tryd.func8, Tryd.ntmps8
  go_wp2_with fail
  refine (awakeT_any w HE.out).mono ?_
  rintro e w1 ⟨rfl, hb1⟩
  have HB1 := Lib.hid hb1
  clear hb1
  go_wp2_with fail
  refine (wide_any _ l _ _ (HV.out.below HB1.out)).mono ?_
  rintro e w2 ⟨wb, rfl, -, hb2⟩
  have HB2 := Lib.hid (below_next HB1.out hb2)
  clear hb2
  cases wb
  · go_wp2_with fail
    refine (newB_any _).mono ?_
    rintro e w3 ⟨rfl, ht3, hb3⟩
    obtain ⟨B, hB⟩ : ∃ B, B = w2.heap.size := ⟨_, rfl⟩
    rw [← hB] at ht3 ⊢
    have HBB := Lib.hid (show w.heap.size ≤ B by rw [hB]; exact HB2.out.size)
    have HT3 := Lib.hid ht3
    have HB3 := Lib.hid (below_next HB2.out hb3)
    clear ht3 hb3 hB
    go_wp2_with fail
    go_loopw [17] (fun i wr => ∃ (k : Nat) (L : List Ent), k ≤ n ∧ i = .int .i64 k ∧ TreeB B wr L ∧ Below w.heap.size w wr) (fun i _ => n - (intOf i).toNat)
    case atStart => exact ⟨0, [], Nat.zero_le _, rfl, HT3.out, HB3.out⟩
    case round =>
      obtain ⟨k, L, hk, rfl, htr, hbr⟩ := hrel
      have HTR := Lib.hid htr
      have HBR := Lib.hid hbr
      clear htr hbr
      by_cases hlt : k < n
      · obtain ⟨x, hx⟩ : ∃ x, l[k]? = some x := ⟨l[k]'(by rw [← HN.out]; exact hlt), by simp⟩
        obtain ⟨b, o, dv, rfl, hb, hd, hok, hq⟩ := ops_at (HV.out.below HBR.out) hx
        obtain ⟨a1, cap1, rfl, hd1, hd2⟩ := hd.slice
        have q0 := hq 0 (by omega)
        have q1 := hq 1 (by omega)
        have q2 := hq 2 (by omega)
        have q3 := hq 3 (by omega)
        have q4 := hq 4 (by omega)
        have q5 := hq 5 (by omega)
        have q6 := hq 6 (by omega)
        have q7 := hq 7 (by omega)
        have q8 := hq 8 (by omega)
        have q9 := hq 9 (by omega)
        simp only [opC, List.getElem?_cons_succ, List.getElem?_cons_zero, Nat.add_zero] at q0 q1 q2 q3 q4 q5 q6 q7 q8 q9
        have HX := Lib.hid hx
        have HD := Lib.hid hd
        have HOK := Lib.hid hok
        unfold maxLen at hd2
        clear hx hd hok hq
        go_wp2_with fail
        obtain ⟨W, hW⟩ : ∃ W, W = wr.alloc (.cells #[.int .i64 x.kind, .string x.en.path, .int .i64 x.en.kind, .int .i64 x.en.mode, .int .i64 x.en.time, .slice a1 x.en.data.length cap1, .string x.en.link, .string x.src, .string x.dst, .bool x.below] 64) := ⟨_, rfl⟩
        rw [← hW]
        have HXB := Lib.hid (show W.heap[wr.heap.size]? = some (.cells #[.int .i64 x.kind, .string x.en.path, .int .i64 x.en.kind, .int .i64 x.en.mode, .int .i64 x.en.time, .slice a1 x.en.data.length cap1, .string x.en.link, .string x.src, .string x.dst, .bool x.below] 64 (0, 0)) by rw [hW]; exact new20 wr _)
        have HWL := Lib.hid (show Below wr.heap.size wr W by rw [hW]; exact (Below.refl _ _).alloc (Nat.le_refl _) _)
        have HTW := Lib.hid (HTR.out.below HWL.out)
        have HBW := Lib.hid (below_next HBR.out HWL.out)
        clear hW q0 q1 q2 q3 q4 q5 q6 q7 q8 q9
        refine (clone_tree _ _ _ L _ HTW.out).mono ?_
        rintro e w4 ⟨rfl, ⟨S4, hS4, ht4⟩, hb4⟩
        have HU4 := Lib.hid ht4
        have HS4 := Lib.hid hS4
        have HX4 := Lib.hid ((hb4.block wr.heap.size (lt20 HXB.out)).trans HXB.out)
        have HT4 := Lib.hid (HTW.out.below hb4)
        have HB4 := Lib.hid (below_next HBW.out hb4)
        have HL4 := Lib.hid (HWL.out.trans (hb4.mono HWL.out.size))
        have HWS := Lib.hid (Nat.lt_of_lt_of_le (block_lt HTR.out.cell) HWL.out.size)
        clear ht4 hS4 hb4
        have c0 := cell20 (k := 0) HX4.out
        have c1 := cell20 (k := 1) HX4.out
        have c2 := cell20 (k := 2) HX4.out
        have c3 := cell20 (k := 3) HX4.out
        have c4 := cell20 (k := 4) HX4.out
        have c5 := cell20 (k := 5) HX4.out
        have c6 := cell20 (k := 6) HX4.out
        have c7 := cell20 (k := 7) HX4.out
        have c8 := cell20 (k := 8) HX4.out
        have c9 := cell20 (k := 9) HX4.out
        simp only [List.getElem?_toArray, List.getElem?_cons_succ, List.getElem?_cons_zero] at c0 c1 c2 c3 c4 c5 c6 c7 c8 c9
        go_wp2_with fail
        refine (do_any _ (fun _ => True) _ _ L x (.slice a1 x.en.data.length cap1) _ HT4.out (HD.out.below HL4.out) HOK.out (HE.out.below HB4.out)).mono ?_
        rintro e w5 hr
        obtain ⟨rfl, ht5, hg5⟩ := HT4.out.res hr
        have HT5 := Lib.hid ht5
        have HWN : B + 1 < W.heap.size := HWS.out
        have HU5 := Lib.hid (HU4.out.other hg5 (by omega) (by omega) (fun h => by have := HS4.out _ h; omega))
        have HB5 := Lib.hid (HB4.out.grown hg5 HB4.out.size (fun k e => by cases e; exact HBB.out))
        obtain ⟨M, hM⟩ : ∃ M, M = (doP L x).1 := ⟨_, rfl⟩
        have HM := Lib.hid hM
        rw [← hM] at HT5
        obtain ⟨er, her⟩ : ∃ er, er = (doP L x).2 := ⟨_, rfl⟩
        have HER := Lib.hid her
        rw [← her]
        clear hr ht5 hg5 hM her c0 c1 c2 c3 c4 c5 c6 c7 c8 c9
        by_cases h0 : er = 0
        · subst h0
          go_wp2_with fail
          refine (entries_any _ _ _ M _ HT5.out).mono ?_
          rintro e w7 ⟨v7, rfl, hg7, hb7⟩
          have HG7 := Lib.hid hg7.seq
          have HT7 := Lib.hid (HT5.out.below hb7)
          have HB7 := Lib.hid (below_next HB5.out hb7)
          obtain ⟨a7, c7, rfl, -, -⟩ := len_gather hg7
          clear hg7 hb7
          go_wp2_with fail
          refine (check_is _ M _ 0 _ HG7.out (HE.out.below HB7.out) (checkP_iff.2 HT7.out.ok)).mono ?_
          rintro e w8 ⟨rfl, hb8⟩
          have HT8 := Lib.hid (HT7.out.below hb8)
          have HB8 := Lib.hid (below_next HB7.out hb8)
          clear hb8
          go_wp2_with fail
          go_roundw
          case rel => exact ⟨k + 1, M, by omega, by go_num, HT8.out, HB8.out⟩
          case measure => simp [intOf]; omega
        · have e1 : (er != 0) = true := by simp [h0]
          have HEQ := Lib.hid (show decide (M = L) = true by rw [HM.out, doP_err (by rw [← HER.out]; exact h0)]; simp)
          clear h0
          go_wp2_with fail
          refine (equal_is _ _ _ _ _ _ M L true _ HT5.out HU5.out HEQ.out).mono ?_
          rintro e w6 ⟨rfl, hb6⟩
          have HT6 := Lib.hid (HT5.out.below hb6)
          have HB6 := Lib.hid (below_next HB5.out hb6)
          clear hb6
          go_wp2_with fail
          refine (entries_any _ _ _ M _ HT6.out).mono ?_
          rintro e w7 ⟨v7, rfl, hg7, hb7⟩
          have HG7 := Lib.hid hg7.seq
          have HT7 := Lib.hid (HT6.out.below hb7)
          have HB7 := Lib.hid (below_next HB6.out hb7)
          obtain ⟨a7, c7, rfl, -, -⟩ := len_gather hg7
          clear hg7 hb7
          go_wp2_with fail
          refine (check_is _ M _ 0 _ HG7.out (HE.out.below HB7.out) (checkP_iff.2 HT7.out.ok)).mono ?_
          rintro e w8 ⟨rfl, hb8⟩
          have HT8 := Lib.hid (HT7.out.below hb8)
          have HB8 := Lib.hid (below_next HB7.out hb8)
          clear hb8
          go_wp2_with fail
          go_roundw
          case rel => exact ⟨k + 1, M, by omega, by go_num, HT8.out, HB8.out⟩
          case measure => simp [intOf]; omega
      · have hk2 : k = n := by omega
        go_wp2_with fail
        refine (entries_any _ _ _ L _ HTR.out).mono ?_
        rintro e w4 ⟨v4, rfl, hg4, hb4⟩
        have HG4 := Lib.hid hg4.seq
        have HT4 := Lib.hid (HTR.out.below hb4)
        have HB4 := Lib.hid (below_next HBR.out hb4)
        obtain ⟨a4, c4, rfl, -, -⟩ := len_gather hg4
        clear hg4 hb4
        go_wp2_with fail
        refine (from_ok _ L _ _ HG4.out (HE.out.below HB4.out) HT4.out.ok).mono ?_
        rintro e w5 ⟨hb5, ub, nb, rfl, -, -, S5, -, ht5⟩
        have HU5 := Lib.hid ht5
        have HT5 := Lib.hid (HT4.out.below hb5)
        have HB5 := Lib.hid (below_next HB4.out hb5)
        clear hb5 ht5
        go_wp2_with fail
        refine (equal_is _ _ _ _ _ _ L L true _ HU5.out HT5.out (by simp)).mono ?_
        rintro e w6 ⟨rfl, hb6⟩
        have HU6 := Lib.hid (HU5.out.below hb6)
        have HT6 := Lib.hid (HT5.out.below hb6)
        have HB6 := Lib.hid (below_next HB5.out hb6)
        clear hb6
        go_wp2_with fail
        refine (equal_is _ _ _ _ _ _ L L true _ HT6.out HU6.out (by simp)).mono ?_
        rintro e w7 ⟨rfl, hb7⟩
        have HB7 := Lib.hid (below_next HB6.out hb7)
        clear hb7
        go_wp2_with fail
        go_ret
        exact ⟨rfl, HB7.out⟩
  · go_wp2_with fail
    go_ret
    exact ⟨rfl, HB2.out⟩

end Go.Proofs.YtbkhdpocmmjnbaaDoor

/- FiletreeStays: for every input the law returns true, and each argument reads afterwards as it read before (the tied card). -/
namespace Go.Proofs.YtbkhdpocmmjnbaaDoor
open Go.ChangeShapes Go.WideShapes Go.ChangeAt Go.RowKit Go.Lib Go.Shelf
open Go.ChangeMaps (open_string shut_string)

namespace CStays
set_option maxRecDepth 100000 in
theorem lifted (os : Os) (started : os.Started) (H : Type) (enc : TypeId × Value → H) :
    ReturnsInHanded {} Tryd.checked os 8 .any (fun w args => (Rows.filetreeStaysSpec.pre enc Tryd.prog Tryd.f8 [] false w args ∧ laidMetH Tryd.prog laidL w) ∧ sizedMet enc Tryd.prog Tryd.f8 (OpenSpec.ofChange Rows.filetreeStaysSpec) false w args)
      (Rows.filetreeStaysSpec.post enc Tryd.prog Tryd.f8 false true false false) := by
  refine handed (C := Tryd.checked) (X := fun w _ => laidMetH Tryd.prog laidL w) (fun _ _ _ hh h => h.of_heap hh) own started (by kernel_rfl) Tryd.func8
    (ChangeSpec.witness_shaped (enc := enc) (C := Tryd.checked) (os := os) (X := fun w _ => laidMetH Tryd.prog laidL w) false (World.laidAll Tryd.prog os laidL) #[.slice none 0 0] 8 (World.laidAll_os _ _ _)
      (World.shaped_of_ZipB (by kernel_rfl) (by kernel_rfl)) (by kernel_rfl) (by kernel_rfl) (by kernel_rfl)
      (by rw [MakeChecks.laidMetH_plain _ _ _ (by kernel_rfl)]; exact laidMet_laidAll _ (by kernel_rfl) (by kernel_rfl))) ?_
  intro W base args ds gs before hval0 hW _hWt hL hsh
  have hval : ∀ (j : Nat) t v, Tryd.f8.params[j]? = some t → args[j]? = some v → Value.okWide Tryd.prog W .any base t v := hval0
  have hW' := hW
  obtain ⟨p, q, hA0, hV, rfl, _, _⟩ := hW
  have hA : DataW.TrodAll enc Tryd.prog W 0 (fun _ => true) true Tryd.f8.params.toList args.toList ds p := hA0
  rw [Tryd.params8] at hA hval
  obtain ⟨rfl, rfl⟩ := trodVars_none hV
  simp only [List.append_nil] at hW'
  obtain ⟨v0, d0, rfl, rfl, h0⟩ := trodAll_one hA
  obtain ⟨l, hl⟩ := open_ops (hval 0 33 v0 rfl rfl) h0
  have hlt0 : ∀ x ∈ p, x.block < W.heap.size := fun x hx => by simpa using hW'.lt x (by simp [hx])
  refine (stays_walk l v0 W hl (env_of hL hsh)).mono fun e W' ⟨he, hb⟩ => ?_
  subst he
  exact ⟨_, rfl, _, _, _, [], _, [], hW', trodAll_mk1 (shut_bool Tryd.underlying4 _), trodAll_mk1 (Below.trod laidOut (by kernel_rfl) (of_decide_eq_true (by kernel_rfl)) h0 hb hlt0), rfl, hb.frame _, fun h => by cases h⟩
theorem holds : Rows.FiletreeStaysSaid :=
  OpenClaim.holds_of_wide 8 Tryd.f8 rfl rfl rfl rfl rfl rfl rfl ⟨rfl, rfl, rfl, rfl, rfl⟩ rfl rfl rfl rfl rfl (by kernel_rfl) Tryd.func8 (by kernel_rfl)
    (of_decide_eq_true (by kernel_rfl)) (by unfold Func.isWrapper; first | (rw [if_pos (by decide +kernel)]; kernel_rfl) | (rw [if_neg (by decide +kernel)]; exact ⟨rfl, rfl⟩))
    (fun os started H enc _ => lifted os started H enc)
theorem card_holds : Rows.FiletreeStaysCardSaid :=
  Claim7.holds_tied_plain_at .later [] [.data, .pinned] true (true, "1e330c748a24b17595aadf72b64a83374ff5931bb575de300cc11a52c67695f6") false holds (fun _ h => by cases h) (by kernel_rfl) (fun _ h => by cases h) filetreeStays_row_tie rfl ⟨rfl, rfl⟩ (by kernel_rfl) rfl
    (fun f fn hf hfn => by
      obtain rfl : f = 8 := Option.some.inj ((show Tryd.prog.funcNamed "kinkeep/kinkeeplaw20.FiletreeStays" = some 8 by kernel_rfl).symm.trans hf) |>.symm
      obtain rfl : fn = Tryd.f8 := (Option.some.inj (Tryd.func8.symm.trans hfn)).symm
      exact ⟨by kernel_rfl, fun j t ht => by
        rw [Tryd.params8] at ht
        have hm : t ∈ [33] := by simpa using Array.mem_of_getElem? ht
        have hall : ([33].all fun u => !Tryd.prog.wantsStandIn u) = true := by kernel_rfl
        exact (show Tryd.prog.wantsStandIn t = false by simpa using List.all_eq_true.1 hall t hm)⟩)
    (by kernel_rfl)
#print axioms card_holds
end CStays
theorem filetreeStays_card : Rows.FiletreeStaysCardSaid := CStays.card_holds
end Go.Proofs.YtbkhdpocmmjnbaaDoor
