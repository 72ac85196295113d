/- FiletreeChecks: for every input the law returns true, and each argument reads afterwards as it read before (the tied card). -/
import Derived.Test.YtbkhdpocmmjnbaaDoorMD
import Derived.Laws.Cover4
/- The law FiletreeStays: its walk. -/
namespace Go.Proofs.YtbkhdpocmmjnbaaDoor
open Go Go.RowKit Go.Maps

theorem doP_err {L : List Ent} {x : POp} (h : (doP L x).2 ≠ 0) : (doP L x).1 = L := by
  unfold doP at h ⊢
  split
  · rename_i h1
    rw [if_pos h1] at h
    unfold putP at h ⊢
    repeat' split
    all_goals first | rfl | (exfalso; apply h; simp_all)
  · rename_i h1
    rw [if_neg h1] at h
    split
    · rename_i h2
      rw [if_pos h2] at h
      unfold removeP at h ⊢
      repeat' split
      all_goals first | rfl | (exfalso; apply h; simp_all)
    · rename_i h2
      rw [if_neg h2] at h
      split
      · rename_i h3
        rw [if_pos h3] at h
        unfold moveP at h ⊢
        repeat' split
        all_goals first | rfl | (exfalso; apply h; simp_all)
      · rfl
theorem data_other {S : Nat → Prop} {w w' : World} {b : Nat} {v : Value} {bs : List UInt8} (h : DataAt S w v bs) (hf : ¬ S b) (hg : w.grownBy w' (some b)) : DataAt S w' v bs := data_grown h hf hg
theorem TreeAt.other {S : Nat → Prop} {w w' : World} {tb mb b : Nat} {L : List Ent} (h : TreeAt S w tb mb L) (hg : w.grownBy w' (some b)) (h1 : tb ≠ b) (h2 : mb ≠ b) (h3 : ¬ S b) : TreeAt S w' tb mb L := by
  obtain ⟨xs, hm, hp⟩ := h.ents
  exact ⟨hg.cell h.cell (fun e => h1 (Option.some.inj e)), h.ne, h.far, fun k hk => Nat.lt_of_lt_of_le (h.lt k hk) hg.size, h.ok, xs,
    ⟨hm.map.same (hg.block mb hm.map.lt (fun e => h2 (Option.some.inj e))), fun x hx => ⟨data_grown (hm.dat x hx).1 h3 hg, (hm.dat x hx).2⟩, hm.far⟩, hp⟩
theorem equal_is (S T : Nat → Prop) (tb mb ub nb : Nat) (L M : List Ent) (r : Bool) (w : World) (ht : TreeAt S w tb mb L) (hu : TreeAt T w ub nb M) (hr : decide (L = M) = r) :
    Calls Tryd.prog 31 #[.pointer (some ⟨tb, 0, none⟩), .pointer (some ⟨ub, 0, none⟩)] w fun e w' => e = .returned (.bool r) ∧ Below w.heap.size w w' := by
  rw [← hr]; exact equal_any S T tb mb ub nb L M w ht hu
theorem from_ok (S : Nat → Prop) (L : List Ent) (v : Value) (w : World) (hv : EntsAt S w v L) (henv : Env w) (h : TOk L) : Calls Tryd.prog 11 #[v] w fun e w' => Below w.heap.size w w' ∧ ∃ tb mb, e = .returned (.tuple #[.pointer (some ⟨tb, 0, none⟩), .int .i64 0]) ∧ NewTree w w' tb mb L :=
  (from_any S L v w hv henv).mono fun _ _ ⟨hb, hr⟩ => ⟨hb, (hr.resolve_left (fun h2 => h2.1 (checkP_iff.2 h))).2⟩
set_option maxRecDepth 100000 in
set_option maxHeartbeats 4000000 in
theorem stays_walk (l : List POp) (v : Value) (w : World) (hv : OpsAt (fun _ => True) w v l) (henv : Env w) :
    Calls Tryd.prog 8 #[v] w fun e w' => e = .returned (.bool true) ∧ Below w.heap.size w w' := by
  have HV := Lib.hid hv
  have HE := Lib.hid henv
  obtain ⟨a, cap, rfl, hc, hm, -⟩ := SeqAt.shape hv OpR.len
  unfold maxLen at hm
  obtain ⟨n, hn⟩ : ∃ n, n = l.length := ⟨_, rfl⟩
  have HN := Lib.hid hn
  rw [← hn] at hc HV ⊢
  clear hv henv hn
  go_enter Tryd.func8, Tryd.ntmps8
  go_wp2_with fail
  refine (awakeT_any w HE.out).mono ?_
  rintro e w1 ⟨rfl, hb1⟩
  have HB1 := Lib.hid hb1
  clear hb1
  go_wp2_with fail
  refine (wide_any _ l _ _ (HV.out.below HB1.out)).mono ?_
  rintro e w2 ⟨wb, rfl, -, hb2⟩
  have HB2 := Lib.hid (below_next HB1.out hb2)
  clear hb2
  cases wb
  · go_wp2_with fail
    refine (newB_any _).mono ?_
    rintro e w3 ⟨rfl, ht3, hb3⟩
    obtain ⟨B, hB⟩ : ∃ B, B = w2.heap.size := ⟨_, rfl⟩
    rw [← hB] at ht3 ⊢
    have HBB := Lib.hid (show w.heap.size ≤ B by rw [hB]; exact HB2.out.size)
    have HT3 := Lib.hid ht3
    have HB3 := Lib.hid (below_next HB2.out hb3)
    clear ht3 hb3 hB
    go_wp2_with fail
    go_loopw [17] (fun i wr => ∃ (k : Nat) (L : List Ent), k ≤ n ∧ i = .int .i64 k ∧ TreeB B wr L ∧ Below w.heap.size w wr) (fun i _ => n - (intOf i).toNat)
    case atStart => exact ⟨0, [], Nat.zero_le _, rfl, HT3.out, HB3.out⟩
    case round =>
      obtain ⟨k, L, hk, rfl, htr, hbr⟩ := hrel
      have HTR := Lib.hid htr
      have HBR := Lib.hid hbr
      clear htr hbr
      by_cases hlt : k < n
      · obtain ⟨x, hx⟩ : ∃ x, l[k]? = some x := ⟨l[k]'(by rw [← HN.out]; exact hlt), by simp⟩
        obtain ⟨b, o, dv, rfl, hb, hd, hok, hq⟩ := ops_at (HV.out.below HBR.out) hx
        obtain ⟨a1, cap1, rfl, hd1, hd2⟩ := hd.slice
        have q0 := hq 0 (by omega)
        have q1 := hq 1 (by omega)
        have q2 := hq 2 (by omega)
        have q3 := hq 3 (by omega)
        have q4 := hq 4 (by omega)
        have q5 := hq 5 (by omega)
        have q6 := hq 6 (by omega)
        have q7 := hq 7 (by omega)
        have q8 := hq 8 (by omega)
        have q9 := hq 9 (by omega)
        simp only [opC, List.getElem?_cons_succ, List.getElem?_cons_zero, Nat.add_zero] at q0 q1 q2 q3 q4 q5 q6 q7 q8 q9
        have HX := Lib.hid hx
        have HD := Lib.hid hd
        have HOK := Lib.hid hok
        unfold maxLen at hd2
        clear hx hd hok hq
        go_wp2_with fail
        obtain ⟨W, hW⟩ : ∃ W, W = wr.alloc (.cells #[.int .i64 x.kind, .string x.en.path, .int .i64 x.en.kind, .int .i64 x.en.mode, .int .i64 x.en.time, .slice a1 x.en.data.length cap1, .string x.en.link, .string x.src, .string x.dst, .bool x.below] 64) := ⟨_, rfl⟩
        rw [← hW]
        have HXB := Lib.hid (show W.heap[wr.heap.size]? = some (.cells #[.int .i64 x.kind, .string x.en.path, .int .i64 x.en.kind, .int .i64 x.en.mode, .int .i64 x.en.time, .slice a1 x.en.data.length cap1, .string x.en.link, .string x.src, .string x.dst, .bool x.below] 64 (0, 0)) by rw [hW]; exact new20 wr _)
        have HWL := Lib.hid (show Below wr.heap.size wr W by rw [hW]; exact (Below.refl _ _).alloc (Nat.le_refl _) _)
        have HTW := Lib.hid (HTR.out.below HWL.out)
        have HBW := Lib.hid (below_next HBR.out HWL.out)
        clear hW q0 q1 q2 q3 q4 q5 q6 q7 q8 q9
        refine (clone_tree _ _ _ L _ HTW.out).mono ?_
        rintro e w4 ⟨rfl, ⟨S4, hS4, ht4⟩, hb4⟩
        have HU4 := Lib.hid ht4
        have HS4 := Lib.hid hS4
        have HX4 := Lib.hid ((hb4.block wr.heap.size (lt20 HXB.out)).trans HXB.out)
        have HT4 := Lib.hid (HTW.out.below hb4)
        have HB4 := Lib.hid (below_next HBW.out hb4)
        have HL4 := Lib.hid (HWL.out.trans (hb4.mono HWL.out.size))
        have HWS := Lib.hid (Nat.lt_of_lt_of_le (block_lt HTR.out.cell) HWL.out.size)
        clear ht4 hS4 hb4
        have c0 := cell20 (k := 0) HX4.out
        have c1 := cell20 (k := 1) HX4.out
        have c2 := cell20 (k := 2) HX4.out
        have c3 := cell20 (k := 3) HX4.out
        have c4 := cell20 (k := 4) HX4.out
        have c5 := cell20 (k := 5) HX4.out
        have c6 := cell20 (k := 6) HX4.out
        have c7 := cell20 (k := 7) HX4.out
        have c8 := cell20 (k := 8) HX4.out
        have c9 := cell20 (k := 9) HX4.out
        simp only [List.getElem?_toArray, List.getElem?_cons_succ, List.getElem?_cons_zero] at c0 c1 c2 c3 c4 c5 c6 c7 c8 c9
        go_wp2_with fail
        refine (do_any _ (fun _ => True) _ _ L x (.slice a1 x.en.data.length cap1) _ HT4.out (HD.out.below HL4.out) HOK.out (HE.out.below HB4.out)).mono ?_
        rintro e w5 hr
        obtain ⟨rfl, ht5, hg5⟩ := HT4.out.res hr
        have HT5 := Lib.hid ht5
        have HWN : B + 1 < W.heap.size := HWS.out
        have HU5 := Lib.hid (HU4.out.other hg5 (by omega) (by omega) (fun h => by have := HS4.out _ h; omega))
        have HB5 := Lib.hid (HB4.out.grown hg5 HB4.out.size (fun k e => by cases e; exact HBB.out))
        obtain ⟨M, hM⟩ : ∃ M, M = (doP L x).1 := ⟨_, rfl⟩
        have HM := Lib.hid hM
        rw [← hM] at HT5
        obtain ⟨er, her⟩ : ∃ er, er = (doP L x).2 := ⟨_, rfl⟩
        have HER := Lib.hid her
        rw [← her]
        clear hr ht5 hg5 hM her c0 c1 c2 c3 c4 c5 c6 c7 c8 c9
        by_cases h0 : er = 0
        · subst h0
          go_wp2_with fail
          refine (entries_any _ _ _ M _ HT5.out).mono ?_
          rintro e w7 ⟨v7, rfl, hg7, hb7⟩
          have HG7 := Lib.hid hg7.seq
          have HT7 := Lib.hid (HT5.out.below hb7)
          have HB7 := Lib.hid (below_next HB5.out hb7)
          obtain ⟨a7, c7, rfl, -, -⟩ := len_gather hg7
          clear hg7 hb7
          go_wp2_with fail
          refine (check_is _ M _ 0 _ HG7.out (HE.out.below HB7.out) (checkP_iff.2 HT7.out.ok)).mono ?_
          rintro e w8 ⟨rfl, hb8⟩
          have HT8 := Lib.hid (HT7.out.below hb8)
          have HB8 := Lib.hid (below_next HB7.out hb8)
          clear hb8
          go_wp2_with fail
          go_roundw
          case rel => exact ⟨k + 1, M, by omega, by go_num, HT8.out, HB8.out⟩
          case measure => simp [intOf]; omega
        · have e1 : (er != 0) = true := by simp [h0]
          have HEQ := Lib.hid (show decide (M = L) = true by rw [HM.out, doP_err (by rw [← HER.out]; exact h0)]; simp)
          clear h0
          go_wp2_with fail
          refine (equal_is _ _ _ _ _ _ M L true _ HT5.out HU5.out HEQ.out).mono ?_
          rintro e w6 ⟨rfl, hb6⟩
          have HT6 := Lib.hid (HT5.out.below hb6)
          have HB6 := Lib.hid (below_next HB5.out hb6)
          clear hb6
          go_wp2_with fail
          refine (entries_any _ _ _ M _ HT6.out).mono ?_
          rintro e w7 ⟨v7, rfl, hg7, hb7⟩
          have HG7 := Lib.hid hg7.seq
          have HT7 := Lib.hid (HT6.out.below hb7)
          have HB7 := Lib.hid (below_next HB6.out hb7)
          obtain ⟨a7, c7, rfl, -, -⟩ := len_gather hg7
          clear hg7 hb7
          go_wp2_with fail
          refine (check_is _ M _ 0 _ HG7.out (HE.out.below HB7.out) (checkP_iff.2 HT7.out.ok)).mono ?_
          rintro e w8 ⟨rfl, hb8⟩
          have HT8 := Lib.hid (HT7.out.below hb8)
          have HB8 := Lib.hid (below_next HB7.out hb8)
          clear hb8
          go_wp2_with fail
          go_roundw
          case rel => exact ⟨k + 1, M, by omega, by go_num, HT8.out, HB8.out⟩
          case measure => simp [intOf]; omega
      · have hk2 : k = n := by omega
        go_wp2_with fail
        refine (entries_any _ _ _ L _ HTR.out).mono ?_
        rintro e w4 ⟨v4, rfl, hg4, hb4⟩
        have HG4 := Lib.hid hg4.seq
        have HT4 := Lib.hid (HTR.out.below hb4)
        have HB4 := Lib.hid (below_next HBR.out hb4)
        obtain ⟨a4, c4, rfl, -, -⟩ := len_gather hg4
        clear hg4 hb4
        go_wp2_with fail
        refine (from_ok _ L _ _ HG4.out (HE.out.below HB4.out) HT4.out.ok).mono ?_
        rintro e w5 ⟨hb5, ub, nb, rfl, -, -, S5, -, ht5⟩
        have HU5 := Lib.hid ht5
        have HT5 := Lib.hid (HT4.out.below hb5)
        have HB5 := Lib.hid (below_next HB4.out hb5)
        clear hb5 ht5
        go_wp2_with fail
        refine (equal_is _ _ _ _ _ _ L L true _ HU5.out HT5.out (by simp)).mono ?_
        rintro e w6 ⟨rfl, hb6⟩
        have HU6 := Lib.hid (HU5.out.below hb6)
        have HT6 := Lib.hid (HT5.out.below hb6)
        have HB6 := Lib.hid (below_next HB5.out hb6)
        clear hb6
        go_wp2_with fail
        refine (equal_is _ _ _ _ _ _ L L true _ HT6.out HU6.out (by simp)).mono ?_
        rintro e w7 ⟨rfl, hb7⟩
        have HB7 := Lib.hid (below_next HB6.out hb7)
        clear hb7
        go_wp2_with fail
        go_ret
        exact ⟨rfl, HB7.out⟩
  · go_wp2_with fail
    go_ret
    exact ⟨rfl, HB2.out⟩

end Go.Proofs.YtbkhdpocmmjnbaaDoor

/- The law FiletreeMoves: its walk. -/
namespace Go.Proofs.YtbkhdpocmmjnbaaDoor
open Go Go.RowKit Go.Maps

theorem moveP_err {L : List Ent} {p q : ByteArray} (h : (moveP L p q).2 ≠ 0) : (moveP L p q).1 = L := by
  have := doP_err (L := L) (x := ⟨3, ⟨⟨#[]⟩, 0, 0, 0, [], ⟨#[]⟩⟩, p, q, false⟩)
  simp only [doP, if_neg (show ¬ (3 : Int) = 1 by decide), if_neg (show ¬ (3 : Int) = 2 by decide), if_true] at this
  exact this h
theorem get_some (S : Nat → Prop) (tb mb : Nat) (L : List Ent) (p : ByteArray) (f : Ent) (w : World) (ht : TreeAt S w tb mb L) (hps : p.size ≤ maxLen) (hf : findE L p = some f) :
    Calls Tryd.prog 19 #[.pointer (some ⟨tb, 0, none⟩), .string p] w fun e w' => ∃ a c, e = .returned (.tuple #[.agg #[.string f.path, .int .i64 f.kind, .int .i64 f.mode, .int .i64 f.time, .slice a f.data.length c, .string f.link], .bool true]) ∧ DataAt (fun k => w.heap.size ≤ k ∧ k < w'.heap.size) w' (.slice a f.data.length c) f.data ∧ Below w.heap.size w w' :=
  (get_any S tb mb L p w ht hps).mono fun e w' ⟨hb, hr⟩ => by
    rw [hf] at hr
    obtain ⟨v, rfl, ho⟩ := hr
    have hd := data_of_owns ho
    obtain ⟨a, c, rfl, -, -⟩ := owns_shape ho
    exact ⟨a, c, rfl, hd, hb⟩
theorem get_none (S : Nat → Prop) (tb mb : Nat) (L : List Ent) (p : ByteArray) (w : World) (ht : TreeAt S w tb mb L) (hps : p.size ≤ maxLen) (hf : findE L p = none) :
    Calls Tryd.prog 19 #[.pointer (some ⟨tb, 0, none⟩), .string p] w fun e w' => e = .returned (.tuple #[.agg #[.string ⟨#[]⟩, .int .i64 0, .int .i64 0, .int .i64 0, .slice none 0 0, .string ⟨#[]⟩], .bool false]) ∧ Below w.heap.size w w' :=
  (get_any S tb mb L p w ht hps).mono fun e w' ⟨hb, hr⟩ => by
    rw [hf] at hr
    exact ⟨hr, hb⟩
/-- Every Get of a law: what it hands back, and where its data lie. -/
def GotV (L : List Ent) (p : ByteArray) (B : Nat) (w' : World) (g : Ent) (a : Option Addr) (n c : Nat) (ok : Bool) : Prop :=
  DataAt (fun k => B ≤ k ∧ k < w'.heap.size) w' (.slice a n c) g.data ∧ n = g.data.length ∧ n ≤ c ∧ c ≤ maxLen ∧ ((ok = true ∧ findE L p = some g) ∨ (ok = false ∧ findE L p = none ∧ g = ⟨⟨#[]⟩, 0, 0, 0, [], ⟨#[]⟩⟩))
theorem get_v (S : Nat → Prop) (tb mb : Nat) (L : List Ent) (p : ByteArray) (w : World) (ht : TreeAt S w tb mb L) (hps : p.size ≤ maxLen) :
    Calls Tryd.prog 19 #[.pointer (some ⟨tb, 0, none⟩), .string p] w fun e w' => ∃ g a n c ok, e = .returned (.tuple #[.agg #[.string g.path, .int .i64 g.kind, .int .i64 g.mode, .int .i64 g.time, .slice a n c, .string g.link], .bool ok]) ∧ GotV L p w.heap.size w' g a n c ok ∧ Below w.heap.size w w' :=
  (get_any S tb mb L p w ht hps).mono fun e w' ⟨hb, hr⟩ => by
    cases hf : findE L p with
    | none =>
      rw [hf] at hr
      exact ⟨⟨⟨#[]⟩, 0, 0, 0, [], ⟨#[]⟩⟩, none, 0, 0, false, hr, ⟨DataAt.nil _ _, rfl, Nat.le_refl _, by decide, .inr ⟨rfl, hf, rfl⟩⟩, hb⟩
    | some f =>
      rw [hf] at hr
      obtain ⟨v, rfl, ho⟩ := hr
      have hd := data_of_owns ho
      obtain ⟨a, c, rfl, h1, h2⟩ := owns_shape ho
      exact ⟨f, a, _, c, true, rfl, ⟨hd, rfl, h1, h2, .inl ⟨rfl, hf⟩⟩, hb⟩
set_option maxRecDepth 100000 in
set_option maxHeartbeats 4000000 in
theorem moves_walk (l : List POp) (v : Value) (p q : ByteArray) (w : World) (hv : OpsAt (fun _ => True) w v l) (hp : p.size ≤ maxLen) (hq : q.size ≤ maxLen) (henv : Env w) :
    Calls Tryd.prog 7 #[v, .string p, .string q] w fun e w' => e = .returned (.bool true) ∧ Below w.heap.size w w' := by
  have HV := Lib.hid hv
  have HE := Lib.hid henv
  have HP := Lib.hid hp
  have HQ := Lib.hid hq
  obtain ⟨a, cap, rfl, hc, hm, -⟩ := SeqAt.shape hv OpR.len
  unfold maxLen at hm hp hq
  clear hv henv
  go_enter Tryd.func7, Tryd.ntmps7
  go_wp2_with fail
  refine (awakeT_any w HE.out).mono ?_
  rintro e w1 ⟨rfl, hb1⟩
  have HB1 := Lib.hid hb1
  clear hb1
  go_wp2_with fail
  refine (wide_any _ l _ _ (HV.out.below HB1.out)).mono ?_
  rintro e w2 ⟨wb, rfl, -, hb2⟩
  have HB2 := Lib.hid (below_next HB1.out hb2)
  clear hb2
  cases wb
  case true =>
    go_wp2_with fail
    go_ret
    exact ⟨rfl, HB2.out⟩
  by_cases hp6 : 600 < p.size
  · have hp6' : decide (600 < p.size) = true := by simp [hp6]
    go_wp2_with fail
    go_ret
    exact ⟨rfl, HB2.out⟩
  have hp6' : decide (600 < p.size) = false := by simp; omega
  by_cases hq6 : 600 < q.size
  · have hq6' : decide (600 < q.size) = true := by simp [hq6]
    go_wp2_with fail
    go_ret
    exact ⟨rfl, HB2.out⟩
  have hq6' : decide (600 < q.size) = false := by simp; omega
  go_wp2_with fail
  refine (play_any _ l _ _ (HV.out.below HB2.out) (HE.out.below HB2.out)).mono ?_
  rintro e w3 ⟨rfl, ht3, hb3⟩
  obtain ⟨B, hB⟩ : ∃ B, B = w2.heap.size := ⟨_, rfl⟩
  rw [← hB] at ht3 ⊢
  have HBB := Lib.hid (show w.heap.size ≤ B by rw [hB]; exact HB2.out.size)
  have HT3 := Lib.hid ht3
  have HB3 := Lib.hid (below_next HB2.out hb3)
  have HLT3 := Lib.hid (show B + 1 < w3.heap.size from block_lt ht3.cell)
  obtain ⟨L, hL⟩ : ∃ L, L = playP [] l := ⟨_, rfl⟩
  rw [← hL] at HT3
  clear ht3 hb3 hB hL
  go_wp2_with fail
  refine (clone_tree _ _ _ L _ HT3.out).mono ?_
  rintro e w4 ⟨rfl, ⟨S4, hS4, ht4⟩, hb4⟩
  have HU4 := Lib.hid ht4
  have HS4 := Lib.hid hS4
  have HT4 := Lib.hid (HT3.out.below hb4)
  have HB4 := Lib.hid (below_next HB3.out hb4)
  have HL4 := Lib.hid hb4.size
  have HUL := Lib.hid (show w3.heap.size + 1 < w4.heap.size from block_lt ht4.cell)
  have HSL := Lib.hid ht4.lt
  clear ht4 hS4 hb4
  go_wp2_with fail
  refine (size_any _ _ _ L p _ HT4.out HP.out).mono ?_
  rintro e w5 ⟨rfl, hb5⟩
  have HT5 := Lib.hid (HT4.out.below hb5)
  have HU5 := Lib.hid (HU4.out.below hb5)
  have HB5 := Lib.hid (below_next HB4.out hb5)
  have HL5 := Lib.hid (Nat.le_trans HL4.out hb5.size)
  have HL54 := Lib.hid hb5.size
  clear hb5
  obtain ⟨cn, hcn⟩ : ∃ cn, cn = cntL (atP L p) := ⟨_, rfl⟩
  have HCN := Lib.hid hcn
  rw [← hcn]
  clear hcn
  go_wp2_with fail
  refine (get_v _ _ _ L p _ HT5.out HP.out).mono ?_
  rintro e w6 ⟨g6, a6, n6, k6, ok6, rfl, hg6, hb6⟩
  have HG6 := Lib.hid hg6
  have hn6 := hg6.2.2.1
  have hk6 := hg6.2.2.2.1
  unfold maxLen at hk6
  have HT6 := Lib.hid (HT5.out.below hb6)
  have HU6 := Lib.hid (HU5.out.below hb6)
  have HB6 := Lib.hid (below_next HB5.out hb6)
  have HL6 := Lib.hid (Nat.le_trans HL5.out hb6.size)
  have HL64 := Lib.hid (Nat.le_trans HL54.out hb6.size)
  clear hb6 hg6
  go_wp2_with fail
  obtain ⟨W, hW⟩ : ∃ W, W = w6.alloc (.cells #[.string g6.path, .int .i64 g6.kind, .int .i64 g6.mode, .int .i64 g6.time, .slice a6 n6 k6, .string g6.link] 36) := ⟨_, rfl⟩
  rw [← hW]
  have HX := Lib.hid (show W.heap[w6.heap.size]? = some (.cells #[.string g6.path, .int .i64 g6.kind, .int .i64 g6.mode, .int .i64 g6.time, .slice a6 n6 k6, .string g6.link] 36 (0, 0)) by rw [hW]; exact new20 w6 _)
  have HWL := Lib.hid (show Below w6.heap.size w6 W by rw [hW]; exact (Below.refl _ _).alloc (Nat.le_refl _) _)
  have HTW := Lib.hid (TreeAt.below HT6.out HWL.out)
  have HWX := Lib.hid (lt20 HX.out)
  have HBB6 := Lib.hid (show w.heap.size ≤ w6.heap.size from HB6.out.size)
  have HUW := Lib.hid (HU6.out.below HWL.out)
  have HBW := Lib.hid (below_next HB6.out HWL.out)
  have HDW := Lib.hid (HG6.out.1.below HWL.out)
  clear hW
  refine (move_any _ _ _ L p q _ HTW.out HP.out HQ.out (HE.out.below HBW.out)).mono ?_
  rintro e w7 hr
  obtain ⟨rfl, ht7, hg7⟩ := hr
  have HB7 := Lib.hid (HBW.out.grown hg7 HBW.out.size (fun k e => by cases e; exact HBB.out))
  have HU7 := Lib.hid (HUW.out.other hg7 (by have := HLT3.out; omega) (by have := HLT3.out; omega) (fun h => by have h1 := HS4.out _ h; have h2 := HLT3.out; omega))
  have HT7 := Lib.hid ht7
  by_cases h0 : (moveP L p q).2 = 0
  case neg =>
    have e1 : ((moveP L p q).2 != 0) = true := by simp [h0]
    have HEQ := Lib.hid (show decide ((moveP L p q).1 = L) = true by rw [moveP_err h0]; simp)
    obtain ⟨er, her⟩ : ∃ er, er = (moveP L p q).2 := ⟨_, rfl⟩
    rw [← her] at e1 ⊢
    clear ht7 hg7 h0 her
    go_wp2_with fail
    refine (equal_is _ _ _ _ _ _ _ L true _ HT7.out HU7.out HEQ.out).mono ?_
    rintro e w8 ⟨rfl, hb8⟩
    have HB8 := Lib.hid (below_next HB7.out hb8)
    clear hb8
    go_wp2_with fail
    go_ret
    exact ⟨rfl, HB8.out⟩
  case pos =>
    rw [h0]
    obtain ⟨hmv, hm1⟩ := move_is HT6.out.ok h0
    have HMV := Lib.hid hmv
    obtain ⟨M, hM⟩ : ∃ M, M = sortP (L.map (moveE p q)) := ⟨_, rfl⟩
    rw [hm1, ← hM] at HT7
    have HM := Lib.hid hM
    obtain ⟨f, hf⟩ := hmv.is
    have hg6e : g6 = f ∧ ok6 = true := by
      rcases HG6.out.2.2.2.2 with ⟨h1, h2⟩ | ⟨h1, h2, _⟩
      · rw [hf] at h2; exact ⟨(Option.some.inj h2).symm, h1⟩
      · rw [hf] at h2; cases h2
    obtain ⟨rfl, rfl⟩ := hg6e
    have hnn : n6 = g6.data.length := HG6.out.2.1
    subst hnn
    have HF := Lib.hid hf
    have HX7 := Lib.hid ((hg7.block w6.heap.size (lt20 HX.out) (fun e => by have h1 := Option.some.inj e; have h2 := HLT3.out; have h3 := HL6.out; omega)).trans HX.out)
    have HD7 := Lib.hid (data_grown HDW.out (fun h => by have h1 := h.1; have h2 := HLT3.out; have h3 := HL5.out; omega) hg7)
    clear ht7 hg7 h0 hmv hm1 hM hf HG6
    go_wp2_with fail
    refine (size_any _ _ _ M q _ HT7.out HQ.out).mono ?_
    rintro e w8 ⟨rfl, hb8⟩
    rw [show cntL (atP M q) = cn by rw [HM.out, HMV.out.count, HCN.out]]
    have HT8 := Lib.hid (HT7.out.below hb8)
    have HU8 := Lib.hid (HU7.out.below hb8)
    have HX8 := Lib.hid ((hb8.block _ (lt20 HX7.out)).trans HX7.out)
    have HD8 := Lib.hid (HD7.out.below hb8)
    have HB8 := Lib.hid (below_next HB7.out hb8)
    clear hb8
    go_wp2_with fail
    refine (get_none _ _ _ M p _ HT8.out HP.out (by rw [HM.out]; exact HMV.out.gone)).mono ?_
    rintro e w9 ⟨rfl, hb9⟩
    have hbA := hb9.alloc hb9.size (.cells #[.string ⟨#[]⟩, .int .i64 0, .int .i64 0, .int .i64 0, .slice none 0 0, .string ⟨#[]⟩] 36)
    have HTA := Lib.hid (HT8.out.below hbA)
    have HUA := Lib.hid (HU8.out.below hbA)
    have HXA := Lib.hid ((hbA.block _ (lt20 HX8.out)).trans HX8.out)
    have HDA := Lib.hid (HD8.out.below hbA)
    have HBA := Lib.hid (below_next HB8.out hbA)
    have HX6A := Lib.hid (lt20 HXA.out)
    clear hb9 hbA
    go_wp2_with fail
    refine (get_some _ _ _ M q { g6 with path := q } _ HTA.out HQ.out (by rw [HM.out]; exact HMV.out.there HF.out)).mono ?_
    rintro e wb ⟨ab, cb, rfl, hdb, hbb⟩
    have HTB := Lib.hid (HTA.out.below hbb)
    have HUB := Lib.hid (HUA.out.below hbb)
    have HXB := Lib.hid ((hbb.block _ (lt20 HXA.out)).trans HXA.out)
    have HDB := Lib.hid (HDA.out.below hbb)
    have HEB := Lib.hid hdb
    have HBBx := Lib.hid (below_next HBA.out hbb)
    have HWLT := Lib.hid (Nat.le_trans (Nat.le_of_lt (lt20 HXA.out)) hbb.size)
    clear hdb hbb
    go_upto_region 15 with (fail)
    obtain ⟨V, hV⟩ : ∃ V, V = wb.alloc (.cells #[.string q, .int .i64 g6.kind, .int .i64 g6.mode, .int .i64 g6.time, .slice ab g6.data.length cb, .string g6.link] 36) := ⟨_, rfl⟩
    rw [← hV]
    have hbv : Below wb.heap.size wb V := by rw [hV]; exact (Below.refl _ _).alloc (Nat.le_refl _) _
    have HZV := Lib.hid (show V.heap[wb.heap.size]? = some (.cells #[.string q, .int .i64 g6.kind, .int .i64 g6.mode, .int .i64 g6.time, .slice ab g6.data.length cb, .string g6.link] 36 (0, 0)) by rw [hV]; exact new20 wb _)
    have HXV := Lib.hid ((hbv.block _ (lt20 HXB.out)).trans HXB.out)
    have HTV := Lib.hid (HTB.out.below hbv)
    have HUV := Lib.hid (HUB.out.below hbv)
    have HDV := Lib.hid (HDB.out.below hbv)
    have HEV := Lib.hid (HEB.out.below hbv)
    have HBV := Lib.hid (below_next HBBx.out hbv)
    have HNE := Lib.hid (show wb.heap.size ≠ w6.heap.size from fun e => by have := lt20 HXB.out; omega)
    clear hV hbv
    have c0 := cell20 (k := 0) HXV.out
    have c1 := cell20 (k := 1) HXV.out
    have c2 := cell20 (k := 2) HXV.out
    have c3 := cell20 (k := 3) HXV.out
    have c4 := cell20 (k := 4) HXV.out
    have c5 := cell20 (k := 5) HXV.out
    simp only [List.getElem?_toArray, List.getElem?_cons_succ, List.getElem?_cons_zero] at c0 c1 c2 c3 c4 c5
    have p0 := frozen20 (k := 0) HXV.out
    go_upto_region 16 with (fail)
    obtain ⟨X, hX⟩ : ∃ X, X = V.setCell ⟨w6.heap.size, 0, none⟩ (.string q) := ⟨_, rfl⟩
    rw [← hX]
    have hgx : V.grownBy X (some w6.heap.size) := by rw [hX]; exact grownBy_setCell' V _ _
    have HXX := Lib.hid (show X.heap[w6.heap.size]? = some (.cells #[.string q, .int .i64 g6.kind, .int .i64 g6.mode, .int .i64 g6.time, .slice a6 g6.data.length k6, .string g6.link] 36 (0, 0)) by rw [hX]; exact set20 HXV.out _)
    have HZX := Lib.hid (show X.heap[wb.heap.size]? = some (.cells #[.string q, .int .i64 g6.kind, .int .i64 g6.mode, .int .i64 g6.time, .slice ab g6.data.length cb, .string g6.link] 36 (0, 0)) by rw [hX]; exact setOther20 HZV.out HNE.out _)
    have HTX := Lib.hid (HTV.out.other hgx (by have h2 := HLT3.out; have h3 := HL6.out; omega) (by have h2 := HLT3.out; have h3 := HL6.out; omega) (fun h => by have h3 := HWX.out; rcases h with h | h; exact absurd h.2 (Nat.lt_irrefl _); omega))
    have HUX := Lib.hid (HUV.out.other hgx (by have h3 := HUL.out; have h4 := HL64.out; omega) (by have h3 := HUL.out; have h4 := HL64.out; omega) (fun h => by have h1 := HSL.out _ h; have h4 := HL64.out; omega))
    clear hX p0 c0 c1 c2 c3 c4 c5
    have HDX := Lib.hid (data_grown (mb := w6.heap.size) HDV.out (fun h => by have h1 := h.2; omega) hgx)
    have HEX := Lib.hid (data_grown (mb := w6.heap.size) HEV.out (fun h => by have h1 := h.1; have h2 := HX6A.out; omega) hgx)
    have HBX := Lib.hid (HBV.out.grown hgx HBV.out.size (fun k e => by cases e; exact HBB6.out))
    clear hgx
    have c0 := cell20 (k := 0) HXX.out
    have c1 := cell20 (k := 1) HXX.out
    have c2 := cell20 (k := 2) HXX.out
    have c3 := cell20 (k := 3) HXX.out
    have c4 := cell20 (k := 4) HXX.out
    have c5 := cell20 (k := 5) HXX.out
    simp only [List.getElem?_toArray, List.getElem?_cons_succ, List.getElem?_cons_zero] at c0 c1 c2 c3 c4 c5
    have d0 := cell20 (k := 0) HZX.out
    have d1 := cell20 (k := 1) HZX.out
    have d2 := cell20 (k := 2) HZX.out
    have d3 := cell20 (k := 3) HZX.out
    have d4 := cell20 (k := 4) HZX.out
    have d5 := cell20 (k := 5) HZX.out
    simp only [List.getElem?_toArray, List.getElem?_cons_succ, List.getElem?_cons_zero] at d0 d1 d2 d3 d4 d5
    go_wp2_with fail
    refine (r_same20_is _ _ { g6 with path := q } { g6 with path := q } (.slice a6 g6.data.length k6) (.slice ab g6.data.length cb) true _ HDX.out HEX.out (by simp)).mono ?_
    rintro e wc ⟨rfl, hbc⟩
    have HTC := Lib.hid (HTX.out.below hbc)
    have HUC := Lib.hid (HUX.out.below hbc)
    have HBC := Lib.hid (below_next HBX.out hbc)
    clear hbc c0 c1 c2 c3 c4 c5 d0 d1 d2 d3 d4 d5
    go_wp2_with fail
    refine (equal_is _ _ _ _ _ _ M L false _ HTC.out HUC.out (by rw [HM.out]; simp only [decide_eq_false_iff_not]; exact fun h => HMV.out.ne h.symm)).mono ?_
    rintro e wd ⟨rfl, hbd⟩
    have HTD := Lib.hid (HTC.out.below hbd)
    have HUD := Lib.hid (HUC.out.below hbd)
    have HBD := Lib.hid (below_next HBC.out hbd)
    clear hbd
    go_wp2_with fail
    refine (move_any _ _ _ M q p _ HTD.out HQ.out HP.out (HE.out.below HBD.out)).mono ?_
    rintro e we hr
    rw [show moveP M q p = (L, 0) by rw [HM.out]; exact HMV.out.again] at hr
    obtain ⟨rfl, hte, hge⟩ := hr
    have HTE := Lib.hid hte
    have HUE := Lib.hid (HUD.out.other hge (by have := HLT3.out; omega) (by have := HLT3.out; omega) (fun h => by have h1 := HS4.out _ h; have h2 := HLT3.out; omega))
    have HBE := Lib.hid (HBD.out.grown hge HBD.out.size (fun k e => by cases e; exact HBB.out))
    clear hte hge
    go_wp2_with fail
    refine (equal_is _ _ _ _ _ _ L L true _ HTE.out HUE.out (by simp)).mono ?_
    rintro e wf ⟨rfl, hbf⟩
    have HTF := Lib.hid (HTE.out.below hbf)
    have HUF := Lib.hid (HUE.out.below hbf)
    have HBF := Lib.hid (below_next HBE.out hbf)
    clear hbf
    go_wp2_with fail
    refine (equal_is _ _ _ _ _ _ L L true _ HUF.out HTF.out (by simp)).mono ?_
    rintro e wg ⟨rfl, hbg⟩
    have HBG := Lib.hid (below_next HBF.out hbg)
    clear hbg
    go_wp2_with fail
    go_ret
    exact ⟨rfl, HBG.out⟩

end Go.Proofs.YtbkhdpocmmjnbaaDoor

/- Contracts of package pathname: Clean, Join. -/
namespace Go.Proofs.YtbkhdpocmmjnbaaDoor
open Go.RowKit

theorem clean_skip {ps acc : List (List UInt8)} {k : Nat} {p : List UInt8} (h : ps[k]? = some p) (hp : p = [] ∨ p = [46]) : cleanParts (ps.drop k) acc = cleanParts (ps.drop (k + 1)) acc := by
  obtain ⟨hk, rfl⟩ := List.getElem?_eq_some_iff.1 h
  rw [List.drop_eq_getElem_cons hk, cleanParts, if_pos hp]
theorem clean_up {ps acc : List (List UInt8)} {k : Nat} {p : List UInt8} (h : ps[k]? = some p) (hp : p = [46, 46]) (ha : acc ≠ []) : cleanParts (ps.drop k) acc = cleanParts (ps.drop (k + 1)) acc.dropLast := by
  obtain ⟨hk, rfl⟩ := List.getElem?_eq_some_iff.1 h
  rw [List.drop_eq_getElem_cons hk, cleanParts, hp]
  simp [ha]
theorem clean_out {ps : List (List UInt8)} {k : Nat} {p : List UInt8} (h : ps[k]? = some p) (hp : p = [46, 46]) : cleanParts (ps.drop k) [] = none := by
  obtain ⟨hk, rfl⟩ := List.getElem?_eq_some_iff.1 h
  rw [List.drop_eq_getElem_cons hk, cleanParts, hp]
  simp
theorem clean_add {ps acc : List (List UInt8)} {k : Nat} {p : List UInt8} (h : ps[k]? = some p) (h1 : p ≠ []) (h2 : p ≠ [46]) (h3 : p ≠ [46, 46]) : cleanParts (ps.drop k) acc = cleanParts (ps.drop (k + 1)) (acc ++ [p]) := by
  obtain ⟨hk, rfl⟩ := List.getElem?_eq_some_iff.1 h
  rw [List.drop_eq_getElem_cons hk, cleanParts]
  simp [h1, h2, h3]

/-- What Clean returns. -/
def cleanV (o : Option (List UInt8)) : Value := match o with
  | some l => .tuple #[.string ⟨l.toArray⟩, .int .i64 0]
  | none => .tuple #[.string ⟨#[]⟩, .int .i64 1]

def joinV (o : List UInt8 × Int) : Value := .tuple #[.string ⟨o.1.toArray⟩, .int .i64 o.2]

end Go.Proofs.YtbkhdpocmmjnbaaDoor

/- Contracts of the specification of chapter 18: UTF8, plain, Divide, Unite, Component, Valid. -/
namespace Go.Proofs.YtbkhdpocmmjnbaaDoor
open Go.RowKit

theorem reL_len (l : List UInt8) : (reL l).length ≤ 4 * l.length := by
  have h1 := runesL_length l
  have : ∀ rs : List Int, (rs.flatMap Lib.encodeRune).length ≤ 4 * rs.length := by
    intro rs
    induction rs with
    | nil => simp
    | cons r rs ih => rw [List.flatMap_cons, List.length_append, List.length_cons]; have := encodeRune_len r; omega
  have h2 := this (runesL l)
  unfold reL; omega
theorem decode_drop (s : ByteArray) (pos : Nat) : Lib.decodeL ((bl s).drop pos) = Utf8.decode s pos := Lib.decodeL_drop s pos
theorem drop_ne {s : ByteArray} {pos : Nat} (h : pos < s.size) : (bl s).drop pos ≠ [] := by
  intro e; have := List.drop_eq_nil_iff.1 e; rw [← size_bl] at this; omega
theorem utf8_next {s o : ByteArray} {pos : Nat} (hp : pos < s.size) (h : bl o ++ reL ((bl s).drop pos) = reL (bl s)) :
    bl (o ++ Utf8.encode ((Utf8.decode s pos).1 : Int)) ++ reL ((bl s).drop (pos + (Utf8.decode s pos).2)) = reL (bl s) := by
  rw [bl_append, ← h, reL_step _ (drop_ne hp), decode_drop, List.drop_drop, ← encode_lib, data_bl, List.append_assoc]

set_option maxHeartbeats 400000 in
theorem r_utf8_any (s : ByteArray) (w : World) (hs : s.size ≤ 16777216) :
    Calls Tryd.prog 95 #[.string s] w fun e w' => e = .returned (.bool (Lib.validD (bl s))) ∧ Below w.heap.size w w' := by
  go_enter Tryd.func95, Tryd.ntmps95
  go_wp2
  go_loopw [3] (fun v wr => ∃ (pos : Nat) (o : ByteArray), v = .string o ∧ wr = w.iter s pos ∧ o.size ≤ 67108864 ∧ bl o ++ reL ((bl s).drop pos) = reL (bl s)) (fun _ wr => s.size - wr.iterPos w.heap.size)
  case atStart => exact ⟨0, ⟨#[]⟩, rfl, rfl, by simp [ByteArray.size], by simp [bl]⟩
  case round =>
    obtain ⟨pos, o, rfl, rfl, ho, hrel2⟩ := hrel
    have HR := Lib.hid hrel2
    clear hrel2
    by_cases hp : pos < s.size
    · have hnx : ∀ ty, (Instr.next (.pointer (some ⟨w.heap.size, 0, none⟩)) true ty).run Tryd.prog (w.iter s pos) = _ := fun ty => run_next_any w s pos ty hp
      obtain ⟨r, hr⟩ : ∃ r, r = (Utf8.decode s pos).1 := ⟨_, rfl⟩
      obtain ⟨E, hE⟩ : ∃ E, E = Utf8.encode (r : Int) := ⟨_, rfl⟩
      have hcv : ∀ w', (convert 21 9 (.int .i32 (r : Int))).run Tryd.prog w' = .ok (.string E) w' := fun w' => by rw [hE]; exact run_convert_int_string w' _ _ .i32 _ (by rw [Tryd.underlying21]; rfl) Tryd.underlying9
      have hE4 : E.size ≤ 4 := by rw [hE]; exact encode_size_le _
      simp only [← hr] at hnx
      have HE := Lib.hid hE
      have HRR := Lib.hid hr
      clear hE hr
      go_wp2
      go_roundw
      case rel =>
        have hn : bl (o ++ E) ++ reL ((bl s).drop (pos + (Utf8.decode s pos).2)) = reL (bl s) := by rw [HE.out, HRR.out]; exact utf8_next hp HR.out
        refine ⟨pos + (Utf8.decode s pos).2, o ++ E, rfl, rfl, ?_, hn⟩
        have h1 := congrArg List.length hn
        have h2 := reL_len (bl s)
        rw [List.length_append, ← size_bl] at h1
        rw [← size_bl] at h2
        omega
      case measure =>
        rw [World.iterPos_iter, World.iterPos_iter]
        have := Lib.width_pos s pos
        omega
    · have hnx : ∀ ty, (Instr.next (.pointer (some ⟨w.heap.size, 0, none⟩)) true ty).run Tryd.prog (w.iter s pos) = _ := fun ty => run_next_end w s pos ty hp
      go_wp2
      go_ret
      refine ⟨ret_bool ?_, (Below.refl _ _).alloc (Nat.le_refl _) _⟩
      have h1 : bl o = reL (bl s) := by
        rw [← HR.out, List.drop_eq_nil_of_le (by rw [← size_bl]; omega), reL_nil, List.append_nil]
      rw [toList_bl, toList_bl, h1]
      exact reL_valid (bl s)

theorem lowFree_low {s : ByteArray} {j : Nat} (hj : j < s.size) (h : (s[j].toNat : Int) < 32) : lowFree (bl s) = false := by
  refine low_none hj ?_
  rw [get_bl s j hj, ← byte_bl s j hj]; omega

set_option maxHeartbeats 400000 in
theorem r_plain_any (s : ByteArray) (w : World) (hs : s.size ≤ 16777216) :
    Calls Tryd.prog 79 #[.string s] w fun e w' => e = .returned (.bool (textB (bl s))) ∧ Below w.heap.size w w' := by
  go_enter Tryd.func79, Tryd.ntmps79
  go_wp2
  go_loop [3] (fun i => ∃ k : Nat, k ≤ s.size ∧ i = .int .i64 k ∧ ∀ j, j < k → j < s.size → 32 ≤ (s.get! j).toNat) (fun i => s.size - (intOf i).toNat)
  case atStart => exact ⟨0, Nat.zero_le _, rfl, fun j hj => by omega⟩
  case round =>
    obtain ⟨k, hk, rfl, hlow⟩ := hrel
    have HL := Lib.hid hlow
    clear hlow
    by_cases hp : k < s.size
    · go_wp2
      · have hlt : (s[k].toNat : Int) < 32 := by assumption
        go_ret
        exact ⟨ret_bool (by simp [textB, lowFree_low hp hlt]), Below.refl _ _⟩
      · have hge : (32 : Int) ≤ (s[k].toNat : Int) := by assumption
        go_round
        case rel =>
          refine ⟨k + 1, by omega, by go_num, fun j hj hjs => ?_⟩
          rcases Nat.lt_or_ge j k with h | h
          · exact HL.out j h hjs
          · obtain rfl : j = k := by omega
            rw [get_bl s j hp, ← byte_bl s j hp]; omega
        case measure => simp [intOf] <;> omega
    · go_wp2_with (go_at_call 95; refine (r_utf8_any s _ hs).mono ?_; rintro e w' ⟨rfl, hb⟩)
      go_ret
      refine ⟨ret_bool ?_, hb⟩
      simp only [textB, low_all (fun j hj => HL.out j (by omega) hj), Bool.true_and]

/-- What Divide leaves. -/
def DivideOk (c : UInt8) (s : ByteArray) (w : World) (e : Ending) (w' : World) : Prop :=
  ∃ v xs, e = .returned v ∧ xs.map bl = splitL c (bl s) ∧ StrsAt (w.heap.size ≤ ·) w' v xs ∧ Below w.heap.size w w'
theorem divide_take {s : ByteArray} {c : UInt8} {ys : List ByteArray} {f k : Nat} (hk : k < s.size) (hf : f ≤ k) (h : splitL c (bl s) = ys.map bl ++ splitL c ((bl s).drop f)) (hn : ∀ j, f ≤ j → j < k → (s.get! j) ≠ c) (hc : s[k] = c) :
    splitL c (bl s) = (ys ++ [s.extract f k]).map bl ++ splitL c ((bl s).drop (k + 1)) := by
  have hk2 : k < (bl s).length := by rw [← size_bl]; exact hk
  have e : (bl s).drop f = bl (s.extract f k) ++ c :: (bl s).drop (k + 1) := by
    rw [bl_extract, ← hc, byte_bl s k hk, List.getElem_cons_drop, List.drop_take]
    have h2 := List.take_append_drop (k - f) ((bl s).drop f)
    rw [List.drop_drop, show f + (k - f) = k by omega] at h2
    exact h2.symm
  have hm : c ∉ bl (s.extract f k) := by
    intro hm
    obtain ⟨j, hj, ej⟩ := List.getElem_of_mem hm
    simp only [bl_extract] at hj ej
    rw [List.length_drop, List.length_take] at hj
    rw [List.getElem_drop, List.getElem_take] at ej
    exact hn (f + j) (by omega) (by omega) (by rw [get_bl s _ (by omega)]; exact ej)
  rw [h, e, splitL_append _ _ _ hm]; simp
theorem divide_last {s : ByteArray} {c : UInt8} {ys : List ByteArray} {f : Nat} (hf : f ≤ s.size) (h : splitL c (bl s) = ys.map bl ++ splitL c ((bl s).drop f)) (hn : ∀ j, f ≤ j → j < s.size → (s.get! j) ≠ c) :
    splitL c (bl s) = (ys ++ [s.extract f s.size]).map bl := by
  have e : (bl s).drop f = bl (s.extract f s.size) := by rw [bl_extract, size_bl, List.take_length]
  have hm : c ∉ (bl s).drop f := by
    intro hm
    obtain ⟨j, hj, ej⟩ := List.getElem_of_mem hm
    rw [List.length_drop, ← size_bl] at hj
    rw [List.getElem_drop] at ej
    exact hn (f + j) (by omega) (by omega) (by rw [get_bl s _ (by omega)]; exact ej)
  rw [h, splitL_whole _ _ hm, e]; simp

set_option maxHeartbeats 1000000 in
theorem r_divide_any (s : ByteArray) (w : World) (hs : s.size ≤ 16777216) : Calls Tryd.prog 58 #[.string s] w (DivideOk 47 s w) := by
  go_enter Tryd.func58, Tryd.ntmps58
  go_wp2_with fail
  go_loopw [3, 4, 5] (fun v fr i wr => ∃ (k f : Nat) (ys : List ByteArray), k ≤ s.size + 1 ∧ f ≤ k ∧ ys.length ≤ k ∧ i = .int .i64 k ∧ fr = .int .i64 f ∧ wr.ownsRow w.heap.size 9 1 v ys.length (ys.map Value.string) ∧ Below w.heap.size w wr ∧
      (k ≤ s.size → splitL 47 (bl s) = ys.map bl ++ splitL 47 ((bl s).drop f) ∧ ∀ j, f ≤ j → j < k → (s.get! j) ≠ 47) ∧ (k = s.size + 1 → splitL 47 (bl s) = ys.map bl)) (fun _ _ i _ => s.size + 1 - (intOf i).toNat)
  case atStart => exact ⟨0, 0, [], Nat.zero_le _, Nat.le_refl _, Nat.le_refl _, rfl, rfl, World.ownsRow_nil _ _ _ _, Below.refl _ _, fun _ => ⟨by simp, fun j _ hj => by omega⟩, fun h => by omega⟩
  case round =>
    obtain ⟨k, f, ys, hk, hf, hy, rfl, rfl, hown, hb, hr1, hr2⟩ := hrel
    have HO := Lib.hid hown
    have HB := Lib.hid hb
    have HR1 := Lib.hid hr1
    have HR2 := Lib.hid hr2
    have hsz : w.heap.size ≤ wr.heap.size := hb.size
    clear hown hb hr1 hr2
    by_cases hle : k ≤ s.size
    · by_cases hlt : k < s.size
      · have e1 : ((k : Int) == (s.size : Int)) = false := by rw [beq_eq_false_iff_ne]; omega
        by_cases hc : s[k] = 47
        · have e2 : ((s[k].toNat : Int) == (47 : UInt8).toNat) = true := by rw [hc]; rfl
          have e2' : ((s[k].toNat : Int) == 47) = true := e2
          have HCC := Lib.hid hc
          clear hc e2
          go_wp2_with (at_builtin; go_must (refine wpList_app1 Tryd.appStrings rfl _ _ rfl w.heap.size u3 ys.length (ys.map Value.string) rfl wr [.string (s.extract f k)] _ rfl rfl (by simp; rfl) HO.out (by omega) hsz ?_); intro v' w1 hown1 hgrow1 _)
          have HO1 := Lib.hid hown1
          have HG1 := Lib.hid hgrow1
          clear hown1 hgrow1
          go_wp2_with fail
          go_roundw
          case rel =>
            refine ⟨k + 1, k + 1, ys ++ [s.extract f k], by omega, Nat.le_refl _, by simp; omega, by go_num, by go_num, ?_, below_grown HB.out HO.out HG1.out (Nat.le_refl _) hsz, fun _ => ⟨divide_take hlt hf (HR1.out hle).1 (HR1.out hle).2 HCC.out, fun j h1 h2 => by omega⟩, fun h => by omega⟩
            have := HO1.out; simpa using this
          case measure => simp [intOf] <;> omega
        · have e2' : ((s[k].toNat : Int) == 47) = false := by
            rw [beq_eq_false_iff_ne]; intro e; apply hc; apply UInt8.toNat_inj.1; have : s[k].toNat = 47 := by omega
            rw [this]; rfl
          have HCC := Lib.hid hc
          clear hc
          go_wp2_with fail
          go_roundw
          case rel =>
            refine ⟨k + 1, f, ys, by omega, by omega, by omega, by go_num, rfl, HO.out, HB.out, fun _ => ⟨(HR1.out hle).1, fun j h1 h2 => ?_⟩, fun h => by omega⟩
            rcases Nat.lt_or_ge j k with h | h
            · exact (HR1.out hle).2 j h1 h
            · obtain rfl : j = k := by omega
              rw [get_bl s j hlt, ← byte_bl s j hlt]; exact HCC.out
          case measure => simp [intOf] <;> omega
      · obtain rfl : k = s.size := by omega
        have e1 : ((s.size : Int) == (s.size : Int)) = true := by simp
        go_wp2_with (at_builtin; go_must (refine wpList_app1 Tryd.appStrings rfl _ _ rfl w.heap.size u3 ys.length (ys.map Value.string) rfl wr [.string (s.extract f s.size)] _ rfl rfl (by simp; rfl) HO.out (by omega) hsz ?_); intro v' w1 hown1 hgrow1 _)
        have HO1 := Lib.hid hown1
        have HG1 := Lib.hid hgrow1
        clear hown1 hgrow1
        go_wp2_with fail
        go_roundw
        case rel =>
          refine ⟨s.size + 1, s.size + 1, ys ++ [s.extract f s.size], by omega, Nat.le_refl _, by simp; omega, by go_num, by go_num, ?_, below_grown HB.out HO.out HG1.out (Nat.le_refl _) hsz, fun h => by omega, fun _ => divide_last hf (HR1.out hle).1 (HR1.out hle).2⟩
          have := HO1.out; simpa using this
        case measure => simp [intOf] <;> omega
    · obtain ⟨a, cap, rfl, hn, hm⟩ := owns_shape HO.out
      go_wp2_with fail
      go_ret
      exact ⟨_, ys, rfl, (HR2.out (by omega)).symm, (row_of_owns HO.out).weak (fun k hk => hk.1), HB.out⟩
end Go.Proofs.YtbkhdpocmmjnbaaDoor

/- Contracts of the specification of chapter 18: Unite, Component, Valid. -/
namespace Go.Proofs.YtbkhdpocmmjnbaaDoor
open Go.RowKit

theorem take_unite {xs : List ByteArray} {k : Nat} {x : ByteArray} (hx : xs[k]? = some x) : uniteL ((xs.take (k + 1)).map bl) = if k = 0 then bl x else uniteL ((xs.take k).map bl) ++ [47] ++ bl x := by
  have hk := (List.getElem?_eq_some_iff.1 hx).1
  have e : (xs.take (k + 1)).map bl = (xs.take k).map bl ++ [bl x] := by rw [List.take_add_one, hx]; simp
  rw [e, uniteL_snoc]
  by_cases h : k = 0
  · subst h; simp
  · have h2 : (xs.take k).map bl ≠ [] := by
      intro e; have := congrArg List.length e; simp only [List.length_map, List.length_take, List.length_nil] at this; omega
    rw [if_neg h, if_neg h2]
theorem unite_take_len (xs : List ByteArray) (m : Nat) (h : ∀ x ∈ xs, x.size ≤ m) (k : Nat) : (uniteL ((xs.take k).map bl)).length ≤ xs.length * (m + 1) := by
  have h1 := uniteL_len ((xs.take k).map bl) m (fun p hp => by
    obtain ⟨y, hy, rfl⟩ := List.mem_map.1 hp
    have := h y (List.mem_of_mem_take hy)
    rw [← size_bl]; exact this)
  have h2 : ((xs.take k).map bl).length ≤ xs.length := by simp; omega
  exact Nat.le_trans h1 (Nat.mul_le_mul_right _ h2)

set_option maxHeartbeats 400000 in
theorem r_unite_any (xs : List ByteArray) (S : Nat → Prop) (v : Value) (w : World) (hv : StrsAt S w v xs) (hn : xs.length ≤ 65536) (hsz : ∀ x ∈ xs, x.size ≤ 65536) :
    Calls Tryd.prog 59 #[v] w fun e w' => e = .returned (.string ⟨(uniteL (xs.map bl)).toArray⟩) ∧ w = w' := by
  obtain ⟨a, cap, rfl, hc, hcm, hcell⟩ := hv.shape
  have HC := Lib.hid hcell
  have HS := Lib.hid hsz
  clear hv hcell hsz
  unfold maxLen at hcm
  go_enter Tryd.func59, Tryd.ntmps59
  go_wp2_with fail
  go_loop [3, 8] (fun o i => ∃ (k : Nat) (t : ByteArray), k ≤ xs.length ∧ i = .int .i64 k ∧ o = .string t ∧ bl t = uniteL ((xs.take k).map bl)) (fun _ i => xs.length - (intOf i).toNat)
  case atStart => exact ⟨0, ⟨#[]⟩, Nat.zero_le _, rfl, rfl, by simp [bl, uniteL, Lib.join_nil]⟩
  case round =>
    obtain ⟨k, t, hk, rfl, rfl, ht⟩ := hrel
    have hts : t.size ≤ 4295032832 := by
      rw [size_bl, ht]
      have := unite_take_len xs 65536 HS.out k
      have h2 : xs.length * (65536 + 1) ≤ 65536 * (65536 + 1) := Nat.mul_le_mul_right _ hn
      omega
    have HT := Lib.hid ht
    clear ht
    by_cases hlt : k < xs.length
    · obtain ⟨x, hx⟩ : ∃ x, xs[k]? = some x := ⟨xs[k], by simp [hlt]⟩
      obtain ⟨b, o, rfl, _, hcl⟩ := HC.out k x hx
      have hxs := HS.out x (List.mem_of_getElem? hx)
      have HX := Lib.hid hx
      clear hx
      by_cases h0 : k = 0
      · have e0 : decide ((0 : Int) < (k : Int)) = false := by simp [h0]
        have hle : ¬ (0 : Int) < (k : Int) := by omega
        have H0 := Lib.hid h0
        clear h0
        go_wp2_with fail
        go_round
        case rel =>
          refine ⟨k + 1, t ++ x, by omega, by go_num, rfl, ?_⟩
          rw [take_unite HX.out, if_pos H0.out, bl_append, HT.out, H0.out]; simp [uniteL, Lib.join_nil]
        case measure => simp [intOf]; omega
      · have h1 : (0 : Int) < (k : Int) := by omega
        have h1' : 0 < k := by omega
        have H0 := Lib.hid h0
        clear h0
        go_wp2_with fail
        go_round
        case rel =>
          refine ⟨k + 1, (t ++ ⟨#[47]⟩) ++ x, by omega, by go_num, rfl, ?_⟩
          rw [take_unite HX.out, if_neg H0.out, bl_append, bl_append, HT.out]; rfl
        case measure => simp [intOf]; omega
    · go_wp2_with fail
      go_ret
      refine ⟨?_, rfl⟩
      have : uniteL (xs.map bl) = bl t := by rw [HT.out, List.take_of_length_le (by omega)]
      rw [this, mk_bl]; rfl

theorem div_one {xs : List ByteArray} {s : ByteArray} (hx : xs.map bl = splitL 47 (bl s)) : ((xs.length : Int) == 1) = !(bl s).contains 47 := by
  rw [← compB_slash, ← hx, List.length_map, Bool.eq_iff_iff, beq_iff_eq, beq_iff_eq]; omega
set_option maxHeartbeats 1000000 in
theorem r_component_any (s : ByteArray) (w : World) (hs : s.size ≤ 16777216) :
    Calls Tryd.prog 71 #[.string s] w fun e w' => e = .returned (.bool (compB (bl s))) ∧ Below w.heap.size w w' := by
  go_enter Tryd.func71, Tryd.ntmps71
  go_wp2_with (first
    | (go_at_call 79; refine (r_plain_any s _ hs).mono ?_; rintro e w1 ⟨rfl, hb1⟩)
    | (go_at_call 58; refine (r_divide_any s _ hs).mono ?_; rintro e w2 ⟨v2, xs2, rfl, hx2, hv2, hb2⟩; obtain ⟨a2, c2, rfl, -, -, -⟩ := hv2.shape; have HX2 := Lib.hid hx2; clear hx2 hv2))
  all_goals (go_ret; refine ⟨ret_bool ?_, by first | exact Below.refl _ _ | exact below_next hb1 hb2 | exact hb1⟩)
  all_goals (rw [Bool.eq_iff_iff]; simp only [toList_bl] at *)
  all_goals (first | (have hq := div_one HX2.out; simp_all [compB, size_bl]; done) | (simp_all [compB, size_bl]; done) | (simp_all [compB, size_bl]; omega) | (have hq := div_one HX2.out; simp_all [compB, size_bl]; intro _; omega))

set_option maxHeartbeats 1000000 in
theorem r_valid_any (s : ByteArray) (w : World) (hs : s.size ≤ 16777216) :
    Calls Tryd.prog 55 #[.string s] w fun e w' => e = .returned (.bool (validP (bl s))) ∧ Below w.heap.size w w' := by
  go_enter Tryd.func55, Tryd.ntmps55
  go_wp2_with fail
  refine (r_divide_any s w hs).mono ?_
  rintro e w1 ⟨v, xs, rfl, hx, hv, hb1⟩
  obtain ⟨a, cap, rfl, hc, hcm, hcell⟩ := hv.shape
  have hxl : xs.length ≤ 16777217 := by
    have h1 : (splitL 47 (bl s)).length = xs.length := by rw [← hx]; simp
    have h2 := splitL_len_le 47 (bl s)
    rw [← size_bl] at h2
    omega
  have HX := Lib.hid hx
  have HC := Lib.hid hcell
  have HB1 := Lib.hid hb1
  clear hx hcell hb1 hv
  unfold maxLen at hcm
  go_wp2_with fail
  go_loopw [10] (fun i wr => ∃ k : Nat, k ≤ xs.length ∧ i = .int .i64 k ∧ Below w1.heap.size w1 wr ∧ ∀ (j : Nat) x, j < k → xs[j]? = some x → compB (bl x) = true) (fun i _ => xs.length - (intOf i).toNat)
  case atStart => exact ⟨0, Nat.zero_le _, rfl, Below.refl _ _, fun j x hj => by omega⟩
  case round =>
    obtain ⟨k, hk, rfl, hb, hall⟩ := hrel
    have HA := Lib.hid hall
    have HB := Lib.hid hb
    clear hall hb
    by_cases hlt : k < xs.length
    · obtain ⟨x, hx⟩ : ∃ x, xs[k]? = some x := ⟨xs[k], by simp [hlt]⟩
      obtain ⟨b, o, rfl, _, hcl⟩ := HC.out k x hx
      have hcell : wr.cell? ⟨b, o + k, none⟩ = some (.string x) := (HB.out.cell (p := ⟨b, o + k, none⟩) (block_lt hcl)).trans hcl
      have HK := Lib.hid hx
      have hxs : x.size ≤ 16777216 := by have := part_size HX.out hx; omega
      clear hx hcl
      cases hc : compB (bl x)
      · have HCc := Lib.hid hc
        clear hc
        go_wp2_with (go_at_call 71; refine (r_component_any x wr hxs).mono ?_; rintro e w' ⟨rfl, hb2⟩; rw [HCc.out])
        go_ret
        exact ⟨ret_bool (split_not HX.out HK.out HCc.out).symm, below_next (below_next HB1.out HB.out) hb2⟩
      · have HCc := Lib.hid hc
        clear hc
        go_wp2_with (go_at_call 71; refine (r_component_any x wr hxs).mono ?_; rintro e w' ⟨rfl, hb2⟩; rw [HCc.out])
        go_roundw
        case rel =>
          refine ⟨k + 1, by omega, by go_num, below_next HB.out hb2, fun j x' hj hx' => ?_⟩
          rcases Nat.lt_or_ge j k with h | h
          · exact HA.out j x' h hx'
          · obtain rfl : j = k := by omega
            have := HK.out.symm.trans hx'
            cases this
            exact HCc.out
        case measure => simp [intOf]; omega
    · go_wp2_with fail
      all_goals (go_ret; refine ⟨ret_bool ?_, below_next HB1.out HB.out⟩)
      all_goals (
        have ha : (splitL 47 (bl s)).all compB = true := by
          rw [← HX.out, List.all_map, List.all_eq_true]
          intro x hm
          obtain ⟨j, hj, rfl⟩ := List.getElem_of_mem hm
          exact HA.out j _ (by omega) (by simp)
        have hl : (splitL 47 (bl s)).length = xs.length := by rw [← HX.out]; simp
        rw [validP, ha, hl, Bool.and_true, ← size_bl, Bool.eq_iff_iff]
        simp_all <;> omega)

end Go.Proofs.YtbkhdpocmmjnbaaDoor

/- Contracts of the specification kinkeepref20: Parent. -/
namespace Go.Proofs.YtbkhdpocmmjnbaaDoor
open Go.RowKit Go.Maps

theorem strs_front {S : Nat → Prop} {w : World} {a : Option Addr} {n c : Nat} {xs : List ByteArray} (h : StrsAt S w (.slice a n c) xs) : StrsAt S w (.slice a (n - 1) c) xs.dropLast := by
  obtain ⟨hl, a', cap, he, hn, hm, h0⟩ := h
  simp only [Value.slice.injEq] at he
  obtain ⟨rfl, rfl, rfl⟩ := he
  refine ⟨by simp, a, c, by rw [List.length_dropLast], by rw [List.length_dropLast]; omega, hm, ?_⟩
  rcases h0 with h0 | ⟨b, o, ha, hb, hc⟩
  · left; rw [List.length_dropLast]; omega
  · right
    refine ⟨b, o, ha, hb, fun j u hj => hc j u ?_⟩
    rw [List.getElem?_map, List.getElem?_dropLast] at hj
    rw [List.getElem?_map]
    split at hj
    · exact hj
    · simp at hj
set_option maxRecDepth 100000 in
set_option maxHeartbeats 1000000 in
theorem r_parent20_any (s : ByteArray) (w : World) (hs : s.size ≤ 65000) :
    Calls Tryd.prog 41 #[.string s] w fun e w' => e = .returned (.string ⟨(parentL (bl s)).toArray⟩) ∧ Below w.heap.size w w' := by
  go_enter Tryd.func41, Tryd.ntmps41
  go_wp2_with (go_at_call 58; refine (r_divide_any s _ (by omega)).mono ?_; rintro e w1 ⟨v, xs, rfl, hx, hv, hb⟩; have HX := Lib.hid hx; have HB := Lib.hid hb; obtain ⟨a, c, rfl, hc, hm, -⟩ := hv.shape; have HV := Lib.hid hv; have hn1 : 1 ≤ xs.length := (by rw [← List.length_map (f := bl), hx]; exact splitL_pos 47 _); have hn2 : xs.length ≤ 65001 := (by rw [← List.length_map (f := bl), hx]; have := splitL_len_le 47 (bl s); rw [← size_bl] at this; omega); clear hx hv hb; unfold maxLen at hm)
  refine (r_unite_any xs.dropLast _ _ w1 (strs_front HV.out) (by rw [List.length_dropLast]; omega) (fun x hx => ?_)).mono ?_
  · have h1 : bl x ∈ splitL 47 (bl s) := by rw [← HX.out]; exact List.mem_map.2 ⟨x, List.dropLast_subset _ hx, rfl⟩
    have h2 := mem_split_le 47 (bl s) _ h1
    rw [← size_bl, ← size_bl] at h2
    omega
  · rintro e w2 ⟨rfl, rfl⟩
    go_wp2_with fail
    go_ret
    refine ⟨?_, HB.out⟩
    unfold parentL
    rw [← HX.out, ← List.map_dropLast]
    rfl

end Go.Proofs.YtbkhdpocmmjnbaaDoor

/- Contracts of the specification kinkeepref20: Dir. -/
namespace Go.Proofs.YtbkhdpocmmjnbaaDoor
open Go.RowKit Go.Maps

theorem r_find_is (S : Nat → Prop) (L : List Ent) (v : Value) (p : ByteArray) (x : Int) (w : World) (hv : EntsAt S w v L) (hx : findIx L p 0 = x) :
    Calls Tryd.prog 57 #[v, .string p] w fun e w' => e = .returned (.int .i64 x) ∧ Below w.heap.size w w' := by
  rw [← hx]; exact r_find_any S L v p w hv
theorem dirE_bl (L : List Ent) (p : ByteArray) : dirE L (bl p) = if bl p = [] then 0 else match findE L p with
  | none => 4
  | some e => if e.kind = 2 then 0 else 13 := by
  unfold dirE
  rw [mk_bl]
  cases findE L p <;> rfl
set_option maxRecDepth 100000 in
set_option maxHeartbeats 1000000 in
theorem r_dir_any (S : Nat → Prop) (L : List Ent) (v : Value) (p : ByteArray) (w : World) (hv : EntsAt S w v L) :
    Calls Tryd.prog 40 #[v, .string p] w fun e w' => e = .returned (.int .i64 (dirE L (bl p))) ∧ Below w.heap.size w w' := by
  have HV := Lib.hid hv
  by_cases h0 : bl p = []
  · have e1 : p.toList.isEmpty = true := by rw [empty20, decide_eq_true h0]
    have HR := Lib.hid (show dirE L (bl p) = 0 by rw [dirE_bl, if_pos h0])
    clear h0 hv
    go_enter Tryd.func40, Tryd.ntmps40
    go_wp2_with fail
    go_ret
    exact ⟨ret_int HR.out.symm, Below.refl _ _⟩
  · have e1 : p.toList.isEmpty = false := by rw [empty20, decide_eq_false h0]
    rcases findIx_spec (p := p) L 0 with ⟨h1, h2⟩ | ⟨j, f, h1, h2, h3⟩
    · have HR := Lib.hid (show dirE L (bl p) = 4 by rw [dirE_bl, if_neg h0, h1])
      have HI := Lib.hid h2
      clear h0 h1 h2 hv
      go_enter Tryd.func40, Tryd.ntmps40
      go_wp2_with (go_at_call 57; refine (r_find_is S L v p (-1) _ HV.out HI.out).mono ?_; rintro e w1 ⟨rfl, hb1⟩; have HB1 := Lib.hid hb1; clear hb1)
      go_ret
      exact ⟨ret_int HR.out.symm, HB1.out⟩
    · have HI := Lib.hid (show findIx L p 0 = (j : Int) by rw [h3]; simp)
      obtain ⟨a, cap, rfl, hc, hm, -⟩ := SeqAt.shape hv EntR.len
      have hjl : j < L.length := (List.getElem?_eq_some_iff.1 h2).1
      obtain ⟨n, hn⟩ : ∃ n, n = L.length := ⟨_, rfl⟩
      rw [← hn] at HV hc hjl ⊢
      obtain ⟨b, o, dv, rfl, -, hb, -, -, -, q0, q1, q2, q3, q4, q5⟩ := ents_at HV.out h2
      unfold maxLen at hm
      by_cases hk : f.kind = 2
      · have HR := Lib.hid (show dirE L (bl p) = 0 by rw [dirE_bl, if_neg h0, h1]; simp only [if_pos hk])
        have e2 : (f.kind != 2) = false := by simp [hk]
        clear h0 h1 h2 h3 hv hk hn q0 q2 q3 q4 q5
        go_enter Tryd.func40, Tryd.ntmps40
        go_wp2_with (go_at_call 57; refine (r_find_is S L _ p j _ HV.out HI.out).mono ?_; rintro e w1 ⟨rfl, hb1⟩; have q9 := (hb1.cell (block_lt q1)).trans q1; have HB1 := Lib.hid hb1; clear hb1)
        go_ret
        exact ⟨ret_int HR.out.symm, HB1.out⟩
      · have HR := Lib.hid (show dirE L (bl p) = 13 by rw [dirE_bl, if_neg h0, h1]; simp only [if_neg hk])
        have e2 : (f.kind != 2) = true := by simp [hk]
        clear h0 h1 h2 h3 hv hk hn q0 q2 q3 q4 q5
        go_enter Tryd.func40, Tryd.ntmps40
        go_wp2_with (go_at_call 57; refine (r_find_is S L _ p j _ HV.out HI.out).mono ?_; rintro e w1 ⟨rfl, hb1⟩; have q9 := (hb1.cell (block_lt q1)).trans q1; have HB1 := Lib.hid hb1; clear hb1)
        go_ret
        exact ⟨ret_int HR.out.symm, HB1.out⟩

end Go.Proofs.YtbkhdpocmmjnbaaDoor

/- Contracts of the specification kinkeepref20: Valid. -/
namespace Go.Proofs.YtbkhdpocmmjnbaaDoor
open Go.RowKit Go.Maps

theorem r_valid20_is (s : ByteArray) (b : Bool) (w : World) (hs : s.size ≤ 16777216) (h : validP (bl s) = b) : Calls Tryd.prog 55 #[.string s] w fun e w' => e = .returned (.bool b) ∧ Below w.heap.size w w' := by
  rw [← h]; exact r_valid_any s w hs
theorem noZero_iff {l : List UInt8} : l.contains 0 = false ↔ ∀ k : Nat, ∀ b, l[k]? = some b → b ≠ 0 := by
  rw [Bool.eq_false_iff, ne_eq, List.contains_iff_mem, List.mem_iff_getElem?]
  constructor
  · intro h k b hb e; subst e; exact h ⟨k, hb⟩
  · rintro h ⟨k, hk⟩; exact h k 0 hk rfl
theorem vKind_is {en : Ent} (h : (en.kind = 1 ∨ en.kind = 2 ∨ en.kind = 3) ∧ en.data.length ≤ 1048576 ∧ (en.kind = 1 ∨ en.data.length = 0)) (hz : (bl en.link).contains 0 = false) : vKind en = ((decide (en.kind = 3) == decide (en.link.size ≠ 0)) && decide (en.link.size ≤ 512)) := by
  obtain ⟨h1, h2, h3⟩ := h
  unfold vKind vLinkB
  rw [hz, ← size_bl]
  rcases h1 with h1 | h1 | h1
  · rw [if_pos h1, decide_eq_true h2, h1]
    by_cases hs : en.link.size = 0
    · simp [hs]
    · simp [hs]
  · have h4 : en.data.length = 0 := h3.resolve_left (by omega)
    rw [if_neg (by omega), if_pos h1, decide_eq_true h4, h1]
    by_cases hs : en.link.size = 0
    · simp [hs]
    · simp [hs]
  · have h4 : en.data.length = 0 := h3.resolve_left (by omega)
    rw [if_neg (by omega), if_neg (by omega), if_pos h1, decide_eq_true h4, h1]
    by_cases hs : en.link.size = 0
    · simp [hs]
    · rw [decide_eq_true (by omega : 1 ≤ en.link.size)]
      simp [hs]
set_option maxRecDepth 100000 in
set_option maxHeartbeats 4000000 in
theorem r_validE_any (S : Nat → Prop) (en : Ent) (v : Value) (w : World) (hd : DataAt S w v en.data) (hok : EntOk en) (hps : en.path.size ≤ 16777216) : Calls Tryd.prog 38 #[entV v en] w fun e w' => e = .returned (.bool (vEnt en)) ∧ Below w.heap.size w w' := by
  obtain ⟨a, cap, rfl, hc, hm⟩ := hd.slice
  unfold maxLen at hm
  have HPS := Lib.hid hps
  have hlk := hok.lnk
  unfold maxLen at hlk
  clear hok
  unfold entV
  cases hv : validP (bl en.path)
  · have HV := Lib.hid hv
    have HF := Lib.hid (show vEnt en = false by unfold vEnt; rw [hv]; rfl)
    clear hv
    go_enter Tryd.func38, Tryd.ntmps38
    go_wp2_with fail
    obtain ⟨W, hW⟩ : ∃ W, W = w.alloc (.cells #[.string en.path, .int .i64 en.kind, .int .i64 en.mode, .int .i64 en.time, .slice a en.data.length cap, .string en.link] 36) := ⟨_, rfl⟩
    rw [← hW]
    have HBW := Lib.hid (show Below w.heap.size w W by rw [hW]; exact (Below.refl _ _).alloc (Nat.le_refl _) _)
    have HBX := Lib.hid (show W.heap[w.heap.size]? = some (.cells #[.string en.path, .int .i64 en.kind, .int .i64 en.mode, .int .i64 en.time, .slice a en.data.length cap, .string en.link] 36 (0, 0)) by rw [hW]; exact new20 w _)
    clear hW
    refine (r_valid20_is en.path false _ HPS.out HV.out).mono ?_
    rintro e w1 ⟨rfl, hb1⟩
    have HB1 := Lib.hid (below_next HBW.out hb1)
    clear hb1
    go_wp2_with fail
    go_ret
    exact ⟨ret_bool (by rw [HF.out]), HB1.out⟩
  have HV := Lib.hid hv
  by_cases h1 : en.mode < 0
  · have e1 : decide (en.mode < 0) = true := by simp [h1]
    have HF := Lib.hid (show vEnt en = false by unfold vEnt vHeadE; rw [decide_eq_false (by omega : ¬ 0 ≤ en.mode)]; simp)
    clear hv
    go_enter Tryd.func38, Tryd.ntmps38
    go_wp2_with fail
    obtain ⟨W, hW⟩ : ∃ W, W = w.alloc (.cells #[.string en.path, .int .i64 en.kind, .int .i64 en.mode, .int .i64 en.time, .slice a en.data.length cap, .string en.link] 36) := ⟨_, rfl⟩
    rw [← hW]
    have HBW := Lib.hid (show Below w.heap.size w W by rw [hW]; exact (Below.refl _ _).alloc (Nat.le_refl _) _)
    have HBX := Lib.hid (show W.heap[w.heap.size]? = some (.cells #[.string en.path, .int .i64 en.kind, .int .i64 en.mode, .int .i64 en.time, .slice a en.data.length cap, .string en.link] 36 (0, 0)) by rw [hW]; exact new20 w _)
    clear hW
    refine (r_valid20_is en.path true _ HPS.out HV.out).mono ?_
    rintro e w1 ⟨rfl, hb1⟩
    have HB1 := Lib.hid (below_next HBW.out hb1)
    have HX1 := Lib.hid ((hb1.block w.heap.size (lt20 HBX.out)).trans HBX.out)
    clear hb1
    have c0 := cell20 (k := 0) HX1.out
    have c1 := cell20 (k := 1) HX1.out
    have c2 := cell20 (k := 2) HX1.out
    have c3 := cell20 (k := 3) HX1.out
    have c4 := cell20 (k := 4) HX1.out
    have c5 := cell20 (k := 5) HX1.out
    simp only [List.getElem?_toArray, List.getElem?_cons_succ, List.getElem?_cons_zero] at c0 c1 c2 c3 c4 c5
    go_wp2_with fail
    go_ret
    exact ⟨ret_bool (by rw [HF.out]), HB1.out⟩
  have e1 : decide (en.mode < 0) = false := by simp [h1]
  by_cases h2 : 511 < en.mode
  · have e2 : decide (511 < en.mode) = true := by simp [h2]
    have HF := Lib.hid (show vEnt en = false by unfold vEnt vHeadE; rw [decide_eq_false (by omega : ¬ en.mode ≤ 511)]; simp)
    clear hv
    go_enter Tryd.func38, Tryd.ntmps38
    go_wp2_with fail
    obtain ⟨W, hW⟩ : ∃ W, W = w.alloc (.cells #[.string en.path, .int .i64 en.kind, .int .i64 en.mode, .int .i64 en.time, .slice a en.data.length cap, .string en.link] 36) := ⟨_, rfl⟩
    rw [← hW]
    have HBW := Lib.hid (show Below w.heap.size w W by rw [hW]; exact (Below.refl _ _).alloc (Nat.le_refl _) _)
    have HBX := Lib.hid (show W.heap[w.heap.size]? = some (.cells #[.string en.path, .int .i64 en.kind, .int .i64 en.mode, .int .i64 en.time, .slice a en.data.length cap, .string en.link] 36 (0, 0)) by rw [hW]; exact new20 w _)
    clear hW
    refine (r_valid20_is en.path true _ HPS.out HV.out).mono ?_
    rintro e w1 ⟨rfl, hb1⟩
    have HB1 := Lib.hid (below_next HBW.out hb1)
    have HX1 := Lib.hid ((hb1.block w.heap.size (lt20 HBX.out)).trans HBX.out)
    clear hb1
    have c0 := cell20 (k := 0) HX1.out
    have c1 := cell20 (k := 1) HX1.out
    have c2 := cell20 (k := 2) HX1.out
    have c3 := cell20 (k := 3) HX1.out
    have c4 := cell20 (k := 4) HX1.out
    have c5 := cell20 (k := 5) HX1.out
    simp only [List.getElem?_toArray, List.getElem?_cons_succ, List.getElem?_cons_zero] at c0 c1 c2 c3 c4 c5
    go_wp2_with fail
    go_ret
    exact ⟨ret_bool (by rw [HF.out]), HB1.out⟩
  have e2 : decide (511 < en.mode) = false := by simp [h2]
  by_cases h3 : en.time < 0
  · have e3 : decide (en.time < 0) = true := by simp [h3]
    have HF := Lib.hid (show vEnt en = false by unfold vEnt vHeadE; rw [decide_eq_false (by omega : ¬ 0 ≤ en.time)]; simp)
    clear hv
    go_enter Tryd.func38, Tryd.ntmps38
    go_wp2_with fail
    obtain ⟨W, hW⟩ : ∃ W, W = w.alloc (.cells #[.string en.path, .int .i64 en.kind, .int .i64 en.mode, .int .i64 en.time, .slice a en.data.length cap, .string en.link] 36) := ⟨_, rfl⟩
    rw [← hW]
    have HBW := Lib.hid (show Below w.heap.size w W by rw [hW]; exact (Below.refl _ _).alloc (Nat.le_refl _) _)
    have HBX := Lib.hid (show W.heap[w.heap.size]? = some (.cells #[.string en.path, .int .i64 en.kind, .int .i64 en.mode, .int .i64 en.time, .slice a en.data.length cap, .string en.link] 36 (0, 0)) by rw [hW]; exact new20 w _)
    clear hW
    refine (r_valid20_is en.path true _ HPS.out HV.out).mono ?_
    rintro e w1 ⟨rfl, hb1⟩
    have HB1 := Lib.hid (below_next HBW.out hb1)
    have HX1 := Lib.hid ((hb1.block w.heap.size (lt20 HBX.out)).trans HBX.out)
    clear hb1
    have c0 := cell20 (k := 0) HX1.out
    have c1 := cell20 (k := 1) HX1.out
    have c2 := cell20 (k := 2) HX1.out
    have c3 := cell20 (k := 3) HX1.out
    have c4 := cell20 (k := 4) HX1.out
    have c5 := cell20 (k := 5) HX1.out
    simp only [List.getElem?_toArray, List.getElem?_cons_succ, List.getElem?_cons_zero] at c0 c1 c2 c3 c4 c5
    go_wp2_with fail
    go_ret
    exact ⟨ret_bool (by rw [HF.out]), HB1.out⟩
  have e3 : decide (en.time < 0) = false := by simp [h3]
  by_cases h4 : en.kind < 1
  · have e4 : decide (en.kind < 1) = true := by simp [h4]
    have HF := Lib.hid (show vEnt en = false by unfold vEnt vKind; rw [if_neg (by omega), if_neg (by omega), if_neg (by omega)]; simp)
    clear hv
    go_enter Tryd.func38, Tryd.ntmps38
    go_wp2_with fail
    obtain ⟨W, hW⟩ : ∃ W, W = w.alloc (.cells #[.string en.path, .int .i64 en.kind, .int .i64 en.mode, .int .i64 en.time, .slice a en.data.length cap, .string en.link] 36) := ⟨_, rfl⟩
    rw [← hW]
    have HBW := Lib.hid (show Below w.heap.size w W by rw [hW]; exact (Below.refl _ _).alloc (Nat.le_refl _) _)
    have HBX := Lib.hid (show W.heap[w.heap.size]? = some (.cells #[.string en.path, .int .i64 en.kind, .int .i64 en.mode, .int .i64 en.time, .slice a en.data.length cap, .string en.link] 36 (0, 0)) by rw [hW]; exact new20 w _)
    clear hW
    refine (r_valid20_is en.path true _ HPS.out HV.out).mono ?_
    rintro e w1 ⟨rfl, hb1⟩
    have HB1 := Lib.hid (below_next HBW.out hb1)
    have HX1 := Lib.hid ((hb1.block w.heap.size (lt20 HBX.out)).trans HBX.out)
    clear hb1
    have c0 := cell20 (k := 0) HX1.out
    have c1 := cell20 (k := 1) HX1.out
    have c2 := cell20 (k := 2) HX1.out
    have c3 := cell20 (k := 3) HX1.out
    have c4 := cell20 (k := 4) HX1.out
    have c5 := cell20 (k := 5) HX1.out
    simp only [List.getElem?_toArray, List.getElem?_cons_succ, List.getElem?_cons_zero] at c0 c1 c2 c3 c4 c5
    go_wp2_with fail
    go_ret
    exact ⟨ret_bool (by rw [HF.out]), HB1.out⟩
  have e4 : decide (en.kind < 1) = false := by simp [h4]
  by_cases h5 : 3 < en.kind
  · have e5 : decide (3 < en.kind) = true := by simp [h5]
    have HF := Lib.hid (show vEnt en = false by unfold vEnt vKind; rw [if_neg (by omega), if_neg (by omega), if_neg (by omega)]; simp)
    clear hv
    go_enter Tryd.func38, Tryd.ntmps38
    go_wp2_with fail
    obtain ⟨W, hW⟩ : ∃ W, W = w.alloc (.cells #[.string en.path, .int .i64 en.kind, .int .i64 en.mode, .int .i64 en.time, .slice a en.data.length cap, .string en.link] 36) := ⟨_, rfl⟩
    rw [← hW]
    have HBW := Lib.hid (show Below w.heap.size w W by rw [hW]; exact (Below.refl _ _).alloc (Nat.le_refl _) _)
    have HBX := Lib.hid (show W.heap[w.heap.size]? = some (.cells #[.string en.path, .int .i64 en.kind, .int .i64 en.mode, .int .i64 en.time, .slice a en.data.length cap, .string en.link] 36 (0, 0)) by rw [hW]; exact new20 w _)
    clear hW
    refine (r_valid20_is en.path true _ HPS.out HV.out).mono ?_
    rintro e w1 ⟨rfl, hb1⟩
    have HB1 := Lib.hid (below_next HBW.out hb1)
    have HX1 := Lib.hid ((hb1.block w.heap.size (lt20 HBX.out)).trans HBX.out)
    clear hb1
    have c0 := cell20 (k := 0) HX1.out
    have c1 := cell20 (k := 1) HX1.out
    have c2 := cell20 (k := 2) HX1.out
    have c3 := cell20 (k := 3) HX1.out
    have c4 := cell20 (k := 4) HX1.out
    have c5 := cell20 (k := 5) HX1.out
    simp only [List.getElem?_toArray, List.getElem?_cons_succ, List.getElem?_cons_zero] at c0 c1 c2 c3 c4 c5
    go_wp2_with fail
    go_ret
    exact ⟨ret_bool (by rw [HF.out]), HB1.out⟩
  have e5 : decide (3 < en.kind) = false := by simp [h5]
  have HHD := Lib.hid (show vEnt en = vKind en by
    unfold vEnt vHeadE
    rw [hv, decide_eq_true (by omega : 0 ≤ en.mode), decide_eq_true (by omega : en.mode ≤ 511), decide_eq_true (by omega : 0 ≤ en.time)]; simp)
  by_cases h6 : en.kind ≠ 1 ∧ 0 < en.data.length
  · have e6 : (en.kind != 1) = true := by simp [h6.1]
    have e7 : decide (0 < en.data.length) = true := by simp [h6.2]
    have e8 : 0 < en.data.length := h6.2
    have HF := Lib.hid (show vEnt en = false by
      rw [HHD.out]; unfold vKind; rw [if_neg h6.1, decide_eq_false (by omega : ¬ en.data.length = 0)]; simp)
    clear hv h6
    go_enter Tryd.func38, Tryd.ntmps38
    go_wp2_with fail
    obtain ⟨W, hW⟩ : ∃ W, W = w.alloc (.cells #[.string en.path, .int .i64 en.kind, .int .i64 en.mode, .int .i64 en.time, .slice a en.data.length cap, .string en.link] 36) := ⟨_, rfl⟩
    rw [← hW]
    have HBW := Lib.hid (show Below w.heap.size w W by rw [hW]; exact (Below.refl _ _).alloc (Nat.le_refl _) _)
    have HBX := Lib.hid (show W.heap[w.heap.size]? = some (.cells #[.string en.path, .int .i64 en.kind, .int .i64 en.mode, .int .i64 en.time, .slice a en.data.length cap, .string en.link] 36 (0, 0)) by rw [hW]; exact new20 w _)
    clear hW
    refine (r_valid20_is en.path true _ HPS.out HV.out).mono ?_
    rintro e w1 ⟨rfl, hb1⟩
    have HB1 := Lib.hid (below_next HBW.out hb1)
    have HX1 := Lib.hid ((hb1.block w.heap.size (lt20 HBX.out)).trans HBX.out)
    clear hb1
    have c0 := cell20 (k := 0) HX1.out
    have c1 := cell20 (k := 1) HX1.out
    have c2 := cell20 (k := 2) HX1.out
    have c3 := cell20 (k := 3) HX1.out
    have c4 := cell20 (k := 4) HX1.out
    have c5 := cell20 (k := 5) HX1.out
    simp only [List.getElem?_toArray, List.getElem?_cons_succ, List.getElem?_cons_zero] at c0 c1 c2 c3 c4 c5
    go_wp2_with fail
    go_ret
    exact ⟨ret_bool (by rw [HF.out]), HB1.out⟩
  by_cases h7 : 1048576 < en.data.length
  · have hk1 : en.kind = 1 := by
      by_cases hk : en.kind = 1
      · exact hk
      · exact absurd ⟨hk, by omega⟩ h6
    have e6 : (en.kind != 1) = false := by simp [hk1]
    have e7 : decide (1048576 < en.data.length) = true := by simp [h7]
    have HF := Lib.hid (show vEnt en = false by
      rw [HHD.out]; unfold vKind; rw [if_pos hk1, decide_eq_false (by omega : ¬ en.data.length ≤ 1048576)]; simp)
    clear hv h6 hk1
    go_enter Tryd.func38, Tryd.ntmps38
    go_wp2_with fail
    obtain ⟨W, hW⟩ : ∃ W, W = w.alloc (.cells #[.string en.path, .int .i64 en.kind, .int .i64 en.mode, .int .i64 en.time, .slice a en.data.length cap, .string en.link] 36) := ⟨_, rfl⟩
    rw [← hW]
    have HBW := Lib.hid (show Below w.heap.size w W by rw [hW]; exact (Below.refl _ _).alloc (Nat.le_refl _) _)
    have HBX := Lib.hid (show W.heap[w.heap.size]? = some (.cells #[.string en.path, .int .i64 en.kind, .int .i64 en.mode, .int .i64 en.time, .slice a en.data.length cap, .string en.link] 36 (0, 0)) by rw [hW]; exact new20 w _)
    clear hW
    refine (r_valid20_is en.path true _ HPS.out HV.out).mono ?_
    rintro e w1 ⟨rfl, hb1⟩
    have HB1 := Lib.hid (below_next HBW.out hb1)
    have HX1 := Lib.hid ((hb1.block w.heap.size (lt20 HBX.out)).trans HBX.out)
    clear hb1
    have c0 := cell20 (k := 0) HX1.out
    have c1 := cell20 (k := 1) HX1.out
    have c2 := cell20 (k := 2) HX1.out
    have c3 := cell20 (k := 3) HX1.out
    have c4 := cell20 (k := 4) HX1.out
    have c5 := cell20 (k := 5) HX1.out
    simp only [List.getElem?_toArray, List.getElem?_cons_succ, List.getElem?_cons_zero] at c0 c1 c2 c3 c4 c5
    go_wp2_with fail
    go_ret
    exact ⟨ret_bool (by rw [HF.out]), HB1.out⟩
  have e7 : decide (1048576 < en.data.length) = false := by simp; omega
  have HKD := Lib.hid (show (en.kind = 1 ∨ en.kind = 2 ∨ en.kind = 3) ∧ en.data.length ≤ 1048576 ∧ (en.kind = 1 ∨ en.data.length = 0) from ⟨by omega, by omega, by
    by_cases hk : en.kind = 1
    · exact .inl hk
    · exact .inr (by rcases Nat.eq_zero_or_pos en.data.length with h | h; exact h; exact absurd ⟨hk, h⟩ h6)⟩)
  clear hv
  by_cases hk1 : en.kind = 1
  · have e6 : (en.kind != 1) = false := by simp [hk1]
    clear h6 hk1
    go_enter Tryd.func38, Tryd.ntmps38
    go_wp2_with fail
    obtain ⟨W, hW⟩ : ∃ W, W = w.alloc (.cells #[.string en.path, .int .i64 en.kind, .int .i64 en.mode, .int .i64 en.time, .slice a en.data.length cap, .string en.link] 36) := ⟨_, rfl⟩
    rw [← hW]
    have HBW := Lib.hid (show Below w.heap.size w W by rw [hW]; exact (Below.refl _ _).alloc (Nat.le_refl _) _)
    have HBX := Lib.hid (show W.heap[w.heap.size]? = some (.cells #[.string en.path, .int .i64 en.kind, .int .i64 en.mode, .int .i64 en.time, .slice a en.data.length cap, .string en.link] 36 (0, 0)) by rw [hW]; exact new20 w _)
    clear hW
    refine (r_valid20_is en.path true _ HPS.out HV.out).mono ?_
    rintro e w1 ⟨rfl, hb1⟩
    have HB1 := Lib.hid (below_next HBW.out hb1)
    have HX1 := Lib.hid ((hb1.block w.heap.size (lt20 HBX.out)).trans HBX.out)
    clear hb1
    have c0 := cell20 (k := 0) HX1.out
    have c1 := cell20 (k := 1) HX1.out
    have c2 := cell20 (k := 2) HX1.out
    have c3 := cell20 (k := 3) HX1.out
    have c4 := cell20 (k := 4) HX1.out
    have c5 := cell20 (k := 5) HX1.out
    simp only [List.getElem?_toArray, List.getElem?_cons_succ, List.getElem?_cons_zero] at c0 c1 c2 c3 c4 c5
    go_wp2_with fail
    go_loopw [3] (fun i wr => ∃ k : Nat, k ≤ en.link.size ∧ i = .int .i64 k ∧ (∀ j b, j < k → (bl en.link)[j]? = some b → b ≠ 0) ∧ Below w1.heap.size w1 wr) (fun i _ => en.link.size - (intOf i).toNat)
    case atStart => exact ⟨0, Nat.zero_le _, rfl, fun _ _ h => absurd h (Nat.not_lt_zero _), Below.refl _ _⟩
    case round =>
      obtain ⟨k, hk, rfl, hz, hbr⟩ := hrel
      have HZ := Lib.hid hz
      have HBR := Lib.hid hbr
      have HXR := Lib.hid ((hbr.block w.heap.size (lt20 HX1.out)).trans HX1.out)
      clear hz hbr c0 c1 c2 c3 c4 c5
      have c0 := cell20 (k := 0) HXR.out
      have c1 := cell20 (k := 1) HXR.out
      have c2 := cell20 (k := 2) HXR.out
      have c3 := cell20 (k := 3) HXR.out
      have c4 := cell20 (k := 4) HXR.out
      have c5 := cell20 (k := 5) HXR.out
      simp only [List.getElem?_toArray, List.getElem?_cons_succ, List.getElem?_cons_zero] at c0 c1 c2 c3 c4 c5
      by_cases hlt : k < en.link.size
      · have HBY := Lib.hid (show (bl en.link)[k]? = some en.link[k] by rw [List.getElem?_eq_getElem (by rw [← size_bl]; exact hlt)]; rfl)
        by_cases h0 : (en.link[k]'hlt).toNat = 0
        · have HF := Lib.hid (show vEnt en = false by
            rw [HHD.out]
            unfold vKind
            have hne : ¬ en.link.size = 0 := by omega
            have hct : (bl en.link).contains 0 = true := by
              have h9 : en.link[k]'hlt = 0 := UInt8.toNat_inj.1 h0
              have := HBY.out
              rw [h9] at this
              exact List.contains_iff_mem.2 (List.mem_of_getElem? this)
            rw [decide_eq_false hne]
            unfold vLinkB
            rw [hct]
            simp)
          go_wp2_with fail
          go_ret
          exact ⟨ret_bool (by rw [HF.out]), below_next HB1.out HBR.out⟩
        · have HNZ := Lib.hid h0
          go_wp2_with fail
          go_roundw
          case rel =>
            refine ⟨k + 1, by omega, by go_num, fun j b hj hb e => ?_, HBR.out⟩
            by_cases hjk : j = k
            · subst hjk
              rw [HBY.out] at hb
              have := Option.some.inj hb
              subst this
              exact HNZ.out (by rw [e]; rfl)
            · exact HZ.out j b (by omega) hb e
          case measure => simp [intOf]; omega
      · have hk2 : k = en.link.size := by omega
        have HNO := Lib.hid (show (bl en.link).contains 0 = false from noZero_iff.2 (fun j b hj e => by
          have h1 := (List.getElem?_eq_some_iff.1 hj).1
          exact HZ.out j b (by rw [hk2, size_bl]; exact h1) hj e))
        have HVK := Lib.hid (vKind_is HKD.out HNO.out)
        have HEM := Lib.hid (show en.link.toList.isEmpty = !decide (en.link.size ≠ 0) by rw [empty20]; by_cases h : en.link.size = 0 <;> simp [h, size_zero.1, ← size_zero])
        obtain ⟨b3, hb3⟩ : ∃ b, decide (en.kind = 3) = b := ⟨_, rfl⟩
        obtain ⟨be, hbe⟩ : ∃ b, decide (en.link.size ≠ 0) = b := ⟨_, rfl⟩
        obtain ⟨b5, hb5⟩ : ∃ b, decide (en.link.size ≤ 512) = b := ⟨_, rfl⟩
        have f3 : (en.kind == 3) = b3 := by rw [← hb3]; rfl
        have fe := HEM.out
        rw [hbe] at fe
        have HRS := Lib.hid (show vEnt en = ((b3 == be) && b5) by rw [HHD.out, HVK.out, hb3, hbe, hb5])
        have HB5 := Lib.hid hb5
        clear hbe hlt hk hb3 hb5
        cases b3 <;> cases be <;> simp only [Bool.not_true, Bool.not_false] at fe <;> (go_wp2_with fail) <;> (go_ret) <;> exact ⟨ret_bool (by rw [HRS.out, ← HB5.out]; simp [show (((en.link.size : Nat) : Int) ≤ 512 ↔ en.link.size ≤ 512) from by omega]), below_next HB1.out HBR.out⟩
  · have e6 : (en.kind != 1) = true := by simp [hk1]
    have e8 : decide (0 < en.data.length) = false := by rw [decide_eq_false_iff_not]; exact fun h => h6 ⟨hk1, h⟩
    clear h6 hk1
    go_enter Tryd.func38, Tryd.ntmps38
    go_wp2_with fail
    obtain ⟨W, hW⟩ : ∃ W, W = w.alloc (.cells #[.string en.path, .int .i64 en.kind, .int .i64 en.mode, .int .i64 en.time, .slice a en.data.length cap, .string en.link] 36) := ⟨_, rfl⟩
    rw [← hW]
    have HBW := Lib.hid (show Below w.heap.size w W by rw [hW]; exact (Below.refl _ _).alloc (Nat.le_refl _) _)
    have HBX := Lib.hid (show W.heap[w.heap.size]? = some (.cells #[.string en.path, .int .i64 en.kind, .int .i64 en.mode, .int .i64 en.time, .slice a en.data.length cap, .string en.link] 36 (0, 0)) by rw [hW]; exact new20 w _)
    clear hW
    refine (r_valid20_is en.path true _ HPS.out HV.out).mono ?_
    rintro e w1 ⟨rfl, hb1⟩
    have HB1 := Lib.hid (below_next HBW.out hb1)
    have HX1 := Lib.hid ((hb1.block w.heap.size (lt20 HBX.out)).trans HBX.out)
    clear hb1
    have c0 := cell20 (k := 0) HX1.out
    have c1 := cell20 (k := 1) HX1.out
    have c2 := cell20 (k := 2) HX1.out
    have c3 := cell20 (k := 3) HX1.out
    have c4 := cell20 (k := 4) HX1.out
    have c5 := cell20 (k := 5) HX1.out
    simp only [List.getElem?_toArray, List.getElem?_cons_succ, List.getElem?_cons_zero] at c0 c1 c2 c3 c4 c5
    go_wp2_with fail
    go_loopw [3] (fun i wr => ∃ k : Nat, k ≤ en.link.size ∧ i = .int .i64 k ∧ (∀ j b, j < k → (bl en.link)[j]? = some b → b ≠ 0) ∧ Below w1.heap.size w1 wr) (fun i _ => en.link.size - (intOf i).toNat)
    case atStart => exact ⟨0, Nat.zero_le _, rfl, fun _ _ h => absurd h (Nat.not_lt_zero _), Below.refl _ _⟩
    case round =>
      obtain ⟨k, hk, rfl, hz, hbr⟩ := hrel
      have HZ := Lib.hid hz
      have HBR := Lib.hid hbr
      have HXR := Lib.hid ((hbr.block w.heap.size (lt20 HX1.out)).trans HX1.out)
      clear hz hbr c0 c1 c2 c3 c4 c5
      have c0 := cell20 (k := 0) HXR.out
      have c1 := cell20 (k := 1) HXR.out
      have c2 := cell20 (k := 2) HXR.out
      have c3 := cell20 (k := 3) HXR.out
      have c4 := cell20 (k := 4) HXR.out
      have c5 := cell20 (k := 5) HXR.out
      simp only [List.getElem?_toArray, List.getElem?_cons_succ, List.getElem?_cons_zero] at c0 c1 c2 c3 c4 c5
      by_cases hlt : k < en.link.size
      · have HBY := Lib.hid (show (bl en.link)[k]? = some en.link[k] by rw [List.getElem?_eq_getElem (by rw [← size_bl]; exact hlt)]; rfl)
        by_cases h0 : (en.link[k]'hlt).toNat = 0
        · have HF := Lib.hid (show vEnt en = false by
            rw [HHD.out]
            unfold vKind
            have hne : ¬ en.link.size = 0 := by omega
            have hct : (bl en.link).contains 0 = true := by
              have h9 : en.link[k]'hlt = 0 := UInt8.toNat_inj.1 h0
              have := HBY.out
              rw [h9] at this
              exact List.contains_iff_mem.2 (List.mem_of_getElem? this)
            rw [decide_eq_false hne]
            unfold vLinkB
            rw [hct]
            simp)
          go_wp2_with fail
          go_ret
          exact ⟨ret_bool (by rw [HF.out]), below_next HB1.out HBR.out⟩
        · have HNZ := Lib.hid h0
          go_wp2_with fail
          go_roundw
          case rel =>
            refine ⟨k + 1, by omega, by go_num, fun j b hj hb e => ?_, HBR.out⟩
            by_cases hjk : j = k
            · subst hjk
              rw [HBY.out] at hb
              have := Option.some.inj hb
              subst this
              exact HNZ.out (by rw [e]; rfl)
            · exact HZ.out j b (by omega) hb e
          case measure => simp [intOf]; omega
      · have hk2 : k = en.link.size := by omega
        have HNO := Lib.hid (show (bl en.link).contains 0 = false from noZero_iff.2 (fun j b hj e => by
          have h1 := (List.getElem?_eq_some_iff.1 hj).1
          exact HZ.out j b (by rw [hk2, size_bl]; exact h1) hj e))
        have HVK := Lib.hid (vKind_is HKD.out HNO.out)
        have HEM := Lib.hid (show en.link.toList.isEmpty = !decide (en.link.size ≠ 0) by rw [empty20]; by_cases h : en.link.size = 0 <;> simp [h, size_zero.1, ← size_zero])
        obtain ⟨b3, hb3⟩ : ∃ b, decide (en.kind = 3) = b := ⟨_, rfl⟩
        obtain ⟨be, hbe⟩ : ∃ b, decide (en.link.size ≠ 0) = b := ⟨_, rfl⟩
        obtain ⟨b5, hb5⟩ : ∃ b, decide (en.link.size ≤ 512) = b := ⟨_, rfl⟩
        have f3 : (en.kind == 3) = b3 := by rw [← hb3]; rfl
        have fe := HEM.out
        rw [hbe] at fe
        have HRS := Lib.hid (show vEnt en = ((b3 == be) && b5) by rw [HHD.out, HVK.out, hb3, hbe, hb5])
        have HB5 := Lib.hid hb5
        clear hbe hlt hk hb3 hb5
        cases b3 <;> cases be <;> simp only [Bool.not_true, Bool.not_false] at fe <;> (go_wp2_with fail) <;> (go_ret) <;> exact ⟨ret_bool (by rw [HRS.out, ← HB5.out]; simp [show (((en.link.size : Nat) : Int) ≤ 512 ↔ en.link.size ≤ 512) from by omega]), below_next HB1.out HBR.out⟩

end Go.Proofs.YtbkhdpocmmjnbaaDoor

/- Contracts of the specification of chapter 18: rank, Compare, Within (chapter 18's own text, cut). -/
namespace Go.Proofs.YtbkhdpocmmjnbaaDoor
open Go.RowKit

theorem r_rank_any (c : Int) (w : World) (h0 : 0 ≤ c) (h1 : c ≤ 255) : Calls Tryd.prog 56 #[.int .u8 c] w fun e w' => e = .returned (.int .i64 (rankI c)) ∧ w = w' := by
  by_cases h : c = 47
  · subst h
    go_enter Tryd.func56, Tryd.ntmps56
    go_wp2
    go_ret
    exact ⟨rfl, rfl⟩
  · have hr : rankI c = c := if_neg h
    have HR := Lib.hid hr
    clear hr
    have h2 : (c == 47) = false := by simpa using h
    go_enter Tryd.func56, Tryd.ntmps56
    go_wp2
    go_ret
    exact ⟨ret_int HR.out.symm, rfl⟩
theorem r_rank_is (c : UInt8) (r : Int) (w : World) (h : rankL c = r) : Calls Tryd.prog 56 #[.int .u8 c.toNat] w fun e w' => e = .returned (.int .i64 r) ∧ w = w' := by
  rw [← h, ← rank_int]; exact r_rank_any _ w (by omega) (by have := c.toNat_lt; omega)
theorem rankI_bd (c : UInt8) : -1 ≤ rankL c ∧ rankL c ≤ 255 := by
  have := c.toNat_lt
  unfold rankL; split <;> omega

set_option maxHeartbeats 1000000 in
theorem r_compare_any (a b : ByteArray) (w : World) (ha : a.size ≤ 65536) :
    Calls Tryd.prog 39 #[.string a, .string b] w fun e w' => e = .returned (.int .i64 (cmpL (bl a) (bl b))) ∧ Below w.heap.size w w' := by
  go_enter Tryd.func39, Tryd.ntmps39
  go_wp2_with fail
  go_loopw [5] (fun i wr => ∃ k : Nat, k ≤ a.size ∧ k ≤ b.size ∧ i = .int .i64 k ∧ Below w.heap.size w wr ∧ cmpL (bl a) (bl b) = cmpL ((bl a).drop k) ((bl b).drop k)) (fun i _ => a.size - (intOf i).toNat)
  case atStart => exact ⟨0, Nat.zero_le _, Nat.zero_le _, rfl, Below.refl _ _, rfl⟩
  case round =>
    obtain ⟨k, hk1, hk2, rfl, hbw, hc⟩ := hrel
    have HC := Lib.hid hc
    have HB := Lib.hid hbw
    clear hc hbw
    by_cases hla : k < a.size
    · by_cases hlb : k < b.size
      · have i1 : (k : Int) < (a.size : Int) := by omega
        have i2 : (k : Int) < (b.size : Int) := by omega
        have hla' : k < (bl a).length := by rw [← size_bl]; exact hla
        have hlb' : k < (bl b).length := by rw [← size_bl]; exact hlb
        have hr1 := (a[k]).toNat_lt
        have hr2 := (b[k]).toNat_lt
        have hxa : rankL (bl a)[k] = rankI (a[k].toNat : Int) := by rw [rank_int]; exact congrArg rankL (byte_bl a k hla).symm
        have hyb : rankL (bl b)[k] = rankI (b[k].toNat : Int) := by rw [rank_int]; exact congrArg rankL (byte_bl b k hlb).symm
        have HXA := Lib.hid hxa
        have HYB := Lib.hid hyb
        clear hxa hyb
        rcases Int.lt_trichotomy (rankI (a[k].toNat : Int)) (rankI (b[k].toNat : Int)) with hxy | hxy | hxy
        · have HXY := Lib.hid hxy
          go_wp2_with fail
          go_quiet ((go_at_call 56; refine quietL (r_rank_any _ _ (by omega) (by omega))))
          go_wp2_with fail
          go_ret
          refine ⟨ret_int ?_, below_draws HB.out _⟩
          have hne : (bl a)[k] ≠ (bl b)[k] := by intro e; have := HXY.out; rw [← HXA.out, ← HYB.out, e] at this; omega
          rw [HC.out, cmp_stop hla' hlb' hne, HXA.out, HYB.out, Lib.compareInt, if_pos HXY.out]
        · have e1 : ¬ rankI (a[k].toNat : Int) < rankI (b[k].toNat : Int) := by omega
          have e2 : ¬ rankI (b[k].toNat : Int) < rankI (a[k].toNat : Int) := by omega
          have HXY := Lib.hid hxy
          clear hxy
          go_wp2_with fail
          go_quiet ((go_at_call 56; refine quietL (r_rank_any _ _ (by omega) (by omega))))
          go_wp2_with fail
          have hW : ∃ W, W = wr.drewN nq ∧ Below w.heap.size w W := ⟨_, rfl, below_draws HB.out nq⟩
          obtain ⟨W, hWe, hWb⟩ := hW
          rw [← hWe]
          have HB2 := Lib.hid hWb
          clear hWe hWb HB
          go_quiet ((go_at_call 56; refine quietL (r_rank_any _ _ (by omega) (by omega))))
          go_wp2_with fail
          go_roundw
          case rel =>
            refine ⟨k + 1, by omega, by omega, by go_num, below_draws HB2.out _, ?_⟩
            rw [HC.out]
            exact cmp_take hla' hlb' (rankL_inj (HXA.out.trans (HXY.out.trans HYB.out.symm)))
          case measure => simp [intOf]; omega
        · have e1 : ¬ rankI (a[k].toNat : Int) < rankI (b[k].toNat : Int) := by omega
          have HXY := Lib.hid hxy
          go_wp2_with fail
          go_quiet ((go_at_call 56; refine quietL (r_rank_any _ _ (by omega) (by omega))))
          go_wp2_with fail
          have hW : ∃ W, W = wr.drewN nq ∧ Below w.heap.size w W := ⟨_, rfl, below_draws HB.out nq⟩
          obtain ⟨W, hWe, hWb⟩ := hW
          rw [← hWe]
          have HB2 := Lib.hid hWb
          clear hWe hWb HB
          go_quiet ((go_at_call 56; refine quietL (r_rank_any _ _ (by omega) (by omega))))
          go_wp2_with fail
          go_ret
          refine ⟨ret_int ?_, below_draws HB2.out _⟩
          have hne : (bl a)[k] ≠ (bl b)[k] := by intro e; have := HXY.out; rw [← HXA.out, ← HYB.out, e] at this; omega
          rw [HC.out, cmp_stop hla' hlb' hne, HXA.out, HYB.out, Lib.compareInt, if_neg (by have := HXY.out; omega), if_pos HXY.out]
      · obtain rfl : k = b.size := by omega
        have i2 : decide ((b.size : Int) < (b.size : Int)) = false := by simp
        have i3 : (b.size : Int) < (a.size : Int) := by omega
        go_wp2_with fail
        go_ret
        refine ⟨ret_int ?_, HB.out⟩
        rw [HC.out, cmp_end (by rw [← size_bl]; omega) (by rw [← size_bl]; exact Nat.le_refl _) (.inr (by rw [← size_bl])), ← size_bl, ← size_bl, Lib.compareInt, if_neg (by omega), if_pos (by omega)]
    · obtain rfl : k = a.size := by omega
      rcases Nat.lt_or_ge a.size b.size with hlb | hlb
      · have i3 : (a.size : Int) < (b.size : Int) := by omega
        go_wp2_with fail
        go_ret
        refine ⟨ret_int ?_, HB.out⟩
        rw [HC.out, cmp_end (by rw [← size_bl]; exact Nat.le_refl _) (by rw [← size_bl]; omega) (.inl (by rw [← size_bl])), ← size_bl, ← size_bl, Lib.compareInt, if_pos (by omega)]
      · obtain heq : a.size = b.size := by omega
        have HEQ := Lib.hid heq
        have i3 : ¬ (a.size : Int) < (b.size : Int) := by omega
        have i4 : ¬ (b.size : Int) < (a.size : Int) := by omega
        clear heq
        go_wp2_with fail
        go_ret
        refine ⟨ret_int ?_, HB.out⟩
        rw [HC.out, cmp_end (by rw [← size_bl]; exact Nat.le_refl _) (by rw [← size_bl]; omega) (.inl (by rw [← size_bl])), ← size_bl, ← size_bl, Lib.compareInt, if_neg (by omega), if_neg (by omega)]

theorem r_valid_is (s : ByteArray) (o : Bool) (w : World) (hs : s.size ≤ 16777216) (h : validP (bl s) = o) : Calls Tryd.prog 55 #[.string s] w fun e w' => e = .returned (.bool o) ∧ Below w.heap.size w w' := by rw [← h]; exact r_valid_any s w hs
theorem prefix_iff {p d : ByteArray} (h : d.size < p.size) : Lib.hasPrefix (bl p) (bl d ++ [47]) = (((p.extract 0 d.size).toList == d.toList) && ((p[d.size].toNat : Int) == 47)) := by
  have h2 : d.size < (bl p).length := by rw [← size_bl]; exact h
  have e1 : bl p = (bl p).take d.size ++ (bl p)[d.size] :: (bl p).drop (d.size + 1) := by simp
  rw [toList_bl, toList_bl, bl_extract, List.drop_zero, byte_bl p d.size h]
  have h47 : (((bl p)[d.size].toNat : Int) == 47) = ((bl p)[d.size] == 47) := by
    rw [Bool.eq_iff_iff, beq_iff_eq, beq_iff_eq]
    constructor
    · exact byte47 _
    · intro e; rw [e]; rfl
  rw [h47]
  generalize (bl p)[d.size] = c at *
  have hl : ((bl p).take d.size).length = (bl d).length := by rw [List.length_take, ← size_bl, ← size_bl]; omega
  generalize (bl p).take d.size = q at *
  generalize (bl p).drop (d.size + 1) = r at *
  rw [e1]
  unfold Lib.hasPrefix
  rw [Bool.eq_iff_iff, List.isPrefixOf_iff_prefix, Bool.and_eq_true, beq_iff_eq, beq_iff_eq]
  constructor
  · rintro ⟨s, hs⟩
    rw [List.append_assoc] at hs
    have := List.append_inj hs hl.symm
    refine ⟨this.1.symm, ?_⟩
    have h3 := this.2
    simp at h3
    exact h3.1.symm
  · rintro ⟨rfl, rfl⟩
    exact ⟨r, by simp⟩
end Go.Proofs.YtbkhdpocmmjnbaaDoor

/- Contracts of the specification kinkeepref20: Check. -/
namespace Go.Proofs.YtbkhdpocmmjnbaaDoor
open Go.RowKit Go.Maps


theorem RowsIn.take {α : Type} {R : List Value → α → Prop} {sz : Nat} (hs : ∀ c x, R c x → c.length = sz) : ∀ {xs : List α} {cells : List Value} (k : Nat), RowsIn R cells xs → k ≤ xs.length → RowsIn R (cells.take (k * sz)) (xs.take k)
  | _, _, 0, _, _ => by simp [RowsIn]
  | [], _, k + 1, _, h => by simp at h
  | x :: xs, cells, k + 1, ⟨c, rest, hc, hx, hr⟩, h => by
    subst hc
    have hl := hs c x hx
    refine ⟨c, rest.take (k * sz), ?_, hx, RowsIn.take hs k hr (by simpa using h)⟩
    rw [List.take_append, hl, List.take_of_length_le (by rw [hl, Nat.succ_mul]; omega), Nat.succ_mul]
    congr 2; omega
theorem SeqAt.takeN {α : Type} {S : Nat → Prop} {w : World} {sz : Nat} {R : List Value → α → Prop} {a : Option Addr} {n cap : Nat} {xs : List α} (hs : ∀ c x, R c x → c.length = sz) (h : SeqAt S w sz R (.slice a n cap) xs) {k : Nat} (hk : k ≤ xs.length) : SeqAt S w sz R (.slice a k cap) (xs.take k) := by
  obtain ⟨cells, ⟨hl, a', cap', hv, hn, hm, h0⟩, hr⟩ := h
  cases hv
  have hlt : (xs.take k).length = k := by rw [List.length_take]; omega
  refine ⟨cells.take (k * sz), ⟨?_, a, cap, by rw [hlt], by omega, hm, ?_⟩, RowsIn.take hs k hr hk⟩
  · rw [List.length_take, hl, hlt]
    exact Nat.min_eq_left (Nat.mul_le_mul_right _ hk)
  · rcases h0 with h0 | ⟨b, o, ha, hb, hc⟩
    · exact .inl (by omega)
    · refine .inr ⟨b, o, ha, hb, fun j u hj => hc j u ?_⟩
      rw [List.getElem?_take] at hj
      split at hj
      · exact hj
      · cases hj
theorem r_validE_is (S : Nat → Prop) (en : Ent) (v : Value) (b : Bool) (w : World) (hd : DataAt S w v en.data) (hok : EntOk en) (hps : en.path.size ≤ 16777216) (h : vEnt en = b) : Calls Tryd.prog 38 #[entV v en] w fun e w' => e = .returned (.bool b) ∧ Below w.heap.size w w' := by
  rw [← h]; exact r_validE_any S en v w hd hok hps
theorem r_compare20 (a b : ByteArray) (o : Int) (w : World) (ha : a.size ≤ 65536) (h : cmpL (bl a) (bl b) = o) : Calls Tryd.prog 39 #[.string a, .string b] w fun e w' => e = .returned (.int .i64 o) ∧ Below w.heap.size w w' := by
  rw [← h]; exact r_compare_any a b w ha
theorem r_parent_is (s q : ByteArray) (w : World) (hs : s.size ≤ 65000) (hq : q = ⟨(parentL (bl s)).toArray⟩) : Calls Tryd.prog 41 #[.string s] w fun e w' => e = .returned (.string q) ∧ Below w.heap.size w w' := by
  rw [hq]; exact r_parent20_any s w hs
theorem r_dir_is (S : Nat → Prop) (L : List Ent) (v : Value) (p : ByteArray) (x : Int) (w : World) (hv : EntsAt S w v L) (hx : dirE L (bl p) = x) : Calls Tryd.prog 40 #[v, .string p] w fun e w' => e = .returned (.int .i64 x) ∧ Below w.heap.size w w' := by
  rw [← hx]; exact r_dir_any S L v p w hv
set_option maxRecDepth 100000 in
set_option maxHeartbeats 4000000 in
theorem r_check_any (S : Nat → Prop) (L : List Ent) (v : Value) (w : World) (hv : EntsAt S w v L) (hps : ∀ e ∈ L, e.path.size ≤ 65000) : Calls Tryd.prog 14 #[v] w fun e w' => e = .returned (.int .i64 (checkP L)) ∧ Below w.heap.size w w' := by
  have HV := Lib.hid hv
  obtain ⟨a, cap, rfl, hc, hm, -⟩ := SeqAt.shape hv EntR.len
  unfold maxLen at hm
  obtain ⟨n, hn⟩ : ∃ n, n = L.length := ⟨_, rfl⟩
  have HN := Lib.hid hn
  rw [← hn] at hc HV ⊢
  clear hv
  by_cases hbig : 4096 < n
  · have hbi : (4096 : Int) < (n : Int) := by omega
    have HC := Lib.hid (check_big (by rw [← hn]; exact hbig))
    clear hbig hn
    go_enter Tryd.func14, Tryd.ntmps14
    go_wp2_with fail
    go_ret
    exact ⟨ret_int (by rw [HC.out]), Below.refl _ _⟩
  · have hbi : (n : Int) ≤ (4096 : Int) := by omega
    have HL4 := Lib.hid (show L.length ≤ 4096 by omega)
    have HPS := Lib.hid hps
    clear hbig hn hps
    go_enter Tryd.func14, Tryd.ntmps14
    go_wp2_with fail
    go_loopw [11] (fun i wr => ∃ k : Nat, k ≤ n ∧ i = .int .i64 k ∧ Tr (L.take k) ∧ Below w.heap.size w wr) (fun i _ => n - (intOf i).toNat)
    case atStart => exact ⟨0, Nat.zero_le _, rfl, ⟨List.Pairwise.nil, by simp, by simp⟩, Below.refl _ _⟩
    case round =>
      obtain ⟨k, hk, rfl, htr, hbr⟩ := hrel
      have HTR := Lib.hid htr
      have HBR := Lib.hid hbr
      clear htr hbr
      by_cases hlt : k < n
      · obtain ⟨e, he⟩ : ∃ e, L[k]? = some e := ⟨L[k]'(by rw [← HN.out]; exact hlt), by simp⟩
        obtain ⟨b, o, dv, rfl, -, hb, hd, hok, -, q0, q1, q2, q3, q4, q5⟩ := ents_at (HV.out.below HBR.out) he
        have HAT := Lib.hid he
        have HD := Lib.hid hd
        have HOK := Lib.hid hok
        have HPP := Lib.hid (HPS.out e (List.mem_of_getElem? he))
        have HPZ := Lib.hid (show e.path.size ≤ 16777216 by have := HPP.out; omega)
        obtain ⟨a1, cap1, rfl, hd1, hd2⟩ := hd.slice
        unfold maxLen at hd2
        have hkc : k ≤ cap := by omega
        have HKN := Lib.hid (show k ≤ L.length by rw [← HN.out]; omega)
        clear he hd hok
        cases hve : vEnt e
        · have HVE := Lib.hid hve
          have HCA := Lib.hid (show checkAt (L.take k) e = 1 by unfold checkAt; rw [hve]; rfl)
          clear hve
          go_wp2_with fail
          refine wp_region_segs [some 1, none, some 13, none, some 3] (by kernel_rfl) (by kernel_rfl) (by kernel_rfl) ?_
          simp only [wpSegs, List.take_succ_cons, List.take_zero, List.drop_succ_cons, List.drop_zero]
          obtain ⟨W, hW⟩ : ∃ W : World, W = (wr.alloc (.cells #[.string e.path, .int .i64 e.kind, .int .i64 e.mode, .int .i64 e.time, .slice a1 e.data.length cap1, .string e.link] 36)).drew := ⟨_, rfl⟩
          rw [← hW]
          have HWL := Lib.hid (show Below wr.heap.size wr W by rw [hW]; exact ((Below.refl _ _).alloc (Nat.le_refl _) _).drew)
          have HX := Lib.hid (show W.heap[wr.heap.size]? = some (.cells #[.string e.path, .int .i64 e.kind, .int .i64 e.mode, .int .i64 e.time, .slice a1 e.data.length cap1, .string e.link] 36 (0, 0)) by rw [hW]; exact new20 wr _)
          have HBW := Lib.hid (below_next HBR.out HWL.out)
          clear hW
          have c0 := cell20 (k := 0) HX.out
          have c1 := cell20 (k := 1) HX.out
          have c2 := cell20 (k := 2) HX.out
          have c3 := cell20 (k := 3) HX.out
          have c4 := cell20 (k := 4) HX.out
          have c5 := cell20 (k := 5) HX.out
          simp only [List.getElem?_toArray, List.getElem?_cons_succ, List.getElem?_cons_zero] at c0 c1 c2 c3 c4 c5
          repeat (first | (refine seg_skip rfl ?_; simp only [Act.put, List.setIfInBounds_toArray, List.set_cons_succ, List.set_cons_zero]) | (refine seg_run rfl (fun K hK => ?_); go_simp; refine hK _ ?_; clear hK K))
          refine seg_nil ?_
          refine bar_run rfl (fun K hK => ?_)
          go_wp2_with (go_at_call 38; refine (r_validE_is S e (.slice a1 e.data.length cap1) false _ (HD.out.below HWL.out) HOK.out HPZ.out HVE.out).mono ?_; rintro e7 w7 ⟨rfl, hb7⟩; have HL7 := Lib.hid (HWL.out.trans (hb7.mono HWL.out.size)); have HX7 := Lib.hid ((hb7.block wr.heap.size (lt20 HX.out)).trans HX.out); clear hb7 c0 c1 c2 c3 c4 c5)
          repeat (first | (refine seg_skip rfl ?_; simp only [Act.put, List.setIfInBounds_toArray, List.set_cons_succ, List.set_cons_zero]) | (refine seg_run rfl (fun K hK => ?_); go_simp; refine hK _ ?_; clear hK K))
          refine seg_nil ?_
          refine bar_skip rfl ?_
          simp only [Act.put, List.setIfInBounds_toArray, List.set_cons_succ, List.set_cons_zero]
          repeat (first | (refine seg_skip rfl ?_; simp only [Act.put, List.setIfInBounds_toArray, List.set_cons_succ, List.set_cons_zero]) | (refine seg_run rfl (fun K hK => ?_); go_simp; refine hK _ ?_; clear hK K))
          refine seg_nil ?_
          have HB9 := Lib.hid (below_next HBR.out HL7.out)
          go_wp2_with fail
          go_ret
          exact ⟨ret_int (by rw [check_stop HL4.out HTR.out HAT.out (x := 1) HCA.out (by decide)]), HB9.out⟩
        · have HVE := Lib.hid hve
          obtain ⟨q, hq⟩ : ∃ q : ByteArray, q = ⟨(parentL (bl e.path)).toArray⟩ := ⟨_, rfl⟩
          have HBQ := Lib.hid (show bl q = parentL (bl e.path) by rw [hq]; exact bl_mk _)
          have HQ := Lib.hid hq
          clear hve hq
          rcases Nat.eq_zero_or_pos k with hk0 | hk0
          · have e9 : decide (0 < k) = false := by simp; omega
            have e8 : (k : Int) ≤ 0 := by omega
            have HCV := Lib.hid (show (vEnt e && afterE (L.take k) e) = true by rw [hk0, HVE.out]; rfl)
            clear hk0
            obtain ⟨x, hx⟩ : ∃ x, dirE (L.take k) (bl q) = x := ⟨_, rfl⟩
            have HDX := Lib.hid hx
            have HCA := Lib.hid (show checkAt (L.take k) e = x by unfold checkAt; rw [if_pos HCV.out, ← HBQ.out, hx])
            clear hx
            go_wp2_with fail
            refine wp_region_segs [some 1, none, some 13, none, some 3] (by kernel_rfl) (by kernel_rfl) (by kernel_rfl) ?_
            simp only [wpSegs, List.take_succ_cons, List.take_zero, List.drop_succ_cons, List.drop_zero]
            obtain ⟨W, hW⟩ : ∃ W : World, W = (wr.alloc (.cells #[.string e.path, .int .i64 e.kind, .int .i64 e.mode, .int .i64 e.time, .slice a1 e.data.length cap1, .string e.link] 36)).drew := ⟨_, rfl⟩
            rw [← hW]
            have HWL := Lib.hid (show Below wr.heap.size wr W by rw [hW]; exact ((Below.refl _ _).alloc (Nat.le_refl _) _).drew)
            have HX := Lib.hid (show W.heap[wr.heap.size]? = some (.cells #[.string e.path, .int .i64 e.kind, .int .i64 e.mode, .int .i64 e.time, .slice a1 e.data.length cap1, .string e.link] 36 (0, 0)) by rw [hW]; exact new20 wr _)
            have HBW := Lib.hid (below_next HBR.out HWL.out)
            clear hW
            have c0 := cell20 (k := 0) HX.out
            have c1 := cell20 (k := 1) HX.out
            have c2 := cell20 (k := 2) HX.out
            have c3 := cell20 (k := 3) HX.out
            have c4 := cell20 (k := 4) HX.out
            have c5 := cell20 (k := 5) HX.out
            simp only [List.getElem?_toArray, List.getElem?_cons_succ, List.getElem?_cons_zero] at c0 c1 c2 c3 c4 c5
            repeat (first | (refine seg_skip rfl ?_; simp only [Act.put, List.setIfInBounds_toArray, List.set_cons_succ, List.set_cons_zero]) | (refine seg_run rfl (fun K hK => ?_); go_simp; refine hK _ ?_; clear hK K))
            refine seg_nil ?_
            refine bar_run rfl (fun K hK => ?_)
            go_wp2_with (go_at_call 38; refine (r_validE_is S e (.slice a1 e.data.length cap1) true _ (HD.out.below HWL.out) HOK.out HPZ.out HVE.out).mono ?_; rintro e7 w7 ⟨rfl, hb7⟩; have HL7 := Lib.hid (HWL.out.trans (hb7.mono HWL.out.size)); have HX7 := Lib.hid ((hb7.block wr.heap.size (lt20 HX.out)).trans HX.out); clear hb7 c0 c1 c2 c3 c4 c5)
            repeat (first | (refine seg_skip rfl ?_; simp only [Act.put, List.setIfInBounds_toArray, List.set_cons_succ, List.set_cons_zero]) | (refine seg_run rfl (fun K hK => ?_); go_simp; refine hK _ ?_; clear hK K))
            refine seg_nil ?_
            refine bar_skip rfl ?_
            simp only [Act.put, List.setIfInBounds_toArray, List.set_cons_succ, List.set_cons_zero]
            repeat (first | (refine seg_skip rfl ?_; simp only [Act.put, List.setIfInBounds_toArray, List.set_cons_succ, List.set_cons_zero]) | (refine seg_run rfl (fun K hK => ?_); go_simp; refine hK _ ?_; clear hK K))
            refine seg_nil ?_
            go_wp2_with fail
            refine hld_start (fun w' => w'.cell? ⟨wr.heap.size, 0, none⟩ = some (.string e.path)) (by kernel_rfl) ?_
            obtain ⟨V, hV⟩ : ∃ V : World, V = (w7).drew := ⟨_, rfl⟩
            rw [← hV]
            have HLV := Lib.hid (show Below wr.heap.size wr V by rw [hV]; exact HL7.out.trans ((Below.refl (w7).heap.size (w7)).drew.mono HL7.out.size))
            have HXV := Lib.hid (show V.heap[wr.heap.size]? = some (.cells #[.string e.path, .int .i64 e.kind, .int .i64 e.mode, .int .i64 e.time, .slice a1 e.data.length cap1, .string e.link] 36 (0, 0)) by rw [hV]; exact HX7.out)
            clear hV
            have hS1 := cell20 (k := 0) HXV.out
            simp only [List.getElem?_toArray, List.getElem?_cons_zero] at hS1
            refine hld_take 0 rfl (by kernel_rfl) (by kernel_rfl) (by kernel_rfl) (fun _ _ _ h => h) rfl hS1 (by intro w' hw1; go_simp; rfl) ?_
            simp only [Act.put, List.setIfInBounds_toArray, List.set_cons_succ, List.set_cons_zero]
            refine hld_take 1 rfl (by kernel_rfl) (by kernel_rfl) (by kernel_rfl) (fun _ _ _ h => h) rfl hS1 (by intro w' hw1; go_simp; rfl) ?_
            simp only [Act.put, List.setIfInBounds_toArray, List.set_cons_succ, List.set_cons_zero]
            refine hld_take 2 rfl (by kernel_rfl) (by kernel_rfl) (by kernel_rfl) (fun _ _ _ h => h) rfl hS1 (by intro w' hw1; go_simp; rfl) ?_
            simp only [Act.put, List.setIfInBounds_toArray, List.set_cons_succ, List.set_cons_zero]
            refine hld_take 3 rfl (by kernel_rfl) (by kernel_rfl) (by kernel_rfl) (fun _ _ _ h => h) rfl hS1 (by intro w' hw1; go_simp; rfl) ?_
            simp only [Act.put, List.setIfInBounds_toArray, List.set_cons_succ, List.set_cons_zero]
            refine hld_take 4 rfl (by kernel_rfl) (by kernel_rfl) (by kernel_rfl) (fun _ _ _ h => h) rfl hS1 (by intro w' hw1; go_simp; rfl) ?_
            simp only [Act.put, List.setIfInBounds_toArray, List.set_cons_succ, List.set_cons_zero]
            refine hld_bar 5 rfl (by kernel_rfl) rfl (fun K hK => ?_)
            go_wp2_with (go_at_call 41; refine (r_parent_is e.path q _ HPP.out HQ.out).mono ?_; rintro e9 w9 ⟨rfl, hb9⟩)
            have HL9 := Lib.hid (HLV.out.trans (hb9.mono HLV.out.size))
            have hS2 := (hb9.cell (block_lt hS1)).trans hS1
            clear hb9
            refine ⟨hS2, ?_⟩
            refine hld_bar 6 rfl (by kernel_rfl) rfl (fun K hK => ?_)
            have HTK := Lib.hid (show EntsAt S w9 (.slice (some ⟨b, o, none⟩) (k) cap) (L.take (k)) from SeqAt.takeN EntR.len (HV.out.below (below_next HBR.out HL9.out)) HKN.out)
            go_wp2_with (go_at_call 40; refine (r_dir_is S (L.take (k)) (.slice (some ⟨b, o, none⟩) (k) cap) q x _ HTK.out HDX.out).mono ?_; rintro ea wa ⟨rfl, hba⟩)
            have HLA := Lib.hid (HL9.out.trans (hba.mono HL9.out.size))
            have hS1 := (hba.cell (block_lt hS2)).trans hS2
            clear hba
            refine ⟨hS1, ?_⟩
            refine hld_take 7 rfl (by kernel_rfl) (by kernel_rfl) (by kernel_rfl) (fun _ _ _ h => h) rfl hS1 (by intro w' hw1; go_simp; rfl) ?_
            simp only [Act.put, List.setIfInBounds_toArray, List.set_cons_succ, List.set_cons_zero]
            refine hld_done (by kernel_rfl) ?_
            have HBA := Lib.hid (below_next HBR.out HLA.out)
            clear hS1 hS2
            by_cases h0 : x = 0
            · subst h0
              have HTN := Lib.hid (check_next HTR.out HAT.out HCA.out)
              go_wp2_with fail
              go_roundw
              case rel => exact ⟨k + 1, by omega, by go_num, HTN.out, HBA.out⟩
              case measure => simp [intOf]; omega
            · have e1 : (x != 0) = true := by simp [h0]
              have HX0 := Lib.hid h0
              clear h0
              go_wp2_with fail
              go_ret
              exact ⟨ret_int (by rw [check_stop HL4.out HTR.out HAT.out (x := x) HCA.out HX0.out]), HBA.out⟩
          · obtain ⟨j, rfl⟩ : ∃ j, k = j + 1 := ⟨k - 1, by omega⟩
            obtain ⟨f, hf⟩ : ∃ f, L[j]? = some f := ⟨L[j]'(by rw [← HN.out]; omega), by simp⟩
            obtain ⟨b', o', dv', he', -, -, -, hokf, -, p0, -⟩ := ents_at (HV.out.below HBR.out) hf
            simp only [Option.some.injEq, Addr.mk.injEq, and_true] at he'
            obtain ⟨rfl, rfl⟩ := he'
            have HPF := Lib.hid (show f.path.size ≤ 65536 by have := HPS.out f (List.mem_of_getElem? hf); omega)
            obtain ⟨c, hc⟩ : ∃ c, cmpL (bl f.path) (bl e.path) = c := ⟨_, rfl⟩
            have HC := Lib.hid hc
            have e9 : decide (0 < j + 1) = true := by simp
            have hjn : j < n := by omega
            have hjn2 : (j : Int) < (n : Int) := by omega
            have hjn3 : decide (j < n) = true := by simp; omega
            have hjc : 0 ≤ (j : Int) + 1 ∧ (j : Int) + 1 ≤ (cap : Int) := by omega
            have hwj : IntKind.i64.wrap (j : Int) = j := by rw [IntKind.wrap_i64]; omega
            have HAF := Lib.hid (show afterE (L.take (j + 1)) e = decide (c < 0) by rw [after_at hf, hc])
            clear hf hokf hc hk0
            by_cases hneg : c < 0
            · have HCV := Lib.hid (show (vEnt e && afterE (L.take (j + 1)) e) = true by rw [HVE.out, HAF.out, decide_eq_true hneg]; rfl)
              have e8 : decide (0 ≤ c) = false := by simp; omega
              obtain ⟨x, hx⟩ : ∃ x, dirE (L.take (j + 1)) (bl q) = x := ⟨_, rfl⟩
              have HDX := Lib.hid hx
              have HCA := Lib.hid (show checkAt (L.take (j + 1)) e = x by unfold checkAt; rw [if_pos HCV.out, ← HBQ.out, hx])
              clear hx
              go_wp2_with fail
              refine wp_region_segs [some 1, none, some 13, none, some 3] (by kernel_rfl) (by kernel_rfl) (by kernel_rfl) ?_
              simp only [wpSegs, List.take_succ_cons, List.take_zero, List.drop_succ_cons, List.drop_zero]
              obtain ⟨W, hW⟩ : ∃ W : World, W = (wr.alloc (.cells #[.string e.path, .int .i64 e.kind, .int .i64 e.mode, .int .i64 e.time, .slice a1 e.data.length cap1, .string e.link] 36)).drew := ⟨_, rfl⟩
              rw [← hW]
              have HWL := Lib.hid (show Below wr.heap.size wr W by rw [hW]; exact ((Below.refl _ _).alloc (Nat.le_refl _) _).drew)
              have HX := Lib.hid (show W.heap[wr.heap.size]? = some (.cells #[.string e.path, .int .i64 e.kind, .int .i64 e.mode, .int .i64 e.time, .slice a1 e.data.length cap1, .string e.link] 36 (0, 0)) by rw [hW]; exact new20 wr _)
              have HBW := Lib.hid (below_next HBR.out HWL.out)
              clear hW
              have c0 := cell20 (k := 0) HX.out
              have c1 := cell20 (k := 1) HX.out
              have c2 := cell20 (k := 2) HX.out
              have c3 := cell20 (k := 3) HX.out
              have c4 := cell20 (k := 4) HX.out
              have c5 := cell20 (k := 5) HX.out
              simp only [List.getElem?_toArray, List.getElem?_cons_succ, List.getElem?_cons_zero] at c0 c1 c2 c3 c4 c5
              repeat (first | (refine seg_skip rfl ?_; simp only [Act.put, List.setIfInBounds_toArray, List.set_cons_succ, List.set_cons_zero]) | (refine seg_run rfl (fun K hK => ?_); go_simp; refine hK _ ?_; clear hK K))
              refine seg_nil ?_
              refine bar_run rfl (fun K hK => ?_)
              go_wp2_with (go_at_call 38; refine (r_validE_is S e (.slice a1 e.data.length cap1) true _ (HD.out.below HWL.out) HOK.out HPZ.out HVE.out).mono ?_; rintro e7 w7 ⟨rfl, hb7⟩; have HL7 := Lib.hid (HWL.out.trans (hb7.mono HWL.out.size)); have HX7 := Lib.hid ((hb7.block wr.heap.size (lt20 HX.out)).trans HX.out); clear hb7 c0 c1 c2 c3 c4 c5)
              have c0 := cell20 (k := 0) HX7.out
              have c1 := cell20 (k := 1) HX7.out
              have c2 := cell20 (k := 2) HX7.out
              have c3 := cell20 (k := 3) HX7.out
              have c4 := cell20 (k := 4) HX7.out
              have c5 := cell20 (k := 5) HX7.out
              simp only [List.getElem?_toArray, List.getElem?_cons_succ, List.getElem?_cons_zero] at c0 c1 c2 c3 c4 c5
              have y0 := (HL7.out.cell (block_lt p0)).trans p0
              repeat (first | (refine seg_skip rfl ?_; simp only [Act.put, List.setIfInBounds_toArray, List.set_cons_succ, List.set_cons_zero]) | (refine seg_run rfl (fun K hK => ?_); go_simp; refine hK _ ?_; clear hK K))
              refine seg_nil ?_
              refine bar_run rfl (fun K hK => ?_)
              go_wp2_with (go_at_call 39; refine (r_compare20 f.path e.path c _ HPF.out HC.out).mono ?_; rintro e8' w8 ⟨rfl, hb8⟩; have HL8 := Lib.hid (HL7.out.trans (hb8.mono HL7.out.size)); have HX8 := Lib.hid ((hb8.block wr.heap.size (lt20 HX7.out)).trans HX7.out); clear hb8 c0 c1 c2 c3 c4 c5 y0)
              repeat (first | (refine seg_skip rfl ?_; simp only [Act.put, List.setIfInBounds_toArray, List.set_cons_succ, List.set_cons_zero]) | (refine seg_run rfl (fun K hK => ?_); go_simp; refine hK _ ?_; clear hK K))
              refine seg_nil ?_
              go_wp2_with fail
              refine hld_start (fun w' => w'.cell? ⟨wr.heap.size, 0, none⟩ = some (.string e.path)) (by kernel_rfl) ?_
              obtain ⟨V, hV⟩ : ∃ V : World, V = (w8).drew := ⟨_, rfl⟩
              rw [← hV]
              have HLV := Lib.hid (show Below wr.heap.size wr V by rw [hV]; exact HL8.out.trans ((Below.refl (w8).heap.size (w8)).drew.mono HL8.out.size))
              have HXV := Lib.hid (show V.heap[wr.heap.size]? = some (.cells #[.string e.path, .int .i64 e.kind, .int .i64 e.mode, .int .i64 e.time, .slice a1 e.data.length cap1, .string e.link] 36 (0, 0)) by rw [hV]; exact HX8.out)
              clear hV
              have hS1 := cell20 (k := 0) HXV.out
              simp only [List.getElem?_toArray, List.getElem?_cons_zero] at hS1
              refine hld_take 0 rfl (by kernel_rfl) (by kernel_rfl) (by kernel_rfl) (fun _ _ _ h => h) rfl hS1 (by intro w' hw1; go_simp; rfl) ?_
              simp only [Act.put, List.setIfInBounds_toArray, List.set_cons_succ, List.set_cons_zero]
              refine hld_take 1 rfl (by kernel_rfl) (by kernel_rfl) (by kernel_rfl) (fun _ _ _ h => h) rfl hS1 (by intro w' hw1; go_simp; rfl) ?_
              simp only [Act.put, List.setIfInBounds_toArray, List.set_cons_succ, List.set_cons_zero]
              refine hld_take 2 rfl (by kernel_rfl) (by kernel_rfl) (by kernel_rfl) (fun _ _ _ h => h) rfl hS1 (by intro w' hw1; go_simp; rfl) ?_
              simp only [Act.put, List.setIfInBounds_toArray, List.set_cons_succ, List.set_cons_zero]
              refine hld_take 3 rfl (by kernel_rfl) (by kernel_rfl) (by kernel_rfl) (fun _ _ _ h => h) rfl hS1 (by intro w' hw1; go_simp; rfl) ?_
              simp only [Act.put, List.setIfInBounds_toArray, List.set_cons_succ, List.set_cons_zero]
              refine hld_take 4 rfl (by kernel_rfl) (by kernel_rfl) (by kernel_rfl) (fun _ _ _ h => h) rfl hS1 (by intro w' hw1; go_simp; rfl) ?_
              simp only [Act.put, List.setIfInBounds_toArray, List.set_cons_succ, List.set_cons_zero]
              refine hld_bar 5 rfl (by kernel_rfl) rfl (fun K hK => ?_)
              go_wp2_with (go_at_call 41; refine (r_parent_is e.path q _ HPP.out HQ.out).mono ?_; rintro e9 w9 ⟨rfl, hb9⟩)
              have HL9 := Lib.hid (HLV.out.trans (hb9.mono HLV.out.size))
              have hS2 := (hb9.cell (block_lt hS1)).trans hS1
              clear hb9
              refine ⟨hS2, ?_⟩
              refine hld_bar 6 rfl (by kernel_rfl) rfl (fun K hK => ?_)
              have HTK := Lib.hid (show EntsAt S w9 (.slice (some ⟨b, o, none⟩) (j + 1) cap) (L.take (j + 1)) from SeqAt.takeN EntR.len (HV.out.below (below_next HBR.out HL9.out)) HKN.out)
              go_wp2_with (go_at_call 40; refine (r_dir_is S (L.take (j + 1)) (.slice (some ⟨b, o, none⟩) (j + 1) cap) q x _ HTK.out HDX.out).mono ?_; rintro ea wa ⟨rfl, hba⟩)
              have HLA := Lib.hid (HL9.out.trans (hba.mono HL9.out.size))
              have hS1 := (hba.cell (block_lt hS2)).trans hS2
              clear hba
              refine ⟨hS1, ?_⟩
              refine hld_take 7 rfl (by kernel_rfl) (by kernel_rfl) (by kernel_rfl) (fun _ _ _ h => h) rfl hS1 (by intro w' hw1; go_simp; rfl) ?_
              simp only [Act.put, List.setIfInBounds_toArray, List.set_cons_succ, List.set_cons_zero]
              refine hld_done (by kernel_rfl) ?_
              have HBA := Lib.hid (below_next HBR.out HLA.out)
              clear hS1 hS2
              by_cases h0 : x = 0
              · subst h0
                have HTN := Lib.hid (check_next HTR.out HAT.out HCA.out)
                go_wp2_with fail
                go_roundw
                case rel => exact ⟨j + 1 + 1, by omega, by go_num, HTN.out, HBA.out⟩
                case measure => simp [intOf]; omega
              · have e1 : (x != 0) = true := by simp [h0]
                have HX0 := Lib.hid h0
                clear h0
                go_wp2_with fail
                go_ret
                exact ⟨ret_int (by rw [check_stop HL4.out HTR.out HAT.out (x := x) HCA.out HX0.out]), HBA.out⟩
            · have HCA := Lib.hid (show checkAt (L.take (j + 1)) e = 1 by unfold checkAt; rw [HAF.out, decide_eq_false hneg]; simp)
              have e8 : decide (0 ≤ c) = true := by simp; omega
              have e7 : 0 ≤ c := by omega
              go_wp2_with fail
              refine wp_region_segs [some 1, none, some 13, none, some 3] (by kernel_rfl) (by kernel_rfl) (by kernel_rfl) ?_
              simp only [wpSegs, List.take_succ_cons, List.take_zero, List.drop_succ_cons, List.drop_zero]
              obtain ⟨W, hW⟩ : ∃ W : World, W = (wr.alloc (.cells #[.string e.path, .int .i64 e.kind, .int .i64 e.mode, .int .i64 e.time, .slice a1 e.data.length cap1, .string e.link] 36)).drew := ⟨_, rfl⟩
              rw [← hW]
              have HWL := Lib.hid (show Below wr.heap.size wr W by rw [hW]; exact ((Below.refl _ _).alloc (Nat.le_refl _) _).drew)
              have HX := Lib.hid (show W.heap[wr.heap.size]? = some (.cells #[.string e.path, .int .i64 e.kind, .int .i64 e.mode, .int .i64 e.time, .slice a1 e.data.length cap1, .string e.link] 36 (0, 0)) by rw [hW]; exact new20 wr _)
              have HBW := Lib.hid (below_next HBR.out HWL.out)
              clear hW
              have c0 := cell20 (k := 0) HX.out
              have c1 := cell20 (k := 1) HX.out
              have c2 := cell20 (k := 2) HX.out
              have c3 := cell20 (k := 3) HX.out
              have c4 := cell20 (k := 4) HX.out
              have c5 := cell20 (k := 5) HX.out
              simp only [List.getElem?_toArray, List.getElem?_cons_succ, List.getElem?_cons_zero] at c0 c1 c2 c3 c4 c5
              repeat (first | (refine seg_skip rfl ?_; simp only [Act.put, List.setIfInBounds_toArray, List.set_cons_succ, List.set_cons_zero]) | (refine seg_run rfl (fun K hK => ?_); go_simp; refine hK _ ?_; clear hK K))
              refine seg_nil ?_
              refine bar_run rfl (fun K hK => ?_)
              go_wp2_with (go_at_call 38; refine (r_validE_is S e (.slice a1 e.data.length cap1) true _ (HD.out.below HWL.out) HOK.out HPZ.out HVE.out).mono ?_; rintro e7 w7 ⟨rfl, hb7⟩; have HL7 := Lib.hid (HWL.out.trans (hb7.mono HWL.out.size)); have HX7 := Lib.hid ((hb7.block wr.heap.size (lt20 HX.out)).trans HX.out); clear hb7 c0 c1 c2 c3 c4 c5)
              have c0 := cell20 (k := 0) HX7.out
              have c1 := cell20 (k := 1) HX7.out
              have c2 := cell20 (k := 2) HX7.out
              have c3 := cell20 (k := 3) HX7.out
              have c4 := cell20 (k := 4) HX7.out
              have c5 := cell20 (k := 5) HX7.out
              simp only [List.getElem?_toArray, List.getElem?_cons_succ, List.getElem?_cons_zero] at c0 c1 c2 c3 c4 c5
              have y0 := (HL7.out.cell (block_lt p0)).trans p0
              repeat (first | (refine seg_skip rfl ?_; simp only [Act.put, List.setIfInBounds_toArray, List.set_cons_succ, List.set_cons_zero]) | (refine seg_run rfl (fun K hK => ?_); go_simp; refine hK _ ?_; clear hK K))
              refine seg_nil ?_
              refine bar_run rfl (fun K hK => ?_)
              go_wp2_with (go_at_call 39; refine (r_compare20 f.path e.path c _ HPF.out HC.out).mono ?_; rintro e8' w8 ⟨rfl, hb8⟩; have HL8 := Lib.hid (HL7.out.trans (hb8.mono HL7.out.size)); clear hb8 c0 c1 c2 c3 c4 c5 y0)
              repeat (first | (refine seg_skip rfl ?_; simp only [Act.put, List.setIfInBounds_toArray, List.set_cons_succ, List.set_cons_zero]) | (refine seg_run rfl (fun K hK => ?_); go_simp; refine hK _ ?_; clear hK K))
              refine seg_nil ?_
              have HB9 := Lib.hid (below_next HBR.out HL8.out)
              go_wp2_with fail
              go_ret
              exact ⟨ret_int (by rw [check_stop HL4.out HTR.out HAT.out (x := 1) HCA.out (by decide)]), HB9.out⟩
      · have hk2 : k = n := by omega
        subst hk2
        go_wp2_with fail
        go_ret
        exact ⟨ret_int (by rw [check_done HL4.out (by rw [← HN.out]; exact HTR.out)]), HBR.out⟩

end Go.Proofs.YtbkhdpocmmjnbaaDoor

/- The law FiletreeChecks: its walk. -/
namespace Go.Proofs.YtbkhdpocmmjnbaaDoor
open Go Go.RowKit Go.Maps

set_option maxRecDepth 100000 in
set_option maxHeartbeats 2000000 in
theorem checks_walk (L : List Ent) (v : Value) (w : World) (hv : EntsAt (fun _ => True) w v L) (henv : Env w) :
    Calls Tryd.prog 3 #[v] w fun e w' => e = .returned (.bool true) ∧ Below w.heap.size w w' := by
  have HV := Lib.hid hv
  have HE := Lib.hid henv
  obtain ⟨a, cap, rfl, hc, hm, -⟩ := SeqAt.shape hv EntR.len
  unfold maxLen at hm
  obtain ⟨n, hn⟩ : ∃ n, n = L.length := ⟨_, rfl⟩
  have HN := Lib.hid hn
  rw [← hn] at hc HV ⊢
  clear hv henv
  go_enter Tryd.func3, Tryd.ntmps3
  go_wp2_with fail
  refine (awakeT_any w HE.out).mono ?_
  rintro e w1 ⟨rfl, hb1⟩
  have HB1 := Lib.hid hb1
  clear hb1
  by_cases hbig : 4096 < n
  · have hbi : (4096 : Int) < (n : Int) := by omega
    have HC := Lib.hid (check_big (by rw [← hn]; exact hbig))
    clear hbig hn
    go_wp2_with fail
    refine (from_any _ L _ _ (HV.out.below HB1.out) (HE.out.below HB1.out)).mono ?_
    rintro e w2 ⟨hb2, h2⟩
    rw [HC.out] at h2
    obtain ⟨-, rfl⟩ := h2.resolve_right (fun h => by have := h.1; cases this)
    have HB2 := Lib.hid (below_next HB1.out hb2)
    clear hb2 h2
    go_wp2_with fail
    refine (check_is _ L _ 2 _ (HV.out.below HB2.out) (HE.out.below HB2.out) HC.out).mono ?_
    rintro e w3 ⟨rfl, hb3⟩
    have HB3 := Lib.hid (below_next HB2.out hb3)
    clear hb3
    go_wp2_with fail
    go_ret
    exact ⟨rfl, HB3.out⟩
  · have hbi : (n : Int) ≤ (4096 : Int) := by omega
    clear hbig hn
    go_wp2_with fail
    refine (large_any _ L _ 100 _ (HV.out.below HB1.out)).mono ?_
    rintro e w2 ⟨lb, rfl, hlg, hb2⟩
    have HB2 := Lib.hid (below_next HB1.out hb2)
    have HLG := Lib.hid hlg
    clear hb2 hlg
    cases lb
    case true =>
      go_wp2_with fail
      go_ret
      exact ⟨rfl, HB2.out⟩
    obtain ⟨x, hx⟩ : ∃ x, checkP L = x := ⟨_, rfl⟩
    have HX := Lib.hid hx
    have hrc := r_check_any _ L _ _ (HV.out.below HB2.out) (fun e he => by have := ((HLG.out (by simp)).2 e he).1; omega)
    rw [hx] at hrc
    clear hx
    go_wp2_with fail
    refine hrc.mono ?_
    rintro e w3 ⟨rfl, hb3⟩
    have HB3 := Lib.hid (below_next HB2.out hb3)
    clear hb3 hrc
    go_wp2_with fail
    refine (from_any _ L _ _ (HV.out.below HB3.out) (HE.out.below HB3.out)).mono ?_
    rintro e w4 ⟨hb4, h4⟩
    have HB4 := Lib.hid (below_next HB3.out hb4)
    rw [HX.out] at h4
    clear hb4
    rcases h4 with ⟨h0, rfl⟩ | ⟨h0, tb, mb, rfl, hnew⟩
    · have e1 : (x != 0) = true := by simp [h0]
      clear h0
      go_wp2_with fail
      refine (check_is _ L _ x _ (HV.out.below HB4.out) (HE.out.below HB4.out) HX.out).mono ?_
      rintro e w5 ⟨rfl, hb5⟩
      have HB5 := Lib.hid (below_next HB4.out hb5)
      clear hb5
      have e2 : (x != x) = false := by simp
      go_wp2_with fail
      go_ret
      exact ⟨rfl, HB5.out⟩
    · subst h0
      obtain ⟨-, -, S', -, ht⟩ := hnew
      have HT := Lib.hid ht
      clear ht
      go_wp2_with fail
      refine (check_is _ L _ 0 _ (HV.out.below HB4.out) (HE.out.below HB4.out) HX.out).mono ?_
      rintro e w5 ⟨rfl, hb5⟩
      have HB5 := Lib.hid (below_next HB4.out hb5)
      have HT5 := Lib.hid (HT.out.below hb5)
      clear hb5
      go_wp2_with fail
      refine (entries_any _ _ _ L _ HT5.out).mono ?_
      rintro e w6 ⟨v6, rfl, hg6, hb6⟩
      have HG6 := Lib.hid hg6.seq
      obtain ⟨a6, c6, rfl, -, -⟩ := len_gather hg6
      have HB6 := Lib.hid (below_next HB5.out hb6)
      clear hg6 hb6
      go_wp2_with fail
      refine (r_sameall_any _ _ L L _ _ _ HG6.out (HV.out.below HB6.out)).mono ?_
      rintro e w7 ⟨rfl, hb7⟩
      have HB7 := Lib.hid (below_next HB6.out hb7)
      rw [decide_eq_true rfl]
      clear hb7
      go_wp2_with fail
      go_ret
      exact ⟨rfl, HB7.out⟩

end Go.Proofs.YtbkhdpocmmjnbaaDoor

/- FiletreeChecks: for every input the law returns true, and each argument reads afterwards as it read before (the tied card). -/
namespace Go.Proofs.YtbkhdpocmmjnbaaDoor
open Go.ChangeShapes Go.WideShapes Go.ChangeAt Go.RowKit Go.Lib Go.Shelf
open Go.ChangeMaps (open_string shut_string)

namespace CChecks
set_option maxRecDepth 100000 in
theorem lifted (os : Os) (started : os.Started) (H : Type) (enc : TypeId × Value → H) :
    ReturnsInHanded {} Tryd.checked os 3 .any (fun w args => (Rows.filetreeChecksSpec.pre enc Tryd.prog Tryd.f3 [] false w args ∧ laidMetH Tryd.prog laidL w) ∧ sizedMet enc Tryd.prog Tryd.f3 (OpenSpec.ofChange Rows.filetreeChecksSpec) false w args)
      (Rows.filetreeChecksSpec.post enc Tryd.prog Tryd.f3 false true false false) := by
  refine handed (C := Tryd.checked) (X := fun w _ => laidMetH Tryd.prog laidL w) (fun _ _ _ hh h => h.of_heap hh) own started (by kernel_rfl) Tryd.func3
    (ChangeSpec.witness_shaped (enc := enc) (C := Tryd.checked) (os := os) (X := fun w _ => laidMetH Tryd.prog laidL w) false (World.laidAll Tryd.prog os laidL) #[.slice none 0 0] 8 (World.laidAll_os _ _ _)
      (World.shaped_of_ZipB (by kernel_rfl) (by kernel_rfl)) (by kernel_rfl) (by kernel_rfl) (by kernel_rfl)
      (by rw [MakeChecks.laidMetH_plain _ _ _ (by kernel_rfl)]; exact laidMet_laidAll _ (by kernel_rfl) (by kernel_rfl))) ?_
  intro W base args ds gs before hval0 hW _hWt hL hsh
  have hval : ∀ (j : Nat) t v, Tryd.f3.params[j]? = some t → args[j]? = some v → Value.okWide Tryd.prog W .any base t v := hval0
  have hW' := hW
  obtain ⟨p, q, hA0, hV, rfl, _, _⟩ := hW
  have hA : DataW.TrodAll enc Tryd.prog W 0 (fun _ => true) true Tryd.f3.params.toList args.toList ds p := hA0
  rw [Tryd.params3] at hA hval
  obtain ⟨rfl, rfl⟩ := trodVars_none hV
  simp only [List.append_nil] at hW'
  obtain ⟨v0, d0, rfl, rfl, h0⟩ := trodAll_one hA
  obtain ⟨l, hl⟩ := open_ents (hval 0 22 v0 rfl rfl) h0
  have hlt0 : ∀ x ∈ p, x.block < W.heap.size := fun x hx => by simpa using hW'.lt x (by simp [hx])
  refine (checks_walk l v0 W hl (env_of hL hsh)).mono fun e W' ⟨he, hb⟩ => ?_
  subst he
  exact ⟨_, rfl, _, _, _, [], _, [], hW', trodAll_mk1 (shut_bool Tryd.underlying4 _), trodAll_mk1 (Below.trod laidOut (by kernel_rfl) (of_decide_eq_true (by kernel_rfl)) h0 hb hlt0), rfl, hb.frame _, fun h => by cases h⟩
theorem holds : Rows.FiletreeChecksSaid :=
  OpenClaim.holds_of_wide 3 Tryd.f3 rfl rfl rfl rfl rfl rfl rfl ⟨rfl, rfl, rfl, rfl, rfl⟩ rfl rfl rfl rfl rfl (by kernel_rfl) Tryd.func3 (by kernel_rfl)
    (of_decide_eq_true (by kernel_rfl)) (by unfold Func.isWrapper; first | (rw [if_pos (by decide +kernel)]; kernel_rfl) | (rw [if_neg (by decide +kernel)]; exact ⟨rfl, rfl⟩))
    (fun os started H enc _ => lifted os started H enc)
theorem card_holds : Rows.FiletreeChecksCardSaid :=
  Claim7.holds_tied_plain_at .later [] [.data, .pinned] true (true, "1e330c748a24b17595aadf72b64a83374ff5931bb575de300cc11a52c67695f6") false holds (fun _ h => by cases h) (by kernel_rfl) (fun _ h => by cases h) filetreeChecks_row_tie rfl ⟨rfl, rfl⟩ (by kernel_rfl) rfl
    (fun f fn hf hfn => by
      obtain rfl : f = 3 := Option.some.inj ((show Tryd.prog.funcNamed "kinkeep/kinkeeplaw20.FiletreeChecks" = some 3 by kernel_rfl).symm.trans hf) |>.symm
      obtain rfl : fn = Tryd.f3 := (Option.some.inj (Tryd.func3.symm.trans hfn)).symm
      exact ⟨by kernel_rfl, fun j t ht => by
        rw [Tryd.params3] at ht
        have hm : t ∈ [22] := by simpa using Array.mem_of_getElem? ht
        have hall : ([22].all fun u => !Tryd.prog.wantsStandIn u) = true := by kernel_rfl
        exact (show Tryd.prog.wantsStandIn t = false by simpa using List.all_eq_true.1 hall t hm)⟩)
    (by kernel_rfl)
#print axioms card_holds
end CChecks
theorem filetreeChecks_card : Rows.FiletreeChecksCardSaid := CChecks.card_holds
end Go.Proofs.YtbkhdpocmmjnbaaDoor
