/- FiletreeOwns: for every input the law returns true, and each argument reads afterwards as it read before (the tied card). -/
import Derived.Test.YtbkhdpocmmjnbaaDoorMD
/- The law FiletreeStays: its walk. -/
namespace Go.Proofs.YtbkhdpocmmjnbaaDoor
open Go Go.RowKit Go.Maps

theorem doP_err {L : List Ent} {x : POp} (h : (doP L x).2 ≠ 0) : (doP L x).1 = L := by
  unfold doP at h ⊢
  split
  · rename_i h1
    rw [if_pos h1] at h
    unfold putP at h ⊢
    repeat' split
    all_goals first | rfl | (exfalso; apply h; simp_all)
  · rename_i h1
    rw [if_neg h1] at h
    split
    · rename_i h2
      rw [if_pos h2] at h
      unfold removeP at h ⊢
      repeat' split
      all_goals first | rfl | (exfalso; apply h; simp_all)
    · rename_i h2
      rw [if_neg h2] at h
      split
      · rename_i h3
        rw [if_pos h3] at h
        unfold moveP at h ⊢
        repeat' split
        all_goals first | rfl | (exfalso; apply h; simp_all)
      · rfl
theorem data_other {S : Nat → Prop} {w w' : World} {b : Nat} {v : Value} {bs : List UInt8} (h : DataAt S w v bs) (hf : ¬ S b) (hg : w.grownBy w' (some b)) : DataAt S w' v bs := data_grown h hf hg
theorem TreeAt.other {S : Nat → Prop} {w w' : World} {tb mb b : Nat} {L : List Ent} (h : TreeAt S w tb mb L) (hg : w.grownBy w' (some b)) (h1 : tb ≠ b) (h2 : mb ≠ b) (h3 : ¬ S b) : TreeAt S w' tb mb L := by
  obtain ⟨xs, hm, hp⟩ := h.ents
  exact ⟨hg.cell h.cell (fun e => h1 (Option.some.inj e)), h.ne, h.far, fun k hk => Nat.lt_of_lt_of_le (h.lt k hk) hg.size, h.ok, xs,
    ⟨hm.map.same (hg.block mb hm.map.lt (fun e => h2 (Option.some.inj e))), fun x hx => ⟨data_grown (hm.dat x hx).1 h3 hg, (hm.dat x hx).2⟩, hm.far⟩, hp⟩
theorem equal_is (S T : Nat → Prop) (tb mb ub nb : Nat) (L M : List Ent) (r : Bool) (w : World) (ht : TreeAt S w tb mb L) (hu : TreeAt T w ub nb M) (hr : decide (L = M) = r) :
    Calls Tryd.prog 31 #[.pointer (some ⟨tb, 0, none⟩), .pointer (some ⟨ub, 0, none⟩)] w fun e w' => e = .returned (.bool r) ∧ Below w.heap.size w w' := by
  rw [← hr]; exact equal_any S T tb mb ub nb L M w ht hu
theorem from_ok (S : Nat → Prop) (L : List Ent) (v : Value) (w : World) (hv : EntsAt S w v L) (henv : Env w) (h : TOk L) : Calls Tryd.prog 11 #[v] w fun e w' => Below w.heap.size w w' ∧ ∃ tb mb, e = .returned (.tuple #[.pointer (some ⟨tb, 0, none⟩), .int .i64 0]) ∧ NewTree w w' tb mb L :=
  (from_any S L v w hv henv).mono fun _ _ ⟨hb, hr⟩ => ⟨hb, (hr.resolve_left (fun h2 => h2.1 (checkP_iff.2 h))).2⟩
set_option maxRecDepth 100000 in
set_option maxHeartbeats 4000000 in
theorem stays_walk (l : List POp) (v : Value) (w : World) (hv : OpsAt (fun _ => True) w v l) (henv : Env w) :
    Calls Tryd.prog 8 #[v] w fun e w' => e = .returned (.bool true) ∧ Below w.heap.size w w' := by
  have HV := Lib.hid hv
  have HE := Lib.hid henv
  obtain ⟨a, cap, rfl, hc, hm, -⟩ := SeqAt.shape hv OpR.len
  unfold maxLen at hm
  obtain ⟨n, hn⟩ : ∃ n, n = l.length := ⟨_, rfl⟩
  have HN := Lib.hid hn
  rw [← hn] at hc HV ⊢
  clear hv henv hn
  go_enter Tryd.func8, Tryd.ntmps8
  go_wp2_with fail
  refine (awakeT_any w HE.out).mono ?_
  rintro e w1 ⟨rfl, hb1⟩
  have HB1 := Lib.hid hb1
  clear hb1
  go_wp2_with fail
  refine (wide_any _ l _ _ (HV.out.below HB1.out)).mono ?_
  rintro e w2 ⟨wb, rfl, -, hb2⟩
  have HB2 := Lib.hid (below_next HB1.out hb2)
  clear hb2
  cases wb
  · go_wp2_with fail
    refine (newB_any _).mono ?_
    rintro e w3 ⟨rfl, ht3, hb3⟩
    obtain ⟨B, hB⟩ : ∃ B, B = w2.heap.size := ⟨_, rfl⟩
    rw [← hB] at ht3 ⊢
    have HBB := Lib.hid (show w.heap.size ≤ B by rw [hB]; exact HB2.out.size)
    have HT3 := Lib.hid ht3
    have HB3 := Lib.hid (below_next HB2.out hb3)
    clear ht3 hb3 hB
    go_wp2_with fail
    go_loopw [17] (fun i wr => ∃ (k : Nat) (L : List Ent), k ≤ n ∧ i = .int .i64 k ∧ TreeB B wr L ∧ Below w.heap.size w wr) (fun i _ => n - (intOf i).toNat)
    case atStart => exact ⟨0, [], Nat.zero_le _, rfl, HT3.out, HB3.out⟩
    case round =>
      obtain ⟨k, L, hk, rfl, htr, hbr⟩ := hrel
      have HTR := Lib.hid htr
      have HBR := Lib.hid hbr
      clear htr hbr
      by_cases hlt : k < n
      · obtain ⟨x, hx⟩ : ∃ x, l[k]? = some x := ⟨l[k]'(by rw [← HN.out]; exact hlt), by simp⟩
        obtain ⟨b, o, dv, rfl, hb, hd, hok, hq⟩ := ops_at (HV.out.below HBR.out) hx
        obtain ⟨a1, cap1, rfl, hd1, hd2⟩ := hd.slice
        have q0 := hq 0 (by omega)
        have q1 := hq 1 (by omega)
        have q2 := hq 2 (by omega)
        have q3 := hq 3 (by omega)
        have q4 := hq 4 (by omega)
        have q5 := hq 5 (by omega)
        have q6 := hq 6 (by omega)
        have q7 := hq 7 (by omega)
        have q8 := hq 8 (by omega)
        have q9 := hq 9 (by omega)
        simp only [opC, List.getElem?_cons_succ, List.getElem?_cons_zero, Nat.add_zero] at q0 q1 q2 q3 q4 q5 q6 q7 q8 q9
        have HX := Lib.hid hx
        have HD := Lib.hid hd
        have HOK := Lib.hid hok
        unfold maxLen at hd2
        clear hx hd hok hq
        go_wp2_with fail
        obtain ⟨W, hW⟩ : ∃ W, W = wr.alloc (.cells #[.int .i64 x.kind, .string x.en.path, .int .i64 x.en.kind, .int .i64 x.en.mode, .int .i64 x.en.time, .slice a1 x.en.data.length cap1, .string x.en.link, .string x.src, .string x.dst, .bool x.below] 64) := ⟨_, rfl⟩
        rw [← hW]
        have HXB := Lib.hid (show W.heap[wr.heap.size]? = some (.cells #[.int .i64 x.kind, .string x.en.path, .int .i64 x.en.kind, .int .i64 x.en.mode, .int .i64 x.en.time, .slice a1 x.en.data.length cap1, .string x.en.link, .string x.src, .string x.dst, .bool x.below] 64 (0, 0)) by rw [hW]; exact new20 wr _)
        have HWL := Lib.hid (show Below wr.heap.size wr W by rw [hW]; exact (Below.refl _ _).alloc (Nat.le_refl _) _)
        have HTW := Lib.hid (HTR.out.below HWL.out)
        have HBW := Lib.hid (below_next HBR.out HWL.out)
        clear hW q0 q1 q2 q3 q4 q5 q6 q7 q8 q9
        refine (clone_tree _ _ _ L _ HTW.out).mono ?_
        rintro e w4 ⟨rfl, ⟨S4, hS4, ht4⟩, hb4⟩
        have HU4 := Lib.hid ht4
        have HS4 := Lib.hid hS4
        have HX4 := Lib.hid ((hb4.block wr.heap.size (lt20 HXB.out)).trans HXB.out)
        have HT4 := Lib.hid (HTW.out.below hb4)
        have HB4 := Lib.hid (below_next HBW.out hb4)
        have HL4 := Lib.hid (HWL.out.trans (hb4.mono HWL.out.size))
        have HWS := Lib.hid (Nat.lt_of_lt_of_le (block_lt HTR.out.cell) HWL.out.size)
        clear ht4 hS4 hb4
        have c0 := cell20 (k := 0) HX4.out
        have c1 := cell20 (k := 1) HX4.out
        have c2 := cell20 (k := 2) HX4.out
        have c3 := cell20 (k := 3) HX4.out
        have c4 := cell20 (k := 4) HX4.out
        have c5 := cell20 (k := 5) HX4.out
        have c6 := cell20 (k := 6) HX4.out
        have c7 := cell20 (k := 7) HX4.out
        have c8 := cell20 (k := 8) HX4.out
        have c9 := cell20 (k := 9) HX4.out
        simp only [List.getElem?_toArray, List.getElem?_cons_succ, List.getElem?_cons_zero] at c0 c1 c2 c3 c4 c5 c6 c7 c8 c9
        go_wp2_with fail
        refine (do_any _ (fun _ => True) _ _ L x (.slice a1 x.en.data.length cap1) _ HT4.out (HD.out.below HL4.out) HOK.out (HE.out.below HB4.out)).mono ?_
        rintro e w5 hr
        obtain ⟨rfl, ht5, hg5⟩ := HT4.out.res hr
        have HT5 := Lib.hid ht5
        have HWN : B + 1 < W.heap.size := HWS.out
        have HU5 := Lib.hid (HU4.out.other hg5 (by omega) (by omega) (fun h => by have := HS4.out _ h; omega))
        have HB5 := Lib.hid (HB4.out.grown hg5 HB4.out.size (fun k e => by cases e; exact HBB.out))
        obtain ⟨M, hM⟩ : ∃ M, M = (doP L x).1 := ⟨_, rfl⟩
        have HM := Lib.hid hM
        rw [← hM] at HT5
        obtain ⟨er, her⟩ : ∃ er, er = (doP L x).2 := ⟨_, rfl⟩
        have HER := Lib.hid her
        rw [← her]
        clear hr ht5 hg5 hM her c0 c1 c2 c3 c4 c5 c6 c7 c8 c9
        by_cases h0 : er = 0
        · subst h0
          go_wp2_with fail
          refine (entries_any _ _ _ M _ HT5.out).mono ?_
          rintro e w7 ⟨v7, rfl, hg7, hb7⟩
          have HG7 := Lib.hid hg7.seq
          have HT7 := Lib.hid (HT5.out.below hb7)
          have HB7 := Lib.hid (below_next HB5.out hb7)
          obtain ⟨a7, c7, rfl, -, -⟩ := len_gather hg7
          clear hg7 hb7
          go_wp2_with fail
          refine (check_is _ M _ 0 _ HG7.out (HE.out.below HB7.out) (checkP_iff.2 HT7.out.ok)).mono ?_
          rintro e w8 ⟨rfl, hb8⟩
          have HT8 := Lib.hid (HT7.out.below hb8)
          have HB8 := Lib.hid (below_next HB7.out hb8)
          clear hb8
          go_wp2_with fail
          go_roundw
          case rel => exact ⟨k + 1, M, by omega, by go_num, HT8.out, HB8.out⟩
          case measure => simp [intOf]; omega
        · have e1 : (er != 0) = true := by simp [h0]
          have HEQ := Lib.hid (show decide (M = L) = true by rw [HM.out, doP_err (by rw [← HER.out]; exact h0)]; simp)
          clear h0
          go_wp2_with fail
          refine (equal_is _ _ _ _ _ _ M L true _ HT5.out HU5.out HEQ.out).mono ?_
          rintro e w6 ⟨rfl, hb6⟩
          have HT6 := Lib.hid (HT5.out.below hb6)
          have HB6 := Lib.hid (below_next HB5.out hb6)
          clear hb6
          go_wp2_with fail
          refine (entries_any _ _ _ M _ HT6.out).mono ?_
          rintro e w7 ⟨v7, rfl, hg7, hb7⟩
          have HG7 := Lib.hid hg7.seq
          have HT7 := Lib.hid (HT6.out.below hb7)
          have HB7 := Lib.hid (below_next HB6.out hb7)
          obtain ⟨a7, c7, rfl, -, -⟩ := len_gather hg7
          clear hg7 hb7
          go_wp2_with fail
          refine (check_is _ M _ 0 _ HG7.out (HE.out.below HB7.out) (checkP_iff.2 HT7.out.ok)).mono ?_
          rintro e w8 ⟨rfl, hb8⟩
          have HT8 := Lib.hid (HT7.out.below hb8)
          have HB8 := Lib.hid (below_next HB7.out hb8)
          clear hb8
          go_wp2_with fail
          go_roundw
          case rel => exact ⟨k + 1, M, by omega, by go_num, HT8.out, HB8.out⟩
          case measure => simp [intOf]; omega
      · have hk2 : k = n := by omega
        go_wp2_with fail
        refine (entries_any _ _ _ L _ HTR.out).mono ?_
        rintro e w4 ⟨v4, rfl, hg4, hb4⟩
        have HG4 := Lib.hid hg4.seq
        have HT4 := Lib.hid (HTR.out.below hb4)
        have HB4 := Lib.hid (below_next HBR.out hb4)
        obtain ⟨a4, c4, rfl, -, -⟩ := len_gather hg4
        clear hg4 hb4
        go_wp2_with fail
        refine (from_ok _ L _ _ HG4.out (HE.out.below HB4.out) HT4.out.ok).mono ?_
        rintro e w5 ⟨hb5, ub, nb, rfl, -, -, S5, -, ht5⟩
        have HU5 := Lib.hid ht5
        have HT5 := Lib.hid (HT4.out.below hb5)
        have HB5 := Lib.hid (below_next HB4.out hb5)
        clear hb5 ht5
        go_wp2_with fail
        refine (equal_is _ _ _ _ _ _ L L true _ HU5.out HT5.out (by simp)).mono ?_
        rintro e w6 ⟨rfl, hb6⟩
        have HU6 := Lib.hid (HU5.out.below hb6)
        have HT6 := Lib.hid (HT5.out.below hb6)
        have HB6 := Lib.hid (below_next HB5.out hb6)
        clear hb6
        go_wp2_with fail
        refine (equal_is _ _ _ _ _ _ L L true _ HT6.out HU6.out (by simp)).mono ?_
        rintro e w7 ⟨rfl, hb7⟩
        have HB7 := Lib.hid (below_next HB6.out hb7)
        clear hb7
        go_wp2_with fail
        go_ret
        exact ⟨rfl, HB7.out⟩
  · go_wp2_with fail
    go_ret
    exact ⟨rfl, HB2.out⟩

end Go.Proofs.YtbkhdpocmmjnbaaDoor

/- The law FiletreeMoves: its walk. -/
namespace Go.Proofs.YtbkhdpocmmjnbaaDoor
open Go Go.RowKit Go.Maps

theorem moveP_err {L : List Ent} {p q : ByteArray} (h : (moveP L p q).2 ≠ 0) : (moveP L p q).1 = L := by
  have := doP_err (L := L) (x := ⟨3, ⟨⟨#[]⟩, 0, 0, 0, [], ⟨#[]⟩⟩, p, q, false⟩)
  simp only [doP, if_neg (show ¬ (3 : Int) = 1 by decide), if_neg (show ¬ (3 : Int) = 2 by decide), if_true] at this
  exact this h
theorem get_some (S : Nat → Prop) (tb mb : Nat) (L : List Ent) (p : ByteArray) (f : Ent) (w : World) (ht : TreeAt S w tb mb L) (hps : p.size ≤ maxLen) (hf : findE L p = some f) :
    Calls Tryd.prog 19 #[.pointer (some ⟨tb, 0, none⟩), .string p] w fun e w' => ∃ a c, e = .returned (.tuple #[.agg #[.string f.path, .int .i64 f.kind, .int .i64 f.mode, .int .i64 f.time, .slice a f.data.length c, .string f.link], .bool true]) ∧ DataAt (fun k => w.heap.size ≤ k ∧ k < w'.heap.size) w' (.slice a f.data.length c) f.data ∧ Below w.heap.size w w' :=
  (get_any S tb mb L p w ht hps).mono fun e w' ⟨hb, hr⟩ => by
    rw [hf] at hr
    obtain ⟨v, rfl, ho⟩ := hr
    have hd := data_of_owns ho
    obtain ⟨a, c, rfl, -, -⟩ := owns_shape ho
    exact ⟨a, c, rfl, hd, hb⟩
theorem get_none (S : Nat → Prop) (tb mb : Nat) (L : List Ent) (p : ByteArray) (w : World) (ht : TreeAt S w tb mb L) (hps : p.size ≤ maxLen) (hf : findE L p = none) :
    Calls Tryd.prog 19 #[.pointer (some ⟨tb, 0, none⟩), .string p] w fun e w' => e = .returned (.tuple #[.agg #[.string ⟨#[]⟩, .int .i64 0, .int .i64 0, .int .i64 0, .slice none 0 0, .string ⟨#[]⟩], .bool false]) ∧ Below w.heap.size w w' :=
  (get_any S tb mb L p w ht hps).mono fun e w' ⟨hb, hr⟩ => by
    rw [hf] at hr
    exact ⟨hr, hb⟩
/-- Every Get of a law: what it hands back, and where its data lie. -/
def GotV (L : List Ent) (p : ByteArray) (B : Nat) (w' : World) (g : Ent) (a : Option Addr) (n c : Nat) (ok : Bool) : Prop :=
  DataAt (fun k => B ≤ k ∧ k < w'.heap.size) w' (.slice a n c) g.data ∧ n = g.data.length ∧ n ≤ c ∧ c ≤ maxLen ∧ ((ok = true ∧ findE L p = some g) ∨ (ok = false ∧ findE L p = none ∧ g = ⟨⟨#[]⟩, 0, 0, 0, [], ⟨#[]⟩⟩))
theorem get_v (S : Nat → Prop) (tb mb : Nat) (L : List Ent) (p : ByteArray) (w : World) (ht : TreeAt S w tb mb L) (hps : p.size ≤ maxLen) :
    Calls Tryd.prog 19 #[.pointer (some ⟨tb, 0, none⟩), .string p] w fun e w' => ∃ g a n c ok, e = .returned (.tuple #[.agg #[.string g.path, .int .i64 g.kind, .int .i64 g.mode, .int .i64 g.time, .slice a n c, .string g.link], .bool ok]) ∧ GotV L p w.heap.size w' g a n c ok ∧ Below w.heap.size w w' :=
  (get_any S tb mb L p w ht hps).mono fun e w' ⟨hb, hr⟩ => by
    cases hf : findE L p with
    | none =>
      rw [hf] at hr
      exact ⟨⟨⟨#[]⟩, 0, 0, 0, [], ⟨#[]⟩⟩, none, 0, 0, false, hr, ⟨DataAt.nil _ _, rfl, Nat.le_refl _, by decide, .inr ⟨rfl, hf, rfl⟩⟩, hb⟩
    | some f =>
      rw [hf] at hr
      obtain ⟨v, rfl, ho⟩ := hr
      have hd := data_of_owns ho
      obtain ⟨a, c, rfl, h1, h2⟩ := owns_shape ho
      exact ⟨f, a, _, c, true, rfl, ⟨hd, rfl, h1, h2, .inl ⟨rfl, hf⟩⟩, hb⟩
set_option maxRecDepth 100000 in
set_option maxHeartbeats 4000000 in
theorem moves_walk (l : List POp) (v : Value) (p q : ByteArray) (w : World) (hv : OpsAt (fun _ => True) w v l) (hp : p.size ≤ maxLen) (hq : q.size ≤ maxLen) (henv : Env w) :
    Calls Tryd.prog 7 #[v, .string p, .string q] w fun e w' => e = .returned (.bool true) ∧ Below w.heap.size w w' := by
  have HV := Lib.hid hv
  have HE := Lib.hid henv
  have HP := Lib.hid hp
  have HQ := Lib.hid hq
  obtain ⟨a, cap, rfl, hc, hm, -⟩ := SeqAt.shape hv OpR.len
  unfold maxLen at hm hp hq
  clear hv henv
  go_enter Tryd.func7, Tryd.ntmps7
  go_wp2_with fail
  refine (awakeT_any w HE.out).mono ?_
  rintro e w1 ⟨rfl, hb1⟩
  have HB1 := Lib.hid hb1
  clear hb1
  go_wp2_with fail
  refine (wide_any _ l _ _ (HV.out.below HB1.out)).mono ?_
  rintro e w2 ⟨wb, rfl, -, hb2⟩
  have HB2 := Lib.hid (below_next HB1.out hb2)
  clear hb2
  cases wb
  case true =>
    go_wp2_with fail
    go_ret
    exact ⟨rfl, HB2.out⟩
  by_cases hp6 : 600 < p.size
  · have hp6' : decide (600 < p.size) = true := by simp [hp6]
    go_wp2_with fail
    go_ret
    exact ⟨rfl, HB2.out⟩
  have hp6' : decide (600 < p.size) = false := by simp; omega
  by_cases hq6 : 600 < q.size
  · have hq6' : decide (600 < q.size) = true := by simp [hq6]
    go_wp2_with fail
    go_ret
    exact ⟨rfl, HB2.out⟩
  have hq6' : decide (600 < q.size) = false := by simp; omega
  go_wp2_with fail
  refine (play_any _ l _ _ (HV.out.below HB2.out) (HE.out.below HB2.out)).mono ?_
  rintro e w3 ⟨rfl, ht3, hb3⟩
  obtain ⟨B, hB⟩ : ∃ B, B = w2.heap.size := ⟨_, rfl⟩
  rw [← hB] at ht3 ⊢
  have HBB := Lib.hid (show w.heap.size ≤ B by rw [hB]; exact HB2.out.size)
  have HT3 := Lib.hid ht3
  have HB3 := Lib.hid (below_next HB2.out hb3)
  have HLT3 := Lib.hid (show B + 1 < w3.heap.size from block_lt ht3.cell)
  obtain ⟨L, hL⟩ : ∃ L, L = playP [] l := ⟨_, rfl⟩
  rw [← hL] at HT3
  clear ht3 hb3 hB hL
  go_wp2_with fail
  refine (clone_tree _ _ _ L _ HT3.out).mono ?_
  rintro e w4 ⟨rfl, ⟨S4, hS4, ht4⟩, hb4⟩
  have HU4 := Lib.hid ht4
  have HS4 := Lib.hid hS4
  have HT4 := Lib.hid (HT3.out.below hb4)
  have HB4 := Lib.hid (below_next HB3.out hb4)
  have HL4 := Lib.hid hb4.size
  have HUL := Lib.hid (show w3.heap.size + 1 < w4.heap.size from block_lt ht4.cell)
  have HSL := Lib.hid ht4.lt
  clear ht4 hS4 hb4
  go_wp2_with fail
  refine (size_any _ _ _ L p _ HT4.out HP.out).mono ?_
  rintro e w5 ⟨rfl, hb5⟩
  have HT5 := Lib.hid (HT4.out.below hb5)
  have HU5 := Lib.hid (HU4.out.below hb5)
  have HB5 := Lib.hid (below_next HB4.out hb5)
  have HL5 := Lib.hid (Nat.le_trans HL4.out hb5.size)
  have HL54 := Lib.hid hb5.size
  clear hb5
  obtain ⟨cn, hcn⟩ : ∃ cn, cn = cntL (atP L p) := ⟨_, rfl⟩
  have HCN := Lib.hid hcn
  rw [← hcn]
  clear hcn
  go_wp2_with fail
  refine (get_v _ _ _ L p _ HT5.out HP.out).mono ?_
  rintro e w6 ⟨g6, a6, n6, k6, ok6, rfl, hg6, hb6⟩
  have HG6 := Lib.hid hg6
  have hn6 := hg6.2.2.1
  have hk6 := hg6.2.2.2.1
  unfold maxLen at hk6
  have HT6 := Lib.hid (HT5.out.below hb6)
  have HU6 := Lib.hid (HU5.out.below hb6)
  have HB6 := Lib.hid (below_next HB5.out hb6)
  have HL6 := Lib.hid (Nat.le_trans HL5.out hb6.size)
  have HL64 := Lib.hid (Nat.le_trans HL54.out hb6.size)
  clear hb6 hg6
  go_wp2_with fail
  obtain ⟨W, hW⟩ : ∃ W, W = w6.alloc (.cells #[.string g6.path, .int .i64 g6.kind, .int .i64 g6.mode, .int .i64 g6.time, .slice a6 n6 k6, .string g6.link] 36) := ⟨_, rfl⟩
  rw [← hW]
  have HX := Lib.hid (show W.heap[w6.heap.size]? = some (.cells #[.string g6.path, .int .i64 g6.kind, .int .i64 g6.mode, .int .i64 g6.time, .slice a6 n6 k6, .string g6.link] 36 (0, 0)) by rw [hW]; exact new20 w6 _)
  have HWL := Lib.hid (show Below w6.heap.size w6 W by rw [hW]; exact (Below.refl _ _).alloc (Nat.le_refl _) _)
  have HTW := Lib.hid (TreeAt.below HT6.out HWL.out)
  have HWX := Lib.hid (lt20 HX.out)
  have HBB6 := Lib.hid (show w.heap.size ≤ w6.heap.size from HB6.out.size)
  have HUW := Lib.hid (HU6.out.below HWL.out)
  have HBW := Lib.hid (below_next HB6.out HWL.out)
  have HDW := Lib.hid (HG6.out.1.below HWL.out)
  clear hW
  refine (move_any _ _ _ L p q _ HTW.out HP.out HQ.out (HE.out.below HBW.out)).mono ?_
  rintro e w7 hr
  obtain ⟨rfl, ht7, hg7⟩ := hr
  have HB7 := Lib.hid (HBW.out.grown hg7 HBW.out.size (fun k e => by cases e; exact HBB.out))
  have HU7 := Lib.hid (HUW.out.other hg7 (by have := HLT3.out; omega) (by have := HLT3.out; omega) (fun h => by have h1 := HS4.out _ h; have h2 := HLT3.out; omega))
  have HT7 := Lib.hid ht7
  by_cases h0 : (moveP L p q).2 = 0
  case neg =>
    have e1 : ((moveP L p q).2 != 0) = true := by simp [h0]
    have HEQ := Lib.hid (show decide ((moveP L p q).1 = L) = true by rw [moveP_err h0]; simp)
    obtain ⟨er, her⟩ : ∃ er, er = (moveP L p q).2 := ⟨_, rfl⟩
    rw [← her] at e1 ⊢
    clear ht7 hg7 h0 her
    go_wp2_with fail
    refine (equal_is _ _ _ _ _ _ _ L true _ HT7.out HU7.out HEQ.out).mono ?_
    rintro e w8 ⟨rfl, hb8⟩
    have HB8 := Lib.hid (below_next HB7.out hb8)
    clear hb8
    go_wp2_with fail
    go_ret
    exact ⟨rfl, HB8.out⟩
  case pos =>
    rw [h0]
    obtain ⟨hmv, hm1⟩ := move_is HT6.out.ok h0
    have HMV := Lib.hid hmv
    obtain ⟨M, hM⟩ : ∃ M, M = sortP (L.map (moveE p q)) := ⟨_, rfl⟩
    rw [hm1, ← hM] at HT7
    have HM := Lib.hid hM
    obtain ⟨f, hf⟩ := hmv.is
    have hg6e : g6 = f ∧ ok6 = true := by
      rcases HG6.out.2.2.2.2 with ⟨h1, h2⟩ | ⟨h1, h2, _⟩
      · rw [hf] at h2; exact ⟨(Option.some.inj h2).symm, h1⟩
      · rw [hf] at h2; cases h2
    obtain ⟨rfl, rfl⟩ := hg6e
    have hnn : n6 = g6.data.length := HG6.out.2.1
    subst hnn
    have HF := Lib.hid hf
    have HX7 := Lib.hid ((hg7.block w6.heap.size (lt20 HX.out) (fun e => by have h1 := Option.some.inj e; have h2 := HLT3.out; have h3 := HL6.out; omega)).trans HX.out)
    have HD7 := Lib.hid (data_grown HDW.out (fun h => by have h1 := h.1; have h2 := HLT3.out; have h3 := HL5.out; omega) hg7)
    clear ht7 hg7 h0 hmv hm1 hM hf HG6
    go_wp2_with fail
    refine (size_any _ _ _ M q _ HT7.out HQ.out).mono ?_
    rintro e w8 ⟨rfl, hb8⟩
    rw [show cntL (atP M q) = cn by rw [HM.out, HMV.out.count, HCN.out]]
    have HT8 := Lib.hid (HT7.out.below hb8)
    have HU8 := Lib.hid (HU7.out.below hb8)
    have HX8 := Lib.hid ((hb8.block _ (lt20 HX7.out)).trans HX7.out)
    have HD8 := Lib.hid (HD7.out.below hb8)
    have HB8 := Lib.hid (below_next HB7.out hb8)
    clear hb8
    go_wp2_with fail
    refine (get_none _ _ _ M p _ HT8.out HP.out (by rw [HM.out]; exact HMV.out.gone)).mono ?_
    rintro e w9 ⟨rfl, hb9⟩
    have hbA := hb9.alloc hb9.size (.cells #[.string ⟨#[]⟩, .int .i64 0, .int .i64 0, .int .i64 0, .slice none 0 0, .string ⟨#[]⟩] 36)
    have HTA := Lib.hid (HT8.out.below hbA)
    have HUA := Lib.hid (HU8.out.below hbA)
    have HXA := Lib.hid ((hbA.block _ (lt20 HX8.out)).trans HX8.out)
    have HDA := Lib.hid (HD8.out.below hbA)
    have HBA := Lib.hid (below_next HB8.out hbA)
    have HX6A := Lib.hid (lt20 HXA.out)
    clear hb9 hbA
    go_wp2_with fail
    refine (get_some _ _ _ M q { g6 with path := q } _ HTA.out HQ.out (by rw [HM.out]; exact HMV.out.there HF.out)).mono ?_
    rintro e wb ⟨ab, cb, rfl, hdb, hbb⟩
    have HTB := Lib.hid (HTA.out.below hbb)
    have HUB := Lib.hid (HUA.out.below hbb)
    have HXB := Lib.hid ((hbb.block _ (lt20 HXA.out)).trans HXA.out)
    have HDB := Lib.hid (HDA.out.below hbb)
    have HEB := Lib.hid hdb
    have HBBx := Lib.hid (below_next HBA.out hbb)
    have HWLT := Lib.hid (Nat.le_trans (Nat.le_of_lt (lt20 HXA.out)) hbb.size)
    clear hdb hbb
    go_upto_region 15 with (fail)
    obtain ⟨V, hV⟩ : ∃ V, V = wb.alloc (.cells #[.string q, .int .i64 g6.kind, .int .i64 g6.mode, .int .i64 g6.time, .slice ab g6.data.length cb, .string g6.link] 36) := ⟨_, rfl⟩
    rw [← hV]
    have hbv : Below wb.heap.size wb V := by rw [hV]; exact (Below.refl _ _).alloc (Nat.le_refl _) _
    have HZV := Lib.hid (show V.heap[wb.heap.size]? = some (.cells #[.string q, .int .i64 g6.kind, .int .i64 g6.mode, .int .i64 g6.time, .slice ab g6.data.length cb, .string g6.link] 36 (0, 0)) by rw [hV]; exact new20 wb _)
    have HXV := Lib.hid ((hbv.block _ (lt20 HXB.out)).trans HXB.out)
    have HTV := Lib.hid (HTB.out.below hbv)
    have HUV := Lib.hid (HUB.out.below hbv)
    have HDV := Lib.hid (HDB.out.below hbv)
    have HEV := Lib.hid (HEB.out.below hbv)
    have HBV := Lib.hid (below_next HBBx.out hbv)
    have HNE := Lib.hid (show wb.heap.size ≠ w6.heap.size from fun e => by have := lt20 HXB.out; omega)
    clear hV hbv
    have c0 := cell20 (k := 0) HXV.out
    have c1 := cell20 (k := 1) HXV.out
    have c2 := cell20 (k := 2) HXV.out
    have c3 := cell20 (k := 3) HXV.out
    have c4 := cell20 (k := 4) HXV.out
    have c5 := cell20 (k := 5) HXV.out
    simp only [List.getElem?_toArray, List.getElem?_cons_succ, List.getElem?_cons_zero] at c0 c1 c2 c3 c4 c5
    have p0 := frozen20 (k := 0) HXV.out
    go_upto_region 16 with (fail)
    obtain ⟨X, hX⟩ : ∃ X, X = V.setCell ⟨w6.heap.size, 0, none⟩ (.string q) := ⟨_, rfl⟩
    rw [← hX]
    have hgx : V.grownBy X (some w6.heap.size) := by rw [hX]; exact grownBy_setCell' V _ _
    have HXX := Lib.hid (show X.heap[w6.heap.size]? = some (.cells #[.string q, .int .i64 g6.kind, .int .i64 g6.mode, .int .i64 g6.time, .slice a6 g6.data.length k6, .string g6.link] 36 (0, 0)) by rw [hX]; exact set20 HXV.out _)
    have HZX := Lib.hid (show X.heap[wb.heap.size]? = some (.cells #[.string q, .int .i64 g6.kind, .int .i64 g6.mode, .int .i64 g6.time, .slice ab g6.data.length cb, .string g6.link] 36 (0, 0)) by rw [hX]; exact setOther20 HZV.out HNE.out _)
    have HTX := Lib.hid (HTV.out.other hgx (by have h2 := HLT3.out; have h3 := HL6.out; omega) (by have h2 := HLT3.out; have h3 := HL6.out; omega) (fun h => by have h3 := HWX.out; rcases h with h | h; exact absurd h.2 (Nat.lt_irrefl _); omega))
    have HUX := Lib.hid (HUV.out.other hgx (by have h3 := HUL.out; have h4 := HL64.out; omega) (by have h3 := HUL.out; have h4 := HL64.out; omega) (fun h => by have h1 := HSL.out _ h; have h4 := HL64.out; omega))
    clear hX p0 c0 c1 c2 c3 c4 c5
    have HDX := Lib.hid (data_grown (mb := w6.heap.size) HDV.out (fun h => by have h1 := h.2; omega) hgx)
    have HEX := Lib.hid (data_grown (mb := w6.heap.size) HEV.out (fun h => by have h1 := h.1; have h2 := HX6A.out; omega) hgx)
    have HBX := Lib.hid (HBV.out.grown hgx HBV.out.size (fun k e => by cases e; exact HBB6.out))
    clear hgx
    have c0 := cell20 (k := 0) HXX.out
    have c1 := cell20 (k := 1) HXX.out
    have c2 := cell20 (k := 2) HXX.out
    have c3 := cell20 (k := 3) HXX.out
    have c4 := cell20 (k := 4) HXX.out
    have c5 := cell20 (k := 5) HXX.out
    simp only [List.getElem?_toArray, List.getElem?_cons_succ, List.getElem?_cons_zero] at c0 c1 c2 c3 c4 c5
    have d0 := cell20 (k := 0) HZX.out
    have d1 := cell20 (k := 1) HZX.out
    have d2 := cell20 (k := 2) HZX.out
    have d3 := cell20 (k := 3) HZX.out
    have d4 := cell20 (k := 4) HZX.out
    have d5 := cell20 (k := 5) HZX.out
    simp only [List.getElem?_toArray, List.getElem?_cons_succ, List.getElem?_cons_zero] at d0 d1 d2 d3 d4 d5
    go_wp2_with fail
    refine (r_same20_is _ _ { g6 with path := q } { g6 with path := q } (.slice a6 g6.data.length k6) (.slice ab g6.data.length cb) true _ HDX.out HEX.out (by simp)).mono ?_
    rintro e wc ⟨rfl, hbc⟩
    have HTC := Lib.hid (HTX.out.below hbc)
    have HUC := Lib.hid (HUX.out.below hbc)
    have HBC := Lib.hid (below_next HBX.out hbc)
    clear hbc c0 c1 c2 c3 c4 c5 d0 d1 d2 d3 d4 d5
    go_wp2_with fail
    refine (equal_is _ _ _ _ _ _ M L false _ HTC.out HUC.out (by rw [HM.out]; simp only [decide_eq_false_iff_not]; exact fun h => HMV.out.ne h.symm)).mono ?_
    rintro e wd ⟨rfl, hbd⟩
    have HTD := Lib.hid (HTC.out.below hbd)
    have HUD := Lib.hid (HUC.out.below hbd)
    have HBD := Lib.hid (below_next HBC.out hbd)
    clear hbd
    go_wp2_with fail
    refine (move_any _ _ _ M q p _ HTD.out HQ.out HP.out (HE.out.below HBD.out)).mono ?_
    rintro e we hr
    rw [show moveP M q p = (L, 0) by rw [HM.out]; exact HMV.out.again] at hr
    obtain ⟨rfl, hte, hge⟩ := hr
    have HTE := Lib.hid hte
    have HUE := Lib.hid (HUD.out.other hge (by have := HLT3.out; omega) (by have := HLT3.out; omega) (fun h => by have h1 := HS4.out _ h; have h2 := HLT3.out; omega))
    have HBE := Lib.hid (HBD.out.grown hge HBD.out.size (fun k e => by cases e; exact HBB.out))
    clear hte hge
    go_wp2_with fail
    refine (equal_is _ _ _ _ _ _ L L true _ HTE.out HUE.out (by simp)).mono ?_
    rintro e wf ⟨rfl, hbf⟩
    have HTF := Lib.hid (HTE.out.below hbf)
    have HUF := Lib.hid (HUE.out.below hbf)
    have HBF := Lib.hid (below_next HBE.out hbf)
    clear hbf
    go_wp2_with fail
    refine (equal_is _ _ _ _ _ _ L L true _ HUF.out HTF.out (by simp)).mono ?_
    rintro e wg ⟨rfl, hbg⟩
    have HBG := Lib.hid (below_next HBF.out hbg)
    clear hbg
    go_wp2_with fail
    go_ret
    exact ⟨rfl, HBG.out⟩

end Go.Proofs.YtbkhdpocmmjnbaaDoor

/- Rows of bytes that are written. -/
namespace Go.Proofs.YtbkhdpocmmjnbaaDoor
open Go Go.RowKit Go.Maps

def ByteV (B : Nat) (v : Value) (n : Nat) (W : World) : Prop := ∃ bs : List UInt8, bs.length = n ∧ W.ownsRow B 5 1 v n (bs.map u8V)
theorem grown_set (W : World) (b k : Nat) (x : Value) : W.grownBy (W.setCell ⟨b, k, none⟩ x) (some b) :=
  ⟨rfl, rfl, rfl, by simp [World.setCell], fun i _ hi => Below.heap_setCell _ _ _ i (fun e => hi (by rw [e]))⟩
theorem byteV_ent {B : Nat} {x : VEnt} {W : World} (h : EntNew B x W) : ByteV B x.1 x.2.data.length W := ⟨x.2.data, rfl, h.1⟩
theorem ByteV.le {B B' n : Nat} {v : Value} {W : World} (h : ByteV B v n W) (hB : B' ≤ B) : ByteV B' v n W := by
  obtain ⟨bs, h1, h2⟩ := h
  exact ⟨bs, h1, owns_le20 h2 hB⟩
theorem ByteV.below {B n : Nat} {v : Value} {W C : World} (h : ByteV B v n W) (hb : Below W.heap.size W C) : ByteV B v n C := by
  obtain ⟨bs, h1, h2⟩ := h
  exact ⟨bs, h1, own_below h2 hb⟩
theorem ByteV.turn {B n : Nat} {v : Value} {A C : World} {row : Option Nat} (h : ByteV B v n A) (hg : A.grownBy C row) (hr : ∀ r, row = some r → ∃ o : Obj, A.heap[r]? = some o ∧ o.isCells = false) : ByteV B v n C := by
  obtain ⟨bs, h1, h2⟩ := h
  exact ⟨bs, h1, own_turn h2 hg hr⟩
theorem ByteV.shape {B n : Nat} {v : Value} {W : World} (h : ByteV B v n W) : ∃ a c, v = .slice a n c ∧ n ≤ c ∧ c ≤ maxLen := by
  obtain ⟨bs, _, h2⟩ := h
  exact owns_shape h2
theorem take_set_map {cur : List Value} {bs : List UInt8} {n j : Nat} {x : UInt8} (h : cur.take n = bs.map u8V) : (cur.set j (u8V x)).take n = (bs.set j x).map u8V := by
  rw [List.take_set, h, List.map_set]
/-- A byte stored anywhere leaves rows of bytes rows of bytes. -/
theorem ByteV.set {B n g j : Nat} {v : Value} {W : World} (h : ByteV B v n W) (x : UInt8) : ByteV B v n (W.setCell ⟨g, j, none⟩ (u8V x)) := by
  obtain ⟨bs, h1, h2, h3⟩ := h
  rcases h3 with ⟨rfl, h4⟩ | ⟨g', cap, cur, rfl, hb, hh, hn, hm, hs, ht⟩
  · exact ⟨bs, h1, h2, .inl ⟨rfl, h4⟩⟩
  · by_cases hg : g = g'
    · subst hg
      refine ⟨bs.set j x, by rw [List.length_set]; exact h1, by rw [List.length_map, List.length_set, h1]; omega, .inr ⟨g, cap, cur.setIfInBounds j (u8V x), rfl, hb, set20 hh _, hn, hm, by simp [hs], ?_⟩⟩
      rw [Array.toList_setIfInBounds]
      exact take_set_map ht
    · exact ⟨bs, h1, h2, .inr ⟨g', cap, cur, rfl, hb, setOther20 hh (fun e => hg e.symm) _, hn, hm, hs, ht⟩⟩
/-- A byte of a row: where it lies, that it may be written. -/
theorem ByteV.at {B n j : Nat} {v : Value} {W : World} (h : ByteV B v n W) (hj : j < n) : ∃ (g cap : Nat) (x : UInt8) (cur : Array Value), v = .slice (some ⟨g, 0, none⟩) n cap ∧ n ≤ cap ∧ cap ≤ maxLen ∧ B ≤ g ∧ W.heap[g]? = some (.cells cur 5 (0, 0)) ∧ W.cell? ⟨g, j, none⟩ = some (.int .u8 (x.toNat : Int)) ∧ W.frozen? ⟨g, j, none⟩ = false := by
  obtain ⟨bs, h1, h2, h3⟩ := h
  rcases h3 with ⟨_, h4⟩ | ⟨g, cap, cur, rfl, hb, hh, hn, hm, hs, ht⟩
  · omega
  · have hjb : j < bs.length := by omega
    refine ⟨g, cap, bs[j], cur, rfl, hn, hm, hb, hh, ?_, frozen20 hh⟩
    rw [cell20 hh]
    have h5 : (cur.toList.take (n * 1))[j]? = (bs.map u8V)[j]? := by rw [ht]
    rw [List.getElem?_take, if_pos (by omega), List.getElem?_map, List.getElem?_eq_getElem hjb] at h5
    rw [← Array.getElem?_toList]
    exact h5
theorem row_set {W : World} {B sz m g j : Nat} {t : TypeId} {v x : Value} {xs : List Value} {cur : Array Value} (h : W.ownsRow B t sz v m xs) (hg : W.heap[g]? = some (.cells cur 5 (0, 0))) (ht : t ≠ 5) : (W.setCell ⟨g, j, none⟩ x).ownsRow B t sz v m xs := by
  refine h.kept (grown_set W g j x) ?_
  cases hv : v.ownBlock with
  | none => exact .inl rfl
  | some b =>
    refine .inr fun e => ?_
    obtain ⟨c, hc⟩ := own_block h hv
    have e := Option.some.inj e
    subst e
    rw [hg] at hc
    cases hc
    exact ht rfl
theorem blk_set {W : World} {b g j : Nat} {t : TypeId} {x : Value} {cs cur : Array Value} (h : W.heap[b]? = some (.cells cs t (0, 0))) (hg : W.heap[g]? = some (.cells cur 5 (0, 0))) (ht : t ≠ 5) : (W.setCell ⟨g, j, none⟩ x).heap[b]? = some (.cells cs t (0, 0)) := by
  refine setOther20 h (fun e => ?_) x
  subst e
  rw [hg] at h
  cases h
  exact ht rfl
/-- What a round has kept of what is no cells, and of rows of strings. -/
structure KK (W C : World) : Prop where
  o : KeepsOthers W C
  s : KeepTy 9 W C
theorem KK.refl (W : World) : KK W W := ⟨KeepsOthers.refl W, KeepTy.refl W⟩
theorem KK.below {W C D : World} (h : KK W C) (hb : Below C.heap.size C D) : KK W D := ⟨h.o.trans ⟨hb.size, fun k _o hk _ => (hb.block k (Array.getElem?_eq_some_iff.1 hk).1).trans hk⟩, h.s.trans (KeepTy.below hb)⟩
theorem KK.set {W C : World} {g j : Nat} {x : Value} {cur : Array Value} (h : KK W C) (hg : C.heap[g]? = some (.cells cur 5 (0, 0))) : KK W (C.setCell ⟨g, j, none⟩ x) :=
  ⟨h.o.trans (KeepsOthers.setCell _ _ _), h.s.trans (KeepTy.grown (grown_set C g j x) fun r e cs hcs => by cases e; rw [hg] at hcs; simp at hcs)⟩
/-- The law for a range whose loop variable is boxed in slot s. -/
theorem wp_rangeB {P : Program} {α : Type} {g : Operand} {ps : Array Tmp} {assign body : Code} {Q : Exit → Act → World → Prop} {a : Act} {w : World} {gf : Nat} {lb : Array Value} (hg : a.eval g = .func (.func gf) #[] lb) (eg : ∀ args w, (callFunc gf args).run P w = .ok (.enter gf args) w)
    {encs : α → Array Value} {D : α → World → Prop} {Kp : World → World → Prop} {S Sp : List α → Prop} {N : Nat} (hseq : SeqD P gf lb encs D Kp S Sp N w)
    (hKt : ∀ {A B C : World}, Kp A B → Kp B C → Kp A C) (hKb : ∀ (W : World) (l : Nat) (o o' : Obj), w.heap.size ≤ l → W.heap[l]? = some o → o.isCells = false → o.isWalk = false → Kp W (W.putObj l o')) (hps : ∀ x, (encs x).size = ps.size)
    (I : List α → World → Prop) (Ix : Code → List α → World → Prop) (s : Nat) (Rx : List α → α → Nat → World → Prop) (hI : OwnFrom w.heap.size I) (hIx : ∀ c, OwnFrom w.heap.size (Ix c))
    (hRx : OwnFrom w.heap.size (fun (s : List α × α × Nat) W => Rx s.1 s.2.1 s.2.2 W)) (h0 : I [] w)
    (hassign : ∀ (l : Nat) (pre : List α) (x : α) (W : World), w.heap.size < W.heap.size → I pre W → D x W → pre.length < N → assign.wpIn (Fence.wide.inRound l) 2 P (Exit.then (fun a₁ B => KeepsOthers W B ∧ Kp W B ∧ ∃ b, Rx pre x b B ∧ a₁ = { tmps := ((ps.zip (encs x)).foldl (fun t (p, v) => t.setIfInBounds p v) a.tmps).setIfInBounds s (.pointer (some ⟨b, 0, none⟩)), defers := [] }) (fun _ _ _ => False)) { tmps := (ps.zip (encs x)).foldl (fun t (p, v) => t.setIfInBounds p v) a.tmps, defers := [] } W)
    (hbody : ∀ (l : Nat) (pre : List α) (x : α) (b : Nat) (W : World), Rx pre x b W → body.wpIn (Fence.wide.inRound l) 2 P (roundEnd Kp I Ix (pre ++ [x]) W) { tmps := ((ps.zip (encs x)).foldl (fun t (p, v) => t.setIfInBounds p v) a.tmps).setIfInBounds s (.pointer (some ⟨b, 0, none⟩)), defers := [] } W)
    (hdone : ∀ (Dl : Nat) (xs : List α) (W : World), w.heap.size ≤ Dl → S xs → I xs W → W.heap[Dl]? = some (.deferred (some [])) → Q .normal { a with defers := { target := .collected Dl, args := #[] } :: a.defers } W)
    (hstop : ∀ (Dl : Nat) (c : Code) (pre : List α) (W : World), w.heap.size ≤ Dl → Sp pre → Ix c pre W → W.heap[Dl]? = some (.deferred (some [])) → c.wp P Q { a with defers := { target := .collected Dl, args := #[] } :: a.defers } W) :
    (Code.rangeFunc g ps assign body).wp P Q a w := by
  refine wp_rangeD hg eg hseq hKt hKb hps I Ix (fun pre x a₁ W => ∃ b, Rx pre x b W ∧ a₁ = { tmps := ((ps.zip (encs x)).foldl (fun t (p, v) => t.setIfInBounds p v) a.tmps).setIfInBounds s (.pointer (some ⟨b, 0, none⟩)), defers := [] }) hI hIx ?_ h0 hassign ?_ hdone hstop
  · rintro ⟨pre, x, a₁⟩ W W' row ⟨b, h1, h2⟩ hg hr
    exact ⟨b, hRx (pre, x, b) W W' row h1 hg hr, h2⟩
  · rintro l pre x a₁ W ⟨b, h1, rfl⟩
    exact hbody l pre x b W h1
theorem op_row {S : Nat → Prop} {w : World} {a : Option Addr} {c : Nat} {x : POp} (hd : DataAt S w (.slice a x.en.data.length c) x.en.data) (hok : OpOk x) : OpsAt (fun _ => True) (w.alloc (.cells #[.int .i64 x.kind, .string x.en.path, .int .i64 x.en.kind, .int .i64 x.en.mode, .int .i64 x.en.time, .slice a x.en.data.length c, .string x.en.link, .string x.src, .string x.dst, .bool x.below] 64)) (.slice (some ⟨w.heap.size, 0, none⟩) 1 1) [x] := by
  refine ⟨opC (.slice a x.en.data.length c) x, RowAt.weak (row_new (cells := opC (.slice a x.en.data.length c) x) (new20 w _) rfl (by decide)) (fun _ _ => trivial), ⟨opC (.slice a x.en.data.length c) x, [], by simp, ⟨.slice a x.en.data.length c, rfl, ?_, hok⟩, rfl⟩⟩
  exact data_mono (hd.below ((Below.refl _ _).alloc (Nat.le_refl _) _)) (fun _ _ => trivial)
theorem Tryd.appU8 : AppTy Tryd.prog 34 5 1 1 := AppTy.mk' (z := .int .u8 0) Tryd.underlying34 (by kernel_rfl) rfl (by decide) (by decide)
theorem inc_u8 (x : UInt8) : IntKind.u8.wrap ((x.toNat : Int) + 1) = ((x + 1).toNat : Int) := by
  rw [IntKind.wrap_u8, UInt8.toNat_add, show (1 : UInt8).toNat = 1 from rfl]
  have := x.toNat_lt
  omega
theorem ByteV.nil (B : Nat) (W : World) : ByteV B (.slice none 0 0) 0 W := ⟨[], rfl, World.ownsRow_nil _ _ _ _⟩
theorem get_w (S : Nat → Prop) (tb mb : Nat) (L : List Ent) (p : ByteArray) (w : World) (ht : TreeAt S w tb mb L) (hps : p.size ≤ maxLen) :
    Calls Tryd.prog 19 #[.pointer (some ⟨tb, 0, none⟩), .string p] w fun e w' => ∃ (g : Ent) (a : Option Addr) (c : Nat) (ok : Bool), e = .returned (.tuple #[.agg #[.string g.path, .int .i64 g.kind, .int .i64 g.mode, .int .i64 g.time, .slice a g.data.length c, .string g.link], .bool ok]) ∧ g.data.length ≤ c ∧ c ≤ maxLen ∧ ByteV w.heap.size (.slice a g.data.length c) g.data.length w' ∧ Below w.heap.size w w' :=
  (get_any S tb mb L p w ht hps).mono fun e w' ⟨hb, hr⟩ => by
    cases hf : findE L p with
    | none =>
      rw [hf] at hr
      exact ⟨⟨⟨#[]⟩, 0, 0, 0, [], ⟨#[]⟩⟩, none, 0, false, hr, Nat.le_refl _, by decide, ByteV.nil _ _, hb⟩
    | some f =>
      rw [hf] at hr
      obtain ⟨v, rfl, ho⟩ := hr
      obtain ⟨a, c, rfl, h1, h2⟩ := owns_shape ho
      exact ⟨f, a, c, true, rfl, h1, h2, ⟨f.data, rfl, ho⟩, hb⟩
/-- The trees of the law, beside what is written. -/
structure Two (c0 tb tm ub um bx : Nat) (St Su : Nat → Prop) (L : List Ent) (W : World) : Prop where
  t : TreeAt St W tb tm L
  u : TreeAt Su W ub um L
  st : ∀ k, St k → c0 ≤ k
  su : ∀ k, Su k → c0 ≤ k
  box : W.cell? ⟨bx, 0, none⟩ = some (.pointer (some ⟨tb, 0, none⟩))
theorem Two.below {c0 tb tm ub um bx : Nat} {St Su : Nat → Prop} {L : List Ent} {W C : World} (h : Two c0 tb tm ub um bx St Su L W) (hb : Below W.heap.size W C) : Two c0 tb tm ub um bx St Su L C :=
  ⟨h.t.below hb, h.u.below hb, h.st, h.su, (hb.cell (block_lt h.box)).trans h.box⟩
theorem Two.write {c0 tb tm ub um bx g : Nat} {St Su : Nat → Prop} {L : List Ent} {W C : World} (h : Two c0 tb tm ub um bx St Su L W) (hc : tb < c0 ∧ tm < c0 ∧ ub < c0 ∧ um < c0 ∧ bx < c0) (hg : W.grownBy C (some g)) (h0 : c0 ≤ g) (h1 : ¬ St g) (h2 : ¬ Su g) : Two c0 tb tm ub um bx St Su L C :=
  ⟨h.t.other hg (by omega) (by omega) h1, h.u.other hg (by omega) (by omega) h2, h.st, h.su, hg.cell h.box (fun e => by have := Option.some.inj e; simp only at this; omega)⟩
theorem grown_any {W C : World} {row : Option Nat} (h : W.grownBy C row) (hr : row = none) (b : Nat) : W.grownBy C (some b) := ⟨h.os, h.tape, h.output, h.size, fun k hk _ => h.block k hk (by rw [hr]; simp)⟩
theorem Two.writeO {c0 tb tm ub um bx : Nat} {St Su : Nat → Prop} {L : List Ent} {W C : World} {row : Option Nat} (h : Two c0 tb tm ub um bx St Su L W) (hc : tb < c0 ∧ tm < c0 ∧ ub < c0 ∧ um < c0 ∧ bx < c0) (hw : c0 ≤ W.heap.size) (hg : W.grownBy C row) (h0 : ∀ g, row = some g → c0 ≤ g ∧ ¬ St g ∧ ¬ Su g) : Two c0 tb tm ub um bx St Su L C := by
  cases row with
  | none => exact h.write hc (grown_any hg rfl W.heap.size) hw (fun hs => Nat.lt_irrefl _ (h.t.lt _ hs)) (fun hs => Nat.lt_irrefl _ (h.u.lt _ hs))
  | some g => exact h.write hc hg (h0 g rfl).1 (h0 g rfl).2.1 (h0 g rfl).2.2
theorem Two.lt {c0 tb tm ub um bx : Nat} {St Su : Nat → Prop} {L : List Ent} {W : World} (h : Two c0 tb tm ub um bx St Su L W) : (∀ k, St k → k < W.heap.size) ∧ ∀ k, Su k → k < W.heap.size := ⟨h.t.lt, h.u.lt⟩

end Go.Proofs.YtbkhdpocmmjnbaaDoor

/- The law FiletreeOwns: its walk. -/
namespace Go.Proofs.YtbkhdpocmmjnbaaDoor
open Go Go.RowKit Go.Maps
attribute [local go_sem] Oper.semAt_some
set_option maxRecDepth 100000 in
set_option maxHeartbeats 4000000 in
theorem owns_walk (l : List POp) (v : Value) (mo : POp) (dv : Value) (w : World) (hv : OpsAt (fun _ => True) w v l) (hd : DataAt (fun _ => True) w dv mo.en.data) (hok : OpOk mo) (henv : Env w) :
    Calls Tryd.prog 9 #[v, opV dv mo] w fun e w' => e = .returned (.bool true) ∧ Below w.heap.size w w' := by
  obtain ⟨a, cap, rfl, hc, hm, -⟩ := SeqAt.shape hv OpR.len
  obtain ⟨ad, cd, rfl, hcd, hmd⟩ := hd.slice
  unfold maxLen at hm hmd
  have HOK := Lib.hid hok
  obtain ⟨n, hn⟩ : ∃ n, n = l.length := ⟨_, rfl⟩
  have HN := Lib.hid hn
  rw [← hn] at hc hv ⊢
  clear hn
  unfold opV
  refine (callsIn_wide (n := 4)).1 (callsIn_of_wp_marks Tryd.func9 rfl trivial ?_ rfl)
  simp only [Tryd.ntmps9, List.size_toArray, List.length_cons, List.length_nil, Nat.reduceAdd, Nat.reduceSub, Array.replicate_succ, Array.replicate_zero, List.push_toArray, List.append_toArray, List.nil_append, List.cons_append]
  refine (wpIn_wide (n := 4)).2 ?_
  go_wp2_with fail
  obtain ⟨w0, hw0⟩ : ∃ w0, w0 = w.alloc (.cells #[.int .i64 mo.kind, .string mo.en.path, .int .i64 mo.en.kind, .int .i64 mo.en.mode, .int .i64 mo.en.time, .slice ad mo.en.data.length cd, .string mo.en.link, .string mo.src, .string mo.dst, .bool mo.below] 64) := ⟨_, rfl⟩
  rw [← hw0]
  have hb0 : Below w.heap.size w w0 := by rw [hw0]; exact (Below.refl _ _).alloc (Nat.le_refl _) _
  have HB0 := Lib.hid hb0
  have HX0 := Lib.hid (show w0.heap[w.heap.size]? = some (.cells #[.int .i64 mo.kind, .string mo.en.path, .int .i64 mo.en.kind, .int .i64 mo.en.mode, .int .i64 mo.en.time, .slice ad mo.en.data.length cd, .string mo.en.link, .string mo.src, .string mo.dst, .bool mo.below] 64 (0, 0)) by rw [hw0]; exact new20 w _)
  have HXA := Lib.hid (fun (W : World) (hb : Below w0.heap.size w0 W) => (hb.block w.heap.size (lt20 HX0.out)).trans HX0.out)
  have HV := Lib.hid (hv.below hb0)
  have HD := Lib.hid (hd.below hb0)
  have HE := Lib.hid (henv.below hb0)
  clear hw0 hb0 hv hd henv hok
  refine (awakeT_any w0 HE.out).mono ?_
  rintro e w1 ⟨rfl, hb1⟩
  have HB1 := Lib.hid hb1
  clear hb1
  go_wp2_with fail
  refine (wide_any _ l _ _ (HV.out.below HB1.out)).mono ?_
  rintro e w2 ⟨wb, rfl, hlw, hb2⟩
  have HSM := Lib.hid hlw
  clear hlw
  have HB2 := Lib.hid (below_next HB1.out hb2)
  have HX2 := Lib.hid (HXA.out _ HB2.out)
  clear hb2
  cases wb
  case true =>
    go_wp2_with fail
    exact ⟨_, results_tmp rfl _ _ _, rfl, HB0.out.trans (HB2.out.mono HB0.out.size)⟩
  have c0 := cell20 (k := 0) HX2.out
  have c1 := cell20 (k := 1) HX2.out
  have c2 := cell20 (k := 2) HX2.out
  have c3 := cell20 (k := 3) HX2.out
  have c4 := cell20 (k := 4) HX2.out
  have c5 := cell20 (k := 5) HX2.out
  have c6 := cell20 (k := 6) HX2.out
  have c7 := cell20 (k := 7) HX2.out
  have c8 := cell20 (k := 8) HX2.out
  have c9 := cell20 (k := 9) HX2.out
  simp only [List.getElem?_toArray, List.getElem?_cons_succ, List.getElem?_cons_zero] at c0 c1 c2 c3 c4 c5 c6 c7 c8 c9
  go_wp2_with fail
  have HRW := Lib.hid (op_row (HD.out.below HB2.out) HOK.out)
  refine (wide_any (fun _ => True) [mo] (.slice (some ⟨w2.heap.size, 0, none⟩) 1 1) _ HRW.out).mono ?_
  rintro e w3 ⟨wb, rfl, -, hb3⟩
  have HB3 := Lib.hid (below_next (HB2.out.alloc HB2.out.size _) hb3)
  clear hb3 c0 c1 c2 c3 c4 c5 c6 c7 c8 c9
  cases wb
  case true =>
    go_wp2_with fail
    exact ⟨_, results_tmp rfl _ _ _, rfl, HB0.out.trans (HB3.out.mono HB0.out.size)⟩
  go_wp2_with fail
  refine (new_any _).mono ?_
  rintro e w4 ⟨rfl, ht4, hb4, hs4⟩
  obtain ⟨tm, htm⟩ : ∃ tm, tm = w3.heap.size := ⟨_, rfl⟩
  rw [← htm] at ht4 hs4 ⊢
  have HT4 := Lib.hid ht4
  have HTM := Lib.hid (show w0.heap.size ≤ tm by rw [htm]; exact HB3.out.size)
  have HB4 := Lib.hid (below_next HB3.out hb4)
  have HS4 := Lib.hid hs4
  clear ht4 hb4 hs4 htm
  go_wp2_with fail
  refine (new_any _).mono ?_
  rintro e w5 ⟨rfl, ht5, hb5, hs5⟩
  obtain ⟨um, hum⟩ : ∃ um, um = w4.heap.size := ⟨_, rfl⟩
  rw [← hum] at ht5 hs5 ⊢
  have HU5 := Lib.hid ht5
  have HUM := Lib.hid (show um = tm + 2 by rw [hum, HS4.out])
  have HB5 := Lib.hid (below_next HB4.out hb5)
  have HT5 := Lib.hid (HT4.out.below hb5)
  have HS5 := Lib.hid hs5
  clear ht5 hb5 hs5 hum
  go_wp2_with fail
  obtain ⟨w6, hw6⟩ : ∃ w6, w6 = w5.alloc (.cells #[.pointer (some ⟨tm + 1, 0, none⟩)] 24) := ⟨_, rfl⟩
  have hb6 : Below w5.heap.size w5 w6 := by rw [hw6]; exact (Below.refl _ _).alloc (Nat.le_refl _) _
  obtain ⟨bx, hbx⟩ : ∃ bx, bx = w5.heap.size := ⟨_, rfl⟩
  obtain ⟨z0, hc0⟩ : ∃ z0, z0 = w6.heap.size := ⟨_, rfl⟩
  have HC0 := Lib.hid (show w0.heap.size ≤ z0 by rw [hc0]; exact Nat.le_trans HB5.out.size hb6.size)
  have HLC := Lib.hid (show tm + 1 < z0 ∧ tm < z0 ∧ um + 1 < z0 ∧ um < z0 ∧ bx < z0 by
    have h1 := HS5.out
    have h2 := HUM.out
    have h3 : w6.heap.size = w5.heap.size + 1 := by rw [hw6]; simp
    omega)
  have HBXN := Lib.hid (show bx ≠ um ∧ bx ≠ tm from by have h1 := HS5.out; have h2 := HUM.out; omega)
  have HTW := Lib.hid (show Two z0 (tm + 1) tm (um + 1) um bx (fun _ => False) (fun _ => False) [] w6 from ⟨HT5.out.below hb6, HU5.out.below hb6, fun _ h => h.elim, fun _ h => h.elim, by rw [hbx, hw6]; exact cell20 (new20 w5 _)⟩)
  have HB6 := Lib.hid (below_next HB5.out hb6)
  have HCW := Lib.hid (show z0 ≤ w6.heap.size by omega)
  rw [← hw6, ← hbx]
  clear hw6 hb6 hbx hc0
  go_loopw [31] (fun i wr => ∃ (k : Nat) (L : List Ent) (St Su : Nat → Prop), k ≤ n ∧ i = .int .i64 k ∧ Two z0 (tm + 1) tm (um + 1) um bx St Su L wr ∧ Below w0.heap.size w0 wr ∧ z0 ≤ wr.heap.size) (fun i _ => n - (intOf i).toNat)
  case atStart => exact ⟨0, [], _, _, Nat.zero_le _, rfl, HTW.out, HB6.out, HCW.out⟩
  case round =>
    obtain ⟨k, L, St, Su, hk, rfl, htw, hbr, hcw⟩ := hrel
    have HTR := Lib.hid htw
    have HBR := Lib.hid hbr
    have HCR := Lib.hid hcw
    clear htw hbr hcw
    by_cases hlt : k < n
    · obtain ⟨x, hx⟩ : ∃ x, l[k]? = some x := ⟨l[k]'(by rw [← HN.out]; exact hlt), by simp⟩
      obtain ⟨b, o, dv, rfl, hb, hd, hok, hq⟩ := ops_at HV.out hx
      obtain ⟨a1, cap1, rfl, hd1, hd2⟩ := hd.slice
      have hq2 : ∀ j, j < 10 → ∀ u, (opC (.slice a1 x.en.data.length cap1) x)[j]? = some u → wr.cell? ⟨b, o + k * 10 + j, none⟩ = some u := fun j hj u hu => by
        have h1 := (hq j hj).trans hu
        exact (HBR.out.cell (block_lt h1)).trans h1
      have q0 := hq2 0 (by omega) _ rfl
      have q1 := hq2 1 (by omega) _ rfl
      have q2 := hq2 2 (by omega) _ rfl
      have q3 := hq2 3 (by omega) _ rfl
      have q4 := hq2 4 (by omega) _ rfl
      have q5 := hq2 5 (by omega) _ rfl
      have q6 := hq2 6 (by omega) _ rfl
      have q7 := hq2 7 (by omega) _ rfl
      have q8 := hq2 8 (by omega) _ rfl
      have q9 := hq2 9 (by omega) _ rfl
      simp only [Nat.add_zero] at q0
      have HD1 := Lib.hid hd
      have HOK1 := Lib.hid hok
      have hdl : x.en.data.length ≤ 100 := ((HSM.out (by simp)).2 x (List.mem_of_getElem? hx)).2.2.2.1
      unfold maxLen at hd2
      clear hx hd hok hq hq2
      go_wp2_with fail
      obtain ⟨W, hW⟩ : ∃ W, W = wr.alloc (.cells #[.int .i64 x.kind, .string x.en.path, .int .i64 x.en.kind, .int .i64 x.en.mode, .int .i64 x.en.time, .slice a1 x.en.data.length cap1, .string x.en.link, .string x.src, .string x.dst, .bool x.below] 64) := ⟨_, rfl⟩
      rw [← hW]
      have HXB := Lib.hid (show W.heap[wr.heap.size]? = some (.cells #[.int .i64 x.kind, .string x.en.path, .int .i64 x.en.kind, .int .i64 x.en.mode, .int .i64 x.en.time, .slice a1 x.en.data.length cap1, .string x.en.link, .string x.src, .string x.dst, .bool x.below] 64 (0, 0)) by rw [hW]; exact new20 wr _)
      have HWL := Lib.hid (show Below wr.heap.size wr W by rw [hW]; exact (Below.refl _ _).alloc (Nat.le_refl _) _)
      have HTW2 := Lib.hid (HTR.out.below HWL.out)
      have HBW := Lib.hid (below_next HBR.out HWL.out)
      clear hW q0 q1 q2 q3 q4 q5 q6 q7 q8 q9
      refine (do_any _ (fun _ => True) _ _ L x (.slice a1 x.en.data.length cap1) _ HTW2.out.u (HD1.out.below HBW.out) HOK1.out (HE.out.below HBW.out)).mono ?_
      rintro e wu hr
      obtain ⟨rfl, htu, hgu⟩ := hr
      have HTU := Lib.hid htu
      have HTT := Lib.hid (HTW2.out.t.other hgu (by have := HUM.out; omega) (by have := HUM.out; omega) (fun h => by have h1 := HTW2.out.st _ h; have h2 := HLC.out; omega))
      have HBU := Lib.hid (HBW.out.grown hgu HBW.out.size (fun k e => by cases e; have h1 := HTM.out; have h2 := HUM.out; omega))
      have HXU := Lib.hid ((hgu.block wr.heap.size (lt20 HXB.out) (fun e => by have h1 := Option.some.inj e; have h2 := HLC.out; have h3 := HCR.out; omega)).trans HXB.out)
      have HBXU := Lib.hid (hgu.cell HTW2.out.box (fun e => by have h1 := Option.some.inj e; simp only at h1; have h2 := HBXN.out; omega))
      have HLU := Lib.hid hgu.size
      have HDU := Lib.hid (HD1.out.below HBU.out)
      clear hgu htu
      have hxl := lt20 HXU.out
      have c0 := cell20 (k := 0) HXU.out
      have c1 := cell20 (k := 1) HXU.out
      have c2 := cell20 (k := 2) HXU.out
      have c3 := cell20 (k := 3) HXU.out
      have c4 := cell20 (k := 4) HXU.out
      have c5 := cell20 (k := 5) HXU.out
      have c6 := cell20 (k := 6) HXU.out
      have c7 := cell20 (k := 7) HXU.out
      have c8 := cell20 (k := 8) HXU.out
      have c9 := cell20 (k := 9) HXU.out
      simp only [List.getElem?_toArray, List.getElem?_cons_succ, List.getElem?_cons_zero] at c0 c1 c2 c3 c4 c5 c6 c7 c8 c9
      have HOR := Lib.hid (World.ownsRow_made (base := wu.heap.size) (e := 5) (size := 1) wu #[] 0 (Nat.le_refl _) (by unfold maxLen; omega) rfl)
      have HDA := Lib.hid (show RowAt (fun _ => True) (wu.alloc (.cells #[] 5)) 1 (.slice a1 x.en.data.length cap1) x.en.data.length (x.en.data.map u8V) from DataAt.below HDU.out ((Below.refl _ _).alloc (Nat.le_refl _) _))
      go_upto_region 11 with (at_builtin; go_must (refine wpList_appn Tryd.appU8 rfl _ _ rfl wu.heap.size _ 0 [] rfl HOR.out _ x.en.data.length (x.en.data.map u8V) rfl HDA.out (u8_one _) (by omega) (by simp) ?_); intro v6 wz hown6 hgrow6; go_must (rw [Nat.zero_add, List.nil_append] at hown6); have HO6 := Lib.hid hown6; have HG6 := Lib.hid hgrow6; go_must (obtain ⟨a6, k6, rfl, hn6, hm6⟩ := owns_shape hown6); go_must (have HXZ := Lib.hid ((hgrow6.block wr.heap.size (Nat.lt_of_lt_of_le hxl (by simp)) (fun e => Nat.ne_of_lt hxl (Option.some.inj e))).trans (alloc20 HXU.out _))); go_must (have m5 := cell20 (k := 5) HXZ.out; have p5 := frozen20 (k := 5) HXZ.out; simp only [List.getElem?_toArray, List.getElem?_cons_succ, List.getElem?_cons_zero] at m5); clear hown6 hgrow6 c0 c1 c2 c3 c4 c5 c6 c7 c8 c9)
      obtain ⟨wx, hwx⟩ : ∃ wx, wx = wz.setCell ⟨wr.heap.size, 5, none⟩ (.slice a6 x.en.data.length k6) := ⟨_, rfl⟩
      rw [← hwx]
      have hgx : wz.grownBy wx (some wr.heap.size) := by rw [hwx]; exact grown_set wz _ _ _
      have HXX := Lib.hid (show wx.heap[wr.heap.size]? = some (.cells #[.int .i64 x.kind, .string x.en.path, .int .i64 x.en.kind, .int .i64 x.en.mode, .int .i64 x.en.time, .slice a6 x.en.data.length k6, .string x.en.link, .string x.src, .string x.dst, .bool x.below] 64 (0, 0)) by rw [hwx]; exact set20 HXZ.out _)
      have hzz : wz.heap.size = wx.heap.size := by rw [hwx]; simp [World.setCell]
      have hgz : wu.grownBy wz (some wu.heap.size) := (grown_of_below ((Below.refl _ _).alloc (Nat.le_refl _) _) _).trans HG6.out
      have HTZ := Lib.hid ((HTT.out.other hgz (by have h1 := HLC.out; have h2 := HCR.out; omega) (by have h1 := HLC.out; have h2 := HCR.out; omega) (fun h => by have h1 := HTT.out.lt _ h; omega)).other hgx (by have h1 := HLC.out; have h2 := HCR.out; omega) (by have h1 := HLC.out; have h2 := HCR.out; omega) (fun h => by have h1 := HTR.out.t.lt _ h; omega))
      have HUZ := Lib.hid ((HTU.out.other hgz (by have h1 := HLC.out; have h2 := HCR.out; omega) (by have h1 := HLC.out; have h2 := HCR.out; omega) (fun h => by have h1 := HTU.out.lt _ h; omega)).other hgx (by have h1 := HLC.out; have h2 := HCR.out; omega) (by have h1 := HLC.out; have h2 := HCR.out; omega) (fun h => by
        have h2 := lt20 HXB.out
        rcases h with h | h
        · have h1 := HTR.out.u.lt _ h; omega
        · omega))
      have HBZ := Lib.hid ((HBU.out.grown hgz HBU.out.size (fun k e => by cases e; exact HBU.out.size)).grown hgx (Nat.le_trans HBU.out.size hgz.size) (fun k e => by cases e; exact HBR.out.size))
      have HBXZ := Lib.hid (hgx.cell (hgz.cell HBXU.out (fun e => by have h1 := Option.some.inj e; have h2 := HLC.out; have h3 := HCR.out; simp only at h1; omega)) (fun e => by have h1 := Option.some.inj e; have h2 := HLC.out; have h3 := HCR.out; simp only at h1; omega))
      have HO7 := Lib.hid (HO6.out.kept hgx (.inr (fun e => by have h1 := (HO6.out.lt _ e).1; omega)))
      have HLZ := Lib.hid (And.intro hgz.size (Nat.le_of_eq hzz))
      clear hwx hgx hgz m5 p5
      have hbi := HBXZ.out
      have c0 := cell20 (k := 0) HXX.out
      have c1 := cell20 (k := 1) HXX.out
      have c2 := cell20 (k := 2) HXX.out
      have c3 := cell20 (k := 3) HXX.out
      have c4 := cell20 (k := 4) HXX.out
      have c5 := cell20 (k := 5) HXX.out
      have c6 := cell20 (k := 6) HXX.out
      have c7 := cell20 (k := 7) HXX.out
      have c8 := cell20 (k := 8) HXX.out
      have c9 := cell20 (k := 9) HXX.out
      simp only [List.getElem?_toArray, List.getElem?_cons_succ, List.getElem?_cons_zero] at c0 c1 c2 c3 c4 c5 c6 c7 c8 c9
      go_wp2_with fail
      refine (do_any _ _ _ _ L x (.slice a6 x.en.data.length k6) _ HTZ.out (data_of_owns HO7.out) HOK1.out (HE.out.below HBZ.out)).mono ?_
      rintro e wt hr
      obtain ⟨rfl, htt, hgt⟩ := hr
      obtain ⟨St2, hSt2⟩ : ∃ St2 : Nat → Prop, St2 = fun k => St k ∨ (wx.heap.size ≤ k ∧ k < wt.heap.size) := ⟨_, rfl⟩
      obtain ⟨Su2, hSu2⟩ : ∃ Su2 : Nat → Prop, Su2 = fun k => Su k ∨ (W.heap.size ≤ k ∧ k < wu.heap.size) := ⟨_, rfl⟩
      obtain ⟨M, hM⟩ : ∃ M, M = (doP L x).1 := ⟨_, rfl⟩
      have HWS := Lib.hid (Nat.le_trans HCR.out HWL.out.size)
      have HW8 := Lib.hid (show Two z0 (tm + 1) tm (um + 1) um bx St2 Su2 M wt from ⟨by rw [hSt2, hM]; exact htt, by
        rw [hSu2, hM]
        exact HUZ.out.other hgt (by have := HUM.out; omega) (by have := HUM.out; omega) (fun h => by
          have h2 := HLC.out
          rcases h with h | h
          · have h1 := HTR.out.su _ h; omega
          · have h3 := HWS.out; omega), fun k hk => by
        rw [hSt2] at hk
        rcases hk with hk | hk
        · exact HTR.out.st _ hk
        · have h1 := HLZ.out; have h2 := HLU.out; have h3 := HWS.out; omega, fun k hk => by
        rw [hSu2] at hk
        rcases hk with hk | hk
        · exact HTR.out.su _ hk
        · have h3 := HWS.out; omega, hgt.cell HBXZ.out (fun e => by have h1 := Option.some.inj e; simp only at h1; have h2 := HBXN.out; omega)⟩)
      have HO8 := Lib.hid (HO7.out.kept hgt (.inr (fun e => by have h1 := (HO7.out.lt _ e).1; have h2 := HLC.out; have h3 := HCR.out; omega)))
      have HX8 := Lib.hid ((hgt.block _ (lt20 HXX.out) (fun e => by have h1 := Option.some.inj e; have h2 := HLC.out; have h3 := HCR.out; omega)).trans HXX.out)
      have HB8 := Lib.hid (HBZ.out.grown hgt HBZ.out.size (fun k e => by cases e; exact HTM.out))
      have HOWN := Lib.hid (fun g (hg : (Value.slice a6 x.en.data.length k6).ownBlock = some g) => show z0 ≤ g ∧ ¬ St2 g ∧ ¬ Su2 g from by
        have h1 := HO7.out.lt _ hg
        have h2 := HLU.out
        have h3 := HWS.out
        refine ⟨by omega, fun h => ?_, fun h => ?_⟩
        · rw [hSt2] at h
          rcases h with h | h
          · have h4 := HTR.out.t.lt _ h; have h5 := HWL.out.size; omega
          · omega
        · rw [hSu2] at h
          rcases h with h | h
          · have h4 := HTR.out.u.lt _ h; have h5 := HWL.out.size; omega
          · omega)
      have HWT := Lib.hid hgt.size
      have HM := Lib.hid hM
      clear htt hgt hSt2 hSu2 hbi c0 c1 c2 c3 c4 c5 c6 c7 c8 c9
      have HBV := Lib.hid (show ByteV wu.heap.size (.slice a6 x.en.data.length k6) x.en.data.length wt from ⟨x.en.data, rfl, HO8.out⟩)
      have d5 := cell20 (k := 5) HX8.out
      simp only [List.getElem?_toArray, List.getElem?_cons_succ, List.getElem?_cons_zero] at d5
      go_wp2_with fail
      clear d5
      go_loopw [52] (fun i wq => ∃ j : Nat, j ≤ x.en.data.length ∧ i = .int .i64 j ∧ ByteV wu.heap.size (.slice a6 x.en.data.length k6) x.en.data.length wq ∧ wt.grownBy wq (Value.slice a6 x.en.data.length k6).ownBlock) (fun i _ => x.en.data.length - (intOf i).toNat)
      case atStart => exact ⟨0, Nat.zero_le _, rfl, HBV.out, World.grownBy.refl _ _⟩
      case round =>
        obtain ⟨j, hj, rfl, hbv, hg⟩ := hrel
        have HBJ := Lib.hid hbv
        have HGJ := Lib.hid hg
        clear hbv hg
        by_cases hjl : j < x.en.data.length
        · obtain ⟨g, kc, xb, cur, hve, hkc1, hkc2, hgB, hgh, hgc, hgf⟩ := HBJ.out.at hjl
          simp only [Value.slice.injEq] at hve
          obtain ⟨rfl, -, rfl⟩ := hve
          have HXJ := Lib.hid ((HGJ.out.block _ (lt20 HX8.out) (fun e => by have h1 : _ = g := Option.some.inj e; have h2 := lt20 HXU.out; omega)).trans HX8.out)
          have d5 := cell20 (k := 5) HXJ.out
          simp only [List.getElem?_toArray, List.getElem?_cons_succ, List.getElem?_cons_zero] at d5
          have hinc := inc_u8 xb
          unfold maxLen at hkc2
          clear hgh
          go_wp2_with fail
          clear d5 hgc hgf
          go_roundw
          case rel => exact ⟨j + 1, by omega, by go_num, HBJ.out.set (xb + 1), HGJ.out.trans (grown_set _ _ _ _)⟩
          case measure => simp [intOf]; omega
        · go_wp2_with fail
          go_roundw
          case rel =>
            refine ⟨k + 1, M, St2, Su2, by omega, by go_num, HW8.out.writeO HLC.out (by have h1 := HWS.out; have h2 := HLU.out; have h3 := HLZ.out; have h4 := HWT.out; omega) HGJ.out HOWN.out, HB8.out.grown HGJ.out HB8.out.size (fun k e => by have h1 := (HOWN.out k e).1; have h2 := HC0.out; omega), ?_⟩
            have h1 := HWS.out
            have h2 := HLU.out
            have h3 := HLZ.out
            have h4 := HWT.out
            have h5 := HGJ.out.size
            omega
          case measure => simp [intOf]; omega
    · have hlt3 := hlt
      obtain ⟨wd, rfl⟩ : ∃ wd, wd = wr := ⟨_, rfl⟩
      have hbi := HTR.out.box
      go_wp2_with fail
      refine (entries_any _ _ _ L _ HTR.out.t).mono ?_
      rintro e w7 ⟨vE, rfl, ⟨ys, hys, hrow, hdat⟩, hb7⟩
      have hml : ys.length ≤ 4096 := by
        have h1 := congrArg List.length hys
        have h2 := HTR.out.t.ok.len
        rw [List.length_map] at h1
        omega
      obtain ⟨aE, cE, rfl, hcE, hmE⟩ := owns_shape hrow
      unfold maxLen at hmE
      have HROW := Lib.hid hrow
      have HDAT := Lib.hid (fun y (hy : y ∈ ys) => byteV_ent (hdat y hy))
      have HB7 := Lib.hid hb7
      clear hys hrow hdat hb7 hbi
      go_wp2_with fail
      go_loopw [68] (fun i wq => ∃ k : Nat, k ≤ ys.length ∧ i = .int .i64 k ∧ Below wd.heap.size wd wq ∧ wq.ownsRow wd.heap.size 36 6 (.slice aE ys.length cE) ys.length (entsC ys) ∧ ∀ y ∈ ys, ByteV wd.heap.size y.1 y.2.data.length wq) (fun i _ => ys.length - (intOf i).toNat)
      case atStart => exact ⟨0, Nat.zero_le _, rfl, HB7.out, HROW.out, HDAT.out⟩
      case round =>
        obtain ⟨k3, hk3, rfl, hb3, hr3, hd3⟩ := hrel
        have HB3q := Lib.hid hb3
        have HR3 := Lib.hid hr3
        have HD3 := Lib.hid hd3
        clear hb3 hr3 hd3
        by_cases hl3 : k3 < ys.length
        · obtain ⟨y, hy⟩ : ∃ y, ys[k3]? = some y := ⟨_, List.getElem?_eq_getElem hl3⟩
          obtain ⟨b3, rfl, -, hbl3, -, q0, q1, q2, q3, q4, q5⟩ := own_ent HR3.out hy
          have hmem := List.mem_of_getElem? hy
          obtain ⟨v3, e3⟩ := y
          obtain ⟨av3, cv3, hv3, hn3, hm3⟩ := (HD3.out _ hmem).shape
          simp only at hv3 q0 q1 q2 q3 q4 q5 hn3
          subst hv3
          have HMEM := Lib.hid hmem
          unfold maxLen at hm3
          clear hy hmem
          obtain ⟨W3, hW3⟩ : ∃ W3, W3 = wr.alloc (.cells #[.string e3.path, .int .i64 e3.kind, .int .i64 e3.mode, .int .i64 e3.time, .slice av3 e3.data.length cv3, .string e3.link] 36) := ⟨_, rfl⟩
          have hbw3 : Below wr.heap.size wr W3 := by rw [hW3]; exact (Below.refl _ _).alloc (Nat.le_refl _) _
          have HY3 := Lib.hid (show W3.heap[wr.heap.size]? = some (.cells #[.string e3.path, .int .i64 e3.kind, .int .i64 e3.mode, .int .i64 e3.time, .slice av3 e3.data.length cv3, .string e3.link] 36 (0, 0)) by rw [hW3]; exact new20 wr _)
          have HBW3 := Lib.hid (below_next HB3q.out hbw3)
          have HRW3 := Lib.hid (own_below HR3.out hbw3)
          have HDW3 := Lib.hid (fun y (hy : y ∈ ys) => (HD3.out y hy).below hbw3)
          clear hbw3
          go_wp2_with fail
          rw [← hW3]
          clear hW3 q0 q1 q2 q3 q4 q5
          obtain ⟨yb, hyb⟩ : ∃ yb, yb = wr.heap.size := ⟨_, rfl⟩
          rw [← hyb] at HY3 ⊢
          clear hyb
          go_loopw [75] (fun i wp => ∃ j : Nat, j ≤ e3.data.length ∧ i = .int .i64 j ∧ Below wd.heap.size wd wp ∧ wp.heap[yb]? = some (.cells #[.string e3.path, .int .i64 e3.kind, .int .i64 e3.mode, .int .i64 e3.time, .slice av3 e3.data.length cv3, .string e3.link] 36 (0, 0)) ∧ wp.ownsRow wd.heap.size 36 6 (.slice (some ⟨b3, 0, none⟩) ys.length cE) ys.length (entsC ys) ∧ ∀ y ∈ ys, ByteV wd.heap.size y.1 y.2.data.length wp) (fun i _ => e3.data.length - (intOf i).toNat)
          case atStart => exact ⟨0, Nat.zero_le _, rfl, HBW3.out, HY3.out, HRW3.out, HDW3.out⟩
          case round =>
            obtain ⟨j, hj, rfl, hb4, hy4, hr4, hd4⟩ := hrel
            have HB4q := Lib.hid hb4
            have HY4 := Lib.hid hy4
            have HR4 := Lib.hid hr4
            have HD4 := Lib.hid hd4
            clear hb4 hy4 hr4 hd4
            by_cases hjl : j < e3.data.length
            · obtain ⟨g, kc, xb, cur, hve, hkc1, hkc2, hgB, hgh, hgc, hgf⟩ := (HD4.out _ HMEM.out).at hjl
              simp only [Value.slice.injEq] at hve
              obtain ⟨rfl, -, rfl⟩ := hve
              have d4 := cell20 (k := 4) HY4.out
              simp only [List.getElem?_toArray, List.getElem?_cons_succ, List.getElem?_cons_zero] at d4
              have hinc := inc_u8 xb
              have HGH := Lib.hid hgh
              clear hgh
              go_wp2_with fail
              clear d4 hgc hgf
              go_roundw
              case rel => exact ⟨j + 1, by omega, by go_num, below_set20 HB4q.out hgB, blk_set HY4.out HGH.out (by decide), row_set HR4.out HGH.out (by decide), fun y hy => (HD4.out y hy).set (xb + 1)⟩
              case measure => simp [intOf]; omega
            · go_wp2_with fail
              go_roundw
              case rel => exact ⟨k3 + 1, by omega, by go_num, HB4q.out, HR4.out, HD4.out⟩
              case measure => simp [intOf]; omega
        · have HTQ := Lib.hid (HTR.out.below HB3q.out)
          have HBQ := Lib.hid (below_next HBR.out HB3q.out)
          obtain ⟨we, rfl⟩ : ∃ we, we = wr := ⟨_, rfl⟩
          have hbi := HTQ.out.box
          go_wp2_with fail
          refine (walk_any (tm + 1) ⟨#[]⟩ _).mono ?_
          rintro e wf ⟨rfl, hw1, hw2, hbf, hsf⟩
          have HW1 := Lib.hid hw1
          have HW2 := Lib.hid hw2
          have HTF := Lib.hid (HTQ.out.below hbf)
          have HBF := Lib.hid (below_next HBQ.out hbf)
          have HCF := Lib.hid (show z0 ≤ wf.heap.size from Nat.le_trans HCR.out (Nat.le_trans HB3q.out.size hbf.size))
          have HZF := Lib.hid (show w0.heap.size ≤ wf.heap.size from HBF.out.size)
          clear hw1 hw2 hbf hsf hbi
          go_wp2_with fail
          refine wp_rangeB (gf := 48) (lb := #[.pointer (some ⟨we.heap.size, 0, none⟩), .pointer (some ⟨we.heap.size + 1, 0, none⟩)]) rfl (enters_of Tryd.func48 (by kernel_rfl) rfl)
            (walk_seq St (tm + 1) tm L ⟨#[]⟩ we.heap.size (we.heap.size + 1) wf wf HTF.out.t (Below.refl _ _) (by decide) HW1.out HW2.out) walkKp_t (walkKp_b (Nat.le_refl _)) (fun _ => rfl)
            (fun _ W => Below wf.heap.size wf W) (fun _ _ _ => False) 13
            (fun _ x yb W => Below wf.heap.size wf W ∧ EntNew wf.heap.size x W ∧ W.heap[yb]? = some (.cells #[.string x.2.path, .int .i64 x.2.kind, .int .i64 x.2.mode, .int .i64 x.2.time, x.1, .string x.2.link] 36 (0, 0)))
            (ownFrom_below (Nat.le_refl _) (Nat.le_refl _)) (fun _ _ _ _ _ h _ _ => h) ?own (Below.refl _ _) ?assign ?body ?done ?stop
          case own =>
            rintro ⟨pre, x, yb⟩ X Y row ⟨h1, h2, h3⟩ hg hr
            refine ⟨ownFrom_below (β := Unit) (Nat.le_refl _) (Nat.le_refl _) () X Y row h1 hg hr, ent_turn h2 hg (fun r e => (hr r e).2), (hg.block yb (Array.getElem?_eq_some_iff.1 h3).1 (fun e' => ?_)).trans h3⟩
            obtain ⟨_, ob, ho, hc⟩ := hr yb e'.symm
            rw [h3] at ho; cases ho; cases hc
          case assign =>
            rintro l pre ⟨v, e⟩ X hX hI hD hN
            obtain ⟨a', c', hv, -, -⟩ := owns_shape hD.1
            simp only at hv
            subst hv
            have hbw : Below X.heap.size X (X.alloc (.cells #[.string e.path, .int .i64 e.kind, .int .i64 e.mode, .int .i64 e.time, .slice a' e.data.length c', .string e.link] 36)) := (Below.refl _ _).alloc (Nat.le_refl _) _
            simp only [entV]
            gi_wp2
            refine ⟨KeepsOthers.alloc _ _, walkKp_below (by omega) hbw, X.heap.size, ⟨hI.trans (hbw.mono (by omega)), ⟨own_below hD.1 hbw, hD.2⟩, new20 X _⟩, ?_⟩
            first
            | (kernel_rfl; trace "A1")
            | (simp; trace "A2"; done)
            | (simp; set_option pp.deepTerms true in set_option pp.maxSteps 1000000 in trace_state; fail)
          case body =>
            rintro l pre ⟨v, e⟩ yb X ⟨hI, hD, hY⟩
            obtain ⟨a', c', hv, hvn, hvm⟩ := owns_shape hD.1
            simp only at hv hvn
            subst hv
            simp only at hY
            unfold maxLen at hvm
            have HIB := Lib.hid hI
            have HBV := Lib.hid (byteV_ent hD)
            have HYB := Lib.hid hY
            have HPE := Lib.hid hD.2.pth
            have d4 := cell20 (k := 4) hY
            simp only [List.getElem?_toArray, List.getElem?_cons_succ, List.getElem?_cons_zero] at d4
            clear hI hD hY
            simp only [entV]
            gi_wp2
            clear d4
            gi_loopw [93] (fun i wp => ∃ j : Nat, j ≤ e.data.length ∧ i = .int .i64 j ∧ Below wf.heap.size X wp ∧ KK X wp ∧ wp.heap[yb]? = some (.cells #[.string e.path, .int .i64 e.kind, .int .i64 e.mode, .int .i64 e.time, .slice a' e.data.length c', .string e.link] 36 (0, 0)) ∧ ByteV wf.heap.size (.slice a' e.data.length c') e.data.length wp) (fun i _ => e.data.length - (intOf i).toNat)
            case atStart => exact ⟨0, Nat.zero_le _, rfl, Below.refl _ _, KK.refl _, HYB.out, HBV.out⟩
            case round =>
              obtain ⟨j, hj, rfl, hbq, hkq, hyq, hvq⟩ := hrel
              have HBQ2 := Lib.hid hbq
              have HKQ := Lib.hid hkq
              have HYQ := Lib.hid hyq
              have HVQ := Lib.hid hvq
              clear hbq hkq hyq hvq
              by_cases hjl : j < e.data.length
              · obtain ⟨g, kc, xb, cur, hve, hkc1, hkc2, hgB, hgh, hgc, hgf⟩ := HVQ.out.at hjl
                simp only [Value.slice.injEq] at hve
                obtain ⟨rfl, -, rfl⟩ := hve
                have d4 := cell20 (k := 4) HYQ.out
                simp only [List.getElem?_toArray, List.getElem?_cons_succ, List.getElem?_cons_zero] at d4
                have hinc := inc_u8 xb
                have HGH := Lib.hid hgh
                clear hgh
                gi_wp2
                clear d4 hgc hgf
                go_roundw
                case rel => exact ⟨j + 1, by omega, by go_num, below_set20 HBQ2.out hgB, HKQ.out.set HGH.out, blk_set HYQ.out HGH.out (by decide), HVQ.out.set (xb + 1)⟩
                case measure => simp [intOf]; omega
              · have HTQ2 := Lib.hid (HTF.out.below (HIB.out.trans HBQ2.out))
                have hbi := HTQ2.out.box
                have d0 := cell20 (k := 0) HYQ.out
                simp only [List.getElem?_toArray, List.getElem?_cons_zero] at d0
                gi_wp2_with (refine ⟨trivial, ?_⟩; gi_at_call 19; refine (CallsIn.inRound l (callsIn_wide.2 (get_w St (tm + 1) tm L e.path wr HTQ2.out.t HPE.out))).mono ?_; rintro e5 w6 ⟨g, av, cv, ok, rfl, hgn, hcv, hbv, hb6⟩; have hbv7 := hbv.below ((Below.refl _ _).alloc (Nat.le_refl _) (.cells #[.string g.path, .int .i64 g.kind, .int .i64 g.mode, .int .i64 g.time, .slice av g.data.length cv, .string g.link] 36)); have HB7 := Lib.hid (HBQ2.out.trans ((hb6.alloc hb6.size (.cells #[.string g.path, .int .i64 g.kind, .int .i64 g.mode, .int .i64 g.time, .slice av g.data.length cv, .string g.link] 36)).mono (Nat.le_trans HIB.out.size HBQ2.out.size))); have HK7 := Lib.hid (HKQ.out.below (hb6.alloc hb6.size (.cells #[.string g.path, .int .i64 g.kind, .int .i64 g.mode, .int .i64 g.time, .slice av g.data.length cv, .string g.link] 36))); have HLE := Lib.hid (Nat.le_trans HIB.out.size HBQ2.out.size); clear hbv hb6 d0 hbi; unfold maxLen at hcv; by_cases hz : 0 < g.data.length; obtain ⟨gb, kc, xb, cur, hve, hkc1, hkc2, hgB, hgh, hgc, hgf⟩ := hbv7.at hz; simp only [Value.slice.injEq] at hve; obtain ⟨rfl, -, rfl⟩ := hve; have hinc := inc_u8 xb; have HGH := Lib.hid hgh; have HGB := Lib.hid hgB; clear hgh hgB hbv7)
                · have h1 := below_set20 HB7.out (Nat.le_trans HLE.out HGB.out) (k := 0) (x := u8V (xb + 1))
                  have h2 := HK7.out.set (j := 0) (x := u8V (xb + 1)) HGH.out
                  exact ⟨h2.o, ⟨h1, h2.s⟩, HIB.out.trans h1⟩
                · exact ⟨HK7.out.o, ⟨HB7.out, HK7.out.s⟩, HIB.out.trans HB7.out⟩
          case done =>
            rintro Dl ys W hDl hS hI hK
            have HKD := Lib.hid hK
            have HDL := Lib.hid hDl
            have HBX1 := Lib.hid (below_next HBF.out hI)
            have HTW := Lib.hid (HTF.out.below hI)
            have HCW := Lib.hid (Nat.le_trans HCF.out hI.size)
            have hbi := HTW.out.box
            clear hK hDl hS hI
            go_wp2_with fail
            refine (clone_tree St (tm + 1) tm L _ HTW.out.t).mono ?_
            rintro e wc ⟨rfl, ⟨Sc, hSc, htc⟩, hbc⟩
            have HTC := Lib.hid htc
            have HBC := Lib.hid hbc
            have HBX2 := Lib.hid (below_next HBX1.out hbc)
            have HXC := Lib.hid (HXA.out _ HBX2.out)
            clear hSc htc hbc hbi
            have c0 := cell20 (k := 0) HXC.out
            have c1 := cell20 (k := 1) HXC.out
            have c2 := cell20 (k := 2) HXC.out
            have c3 := cell20 (k := 3) HXC.out
            have c4 := cell20 (k := 4) HXC.out
            have c5 := cell20 (k := 5) HXC.out
            have c6 := cell20 (k := 6) HXC.out
            have c7 := cell20 (k := 7) HXC.out
            have c8 := cell20 (k := 8) HXC.out
            have c9 := cell20 (k := 9) HXC.out
            simp only [List.getElem?_toArray, List.getElem?_cons_succ, List.getElem?_cons_zero] at c0 c1 c2 c3 c4 c5 c6 c7 c8 c9
            go_wp2_with fail
            refine (do_any Sc _ _ _ L mo (.slice ad mo.en.data.length cd) _ HTC.out (HD.out.below HBX2.out) HOK.out (HE.out.below HBX2.out)).mono ?_
            rintro e wg ⟨rfl, -, hgd⟩
            have HGD := Lib.hid hgd
            have HTE := Lib.hid ((HTW.out.below HBC.out).write HLC.out hgd HCW.out (fun h => Nat.lt_irrefl _ (HTW.out.lt.1 _ h)) (fun h => Nat.lt_irrefl _ (HTW.out.lt.2 _ h)))
            have hbi := HTE.out.box
            clear hgd c0 c1 c2 c3 c4 c5 c6 c7 c8 c9
            go_wp2_with fail
            refine (equal_is St Su (tm + 1) tm (um + 1) um L L true _ HTE.out.t HTE.out.u (by simp)).mono ?_
            rintro e w9 ⟨rfl, hb9⟩
            have HB9 := Lib.hid hb9
            clear hb9 hbi
            have hsz9 := HB9.out.size
            have hszg := HGD.out.size
            have hszc := HBC.out.size
            have hK9 : w9.heap[Dl]? = some (.deferred (some [])) := by
              have h1 := lt20 HKD.out
              exact (HB9.out.block Dl (by omega)).trans ((HGD.out.block Dl (by omega) (fun e => by have h2 := Option.some.inj e; omega)).trans ((HBC.out.block Dl h1).trans HKD.out))
            have HK9 := Lib.hid hK9
            have HBZ9 := Lib.hid (below_next (HBX2.out.grown HGD.out HBX2.out.size (fun k e => by cases e; exact HBX1.out.size)) HB9.out)
            clear hK9 hsz9 hszg hszc
            go_wp2_with fail
            refine ⟨by simp, .inl ⟨_, _, rfl, run_takeDeferred HK9.out, ?_⟩⟩
            refine ⟨_, results_tmp rfl _ _ _, rfl, HB0.out.trans ((HBZ9.out.mono HB0.out.size).trans (belowK_b (w := w) (Nat.le_refl _) w9 Dl _ _ (by have h1 := HDL.out; have h2 := HZF.out; have h3 := HB0.out.size; omega) HK9.out rfl rfl))⟩
          case stop =>
            rintro Dl c pre W _ _ h _
            exact h.elim

end Go.Proofs.YtbkhdpocmmjnbaaDoor

/- FiletreeOwns: for every input the law returns true, and each argument reads afterwards as it read before (the tied card). -/
namespace Go.Proofs.YtbkhdpocmmjnbaaDoor
open Go.ChangeShapes Go.WideShapes Go.ChangeAt Go.RowKit Go.Lib Go.Shelf
open Go.ChangeMaps (open_string shut_string)

namespace COwns
set_option maxRecDepth 100000 in
theorem lifted (os : Os) (started : os.Started) (H : Type) (enc : TypeId × Value → H) :
    ReturnsInHanded {} Tryd.checked os 9 .any (fun w args => (Rows.filetreeOwnsSpec.pre enc Tryd.prog Tryd.f9 [] false w args ∧ laidMetH Tryd.prog laidL w) ∧ sizedMet enc Tryd.prog Tryd.f9 (OpenSpec.ofChange Rows.filetreeOwnsSpec) false w args)
      (Rows.filetreeOwnsSpec.post enc Tryd.prog Tryd.f9 false true false false) := by
  refine handed (C := Tryd.checked) (X := fun w _ => laidMetH Tryd.prog laidL w) (fun _ _ _ hh h => h.of_heap hh) own started (by kernel_rfl) Tryd.func9
    (ChangeSpec.witness_shaped (enc := enc) (C := Tryd.checked) (os := os) (X := fun w _ => laidMetH Tryd.prog laidL w) false (World.laidAll Tryd.prog os laidL) #[.slice none 0 0, .agg #[.int .i64 0, .string ⟨#[]⟩, .int .i64 0, .int .i64 0, .int .i64 0, .slice none 0 0, .string ⟨#[]⟩, .string ⟨#[]⟩, .string ⟨#[]⟩, .bool false]] 8 (World.laidAll_os _ _ _)
      (World.shaped_of_ZipB (by kernel_rfl) (by kernel_rfl)) (by kernel_rfl) (by kernel_rfl) (by kernel_rfl)
      (by rw [MakeChecks.laidMetH_plain _ _ _ (by kernel_rfl)]; exact laidMet_laidAll _ (by kernel_rfl) (by kernel_rfl))) ?_
  intro W base args ds gs before hval0 hW _hWt hL hsh
  have hval : ∀ (j : Nat) t v, Tryd.f9.params[j]? = some t → args[j]? = some v → Value.okWide Tryd.prog W .any base t v := hval0
  have hW' := hW
  obtain ⟨p, q, hA0, hV, rfl, _, _⟩ := hW
  have hA : DataW.TrodAll enc Tryd.prog W 0 (fun _ => true) true Tryd.f9.params.toList args.toList ds p := hA0
  rw [Tryd.params9] at hA hval
  obtain ⟨rfl, rfl⟩ := trodVars_none hV
  simp only [List.append_nil] at hW'
  obtain ⟨v0, v1, d0, d1, p0, p1, rfl, rfl, rfl, h0, h1⟩ := trodAll_two hA
  obtain ⟨l, hl⟩ := open_ops (hval 0 33 v0 rfl rfl) h0
  obtain ⟨dv, mo, rfl, hd, hok⟩ := open_op h1
  have hlt0 : ∀ x ∈ p0, x.block < W.heap.size := fun x hx => by simpa using hW'.lt x (by simp [hx])
  have hlt1 : ∀ x ∈ p1, x.block < W.heap.size := fun x hx => by simpa using hW'.lt x (by simp [hx])
  refine (owns_walk l v0 mo dv W hl hd hok (env_of hL hsh)).mono fun e W' ⟨he, hb⟩ => ?_
  subst he
  exact ⟨_, rfl, _, _, _, [], _, [], hW', trodAll_mk1 (shut_bool Tryd.underlying4 _), trodAll_mk2 (Below.trod laidOut (by kernel_rfl) (of_decide_eq_true (by kernel_rfl)) h0 hb hlt0) (Below.trod laidOut (by kernel_rfl) (of_decide_eq_true (by kernel_rfl)) h1 hb hlt1), rfl, hb.frame _, fun h => by cases h⟩
theorem holds : Rows.FiletreeOwnsSaid :=
  OpenClaim.holds_of_wide 9 Tryd.f9 rfl rfl rfl rfl rfl rfl rfl ⟨rfl, rfl, rfl, rfl, rfl⟩ rfl rfl rfl rfl rfl (by kernel_rfl) Tryd.func9 (by kernel_rfl)
    (of_decide_eq_true (by kernel_rfl)) (by unfold Func.isWrapper; first | (rw [if_pos (by decide +kernel)]; kernel_rfl) | (rw [if_neg (by decide +kernel)]; exact ⟨rfl, rfl⟩))
    (fun os started H enc _ => lifted os started H enc)
theorem card_holds : Rows.FiletreeOwnsCardSaid :=
  Claim7.holds_tied_plain_at .later [] [.data, .pinned] true (true, "1e330c748a24b17595aadf72b64a83374ff5931bb575de300cc11a52c67695f6") false holds (fun _ h => by cases h) (by kernel_rfl) (fun _ h => by cases h) filetreeOwns_row_tie rfl ⟨rfl, rfl⟩ (by kernel_rfl) rfl
    (fun f fn hf hfn => by
      obtain rfl : f = 9 := Option.some.inj ((show Tryd.prog.funcNamed "kinkeep/kinkeeplaw20.FiletreeOwns" = some 9 by kernel_rfl).symm.trans hf) |>.symm
      obtain rfl : fn = Tryd.f9 := (Option.some.inj (Tryd.func9.symm.trans hfn)).symm
      exact ⟨by kernel_rfl, fun j t ht => by
        rw [Tryd.params9] at ht
        have hm : t ∈ [33, 64] := by simpa using Array.mem_of_getElem? ht
        have hall : ([33, 64].all fun u => !Tryd.prog.wantsStandIn u) = true := by kernel_rfl
        exact (show Tryd.prog.wantsStandIn t = false by simpa using List.all_eq_true.1 hall t hm)⟩)
    (by kernel_rfl)
#print axioms card_holds
end COwns
theorem filetreeOwns_card : Rows.FiletreeOwnsCardSaid := COwns.card_holds
end Go.Proofs.YtbkhdpocmmjnbaaDoor
