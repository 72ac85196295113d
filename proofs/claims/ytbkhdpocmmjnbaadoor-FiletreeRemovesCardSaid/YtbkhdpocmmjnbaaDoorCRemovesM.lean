/- FiletreeRemoves: for every input the law returns true, and each argument reads afterwards as it read before (the tied card). -/
import Derived.Test.YtbkhdpocmmjnbaaDoorMD
/- The law FiletreeStays: its walk. -/
namespace Go.Proofs.YtbkhdpocmmjnbaaDoor
open Go Go.RowKit Go.Maps

theorem doP_err {L : List Ent} {x : POp} (h : (doP L x).2 ≠ 0) : (doP L x).1 = L := by
  unfold doP at h ⊢
  split
  · rename_i h1
    rw [if_pos h1] at h
    unfold putP at h ⊢
    repeat' split
    all_goals first | rfl | (exfalso; apply h; simp_all)
  · rename_i h1
    rw [if_neg h1] at h
    split
    · rename_i h2
      rw [if_pos h2] at h
      unfold removeP at h ⊢
      repeat' split
      all_goals first | rfl | (exfalso; apply h; simp_all)
    · rename_i h2
      rw [if_neg h2] at h
      split
      · rename_i h3
        rw [if_pos h3] at h
        unfold moveP at h ⊢
        repeat' split
        all_goals first | rfl | (exfalso; apply h; simp_all)
      · rfl
theorem data_other {S : Nat → Prop} {w w' : World} {b : Nat} {v : Value} {bs : List UInt8} (h : DataAt S w v bs) (hf : ¬ S b) (hg : w.grownBy w' (some b)) : DataAt S w' v bs := data_grown h hf hg
theorem TreeAt.other {S : Nat → Prop} {w w' : World} {tb mb b : Nat} {L : List Ent} (h : TreeAt S w tb mb L) (hg : w.grownBy w' (some b)) (h1 : tb ≠ b) (h2 : mb ≠ b) (h3 : ¬ S b) : TreeAt S w' tb mb L := by
  obtain ⟨xs, hm, hp⟩ := h.ents
  exact ⟨hg.cell h.cell (fun e => h1 (Option.some.inj e)), h.ne, h.far, fun k hk => Nat.lt_of_lt_of_le (h.lt k hk) hg.size, h.ok, xs,
    ⟨hm.map.same (hg.block mb hm.map.lt (fun e => h2 (Option.some.inj e))), fun x hx => ⟨data_grown (hm.dat x hx).1 h3 hg, (hm.dat x hx).2⟩, hm.far⟩, hp⟩
theorem equal_is (S T : Nat → Prop) (tb mb ub nb : Nat) (L M : List Ent) (r : Bool) (w : World) (ht : TreeAt S w tb mb L) (hu : TreeAt T w ub nb M) (hr : decide (L = M) = r) :
    Calls Tryd.prog 31 #[.pointer (some ⟨tb, 0, none⟩), .pointer (some ⟨ub, 0, none⟩)] w fun e w' => e = .returned (.bool r) ∧ Below w.heap.size w w' := by
  rw [← hr]; exact equal_any S T tb mb ub nb L M w ht hu
theorem from_ok (S : Nat → Prop) (L : List Ent) (v : Value) (w : World) (hv : EntsAt S w v L) (henv : Env w) (h : TOk L) : Calls Tryd.prog 11 #[v] w fun e w' => Below w.heap.size w w' ∧ ∃ tb mb, e = .returned (.tuple #[.pointer (some ⟨tb, 0, none⟩), .int .i64 0]) ∧ NewTree w w' tb mb L :=
  (from_any S L v w hv henv).mono fun _ _ ⟨hb, hr⟩ => ⟨hb, (hr.resolve_left (fun h2 => h2.1 (checkP_iff.2 h))).2⟩
set_option maxRecDepth 100000 in
set_option maxHeartbeats 4000000 in
theorem stays_walk (l : List POp) (v : Value) (w : World) (hv : OpsAt (fun _ => True) w v l) (henv : Env w) :
    Calls Tryd.prog 8 #[v] w fun e w' => e = .returned (.bool true) ∧ Below w.heap.size w w' := by
  have HV := Lib.hid hv
  have HE := Lib.hid henv
  obtain ⟨a, cap, rfl, hc, hm, -⟩ := SeqAt.shape hv OpR.len
  unfold maxLen at hm
  obtain ⟨n, hn⟩ : ∃ n, n = l.length := ⟨_, rfl⟩
  have HN := Lib.hid hn
  rw [← hn] at hc HV ⊢
  clear hv henv hn
  go_enter Tryd.func8, Tryd.ntmps8
  go_wp2_with fail
  refine (awakeT_any w HE.out).mono ?_
  rintro e w1 ⟨rfl, hb1⟩
  have HB1 := Lib.hid hb1
  clear hb1
  go_wp2_with fail
  refine (wide_any _ l _ _ (HV.out.below HB1.out)).mono ?_
  rintro e w2 ⟨wb, rfl, -, hb2⟩
  have HB2 := Lib.hid (below_next HB1.out hb2)
  clear hb2
  cases wb
  · go_wp2_with fail
    refine (newB_any _).mono ?_
    rintro e w3 ⟨rfl, ht3, hb3⟩
    obtain ⟨B, hB⟩ : ∃ B, B = w2.heap.size := ⟨_, rfl⟩
    rw [← hB] at ht3 ⊢
    have HBB := Lib.hid (show w.heap.size ≤ B by rw [hB]; exact HB2.out.size)
    have HT3 := Lib.hid ht3
    have HB3 := Lib.hid (below_next HB2.out hb3)
    clear ht3 hb3 hB
    go_wp2_with fail
    go_loopw [17] (fun i wr => ∃ (k : Nat) (L : List Ent), k ≤ n ∧ i = .int .i64 k ∧ TreeB B wr L ∧ Below w.heap.size w wr) (fun i _ => n - (intOf i).toNat)
    case atStart => exact ⟨0, [], Nat.zero_le _, rfl, HT3.out, HB3.out⟩
    case round =>
      obtain ⟨k, L, hk, rfl, htr, hbr⟩ := hrel
      have HTR := Lib.hid htr
      have HBR := Lib.hid hbr
      clear htr hbr
      by_cases hlt : k < n
      · obtain ⟨x, hx⟩ : ∃ x, l[k]? = some x := ⟨l[k]'(by rw [← HN.out]; exact hlt), by simp⟩
        obtain ⟨b, o, dv, rfl, hb, hd, hok, hq⟩ := ops_at (HV.out.below HBR.out) hx
        obtain ⟨a1, cap1, rfl, hd1, hd2⟩ := hd.slice
        have q0 := hq 0 (by omega)
        have q1 := hq 1 (by omega)
        have q2 := hq 2 (by omega)
        have q3 := hq 3 (by omega)
        have q4 := hq 4 (by omega)
        have q5 := hq 5 (by omega)
        have q6 := hq 6 (by omega)
        have q7 := hq 7 (by omega)
        have q8 := hq 8 (by omega)
        have q9 := hq 9 (by omega)
        simp only [opC, List.getElem?_cons_succ, List.getElem?_cons_zero, Nat.add_zero] at q0 q1 q2 q3 q4 q5 q6 q7 q8 q9
        have HX := Lib.hid hx
        have HD := Lib.hid hd
        have HOK := Lib.hid hok
        unfold maxLen at hd2
        clear hx hd hok hq
        go_wp2_with fail
        obtain ⟨W, hW⟩ : ∃ W, W = wr.alloc (.cells #[.int .i64 x.kind, .string x.en.path, .int .i64 x.en.kind, .int .i64 x.en.mode, .int .i64 x.en.time, .slice a1 x.en.data.length cap1, .string x.en.link, .string x.src, .string x.dst, .bool x.below] 64) := ⟨_, rfl⟩
        rw [← hW]
        have HXB := Lib.hid (show W.heap[wr.heap.size]? = some (.cells #[.int .i64 x.kind, .string x.en.path, .int .i64 x.en.kind, .int .i64 x.en.mode, .int .i64 x.en.time, .slice a1 x.en.data.length cap1, .string x.en.link, .string x.src, .string x.dst, .bool x.below] 64 (0, 0)) by rw [hW]; exact new20 wr _)
        have HWL := Lib.hid (show Below wr.heap.size wr W by rw [hW]; exact (Below.refl _ _).alloc (Nat.le_refl _) _)
        have HTW := Lib.hid (HTR.out.below HWL.out)
        have HBW := Lib.hid (below_next HBR.out HWL.out)
        clear hW q0 q1 q2 q3 q4 q5 q6 q7 q8 q9
        refine (clone_tree _ _ _ L _ HTW.out).mono ?_
        rintro e w4 ⟨rfl, ⟨S4, hS4, ht4⟩, hb4⟩
        have HU4 := Lib.hid ht4
        have HS4 := Lib.hid hS4
        have HX4 := Lib.hid ((hb4.block wr.heap.size (lt20 HXB.out)).trans HXB.out)
        have HT4 := Lib.hid (HTW.out.below hb4)
        have HB4 := Lib.hid (below_next HBW.out hb4)
        have HL4 := Lib.hid (HWL.out.trans (hb4.mono HWL.out.size))
        have HWS := Lib.hid (Nat.lt_of_lt_of_le (block_lt HTR.out.cell) HWL.out.size)
        clear ht4 hS4 hb4
        have c0 := cell20 (k := 0) HX4.out
        have c1 := cell20 (k := 1) HX4.out
        have c2 := cell20 (k := 2) HX4.out
        have c3 := cell20 (k := 3) HX4.out
        have c4 := cell20 (k := 4) HX4.out
        have c5 := cell20 (k := 5) HX4.out
        have c6 := cell20 (k := 6) HX4.out
        have c7 := cell20 (k := 7) HX4.out
        have c8 := cell20 (k := 8) HX4.out
        have c9 := cell20 (k := 9) HX4.out
        simp only [List.getElem?_toArray, List.getElem?_cons_succ, List.getElem?_cons_zero] at c0 c1 c2 c3 c4 c5 c6 c7 c8 c9
        go_wp2_with fail
        refine (do_any _ (fun _ => True) _ _ L x (.slice a1 x.en.data.length cap1) _ HT4.out (HD.out.below HL4.out) HOK.out (HE.out.below HB4.out)).mono ?_
        rintro e w5 hr
        obtain ⟨rfl, ht5, hg5⟩ := HT4.out.res hr
        have HT5 := Lib.hid ht5
        have HWN : B + 1 < W.heap.size := HWS.out
        have HU5 := Lib.hid (HU4.out.other hg5 (by omega) (by omega) (fun h => by have := HS4.out _ h; omega))
        have HB5 := Lib.hid (HB4.out.grown hg5 HB4.out.size (fun k e => by cases e; exact HBB.out))
        obtain ⟨M, hM⟩ : ∃ M, M = (doP L x).1 := ⟨_, rfl⟩
        have HM := Lib.hid hM
        rw [← hM] at HT5
        obtain ⟨er, her⟩ : ∃ er, er = (doP L x).2 := ⟨_, rfl⟩
        have HER := Lib.hid her
        rw [← her]
        clear hr ht5 hg5 hM her c0 c1 c2 c3 c4 c5 c6 c7 c8 c9
        by_cases h0 : er = 0
        · subst h0
          go_wp2_with fail
          refine (entries_any _ _ _ M _ HT5.out).mono ?_
          rintro e w7 ⟨v7, rfl, hg7, hb7⟩
          have HG7 := Lib.hid hg7.seq
          have HT7 := Lib.hid (HT5.out.below hb7)
          have HB7 := Lib.hid (below_next HB5.out hb7)
          obtain ⟨a7, c7, rfl, -, -⟩ := len_gather hg7
          clear hg7 hb7
          go_wp2_with fail
          refine (check_is _ M _ 0 _ HG7.out (HE.out.below HB7.out) (checkP_iff.2 HT7.out.ok)).mono ?_
          rintro e w8 ⟨rfl, hb8⟩
          have HT8 := Lib.hid (HT7.out.below hb8)
          have HB8 := Lib.hid (below_next HB7.out hb8)
          clear hb8
          go_wp2_with fail
          go_roundw
          case rel => exact ⟨k + 1, M, by omega, by go_num, HT8.out, HB8.out⟩
          case measure => simp [intOf]; omega
        · have e1 : (er != 0) = true := by simp [h0]
          have HEQ := Lib.hid (show decide (M = L) = true by rw [HM.out, doP_err (by rw [← HER.out]; exact h0)]; simp)
          clear h0
          go_wp2_with fail
          refine (equal_is _ _ _ _ _ _ M L true _ HT5.out HU5.out HEQ.out).mono ?_
          rintro e w6 ⟨rfl, hb6⟩
          have HT6 := Lib.hid (HT5.out.below hb6)
          have HB6 := Lib.hid (below_next HB5.out hb6)
          clear hb6
          go_wp2_with fail
          refine (entries_any _ _ _ M _ HT6.out).mono ?_
          rintro e w7 ⟨v7, rfl, hg7, hb7⟩
          have HG7 := Lib.hid hg7.seq
          have HT7 := Lib.hid (HT6.out.below hb7)
          have HB7 := Lib.hid (below_next HB6.out hb7)
          obtain ⟨a7, c7, rfl, -, -⟩ := len_gather hg7
          clear hg7 hb7
          go_wp2_with fail
          refine (check_is _ M _ 0 _ HG7.out (HE.out.below HB7.out) (checkP_iff.2 HT7.out.ok)).mono ?_
          rintro e w8 ⟨rfl, hb8⟩
          have HT8 := Lib.hid (HT7.out.below hb8)
          have HB8 := Lib.hid (below_next HB7.out hb8)
          clear hb8
          go_wp2_with fail
          go_roundw
          case rel => exact ⟨k + 1, M, by omega, by go_num, HT8.out, HB8.out⟩
          case measure => simp [intOf]; omega
      · have hk2 : k = n := by omega
        go_wp2_with fail
        refine (entries_any _ _ _ L _ HTR.out).mono ?_
        rintro e w4 ⟨v4, rfl, hg4, hb4⟩
        have HG4 := Lib.hid hg4.seq
        have HT4 := Lib.hid (HTR.out.below hb4)
        have HB4 := Lib.hid (below_next HBR.out hb4)
        obtain ⟨a4, c4, rfl, -, -⟩ := len_gather hg4
        clear hg4 hb4
        go_wp2_with fail
        refine (from_ok _ L _ _ HG4.out (HE.out.below HB4.out) HT4.out.ok).mono ?_
        rintro e w5 ⟨hb5, ub, nb, rfl, -, -, S5, -, ht5⟩
        have HU5 := Lib.hid ht5
        have HT5 := Lib.hid (HT4.out.below hb5)
        have HB5 := Lib.hid (below_next HB4.out hb5)
        clear hb5 ht5
        go_wp2_with fail
        refine (equal_is _ _ _ _ _ _ L L true _ HU5.out HT5.out (by simp)).mono ?_
        rintro e w6 ⟨rfl, hb6⟩
        have HU6 := Lib.hid (HU5.out.below hb6)
        have HT6 := Lib.hid (HT5.out.below hb6)
        have HB6 := Lib.hid (below_next HB5.out hb6)
        clear hb6
        go_wp2_with fail
        refine (equal_is _ _ _ _ _ _ L L true _ HT6.out HU6.out (by simp)).mono ?_
        rintro e w7 ⟨rfl, hb7⟩
        have HB7 := Lib.hid (below_next HB6.out hb7)
        clear hb7
        go_wp2_with fail
        go_ret
        exact ⟨rfl, HB7.out⟩
  · go_wp2_with fail
    go_ret
    exact ⟨rfl, HB2.out⟩

end Go.Proofs.YtbkhdpocmmjnbaaDoor

/- The law FiletreeMoves: its walk. -/
namespace Go.Proofs.YtbkhdpocmmjnbaaDoor
open Go Go.RowKit Go.Maps

theorem moveP_err {L : List Ent} {p q : ByteArray} (h : (moveP L p q).2 ≠ 0) : (moveP L p q).1 = L := by
  have := doP_err (L := L) (x := ⟨3, ⟨⟨#[]⟩, 0, 0, 0, [], ⟨#[]⟩⟩, p, q, false⟩)
  simp only [doP, if_neg (show ¬ (3 : Int) = 1 by decide), if_neg (show ¬ (3 : Int) = 2 by decide), if_true] at this
  exact this h
theorem get_some (S : Nat → Prop) (tb mb : Nat) (L : List Ent) (p : ByteArray) (f : Ent) (w : World) (ht : TreeAt S w tb mb L) (hps : p.size ≤ maxLen) (hf : findE L p = some f) :
    Calls Tryd.prog 19 #[.pointer (some ⟨tb, 0, none⟩), .string p] w fun e w' => ∃ a c, e = .returned (.tuple #[.agg #[.string f.path, .int .i64 f.kind, .int .i64 f.mode, .int .i64 f.time, .slice a f.data.length c, .string f.link], .bool true]) ∧ DataAt (fun k => w.heap.size ≤ k ∧ k < w'.heap.size) w' (.slice a f.data.length c) f.data ∧ Below w.heap.size w w' :=
  (get_any S tb mb L p w ht hps).mono fun e w' ⟨hb, hr⟩ => by
    rw [hf] at hr
    obtain ⟨v, rfl, ho⟩ := hr
    have hd := data_of_owns ho
    obtain ⟨a, c, rfl, -, -⟩ := owns_shape ho
    exact ⟨a, c, rfl, hd, hb⟩
theorem get_none (S : Nat → Prop) (tb mb : Nat) (L : List Ent) (p : ByteArray) (w : World) (ht : TreeAt S w tb mb L) (hps : p.size ≤ maxLen) (hf : findE L p = none) :
    Calls Tryd.prog 19 #[.pointer (some ⟨tb, 0, none⟩), .string p] w fun e w' => e = .returned (.tuple #[.agg #[.string ⟨#[]⟩, .int .i64 0, .int .i64 0, .int .i64 0, .slice none 0 0, .string ⟨#[]⟩], .bool false]) ∧ Below w.heap.size w w' :=
  (get_any S tb mb L p w ht hps).mono fun e w' ⟨hb, hr⟩ => by
    rw [hf] at hr
    exact ⟨hr, hb⟩
/-- Every Get of a law: what it hands back, and where its data lie. -/
def GotV (L : List Ent) (p : ByteArray) (B : Nat) (w' : World) (g : Ent) (a : Option Addr) (n c : Nat) (ok : Bool) : Prop :=
  DataAt (fun k => B ≤ k ∧ k < w'.heap.size) w' (.slice a n c) g.data ∧ n = g.data.length ∧ n ≤ c ∧ c ≤ maxLen ∧ ((ok = true ∧ findE L p = some g) ∨ (ok = false ∧ findE L p = none ∧ g = ⟨⟨#[]⟩, 0, 0, 0, [], ⟨#[]⟩⟩))
theorem get_v (S : Nat → Prop) (tb mb : Nat) (L : List Ent) (p : ByteArray) (w : World) (ht : TreeAt S w tb mb L) (hps : p.size ≤ maxLen) :
    Calls Tryd.prog 19 #[.pointer (some ⟨tb, 0, none⟩), .string p] w fun e w' => ∃ g a n c ok, e = .returned (.tuple #[.agg #[.string g.path, .int .i64 g.kind, .int .i64 g.mode, .int .i64 g.time, .slice a n c, .string g.link], .bool ok]) ∧ GotV L p w.heap.size w' g a n c ok ∧ Below w.heap.size w w' :=
  (get_any S tb mb L p w ht hps).mono fun e w' ⟨hb, hr⟩ => by
    cases hf : findE L p with
    | none =>
      rw [hf] at hr
      exact ⟨⟨⟨#[]⟩, 0, 0, 0, [], ⟨#[]⟩⟩, none, 0, 0, false, hr, ⟨DataAt.nil _ _, rfl, Nat.le_refl _, by decide, .inr ⟨rfl, hf, rfl⟩⟩, hb⟩
    | some f =>
      rw [hf] at hr
      obtain ⟨v, rfl, ho⟩ := hr
      have hd := data_of_owns ho
      obtain ⟨a, c, rfl, h1, h2⟩ := owns_shape ho
      exact ⟨f, a, _, c, true, rfl, ⟨hd, rfl, h1, h2, .inl ⟨rfl, hf⟩⟩, hb⟩
set_option maxRecDepth 100000 in
set_option maxHeartbeats 4000000 in
theorem moves_walk (l : List POp) (v : Value) (p q : ByteArray) (w : World) (hv : OpsAt (fun _ => True) w v l) (hp : p.size ≤ maxLen) (hq : q.size ≤ maxLen) (henv : Env w) :
    Calls Tryd.prog 7 #[v, .string p, .string q] w fun e w' => e = .returned (.bool true) ∧ Below w.heap.size w w' := by
  have HV := Lib.hid hv
  have HE := Lib.hid henv
  have HP := Lib.hid hp
  have HQ := Lib.hid hq
  obtain ⟨a, cap, rfl, hc, hm, -⟩ := SeqAt.shape hv OpR.len
  unfold maxLen at hm hp hq
  clear hv henv
  go_enter Tryd.func7, Tryd.ntmps7
  go_wp2_with fail
  refine (awakeT_any w HE.out).mono ?_
  rintro e w1 ⟨rfl, hb1⟩
  have HB1 := Lib.hid hb1
  clear hb1
  go_wp2_with fail
  refine (wide_any _ l _ _ (HV.out.below HB1.out)).mono ?_
  rintro e w2 ⟨wb, rfl, -, hb2⟩
  have HB2 := Lib.hid (below_next HB1.out hb2)
  clear hb2
  cases wb
  case true =>
    go_wp2_with fail
    go_ret
    exact ⟨rfl, HB2.out⟩
  by_cases hp6 : 600 < p.size
  · have hp6' : decide (600 < p.size) = true := by simp [hp6]
    go_wp2_with fail
    go_ret
    exact ⟨rfl, HB2.out⟩
  have hp6' : decide (600 < p.size) = false := by simp; omega
  by_cases hq6 : 600 < q.size
  · have hq6' : decide (600 < q.size) = true := by simp [hq6]
    go_wp2_with fail
    go_ret
    exact ⟨rfl, HB2.out⟩
  have hq6' : decide (600 < q.size) = false := by simp; omega
  go_wp2_with fail
  refine (play_any _ l _ _ (HV.out.below HB2.out) (HE.out.below HB2.out)).mono ?_
  rintro e w3 ⟨rfl, ht3, hb3⟩
  obtain ⟨B, hB⟩ : ∃ B, B = w2.heap.size := ⟨_, rfl⟩
  rw [← hB] at ht3 ⊢
  have HBB := Lib.hid (show w.heap.size ≤ B by rw [hB]; exact HB2.out.size)
  have HT3 := Lib.hid ht3
  have HB3 := Lib.hid (below_next HB2.out hb3)
  have HLT3 := Lib.hid (show B + 1 < w3.heap.size from block_lt ht3.cell)
  obtain ⟨L, hL⟩ : ∃ L, L = playP [] l := ⟨_, rfl⟩
  rw [← hL] at HT3
  clear ht3 hb3 hB hL
  go_wp2_with fail
  refine (clone_tree _ _ _ L _ HT3.out).mono ?_
  rintro e w4 ⟨rfl, ⟨S4, hS4, ht4⟩, hb4⟩
  have HU4 := Lib.hid ht4
  have HS4 := Lib.hid hS4
  have HT4 := Lib.hid (HT3.out.below hb4)
  have HB4 := Lib.hid (below_next HB3.out hb4)
  have HL4 := Lib.hid hb4.size
  have HUL := Lib.hid (show w3.heap.size + 1 < w4.heap.size from block_lt ht4.cell)
  have HSL := Lib.hid ht4.lt
  clear ht4 hS4 hb4
  go_wp2_with fail
  refine (size_any _ _ _ L p _ HT4.out HP.out).mono ?_
  rintro e w5 ⟨rfl, hb5⟩
  have HT5 := Lib.hid (HT4.out.below hb5)
  have HU5 := Lib.hid (HU4.out.below hb5)
  have HB5 := Lib.hid (below_next HB4.out hb5)
  have HL5 := Lib.hid (Nat.le_trans HL4.out hb5.size)
  have HL54 := Lib.hid hb5.size
  clear hb5
  obtain ⟨cn, hcn⟩ : ∃ cn, cn = cntL (atP L p) := ⟨_, rfl⟩
  have HCN := Lib.hid hcn
  rw [← hcn]
  clear hcn
  go_wp2_with fail
  refine (get_v _ _ _ L p _ HT5.out HP.out).mono ?_
  rintro e w6 ⟨g6, a6, n6, k6, ok6, rfl, hg6, hb6⟩
  have HG6 := Lib.hid hg6
  have hn6 := hg6.2.2.1
  have hk6 := hg6.2.2.2.1
  unfold maxLen at hk6
  have HT6 := Lib.hid (HT5.out.below hb6)
  have HU6 := Lib.hid (HU5.out.below hb6)
  have HB6 := Lib.hid (below_next HB5.out hb6)
  have HL6 := Lib.hid (Nat.le_trans HL5.out hb6.size)
  have HL64 := Lib.hid (Nat.le_trans HL54.out hb6.size)
  clear hb6 hg6
  go_wp2_with fail
  obtain ⟨W, hW⟩ : ∃ W, W = w6.alloc (.cells #[.string g6.path, .int .i64 g6.kind, .int .i64 g6.mode, .int .i64 g6.time, .slice a6 n6 k6, .string g6.link] 36) := ⟨_, rfl⟩
  rw [← hW]
  have HX := Lib.hid (show W.heap[w6.heap.size]? = some (.cells #[.string g6.path, .int .i64 g6.kind, .int .i64 g6.mode, .int .i64 g6.time, .slice a6 n6 k6, .string g6.link] 36 (0, 0)) by rw [hW]; exact new20 w6 _)
  have HWL := Lib.hid (show Below w6.heap.size w6 W by rw [hW]; exact (Below.refl _ _).alloc (Nat.le_refl _) _)
  have HTW := Lib.hid (TreeAt.below HT6.out HWL.out)
  have HWX := Lib.hid (lt20 HX.out)
  have HBB6 := Lib.hid (show w.heap.size ≤ w6.heap.size from HB6.out.size)
  have HUW := Lib.hid (HU6.out.below HWL.out)
  have HBW := Lib.hid (below_next HB6.out HWL.out)
  have HDW := Lib.hid (HG6.out.1.below HWL.out)
  clear hW
  refine (move_any _ _ _ L p q _ HTW.out HP.out HQ.out (HE.out.below HBW.out)).mono ?_
  rintro e w7 hr
  obtain ⟨rfl, ht7, hg7⟩ := hr
  have HB7 := Lib.hid (HBW.out.grown hg7 HBW.out.size (fun k e => by cases e; exact HBB.out))
  have HU7 := Lib.hid (HUW.out.other hg7 (by have := HLT3.out; omega) (by have := HLT3.out; omega) (fun h => by have h1 := HS4.out _ h; have h2 := HLT3.out; omega))
  have HT7 := Lib.hid ht7
  by_cases h0 : (moveP L p q).2 = 0
  case neg =>
    have e1 : ((moveP L p q).2 != 0) = true := by simp [h0]
    have HEQ := Lib.hid (show decide ((moveP L p q).1 = L) = true by rw [moveP_err h0]; simp)
    obtain ⟨er, her⟩ : ∃ er, er = (moveP L p q).2 := ⟨_, rfl⟩
    rw [← her] at e1 ⊢
    clear ht7 hg7 h0 her
    go_wp2_with fail
    refine (equal_is _ _ _ _ _ _ _ L true _ HT7.out HU7.out HEQ.out).mono ?_
    rintro e w8 ⟨rfl, hb8⟩
    have HB8 := Lib.hid (below_next HB7.out hb8)
    clear hb8
    go_wp2_with fail
    go_ret
    exact ⟨rfl, HB8.out⟩
  case pos =>
    rw [h0]
    obtain ⟨hmv, hm1⟩ := move_is HT6.out.ok h0
    have HMV := Lib.hid hmv
    obtain ⟨M, hM⟩ : ∃ M, M = sortP (L.map (moveE p q)) := ⟨_, rfl⟩
    rw [hm1, ← hM] at HT7
    have HM := Lib.hid hM
    obtain ⟨f, hf⟩ := hmv.is
    have hg6e : g6 = f ∧ ok6 = true := by
      rcases HG6.out.2.2.2.2 with ⟨h1, h2⟩ | ⟨h1, h2, _⟩
      · rw [hf] at h2; exact ⟨(Option.some.inj h2).symm, h1⟩
      · rw [hf] at h2; cases h2
    obtain ⟨rfl, rfl⟩ := hg6e
    have hnn : n6 = g6.data.length := HG6.out.2.1
    subst hnn
    have HF := Lib.hid hf
    have HX7 := Lib.hid ((hg7.block w6.heap.size (lt20 HX.out) (fun e => by have h1 := Option.some.inj e; have h2 := HLT3.out; have h3 := HL6.out; omega)).trans HX.out)
    have HD7 := Lib.hid (data_grown HDW.out (fun h => by have h1 := h.1; have h2 := HLT3.out; have h3 := HL5.out; omega) hg7)
    clear ht7 hg7 h0 hmv hm1 hM hf HG6
    go_wp2_with fail
    refine (size_any _ _ _ M q _ HT7.out HQ.out).mono ?_
    rintro e w8 ⟨rfl, hb8⟩
    rw [show cntL (atP M q) = cn by rw [HM.out, HMV.out.count, HCN.out]]
    have HT8 := Lib.hid (HT7.out.below hb8)
    have HU8 := Lib.hid (HU7.out.below hb8)
    have HX8 := Lib.hid ((hb8.block _ (lt20 HX7.out)).trans HX7.out)
    have HD8 := Lib.hid (HD7.out.below hb8)
    have HB8 := Lib.hid (below_next HB7.out hb8)
    clear hb8
    go_wp2_with fail
    refine (get_none _ _ _ M p _ HT8.out HP.out (by rw [HM.out]; exact HMV.out.gone)).mono ?_
    rintro e w9 ⟨rfl, hb9⟩
    have hbA := hb9.alloc hb9.size (.cells #[.string ⟨#[]⟩, .int .i64 0, .int .i64 0, .int .i64 0, .slice none 0 0, .string ⟨#[]⟩] 36)
    have HTA := Lib.hid (HT8.out.below hbA)
    have HUA := Lib.hid (HU8.out.below hbA)
    have HXA := Lib.hid ((hbA.block _ (lt20 HX8.out)).trans HX8.out)
    have HDA := Lib.hid (HD8.out.below hbA)
    have HBA := Lib.hid (below_next HB8.out hbA)
    have HX6A := Lib.hid (lt20 HXA.out)
    clear hb9 hbA
    go_wp2_with fail
    refine (get_some _ _ _ M q { g6 with path := q } _ HTA.out HQ.out (by rw [HM.out]; exact HMV.out.there HF.out)).mono ?_
    rintro e wb ⟨ab, cb, rfl, hdb, hbb⟩
    have HTB := Lib.hid (HTA.out.below hbb)
    have HUB := Lib.hid (HUA.out.below hbb)
    have HXB := Lib.hid ((hbb.block _ (lt20 HXA.out)).trans HXA.out)
    have HDB := Lib.hid (HDA.out.below hbb)
    have HEB := Lib.hid hdb
    have HBBx := Lib.hid (below_next HBA.out hbb)
    have HWLT := Lib.hid (Nat.le_trans (Nat.le_of_lt (lt20 HXA.out)) hbb.size)
    clear hdb hbb
    go_upto_region 15 with (fail)
    obtain ⟨V, hV⟩ : ∃ V, V = wb.alloc (.cells #[.string q, .int .i64 g6.kind, .int .i64 g6.mode, .int .i64 g6.time, .slice ab g6.data.length cb, .string g6.link] 36) := ⟨_, rfl⟩
    rw [← hV]
    have hbv : Below wb.heap.size wb V := by rw [hV]; exact (Below.refl _ _).alloc (Nat.le_refl _) _
    have HZV := Lib.hid (show V.heap[wb.heap.size]? = some (.cells #[.string q, .int .i64 g6.kind, .int .i64 g6.mode, .int .i64 g6.time, .slice ab g6.data.length cb, .string g6.link] 36 (0, 0)) by rw [hV]; exact new20 wb _)
    have HXV := Lib.hid ((hbv.block _ (lt20 HXB.out)).trans HXB.out)
    have HTV := Lib.hid (HTB.out.below hbv)
    have HUV := Lib.hid (HUB.out.below hbv)
    have HDV := Lib.hid (HDB.out.below hbv)
    have HEV := Lib.hid (HEB.out.below hbv)
    have HBV := Lib.hid (below_next HBBx.out hbv)
    have HNE := Lib.hid (show wb.heap.size ≠ w6.heap.size from fun e => by have := lt20 HXB.out; omega)
    clear hV hbv
    have c0 := cell20 (k := 0) HXV.out
    have c1 := cell20 (k := 1) HXV.out
    have c2 := cell20 (k := 2) HXV.out
    have c3 := cell20 (k := 3) HXV.out
    have c4 := cell20 (k := 4) HXV.out
    have c5 := cell20 (k := 5) HXV.out
    simp only [List.getElem?_toArray, List.getElem?_cons_succ, List.getElem?_cons_zero] at c0 c1 c2 c3 c4 c5
    have p0 := frozen20 (k := 0) HXV.out
    go_upto_region 16 with (fail)
    obtain ⟨X, hX⟩ : ∃ X, X = V.setCell ⟨w6.heap.size, 0, none⟩ (.string q) := ⟨_, rfl⟩
    rw [← hX]
    have hgx : V.grownBy X (some w6.heap.size) := by rw [hX]; exact grownBy_setCell' V _ _
    have HXX := Lib.hid (show X.heap[w6.heap.size]? = some (.cells #[.string q, .int .i64 g6.kind, .int .i64 g6.mode, .int .i64 g6.time, .slice a6 g6.data.length k6, .string g6.link] 36 (0, 0)) by rw [hX]; exact set20 HXV.out _)
    have HZX := Lib.hid (show X.heap[wb.heap.size]? = some (.cells #[.string q, .int .i64 g6.kind, .int .i64 g6.mode, .int .i64 g6.time, .slice ab g6.data.length cb, .string g6.link] 36 (0, 0)) by rw [hX]; exact setOther20 HZV.out HNE.out _)
    have HTX := Lib.hid (HTV.out.other hgx (by have h2 := HLT3.out; have h3 := HL6.out; omega) (by have h2 := HLT3.out; have h3 := HL6.out; omega) (fun h => by have h3 := HWX.out; rcases h with h | h; exact absurd h.2 (Nat.lt_irrefl _); omega))
    have HUX := Lib.hid (HUV.out.other hgx (by have h3 := HUL.out; have h4 := HL64.out; omega) (by have h3 := HUL.out; have h4 := HL64.out; omega) (fun h => by have h1 := HSL.out _ h; have h4 := HL64.out; omega))
    clear hX p0 c0 c1 c2 c3 c4 c5
    have HDX := Lib.hid (data_grown (mb := w6.heap.size) HDV.out (fun h => by have h1 := h.2; omega) hgx)
    have HEX := Lib.hid (data_grown (mb := w6.heap.size) HEV.out (fun h => by have h1 := h.1; have h2 := HX6A.out; omega) hgx)
    have HBX := Lib.hid (HBV.out.grown hgx HBV.out.size (fun k e => by cases e; exact HBB6.out))
    clear hgx
    have c0 := cell20 (k := 0) HXX.out
    have c1 := cell20 (k := 1) HXX.out
    have c2 := cell20 (k := 2) HXX.out
    have c3 := cell20 (k := 3) HXX.out
    have c4 := cell20 (k := 4) HXX.out
    have c5 := cell20 (k := 5) HXX.out
    simp only [List.getElem?_toArray, List.getElem?_cons_succ, List.getElem?_cons_zero] at c0 c1 c2 c3 c4 c5
    have d0 := cell20 (k := 0) HZX.out
    have d1 := cell20 (k := 1) HZX.out
    have d2 := cell20 (k := 2) HZX.out
    have d3 := cell20 (k := 3) HZX.out
    have d4 := cell20 (k := 4) HZX.out
    have d5 := cell20 (k := 5) HZX.out
    simp only [List.getElem?_toArray, List.getElem?_cons_succ, List.getElem?_cons_zero] at d0 d1 d2 d3 d4 d5
    go_wp2_with fail
    refine (r_same20_is _ _ { g6 with path := q } { g6 with path := q } (.slice a6 g6.data.length k6) (.slice ab g6.data.length cb) true _ HDX.out HEX.out (by simp)).mono ?_
    rintro e wc ⟨rfl, hbc⟩
    have HTC := Lib.hid (HTX.out.below hbc)
    have HUC := Lib.hid (HUX.out.below hbc)
    have HBC := Lib.hid (below_next HBX.out hbc)
    clear hbc c0 c1 c2 c3 c4 c5 d0 d1 d2 d3 d4 d5
    go_wp2_with fail
    refine (equal_is _ _ _ _ _ _ M L false _ HTC.out HUC.out (by rw [HM.out]; simp only [decide_eq_false_iff_not]; exact fun h => HMV.out.ne h.symm)).mono ?_
    rintro e wd ⟨rfl, hbd⟩
    have HTD := Lib.hid (HTC.out.below hbd)
    have HUD := Lib.hid (HUC.out.below hbd)
    have HBD := Lib.hid (below_next HBC.out hbd)
    clear hbd
    go_wp2_with fail
    refine (move_any _ _ _ M q p _ HTD.out HQ.out HP.out (HE.out.below HBD.out)).mono ?_
    rintro e we hr
    rw [show moveP M q p = (L, 0) by rw [HM.out]; exact HMV.out.again] at hr
    obtain ⟨rfl, hte, hge⟩ := hr
    have HTE := Lib.hid hte
    have HUE := Lib.hid (HUD.out.other hge (by have := HLT3.out; omega) (by have := HLT3.out; omega) (fun h => by have h1 := HS4.out _ h; have h2 := HLT3.out; omega))
    have HBE := Lib.hid (HBD.out.grown hge HBD.out.size (fun k e => by cases e; exact HBB.out))
    clear hte hge
    go_wp2_with fail
    refine (equal_is _ _ _ _ _ _ L L true _ HTE.out HUE.out (by simp)).mono ?_
    rintro e wf ⟨rfl, hbf⟩
    have HTF := Lib.hid (HTE.out.below hbf)
    have HUF := Lib.hid (HUE.out.below hbf)
    have HBF := Lib.hid (below_next HBE.out hbf)
    clear hbf
    go_wp2_with fail
    refine (equal_is _ _ _ _ _ _ L L true _ HUF.out HTF.out (by simp)).mono ?_
    rintro e wg ⟨rfl, hbg⟩
    have HBG := Lib.hid (below_next HBF.out hbg)
    clear hbg
    go_wp2_with fail
    go_ret
    exact ⟨rfl, HBG.out⟩

end Go.Proofs.YtbkhdpocmmjnbaaDoor

/- The law FiletreeRemoves: its walk. -/
namespace Go.Proofs.YtbkhdpocmmjnbaaDoor
open Go Go.RowKit Go.Maps

theorem row_grown {S : Nat → Prop} {w w' : World} {b sz n : Nat} {v : Value} {xs : List Value} (hsz : 0 < sz) (h : RowAt S w sz v n xs) (hf : ¬ S b) (hg : w.grownBy w' (some b)) : RowAt S w' sz v n xs := by
  have h2 := RowAt.mono (T := fun k => S k ∧ k < w.heap.size) h (fun k hk hS => ⟨hS, hk⟩) hsz
  have h3 := h2.same (w' := w') (fun k hk => hg.block k hk.2 (fun e => hf (by cases e; exact hk.1)))
  obtain ⟨hl, a, cap, hv, hn, hm, h0⟩ := h3
  refine ⟨hl, a, cap, hv, hn, hm, ?_⟩
  rcases h0 with h0 | ⟨b, o, ha, hb, hc⟩
  · exact .inl h0
  · exact .inr ⟨b, o, ha, hb.1, hc⟩
theorem ents_grown {S : Nat → Prop} {w w' : World} {b : Nat} {v : Value} {l : List Ent} (h : EntsAt S w v l) (hf : ¬ S b) (hg : w.grownBy w' (some b)) : EntsAt S w' v l := by
  obtain ⟨cells, h1, h2⟩ := h
  refine ⟨cells, row_grown (by omega) h1 hf hg, h2.mono (fun c x _ hr => ?_)⟩
  obtain ⟨v, r1, r2, r3⟩ := hr
  exact ⟨v, r1, data_grown r2 hf hg, r3⟩
theorem ents_mono {S T : Nat → Prop} {w : World} {v : Value} {l : List Ent} (h : EntsAt S w v l) (hs : ∀ k, k < w.heap.size → S k → T k) : EntsAt T w v l :=
  SeqAt.mono h (by omega) hs (fun c x _ hr => by
    obtain ⟨v, r1, r2, r3⟩ := hr
    exact ⟨v, r1, RowAt.mono r2 hs (by omega), r3⟩)
theorem sameall_is (S T : Nat → Prop) (L M : List Ent) (v u : Value) (r : Bool) (w : World) (hv : EntsAt S w v L) (hu : EntsAt T w u M) (hr : decide (L = M) = r) :
    Calls Tryd.prog 15 #[v, u] w fun e w' => e = .returned (.bool r) ∧ Below w.heap.size w w' := by
  rw [← hr]; exact r_sameall_any S T L M v u w hv hu
def inK (L : List Ent) (p : ByteArray) (k : Nat) : Nat := ((L.take k).filter (inB p)).length
theorem inK_yes {L : List Ent} {p : ByteArray} {k : Nat} {e : Ent} (he : L[k]? = some e) (hi : inB p e = true) : inK L p (k + 1) = inK L p k + 1 := by
  unfold inK; rw [List.take_add_one, he, List.filter_append]; simp [hi]
theorem inK_no {L : List Ent} {p : ByteArray} {k : Nat} {e : Ent} (he : L[k]? = some e) (hi : inB p e = false) : inK L p (k + 1) = inK L p k := by
  unfold inK; rw [List.take_add_one, he, List.filter_append]; simp [hi]
theorem inK_le (L : List Ent) (p : ByteArray) (k : Nat) : inK L p k ≤ k := by
  unfold inK
  have h1 := List.length_filter_le (inB p) (L.take k)
  have h2 := List.length_take_le k L
  omega
def LoopW (S : Nat → Prop) (w5 : World) (L : List Ent) (p : ByteArray) (k : Nat) (ys : List VEnt) (v : Value) (wr : World) : Prop :=
  ys.map Prod.snd = (L.take k).filter (fun e => !inB p e) ∧ wr.ownsRow w5.heap.size 36 6 v ys.length (entsC ys) ∧ (∀ y ∈ ys, DataAt S w5 y.1 y.2.data ∧ EntOk y.2) ∧ Below w5.heap.size w5 wr
set_option maxRecDepth 100000 in
set_option maxHeartbeats 4000000 in
theorem removes_walk (l : List POp) (v : Value) (p : ByteArray) (below : Bool) (w : World) (hv : OpsAt (fun _ => True) w v l) (hp : p.size ≤ maxLen) (henv : Env w) :
    Calls Tryd.prog 5 #[v, .string p, .bool below] w fun e w' => e = .returned (.bool true) ∧ Below w.heap.size w w' := by
  have HV := Lib.hid hv
  have HE := Lib.hid henv
  have HP := Lib.hid hp
  obtain ⟨a, cap, rfl, hc, hm, -⟩ := SeqAt.shape hv OpR.len
  unfold maxLen at hm hp
  clear hv henv
  go_enter Tryd.func5, Tryd.ntmps5
  go_wp2_with fail
  refine (awakeT_any w HE.out).mono ?_
  rintro e w1 ⟨rfl, hb1⟩
  have HB1 := Lib.hid hb1
  clear hb1
  go_wp2_with fail
  refine (wide_any _ l _ _ (HV.out.below HB1.out)).mono ?_
  rintro e w2 ⟨wb, rfl, -, hb2⟩
  have HB2 := Lib.hid (below_next HB1.out hb2)
  clear hb2
  cases wb
  case true =>
    go_wp2_with fail
    go_ret
    exact ⟨rfl, HB2.out⟩
  by_cases hp6 : 600 < p.size
  · have hp6' : decide (600 < p.size) = true := by simp [hp6]
    go_wp2_with fail
    go_ret
    exact ⟨rfl, HB2.out⟩
  have hp6' : decide (600 < p.size) = false := by simp; omega
  go_wp2_with fail
  refine (play_any _ l _ _ (HV.out.below HB2.out) (HE.out.below HB2.out)).mono ?_
  rintro e w3 ⟨rfl, ht3, hb3⟩
  obtain ⟨B, hB⟩ : ∃ B, B = w2.heap.size := ⟨_, rfl⟩
  rw [← hB] at ht3 ⊢
  have HBB := Lib.hid (show w.heap.size ≤ B by rw [hB]; exact HB2.out.size)
  have HT3 := Lib.hid ht3
  have HB3 := Lib.hid (below_next HB2.out hb3)
  have HLT3 := Lib.hid (show B + 1 < w3.heap.size from block_lt ht3.cell)
  obtain ⟨L, hL⟩ : ∃ L, L = playP [] l := ⟨_, rfl⟩
  rw [← hL] at HT3
  clear ht3 hb3 hB hL
  go_wp2_with fail
  refine (entries_any _ _ _ L _ HT3.out).mono ?_
  rintro e w5 ⟨v5, rfl, hg5, hb5⟩
  have HG5 := Lib.hid hg5.seq
  obtain ⟨n, hn⟩ : ∃ n, n = L.length := ⟨_, rfl⟩
  have HN := Lib.hid hn
  have hn4 : n ≤ 4096 := by rw [hn]; exact HT3.out.ok.len
  obtain ⟨a5, c5, rfl, hn5, hm5⟩ := len_gather hg5
  rw [← hn] at HG5 hn5 ⊢
  unfold maxLen at hm5
  have HT5 := Lib.hid (HT3.out.below hb5)
  have HB5 := Lib.hid (below_next HB3.out hb5)
  have HL5 := Lib.hid hb5.size
  clear hg5 hb5 hn
  go_wp2_with fail
  go_loopw [8, 9, 30] (fun v ins i wr => ∃ (k : Nat) (ys : List VEnt), k ≤ n ∧ i = .int .i64 k ∧ ins = .int .i64 (inK L p k) ∧ LoopW (fun k => w3.heap.size ≤ k ∧ k < w5.heap.size) w5 L p k ys v wr) (fun _ _ i _ => n - (intOf i).toNat)
  case atStart => exact ⟨0, [], Nat.zero_le _, rfl, by simp [inK], by simp, World.ownsRow_nil _ _ _ _, by simp, Below.refl _ _⟩
  case round =>
    obtain ⟨k, ys, hk, rfl, rfl, hys, hown, hdat, hbr⟩ := hrel
    have HYS := Lib.hid hys
    have HOWN := Lib.hid hown
    have HDAT := Lib.hid hdat
    have HBR := Lib.hid hbr
    have HBR0 := Lib.hid (below_next HB5.out hbr)
    obtain ⟨av, cv, hsv, hvn, hvm⟩ := owns_shape hown
    subst hsv
    have hyl : ys.length ≤ k := by
      have h1 := congrArg List.length hys
      have h2 := List.length_filter_le (fun e => !inB p e) (L.take k)
      have h3 := List.length_take_le k L
      rw [List.length_map] at h1
      omega
    have hik := inK_le L p k
    unfold maxLen at hvm
    clear hys hown hdat hbr
    by_cases hlt : k < n
    · obtain ⟨e, he⟩ : ∃ e, L[k]? = some e := ⟨L[k]'(by rw [← HN.out]; exact hlt), by simp⟩
      obtain ⟨b, o, dv, rfl, -, hb, hd, hok, -, q0, q1, q2, q3, q4, q5⟩ := ents_at HG5.out he
      have r0 := (HBR.out.cell (block_lt q0)).trans q0
      have r1 := (HBR.out.cell (block_lt q1)).trans q1
      have r2 := (HBR.out.cell (block_lt q2)).trans q2
      have r3 := (HBR.out.cell (block_lt q3)).trans q3
      have r4 := (HBR.out.cell (block_lt q4)).trans q4
      have r5 := (HBR.out.cell (block_lt q5)).trans q5
      have HX := Lib.hid he
      have HD := Lib.hid hd
      have HOK := Lib.hid hok
      obtain ⟨a1, cap1, rfl, hd1, hd2⟩ := hd.slice
      unfold maxLen at hd2
      clear he hd hok q0 q1 q2 q3 q4 q5
      go_wp2_with fail
      obtain ⟨W, hW⟩ : ∃ W, W = wr.alloc (.cells #[.string e.path, .int .i64 e.kind, .int .i64 e.mode, .int .i64 e.time, .slice a1 e.data.length cap1, .string e.link] 36) := ⟨_, rfl⟩
      rw [← hW]
      have HXW := Lib.hid (show W.heap[wr.heap.size]? = some (.cells #[.string e.path, .int .i64 e.kind, .int .i64 e.mode, .int .i64 e.time, .slice a1 e.data.length cap1, .string e.link] 36 (0, 0)) by rw [hW]; exact new20 wr _)
      have HWL := Lib.hid (show Below wr.heap.size wr W by rw [hW]; exact (Below.refl _ _).alloc (Nat.le_refl _) _)
      clear hW r0 r1 r2 r3 r4 r5
      cases hin : inB p e
      · have HIN := Lib.hid hin
        refine (within20 p e.path false _ (HE.out.below (below_next HBR0.out HWL.out)) hin).mono ?_
        rintro e7 w7 ⟨rfl, hb7⟩
        have HB7 := Lib.hid (HWL.out.trans (hb7.mono HWL.out.size))
        have HX7 := Lib.hid ((hb7.block wr.heap.size (lt20 HXW.out)).trans HXW.out)
        clear hb7 hin
        have c0 := cell20 (k := 0) HX7.out
        have c1 := cell20 (k := 1) HX7.out
        have c2 := cell20 (k := 2) HX7.out
        have c3 := cell20 (k := 3) HX7.out
        have c4 := cell20 (k := 4) HX7.out
        have c5 := cell20 (k := 5) HX7.out
        simp only [List.getElem?_toArray, List.getElem?_cons_succ, List.getElem?_cons_zero] at c0 c1 c2 c3 c4 c5
        have HO7 := Lib.hid (own_below HOWN.out HB7.out)
        have hsz7 : w5.heap.size ≤ w7.heap.size := Nat.le_trans HBR.out.size HB7.out.size
        go_wp2_with (at_builtin; go_must (refine wpList_app1p Tryd.appEnts rfl _ _ rfl w5.heap.size (.slice av ys.length cv) ys.length (entsC ys) rfl w7 (entC (.slice a1 e.data.length cap1) e) _ rfl rfl entC_one HO7.out (by omega) hsz7 ?_); intro v' w8 hown8 hgrow8 _ _)
        have HO8 := Lib.hid hown8
        have HG8 := Lib.hid hgrow8
        clear hown8 hgrow8 c0 c1 c2 c3 c4 c5
        go_wp2_with fail
        go_roundw
        case rel =>
          refine ⟨k + 1, ys ++ [(.slice a1 e.data.length cap1, e)], by omega, by go_num, by rw [inK_no HX.out HIN.out], ?_, ?_, ?_, ?_⟩
          · rw [List.take_add_one, HX.out, List.map_append, List.filter_append, HYS.out]
            simp [HIN.out]
          · rw [entsC_snoc, List.length_append]; exact HO8.out
          · intro y hy
            rcases List.mem_append.1 hy with hy | hy
            · exact HDAT.out y hy
            · rw [List.mem_singleton] at hy
              subst hy
              exact ⟨HD.out, HOK.out⟩
          · exact below_grown (HBR.out.trans (HB7.out.mono HBR.out.size)) HO7.out HG8.out (Nat.le_refl _) hsz7
        case measure => simp [intOf]; omega
      · have HIN := Lib.hid hin
        refine (within20 p e.path true _ (HE.out.below (below_next HBR0.out HWL.out)) hin).mono ?_
        rintro e7 w7 ⟨rfl, hb7⟩
        have HB7 := Lib.hid (HWL.out.trans (hb7.mono HWL.out.size))
        clear hb7 hin
        go_wp2_with fail
        go_roundw
        case rel =>
          refine ⟨k + 1, ys, by omega, by go_num, by rw [inK_yes HX.out HIN.out]; go_num, ?_, own_below HOWN.out HB7.out, HDAT.out, HBR.out.trans (HB7.out.mono HBR.out.size)⟩
          rw [List.take_add_one, HX.out, List.filter_append, HYS.out]
          simp [HIN.out]
        case measure => simp [intOf]; omega
    · have hk2 : k = n := by omega
      have HYS2 := Lib.hid (show ys.map Prod.snd = L.filter (fun e => !inB p e) by rw [HYS.out, hk2, HN.out, List.take_length])
      have HIK := Lib.hid (show inK L p k = (L.filter (inB p)).length by unfold inK; rw [hk2, HN.out, List.take_length])
      obtain ⟨ik, hikk⟩ : ∃ ik, ik = inK L p k := ⟨_, rfl⟩
      rw [← hikk] at HIK hik ⊢
      obtain ⟨wd, rfl⟩ : ∃ wd, wd = wr := ⟨_, rfl⟩
      have HTD := Lib.hid (HT5.out.below HBR.out)
      have HWA := Lib.hid (show EntsAt (fun k => w3.heap.size ≤ k ∧ k < wd.heap.size) wd (.slice av ys.length cv) (L.filter (fun e => !inB p e)) by
        rw [← HYS2.out]
        refine ⟨entsC ys, ?_, entsC_in (fun y hy => ⟨?_, (HDAT.out y hy).2⟩)⟩
        · rw [List.length_map]
          exact RowAt.mono (row_of_owns HOWN.out) (fun k hk hS => ⟨Nat.le_trans HL5.out hS.1, hk⟩) (by omega)
        · exact data_mono ((HDAT.out y hy).1.below HBR.out) (fun k hk => ⟨hk.1, Nat.lt_of_lt_of_le hk.2 HBR.out.size⟩))
      clear hikk
      go_wp2_with fail
      refine (get_v _ _ _ L p _ HTD.out HP.out).mono ?_
      rintro e wg ⟨g, ag, ng, kg, okg, rfl, hg, hbg⟩
      have hng := hg.2.2.1
      have hkg := hg.2.2.2.1
      unfold maxLen at hkg
      obtain ⟨Vg, hVg⟩ : ∃ Vg, Vg = wg.alloc (.cells #[.string g.path, .int .i64 g.kind, .int .i64 g.mode, .int .i64 g.time, .slice ag ng kg, .string g.link] 36) := ⟨_, rfl⟩
      have hbv : Below wd.heap.size wd Vg := below_next hbg (by rw [hVg]; exact (Below.refl _ _).alloc (Nat.le_refl _) _)
      have HTG := Lib.hid (HTD.out.below hbv)
      have HWG := Lib.hid (HWA.out.below hbv)
      have HBG := Lib.hid (below_next HBR0.out hbv)
      have HLG := Lib.hid (Nat.le_trans HL5.out (Nat.le_trans HBR.out.size hbv.size))
      have HGV := Lib.hid hg.2.2.2.2
      clear hg hbg hbv
      go_upto_region 16 with (fail)
      rw [← hVg]
      clear hVg
      go_wp2_with fail
      refine (entries_any _ _ _ L _ HTG.out).mono ?_
      rintro e wa ⟨va, rfl, hga, hba⟩
      have HALL := Lib.hid (show EntsAt (fun k => w3.heap.size ≤ k) wa va L from ents_mono hga.seq (fun k _ hk => Nat.le_trans HLG.out hk.1))
      obtain ⟨aa, ca, rfl, hma, hca⟩ := len_gather hga
      unfold maxLen at hca
      have HTA := Lib.hid (HTG.out.below hba)
      have HWA2 := Lib.hid (HWG.out.below hba)
      have HBA := Lib.hid (below_next HBG.out hba)
      clear hga hba
      go_wp2_with fail
      refine (remove_any _ _ _ L p below _ HTA.out HP.out (HE.out.below HBA.out)).mono ?_
      rintro e wx hr
      obtain ⟨rfl, htx, hgx⟩ := HTA.out.res hr
      have HBR2 := Lib.hid (HBA.out.grown hgx HBA.out.size (fun k e => by cases e; exact HBB.out))
      have HALX := Lib.hid (ents_grown HALL.out (fun h => by have h2 := HLT3.out; omega) hgx)
      have HWAX := Lib.hid (ents_grown HWA2.out (fun h => by have h1 := h.1; have h2 := HLT3.out; omega) hgx)
      cases hf : findE L p with
      | none =>
        have hok : okg = false := by
          rcases HGV.out with ⟨_, h2⟩ | ⟨h1, _, _⟩
          · rw [hf] at h2; cases h2
          · exact h1
        subst hok
        cases hv : validP (bl p)
        · have hrm : removeP L p below = (L, 1) := by unfold removeP; rw [if_pos hv]
          rw [hrm] at htx ⊢
          have HTR2 := Lib.hid htx
          have HVP := Lib.hid hv
          clear hr htx hgx hrm hv hf
          go_wp2_with fail
          refine (valid20_is p false _ (HE.out.below HBR2.out) HVP.out).mono ?_
          rintro e wy ⟨rfl, hby⟩
          have HTR3 := Lib.hid (HTR2.out.below hby)
          have HBR3 := Lib.hid (below_next HBR2.out hby)
          have HALY := Lib.hid (HALX.out.below hby)
          clear hby HTR2 HBR2
          have HTR2 := HTR3
          have HBR2 := HBR3
          go_wp2_with fail
          refine (entries_any _ _ _ L _ HTR2.out).mono ?_
          rintro e wm ⟨vm, rfl, hgm, hbm⟩
          have HGM := Lib.hid hgm.seq
          obtain ⟨am, cm, rfl, -, -⟩ := len_gather hgm
          have HAM := Lib.hid (HALY.out.below hbm)
          have HBM := Lib.hid (below_next HBR2.out hbm)
          clear hgm hbm
          go_wp2_with fail
          refine (sameall_is _ _ L L _ _ true _ HGM.out HAM.out (by simp)).mono ?_
          rintro e wn ⟨rfl, hbn⟩
          have HBN := Lib.hid (below_next HBM.out hbn)
          clear hbn
          go_wp2_with fail
          go_ret
          exact ⟨rfl, HBN.out⟩
        · have hrm : removeP L p below = (L, 4) := by unfold removeP; rw [hv, hf]; rfl
          rw [hrm] at htx ⊢
          have HTR2 := Lib.hid htx
          clear hr htx hgx hrm hv hf
          go_wp2_with fail
          refine (entries_any _ _ _ L _ HTR2.out).mono ?_
          rintro e wm ⟨vm, rfl, hgm, hbm⟩
          have HGM := Lib.hid hgm.seq
          obtain ⟨am, cm, rfl, -, -⟩ := len_gather hgm
          have HAM := Lib.hid (HALX.out.below hbm)
          have HBM := Lib.hid (below_next HBR2.out hbm)
          clear hgm hbm
          go_wp2_with fail
          refine (sameall_is _ _ L L _ _ true _ HGM.out HAM.out (by simp)).mono ?_
          rintro e wn ⟨rfl, hbn⟩
          have HBN := Lib.hid (below_next HBM.out hbn)
          clear hbn
          go_wp2_with fail
          go_ret
          exact ⟨rfl, HBN.out⟩
      | some f =>
        have hok : okg = true := by
          rcases HGV.out with ⟨h1, _⟩ | ⟨_, h2, _⟩
          · exact h1
          · rw [hf] at h2; cases h2
        subst hok
        have hvp : validP (bl p) = true := by
          obtain ⟨h1, h2⟩ := findE_some hf
          rw [← h2]; exact vEnt_path (HTA.out.ok.val f h1)
        have hrm := remove_some (below := below) hvp hf
        have hpl : (pathsM L p).length = ik := by unfold pathsM; rw [List.length_map, atP_there hf, HIK.out]
        rw [hpl] at hrm
        by_cases hbad : below = false ∧ 1 < ik
        · rw [if_pos hbad] at hrm
          obtain ⟨rfl, h1⟩ := hbad
          have h1' : (1 : Int) < (ik : Int) := by omega
          rw [hrm] at htx ⊢
          have HTR2 := Lib.hid htx
          clear hr htx hgx hrm hf hvp hpl
          go_wp2_with fail
          refine (entries_any _ _ _ L _ HTR2.out).mono ?_
          rintro e wm ⟨vm, rfl, hgm, hbm⟩
          have HGM := Lib.hid hgm.seq
          obtain ⟨am, cm, rfl, -, -⟩ := len_gather hgm
          have HAM := Lib.hid (HALX.out.below hbm)
          have HBM := Lib.hid (below_next HBR2.out hbm)
          clear hgm hbm
          go_wp2_with fail
          refine (sameall_is _ _ L L _ _ true _ HGM.out HAM.out (by simp)).mono ?_
          rintro e wn ⟨rfl, hbn⟩
          have HBN := Lib.hid (below_next HBM.out hbn)
          clear hbn
          go_wp2_with fail
          go_ret
          exact ⟨rfl, HBN.out⟩
        · rw [if_neg hbad] at hrm
          obtain ⟨M, hM⟩ : ∃ M, M = L.filter (fun e => !inB p e) := ⟨_, rfl⟩
          rw [← hM] at hrm HWAX
          rw [hrm] at htx ⊢
          have HTR2 := Lib.hid htx
          clear hr htx hgx hrm hf hvp hpl hM
          cases below
          · have h1' : decide (1 < ik) = false := by simp; simp at hbad; omega
            have h1'' : ik ≤ 1 := by simp at hbad; omega
            clear hbad
            go_wp2_with fail
            refine (entries_any _ _ _ M _ HTR2.out).mono ?_
            rintro e wm ⟨vm, rfl, hgm, hbm⟩
            have HGM := Lib.hid hgm.seq
            obtain ⟨am, cm, rfl, -, -⟩ := len_gather hgm
            have HAM := Lib.hid (HWAX.out.below hbm)
            have HBM := Lib.hid (below_next HBR2.out hbm)
            clear hgm hbm
            go_wp2_with fail
            refine (sameall_is _ _ M M _ _ true _ HGM.out HAM.out (by simp)).mono ?_
            rintro e wn ⟨rfl, hbn⟩
            have HBN := Lib.hid (below_next HBM.out hbn)
            clear hbn
            go_wp2_with fail
            go_ret
            exact ⟨rfl, HBN.out⟩
          · clear hbad
            go_wp2_with fail
            refine (entries_any _ _ _ M _ HTR2.out).mono ?_
            rintro e wm ⟨vm, rfl, hgm, hbm⟩
            have HGM := Lib.hid hgm.seq
            obtain ⟨am, cm, rfl, -, -⟩ := len_gather hgm
            have HAM := Lib.hid (HWAX.out.below hbm)
            have HBM := Lib.hid (below_next HBR2.out hbm)
            clear hgm hbm
            go_wp2_with fail
            refine (sameall_is _ _ M M _ _ true _ HGM.out HAM.out (by simp)).mono ?_
            rintro e wn ⟨rfl, hbn⟩
            have HBN := Lib.hid (below_next HBM.out hbn)
            clear hbn
            go_wp2_with fail
            go_ret
            exact ⟨rfl, HBN.out⟩

end Go.Proofs.YtbkhdpocmmjnbaaDoor

/- FiletreeRemoves: for every input the law returns true, and each argument reads afterwards as it read before (the tied card). -/
namespace Go.Proofs.YtbkhdpocmmjnbaaDoor
open Go.ChangeShapes Go.WideShapes Go.ChangeAt Go.RowKit Go.Lib Go.Shelf
open Go.ChangeMaps (open_string shut_string)

namespace CRemoves
set_option maxRecDepth 100000 in
theorem lifted (os : Os) (started : os.Started) (H : Type) (enc : TypeId × Value → H) :
    ReturnsInHanded {} Tryd.checked os 5 .any (fun w args => (Rows.filetreeRemovesSpec.pre enc Tryd.prog Tryd.f5 [] false w args ∧ laidMetH Tryd.prog laidL w) ∧ sizedMet enc Tryd.prog Tryd.f5 (OpenSpec.ofChange Rows.filetreeRemovesSpec) false w args)
      (Rows.filetreeRemovesSpec.post enc Tryd.prog Tryd.f5 false true false false) := by
  refine handed (C := Tryd.checked) (X := fun w _ => laidMetH Tryd.prog laidL w) (fun _ _ _ hh h => h.of_heap hh) own started (by kernel_rfl) Tryd.func5
    (ChangeSpec.witness_shaped (enc := enc) (C := Tryd.checked) (os := os) (X := fun w _ => laidMetH Tryd.prog laidL w) false (World.laidAll Tryd.prog os laidL) #[.slice none 0 0, .string ⟨#[]⟩, .bool false] 8 (World.laidAll_os _ _ _)
      (World.shaped_of_ZipB (by kernel_rfl) (by kernel_rfl)) (by kernel_rfl) (by kernel_rfl) (by kernel_rfl)
      (by rw [MakeChecks.laidMetH_plain _ _ _ (by kernel_rfl)]; exact laidMet_laidAll _ (by kernel_rfl) (by kernel_rfl))) ?_
  intro W base args ds gs before hval0 hW _hWt hL hsh
  have hval : ∀ (j : Nat) t v, Tryd.f5.params[j]? = some t → args[j]? = some v → Value.okWide Tryd.prog W .any base t v := hval0
  have hW' := hW
  obtain ⟨p, q, hA0, hV, rfl, _, _⟩ := hW
  have hA : DataW.TrodAll enc Tryd.prog W 0 (fun _ => true) true Tryd.f5.params.toList args.toList ds p := hA0
  rw [Tryd.params5] at hA hval
  obtain ⟨rfl, rfl⟩ := trodVars_none hV
  simp only [List.append_nil] at hW'
  obtain ⟨v0, v1, v2, d0, d1, d2, p0, p1, p2, rfl, rfl, rfl, h0, h1, h2⟩ := trodAll_three hA
  obtain ⟨l, hl⟩ := open_ops (hval 0 33 v0 rfl rfl) h0
  obtain ⟨q1, rfl, rfl, rfl, w1⟩ := open_string Tryd.underlying9 (hval 1 9 v1 rfl rfl) h1
  obtain ⟨bb, rfl, rfl, rfl⟩ := open_bool Tryd.underlying4 (hval 2 4 v2 rfl rfl) h2
  have hlt0 : ∀ x ∈ p0, x.block < W.heap.size := fun x hx => by simpa using hW'.lt x (by simp [hx])
  refine (removes_walk l v0 q1 bb W hl w1 (env_of hL hsh)).mono fun e W' ⟨he, hb⟩ => ?_
  subst he
  exact ⟨_, rfl, _, _, _, [], _, [], hW', trodAll_mk1 (shut_bool Tryd.underlying4 _), trodAll_mk3 (Below.trod laidOut (by kernel_rfl) (of_decide_eq_true (by kernel_rfl)) h0 hb hlt0) (shut_string Tryd.underlying9 w1) (shut_bool Tryd.underlying4 _), rfl, hb.frame _, fun h => by cases h⟩
theorem holds : Rows.FiletreeRemovesSaid :=
  OpenClaim.holds_of_wide 5 Tryd.f5 rfl rfl rfl rfl rfl rfl rfl ⟨rfl, rfl, rfl, rfl, rfl⟩ rfl rfl rfl rfl rfl (by kernel_rfl) Tryd.func5 (by kernel_rfl)
    (of_decide_eq_true (by kernel_rfl)) (by unfold Func.isWrapper; first | (rw [if_pos (by decide +kernel)]; kernel_rfl) | (rw [if_neg (by decide +kernel)]; exact ⟨rfl, rfl⟩))
    (fun os started H enc _ => lifted os started H enc)
theorem card_holds : Rows.FiletreeRemovesCardSaid :=
  Claim7.holds_tied_plain_at .later [] [.data, .pinned] true (true, "1e330c748a24b17595aadf72b64a83374ff5931bb575de300cc11a52c67695f6") false holds (fun _ h => by cases h) (by kernel_rfl) (fun _ h => by cases h) filetreeRemoves_row_tie rfl ⟨rfl, rfl⟩ (by kernel_rfl) rfl
    (fun f fn hf hfn => by
      obtain rfl : f = 5 := Option.some.inj ((show Tryd.prog.funcNamed "kinkeep/kinkeeplaw20.FiletreeRemoves" = some 5 by kernel_rfl).symm.trans hf) |>.symm
      obtain rfl : fn = Tryd.f5 := (Option.some.inj (Tryd.func5.symm.trans hfn)).symm
      exact ⟨by kernel_rfl, fun j t ht => by
        rw [Tryd.params5] at ht
        have hm : t ∈ [33, 9, 4] := by simpa using Array.mem_of_getElem? ht
        have hall : ([33, 9, 4].all fun u => !Tryd.prog.wantsStandIn u) = true := by kernel_rfl
        exact (show Tryd.prog.wantsStandIn t = false by simpa using List.all_eq_true.1 hall t hm)⟩)
    (by kernel_rfl)
#print axioms card_holds
end CRemoves
theorem filetreeRemoves_card : Rows.FiletreeRemovesCardSaid := CRemoves.card_holds
end Go.Proofs.YtbkhdpocmmjnbaaDoor
