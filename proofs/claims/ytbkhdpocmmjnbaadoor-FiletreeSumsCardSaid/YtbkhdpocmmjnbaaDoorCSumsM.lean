/- FiletreeSums: for every input the law returns true, and each argument reads afterwards as it read before (the tied card). -/
import Derived.Test.YtbkhdpocmmjnbaaDoorMD
import Derived.ChangeKeysEq
import Derived.Laws.StructEq
/- The law FiletreeStays: its walk. -/
namespace Go.Proofs.YtbkhdpocmmjnbaaDoor
open Go Go.RowKit Go.Maps

theorem doP_err {L : List Ent} {x : POp} (h : (doP L x).2 ≠ 0) : (doP L x).1 = L := by
  unfold doP at h ⊢
  split
  · rename_i h1
    rw [if_pos h1] at h
    unfold putP at h ⊢
    repeat' split
    all_goals first | rfl | (exfalso; apply h; simp_all)
  · rename_i h1
    rw [if_neg h1] at h
    split
    · rename_i h2
      rw [if_pos h2] at h
      unfold removeP at h ⊢
      repeat' split
      all_goals first | rfl | (exfalso; apply h; simp_all)
    · rename_i h2
      rw [if_neg h2] at h
      split
      · rename_i h3
        rw [if_pos h3] at h
        unfold moveP at h ⊢
        repeat' split
        all_goals first | rfl | (exfalso; apply h; simp_all)
      · rfl
theorem data_other {S : Nat → Prop} {w w' : World} {b : Nat} {v : Value} {bs : List UInt8} (h : DataAt S w v bs) (hf : ¬ S b) (hg : w.grownBy w' (some b)) : DataAt S w' v bs := data_grown h hf hg
theorem TreeAt.other {S : Nat → Prop} {w w' : World} {tb mb b : Nat} {L : List Ent} (h : TreeAt S w tb mb L) (hg : w.grownBy w' (some b)) (h1 : tb ≠ b) (h2 : mb ≠ b) (h3 : ¬ S b) : TreeAt S w' tb mb L := by
  obtain ⟨xs, hm, hp⟩ := h.ents
  exact ⟨hg.cell h.cell (fun e => h1 (Option.some.inj e)), h.ne, h.far, fun k hk => Nat.lt_of_lt_of_le (h.lt k hk) hg.size, h.ok, xs,
    ⟨hm.map.same (hg.block mb hm.map.lt (fun e => h2 (Option.some.inj e))), fun x hx => ⟨data_grown (hm.dat x hx).1 h3 hg, (hm.dat x hx).2⟩, hm.far⟩, hp⟩
theorem equal_is (S T : Nat → Prop) (tb mb ub nb : Nat) (L M : List Ent) (r : Bool) (w : World) (ht : TreeAt S w tb mb L) (hu : TreeAt T w ub nb M) (hr : decide (L = M) = r) :
    Calls Tryd.prog 31 #[.pointer (some ⟨tb, 0, none⟩), .pointer (some ⟨ub, 0, none⟩)] w fun e w' => e = .returned (.bool r) ∧ Below w.heap.size w w' := by
  rw [← hr]; exact equal_any S T tb mb ub nb L M w ht hu
theorem from_ok (S : Nat → Prop) (L : List Ent) (v : Value) (w : World) (hv : EntsAt S w v L) (henv : Env w) (h : TOk L) : Calls Tryd.prog 11 #[v] w fun e w' => Below w.heap.size w w' ∧ ∃ tb mb, e = .returned (.tuple #[.pointer (some ⟨tb, 0, none⟩), .int .i64 0]) ∧ NewTree w w' tb mb L :=
  (from_any S L v w hv henv).mono fun _ _ ⟨hb, hr⟩ => ⟨hb, (hr.resolve_left (fun h2 => h2.1 (checkP_iff.2 h))).2⟩
set_option maxRecDepth 100000 in
set_option maxHeartbeats 4000000 in
theorem stays_walk (l : List POp) (v : Value) (w : World) (hv : OpsAt (fun _ => True) w v l) (henv : Env w) :
    Calls Tryd.prog 8 #[v] w fun e w' => e = .returned (.bool true) ∧ Below w.heap.size w w' := by
  have HV := Lib.hid hv
  have HE := Lib.hid henv
  obtain ⟨a, cap, rfl, hc, hm, -⟩ := SeqAt.shape hv OpR.len
  unfold maxLen at hm
  obtain ⟨n, hn⟩ : ∃ n, n = l.length := ⟨_, rfl⟩
  have HN := Lib.hid hn
  rw [← hn] at hc HV ⊢
  clear hv henv hn
  go_enter Tryd.func8, Tryd.ntmps8
  go_wp2_with fail
  refine (awakeT_any w HE.out).mono ?_
  rintro e w1 ⟨rfl, hb1⟩
  have HB1 := Lib.hid hb1
  clear hb1
  go_wp2_with fail
  refine (wide_any _ l _ _ (HV.out.below HB1.out)).mono ?_
  rintro e w2 ⟨wb, rfl, -, hb2⟩
  have HB2 := Lib.hid (below_next HB1.out hb2)
  clear hb2
  cases wb
  · go_wp2_with fail
    refine (newB_any _).mono ?_
    rintro e w3 ⟨rfl, ht3, hb3⟩
    obtain ⟨B, hB⟩ : ∃ B, B = w2.heap.size := ⟨_, rfl⟩
    rw [← hB] at ht3 ⊢
    have HBB := Lib.hid (show w.heap.size ≤ B by rw [hB]; exact HB2.out.size)
    have HT3 := Lib.hid ht3
    have HB3 := Lib.hid (below_next HB2.out hb3)
    clear ht3 hb3 hB
    go_wp2_with fail
    go_loopw [17] (fun i wr => ∃ (k : Nat) (L : List Ent), k ≤ n ∧ i = .int .i64 k ∧ TreeB B wr L ∧ Below w.heap.size w wr) (fun i _ => n - (intOf i).toNat)
    case atStart => exact ⟨0, [], Nat.zero_le _, rfl, HT3.out, HB3.out⟩
    case round =>
      obtain ⟨k, L, hk, rfl, htr, hbr⟩ := hrel
      have HTR := Lib.hid htr
      have HBR := Lib.hid hbr
      clear htr hbr
      by_cases hlt : k < n
      · obtain ⟨x, hx⟩ : ∃ x, l[k]? = some x := ⟨l[k]'(by rw [← HN.out]; exact hlt), by simp⟩
        obtain ⟨b, o, dv, rfl, hb, hd, hok, hq⟩ := ops_at (HV.out.below HBR.out) hx
        obtain ⟨a1, cap1, rfl, hd1, hd2⟩ := hd.slice
        have q0 := hq 0 (by omega)
        have q1 := hq 1 (by omega)
        have q2 := hq 2 (by omega)
        have q3 := hq 3 (by omega)
        have q4 := hq 4 (by omega)
        have q5 := hq 5 (by omega)
        have q6 := hq 6 (by omega)
        have q7 := hq 7 (by omega)
        have q8 := hq 8 (by omega)
        have q9 := hq 9 (by omega)
        simp only [opC, List.getElem?_cons_succ, List.getElem?_cons_zero, Nat.add_zero] at q0 q1 q2 q3 q4 q5 q6 q7 q8 q9
        have HX := Lib.hid hx
        have HD := Lib.hid hd
        have HOK := Lib.hid hok
        unfold maxLen at hd2
        clear hx hd hok hq
        go_wp2_with fail
        obtain ⟨W, hW⟩ : ∃ W, W = wr.alloc (.cells #[.int .i64 x.kind, .string x.en.path, .int .i64 x.en.kind, .int .i64 x.en.mode, .int .i64 x.en.time, .slice a1 x.en.data.length cap1, .string x.en.link, .string x.src, .string x.dst, .bool x.below] 64) := ⟨_, rfl⟩
        rw [← hW]
        have HXB := Lib.hid (show W.heap[wr.heap.size]? = some (.cells #[.int .i64 x.kind, .string x.en.path, .int .i64 x.en.kind, .int .i64 x.en.mode, .int .i64 x.en.time, .slice a1 x.en.data.length cap1, .string x.en.link, .string x.src, .string x.dst, .bool x.below] 64 (0, 0)) by rw [hW]; exact new20 wr _)
        have HWL := Lib.hid (show Below wr.heap.size wr W by rw [hW]; exact (Below.refl _ _).alloc (Nat.le_refl _) _)
        have HTW := Lib.hid (HTR.out.below HWL.out)
        have HBW := Lib.hid (below_next HBR.out HWL.out)
        clear hW q0 q1 q2 q3 q4 q5 q6 q7 q8 q9
        refine (clone_tree _ _ _ L _ HTW.out).mono ?_
        rintro e w4 ⟨rfl, ⟨S4, hS4, ht4⟩, hb4⟩
        have HU4 := Lib.hid ht4
        have HS4 := Lib.hid hS4
        have HX4 := Lib.hid ((hb4.block wr.heap.size (lt20 HXB.out)).trans HXB.out)
        have HT4 := Lib.hid (HTW.out.below hb4)
        have HB4 := Lib.hid (below_next HBW.out hb4)
        have HL4 := Lib.hid (HWL.out.trans (hb4.mono HWL.out.size))
        have HWS := Lib.hid (Nat.lt_of_lt_of_le (block_lt HTR.out.cell) HWL.out.size)
        clear ht4 hS4 hb4
        have c0 := cell20 (k := 0) HX4.out
        have c1 := cell20 (k := 1) HX4.out
        have c2 := cell20 (k := 2) HX4.out
        have c3 := cell20 (k := 3) HX4.out
        have c4 := cell20 (k := 4) HX4.out
        have c5 := cell20 (k := 5) HX4.out
        have c6 := cell20 (k := 6) HX4.out
        have c7 := cell20 (k := 7) HX4.out
        have c8 := cell20 (k := 8) HX4.out
        have c9 := cell20 (k := 9) HX4.out
        simp only [List.getElem?_toArray, List.getElem?_cons_succ, List.getElem?_cons_zero] at c0 c1 c2 c3 c4 c5 c6 c7 c8 c9
        go_wp2_with fail
        refine (do_any _ (fun _ => True) _ _ L x (.slice a1 x.en.data.length cap1) _ HT4.out (HD.out.below HL4.out) HOK.out (HE.out.below HB4.out)).mono ?_
        rintro e w5 hr
        obtain ⟨rfl, ht5, hg5⟩ := HT4.out.res hr
        have HT5 := Lib.hid ht5
        have HWN : B + 1 < W.heap.size := HWS.out
        have HU5 := Lib.hid (HU4.out.other hg5 (by omega) (by omega) (fun h => by have := HS4.out _ h; omega))
        have HB5 := Lib.hid (HB4.out.grown hg5 HB4.out.size (fun k e => by cases e; exact HBB.out))
        obtain ⟨M, hM⟩ : ∃ M, M = (doP L x).1 := ⟨_, rfl⟩
        have HM := Lib.hid hM
        rw [← hM] at HT5
        obtain ⟨er, her⟩ : ∃ er, er = (doP L x).2 := ⟨_, rfl⟩
        have HER := Lib.hid her
        rw [← her]
        clear hr ht5 hg5 hM her c0 c1 c2 c3 c4 c5 c6 c7 c8 c9
        by_cases h0 : er = 0
        · subst h0
          go_wp2_with fail
          refine (entries_any _ _ _ M _ HT5.out).mono ?_
          rintro e w7 ⟨v7, rfl, hg7, hb7⟩
          have HG7 := Lib.hid hg7.seq
          have HT7 := Lib.hid (HT5.out.below hb7)
          have HB7 := Lib.hid (below_next HB5.out hb7)
          obtain ⟨a7, c7, rfl, -, -⟩ := len_gather hg7
          clear hg7 hb7
          go_wp2_with fail
          refine (check_is _ M _ 0 _ HG7.out (HE.out.below HB7.out) (checkP_iff.2 HT7.out.ok)).mono ?_
          rintro e w8 ⟨rfl, hb8⟩
          have HT8 := Lib.hid (HT7.out.below hb8)
          have HB8 := Lib.hid (below_next HB7.out hb8)
          clear hb8
          go_wp2_with fail
          go_roundw
          case rel => exact ⟨k + 1, M, by omega, by go_num, HT8.out, HB8.out⟩
          case measure => simp [intOf]; omega
        · have e1 : (er != 0) = true := by simp [h0]
          have HEQ := Lib.hid (show decide (M = L) = true by rw [HM.out, doP_err (by rw [← HER.out]; exact h0)]; simp)
          clear h0
          go_wp2_with fail
          refine (equal_is _ _ _ _ _ _ M L true _ HT5.out HU5.out HEQ.out).mono ?_
          rintro e w6 ⟨rfl, hb6⟩
          have HT6 := Lib.hid (HT5.out.below hb6)
          have HB6 := Lib.hid (below_next HB5.out hb6)
          clear hb6
          go_wp2_with fail
          refine (entries_any _ _ _ M _ HT6.out).mono ?_
          rintro e w7 ⟨v7, rfl, hg7, hb7⟩
          have HG7 := Lib.hid hg7.seq
          have HT7 := Lib.hid (HT6.out.below hb7)
          have HB7 := Lib.hid (below_next HB6.out hb7)
          obtain ⟨a7, c7, rfl, -, -⟩ := len_gather hg7
          clear hg7 hb7
          go_wp2_with fail
          refine (check_is _ M _ 0 _ HG7.out (HE.out.below HB7.out) (checkP_iff.2 HT7.out.ok)).mono ?_
          rintro e w8 ⟨rfl, hb8⟩
          have HT8 := Lib.hid (HT7.out.below hb8)
          have HB8 := Lib.hid (below_next HB7.out hb8)
          clear hb8
          go_wp2_with fail
          go_roundw
          case rel => exact ⟨k + 1, M, by omega, by go_num, HT8.out, HB8.out⟩
          case measure => simp [intOf]; omega
      · have hk2 : k = n := by omega
        go_wp2_with fail
        refine (entries_any _ _ _ L _ HTR.out).mono ?_
        rintro e w4 ⟨v4, rfl, hg4, hb4⟩
        have HG4 := Lib.hid hg4.seq
        have HT4 := Lib.hid (HTR.out.below hb4)
        have HB4 := Lib.hid (below_next HBR.out hb4)
        obtain ⟨a4, c4, rfl, -, -⟩ := len_gather hg4
        clear hg4 hb4
        go_wp2_with fail
        refine (from_ok _ L _ _ HG4.out (HE.out.below HB4.out) HT4.out.ok).mono ?_
        rintro e w5 ⟨hb5, ub, nb, rfl, -, -, S5, -, ht5⟩
        have HU5 := Lib.hid ht5
        have HT5 := Lib.hid (HT4.out.below hb5)
        have HB5 := Lib.hid (below_next HB4.out hb5)
        clear hb5 ht5
        go_wp2_with fail
        refine (equal_is _ _ _ _ _ _ L L true _ HU5.out HT5.out (by simp)).mono ?_
        rintro e w6 ⟨rfl, hb6⟩
        have HU6 := Lib.hid (HU5.out.below hb6)
        have HT6 := Lib.hid (HT5.out.below hb6)
        have HB6 := Lib.hid (below_next HB5.out hb6)
        clear hb6
        go_wp2_with fail
        refine (equal_is _ _ _ _ _ _ L L true _ HT6.out HU6.out (by simp)).mono ?_
        rintro e w7 ⟨rfl, hb7⟩
        have HB7 := Lib.hid (below_next HB6.out hb7)
        clear hb7
        go_wp2_with fail
        go_ret
        exact ⟨rfl, HB7.out⟩
  · go_wp2_with fail
    go_ret
    exact ⟨rfl, HB2.out⟩

end Go.Proofs.YtbkhdpocmmjnbaaDoor

/- The law FiletreeMoves: its walk. -/
namespace Go.Proofs.YtbkhdpocmmjnbaaDoor
open Go Go.RowKit Go.Maps

theorem moveP_err {L : List Ent} {p q : ByteArray} (h : (moveP L p q).2 ≠ 0) : (moveP L p q).1 = L := by
  have := doP_err (L := L) (x := ⟨3, ⟨⟨#[]⟩, 0, 0, 0, [], ⟨#[]⟩⟩, p, q, false⟩)
  simp only [doP, if_neg (show ¬ (3 : Int) = 1 by decide), if_neg (show ¬ (3 : Int) = 2 by decide), if_true] at this
  exact this h
theorem get_some (S : Nat → Prop) (tb mb : Nat) (L : List Ent) (p : ByteArray) (f : Ent) (w : World) (ht : TreeAt S w tb mb L) (hps : p.size ≤ maxLen) (hf : findE L p = some f) :
    Calls Tryd.prog 19 #[.pointer (some ⟨tb, 0, none⟩), .string p] w fun e w' => ∃ a c, e = .returned (.tuple #[.agg #[.string f.path, .int .i64 f.kind, .int .i64 f.mode, .int .i64 f.time, .slice a f.data.length c, .string f.link], .bool true]) ∧ DataAt (fun k => w.heap.size ≤ k ∧ k < w'.heap.size) w' (.slice a f.data.length c) f.data ∧ Below w.heap.size w w' :=
  (get_any S tb mb L p w ht hps).mono fun e w' ⟨hb, hr⟩ => by
    rw [hf] at hr
    obtain ⟨v, rfl, ho⟩ := hr
    have hd := data_of_owns ho
    obtain ⟨a, c, rfl, -, -⟩ := owns_shape ho
    exact ⟨a, c, rfl, hd, hb⟩
theorem get_none (S : Nat → Prop) (tb mb : Nat) (L : List Ent) (p : ByteArray) (w : World) (ht : TreeAt S w tb mb L) (hps : p.size ≤ maxLen) (hf : findE L p = none) :
    Calls Tryd.prog 19 #[.pointer (some ⟨tb, 0, none⟩), .string p] w fun e w' => e = .returned (.tuple #[.agg #[.string ⟨#[]⟩, .int .i64 0, .int .i64 0, .int .i64 0, .slice none 0 0, .string ⟨#[]⟩], .bool false]) ∧ Below w.heap.size w w' :=
  (get_any S tb mb L p w ht hps).mono fun e w' ⟨hb, hr⟩ => by
    rw [hf] at hr
    exact ⟨hr, hb⟩
/-- Every Get of a law: what it hands back, and where its data lie. -/
def GotV (L : List Ent) (p : ByteArray) (B : Nat) (w' : World) (g : Ent) (a : Option Addr) (n c : Nat) (ok : Bool) : Prop :=
  DataAt (fun k => B ≤ k ∧ k < w'.heap.size) w' (.slice a n c) g.data ∧ n = g.data.length ∧ n ≤ c ∧ c ≤ maxLen ∧ ((ok = true ∧ findE L p = some g) ∨ (ok = false ∧ findE L p = none ∧ g = ⟨⟨#[]⟩, 0, 0, 0, [], ⟨#[]⟩⟩))
theorem get_v (S : Nat → Prop) (tb mb : Nat) (L : List Ent) (p : ByteArray) (w : World) (ht : TreeAt S w tb mb L) (hps : p.size ≤ maxLen) :
    Calls Tryd.prog 19 #[.pointer (some ⟨tb, 0, none⟩), .string p] w fun e w' => ∃ g a n c ok, e = .returned (.tuple #[.agg #[.string g.path, .int .i64 g.kind, .int .i64 g.mode, .int .i64 g.time, .slice a n c, .string g.link], .bool ok]) ∧ GotV L p w.heap.size w' g a n c ok ∧ Below w.heap.size w w' :=
  (get_any S tb mb L p w ht hps).mono fun e w' ⟨hb, hr⟩ => by
    cases hf : findE L p with
    | none =>
      rw [hf] at hr
      exact ⟨⟨⟨#[]⟩, 0, 0, 0, [], ⟨#[]⟩⟩, none, 0, 0, false, hr, ⟨DataAt.nil _ _, rfl, Nat.le_refl _, by decide, .inr ⟨rfl, hf, rfl⟩⟩, hb⟩
    | some f =>
      rw [hf] at hr
      obtain ⟨v, rfl, ho⟩ := hr
      have hd := data_of_owns ho
      obtain ⟨a, c, rfl, h1, h2⟩ := owns_shape ho
      exact ⟨f, a, _, c, true, rfl, ⟨hd, rfl, h1, h2, .inl ⟨rfl, hf⟩⟩, hb⟩
set_option maxRecDepth 100000 in
set_option maxHeartbeats 4000000 in
theorem moves_walk (l : List POp) (v : Value) (p q : ByteArray) (w : World) (hv : OpsAt (fun _ => True) w v l) (hp : p.size ≤ maxLen) (hq : q.size ≤ maxLen) (henv : Env w) :
    Calls Tryd.prog 7 #[v, .string p, .string q] w fun e w' => e = .returned (.bool true) ∧ Below w.heap.size w w' := by
  have HV := Lib.hid hv
  have HE := Lib.hid henv
  have HP := Lib.hid hp
  have HQ := Lib.hid hq
  obtain ⟨a, cap, rfl, hc, hm, -⟩ := SeqAt.shape hv OpR.len
  unfold maxLen at hm hp hq
  clear hv henv
  go_enter Tryd.func7, Tryd.ntmps7
  go_wp2_with fail
  refine (awakeT_any w HE.out).mono ?_
  rintro e w1 ⟨rfl, hb1⟩
  have HB1 := Lib.hid hb1
  clear hb1
  go_wp2_with fail
  refine (wide_any _ l _ _ (HV.out.below HB1.out)).mono ?_
  rintro e w2 ⟨wb, rfl, -, hb2⟩
  have HB2 := Lib.hid (below_next HB1.out hb2)
  clear hb2
  cases wb
  case true =>
    go_wp2_with fail
    go_ret
    exact ⟨rfl, HB2.out⟩
  by_cases hp6 : 600 < p.size
  · have hp6' : decide (600 < p.size) = true := by simp [hp6]
    go_wp2_with fail
    go_ret
    exact ⟨rfl, HB2.out⟩
  have hp6' : decide (600 < p.size) = false := by simp; omega
  by_cases hq6 : 600 < q.size
  · have hq6' : decide (600 < q.size) = true := by simp [hq6]
    go_wp2_with fail
    go_ret
    exact ⟨rfl, HB2.out⟩
  have hq6' : decide (600 < q.size) = false := by simp; omega
  go_wp2_with fail
  refine (play_any _ l _ _ (HV.out.below HB2.out) (HE.out.below HB2.out)).mono ?_
  rintro e w3 ⟨rfl, ht3, hb3⟩
  obtain ⟨B, hB⟩ : ∃ B, B = w2.heap.size := ⟨_, rfl⟩
  rw [← hB] at ht3 ⊢
  have HBB := Lib.hid (show w.heap.size ≤ B by rw [hB]; exact HB2.out.size)
  have HT3 := Lib.hid ht3
  have HB3 := Lib.hid (below_next HB2.out hb3)
  have HLT3 := Lib.hid (show B + 1 < w3.heap.size from block_lt ht3.cell)
  obtain ⟨L, hL⟩ : ∃ L, L = playP [] l := ⟨_, rfl⟩
  rw [← hL] at HT3
  clear ht3 hb3 hB hL
  go_wp2_with fail
  refine (clone_tree _ _ _ L _ HT3.out).mono ?_
  rintro e w4 ⟨rfl, ⟨S4, hS4, ht4⟩, hb4⟩
  have HU4 := Lib.hid ht4
  have HS4 := Lib.hid hS4
  have HT4 := Lib.hid (HT3.out.below hb4)
  have HB4 := Lib.hid (below_next HB3.out hb4)
  have HL4 := Lib.hid hb4.size
  have HUL := Lib.hid (show w3.heap.size + 1 < w4.heap.size from block_lt ht4.cell)
  have HSL := Lib.hid ht4.lt
  clear ht4 hS4 hb4
  go_wp2_with fail
  refine (size_any _ _ _ L p _ HT4.out HP.out).mono ?_
  rintro e w5 ⟨rfl, hb5⟩
  have HT5 := Lib.hid (HT4.out.below hb5)
  have HU5 := Lib.hid (HU4.out.below hb5)
  have HB5 := Lib.hid (below_next HB4.out hb5)
  have HL5 := Lib.hid (Nat.le_trans HL4.out hb5.size)
  have HL54 := Lib.hid hb5.size
  clear hb5
  obtain ⟨cn, hcn⟩ : ∃ cn, cn = cntL (atP L p) := ⟨_, rfl⟩
  have HCN := Lib.hid hcn
  rw [← hcn]
  clear hcn
  go_wp2_with fail
  refine (get_v _ _ _ L p _ HT5.out HP.out).mono ?_
  rintro e w6 ⟨g6, a6, n6, k6, ok6, rfl, hg6, hb6⟩
  have HG6 := Lib.hid hg6
  have hn6 := hg6.2.2.1
  have hk6 := hg6.2.2.2.1
  unfold maxLen at hk6
  have HT6 := Lib.hid (HT5.out.below hb6)
  have HU6 := Lib.hid (HU5.out.below hb6)
  have HB6 := Lib.hid (below_next HB5.out hb6)
  have HL6 := Lib.hid (Nat.le_trans HL5.out hb6.size)
  have HL64 := Lib.hid (Nat.le_trans HL54.out hb6.size)
  clear hb6 hg6
  go_wp2_with fail
  obtain ⟨W, hW⟩ : ∃ W, W = w6.alloc (.cells #[.string g6.path, .int .i64 g6.kind, .int .i64 g6.mode, .int .i64 g6.time, .slice a6 n6 k6, .string g6.link] 36) := ⟨_, rfl⟩
  rw [← hW]
  have HX := Lib.hid (show W.heap[w6.heap.size]? = some (.cells #[.string g6.path, .int .i64 g6.kind, .int .i64 g6.mode, .int .i64 g6.time, .slice a6 n6 k6, .string g6.link] 36 (0, 0)) by rw [hW]; exact new20 w6 _)
  have HWL := Lib.hid (show Below w6.heap.size w6 W by rw [hW]; exact (Below.refl _ _).alloc (Nat.le_refl _) _)
  have HTW := Lib.hid (TreeAt.below HT6.out HWL.out)
  have HWX := Lib.hid (lt20 HX.out)
  have HBB6 := Lib.hid (show w.heap.size ≤ w6.heap.size from HB6.out.size)
  have HUW := Lib.hid (HU6.out.below HWL.out)
  have HBW := Lib.hid (below_next HB6.out HWL.out)
  have HDW := Lib.hid (HG6.out.1.below HWL.out)
  clear hW
  refine (move_any _ _ _ L p q _ HTW.out HP.out HQ.out (HE.out.below HBW.out)).mono ?_
  rintro e w7 hr
  obtain ⟨rfl, ht7, hg7⟩ := hr
  have HB7 := Lib.hid (HBW.out.grown hg7 HBW.out.size (fun k e => by cases e; exact HBB.out))
  have HU7 := Lib.hid (HUW.out.other hg7 (by have := HLT3.out; omega) (by have := HLT3.out; omega) (fun h => by have h1 := HS4.out _ h; have h2 := HLT3.out; omega))
  have HT7 := Lib.hid ht7
  by_cases h0 : (moveP L p q).2 = 0
  case neg =>
    have e1 : ((moveP L p q).2 != 0) = true := by simp [h0]
    have HEQ := Lib.hid (show decide ((moveP L p q).1 = L) = true by rw [moveP_err h0]; simp)
    obtain ⟨er, her⟩ : ∃ er, er = (moveP L p q).2 := ⟨_, rfl⟩
    rw [← her] at e1 ⊢
    clear ht7 hg7 h0 her
    go_wp2_with fail
    refine (equal_is _ _ _ _ _ _ _ L true _ HT7.out HU7.out HEQ.out).mono ?_
    rintro e w8 ⟨rfl, hb8⟩
    have HB8 := Lib.hid (below_next HB7.out hb8)
    clear hb8
    go_wp2_with fail
    go_ret
    exact ⟨rfl, HB8.out⟩
  case pos =>
    rw [h0]
    obtain ⟨hmv, hm1⟩ := move_is HT6.out.ok h0
    have HMV := Lib.hid hmv
    obtain ⟨M, hM⟩ : ∃ M, M = sortP (L.map (moveE p q)) := ⟨_, rfl⟩
    rw [hm1, ← hM] at HT7
    have HM := Lib.hid hM
    obtain ⟨f, hf⟩ := hmv.is
    have hg6e : g6 = f ∧ ok6 = true := by
      rcases HG6.out.2.2.2.2 with ⟨h1, h2⟩ | ⟨h1, h2, _⟩
      · rw [hf] at h2; exact ⟨(Option.some.inj h2).symm, h1⟩
      · rw [hf] at h2; cases h2
    obtain ⟨rfl, rfl⟩ := hg6e
    have hnn : n6 = g6.data.length := HG6.out.2.1
    subst hnn
    have HF := Lib.hid hf
    have HX7 := Lib.hid ((hg7.block w6.heap.size (lt20 HX.out) (fun e => by have h1 := Option.some.inj e; have h2 := HLT3.out; have h3 := HL6.out; omega)).trans HX.out)
    have HD7 := Lib.hid (data_grown HDW.out (fun h => by have h1 := h.1; have h2 := HLT3.out; have h3 := HL5.out; omega) hg7)
    clear ht7 hg7 h0 hmv hm1 hM hf HG6
    go_wp2_with fail
    refine (size_any _ _ _ M q _ HT7.out HQ.out).mono ?_
    rintro e w8 ⟨rfl, hb8⟩
    rw [show cntL (atP M q) = cn by rw [HM.out, HMV.out.count, HCN.out]]
    have HT8 := Lib.hid (HT7.out.below hb8)
    have HU8 := Lib.hid (HU7.out.below hb8)
    have HX8 := Lib.hid ((hb8.block _ (lt20 HX7.out)).trans HX7.out)
    have HD8 := Lib.hid (HD7.out.below hb8)
    have HB8 := Lib.hid (below_next HB7.out hb8)
    clear hb8
    go_wp2_with fail
    refine (get_none _ _ _ M p _ HT8.out HP.out (by rw [HM.out]; exact HMV.out.gone)).mono ?_
    rintro e w9 ⟨rfl, hb9⟩
    have hbA := hb9.alloc hb9.size (.cells #[.string ⟨#[]⟩, .int .i64 0, .int .i64 0, .int .i64 0, .slice none 0 0, .string ⟨#[]⟩] 36)
    have HTA := Lib.hid (HT8.out.below hbA)
    have HUA := Lib.hid (HU8.out.below hbA)
    have HXA := Lib.hid ((hbA.block _ (lt20 HX8.out)).trans HX8.out)
    have HDA := Lib.hid (HD8.out.below hbA)
    have HBA := Lib.hid (below_next HB8.out hbA)
    have HX6A := Lib.hid (lt20 HXA.out)
    clear hb9 hbA
    go_wp2_with fail
    refine (get_some _ _ _ M q { g6 with path := q } _ HTA.out HQ.out (by rw [HM.out]; exact HMV.out.there HF.out)).mono ?_
    rintro e wb ⟨ab, cb, rfl, hdb, hbb⟩
    have HTB := Lib.hid (HTA.out.below hbb)
    have HUB := Lib.hid (HUA.out.below hbb)
    have HXB := Lib.hid ((hbb.block _ (lt20 HXA.out)).trans HXA.out)
    have HDB := Lib.hid (HDA.out.below hbb)
    have HEB := Lib.hid hdb
    have HBBx := Lib.hid (below_next HBA.out hbb)
    have HWLT := Lib.hid (Nat.le_trans (Nat.le_of_lt (lt20 HXA.out)) hbb.size)
    clear hdb hbb
    go_upto_region 15 with (fail)
    obtain ⟨V, hV⟩ : ∃ V, V = wb.alloc (.cells #[.string q, .int .i64 g6.kind, .int .i64 g6.mode, .int .i64 g6.time, .slice ab g6.data.length cb, .string g6.link] 36) := ⟨_, rfl⟩
    rw [← hV]
    have hbv : Below wb.heap.size wb V := by rw [hV]; exact (Below.refl _ _).alloc (Nat.le_refl _) _
    have HZV := Lib.hid (show V.heap[wb.heap.size]? = some (.cells #[.string q, .int .i64 g6.kind, .int .i64 g6.mode, .int .i64 g6.time, .slice ab g6.data.length cb, .string g6.link] 36 (0, 0)) by rw [hV]; exact new20 wb _)
    have HXV := Lib.hid ((hbv.block _ (lt20 HXB.out)).trans HXB.out)
    have HTV := Lib.hid (HTB.out.below hbv)
    have HUV := Lib.hid (HUB.out.below hbv)
    have HDV := Lib.hid (HDB.out.below hbv)
    have HEV := Lib.hid (HEB.out.below hbv)
    have HBV := Lib.hid (below_next HBBx.out hbv)
    have HNE := Lib.hid (show wb.heap.size ≠ w6.heap.size from fun e => by have := lt20 HXB.out; omega)
    clear hV hbv
    have c0 := cell20 (k := 0) HXV.out
    have c1 := cell20 (k := 1) HXV.out
    have c2 := cell20 (k := 2) HXV.out
    have c3 := cell20 (k := 3) HXV.out
    have c4 := cell20 (k := 4) HXV.out
    have c5 := cell20 (k := 5) HXV.out
    simp only [List.getElem?_toArray, List.getElem?_cons_succ, List.getElem?_cons_zero] at c0 c1 c2 c3 c4 c5
    have p0 := frozen20 (k := 0) HXV.out
    go_upto_region 16 with (fail)
    obtain ⟨X, hX⟩ : ∃ X, X = V.setCell ⟨w6.heap.size, 0, none⟩ (.string q) := ⟨_, rfl⟩
    rw [← hX]
    have hgx : V.grownBy X (some w6.heap.size) := by rw [hX]; exact grownBy_setCell' V _ _
    have HXX := Lib.hid (show X.heap[w6.heap.size]? = some (.cells #[.string q, .int .i64 g6.kind, .int .i64 g6.mode, .int .i64 g6.time, .slice a6 g6.data.length k6, .string g6.link] 36 (0, 0)) by rw [hX]; exact set20 HXV.out _)
    have HZX := Lib.hid (show X.heap[wb.heap.size]? = some (.cells #[.string q, .int .i64 g6.kind, .int .i64 g6.mode, .int .i64 g6.time, .slice ab g6.data.length cb, .string g6.link] 36 (0, 0)) by rw [hX]; exact setOther20 HZV.out HNE.out _)
    have HTX := Lib.hid (HTV.out.other hgx (by have h2 := HLT3.out; have h3 := HL6.out; omega) (by have h2 := HLT3.out; have h3 := HL6.out; omega) (fun h => by have h3 := HWX.out; rcases h with h | h; exact absurd h.2 (Nat.lt_irrefl _); omega))
    have HUX := Lib.hid (HUV.out.other hgx (by have h3 := HUL.out; have h4 := HL64.out; omega) (by have h3 := HUL.out; have h4 := HL64.out; omega) (fun h => by have h1 := HSL.out _ h; have h4 := HL64.out; omega))
    clear hX p0 c0 c1 c2 c3 c4 c5
    have HDX := Lib.hid (data_grown (mb := w6.heap.size) HDV.out (fun h => by have h1 := h.2; omega) hgx)
    have HEX := Lib.hid (data_grown (mb := w6.heap.size) HEV.out (fun h => by have h1 := h.1; have h2 := HX6A.out; omega) hgx)
    have HBX := Lib.hid (HBV.out.grown hgx HBV.out.size (fun k e => by cases e; exact HBB6.out))
    clear hgx
    have c0 := cell20 (k := 0) HXX.out
    have c1 := cell20 (k := 1) HXX.out
    have c2 := cell20 (k := 2) HXX.out
    have c3 := cell20 (k := 3) HXX.out
    have c4 := cell20 (k := 4) HXX.out
    have c5 := cell20 (k := 5) HXX.out
    simp only [List.getElem?_toArray, List.getElem?_cons_succ, List.getElem?_cons_zero] at c0 c1 c2 c3 c4 c5
    have d0 := cell20 (k := 0) HZX.out
    have d1 := cell20 (k := 1) HZX.out
    have d2 := cell20 (k := 2) HZX.out
    have d3 := cell20 (k := 3) HZX.out
    have d4 := cell20 (k := 4) HZX.out
    have d5 := cell20 (k := 5) HZX.out
    simp only [List.getElem?_toArray, List.getElem?_cons_succ, List.getElem?_cons_zero] at d0 d1 d2 d3 d4 d5
    go_wp2_with fail
    refine (r_same20_is _ _ { g6 with path := q } { g6 with path := q } (.slice a6 g6.data.length k6) (.slice ab g6.data.length cb) true _ HDX.out HEX.out (by simp)).mono ?_
    rintro e wc ⟨rfl, hbc⟩
    have HTC := Lib.hid (HTX.out.below hbc)
    have HUC := Lib.hid (HUX.out.below hbc)
    have HBC := Lib.hid (below_next HBX.out hbc)
    clear hbc c0 c1 c2 c3 c4 c5 d0 d1 d2 d3 d4 d5
    go_wp2_with fail
    refine (equal_is _ _ _ _ _ _ M L false _ HTC.out HUC.out (by rw [HM.out]; simp only [decide_eq_false_iff_not]; exact fun h => HMV.out.ne h.symm)).mono ?_
    rintro e wd ⟨rfl, hbd⟩
    have HTD := Lib.hid (HTC.out.below hbd)
    have HUD := Lib.hid (HUC.out.below hbd)
    have HBD := Lib.hid (below_next HBC.out hbd)
    clear hbd
    go_wp2_with fail
    refine (move_any _ _ _ M q p _ HTD.out HQ.out HP.out (HE.out.below HBD.out)).mono ?_
    rintro e we hr
    rw [show moveP M q p = (L, 0) by rw [HM.out]; exact HMV.out.again] at hr
    obtain ⟨rfl, hte, hge⟩ := hr
    have HTE := Lib.hid hte
    have HUE := Lib.hid (HUD.out.other hge (by have := HLT3.out; omega) (by have := HLT3.out; omega) (fun h => by have h1 := HS4.out _ h; have h2 := HLT3.out; omega))
    have HBE := Lib.hid (HBD.out.grown hge HBD.out.size (fun k e => by cases e; exact HBB.out))
    clear hte hge
    go_wp2_with fail
    refine (equal_is _ _ _ _ _ _ L L true _ HTE.out HUE.out (by simp)).mono ?_
    rintro e wf ⟨rfl, hbf⟩
    have HTF := Lib.hid (HTE.out.below hbf)
    have HUF := Lib.hid (HUE.out.below hbf)
    have HBF := Lib.hid (below_next HBE.out hbf)
    clear hbf
    go_wp2_with fail
    refine (equal_is _ _ _ _ _ _ L L true _ HUF.out HTF.out (by simp)).mono ?_
    rintro e wg ⟨rfl, hbg⟩
    have HBG := Lib.hid (below_next HBF.out hbg)
    clear hbg
    go_wp2_with fail
    go_ret
    exact ⟨rfl, HBG.out⟩

end Go.Proofs.YtbkhdpocmmjnbaaDoor

/- Rows of bytes that are written. -/
namespace Go.Proofs.YtbkhdpocmmjnbaaDoor
open Go Go.RowKit Go.Maps

def ByteV (B : Nat) (v : Value) (n : Nat) (W : World) : Prop := ∃ bs : List UInt8, bs.length = n ∧ W.ownsRow B 5 1 v n (bs.map u8V)
theorem grown_set (W : World) (b k : Nat) (x : Value) : W.grownBy (W.setCell ⟨b, k, none⟩ x) (some b) :=
  ⟨rfl, rfl, rfl, by simp [World.setCell], fun i _ hi => Below.heap_setCell _ _ _ i (fun e => hi (by rw [e]))⟩
theorem byteV_ent {B : Nat} {x : VEnt} {W : World} (h : EntNew B x W) : ByteV B x.1 x.2.data.length W := ⟨x.2.data, rfl, h.1⟩
theorem ByteV.le {B B' n : Nat} {v : Value} {W : World} (h : ByteV B v n W) (hB : B' ≤ B) : ByteV B' v n W := by
  obtain ⟨bs, h1, h2⟩ := h
  exact ⟨bs, h1, owns_le20 h2 hB⟩
theorem ByteV.below {B n : Nat} {v : Value} {W C : World} (h : ByteV B v n W) (hb : Below W.heap.size W C) : ByteV B v n C := by
  obtain ⟨bs, h1, h2⟩ := h
  exact ⟨bs, h1, own_below h2 hb⟩
theorem ByteV.turn {B n : Nat} {v : Value} {A C : World} {row : Option Nat} (h : ByteV B v n A) (hg : A.grownBy C row) (hr : ∀ r, row = some r → ∃ o : Obj, A.heap[r]? = some o ∧ o.isCells = false) : ByteV B v n C := by
  obtain ⟨bs, h1, h2⟩ := h
  exact ⟨bs, h1, own_turn h2 hg hr⟩
theorem ByteV.shape {B n : Nat} {v : Value} {W : World} (h : ByteV B v n W) : ∃ a c, v = .slice a n c ∧ n ≤ c ∧ c ≤ maxLen := by
  obtain ⟨bs, _, h2⟩ := h
  exact owns_shape h2
theorem take_set_map {cur : List Value} {bs : List UInt8} {n j : Nat} {x : UInt8} (h : cur.take n = bs.map u8V) : (cur.set j (u8V x)).take n = (bs.set j x).map u8V := by
  rw [List.take_set, h, List.map_set]
/-- A byte stored anywhere leaves rows of bytes rows of bytes. -/
theorem ByteV.set {B n g j : Nat} {v : Value} {W : World} (h : ByteV B v n W) (x : UInt8) : ByteV B v n (W.setCell ⟨g, j, none⟩ (u8V x)) := by
  obtain ⟨bs, h1, h2, h3⟩ := h
  rcases h3 with ⟨rfl, h4⟩ | ⟨g', cap, cur, rfl, hb, hh, hn, hm, hs, ht⟩
  · exact ⟨bs, h1, h2, .inl ⟨rfl, h4⟩⟩
  · by_cases hg : g = g'
    · subst hg
      refine ⟨bs.set j x, by rw [List.length_set]; exact h1, by rw [List.length_map, List.length_set, h1]; omega, .inr ⟨g, cap, cur.setIfInBounds j (u8V x), rfl, hb, set20 hh _, hn, hm, by simp [hs], ?_⟩⟩
      rw [Array.toList_setIfInBounds]
      exact take_set_map ht
    · exact ⟨bs, h1, h2, .inr ⟨g', cap, cur, rfl, hb, setOther20 hh (fun e => hg e.symm) _, hn, hm, hs, ht⟩⟩
/-- A byte of a row: where it lies, that it may be written. -/
theorem ByteV.at {B n j : Nat} {v : Value} {W : World} (h : ByteV B v n W) (hj : j < n) : ∃ (g cap : Nat) (x : UInt8) (cur : Array Value), v = .slice (some ⟨g, 0, none⟩) n cap ∧ n ≤ cap ∧ cap ≤ maxLen ∧ B ≤ g ∧ W.heap[g]? = some (.cells cur 5 (0, 0)) ∧ W.cell? ⟨g, j, none⟩ = some (.int .u8 (x.toNat : Int)) ∧ W.frozen? ⟨g, j, none⟩ = false := by
  obtain ⟨bs, h1, h2, h3⟩ := h
  rcases h3 with ⟨_, h4⟩ | ⟨g, cap, cur, rfl, hb, hh, hn, hm, hs, ht⟩
  · omega
  · have hjb : j < bs.length := by omega
    refine ⟨g, cap, bs[j], cur, rfl, hn, hm, hb, hh, ?_, frozen20 hh⟩
    rw [cell20 hh]
    have h5 : (cur.toList.take (n * 1))[j]? = (bs.map u8V)[j]? := by rw [ht]
    rw [List.getElem?_take, if_pos (by omega), List.getElem?_map, List.getElem?_eq_getElem hjb] at h5
    rw [← Array.getElem?_toList]
    exact h5
theorem row_set {W : World} {B sz m g j : Nat} {t : TypeId} {v x : Value} {xs : List Value} {cur : Array Value} (h : W.ownsRow B t sz v m xs) (hg : W.heap[g]? = some (.cells cur 5 (0, 0))) (ht : t ≠ 5) : (W.setCell ⟨g, j, none⟩ x).ownsRow B t sz v m xs := by
  refine h.kept (grown_set W g j x) ?_
  cases hv : v.ownBlock with
  | none => exact .inl rfl
  | some b =>
    refine .inr fun e => ?_
    obtain ⟨c, hc⟩ := own_block h hv
    have e := Option.some.inj e
    subst e
    rw [hg] at hc
    cases hc
    exact ht rfl
theorem blk_set {W : World} {b g j : Nat} {t : TypeId} {x : Value} {cs cur : Array Value} (h : W.heap[b]? = some (.cells cs t (0, 0))) (hg : W.heap[g]? = some (.cells cur 5 (0, 0))) (ht : t ≠ 5) : (W.setCell ⟨g, j, none⟩ x).heap[b]? = some (.cells cs t (0, 0)) := by
  refine setOther20 h (fun e => ?_) x
  subst e
  rw [hg] at h
  cases h
  exact ht rfl
/-- What a round has kept of what is no cells, and of rows of strings. -/
structure KK (W C : World) : Prop where
  o : KeepsOthers W C
  s : KeepTy 9 W C
theorem KK.refl (W : World) : KK W W := ⟨KeepsOthers.refl W, KeepTy.refl W⟩
theorem KK.below {W C D : World} (h : KK W C) (hb : Below C.heap.size C D) : KK W D := ⟨h.o.trans ⟨hb.size, fun k _o hk _ => (hb.block k (Array.getElem?_eq_some_iff.1 hk).1).trans hk⟩, h.s.trans (KeepTy.below hb)⟩
theorem KK.set {W C : World} {g j : Nat} {x : Value} {cur : Array Value} (h : KK W C) (hg : C.heap[g]? = some (.cells cur 5 (0, 0))) : KK W (C.setCell ⟨g, j, none⟩ x) :=
  ⟨h.o.trans (KeepsOthers.setCell _ _ _), h.s.trans (KeepTy.grown (grown_set C g j x) fun r e cs hcs => by cases e; rw [hg] at hcs; simp at hcs)⟩
/-- The law for a range whose loop variable is boxed in slot s. -/
theorem wp_rangeB {P : Program} {α : Type} {g : Operand} {ps : Array Tmp} {assign body : Code} {Q : Exit → Act → World → Prop} {a : Act} {w : World} {gf : Nat} {lb : Array Value} (hg : a.eval g = .func (.func gf) #[] lb) (eg : ∀ args w, (callFunc gf args).run P w = .ok (.enter gf args) w)
    {encs : α → Array Value} {D : α → World → Prop} {Kp : World → World → Prop} {S Sp : List α → Prop} {N : Nat} (hseq : SeqD P gf lb encs D Kp S Sp N w)
    (hKt : ∀ {A B C : World}, Kp A B → Kp B C → Kp A C) (hKb : ∀ (W : World) (l : Nat) (o o' : Obj), w.heap.size ≤ l → W.heap[l]? = some o → o.isCells = false → o.isWalk = false → Kp W (W.putObj l o')) (hps : ∀ x, (encs x).size = ps.size)
    (I : List α → World → Prop) (Ix : Code → List α → World → Prop) (s : Nat) (Rx : List α → α → Nat → World → Prop) (hI : OwnFrom w.heap.size I) (hIx : ∀ c, OwnFrom w.heap.size (Ix c))
    (hRx : OwnFrom w.heap.size (fun (s : List α × α × Nat) W => Rx s.1 s.2.1 s.2.2 W)) (h0 : I [] w)
    (hassign : ∀ (l : Nat) (pre : List α) (x : α) (W : World), w.heap.size < W.heap.size → I pre W → D x W → pre.length < N → assign.wpIn (Fence.wide.inRound l) 2 P (Exit.then (fun a₁ B => KeepsOthers W B ∧ Kp W B ∧ ∃ b, Rx pre x b B ∧ a₁ = { tmps := ((ps.zip (encs x)).foldl (fun t (p, v) => t.setIfInBounds p v) a.tmps).setIfInBounds s (.pointer (some ⟨b, 0, none⟩)), defers := [] }) (fun _ _ _ => False)) { tmps := (ps.zip (encs x)).foldl (fun t (p, v) => t.setIfInBounds p v) a.tmps, defers := [] } W)
    (hbody : ∀ (l : Nat) (pre : List α) (x : α) (b : Nat) (W : World), Rx pre x b W → body.wpIn (Fence.wide.inRound l) 2 P (roundEnd Kp I Ix (pre ++ [x]) W) { tmps := ((ps.zip (encs x)).foldl (fun t (p, v) => t.setIfInBounds p v) a.tmps).setIfInBounds s (.pointer (some ⟨b, 0, none⟩)), defers := [] } W)
    (hdone : ∀ (Dl : Nat) (xs : List α) (W : World), w.heap.size ≤ Dl → S xs → I xs W → W.heap[Dl]? = some (.deferred (some [])) → Q .normal { a with defers := { target := .collected Dl, args := #[] } :: a.defers } W)
    (hstop : ∀ (Dl : Nat) (c : Code) (pre : List α) (W : World), w.heap.size ≤ Dl → Sp pre → Ix c pre W → W.heap[Dl]? = some (.deferred (some [])) → c.wp P Q { a with defers := { target := .collected Dl, args := #[] } :: a.defers } W) :
    (Code.rangeFunc g ps assign body).wp P Q a w := by
  refine wp_rangeD hg eg hseq hKt hKb hps I Ix (fun pre x a₁ W => ∃ b, Rx pre x b W ∧ a₁ = { tmps := ((ps.zip (encs x)).foldl (fun t (p, v) => t.setIfInBounds p v) a.tmps).setIfInBounds s (.pointer (some ⟨b, 0, none⟩)), defers := [] }) hI hIx ?_ h0 hassign ?_ hdone hstop
  · rintro ⟨pre, x, a₁⟩ W W' row ⟨b, h1, h2⟩ hg hr
    exact ⟨b, hRx (pre, x, b) W W' row h1 hg hr, h2⟩
  · rintro l pre x a₁ W ⟨b, h1, rfl⟩
    exact hbody l pre x b W h1
theorem op_row {S : Nat → Prop} {w : World} {a : Option Addr} {c : Nat} {x : POp} (hd : DataAt S w (.slice a x.en.data.length c) x.en.data) (hok : OpOk x) : OpsAt (fun _ => True) (w.alloc (.cells #[.int .i64 x.kind, .string x.en.path, .int .i64 x.en.kind, .int .i64 x.en.mode, .int .i64 x.en.time, .slice a x.en.data.length c, .string x.en.link, .string x.src, .string x.dst, .bool x.below] 64)) (.slice (some ⟨w.heap.size, 0, none⟩) 1 1) [x] := by
  refine ⟨opC (.slice a x.en.data.length c) x, RowAt.weak (row_new (cells := opC (.slice a x.en.data.length c) x) (new20 w _) rfl (by decide)) (fun _ _ => trivial), ⟨opC (.slice a x.en.data.length c) x, [], by simp, ⟨.slice a x.en.data.length c, rfl, ?_, hok⟩, rfl⟩⟩
  exact data_mono (hd.below ((Below.refl _ _).alloc (Nat.le_refl _) _)) (fun _ _ => trivial)
theorem Tryd.appU8 : AppTy Tryd.prog 34 5 1 1 := AppTy.mk' (z := .int .u8 0) Tryd.underlying34 (by kernel_rfl) rfl (by decide) (by decide)
theorem inc_u8 (x : UInt8) : IntKind.u8.wrap ((x.toNat : Int) + 1) = ((x + 1).toNat : Int) := by
  rw [IntKind.wrap_u8, UInt8.toNat_add, show (1 : UInt8).toNat = 1 from rfl]
  have := x.toNat_lt
  omega
theorem ByteV.nil (B : Nat) (W : World) : ByteV B (.slice none 0 0) 0 W := ⟨[], rfl, World.ownsRow_nil _ _ _ _⟩
theorem get_w (S : Nat → Prop) (tb mb : Nat) (L : List Ent) (p : ByteArray) (w : World) (ht : TreeAt S w tb mb L) (hps : p.size ≤ maxLen) :
    Calls Tryd.prog 19 #[.pointer (some ⟨tb, 0, none⟩), .string p] w fun e w' => ∃ (g : Ent) (a : Option Addr) (c : Nat) (ok : Bool), e = .returned (.tuple #[.agg #[.string g.path, .int .i64 g.kind, .int .i64 g.mode, .int .i64 g.time, .slice a g.data.length c, .string g.link], .bool ok]) ∧ g.data.length ≤ c ∧ c ≤ maxLen ∧ ByteV w.heap.size (.slice a g.data.length c) g.data.length w' ∧ Below w.heap.size w w' :=
  (get_any S tb mb L p w ht hps).mono fun e w' ⟨hb, hr⟩ => by
    cases hf : findE L p with
    | none =>
      rw [hf] at hr
      exact ⟨⟨⟨#[]⟩, 0, 0, 0, [], ⟨#[]⟩⟩, none, 0, false, hr, Nat.le_refl _, by decide, ByteV.nil _ _, hb⟩
    | some f =>
      rw [hf] at hr
      obtain ⟨v, rfl, ho⟩ := hr
      obtain ⟨a, c, rfl, h1, h2⟩ := owns_shape ho
      exact ⟨f, a, c, true, rfl, h1, h2, ⟨f.data, rfl, ho⟩, hb⟩
/-- The trees of the law, beside what is written. -/
structure Two (c0 tb tm ub um bx : Nat) (St Su : Nat → Prop) (L : List Ent) (W : World) : Prop where
  t : TreeAt St W tb tm L
  u : TreeAt Su W ub um L
  st : ∀ k, St k → c0 ≤ k
  su : ∀ k, Su k → c0 ≤ k
  box : W.cell? ⟨bx, 0, none⟩ = some (.pointer (some ⟨tb, 0, none⟩))
theorem Two.below {c0 tb tm ub um bx : Nat} {St Su : Nat → Prop} {L : List Ent} {W C : World} (h : Two c0 tb tm ub um bx St Su L W) (hb : Below W.heap.size W C) : Two c0 tb tm ub um bx St Su L C :=
  ⟨h.t.below hb, h.u.below hb, h.st, h.su, (hb.cell (block_lt h.box)).trans h.box⟩
theorem Two.write {c0 tb tm ub um bx g : Nat} {St Su : Nat → Prop} {L : List Ent} {W C : World} (h : Two c0 tb tm ub um bx St Su L W) (hc : tb < c0 ∧ tm < c0 ∧ ub < c0 ∧ um < c0 ∧ bx < c0) (hg : W.grownBy C (some g)) (h0 : c0 ≤ g) (h1 : ¬ St g) (h2 : ¬ Su g) : Two c0 tb tm ub um bx St Su L C :=
  ⟨h.t.other hg (by omega) (by omega) h1, h.u.other hg (by omega) (by omega) h2, h.st, h.su, hg.cell h.box (fun e => by have := Option.some.inj e; simp only at this; omega)⟩
theorem grown_any {W C : World} {row : Option Nat} (h : W.grownBy C row) (hr : row = none) (b : Nat) : W.grownBy C (some b) := ⟨h.os, h.tape, h.output, h.size, fun k hk _ => h.block k hk (by rw [hr]; simp)⟩
theorem Two.writeO {c0 tb tm ub um bx : Nat} {St Su : Nat → Prop} {L : List Ent} {W C : World} {row : Option Nat} (h : Two c0 tb tm ub um bx St Su L W) (hc : tb < c0 ∧ tm < c0 ∧ ub < c0 ∧ um < c0 ∧ bx < c0) (hw : c0 ≤ W.heap.size) (hg : W.grownBy C row) (h0 : ∀ g, row = some g → c0 ≤ g ∧ ¬ St g ∧ ¬ Su g) : Two c0 tb tm ub um bx St Su L C := by
  cases row with
  | none => exact h.write hc (grown_any hg rfl W.heap.size) hw (fun hs => Nat.lt_irrefl _ (h.t.lt _ hs)) (fun hs => Nat.lt_irrefl _ (h.u.lt _ hs))
  | some g => exact h.write hc hg (h0 g rfl).1 (h0 g rfl).2.1 (h0 g rfl).2.2
theorem Two.lt {c0 tb tm ub um bx : Nat} {St Su : Nat → Prop} {L : List Ent} {W : World} (h : Two c0 tb tm ub um bx St Su L W) : (∀ k, St k → k < W.heap.size) ∧ ∀ k, Su k → k < W.heap.size := ⟨h.t.lt, h.u.lt⟩

end Go.Proofs.YtbkhdpocmmjnbaaDoor

/- Contracts of package filetree: Walk's iterator, where rounds write rows that are older than the walk. -/
namespace Go.Proofs.YtbkhdpocmmjnbaaDoor
open Go Go.RowKit Go.Maps
attribute [local go_sem] Oper.semAt_some

/-- What a round keeps of Walk's own: the tree, the box of the tree, and rows of strings. -/
structure WKeep (S : Nat → Prop) (tb mb : Nat) (L : List Ent) (b1 : Nat) (V W : World) : Prop where
  size : V.heap.size ≤ W.heap.size
  tree : TreeAt S V tb mb L → TreeAt S W tb mb L
  cell : ∀ x, Boxed V b1 24 x → Boxed W b1 24 x
  str : KeepTy 9 V W
section
variable {S : Nat → Prop} {tb mb b1 : Nat} {L : List Ent} {A B C : World}
theorem boxed_below {b : Nat} {t : TypeId} {v : Value} (h : Boxed A b t v) (hb : Below A.heap.size A B) : Boxed B b t v := (hb.block b h.lt).trans h
theorem wKeep_t (h : WKeep S tb mb L b1 A B) (k : WKeep S tb mb L b1 B C) : WKeep S tb mb L b1 A C := ⟨Nat.le_trans h.size k.size, fun t => k.tree (h.tree t), fun x hx => k.cell x (h.cell x hx), h.str.trans k.str⟩
theorem wKeep_below (h : Below A.heap.size A B) : WKeep S tb mb L b1 A B := ⟨h.size, fun t => t.below h, fun _ hx => boxed_below hx h, KeepTy.below h⟩
theorem wKeep_grown {r : Nat} (h : A.grownBy B (some r)) (h1 : tb ≠ r) (h2 : mb ≠ r) (h3 : ¬ S r) (hs : ∀ cs t, A.heap[r]? = some (.cells cs t (0, 0)) → t ≠ 9 ∧ t ≠ 24) : WKeep S tb mb L b1 A B :=
  ⟨h.size, fun t => t.other h h1 h2 h3, fun x hx => hx.kept h (fun e => by have := Option.some.inj e; subst this; exact (hs _ _ hx).2 rfl), KeepTy.grown h (fun r' e cs hcs => by cases e; exact (hs cs _ hcs).1 rfl)⟩
theorem wKeep_b {w : World} (ht : TreeAt S w tb mb L) (W : World) (l : Nat) (o o' : Obj) (hl : w.heap.size ≤ l) (h : W.heap[l]? = some o) (hc : o.isCells = false) (_ : o.isWalk = false) : WKeep S tb mb L b1 W (W.putObj l o') := by
  obtain ⟨xs, hm, _⟩ := ht.ents
  have g1 := block_lt ht.cell
  have g2 := hm.map.lt
  simp only at g1
  exact wKeep_grown (grownBy_putObj' W l o') (by omega) (by omega) (fun hs => by have := ht.lt _ hs; omega) (fun cs t hcs => by rw [h] at hcs; cases hcs; cases hc)
/-- What is no entry and no slice of entries lies as it lay. -/
def NotE (o : Obj) : Prop := ∀ (cs : Array Value) (t : TypeId), o = .cells cs t (0, 0) → t ≠ 36 ∧ t ≠ 22
def KeepE (V W : World) : Prop := ∀ (k : Nat) (o : Obj), V.heap[k]? = some o → NotE o → W.heap[k]? = some o
theorem KeepE.refl (V : World) : KeepE V V := fun _ _ h _ => h
theorem KeepE.trans (h : KeepE A B) (k : KeepE B C) : KeepE A C := fun i o hi hn => k i o (h i o hi hn) hn
theorem KeepE.below (h : Below A.heap.size A B) : KeepE A B := fun i _ hi _ => (h.block i (Array.getElem?_eq_some_iff.1 hi).1).trans hi
theorem KeepE.grown {r : Nat} (h : A.grownBy B (some r)) (hs : ∀ o, A.heap[r]? = some o → ¬ NotE o) : KeepE A B := fun i o hi hn => (h.block i (Array.getElem?_eq_some_iff.1 hi).1 (fun e => by have := Option.some.inj e; subst this; exact hs _ hi hn)).trans hi
theorem KeepE.turn {row : Option Nat} (h : KeepE A B) (hg : B.grownBy C row) (hr : ∀ r, row = some r → A.heap.size ≤ r) : KeepE A C := fun i o hi hn => (hg.block i (Array.getElem?_eq_some_iff.1 (h i o hi hn)).1 (fun e => by have h1 := hr i e.symm; have h2 := (Array.getElem?_eq_some_iff.1 hi).1; omega)).trans (h i o hi hn)
theorem not_entry (cs : Array Value) : ¬ NotE (.cells cs 36 (0, 0)) := fun h => (h cs _ rfl).1 rfl
theorem not_entries (cs : Array Value) : ¬ NotE (.cells cs 22 (0, 0)) := fun h => (h cs _ rfl).2 rfl
end
/-- An entry appended to the slice that a box holds. -/
theorem coll_app {S : Nat → Prop} {tb mb b1 B bx g' cap' : Nat} {L : List Ent} {w W w1 : World} {pre : List VEnt} {v : Value} {x : VEnt} {cs : Array Value} (hB : Below B w W) (hBw : B ≤ w.heap.size) (hbx : B ≤ bx) (ht : tb < B ∧ mb < B) (hS : ∀ k, S k → k < B)
    (hv : Boxed W bx 22 v) (hrow : W.ownsRow B 36 6 v pre.length (entsC pre)) (hdat : ∀ y ∈ pre, EntNew B y W) (hD : EntNew B x W)
    (hown : w1.ownsRow B 36 6 (.slice (some ⟨g', 0, none⟩) (pre.length + 1) cap') (pre.length + 1) (entsC pre ++ entC x.1 x.2)) (hgrow : (W.alloc (.cells cs 36)).grownBy w1 v.ownBlock) :
    KeepsOthers W (w1.setCell ⟨bx, 0, none⟩ (.slice (some ⟨g', 0, none⟩) (pre.length + 1) cap')) ∧ WKeep S tb mb L b1 W (w1.setCell ⟨bx, 0, none⟩ (.slice (some ⟨g', 0, none⟩) (pre.length + 1) cap')) ∧
      CollI B bx w (pre ++ [x]) (w1.setCell ⟨bx, 0, none⟩ (.slice (some ⟨g', 0, none⟩) (pre.length + 1) cap')) ∧ KeepE W (w1.setCell ⟨bx, 0, none⟩ (.slice (some ⟨g', 0, none⟩) (pre.length + 1) cap')) := by
  have hwW : B ≤ W.heap.size := Nat.le_trans hBw hB.size
  obtain ⟨hv1, hv2, hr2, hk2, hb2⟩ := hv.appended (by decide) hrow hwW hbx hown hgrow
  have hbw : Below W.heap.size W (W.alloc (.cells cs 36)) := (Below.refl _ _).alloc (Nat.le_refl _) _
  have key : ∀ y : VEnt, EntNew B y W → EntNew B y (w1.setCell ⟨bx, 0, none⟩ (.slice (some ⟨g', 0, none⟩) (pre.length + 1) cap')) := fun y hy => by
    have k1 := own_below hy.1 hbw
    have k2 := k1.kept hgrow (own_apart k1 (own_below hrow hbw) (by decide))
    exact ⟨k2.kept (grownBy_setCell' w1 _ _) (.inr (hv1.not_row (by decide) k2).symm), hy.2⟩
  have hrw := own_below hrow hbw
  have set1 : ∀ cs t, w1.heap[bx]? = some (.cells cs t (0, 0)) → t = 22 := fun cs t h => by rw [show w1.heap[bx]? = _ from hv1] at h; cases h; rfl
  have bxa := (hv.alloc (.cells cs 36))
  have step : ∃ r, (W.alloc (.cells cs 36)).grownBy w1 (some r) ∧ B ≤ r ∧ ∀ o, (W.alloc (.cells cs 36)).heap[r]? = some o → ∃ cs' t, o = .cells cs' t (0, 0) ∧ (t = 36 ∨ t = 22) := by
    cases hr : v.ownBlock with
    | none => exact ⟨bx, grown_any hgrow hr bx, hbx, fun o ho => by rw [show _ = _ from bxa] at ho; cases ho; exact ⟨_, _, rfl, .inr rfl⟩⟩
    | some r =>
      obtain ⟨cur, hcur⟩ := own_block hrw hr
      exact ⟨r, by rw [← hr]; exact hgrow, (own_lt hrow hr).1, fun o ho => by rw [hcur] at ho; cases ho; exact ⟨_, _, rfl, .inl rfl⟩⟩
  obtain ⟨r, hg1, hrB, hro⟩ := step
  have hg2 := grownBy_setCell' w1 bx (.slice (some ⟨g', 0, none⟩) (pre.length + 1) cap')
  refine ⟨hk2, wKeep_t (wKeep_t (wKeep_below hbw) (wKeep_grown hg1 (by omega) (by omega) (fun h => by have := hS _ h; omega) fun cs' t h => ?_)) (wKeep_grown hg2 (by omega) (by omega) (fun h => by have := hS _ h; omega) fun cs' t h => ?_), ⟨⟨_, hv2, ?_, fun y hy => ?_⟩, hB.trans hb2⟩, ((KeepE.below hbw).trans (KeepE.grown hg1 fun o ho => ?_)).trans (KeepE.grown hg2 fun o ho => ?_)⟩
  · obtain ⟨c2, t2, e2, ht2⟩ := hro _ h
    cases e2
    rcases ht2 with rfl | rfl <;> exact ⟨by decide, by decide⟩
  · rw [set1 _ _ h]
    exact ⟨by decide, by decide⟩
  · rw [List.length_append, List.length_singleton, entsC_snoc]
    exact hr2
  · rcases List.mem_append.1 hy with hy | hy
    · exact key y (hdat y hy)
    · rw [List.mem_singleton] at hy
      rw [hy]
      exact key _ hD
  · obtain ⟨c2, t2, rfl, ht2⟩ := hro _ ho
    rcases ht2 with rfl | rfl
    · exact not_entry _
    · exact not_entries _
  · rw [show w1.heap[bx]? = _ from hv1] at ho
    cases ho
    exact not_entries _
/-- The marks that loops over functions have left. -/
def markOf (D : Nat) : Deferred := { target := .collected D, args := #[] }
structure Marks (B : Nat) (Ds : List Nat) (W : World) : Prop where
  nodup : Ds.Nodup
  open_ : ∀ D ∈ Ds, W.heap[D]? = some (.deferred (some [])) ∧ B ≤ D
theorem Marks.keep {B : Nat} {Ds : List Nat} {V W : World} (h : Marks B Ds V) (hk : KeepE V W) : Marks B Ds W := ⟨h.nodup, fun D hD => ⟨hk D _ (h.open_ D hD).1 (fun cs t e => by cases e), (h.open_ D hD).2⟩⟩
theorem Marks.more {B D : Nat} {Ds : List Nat} {W : World} (h : Marks B Ds W) (hlt : ∀ E ∈ Ds, E < D) (hD : W.heap[D]? = some (.deferred (some []))) (hB : B ≤ D) : Marks B (D :: Ds) W :=
  ⟨List.nodup_cons.2 ⟨fun hm => Nat.lt_irrefl _ (hlt D hm), h.nodup⟩, fun E hE => by
    rcases List.mem_cons.1 hE with rfl | hE
    · exact ⟨hD, hB⟩
    · exact h.open_ E hE⟩
theorem Marks.lt {B : Nat} {Ds : List Nat} {W : World} (h : Marks B Ds W) : ∀ D ∈ Ds, D < W.heap.size := fun D hD => (Array.getElem?_eq_some_iff.1 (h.open_ D hD).1).1
theorem leaves_marks {P : Program} {F : Fence} {n B : Nat} {fn : Func} {tmps : Array Value} {R : Ending → World → Prop} {w : World} (hw : B ≤ w.heap.size) : ∀ (Ds : List Nat) (W : World), Marks w.heap.size Ds W → Below B w W → (∀ W', Below B w W' → LeavesIn F n P fn tmps R [] .returning W') → LeavesInM F n P fn tmps R (Ds.map markOf) .returning W
  | [], W, _, hb, hR => hR W hb
  | D :: Ds, W, hm, hb, hR => by
    have hD := hm.open_ D (List.mem_cons_self ..)
    refine ⟨by simp, .inl ⟨D, _, rfl, run_takeDeferred hD.1, ?_⟩⟩
    refine leaves_marks hw Ds _ ⟨(List.nodup_cons.1 hm.nodup).2, fun E hE => ⟨?_, (hm.open_ E (List.mem_cons_of_mem _ hE)).2⟩⟩ (hb.trans (belowK_b hw W D _ _ hD.2 hD.1 rfl rfl)) hR
    have hne : E ≠ D := fun e => (List.nodup_cons.1 hm.nodup).1 (e ▸ hE)
    exact ((grownBy_putObj' W D (.deferred none)).block E (Array.getElem?_eq_some_iff.1 (hm.open_ E (List.mem_cons_of_mem _ hE)).1).1 (fun e => hne (Option.some.inj e))).trans (hm.open_ E (List.mem_cons_of_mem _ hE)).1
set_option maxRecDepth 100000 in
set_option maxHeartbeats 2000000 in
theorem walk_seq2 (S : Nat → Prop) (tb mb : Nat) (L : List Ent) (p : ByteArray) (b1 b2 : Nat) (w : World) (ht : TreeAt S w tb mb L) (hps : p.size ≤ maxLen) (h1 : Boxed w b1 24 (.pointer (some ⟨tb, 0, none⟩))) (h2 : w.cell? ⟨b2, 0, none⟩ = some (.string p)) :
    SeqD Tryd.prog 48 #[.pointer (some ⟨b1, 0, none⟩), .pointer (some ⟨b2, 0, none⟩)] (fun x : VEnt => #[entV x.1 x.2]) (EntNew w.heap.size) (WKeep S tb mb L b1) (fun xs => xs.map Prod.snd = atP L p) (fun pre => ∃ k, pre.map Prod.snd = (atP L p).take k) 4096 w := by
  intro l J Jx W hbW hJ hY h0
  have HBW := Lib.hid hbW
  have HT := Lib.hid ht
  have HPS := Lib.hid hps
  have HJ := Lib.hid hJ
  have HY := Lib.hid hY
  have H0 := Lib.hid h0
  have k1 := (boxed_below h1 hbW).cell
  have k2 := (hbW.cell (block_lt h2)).trans h2
  have HK1 := Lib.hid (boxed_below h1 hbW)
  obtain ⟨n, hn⟩ : ∃ n, n = (pathsM L p).length := ⟨_, rfl⟩
  have hn2 : n = (atP L p).length := by rw [hn]; unfold pathsM; rw [List.length_map]
  have hn4 : n ≤ 4096 := by
    rw [hn2]
    have := List.length_filter_le (fun e => inB p e && (decide (p.size = 0) || (findE L p).isSome)) L
    unfold atP
    have := ht.ok.len
    omega
  have HN := Lib.hid hn
  have HN2 := Lib.hid hn2
  clear ht hps hJ hY h0 hbW h2 hn hn2
  refine callsIn_wide.2 ?_
  show Calls Tryd.prog 48 #[.func (.yield l) #[] #[], .pointer (some ⟨b1, 0, none⟩), .pointer (some ⟨b2, 0, none⟩)] W _
  go_enter Tryd.func48, Tryd.ntmps48
  go_wp2_with fail
  refine (paths_any S tb mb L p _ (HT.out.below HBW.out) HPS.out).mono ?_
  rintro e w5 ⟨v5, rfl, ho5, hb5⟩
  rw [← HN.out] at ho5
  obtain ⟨a5, c5, rfl, hn5, hm5⟩ := owns_shape ho5
  have HO5 := Lib.hid ho5
  have HB5 := Lib.hid hb5
  unfold maxLen at hm5
  clear ho5 hb5 k1 k2
  go_wp2_with fail
  go_loopw [12] (fun i wr => ∃ (k : Nat) (pre : List VEnt), k ≤ n ∧ i = .int .i64 k ∧ pre.map Prod.snd = (atP L p).take k ∧ J pre wr ∧ (W.heap.size ≤ wr.heap.size ∧ TreeAt S wr tb mb L ∧ Boxed wr b1 24 (.pointer (some ⟨tb, 0, none⟩))) ∧ wr.ownsRow W.heap.size 9 1 (.slice a5 n c5) n ((pathsM L p).map Value.string)) (fun i _ => n - (intOf i).toNat)
  case atStart => exact ⟨0, [], Nat.zero_le _, rfl, by simp, HJ.out _ _ _ H0.out HB5.out, ⟨HB5.out.size, (HT.out.below HBW.out).below HB5.out, boxed_below HK1.out HB5.out⟩, HO5.out⟩
  case round =>
    obtain ⟨k, pre, hk, rfl, hpre, hJk, hbr, hown⟩ := hrel
    have HPRE := Lib.hid hpre
    have HJK := Lib.hid hJk
    have HBR := Lib.hid hbr
    have HOWN := Lib.hid hown
    have HTR := Lib.hid hbr.2.1
    obtain ⟨xs, hm0, hperm⟩ := hbr.2.1.ents
    have HM := Lib.hid hm0
    have HPERM := Lib.hid hperm
    clear hpre hJk hbr hown hm0 hperm
    by_cases hlt : k < n
    · have hla : k < (atP L p).length := by rw [← HN2.out]; exact hlt
      obtain ⟨e, hat⟩ : ∃ e, (atP L p)[k]? = some e := ⟨_, List.getElem?_eq_getElem hla⟩
      have HAT := Lib.hid hat
      have heL := atP_sub e (List.mem_of_getElem? hat)
      have HVE := Lib.hid (HT.out.ok.val e heL)
      obtain ⟨v, hv⟩ := find_vent (HPERM.out.symm.subset heL)
      obtain ⟨hd0, hok0⟩ := HM.out.dat _ hv
      simp only at hd0 hok0
      obtain ⟨a1, cap1, rfl, hd1, hd2⟩ := hd0.slice
      have HD0 := Lib.hid hd0
      have HOK0 := Lib.hid hok0
      have hlk := HM.out.hit mapTy hv true
      have hcl := HTR.out.cell
      have hltb := block_lt hcl
      have hk1 := HBR.out.2.2.cell
      have hlk1 := block_lt hk1
      simp only at hltb hlk1
      unfold entV at hlk
      simp only [if_true] at hlk
      unfold maxLen at hd2
      obtain ⟨_, a3, c3, he3, _, _, h03⟩ := row_of_owns HOWN.out
      simp only [Value.slice.injEq] at he3
      obtain ⟨rfl, -, rfl⟩ := he3
      rcases h03 with h03 | ⟨b, o, rfl, -, hcc⟩
      · omega
      have hcq := hcc k (.string e.path) (by unfold pathsM; rw [List.getElem?_map, List.getElem?_map, hat]; rfl)
      clear hat hcc hla heL hv hd0 hok0
      go_upto_region 4 with (fail)
      obtain ⟨W4, hW4⟩ : ∃ W4, W4 = wr.alloc (.cells #[.string e.path, .int .i64 e.kind, .int .i64 e.mode, .int .i64 e.time, .slice a1 e.data.length cap1, .string e.link] 36) := ⟨_, rfl⟩
      rw [← hW4]
      have HX := Lib.hid (show W4.heap[wr.heap.size]? = some (.cells #[.string e.path, .int .i64 e.kind, .int .i64 e.mode, .int .i64 e.time, .slice a1 e.data.length cap1, .string e.link] 36 (0, 0)) by rw [hW4]; exact new20 wr _)
      have HWL := Lib.hid (show Below wr.heap.size wr W4 by rw [hW4]; exact (Below.refl _ _).alloc (Nat.le_refl _) _)
      clear hW4 hlk hcl hcq hk1
      have c0 := cell20 (k := 0) HX.out
      have c1 := cell20 (k := 1) HX.out
      have c2 := cell20 (k := 2) HX.out
      have c3 := cell20 (k := 3) HX.out
      have c4 := cell20 (k := 4) HX.out
      have c5 := cell20 (k := 5) HX.out
      simp only [List.getElem?_toArray, List.getElem?_cons_succ, List.getElem?_cons_zero] at c0 c1 c2 c3 c4 c5
      refine (wpIn_wide (n := 3)).1 ?_
      gi_wp2_with (refine ⟨trivial, ?_⟩; gi_at_call 35; refine (callsIn_wide.2 (copied_flat S e _ _ (HD0.out.below HWL.out) (vEnt_data HVE.out))).mono ?_; rintro e5 w6 ⟨a', cap', rfl, ho6, hb6⟩; have HB6 := Lib.hid (HWL.out.trans (hb6.mono HWL.out.size)); obtain ⟨fn, tmps, assign, body, hy, hR⟩ := HY.out pre (.slice a' e.data.length cap', e) w6 (HJ.out _ _ _ HJK.out HB6.out) ⟨owns_le20 ho6 (Nat.le_trans HBW.out.size (Nat.le_trans HBR.out.1 HWL.out.size)), HOK0.out⟩ (by have h1 := congrArg List.length HPRE.out; rw [List.length_map, List.length_take] at h1; omega); simp only [entV] at hy; have HO6 := Lib.hid ho6; clear ho6 hb6 c0 c1 c2 c3 c4 c5)
      refine hR.mono ?_
      rintro e6 w7 (⟨rfl, hj7, hk7⟩ | ⟨rfl, hj7⟩)
      · have HJ7 := Lib.hid hj7
        have HK7 := Lib.hid hk7
        have HBR6 := Lib.hid (wKeep_t (wKeep_below (S := S) (tb := tb) (mb := mb) (L := L) (b1 := b1) HB6.out) HK7.out)
        clear hj7 hk7 hy hR
        gi_wp2
        go_wp2_with fail
        go_roundw
        case rel =>
          refine ⟨k + 1, pre ++ [(.slice a' e.data.length cap', e)], by omega, by go_num, ?_, HJ7.out, ⟨Nat.le_trans HBR.out.1 HBR6.out.size, HBR6.out.tree HTR.out, HBR6.out.cell _ HBR.out.2.2⟩, HBR6.out.str.own HOWN.out⟩
          rw [List.take_add_one, HAT.out, List.map_append, HPRE.out]; rfl
        case measure => simp [intOf]; omega
      · have HJ7 := Lib.hid hj7
        clear hj7 hy hR
        gi_wp2
        go_wp2_with fail
        refine bodyPost_ret (results_none rfl _ _ _) rfl ?_
        refine ⟨⟨_, rfl⟩, .inr ⟨_, ⟨k + 1, ?_⟩, HJ7.out⟩⟩
        rw [List.take_add_one, HAT.out, List.map_append, HPRE.out]; rfl
    · have hk2 : k = n := by omega
      go_wp2_with fail
      go_end0
      refine ⟨⟨_, rfl⟩, .inl ⟨pre, ?_, HJK.out⟩⟩
      rw [HPRE.out, hk2, HN2.out, List.take_length]

end Go.Proofs.YtbkhdpocmmjnbaaDoor

/- The plain law of FiletreeSums, and what its loops keep. -/
namespace Go.Proofs.YtbkhdpocmmjnbaaDoor
open Go Go.RowKit Go.Maps

theorem walk_any2 (tb : Nat) (p : ByteArray) (w : World) : Calls Tryd.prog 28 #[.pointer (some ⟨tb, 0, none⟩), .string p] w fun e w' => e = .returned (.func (.func 48) #[] #[.pointer (some ⟨w.heap.size, 0, none⟩), .pointer (some ⟨w.heap.size + 1, 0, none⟩)]) ∧
    Boxed w' w.heap.size 24 (.pointer (some ⟨tb, 0, none⟩)) ∧ w'.cell? ⟨w.heap.size + 1, 0, none⟩ = some (.string p) ∧ Below w.heap.size w w' ∧ w'.heap.size = w.heap.size + 2 := by
  go_enter Tryd.func28, Tryd.ntmps28
  go_wp2_with fail
  go_ret
  exact ⟨rfl, (Boxed.new w _ _).alloc _, cell20 (new20b w _ _), ((Below.refl _ _).alloc (Nat.le_refl _) _).alloc (by simp) _, by simp⟩
/-- What the first kids bring together. -/
def kidsAt (L : List Ent) (d : ByteArray) (k : Nat) : List Ent := ((kidsE L d).take k).flatMap fun e => atP L e.path
theorem kidsAt_zero (L : List Ent) (d : ByteArray) : kidsAt L d 0 = [] := rfl
theorem kidsAt_step {L : List Ent} {d : ByteArray} {k : Nat} {e : Ent} (h : (kidsE L d)[k]? = some e) : kidsAt L d (k + 1) = kidsAt L d k ++ atP L e.path := by
  unfold kidsAt
  rw [List.take_add_one, h, List.flatMap_append]
  simp
theorem kidsAt_all {L : List Ent} (h : TOk L) {d : ByteArray} (hd : dirE L (bl d) = 0) : (findE L d).toList ++ kidsAt L d (kidsE L d).length = atP L d := by
  unfold kidsAt
  rw [List.take_length, sums_at h hd]
theorem kidsAt_split {L : List Ent} (h : TOk L) {d : ByteArray} (hd : dirE L (bl d) = 0) (k : Nat) : ∃ r, atP L d = (findE L d).toList ++ (kidsAt L d k ++ r) := by
  refine ⟨((kidsE L d).drop k).flatMap fun e => atP L e.path, ?_⟩
  rw [sums_at h hd]
  unfold kidsAt
  rw [← List.flatMap_append, List.take_append_drop]
theorem at_len {L : List Ent} (h : TOk L) (d : ByteArray) : (atP L d).length ≤ 4096 := by
  have := List.length_filter_le (fun e => inB d e && (decide (d.size = 0) || (findE L d).isSome)) L
  unfold atP
  have := h.len
  omega
theorem cnt_le {L : List Ent} (h : TOk L) (d : ByteArray) : (cntL (atP L d)).files ≤ 4096 ∧ (cntL (atP L d)).dirs ≤ 4096 ∧ (cntL (atP L d)).links ≤ 4096 ∧ (cntL (atP L d)).bytes ≤ 4294967296 := by
  have h1 := cK_le h d (atP L d).length (Nat.le_refl _)
  unfold cK at h1
  rw [List.take_length] at h1
  have := at_len h d
  omega
/-- A part of a sum is small. -/
theorem kids_small {L : List Ent} (h : TOk L) {d : ByteArray} (hd : dirE L (bl d) = 0) (k : Nat) : (cntL (kidsAt L d k)).files ≤ 4096 ∧ (cntL (kidsAt L d k)).dirs ≤ 4096 ∧ (cntL (kidsAt L d k)).links ≤ 4096 ∧ (cntL (kidsAt L d k)).bytes ≤ 4294967296 ∧ ((findE L d).toList ++ kidsAt L d k).length ≤ 4096 := by
  obtain ⟨r, hr⟩ := kidsAt_split h hd k
  have h1 := cnt_le h d
  have h2 := at_len h d
  rw [hr] at h2
  rw [hr, cnt_app, cnt_app] at h1
  simp only [addC, List.length_append] at h1 h2 ⊢
  omega
theorem kids_sum {L : List Ent} (h : TOk L) {d : ByteArray} (hd : dirE L (bl d) = 0) : cntL (atP L d) = ⟨(cntL (kidsAt L d (kidsE L d).length)).files, (cntL (kidsAt L d (kidsE L d).length)).dirs + (if d.size = 0 then 0 else 1), (cntL (kidsAt L d (kidsE L d).length)).links, (cntL (kidsAt L d (kidsE L d).length)).bytes⟩ := by
  rw [← kidsAt_all h hd, cnt_app, self_cnt h hd]
  simp only [addC, Cnt.mk.injEq]
  omega
theorem kid_path {L : List Ent} {d : ByteArray} {e : Ent} (h : e ∈ kidsE L d) : (⟨(parentL (bl e.path)).toArray⟩ : ByteArray) = d := by
  rw [(mem_kids.1 h).2]
  exact bl_inj (by simp [bl])
theorem entOk_of {S : Nat → Prop} {w : World} {tb mb : Nat} {L : List Ent} (h : TreeAt S w tb mb L) {e : Ent} (he : e ∈ L) : EntOk e := by
  obtain ⟨xs, hm, hp⟩ := h.ents
  obtain ⟨v, hv⟩ := find_vent (hp.symm.subset he)
  exact (hm.dat _ hv).2
/-- What the loops of the law keep. -/
structure SumK (w6 : World) (bx sb : Nat) (c : Cnt) (Ds : List Nat) (B0 : Nat) (pre : List VEnt) (W : World) : Prop where
  coll : CollI w6.heap.size bx w6 pre W
  sum : W.heap[sb]? = some (.cells #[.int .i64 c.files, .int .i64 c.dirs, .int .i64 c.links, .int .i64 c.bytes] 50 (0, 0))
  marks : Marks B0 Ds W
theorem SumK.below {w6 : World} {bx sb B0 : Nat} {c : Cnt} {Ds : List Nat} {pre : List VEnt} {W C : World} (h : SumK w6 bx sb c Ds B0 pre W) (hw : w6.heap.size ≤ W.heap.size) (hb : Below W.heap.size W C) : SumK w6 bx sb c Ds B0 pre C := by
  obtain ⟨⟨v, h1, h2, h3⟩, h4⟩ := h.coll
  exact ⟨⟨⟨v, boxed_below h1 hb, own_below h2 hb, fun y hy => ⟨own_below (h3 y hy).1 hb, (h3 y hy).2⟩⟩, h4.trans (hb.mono hw)⟩, (hb.block sb (lt20 h.sum)).trans h.sum, h.marks.keep (KeepE.below hb)⟩
theorem SumK.step {w6 : World} {bx sb B0 : Nat} {c : Cnt} {Ds : List Nat} {pre pre' : List VEnt} {W C : World} (h : SumK w6 bx sb c Ds B0 pre W) (hc : CollI w6.heap.size bx w6 pre' C) (hk : KeepE W C) : SumK w6 bx sb c Ds B0 pre' C :=
  ⟨hc, hk sb _ h.sum (fun cs t e => by cases e; exact ⟨by decide, by decide⟩), h.marks.keep hk⟩
theorem CollI.other {B bx sb j : Nat} {w W : World} {pre : List VEnt} {x : Value} {cs : Array Value} (h : CollI B bx w pre W) (hs : W.heap[sb]? = some (.cells cs 50 (0, 0))) (hB : B ≤ sb) : CollI B bx w pre (W.setCell ⟨sb, j, none⟩ x) := by
  obtain ⟨⟨v, h1, h2, h3⟩, h4⟩ := h
  have hg := grown_set W sb j x
  have ne : ∀ {b t} {c : Array Value}, W.heap[b]? = some (.cells c t (0, 0)) → t ≠ 50 → b ≠ sb := fun hb ht e => by subst e; rw [hs] at hb; cases hb; exact ht rfl
  have own : ∀ {t sz m} {u : Value} {xs : List Value}, W.ownsRow B t sz u m xs → t ≠ 50 → (W.setCell ⟨sb, j, none⟩ x).ownsRow B t sz u m xs := fun ho ht => ho.kept hg (by
    cases hv : Value.ownBlock _ with
    | none => exact .inl rfl
    | some b =>
      obtain ⟨c, hc⟩ := own_block ho hv
      exact .inr (fun e => ne hc ht (Option.some.inj e)))
  exact ⟨⟨v, h1.kept hg (fun e => ne h1 (by decide) (Option.some.inj e)), own h2 (by decide), fun y hy => ⟨own (h3 y hy).1 (by decide), (h3 y hy).2⟩⟩, below_set20 h4 hB⟩
theorem SumK.set4 {w6 : World} {bx sb B0 : Nat} {c c' : Cnt} {Ds : List Nat} {pre : List VEnt} {W : World} {y0 y1 y2 y3 : Value} (h : SumK w6 bx sb c Ds B0 pre W) (hs : w6.heap.size ≤ sb) (e0 : y0 = .int .i64 c'.files) (e1 : y1 = .int .i64 c'.dirs) (e2 : y2 = .int .i64 c'.links) (e3 : y3 = .int .i64 c'.bytes) :
    SumK w6 bx sb c' Ds B0 pre ((((W.setCell ⟨sb, 0, none⟩ y0).setCell ⟨sb, 1, none⟩ y1).setCell ⟨sb, 2, none⟩ y2).setCell ⟨sb, 3, none⟩ y3) := by
  subst e0 e1 e2 e3
  have s0 := set20 (k := 0) h.sum (.int .i64 c'.files)
  have s1 := set20 (k := 1) s0 (.int .i64 c'.dirs)
  have s2 := set20 (k := 2) s1 (.int .i64 c'.links)
  have s3 := set20 (k := 3) s2 (.int .i64 c'.bytes)
  refine ⟨(((h.coll.other h.sum hs).other s0 hs).other s1 hs).other s2 hs, by simpa using s3, h.marks.nodup, fun D hD => ⟨?_, (h.marks.open_ D hD).2⟩⟩
  have h1 := (h.marks.open_ D hD).1
  have hne : D ≠ sb := fun e => by subst e; rw [h.sum] at h1; cases h1
  exact setOther20 (setOther20 (setOther20 (setOther20 h1 hne _) hne _) hne _) hne _
theorem SumK.set1 {w6 : World} {bx sb B0 : Nat} {c : Cnt} {Ds : List Nat} {pre : List VEnt} {W : World} {y1 : Value} (h : SumK w6 bx sb c Ds B0 pre W) (hs : w6.heap.size ≤ sb) (e1 : y1 = .int .i64 (c.dirs + 1)) :
    SumK w6 bx sb ⟨c.files, c.dirs + 1, c.links, c.bytes⟩ Ds B0 pre (W.setCell ⟨sb, 1, none⟩ y1) := by
  subst e1
  have s1 := set20 (k := 1) h.sum (.int .i64 (c.dirs + 1))
  refine ⟨h.coll.other h.sum hs, by simpa using s1, h.marks.nodup, fun D hD => ⟨?_, (h.marks.open_ D hD).2⟩⟩
  have h1 := (h.marks.open_ D hD).1
  have hne : D ≠ sb := fun e => by subst e; rw [h.sum] at h1; cases h1
  exact setOther20 h1 hne _
theorem arr_range (a : Array Value) {n : Nat} (h : a.size = n) : a = ((List.range n).map fun i => a.getD i undef).toArray := by
  subst h
  apply Array.ext
  · simp
  · intro i h1 h2
    simp [h1]
/-- A frame of the law, slot by slot. -/
theorem frame149 (a : Array Value) (h : a.size = 149) : ∃ u : Nat → Value, (∀ i x, a[i]? = some x → u i = x) ∧ a = #[u 0, u 1, u 2, u 3, u 4, u 5, u 6, u 7, u 8, u 9, u 10, u 11, u 12, u 13, u 14, u 15, u 16, u 17, u 18, u 19, u 20, u 21, u 22, u 23, u 24, u 25, u 26, u 27, u 28, u 29, u 30, u 31, u 32, u 33, u 34, u 35, u 36, u 37, u 38, u 39, u 40, u 41, u 42, u 43, u 44, u 45, u 46, u 47, u 48, u 49, u 50, u 51, u 52, u 53, u 54, u 55, u 56, u 57, u 58, u 59, u 60, u 61, u 62, u 63, u 64, u 65, u 66, u 67, u 68, u 69, u 70, u 71, u 72, u 73, u 74, u 75, u 76, u 77, u 78, u 79, u 80, u 81, u 82, u 83, u 84, u 85, u 86, u 87, u 88, u 89, u 90, u 91, u 92, u 93, u 94, u 95, u 96, u 97, u 98, u 99, u 100, u 101, u 102, u 103, u 104, u 105, u 106, u 107, u 108, u 109, u 110, u 111, u 112, u 113, u 114, u 115, u 116, u 117, u 118, u 119, u 120, u 121, u 122, u 123, u 124, u 125, u 126, u 127, u 128, u 129, u 130, u 131, u 132, u 133, u 134, u 135, u 136, u 137, u 138, u 139, u 140, u 141, u 142, u 143, u 144, u 145, u 146, u 147, u 148] := by
  refine ⟨fun i => a.getD i undef, fun i x hx => by simp [Array.getD_eq_getD_getElem?, hx], (arr_range a h).trans ?_⟩
  kernel_rfl
end Go.Proofs.YtbkhdpocmmjnbaaDoor

/- Two arrays of four numbers are compared. -/
namespace Go.Proofs.YtbkhdpocmmjnbaaDoor
open Go Go.RowKit Go.Maps

def cntV (c : Cnt) : Value := .agg #[.int .i64 c.files, .int .i64 c.dirs, .int .i64 c.links, .int .i64 c.bytes]
theorem eq4 (c c' : Cnt) (w : World) : (Op.equalIn 10000 50 (cntV c) (cntV c')).run Tryd.prog w = .ok (decide (c = c')) w := by
  have u2 := Tryd.underlying3
  have hu : Tryd.prog.underlying 50 = some (.array 4 3) := Tryd.underlying50
  obtain ⟨i, hi⟩ := Option.isSome_iff_exists.1 (show (Tryd.prog.info? 3).isSome = true by kernel_rfl)
  have hc : Tryd.prog.cellsOf 3 = 1 := by kernel_rfl
  rw [show (10000 : Nat) = 9999 + 1 from rfl]
  unfold cntV
  rw [run_equalIn_array w 9999 _ _ hu hi, hc]
  simp only [List.range, List.range.loop, Op.eqItems]
  rw [show (9999 : Nat) = 9998 + 1 from rfl]
  go_simp
  obtain ⟨a, b, c, d⟩ := c
  obtain ⟨a', b', c', d'⟩ := c'
  simp only [Cnt.mk.injEq]
  by_cases h1 : a = a' <;> by_cases h2 : b = b' <;> by_cases h3 : c = c' <;> by_cases h4 : d = d' <;> (simp [h1, h2, h3, h4]; try omega)

end Go.Proofs.YtbkhdpocmmjnbaaDoor

/- The law FiletreeSums: its walk. -/
namespace Go.Proofs.YtbkhdpocmmjnbaaDoor
open Go Go.RowKit Go.Maps
attribute [local go_sem] Oper.semAt_some

set_option maxRecDepth 100000 in
set_option maxHeartbeats 4000000 in
theorem sums_walk (l : List POp) (v : Value) (d : ByteArray) (w : World) (hv : OpsAt (fun _ => True) w v l) (hd : d.size ≤ maxLen) (henv : Env w) :
    Calls Tryd.prog 6 #[v, .string d] w fun e w' => e = .returned (.bool true) ∧ Below w.heap.size w w' := by
  have HV := Lib.hid hv
  have HE := Lib.hid henv
  have HD := Lib.hid hd
  obtain ⟨a, cap, rfl, hc, hm, -⟩ := SeqAt.shape hv OpR.len
  unfold maxLen at hm hd
  obtain ⟨n, hn⟩ : ∃ n, n = l.length := ⟨_, rfl⟩
  have HN := Lib.hid hn
  rw [← hn] at hc HV ⊢
  clear hv henv hn
  refine (callsIn_wide (n := 4)).1 (callsIn_of_wp_marks Tryd.func6 rfl trivial ?_ rfl)
  simp only [Tryd.ntmps6, List.size_toArray, List.length_cons, List.length_nil, Nat.reduceAdd, Nat.reduceSub, Array.replicate_succ, Array.replicate_zero, List.push_toArray, List.append_toArray, List.nil_append, List.cons_append]
  refine (wpIn_wide (n := 4)).2 ?_
  go_wp2_with fail
  refine (awakeT_any w HE.out).mono ?_
  rintro e w1 ⟨rfl, hb1⟩
  have HB1 := Lib.hid hb1
  clear hb1
  go_wp2_with fail
  refine (wide_any _ l _ _ (HV.out.below HB1.out)).mono ?_
  rintro e w2 ⟨wb, rfl, -, hb2⟩
  have HB2 := Lib.hid (below_next HB1.out hb2)
  clear hb2
  cases wb
  case true =>
    go_wp2_with fail
    exact ⟨_, results_tmp rfl _ _ _, rfl, HB2.out⟩
  by_cases hp6 : 600 < d.size
  · have hp6' : decide (600 < d.size) = true := by simp [hp6]
    go_wp2_with fail
    exact ⟨_, results_tmp rfl _ _ _, rfl, HB2.out⟩
  have hp6' : decide (600 < d.size) = false := by simp; omega
  go_wp2_with fail
  refine (play_any _ l _ _ (HV.out.below HB2.out) (HE.out.below HB2.out)).mono ?_
  rintro e w3 ⟨rfl, ht3, hb3⟩
  obtain ⟨B, hB⟩ : ∃ B, B = w2.heap.size := ⟨_, rfl⟩
  rw [← hB] at ht3 ⊢
  have HBB := Lib.hid (show w.heap.size ≤ B by rw [hB]; exact HB2.out.size)
  have HT3 := Lib.hid ht3
  have HB3 := Lib.hid (below_next HB2.out hb3)
  have HLT3 := Lib.hid (show B + 1 < w3.heap.size from block_lt ht3.cell)
  obtain ⟨L, hL⟩ : ∃ L, L = playP [] l := ⟨_, rfl⟩
  rw [← hL] at HT3
  clear ht3 hb3 hB hL hp6
  go_wp2_with fail
  refine (list_any _ _ _ L d _ HT3.out HD.out (HE.out.below HB3.out)).mono ?_
  rintro e w6 ⟨v6, ks, rfl, hks, hg6, hb6⟩
  obtain ⟨x6, hx6⟩ : ∃ x6, x6 = (listP L d).2 := ⟨_, rfl⟩
  have HX6 := Lib.hid hx6
  have HKS := Lib.hid hks
  have HG6 := Lib.hid hg6
  have HB6 := Lib.hid (below_next HB3.out hb6)
  have HT6 := Lib.hid (HT3.out.below hb6)
  have HS6 := Lib.hid hb6.size
  rw [← hx6]
  obtain ⟨a6, c6, rfl, hc6, hm6⟩ := owns_shape hg6.row
  clear hks hg6 hb6 hx6
  unfold maxLen at hm6
  by_cases hx0 : x6 ≠ 0
  · go_wp2_with fail
    exact ⟨_, results_tmp rfl _ _ _, rfl, HB6.out⟩
  have hx1 := Classical.not_not.1 hx0
  clear hx0
  subst hx1
  obtain ⟨h61, h62, h63⟩ := list_is HX6.out.symm
  have HDZ := Lib.hid h62
  have HKI := Lib.hid (HKS.out.trans h63)
  have HNK := Lib.hid (show ks.length = (kidsE L d).length by rw [← HKI.out, List.length_map])
  obtain ⟨nk, hnk⟩ : ∃ nk, nk = ks.length := ⟨_, rfl⟩
  rw [← hnk] at hc6 HNK ⊢
  have HNK2 := Lib.hid hnk
  clear h61 h62 h63 hnk
  go_wp2_with fail
  obtain ⟨w7, hw7⟩ : ∃ w7, w7 = w6.alloc (.cells #[.slice none 0 0] 22) := ⟨_, rfl⟩
  rw [← hw7]
  have hb7 : Below w6.heap.size w6 w7 := by rw [hw7]; exact (Below.refl _ _).alloc (Nat.le_refl _) _
  have HB7 := Lib.hid hb7
  have HBX := Lib.hid (show Boxed w7 w6.heap.size 22 (.slice none 0 0) by rw [hw7]; exact Boxed.new w6 _ _)
  have HT7 := Lib.hid (HT6.out.below hb7)
  clear hw7 hb7
  refine (get_any _ _ _ L d _ HT7.out HD.out).mono ?_
  rintro e w8 ⟨hb8, hr8⟩
  have HB8 := Lib.hid hb8
  cases hf : findE L d with
  | none =>
    rw [hf] at hr8
    subst hr8
    have HF := Lib.hid hf
    clear hf hb8
    obtain ⟨w9, hw9⟩ : ∃ w9, w9 = w8.alloc (.cells #[.string ⟨#[]⟩, .int .i64 0, .int .i64 0, .int .i64 0, .slice none 0 0, .string ⟨#[]⟩] 36) := ⟨_, rfl⟩
    have hb9 : Below w8.heap.size w8 w9 := by rw [hw9]; exact (Below.refl _ _).alloc (Nat.le_refl _) _
    have HC9 := Lib.hid (show CollI w6.heap.size w6.heap.size w6 [] w9 from ⟨⟨_, boxed_below (boxed_below HBX.out HB8.out) hb9, World.ownsRow_nil _ _ _ _, by simp⟩, HB7.out.trans ((HB8.out.mono HB7.out.size).trans (hb9.mono (Nat.le_trans HB7.out.size HB8.out.size)))⟩)
    clear hb9
    go_upto_region 13 with (fail)
    rw [← hw9]
    clear hw9
    go_wp2_with fail
    obtain ⟨ws, hws⟩ : ∃ ws, ws = w9.alloc (.cells #[.int .i64 0, .int .i64 0, .int .i64 0, .int .i64 0] 50) := ⟨_, rfl⟩
    obtain ⟨sb, hsb⟩ : ∃ sb, sb = w9.heap.size := ⟨_, rfl⟩
    rw [← hws, ← hsb]
    have hbs : Below w9.heap.size w9 ws := by rw [hws]; exact (Below.refl _ _).alloc (Nat.le_refl _) _
    have hss : ws.heap[sb]? = some (.cells #[.int .i64 0, .int .i64 0, .int .i64 0, .int .i64 0] 50 (0, 0)) := by rw [hws, hsb]; exact new20 w9 _
    have HSB := Lib.hid (show w6.heap.size ≤ sb by rw [hsb]; exact HC9.out.2.size)
    have HSK := Lib.hid (show SumK w6 w6.heap.size sb (cntL (kidsAt L d 0)) [] w.heap.size [] ws from ⟨by
      obtain ⟨⟨v, h1, h2, h3⟩, h4⟩ := HC9.out
      exact ⟨⟨v, boxed_below h1 hbs, own_below h2 hbs, fun y hy => ⟨own_below (h3 y hy).1 hbs, (h3 y hy).2⟩⟩, h4.trans (hbs.mono h4.size)⟩, hss, List.nodup_nil, by simp⟩)
    clear hws hsb hbs hss
    refine wp_loop (fun (a' : Act) (wr : World) => ∃ (k : Nat) (pre : List VEnt) (Ds : List Nat), (k ≤ nk ∧ SumK w6 w6.heap.size sb (cntL (kidsAt L d k)) Ds w.heap.size pre wr ∧ pre.map Prod.snd = (findE L d).toList ++ kidsAt L d k) ∧ a'.tmps.size = 149 ∧ a'.tmps[1]? = some (.string d) ∧ a'.tmps[5]? = some (.pointer (some ⟨B + 1, 0, none⟩)) ∧ a'.tmps[8]? = some (.pointer (some ⟨w6.heap.size, 0, none⟩)) ∧ a'.tmps[11]? = some (.pointer (some ⟨sb, 0, none⟩)) ∧ a'.tmps[57]? = some (.slice a6 nk c6) ∧ a'.tmps[58]? = some (.int .i64 nk) ∧ a'.tmps[59]? = some (.int .i64 k) ∧ a'.defers = Ds.map markOf) (fun a' _ => nk - (intOf (a'.tmps.getD 59 undef)).toNat) ?_ ?_
    · refine ⟨0, [], [], ⟨Nat.zero_le _, HSK.out, ?_⟩, rfl, rfl, rfl, rfl, rfl, rfl, rfl, rfl, rfl⟩
      rw [HF.out]; rfl
    · rintro ⟨tm, df⟩ wr ⟨k, pre, Ds, ⟨hk, hsk, hpre⟩, h149, e1, e5, e8, e11, e57, e58, e59, hdf⟩
      simp only at h149 e1 e5 e8 e11 e57 e58 e59 hdf
      subst hdf
      obtain ⟨u, hu, rfl⟩ := frame149 tm h149
      have g1 := hu _ _ e1
      have g5 := hu _ _ e5
      have g8 := hu _ _ e8
      have g11 := hu _ _ e11
      have g57 := hu _ _ e57
      have g58 := hu _ _ e58
      have g59 := hu _ _ e59
      clear hu e1 e5 e8 e11 e57 e58 e59 h149
      rw [g1, g5, g8, g11, g57, g58, g59]
      clear g1 g5 g8 g11 g57 g58 g59
      have HSR := Lib.hid hsk
      have HPR := Lib.hid hpre
      have HBR := Lib.hid hsk.coll.2
      clear hsk hpre
      by_cases hlt : k < nk
      · obtain ⟨⟨vk, ek⟩, hy⟩ : ∃ y, ks[k]? = some y := ⟨_, List.getElem?_eq_getElem (by rw [← HNK2.out]; exact hlt)⟩
        obtain ⟨b6, rfl, -, hbl6, -, q0, q1, q2, q3, q4, q5⟩ := own_ent (own_below HG6.out.row HBR.out) hy
        have hkk : (kidsE L d)[k]? = some ek := by rw [← HKI.out, List.getElem?_map, hy]; rfl
        have HKK := Lib.hid hkk
        have hmk := List.mem_of_getElem? hkk
        have HKM := Lib.hid hmk
        have HVP := Lib.hid (vEnt_path (HT6.out.ok.val _ (mem_kids.1 hmk).1))
        have HPS := Lib.hid (entOk_of HT6.out (mem_kids.1 hmk).1).pth
        obtain ⟨av, cv, hvk, hcv, hmv⟩ := (HG6.out.dat _ (List.mem_of_getElem? hy)).1.slice
        simp only at hvk hcv q0 q1 q2 q3 q4 q5
        subst hvk
        unfold maxLen at hmv
        clear hy hkk hmk
        go_upto_region 17 with (fail)
        obtain ⟨W1, hW1⟩ : ∃ W1, W1 = wr.alloc (.cells #[.string ek.path, .int .i64 ek.kind, .int .i64 ek.mode, .int .i64 ek.time, .slice av ek.data.length cv, .string ek.link] 36) := ⟨_, rfl⟩
        rw [← hW1]
        have hx1 : W1.heap[wr.heap.size]? = some (.cells #[.string ek.path, .int .i64 ek.kind, .int .i64 ek.mode, .int .i64 ek.time, .slice av ek.data.length cv, .string ek.link] 36 (0, 0)) := by rw [hW1]; exact new20 wr _
        have hb1 : Below wr.heap.size wr W1 := by rw [hW1]; exact (Below.refl _ _).alloc (Nat.le_refl _) _
        have HX1 := Lib.hid hx1
        have HW1 := Lib.hid hb1
        clear hW1 hb1 q0 q1 q2 q3 q4 q5
        have c0 := cell20 (k := 0) hx1
        simp only [List.getElem?_toArray, List.getElem?_cons_zero] at c0
        clear hx1
        go_wp2_with fail
        refine (parent_any ek.path _ (HE.out.below (HB6.out.trans ((HBR.out.trans (HW1.out.mono HBR.out.size)).mono HB6.out.size))) HVP.out).mono ?_
        rintro e W2 ⟨rfl, hb2⟩
        rw [kid_path HKM.out]
        have HW2 := Lib.hid (HW1.out.trans (hb2.mono HW1.out.size))
        have HX2 := Lib.hid ((hb2.block _ (lt20 HX1.out)).trans HX1.out)
        clear hb2 c0
        have c0 := cell20 (k := 0) HX2.out
        simp only [List.getElem?_toArray, List.getElem?_cons_zero] at c0
        go_wp2_with fail
        have HTT := Lib.hid (TreeAt.below (show TreeAt (newF (B + 2) w6) w6 (B + 1) B L from HT6.out) (HBR.out.trans (HW2.out.mono HBR.out.size)))
        refine (size_any (newF (B + 2) w6) (B + 1) B L ek.path _ HTT.out HPS.out).mono ?_
        rintro e W3 ⟨rfl, hb3⟩
        have HW3 := Lib.hid (HW2.out.trans (hb3.mono HW2.out.size))
        have HX3 := Lib.hid ((hb3.block _ (lt20 HX2.out)).trans HX2.out)
        clear hb3 c0
        have c0 := cell20 (k := 0) HX3.out
        have HS3 := Lib.hid (HSR.out.below HBR.out.size HW3.out)
        have d0 := cell20 (k := 0) HS3.out.sum
        have d1 := cell20 (k := 1) HS3.out.sum
        have d2 := cell20 (k := 2) HS3.out.sum
        have d3 := cell20 (k := 3) HS3.out.sum
        simp only [List.getElem?_toArray, List.getElem?_cons_succ, List.getElem?_cons_zero] at c0 d0 d1 d2 d3
        have f0 := frozen20 (k := 0) HS3.out.sum
        have f1 := frozen20 (k := 1) HS3.out.sum
        have f2 := frozen20 (k := 2) HS3.out.sum
        have f3 := frozen20 (k := 3) HS3.out.sum
        obtain ⟨m1, m2, m3, m4, m5⟩ := kids_small HT6.out.ok HDZ.out k
        obtain ⟨p1, p2, p3, p4, p5⟩ := kids_small HT6.out.ok HDZ.out (k + 1)
        obtain ⟨cc, hcc⟩ : ∃ cc, cc = cntL (kidsAt L d k) := ⟨_, rfl⟩
        obtain ⟨ce, hce⟩ : ∃ ce, ce = cntL (atP L ek.path) := ⟨_, rfl⟩
        obtain ⟨r1, r2, r3, r4⟩ := cnt_le HT6.out.ok ek.path
        have HCN := Lib.hid (show cntL (kidsAt L d (k + 1)) = addC cc ce by rw [kidsAt_step HKK.out, cnt_app, hcc, hce])
        rw [← hcc] at d0 d1 d2 d3 m1 m2 m3 m4
        rw [← hce] at r1 r2 r3 r4 ⊢
        clear p1 p2 p3 p4 p5 hcc hce
        go_upto_region 22 with (fail)
        obtain ⟨W4, hW4⟩ : ∃ W4, W4 = ((((W3.setCell ⟨sb, 0, none⟩ (.int .i64 (cc.files + ce.files))).setCell ⟨sb, 1, none⟩ (.int .i64 (cc.dirs + ce.dirs))).setCell ⟨sb, 2, none⟩ (.int .i64 (cc.links + ce.links))).setCell ⟨sb, 3, none⟩ (.int .i64 (cc.bytes + ce.bytes))) := ⟨_, rfl⟩
        rw [← hW4]
        have HS4 := Lib.hid (show SumK w6 w6.heap.size sb (cntL (kidsAt L d (k + 1))) Ds w.heap.size pre W4 by
          rw [hW4]
          refine HS3.out.set4 HSB.out ?_ ?_ ?_ ?_ <;> (rw [HCN.out]; simp [addC]))
        have hcc : W4.cell? ⟨wr.heap.size, 0, none⟩ = some (.string ek.path) := by
          have hne : wr.heap.size ≠ sb := fun e => by have h1 := lt20 HSR.out.sum; omega
          rw [hW4]
          exact cell20 (setOther20 (setOther20 (setOther20 (setOther20 HX3.out hne _) hne _) hne _) hne _)
        have HB4 := Lib.hid HS4.out.coll.2
        have HT4 := Lib.hid (TreeAt.below (show TreeAt (newF (B + 2) w6) w6 (B + 1) B L from HT6.out) HB4.out)
        clear hW4 c0 d0 d1 d2 d3 f0 f1 f2 f3 m1 m2 m3 m4 r1 r2 r3 r4
        have hlx : wr.heap.size < W4.heap.size := block_lt hcc
        go_wp2_with fail
        refine (walk_any2 (B + 1) ek.path _).mono ?_
        rintro e W5 ⟨rfl, hw1, hw2, hb5, hs5⟩
        have HU1 := Lib.hid hw1
        have HU2 := Lib.hid hw2
        have HS5 := Lib.hid (HS4.out.below HB4.out.size hb5)
        have HT5 := Lib.hid (HT4.out.below hb5)
        have HW5 := Lib.hid hb5.size
        clear hw1 hw2 hb5 hs5 hcc hlx
        go_wp2_with fail
        have hpl : pre.length ≤ 4096 := by
          have h1 := congrArg List.length HPR.out
          rw [List.length_map] at h1
          omega
        have h65 := HS5.out.coll.2.size
        have hOI : OwnFrom W5.heap.size (fun (xs : List VEnt) W => CollI w6.heap.size w6.heap.size w6 (pre ++ xs) W ∧ KeepE W5 W) := fun xs X Y row h hg hr => ⟨collI_own h65 (Nat.le_refl _) (pre ++ xs) X Y row h.1 hg hr, h.2.turn hg (fun r e => (hr r e).1)⟩
        have hLT := HLT3.out
        have hS6 := HS6.out
        obtain ⟨hty, ⟨i0, z0, hi1, hi2, hi3, hi4, hi5⟩, -, -⟩ := Tryd.appEnts
        refine wp_rangeB (gf := 48) (lb := #[.pointer (some ⟨W4.heap.size, 0, none⟩), .pointer (some ⟨W4.heap.size + 1, 0, none⟩)]) rfl (enters_of Tryd.func48 (by kernel_rfl) rfl)
          (walk_seq2 (newF (B + 2) w6) (B + 1) B L ek.path W4.heap.size (W4.heap.size + 1) W5 HT5.out HPS.out HU1.out HU2.out) wKeep_t (wKeep_b HT5.out) (fun _ => rfl)
          (fun xs W => CollI w6.heap.size w6.heap.size w6 (pre ++ xs) W ∧ KeepE W5 W) (fun _ _ _ => False) 20
          (fun xs x b W => (CollI w6.heap.size w6.heap.size w6 (pre ++ xs) W ∧ KeepE W5 W) ∧ EntNew w6.heap.size x W ∧ xs.length < 4096 ∧ W.heap[b]? = some (.cells #[.string x.2.path, .int .i64 x.2.kind, .int .i64 x.2.mode, .int .i64 x.2.time, x.1, .string x.2.link] 36 (0, 0)))
          hOI (fun _ _ _ _ _ h _ _ => h) ?own ⟨by rw [List.append_nil]; exact HS5.out.coll, KeepE.refl _⟩ ?assign ?body ?done ?stop
        case own =>
          rintro ⟨xs, x, b⟩ X Y row ⟨h1, h2, h3, h4⟩ hg hr
          refine ⟨hOI xs X Y row h1 hg hr, ent_turn h2 hg (fun r e => (hr r e).2), h3, (hg.block b (Array.getElem?_eq_some_iff.1 h4).1 (fun e' => ?_)).trans h4⟩
          obtain ⟨_, ob, ho, hc⟩ := hr b e'.symm
          rw [h4] at ho; cases ho; cases hc
        case assign =>
          rintro l' xs ⟨v, e⟩ X hX hI hD hN
          obtain ⟨a', c', hv, -, -⟩ := owns_shape hD.1
          simp only at hv
          subst hv
          have hbw : Below X.heap.size X (X.alloc (.cells #[.string e.path, .int .i64 e.kind, .int .i64 e.mode, .int .i64 e.time, .slice a' e.data.length c', .string e.link] 36)) := (Below.refl _ _).alloc (Nat.le_refl _) _
          simp only [entV]
          gi_wp2
          refine ⟨KeepsOthers.alloc _ _, wKeep_below hbw, X.heap.size, ⟨hOI.alloc _ hI, ⟨owns_le20 (own_below hD.1 hbw) h65, hD.2⟩, hN, new20 X _⟩, ?_⟩
          kernel_rfl
        case body =>
          rintro l' xs ⟨v0, e⟩ b X ⟨⟨hC, hKE⟩, hD, hN, hb⟩
          obtain ⟨M, hM⟩ : ∃ M, M = pre ++ xs := ⟨_, rfl⟩
          have hln : M.length ≤ 8192 := by rw [hM, List.length_append]; omega
          have HM := Lib.hid hM
          rw [← hM] at hC
          obtain ⟨⟨vb, hvb, hrow, hdat⟩, hBX⟩ := hC
          obtain ⟨a', c', hv0, -, -⟩ := owns_shape hD.1
          simp only at hv0
          subst hv0
          simp only at hb
          have c0 := cell20 (k := 0) hb
          have c1 := cell20 (k := 1) hb
          have c2 := cell20 (k := 2) hb
          have c3 := cell20 (k := 3) hb
          have c4 := cell20 (k := 4) hb
          have c5 := cell20 (k := 5) hb
          simp only [List.getElem?_toArray, List.getElem?_cons_succ, List.getElem?_cons_zero] at c0 c1 c2 c3 c4 c5
          have hcb := hvb.cell
          simp only [entV]
          clear hM
          gi_wp2_with (gi_at_builtin; refine wpListIn_append_own _ rfl _ _ 22 rfl w6.heap.size 36 i0 z0 6 80 hty hi1 hi2 hi3 hi4 hi5 (by decide) _ _ _ rfl (hrow.alloc _) ⟨X.heap.size, 0, none⟩ 1 1 (entC (.slice a' e.data.length c') e) rfl rfl (cells_new X _ _) entC_one (by unfold maxLen; omega) (by omega) (by have := hBX.size; simp; omega) ?_; intro v' w1 hown' hgrow _; obtain ⟨g', cap', rfl⟩ := ownsRow_succ hown'; obtain ⟨hv1, -, -, -, -⟩ := hvb.appended (by decide) hrow hBX.size (Nat.le_refl _) hown' hgrow; have hc1 := hv1.cell; have hf1 := hv1.frozen)
          obtain ⟨hk1, hwk, hci, hke⟩ := coll_app (S := newF (B + 2) w6) (tb := B + 1) (mb := B) (b1 := W4.heap.size) (L := L) hBX (Nat.le_refl _) (Nat.le_refl _) ⟨by omega, by omega⟩ (fun k hk => hk.2) hvb hrow hdat hD hown' hgrow
          exact ⟨hk1, hwk, ⟨by rw [← List.append_assoc, ← HM.out]; exact hci, hKE.trans hke⟩⟩
        case done =>
          rintro Dl ys W hDl hS ⟨hC, hKE⟩ hK
          have hS6' := HS5.out.step hC hKE
          have hmm := hS6'.marks.more (fun E hE => Nat.lt_of_lt_of_le (HS5.out.marks.lt E hE) hDl) hK (by have := HB6.out.size; omega)
          have HSN := Lib.hid (show SumK w6 w6.heap.size sb (cntL (kidsAt L d (k + 1))) (Dl :: Ds) w.heap.size (pre ++ ys) W from ⟨hC, hS6'.sum, hmm⟩)
          clear hC hKE hK hS6' hmm
          go_wp2_with fail
          refine ⟨⟨k + 1, pre ++ ys, Dl :: Ds, ⟨by omega, HSN.out, ?_⟩, rfl, rfl, rfl, rfl, rfl, rfl, rfl, rfl, rfl⟩, ?_⟩
          · rw [List.map_append, HPR.out, hS, kidsAt_step HKK.out, List.append_assoc]
          · simp [intOf]; omega
        case stop =>
          rintro Dl c xs W _ _ h _
          exact h.elim
      · have hkn : k = nk := by omega
        have hkd : k = (kidsE L d).length := by rw [hkn]; exact HNK.out
        have HKD := Lib.hid hkd
        clear hkd
        obtain ⟨cc, hcc⟩ : ∃ cc, cc = cntL (kidsAt L d k) := ⟨_, rfl⟩
        have hsr := HSR.out
        rw [← hcc] at hsr
        have HSQ := Lib.hid hsr
        have HCC := Lib.hid hcc
        obtain ⟨m1, m2, m3, m4, m5⟩ := kids_small HT6.out.ok HDZ.out k
        rw [← hcc] at m2
        clear hcc hsr m1 m3 m4
        have d1 := cell20 (k := 1) HSQ.out.sum
        simp only [List.getElem?_toArray, List.getElem?_cons_succ, List.getElem?_cons_zero] at d1
        have f1 := frozen20 (k := 1) HSQ.out.sum
        have HKS2 := Lib.hid (kids_sum HT6.out.ok HDZ.out)
        by_cases hd0 : bl d = []
        · have e0 : d.toList.isEmpty = true := by rw [empty20, decide_eq_true hd0]
          have e2 : (!d.toList.isEmpty) = false := by simp [e0]
          have HSF := Lib.hid (show SumK w6 w6.heap.size sb (cntL (atP L d)) Ds w.heap.size pre wr by
            rw [HKS2.out, if_pos (size_zero.2 hd0), ← HKD.out, ← HCC.out]
            exact HSQ.out)
          clear hd0 d1 f1 m2
          go_upto_region 28 with (fail)
          have HBU := Lib.hid HSF.out.coll.2
          have HTU := Lib.hid (TreeAt.below (show TreeAt (newF (B + 2) w6) w6 (B + 1) B L from HT6.out) HBU.out)
          go_wp2_with fail
          refine (size_any (newF (B + 2) w6) (B + 1) B L d _ HTU.out HD.out).mono ?_
          rintro e U1 ⟨rfl, hb1⟩
          have HS1 := Lib.hid (HSF.out.below HBU.out.size hb1)
          have HT1 := Lib.hid (HTU.out.below hb1)
          have HB1' := Lib.hid (HBU.out.trans (hb1.mono HBU.out.size))
          clear hb1
          obtain ⟨cz, hcz⟩ : ∃ cz, cz = cntL (atP L d) := ⟨_, rfl⟩
          have HCZ := Lib.hid hcz
          rw [← hcz]
          clear hcz
          go_upto_region 30 with (fail)
          obtain ⟨U2, hU2⟩ : ∃ U2, U2 = U1.alloc (.cells #[.slice none 0 0] 22) := ⟨_, rfl⟩
          rw [← hU2]
          have HBX2 := Lib.hid (show Boxed U2 U1.heap.size 22 (.slice none 0 0) by rw [hU2]; exact Boxed.new U1 _ _)
          have HB2' := Lib.hid (show Below U1.heap.size U1 U2 by rw [hU2]; exact (Below.refl _ _).alloc (Nat.le_refl _) _)
          clear hU2
          go_wp2_with fail
          refine (walk_any2 (B + 1) d _).mono ?_
          rintro e U3 ⟨rfl, hw1, hw2, hb3, hs3⟩
          have HU1 := Lib.hid hw1
          have HU2 := Lib.hid hw2
          have HB3' := Lib.hid (show Below U1.heap.size U1 U3 from HB2'.out.trans (hb3.mono HB2'.out.size))
          have HBX3 := Lib.hid (boxed_below HBX2.out hb3)
          have HT3' := Lib.hid (HT1.out.below HB3'.out)
          have h63 := HB3'.out.size
          have h61 := HB1'.out.size
          clear hw1 hw2 hb3 hs3
          go_wp2_with fail
          have hLT := HLT3.out
          have hS6 := HS6.out
          obtain ⟨hty, ⟨i0, z0, hi1, hi2, hi3, hi4, hi5⟩, -, -⟩ := Tryd.appEnts
          have hOI : OwnFrom U3.heap.size (fun (xs : List VEnt) W => CollI U1.heap.size U1.heap.size U1 xs W) := collI_own (by omega) (Nat.le_refl _)
          refine wp_rangeB (gf := 48) (lb := #[.pointer (some ⟨U2.heap.size, 0, none⟩), .pointer (some ⟨U2.heap.size + 1, 0, none⟩)]) rfl (enters_of Tryd.func48 (by kernel_rfl) rfl)
            (walk_seq2 (newF (B + 2) w6) (B + 1) B L d U2.heap.size (U2.heap.size + 1) U3 HT3'.out HD.out HU1.out HU2.out) wKeep_t (wKeep_b HT3'.out) (fun _ => rfl)
            (fun xs W => CollI U1.heap.size U1.heap.size U1 xs W) (fun _ _ _ => False) 26
            (fun xs x b W => CollI U1.heap.size U1.heap.size U1 xs W ∧ EntNew U1.heap.size x W ∧ xs.length < 4096 ∧ W.heap[b]? = some (.cells #[.string x.2.path, .int .i64 x.2.kind, .int .i64 x.2.mode, .int .i64 x.2.time, x.1, .string x.2.link] 36 (0, 0)))
            hOI (fun _ _ _ _ _ h _ _ => h) ?own ⟨⟨_, HBX3.out, World.ownsRow_nil _ _ _ _, by simp⟩, HB3'.out⟩ ?assign ?body ?done ?stop
          case own =>
            rintro ⟨xs, x, b⟩ X Y row ⟨h1, h2, h3, h4⟩ hg hr
            refine ⟨hOI xs X Y row h1 hg hr, ent_turn h2 hg (fun r e => (hr r e).2), h3, (hg.block b (Array.getElem?_eq_some_iff.1 h4).1 (fun e' => ?_)).trans h4⟩
            obtain ⟨_, ob, ho, hc⟩ := hr b e'.symm
            rw [h4] at ho; cases ho; cases hc
          case assign =>
            rintro l' xs ⟨v, e⟩ X hX hI hD hN
            obtain ⟨a', c', hv, -, -⟩ := owns_shape hD.1
            simp only at hv
            subst hv
            have hbw : Below X.heap.size X (X.alloc (.cells #[.string e.path, .int .i64 e.kind, .int .i64 e.mode, .int .i64 e.time, .slice a' e.data.length c', .string e.link] 36)) := (Below.refl _ _).alloc (Nat.le_refl _) _
            simp only [entV]
            gi_wp2
            refine ⟨KeepsOthers.alloc _ _, wKeep_below hbw, X.heap.size, ⟨hOI.alloc _ hI, ⟨owns_le20 (own_below hD.1 hbw) h63, hD.2⟩, hN, new20 X _⟩, ?_⟩
            kernel_rfl
          case body =>
            rintro l' xs ⟨v0, e⟩ b X ⟨hC, hD, hN, hb⟩
            obtain ⟨⟨vb, hvb, hrow, hdat⟩, hBX⟩ := hC
            obtain ⟨a', c', hv0, -, -⟩ := owns_shape hD.1
            simp only at hv0
            subst hv0
            simp only at hb
            have c0 := cell20 (k := 0) hb
            have c1 := cell20 (k := 1) hb
            have c2 := cell20 (k := 2) hb
            have c3 := cell20 (k := 3) hb
            have c4 := cell20 (k := 4) hb
            have c5 := cell20 (k := 5) hb
            simp only [List.getElem?_toArray, List.getElem?_cons_succ, List.getElem?_cons_zero] at c0 c1 c2 c3 c4 c5
            have hcb := hvb.cell
            simp only [entV]
            gi_wp2_with (gi_at_builtin; refine wpListIn_append_own _ rfl _ _ 22 rfl U1.heap.size 36 i0 z0 6 80 hty hi1 hi2 hi3 hi4 hi5 (by decide) _ _ _ rfl (hrow.alloc _) ⟨X.heap.size, 0, none⟩ 1 1 (entC (.slice a' e.data.length c') e) rfl rfl (cells_new X _ _) entC_one (by unfold maxLen; omega) (by omega) (by have := hBX.size; simp; omega) ?_; intro v' w1 hown' hgrow _; obtain ⟨g', cap', rfl⟩ := ownsRow_succ hown'; obtain ⟨hv1, -, -, -, -⟩ := hvb.appended (by decide) hrow hBX.size (Nat.le_refl _) hown' hgrow; have hc1 := hv1.cell; have hf1 := hv1.frozen)
            obtain ⟨hk1, hwk, hci, hke⟩ := coll_app (S := newF (B + 2) w6) (tb := B + 1) (mb := B) (b1 := U2.heap.size) (L := L) hBX (Nat.le_refl _) (Nat.le_refl _) ⟨by omega, by omega⟩ (fun k hk => Nat.lt_of_lt_of_le hk.2 h61) hvb hrow hdat hD hown' hgrow
            exact ⟨hk1, hwk, hci⟩
          case done =>
            rintro Dl ys W hDl hS ⟨⟨vb, hvb, hrow, hdat⟩, hBW⟩ hK
            have HS2 := Lib.hid (show SumK w6 w6.heap.size sb cz Ds w.heap.size pre W by rw [HCZ.out]; exact HS1.out.below (by omega) hBW)
            have hmm := HS2.out.marks.more (fun E hE => by have h1 := HS1.out.marks.lt E hE; omega) hK (by have := HB6.out.size; omega)
            have HMM := Lib.hid hmm
            have HBW := Lib.hid hBW
            have HBWZ := Lib.hid (HB6.out.trans ((HB1'.out.trans (hBW.mono HB1'.out.size)).mono HB6.out.size))
            obtain ⟨⟨vo, hvo, hrwo, hdo⟩, -⟩ := HS2.out.coll
            have HE1 := Lib.hid (show EntsAt (fun k => U1.heap.size ≤ k ∧ k < W.heap.size) W vb (ys.map Prod.snd) from Gathered.seq ⟨ys, rfl, hrow, hdat⟩)
            have HE2 := Lib.hid (show EntsAt (fun k => w6.heap.size ≤ k ∧ k < W.heap.size) W vo (pre.map Prod.snd) from Gathered.seq ⟨pre, rfl, hrwo, hdo⟩)
            have HEQ := Lib.hid (show ys.map Prod.snd = pre.map Prod.snd by rw [hS, HPR.out, HKD.out, kidsAt_all HT6.out.ok HDZ.out])
            have hcb := hvb.cell
            have hco := hvo.cell
            have d0 := cell20 (k := 0) HS2.out.sum
            have d1 := cell20 (k := 1) HS2.out.sum
            have d2 := cell20 (k := 2) HS2.out.sum
            have d3 := cell20 (k := 3) HS2.out.sum
            simp only [List.getElem?_toArray, List.getElem?_cons_succ, List.getElem?_cons_zero] at d0 d1 d2 d3
            clear hK hS hmm hvb hvo hrow hrwo hdat hdo hBW
            have heq : (Op.equalIn 10000 50 (.agg #[.int .i64 cz.files, .int .i64 cz.dirs, .int .i64 cz.links, .int .i64 cz.bytes]) (.agg #[.int .i64 cz.files, .int .i64 cz.dirs, .int .i64 cz.links, .int .i64 cz.bytes])).run Tryd.prog W = .ok true W := by
              have h1 := eq4 cz cz W
              rw [decide_eq_true rfl] at h1
              exact h1
            go_wp2_with fail
            refine (r_sameall_any _ _ _ _ _ _ _ HE1.out HE2.out).mono ?_
            rintro e WE ⟨rfl, hbe⟩
            rw [HEQ.out, decide_eq_true rfl]
            have HME := Lib.hid (HMM.out.keep (KeepE.below hbe))
            have HBE := Lib.hid (below_next HBWZ.out hbe)
            clear hbe heq d0 d1 d2 d3 hcb hco
            go_wp2_with fail
            exact leaves_marks (Nat.le_refl _) (Dl :: Ds) WE HME.out HBE.out (fun W' hb => ⟨_, results_tmp rfl _ _ _, rfl, hb⟩)
          case stop =>
            rintro Dl c xs W _ _ h _
            exact h.elim
        · have e0 : d.toList.isEmpty = false := by rw [empty20, decide_eq_false hd0]
          have e2 : (!d.toList.isEmpty) = true := by simp [e0]
          go_upto_region 28 with (fail)
          obtain ⟨U, hU⟩ : ∃ U, U = wr.setCell ⟨sb, 1, none⟩ (.int .i64 (cc.dirs + 1)) := ⟨_, rfl⟩
          rw [← hU]
          have HSF := Lib.hid (show SumK w6 w6.heap.size sb (cntL (atP L d)) Ds w.heap.size pre U by
            rw [HKS2.out, if_neg (fun h => hd0 (size_zero.1 h)), ← HKD.out, ← HCC.out, hU]
            exact HSQ.out.set1 HSB.out rfl)
          clear hd0 d1 f1 m2 hU
          have HBU := Lib.hid HSF.out.coll.2
          have HTU := Lib.hid (TreeAt.below (show TreeAt (newF (B + 2) w6) w6 (B + 1) B L from HT6.out) HBU.out)
          go_wp2_with fail
          refine (size_any (newF (B + 2) w6) (B + 1) B L d _ HTU.out HD.out).mono ?_
          rintro e U1 ⟨rfl, hb1⟩
          have HS1 := Lib.hid (HSF.out.below HBU.out.size hb1)
          have HT1 := Lib.hid (HTU.out.below hb1)
          have HB1' := Lib.hid (HBU.out.trans (hb1.mono HBU.out.size))
          clear hb1
          obtain ⟨cz, hcz⟩ : ∃ cz, cz = cntL (atP L d) := ⟨_, rfl⟩
          have HCZ := Lib.hid hcz
          rw [← hcz]
          clear hcz
          go_upto_region 30 with (fail)
          obtain ⟨U2, hU2⟩ : ∃ U2, U2 = U1.alloc (.cells #[.slice none 0 0] 22) := ⟨_, rfl⟩
          rw [← hU2]
          have HBX2 := Lib.hid (show Boxed U2 U1.heap.size 22 (.slice none 0 0) by rw [hU2]; exact Boxed.new U1 _ _)
          have HB2' := Lib.hid (show Below U1.heap.size U1 U2 by rw [hU2]; exact (Below.refl _ _).alloc (Nat.le_refl _) _)
          clear hU2
          go_wp2_with fail
          refine (walk_any2 (B + 1) d _).mono ?_
          rintro e U3 ⟨rfl, hw1, hw2, hb3, hs3⟩
          have HU1 := Lib.hid hw1
          have HU2 := Lib.hid hw2
          have HB3' := Lib.hid (show Below U1.heap.size U1 U3 from HB2'.out.trans (hb3.mono HB2'.out.size))
          have HBX3 := Lib.hid (boxed_below HBX2.out hb3)
          have HT3' := Lib.hid (HT1.out.below HB3'.out)
          have h63 := HB3'.out.size
          have h61 := HB1'.out.size
          clear hw1 hw2 hb3 hs3
          go_wp2_with fail
          have hLT := HLT3.out
          have hS6 := HS6.out
          obtain ⟨hty, ⟨i0, z0, hi1, hi2, hi3, hi4, hi5⟩, -, -⟩ := Tryd.appEnts
          have hOI : OwnFrom U3.heap.size (fun (xs : List VEnt) W => CollI U1.heap.size U1.heap.size U1 xs W) := collI_own (by omega) (Nat.le_refl _)
          refine wp_rangeB (gf := 48) (lb := #[.pointer (some ⟨U2.heap.size, 0, none⟩), .pointer (some ⟨U2.heap.size + 1, 0, none⟩)]) rfl (enters_of Tryd.func48 (by kernel_rfl) rfl)
            (walk_seq2 (newF (B + 2) w6) (B + 1) B L d U2.heap.size (U2.heap.size + 1) U3 HT3'.out HD.out HU1.out HU2.out) wKeep_t (wKeep_b HT3'.out) (fun _ => rfl)
            (fun xs W => CollI U1.heap.size U1.heap.size U1 xs W) (fun _ _ _ => False) 26
            (fun xs x b W => CollI U1.heap.size U1.heap.size U1 xs W ∧ EntNew U1.heap.size x W ∧ xs.length < 4096 ∧ W.heap[b]? = some (.cells #[.string x.2.path, .int .i64 x.2.kind, .int .i64 x.2.mode, .int .i64 x.2.time, x.1, .string x.2.link] 36 (0, 0)))
            hOI (fun _ _ _ _ _ h _ _ => h) ?own ⟨⟨_, HBX3.out, World.ownsRow_nil _ _ _ _, by simp⟩, HB3'.out⟩ ?assign ?body ?done ?stop
          case own =>
            rintro ⟨xs, x, b⟩ X Y row ⟨h1, h2, h3, h4⟩ hg hr
            refine ⟨hOI xs X Y row h1 hg hr, ent_turn h2 hg (fun r e => (hr r e).2), h3, (hg.block b (Array.getElem?_eq_some_iff.1 h4).1 (fun e' => ?_)).trans h4⟩
            obtain ⟨_, ob, ho, hc⟩ := hr b e'.symm
            rw [h4] at ho; cases ho; cases hc
          case assign =>
            rintro l' xs ⟨v, e⟩ X hX hI hD hN
            obtain ⟨a', c', hv, -, -⟩ := owns_shape hD.1
            simp only at hv
            subst hv
            have hbw : Below X.heap.size X (X.alloc (.cells #[.string e.path, .int .i64 e.kind, .int .i64 e.mode, .int .i64 e.time, .slice a' e.data.length c', .string e.link] 36)) := (Below.refl _ _).alloc (Nat.le_refl _) _
            simp only [entV]
            gi_wp2
            refine ⟨KeepsOthers.alloc _ _, wKeep_below hbw, X.heap.size, ⟨hOI.alloc _ hI, ⟨owns_le20 (own_below hD.1 hbw) h63, hD.2⟩, hN, new20 X _⟩, ?_⟩
            kernel_rfl
          case body =>
            rintro l' xs ⟨v0, e⟩ b X ⟨hC, hD, hN, hb⟩
            obtain ⟨⟨vb, hvb, hrow, hdat⟩, hBX⟩ := hC
            obtain ⟨a', c', hv0, -, -⟩ := owns_shape hD.1
            simp only at hv0
            subst hv0
            simp only at hb
            have c0 := cell20 (k := 0) hb
            have c1 := cell20 (k := 1) hb
            have c2 := cell20 (k := 2) hb
            have c3 := cell20 (k := 3) hb
            have c4 := cell20 (k := 4) hb
            have c5 := cell20 (k := 5) hb
            simp only [List.getElem?_toArray, List.getElem?_cons_succ, List.getElem?_cons_zero] at c0 c1 c2 c3 c4 c5
            have hcb := hvb.cell
            simp only [entV]
            gi_wp2_with (gi_at_builtin; refine wpListIn_append_own _ rfl _ _ 22 rfl U1.heap.size 36 i0 z0 6 80 hty hi1 hi2 hi3 hi4 hi5 (by decide) _ _ _ rfl (hrow.alloc _) ⟨X.heap.size, 0, none⟩ 1 1 (entC (.slice a' e.data.length c') e) rfl rfl (cells_new X _ _) entC_one (by unfold maxLen; omega) (by omega) (by have := hBX.size; simp; omega) ?_; intro v' w1 hown' hgrow _; obtain ⟨g', cap', rfl⟩ := ownsRow_succ hown'; obtain ⟨hv1, -, -, -, -⟩ := hvb.appended (by decide) hrow hBX.size (Nat.le_refl _) hown' hgrow; have hc1 := hv1.cell; have hf1 := hv1.frozen)
            obtain ⟨hk1, hwk, hci, hke⟩ := coll_app (S := newF (B + 2) w6) (tb := B + 1) (mb := B) (b1 := U2.heap.size) (L := L) hBX (Nat.le_refl _) (Nat.le_refl _) ⟨by omega, by omega⟩ (fun k hk => Nat.lt_of_lt_of_le hk.2 h61) hvb hrow hdat hD hown' hgrow
            exact ⟨hk1, hwk, hci⟩
          case done =>
            rintro Dl ys W hDl hS ⟨⟨vb, hvb, hrow, hdat⟩, hBW⟩ hK
            have HS2 := Lib.hid (show SumK w6 w6.heap.size sb cz Ds w.heap.size pre W by rw [HCZ.out]; exact HS1.out.below (by omega) hBW)
            have hmm := HS2.out.marks.more (fun E hE => by have h1 := HS1.out.marks.lt E hE; omega) hK (by have := HB6.out.size; omega)
            have HMM := Lib.hid hmm
            have HBW := Lib.hid hBW
            have HBWZ := Lib.hid (HB6.out.trans ((HB1'.out.trans (hBW.mono HB1'.out.size)).mono HB6.out.size))
            obtain ⟨⟨vo, hvo, hrwo, hdo⟩, -⟩ := HS2.out.coll
            have HE1 := Lib.hid (show EntsAt (fun k => U1.heap.size ≤ k ∧ k < W.heap.size) W vb (ys.map Prod.snd) from Gathered.seq ⟨ys, rfl, hrow, hdat⟩)
            have HE2 := Lib.hid (show EntsAt (fun k => w6.heap.size ≤ k ∧ k < W.heap.size) W vo (pre.map Prod.snd) from Gathered.seq ⟨pre, rfl, hrwo, hdo⟩)
            have HEQ := Lib.hid (show ys.map Prod.snd = pre.map Prod.snd by rw [hS, HPR.out, HKD.out, kidsAt_all HT6.out.ok HDZ.out])
            have hcb := hvb.cell
            have hco := hvo.cell
            have d0 := cell20 (k := 0) HS2.out.sum
            have d1 := cell20 (k := 1) HS2.out.sum
            have d2 := cell20 (k := 2) HS2.out.sum
            have d3 := cell20 (k := 3) HS2.out.sum
            simp only [List.getElem?_toArray, List.getElem?_cons_succ, List.getElem?_cons_zero] at d0 d1 d2 d3
            clear hK hS hmm hvb hvo hrow hrwo hdat hdo hBW
            have heq : (Op.equalIn 10000 50 (.agg #[.int .i64 cz.files, .int .i64 cz.dirs, .int .i64 cz.links, .int .i64 cz.bytes]) (.agg #[.int .i64 cz.files, .int .i64 cz.dirs, .int .i64 cz.links, .int .i64 cz.bytes])).run Tryd.prog W = .ok true W := by
              have h1 := eq4 cz cz W
              rw [decide_eq_true rfl] at h1
              exact h1
            go_wp2_with fail
            refine (r_sameall_any _ _ _ _ _ _ _ HE1.out HE2.out).mono ?_
            rintro e WE ⟨rfl, hbe⟩
            rw [HEQ.out, decide_eq_true rfl]
            have HME := Lib.hid (HMM.out.keep (KeepE.below hbe))
            have HBE := Lib.hid (below_next HBWZ.out hbe)
            clear hbe heq d0 d1 d2 d3 hcb hco
            go_wp2_with fail
            exact leaves_marks (Nat.le_refl _) (Dl :: Ds) WE HME.out HBE.out (fun W' hb => ⟨_, results_tmp rfl _ _ _, rfl, hb⟩)
          case stop =>
            rintro Dl c xs W _ _ h _
            exact h.elim

  | some f =>
    rw [hf] at hr8
    obtain ⟨vf, rfl, hof⟩ := hr8
    obtain ⟨af, cf, rfl, hcf, hmf⟩ := owns_shape hof
    unfold maxLen at hmf
    have HF := Lib.hid hf
    have HOF := Lib.hid hof
    unfold entV
    clear hf hb8 hof
    obtain ⟨W9, hW9⟩ : ∃ W9, W9 = w8.alloc (.cells #[.string f.path, .int .i64 f.kind, .int .i64 f.mode, .int .i64 f.time, .slice af f.data.length cf, .string f.link] 36) := ⟨_, rfl⟩
    have hb9 : Below w8.heap.size w8 W9 := by rw [hW9]; exact (Below.refl _ _).alloc (Nat.le_refl _) _
    have hX9 : W9.heap[w8.heap.size]? = some (.cells #[.string f.path, .int .i64 f.kind, .int .i64 f.mode, .int .i64 f.time, .slice af f.data.length cf, .string f.link] 36 (0, 0)) := by rw [hW9]; exact new20 w8 _
    have hbx := boxed_below (boxed_below HBX.out HB8.out) hb9
    have hBw : w6.heap.size ≤ W9.heap.size := Nat.le_trans HB7.out.size (Nat.le_trans HB8.out.size hb9.size)
    have hrow : W9.ownsRow w6.heap.size 36 6 (.slice none 0 0) ([] : List VEnt).length (entsC []) := World.ownsRow_nil W9 w6.heap.size 36 6
    obtain ⟨vb, hvb⟩ : ∃ vb : Value, vb = .slice none 0 0 := ⟨_, rfl⟩
    rw [← hvb] at hbx hrow
    clear hvb
    have hfl := (findE_some HF.out).1
    have hD9 : EntNew w6.heap.size (.slice af f.data.length cf, f) W9 := ⟨owns_le20 (own_below HOF.out hb9) HB7.out.size, entOk_of HT6.out hfl⟩
    have hB9 : Below w6.heap.size w6 W9 := HB7.out.trans ((HB8.out.mono HB7.out.size).trans (hb9.mono (Nat.le_trans HB7.out.size HB8.out.size)))
    clear hb9
    go_upto_region 12 with (fail)
    rw [← hW9]
    clear hW9
    have c0 := cell20 (k := 0) hX9
    have c1 := cell20 (k := 1) hX9
    have c2 := cell20 (k := 2) hX9
    have c3 := cell20 (k := 3) hX9
    have c4 := cell20 (k := 4) hX9
    have c5 := cell20 (k := 5) hX9
    simp only [List.getElem?_toArray, List.getElem?_cons_succ, List.getElem?_cons_zero] at c0 c1 c2 c3 c4 c5
    have hcb := hbx.cell
    obtain ⟨hty, ⟨i0, z0, hi1, hi2, hi3, hi4, hi5⟩, -, -⟩ := Tryd.appEnts
    go_wp2_with (at_builtin; go_must (refine wpList_append_own _ rfl _ _ 22 rfl w6.heap.size 36 i0 z0 6 80 hty hi1 hi2 hi3 hi4 hi5 (by decide) _ _ _ rfl (hrow.alloc _) ⟨W9.heap.size, 0, none⟩ 1 1 (entC (.slice af f.data.length cf) f) rfl rfl (cells_new W9 _ _) entC_one (by unfold maxLen; simp) (by simp) (by have := hBw; simp; omega) ?_); intro v' w1 hown hgrow _; obtain ⟨g', cap', rfl⟩ := ownsRow_succ hown; obtain ⟨hv1, -, -, -, -⟩ := hbx.appended (by decide) hrow hBw (Nat.le_refl _) hown hgrow; have hc1 := hv1.cell; have hf1 := hv1.frozen)
    obtain ⟨hk10, -, hc10, hke10⟩ := coll_app (S := fun _ => False) (tb := B + 1) (mb := B) (b1 := 0) (L := L) hB9 (Nat.le_refl _) (Nat.le_refl _) ⟨by have := HLT3.out; have := HS6.out; omega, by have := HLT3.out; have := HS6.out; omega⟩ (fun _ h => h.elim) hbx hrow (pre := []) (by simp) hD9 hown hgrow
    obtain ⟨w9, hw9⟩ : ∃ w9, w9 = w1.setCell ⟨w6.heap.size, 0, none⟩ (.slice (some ⟨g', 0, none⟩) (([] : List VEnt).length + 1) cap') := ⟨_, rfl⟩
    rw [← hw9] at hc10
    have HC9 := Lib.hid hc10
    have hsz : w1.heap.size = w9.heap.size := by rw [hw9]; simp [World.setCell]
    simp only [List.length_nil, Nat.zero_add] at hw9
    rw [← hw9]
    clear hw9 hk10 hc10 hke10 hown hgrow hv1 hc1 hf1 hrow hbx hX9 hD9 hB9 hBw hfl hcb c0 c1 c2 c3 c4 c5 hty hi1 hi2 hi3 hi4 hi5
    obtain ⟨ws, hws⟩ : ∃ ws, ws = w9.alloc (.cells #[.int .i64 0, .int .i64 0, .int .i64 0, .int .i64 0] 50) := ⟨_, rfl⟩
    obtain ⟨sb, hsb⟩ : ∃ sb, sb = w9.heap.size := ⟨_, rfl⟩
    rw [← hws, hsz, ← hsb]
    have hbs : Below w9.heap.size w9 ws := by rw [hws]; exact (Below.refl _ _).alloc (Nat.le_refl _) _
    have hss : ws.heap[sb]? = some (.cells #[.int .i64 0, .int .i64 0, .int .i64 0, .int .i64 0] 50 (0, 0)) := by rw [hws, hsb]; exact new20 w9 _
    have HSB := Lib.hid (show w6.heap.size ≤ sb by rw [hsb]; exact HC9.out.2.size)
    have HSK := Lib.hid (show SumK w6 w6.heap.size sb (cntL (kidsAt L d 0)) [] w.heap.size [(.slice af f.data.length cf, f)] ws from ⟨by
      obtain ⟨⟨v, h1, h2, h3⟩, h4⟩ := HC9.out
      exact ⟨⟨v, boxed_below h1 hbs, own_below h2 hbs, fun y hy => ⟨own_below (h3 y hy).1 hbs, (h3 y hy).2⟩⟩, h4.trans (hbs.mono h4.size)⟩, hss, List.nodup_nil, by simp⟩)
    clear hws hsb hbs hss
    refine wp_loop (fun (a' : Act) (wr : World) => ∃ (k : Nat) (pre : List VEnt) (Ds : List Nat), (k ≤ nk ∧ SumK w6 w6.heap.size sb (cntL (kidsAt L d k)) Ds w.heap.size pre wr ∧ pre.map Prod.snd = (findE L d).toList ++ kidsAt L d k) ∧ a'.tmps.size = 149 ∧ a'.tmps[1]? = some (.string d) ∧ a'.tmps[5]? = some (.pointer (some ⟨B + 1, 0, none⟩)) ∧ a'.tmps[8]? = some (.pointer (some ⟨w6.heap.size, 0, none⟩)) ∧ a'.tmps[11]? = some (.pointer (some ⟨sb, 0, none⟩)) ∧ a'.tmps[57]? = some (.slice a6 nk c6) ∧ a'.tmps[58]? = some (.int .i64 nk) ∧ a'.tmps[59]? = some (.int .i64 k) ∧ a'.defers = Ds.map markOf) (fun a' _ => nk - (intOf (a'.tmps.getD 59 undef)).toNat) ?_ ?_
    · refine ⟨0, [(.slice af f.data.length cf, f)], [], ⟨Nat.zero_le _, HSK.out, ?_⟩, rfl, rfl, rfl, rfl, rfl, rfl, rfl, rfl, rfl⟩
      rw [HF.out]; rfl
    · rintro ⟨tm, df⟩ wr ⟨k, pre, Ds, ⟨hk, hsk, hpre⟩, h149, e1, e5, e8, e11, e57, e58, e59, hdf⟩
      simp only at h149 e1 e5 e8 e11 e57 e58 e59 hdf
      subst hdf
      obtain ⟨u, hu, rfl⟩ := frame149 tm h149
      have g1 := hu _ _ e1
      have g5 := hu _ _ e5
      have g8 := hu _ _ e8
      have g11 := hu _ _ e11
      have g57 := hu _ _ e57
      have g58 := hu _ _ e58
      have g59 := hu _ _ e59
      clear hu e1 e5 e8 e11 e57 e58 e59 h149
      rw [g1, g5, g8, g11, g57, g58, g59]
      clear g1 g5 g8 g11 g57 g58 g59
      have HSR := Lib.hid hsk
      have HPR := Lib.hid hpre
      have HBR := Lib.hid hsk.coll.2
      clear hsk hpre
      by_cases hlt : k < nk
      · obtain ⟨⟨vk, ek⟩, hy⟩ : ∃ y, ks[k]? = some y := ⟨_, List.getElem?_eq_getElem (by rw [← HNK2.out]; exact hlt)⟩
        obtain ⟨b6, rfl, -, hbl6, -, q0, q1, q2, q3, q4, q5⟩ := own_ent (own_below HG6.out.row HBR.out) hy
        have hkk : (kidsE L d)[k]? = some ek := by rw [← HKI.out, List.getElem?_map, hy]; rfl
        have HKK := Lib.hid hkk
        have hmk := List.mem_of_getElem? hkk
        have HKM := Lib.hid hmk
        have HVP := Lib.hid (vEnt_path (HT6.out.ok.val _ (mem_kids.1 hmk).1))
        have HPS := Lib.hid (entOk_of HT6.out (mem_kids.1 hmk).1).pth
        obtain ⟨av, cv, hvk, hcv, hmv⟩ := (HG6.out.dat _ (List.mem_of_getElem? hy)).1.slice
        simp only at hvk hcv q0 q1 q2 q3 q4 q5
        subst hvk
        unfold maxLen at hmv
        clear hy hkk hmk
        go_upto_region 17 with (fail)
        obtain ⟨W1, hW1⟩ : ∃ W1, W1 = wr.alloc (.cells #[.string ek.path, .int .i64 ek.kind, .int .i64 ek.mode, .int .i64 ek.time, .slice av ek.data.length cv, .string ek.link] 36) := ⟨_, rfl⟩
        rw [← hW1]
        have hx1 : W1.heap[wr.heap.size]? = some (.cells #[.string ek.path, .int .i64 ek.kind, .int .i64 ek.mode, .int .i64 ek.time, .slice av ek.data.length cv, .string ek.link] 36 (0, 0)) := by rw [hW1]; exact new20 wr _
        have hb1 : Below wr.heap.size wr W1 := by rw [hW1]; exact (Below.refl _ _).alloc (Nat.le_refl _) _
        have HX1 := Lib.hid hx1
        have HW1 := Lib.hid hb1
        clear hW1 hb1 q0 q1 q2 q3 q4 q5
        have c0 := cell20 (k := 0) hx1
        simp only [List.getElem?_toArray, List.getElem?_cons_zero] at c0
        clear hx1
        go_wp2_with fail
        refine (parent_any ek.path _ (HE.out.below (HB6.out.trans ((HBR.out.trans (HW1.out.mono HBR.out.size)).mono HB6.out.size))) HVP.out).mono ?_
        rintro e W2 ⟨rfl, hb2⟩
        rw [kid_path HKM.out]
        have HW2 := Lib.hid (HW1.out.trans (hb2.mono HW1.out.size))
        have HX2 := Lib.hid ((hb2.block _ (lt20 HX1.out)).trans HX1.out)
        clear hb2 c0
        have c0 := cell20 (k := 0) HX2.out
        simp only [List.getElem?_toArray, List.getElem?_cons_zero] at c0
        go_wp2_with fail
        have HTT := Lib.hid (TreeAt.below (show TreeAt (newF (B + 2) w6) w6 (B + 1) B L from HT6.out) (HBR.out.trans (HW2.out.mono HBR.out.size)))
        refine (size_any (newF (B + 2) w6) (B + 1) B L ek.path _ HTT.out HPS.out).mono ?_
        rintro e W3 ⟨rfl, hb3⟩
        have HW3 := Lib.hid (HW2.out.trans (hb3.mono HW2.out.size))
        have HX3 := Lib.hid ((hb3.block _ (lt20 HX2.out)).trans HX2.out)
        clear hb3 c0
        have c0 := cell20 (k := 0) HX3.out
        have HS3 := Lib.hid (HSR.out.below HBR.out.size HW3.out)
        have d0 := cell20 (k := 0) HS3.out.sum
        have d1 := cell20 (k := 1) HS3.out.sum
        have d2 := cell20 (k := 2) HS3.out.sum
        have d3 := cell20 (k := 3) HS3.out.sum
        simp only [List.getElem?_toArray, List.getElem?_cons_succ, List.getElem?_cons_zero] at c0 d0 d1 d2 d3
        have f0 := frozen20 (k := 0) HS3.out.sum
        have f1 := frozen20 (k := 1) HS3.out.sum
        have f2 := frozen20 (k := 2) HS3.out.sum
        have f3 := frozen20 (k := 3) HS3.out.sum
        obtain ⟨m1, m2, m3, m4, m5⟩ := kids_small HT6.out.ok HDZ.out k
        obtain ⟨p1, p2, p3, p4, p5⟩ := kids_small HT6.out.ok HDZ.out (k + 1)
        obtain ⟨cc, hcc⟩ : ∃ cc, cc = cntL (kidsAt L d k) := ⟨_, rfl⟩
        obtain ⟨ce, hce⟩ : ∃ ce, ce = cntL (atP L ek.path) := ⟨_, rfl⟩
        obtain ⟨r1, r2, r3, r4⟩ := cnt_le HT6.out.ok ek.path
        have HCN := Lib.hid (show cntL (kidsAt L d (k + 1)) = addC cc ce by rw [kidsAt_step HKK.out, cnt_app, hcc, hce])
        rw [← hcc] at d0 d1 d2 d3 m1 m2 m3 m4
        rw [← hce] at r1 r2 r3 r4 ⊢
        clear p1 p2 p3 p4 p5 hcc hce
        go_upto_region 22 with (fail)
        obtain ⟨W4, hW4⟩ : ∃ W4, W4 = ((((W3.setCell ⟨sb, 0, none⟩ (.int .i64 (cc.files + ce.files))).setCell ⟨sb, 1, none⟩ (.int .i64 (cc.dirs + ce.dirs))).setCell ⟨sb, 2, none⟩ (.int .i64 (cc.links + ce.links))).setCell ⟨sb, 3, none⟩ (.int .i64 (cc.bytes + ce.bytes))) := ⟨_, rfl⟩
        rw [← hW4]
        have HS4 := Lib.hid (show SumK w6 w6.heap.size sb (cntL (kidsAt L d (k + 1))) Ds w.heap.size pre W4 by
          rw [hW4]
          refine HS3.out.set4 HSB.out ?_ ?_ ?_ ?_ <;> (rw [HCN.out]; simp [addC]))
        have hcc : W4.cell? ⟨wr.heap.size, 0, none⟩ = some (.string ek.path) := by
          have hne : wr.heap.size ≠ sb := fun e => by have h1 := lt20 HSR.out.sum; omega
          rw [hW4]
          exact cell20 (setOther20 (setOther20 (setOther20 (setOther20 HX3.out hne _) hne _) hne _) hne _)
        have HB4 := Lib.hid HS4.out.coll.2
        have HT4 := Lib.hid (TreeAt.below (show TreeAt (newF (B + 2) w6) w6 (B + 1) B L from HT6.out) HB4.out)
        clear hW4 c0 d0 d1 d2 d3 f0 f1 f2 f3 m1 m2 m3 m4 r1 r2 r3 r4
        have hlx : wr.heap.size < W4.heap.size := block_lt hcc
        go_wp2_with fail
        refine (walk_any2 (B + 1) ek.path _).mono ?_
        rintro e W5 ⟨rfl, hw1, hw2, hb5, hs5⟩
        have HU1 := Lib.hid hw1
        have HU2 := Lib.hid hw2
        have HS5 := Lib.hid (HS4.out.below HB4.out.size hb5)
        have HT5 := Lib.hid (HT4.out.below hb5)
        have HW5 := Lib.hid hb5.size
        clear hw1 hw2 hb5 hs5 hcc hlx
        go_wp2_with fail
        have hpl : pre.length ≤ 4096 := by
          have h1 := congrArg List.length HPR.out
          rw [List.length_map] at h1
          omega
        have h65 := HS5.out.coll.2.size
        have hOI : OwnFrom W5.heap.size (fun (xs : List VEnt) W => CollI w6.heap.size w6.heap.size w6 (pre ++ xs) W ∧ KeepE W5 W) := fun xs X Y row h hg hr => ⟨collI_own h65 (Nat.le_refl _) (pre ++ xs) X Y row h.1 hg hr, h.2.turn hg (fun r e => (hr r e).1)⟩
        have hLT := HLT3.out
        have hS6 := HS6.out
        obtain ⟨hty, ⟨i0, z0, hi1, hi2, hi3, hi4, hi5⟩, -, -⟩ := Tryd.appEnts
        refine wp_rangeB (gf := 48) (lb := #[.pointer (some ⟨W4.heap.size, 0, none⟩), .pointer (some ⟨W4.heap.size + 1, 0, none⟩)]) rfl (enters_of Tryd.func48 (by kernel_rfl) rfl)
          (walk_seq2 (newF (B + 2) w6) (B + 1) B L ek.path W4.heap.size (W4.heap.size + 1) W5 HT5.out HPS.out HU1.out HU2.out) wKeep_t (wKeep_b HT5.out) (fun _ => rfl)
          (fun xs W => CollI w6.heap.size w6.heap.size w6 (pre ++ xs) W ∧ KeepE W5 W) (fun _ _ _ => False) 20
          (fun xs x b W => (CollI w6.heap.size w6.heap.size w6 (pre ++ xs) W ∧ KeepE W5 W) ∧ EntNew w6.heap.size x W ∧ xs.length < 4096 ∧ W.heap[b]? = some (.cells #[.string x.2.path, .int .i64 x.2.kind, .int .i64 x.2.mode, .int .i64 x.2.time, x.1, .string x.2.link] 36 (0, 0)))
          hOI (fun _ _ _ _ _ h _ _ => h) ?own ⟨by rw [List.append_nil]; exact HS5.out.coll, KeepE.refl _⟩ ?assign ?body ?done ?stop
        case own =>
          rintro ⟨xs, x, b⟩ X Y row ⟨h1, h2, h3, h4⟩ hg hr
          refine ⟨hOI xs X Y row h1 hg hr, ent_turn h2 hg (fun r e => (hr r e).2), h3, (hg.block b (Array.getElem?_eq_some_iff.1 h4).1 (fun e' => ?_)).trans h4⟩
          obtain ⟨_, ob, ho, hc⟩ := hr b e'.symm
          rw [h4] at ho; cases ho; cases hc
        case assign =>
          rintro l' xs ⟨v, e⟩ X hX hI hD hN
          obtain ⟨a', c', hv, -, -⟩ := owns_shape hD.1
          simp only at hv
          subst hv
          have hbw : Below X.heap.size X (X.alloc (.cells #[.string e.path, .int .i64 e.kind, .int .i64 e.mode, .int .i64 e.time, .slice a' e.data.length c', .string e.link] 36)) := (Below.refl _ _).alloc (Nat.le_refl _) _
          simp only [entV]
          gi_wp2
          refine ⟨KeepsOthers.alloc _ _, wKeep_below hbw, X.heap.size, ⟨hOI.alloc _ hI, ⟨owns_le20 (own_below hD.1 hbw) h65, hD.2⟩, hN, new20 X _⟩, ?_⟩
          kernel_rfl
        case body =>
          rintro l' xs ⟨v0, e⟩ b X ⟨⟨hC, hKE⟩, hD, hN, hb⟩
          obtain ⟨M, hM⟩ : ∃ M, M = pre ++ xs := ⟨_, rfl⟩
          have hln : M.length ≤ 8192 := by rw [hM, List.length_append]; omega
          have HM := Lib.hid hM
          rw [← hM] at hC
          obtain ⟨⟨vb, hvb, hrow, hdat⟩, hBX⟩ := hC
          obtain ⟨a', c', hv0, -, -⟩ := owns_shape hD.1
          simp only at hv0
          subst hv0
          simp only at hb
          have c0 := cell20 (k := 0) hb
          have c1 := cell20 (k := 1) hb
          have c2 := cell20 (k := 2) hb
          have c3 := cell20 (k := 3) hb
          have c4 := cell20 (k := 4) hb
          have c5 := cell20 (k := 5) hb
          simp only [List.getElem?_toArray, List.getElem?_cons_succ, List.getElem?_cons_zero] at c0 c1 c2 c3 c4 c5
          have hcb := hvb.cell
          simp only [entV]
          clear hM
          gi_wp2_with (gi_at_builtin; refine wpListIn_append_own _ rfl _ _ 22 rfl w6.heap.size 36 i0 z0 6 80 hty hi1 hi2 hi3 hi4 hi5 (by decide) _ _ _ rfl (hrow.alloc _) ⟨X.heap.size, 0, none⟩ 1 1 (entC (.slice a' e.data.length c') e) rfl rfl (cells_new X _ _) entC_one (by unfold maxLen; omega) (by omega) (by have := hBX.size; simp; omega) ?_; intro v' w1 hown' hgrow _; obtain ⟨g', cap', rfl⟩ := ownsRow_succ hown'; obtain ⟨hv1, -, -, -, -⟩ := hvb.appended (by decide) hrow hBX.size (Nat.le_refl _) hown' hgrow; have hc1 := hv1.cell; have hf1 := hv1.frozen)
          obtain ⟨hk1, hwk, hci, hke⟩ := coll_app (S := newF (B + 2) w6) (tb := B + 1) (mb := B) (b1 := W4.heap.size) (L := L) hBX (Nat.le_refl _) (Nat.le_refl _) ⟨by omega, by omega⟩ (fun k hk => hk.2) hvb hrow hdat hD hown' hgrow
          exact ⟨hk1, hwk, ⟨by rw [← List.append_assoc, ← HM.out]; exact hci, hKE.trans hke⟩⟩
        case done =>
          rintro Dl ys W hDl hS ⟨hC, hKE⟩ hK
          have hS6' := HS5.out.step hC hKE
          have hmm := hS6'.marks.more (fun E hE => Nat.lt_of_lt_of_le (HS5.out.marks.lt E hE) hDl) hK (by have := HB6.out.size; omega)
          have HSN := Lib.hid (show SumK w6 w6.heap.size sb (cntL (kidsAt L d (k + 1))) (Dl :: Ds) w.heap.size (pre ++ ys) W from ⟨hC, hS6'.sum, hmm⟩)
          clear hC hKE hK hS6' hmm
          go_wp2_with fail
          refine ⟨⟨k + 1, pre ++ ys, Dl :: Ds, ⟨by omega, HSN.out, ?_⟩, rfl, rfl, rfl, rfl, rfl, rfl, rfl, rfl, rfl⟩, ?_⟩
          · rw [List.map_append, HPR.out, hS, kidsAt_step HKK.out, List.append_assoc]
          · simp [intOf]; omega
        case stop =>
          rintro Dl c xs W _ _ h _
          exact h.elim
      · have hkn : k = nk := by omega
        have hkd : k = (kidsE L d).length := by rw [hkn]; exact HNK.out
        have HKD := Lib.hid hkd
        clear hkd
        obtain ⟨cc, hcc⟩ : ∃ cc, cc = cntL (kidsAt L d k) := ⟨_, rfl⟩
        have hsr := HSR.out
        rw [← hcc] at hsr
        have HSQ := Lib.hid hsr
        have HCC := Lib.hid hcc
        obtain ⟨m1, m2, m3, m4, m5⟩ := kids_small HT6.out.ok HDZ.out k
        rw [← hcc] at m2
        clear hcc hsr m1 m3 m4
        have d1 := cell20 (k := 1) HSQ.out.sum
        simp only [List.getElem?_toArray, List.getElem?_cons_succ, List.getElem?_cons_zero] at d1
        have f1 := frozen20 (k := 1) HSQ.out.sum
        have HKS2 := Lib.hid (kids_sum HT6.out.ok HDZ.out)
        by_cases hd0 : bl d = []
        · have e0 : d.toList.isEmpty = true := by rw [empty20, decide_eq_true hd0]
          have e2 : (!d.toList.isEmpty) = false := by simp [e0]
          have HSF := Lib.hid (show SumK w6 w6.heap.size sb (cntL (atP L d)) Ds w.heap.size pre wr by
            rw [HKS2.out, if_pos (size_zero.2 hd0), ← HKD.out, ← HCC.out]
            exact HSQ.out)
          clear hd0 d1 f1 m2
          go_upto_region 28 with (fail)
          have HBU := Lib.hid HSF.out.coll.2
          have HTU := Lib.hid (TreeAt.below (show TreeAt (newF (B + 2) w6) w6 (B + 1) B L from HT6.out) HBU.out)
          go_wp2_with fail
          refine (size_any (newF (B + 2) w6) (B + 1) B L d _ HTU.out HD.out).mono ?_
          rintro e U1 ⟨rfl, hb1⟩
          have HS1 := Lib.hid (HSF.out.below HBU.out.size hb1)
          have HT1 := Lib.hid (HTU.out.below hb1)
          have HB1' := Lib.hid (HBU.out.trans (hb1.mono HBU.out.size))
          clear hb1
          obtain ⟨cz, hcz⟩ : ∃ cz, cz = cntL (atP L d) := ⟨_, rfl⟩
          have HCZ := Lib.hid hcz
          rw [← hcz]
          clear hcz
          go_upto_region 30 with (fail)
          obtain ⟨U2, hU2⟩ : ∃ U2, U2 = U1.alloc (.cells #[.slice none 0 0] 22) := ⟨_, rfl⟩
          rw [← hU2]
          have HBX2 := Lib.hid (show Boxed U2 U1.heap.size 22 (.slice none 0 0) by rw [hU2]; exact Boxed.new U1 _ _)
          have HB2' := Lib.hid (show Below U1.heap.size U1 U2 by rw [hU2]; exact (Below.refl _ _).alloc (Nat.le_refl _) _)
          clear hU2
          go_wp2_with fail
          refine (walk_any2 (B + 1) d _).mono ?_
          rintro e U3 ⟨rfl, hw1, hw2, hb3, hs3⟩
          have HU1 := Lib.hid hw1
          have HU2 := Lib.hid hw2
          have HB3' := Lib.hid (show Below U1.heap.size U1 U3 from HB2'.out.trans (hb3.mono HB2'.out.size))
          have HBX3 := Lib.hid (boxed_below HBX2.out hb3)
          have HT3' := Lib.hid (HT1.out.below HB3'.out)
          have h63 := HB3'.out.size
          have h61 := HB1'.out.size
          clear hw1 hw2 hb3 hs3
          go_wp2_with fail
          have hLT := HLT3.out
          have hS6 := HS6.out
          obtain ⟨hty, ⟨i0, z0, hi1, hi2, hi3, hi4, hi5⟩, -, -⟩ := Tryd.appEnts
          have hOI : OwnFrom U3.heap.size (fun (xs : List VEnt) W => CollI U1.heap.size U1.heap.size U1 xs W) := collI_own (by omega) (Nat.le_refl _)
          refine wp_rangeB (gf := 48) (lb := #[.pointer (some ⟨U2.heap.size, 0, none⟩), .pointer (some ⟨U2.heap.size + 1, 0, none⟩)]) rfl (enters_of Tryd.func48 (by kernel_rfl) rfl)
            (walk_seq2 (newF (B + 2) w6) (B + 1) B L d U2.heap.size (U2.heap.size + 1) U3 HT3'.out HD.out HU1.out HU2.out) wKeep_t (wKeep_b HT3'.out) (fun _ => rfl)
            (fun xs W => CollI U1.heap.size U1.heap.size U1 xs W) (fun _ _ _ => False) 26
            (fun xs x b W => CollI U1.heap.size U1.heap.size U1 xs W ∧ EntNew U1.heap.size x W ∧ xs.length < 4096 ∧ W.heap[b]? = some (.cells #[.string x.2.path, .int .i64 x.2.kind, .int .i64 x.2.mode, .int .i64 x.2.time, x.1, .string x.2.link] 36 (0, 0)))
            hOI (fun _ _ _ _ _ h _ _ => h) ?own ⟨⟨_, HBX3.out, World.ownsRow_nil _ _ _ _, by simp⟩, HB3'.out⟩ ?assign ?body ?done ?stop
          case own =>
            rintro ⟨xs, x, b⟩ X Y row ⟨h1, h2, h3, h4⟩ hg hr
            refine ⟨hOI xs X Y row h1 hg hr, ent_turn h2 hg (fun r e => (hr r e).2), h3, (hg.block b (Array.getElem?_eq_some_iff.1 h4).1 (fun e' => ?_)).trans h4⟩
            obtain ⟨_, ob, ho, hc⟩ := hr b e'.symm
            rw [h4] at ho; cases ho; cases hc
          case assign =>
            rintro l' xs ⟨v, e⟩ X hX hI hD hN
            obtain ⟨a', c', hv, -, -⟩ := owns_shape hD.1
            simp only at hv
            subst hv
            have hbw : Below X.heap.size X (X.alloc (.cells #[.string e.path, .int .i64 e.kind, .int .i64 e.mode, .int .i64 e.time, .slice a' e.data.length c', .string e.link] 36)) := (Below.refl _ _).alloc (Nat.le_refl _) _
            simp only [entV]
            gi_wp2
            refine ⟨KeepsOthers.alloc _ _, wKeep_below hbw, X.heap.size, ⟨hOI.alloc _ hI, ⟨owns_le20 (own_below hD.1 hbw) h63, hD.2⟩, hN, new20 X _⟩, ?_⟩
            kernel_rfl
          case body =>
            rintro l' xs ⟨v0, e⟩ b X ⟨hC, hD, hN, hb⟩
            obtain ⟨⟨vb, hvb, hrow, hdat⟩, hBX⟩ := hC
            obtain ⟨a', c', hv0, -, -⟩ := owns_shape hD.1
            simp only at hv0
            subst hv0
            simp only at hb
            have c0 := cell20 (k := 0) hb
            have c1 := cell20 (k := 1) hb
            have c2 := cell20 (k := 2) hb
            have c3 := cell20 (k := 3) hb
            have c4 := cell20 (k := 4) hb
            have c5 := cell20 (k := 5) hb
            simp only [List.getElem?_toArray, List.getElem?_cons_succ, List.getElem?_cons_zero] at c0 c1 c2 c3 c4 c5
            have hcb := hvb.cell
            simp only [entV]
            gi_wp2_with (gi_at_builtin; refine wpListIn_append_own _ rfl _ _ 22 rfl U1.heap.size 36 i0 z0 6 80 hty hi1 hi2 hi3 hi4 hi5 (by decide) _ _ _ rfl (hrow.alloc _) ⟨X.heap.size, 0, none⟩ 1 1 (entC (.slice a' e.data.length c') e) rfl rfl (cells_new X _ _) entC_one (by unfold maxLen; omega) (by omega) (by have := hBX.size; simp; omega) ?_; intro v' w1 hown' hgrow _; obtain ⟨g', cap', rfl⟩ := ownsRow_succ hown'; obtain ⟨hv1, -, -, -, -⟩ := hvb.appended (by decide) hrow hBX.size (Nat.le_refl _) hown' hgrow; have hc1 := hv1.cell; have hf1 := hv1.frozen)
            obtain ⟨hk1, hwk, hci, hke⟩ := coll_app (S := newF (B + 2) w6) (tb := B + 1) (mb := B) (b1 := U2.heap.size) (L := L) hBX (Nat.le_refl _) (Nat.le_refl _) ⟨by omega, by omega⟩ (fun k hk => Nat.lt_of_lt_of_le hk.2 h61) hvb hrow hdat hD hown' hgrow
            exact ⟨hk1, hwk, hci⟩
          case done =>
            rintro Dl ys W hDl hS ⟨⟨vb, hvb, hrow, hdat⟩, hBW⟩ hK
            have HS2 := Lib.hid (show SumK w6 w6.heap.size sb cz Ds w.heap.size pre W by rw [HCZ.out]; exact HS1.out.below (by omega) hBW)
            have hmm := HS2.out.marks.more (fun E hE => by have h1 := HS1.out.marks.lt E hE; omega) hK (by have := HB6.out.size; omega)
            have HMM := Lib.hid hmm
            have HBW := Lib.hid hBW
            have HBWZ := Lib.hid (HB6.out.trans ((HB1'.out.trans (hBW.mono HB1'.out.size)).mono HB6.out.size))
            obtain ⟨⟨vo, hvo, hrwo, hdo⟩, -⟩ := HS2.out.coll
            have HE1 := Lib.hid (show EntsAt (fun k => U1.heap.size ≤ k ∧ k < W.heap.size) W vb (ys.map Prod.snd) from Gathered.seq ⟨ys, rfl, hrow, hdat⟩)
            have HE2 := Lib.hid (show EntsAt (fun k => w6.heap.size ≤ k ∧ k < W.heap.size) W vo (pre.map Prod.snd) from Gathered.seq ⟨pre, rfl, hrwo, hdo⟩)
            have HEQ := Lib.hid (show ys.map Prod.snd = pre.map Prod.snd by rw [hS, HPR.out, HKD.out, kidsAt_all HT6.out.ok HDZ.out])
            have hcb := hvb.cell
            have hco := hvo.cell
            have d0 := cell20 (k := 0) HS2.out.sum
            have d1 := cell20 (k := 1) HS2.out.sum
            have d2 := cell20 (k := 2) HS2.out.sum
            have d3 := cell20 (k := 3) HS2.out.sum
            simp only [List.getElem?_toArray, List.getElem?_cons_succ, List.getElem?_cons_zero] at d0 d1 d2 d3
            clear hK hS hmm hvb hvo hrow hrwo hdat hdo hBW
            have heq : (Op.equalIn 10000 50 (.agg #[.int .i64 cz.files, .int .i64 cz.dirs, .int .i64 cz.links, .int .i64 cz.bytes]) (.agg #[.int .i64 cz.files, .int .i64 cz.dirs, .int .i64 cz.links, .int .i64 cz.bytes])).run Tryd.prog W = .ok true W := by
              have h1 := eq4 cz cz W
              rw [decide_eq_true rfl] at h1
              exact h1
            go_wp2_with fail
            refine (r_sameall_any _ _ _ _ _ _ _ HE1.out HE2.out).mono ?_
            rintro e WE ⟨rfl, hbe⟩
            rw [HEQ.out, decide_eq_true rfl]
            have HME := Lib.hid (HMM.out.keep (KeepE.below hbe))
            have HBE := Lib.hid (below_next HBWZ.out hbe)
            clear hbe heq d0 d1 d2 d3 hcb hco
            go_wp2_with fail
            exact leaves_marks (Nat.le_refl _) (Dl :: Ds) WE HME.out HBE.out (fun W' hb => ⟨_, results_tmp rfl _ _ _, rfl, hb⟩)
          case stop =>
            rintro Dl c xs W _ _ h _
            exact h.elim
        · have e0 : d.toList.isEmpty = false := by rw [empty20, decide_eq_false hd0]
          have e2 : (!d.toList.isEmpty) = true := by simp [e0]
          go_upto_region 28 with (fail)
          obtain ⟨U, hU⟩ : ∃ U, U = wr.setCell ⟨sb, 1, none⟩ (.int .i64 (cc.dirs + 1)) := ⟨_, rfl⟩
          rw [← hU]
          have HSF := Lib.hid (show SumK w6 w6.heap.size sb (cntL (atP L d)) Ds w.heap.size pre U by
            rw [HKS2.out, if_neg (fun h => hd0 (size_zero.1 h)), ← HKD.out, ← HCC.out, hU]
            exact HSQ.out.set1 HSB.out rfl)
          clear hd0 d1 f1 m2 hU
          have HBU := Lib.hid HSF.out.coll.2
          have HTU := Lib.hid (TreeAt.below (show TreeAt (newF (B + 2) w6) w6 (B + 1) B L from HT6.out) HBU.out)
          go_wp2_with fail
          refine (size_any (newF (B + 2) w6) (B + 1) B L d _ HTU.out HD.out).mono ?_
          rintro e U1 ⟨rfl, hb1⟩
          have HS1 := Lib.hid (HSF.out.below HBU.out.size hb1)
          have HT1 := Lib.hid (HTU.out.below hb1)
          have HB1' := Lib.hid (HBU.out.trans (hb1.mono HBU.out.size))
          clear hb1
          obtain ⟨cz, hcz⟩ : ∃ cz, cz = cntL (atP L d) := ⟨_, rfl⟩
          have HCZ := Lib.hid hcz
          rw [← hcz]
          clear hcz
          go_upto_region 30 with (fail)
          obtain ⟨U2, hU2⟩ : ∃ U2, U2 = U1.alloc (.cells #[.slice none 0 0] 22) := ⟨_, rfl⟩
          rw [← hU2]
          have HBX2 := Lib.hid (show Boxed U2 U1.heap.size 22 (.slice none 0 0) by rw [hU2]; exact Boxed.new U1 _ _)
          have HB2' := Lib.hid (show Below U1.heap.size U1 U2 by rw [hU2]; exact (Below.refl _ _).alloc (Nat.le_refl _) _)
          clear hU2
          go_wp2_with fail
          refine (walk_any2 (B + 1) d _).mono ?_
          rintro e U3 ⟨rfl, hw1, hw2, hb3, hs3⟩
          have HU1 := Lib.hid hw1
          have HU2 := Lib.hid hw2
          have HB3' := Lib.hid (show Below U1.heap.size U1 U3 from HB2'.out.trans (hb3.mono HB2'.out.size))
          have HBX3 := Lib.hid (boxed_below HBX2.out hb3)
          have HT3' := Lib.hid (HT1.out.below HB3'.out)
          have h63 := HB3'.out.size
          have h61 := HB1'.out.size
          clear hw1 hw2 hb3 hs3
          go_wp2_with fail
          have hLT := HLT3.out
          have hS6 := HS6.out
          obtain ⟨hty, ⟨i0, z0, hi1, hi2, hi3, hi4, hi5⟩, -, -⟩ := Tryd.appEnts
          have hOI : OwnFrom U3.heap.size (fun (xs : List VEnt) W => CollI U1.heap.size U1.heap.size U1 xs W) := collI_own (by omega) (Nat.le_refl _)
          refine wp_rangeB (gf := 48) (lb := #[.pointer (some ⟨U2.heap.size, 0, none⟩), .pointer (some ⟨U2.heap.size + 1, 0, none⟩)]) rfl (enters_of Tryd.func48 (by kernel_rfl) rfl)
            (walk_seq2 (newF (B + 2) w6) (B + 1) B L d U2.heap.size (U2.heap.size + 1) U3 HT3'.out HD.out HU1.out HU2.out) wKeep_t (wKeep_b HT3'.out) (fun _ => rfl)
            (fun xs W => CollI U1.heap.size U1.heap.size U1 xs W) (fun _ _ _ => False) 26
            (fun xs x b W => CollI U1.heap.size U1.heap.size U1 xs W ∧ EntNew U1.heap.size x W ∧ xs.length < 4096 ∧ W.heap[b]? = some (.cells #[.string x.2.path, .int .i64 x.2.kind, .int .i64 x.2.mode, .int .i64 x.2.time, x.1, .string x.2.link] 36 (0, 0)))
            hOI (fun _ _ _ _ _ h _ _ => h) ?own ⟨⟨_, HBX3.out, World.ownsRow_nil _ _ _ _, by simp⟩, HB3'.out⟩ ?assign ?body ?done ?stop
          case own =>
            rintro ⟨xs, x, b⟩ X Y row ⟨h1, h2, h3, h4⟩ hg hr
            refine ⟨hOI xs X Y row h1 hg hr, ent_turn h2 hg (fun r e => (hr r e).2), h3, (hg.block b (Array.getElem?_eq_some_iff.1 h4).1 (fun e' => ?_)).trans h4⟩
            obtain ⟨_, ob, ho, hc⟩ := hr b e'.symm
            rw [h4] at ho; cases ho; cases hc
          case assign =>
            rintro l' xs ⟨v, e⟩ X hX hI hD hN
            obtain ⟨a', c', hv, -, -⟩ := owns_shape hD.1
            simp only at hv
            subst hv
            have hbw : Below X.heap.size X (X.alloc (.cells #[.string e.path, .int .i64 e.kind, .int .i64 e.mode, .int .i64 e.time, .slice a' e.data.length c', .string e.link] 36)) := (Below.refl _ _).alloc (Nat.le_refl _) _
            simp only [entV]
            gi_wp2
            refine ⟨KeepsOthers.alloc _ _, wKeep_below hbw, X.heap.size, ⟨hOI.alloc _ hI, ⟨owns_le20 (own_below hD.1 hbw) h63, hD.2⟩, hN, new20 X _⟩, ?_⟩
            kernel_rfl
          case body =>
            rintro l' xs ⟨v0, e⟩ b X ⟨hC, hD, hN, hb⟩
            obtain ⟨⟨vb, hvb, hrow, hdat⟩, hBX⟩ := hC
            obtain ⟨a', c', hv0, -, -⟩ := owns_shape hD.1
            simp only at hv0
            subst hv0
            simp only at hb
            have c0 := cell20 (k := 0) hb
            have c1 := cell20 (k := 1) hb
            have c2 := cell20 (k := 2) hb
            have c3 := cell20 (k := 3) hb
            have c4 := cell20 (k := 4) hb
            have c5 := cell20 (k := 5) hb
            simp only [List.getElem?_toArray, List.getElem?_cons_succ, List.getElem?_cons_zero] at c0 c1 c2 c3 c4 c5
            have hcb := hvb.cell
            simp only [entV]
            gi_wp2_with (gi_at_builtin; refine wpListIn_append_own _ rfl _ _ 22 rfl U1.heap.size 36 i0 z0 6 80 hty hi1 hi2 hi3 hi4 hi5 (by decide) _ _ _ rfl (hrow.alloc _) ⟨X.heap.size, 0, none⟩ 1 1 (entC (.slice a' e.data.length c') e) rfl rfl (cells_new X _ _) entC_one (by unfold maxLen; omega) (by omega) (by have := hBX.size; simp; omega) ?_; intro v' w1 hown' hgrow _; obtain ⟨g', cap', rfl⟩ := ownsRow_succ hown'; obtain ⟨hv1, -, -, -, -⟩ := hvb.appended (by decide) hrow hBX.size (Nat.le_refl _) hown' hgrow; have hc1 := hv1.cell; have hf1 := hv1.frozen)
            obtain ⟨hk1, hwk, hci, hke⟩ := coll_app (S := newF (B + 2) w6) (tb := B + 1) (mb := B) (b1 := U2.heap.size) (L := L) hBX (Nat.le_refl _) (Nat.le_refl _) ⟨by omega, by omega⟩ (fun k hk => Nat.lt_of_lt_of_le hk.2 h61) hvb hrow hdat hD hown' hgrow
            exact ⟨hk1, hwk, hci⟩
          case done =>
            rintro Dl ys W hDl hS ⟨⟨vb, hvb, hrow, hdat⟩, hBW⟩ hK
            have HS2 := Lib.hid (show SumK w6 w6.heap.size sb cz Ds w.heap.size pre W by rw [HCZ.out]; exact HS1.out.below (by omega) hBW)
            have hmm := HS2.out.marks.more (fun E hE => by have h1 := HS1.out.marks.lt E hE; omega) hK (by have := HB6.out.size; omega)
            have HMM := Lib.hid hmm
            have HBW := Lib.hid hBW
            have HBWZ := Lib.hid (HB6.out.trans ((HB1'.out.trans (hBW.mono HB1'.out.size)).mono HB6.out.size))
            obtain ⟨⟨vo, hvo, hrwo, hdo⟩, -⟩ := HS2.out.coll
            have HE1 := Lib.hid (show EntsAt (fun k => U1.heap.size ≤ k ∧ k < W.heap.size) W vb (ys.map Prod.snd) from Gathered.seq ⟨ys, rfl, hrow, hdat⟩)
            have HE2 := Lib.hid (show EntsAt (fun k => w6.heap.size ≤ k ∧ k < W.heap.size) W vo (pre.map Prod.snd) from Gathered.seq ⟨pre, rfl, hrwo, hdo⟩)
            have HEQ := Lib.hid (show ys.map Prod.snd = pre.map Prod.snd by rw [hS, HPR.out, HKD.out, kidsAt_all HT6.out.ok HDZ.out])
            have hcb := hvb.cell
            have hco := hvo.cell
            have d0 := cell20 (k := 0) HS2.out.sum
            have d1 := cell20 (k := 1) HS2.out.sum
            have d2 := cell20 (k := 2) HS2.out.sum
            have d3 := cell20 (k := 3) HS2.out.sum
            simp only [List.getElem?_toArray, List.getElem?_cons_succ, List.getElem?_cons_zero] at d0 d1 d2 d3
            clear hK hS hmm hvb hvo hrow hrwo hdat hdo hBW
            have heq : (Op.equalIn 10000 50 (.agg #[.int .i64 cz.files, .int .i64 cz.dirs, .int .i64 cz.links, .int .i64 cz.bytes]) (.agg #[.int .i64 cz.files, .int .i64 cz.dirs, .int .i64 cz.links, .int .i64 cz.bytes])).run Tryd.prog W = .ok true W := by
              have h1 := eq4 cz cz W
              rw [decide_eq_true rfl] at h1
              exact h1
            go_wp2_with fail
            refine (r_sameall_any _ _ _ _ _ _ _ HE1.out HE2.out).mono ?_
            rintro e WE ⟨rfl, hbe⟩
            rw [HEQ.out, decide_eq_true rfl]
            have HME := Lib.hid (HMM.out.keep (KeepE.below hbe))
            have HBE := Lib.hid (below_next HBWZ.out hbe)
            clear hbe heq d0 d1 d2 d3 hcb hco
            go_wp2_with fail
            exact leaves_marks (Nat.le_refl _) (Dl :: Ds) WE HME.out HBE.out (fun W' hb => ⟨_, results_tmp rfl _ _ _, rfl, hb⟩)
          case stop =>
            rintro Dl c xs W _ _ h _
            exact h.elim


end Go.Proofs.YtbkhdpocmmjnbaaDoor

/- FiletreeSums: for every input the law returns true, and each argument reads afterwards as it read before (the tied card). -/
namespace Go.Proofs.YtbkhdpocmmjnbaaDoor
open Go.ChangeShapes Go.WideShapes Go.ChangeAt Go.RowKit Go.Lib Go.Shelf
open Go.ChangeMaps (open_string shut_string)

namespace CSums
set_option maxRecDepth 100000 in
theorem lifted (os : Os) (started : os.Started) (H : Type) (enc : TypeId × Value → H) :
    ReturnsInHanded {} Tryd.checked os 6 .any (fun w args => (Rows.filetreeSumsSpec.pre enc Tryd.prog Tryd.f6 [] false w args ∧ laidMetH Tryd.prog laidL w) ∧ sizedMet enc Tryd.prog Tryd.f6 (OpenSpec.ofChange Rows.filetreeSumsSpec) false w args)
      (Rows.filetreeSumsSpec.post enc Tryd.prog Tryd.f6 false true false false) := by
  refine handed (C := Tryd.checked) (X := fun w _ => laidMetH Tryd.prog laidL w) (fun _ _ _ hh h => h.of_heap hh) own started (by kernel_rfl) Tryd.func6
    (ChangeSpec.witness_shaped (enc := enc) (C := Tryd.checked) (os := os) (X := fun w _ => laidMetH Tryd.prog laidL w) false (World.laidAll Tryd.prog os laidL) #[.slice none 0 0, .string ⟨#[]⟩] 8 (World.laidAll_os _ _ _)
      (World.shaped_of_ZipB (by kernel_rfl) (by kernel_rfl)) (by kernel_rfl) (by kernel_rfl) (by kernel_rfl)
      (by rw [MakeChecks.laidMetH_plain _ _ _ (by kernel_rfl)]; exact laidMet_laidAll _ (by kernel_rfl) (by kernel_rfl))) ?_
  intro W base args ds gs before hval0 hW _hWt hL hsh
  have hval : ∀ (j : Nat) t v, Tryd.f6.params[j]? = some t → args[j]? = some v → Value.okWide Tryd.prog W .any base t v := hval0
  have hW' := hW
  obtain ⟨p, q, hA0, hV, rfl, _, _⟩ := hW
  have hA : DataW.TrodAll enc Tryd.prog W 0 (fun _ => true) true Tryd.f6.params.toList args.toList ds p := hA0
  rw [Tryd.params6] at hA hval
  obtain ⟨rfl, rfl⟩ := trodVars_none hV
  simp only [List.append_nil] at hW'
  obtain ⟨v0, v1, d0, d1, p0, p1, rfl, rfl, rfl, h0, h1⟩ := trodAll_two hA
  obtain ⟨l, hl⟩ := open_ops (hval 0 33 v0 rfl rfl) h0
  obtain ⟨q1, rfl, rfl, rfl, w1⟩ := open_string Tryd.underlying9 (hval 1 9 v1 rfl rfl) h1
  have hlt0 : ∀ x ∈ p0, x.block < W.heap.size := fun x hx => by simpa using hW'.lt x (by simp [hx])
  refine (sums_walk l v0 q1 W hl w1 (env_of hL hsh)).mono fun e W' ⟨he, hb⟩ => ?_
  subst he
  exact ⟨_, rfl, _, _, _, [], _, [], hW', trodAll_mk1 (shut_bool Tryd.underlying4 _), trodAll_mk2 (Below.trod laidOut (by kernel_rfl) (of_decide_eq_true (by kernel_rfl)) h0 hb hlt0) (shut_string Tryd.underlying9 w1), rfl, hb.frame _, fun h => by cases h⟩
theorem holds : Rows.FiletreeSumsSaid :=
  OpenClaim.holds_of_wide 6 Tryd.f6 rfl rfl rfl rfl rfl rfl rfl ⟨rfl, rfl, rfl, rfl, rfl⟩ rfl rfl rfl rfl rfl (by kernel_rfl) Tryd.func6 (by kernel_rfl)
    (of_decide_eq_true (by kernel_rfl)) (by unfold Func.isWrapper; first | (rw [if_pos (by decide +kernel)]; kernel_rfl) | (rw [if_neg (by decide +kernel)]; exact ⟨rfl, rfl⟩))
    (fun os started H enc _ => lifted os started H enc)
theorem card_holds : Rows.FiletreeSumsCardSaid :=
  Claim7.holds_tied_plain_at .later [] [.data, .pinned] true (true, "1e330c748a24b17595aadf72b64a83374ff5931bb575de300cc11a52c67695f6") false holds (fun _ h => by cases h) (by kernel_rfl) (fun _ h => by cases h) filetreeSums_row_tie rfl ⟨rfl, rfl⟩ (by kernel_rfl) rfl
    (fun f fn hf hfn => by
      obtain rfl : f = 6 := Option.some.inj ((show Tryd.prog.funcNamed "kinkeep/kinkeeplaw20.FiletreeSums" = some 6 by kernel_rfl).symm.trans hf) |>.symm
      obtain rfl : fn = Tryd.f6 := (Option.some.inj (Tryd.func6.symm.trans hfn)).symm
      exact ⟨by kernel_rfl, fun j t ht => by
        rw [Tryd.params6] at ht
        have hm : t ∈ [33, 9] := by simpa using Array.mem_of_getElem? ht
        have hall : ([33, 9].all fun u => !Tryd.prog.wantsStandIn u) = true := by kernel_rfl
        exact (show Tryd.prog.wantsStandIn t = false by simpa using List.all_eq_true.1 hall t hm)⟩)
    (by kernel_rfl)
#print axioms card_holds
end CSums
theorem filetreeSums_card : Rows.FiletreeSumsCardSaid := CSums.card_holds
end Go.Proofs.YtbkhdpocmmjnbaaDoor
