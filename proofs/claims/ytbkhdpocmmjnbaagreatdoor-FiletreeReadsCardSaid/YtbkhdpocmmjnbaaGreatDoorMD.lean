/- Texts of this proof, one after the other: RfC, AwT, Ops, Play, Large, FrT, OpT, PathC, RefA, RefB, RfD, RfE, RfF, RcT, RfG, RfH, RfI, RowE, Opr. -/
import Derived.Test.YtbkhdpocmmjnbaaGreatDoorMC
import Derived.ProofKit
import Derived.Carry
import Derived.Lay
import Derived.PinnedBridge
import Derived.Lib.LaidU8T
import Derived.SevenTiedAt
import Derived.HandedShaped
import Derived.Shelf.Vars
import Derived.Test.YtbkhdpocmmjnbaaGreatDoorTie
import Derived.Test.YtbkhdpocmmjnbaaGreatDoorCards
import Derived.Laws.Cover4
/- Contracts of the specification kinkeepref20: SameAll. -/
namespace Go.Proofs.YtbkhdpocmmjnbaaGreatDoor
open Go.RowKit Go.Maps


theorem r_same20_is (S T : Nat → Prop) (a b : Ent) (va vb : Value) (r : Bool) (w : World) (ha : DataAt S w va a.data) (hb : DataAt T w vb b.data) (hr : decide (a = b) = r) : Calls Tryz.prog 15 #[entV va a, entV vb b] w fun e w' => e = .returned (.bool r) ∧ Below w.heap.size w w' := by
  rw [← hr]; exact r_same20_any S T a b va vb w ha hb
set_option maxRecDepth 100000 in
set_option maxHeartbeats 2000000 in
theorem r_sameall_any (S T : Nat → Prop) (L M : List Ent) (v u : Value) (w : World) (hv : EntsAt S w v L) (hu : EntsAt T w u M) :
    Calls Tryz.prog 10 #[v, u] w fun e w' => e = .returned (.bool (decide (L = M))) ∧ Below w.heap.size w w' := by
  have HV := Lib.hid hv
  have HU := Lib.hid hu
  obtain ⟨a, cap, rfl, hc, hm, -⟩ := SeqAt.shape hv EntR.len
  obtain ⟨a2, cap2, rfl, hc2, hm2, -⟩ := SeqAt.shape hu EntR.len
  unfold maxLen at hm hm2
  clear hv hu
  by_cases hlen : L.length = M.length
  · have e1 : ((L.length : Int) != (M.length : Int)) = false := by simp [hlen]
    obtain ⟨n, hn⟩ : ∃ n, n = L.length := ⟨_, rfl⟩
    have hn2 : n = M.length := by omega
    have HN := Lib.hid hn
    have HN2 := Lib.hid hn2
    rw [← hlen] at HU hc2 e1 ⊢
    rw [← hn] at HV HU hc hc2 e1 ⊢
    clear hn hn2 hlen
    go_enter Tryz.func10, Tryz.ntmps10
    go_wp2_with fail
    go_loopw [5, 13] (fun _ i wr => ∃ k : Nat, k ≤ n ∧ i = .int .i64 k ∧ L.take k = M.take k ∧ Below w.heap.size w wr) (fun _ i _ => n - (intOf i).toNat)
    case atStart => exact ⟨0, Nat.zero_le _, rfl, by simp, Below.refl _ _⟩
    case round =>
      obtain ⟨k, hk, rfl, hfi, hbr⟩ := hrel
      have HFI := Lib.hid hfi
      have HBR := Lib.hid hbr
      by_cases hlt : k < n
      · obtain ⟨e, he⟩ : ∃ e, L[k]? = some e := ⟨L[k]'(by rw [← HN.out]; exact hlt), by simp⟩
        obtain ⟨f, hf⟩ : ∃ f, M[k]? = some f := ⟨M[k]'(by rw [← HN2.out]; exact hlt), by simp⟩
        obtain ⟨b, o, dv, rfl, -, hb, hd, -, -, q0, q1, q2, q3, q4, q5⟩ := ents_at (HV.out.below hbr) he
        obtain ⟨b2, o2, dv2, rfl, -, hb2, hd2, -, -, p0, p1, p2, p3, p4, p5⟩ := ents_at (HU.out.below hbr) hf
        have HD := Lib.hid hd
        have HE := Lib.hid hd2
        obtain ⟨_, ad, cd, rfl, hcd, hmd, -⟩ := hd
        obtain ⟨_, ad2, cd2, rfl, hcd2, hmd2, -⟩ := hd2
        have HAT := Lib.hid (And.intro he hf)
        clear he hf hfi hbr
        cases heq : decide (e = f)
        · have HEQ := Lib.hid heq
          clear heq
          go_upto_region 6 with (fail)
          refine wp_region_segs [some 8, none, some 1] (by kernel_rfl) (by kernel_rfl) (by kernel_rfl) ?_
          simp only [wpSegs, List.take_succ_cons, List.take_zero, List.drop_succ_cons, List.drop_zero]
          obtain ⟨W, hW⟩ : ∃ W : World, W = wr.drew := ⟨_, rfl⟩
          rw [← hW]
          have hbw : Below wr.heap.size wr W := by rw [hW]; exact (Below.refl _ _).drew
          have HBW := Lib.hid hbw
          have z0 := (hbw.cell (block_lt q0)).trans q0
          have z1 := (hbw.cell (block_lt q1)).trans q1
          have z2 := (hbw.cell (block_lt q2)).trans q2
          have z3 := (hbw.cell (block_lt q3)).trans q3
          have z4 := (hbw.cell (block_lt q4)).trans q4
          have z5 := (hbw.cell (block_lt q5)).trans q5
          have x0 := (hbw.cell (block_lt p0)).trans p0
          have x1 := (hbw.cell (block_lt p1)).trans p1
          have x2 := (hbw.cell (block_lt p2)).trans p2
          have x3 := (hbw.cell (block_lt p3)).trans p3
          have x4 := (hbw.cell (block_lt p4)).trans p4
          have x5 := (hbw.cell (block_lt p5)).trans p5
          clear hW hbw q0 q1 q2 q3 q4 q5 p0 p1 p2 p3 p4 p5
          repeat (first | (refine seg_skip rfl ?_; simp only [Act.put, List.setIfInBounds_toArray, List.set_cons_succ, List.set_cons_zero]) | (refine seg_run rfl (fun K hK => ?_); go_simp; refine hK _ ?_; clear hK K))
          refine seg_nil ?_
          refine bar_run rfl (fun K hK => ?_)
          go_wp2_with (go_at_call 15; refine (r_same20_is S T e f _ _ false _ (by exact HD.out.below HBW.out) (by exact HE.out.below HBW.out) HEQ.out).mono ?_; rintro e1 w1 ⟨rfl, hb1⟩; have HB1 := Lib.hid (below_next HBR.out (below_next HBW.out hb1)); clear hb1)
          clear z0 z1 z2 z3 z4 z5 x0 x1 x2 x3 x4 x5
          repeat (first | (refine seg_skip rfl ?_; simp only [Act.put, List.setIfInBounds_toArray, List.set_cons_succ, List.set_cons_zero]) | (refine seg_run rfl (fun K hK => ?_); go_simp; refine hK _ ?_; clear hK K))
          refine seg_nil ?_
          go_wp2_with fail
          go_ret
          refine ⟨ret_bool ?_, HB1.out⟩
          symm
          rw [decide_eq_false_iff_not]
          intro hc
          obtain ⟨h1, h2⟩ := HAT.out
          rw [hc, h2] at h1
          exact (of_decide_eq_false HEQ.out) (Option.some.inj h1).symm
        · have HEQ := Lib.hid heq
          clear heq
          go_upto_region 6 with (fail)
          refine wp_region_segs [some 8, none, some 1] (by kernel_rfl) (by kernel_rfl) (by kernel_rfl) ?_
          simp only [wpSegs, List.take_succ_cons, List.take_zero, List.drop_succ_cons, List.drop_zero]
          obtain ⟨W, hW⟩ : ∃ W : World, W = wr.drew := ⟨_, rfl⟩
          rw [← hW]
          have hbw : Below wr.heap.size wr W := by rw [hW]; exact (Below.refl _ _).drew
          have HBW := Lib.hid hbw
          have z0 := (hbw.cell (block_lt q0)).trans q0
          have z1 := (hbw.cell (block_lt q1)).trans q1
          have z2 := (hbw.cell (block_lt q2)).trans q2
          have z3 := (hbw.cell (block_lt q3)).trans q3
          have z4 := (hbw.cell (block_lt q4)).trans q4
          have z5 := (hbw.cell (block_lt q5)).trans q5
          have x0 := (hbw.cell (block_lt p0)).trans p0
          have x1 := (hbw.cell (block_lt p1)).trans p1
          have x2 := (hbw.cell (block_lt p2)).trans p2
          have x3 := (hbw.cell (block_lt p3)).trans p3
          have x4 := (hbw.cell (block_lt p4)).trans p4
          have x5 := (hbw.cell (block_lt p5)).trans p5
          clear hW hbw q0 q1 q2 q3 q4 q5 p0 p1 p2 p3 p4 p5
          repeat (first | (refine seg_skip rfl ?_; simp only [Act.put, List.setIfInBounds_toArray, List.set_cons_succ, List.set_cons_zero]) | (refine seg_run rfl (fun K hK => ?_); go_simp; refine hK _ ?_; clear hK K))
          refine seg_nil ?_
          refine bar_run rfl (fun K hK => ?_)
          go_wp2_with (go_at_call 15; refine (r_same20_is S T e f _ _ true _ (by exact HD.out.below HBW.out) (by exact HE.out.below HBW.out) HEQ.out).mono ?_; rintro e1 w1 ⟨rfl, hb1⟩; have HB1 := Lib.hid (below_next HBR.out (below_next HBW.out hb1)); clear hb1)
          clear z0 z1 z2 z3 z4 z5 x0 x1 x2 x3 x4 x5
          repeat (first | (refine seg_skip rfl ?_; simp only [Act.put, List.setIfInBounds_toArray, List.set_cons_succ, List.set_cons_zero]) | (refine seg_run rfl (fun K hK => ?_); go_simp; refine hK _ ?_; clear hK K))
          refine seg_nil ?_
          go_wp2_with fail
          go_roundw
          case rel =>
            refine ⟨k + 1, by omega, by go_num, ?_, HB1.out⟩
            rw [List.take_add_one, List.take_add_one, HFI.out, HAT.out.1, HAT.out.2, of_decide_eq_true HEQ.out]
          case measure => simp [intOf]; omega
      · clear hfi hbr
        have hkn : k = n := by omega
        have HR := Lib.hid (show L = M by
          have h1 := HFI.out
          rw [List.take_of_length_le (by rw [← HN.out]; omega), List.take_of_length_le (by rw [← HN2.out]; omega)] at h1
          exact h1)
        clear hkn
        go_wp2_with fail
        go_ret
        exact ⟨ret_bool (decide_eq_true HR.out).symm, HBR.out⟩
  · have HF := Lib.hid (show decide (L = M) = false from decide_eq_false (fun e => hlen (by rw [e])))
    have e1 : ((L.length : Int) != (M.length : Int)) = true := by simp; omega
    clear hlen
    go_enter Tryz.func10, Tryz.ntmps10
    go_wp2_with fail
    go_ret
    exact ⟨ret_bool HF.out.symm, Below.refl _ _⟩

end Go.Proofs.YtbkhdpocmmjnbaaGreatDoor

/- The example of chapter 20: awake returns true. -/
namespace Go.Proofs.YtbkhdpocmmjnbaaGreatDoor
open Go Go.RowKit Go.Maps

theorem len_gather {B : Nat} {w : World} {v : Value} {M : List Ent} (h : Gathered B w v M) : ∃ a c, v = .slice a M.length c ∧ M.length ≤ c ∧ c ≤ maxLen := by
  obtain ⟨ys, rfl, h2, _⟩ := h
  obtain ⟨a, c, rfl, h3, h4⟩ := owns_shape h2
  exact ⟨a, c, by rw [List.length_map], by rw [List.length_map]; exact h3, h4⟩
set_option maxRecDepth 100000 in
set_option maxHeartbeats 4000000 in
theorem awakeT_any (w : World) (he : Env w) : Calls Tryz.prog 5 #[] w fun e w' => e = .returned (.bool true) ∧ Below w.heap.size w w' := by
  have HE := Lib.hid he
  clear he
  go_enter Tryz.func5, Tryz.ntmps5
  go_wp2_with fail
  refine (exampleT_any w).mono ?_
  rintro e w1 ⟨v1, rfl, h1, hb1⟩
  have H1 := Lib.hid h1
  have HB1 := Lib.hid hb1
  obtain ⟨a1, c1, rfl, -, -, -⟩ := SeqAt.shape h1 EntR.len
  clear h1 hb1
  go_wp2_with fail
  refine (from_any _ exT _ _ H1.out (HE.out.below HB1.out)).mono ?_
  rintro e w2 ⟨hb2, h2⟩
  rw [ex_check] at h2
  obtain ⟨tb, mb, rfl, hmb, htb, S2, hS2, ht2⟩ := h2.resolve_left (fun h => h.1 rfl) |>.2
  have HB2 := Lib.hid (below_next HB1.out hb2)
  have HT2 := Lib.hid ht2
  have HMB := Lib.hid (show w.heap.size ≤ mb from Nat.le_trans HB1.out.size hmb)
  have HTL := Lib.hid (block_lt ht2.cell)
  clear hb2 h2 hmb htb hS2 ht2
  go_wp2_with fail
  refine (size_any S2 tb mb exT ⟨#[]⟩ _ HT2.out (by decide)).mono ?_
  rintro e w3 ⟨rfl, hb3⟩
  rw [ex_count]
  have HB3 := Lib.hid (below_next HB2.out hb3)
  have HT3 := Lib.hid (HT2.out.below hb3)
  clear hb3
  go_wp2_with fail
  refine (remove_any S2 tb mb exT ⟨#[97]⟩ false _ HT3.out (by decide) (HE.out.below HB3.out)).mono ?_
  rintro e w4 ⟨rfl, ht4, hg4⟩
  rw [ex_remove] at ht4 ⊢
  have HB4 := Lib.hid (HB3.out.grown hg4 HB3.out.size (fun k e => by cases e; exact HMB.out))
  have HT4 := Lib.hid ht4
  clear ht4 hg4
  go_wp2_with fail
  refine (move_any _ tb mb exT ⟨#[97]⟩ ⟨#[99]⟩ _ HT4.out (by decide) (by decide) (HE.out.below HB4.out)).mono ?_
  rintro e w5 ⟨rfl, ht5, hg5⟩
  rw [ex_move1] at ht5 ⊢
  have HB5 := Lib.hid (HB4.out.grown hg5 HB4.out.size (fun k e => by cases e; exact HMB.out))
  have HT5 := Lib.hid ht5
  clear ht5 hg5
  go_wp2_with fail
  refine (move_any _ tb mb exM ⟨#[99]⟩ ⟨#[99, 47, 100]⟩ _ HT5.out (by decide) (by decide) (HE.out.below HB5.out)).mono ?_
  rintro e w6 ⟨rfl, ht6, hg6⟩
  rw [ex_move2] at ht6 ⊢
  have HB6 := Lib.hid (HB5.out.grown hg6 HB5.out.size (fun k e => by cases e; exact HMB.out))
  have HT6 := Lib.hid ht6
  clear ht6 hg6
  go_wp2_with fail
  refine (move_any _ tb mb exM ⟨#[98]⟩ ⟨#[120, 47, 121]⟩ _ HT6.out (by decide) (by decide) (HE.out.below HB6.out)).mono ?_
  rintro e w7 ⟨rfl, ht7, hg7⟩
  rw [ex_move3] at ht7 ⊢
  have HB7 := Lib.hid (HB6.out.grown hg7 HB6.out.size (fun k e => by cases e; exact HMB.out))
  have HT7 := Lib.hid ht7
  clear ht7 hg7
  go_wp2_with fail
  refine (get_any _ tb mb exM ⟨#[99, 47, 120]⟩ _ HT7.out (by decide)).mono ?_
  rintro e w8 ⟨hb8, h8⟩
  rw [ex_find] at h8
  obtain ⟨v8, rfl, h8⟩ := h8
  have HD8 := Lib.hid (data_of_owns h8)
  obtain ⟨a8, c8, rfl, -, -⟩ := owns_shape h8
  have HB8 := Lib.hid (below_next HB7.out hb8)
  have HT8 := Lib.hid (HT7.out.below hb8)
  clear hb8 h8
  simp only [entV, exM2]
  have hcv : ∀ W, Below w8.heap.size w8 W → (convert 28 9 (.slice a8 2 c8)).run Tryz.prog W = .ok (.string ⟨#[49, 50]⟩) W := fun W hW => by
    have := conv_data (HD8.out.below hW)
    exact this
  have hcv1 := hcv (w8.alloc (.cells #[.string ⟨#[99, 47, 120]⟩, .int .i64 1, .int .i64 0, .int .i64 0, .slice a8 2 c8, .string ⟨#[]⟩] 30)) ((Below.refl _ _).alloc (Nat.le_refl _) _)
  have HB9 := Lib.hid (HB8.out.alloc HB8.out.size (.cells #[.string ⟨#[99, 47, 120]⟩, .int .i64 1, .int .i64 0, .int .i64 0, .slice a8 2 c8, .string ⟨#[]⟩] 30))
  have HT9 := Lib.hid (HT8.out.below ((Below.refl _ _).alloc (Nat.le_refl _) (.cells #[.string ⟨#[99, 47, 120]⟩, .int .i64 1, .int .i64 0, .int .i64 0, .slice a8 2 c8, .string ⟨#[]⟩] 30)))
  clear hcv
  go_wp2_with fail
  refine (entries_any _ tb mb exM _ HT9.out).mono ?_
  rintro e w10 ⟨v10, rfl, hg10, hb10⟩
  obtain ⟨a10, c10, rfl, -, -⟩ := len_gather hg10
  have HB10 := Lib.hid (below_next HB9.out hb10)
  have HT10 := Lib.hid (HT9.out.below hb10)
  clear hg10 hb10 hcv1
  simp only [exM, List.length_cons, List.length_nil, Nat.reduceAdd]
  go_wp2_with fail
  refine (put_any _ (fun _ => False) tb mb exM ⟨⟨#[99]⟩, 1, 0, 0, [], ⟨#[]⟩⟩ (.slice none 0 0) _ HT10.out (DataAt.nil _ _) ⟨by decide, by decide, by decide, by decide, by decide⟩ (HE.out.below HB10.out)).mono ?_
  rintro e w11 ⟨rfl, ht11, hg11⟩
  rw [ex_put] at ht11 ⊢
  have HB11 := Lib.hid (HB10.out.grown hg11 HB10.out.size (fun k e => by cases e; exact HMB.out))
  clear ht11 hg11
  go_wp2_with fail
  refine (new_any _).mono ?_
  rintro e w12 ⟨rfl, ht12, hb12, hs12⟩
  have HB12 := Lib.hid (below_next HB11.out hb12)
  have HT12 := Lib.hid ht12
  clear ht12 hb12 hs12
  go_wp2_with fail
  refine (entries_any _ _ _ [] _ HT12.out).mono ?_
  rintro e w13 ⟨v13, rfl, hg13, hb13⟩
  obtain ⟨a13, c13, rfl, -, -⟩ := len_gather hg13
  have HB13 := Lib.hid (below_next HB12.out hb13)
  clear hg13 hb13
  simp only [List.length_nil]
  go_wp2_with fail
  go_ret
  exact ⟨rfl, HB13.out⟩

end Go.Proofs.YtbkhdpocmmjnbaaGreatDoor

/- Operations: plain, in memory; do and play. -/
namespace Go.Proofs.YtbkhdpocmmjnbaaGreatDoor
open Go Go.RowKit Go.Maps

structure POp where
  kind : Int
  en : Ent
  src : ByteArray
  dst : ByteArray
  below : Bool
def doP (L : List Ent) (x : POp) : List Ent × Int :=
  if x.kind = 1 then putP L x.en
  else if x.kind = 2 then removeP L x.src x.below
  else if x.kind = 3 then moveP L x.src x.dst
  else (L, 0)
def playP (L : List Ent) (l : List POp) : List Ent := l.foldl (fun L x => (doP L x).1) L
theorem playP_snoc (L : List Ent) (l : List POp) (x : POp) : playP L (l ++ [x]) = (doP (playP L l) x).1 := by simp [playP]
structure OpOk (x : POp) : Prop where
  en : EntOk x.en
  src : x.src.size ≤ maxLen
  dst : x.dst.size ≤ maxLen
  knd : (Lit.int .i64 x.kind).wf = true
def opC (v : Value) (x : POp) : List Value := [.int .i64 x.kind, .string x.en.path, .int .i64 x.en.kind, .int .i64 x.en.mode, .int .i64 x.en.time, v, .string x.en.link, .string x.src, .string x.dst, .bool x.below]
def opV (v : Value) (x : POp) : Value := .agg #[.int .i64 x.kind, .string x.en.path, .int .i64 x.en.kind, .int .i64 x.en.mode, .int .i64 x.en.time, v, .string x.en.link, .string x.src, .string x.dst, .bool x.below]
def OpR (S : Nat → Prop) (w : World) (c : List Value) (x : POp) : Prop := ∃ v, c = opC v x ∧ DataAt S w v x.en.data ∧ OpOk x
theorem OpR.len {S : Nat → Prop} {w : World} (c : List Value) (x : POp) (h : OpR S w c x) : c.length = 10 := by obtain ⟨v, rfl, _⟩ := h; rfl
theorem OpR.below {S : Nat → Prop} {w w' : World} {c : List Value} {x : POp} (h : OpR S w c x) (hb : Below w.heap.size w w') : OpR S w' c x := by
  obtain ⟨v, h1, h2, h3⟩ := h
  exact ⟨v, h1, h2.below hb, h3⟩
def OpsAt (S : Nat → Prop) (w : World) (v : Value) (l : List POp) : Prop := SeqAt S w 10 (OpR S w) v l
theorem OpsAt.below {S : Nat → Prop} {w w' : World} {v : Value} {l : List POp} (h : OpsAt S w v l) (hb : Below w.heap.size w w') : OpsAt S w' v l :=
  SeqAt.below h (by omega) hb (fun _ _ _ hr => hr.below hb)
/-- The ten cells of an operation in a row. -/
theorem ops_at {S : Nat → Prop} {w : World} {a : Option Addr} {n cap : Nat} {l : List POp} (hv : OpsAt S w (.slice a n cap) l) {k : Nat} {x : POp} (hr : l[k]? = some x) :
    ∃ b o v, a = some ⟨b, o, none⟩ ∧ b < w.heap.size ∧ DataAt S w v x.en.data ∧ OpOk x ∧ ∀ j, j < 10 → w.cell? ⟨b, o + k * 10 + j, none⟩ = (opC v x)[j]? := by
  obtain ⟨a', cap', he, hn, hm, hat⟩ := SeqAt.shape hv OpR.len
  simp only [Value.slice.injEq] at he
  obtain ⟨rfl, rfl, rfl⟩ := he
  obtain ⟨b, o, c, ha, hb, ⟨v, hc, hd, hok⟩, hl, hj⟩ := hat k x hr
  subst hc
  have hc0 := hj 0 (by omega)
  exact ⟨b, o, v, ha, block_lt (hc0.trans rfl), hd, hok, fun j hjl => by have h := hj j hjl; rwa [← Nat.add_assoc] at h⟩
set_option maxRecDepth 100000 in
set_option maxHeartbeats 2000000 in
theorem do_any (S T : Nat → Prop) (tb mb : Nat) (L : List Ent) (x : POp) (v : Value) (w : World) (ht : TreeAt S w tb mb L) (hd : DataAt T w v x.en.data) (hok : OpOk x) (henv : Env w) :
    Calls Tryz.prog 9 #[.pointer (some ⟨tb, 0, none⟩), opV v x] w (OpRes S tb mb (doP L x) w) := by
  obtain ⟨a, cap, rfl, hd1, hd2⟩ := hd.slice
  have HD := Lib.hid hd
  have HT := Lib.hid ht
  have HE := Lib.hid henv
  have HOK := Lib.hid hok
  unfold maxLen at hd2
  have HB := Lib.hid ((Below.refl w.heap.size w).alloc (Nat.le_refl _) (.cells #[.int .i64 x.kind, .string x.en.path, .int .i64 x.en.kind, .int .i64 x.en.mode, .int .i64 x.en.time, .slice a x.en.data.length cap, .string x.en.link, .string x.src, .string x.dst, .bool x.below] 32))
  unfold opV
  have HRES := Lib.hid (fun (W w' : World) (r : List Ent × Int) (e : Ending) (hb : Below w.heap.size w W) (hr : OpRes S tb mb r W e w') => show OpRes S tb mb r w e w' from by
    obtain ⟨h1, h2, h3⟩ := hr
    refine ⟨h1, h2.mono (fun k hk => ?_) (fun hc => ?_) (fun hc => ?_) (fun k hk => ?_), (grown_of_below hb _).trans h3⟩
    · rcases hk with hk | hk
      · exact .inl hk
      · exact .inr ⟨Nat.le_trans hb.size hk.1, hk.2⟩
    · rcases hc with hc | hc
      · exact HT.out.far hc
      · have := block_lt HT.out.cell; simp only at this; omega
    · obtain ⟨xs, hm, _⟩ := HT.out.ents
      rcases hc with hc | hc
      · exact hm.far hc
      · have := HT.out.mb_lt; omega
    · rcases hk with hk | hk
      · exact Nat.lt_of_lt_of_le (HT.out.lt k hk) (Nat.le_trans hb.size h3.size)
      · exact hk.2)
  clear hd ht henv hok
  by_cases h1 : x.kind = 1
  · have HP := Lib.hid (show doP L x = putP L x.en by unfold doP; rw [if_pos h1])
    have e1 : (x.kind == 1) = true := by simp [h1]
    clear h1
    go_enter Tryz.func9, Tryz.ntmps9
    go_wp2_with (go_at_call 26; refine (put_any S T tb mb L x.en (.slice a x.en.data.length cap) _ (HT.out.below HB.out) (HD.out.below HB.out) HOK.out.en (HE.out.below HB.out)).mono ?_; rintro e w1 hr; have HR := Lib.hid (HRES.out _ _ _ _ HB.out hr); obtain ⟨rfl, -, -⟩ := hr)
    go_ret
    rw [HP.out]
    exact HR.out
  have e1 : (x.kind == 1) = false := by simp [h1]
  by_cases h2 : x.kind = 2
  · have HP := Lib.hid (show doP L x = removeP L x.src x.below by unfold doP; rw [if_neg h1, if_pos h2])
    have e2 : (x.kind == 2) = true := by simp [h2]
    clear h1 h2
    go_enter Tryz.func9, Tryz.ntmps9
    go_wp2_with (go_at_call 24; refine (remove_any S tb mb L x.src x.below _ (HT.out.below HB.out) HOK.out.src (HE.out.below HB.out)).mono ?_; rintro e w1 hr; have HR := Lib.hid (HRES.out _ _ _ _ HB.out hr); obtain ⟨rfl, -, -⟩ := hr)
    go_ret
    rw [HP.out]
    exact HR.out
  have e2 : (x.kind == 2) = false := by simp [h2]
  by_cases h3 : x.kind = 3
  · have HP := Lib.hid (show doP L x = moveP L x.src x.dst by unfold doP; rw [if_neg h1, if_neg h2, if_pos h3])
    have e3 : (x.kind == 3) = true := by simp [h3]
    clear h1 h2 h3
    go_enter Tryz.func9, Tryz.ntmps9
    go_wp2_with (go_at_call 25; refine (move_any S tb mb L x.src x.dst _ (HT.out.below HB.out) HOK.out.src HOK.out.dst (HE.out.below HB.out)).mono ?_; rintro e w1 hr; have HR := Lib.hid (HRES.out _ _ _ _ HB.out hr); obtain ⟨rfl, -, -⟩ := hr)
    go_ret
    rw [HP.out]
    exact HR.out
  · have HP := Lib.hid (show doP L x = (L, 0) by unfold doP; rw [if_neg h1, if_neg h2, if_neg h3])
    have e3 : (x.kind == 3) = false := by simp [h3]
    clear h1 h2 h3
    go_enter Tryz.func9, Tryz.ntmps9
    go_wp2_with fail
    go_ret
    rw [HP.out]
    exact op_same HT.out HB.out

end Go.Proofs.YtbkhdpocmmjnbaaGreatDoor

/- The statements' helpers: play, large, wide. -/
namespace Go.Proofs.YtbkhdpocmmjnbaaGreatDoor
open Go Go.RowKit Go.Maps

/-- A tree of new memory alone, made from block B on. -/
def TreeB (B : Nat) (w : World) (L : List Ent) : Prop := TreeAt (newF (B + 2) w) w (B + 1) B L
theorem TreeB.below {B : Nat} {w w' : World} {L : List Ent} (h : TreeB B w L) (hb : Below w.heap.size w w') : TreeB B w' L := by
  have h1 := block_lt h.cell
  simp only at h1
  exact TreeAt.mono (TreeAt.below h hb) (fun k hk => ⟨hk.1, Nat.lt_of_lt_of_le hk.2 hb.size⟩) (fun hc => by have := hc.1; omega) (fun hc => by have := hc.1; omega) (fun k hk => hk.2)
theorem TreeB.res {B : Nat} {w w' : World} {L : List Ent} {r : List Ent × Int} {e : Ending} (h : TreeB B w L) (hr : OpRes (newF (B + 2) w) (B + 1) B r w e w') : e = .returned (.int .i64 r.2) ∧ TreeB B w' r.1 ∧ w.grownBy w' (some B) := by
  have h1 := block_lt h.cell
  simp only at h1
  obtain ⟨h2, h3, h4⟩ := hr
  refine ⟨h2, h3.mono (fun k hk => ?_) (fun hc => by have := hc.1; omega) (fun hc => by have := hc.1; omega) (fun k hk => hk.2), h4⟩
  rcases hk with hk | hk
  · exact ⟨hk.1, Nat.lt_of_lt_of_le hk.2 h4.size⟩
  · exact ⟨by omega, hk.2⟩
theorem newB_any (w : World) : Calls Tryz.prog 7 #[] w fun e w' => e = .returned (.pointer (some ⟨w.heap.size + 1, 0, none⟩)) ∧ TreeB w.heap.size w' [] ∧ Below w.heap.size w w' :=
  (new_any w).mono fun _ w' ⟨h1, h2, h3, h4⟩ => ⟨h1, h2.mono (fun _ h => h.elim) (fun hc => by have := hc.1; omega) (fun hc => by have := hc.1; omega) (fun k hk => hk.2), h3⟩
set_option maxRecDepth 100000 in
set_option maxHeartbeats 2000000 in
theorem play_any (T : Nat → Prop) (l : List POp) (v : Value) (w : World) (hv : OpsAt T w v l) (henv : Env w) :
    Calls Tryz.prog 12 #[v] w fun e w' => e = .returned (.pointer (some ⟨w.heap.size + 1, 0, none⟩)) ∧ TreeB w.heap.size w' (playP [] l) ∧ Below w.heap.size w w' := by
  have HV := Lib.hid hv
  have HE := Lib.hid henv
  obtain ⟨a, cap, rfl, hc, hm, -⟩ := SeqAt.shape hv OpR.len
  unfold maxLen at hm
  obtain ⟨n, hn⟩ : ∃ n, n = l.length := ⟨_, rfl⟩
  have HN := Lib.hid hn
  rw [← hn] at hc HV ⊢
  clear hv henv hn
  go_enter Tryz.func12, Tryz.ntmps12
  go_wp2_with fail
  refine (newB_any _).mono ?_
  rintro e w1 ⟨rfl, ht1, hb1⟩
  have HT1 := Lib.hid ht1
  have HB1 := Lib.hid hb1
  clear ht1 hb1
  go_wp2_with fail
  go_loopw [9] (fun i wr => ∃ k : Nat, k ≤ n ∧ i = .int .i64 k ∧ TreeB w.heap.size wr (playP [] (l.take k)) ∧ Below w.heap.size w wr) (fun i _ => n - (intOf i).toNat)
  case atStart => exact ⟨0, Nat.zero_le _, rfl, HT1.out, HB1.out⟩
  case round =>
    obtain ⟨k, hk, rfl, htr, hbr⟩ := hrel
    have HTR := Lib.hid htr
    have HBR := Lib.hid hbr
    clear htr hbr
    by_cases hlt : k < n
    · obtain ⟨x, hx⟩ : ∃ x, l[k]? = some x := ⟨l[k]'(by rw [← HN.out]; exact hlt), by simp⟩
      obtain ⟨b, o, dv, rfl, hb, hd, hok, hq⟩ := ops_at (HV.out.below HBR.out) hx
      obtain ⟨a1, cap1, rfl, hd1, hd2⟩ := hd.slice
      have q0 := hq 0 (by omega)
      have q1 := hq 1 (by omega)
      have q2 := hq 2 (by omega)
      have q3 := hq 3 (by omega)
      have q4 := hq 4 (by omega)
      have q5 := hq 5 (by omega)
      have q6 := hq 6 (by omega)
      have q7 := hq 7 (by omega)
      have q8 := hq 8 (by omega)
      have q9 := hq 9 (by omega)
      simp only [opC, List.getElem?_cons_succ, List.getElem?_cons_zero, Nat.add_zero] at q0 q1 q2 q3 q4 q5 q6 q7 q8 q9
      have HX := Lib.hid hx
      have HD := Lib.hid hd
      have HOK := Lib.hid hok
      unfold maxLen at hd2
      clear hx hd hok hq
      have HBA := Lib.hid ((Below.refl wr.heap.size wr).alloc (Nat.le_refl _) (.cells #[.int .i64 x.kind, .string x.en.path, .int .i64 x.en.kind, .int .i64 x.en.mode, .int .i64 x.en.time, .slice a1 x.en.data.length cap1, .string x.en.link, .string x.src, .string x.dst, .bool x.below] 32))
      have HTA := Lib.hid (HTR.out.below HBA.out)
      go_wp2_with fail
      refine (do_any _ T _ _ _ x (.slice a1 x.en.data.length cap1) _ HTA.out (HD.out.below HBA.out) HOK.out (HE.out.below (below_next HBR.out HBA.out))).mono ?_
      rintro e w5 hr
      obtain ⟨rfl, ht5, hg5⟩ := HTA.out.res hr
      have HT5 := Lib.hid ht5
      have HB5 := Lib.hid ((below_next HBR.out HBA.out).grown hg5 (below_next HBR.out HBA.out).size (fun k e => by cases e; exact Nat.le_refl _))
      clear hr ht5 hg5 q0 q1 q2 q3 q4 q5 q6 q7 q8 q9
      go_wp2_with fail
      go_roundw
      case rel =>
        refine ⟨k + 1, by omega, by go_num, ?_, HB5.out⟩
        rw [List.take_add_one, HX.out]
        show TreeB _ _ (playP [] (l.take k ++ [x]))
        rw [playP_snoc]
        exact HT5.out
      case measure => simp [intOf]; omega
    · have hk2 : k = n := by omega
      subst hk2
      go_wp2_with fail
      go_ret
      refine ⟨rfl, ?_, HBR.out⟩
      have h1 := HTR.out
      rw [HN.out, List.take_length] at h1
      exact h1

end Go.Proofs.YtbkhdpocmmjnbaaGreatDoor

/- The statements' helpers: large, wide. -/
namespace Go.Proofs.YtbkhdpocmmjnbaaGreatDoor
open Go Go.RowKit Go.Maps

def SmallE (e : Ent) : Prop := e.path.size ≤ 600 ∧ e.data.length ≤ 100 ∧ e.link.size ≤ 600
def LargeRes (l : List Ent) (most : Int) (w : World) (e : Ending) (w' : World) : Prop := ∃ b, e = .returned (.bool b) ∧ (b = false → (l.length : Int) ≤ most ∧ ∀ x ∈ l, SmallE x) ∧ Below w.heap.size w w'
set_option maxRecDepth 100000 in
set_option maxHeartbeats 2000000 in
theorem large_any (S : Nat → Prop) (l : List Ent) (v : Value) (most : Int) (w : World) (hv : EntsAt S w v l) :
    Calls Tryz.prog 27 #[v, .int .i64 most] w (LargeRes l most w) := by
  have HV := Lib.hid hv
  obtain ⟨a, cap, rfl, hc, hm, -⟩ := SeqAt.shape hv EntR.len
  unfold maxLen at hm
  obtain ⟨n, hn⟩ : ∃ n, n = l.length := ⟨_, rfl⟩
  have HN := Lib.hid hn
  rw [← hn] at hc HV ⊢
  clear hv hn
  go_enter Tryz.func27, Tryz.ntmps27
  go_wp2_with fail
  go_loopw [9] (fun i wr => ∃ k : Nat, k ≤ n ∧ i = .int .i64 k ∧ (∀ x ∈ l.take k, SmallE x) ∧ Below w.heap.size w wr) (fun i _ => n - (intOf i).toNat)
  case atStart => exact ⟨0, Nat.zero_le _, rfl, by simp, Below.refl _ _⟩
  case round =>
    obtain ⟨k, hk, rfl, hsm, hbr⟩ := hrel
    have HSM := Lib.hid hsm
    have HBR := Lib.hid hbr
    clear hsm hbr
    by_cases hlt : k < n
    · obtain ⟨e, he⟩ : ∃ e, l[k]? = some e := ⟨l[k]'(by rw [← HN.out]; exact hlt), by simp⟩
      obtain ⟨b, o, dv, rfl, -, hb, hd, hok, -, q0, q1, q2, q3, q4, q5⟩ := ents_at (HV.out.below HBR.out) he
      obtain ⟨a1, cap1, rfl, hd1, hd2⟩ := hd.slice
      unfold maxLen at hd2
      have hp1 := hok.pth
      have hl1 := hok.lnk
      unfold maxLen at hp1 hl1
      have HX := Lib.hid he
      clear he hd hok
      have HBA := Lib.hid ((Below.refl wr.heap.size wr).alloc (Nat.le_refl _) (.cells #[.string e.path, .int .i64 e.kind, .int .i64 e.mode, .int .i64 e.time, .slice a1 e.data.length cap1, .string e.link] 30))
      by_cases h1 : 600 < e.path.size
      · have h1' : decide (600 < e.path.size) = true := by simp [h1]
        go_wp2_with fail
        go_ret
        exact ⟨true, rfl, (fun h => by cases h), below_next HBR.out HBA.out⟩
      · have h1' : decide (600 < e.path.size) = false := by simp; omega
        by_cases h2 : 100 < e.data.length
        · have h2' : decide (100 < e.data.length) = true := by simp [h2]
          go_wp2_with fail
          go_ret
          exact ⟨true, rfl, (fun h => by cases h), below_next HBR.out HBA.out⟩
        · have h2' : decide (100 < e.data.length) = false := by simp; omega
          by_cases h3 : 600 < e.link.size
          · have h3' : decide (600 < e.link.size) = true := by simp [h3]
            go_wp2_with fail
            go_ret
            exact ⟨true, rfl, (fun h => by cases h), below_next HBR.out HBA.out⟩
          · have h3' : decide (600 < e.link.size) = false := by simp; omega
            have HSE := Lib.hid (show SmallE e from ⟨by omega, by omega, by omega⟩)
            go_wp2_with fail
            go_roundw
            case rel =>
              refine ⟨k + 1, by omega, by go_num, fun x hx => ?_, below_next HBR.out HBA.out⟩
              rw [List.take_add_one, HX.out] at hx
              rcases List.mem_append.1 hx with hx | hx
              · exact HSM.out x hx
              · simp only [Option.toList_some, List.mem_singleton] at hx
                rw [hx]; exact HSE.out
            case measure => simp [intOf]; omega
    · have hk2 : k = n := by omega
      subst hk2
      go_wp2_with fail
      go_ret
      refine ⟨_, rfl, fun h => ⟨?_, fun x hx => HSM.out x (by rw [HN.out, List.take_length]; exact hx)⟩, HBR.out⟩
      rw [← HN.out]
      simp at h
      omega
def SmallOp (x : POp) : Prop := x.src.size ≤ 600 ∧ x.dst.size ≤ 600 ∧ SmallE x.en
def WideRes (l : List POp) (w : World) (e : Ending) (w' : World) : Prop := ∃ b, e = .returned (.bool b) ∧ (b = false → l.length ≤ 30 ∧ ∀ x ∈ l, SmallOp x) ∧ Below w.heap.size w w'
theorem ent_row {S : Nat → Prop} {w : World} {a : Option Addr} {c : Nat} {e : Ent} (hd : DataAt S w (.slice a e.data.length c) e.data) (hok : EntOk e) : EntsAt (fun _ => True) (w.alloc (.cells #[.string e.path, .int .i64 e.kind, .int .i64 e.mode, .int .i64 e.time, .slice a e.data.length c, .string e.link] 30)) (.slice (some ⟨w.heap.size, 0, none⟩) 1 1) [e] := by
  refine ⟨entC (.slice a e.data.length c) e, RowAt.weak (row_new (cells := entC (.slice a e.data.length c) e) (new20 w _) rfl (by decide)) (fun _ _ => trivial), ⟨entC (.slice a e.data.length c) e, [], by simp, ⟨.slice a e.data.length c, rfl, ?_, hok⟩, rfl⟩⟩
  exact data_mono (hd.below ((Below.refl _ _).alloc (Nat.le_refl _) _)) (fun _ _ => trivial)
set_option maxRecDepth 100000 in
set_option maxHeartbeats 2000000 in
theorem wide_any (S : Nat → Prop) (l : List POp) (v : Value) (w : World) (hv : OpsAt S w v l) :
    Calls Tryz.prog 6 #[v] w (WideRes l w) := by
  have HV := Lib.hid hv
  obtain ⟨a, cap, rfl, hc, hm, -⟩ := SeqAt.shape hv OpR.len
  unfold maxLen at hm
  obtain ⟨n, hn⟩ : ∃ n, n = l.length := ⟨_, rfl⟩
  have HN := Lib.hid hn
  rw [← hn] at hc HV ⊢
  clear hv hn
  go_enter Tryz.func6, Tryz.ntmps6
  go_wp2_with fail
  go_loopw [7] (fun i wr => ∃ k : Nat, k ≤ n ∧ i = .int .i64 k ∧ (∀ x ∈ l.take k, SmallOp x) ∧ Below w.heap.size w wr) (fun i _ => n - (intOf i).toNat)
  case atStart => exact ⟨0, Nat.zero_le _, rfl, by simp, Below.refl _ _⟩
  case round =>
    obtain ⟨k, hk, rfl, hsm, hbr⟩ := hrel
    have HSM := Lib.hid hsm
    have HBR := Lib.hid hbr
    clear hsm hbr
    by_cases hlt : k < n
    · obtain ⟨x, hx⟩ : ∃ x, l[k]? = some x := ⟨l[k]'(by rw [← HN.out]; exact hlt), by simp⟩
      obtain ⟨b, o, dv, rfl, hb, hd, hok, hq⟩ := ops_at (HV.out.below HBR.out) hx
      obtain ⟨a1, cap1, rfl, hd1, hd2⟩ := hd.slice
      have q0 := hq 0 (by omega)
      have q1 := hq 1 (by omega)
      have q2 := hq 2 (by omega)
      have q3 := hq 3 (by omega)
      have q4 := hq 4 (by omega)
      have q5 := hq 5 (by omega)
      have q6 := hq 6 (by omega)
      have q7 := hq 7 (by omega)
      have q8 := hq 8 (by omega)
      have q9 := hq 9 (by omega)
      simp only [opC, List.getElem?_cons_succ, List.getElem?_cons_zero, Nat.add_zero] at q0 q1 q2 q3 q4 q5 q6 q7 q8 q9
      have HX := Lib.hid hx
      have HD := Lib.hid hd
      have HOK := Lib.hid hok
      have hp1 := hok.src
      have hl1 := hok.dst
      unfold maxLen at hd2 hp1 hl1
      clear hx hd hok hq
      have HBA := Lib.hid ((Below.refl wr.heap.size wr).alloc (Nat.le_refl _) (.cells #[.int .i64 x.kind, .string x.en.path, .int .i64 x.en.kind, .int .i64 x.en.mode, .int .i64 x.en.time, .slice a1 x.en.data.length cap1, .string x.en.link, .string x.src, .string x.dst, .bool x.below] 32))
      by_cases h1 : 600 < x.src.size
      · have h1' : decide (600 < x.src.size) = true := by simp [h1]
        go_wp2_with fail
        go_ret
        exact ⟨true, rfl, (fun h => by cases h), below_next HBR.out HBA.out⟩
      · have h1' : decide (600 < x.src.size) = false := by simp; omega
        by_cases h2 : 600 < x.dst.size
        · have h2' : decide (600 < x.dst.size) = true := by simp [h2]
          go_wp2_with fail
          go_ret
          exact ⟨true, rfl, (fun h => by cases h), below_next HBR.out HBA.out⟩
        · have h2' : decide (600 < x.dst.size) = false := by simp; omega
          go_wp2_with fail
          obtain ⟨W, hW⟩ : ∃ W, W = wr.alloc (.cells #[.int .i64 x.kind, .string x.en.path, .int .i64 x.en.kind, .int .i64 x.en.mode, .int .i64 x.en.time, .slice a1 x.en.data.length cap1, .string x.en.link, .string x.src, .string x.dst, .bool x.below] 32) := ⟨_, rfl⟩
          have hws : wr.heap.size + 1 = W.heap.size := by rw [hW]; simp
          have HBW := Lib.hid (show Below wr.heap.size wr W by rw [hW]; exact HBA.out)
          rw [← hW, hws]
          clear hW hws
          have HER := Lib.hid (ent_row (HD.out.below HBW.out) HOK.out.en)
          have HB4 := Lib.hid ((below_next HBR.out HBW.out).alloc (below_next HBR.out HBW.out).size (.cells #[.string x.en.path, .int .i64 x.en.kind, .int .i64 x.en.mode, .int .i64 x.en.time, .slice a1 x.en.data.length cap1, .string x.en.link] 30))
          refine (large_any (fun _ => True) [x.en] (.slice (some ⟨W.heap.size, 0, none⟩) 1 1) 1 _ HER.out).mono ?_
          rintro e w5 ⟨lb, rfl, hlg, hb5⟩
          have HB5 := Lib.hid (below_next HB4.out hb5)
          have HLG := Lib.hid hlg
          clear hlg hb5
          cases lb
          · go_wp2_with fail
            go_roundw
            case rel =>
              refine ⟨k + 1, by omega, by go_num, fun y hy => ?_, HB5.out⟩
              rw [List.take_add_one, HX.out] at hy
              rcases List.mem_append.1 hy with hy | hy
              · exact HSM.out y hy
              · simp only [Option.toList_some, List.mem_singleton] at hy
                rw [hy]; exact ⟨by omega, by omega, (HLG.out (by simp)).2 _ (by simp)⟩
            case measure => simp [intOf]; omega
          · go_wp2_with fail
            go_ret
            exact ⟨true, rfl, (fun h => by cases h), HB5.out⟩
    · have hk2 : k = n := by omega
      subst hk2
      go_wp2_with fail
      go_ret
      refine ⟨_, rfl, fun h => ⟨?_, fun x hx => HSM.out x (by rw [HN.out, List.take_length]; exact hx)⟩, HBR.out⟩
      rw [← HN.out]
      simp at h
      omega

end Go.Proofs.YtbkhdpocmmjnbaaGreatDoor

/- What the laws share: from the form's words (shaped, laid) to the walks' premises, and back. -/
namespace Go.Proofs.YtbkhdpocmmjnbaaGreatDoor
open Go.ChangeShapes Go.WideShapes Go.ChangeAt Go.RowKit Go.Lib Go.Shelf
open Go.ChangeMaps (open_string shut_string)

section
variable {H : Type} {enc : TypeId × Value → H}
/-- The wrap that hands on both the shape of the world and a further condition. -/
theorem handed {a : Assume} {C : Checked} {os : Os} {f : FuncId} {fn : Func} {s : ChangeSpec} {conds : List PathCond} {apart fresh handsOn again : Bool} {X : World → Array Value → Prop}
    (hX : ∀ (w w' : World) (args : Array Value), w.heap = w'.heap → X w args → X w' args)
    (own : ownKnob C.prog.godebug = none) (started : os.Started) (noInit : C.prog.inits.idxOf? f = none) (hfn : C.prog.funcs[f]? = some fn)
    (witness : ∃ (w : World) (tape : Tape) (i : Input), w.os = os ∧ (w.forCall tape i).Shaped C.prog ∧ i.vars = [] ∧ Input.okWide C.prog (w.forCall tape i) .any w.heap.size f i ∧
      ((s.pre enc C.prog fn conds apart (w.forCall tape i).memory i.args ∧ X (w.forCall tape i).memory i.args) ∧ sizedMet enc C.prog fn (OpenSpec.ofChange s) apart (w.forCall tape i).memory i.args) ∧ a.holds C.prog (lone (Frame.enter C.prog f i.args .normal) [] (w.forCall tape i)))
    (contract : ∀ (W : World) (base : Nat) (args : Array Value) (ds gs : List (DataW H)) (before : List MemPlace),
      (∀ (j : Nat) t v, fn.params[j]? = some t → args[j]? = some v → Value.okWide C.prog W .any base t v) →
      DataW.Whole enc C.prog fn.params.toList s.vars apart W args.toList ds gs before →
      (DataW.weightsEach C.prog (fn.params.toList ++ s.plain.varTypes C.prog) (ds ++ gs)).all (· ≤ reachBytes) = true → X W args → W.ShapedOpen C.prog →
      Calls C.prog f args W fun e W' => ∃ v, e = .returned v ∧ s.post enc C.prog fn apart fresh handsOn again W args v W') :
    ReturnsInHanded a C os f .any (fun w args => (s.pre enc C.prog fn conds apart w args ∧ X w args) ∧ sizedMet enc C.prog fn (OpenSpec.ofChange s) apart w args) (s.post enc C.prog fn apart fresh handsOn again) := by
  refine returnsInHanded_of_calls own started noInit witness ?_
  intro w tape i _ hsh _ hok hpre hholds
  obtain ⟨_, _, _, fn', hfn', _, _, _, _, hval⟩ := hok
  have e : fn' = fn := Option.some.inj (hfn'.symm.trans hfn)
  subst e
  obtain ⟨⟨⟨ds, gs, before, hw, hc⟩, hx⟩, hz⟩ := hpre
  have hw' := DataW.Whole.of_heap (w' := w.forCall tape i) (by rfl) hw
  refine (contract (w.forCall tape i) w.heap.size i.args ds gs before hval hw' (hz.weights hw) (hX _ _ _ (by rfl) hx) hsh).mono fun e W' ⟨v, he, hp⟩ => ?_
  subst he
  exact ChangeSpec.post_blind hp
end

def laidL : List (String × DataW Unit) := [("unicode/utf8.acceptRanges", Rows.laid_unicode_utf8_acceptRanges), ("unicode/utf8.first", Rows.laid_unicode_utf8_first)]
theorem own : ownKnob Tryz.prog.godebug = none := by kernel_rfl
theorem laidOut : laidOutB Tryz.prog = true := by kernel_rfl
theorem accept_eq : (Rows.laid_unicode_utf8_acceptRanges : DataW Unit) = acceptData := by kernel_rfl
theorem env_of {W : World} (hL : laidMetH Tryz.prog laidL W) (hsh : W.ShapedOpen Tryz.prog) : Env W := by
  rw [MakeChecks.laidMetH_plain _ _ _ (by kernel_rfl)] at hL
  refine ⟨?_, ?_⟩
  · exact cell_of_shapedOpen_int (zero := #[.int .i64 0]) (t := 3) hsh (of_decide_eq_true (by kernel_rfl)) (by kernel_rfl) rfl (by kernel_rfl) (by kernel_rfl) Tryz.underlying3
  · have h1 := Lib.laidMet.reads hL (.head _)
    have h2 := Lib.laidMet.reads hL (.tail _ (.head _))
    rw [accept_eq] at h1
    exact utf8Tabs_of_readsT (U8Types.of196 Tryz.laysValid) ⟨by kernel_rfl, by kernel_rfl, by kernel_rfl, by kernel_rfl, by kernel_rfl, by kernel_rfl, by kernel_rfl⟩ (Pinned.utf8First_eq ▸ h2) h1

end Go.Proofs.YtbkhdpocmmjnbaaGreatDoor

/- From the form's reading of slices and structs to the rows of the walks. -/
namespace Go.Proofs.YtbkhdpocmmjnbaaGreatDoor
open Go.ChangeShapes Go.WideShapes Go.ChangeAt Go.RowKit Go.Lib Go.Shelf

section
variable {H : Type} {enc : TypeId × Value → H} {P : Program} {W : World} {base : Nat}
theorem add_add (a : Addr) (i j : Nat) : (a.add i).add j = a.add (i + j) := by
  unfold Addr.add
  by_cases hi : i = 0
  · simp [hi]
  · by_cases hj : j = 0
    · simp [hi, hj]
    · simp [hi, hj]; omega
/-- A slice as it is read, its elements' cells read by R. -/
theorem seq_read {α : Type} {R : List Value → α → Prop} {t e : TypeId} {sz : Nat} {spare : Nat → Bool} {held : Bool} {fuel : Nat} {cs0 : List Value} {y0 : DataW H × List MemPlace} (ht : P.underlying t = some (.slice e)) (hc : P.cellsOf e = sz) (hpos : 0 < sz)
    (hR : ∀ n cs y, DataW.trod enc P W base spare held n e cs = some y → ∃ x, R cs x) (hs : ∀ c x, R c x → c.length = sz)
    (hf : DataW.trod enc P W base spare held fuel t cs0 = some y0) : ∃ v, cs0 = [v] ∧ ∃ xs : List α, SeqAt (fun _ => True) W sz R v xs := by
  rcases DataW.trod_slice ht hf with ⟨hcs, _⟩ | ⟨a, len0, cap0, elems, rest, n, _, hcs, _, hb, hl, hm, hlen, hel, _, _⟩
  · exact ⟨_, hcs, [], SeqAt.nil⟩
  · refine ⟨_, hcs, ?_⟩
    rw [hc] at hel
    have each : ∀ i, i < len0 → ∃ cs x, R cs x ∧ cs.length = sz ∧ ∀ j, j < sz → W.cell? (a.add (i * sz + j)) = cs[j]? := by
      intro i hi
      have h1 := hel i hi
      rw [List.getElem?_eq_getElem (by omega), Option.bind_eq_some_iff] at h1
      obtain ⟨cs, hcs, hy⟩ := h1
      obtain ⟨x, hx⟩ := hR n cs _ hy
      refine ⟨cs, x, hx, hs cs x hx, fun j hj => ?_⟩
      have h3 := World.cells?_some hcs
      rw [← add_add]
      exact h3.2.2 j hj
    have main : ∀ m, m ≤ len0 → ∃ (cells : List Value) (xs : List α), xs.length = m ∧ cells.length = m * sz ∧ RowsIn R cells xs ∧ ∀ (j : Nat) u, cells[j]? = some u → W.cell? (a.add j) = some u := by
      intro m
      induction m with
      | zero => intro _; exact ⟨[], [], rfl, by simp, rfl, fun j u hj => by simp at hj⟩
      | succ m ih =>
        intro hm
        obtain ⟨cells, xs, h1, h2, h3, h4⟩ := ih (by omega)
        obtain ⟨cs, x, hx, hcl, hcc⟩ := each m (by omega)
        refine ⟨cells ++ cs, xs ++ [x], by simp [h1], by rw [List.length_append, h2, hcl, Nat.add_mul]; omega, RowsIn.snoc h3 hx, fun j u hj => ?_⟩
        rcases Nat.lt_or_ge j cells.length with hj2 | hj2
        · rw [List.getElem?_append_left hj2] at hj; exact h4 j u hj
        · rw [List.getElem?_append_right hj2] at hj
          have hlt := (List.getElem?_eq_some_iff.1 hj).1
          have := hcc (j - cells.length) (by omega)
          rw [h2, show m * sz + (j - m * sz) = j by omega] at this
          rw [this, ← h2]; exact hj
    obtain ⟨cells, xs, h1, h2, h3, h4⟩ := main len0 (Nat.le_refl _)
    subst h1
    refine ⟨xs, cells, ⟨h2, some a, cap0, rfl, hl, hm, ?_⟩, h3⟩
    rcases Nat.eq_zero_or_pos xs.length with h0 | h0
    · exact .inl h0
    · right
      have hpl : 0 < cells.length := by rw [h2]; exact Nat.mul_pos h0 hpos
      have hc0 := h4 0 cells[0] (by simp [hpl])
      have hsp : a.spot = none := by simpa [Addr.add] using World.cell?_spot hc0
      obtain ⟨b, o, sp⟩ := a
      simp only at hsp
      subst hsp
      refine ⟨b, o, rfl, trivial, fun j u hj => ?_⟩
      have := h4 j u hj
      rw [add_lit] at this; exact this
/-- A slice that came in: its elements' cells, read by R. -/
theorem open_seq {α : Type} {R : List Value → α → Prop} {t e : TypeId} {sz b0 : Nat} {spare : Nat → Bool} {held : Bool} {v : Value} {d : DataW H} {ps : List MemPlace} (ht : P.underlying t = some (.slice e)) (hc : P.cellsOf e = sz) (hpos : 0 < sz)
    (hR : ∀ n cs y, DataW.trod enc P W base spare held n e cs = some y → ∃ x, R cs x) (hs : ∀ c x, R c x → c.length = sz)
    (hval : Value.okWide P W .any b0 t v) (h : DataW.Trod enc P W base spare held t v d ps) : ∃ xs : List α, SeqAt (fun _ => True) W sz R v xs := by
  obtain ⟨a0, len0, cap0, rfl⟩ := okWide_slice ht hval
  obtain ⟨fuel, hf⟩ := h
  obtain ⟨v, h1, h2⟩ := seq_read ht hc hpos hR hs hf
  simp [Value.cells] at h1
  subst h1
  exact h2
end

section
variable {H : Type} {enc : TypeId × Value → H} {W : World} {base b0 : Nat} {spare : Nat → Bool} {held : Bool} {v : Value} {d : DataW H} {ps : List MemPlace}
theorem field_read {P : Program} {t : TypeId} {fs : Array Field} {fuel : Nat} {cs : List Value} {x : DataW H × List MemPlace} (ht : P.underlying t = some (.struct fs)) (h : DataW.trod enc P W base spare held fuel t cs = some x) (i : Nat) {f : Field} (hf : fs[i]? = some f) :
    ∃ n y, DataW.trod enc P W base spare held n f.type ((cs.drop f.offset).take (P.cellsOf f.type)) = some y := by
  obtain ⟨xs, n, _, _, _, hlen, hF⟩ := DataW.trod_struct ht h
  have hi : i < xs.length := by rw [hlen]; exact (Array.getElem?_eq_some_iff.1 hf).1
  exact ⟨n, xs[i], by rw [hF i f hf]; simp [hi]⟩
theorem struct_len {P : Program} {t : TypeId} {fs : Array Field} {fuel : Nat} {cs : List Value} {x : DataW H × List MemPlace} (ht : P.underlying t = some (.struct fs)) (h : DataW.trod enc P W base spare held fuel t cs = some x) : cs.length = P.cellsOf t := by
  obtain ⟨xs, n, _, _, hl, _, _⟩ := DataW.trod_struct ht h
  exact hl
theorem cellsStr : Tryz.prog.cellsOf 9 = 1 := by kernel_rfl
theorem cellsInt : Tryz.prog.cellsOf 3 = 1 := by kernel_rfl
theorem cellsBool : Tryz.prog.cellsOf 4 = 1 := by kernel_rfl
theorem cellsU8 : Tryz.prog.cellsOf 5 = 1 := by kernel_rfl
theorem cellsData : Tryz.prog.cellsOf 28 = 1 := by kernel_rfl
theorem cellsEnt : Tryz.prog.cellsOf 30 = 6 := by kernel_rfl
theorem cellsOp : Tryz.prog.cellsOf 32 = 10 := by kernel_rfl
theorem list6 {α : Type} {cs : List α} (h : cs.length = 6) : ∃ c0 c1 c2 c3 c4 c5, cs = [c0, c1, c2, c3, c4, c5] := by
  match cs, h with
  | [c0, c1, c2, c3, c4, c5], _ => exact ⟨c0, c1, c2, c3, c4, c5, rfl⟩
theorem list10 {α : Type} {cs : List α} (h : cs.length = 10) : ∃ c0 c1 c2 c3 c4 c5 c6 c7 c8 c9, cs = [c0, c1, c2, c3, c4, c5, c6, c7, c8, c9] := by
  match cs, h with
  | [c0, c1, c2, c3, c4, c5, c6, c7, c8, c9], _ => exact ⟨c0, c1, c2, c3, c4, c5, c6, c7, c8, c9, rfl⟩
def ByteR (c : List Value) (b : UInt8) : Prop := c = [u8V b]
theorem read_byte {n : Nat} {cs : List Value} {y : DataW H × List MemPlace} (h : DataW.trod enc Tryz.prog W base spare held n 5 cs = some y) : ∃ b, ByteR cs b := by
  obtain ⟨a, e, _, hw⟩ := DataW.trod_int Tryz.underlying5 h
  have h1 : 0 ≤ a ∧ a ≤ 255 := by
    simp only [Lit.wf, Bool.and_eq_true, decide_eq_true_eq] at hw
    exact ⟨hw.1, hw.2⟩
  refine ⟨UInt8.ofNat a.toNat, ?_⟩
  unfold ByteR u8V
  rw [e, UInt8.toNat_ofNat_of_lt' (by show a.toNat < 256; omega), Int.toNat_of_nonneg h1.1]
theorem bytes_of_seq {S : Nat → Prop} {w : World} {v : Value} {bs : List UInt8} (h : SeqAt S w 1 ByteR v bs) : DataAt S w v bs := by
  obtain ⟨cells, h1, h2⟩ := h
  have : ∀ (bs : List UInt8) (cells : List Value), RowsIn ByteR cells bs → cells = bs.map u8V := by
    intro bs
    induction bs with
    | nil => intro cells h; exact h
    | cons x bs ih =>
      rintro cells ⟨c, rest, rfl, hc, hr⟩
      rw [ih rest hr, show c = [u8V x] from hc]; rfl
  rw [this bs cells h2] at h1
  exact h1
set_option maxRecDepth 100000 in
theorem read_data {n : Nat} {cs : List Value} {y : DataW H × List MemPlace} (h : DataW.trod enc Tryz.prog W base spare held n 28 cs = some y) : ∃ v, cs = [v] ∧ ∃ bs, DataAt (fun _ => True) W v bs := by
  obtain ⟨v, h1, bs, h2⟩ := seq_read (R := ByteR) Tryz.underlying28 cellsU8 (by omega) (fun n cs y hy => read_byte hy) (fun c x hc => by rw [show c = [u8V x] from hc]; rfl) h
  exact ⟨v, h1, bs, bytes_of_seq h2⟩
set_option maxRecDepth 100000 in
theorem read_ent {n : Nat} {cs : List Value} {y : DataW H × List MemPlace} (h : DataW.trod enc Tryz.prog W base spare held n 30 cs = some y) : ∃ e, EntR (fun _ => True) W cs e := by
  have hl := struct_len Tryz.underlying30 h
  rw [cellsEnt] at hl
  obtain ⟨c0, c1, c2, c3, c4, c5, rfl⟩ := list6 hl
  obtain ⟨n0, y0, h0⟩ := field_read Tryz.underlying30 h 0 rfl
  obtain ⟨n1, y1, h1⟩ := field_read Tryz.underlying30 h 1 rfl
  obtain ⟨n2, y2, h2⟩ := field_read Tryz.underlying30 h 2 rfl
  obtain ⟨n3, y3, h3⟩ := field_read Tryz.underlying30 h 3 rfl
  obtain ⟨n4, y4, h4⟩ := field_read Tryz.underlying30 h 4 rfl
  obtain ⟨n5, y5, h5⟩ := field_read Tryz.underlying30 h 5 rfl
  simp only [List.getElem_toArray, List.getElem_cons_zero, List.getElem_cons_succ, cellsStr, cellsInt, cellsData] at h0 h1 h2 h3 h4 h5
  obtain ⟨a0, e0, _, g0⟩ := DataW.trod_string Tryz.underlying9 h0
  obtain ⟨a1, e1, _, g1⟩ := DataW.trod_int Tryz.underlying3 h1
  obtain ⟨a2, e2, _, g2⟩ := DataW.trod_int Tryz.underlying3 h2
  obtain ⟨a3, e3, _, g3⟩ := DataW.trod_int Tryz.underlying3 h3
  obtain ⟨a4, e4, bs, g4⟩ := read_data h4
  obtain ⟨a5, e5, _, g5⟩ := DataW.trod_string Tryz.underlying9 h5
  simp at e0 e1 e2 e3 e4 e5
  subst e0 e1 e2 e3 e4 e5
  exact ⟨⟨a0, a1, a2, a3, bs, a5⟩, _, rfl, g4, ⟨g0, g5, g1, g2, g3⟩⟩
set_option maxRecDepth 100000 in
theorem read_op {n : Nat} {cs : List Value} {y : DataW H × List MemPlace} (h : DataW.trod enc Tryz.prog W base spare held n 32 cs = some y) : ∃ x, OpR (fun _ => True) W cs x := by
  have hl := struct_len Tryz.underlying32 h
  rw [cellsOp] at hl
  obtain ⟨c0, c1, c2, c3, c4, c5, c6, c7, c8, c9, rfl⟩ := list10 hl
  obtain ⟨n0, y0, h0⟩ := field_read Tryz.underlying32 h 0 rfl
  obtain ⟨n1, y1, h1⟩ := field_read Tryz.underlying32 h 1 rfl
  obtain ⟨n2, y2, h2⟩ := field_read Tryz.underlying32 h 2 rfl
  obtain ⟨n3, y3, h3⟩ := field_read Tryz.underlying32 h 3 rfl
  obtain ⟨n4, y4, h4⟩ := field_read Tryz.underlying32 h 4 rfl
  simp only [List.getElem_toArray, List.getElem_cons_zero, List.getElem_cons_succ, cellsStr, cellsInt, cellsBool, cellsEnt] at h0 h1 h2 h3 h4
  obtain ⟨a0, e0, _, g0⟩ := DataW.trod_int Tryz.underlying3 h0
  obtain ⟨x1, v1, e1, g1, g1'⟩ := read_ent h1
  obtain ⟨a2, e2, _, g2⟩ := DataW.trod_string Tryz.underlying9 h2
  obtain ⟨a3, e3, _, g3⟩ := DataW.trod_string Tryz.underlying9 h3
  obtain ⟨a4, e4, _⟩ := DataW.trod_bool Tryz.underlying4 h4
  simp [entC] at e0 e1 e2 e3 e4
  obtain ⟨b0, b1, b2, b3, b4, b5⟩ := e1
  subst e0 b0 b1 b2 b3 b4 b5 e2 e3 e4
  exact ⟨⟨a0, x1, a2, a3, a4⟩, _, rfl, g1, ⟨g1', g2, g3, g0⟩⟩
set_option maxRecDepth 100000 in
theorem open_ops (hval : Value.okWide Tryz.prog W .any b0 22 v) (h : DataW.Trod enc Tryz.prog W base spare held 22 v d ps) : ∃ xs, OpsAt (fun _ => True) W v xs :=
  @open_seq H enc Tryz.prog W base POp (OpR (fun _ => True) W) 22 32 10 b0 spare held v d ps Tryz.underlying22 cellsOp (by omega) (fun n cs y hy => read_op hy) OpR.len hval h
set_option maxRecDepth 100000 in
theorem open_ents (hval : Value.okWide Tryz.prog W .any b0 27 v) (h : DataW.Trod enc Tryz.prog W base spare held 27 v d ps) : ∃ xs, EntsAt (fun _ => True) W v xs :=
  @open_seq H enc Tryz.prog W base Ent (EntR (fun _ => True) W) 27 30 6 b0 spare held v d ps Tryz.underlying27 cellsEnt (by omega) (fun n cs y hy => read_ent hy) EntR.len hval h
theorem agg_of {v : Value} {l : List Value} (h : v.cells.toList = l) (hl : 1 < l.length) : v = .agg l.toArray := by
  cases v
  case agg cs => simp only [Value.cells] at h; rw [← h]
  all_goals (exfalso; simp only [Value.cells] at h; rw [← h] at hl; simp at hl)
theorem open_ent (h : DataW.Trod enc Tryz.prog W base spare held 30 v d ps) : ∃ dv e, v = entV dv e ∧ DataAt (fun _ => True) W dv e.data ∧ EntOk e := by
  obtain ⟨fuel, hf⟩ := h
  obtain ⟨e, dv, h1, h2, h3⟩ := read_ent hf
  exact ⟨dv, e, agg_of h1 (by simp), h2, h3⟩
theorem open_op (h : DataW.Trod enc Tryz.prog W base spare held 32 v d ps) : ∃ dv x, v = opV dv x ∧ DataAt (fun _ => True) W dv x.en.data ∧ OpOk x := by
  obtain ⟨fuel, hf⟩ := h
  obtain ⟨x, dv, h1, h2, h3⟩ := read_op hf
  exact ⟨dv, x, agg_of h1 (by simp), h2, h3⟩
end

end Go.Proofs.YtbkhdpocmmjnbaaGreatDoor

/- Contracts of package pathname: Clean, Join. -/
namespace Go.Proofs.YtbkhdpocmmjnbaaGreatDoor
open Go.RowKit

theorem clean_skip {ps acc : List (List UInt8)} {k : Nat} {p : List UInt8} (h : ps[k]? = some p) (hp : p = [] ∨ p = [46]) : cleanParts (ps.drop k) acc = cleanParts (ps.drop (k + 1)) acc := by
  obtain ⟨hk, rfl⟩ := List.getElem?_eq_some_iff.1 h
  rw [List.drop_eq_getElem_cons hk, cleanParts, if_pos hp]
theorem clean_up {ps acc : List (List UInt8)} {k : Nat} {p : List UInt8} (h : ps[k]? = some p) (hp : p = [46, 46]) (ha : acc ≠ []) : cleanParts (ps.drop k) acc = cleanParts (ps.drop (k + 1)) acc.dropLast := by
  obtain ⟨hk, rfl⟩ := List.getElem?_eq_some_iff.1 h
  rw [List.drop_eq_getElem_cons hk, cleanParts, hp]
  simp [ha]
theorem clean_out {ps : List (List UInt8)} {k : Nat} {p : List UInt8} (h : ps[k]? = some p) (hp : p = [46, 46]) : cleanParts (ps.drop k) [] = none := by
  obtain ⟨hk, rfl⟩ := List.getElem?_eq_some_iff.1 h
  rw [List.drop_eq_getElem_cons hk, cleanParts, hp]
  simp
theorem clean_add {ps acc : List (List UInt8)} {k : Nat} {p : List UInt8} (h : ps[k]? = some p) (h1 : p ≠ []) (h2 : p ≠ [46]) (h3 : p ≠ [46, 46]) : cleanParts (ps.drop k) acc = cleanParts (ps.drop (k + 1)) (acc ++ [p]) := by
  obtain ⟨hk, rfl⟩ := List.getElem?_eq_some_iff.1 h
  rw [List.drop_eq_getElem_cons hk, cleanParts]
  simp [h1, h2, h3]

/-- What Clean returns. -/
def cleanV (o : Option (List UInt8)) : Value := match o with
  | some l => .tuple #[.string ⟨l.toArray⟩, .int .i64 0]
  | none => .tuple #[.string ⟨#[]⟩, .int .i64 1]

def joinV (o : List UInt8 × Int) : Value := .tuple #[.string ⟨o.1.toArray⟩, .int .i64 o.2]

end Go.Proofs.YtbkhdpocmmjnbaaGreatDoor

/- Contracts of the specification of chapter 18: UTF8, plain, Divide, Unite, Component, Valid. -/
namespace Go.Proofs.YtbkhdpocmmjnbaaGreatDoor
open Go.RowKit

theorem reL_len (l : List UInt8) : (reL l).length ≤ 4 * l.length := by
  have h1 := runesL_length l
  have : ∀ rs : List Int, (rs.flatMap Lib.encodeRune).length ≤ 4 * rs.length := by
    intro rs
    induction rs with
    | nil => simp
    | cons r rs ih => rw [List.flatMap_cons, List.length_append, List.length_cons]; have := encodeRune_len r; omega
  have h2 := this (runesL l)
  unfold reL; omega
theorem decode_drop (s : ByteArray) (pos : Nat) : Lib.decodeL ((bl s).drop pos) = Utf8.decode s pos := Lib.decodeL_drop s pos
theorem drop_ne {s : ByteArray} {pos : Nat} (h : pos < s.size) : (bl s).drop pos ≠ [] := by
  intro e; have := List.drop_eq_nil_iff.1 e; rw [← size_bl] at this; omega
theorem utf8_next {s o : ByteArray} {pos : Nat} (hp : pos < s.size) (h : bl o ++ reL ((bl s).drop pos) = reL (bl s)) :
    bl (o ++ Utf8.encode ((Utf8.decode s pos).1 : Int)) ++ reL ((bl s).drop (pos + (Utf8.decode s pos).2)) = reL (bl s) := by
  rw [bl_append, ← h, reL_step _ (drop_ne hp), decode_drop, List.drop_drop, ← encode_lib, data_bl, List.append_assoc]

set_option maxHeartbeats 400000 in
theorem r_utf8_any (s : ByteArray) (w : World) (hs : s.size ≤ 16777216) :
    Calls Tryz.prog 88 #[.string s] w fun e w' => e = .returned (.bool (Lib.validD (bl s))) ∧ Below w.heap.size w w' := by
  go_enter Tryz.func88, Tryz.ntmps88
  go_wp2
  go_loopw [3] (fun v wr => ∃ (pos : Nat) (o : ByteArray), v = .string o ∧ wr = w.iter s pos ∧ o.size ≤ 67108864 ∧ bl o ++ reL ((bl s).drop pos) = reL (bl s)) (fun _ wr => s.size - wr.iterPos w.heap.size)
  case atStart => exact ⟨0, ⟨#[]⟩, rfl, rfl, by simp [ByteArray.size], by simp [bl]⟩
  case round =>
    obtain ⟨pos, o, rfl, rfl, ho, hrel2⟩ := hrel
    have HR := Lib.hid hrel2
    clear hrel2
    by_cases hp : pos < s.size
    · have hnx : ∀ ty, (Instr.next (.pointer (some ⟨w.heap.size, 0, none⟩)) true ty).run Tryz.prog (w.iter s pos) = _ := fun ty => run_next_any w s pos ty hp
      obtain ⟨r, hr⟩ : ∃ r, r = (Utf8.decode s pos).1 := ⟨_, rfl⟩
      obtain ⟨E, hE⟩ : ∃ E, E = Utf8.encode (r : Int) := ⟨_, rfl⟩
      have hcv : ∀ w', (convert 21 9 (.int .i32 (r : Int))).run Tryz.prog w' = .ok (.string E) w' := fun w' => by rw [hE]; exact run_convert_int_string w' _ _ .i32 _ (by rw [Tryz.underlying21]; rfl) Tryz.underlying9
      have hE4 : E.size ≤ 4 := by rw [hE]; exact encode_size_le _
      simp only [← hr] at hnx
      have HE := Lib.hid hE
      have HRR := Lib.hid hr
      clear hE hr
      go_wp2
      go_roundw
      case rel =>
        have hn : bl (o ++ E) ++ reL ((bl s).drop (pos + (Utf8.decode s pos).2)) = reL (bl s) := by rw [HE.out, HRR.out]; exact utf8_next hp HR.out
        refine ⟨pos + (Utf8.decode s pos).2, o ++ E, rfl, rfl, ?_, hn⟩
        have h1 := congrArg List.length hn
        have h2 := reL_len (bl s)
        rw [List.length_append, ← size_bl] at h1
        rw [← size_bl] at h2
        omega
      case measure =>
        rw [World.iterPos_iter, World.iterPos_iter]
        have := Lib.width_pos s pos
        omega
    · have hnx : ∀ ty, (Instr.next (.pointer (some ⟨w.heap.size, 0, none⟩)) true ty).run Tryz.prog (w.iter s pos) = _ := fun ty => run_next_end w s pos ty hp
      go_wp2
      go_ret
      refine ⟨ret_bool ?_, (Below.refl _ _).alloc (Nat.le_refl _) _⟩
      have h1 : bl o = reL (bl s) := by
        rw [← HR.out, List.drop_eq_nil_of_le (by rw [← size_bl]; omega), reL_nil, List.append_nil]
      rw [toList_bl, toList_bl, h1]
      exact reL_valid (bl s)

theorem lowFree_low {s : ByteArray} {j : Nat} (hj : j < s.size) (h : (s[j].toNat : Int) < 32) : lowFree (bl s) = false := by
  refine low_none hj ?_
  rw [get_bl s j hj, ← byte_bl s j hj]; omega

set_option maxHeartbeats 400000 in
theorem r_plain_any (s : ByteArray) (w : World) (hs : s.size ≤ 16777216) :
    Calls Tryz.prog 70 #[.string s] w fun e w' => e = .returned (.bool (textB (bl s))) ∧ Below w.heap.size w w' := by
  go_enter Tryz.func70, Tryz.ntmps70
  go_wp2
  go_loop [3] (fun i => ∃ k : Nat, k ≤ s.size ∧ i = .int .i64 k ∧ ∀ j, j < k → j < s.size → 32 ≤ (s.get! j).toNat) (fun i => s.size - (intOf i).toNat)
  case atStart => exact ⟨0, Nat.zero_le _, rfl, fun j hj => by omega⟩
  case round =>
    obtain ⟨k, hk, rfl, hlow⟩ := hrel
    have HL := Lib.hid hlow
    clear hlow
    by_cases hp : k < s.size
    · go_wp2
      · have hlt : (s[k].toNat : Int) < 32 := by assumption
        go_ret
        exact ⟨ret_bool (by simp [textB, lowFree_low hp hlt]), Below.refl _ _⟩
      · have hge : (32 : Int) ≤ (s[k].toNat : Int) := by assumption
        go_round
        case rel =>
          refine ⟨k + 1, by omega, by go_num, fun j hj hjs => ?_⟩
          rcases Nat.lt_or_ge j k with h | h
          · exact HL.out j h hjs
          · obtain rfl : j = k := by omega
            rw [get_bl s j hp, ← byte_bl s j hp]; omega
        case measure => simp [intOf] <;> omega
    · go_wp2_with (go_at_call 88; refine (r_utf8_any s _ hs).mono ?_; rintro e w' ⟨rfl, hb⟩)
      go_ret
      refine ⟨ret_bool ?_, hb⟩
      simp only [textB, low_all (fun j hj => HL.out j (by omega) hj), Bool.true_and]

/-- What Divide leaves. -/
def DivideOk (c : UInt8) (s : ByteArray) (w : World) (e : Ending) (w' : World) : Prop :=
  ∃ v xs, e = .returned v ∧ xs.map bl = splitL c (bl s) ∧ StrsAt (w.heap.size ≤ ·) w' v xs ∧ Below w.heap.size w w'
theorem divide_take {s : ByteArray} {c : UInt8} {ys : List ByteArray} {f k : Nat} (hk : k < s.size) (hf : f ≤ k) (h : splitL c (bl s) = ys.map bl ++ splitL c ((bl s).drop f)) (hn : ∀ j, f ≤ j → j < k → (s.get! j) ≠ c) (hc : s[k] = c) :
    splitL c (bl s) = (ys ++ [s.extract f k]).map bl ++ splitL c ((bl s).drop (k + 1)) := by
  have hk2 : k < (bl s).length := by rw [← size_bl]; exact hk
  have e : (bl s).drop f = bl (s.extract f k) ++ c :: (bl s).drop (k + 1) := by
    rw [bl_extract, ← hc, byte_bl s k hk, List.getElem_cons_drop, List.drop_take]
    have h2 := List.take_append_drop (k - f) ((bl s).drop f)
    rw [List.drop_drop, show f + (k - f) = k by omega] at h2
    exact h2.symm
  have hm : c ∉ bl (s.extract f k) := by
    intro hm
    obtain ⟨j, hj, ej⟩ := List.getElem_of_mem hm
    simp only [bl_extract] at hj ej
    rw [List.length_drop, List.length_take] at hj
    rw [List.getElem_drop, List.getElem_take] at ej
    exact hn (f + j) (by omega) (by omega) (by rw [get_bl s _ (by omega)]; exact ej)
  rw [h, e, splitL_append _ _ _ hm]; simp
theorem divide_last {s : ByteArray} {c : UInt8} {ys : List ByteArray} {f : Nat} (hf : f ≤ s.size) (h : splitL c (bl s) = ys.map bl ++ splitL c ((bl s).drop f)) (hn : ∀ j, f ≤ j → j < s.size → (s.get! j) ≠ c) :
    splitL c (bl s) = (ys ++ [s.extract f s.size]).map bl := by
  have e : (bl s).drop f = bl (s.extract f s.size) := by rw [bl_extract, size_bl, List.take_length]
  have hm : c ∉ (bl s).drop f := by
    intro hm
    obtain ⟨j, hj, ej⟩ := List.getElem_of_mem hm
    rw [List.length_drop, ← size_bl] at hj
    rw [List.getElem_drop] at ej
    exact hn (f + j) (by omega) (by omega) (by rw [get_bl s _ (by omega)]; exact ej)
  rw [h, splitL_whole _ _ hm, e]; simp

set_option maxHeartbeats 1000000 in
theorem r_divide_any (s : ByteArray) (w : World) (hs : s.size ≤ 16777216) : Calls Tryz.prog 55 #[.string s] w (DivideOk 47 s w) := by
  go_enter Tryz.func55, Tryz.ntmps55
  go_wp2_with fail
  go_loopw [3, 4, 5] (fun v fr i wr => ∃ (k f : Nat) (ys : List ByteArray), k ≤ s.size + 1 ∧ f ≤ k ∧ ys.length ≤ k ∧ i = .int .i64 k ∧ fr = .int .i64 f ∧ wr.ownsRow w.heap.size 9 1 v ys.length (ys.map Value.string) ∧ Below w.heap.size w wr ∧
      (k ≤ s.size → splitL 47 (bl s) = ys.map bl ++ splitL 47 ((bl s).drop f) ∧ ∀ j, f ≤ j → j < k → (s.get! j) ≠ 47) ∧ (k = s.size + 1 → splitL 47 (bl s) = ys.map bl)) (fun _ _ i _ => s.size + 1 - (intOf i).toNat)
  case atStart => exact ⟨0, 0, [], Nat.zero_le _, Nat.le_refl _, Nat.le_refl _, rfl, rfl, World.ownsRow_nil _ _ _ _, Below.refl _ _, fun _ => ⟨by simp, fun j _ hj => by omega⟩, fun h => by omega⟩
  case round =>
    obtain ⟨k, f, ys, hk, hf, hy, rfl, rfl, hown, hb, hr1, hr2⟩ := hrel
    have HO := Lib.hid hown
    have HB := Lib.hid hb
    have HR1 := Lib.hid hr1
    have HR2 := Lib.hid hr2
    have hsz : w.heap.size ≤ wr.heap.size := hb.size
    clear hown hb hr1 hr2
    by_cases hle : k ≤ s.size
    · by_cases hlt : k < s.size
      · have e1 : ((k : Int) == (s.size : Int)) = false := by rw [beq_eq_false_iff_ne]; omega
        by_cases hc : s[k] = 47
        · have e2 : ((s[k].toNat : Int) == (47 : UInt8).toNat) = true := by rw [hc]; rfl
          have e2' : ((s[k].toNat : Int) == 47) = true := e2
          have HCC := Lib.hid hc
          clear hc e2
          go_wp2_with (at_builtin; go_must (refine wpList_app1 Tryz.appStrings rfl _ _ rfl w.heap.size u3 ys.length (ys.map Value.string) rfl wr [.string (s.extract f k)] _ rfl rfl (by simp; rfl) HO.out (by omega) hsz ?_); intro v' w1 hown1 hgrow1 _)
          have HO1 := Lib.hid hown1
          have HG1 := Lib.hid hgrow1
          clear hown1 hgrow1
          go_wp2_with fail
          go_roundw
          case rel =>
            refine ⟨k + 1, k + 1, ys ++ [s.extract f k], by omega, Nat.le_refl _, by simp; omega, by go_num, by go_num, ?_, below_grown HB.out HO.out HG1.out (Nat.le_refl _) hsz, fun _ => ⟨divide_take hlt hf (HR1.out hle).1 (HR1.out hle).2 HCC.out, fun j h1 h2 => by omega⟩, fun h => by omega⟩
            have := HO1.out; simpa using this
          case measure => simp [intOf] <;> omega
        · have e2' : ((s[k].toNat : Int) == 47) = false := by
            rw [beq_eq_false_iff_ne]; intro e; apply hc; apply UInt8.toNat_inj.1; have : s[k].toNat = 47 := by omega
            rw [this]; rfl
          have HCC := Lib.hid hc
          clear hc
          go_wp2_with fail
          go_roundw
          case rel =>
            refine ⟨k + 1, f, ys, by omega, by omega, by omega, by go_num, rfl, HO.out, HB.out, fun _ => ⟨(HR1.out hle).1, fun j h1 h2 => ?_⟩, fun h => by omega⟩
            rcases Nat.lt_or_ge j k with h | h
            · exact (HR1.out hle).2 j h1 h
            · obtain rfl : j = k := by omega
              rw [get_bl s j hlt, ← byte_bl s j hlt]; exact HCC.out
          case measure => simp [intOf] <;> omega
      · obtain rfl : k = s.size := by omega
        have e1 : ((s.size : Int) == (s.size : Int)) = true := by simp
        go_wp2_with (at_builtin; go_must (refine wpList_app1 Tryz.appStrings rfl _ _ rfl w.heap.size u3 ys.length (ys.map Value.string) rfl wr [.string (s.extract f s.size)] _ rfl rfl (by simp; rfl) HO.out (by omega) hsz ?_); intro v' w1 hown1 hgrow1 _)
        have HO1 := Lib.hid hown1
        have HG1 := Lib.hid hgrow1
        clear hown1 hgrow1
        go_wp2_with fail
        go_roundw
        case rel =>
          refine ⟨s.size + 1, s.size + 1, ys ++ [s.extract f s.size], by omega, Nat.le_refl _, by simp; omega, by go_num, by go_num, ?_, below_grown HB.out HO.out HG1.out (Nat.le_refl _) hsz, fun h => by omega, fun _ => divide_last hf (HR1.out hle).1 (HR1.out hle).2⟩
          have := HO1.out; simpa using this
        case measure => simp [intOf] <;> omega
    · obtain ⟨a, cap, rfl, hn, hm⟩ := owns_shape HO.out
      go_wp2_with fail
      go_ret
      exact ⟨_, ys, rfl, (HR2.out (by omega)).symm, (row_of_owns HO.out).weak (fun k hk => hk.1), HB.out⟩
end Go.Proofs.YtbkhdpocmmjnbaaGreatDoor

/- Contracts of the specification of chapter 18: Unite, Component, Valid. -/
namespace Go.Proofs.YtbkhdpocmmjnbaaGreatDoor
open Go.RowKit

theorem take_unite {xs : List ByteArray} {k : Nat} {x : ByteArray} (hx : xs[k]? = some x) : uniteL ((xs.take (k + 1)).map bl) = if k = 0 then bl x else uniteL ((xs.take k).map bl) ++ [47] ++ bl x := by
  have hk := (List.getElem?_eq_some_iff.1 hx).1
  have e : (xs.take (k + 1)).map bl = (xs.take k).map bl ++ [bl x] := by rw [List.take_add_one, hx]; simp
  rw [e, uniteL_snoc]
  by_cases h : k = 0
  · subst h; simp
  · have h2 : (xs.take k).map bl ≠ [] := by
      intro e; have := congrArg List.length e; simp only [List.length_map, List.length_take, List.length_nil] at this; omega
    rw [if_neg h, if_neg h2]
theorem unite_take_len (xs : List ByteArray) (m : Nat) (h : ∀ x ∈ xs, x.size ≤ m) (k : Nat) : (uniteL ((xs.take k).map bl)).length ≤ xs.length * (m + 1) := by
  have h1 := uniteL_len ((xs.take k).map bl) m (fun p hp => by
    obtain ⟨y, hy, rfl⟩ := List.mem_map.1 hp
    have := h y (List.mem_of_mem_take hy)
    rw [← size_bl]; exact this)
  have h2 : ((xs.take k).map bl).length ≤ xs.length := by simp; omega
  exact Nat.le_trans h1 (Nat.mul_le_mul_right _ h2)

set_option maxHeartbeats 400000 in
theorem r_unite_any (xs : List ByteArray) (S : Nat → Prop) (v : Value) (w : World) (hv : StrsAt S w v xs) (hn : xs.length ≤ 65536) (hsz : ∀ x ∈ xs, x.size ≤ 65536) :
    Calls Tryz.prog 57 #[v] w fun e w' => e = .returned (.string ⟨(uniteL (xs.map bl)).toArray⟩) ∧ w = w' := by
  obtain ⟨a, cap, rfl, hc, hcm, hcell⟩ := hv.shape
  have HC := Lib.hid hcell
  have HS := Lib.hid hsz
  clear hv hcell hsz
  unfold maxLen at hcm
  go_enter Tryz.func57, Tryz.ntmps57
  go_wp2_with fail
  go_loop [3, 8] (fun o i => ∃ (k : Nat) (t : ByteArray), k ≤ xs.length ∧ i = .int .i64 k ∧ o = .string t ∧ bl t = uniteL ((xs.take k).map bl)) (fun _ i => xs.length - (intOf i).toNat)
  case atStart => exact ⟨0, ⟨#[]⟩, Nat.zero_le _, rfl, rfl, by simp [bl, uniteL, Lib.join_nil]⟩
  case round =>
    obtain ⟨k, t, hk, rfl, rfl, ht⟩ := hrel
    have hts : t.size ≤ 4295032832 := by
      rw [size_bl, ht]
      have := unite_take_len xs 65536 HS.out k
      have h2 : xs.length * (65536 + 1) ≤ 65536 * (65536 + 1) := Nat.mul_le_mul_right _ hn
      omega
    have HT := Lib.hid ht
    clear ht
    by_cases hlt : k < xs.length
    · obtain ⟨x, hx⟩ : ∃ x, xs[k]? = some x := ⟨xs[k], by simp [hlt]⟩
      obtain ⟨b, o, rfl, _, hcl⟩ := HC.out k x hx
      have hxs := HS.out x (List.mem_of_getElem? hx)
      have HX := Lib.hid hx
      clear hx
      by_cases h0 : k = 0
      · have e0 : decide ((0 : Int) < (k : Int)) = false := by simp [h0]
        have hle : ¬ (0 : Int) < (k : Int) := by omega
        have H0 := Lib.hid h0
        clear h0
        go_wp2_with fail
        go_round
        case rel =>
          refine ⟨k + 1, t ++ x, by omega, by go_num, rfl, ?_⟩
          rw [take_unite HX.out, if_pos H0.out, bl_append, HT.out, H0.out]; simp [uniteL, Lib.join_nil]
        case measure => simp [intOf]; omega
      · have h1 : (0 : Int) < (k : Int) := by omega
        have h1' : 0 < k := by omega
        have H0 := Lib.hid h0
        clear h0
        go_wp2_with fail
        go_round
        case rel =>
          refine ⟨k + 1, (t ++ ⟨#[47]⟩) ++ x, by omega, by go_num, rfl, ?_⟩
          rw [take_unite HX.out, if_neg H0.out, bl_append, bl_append, HT.out]; rfl
        case measure => simp [intOf]; omega
    · go_wp2_with fail
      go_ret
      refine ⟨?_, rfl⟩
      have : uniteL (xs.map bl) = bl t := by rw [HT.out, List.take_of_length_le (by omega)]
      rw [this, mk_bl]; rfl

theorem div_one {xs : List ByteArray} {s : ByteArray} (hx : xs.map bl = splitL 47 (bl s)) : ((xs.length : Int) == 1) = !(bl s).contains 47 := by
  rw [← compB_slash, ← hx, List.length_map, Bool.eq_iff_iff, beq_iff_eq, beq_iff_eq]; omega
set_option maxHeartbeats 1000000 in
theorem r_component_any (s : ByteArray) (w : World) (hs : s.size ≤ 16777216) :
    Calls Tryz.prog 56 #[.string s] w fun e w' => e = .returned (.bool (compB (bl s))) ∧ Below w.heap.size w w' := by
  go_enter Tryz.func56, Tryz.ntmps56
  go_wp2_with (first
    | (go_at_call 70; refine (r_plain_any s _ hs).mono ?_; rintro e w1 ⟨rfl, hb1⟩)
    | (go_at_call 55; refine (r_divide_any s _ hs).mono ?_; rintro e w2 ⟨v2, xs2, rfl, hx2, hv2, hb2⟩; obtain ⟨a2, c2, rfl, -, -, -⟩ := hv2.shape; have HX2 := Lib.hid hx2; clear hx2 hv2))
  all_goals (go_ret; refine ⟨ret_bool ?_, by first | exact Below.refl _ _ | exact below_next hb1 hb2 | exact hb1⟩)
  all_goals (rw [Bool.eq_iff_iff]; simp only [toList_bl] at *)
  all_goals (first | (have hq := div_one HX2.out; simp_all [compB, size_bl]; done) | (simp_all [compB, size_bl]; done) | (simp_all [compB, size_bl]; omega) | (have hq := div_one HX2.out; simp_all [compB, size_bl]; intro _; omega))

set_option maxHeartbeats 1000000 in
theorem r_valid_any (s : ByteArray) (w : World) (hs : s.size ≤ 16777216) :
    Calls Tryz.prog 36 #[.string s] w fun e w' => e = .returned (.bool (validP (bl s))) ∧ Below w.heap.size w w' := by
  go_enter Tryz.func36, Tryz.ntmps36
  go_wp2_with fail
  refine (r_divide_any s w hs).mono ?_
  rintro e w1 ⟨v, xs, rfl, hx, hv, hb1⟩
  obtain ⟨a, cap, rfl, hc, hcm, hcell⟩ := hv.shape
  have hxl : xs.length ≤ 16777217 := by
    have h1 : (splitL 47 (bl s)).length = xs.length := by rw [← hx]; simp
    have h2 := splitL_len_le 47 (bl s)
    rw [← size_bl] at h2
    omega
  have HX := Lib.hid hx
  have HC := Lib.hid hcell
  have HB1 := Lib.hid hb1
  clear hx hcell hb1 hv
  unfold maxLen at hcm
  go_wp2_with fail
  go_loopw [10] (fun i wr => ∃ k : Nat, k ≤ xs.length ∧ i = .int .i64 k ∧ Below w1.heap.size w1 wr ∧ ∀ (j : Nat) x, j < k → xs[j]? = some x → compB (bl x) = true) (fun i _ => xs.length - (intOf i).toNat)
  case atStart => exact ⟨0, Nat.zero_le _, rfl, Below.refl _ _, fun j x hj => by omega⟩
  case round =>
    obtain ⟨k, hk, rfl, hb, hall⟩ := hrel
    have HA := Lib.hid hall
    have HB := Lib.hid hb
    clear hall hb
    by_cases hlt : k < xs.length
    · obtain ⟨x, hx⟩ : ∃ x, xs[k]? = some x := ⟨xs[k], by simp [hlt]⟩
      obtain ⟨b, o, rfl, _, hcl⟩ := HC.out k x hx
      have hcell : wr.cell? ⟨b, o + k, none⟩ = some (.string x) := (HB.out.cell (p := ⟨b, o + k, none⟩) (block_lt hcl)).trans hcl
      have HK := Lib.hid hx
      have hxs : x.size ≤ 16777216 := by have := part_size HX.out hx; omega
      clear hx hcl
      cases hc : compB (bl x)
      · have HCc := Lib.hid hc
        clear hc
        go_wp2_with (go_at_call 56; refine (r_component_any x wr hxs).mono ?_; rintro e w' ⟨rfl, hb2⟩; rw [HCc.out])
        go_ret
        exact ⟨ret_bool (split_not HX.out HK.out HCc.out).symm, below_next (below_next HB1.out HB.out) hb2⟩
      · have HCc := Lib.hid hc
        clear hc
        go_wp2_with (go_at_call 56; refine (r_component_any x wr hxs).mono ?_; rintro e w' ⟨rfl, hb2⟩; rw [HCc.out])
        go_roundw
        case rel =>
          refine ⟨k + 1, by omega, by go_num, below_next HB.out hb2, fun j x' hj hx' => ?_⟩
          rcases Nat.lt_or_ge j k with h | h
          · exact HA.out j x' h hx'
          · obtain rfl : j = k := by omega
            have := HK.out.symm.trans hx'
            cases this
            exact HCc.out
        case measure => simp [intOf]; omega
    · go_wp2_with fail
      all_goals (go_ret; refine ⟨ret_bool ?_, below_next HB1.out HB.out⟩)
      all_goals (
        have ha : (splitL 47 (bl s)).all compB = true := by
          rw [← HX.out, List.all_map, List.all_eq_true]
          intro x hm
          obtain ⟨j, hj, rfl⟩ := List.getElem_of_mem hm
          exact HA.out j _ (by omega) (by simp)
        have hl : (splitL 47 (bl s)).length = xs.length := by rw [← HX.out]; simp
        rw [validP, ha, hl, Bool.and_true, ← size_bl, Bool.eq_iff_iff]
        simp_all <;> omega)

end Go.Proofs.YtbkhdpocmmjnbaaGreatDoor

/- Contracts of the specification kinkeepref20: Parent. -/
namespace Go.Proofs.YtbkhdpocmmjnbaaGreatDoor
open Go.RowKit Go.Maps

theorem strs_front {S : Nat → Prop} {w : World} {a : Option Addr} {n c : Nat} {xs : List ByteArray} (h : StrsAt S w (.slice a n c) xs) : StrsAt S w (.slice a (n - 1) c) xs.dropLast := by
  obtain ⟨hl, a', cap, he, hn, hm, h0⟩ := h
  simp only [Value.slice.injEq] at he
  obtain ⟨rfl, rfl, rfl⟩ := he
  refine ⟨by simp, a, c, by rw [List.length_dropLast], by rw [List.length_dropLast]; omega, hm, ?_⟩
  rcases h0 with h0 | ⟨b, o, ha, hb, hc⟩
  · left; rw [List.length_dropLast]; omega
  · right
    refine ⟨b, o, ha, hb, fun j u hj => hc j u ?_⟩
    rw [List.getElem?_map, List.getElem?_dropLast] at hj
    rw [List.getElem?_map]
    split at hj
    · exact hj
    · simp at hj
set_option maxRecDepth 100000 in
set_option maxHeartbeats 1000000 in
theorem r_parent20_any (s : ByteArray) (w : World) (hs : s.size ≤ 65000) :
    Calls Tryz.prog 38 #[.string s] w fun e w' => e = .returned (.string ⟨(parentL (bl s)).toArray⟩) ∧ Below w.heap.size w w' := by
  go_enter Tryz.func38, Tryz.ntmps38
  go_wp2_with (go_at_call 55; refine (r_divide_any s _ (by omega)).mono ?_; rintro e w1 ⟨v, xs, rfl, hx, hv, hb⟩; have HX := Lib.hid hx; have HB := Lib.hid hb; obtain ⟨a, c, rfl, hc, hm, -⟩ := hv.shape; have HV := Lib.hid hv; have hn1 : 1 ≤ xs.length := (by rw [← List.length_map (f := bl), hx]; exact splitL_pos 47 _); have hn2 : xs.length ≤ 65001 := (by rw [← List.length_map (f := bl), hx]; have := splitL_len_le 47 (bl s); rw [← size_bl] at this; omega); clear hx hv hb; unfold maxLen at hm)
  refine (r_unite_any xs.dropLast _ _ w1 (strs_front HV.out) (by rw [List.length_dropLast]; omega) (fun x hx => ?_)).mono ?_
  · have h1 : bl x ∈ splitL 47 (bl s) := by rw [← HX.out]; exact List.mem_map.2 ⟨x, List.dropLast_subset _ hx, rfl⟩
    have h2 := mem_split_le 47 (bl s) _ h1
    rw [← size_bl, ← size_bl] at h2
    omega
  · rintro e w2 ⟨rfl, rfl⟩
    go_wp2_with fail
    go_ret
    refine ⟨?_, HB.out⟩
    unfold parentL
    rw [← HX.out, ← List.map_dropLast]
    rfl

end Go.Proofs.YtbkhdpocmmjnbaaGreatDoor

/- Contracts of the specification kinkeepref20: Dir. -/
namespace Go.Proofs.YtbkhdpocmmjnbaaGreatDoor
open Go.RowKit Go.Maps

theorem r_find_is (S : Nat → Prop) (L : List Ent) (v : Value) (p : ByteArray) (x : Int) (w : World) (hv : EntsAt S w v L) (hx : findIx L p 0 = x) :
    Calls Tryz.prog 14 #[v, .string p] w fun e w' => e = .returned (.int .i64 x) ∧ Below w.heap.size w w' := by
  rw [← hx]; exact r_find_any S L v p w hv
theorem dirE_bl (L : List Ent) (p : ByteArray) : dirE L (bl p) = if bl p = [] then 0 else match findE L p with
  | none => 4
  | some e => if e.kind = 2 then 0 else 13 := by
  unfold dirE
  rw [mk_bl]
  cases findE L p <;> rfl
set_option maxRecDepth 100000 in
set_option maxHeartbeats 1000000 in
theorem r_dir_any (S : Nat → Prop) (L : List Ent) (v : Value) (p : ByteArray) (w : World) (hv : EntsAt S w v L) :
    Calls Tryz.prog 37 #[v, .string p] w fun e w' => e = .returned (.int .i64 (dirE L (bl p))) ∧ Below w.heap.size w w' := by
  have HV := Lib.hid hv
  by_cases h0 : bl p = []
  · have e1 : p.toList.isEmpty = true := by rw [empty20, decide_eq_true h0]
    have HR := Lib.hid (show dirE L (bl p) = 0 by rw [dirE_bl, if_pos h0])
    clear h0 hv
    go_enter Tryz.func37, Tryz.ntmps37
    go_wp2_with fail
    go_ret
    exact ⟨ret_int HR.out.symm, Below.refl _ _⟩
  · have e1 : p.toList.isEmpty = false := by rw [empty20, decide_eq_false h0]
    rcases findIx_spec (p := p) L 0 with ⟨h1, h2⟩ | ⟨j, f, h1, h2, h3⟩
    · have HR := Lib.hid (show dirE L (bl p) = 4 by rw [dirE_bl, if_neg h0, h1])
      have HI := Lib.hid h2
      clear h0 h1 h2 hv
      go_enter Tryz.func37, Tryz.ntmps37
      go_wp2_with (go_at_call 14; refine (r_find_is S L v p (-1) _ HV.out HI.out).mono ?_; rintro e w1 ⟨rfl, hb1⟩; have HB1 := Lib.hid hb1; clear hb1)
      go_ret
      exact ⟨ret_int HR.out.symm, HB1.out⟩
    · have HI := Lib.hid (show findIx L p 0 = (j : Int) by rw [h3]; simp)
      obtain ⟨a, cap, rfl, hc, hm, -⟩ := SeqAt.shape hv EntR.len
      have hjl : j < L.length := (List.getElem?_eq_some_iff.1 h2).1
      obtain ⟨n, hn⟩ : ∃ n, n = L.length := ⟨_, rfl⟩
      rw [← hn] at HV hc hjl ⊢
      obtain ⟨b, o, dv, rfl, -, hb, -, -, -, q0, q1, q2, q3, q4, q5⟩ := ents_at HV.out h2
      unfold maxLen at hm
      by_cases hk : f.kind = 2
      · have HR := Lib.hid (show dirE L (bl p) = 0 by rw [dirE_bl, if_neg h0, h1]; simp only [if_pos hk])
        have e2 : (f.kind != 2) = false := by simp [hk]
        clear h0 h1 h2 h3 hv hk hn q0 q2 q3 q4 q5
        go_enter Tryz.func37, Tryz.ntmps37
        go_wp2_with (go_at_call 14; refine (r_find_is S L _ p j _ HV.out HI.out).mono ?_; rintro e w1 ⟨rfl, hb1⟩; have q9 := (hb1.cell (block_lt q1)).trans q1; have HB1 := Lib.hid hb1; clear hb1)
        go_ret
        exact ⟨ret_int HR.out.symm, HB1.out⟩
      · have HR := Lib.hid (show dirE L (bl p) = 13 by rw [dirE_bl, if_neg h0, h1]; simp only [if_neg hk])
        have e2 : (f.kind != 2) = true := by simp [hk]
        clear h0 h1 h2 h3 hv hk hn q0 q2 q3 q4 q5
        go_enter Tryz.func37, Tryz.ntmps37
        go_wp2_with (go_at_call 14; refine (r_find_is S L _ p j _ HV.out HI.out).mono ?_; rintro e w1 ⟨rfl, hb1⟩; have q9 := (hb1.cell (block_lt q1)).trans q1; have HB1 := Lib.hid hb1; clear hb1)
        go_ret
        exact ⟨ret_int HR.out.symm, HB1.out⟩

end Go.Proofs.YtbkhdpocmmjnbaaGreatDoor

/- Contracts of the specification kinkeepref20: Valid. -/
namespace Go.Proofs.YtbkhdpocmmjnbaaGreatDoor
open Go.RowKit Go.Maps

theorem r_valid20_is (s : ByteArray) (b : Bool) (w : World) (hs : s.size ≤ 16777216) (h : validP (bl s) = b) : Calls Tryz.prog 36 #[.string s] w fun e w' => e = .returned (.bool b) ∧ Below w.heap.size w w' := by
  rw [← h]; exact r_valid_any s w hs
theorem noZero_iff {l : List UInt8} : l.contains 0 = false ↔ ∀ k : Nat, ∀ b, l[k]? = some b → b ≠ 0 := by
  rw [Bool.eq_false_iff, ne_eq, List.contains_iff_mem, List.mem_iff_getElem?]
  constructor
  · intro h k b hb e; subst e; exact h ⟨k, hb⟩
  · rintro h ⟨k, hk⟩; exact h k 0 hk rfl
theorem vKind_is {en : Ent} (h : (en.kind = 1 ∨ en.kind = 2 ∨ en.kind = 3) ∧ en.data.length ≤ 1048576 ∧ (en.kind = 1 ∨ en.data.length = 0)) (hz : (bl en.link).contains 0 = false) : vKind en = ((decide (en.kind = 3) == decide (en.link.size ≠ 0)) && decide (en.link.size ≤ 512)) := by
  obtain ⟨h1, h2, h3⟩ := h
  unfold vKind vLinkB
  rw [hz, ← size_bl]
  rcases h1 with h1 | h1 | h1
  · rw [if_pos h1, decide_eq_true h2, h1]
    by_cases hs : en.link.size = 0
    · simp [hs]
    · simp [hs]
  · have h4 : en.data.length = 0 := h3.resolve_left (by omega)
    rw [if_neg (by omega), if_pos h1, decide_eq_true h4, h1]
    by_cases hs : en.link.size = 0
    · simp [hs]
    · simp [hs]
  · have h4 : en.data.length = 0 := h3.resolve_left (by omega)
    rw [if_neg (by omega), if_neg (by omega), if_pos h1, decide_eq_true h4, h1]
    by_cases hs : en.link.size = 0
    · simp [hs]
    · rw [decide_eq_true (by omega : 1 ≤ en.link.size)]
      simp [hs]
set_option maxRecDepth 100000 in
set_option maxHeartbeats 4000000 in
theorem r_validE_any (S : Nat → Prop) (en : Ent) (v : Value) (w : World) (hd : DataAt S w v en.data) (hok : EntOk en) (hps : en.path.size ≤ 16777216) : Calls Tryz.prog 46 #[entV v en] w fun e w' => e = .returned (.bool (vEnt en)) ∧ Below w.heap.size w w' := by
  obtain ⟨a, cap, rfl, hc, hm⟩ := hd.slice
  unfold maxLen at hm
  have HPS := Lib.hid hps
  have hlk := hok.lnk
  unfold maxLen at hlk
  clear hok
  unfold entV
  cases hv : validP (bl en.path)
  · have HV := Lib.hid hv
    have HF := Lib.hid (show vEnt en = false by unfold vEnt; rw [hv]; rfl)
    clear hv
    go_enter Tryz.func46, Tryz.ntmps46
    go_wp2_with fail
    obtain ⟨W, hW⟩ : ∃ W, W = w.alloc (.cells #[.string en.path, .int .i64 en.kind, .int .i64 en.mode, .int .i64 en.time, .slice a en.data.length cap, .string en.link] 30) := ⟨_, rfl⟩
    rw [← hW]
    have HBW := Lib.hid (show Below w.heap.size w W by rw [hW]; exact (Below.refl _ _).alloc (Nat.le_refl _) _)
    have HBX := Lib.hid (show W.heap[w.heap.size]? = some (.cells #[.string en.path, .int .i64 en.kind, .int .i64 en.mode, .int .i64 en.time, .slice a en.data.length cap, .string en.link] 30 (0, 0)) by rw [hW]; exact new20 w _)
    clear hW
    refine (r_valid20_is en.path false _ HPS.out HV.out).mono ?_
    rintro e w1 ⟨rfl, hb1⟩
    have HB1 := Lib.hid (below_next HBW.out hb1)
    clear hb1
    go_wp2_with fail
    go_ret
    exact ⟨ret_bool (by rw [HF.out]), HB1.out⟩
  have HV := Lib.hid hv
  by_cases h1 : en.mode < 0
  · have e1 : decide (en.mode < 0) = true := by simp [h1]
    have HF := Lib.hid (show vEnt en = false by unfold vEnt vHeadE; rw [decide_eq_false (by omega : ¬ 0 ≤ en.mode)]; simp)
    clear hv
    go_enter Tryz.func46, Tryz.ntmps46
    go_wp2_with fail
    obtain ⟨W, hW⟩ : ∃ W, W = w.alloc (.cells #[.string en.path, .int .i64 en.kind, .int .i64 en.mode, .int .i64 en.time, .slice a en.data.length cap, .string en.link] 30) := ⟨_, rfl⟩
    rw [← hW]
    have HBW := Lib.hid (show Below w.heap.size w W by rw [hW]; exact (Below.refl _ _).alloc (Nat.le_refl _) _)
    have HBX := Lib.hid (show W.heap[w.heap.size]? = some (.cells #[.string en.path, .int .i64 en.kind, .int .i64 en.mode, .int .i64 en.time, .slice a en.data.length cap, .string en.link] 30 (0, 0)) by rw [hW]; exact new20 w _)
    clear hW
    refine (r_valid20_is en.path true _ HPS.out HV.out).mono ?_
    rintro e w1 ⟨rfl, hb1⟩
    have HB1 := Lib.hid (below_next HBW.out hb1)
    have HX1 := Lib.hid ((hb1.block w.heap.size (lt20 HBX.out)).trans HBX.out)
    clear hb1
    have c0 := cell20 (k := 0) HX1.out
    have c1 := cell20 (k := 1) HX1.out
    have c2 := cell20 (k := 2) HX1.out
    have c3 := cell20 (k := 3) HX1.out
    have c4 := cell20 (k := 4) HX1.out
    have c5 := cell20 (k := 5) HX1.out
    simp only [List.getElem?_toArray, List.getElem?_cons_succ, List.getElem?_cons_zero] at c0 c1 c2 c3 c4 c5
    go_wp2_with fail
    go_ret
    exact ⟨ret_bool (by rw [HF.out]), HB1.out⟩
  have e1 : decide (en.mode < 0) = false := by simp [h1]
  by_cases h2 : 511 < en.mode
  · have e2 : decide (511 < en.mode) = true := by simp [h2]
    have HF := Lib.hid (show vEnt en = false by unfold vEnt vHeadE; rw [decide_eq_false (by omega : ¬ en.mode ≤ 511)]; simp)
    clear hv
    go_enter Tryz.func46, Tryz.ntmps46
    go_wp2_with fail
    obtain ⟨W, hW⟩ : ∃ W, W = w.alloc (.cells #[.string en.path, .int .i64 en.kind, .int .i64 en.mode, .int .i64 en.time, .slice a en.data.length cap, .string en.link] 30) := ⟨_, rfl⟩
    rw [← hW]
    have HBW := Lib.hid (show Below w.heap.size w W by rw [hW]; exact (Below.refl _ _).alloc (Nat.le_refl _) _)
    have HBX := Lib.hid (show W.heap[w.heap.size]? = some (.cells #[.string en.path, .int .i64 en.kind, .int .i64 en.mode, .int .i64 en.time, .slice a en.data.length cap, .string en.link] 30 (0, 0)) by rw [hW]; exact new20 w _)
    clear hW
    refine (r_valid20_is en.path true _ HPS.out HV.out).mono ?_
    rintro e w1 ⟨rfl, hb1⟩
    have HB1 := Lib.hid (below_next HBW.out hb1)
    have HX1 := Lib.hid ((hb1.block w.heap.size (lt20 HBX.out)).trans HBX.out)
    clear hb1
    have c0 := cell20 (k := 0) HX1.out
    have c1 := cell20 (k := 1) HX1.out
    have c2 := cell20 (k := 2) HX1.out
    have c3 := cell20 (k := 3) HX1.out
    have c4 := cell20 (k := 4) HX1.out
    have c5 := cell20 (k := 5) HX1.out
    simp only [List.getElem?_toArray, List.getElem?_cons_succ, List.getElem?_cons_zero] at c0 c1 c2 c3 c4 c5
    go_wp2_with fail
    go_ret
    exact ⟨ret_bool (by rw [HF.out]), HB1.out⟩
  have e2 : decide (511 < en.mode) = false := by simp [h2]
  by_cases h3 : en.time < 0
  · have e3 : decide (en.time < 0) = true := by simp [h3]
    have HF := Lib.hid (show vEnt en = false by unfold vEnt vHeadE; rw [decide_eq_false (by omega : ¬ 0 ≤ en.time)]; simp)
    clear hv
    go_enter Tryz.func46, Tryz.ntmps46
    go_wp2_with fail
    obtain ⟨W, hW⟩ : ∃ W, W = w.alloc (.cells #[.string en.path, .int .i64 en.kind, .int .i64 en.mode, .int .i64 en.time, .slice a en.data.length cap, .string en.link] 30) := ⟨_, rfl⟩
    rw [← hW]
    have HBW := Lib.hid (show Below w.heap.size w W by rw [hW]; exact (Below.refl _ _).alloc (Nat.le_refl _) _)
    have HBX := Lib.hid (show W.heap[w.heap.size]? = some (.cells #[.string en.path, .int .i64 en.kind, .int .i64 en.mode, .int .i64 en.time, .slice a en.data.length cap, .string en.link] 30 (0, 0)) by rw [hW]; exact new20 w _)
    clear hW
    refine (r_valid20_is en.path true _ HPS.out HV.out).mono ?_
    rintro e w1 ⟨rfl, hb1⟩
    have HB1 := Lib.hid (below_next HBW.out hb1)
    have HX1 := Lib.hid ((hb1.block w.heap.size (lt20 HBX.out)).trans HBX.out)
    clear hb1
    have c0 := cell20 (k := 0) HX1.out
    have c1 := cell20 (k := 1) HX1.out
    have c2 := cell20 (k := 2) HX1.out
    have c3 := cell20 (k := 3) HX1.out
    have c4 := cell20 (k := 4) HX1.out
    have c5 := cell20 (k := 5) HX1.out
    simp only [List.getElem?_toArray, List.getElem?_cons_succ, List.getElem?_cons_zero] at c0 c1 c2 c3 c4 c5
    go_wp2_with fail
    go_ret
    exact ⟨ret_bool (by rw [HF.out]), HB1.out⟩
  have e3 : decide (en.time < 0) = false := by simp [h3]
  by_cases h4 : en.kind < 1
  · have e4 : decide (en.kind < 1) = true := by simp [h4]
    have HF := Lib.hid (show vEnt en = false by unfold vEnt vKind; rw [if_neg (by omega), if_neg (by omega), if_neg (by omega)]; simp)
    clear hv
    go_enter Tryz.func46, Tryz.ntmps46
    go_wp2_with fail
    obtain ⟨W, hW⟩ : ∃ W, W = w.alloc (.cells #[.string en.path, .int .i64 en.kind, .int .i64 en.mode, .int .i64 en.time, .slice a en.data.length cap, .string en.link] 30) := ⟨_, rfl⟩
    rw [← hW]
    have HBW := Lib.hid (show Below w.heap.size w W by rw [hW]; exact (Below.refl _ _).alloc (Nat.le_refl _) _)
    have HBX := Lib.hid (show W.heap[w.heap.size]? = some (.cells #[.string en.path, .int .i64 en.kind, .int .i64 en.mode, .int .i64 en.time, .slice a en.data.length cap, .string en.link] 30 (0, 0)) by rw [hW]; exact new20 w _)
    clear hW
    refine (r_valid20_is en.path true _ HPS.out HV.out).mono ?_
    rintro e w1 ⟨rfl, hb1⟩
    have HB1 := Lib.hid (below_next HBW.out hb1)
    have HX1 := Lib.hid ((hb1.block w.heap.size (lt20 HBX.out)).trans HBX.out)
    clear hb1
    have c0 := cell20 (k := 0) HX1.out
    have c1 := cell20 (k := 1) HX1.out
    have c2 := cell20 (k := 2) HX1.out
    have c3 := cell20 (k := 3) HX1.out
    have c4 := cell20 (k := 4) HX1.out
    have c5 := cell20 (k := 5) HX1.out
    simp only [List.getElem?_toArray, List.getElem?_cons_succ, List.getElem?_cons_zero] at c0 c1 c2 c3 c4 c5
    go_wp2_with fail
    go_ret
    exact ⟨ret_bool (by rw [HF.out]), HB1.out⟩
  have e4 : decide (en.kind < 1) = false := by simp [h4]
  by_cases h5 : 3 < en.kind
  · have e5 : decide (3 < en.kind) = true := by simp [h5]
    have HF := Lib.hid (show vEnt en = false by unfold vEnt vKind; rw [if_neg (by omega), if_neg (by omega), if_neg (by omega)]; simp)
    clear hv
    go_enter Tryz.func46, Tryz.ntmps46
    go_wp2_with fail
    obtain ⟨W, hW⟩ : ∃ W, W = w.alloc (.cells #[.string en.path, .int .i64 en.kind, .int .i64 en.mode, .int .i64 en.time, .slice a en.data.length cap, .string en.link] 30) := ⟨_, rfl⟩
    rw [← hW]
    have HBW := Lib.hid (show Below w.heap.size w W by rw [hW]; exact (Below.refl _ _).alloc (Nat.le_refl _) _)
    have HBX := Lib.hid (show W.heap[w.heap.size]? = some (.cells #[.string en.path, .int .i64 en.kind, .int .i64 en.mode, .int .i64 en.time, .slice a en.data.length cap, .string en.link] 30 (0, 0)) by rw [hW]; exact new20 w _)
    clear hW
    refine (r_valid20_is en.path true _ HPS.out HV.out).mono ?_
    rintro e w1 ⟨rfl, hb1⟩
    have HB1 := Lib.hid (below_next HBW.out hb1)
    have HX1 := Lib.hid ((hb1.block w.heap.size (lt20 HBX.out)).trans HBX.out)
    clear hb1
    have c0 := cell20 (k := 0) HX1.out
    have c1 := cell20 (k := 1) HX1.out
    have c2 := cell20 (k := 2) HX1.out
    have c3 := cell20 (k := 3) HX1.out
    have c4 := cell20 (k := 4) HX1.out
    have c5 := cell20 (k := 5) HX1.out
    simp only [List.getElem?_toArray, List.getElem?_cons_succ, List.getElem?_cons_zero] at c0 c1 c2 c3 c4 c5
    go_wp2_with fail
    go_ret
    exact ⟨ret_bool (by rw [HF.out]), HB1.out⟩
  have e5 : decide (3 < en.kind) = false := by simp [h5]
  have HHD := Lib.hid (show vEnt en = vKind en by
    unfold vEnt vHeadE
    rw [hv, decide_eq_true (by omega : 0 ≤ en.mode), decide_eq_true (by omega : en.mode ≤ 511), decide_eq_true (by omega : 0 ≤ en.time)]; simp)
  by_cases h6 : en.kind ≠ 1 ∧ 0 < en.data.length
  · have e6 : (en.kind != 1) = true := by simp [h6.1]
    have e7 : decide (0 < en.data.length) = true := by simp [h6.2]
    have e8 : 0 < en.data.length := h6.2
    have HF := Lib.hid (show vEnt en = false by
      rw [HHD.out]; unfold vKind; rw [if_neg h6.1, decide_eq_false (by omega : ¬ en.data.length = 0)]; simp)
    clear hv h6
    go_enter Tryz.func46, Tryz.ntmps46
    go_wp2_with fail
    obtain ⟨W, hW⟩ : ∃ W, W = w.alloc (.cells #[.string en.path, .int .i64 en.kind, .int .i64 en.mode, .int .i64 en.time, .slice a en.data.length cap, .string en.link] 30) := ⟨_, rfl⟩
    rw [← hW]
    have HBW := Lib.hid (show Below w.heap.size w W by rw [hW]; exact (Below.refl _ _).alloc (Nat.le_refl _) _)
    have HBX := Lib.hid (show W.heap[w.heap.size]? = some (.cells #[.string en.path, .int .i64 en.kind, .int .i64 en.mode, .int .i64 en.time, .slice a en.data.length cap, .string en.link] 30 (0, 0)) by rw [hW]; exact new20 w _)
    clear hW
    refine (r_valid20_is en.path true _ HPS.out HV.out).mono ?_
    rintro e w1 ⟨rfl, hb1⟩
    have HB1 := Lib.hid (below_next HBW.out hb1)
    have HX1 := Lib.hid ((hb1.block w.heap.size (lt20 HBX.out)).trans HBX.out)
    clear hb1
    have c0 := cell20 (k := 0) HX1.out
    have c1 := cell20 (k := 1) HX1.out
    have c2 := cell20 (k := 2) HX1.out
    have c3 := cell20 (k := 3) HX1.out
    have c4 := cell20 (k := 4) HX1.out
    have c5 := cell20 (k := 5) HX1.out
    simp only [List.getElem?_toArray, List.getElem?_cons_succ, List.getElem?_cons_zero] at c0 c1 c2 c3 c4 c5
    go_wp2_with fail
    go_ret
    exact ⟨ret_bool (by rw [HF.out]), HB1.out⟩
  by_cases h7 : 1048576 < en.data.length
  · have hk1 : en.kind = 1 := by
      by_cases hk : en.kind = 1
      · exact hk
      · exact absurd ⟨hk, by omega⟩ h6
    have e6 : (en.kind != 1) = false := by simp [hk1]
    have e7 : decide (1048576 < en.data.length) = true := by simp [h7]
    have HF := Lib.hid (show vEnt en = false by
      rw [HHD.out]; unfold vKind; rw [if_pos hk1, decide_eq_false (by omega : ¬ en.data.length ≤ 1048576)]; simp)
    clear hv h6 hk1
    go_enter Tryz.func46, Tryz.ntmps46
    go_wp2_with fail
    obtain ⟨W, hW⟩ : ∃ W, W = w.alloc (.cells #[.string en.path, .int .i64 en.kind, .int .i64 en.mode, .int .i64 en.time, .slice a en.data.length cap, .string en.link] 30) := ⟨_, rfl⟩
    rw [← hW]
    have HBW := Lib.hid (show Below w.heap.size w W by rw [hW]; exact (Below.refl _ _).alloc (Nat.le_refl _) _)
    have HBX := Lib.hid (show W.heap[w.heap.size]? = some (.cells #[.string en.path, .int .i64 en.kind, .int .i64 en.mode, .int .i64 en.time, .slice a en.data.length cap, .string en.link] 30 (0, 0)) by rw [hW]; exact new20 w _)
    clear hW
    refine (r_valid20_is en.path true _ HPS.out HV.out).mono ?_
    rintro e w1 ⟨rfl, hb1⟩
    have HB1 := Lib.hid (below_next HBW.out hb1)
    have HX1 := Lib.hid ((hb1.block w.heap.size (lt20 HBX.out)).trans HBX.out)
    clear hb1
    have c0 := cell20 (k := 0) HX1.out
    have c1 := cell20 (k := 1) HX1.out
    have c2 := cell20 (k := 2) HX1.out
    have c3 := cell20 (k := 3) HX1.out
    have c4 := cell20 (k := 4) HX1.out
    have c5 := cell20 (k := 5) HX1.out
    simp only [List.getElem?_toArray, List.getElem?_cons_succ, List.getElem?_cons_zero] at c0 c1 c2 c3 c4 c5
    go_wp2_with fail
    go_ret
    exact ⟨ret_bool (by rw [HF.out]), HB1.out⟩
  have e7 : decide (1048576 < en.data.length) = false := by simp; omega
  have HKD := Lib.hid (show (en.kind = 1 ∨ en.kind = 2 ∨ en.kind = 3) ∧ en.data.length ≤ 1048576 ∧ (en.kind = 1 ∨ en.data.length = 0) from ⟨by omega, by omega, by
    by_cases hk : en.kind = 1
    · exact .inl hk
    · exact .inr (by rcases Nat.eq_zero_or_pos en.data.length with h | h; exact h; exact absurd ⟨hk, h⟩ h6)⟩)
  clear hv
  by_cases hk1 : en.kind = 1
  · have e6 : (en.kind != 1) = false := by simp [hk1]
    clear h6 hk1
    go_enter Tryz.func46, Tryz.ntmps46
    go_wp2_with fail
    obtain ⟨W, hW⟩ : ∃ W, W = w.alloc (.cells #[.string en.path, .int .i64 en.kind, .int .i64 en.mode, .int .i64 en.time, .slice a en.data.length cap, .string en.link] 30) := ⟨_, rfl⟩
    rw [← hW]
    have HBW := Lib.hid (show Below w.heap.size w W by rw [hW]; exact (Below.refl _ _).alloc (Nat.le_refl _) _)
    have HBX := Lib.hid (show W.heap[w.heap.size]? = some (.cells #[.string en.path, .int .i64 en.kind, .int .i64 en.mode, .int .i64 en.time, .slice a en.data.length cap, .string en.link] 30 (0, 0)) by rw [hW]; exact new20 w _)
    clear hW
    refine (r_valid20_is en.path true _ HPS.out HV.out).mono ?_
    rintro e w1 ⟨rfl, hb1⟩
    have HB1 := Lib.hid (below_next HBW.out hb1)
    have HX1 := Lib.hid ((hb1.block w.heap.size (lt20 HBX.out)).trans HBX.out)
    clear hb1
    have c0 := cell20 (k := 0) HX1.out
    have c1 := cell20 (k := 1) HX1.out
    have c2 := cell20 (k := 2) HX1.out
    have c3 := cell20 (k := 3) HX1.out
    have c4 := cell20 (k := 4) HX1.out
    have c5 := cell20 (k := 5) HX1.out
    simp only [List.getElem?_toArray, List.getElem?_cons_succ, List.getElem?_cons_zero] at c0 c1 c2 c3 c4 c5
    go_wp2_with fail
    go_loopw [3] (fun i wr => ∃ k : Nat, k ≤ en.link.size ∧ i = .int .i64 k ∧ (∀ j b, j < k → (bl en.link)[j]? = some b → b ≠ 0) ∧ Below w1.heap.size w1 wr) (fun i _ => en.link.size - (intOf i).toNat)
    case atStart => exact ⟨0, Nat.zero_le _, rfl, fun _ _ h => absurd h (Nat.not_lt_zero _), Below.refl _ _⟩
    case round =>
      obtain ⟨k, hk, rfl, hz, hbr⟩ := hrel
      have HZ := Lib.hid hz
      have HBR := Lib.hid hbr
      have HXR := Lib.hid ((hbr.block w.heap.size (lt20 HX1.out)).trans HX1.out)
      clear hz hbr c0 c1 c2 c3 c4 c5
      have c0 := cell20 (k := 0) HXR.out
      have c1 := cell20 (k := 1) HXR.out
      have c2 := cell20 (k := 2) HXR.out
      have c3 := cell20 (k := 3) HXR.out
      have c4 := cell20 (k := 4) HXR.out
      have c5 := cell20 (k := 5) HXR.out
      simp only [List.getElem?_toArray, List.getElem?_cons_succ, List.getElem?_cons_zero] at c0 c1 c2 c3 c4 c5
      by_cases hlt : k < en.link.size
      · have HBY := Lib.hid (show (bl en.link)[k]? = some en.link[k] by rw [List.getElem?_eq_getElem (by rw [← size_bl]; exact hlt)]; rfl)
        by_cases h0 : (en.link[k]'hlt).toNat = 0
        · have HF := Lib.hid (show vEnt en = false by
            rw [HHD.out]
            unfold vKind
            have hne : ¬ en.link.size = 0 := by omega
            have hct : (bl en.link).contains 0 = true := by
              have h9 : en.link[k]'hlt = 0 := UInt8.toNat_inj.1 h0
              have := HBY.out
              rw [h9] at this
              exact List.contains_iff_mem.2 (List.mem_of_getElem? this)
            rw [decide_eq_false hne]
            unfold vLinkB
            rw [hct]
            simp)
          go_wp2_with fail
          go_ret
          exact ⟨ret_bool (by rw [HF.out]), below_next HB1.out HBR.out⟩
        · have HNZ := Lib.hid h0
          go_wp2_with fail
          go_roundw
          case rel =>
            refine ⟨k + 1, by omega, by go_num, fun j b hj hb e => ?_, HBR.out⟩
            by_cases hjk : j = k
            · subst hjk
              rw [HBY.out] at hb
              have := Option.some.inj hb
              subst this
              exact HNZ.out (by rw [e]; rfl)
            · exact HZ.out j b (by omega) hb e
          case measure => simp [intOf]; omega
      · have hk2 : k = en.link.size := by omega
        have HNO := Lib.hid (show (bl en.link).contains 0 = false from noZero_iff.2 (fun j b hj e => by
          have h1 := (List.getElem?_eq_some_iff.1 hj).1
          exact HZ.out j b (by rw [hk2, size_bl]; exact h1) hj e))
        have HVK := Lib.hid (vKind_is HKD.out HNO.out)
        have HEM := Lib.hid (show en.link.toList.isEmpty = !decide (en.link.size ≠ 0) by rw [empty20]; by_cases h : en.link.size = 0 <;> simp [h, size_zero.1, ← size_zero])
        obtain ⟨b3, hb3⟩ : ∃ b, decide (en.kind = 3) = b := ⟨_, rfl⟩
        obtain ⟨be, hbe⟩ : ∃ b, decide (en.link.size ≠ 0) = b := ⟨_, rfl⟩
        obtain ⟨b5, hb5⟩ : ∃ b, decide (en.link.size ≤ 512) = b := ⟨_, rfl⟩
        have f3 : (en.kind == 3) = b3 := by rw [← hb3]; rfl
        have fe := HEM.out
        rw [hbe] at fe
        have HRS := Lib.hid (show vEnt en = ((b3 == be) && b5) by rw [HHD.out, HVK.out, hb3, hbe, hb5])
        have HB5 := Lib.hid hb5
        clear hbe hlt hk hb3 hb5
        cases b3 <;> cases be <;> simp only [Bool.not_true, Bool.not_false] at fe <;> (go_wp2_with fail) <;> (go_ret) <;> exact ⟨ret_bool (by rw [HRS.out, ← HB5.out]; simp [show (((en.link.size : Nat) : Int) ≤ 512 ↔ en.link.size ≤ 512) from by omega]), below_next HB1.out HBR.out⟩
  · have e6 : (en.kind != 1) = true := by simp [hk1]
    have e8 : decide (0 < en.data.length) = false := by rw [decide_eq_false_iff_not]; exact fun h => h6 ⟨hk1, h⟩
    clear h6 hk1
    go_enter Tryz.func46, Tryz.ntmps46
    go_wp2_with fail
    obtain ⟨W, hW⟩ : ∃ W, W = w.alloc (.cells #[.string en.path, .int .i64 en.kind, .int .i64 en.mode, .int .i64 en.time, .slice a en.data.length cap, .string en.link] 30) := ⟨_, rfl⟩
    rw [← hW]
    have HBW := Lib.hid (show Below w.heap.size w W by rw [hW]; exact (Below.refl _ _).alloc (Nat.le_refl _) _)
    have HBX := Lib.hid (show W.heap[w.heap.size]? = some (.cells #[.string en.path, .int .i64 en.kind, .int .i64 en.mode, .int .i64 en.time, .slice a en.data.length cap, .string en.link] 30 (0, 0)) by rw [hW]; exact new20 w _)
    clear hW
    refine (r_valid20_is en.path true _ HPS.out HV.out).mono ?_
    rintro e w1 ⟨rfl, hb1⟩
    have HB1 := Lib.hid (below_next HBW.out hb1)
    have HX1 := Lib.hid ((hb1.block w.heap.size (lt20 HBX.out)).trans HBX.out)
    clear hb1
    have c0 := cell20 (k := 0) HX1.out
    have c1 := cell20 (k := 1) HX1.out
    have c2 := cell20 (k := 2) HX1.out
    have c3 := cell20 (k := 3) HX1.out
    have c4 := cell20 (k := 4) HX1.out
    have c5 := cell20 (k := 5) HX1.out
    simp only [List.getElem?_toArray, List.getElem?_cons_succ, List.getElem?_cons_zero] at c0 c1 c2 c3 c4 c5
    go_wp2_with fail
    go_loopw [3] (fun i wr => ∃ k : Nat, k ≤ en.link.size ∧ i = .int .i64 k ∧ (∀ j b, j < k → (bl en.link)[j]? = some b → b ≠ 0) ∧ Below w1.heap.size w1 wr) (fun i _ => en.link.size - (intOf i).toNat)
    case atStart => exact ⟨0, Nat.zero_le _, rfl, fun _ _ h => absurd h (Nat.not_lt_zero _), Below.refl _ _⟩
    case round =>
      obtain ⟨k, hk, rfl, hz, hbr⟩ := hrel
      have HZ := Lib.hid hz
      have HBR := Lib.hid hbr
      have HXR := Lib.hid ((hbr.block w.heap.size (lt20 HX1.out)).trans HX1.out)
      clear hz hbr c0 c1 c2 c3 c4 c5
      have c0 := cell20 (k := 0) HXR.out
      have c1 := cell20 (k := 1) HXR.out
      have c2 := cell20 (k := 2) HXR.out
      have c3 := cell20 (k := 3) HXR.out
      have c4 := cell20 (k := 4) HXR.out
      have c5 := cell20 (k := 5) HXR.out
      simp only [List.getElem?_toArray, List.getElem?_cons_succ, List.getElem?_cons_zero] at c0 c1 c2 c3 c4 c5
      by_cases hlt : k < en.link.size
      · have HBY := Lib.hid (show (bl en.link)[k]? = some en.link[k] by rw [List.getElem?_eq_getElem (by rw [← size_bl]; exact hlt)]; rfl)
        by_cases h0 : (en.link[k]'hlt).toNat = 0
        · have HF := Lib.hid (show vEnt en = false by
            rw [HHD.out]
            unfold vKind
            have hne : ¬ en.link.size = 0 := by omega
            have hct : (bl en.link).contains 0 = true := by
              have h9 : en.link[k]'hlt = 0 := UInt8.toNat_inj.1 h0
              have := HBY.out
              rw [h9] at this
              exact List.contains_iff_mem.2 (List.mem_of_getElem? this)
            rw [decide_eq_false hne]
            unfold vLinkB
            rw [hct]
            simp)
          go_wp2_with fail
          go_ret
          exact ⟨ret_bool (by rw [HF.out]), below_next HB1.out HBR.out⟩
        · have HNZ := Lib.hid h0
          go_wp2_with fail
          go_roundw
          case rel =>
            refine ⟨k + 1, by omega, by go_num, fun j b hj hb e => ?_, HBR.out⟩
            by_cases hjk : j = k
            · subst hjk
              rw [HBY.out] at hb
              have := Option.some.inj hb
              subst this
              exact HNZ.out (by rw [e]; rfl)
            · exact HZ.out j b (by omega) hb e
          case measure => simp [intOf]; omega
      · have hk2 : k = en.link.size := by omega
        have HNO := Lib.hid (show (bl en.link).contains 0 = false from noZero_iff.2 (fun j b hj e => by
          have h1 := (List.getElem?_eq_some_iff.1 hj).1
          exact HZ.out j b (by rw [hk2, size_bl]; exact h1) hj e))
        have HVK := Lib.hid (vKind_is HKD.out HNO.out)
        have HEM := Lib.hid (show en.link.toList.isEmpty = !decide (en.link.size ≠ 0) by rw [empty20]; by_cases h : en.link.size = 0 <;> simp [h, size_zero.1, ← size_zero])
        obtain ⟨b3, hb3⟩ : ∃ b, decide (en.kind = 3) = b := ⟨_, rfl⟩
        obtain ⟨be, hbe⟩ : ∃ b, decide (en.link.size ≠ 0) = b := ⟨_, rfl⟩
        obtain ⟨b5, hb5⟩ : ∃ b, decide (en.link.size ≤ 512) = b := ⟨_, rfl⟩
        have f3 : (en.kind == 3) = b3 := by rw [← hb3]; rfl
        have fe := HEM.out
        rw [hbe] at fe
        have HRS := Lib.hid (show vEnt en = ((b3 == be) && b5) by rw [HHD.out, HVK.out, hb3, hbe, hb5])
        have HB5 := Lib.hid hb5
        clear hbe hlt hk hb3 hb5
        cases b3 <;> cases be <;> simp only [Bool.not_true, Bool.not_false] at fe <;> (go_wp2_with fail) <;> (go_ret) <;> exact ⟨ret_bool (by rw [HRS.out, ← HB5.out]; simp [show (((en.link.size : Nat) : Int) ≤ 512 ↔ en.link.size ≤ 512) from by omega]), below_next HB1.out HBR.out⟩

end Go.Proofs.YtbkhdpocmmjnbaaGreatDoor

/- Contracts of the specification of chapter 18: rank, Compare, Within (chapter 18's own text, cut). -/
namespace Go.Proofs.YtbkhdpocmmjnbaaGreatDoor
open Go.RowKit

theorem r_rank_any (c : Int) (w : World) (h0 : 0 ≤ c) (h1 : c ≤ 255) : Calls Tryz.prog 72 #[.int .u8 c] w fun e w' => e = .returned (.int .i64 (rankI c)) ∧ w = w' := by
  by_cases h : c = 47
  · subst h
    go_enter Tryz.func72, Tryz.ntmps72
    go_wp2
    go_ret
    exact ⟨rfl, rfl⟩
  · have hr : rankI c = c := if_neg h
    have HR := Lib.hid hr
    clear hr
    have h2 : (c == 47) = false := by simpa using h
    go_enter Tryz.func72, Tryz.ntmps72
    go_wp2
    go_ret
    exact ⟨ret_int HR.out.symm, rfl⟩
theorem r_rank_is (c : UInt8) (r : Int) (w : World) (h : rankL c = r) : Calls Tryz.prog 72 #[.int .u8 c.toNat] w fun e w' => e = .returned (.int .i64 r) ∧ w = w' := by
  rw [← h, ← rank_int]; exact r_rank_any _ w (by omega) (by have := c.toNat_lt; omega)
theorem rankI_bd (c : UInt8) : -1 ≤ rankL c ∧ rankL c ≤ 255 := by
  have := c.toNat_lt
  unfold rankL; split <;> omega

set_option maxHeartbeats 1000000 in
theorem r_compare_any (a b : ByteArray) (w : World) (ha : a.size ≤ 65536) :
    Calls Tryz.prog 60 #[.string a, .string b] w fun e w' => e = .returned (.int .i64 (cmpL (bl a) (bl b))) ∧ Below w.heap.size w w' := by
  go_enter Tryz.func60, Tryz.ntmps60
  go_wp2_with fail
  go_loopw [5] (fun i wr => ∃ k : Nat, k ≤ a.size ∧ k ≤ b.size ∧ i = .int .i64 k ∧ Below w.heap.size w wr ∧ cmpL (bl a) (bl b) = cmpL ((bl a).drop k) ((bl b).drop k)) (fun i _ => a.size - (intOf i).toNat)
  case atStart => exact ⟨0, Nat.zero_le _, Nat.zero_le _, rfl, Below.refl _ _, rfl⟩
  case round =>
    obtain ⟨k, hk1, hk2, rfl, hbw, hc⟩ := hrel
    have HC := Lib.hid hc
    have HB := Lib.hid hbw
    clear hc hbw
    by_cases hla : k < a.size
    · by_cases hlb : k < b.size
      · have i1 : (k : Int) < (a.size : Int) := by omega
        have i2 : (k : Int) < (b.size : Int) := by omega
        have hla' : k < (bl a).length := by rw [← size_bl]; exact hla
        have hlb' : k < (bl b).length := by rw [← size_bl]; exact hlb
        have hr1 := (a[k]).toNat_lt
        have hr2 := (b[k]).toNat_lt
        have hxa : rankL (bl a)[k] = rankI (a[k].toNat : Int) := by rw [rank_int]; exact congrArg rankL (byte_bl a k hla).symm
        have hyb : rankL (bl b)[k] = rankI (b[k].toNat : Int) := by rw [rank_int]; exact congrArg rankL (byte_bl b k hlb).symm
        have HXA := Lib.hid hxa
        have HYB := Lib.hid hyb
        clear hxa hyb
        rcases Int.lt_trichotomy (rankI (a[k].toNat : Int)) (rankI (b[k].toNat : Int)) with hxy | hxy | hxy
        · have HXY := Lib.hid hxy
          go_wp2_with fail
          go_quiet ((go_at_call 72; refine quietL (r_rank_any _ _ (by omega) (by omega))))
          go_wp2_with fail
          go_ret
          refine ⟨ret_int ?_, below_draws HB.out _⟩
          have hne : (bl a)[k] ≠ (bl b)[k] := by intro e; have := HXY.out; rw [← HXA.out, ← HYB.out, e] at this; omega
          rw [HC.out, cmp_stop hla' hlb' hne, HXA.out, HYB.out, Lib.compareInt, if_pos HXY.out]
        · have e1 : ¬ rankI (a[k].toNat : Int) < rankI (b[k].toNat : Int) := by omega
          have e2 : ¬ rankI (b[k].toNat : Int) < rankI (a[k].toNat : Int) := by omega
          have HXY := Lib.hid hxy
          clear hxy
          go_wp2_with fail
          go_quiet ((go_at_call 72; refine quietL (r_rank_any _ _ (by omega) (by omega))))
          go_wp2_with fail
          have hW : ∃ W, W = wr.drewN nq ∧ Below w.heap.size w W := ⟨_, rfl, below_draws HB.out nq⟩
          obtain ⟨W, hWe, hWb⟩ := hW
          rw [← hWe]
          have HB2 := Lib.hid hWb
          clear hWe hWb HB
          go_quiet ((go_at_call 72; refine quietL (r_rank_any _ _ (by omega) (by omega))))
          go_wp2_with fail
          go_roundw
          case rel =>
            refine ⟨k + 1, by omega, by omega, by go_num, below_draws HB2.out _, ?_⟩
            rw [HC.out]
            exact cmp_take hla' hlb' (rankL_inj (HXA.out.trans (HXY.out.trans HYB.out.symm)))
          case measure => simp [intOf]; omega
        · have e1 : ¬ rankI (a[k].toNat : Int) < rankI (b[k].toNat : Int) := by omega
          have HXY := Lib.hid hxy
          go_wp2_with fail
          go_quiet ((go_at_call 72; refine quietL (r_rank_any _ _ (by omega) (by omega))))
          go_wp2_with fail
          have hW : ∃ W, W = wr.drewN nq ∧ Below w.heap.size w W := ⟨_, rfl, below_draws HB.out nq⟩
          obtain ⟨W, hWe, hWb⟩ := hW
          rw [← hWe]
          have HB2 := Lib.hid hWb
          clear hWe hWb HB
          go_quiet ((go_at_call 72; refine quietL (r_rank_any _ _ (by omega) (by omega))))
          go_wp2_with fail
          go_ret
          refine ⟨ret_int ?_, below_draws HB2.out _⟩
          have hne : (bl a)[k] ≠ (bl b)[k] := by intro e; have := HXY.out; rw [← HXA.out, ← HYB.out, e] at this; omega
          rw [HC.out, cmp_stop hla' hlb' hne, HXA.out, HYB.out, Lib.compareInt, if_neg (by have := HXY.out; omega), if_pos HXY.out]
      · obtain rfl : k = b.size := by omega
        have i2 : decide ((b.size : Int) < (b.size : Int)) = false := by simp
        have i3 : (b.size : Int) < (a.size : Int) := by omega
        go_wp2_with fail
        go_ret
        refine ⟨ret_int ?_, HB.out⟩
        rw [HC.out, cmp_end (by rw [← size_bl]; omega) (by rw [← size_bl]; exact Nat.le_refl _) (.inr (by rw [← size_bl])), ← size_bl, ← size_bl, Lib.compareInt, if_neg (by omega), if_pos (by omega)]
    · obtain rfl : k = a.size := by omega
      rcases Nat.lt_or_ge a.size b.size with hlb | hlb
      · have i3 : (a.size : Int) < (b.size : Int) := by omega
        go_wp2_with fail
        go_ret
        refine ⟨ret_int ?_, HB.out⟩
        rw [HC.out, cmp_end (by rw [← size_bl]; exact Nat.le_refl _) (by rw [← size_bl]; omega) (.inl (by rw [← size_bl])), ← size_bl, ← size_bl, Lib.compareInt, if_pos (by omega)]
      · obtain heq : a.size = b.size := by omega
        have HEQ := Lib.hid heq
        have i3 : ¬ (a.size : Int) < (b.size : Int) := by omega
        have i4 : ¬ (b.size : Int) < (a.size : Int) := by omega
        clear heq
        go_wp2_with fail
        go_ret
        refine ⟨ret_int ?_, HB.out⟩
        rw [HC.out, cmp_end (by rw [← size_bl]; exact Nat.le_refl _) (by rw [← size_bl]; omega) (.inl (by rw [← size_bl])), ← size_bl, ← size_bl, Lib.compareInt, if_neg (by omega), if_neg (by omega)]

theorem r_valid_is (s : ByteArray) (o : Bool) (w : World) (hs : s.size ≤ 16777216) (h : validP (bl s) = o) : Calls Tryz.prog 36 #[.string s] w fun e w' => e = .returned (.bool o) ∧ Below w.heap.size w w' := by rw [← h]; exact r_valid_any s w hs
theorem prefix_iff {p d : ByteArray} (h : d.size < p.size) : Lib.hasPrefix (bl p) (bl d ++ [47]) = (((p.extract 0 d.size).toList == d.toList) && ((p[d.size].toNat : Int) == 47)) := by
  have h2 : d.size < (bl p).length := by rw [← size_bl]; exact h
  have e1 : bl p = (bl p).take d.size ++ (bl p)[d.size] :: (bl p).drop (d.size + 1) := by simp
  rw [toList_bl, toList_bl, bl_extract, List.drop_zero, byte_bl p d.size h]
  have h47 : (((bl p)[d.size].toNat : Int) == 47) = ((bl p)[d.size] == 47) := by
    rw [Bool.eq_iff_iff, beq_iff_eq, beq_iff_eq]
    constructor
    · exact byte47 _
    · intro e; rw [e]; rfl
  rw [h47]
  generalize (bl p)[d.size] = c at *
  have hl : ((bl p).take d.size).length = (bl d).length := by rw [List.length_take, ← size_bl, ← size_bl]; omega
  generalize (bl p).take d.size = q at *
  generalize (bl p).drop (d.size + 1) = r at *
  rw [e1]
  unfold Lib.hasPrefix
  rw [Bool.eq_iff_iff, List.isPrefixOf_iff_prefix, Bool.and_eq_true, beq_iff_eq, beq_iff_eq]
  constructor
  · rintro ⟨s, hs⟩
    rw [List.append_assoc] at hs
    have := List.append_inj hs hl.symm
    refine ⟨this.1.symm, ?_⟩
    have h3 := this.2
    simp at h3
    exact h3.1.symm
  · rintro ⟨rfl, rfl⟩
    exact ⟨r, by simp⟩
set_option maxHeartbeats 1000000 in
theorem r_within_any (d p : ByteArray) (w : World) (hd : d.size ≤ 65536) (hp : p.size ≤ 65536) :
    Calls Tryz.prog 39 #[.string d, .string p] w fun e w' => e = .returned (.bool (withinB (bl d) (bl p))) ∧ Below w.heap.size w w' := by
  cases hv : validP (bl p)
  · have HV := Lib.hid hv
    clear hv
    go_enter Tryz.func39, Tryz.ntmps39
    go_wp2_with fail
    refine (r_valid_is p _ _ (by omega) HV.out).mono ?_
    rintro e w1 ⟨rfl, hb1⟩
    have HB1 := Lib.hid hb1
    clear hb1
    go_wp2_with fail
    go_ret
    exact ⟨ret_bool (by simp [withinB, HV.out]), HB1.out⟩
  · have HV := Lib.hid hv
    clear hv
    by_cases h0 : bl d = []
    · have e0 : d.toList.isEmpty = true := by rw [toList_bl, h0]; rfl
      have es : d.size = 0 := by rw [size_bl, h0]; rfl
      have es2 : ((d.size : Int) == 0) = true := by rw [es]; rfl
      have H0 := Lib.hid h0
      clear h0 es
      go_enter Tryz.func39, Tryz.ntmps39
      go_wp2_with fail
      refine (r_valid_is p _ _ (by omega) HV.out).mono ?_
      rintro e w1 ⟨rfl, hb1⟩
      have HB1 := Lib.hid hb1
      clear hb1
      go_wp2_with fail
      go_ret
      exact ⟨ret_bool (by simp [withinB, HV.out, H0.out]), HB1.out⟩
    · have e0 : d.toList.isEmpty = false := by rw [toList_bl]; simpa using h0
      have es2 : ((d.size : Int) == 0) = false := by
        rw [beq_eq_false_iff_ne]; intro e; apply h0; apply List.eq_nil_of_length_eq_zero; rw [← size_bl]; omega
      have hI : (bl d).isEmpty = false := by simpa using h0
      have HI := Lib.hid hI
      clear h0 hI
      cases hvd : validP (bl d)
      · have HVD := Lib.hid hvd
        clear hvd
        have hw : withinB (bl d) (bl p) = false := by
          unfold withinB; rw [HV.out, HI.out, HVD.out]
          simp; intro e; rw [e, HV.out] at HVD; exact absurd HVD.out (by simp)
        have HW := Lib.hid hw
        clear hw
        go_enter Tryz.func39, Tryz.ntmps39
        go_wp2_with fail
        refine (r_valid_is p _ _ (by omega) HV.out).mono ?_
        rintro e w1 ⟨rfl, hb1⟩
        have HB1 := Lib.hid hb1
        clear hb1
        go_wp2_with fail
        refine (r_valid_is d _ _ (by omega) HVD.out).mono ?_
        rintro e w2 ⟨rfl, hb2⟩
        have HB2 := Lib.hid hb2
        clear hb2
        go_wp2_with fail
        go_ret
        exact ⟨ret_bool HW.out.symm, below_next HB1.out HB2.out⟩
      · have HVD := Lib.hid hvd
        clear hvd
        have hw : withinB (bl d) (bl p) = (decide (bl d = bl p) || Lib.hasPrefix (bl p) (bl d ++ [47])) := by
          unfold withinB; rw [HV.out, HI.out, HVD.out]; simp
        have HW := Lib.hid hw
        clear hw
        go_enter Tryz.func39, Tryz.ntmps39
        go_wp2_with fail
        refine (r_valid_is p _ _ (by omega) HV.out).mono ?_
        rintro e w1 ⟨rfl, hb1⟩
        have HB1 := Lib.hid hb1
        clear hb1
        go_wp2_with fail
        refine (r_valid_is d _ _ (by omega) HVD.out).mono ?_
        rintro e w2 ⟨rfl, hb2⟩
        have HB2 := Lib.hid hb2
        clear hb2
        go_wp2_with fail
        all_goals (go_ret; refine ⟨ret_bool ?_, below_next HB1.out HB2.out⟩; rw [HW.out])
        · have : bl d = bl p := by rw [← toList_bl, ← toList_bl]; symm; assumption
          simp [this]
        · have hlt : d.size < p.size := by assumption
          have hnd : ¬ p.toList = d.toList := by assumption
          have hex : (p.extract 0 d.size).toList = d.toList := by assumption
          have hne : ¬ bl d = bl p := by rw [← toList_bl, ← toList_bl]; exact fun e => hnd e.symm
          rw [prefix_iff hlt, hex]
          simp [hne, hnd]
        · have hlt : d.size < p.size := by assumption
          have hnd : ¬ p.toList = d.toList := by assumption
          have hex : ¬ (p.extract 0 d.size).toList = d.toList := by assumption
          have hne : ¬ bl d = bl p := by rw [← toList_bl, ← toList_bl]; exact fun e => hnd e.symm
          have h1 : (p.toList == d.toList) = false := by simpa using hnd
          have h2 : ((p.extract 0 d.size).toList == d.toList) = false := by simpa using hex
          rw [prefix_iff hlt, h1, h2]
          simp [hne]
        · have hlt : ¬ d.size < p.size := by assumption
          have hnd : ¬ p.toList = d.toList := by assumption
          have hne : ¬ bl d = bl p := by rw [← toList_bl, ← toList_bl]; exact fun e => hnd e.symm
          have hpre : Lib.hasPrefix (bl p) (bl d ++ [47]) = false := by
            cases h : Lib.hasPrefix (bl p) (bl d ++ [47])
            · rfl
            · unfold Lib.hasPrefix at h
              obtain ⟨t, ht⟩ := List.isPrefixOf_iff_prefix.1 h
              have := congrArg List.length ht
              rw [List.length_append, List.length_append, ← size_bl, ← size_bl] at this
              simp at this; omega
          simp [hne, hnd, hpre]

end Go.Proofs.YtbkhdpocmmjnbaaGreatDoor

/- Contracts of the specification kinkeepref20: Check. -/
namespace Go.Proofs.YtbkhdpocmmjnbaaGreatDoor
open Go.RowKit Go.Maps


theorem RowsIn.take {α : Type} {R : List Value → α → Prop} {sz : Nat} (hs : ∀ c x, R c x → c.length = sz) : ∀ {xs : List α} {cells : List Value} (k : Nat), RowsIn R cells xs → k ≤ xs.length → RowsIn R (cells.take (k * sz)) (xs.take k)
  | _, _, 0, _, _ => by simp [RowsIn]
  | [], _, k + 1, _, h => by simp at h
  | x :: xs, cells, k + 1, ⟨c, rest, hc, hx, hr⟩, h => by
    subst hc
    have hl := hs c x hx
    refine ⟨c, rest.take (k * sz), ?_, hx, RowsIn.take hs k hr (by simpa using h)⟩
    rw [List.take_append, hl, List.take_of_length_le (by rw [hl, Nat.succ_mul]; omega), Nat.succ_mul]
    congr 2; omega
theorem SeqAt.takeN {α : Type} {S : Nat → Prop} {w : World} {sz : Nat} {R : List Value → α → Prop} {a : Option Addr} {n cap : Nat} {xs : List α} (hs : ∀ c x, R c x → c.length = sz) (h : SeqAt S w sz R (.slice a n cap) xs) {k : Nat} (hk : k ≤ xs.length) : SeqAt S w sz R (.slice a k cap) (xs.take k) := by
  obtain ⟨cells, ⟨hl, a', cap', hv, hn, hm, h0⟩, hr⟩ := h
  cases hv
  have hlt : (xs.take k).length = k := by rw [List.length_take]; omega
  refine ⟨cells.take (k * sz), ⟨?_, a, cap, by rw [hlt], by omega, hm, ?_⟩, RowsIn.take hs k hr hk⟩
  · rw [List.length_take, hl, hlt]
    exact Nat.min_eq_left (Nat.mul_le_mul_right _ hk)
  · rcases h0 with h0 | ⟨b, o, ha, hb, hc⟩
    · exact .inl (by omega)
    · refine .inr ⟨b, o, ha, hb, fun j u hj => hc j u ?_⟩
      rw [List.getElem?_take] at hj
      split at hj
      · exact hj
      · cases hj
theorem r_validE_is (S : Nat → Prop) (en : Ent) (v : Value) (b : Bool) (w : World) (hd : DataAt S w v en.data) (hok : EntOk en) (hps : en.path.size ≤ 16777216) (h : vEnt en = b) : Calls Tryz.prog 46 #[entV v en] w fun e w' => e = .returned (.bool b) ∧ Below w.heap.size w w' := by
  rw [← h]; exact r_validE_any S en v w hd hok hps
theorem r_compare20 (a b : ByteArray) (o : Int) (w : World) (ha : a.size ≤ 65536) (h : cmpL (bl a) (bl b) = o) : Calls Tryz.prog 60 #[.string a, .string b] w fun e w' => e = .returned (.int .i64 o) ∧ Below w.heap.size w w' := by
  rw [← h]; exact r_compare_any a b w ha
theorem r_parent_is (s q : ByteArray) (w : World) (hs : s.size ≤ 65000) (hq : q = ⟨(parentL (bl s)).toArray⟩) : Calls Tryz.prog 38 #[.string s] w fun e w' => e = .returned (.string q) ∧ Below w.heap.size w w' := by
  rw [hq]; exact r_parent20_any s w hs
theorem r_dir_is (S : Nat → Prop) (L : List Ent) (v : Value) (p : ByteArray) (x : Int) (w : World) (hv : EntsAt S w v L) (hx : dirE L (bl p) = x) : Calls Tryz.prog 37 #[v, .string p] w fun e w' => e = .returned (.int .i64 x) ∧ Below w.heap.size w w' := by
  rw [← hx]; exact r_dir_any S L v p w hv
end Go.Proofs.YtbkhdpocmmjnbaaGreatDoor

/- Contracts of the specification kinkeepref20: At, Remove. -/
namespace Go.Proofs.YtbkhdpocmmjnbaaGreatDoor
open Go Go.RowKit Go.Maps

/-- A list under way: its row is the call's own, its data are those of the list that came in. -/
def LoopG (S : Nat → Prop) (w : World) (M : List Ent) (ys : List VEnt) (v : Value) (wr : World) : Prop :=
  ys.map Prod.snd = M ∧ wr.ownsRow w.heap.size 30 6 v ys.length (entsC ys) ∧ (∀ y ∈ ys, DataAt S w y.1 y.2.data ∧ EntOk y.2) ∧ Below w.heap.size w wr
theorem LoopG.nil (S : Nat → Prop) (w : World) {wr : World} (hb : Below w.heap.size w wr) : LoopG S w [] [] (.slice none 0 0) wr := ⟨rfl, World.ownsRow_nil _ _ _ _, by simp, hb⟩
theorem LoopG.below {S : Nat → Prop} {w wr wx : World} {M : List Ent} {ys : List VEnt} {v : Value} (h : LoopG S w M ys v wr) (hb : Below wr.heap.size wr wx) : LoopG S w M ys v wx := ⟨h.1, own_below h.2.1 hb, h.2.2.1, below_next h.2.2.2 hb⟩
theorem LoopG.push {S : Nat → Prop} {w wr wx : World} {M : List Ent} {ys : List VEnt} {v v' : Value} (h : LoopG S w M ys v wr) {y : VEnt} (hd : DataAt S w y.1 y.2.data) (hok : EntOk y.2) (hown : wx.ownsRow w.heap.size 30 6 v' (ys.length + 1) (entsC ys ++ entC y.1 y.2)) (hg : wr.grownBy wx v.ownBlock) : LoopG S w (M ++ [y.2]) (ys ++ [y]) v' wx := by
  refine ⟨by rw [List.map_append, h.1]; rfl, by rw [List.length_append, List.length_singleton, entsC_snoc]; exact hown, fun z hz => ?_, below_grown h.2.2.2 h.2.1 hg (Nat.le_refl _) h.2.2.2.size⟩
  rcases List.mem_append.1 hz with hz | hz
  · exact h.2.2.1 z hz
  · rw [List.mem_singleton] at hz
    rw [hz]; exact ⟨hd, hok⟩
theorem LoopG.out {S : Nat → Prop} {w wr : World} {M : List Ent} {ys : List VEnt} {v : Value} (h : LoopG S w M ys v wr) : EntsAt (fun k => S k ∨ w.heap.size ≤ k) wr v M := by
  obtain ⟨rfl, h2, h3, h4⟩ := h
  refine ⟨entsC ys, ?_, entsC_in (fun y hy => ⟨data_mono ((h3 y hy).1.below h4) (fun k hk => .inl hk), (h3 y hy).2⟩)⟩
  rw [List.length_map]
  exact RowAt.mono (row_of_owns h2) (fun k hk hS => .inr hS.1) (by omega)
theorem LoopG.shape {S : Nat → Prop} {w wr : World} {M : List Ent} {ys : List VEnt} {v : Value} (h : LoopG S w M ys v wr) : ∃ a c, v = .slice a ys.length c ∧ ys.length ≤ c ∧ c ≤ maxLen ∧ ys.length = M.length := by
  obtain ⟨a, c, rfl, h1, h2⟩ := owns_shape h.2.1
  have h3 := congrArg List.length h.1
  rw [List.length_map] at h3
  exact ⟨a, c, rfl, h1, h2, h3⟩
/-- What a function of the specification hands back: a list and an error. -/
def RList (S : Nat → Prop) (r : List Ent × Int) (w : World) (e : Ending) (w' : World) : Prop := ∃ v, e = .returned (.tuple #[v, .int .i64 r.2]) ∧ EntsAt (fun k => S k ∨ w.heap.size ≤ k) w' v r.1 ∧ Below w.heap.size w w'
theorem ents_wide {S : Nat → Prop} {w w' : World} {v : Value} {L : List Ent} (h : EntsAt S w v L) (hb : Below w.heap.size w w') : EntsAt (fun k => S k ∨ w.heap.size ≤ k) w' v L :=
  SeqAt.mono (h.below hb) (by omega) (fun _ _ hk => .inl hk) (fun c x _ hr => by
    obtain ⟨v, r1, r2, r3⟩ := hr
    exact ⟨v, r1, data_mono r2 (fun k hk => .inl hk), r3⟩)
theorem r_within20 (d p : ByteArray) (b : Bool) (w : World) (hd : d.size ≤ 65536) (hp : p.size ≤ 65536) (h : withinB (bl d) (bl p) = b) : Calls Tryz.prog 39 #[.string d, .string p] w fun e w' => e = .returned (.bool b) ∧ Below w.heap.size w w' := by
  rw [← h]; exact r_within_any d p w hd hp
theorem filt_step {L : List Ent} {F : Ent → Bool} {k : Nat} {e : Ent} (h : L[k]? = some e) : (L.take (k + 1)).filter F = (L.take k).filter F ++ (if F e = true then [e] else []) := by
  rw [List.take_add_one, h, List.filter_append]
  congr 1
  simp only [Option.toList_some, List.filter_cons, List.filter_nil]
theorem filt_le (L : List Ent) (F : Ent → Bool) (k : Nat) : ((L.take k).filter F).length ≤ k := Nat.le_trans (List.length_filter_le _ _) (List.length_take_le k L)
set_option maxRecDepth 100000 in
set_option maxHeartbeats 2000000 in
theorem r_at_any (S : Nat → Prop) (L : List Ent) (v : Value) (p : ByteArray) (w : World) (hv : EntsAt S w v L) (hps : ∀ e ∈ L, e.path.size ≤ 65000) (hp : p.size ≤ 65000) (hl : L.length ≤ 8192) :
    Calls Tryz.prog 20 #[v, .string p] w fun e w' => ∃ v', e = .returned v' ∧ EntsAt (fun k => S k ∨ w.heap.size ≤ k) w' v' (atP L p) ∧ Below w.heap.size w w' := by
  have HV := Lib.hid hv
  have HPS := Lib.hid hps
  have HP := Lib.hid hp
  obtain ⟨a, cap, rfl, hc, hm, -⟩ := SeqAt.shape hv EntR.len
  unfold maxLen at hm
  obtain ⟨n, hn⟩ : ∃ n, n = L.length := ⟨_, rfl⟩
  have HN := Lib.hid hn
  rw [← hn] at hc HV hl ⊢
  clear hv hps hn
  go_enter Tryz.func20, Tryz.ntmps20
  obtain ⟨F, hF⟩ : ∃ F : Ent → Bool, F = fun e => inB p e && (decide (p.size = 0) || (findE L p).isSome) := ⟨_, rfl⟩
  have HF := Lib.hid hF
  clear hF
  go_wp2_with fail
  go_loopw [5, 10] (fun v i wr => ∃ (k : Nat) (ys : List VEnt), k ≤ n ∧ i = .int .i64 k ∧ LoopG S w ((L.take k).filter F) ys v wr) (fun _ i _ => n - (intOf i).toNat)
  case atStart => exact ⟨0, [], Nat.zero_le _, rfl, by simpa using LoopG.nil S w (Below.refl _ _)⟩
  case round =>
    obtain ⟨k, ys, hk, rfl, hlg⟩ := hrel
    have HLG := Lib.hid hlg
    obtain ⟨av, cv, hsv, hvn, hvm, hyl⟩ := hlg.shape
    subst hsv
    have hyk : ys.length ≤ k := by rw [hyl]; exact filt_le L F k
    clear hyl
    unfold maxLen at hvm
    clear hlg
    by_cases hlt : k < n
    · have hlt2 := hlt
      obtain ⟨e, he⟩ : ∃ e, L[k]? = some e := ⟨L[k]'(by rw [← HN.out]; exact hlt), by simp⟩
      obtain ⟨b, o, dv, rfl, -, hb, hd, hok, -, q0, q1, q2, q3, q4, q5⟩ := ents_at HV.out he
      have r0 := (HLG.out.2.2.2.cell (block_lt q0)).trans q0
      have r1 := (HLG.out.2.2.2.cell (block_lt q1)).trans q1
      have r2 := (HLG.out.2.2.2.cell (block_lt q2)).trans q2
      have r3 := (HLG.out.2.2.2.cell (block_lt q3)).trans q3
      have r4 := (HLG.out.2.2.2.cell (block_lt q4)).trans q4
      have r5 := (HLG.out.2.2.2.cell (block_lt q5)).trans q5
      have HX := Lib.hid he
      have HD := Lib.hid hd
      have HOK := Lib.hid hok
      have HPE := Lib.hid (HPS.out e (List.mem_of_getElem? he))
      obtain ⟨a1, cap1, rfl, hd1, hd2⟩ := hd.slice
      unfold maxLen at hd2
      clear he hd hok q0 q1 q2 q3 q4 q5
      go_wp2_with fail
      obtain ⟨W, hW⟩ : ∃ W, W = wr.alloc (.cells #[.string e.path, .int .i64 e.kind, .int .i64 e.mode, .int .i64 e.time, .slice a1 e.data.length cap1, .string e.link] 30) := ⟨_, rfl⟩
      rw [← hW]
      have HXW := Lib.hid (show W.heap[wr.heap.size]? = some (.cells #[.string e.path, .int .i64 e.kind, .int .i64 e.mode, .int .i64 e.time, .slice a1 e.data.length cap1, .string e.link] 30 (0, 0)) by rw [hW]; exact new20 wr _)
      have HWL := Lib.hid (show Below wr.heap.size wr W by rw [hW]; exact (Below.refl _ _).alloc (Nat.le_refl _) _)
      clear hW r0 r1 r2 r3 r4 r5
      cases hin : inB p e
      · have HIN := Lib.hid hin
        refine (r_within20 p e.path false _ (by have := HP.out; omega) (by have := HPE.out; omega) hin).mono ?_
        rintro e7 w7 ⟨rfl, hb7⟩
        have HL7 := Lib.hid (HWL.out.trans (hb7.mono HWL.out.size))
        have HFE := Lib.hid (show ¬ F e = true by rw [HF.out]; simp [hin])
        clear hb7 hin
        go_wp2_with fail
        go_roundw
        case rel =>
          refine ⟨k + 1, ys, by omega, by go_num, ?_⟩
          rw [filt_step HX.out, if_neg HFE.out, List.append_nil]
          exact HLG.out.below HL7.out
        case measure => simp [intOf]; omega
      · have HIN := Lib.hid hin
        refine (r_within20 p e.path true _ (by have := HP.out; omega) (by have := HPE.out; omega) hin).mono ?_
        rintro e7 w7 ⟨rfl, hb7⟩
        have HL7 := Lib.hid (HWL.out.trans (hb7.mono HWL.out.size))
        have HX7 := Lib.hid ((hb7.block wr.heap.size (lt20 HXW.out)).trans HXW.out)
        clear hb7
        by_cases h0 : p.size = 0
        · have e0 : p.toList.isEmpty = true := by rw [empty20, decide_eq_true (size_zero.1 h0)]
          have HFE := Lib.hid (show F e = true by rw [HF.out]; simp [hin, h0])
          clear h0 hin
          have c0 := cell20 (k := 0) HX7.out
          have c1 := cell20 (k := 1) HX7.out
          have c2 := cell20 (k := 2) HX7.out
          have c3 := cell20 (k := 3) HX7.out
          have c4 := cell20 (k := 4) HX7.out
          have c5 := cell20 (k := 5) HX7.out
          simp only [List.getElem?_toArray, List.getElem?_cons_succ, List.getElem?_cons_zero] at c0 c1 c2 c3 c4 c5
          have HO7 := Lib.hid (HLG.out.below HL7.out)
          have hsz7 : w.heap.size ≤ (w7).heap.size := HO7.out.2.2.2.size
          go_wp2_with (at_builtin; go_must (refine wpList_app1p Tryz.appEnts rfl _ _ rfl w.heap.size (.slice av ys.length cv) ys.length (entsC ys) rfl w7 (entC (.slice a1 e.data.length cap1) e) _ rfl rfl entC_one HO7.out.2.1 (by omega) hsz7 ?_); intro v' w8 hown8 hgrow8 _ _; have HPU := Lib.hid (HO7.out.push (y := (.slice a1 e.data.length cap1, e)) HD.out HOK.out hown8 hgrow8); clear hown8 hgrow8)
          go_wp2_with fail
          go_roundw
          case rel =>
            refine ⟨k + 1, ys ++ [(.slice a1 e.data.length cap1, e)], by omega, by go_num, ?_⟩
            rw [filt_step HX.out, if_pos HFE.out]
            exact HPU.out
          case measure => simp [intOf]; omega
        · have e0 : p.toList.isEmpty = false := by rw [empty20, decide_eq_false (fun h => h0 (size_zero.2 h))]
          rcases findIx_spec (p := p) L 0 with ⟨hf, hx⟩ | ⟨j, f, hf, -, hx⟩
          · have HFE := Lib.hid (show ¬ F e = true by rw [HF.out]; simp [hf, h0])
            have HFX := Lib.hid hx
            clear h0 hin hf hx
            go_wp2_with fail
            refine (r_find_is S L (.slice (some ⟨b, o, none⟩) n cap) p (-1) _ (HV.out.below (below_next HLG.out.2.2.2 HL7.out)) HFX.out).mono ?_
            rintro e9 w9 ⟨rfl, hb9⟩
            have HL9 := Lib.hid (HL7.out.trans (hb9.mono HL7.out.size))
            clear hb9
            go_wp2_with fail
            go_roundw
            case rel =>
              refine ⟨k + 1, ys, by omega, by go_num, ?_⟩
              rw [filt_step HX.out, if_neg HFE.out, List.append_nil]
              exact HLG.out.below HL9.out
            case measure => simp [intOf]; omega
          · have HFE := Lib.hid (show F e = true by rw [HF.out]; simp [hin, hf])
            have HFX := Lib.hid (show findIx L p 0 = (j : Int) by rw [hx]; simp)
            clear h0 hin hf hx
            go_wp2_with fail
            refine (r_find_is S L (.slice (some ⟨b, o, none⟩) n cap) p (j : Int) _ (HV.out.below (below_next HLG.out.2.2.2 HL7.out)) HFX.out).mono ?_
            rintro e9 w9 ⟨rfl, hb9⟩
            have HL9 := Lib.hid (HL7.out.trans (hb9.mono HL7.out.size))
            have HX9 := Lib.hid ((hb9.block wr.heap.size (lt20 HX7.out)).trans HX7.out)
            clear hb9
            have c0 := cell20 (k := 0) HX9.out
            have c1 := cell20 (k := 1) HX9.out
            have c2 := cell20 (k := 2) HX9.out
            have c3 := cell20 (k := 3) HX9.out
            have c4 := cell20 (k := 4) HX9.out
            have c5 := cell20 (k := 5) HX9.out
            simp only [List.getElem?_toArray, List.getElem?_cons_succ, List.getElem?_cons_zero] at c0 c1 c2 c3 c4 c5
            have HO7 := Lib.hid (HLG.out.below HL9.out)
            have hsz7 : w.heap.size ≤ (w9).heap.size := HO7.out.2.2.2.size
            go_wp2_with (at_builtin; go_must (refine wpList_app1p Tryz.appEnts rfl _ _ rfl w.heap.size (.slice av ys.length cv) ys.length (entsC ys) rfl w9 (entC (.slice a1 e.data.length cap1) e) _ rfl rfl entC_one HO7.out.2.1 (by omega) hsz7 ?_); intro v' w8 hown8 hgrow8 _ _; have HPU := Lib.hid (HO7.out.push (y := (.slice a1 e.data.length cap1, e)) HD.out HOK.out hown8 hgrow8); clear hown8 hgrow8)
            go_wp2_with fail
            go_roundw
            case rel =>
              refine ⟨k + 1, ys ++ [(.slice a1 e.data.length cap1, e)], by omega, by go_num, ?_⟩
              rw [filt_step HX.out, if_pos HFE.out]
              exact HPU.out
            case measure => simp [intOf]; omega
    · have hk2 : k = n := by omega
      have hout := HLG.out.out
      rw [hk2, HN.out, List.take_length] at hout
      have HOUT := Lib.hid hout
      clear hout
      go_wp2_with fail
      go_ret
      refine ⟨_, rfl, ?_, HLG.out.2.2.2⟩
      have h1 := HOUT.out
      rw [HF.out] at h1
      exact h1

end Go.Proofs.YtbkhdpocmmjnbaaGreatDoor

/- Contracts of the specification kinkeepref20: Remove. -/
namespace Go.Proofs.YtbkhdpocmmjnbaaGreatDoor
open Go Go.RowKit Go.Maps


theorem r_at_is (S : Nat → Prop) (L : List Ent) (v : Value) (p : ByteArray) (m : Nat) (w : World) (hv : EntsAt S w v L) (hps : ∀ e ∈ L, e.path.size ≤ 65000) (hp : p.size ≤ 65000) (hl : L.length ≤ 8192) (hm : (atP L p).length = m) :
    Calls Tryz.prog 20 #[v, .string p] w fun e w' => ∃ a c, e = .returned (.slice a m c) ∧ m ≤ c ∧ c ≤ maxLen ∧ Below w.heap.size w w' :=
  (r_at_any S L v p w hv hps hp hl).mono fun _ _ ⟨v', he, h1, h2⟩ => by
    obtain ⟨a, c, rfl, h3, h4, -⟩ := SeqAt.shape h1 EntR.len
    exact ⟨a, c, by rw [he, hm], by rw [← hm]; exact h3, h4, h2⟩
set_option maxRecDepth 100000 in
set_option maxHeartbeats 2000000 in
theorem r_remove_any (S : Nat → Prop) (L : List Ent) (v : Value) (p : ByteArray) (below : Bool) (w : World) (hv : EntsAt S w v L) (hps : ∀ e ∈ L, e.path.size ≤ 65000) (hp : p.size ≤ 65000) (hl : L.length ≤ 8192) :
    Calls Tryz.prog 29 #[v, .string p, .bool below] w (RList S (removeP L p below) w) := by
  have HV := Lib.hid hv
  have HPS := Lib.hid hps
  have HP := Lib.hid hp
  have HLL := Lib.hid hl
  obtain ⟨a, cap, rfl, hc, hm, -⟩ := SeqAt.shape hv EntR.len
  unfold maxLen at hm
  obtain ⟨n, hn⟩ : ∃ n, n = L.length := ⟨_, rfl⟩
  have HN := Lib.hid hn
  rw [← hn] at hc HV hl ⊢
  obtain ⟨F, hF⟩ : ∃ F : Ent → Bool, F = fun e => !inB p e := ⟨_, rfl⟩
  have HF := Lib.hid hF
  clear hv hps hn
  cases hvp : validP (bl p)
  · have HVP := Lib.hid hvp
    have HRM := Lib.hid (show removeP L p below = (L, 1) by unfold removeP; rw [if_pos hvp])
    clear hvp hF
    go_enter Tryz.func29, Tryz.ntmps29
    go_wp2_with fail
    refine (r_valid20_is p false _ (by have := HP.out; omega) HVP.out).mono ?_
    rintro e w1 ⟨rfl, hb1⟩
    have HBZ := Lib.hid hb1
    clear hb1
    go_wp2_with fail
    go_ret2
    exact ⟨.slice a n cap, by rw [HRM.out]; rfl, by rw [HRM.out]; exact ents_wide HV.out HBZ.out, HBZ.out⟩
  have HVP := Lib.hid hvp
  rcases findIx_spec (p := p) L 0 with ⟨hf, hx⟩ | ⟨j, f, hf, -, hx⟩
  · have HFX := Lib.hid hx
    have HRM := Lib.hid (show removeP L p below = (L, 4) by unfold removeP; rw [hvp, hf]; rfl)
    clear hvp hF hf hx
    go_enter Tryz.func29, Tryz.ntmps29
    go_wp2_with fail
    refine (r_valid20_is p true _ (by have := HP.out; omega) HVP.out).mono ?_
    rintro e w1 ⟨rfl, hb1⟩
    have HB1 := Lib.hid hb1
    clear hb1
    go_wp2_with fail
    refine (r_find_is S L _ p (-1) _ (HV.out.below HB1.out) HFX.out).mono ?_
    rintro e w2 ⟨rfl, hb2⟩
    have HBZ := Lib.hid (below_next HB1.out hb2)
    clear hb2
    go_wp2_with fail
    go_ret2
    exact ⟨.slice a n cap, by rw [HRM.out]; rfl, by rw [HRM.out]; exact ents_wide HV.out HBZ.out, HBZ.out⟩
  · have HFX := Lib.hid (show findIx L p 0 = (j : Int) by rw [hx]; simp)
    have HRM0 := Lib.hid (show removeP L p below = if below = false ∧ 1 < (atP L p).length then (L, 6) else (L.filter F, 0) by unfold removeP; rw [hvp, hf, hF]; simp)
    clear hvp hF hf hx
    cases below
    · obtain ⟨m, hm2⟩ : ∃ m, (atP L p).length = m := ⟨_, rfl⟩
      have HM := Lib.hid hm2
      by_cases h1 : 1 < m
      · have h1' : decide (1 < m) = true := by simp [h1]
        have HRM := Lib.hid (show removeP L p false = (L, 6) by rw [HRM0.out, if_pos ⟨rfl, by rw [hm2]; exact h1⟩])
        clear hm2
        go_enter Tryz.func29, Tryz.ntmps29
        go_wp2_with fail
        refine (r_valid20_is p true _ (by have := HP.out; omega) HVP.out).mono ?_
        rintro e w1 ⟨rfl, hb1⟩
        have HB1 := Lib.hid hb1
        clear hb1
        go_wp2_with fail
        refine (r_find_is S L _ p (j : Int) _ (HV.out.below HB1.out) HFX.out).mono ?_
        rintro e w2 ⟨rfl, hb2⟩
        have HB2 := Lib.hid (below_next HB1.out hb2)
        clear hb2
        go_wp2_with fail
        refine (r_at_is S L _ p m _ (HV.out.below HB2.out) HPS.out HP.out HLL.out HM.out).mono ?_
        rintro e w3 ⟨a3, c3, rfl, hc3, hm3, hb3⟩
        have HBZ := Lib.hid (below_next HB2.out hb3)
        unfold maxLen at hm3
        clear hb3
        go_wp2_with fail
        go_ret2
        exact ⟨.slice a n cap, by rw [HRM.out]; rfl, by rw [HRM.out]; exact ents_wide HV.out HBZ.out, HBZ.out⟩
      · have h1' : decide (1 < m) = false := by simp; omega
        have HRM := Lib.hid (show removeP L p false = (L.filter F, 0) by rw [HRM0.out, if_neg (fun h => h1 (by rw [← hm2]; exact h.2))])
        clear hm2
        go_enter Tryz.func29, Tryz.ntmps29
        go_wp2_with fail
        refine (r_valid20_is p true _ (by have := HP.out; omega) HVP.out).mono ?_
        rintro e w1 ⟨rfl, hb1⟩
        have HB1 := Lib.hid hb1
        clear hb1
        go_wp2_with fail
        refine (r_find_is S L _ p (j : Int) _ (HV.out.below HB1.out) HFX.out).mono ?_
        rintro e w2 ⟨rfl, hb2⟩
        have HB2 := Lib.hid (below_next HB1.out hb2)
        clear hb2
        go_wp2_with fail
        refine (r_at_is S L _ p m _ (HV.out.below HB2.out) HPS.out HP.out HLL.out HM.out).mono ?_
        rintro e w3 ⟨a3, c3, rfl, hc3, hm3, hb3⟩
        have HB3 := Lib.hid (below_next HB2.out hb3)
        unfold maxLen at hm3
        clear hb3
        have HRM2 := Lib.hid (show removeP L p false = (L.filter F, 0) from HRM.out)
        go_wp2_with fail
        go_loopw [8, 32] (fun v i wr => ∃ (k : Nat) (ys : List VEnt), k ≤ n ∧ i = .int .i64 k ∧ LoopG S w ((L.take k).filter F) ys v wr) (fun _ i _ => n - (intOf i).toNat)
        case atStart => exact ⟨0, [], Nat.zero_le _, rfl, by simpa using LoopG.nil S w HB3.out⟩
        case round =>
          obtain ⟨k, ys, hk, rfl, hlg⟩ := hrel
          have HLG := Lib.hid hlg
          obtain ⟨av, cv, hsv, hvn, hvm, hyl⟩ := hlg.shape
          subst hsv
          have hyk : ys.length ≤ k := by rw [hyl]; exact filt_le L F k
          clear hyl
          unfold maxLen at hvm
          clear hlg
          by_cases hlt : k < n
          · have hlt2 := hlt
            obtain ⟨e, he⟩ : ∃ e, L[k]? = some e := ⟨L[k]'(by rw [← HN.out]; exact hlt), by simp⟩
            obtain ⟨b, o, dv, rfl, -, hb, hd, hok, -, q0, q1, q2, q3, q4, q5⟩ := ents_at HV.out he
            have r0 := (HLG.out.2.2.2.cell (block_lt q0)).trans q0
            have r1 := (HLG.out.2.2.2.cell (block_lt q1)).trans q1
            have r2 := (HLG.out.2.2.2.cell (block_lt q2)).trans q2
            have r3 := (HLG.out.2.2.2.cell (block_lt q3)).trans q3
            have r4 := (HLG.out.2.2.2.cell (block_lt q4)).trans q4
            have r5 := (HLG.out.2.2.2.cell (block_lt q5)).trans q5
            have HX := Lib.hid he
            have HD := Lib.hid hd
            have HOK := Lib.hid hok
            have HPE := Lib.hid (HPS.out e (List.mem_of_getElem? he))
            obtain ⟨a1, cap1, rfl, hd1, hd2⟩ := hd.slice
            unfold maxLen at hd2
            clear he hd hok q0 q1 q2 q3 q4 q5
            go_wp2_with fail
            obtain ⟨W, hW⟩ : ∃ W, W = wr.alloc (.cells #[.string e.path, .int .i64 e.kind, .int .i64 e.mode, .int .i64 e.time, .slice a1 e.data.length cap1, .string e.link] 30) := ⟨_, rfl⟩
            rw [← hW]
            have HXW := Lib.hid (show W.heap[wr.heap.size]? = some (.cells #[.string e.path, .int .i64 e.kind, .int .i64 e.mode, .int .i64 e.time, .slice a1 e.data.length cap1, .string e.link] 30 (0, 0)) by rw [hW]; exact new20 wr _)
            have HWL := Lib.hid (show Below wr.heap.size wr W by rw [hW]; exact (Below.refl _ _).alloc (Nat.le_refl _) _)
            clear hW r0 r1 r2 r3 r4 r5
            cases hin : inB p e
            · refine (r_within20 p e.path false _ (by have := HP.out; omega) (by have := HPE.out; omega) hin).mono ?_
              rintro e7 w7 ⟨rfl, hb7⟩
              have HL7 := Lib.hid (HWL.out.trans (hb7.mono HWL.out.size))
              have HX7 := Lib.hid ((hb7.block wr.heap.size (lt20 HXW.out)).trans HXW.out)
              have HFE := Lib.hid (show F e = true by rw [HF.out]; simp [hin])
              clear hb7 hin
              have c0 := cell20 (k := 0) HX7.out
              have c1 := cell20 (k := 1) HX7.out
              have c2 := cell20 (k := 2) HX7.out
              have c3 := cell20 (k := 3) HX7.out
              have c4 := cell20 (k := 4) HX7.out
              have c5 := cell20 (k := 5) HX7.out
              simp only [List.getElem?_toArray, List.getElem?_cons_succ, List.getElem?_cons_zero] at c0 c1 c2 c3 c4 c5
              have HO7 := Lib.hid (HLG.out.below HL7.out)
              have hsz7 : w.heap.size ≤ (w7).heap.size := HO7.out.2.2.2.size
              go_wp2_with (at_builtin; go_must (refine wpList_app1p Tryz.appEnts rfl _ _ rfl w.heap.size (.slice av ys.length cv) ys.length (entsC ys) rfl w7 (entC (.slice a1 e.data.length cap1) e) _ rfl rfl entC_one HO7.out.2.1 (by omega) hsz7 ?_); intro v' w8 hown8 hgrow8 _ _; have HPU := Lib.hid (HO7.out.push (y := (.slice a1 e.data.length cap1, e)) HD.out HOK.out hown8 hgrow8); clear hown8 hgrow8)
              go_wp2_with fail
              go_roundw
              case rel =>
                refine ⟨k + 1, ys ++ [(.slice a1 e.data.length cap1, e)], by omega, by go_num, ?_⟩
                rw [filt_step HX.out, if_pos HFE.out]
                exact HPU.out
              case measure => simp [intOf]; omega
            · refine (r_within20 p e.path true _ (by have := HP.out; omega) (by have := HPE.out; omega) hin).mono ?_
              rintro e7 w7 ⟨rfl, hb7⟩
              have HL7 := Lib.hid (HWL.out.trans (hb7.mono HWL.out.size))
              have HFE := Lib.hid (show ¬ F e = true by rw [HF.out]; simp [hin])
              clear hb7 hin
              go_wp2_with fail
              go_roundw
              case rel =>
                refine ⟨k + 1, ys, by omega, by go_num, ?_⟩
                rw [filt_step HX.out, if_neg HFE.out, List.append_nil]
                exact HLG.out.below HL7.out
              case measure => simp [intOf]; omega
          · have hk2 : k = n := by omega
            have hout := HLG.out.out
            rw [hk2, HN.out, List.take_length] at hout
            have HOUT := Lib.hid hout
            clear hout
            go_wp2_with fail
            go_ret2
            exact ⟨.slice av ys.length cv, by rw [HRM2.out]; rfl, by rw [HRM2.out]; exact HOUT.out, HLG.out.2.2.2⟩
    · have HRM := Lib.hid (show removeP L p true = (L.filter F, 0) by rw [HRM0.out, if_neg (fun h => by cases h.1)])
      go_enter Tryz.func29, Tryz.ntmps29
      go_wp2_with fail
      refine (r_valid20_is p true _ (by have := HP.out; omega) HVP.out).mono ?_
      rintro e w1 ⟨rfl, hb1⟩
      have HB1 := Lib.hid hb1
      clear hb1
      go_wp2_with fail
      refine (r_find_is S L _ p (j : Int) _ (HV.out.below HB1.out) HFX.out).mono ?_
      rintro e w2 ⟨rfl, hb2⟩
      have HB2 := Lib.hid (below_next HB1.out hb2)
      clear hb2
      have HRM2 := Lib.hid (show removeP L p true = (L.filter F, 0) from HRM.out)
      go_wp2_with fail
      go_loopw [8, 32] (fun v i wr => ∃ (k : Nat) (ys : List VEnt), k ≤ n ∧ i = .int .i64 k ∧ LoopG S w ((L.take k).filter F) ys v wr) (fun _ i _ => n - (intOf i).toNat)
      case atStart => exact ⟨0, [], Nat.zero_le _, rfl, by simpa using LoopG.nil S w HB2.out⟩
      case round =>
        obtain ⟨k, ys, hk, rfl, hlg⟩ := hrel
        have HLG := Lib.hid hlg
        obtain ⟨av, cv, hsv, hvn, hvm, hyl⟩ := hlg.shape
        subst hsv
        have hyk : ys.length ≤ k := by rw [hyl]; exact filt_le L F k
        clear hyl
        unfold maxLen at hvm
        clear hlg
        by_cases hlt : k < n
        · have hlt2 := hlt
          obtain ⟨e, he⟩ : ∃ e, L[k]? = some e := ⟨L[k]'(by rw [← HN.out]; exact hlt), by simp⟩
          obtain ⟨b, o, dv, rfl, -, hb, hd, hok, -, q0, q1, q2, q3, q4, q5⟩ := ents_at HV.out he
          have r0 := (HLG.out.2.2.2.cell (block_lt q0)).trans q0
          have r1 := (HLG.out.2.2.2.cell (block_lt q1)).trans q1
          have r2 := (HLG.out.2.2.2.cell (block_lt q2)).trans q2
          have r3 := (HLG.out.2.2.2.cell (block_lt q3)).trans q3
          have r4 := (HLG.out.2.2.2.cell (block_lt q4)).trans q4
          have r5 := (HLG.out.2.2.2.cell (block_lt q5)).trans q5
          have HX := Lib.hid he
          have HD := Lib.hid hd
          have HOK := Lib.hid hok
          have HPE := Lib.hid (HPS.out e (List.mem_of_getElem? he))
          obtain ⟨a1, cap1, rfl, hd1, hd2⟩ := hd.slice
          unfold maxLen at hd2
          clear he hd hok q0 q1 q2 q3 q4 q5
          go_wp2_with fail
          obtain ⟨W, hW⟩ : ∃ W, W = wr.alloc (.cells #[.string e.path, .int .i64 e.kind, .int .i64 e.mode, .int .i64 e.time, .slice a1 e.data.length cap1, .string e.link] 30) := ⟨_, rfl⟩
          rw [← hW]
          have HXW := Lib.hid (show W.heap[wr.heap.size]? = some (.cells #[.string e.path, .int .i64 e.kind, .int .i64 e.mode, .int .i64 e.time, .slice a1 e.data.length cap1, .string e.link] 30 (0, 0)) by rw [hW]; exact new20 wr _)
          have HWL := Lib.hid (show Below wr.heap.size wr W by rw [hW]; exact (Below.refl _ _).alloc (Nat.le_refl _) _)
          clear hW r0 r1 r2 r3 r4 r5
          cases hin : inB p e
          · refine (r_within20 p e.path false _ (by have := HP.out; omega) (by have := HPE.out; omega) hin).mono ?_
            rintro e7 w7 ⟨rfl, hb7⟩
            have HL7 := Lib.hid (HWL.out.trans (hb7.mono HWL.out.size))
            have HX7 := Lib.hid ((hb7.block wr.heap.size (lt20 HXW.out)).trans HXW.out)
            have HFE := Lib.hid (show F e = true by rw [HF.out]; simp [hin])
            clear hb7 hin
            have c0 := cell20 (k := 0) HX7.out
            have c1 := cell20 (k := 1) HX7.out
            have c2 := cell20 (k := 2) HX7.out
            have c3 := cell20 (k := 3) HX7.out
            have c4 := cell20 (k := 4) HX7.out
            have c5 := cell20 (k := 5) HX7.out
            simp only [List.getElem?_toArray, List.getElem?_cons_succ, List.getElem?_cons_zero] at c0 c1 c2 c3 c4 c5
            have HO7 := Lib.hid (HLG.out.below HL7.out)
            have hsz7 : w.heap.size ≤ (w7).heap.size := HO7.out.2.2.2.size
            go_wp2_with (at_builtin; go_must (refine wpList_app1p Tryz.appEnts rfl _ _ rfl w.heap.size (.slice av ys.length cv) ys.length (entsC ys) rfl w7 (entC (.slice a1 e.data.length cap1) e) _ rfl rfl entC_one HO7.out.2.1 (by omega) hsz7 ?_); intro v' w8 hown8 hgrow8 _ _; have HPU := Lib.hid (HO7.out.push (y := (.slice a1 e.data.length cap1, e)) HD.out HOK.out hown8 hgrow8); clear hown8 hgrow8)
            go_wp2_with fail
            go_roundw
            case rel =>
              refine ⟨k + 1, ys ++ [(.slice a1 e.data.length cap1, e)], by omega, by go_num, ?_⟩
              rw [filt_step HX.out, if_pos HFE.out]
              exact HPU.out
            case measure => simp [intOf]; omega
          · refine (r_within20 p e.path true _ (by have := HP.out; omega) (by have := HPE.out; omega) hin).mono ?_
            rintro e7 w7 ⟨rfl, hb7⟩
            have HL7 := Lib.hid (HWL.out.trans (hb7.mono HWL.out.size))
            have HFE := Lib.hid (show ¬ F e = true by rw [HF.out]; simp [hin])
            clear hb7 hin
            go_wp2_with fail
            go_roundw
            case rel =>
              refine ⟨k + 1, ys, by omega, by go_num, ?_⟩
              rw [filt_step HX.out, if_neg HFE.out, List.append_nil]
              exact HLG.out.below HL7.out
            case measure => simp [intOf]; omega
        · have hk2 : k = n := by omega
          have hout := HLG.out.out
          rw [hk2, HN.out, List.take_length] at hout
          have HOUT := Lib.hid hout
          clear hout
          go_wp2_with fail
          go_ret2
          exact ⟨.slice av ys.length cv, by rw [HRM2.out]; rfl, by rw [HRM2.out]; exact HOUT.out, HLG.out.2.2.2⟩

end Go.Proofs.YtbkhdpocmmjnbaaGreatDoor

/- Rows of entries: their parts, and a list with one more entry in its midst. -/
namespace Go.Proofs.YtbkhdpocmmjnbaaGreatDoor
open Go Go.RowKit Go.Maps

theorem insAt_go {M : List Ent} {e f : Ent} {j : Nat} (h : M[j]? = some f) (hc : 0 < cmpE f e) : insAt M e (j + 1) = insAt M e j := by simp only [insAt, h, if_pos hc]
theorem insAt_stop {M : List Ent} {e f : Ent} {j : Nat} (h : M[j]? = some f) (hc : ¬ 0 < cmpE f e) : insAt M e (j + 1) = j + 1 := by simp only [insAt, h, if_neg hc]
theorem insE_at {M : List Ent} {e : Ent} {j : Nat} (h : insAt M e M.length = j) : insE M e = M.take j ++ [e] ++ M.drop j := by unfold insE; rw [h]
theorem entsC_app (xs ys : List VEnt) : entsC (xs ++ ys) = entsC xs ++ entsC ys := by simp [entsC]
theorem entsC_take : ∀ (ys : List VEnt) (k : Nat), entsC (ys.take k) = (entsC ys).take (k * 6)
  | [], k => by simp [entsC]
  | y :: ys, 0 => by simp [entsC]
  | y :: ys, k + 1 => by
    have := entsC_take ys k
    unfold entsC at this ⊢
    rw [List.take_succ_cons, List.flatMap_cons, List.flatMap_cons, this, show (k + 1) * 6 = (entC y.1 y.2).length + k * 6 by show _ = 6 + _; omega, List.take_length_add_append]
theorem entsC_drop : ∀ (ys : List VEnt) (k : Nat), entsC (ys.drop k) = (entsC ys).drop (k * 6)
  | [], k => by simp [entsC]
  | y :: ys, 0 => by simp [entsC]
  | y :: ys, k + 1 => by
    have := entsC_drop ys k
    unfold entsC at this ⊢
    rw [List.drop_succ_cons, List.flatMap_cons, this, show (k + 1) * 6 = (entC y.1 y.2).length + k * 6 by show _ = 6 + _; omega, List.drop_length_add_append]
/-- A list of entries, as values and entries. -/
structure ListV (S : Nat → Prop) (w : World) (v : Value) (ys : List VEnt) : Prop where
  row : RowAt S w 6 v ys.length (entsC ys)
  dat : ∀ y ∈ ys, DataAt S w y.1 y.2.data ∧ EntOk y.2
theorem rows_list {S : Nat → Prop} {w : World} : ∀ {L : List Ent} {cells : List Value}, RowsIn (EntR S w) cells L → ∃ ys : List VEnt, ys.map Prod.snd = L ∧ cells = entsC ys ∧ ∀ y ∈ ys, DataAt S w y.1 y.2.data ∧ EntOk y.2
  | [], cells, h => ⟨[], rfl, h, by simp⟩
  | e :: L, cells, h => by
    obtain ⟨c, rest, rfl, ⟨v, rfl, hd, hok⟩, hr⟩ := h
    obtain ⟨ys, h1, rfl, h2⟩ := rows_list hr
    refine ⟨(v, e) :: ys, by simp [h1], by simp [entsC], fun y hy => ?_⟩
    rcases List.mem_cons.1 hy with rfl | hy
    · exact ⟨hd, hok⟩
    · exact h2 y hy
theorem EntsAt.listV {S : Nat → Prop} {w : World} {v : Value} {L : List Ent} (h : EntsAt S w v L) : ∃ ys, ys.map Prod.snd = L ∧ ListV S w v ys := by
  obtain ⟨cells, h1, h2⟩ := h
  obtain ⟨ys, rfl, rfl, h3⟩ := rows_list h2
  exact ⟨ys, rfl, by simpa using h1, h3⟩
theorem ListV.ents {S : Nat → Prop} {w : World} {v : Value} {ys : List VEnt} (h : ListV S w v ys) : EntsAt S w v (ys.map Prod.snd) := ⟨entsC ys, by simpa using h.row, entsC_in h.dat⟩
theorem row_take {S : Nat → Prop} {w : World} {sz n c k : Nat} {a : Option Addr} {cells : List Value} (h : RowAt S w sz (.slice a n c) n cells) (hk : k ≤ n) : RowAt S w sz (.slice a k c) k (cells.take (k * sz)) := by
  obtain ⟨hl, a', cap, he, hn, hm, h0⟩ := h
  cases he
  refine ⟨by rw [List.length_take, hl]; exact Nat.min_eq_left (Nat.mul_le_mul_right _ hk), a, c, rfl, by omega, hm, ?_⟩
  rcases h0 with h0 | ⟨b, o, ha, hb, hc⟩
  · exact .inl (by omega)
  · refine .inr ⟨b, o, ha, hb, fun j u hj => hc j u ?_⟩
    rw [List.getElem?_take] at hj
    split at hj
    · exact hj
    · cases hj
theorem row_drop {S : Nat → Prop} {w : World} {sz n c k b o : Nat} {cells : List Value} (h : RowAt S w sz (.slice (some ⟨b, o, none⟩) n c) n cells) (hk : k ≤ n) : RowAt S w sz (.slice (some ⟨b, o + k * sz, none⟩) (n - k) (c - k)) (n - k) (cells.drop (k * sz)) := by
  obtain ⟨hl, a', cap, he, hn, hm, h0⟩ := h
  cases he
  refine ⟨by rw [List.length_drop, hl, Nat.sub_mul], _, _, rfl, by omega, by omega, ?_⟩
  rcases h0 with h0 | ⟨b', o', ha, hb, hc⟩
  · exact .inl (by omega)
  · cases ha
    refine .inr ⟨b, _, rfl, hb, fun j u hj => ?_⟩
    rw [List.getElem?_drop] at hj
    rw [Nat.add_assoc]
    exact hc _ u hj
/-- The empty rest of a row, wherever its value points. -/
theorem row_none {S : Nat → Prop} {w : World} {sz c : Nat} {a : Option Addr} (hc : c ≤ maxLen) : RowAt S w sz (.slice a 0 c) 0 [] := ⟨by simp, a, c, rfl, Nat.zero_le _, hc, .inl rfl⟩

end Go.Proofs.YtbkhdpocmmjnbaaGreatDoor

/- A region that draws: one operation of several that may come next. -/
namespace Go.Proofs.YtbkhdpocmmjnbaaGreatDoor
open Go

theorem hld_opr {P : Program} {ops : Array Oper} {Q : Exit → Act → World → Prop} {S : World → Prop} {dst : Option Tmp} {op : Op} {ty : TypeId} {pos : String} {aft : Array Edge} {g : Option (Nat × Bool)} {fuel : Nat} {listed : Array Bool} {a : Act} {w : World} (i : Nat) (hi : ops[i]? = some ⟨dst, op, ty, pos, aft, g⟩)
    (hw : Region.wanted ⟨dst, op, ty, pos, aft, g⟩ (yielded ops a.tmps) = true)
    (h : ∀ K : Act → World → Prop, (∀ a w, S w ∧ Hld P ops Q S fuel (listed.setIfInBounds i true) a w → K a w) → wpList P #[] (Exit.then K Q) [⟨dst, op, ty, pos, #[], none⟩] a w) :
    wpOp P ops Q i (fun a' w' => S w' ∧ wpAnyH P .any ops Q S fuel (listed.setIfInBounds i true) a' w') a w := by
  have hb : Bar P ops (fun a' w' => S w' ∧ wpAnyH P .any ops Q S fuel (listed.setIfInBounds i true) a' w') Q [⟨dst, op, ty, pos, aft, g⟩] a w :=
    bar_run hw (fun K hK => h K (fun a w hh => hK a w ⟨hh.1, hh.2.out⟩))
  unfold wpOp
  simp only [hi]
  exact Bar.out hb

end Go.Proofs.YtbkhdpocmmjnbaaGreatDoor
