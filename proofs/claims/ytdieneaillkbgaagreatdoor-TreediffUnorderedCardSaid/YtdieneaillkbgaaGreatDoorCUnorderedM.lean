/- TreediffUnordered: for every input the law returns true, and each argument reads afterwards as it read before (the tied card). -/
import Derived.Test.YtdieneaillkbgaaGreatDoorMH
/- The law TreediffInverts: its walk. -/
namespace Go.Proofs.YtdieneaillkbgaaGreatDoor
open Go Go.RowKit Go.Maps


theorem ChgRes.flat {r : List Chg × Int} {m : List Chg} {x : Int} {w w' : World} {e : Ending} (hr : r = (m, x)) (h : ChgRes r w e w') : ∃ a' c', e = .returned (.tuple #[.slice a' m.length c', .int .i64 x]) ∧ ChgsAt (fun _ => True) w' (.slice a' m.length c') m ∧ c' ≤ 9223372036854775807 ∧ Below w.heap.size w w' := by
  unfold ChgRes at h
  rw [hr] at h
  obtain ⟨v, ys, rfl, hy, hg, hb⟩ := h
  simp only at hy ⊢
  obtain ⟨a', c', rfl, -, hm⟩ := owns_shape hg.row
  have hl : ys.length = m.length := by rw [← hy, List.length_map]
  have hs := hg.seq
  rw [hy, hl] at hs
  rw [hl]
  exact ⟨a', c', rfl, SeqAt.mono hs (by omega) (fun _ _ _ => trivial) (fun c x _ hr => by obtain ⟨v, r1, r2, r3⟩ := hr; exact ⟨v, r1, data_mono r2 (fun _ _ => trivial), r3⟩), by unfold maxLen at hm; omega, hb⟩
theorem invQ_of {a m : List Ent} {cs : List Chg} (h : applyP a cs = (m, 0)) : invQ a cs = (diffP m a, 0) := by unfold invQ; rw [h]; rfl
theorem compQ_of {a m n : List Ent} {cs ds : List Chg} (h : applyP a cs = (m, 0)) (h2 : applyP m ds = (n, 0)) : compQ a cs ds = (diffP a n, 0) := by unfold compQ; rw [h]; simp only; rw [h2]; rfl
set_option maxRecDepth 100000 in
set_option maxHeartbeats 2000000 in
theorem inverts_walk (a b : List Ent) (va vb : Value) (w : World) (ha : EntsAt (fun _ => True) w va a) (hb : EntsAt (fun _ => True) w vb b) (henv : Env w) :
    Calls Tryz.prog 10 #[va, vb] w fun e w' => e = .returned (.bool true) ∧ Below w.heap.size w w' := by
  obtain ⟨aa, ca, rfl, hca, hma, -⟩ := SeqAt.shape ha EntR.len
  obtain ⟨ab, cb, rfl, hcb, hmb, -⟩ := SeqAt.shape hb EntR.len
  unfold maxLen at hma hmb
  have HA := Lib.hid ha
  have HB := Lib.hid hb
  have HE := Lib.hid henv
  obtain ⟨na, hna⟩ : ∃ n, n = a.length := ⟨_, rfl⟩
  obtain ⟨nb, hnb⟩ : ∃ n, n = b.length := ⟨_, rfl⟩
  rw [← hna] at hca HA ⊢
  rw [← hnb] at hcb HB ⊢
  clear ha hb henv hna hnb
  go_enter Tryz.func10, Tryz.ntmps10
  go_wp2_with fail
  refine (awD_any w HE.out).mono ?_
  rintro e w1 ⟨rfl, hb1⟩
  have HB1 := Lib.hid hb1
  clear hb1
  go_wp2_with fail
  obtain ⟨w2, hw2⟩ : ∃ Z : World, Z = w1.alloc (.cells #[.slice aa na ca, .slice ab nb cb] 22) := ⟨_, rfl⟩
  have hb2 : Below w1.heap.size w1 w2 := by rw [hw2]; exact (Below.refl _ _).alloc (Nat.le_refl _) _
  have HLS := Lib.hid (show ListsAt (fun _ => True) w2 (.slice (some ⟨w1.heap.size, 0, none⟩) 2 2) [(.slice aa na ca, a), (.slice ab nb cb, b)] by
    rw [hw2]
    exact lists_new (ls := [(.slice aa na ca, a), (.slice ab nb cb, b)]) (by simp) (fun x hx => by
      simp only [List.mem_cons, List.not_mem_nil, or_false] at hx
      rcases hx with rfl | rfl
      · exact HA.out.below HB1.out
      · exact HB.out.below HB1.out))
  have HB2 := Lib.hid (below_next HB1.out hb2)
  rw [← hw2]
  clear hw2 hb2
  refine (trees_any _ _ _ w2 HLS.out (HE.out.below HB2.out)).mono ?_
  rintro e w3 ⟨tb, rfl, htr, hb3⟩
  have HTR := Lib.hid htr
  have HB3 := Lib.hid (below_next HB2.out hb3)
  clear htr hb3
  cases tb
  case false =>
    go_wp2_with fail
    go_ret
    exact ⟨rfl, HB3.out⟩
  have HTA := Lib.hid (HTR.out rfl _ (List.mem_cons_self ..)).2
  have HTB := Lib.hid (HTR.out rfl _ (List.mem_cons_of_mem _ (List.mem_cons_self ..))).2
  have HLA := Lib.hid (HTR.out rfl _ (List.mem_cons_self ..)).1
  have HLB := Lib.hid (HTR.out rfl _ (List.mem_cons_of_mem _ (List.mem_cons_self ..))).1
  clear HTR HLS
  obtain ⟨L, hL⟩ : ∃ L, L = diffP a b := ⟨_, rfl⟩
  obtain ⟨M, hM⟩ : ∃ M, M = diffP b a := ⟨_, rfl⟩
  have HDQ := Lib.hid (show diffQ a b = (L, 0) by rw [hL]; exact diffQ_tok HTA.out HTB.out)
  have HLN := Lib.hid (show a.length + L.length ≤ 4096 ∧ b.length + M.length ≤ 4096 by
    have h1 := @diff_len a b HTA.out
    have h4 := @diff_len b a HTB.out
    have h2 := HLA.out.1
    have h3 := HLB.out.1
    simp only at h2 h3
    rw [hL, hM]; omega)
  have HAP := Lib.hid (show applyP a L = (b, 0) by rw [hL]; exact apply_diff HTA.out HTB.out (List.Perm.refl _))
  have HAQ := Lib.hid (show applyP b M = (a, 0) by rw [hM]; exact apply_diff HTB.out HTA.out (List.Perm.refl _))
  have HIA := Lib.hid (show invQ a L = (M, 0) by rw [hM]; exact invQ_of HAP.out)
  have HIB := Lib.hid (show invQ b M = (L, 0) by rw [hL]; exact invQ_of HAQ.out)
  clear hL hM
  go_wp2_with fail
  refine (diff_flat _ _ a b _ _ w3 L 0 HDQ.out (HA.out.below HB3.out) (HB.out.below HB3.out) (HE.out.below HB3.out)).mono ?_
  rintro e w4 ⟨al, cl, rfl, hls, hcl, hb4⟩
  have HLS := Lib.hid hls
  have HB4 := Lib.hid (below_next HB3.out hb4)
  clear hls hb4
  obtain ⟨nl, hnl⟩ : ∃ n, n = L.length := ⟨_, rfl⟩
  rw [← hnl] at HLS ⊢
  clear hnl
  go_wp2_with fail
  refine (invert_any _ _ a L _ _ w4 (HA.out.below HB4.out) HLS.out HLN.out.1 (HE.out.below HB4.out)).mono ?_
  intro e w5 hr
  obtain ⟨ab2, cb2, rfl, hbs, hcb2, hb5⟩ := ChgRes.flat HIA.out hr
  have HBS := Lib.hid hbs
  have HB5 := Lib.hid (below_next HB4.out hb5)
  clear hbs hb5 hr
  obtain ⟨nm, hnm⟩ : ∃ n, n = M.length := ⟨_, rfl⟩
  rw [← hnm] at HBS ⊢
  clear hnm
  go_wp2_with fail
  refine (apply_flat2 _ _ b M _ _ w5 a 0 HAQ.out (HB.out.below HB5.out) HBS.out HLN.out.2 (HE.out.below HB5.out)).mono ?_
  rintro e w6 ⟨ac, cc, rfl, hcs, hcc, hb6⟩
  have HCS := Lib.hid hcs
  have HB6 := Lib.hid (below_next HB5.out hb6)
  have HBS6 := Lib.hid (HBS.out.below hb6)
  clear hcs hb6 HBS
  go_wp2_with fail
  refine (invert_any _ _ b M _ _ w6 (HB.out.below HB6.out) HBS6.out HLN.out.2 (HE.out.below HB6.out)).mono ?_
  intro e w7 hr
  obtain ⟨ag, cg, rfl, hgs, hcg, hb7⟩ := ChgRes.flat HIB.out hr
  have HGS := Lib.hid hgs
  have HB7 := Lib.hid (below_next HB6.out hb7)
  have HCS7 := Lib.hid (HCS.out.below hb7)
  clear hgs hb7 hr HCS HBS6
  obtain ⟨ng, hng⟩ : ∃ n, n = L.length := ⟨_, rfl⟩
  rw [← hng] at HGS ⊢
  clear hng
  go_wp2_with fail
  refine (apply_flat2 _ _ a L _ _ w7 b 0 HAP.out (HA.out.below HB7.out) HGS.out HLN.out.1 (HE.out.below HB7.out)).mono ?_
  rintro e w8 ⟨ad, cd, rfl, hds, hcd, hb8⟩
  have HDS := Lib.hid hds
  have HB8 := Lib.hid (below_next HB7.out hb8)
  have HCS8 := Lib.hid (HCS7.out.below hb8)
  clear hds hb8 HCS7
  go_wp2_with fail
  refine (r_sameall_any _ _ a a _ _ w8 HCS8.out (HA.out.below HB8.out)).mono ?_
  rw [decide_eq_true rfl]
  rintro e w9 ⟨rfl, hb9⟩
  have HB9 := Lib.hid (below_next HB8.out hb9)
  have HDS9 := Lib.hid (HDS.out.below hb9)
  clear hb9
  go_wp2_with fail
  refine (r_sameall_any _ _ b b _ _ w9 HDS9.out (HB.out.below HB9.out)).mono ?_
  rw [decide_eq_true rfl]
  rintro e w10 ⟨rfl, hb10⟩
  have HB10 := Lib.hid (below_next HB9.out hb10)
  clear hb10
  go_wp2_with fail
  go_ret
  exact ⟨rfl, HB10.out⟩

end Go.Proofs.YtdieneaillkbgaaGreatDoor

/- The law TreediffUnordered: its walk. -/
namespace Go.Proofs.YtdieneaillkbgaaGreatDoor
open Go Go.RowKit Go.Maps



/-- The changes in their turned order. -/
def turnU (L : List Chg) (q : Nat) : List Chg := L.reverse.drop (q % L.length) ++ L.reverse.take (q % L.length)
theorem turn_perm (L : List Chg) (q : Nat) : (turnU L q).Perm L := by
  unfold turnU
  refine List.Perm.trans List.perm_append_comm ?_
  rw [List.take_append_drop]
  exact List.reverse_perm L
theorem turn_len (L : List Chg) (q : Nat) : (turnU L q).length = L.length := (turn_perm L q).length_eq
theorem turn_at {L : List Chg} {q k : Nat} (hk : k < L.length) : (turnU L q)[k]? = L[L.length - 1 - (k + q) % L.length]? := by
  have hr : q % L.length < L.length := Nat.mod_lt _ (by omega)
  obtain ⟨r, hre⟩ : ∃ r, r = q % L.length := ⟨_, rfl⟩
  unfold turnU
  rw [← hre] at hr ⊢
  have hkm : (k + q) % L.length = (k + r) % L.length := by rw [hre, Nat.add_mod_mod]
  rw [List.getElem?_append]
  by_cases h1 : k < L.length - r
  · rw [if_pos (by rw [List.length_drop, List.length_reverse]; exact h1), List.getElem?_drop, List.getElem?_reverse (by omega), hkm, Nat.mod_eq_of_lt (by omega)]
    congr 1; omega
  · rw [if_neg (by rw [List.length_drop, List.length_reverse]; omega), List.length_drop, List.length_reverse, List.getElem?_take, if_pos (by omega), List.getElem?_reverse (by omega), hkm,
      show (k + r) % L.length = k + r - L.length by rw [Nat.mod_eq_sub_mod (by omega), Nat.mod_eq_of_lt (by omega)]]
    congr 1; omega
structure LoopU (L : List Chg) (q : Nat) (w : World) (k : Nat) (v : Value) (ys : List VChg) (wr : World) : Prop where
  out : ys.map Prod.snd = (turnU L q).take k
  row : wr.ownsRow w.heap.size 58 9 v ys.length (chgsC ys)
  dat : ∀ y ∈ ys, DataAt (fun j => j < w.heap.size) w y.1 y.2.en.data ∧ ChgOk y.2
  bel : Below w.heap.size w wr
theorem got_shared {w w' : World} {v : Value} {ys : List VChg} (h : w'.ownsRow w.heap.size 58 9 v ys.length (chgsC ys)) (hb : Below w.heap.size w w') (hd : ∀ y ∈ ys, DataAt (fun j => j < w.heap.size) w y.1 y.2.en.data ∧ ChgOk y.2) : ChgsAt (fun _ => True) w' v (ys.map Prod.snd) := by
  refine ⟨chgsC ys, ?_, chgsC_in (fun y hy => ⟨data_mono ((hd y hy).1.below hb) (fun _ _ => trivial), (hd y hy).2⟩)⟩
  rw [List.length_map]
  exact RowAt.mono (row_of_owns h) (fun k hk hS => trivial) (by omega)
set_option maxRecDepth 100000 in
set_option maxHeartbeats 2000000 in
theorem unordered_walk (a b : List Ent) (q2 : Int) (va vb : Value) (w : World) (ha : EntsAt (fun _ => True) w va a) (hb : EntsAt (fun _ => True) w vb b) (hq : (Lit.int .u8 q2).wf = true) (henv : Env w) :
    Calls Tryz.prog 8 #[va, vb, .int .u8 q2] w fun e w' => e = .returned (.bool true) ∧ Below w.heap.size w w' := by
  have hq' : 0 ≤ q2 ∧ q2 ≤ 255 := by simpa [Lit.wf, IntKind.min, IntKind.max, IntKind.signed, IntKind.bits] using hq
  obtain ⟨q, rfl⟩ : ∃ q : Nat, q2 = q := ⟨q2.toNat, by omega⟩
  have hq0 : q ≤ 255 := by omega
  clear hq hq'
  obtain ⟨aa, ca, rfl, hca, hma, -⟩ := SeqAt.shape ha EntR.len
  obtain ⟨ab, cb, rfl, hcb, hmb, -⟩ := SeqAt.shape hb EntR.len
  unfold maxLen at hma hmb
  have HA := Lib.hid ha
  have HB := Lib.hid hb
  have HE := Lib.hid henv
  obtain ⟨na, hna⟩ : ∃ n, n = a.length := ⟨_, rfl⟩
  obtain ⟨nb, hnb⟩ : ∃ n, n = b.length := ⟨_, rfl⟩
  rw [← hna] at hca HA ⊢
  rw [← hnb] at hcb HB ⊢
  clear ha hb henv hna hnb
  go_enter Tryz.func8, Tryz.ntmps8
  go_wp2_with fail
  refine (awD_any w HE.out).mono ?_
  rintro e w1 ⟨rfl, hb1⟩
  have HB1 := Lib.hid hb1
  clear hb1
  go_wp2_with fail
  obtain ⟨w2, hw2⟩ : ∃ Z : World, Z = w1.alloc (.cells #[.slice aa na ca, .slice ab nb cb] 22) := ⟨_, rfl⟩
  have hb2 : Below w1.heap.size w1 w2 := by rw [hw2]; exact (Below.refl _ _).alloc (Nat.le_refl _) _
  have HLS := Lib.hid (show ListsAt (fun _ => True) w2 (.slice (some ⟨w1.heap.size, 0, none⟩) 2 2) [(.slice aa na ca, a), (.slice ab nb cb, b)] by
    rw [hw2]
    exact lists_new (ls := [(.slice aa na ca, a), (.slice ab nb cb, b)]) (by simp) (fun x hx => by
      simp only [List.mem_cons, List.not_mem_nil, or_false] at hx
      rcases hx with rfl | rfl
      · exact HA.out.below HB1.out
      · exact HB.out.below HB1.out))
  have HB2 := Lib.hid (below_next HB1.out hb2)
  rw [← hw2]
  clear hw2 hb2
  refine (trees_any _ _ _ w2 HLS.out (HE.out.below HB2.out)).mono ?_
  rintro e w3 ⟨tb, rfl, htr, hb3⟩
  have HTR := Lib.hid htr
  have HB3 := Lib.hid (below_next HB2.out hb3)
  clear htr hb3
  cases tb
  case false =>
    go_wp2_with fail
    go_ret
    exact ⟨rfl, HB3.out⟩
  have HTA := Lib.hid (HTR.out rfl _ (List.mem_cons_self ..)).2
  have HTB := Lib.hid (HTR.out rfl _ (List.mem_cons_of_mem _ (List.mem_cons_self ..))).2
  have HLA := Lib.hid (HTR.out rfl _ (List.mem_cons_self ..)).1
  have HLB := Lib.hid (HTR.out rfl _ (List.mem_cons_of_mem _ (List.mem_cons_self ..))).1
  clear HTR HLS
  obtain ⟨L, hL⟩ : ∃ L, L = diffP a b := ⟨_, rfl⟩
  have HDQ := Lib.hid (show diffQ a b = (L, 0) by rw [hL]; exact diffQ_tok HTA.out HTB.out)
  have HLN := Lib.hid (show a.length + L.length ≤ 4096 by
    have h1 := @diff_len a b HTA.out
    have h2 := HLA.out.1
    have h3 := HLB.out.1
    simp only at h2 h3
    rw [hL]; omega)
  have HAP := Lib.hid (show applyP a (turnU L q) = (b, 0) by rw [hL]; exact apply_diff HTA.out HTB.out (turn_perm _ _))
  clear hL
  go_wp2_with fail
  refine (diff_flat _ _ a b _ _ w3 L 0 HDQ.out (HA.out.below HB3.out) (HB.out.below HB3.out) (HE.out.below HB3.out)).mono ?_
  rintro e w4 ⟨al, cl, rfl, hls, hcl, hb4⟩
  have HLS := Lib.hid (chgs_old hls)
  have HB4 := Lib.hid (below_next HB3.out hb4)
  obtain ⟨n, hn⟩ : ∃ n, n = L.length := ⟨_, rfl⟩
  rw [← hn] at HLS ⊢
  have HN := Lib.hid hn
  have hn0 : n ≤ 4096 := by have := HLN.out; omega
  clear hls hb4 hn
  go_wp2_with fail
  go_loopw [9, 28] (fun v i wr => ∃ (k : Nat) (ys : List VChg), k ≤ n ∧ i = .int .i64 k ∧ LoopU L q w4 k v ys wr) (fun _ i _ => n - (intOf i).toNat)
  case atStart => exact ⟨0, [], Nat.zero_le _, rfl, by simp, World.ownsRow_nil _ _ _ _, by simp, Below.refl _ _⟩
  case round =>
    obtain ⟨k, ys, hk, rfl, hlp⟩ := hrel
    obtain ⟨av, cv, hsv, hvn, hvm⟩ := owns_shape hlp.row
    subst hsv
    unfold maxLen at hvm
    have hyl : ys.length ≤ 4096 := by
      have := congrArg List.length hlp.out
      rw [List.length_map, List.length_take, turn_len, ← HN.out] at this
      omega
    have HLP := Lib.hid hlp
    clear hlp
    by_cases hlt : k < n
    · have hrn : (k + q) % n < n := Nat.mod_lt _ (by omega)
      have hm0 : 0 ≤ ((k : Int) + q) % n := Int.emod_nonneg _ (by omega)
      have hm1 : ((k : Int) + q) % n < n := Int.emod_lt_of_pos _ (by omega)
      have hm2 : (n : Int) - 1 - ((k : Int) + q) % n ≤ 9223372036854775807 ∧ -9223372036854775808 ≤ (n : Int) - 1 - ((k : Int) + q) % n := by omega
      obtain ⟨c, hc⟩ : ∃ c, L[n - 1 - (k + q) % n]? = some c := ⟨L[n - 1 - (k + q) % n]'(by rw [← HN.out]; omega), by simp⟩
      have HAT := Lib.hid (show (turnU L q)[k]? = some c by rw [turn_at (by rw [← HN.out]; exact hlt), ← HN.out]; exact hc)
      have hcc := hc
      obtain ⟨bl, ol, dv, rfl, hbl, hd, hok, hcq0⟩ := chgs_at HLS.out hcc
      have hcq := fun j hj => (HLP.out.bel.cell (p := ⟨bl, ol + (n - 1 - (k + q) % n) * 9 + j, none⟩) hbl).trans (hcq0 j hj)
      have HD0 := Lib.hid hd
      have HOK := Lib.hid hok
      obtain ⟨a1, cap1, rfl, hd1, hd2⟩ := hd.slice
      unfold maxLen at hd2
      have c0 := (hcq 0 (by omega)).trans rfl
      have c1 := (hcq 1 (by omega)).trans rfl
      have c2 := (hcq 2 (by omega)).trans rfl
      have c3 := (hcq 3 (by omega)).trans rfl
      have c4 := (hcq 4 (by omega)).trans rfl
      have c5 := (hcq 5 (by omega)).trans rfl
      have c6 := (hcq 6 (by omega)).trans rfl
      have c7 := (hcq 7 (by omega)).trans rfl
      have c8 := (hcq 8 (by omega)).trans rfl
      simp only [chgC, List.getElem?_cons_succ, List.getElem?_cons_zero, Nat.add_zero] at c0 c1 c2 c3 c4 c5 c6 c7 c8
      have hbb : w4.heap.size ≤ wr.heap.size := HLP.out.bel.size
      have hrow := HLP.out.row
      have HSZ := Lib.hid hbb
      clear hcc hc hd hok hcq hcq0
      go_wp2_with (at_builtin; refine wpList_app1p Tryz.appChgs rfl _ _ rfl w4.heap.size (.slice av ys.length cv) ys.length (chgsC ys) rfl wr (chgC (.slice a1 c.en.data.length cap1) c) _ rfl rfl chgC_one hrow (by omega) hbb ?_; intro v8 w8 hown8 hg8 _ hpl8; have HOWN8 := Lib.hid hown8; have HG8 := Lib.hid hg8; clear hown8 hg8 hpl8 c0 c1 c2 c3 c4 c5 c6 c7 c8)
      go_roundw
      case rel =>
        refine ⟨k + 1, ys ++ [(.slice a1 c.en.data.length cap1, c)], by omega, by go_num, ?_, ?_, ?_, ?_⟩
        · rw [List.map_append, HLP.out.out, List.take_add_one, HAT.out]; rfl
        · rw [List.length_append, List.length_singleton, chgsC_snoc]; exact HOWN8.out
        · intro y hy
          rcases List.mem_append.1 hy with hy | hy
          · exact HLP.out.dat y hy
          · rw [List.mem_singleton] at hy
            subst hy
            exact ⟨HD0.out, HOK.out⟩
        · exact below_grown HLP.out.bel HLP.out.row HG8.out (Nat.le_refl _) HSZ.out
      case measure => simp [intOf]; omega
    · have hk2 : n = k := by omega
      subst hk2
      have HYT := Lib.hid (show ys.map Prod.snd = turnU L q by
        have h1 := HLP.out.out
        have h2 := turn_len L q
        rw [HN.out, ← h2, List.take_length] at h1
        exact h1)
      have HCS := Lib.hid (show ChgsAt (fun _ => True) wr (.slice av ys.length cv) (turnU L q) from by
        rw [← HYT.out]
        exact got_shared HLP.out.row HLP.out.bel HLP.out.dat)
      have HBW := Lib.hid (below_next HB4.out HLP.out.bel)
      have HTL := Lib.hid (show a.length + (turnU L q).length ≤ 4096 by rw [turn_len]; exact HLN.out)
      clear hk hlt
      go_wp2_with fail
      refine (apply_flat2 _ _ a (turnU L q) _ _ wr b 0 HAP.out (HA.out.below HBW.out) HCS.out HTL.out (HE.out.below HBW.out)).mono ?_
      rintro e w5 ⟨ac, cc, rfl, hcs, hcc, hb5⟩
      have HCC := Lib.hid hcs
      have HB5 := Lib.hid (below_next HBW.out hb5)
      clear hcs hb5
      go_wp2_with fail
      refine (r_sameall_any _ _ b b _ _ w5 (HB.out.below HB5.out) HCC.out).mono ?_
      rw [decide_eq_true rfl]
      rintro e w6 ⟨rfl, hb6⟩
      have HB6 := Lib.hid (below_next HB5.out hb6)
      clear hb6
      go_wp2_with fail
      go_ret
      exact ⟨rfl, HB6.out⟩

end Go.Proofs.YtdieneaillkbgaaGreatDoor

/- TreediffUnordered: for every input the law returns true, and each argument reads afterwards as it read before (the tied card). -/
namespace Go.Proofs.YtdieneaillkbgaaGreatDoor
open Go.ChangeShapes Go.WideShapes Go.ChangeAt Go.RowKit Go.Lib Go.Shelf
open Go.ChangeMaps (open_string shut_string)

namespace CUnordered
set_option maxRecDepth 100000 in
theorem lifted (os : Os) (started : os.Started) (H : Type) (enc : TypeId × Value → H) :
    ReturnsInHanded {} Tryz.checked os 8 .any (fun w args => (Rows.treediffUnorderedSpec.pre enc Tryz.prog Tryz.f8 [] false w args ∧ laidMetH Tryz.prog laidL w) ∧ sizedMet enc Tryz.prog Tryz.f8 (OpenSpec.ofChange Rows.treediffUnorderedSpec) false w args)
      (Rows.treediffUnorderedSpec.post enc Tryz.prog Tryz.f8 false true false false) := by
  refine handed (C := Tryz.checked) (X := fun w _ => laidMetH Tryz.prog laidL w) (fun _ _ _ hh h => h.of_heap hh) own started (by kernel_rfl) Tryz.func8
    (ChangeSpec.witness_shaped (enc := enc) (C := Tryz.checked) (os := os) (X := fun w _ => laidMetH Tryz.prog laidL w) false (World.laidAll Tryz.prog os laidL) #[.slice none 0 0, .slice none 0 0, .int .u8 0] 8 (World.laidAll_os _ _ _)
      (World.shaped_of_ZipB (by kernel_rfl) (by kernel_rfl)) (by kernel_rfl) (by kernel_rfl) (by kernel_rfl)
      (by rw [MakeChecks.laidMetH_plain _ _ _ (by kernel_rfl)]; exact laidMet_laidAll _ (by kernel_rfl) (by kernel_rfl))) ?_
  intro W base args ds gs before hval0 hW _hWt hL hsh
  have hval : ∀ (j : Nat) t v, Tryz.f8.params[j]? = some t → args[j]? = some v → Value.okWide Tryz.prog W .any base t v := hval0
  have hW' := hW
  obtain ⟨p, q, hA0, hV, rfl, _, _⟩ := hW
  have hA : DataW.TrodAll enc Tryz.prog W 0 (fun _ => true) true Tryz.f8.params.toList args.toList ds p := hA0
  rw [Tryz.params8] at hA hval
  obtain ⟨rfl, rfl⟩ := trodVars_none hV
  simp only [List.append_nil] at hW'
  obtain ⟨v0, v1, v2, d0, d1, d2, p0, p1, p2, rfl, rfl, rfl, h0, h1, h2⟩ := trodAll_three hA
  obtain ⟨l0, hl0⟩ := open_ents (hval 0 22 v0 rfl rfl) h0
  have hlt0 : ∀ x ∈ p0, x.block < W.heap.size := fun x hx => by simpa using hW'.lt x (by simp [hx])
  obtain ⟨l1, hl1⟩ := open_ents (hval 1 22 v1 rfl rfl) h1
  have hlt1 : ∀ x ∈ p1, x.block < W.heap.size := fun x hx => by simpa using hW'.lt x (by simp [hx])
  obtain ⟨q2, rfl, rfl, rfl, w2⟩ := open_int Tryz.underlying5 (hval 2 5 v2 rfl rfl) h2
  refine (unordered_walk l0 l1 q2 v0 v1 W hl0 hl1 w2 (env_of hL hsh)).mono fun e W' ⟨he, hb⟩ => ?_
  subst he
  exact ⟨_, rfl, _, _, _, [], _, [], hW', trodAll_mk1 (shut_bool Tryz.underlying4 _), trodAll_mk3 (Below.trod laidOut (by kernel_rfl) (of_decide_eq_true (by kernel_rfl)) h0 hb hlt0) (Below.trod laidOut (by kernel_rfl) (of_decide_eq_true (by kernel_rfl)) h1 hb hlt1) (shut_int Tryz.underlying5 w2), rfl, hb.frame _, fun h => by cases h⟩
theorem holds : Rows.TreediffUnorderedSaid :=
  OpenClaim.holds_of_wide 8 Tryz.f8 rfl rfl rfl rfl rfl rfl rfl ⟨rfl, rfl, rfl, rfl, rfl⟩ rfl rfl rfl rfl rfl (by kernel_rfl) Tryz.func8 (by kernel_rfl)
    (of_decide_eq_true (by kernel_rfl)) (by unfold Func.isWrapper; first | (rw [if_pos (by decide +kernel)]; kernel_rfl) | (rw [if_neg (by decide +kernel)]; exact ⟨rfl, rfl⟩))
    (fun os started H enc _ => lifted os started H enc)
theorem card_holds : Rows.TreediffUnorderedCardSaid :=
  Claim7.holds_tied_plain_at .later [] [.data, .pinned] true (true, "26f308a74d533cd0a72c14b9da7e68f4e1e057f8caa1e49e6438d7b0ff3c70c4") false holds (fun _ h => by cases h) (by kernel_rfl) (fun _ h => by cases h) treediffUnordered_row_tie rfl ⟨rfl, rfl⟩ (by kernel_rfl) rfl
    (fun f fn hf hfn => by
      obtain rfl : f = 8 := Option.some.inj ((show Tryz.prog.funcNamed "kinkeep/kinkeeplaw23.TreediffUnordered" = some 8 by kernel_rfl).symm.trans hf) |>.symm
      obtain rfl : fn = Tryz.f8 := (Option.some.inj (Tryz.func8.symm.trans hfn)).symm
      exact ⟨by kernel_rfl, fun j t ht => by
        rw [Tryz.params8] at ht
        have hm : t ∈ [22, 5] := by simpa using Array.mem_of_getElem? ht
        have hall : ([22, 5].all fun u => !Tryz.prog.wantsStandIn u) = true := by kernel_rfl
        exact (show Tryz.prog.wantsStandIn t = false by simpa using List.all_eq_true.1 hall t hm)⟩)
    (by kernel_rfl)
#print axioms card_holds
end CUnordered
theorem treediffUnordered_card : Rows.TreediffUnorderedCardSaid := CUnordered.card_holds
end Go.Proofs.YtdieneaillkbgaaGreatDoor
