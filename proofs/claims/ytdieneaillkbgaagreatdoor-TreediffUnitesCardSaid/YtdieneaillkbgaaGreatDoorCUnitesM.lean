/- TreediffUnites: for every input the law returns true, and each argument reads afterwards as it read before (the tied card). -/
import Derived.Test.YtdieneaillkbgaaGreatDoorMH
/- The law TreediffInverts: its walk. -/
namespace Go.Proofs.YtdieneaillkbgaaGreatDoor
open Go Go.RowKit Go.Maps


theorem ChgRes.flat {r : List Chg × Int} {m : List Chg} {x : Int} {w w' : World} {e : Ending} (hr : r = (m, x)) (h : ChgRes r w e w') : ∃ a' c', e = .returned (.tuple #[.slice a' m.length c', .int .i64 x]) ∧ ChgsAt (fun _ => True) w' (.slice a' m.length c') m ∧ c' ≤ 9223372036854775807 ∧ Below w.heap.size w w' := by
  unfold ChgRes at h
  rw [hr] at h
  obtain ⟨v, ys, rfl, hy, hg, hb⟩ := h
  simp only at hy ⊢
  obtain ⟨a', c', rfl, -, hm⟩ := owns_shape hg.row
  have hl : ys.length = m.length := by rw [← hy, List.length_map]
  have hs := hg.seq
  rw [hy, hl] at hs
  rw [hl]
  exact ⟨a', c', rfl, SeqAt.mono hs (by omega) (fun _ _ _ => trivial) (fun c x _ hr => by obtain ⟨v, r1, r2, r3⟩ := hr; exact ⟨v, r1, data_mono r2 (fun _ _ => trivial), r3⟩), by unfold maxLen at hm; omega, hb⟩
theorem invQ_of {a m : List Ent} {cs : List Chg} (h : applyP a cs = (m, 0)) : invQ a cs = (diffP m a, 0) := by unfold invQ; rw [h]; rfl
theorem compQ_of {a m n : List Ent} {cs ds : List Chg} (h : applyP a cs = (m, 0)) (h2 : applyP m ds = (n, 0)) : compQ a cs ds = (diffP a n, 0) := by unfold compQ; rw [h]; simp only; rw [h2]; rfl
set_option maxRecDepth 100000 in
set_option maxHeartbeats 2000000 in
theorem inverts_walk (a b : List Ent) (va vb : Value) (w : World) (ha : EntsAt (fun _ => True) w va a) (hb : EntsAt (fun _ => True) w vb b) (henv : Env w) :
    Calls Tryz.prog 10 #[va, vb] w fun e w' => e = .returned (.bool true) ∧ Below w.heap.size w w' := by
  obtain ⟨aa, ca, rfl, hca, hma, -⟩ := SeqAt.shape ha EntR.len
  obtain ⟨ab, cb, rfl, hcb, hmb, -⟩ := SeqAt.shape hb EntR.len
  unfold maxLen at hma hmb
  have HA := Lib.hid ha
  have HB := Lib.hid hb
  have HE := Lib.hid henv
  obtain ⟨na, hna⟩ : ∃ n, n = a.length := ⟨_, rfl⟩
  obtain ⟨nb, hnb⟩ : ∃ n, n = b.length := ⟨_, rfl⟩
  rw [← hna] at hca HA ⊢
  rw [← hnb] at hcb HB ⊢
  clear ha hb henv hna hnb
  go_enter Tryz.func10, Tryz.ntmps10
  go_wp2_with fail
  refine (awD_any w HE.out).mono ?_
  rintro e w1 ⟨rfl, hb1⟩
  have HB1 := Lib.hid hb1
  clear hb1
  go_wp2_with fail
  obtain ⟨w2, hw2⟩ : ∃ Z : World, Z = w1.alloc (.cells #[.slice aa na ca, .slice ab nb cb] 22) := ⟨_, rfl⟩
  have hb2 : Below w1.heap.size w1 w2 := by rw [hw2]; exact (Below.refl _ _).alloc (Nat.le_refl _) _
  have HLS := Lib.hid (show ListsAt (fun _ => True) w2 (.slice (some ⟨w1.heap.size, 0, none⟩) 2 2) [(.slice aa na ca, a), (.slice ab nb cb, b)] by
    rw [hw2]
    exact lists_new (ls := [(.slice aa na ca, a), (.slice ab nb cb, b)]) (by simp) (fun x hx => by
      simp only [List.mem_cons, List.not_mem_nil, or_false] at hx
      rcases hx with rfl | rfl
      · exact HA.out.below HB1.out
      · exact HB.out.below HB1.out))
  have HB2 := Lib.hid (below_next HB1.out hb2)
  rw [← hw2]
  clear hw2 hb2
  refine (trees_any _ _ _ w2 HLS.out (HE.out.below HB2.out)).mono ?_
  rintro e w3 ⟨tb, rfl, htr, hb3⟩
  have HTR := Lib.hid htr
  have HB3 := Lib.hid (below_next HB2.out hb3)
  clear htr hb3
  cases tb
  case false =>
    go_wp2_with fail
    go_ret
    exact ⟨rfl, HB3.out⟩
  have HTA := Lib.hid (HTR.out rfl _ (List.mem_cons_self ..)).2
  have HTB := Lib.hid (HTR.out rfl _ (List.mem_cons_of_mem _ (List.mem_cons_self ..))).2
  have HLA := Lib.hid (HTR.out rfl _ (List.mem_cons_self ..)).1
  have HLB := Lib.hid (HTR.out rfl _ (List.mem_cons_of_mem _ (List.mem_cons_self ..))).1
  clear HTR HLS
  obtain ⟨L, hL⟩ : ∃ L, L = diffP a b := ⟨_, rfl⟩
  obtain ⟨M, hM⟩ : ∃ M, M = diffP b a := ⟨_, rfl⟩
  have HDQ := Lib.hid (show diffQ a b = (L, 0) by rw [hL]; exact diffQ_tok HTA.out HTB.out)
  have HLN := Lib.hid (show a.length + L.length ≤ 4096 ∧ b.length + M.length ≤ 4096 by
    have h1 := @diff_len a b HTA.out
    have h4 := @diff_len b a HTB.out
    have h2 := HLA.out.1
    have h3 := HLB.out.1
    simp only at h2 h3
    rw [hL, hM]; omega)
  have HAP := Lib.hid (show applyP a L = (b, 0) by rw [hL]; exact apply_diff HTA.out HTB.out (List.Perm.refl _))
  have HAQ := Lib.hid (show applyP b M = (a, 0) by rw [hM]; exact apply_diff HTB.out HTA.out (List.Perm.refl _))
  have HIA := Lib.hid (show invQ a L = (M, 0) by rw [hM]; exact invQ_of HAP.out)
  have HIB := Lib.hid (show invQ b M = (L, 0) by rw [hL]; exact invQ_of HAQ.out)
  clear hL hM
  go_wp2_with fail
  refine (diff_flat _ _ a b _ _ w3 L 0 HDQ.out (HA.out.below HB3.out) (HB.out.below HB3.out) (HE.out.below HB3.out)).mono ?_
  rintro e w4 ⟨al, cl, rfl, hls, hcl, hb4⟩
  have HLS := Lib.hid hls
  have HB4 := Lib.hid (below_next HB3.out hb4)
  clear hls hb4
  obtain ⟨nl, hnl⟩ : ∃ n, n = L.length := ⟨_, rfl⟩
  rw [← hnl] at HLS ⊢
  clear hnl
  go_wp2_with fail
  refine (invert_any _ _ a L _ _ w4 (HA.out.below HB4.out) HLS.out HLN.out.1 (HE.out.below HB4.out)).mono ?_
  intro e w5 hr
  obtain ⟨ab2, cb2, rfl, hbs, hcb2, hb5⟩ := ChgRes.flat HIA.out hr
  have HBS := Lib.hid hbs
  have HB5 := Lib.hid (below_next HB4.out hb5)
  clear hbs hb5 hr
  obtain ⟨nm, hnm⟩ : ∃ n, n = M.length := ⟨_, rfl⟩
  rw [← hnm] at HBS ⊢
  clear hnm
  go_wp2_with fail
  refine (apply_flat2 _ _ b M _ _ w5 a 0 HAQ.out (HB.out.below HB5.out) HBS.out HLN.out.2 (HE.out.below HB5.out)).mono ?_
  rintro e w6 ⟨ac, cc, rfl, hcs, hcc, hb6⟩
  have HCS := Lib.hid hcs
  have HB6 := Lib.hid (below_next HB5.out hb6)
  have HBS6 := Lib.hid (HBS.out.below hb6)
  clear hcs hb6 HBS
  go_wp2_with fail
  refine (invert_any _ _ b M _ _ w6 (HB.out.below HB6.out) HBS6.out HLN.out.2 (HE.out.below HB6.out)).mono ?_
  intro e w7 hr
  obtain ⟨ag, cg, rfl, hgs, hcg, hb7⟩ := ChgRes.flat HIB.out hr
  have HGS := Lib.hid hgs
  have HB7 := Lib.hid (below_next HB6.out hb7)
  have HCS7 := Lib.hid (HCS.out.below hb7)
  clear hgs hb7 hr HCS HBS6
  obtain ⟨ng, hng⟩ : ∃ n, n = L.length := ⟨_, rfl⟩
  rw [← hng] at HGS ⊢
  clear hng
  go_wp2_with fail
  refine (apply_flat2 _ _ a L _ _ w7 b 0 HAP.out (HA.out.below HB7.out) HGS.out HLN.out.1 (HE.out.below HB7.out)).mono ?_
  rintro e w8 ⟨ad, cd, rfl, hds, hcd, hb8⟩
  have HDS := Lib.hid hds
  have HB8 := Lib.hid (below_next HB7.out hb8)
  have HCS8 := Lib.hid (HCS7.out.below hb8)
  clear hds hb8 HCS7
  go_wp2_with fail
  refine (r_sameall_any _ _ a a _ _ w8 HCS8.out (HA.out.below HB8.out)).mono ?_
  rw [decide_eq_true rfl]
  rintro e w9 ⟨rfl, hb9⟩
  have HB9 := Lib.hid (below_next HB8.out hb9)
  have HDS9 := Lib.hid (HDS.out.below hb9)
  clear hb9
  go_wp2_with fail
  refine (r_sameall_any _ _ b b _ _ w9 HDS9.out (HB.out.below HB9.out)).mono ?_
  rw [decide_eq_true rfl]
  rintro e w10 ⟨rfl, hb10⟩
  have HB10 := Lib.hid (below_next HB9.out hb10)
  clear hb10
  go_wp2_with fail
  go_ret
  exact ⟨rfl, HB10.out⟩

end Go.Proofs.YtdieneaillkbgaaGreatDoor

/- The law TreediffComposes: its walk. -/
namespace Go.Proofs.YtdieneaillkbgaaGreatDoor
open Go Go.RowKit Go.Maps


set_option maxRecDepth 100000 in
set_option maxHeartbeats 2000000 in
theorem composes_walk (a b c : List Ent) (va vb vc : Value) (w : World) (ha : EntsAt (fun _ => True) w va a) (hb : EntsAt (fun _ => True) w vb b) (hc : EntsAt (fun _ => True) w vc c) (henv : Env w) :
    Calls Tryz.prog 11 #[va, vb, vc] w fun e w' => e = .returned (.bool true) ∧ Below w.heap.size w w' := by
  obtain ⟨aa, ca, rfl, hca, hma, -⟩ := SeqAt.shape ha EntR.len
  obtain ⟨ab, cb, rfl, hcb, hmb, -⟩ := SeqAt.shape hb EntR.len
  obtain ⟨ac, cc, rfl, hcc, hmc, -⟩ := SeqAt.shape hc EntR.len
  unfold maxLen at hma hmb hmc
  have HA := Lib.hid ha
  have HB := Lib.hid hb
  have HC := Lib.hid hc
  have HE := Lib.hid henv
  obtain ⟨na, hna⟩ : ∃ n, n = a.length := ⟨_, rfl⟩
  obtain ⟨nb, hnb⟩ : ∃ n, n = b.length := ⟨_, rfl⟩
  obtain ⟨nc, hnc⟩ : ∃ n, n = c.length := ⟨_, rfl⟩
  rw [← hna] at hca HA ⊢
  rw [← hnb] at hcb HB ⊢
  rw [← hnc] at hcc HC ⊢
  clear ha hb hc henv hna hnb hnc
  go_enter Tryz.func11, Tryz.ntmps11
  go_wp2_with fail
  refine (awD_any w HE.out).mono ?_
  rintro e w1 ⟨rfl, hb1⟩
  have HB1 := Lib.hid hb1
  clear hb1
  go_wp2_with fail
  obtain ⟨w2, hw2⟩ : ∃ Z : World, Z = w1.alloc (.cells #[.slice aa na ca, .slice ab nb cb, .slice ac nc cc] 22) := ⟨_, rfl⟩
  have hb2 : Below w1.heap.size w1 w2 := by rw [hw2]; exact (Below.refl _ _).alloc (Nat.le_refl _) _
  have HLS := Lib.hid (show ListsAt (fun _ => True) w2 (.slice (some ⟨w1.heap.size, 0, none⟩) 3 3) [(.slice aa na ca, a), (.slice ab nb cb, b), (.slice ac nc cc, c)] by
    rw [hw2]
    exact lists_new (ls := [(.slice aa na ca, a), (.slice ab nb cb, b), (.slice ac nc cc, c)]) (by simp) (fun x hx => by
      simp only [List.mem_cons, List.not_mem_nil, or_false] at hx
      rcases hx with rfl | rfl | rfl
      · exact HA.out.below HB1.out
      · exact HB.out.below HB1.out
      · exact HC.out.below HB1.out))
  have HB2 := Lib.hid (below_next HB1.out hb2)
  rw [← hw2]
  clear hw2 hb2
  refine (trees_any _ _ _ w2 HLS.out (HE.out.below HB2.out)).mono ?_
  rintro e w3 ⟨tb, rfl, htr, hb3⟩
  have HTR := Lib.hid htr
  have HB3 := Lib.hid (below_next HB2.out hb3)
  clear htr hb3
  cases tb
  case false =>
    go_wp2_with fail
    go_ret
    exact ⟨rfl, HB3.out⟩
  have HTA := Lib.hid (HTR.out rfl _ (List.mem_cons_self ..)).2
  have HTB := Lib.hid (HTR.out rfl _ (List.mem_cons_of_mem _ (List.mem_cons_self ..))).2
  have HTC := Lib.hid (HTR.out rfl _ (List.mem_cons_of_mem _ (List.mem_cons_of_mem _ (List.mem_cons_self ..)))).2
  have HLA := Lib.hid (HTR.out rfl _ (List.mem_cons_self ..)).1
  have HLB := Lib.hid (HTR.out rfl _ (List.mem_cons_of_mem _ (List.mem_cons_self ..))).1
  have HLC := Lib.hid (HTR.out rfl _ (List.mem_cons_of_mem _ (List.mem_cons_of_mem _ (List.mem_cons_self ..)))).1
  clear HTR HLS
  obtain ⟨L, hL⟩ : ∃ L, L = diffP a b := ⟨_, rfl⟩
  obtain ⟨M, hM⟩ : ∃ M, M = diffP b c := ⟨_, rfl⟩
  obtain ⟨B, hB⟩ : ∃ M, M = diffP a c := ⟨_, rfl⟩
  have HDQ := Lib.hid (show diffQ a b = (L, 0) by rw [hL]; exact diffQ_tok HTA.out HTB.out)
  have HDM := Lib.hid (show diffQ b c = (M, 0) by rw [hM]; exact diffQ_tok HTB.out HTC.out)
  have HLN := Lib.hid (show a.length + L.length + M.length ≤ 4096 ∧ a.length + B.length ≤ 4096 by
    have h1 := @diff_len a b HTA.out
    have h4 := @diff_len b c HTB.out
    have h5 := @diff_len a c HTA.out
    have h2 := HLA.out.1
    have h3 := HLB.out.1
    have h6 := HLC.out.1
    simp only at h2 h3 h6
    rw [hL, hM, hB]; omega)
  have HCQ := Lib.hid (show compQ a L M = (B, 0) by
    rw [hL, hM, hB]
    exact compQ_of (apply_diff HTA.out HTB.out (List.Perm.refl _)) (apply_diff HTB.out HTC.out (List.Perm.refl _)))
  have HAP := Lib.hid (show applyP a B = (c, 0) by rw [hB]; exact apply_diff HTA.out HTC.out (List.Perm.refl _))
  clear hL hM hB
  go_wp2_with fail
  refine (diff_flat _ _ a b _ _ w3 L 0 HDQ.out (HA.out.below HB3.out) (HB.out.below HB3.out) (HE.out.below HB3.out)).mono ?_
  rintro e w4 ⟨al, cl, rfl, hls, hcl, hb4⟩
  have HLS := Lib.hid hls
  have HB4 := Lib.hid (below_next HB3.out hb4)
  clear hls hb4
  obtain ⟨nl, hnl⟩ : ∃ n, n = L.length := ⟨_, rfl⟩
  rw [← hnl] at HLS ⊢
  clear hnl
  go_wp2_with fail
  refine (diff_flat _ _ b c _ _ w4 M 0 HDM.out (HB.out.below HB4.out) (HC.out.below HB4.out) (HE.out.below HB4.out)).mono ?_
  rintro e w5 ⟨am, cm, rfl, hms, hcm, hb5⟩
  have HMS := Lib.hid hms
  have HLS5 := Lib.hid (HLS.out.below hb5)
  have HB5 := Lib.hid (below_next HB4.out hb5)
  clear hms hb5 HLS
  obtain ⟨nm, hnm⟩ : ∃ n, n = M.length := ⟨_, rfl⟩
  rw [← hnm] at HMS ⊢
  clear hnm
  go_wp2_with fail
  refine (compose_any _ _ _ a L M _ _ _ w5 (HA.out.below HB5.out) HLS5.out HMS.out HLN.out.1 (HE.out.below HB5.out)).mono ?_
  intro e w6 hr
  obtain ⟨ak, ck, rfl, hks, hck, hb6⟩ := ChgRes.flat HCQ.out hr
  have HKS := Lib.hid hks
  have HB6 := Lib.hid (below_next HB5.out hb6)
  clear hks hb6 hr
  obtain ⟨nk, hnk⟩ : ∃ n, n = B.length := ⟨_, rfl⟩
  rw [← hnk] at HKS ⊢
  clear hnk
  go_wp2_with fail
  refine (apply_flat2 _ _ a B _ _ w6 c 0 HAP.out (HA.out.below HB6.out) HKS.out HLN.out.2 (HE.out.below HB6.out)).mono ?_
  rintro e w7 ⟨ad, cd, rfl, hds, hcd, hb7⟩
  have HDS := Lib.hid hds
  have HB7 := Lib.hid (below_next HB6.out hb7)
  clear hds hb7
  go_wp2_with fail
  refine (r_sameall_any _ _ c c _ _ w7 (HC.out.below HB7.out) HDS.out).mono ?_
  rw [decide_eq_true rfl]
  rintro e w8 ⟨rfl, hb8⟩
  have HB8 := Lib.hid (below_next HB7.out hb8)
  clear hb8
  go_wp2_with fail
  go_ret
  exact ⟨rfl, HB8.out⟩

end Go.Proofs.YtdieneaillkbgaaGreatDoor

/- The law TreediffUnites: its walk. -/
namespace Go.Proofs.YtdieneaillkbgaaGreatDoor
open Go Go.RowKit Go.Maps


theorem mrgChk_tok {x l r : List Ent} (hx : TOk x) (hl : TOk l) (hr : TOk r) : mrgChk x l r = 0 := by
  unfold mrgChk; rw [checkP_zero hx, checkP_zero hl, checkP_zero hr]; rfl
theorem merge_flat (S T U : Nat → Prop) (x l r : List Ent) (vx vl vr : Value) (w : World) (hck : TOk x ∧ TOk l ∧ TOk r) (hx : EntsAt S w vx x) (hl : EntsAt T w vl l) (hr : EntsAt U w vr r) (hlen : l.length + r.length ≤ 4096) (henv : Env w) :
    Calls Tryz.prog 19 #[vx, vl, vr] w fun e w' => ∃ m k a' n' c' ak nk ck, e = .returned (.tuple #[.slice a' n' c', .slice ak nk ck, .int .i64 0]) ∧ n' = m.length ∧ nk = k.length ∧ IsMerge x l r m k ∧ TOk m ∧ EntsAt (fun _ => True) w' (.slice a' n' c') m ∧ w'.ownsRow w.heap.size 9 1 (.slice ak nk ck) nk (k.map Value.string) ∧ nk ≤ 4096 ∧ n' ≤ 4096 ∧ Below w.heap.size w w' := by
  refine (merge_any S T U x l r vx vl vr w hx hl hr hlen henv).mono ?_
  rintro e w' (⟨h0, -⟩ | ⟨-, v, vk, ys, k, rfl, hm, hg, hk, hb⟩)
  · exact absurd (mrgChk_tok hck.1 hck.2.1 hck.2.2) h0
  · obtain ⟨m, hme⟩ : ∃ m, m = ys.map Prod.snd := ⟨_, rfl⟩
    rw [← hme] at hm
    obtain ⟨a', c', rfl, -, hx⟩ := owns_shape hg.row
    obtain ⟨ak, ck, rfl, -, hxk⟩ := owns_shape hk
    have hlm : ys.length = m.length := by rw [hme, List.length_map]
    have hs := hg.seq
    rw [← hme, hlm] at hs
    have hmt := merge_tree hck.2.1 hck.2.2 hlen hm
    have hml : m.length ≤ 4096 := Nat.le_trans (res_len hm) hlen
    have hkl : k.length ≤ 4096 := by
      refine Nat.le_trans (nodup_length (m := (l ++ r).map Ent.path) (hm.kord.imp fun {p q} h e => by rw [e, (cmp_zero (bl q) (bl q)).2 rfl] at h; omega) fun p hp => isK_in hck.2.1 ((hm.kin p).1 hp)) ?_
      rw [List.length_map, List.length_append]; exact hlen
    rw [hlm]
    exact ⟨m, k, a', _, c', ak, _, ck, rfl, rfl, rfl, hm, hmt, SeqAt.mono hs (by omega) (fun _ _ _ => trivial) (fun c x _ hr => by obtain ⟨v, r1, r2, r3⟩ := hr; exact ⟨v, r1, data_mono r2 (fun _ _ => trivial), r3⟩), hk, hkl, hml, hb⟩
set_option maxRecDepth 100000 in
set_option maxHeartbeats 2000000 in
theorem unites_walk (a b c : List Ent) (va vb vc : Value) (w : World) (ha : EntsAt (fun _ => True) w va a) (hb : EntsAt (fun _ => True) w vb b) (hc : EntsAt (fun _ => True) w vc c) (henv : Env w) :
    Calls Tryz.prog 9 #[va, vb, vc] w fun e w' => e = .returned (.bool true) ∧ Below w.heap.size w w' := by
  obtain ⟨aa, ca, rfl, hca, hma, -⟩ := SeqAt.shape ha EntR.len
  obtain ⟨ab, cb, rfl, hcb, hmb, -⟩ := SeqAt.shape hb EntR.len
  obtain ⟨ac, cc, rfl, hcc, hmc, -⟩ := SeqAt.shape hc EntR.len
  unfold maxLen at hma hmb hmc
  have HA := Lib.hid ha
  have HB := Lib.hid hb
  have HC := Lib.hid hc
  have HE := Lib.hid henv
  obtain ⟨na, hna⟩ : ∃ n, n = a.length := ⟨_, rfl⟩
  obtain ⟨nb, hnb⟩ : ∃ n, n = b.length := ⟨_, rfl⟩
  obtain ⟨nc, hnc⟩ : ∃ n, n = c.length := ⟨_, rfl⟩
  rw [← hna] at hca HA ⊢
  rw [← hnb] at hcb HB ⊢
  rw [← hnc] at hcc HC ⊢
  clear ha hb hc henv hna hnb hnc
  go_enter Tryz.func9, Tryz.ntmps9
  go_wp2_with fail
  refine (awD_any w HE.out).mono ?_
  rintro e w1 ⟨rfl, hb1⟩
  have HB1 := Lib.hid hb1
  clear hb1
  go_wp2_with fail
  obtain ⟨w2, hw2⟩ : ∃ Z : World, Z = w1.alloc (.cells #[.slice aa na ca, .slice ab nb cb, .slice ac nc cc] 22) := ⟨_, rfl⟩
  have hb2 : Below w1.heap.size w1 w2 := by rw [hw2]; exact (Below.refl _ _).alloc (Nat.le_refl _) _
  have HLS := Lib.hid (show ListsAt (fun _ => True) w2 (.slice (some ⟨w1.heap.size, 0, none⟩) 3 3) [(.slice aa na ca, a), (.slice ab nb cb, b), (.slice ac nc cc, c)] by
    rw [hw2]
    exact lists_new (ls := [(.slice aa na ca, a), (.slice ab nb cb, b), (.slice ac nc cc, c)]) (by simp) (fun x hx => by
      simp only [List.mem_cons, List.not_mem_nil, or_false] at hx
      rcases hx with rfl | rfl | rfl
      · exact HA.out.below HB1.out
      · exact HB.out.below HB1.out
      · exact HC.out.below HB1.out))
  have HB2 := Lib.hid (below_next HB1.out hb2)
  rw [← hw2]
  clear hw2 hb2
  refine (trees_any _ _ _ w2 HLS.out (HE.out.below HB2.out)).mono ?_
  rintro e w3 ⟨tb, rfl, htr, hb3⟩
  have HTR := Lib.hid htr
  have HB3 := Lib.hid (below_next HB2.out hb3)
  clear htr hb3
  cases tb
  case false =>
    go_wp2_with fail
    go_ret
    exact ⟨rfl, HB3.out⟩
  have HTA := Lib.hid (HTR.out rfl _ (List.mem_cons_self ..)).2
  have HTB := Lib.hid (HTR.out rfl _ (List.mem_cons_of_mem _ (List.mem_cons_self ..))).2
  have HTC := Lib.hid (HTR.out rfl _ (List.mem_cons_of_mem _ (List.mem_cons_of_mem _ (List.mem_cons_self ..)))).2
  have HLA := Lib.hid (HTR.out rfl _ (List.mem_cons_self ..)).1
  have HLB := Lib.hid (HTR.out rfl _ (List.mem_cons_of_mem _ (List.mem_cons_self ..))).1
  have HLC := Lib.hid (HTR.out rfl _ (List.mem_cons_of_mem _ (List.mem_cons_of_mem _ (List.mem_cons_self ..)))).1
  clear HTR HLS
  have HLN := Lib.hid (show a.length + c.length ≤ 4096 ∧ b.length + a.length ≤ 4096 ∧ b.length + c.length ≤ 4096 ∧ c.length + b.length ≤ 4096 by
    have h2 := HLA.out.1
    have h3 := HLB.out.1
    have h6 := HLC.out.1
    simp only at h2 h3 h6
    omega)
  go_wp2_with fail
  refine (merge_flat _ _ _ a a c _ _ _ w3 ⟨HTA.out, HTA.out, HTC.out⟩ (HA.out.below HB3.out) (HA.out.below HB3.out) (HC.out.below HB3.out) HLN.out.1 (HE.out.below HB3.out)).mono ?_
  rintro e w4 ⟨m1, k1, a1, n1, c1, j1, i1, d1, rfl, hn1, hi1, hm1, -, hs1, -, -, hq1, hb4⟩
  obtain ⟨rfl, rfl⟩ := merge_right HTC.out hm1
  have HS1 := Lib.hid hs1
  have HB4 := Lib.hid (below_next HB3.out hb4)
  have e0 : i1 = 0 := hi1
  subst e0
  clear hs1 hb4 hm1 hi1 hn1
  go_wp2_with fail
  refine (merge_flat _ _ _ a b a _ _ _ w4 ⟨HTA.out, HTB.out, HTA.out⟩ (HA.out.below HB4.out) (HB.out.below HB4.out) (HA.out.below HB4.out) HLN.out.2.1 (HE.out.below HB4.out)).mono ?_
  rintro e w5 ⟨m2, k2, a2, n2, c2, j2, i2, d2, rfl, hn2, hi2, hm2, -, hs2, -, -, hq2, hb5⟩
  obtain ⟨rfl, rfl⟩ := merge_left HTB.out hm2
  have HS2 := Lib.hid hs2
  have HS15 := Lib.hid (HS1.out.below hb5)
  have HB5 := Lib.hid (below_next HB4.out hb5)
  have e0 : i2 = 0 := hi2
  subst e0
  clear hs2 hb5 hm2 hi2 hn2 HS1
  go_wp2_with fail
  refine (r_sameall_any _ _ m1 m1 _ _ w5 HS15.out (HC.out.below HB5.out)).mono ?_
  rw [decide_eq_true rfl]
  rintro e w6 ⟨rfl, hb6⟩
  have HS26 := Lib.hid (HS2.out.below hb6)
  have HB6 := Lib.hid (below_next HB5.out hb6)
  clear hb6 HS2 HS15
  go_wp2_with fail
  refine (r_sameall_any _ _ m2 m2 _ _ w6 HS26.out (HB.out.below HB6.out)).mono ?_
  rw [decide_eq_true rfl]
  rintro e w7 ⟨rfl, hb7⟩
  have HB7 := Lib.hid (below_next HB6.out hb7)
  clear hb7 HS26
  go_wp2_with fail
  refine (merge_flat _ _ _ a m2 m1 _ _ _ w7 ⟨HTA.out, HTB.out, HTC.out⟩ (HA.out.below HB7.out) (HB.out.below HB7.out) (HC.out.below HB7.out) HLN.out.2.2.1 (HE.out.below HB7.out)).mono ?_
  rintro e w8 ⟨m3, k3, a3, n3, c3, j3, i3, d3, rfl, -, hi3, hm3, ht3, hs3, -, hy3, hq3, hb8⟩
  have HS3 := Lib.hid hs3
  have HT3 := Lib.hid ht3
  have HM3 := Lib.hid hm3
  have HI3 := Lib.hid hi3
  have HB8 := Lib.hid (below_next HB7.out hb8)
  clear hs3 hb8 hm3 hi3 ht3
  go_wp2_with fail
  refine (merge_flat _ _ _ a m1 m2 _ _ _ w8 ⟨HTA.out, HTC.out, HTB.out⟩ (HA.out.below HB8.out) (HC.out.below HB8.out) (HB.out.below HB8.out) HLN.out.2.2.2 (HE.out.below HB8.out)).mono ?_
  rintro e w9 ⟨m4, k4, a4, n4, c4, j4, i4, d4, rfl, -, hi4, hm4, ht4, hs4, -, hy4, hq4, hb9⟩
  have HS4 := Lib.hid hs4
  have HT4 := Lib.hid ht4
  have HSW := Lib.hid (merge_swap HM3.out hm4)
  have HI4 := Lib.hid hi4
  have HS39 := Lib.hid (HS3.out.below hb9)
  have HB9 := Lib.hid (below_next HB8.out hb9)
  clear hs4 hb9 hm4 hi4 ht4 HS3 HM3
  go_wp2_with fail
  refine (check_any _ m3 _ w9 HS39.out (HE.out.below HB9.out)).mono ?_
  rw [checkP_zero HT3.out]
  rintro e w10 ⟨rfl, hb10⟩
  have HS310 := Lib.hid (HS39.out.below hb10)
  have HS410 := Lib.hid (HS4.out.below hb10)
  have HB10 := Lib.hid (below_next HB9.out hb10)
  clear hb10 HS39 HS4
  go_wp2_with fail
  refine (check_any _ m4 _ w10 HS410.out (HE.out.below HB10.out)).mono ?_
  rw [checkP_zero HT4.out]
  rintro e w11 ⟨rfl, hb11⟩
  have HS311 := Lib.hid (HS310.out.below hb11)
  have HS411 := Lib.hid (HS410.out.below hb11)
  have HB11 := Lib.hid (below_next HB10.out hb11)
  clear hb11 HS310 HS410
  have HSA := r_sameall_any _ _ m3 m4 _ _ w11 HS311.out HS411.out
  have z3 : i3 = 0 ↔ k3 = [] := by rw [HI3.out]; exact List.length_eq_zero_iff
  have z4 : i4 = 0 ↔ k4 = [] := by rw [HI4.out]; exact List.length_eq_zero_iff
  by_cases hk : k3 = []
  · have e3 := z3.2 hk
    have e4 := z4.2 (HSW.out.1.1 hk)
    subst e3 e4
    rw [decide_eq_true (HSW.out.2 hk)] at HSA
    clear z3 z4 hk
    go_wp2_with fail
    refine HSA.mono ?_
    rintro e w12 ⟨rfl, hb12⟩
    have HB12 := Lib.hid (below_next HB11.out hb12)
    clear hb12 HSA
    go_wp2_with fail
    go_ret
    exact ⟨rfl, HB12.out⟩
  · have e3 : i3 ≠ 0 := fun h => hk (z3.1 h)
    have e4 : i4 ≠ 0 := fun h => hk (HSW.out.1.2 (z4.1 h))
    have e1 : ((i3 : Int) == 0) = false := by simp [e3]
    have e2 : ((i4 : Int) == 0) = false := by simp [e4]
    clear z3 z4 hk HSA
    go_wp2_with fail
    go_ret
    exact ⟨rfl, HB11.out⟩

end Go.Proofs.YtdieneaillkbgaaGreatDoor

/- TreediffUnites: for every input the law returns true, and each argument reads afterwards as it read before (the tied card). -/
namespace Go.Proofs.YtdieneaillkbgaaGreatDoor
open Go.ChangeShapes Go.WideShapes Go.ChangeAt Go.RowKit Go.Lib Go.Shelf
open Go.ChangeMaps (open_string shut_string)

namespace CUnites
set_option maxRecDepth 100000 in
theorem lifted (os : Os) (started : os.Started) (H : Type) (enc : TypeId × Value → H) :
    ReturnsInHanded {} Tryz.checked os 9 .any (fun w args => (Rows.treediffUnitesSpec.pre enc Tryz.prog Tryz.f9 [] false w args ∧ laidMetH Tryz.prog laidL w) ∧ sizedMet enc Tryz.prog Tryz.f9 (OpenSpec.ofChange Rows.treediffUnitesSpec) false w args)
      (Rows.treediffUnitesSpec.post enc Tryz.prog Tryz.f9 false true false false) := by
  refine handed (C := Tryz.checked) (X := fun w _ => laidMetH Tryz.prog laidL w) (fun _ _ _ hh h => h.of_heap hh) own started (by kernel_rfl) Tryz.func9
    (ChangeSpec.witness_shaped (enc := enc) (C := Tryz.checked) (os := os) (X := fun w _ => laidMetH Tryz.prog laidL w) false (World.laidAll Tryz.prog os laidL) #[.slice none 0 0, .slice none 0 0, .slice none 0 0] 8 (World.laidAll_os _ _ _)
      (World.shaped_of_ZipB (by kernel_rfl) (by kernel_rfl)) (by kernel_rfl) (by kernel_rfl) (by kernel_rfl)
      (by rw [MakeChecks.laidMetH_plain _ _ _ (by kernel_rfl)]; exact laidMet_laidAll _ (by kernel_rfl) (by kernel_rfl))) ?_
  intro W base args ds gs before hval0 hW _hWt hL hsh
  have hval : ∀ (j : Nat) t v, Tryz.f9.params[j]? = some t → args[j]? = some v → Value.okWide Tryz.prog W .any base t v := hval0
  have hW' := hW
  obtain ⟨p, q, hA0, hV, rfl, _, _⟩ := hW
  have hA : DataW.TrodAll enc Tryz.prog W 0 (fun _ => true) true Tryz.f9.params.toList args.toList ds p := hA0
  rw [Tryz.params9] at hA hval
  obtain ⟨rfl, rfl⟩ := trodVars_none hV
  simp only [List.append_nil] at hW'
  obtain ⟨v0, v1, v2, d0, d1, d2, p0, p1, p2, rfl, rfl, rfl, h0, h1, h2⟩ := trodAll_three hA
  obtain ⟨l0, hl0⟩ := open_ents (hval 0 22 v0 rfl rfl) h0
  have hlt0 : ∀ x ∈ p0, x.block < W.heap.size := fun x hx => by simpa using hW'.lt x (by simp [hx])
  obtain ⟨l1, hl1⟩ := open_ents (hval 1 22 v1 rfl rfl) h1
  have hlt1 : ∀ x ∈ p1, x.block < W.heap.size := fun x hx => by simpa using hW'.lt x (by simp [hx])
  obtain ⟨l2, hl2⟩ := open_ents (hval 2 22 v2 rfl rfl) h2
  have hlt2 : ∀ x ∈ p2, x.block < W.heap.size := fun x hx => by simpa using hW'.lt x (by simp [hx])
  refine (unites_walk l0 l1 l2 v0 v1 v2 W hl0 hl1 hl2 (env_of hL hsh)).mono fun e W' ⟨he, hb⟩ => ?_
  subst he
  exact ⟨_, rfl, _, _, _, [], _, [], hW', trodAll_mk1 (shut_bool Tryz.underlying4 _), trodAll_mk3 (Below.trod laidOut (by kernel_rfl) (of_decide_eq_true (by kernel_rfl)) h0 hb hlt0) (Below.trod laidOut (by kernel_rfl) (of_decide_eq_true (by kernel_rfl)) h1 hb hlt1) (Below.trod laidOut (by kernel_rfl) (of_decide_eq_true (by kernel_rfl)) h2 hb hlt2), rfl, hb.frame _, fun h => by cases h⟩
theorem holds : Rows.TreediffUnitesSaid :=
  OpenClaim.holds_of_wide 9 Tryz.f9 rfl rfl rfl rfl rfl rfl rfl ⟨rfl, rfl, rfl, rfl, rfl⟩ rfl rfl rfl rfl rfl (by kernel_rfl) Tryz.func9 (by kernel_rfl)
    (of_decide_eq_true (by kernel_rfl)) (by unfold Func.isWrapper; first | (rw [if_pos (by decide +kernel)]; kernel_rfl) | (rw [if_neg (by decide +kernel)]; exact ⟨rfl, rfl⟩))
    (fun os started H enc _ => lifted os started H enc)
theorem card_holds : Rows.TreediffUnitesCardSaid :=
  Claim7.holds_tied_plain_at .later [] [.data, .pinned] true (true, "26f308a74d533cd0a72c14b9da7e68f4e1e057f8caa1e49e6438d7b0ff3c70c4") false holds (fun _ h => by cases h) (by kernel_rfl) (fun _ h => by cases h) treediffUnites_row_tie rfl ⟨rfl, rfl⟩ (by kernel_rfl) rfl
    (fun f fn hf hfn => by
      obtain rfl : f = 9 := Option.some.inj ((show Tryz.prog.funcNamed "kinkeep/kinkeeplaw23.TreediffUnites" = some 9 by kernel_rfl).symm.trans hf) |>.symm
      obtain rfl : fn = Tryz.f9 := (Option.some.inj (Tryz.func9.symm.trans hfn)).symm
      exact ⟨by kernel_rfl, fun j t ht => by
        rw [Tryz.params9] at ht
        have hm : t ∈ [22] := by simpa using Array.mem_of_getElem? ht
        have hall : ([22].all fun u => !Tryz.prog.wantsStandIn u) = true := by kernel_rfl
        exact (show Tryz.prog.wantsStandIn t = false by simpa using List.all_eq_true.1 hall t hm)⟩)
    (by kernel_rfl)
#print axioms card_holds
end CUnites
theorem treediffUnites_card : Rows.TreediffUnitesCardSaid := CUnites.card_holds
end Go.Proofs.YtdieneaillkbgaaGreatDoor
