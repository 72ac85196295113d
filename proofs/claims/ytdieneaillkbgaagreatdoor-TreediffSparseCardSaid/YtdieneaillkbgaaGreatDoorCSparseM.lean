/- TreediffSparse: for every input the law returns true, and each argument reads afterwards as it read before (the tied card). -/
import Derived.Test.YtdieneaillkbgaaGreatDoorMH
/- The law TreediffSparse in plain terms: what a difference takes out and puts in. -/
namespace Go.Proofs.YtdieneaillkbgaaGreatDoor
open Go Go.RowKit Go.Maps

def putsC (cs : List Chg) : List ByteArray := cs.filterMap fun c => if c.kind = 1 then none else some c.path
theorem puts_app (x y : List Chg) : putsC (x ++ y) = putsC x ++ putsC y := by simp [putsC]
theorem puts_all {l : List Chg} (h : ∀ c ∈ l, c.kind ≠ 1) : putsC l = l.map Chg.path := by
  induction l with
  | nil => rfl
  | cons c l ih =>
    have e : putsC (c :: l) = putsC [c] ++ putsC l := puts_app [c] l
    rw [e, ih fun x hx => h x (List.mem_cons_of_mem _ hx)]
    simp [putsC, h c (List.mem_cons_self ..)]
theorem puts_rem (l : List Ent) : putsC (l.map remC) = [] := by
  induction l with
  | nil => rfl
  | cons c l ih =>
    have e : putsC ((c :: l).map remC) = putsC [remC c] ++ putsC (l.map remC) := puts_app [remC c] (l.map remC)
    rw [e, ih]; simp [putsC, remC]
theorem puts_diff {a b : List Ent} : putsC (diffP a b) = (ofK 2 (diffS a b).out ++ ofK 3 (diffS a b).out ++ ofK 4 (diffS a b).out).map Chg.path := by
  unfold diffP
  rw [List.append_assoc, List.append_assoc, puts_app, puts_rem, List.nil_append, ← List.append_assoc]
  refine puts_all fun c hc => ?_
  rcases List.mem_append.1 hc with hc | hc
  · rcases List.mem_append.1 hc with hc | hc
    · have := (mem_ofK.1 hc).2; omega
    · have := (mem_ofK.1 hc).2; omega
  · have := (mem_ofK.1 hc).2; omega
theorem puts_nodup {a b : List Ent} (ha : TOk a) (hb : TOk b) : (putsC (diffP a b)).Nodup := by rw [puts_diff]; exact put_nodup3 ha hb
theorem takes_nodup {a b : List Ent} (ha : TOk a) : (takesC (diffP a b)).Nodup := by
  rw [(takes_perm ha b).nodup_iff]
  exact ha.nodup.sublist (List.filter_sublist.map _)
def goneC (c : Chg) : ByteArray := if c.kind = 2 then c.src else c.path
theorem takes_one (c : Chg) : takesC [c] = if c.kind = 1 ∨ c.kind = 2 then [goneC c] else [] := by
  unfold takesC goneC
  by_cases h1 : c.kind = 1
  · simp [h1]
  · by_cases h2 : c.kind = 2
    · simp [h2]
    · simp [h1, h2]
theorem puts_one (c : Chg) : putsC [c] = if c.kind = 1 then [] else [c.path] := by
  unfold putsC
  by_cases h1 : c.kind = 1
  · simp [h1]
  · simp [h1]
theorem take_last {cs : List Chg} {k : Nat} {c : Chg} (h : cs[k]? = some c) : cs.take (k + 1) = cs.take k ++ [c] := by rw [List.take_add_one, h]; rfl
theorem all_parts {cs : List Chg} {k : Nat} {c : Chg} (h : cs[k]? = some c) : cs = cs.take k ++ ([c] ++ cs.drop (k + 1)) := by
  rw [← List.append_assoc, ← take_last h, List.take_append_drop]
theorem gone_new {cs : List Chg} {k : Nat} {c : Chg} (hn : (takesC cs).Nodup) (h : cs[k]? = some c) (hk : c.kind = 1 ∨ c.kind = 2) : hasP (takesC (cs.take k)) (goneC c) = false := by
  rw [all_parts h, takes_app, takes_app, takes_one, if_pos hk] at hn
  rw [← Bool.not_eq_true, hasP_iff]
  intro hm
  exact (List.nodup_append.1 hn).2.2 _ hm _ (by simp) rfl
theorem put_new {cs : List Chg} {k : Nat} {c : Chg} (hn : (putsC cs).Nodup) (h : cs[k]? = some c) (hk : c.kind ≠ 1) : hasP (putsC (cs.take k)) c.path = false := by
  rw [all_parts h, puts_app, puts_app, puts_one, if_neg hk] at hn
  rw [← Bool.not_eq_true, hasP_iff]
  intro hm
  exact (List.nodup_append.1 hn).2.2 _ hm _ (by simp) rfl
theorem hasP_add (s : List ByteArray) (p : ByteArray) : hasP (s ++ [p]) = addK (hasP s) p := by
  funext q
  unfold hasP addK
  rw [List.any_append, Bool.or_comm]
  simp [eq_comm]
theorem takes_step {cs : List Chg} {k : Nat} {c : Chg} (h : cs[k]? = some c) : hasP (takesC (cs.take (k + 1))) = if c.kind = 1 ∨ c.kind = 2 then addK (hasP (takesC (cs.take k))) (goneC c) else hasP (takesC (cs.take k)) := by
  rw [take_last h, takes_app, takes_one]
  split
  · rw [hasP_add]
  · rw [List.append_nil]
theorem puts_step2 {cs : List Chg} {k : Nat} {c : Chg} (h : cs[k]? = some c) : hasP (putsC (cs.take (k + 1))) = if c.kind = 1 then hasP (putsC (cs.take k)) else addK (hasP (putsC (cs.take k))) c.path := by
  rw [take_last h, puts_app, puts_one]
  split
  · rw [List.append_nil]
  · rw [hasP_add]
theorem equal_still {a b : List Ent} (ha : TOk a) (hb : TOk b) {x : Ent} (hx : x ∈ a) (hy : x ∈ b) : hasP (takesC (diffP a b)) x.path = false ∧ hasP (putsC (diffP a b)) x.path = false := by
  have hfa := findE_mem ha.nodup hx
  have hfb := findE_mem hb.nodup hy
  constructor
  · rw [← Bool.not_eq_true, hasP_iff, (takes_perm ha b).mem_iff, List.mem_map]
    rintro ⟨z, hz, hzp⟩
    have hz' := List.mem_filter.1 hz
    have : z = x := by
      have h1 := findE_mem ha.nodup hz'.1
      rw [hzp, hfa] at h1
      exact (Option.some.inj h1).symm
    subst this
    have h2 := hz'.2
    unfold keptE at h2
    rw [hfb] at h2
    simp at h2
  · rw [← Bool.not_eq_true, hasP_iff, puts_diff, List.mem_map]
    rintro ⟨c, hc, hcp⟩
    have hco : c ∈ (diffS a b).out := by
      rcases List.mem_append.1 hc with hc | hc
      · rcases List.mem_append.1 hc with hc | hc
        · exact (mem_ofK.1 hc).1
        · exact (mem_ofK.1 hc).1
      · exact (mem_ofK.1 hc).1
    have hd := dinv ha b
    have he : c.en ∈ (diffS a b).out.map Chg.en := List.mem_map_of_mem hco
    rw [hd.ens] at he
    have he' := List.mem_filter.1 he
    have hpe : c.en.path = x.path := by rw [← (hd.all c hco).path]; exact hcp
    have : c.en = x := by
      have h1 := findE_mem hb.nodup he'.1
      rw [hpe, hfb] at h1
      exact (Option.some.inj h1).symm
    have h3 := he'.2
    rw [this, hfa] at h3
    simp at h3

end Go.Proofs.YtdieneaillkbgaaGreatDoor

/- The law TreediffSparse: its walk. -/
namespace Go.Proofs.YtdieneaillkbgaaGreatDoor
open Go Go.RowKit Go.Maps



structure LoopS (cs : List Chg) (w : World) (ob ib k : Nat) (wr : World) : Prop where
  so : SetR wr ob (hasP (takesC (cs.take k)))
  si : SetR wr ib (hasP (putsC (cs.take k)))
  bel : Below w.heap.size w wr
theorem LoopS.below {cs : List Chg} {w wr w' : World} {ob ib k : Nat} (h : LoopS cs w ob ib k wr) (hb : Below wr.heap.size wr w') : LoopS cs w ob ib k w' :=
  ⟨h.so.below hb, h.si.below hb, below_next h.bel hb⟩
theorem ents_len {S : Nat → Prop} {w : World} {a : Option Addr} {n cap : Nat} {l : List Ent} (hv : EntsAt S w (.slice a n cap) l) : n = l.length := by
  obtain ⟨a', cap', he, _, _, _⟩ := SeqAt.shape hv EntR.len
  simp only [Value.slice.injEq] at he
  exact he.2.1
set_option maxRecDepth 100000 in
set_option maxHeartbeats 2000000 in
theorem sparse_walk (a b : List Ent) (va vb : Value) (w : World) (ha : EntsAt (fun _ => True) w va a) (hb : EntsAt (fun _ => True) w vb b) (henv : Env w) :
    Calls Tryz.prog 7 #[va, vb] w fun e w' => e = .returned (.bool true) ∧ Below w.heap.size w w' := by
  obtain ⟨aa, ca, rfl, hca, hma, -⟩ := SeqAt.shape ha EntR.len
  obtain ⟨ab, cb, rfl, hcb, hmb, -⟩ := SeqAt.shape hb EntR.len
  unfold maxLen at hma hmb
  have HA := Lib.hid ha
  have HB := Lib.hid hb
  have HE := Lib.hid henv
  obtain ⟨na, hna⟩ : ∃ n, n = a.length := ⟨_, rfl⟩
  obtain ⟨nb, hnb⟩ : ∃ n, n = b.length := ⟨_, rfl⟩
  rw [← hna] at hca HA ⊢
  rw [← hnb] at hcb HB ⊢
  clear ha hb henv hna hnb
  go_enter Tryz.func7, Tryz.ntmps7
  go_wp2_with fail
  refine (awD_any w HE.out).mono ?_
  rintro e w1 ⟨rfl, hb1⟩
  have HB1 := Lib.hid hb1
  clear hb1
  go_wp2_with fail
  obtain ⟨w2, hw2⟩ : ∃ Z : World, Z = w1.alloc (.cells #[.slice aa na ca, .slice ab nb cb] 22) := ⟨_, rfl⟩
  have hb2 : Below w1.heap.size w1 w2 := by rw [hw2]; exact (Below.refl _ _).alloc (Nat.le_refl _) _
  have HLS := Lib.hid (show ListsAt (fun _ => True) w2 (.slice (some ⟨w1.heap.size, 0, none⟩) 2 2) [(.slice aa na ca, a), (.slice ab nb cb, b)] by
    rw [hw2]
    exact lists_new (ls := [(.slice aa na ca, a), (.slice ab nb cb, b)]) (by simp) (fun x hx => by
      simp only [List.mem_cons, List.not_mem_nil, or_false] at hx
      rcases hx with rfl | rfl
      · exact HA.out.below HB1.out
      · exact HB.out.below HB1.out))
  have HB2 := Lib.hid (below_next HB1.out hb2)
  rw [← hw2]
  clear hw2 hb2
  refine (trees_any _ _ _ w2 HLS.out (HE.out.below HB2.out)).mono ?_
  rintro e w3 ⟨tb, rfl, htr, hb3⟩
  have HTR := Lib.hid htr
  have HB3 := Lib.hid (below_next HB2.out hb3)
  clear htr hb3
  cases tb
  case false =>
    go_wp2_with fail
    go_ret
    exact ⟨rfl, HB3.out⟩
  have HTA := Lib.hid (HTR.out rfl _ (List.mem_cons_self ..)).2
  have HTB := Lib.hid (HTR.out rfl _ (List.mem_cons_of_mem _ (List.mem_cons_self ..))).2
  have HLA := Lib.hid (HTR.out rfl _ (List.mem_cons_self ..)).1
  have HLB := Lib.hid (HTR.out rfl _ (List.mem_cons_of_mem _ (List.mem_cons_self ..))).1
  clear HTR HLS
  have HKS := Lib.hid (@diff_kinds a b HTA.out)
  have HTN := Lib.hid (@takes_nodup a b HTA.out)
  have HPN := Lib.hid (puts_nodup HTA.out HTB.out)
  have HEQ := Lib.hid (fun x => @equal_still a b HTA.out HTB.out x)
  have HDQ := Lib.hid (show diffQ a b = (diffP a b, 0) from diffQ_tok HTA.out HTB.out)
  have HLN := Lib.hid (show a.length + (diffP a b).length ≤ 4096 by
    have h1 := @diff_len a b HTA.out
    have h2 := HLA.out.1
    have h3 := HLB.out.1
    simp only at h2 h3
    omega)
  obtain ⟨L, hL⟩ : ∃ L, L = diffP a b := ⟨_, rfl⟩
  rw [← hL] at HKS HTN HPN HEQ HDQ HLN
  clear hL
  go_wp2_with fail
  refine (diff_flat _ _ a b _ _ w3 L 0 HDQ.out (HA.out.below HB3.out) (HB.out.below HB3.out) (HE.out.below HB3.out)).mono ?_
  rintro e w4 ⟨al, cl, rfl, hls, hcl, hb4⟩
  have HLS := Lib.hid (chgs_old hls)
  have HB4 := Lib.hid (below_next HB3.out hb4)
  obtain ⟨n, hn⟩ : ∃ n, n = L.length := ⟨_, rfl⟩
  rw [← hn] at HLS ⊢
  have HN := Lib.hid hn
  have hn0 : n ≤ 4096 := by have := HLN.out; omega
  clear hls hb4 hn
  have hmk := make_set
  go_upto_region 7 with (fail)
  clear hmk
  obtain ⟨w5, hw5⟩ : ∃ W : World, W = (w4.alloc (.map #[] 0)).alloc (.map #[] 0) := ⟨_, rfl⟩
  rw [← hw5]
  have hb5a : Below w4.heap.size w4 (w4.alloc (.map #[] 0)) := (Below.refl _ _).alloc (Nat.le_refl _) _
  have hb5b : Below (w4.alloc (.map #[] 0)).heap.size (w4.alloc (.map #[] 0)) w5 := by rw [hw5]; exact (Below.refl _ _).alloc (Nat.le_refl _) _
  have hsz : (w4.alloc (.map #[] 0)).heap.size = w4.heap.size + 1 := by simp
  obtain ⟨ob, hob⟩ : ∃ ob, ob = w4.heap.size := ⟨_, rfl⟩
  obtain ⟨ib, hib⟩ : ∃ ib, ib = w4.heap.size + 1 := ⟨_, rfl⟩
  have HL5 := Lib.hid (show LoopS L w4 ob ib 0 w5 from ⟨by rw [hob]; exact (SetR.made w4).below hb5b, by rw [hib, ← hsz, hw5]; exact SetR.made _, below_next hb5a hb5b⟩)
  have HOI := Lib.hid (show w4.heap.size ≤ ob ∧ w4.heap.size ≤ ib ∧ ob ≠ ib by omega)
  rw [← hib, ← hob]
  clear hw5 hb5a hb5b hsz hob hib
  go_wp2_with fail
  go_loopw [33] (fun i wr => ∃ k : Nat, k ≤ n ∧ i = .int .i64 k ∧ LoopS L w4 ob ib k wr) (fun i _ => n - (intOf i).toNat)
  case atStart => exact ⟨0, Nat.zero_le _, rfl, HL5.out⟩
  case round =>
    obtain ⟨k, hk, rfl, hlp⟩ := hrel
    have HLP := Lib.hid hlp
    clear hlp
    by_cases hlt : k < n
    · obtain ⟨c, hcc⟩ : ∃ c, L[k]? = some c := ⟨L[k]'(by rw [← HN.out]; exact hlt), by simp⟩
      have HK := Lib.hid (HKS.out c (List.mem_of_getElem? hcc))
      obtain ⟨b, o, dv, rfl, hb, hd, hok, hq⟩ := chgs_at (HLS.out.below HLP.out.bel) hcc
      have HAT := Lib.hid hcc
      have HD := Lib.hid hd
      have HOK := Lib.hid hok
      obtain ⟨a1, cap1, rfl, hd1, hd2⟩ := hd.slice
      unfold maxLen at hd2
      have c0 := (hq 0 (by omega)).trans rfl
      have c1 := (hq 1 (by omega)).trans rfl
      have c2 := (hq 2 (by omega)).trans rfl
      have c3 := (hq 3 (by omega)).trans rfl
      have c4 := (hq 4 (by omega)).trans rfl
      have c5 := (hq 5 (by omega)).trans rfl
      have c6 := (hq 6 (by omega)).trans rfl
      have c7 := (hq 7 (by omega)).trans rfl
      have c8 := (hq 8 (by omega)).trans rfl
      simp only [chgC, List.getElem?_cons_succ, List.getElem?_cons_zero, Nat.add_zero] at c0 c1 c2 c3 c4 c5 c6 c7 c8
      clear hcc hd hok hq
      go_upto_region 10 with (fail)
      obtain ⟨W, hW⟩ : ∃ W : World, W = wr.alloc (.cells #[.int .i64 c.kind, .string c.path, .string c.src, .string c.en.path, .int .i64 c.en.kind, .int .i64 c.en.mode, .int .i64 c.en.time, .slice a1 c.en.data.length cap1, .string c.en.link] 58) := ⟨_, rfl⟩
      rw [← hW]
      have HW := Lib.hid (show Below wr.heap.size wr W by rw [hW]; exact (Below.refl _ _).alloc (Nat.le_refl _) _)
      have HX := Lib.hid (show W.heap[wr.heap.size]? = some (.cells #[.int .i64 c.kind, .string c.path, .string c.src, .string c.en.path, .int .i64 c.en.kind, .int .i64 c.en.mode, .int .i64 c.en.time, .slice a1 c.en.data.length cap1, .string c.en.link] 58 (0, 0)) by rw [hW]; exact new20 wr _)
      have HEQ := Lib.hid hW.symm
      clear hW c0 c1 c2 c3 c4 c5 c6 c7 c8
      have c0 := cell20 (k := 0) HX.out
      have c1 := cell20 (k := 1) HX.out
      have c2 := cell20 (k := 2) HX.out
      have c3 := cell20 (k := 3) HX.out
      have c4 := cell20 (k := 4) HX.out
      have c5 := cell20 (k := 5) HX.out
      have c6 := cell20 (k := 6) HX.out
      have c7 := cell20 (k := 7) HX.out
      have c8 := cell20 (k := 8) HX.out
      have hltX := lt20 HX.out
      simp only [List.getElem?_toArray, List.getElem?_cons_succ, List.getElem?_cons_zero] at c0 c1 c2 c3 c4 c5 c6 c7 c8
      have HLW := Lib.hid (HLP.out.below HW.out)
      have HOX := Lib.hid (show ob < wr.heap.size ∧ ib < wr.heap.size from ⟨HLP.out.so.lt, HLP.out.si.lt⟩)
      have HT1 := Lib.hid (takes_step HAT.out)
      have HT2 := Lib.hid (puts_step2 HAT.out)
      by_cases h1 : c.kind = 1
      · have hgc : goneC c = c.path := by unfold goneC; rw [if_neg (by omega)]
        have HGP := Lib.hid HOK.out.pth
        have HGN := Lib.hid (show hasP (takesC (L.take k)) c.path = false by rw [← hgc]; exact gone_new HTN.out HAT.out (Or.inl h1))
        have HGC := Lib.hid hgc
        clear hgc
        have hput := HLW.out.so.put boolTy (p := c.path) HGP.out
        have HPUT := Lib.hid hput
        have hget := HLW.out.so.get boolTy (boolZ W) (p := c.path) HGP.out
        rw [HGN.out] at hget
        clear hput
        go_upto_region 17 with (at_mapUpdate; go_must (refine wpList_updRun rfl _ _ _ _ rfl _ _ _ rfl rfl rfl HPUT.out ?_); rintro V ⟨hs3, hg3⟩; have HSV := Lib.hid hs3; have HGV := Lib.hid hg3; clear hs3 hg3 hget c0 c1 c2 c3 c4 c5 c6 c7 c8 hltX)
        have HXV := Lib.hid ((HGV.out.block _ (lt20 HX.out) (fun e => by have h1 := Option.some.inj e; have h2 := HOX.out; omega)).trans HX.out)
        have HIV := Lib.hid (HLW.out.si.other HGV.out (by have := HOI.out; omega))
        have HBV := Lib.hid (HLW.out.bel.grown HGV.out HLW.out.bel.size (fun k e => by cases e; have := HOI.out; omega))
        have c0 := cell20 (k := 0) HXV.out
        have c1 := cell20 (k := 1) HXV.out
        have c2 := cell20 (k := 2) HXV.out
        have c3 := cell20 (k := 3) HXV.out
        have c4 := cell20 (k := 4) HXV.out
        have c5 := cell20 (k := 5) HXV.out
        have c6 := cell20 (k := 6) HXV.out
        have c7 := cell20 (k := 7) HXV.out
        have c8 := cell20 (k := 8) HXV.out
        have hltX := lt20 HXV.out
        simp only [List.getElem?_toArray, List.getElem?_cons_succ, List.getElem?_cons_zero] at c0 c1 c2 c3 c4 c5 c6 c7 c8
        go_wp2_with fail
        go_roundw
        case rel => exact ⟨k + 1, by omega, by go_num, by rw [HT1.out, if_pos (Or.inl h1), HGC.out]; exact HSV.out, by rw [HT2.out, if_pos h1]; exact HIV.out, HBV.out⟩
        case measure => simp [intOf]; omega
      · have HPN1 := Lib.hid (put_new HPN.out HAT.out h1)
        by_cases h2 : c.kind = 2
        · have hgc : goneC c = c.src := by unfold goneC; rw [if_pos h2]
          have HGP := Lib.hid HOK.out.src
          have HGN := Lib.hid (show hasP (takesC (L.take k)) c.src = false by rw [← hgc]; exact gone_new HTN.out HAT.out (Or.inr h2))
          have HGC := Lib.hid hgc
          clear hgc
          have hput := HLW.out.so.put boolTy (p := c.src) HGP.out
          have HPUT := Lib.hid hput
          have hget := HLW.out.so.get boolTy (boolZ W) (p := c.src) HGP.out
          rw [HGN.out] at hget
          clear hput
          go_upto_region 17 with (at_mapUpdate; go_must (refine wpList_updRun rfl _ _ _ _ rfl _ _ _ rfl rfl rfl HPUT.out ?_); rintro V ⟨hs3, hg3⟩; have HSV := Lib.hid hs3; have HGV := Lib.hid hg3; clear hs3 hg3 hget c0 c1 c2 c3 c4 c5 c6 c7 c8 hltX)
          have HXV := Lib.hid ((HGV.out.block _ (lt20 HX.out) (fun e => by have h1 := Option.some.inj e; have h2 := HOX.out; omega)).trans HX.out)
          have HIV := Lib.hid (HLW.out.si.other HGV.out (by have := HOI.out; omega))
          have HBV := Lib.hid (HLW.out.bel.grown HGV.out HLW.out.bel.size (fun k e => by cases e; have := HOI.out; omega))
          have c0 := cell20 (k := 0) HXV.out
          have c1 := cell20 (k := 1) HXV.out
          have c2 := cell20 (k := 2) HXV.out
          have c3 := cell20 (k := 3) HXV.out
          have c4 := cell20 (k := 4) HXV.out
          have c5 := cell20 (k := 5) HXV.out
          have c6 := cell20 (k := 6) HXV.out
          have c7 := cell20 (k := 7) HXV.out
          have c8 := cell20 (k := 8) HXV.out
          have hltX := lt20 HXV.out
          simp only [List.getElem?_toArray, List.getElem?_cons_succ, List.getElem?_cons_zero] at c0 c1 c2 c3 c4 c5 c6 c7 c8
          have hput := HIV.out.put boolTy (p := c.path) HOK.out.pth
          have HPUT2 := Lib.hid hput
          have hget := HIV.out.get boolTy (boolZ V) (p := c.path) HOK.out.pth
          rw [HPN1.out] at hget
          clear hput
          go_wp2_with (at_mapUpdate; go_must (refine wpList_updRun rfl _ _ _ _ rfl _ _ _ rfl rfl rfl HPUT2.out ?_); rintro V2 ⟨hs3, hg3⟩; have HSV2 := Lib.hid hs3; have HGV2 := Lib.hid hg3; clear hs3 hg3 hget c0 c1 c2 c3 c4 c5 c6 c7 c8 hltX)
          have HOV2 := Lib.hid (HSV.out.other HGV2.out (by have := HOI.out; omega))
          have HBV2 := Lib.hid (HBV.out.grown HGV2.out HBV.out.size (fun k e => by cases e; have := HOI.out; omega))
          go_roundw
          case rel => exact ⟨k + 1, by omega, by go_num, by rw [HT1.out, if_pos (Or.inr h2), HGC.out]; exact HOV2.out, by rw [HT2.out, if_neg h1]; exact HSV2.out, HBV2.out⟩
          case measure => simp [intOf]; omega
        · have HSOW := Lib.hid HLW.out.so
          have HSIW := Lib.hid HLW.out.si
          have HBLW := Lib.hid HLW.out.bel
          have hput := HSIW.out.put boolTy (p := c.path) HOK.out.pth
          have HPUT2 := Lib.hid hput
          have hget := HSIW.out.get boolTy (boolZ W) (p := c.path) HOK.out.pth
          rw [HPN1.out] at hget
          clear hput
          go_wp2_with (at_mapUpdate; go_must (refine wpList_updRun rfl _ _ _ _ rfl _ _ _ rfl rfl rfl HPUT2.out ?_); rintro V2 ⟨hs3, hg3⟩; have HSV2 := Lib.hid hs3; have HGV2 := Lib.hid hg3; clear hs3 hg3 hget c0 c1 c2 c3 c4 c5 c6 c7 c8 hltX)
          have HOV2 := Lib.hid (HSOW.out.other HGV2.out (by have := HOI.out; omega))
          have HBV2 := Lib.hid (HBLW.out.grown HGV2.out HBLW.out.size (fun k e => by cases e; have := HOI.out; omega))
          go_roundw
          case rel => exact ⟨k + 1, by omega, by go_num, by rw [HT1.out, if_neg (fun h => h.elim h1 h2)]; exact HOV2.out, by rw [HT2.out, if_neg h1]; exact HSV2.out, HBV2.out⟩
          case measure => simp [intOf]; omega
    · have hk2 : n = k := by omega
      subst hk2
      have HSO := Lib.hid (show SetR wr ob (hasP (takesC L)) by have := HLP.out.so; rw [HN.out, List.take_length] at this; exact this)
      have HSI := Lib.hid (show SetR wr ib (hasP (putsC L)) by have := HLP.out.si; rw [HN.out, List.take_length] at this; exact this)
      have HBE := Lib.hid (below_next HB4.out HLP.out.bel)
      have HMA := Lib.hid (show na = a.length from ents_len HA.out)
      have HMB := Lib.hid (show nb = b.length from ents_len HB.out)
      obtain ⟨wz, hwz⟩ : ∃ W : World, W = wr := ⟨_, rfl⟩
      rw [← hwz] at HSO HSI HBE ⊢
      clear hk hlt HLP HL5 hwz
      go_wp2_with fail
      go_loopw [70] (fun i wr => ∃ k : Nat, k ≤ na ∧ i = .int .i64 k ∧ Below wz.heap.size wz wr) (fun i _ => na - (intOf i).toNat)
      case atStart => exact ⟨0, Nat.zero_le _, rfl, Below.refl _ _⟩
      case round =>
        obtain ⟨k, hk, rfl, hbr⟩ := hrel
        have HBR := Lib.hid (below_next HBE.out hbr)
        have HBZ := Lib.hid hbr
        clear hbr
        by_cases hlt : k < na
        · obtain ⟨x, hx⟩ : ∃ x, a[k]? = some x := ⟨a[k]'(by rw [← HMA.out]; exact hlt), by simp⟩
          obtain ⟨bx, ox, dx, rfl, -, hbx, hd, hok, -, q0, q1, q2, q3, q4, q5⟩ := ents_at (HA.out.below HBR.out) hx
          have HXA := Lib.hid (List.mem_of_getElem? hx)
          have HXD := Lib.hid hd
          have HXP := Lib.hid (show x.path.size ≤ maxLen from hok.pth)
          obtain ⟨ax, cx, rfl, hdx1, hdx2⟩ := hd.slice
          unfold maxLen at hdx2
          clear hx hd hok
          go_upto_region 25 with (fail)
          obtain ⟨W, hW⟩ : ∃ Z : World, Z = wr.alloc (.cells #[.string x.path, .int .i64 x.kind, .int .i64 x.mode, .int .i64 x.time, .slice ax x.data.length cx, .string x.link] 48) := ⟨_, rfl⟩
          rw [← hW]
          have HW := Lib.hid (show Below wr.heap.size wr W by rw [hW]; exact (Below.refl _ _).alloc (Nat.le_refl _) _)
          have HX := Lib.hid (show W.heap[wr.heap.size]? = some (.cells #[.string x.path, .int .i64 x.kind, .int .i64 x.mode, .int .i64 x.time, .slice ax x.data.length cx, .string x.link] 48 (0, 0)) by rw [hW]; exact new20 wr _)
          clear hW q0 q1 q2 q3 q4 q5
          obtain ⟨xb, hxb⟩ : ∃ xb, xb = wr.heap.size := ⟨_, rfl⟩
          rw [← hxb] at HX ⊢
          have HBW := Lib.hid (below_next HBR.out HW.out)
          have HBZW := Lib.hid (below_next HBZ.out HW.out)
          clear hxb
          go_wp2_with fail
          go_loopw [76] (fun i wr => ∃ j : Nat, j ≤ nb ∧ i = .int .i64 j ∧ Below W.heap.size W wr) (fun i _ => nb - (intOf i).toNat)
          case atStart => exact ⟨0, Nat.zero_le _, rfl, Below.refl _ _⟩
          case round =>
            obtain ⟨j, hj, rfl, hbi⟩ := hrel
            have HBI := Lib.hid (below_next HBW.out hbi)
            have HBWI := Lib.hid hbi
            clear hbi
            by_cases hlj : j < nb
            · obtain ⟨y, hy⟩ : ∃ y, b[j]? = some y := ⟨b[j]'(by rw [← HMB.out]; exact hlj), by simp⟩
              obtain ⟨by', oy, dy, rfl, -, hby, hd, hok, -, q0, q1, q2, q3, q4, q5⟩ := ents_at (HB.out.below HBI.out) hy
              have HYB := Lib.hid (List.mem_of_getElem? hy)
              have HYD := Lib.hid hd
              obtain ⟨ay, cy, rfl, hdy1, hdy2⟩ := hd.slice
              unfold maxLen at hdy2
              clear hy hd hok
              go_upto_region 28 with (fail)
              obtain ⟨Y, hY⟩ : ∃ Z : World, Z = wr.alloc (.cells #[.string y.path, .int .i64 y.kind, .int .i64 y.mode, .int .i64 y.time, .slice ay y.data.length cy, .string y.link] 48) := ⟨_, rfl⟩
              rw [← hY]
              have HY := Lib.hid (show Below wr.heap.size wr Y by rw [hY]; exact (Below.refl _ _).alloc (Nat.le_refl _) _)
              have HYX := Lib.hid (show Y.heap[wr.heap.size]? = some (.cells #[.string y.path, .int .i64 y.kind, .int .i64 y.mode, .int .i64 y.time, .slice ay y.data.length cy, .string y.link] 48 (0, 0)) by rw [hY]; exact new20 wr _)
              clear hY q0 q1 q2 q3 q4 q5
              have HXY := Lib.hid ((HY.out.block _ (lt20 ((HBWI.out.block _ (lt20 HX.out)).trans HX.out))).trans ((HBWI.out.block _ (lt20 HX.out)).trans HX.out))
              have HBZY := Lib.hid (below_next (below_next HBZW.out HBWI.out) HY.out)
              have HBWY := Lib.hid (below_next HBWI.out HY.out)
              have HYDY := Lib.hid (HYD.out.below HY.out)
              have HXDY := Lib.hid (HXD.out.below (below_next HW.out HBWY.out))
              have p0 := cell20 (k := 0) HXY.out
              have p1 := cell20 (k := 1) HXY.out
              have p2 := cell20 (k := 2) HXY.out
              have p3 := cell20 (k := 3) HXY.out
              have p4 := cell20 (k := 4) HXY.out
              have p5 := cell20 (k := 5) HXY.out
              have hltp := lt20 HXY.out
              simp only [List.getElem?_toArray, List.getElem?_cons_succ, List.getElem?_cons_zero] at p0 p1 p2 p3 p4 p5
              have r0 := cell20 (k := 0) HYX.out
              have r1 := cell20 (k := 1) HYX.out
              have r2 := cell20 (k := 2) HYX.out
              have r3 := cell20 (k := 3) HYX.out
              have r4 := cell20 (k := 4) HYX.out
              have r5 := cell20 (k := 5) HYX.out
              have hltr := lt20 HYX.out
              simp only [List.getElem?_toArray, List.getElem?_cons_succ, List.getElem?_cons_zero] at r0 r1 r2 r3 r4 r5
              by_cases hpp : x.path.toList = y.path.toList
              · by_cases hxy : x = y
                · subst hxy
                  clear hpp
                  have HNO := Lib.hid (HEQ.out x HXA.out HYB.out)
                  have hsame := r_same20_is _ _ x x (.slice ax x.data.length cx) (.slice ay x.data.length cy) true Y HXDY.out HYDY.out (decide_eq_true rfl)
                  have HSA := Lib.hid hsame
                  clear hsame
                  go_wp2_with fail
                  refine HSA.out.mono ?_
                  rintro e Z ⟨rfl, hbz⟩
                  have HBZ2 := Lib.hid hbz
                  have HXZ := Lib.hid ((hbz.block _ (lt20 HXY.out)).trans HXY.out)
                  have hgo := (HSO.out.below (below_next HBZY.out hbz)).get boolTy (boolZ Z) HXP.out
                  have hgi := (HSI.out.below (below_next HBZY.out hbz)).get boolTy (boolZ Z) HXP.out
                  rw [HNO.out.1] at hgo
                  rw [HNO.out.2] at hgi
                  clear hbz p0 p1 p2 p3 p4 p5 r0 r1 r2 r3 r4 r5 hltp hltr
                  have p0 := cell20 (k := 0) HXZ.out
                  have p1 := cell20 (k := 1) HXZ.out
                  have p2 := cell20 (k := 2) HXZ.out
                  have p3 := cell20 (k := 3) HXZ.out
                  have p4 := cell20 (k := 4) HXZ.out
                  have p5 := cell20 (k := 5) HXZ.out
                  have hltp := lt20 HXZ.out
                  simp only [List.getElem?_toArray, List.getElem?_cons_succ, List.getElem?_cons_zero] at p0 p1 p2 p3 p4 p5
                  go_wp2_with fail
                  go_roundw
                  case rel => exact ⟨j + 1, by omega, by go_num, below_next HBWY.out HBZ2.out⟩
                  case measure => simp [intOf]; omega
                · have hsame := r_same20_is _ _ x y (.slice ax x.data.length cx) (.slice ay y.data.length cy) false Y HXDY.out HYDY.out (by rw [decide_eq_false hxy])
                  have HSA := Lib.hid hsame
                  clear hsame hxy
                  go_wp2_with fail
                  refine HSA.out.mono ?_
                  rintro e Z ⟨rfl, hbz⟩
                  have HBZ2 := Lib.hid hbz
                  clear hbz p0 p1 p2 p3 p4 p5 r0 r1 r2 r3 r4 r5 hltp hltr hpp
                  go_wp2_with fail
                  go_roundw
                  case rel => exact ⟨j + 1, by omega, by go_num, below_next HBWY.out HBZ2.out⟩
                  case measure => simp [intOf]; omega
              · go_wp2_with fail
                go_roundw
                case rel => exact ⟨j + 1, by omega, by go_num, HBWY.out⟩
                case measure => simp [intOf]; omega
            · have hk3 : nb = j := by omega
              subst hk3
              go_wp2_with fail
              go_roundw
              case rel => exact ⟨k + 1, by omega, by go_num, below_next HBZW.out HBWI.out⟩
              case measure => simp [intOf]; omega
        · have hk3 : na = k := by omega
          subst hk3
          go_wp2_with fail
          go_ret
          exact ⟨rfl, HBR.out⟩

end Go.Proofs.YtdieneaillkbgaaGreatDoor

/- TreediffSparse: for every input the law returns true, and each argument reads afterwards as it read before (the tied card). -/
namespace Go.Proofs.YtdieneaillkbgaaGreatDoor
open Go.ChangeShapes Go.WideShapes Go.ChangeAt Go.RowKit Go.Lib Go.Shelf
open Go.ChangeMaps (open_string shut_string)

namespace CSparse
set_option maxRecDepth 100000 in
theorem lifted (os : Os) (started : os.Started) (H : Type) (enc : TypeId × Value → H) :
    ReturnsInHanded {} Tryz.checked os 7 .any (fun w args => (Rows.treediffSparseSpec.pre enc Tryz.prog Tryz.f7 [] false w args ∧ laidMetH Tryz.prog laidL w) ∧ sizedMet enc Tryz.prog Tryz.f7 (OpenSpec.ofChange Rows.treediffSparseSpec) false w args)
      (Rows.treediffSparseSpec.post enc Tryz.prog Tryz.f7 false true false false) := by
  refine handed (C := Tryz.checked) (X := fun w _ => laidMetH Tryz.prog laidL w) (fun _ _ _ hh h => h.of_heap hh) own started (by kernel_rfl) Tryz.func7
    (ChangeSpec.witness_shaped (enc := enc) (C := Tryz.checked) (os := os) (X := fun w _ => laidMetH Tryz.prog laidL w) false (World.laidAll Tryz.prog os laidL) #[.slice none 0 0, .slice none 0 0] 8 (World.laidAll_os _ _ _)
      (World.shaped_of_ZipB (by kernel_rfl) (by kernel_rfl)) (by kernel_rfl) (by kernel_rfl) (by kernel_rfl)
      (by rw [MakeChecks.laidMetH_plain _ _ _ (by kernel_rfl)]; exact laidMet_laidAll _ (by kernel_rfl) (by kernel_rfl))) ?_
  intro W base args ds gs before hval0 hW _hWt hL hsh
  have hval : ∀ (j : Nat) t v, Tryz.f7.params[j]? = some t → args[j]? = some v → Value.okWide Tryz.prog W .any base t v := hval0
  have hW' := hW
  obtain ⟨p, q, hA0, hV, rfl, _, _⟩ := hW
  have hA : DataW.TrodAll enc Tryz.prog W 0 (fun _ => true) true Tryz.f7.params.toList args.toList ds p := hA0
  rw [Tryz.params7] at hA hval
  obtain ⟨rfl, rfl⟩ := trodVars_none hV
  simp only [List.append_nil] at hW'
  obtain ⟨v0, v1, d0, d1, p0, p1, rfl, rfl, rfl, h0, h1⟩ := trodAll_two hA
  obtain ⟨l0, hl0⟩ := open_ents (hval 0 22 v0 rfl rfl) h0
  have hlt0 : ∀ x ∈ p0, x.block < W.heap.size := fun x hx => by simpa using hW'.lt x (by simp [hx])
  obtain ⟨l1, hl1⟩ := open_ents (hval 1 22 v1 rfl rfl) h1
  have hlt1 : ∀ x ∈ p1, x.block < W.heap.size := fun x hx => by simpa using hW'.lt x (by simp [hx])
  refine (sparse_walk l0 l1 v0 v1 W hl0 hl1 (env_of hL hsh)).mono fun e W' ⟨he, hb⟩ => ?_
  subst he
  exact ⟨_, rfl, _, _, _, [], _, [], hW', trodAll_mk1 (shut_bool Tryz.underlying4 _), trodAll_mk2 (Below.trod laidOut (by kernel_rfl) (of_decide_eq_true (by kernel_rfl)) h0 hb hlt0) (Below.trod laidOut (by kernel_rfl) (of_decide_eq_true (by kernel_rfl)) h1 hb hlt1), rfl, hb.frame _, fun h => by cases h⟩
theorem holds : Rows.TreediffSparseSaid :=
  OpenClaim.holds_of_wide 7 Tryz.f7 rfl rfl rfl rfl rfl rfl rfl ⟨rfl, rfl, rfl, rfl, rfl⟩ rfl rfl rfl rfl rfl (by kernel_rfl) Tryz.func7 (by kernel_rfl)
    (of_decide_eq_true (by kernel_rfl)) (by unfold Func.isWrapper; first | (rw [if_pos (by decide +kernel)]; kernel_rfl) | (rw [if_neg (by decide +kernel)]; exact ⟨rfl, rfl⟩))
    (fun os started H enc _ => lifted os started H enc)
theorem card_holds : Rows.TreediffSparseCardSaid :=
  Claim7.holds_tied_plain_at .later [] [.data, .pinned] true (true, "26f308a74d533cd0a72c14b9da7e68f4e1e057f8caa1e49e6438d7b0ff3c70c4") false holds (fun _ h => by cases h) (by kernel_rfl) (fun _ h => by cases h) treediffSparse_row_tie rfl ⟨rfl, rfl⟩ (by kernel_rfl) rfl
    (fun f fn hf hfn => by
      obtain rfl : f = 7 := Option.some.inj ((show Tryz.prog.funcNamed "kinkeep/kinkeeplaw23.TreediffSparse" = some 7 by kernel_rfl).symm.trans hf) |>.symm
      obtain rfl : fn = Tryz.f7 := (Option.some.inj (Tryz.func7.symm.trans hfn)).symm
      exact ⟨by kernel_rfl, fun j t ht => by
        rw [Tryz.params7] at ht
        have hm : t ∈ [22] := by simpa using Array.mem_of_getElem? ht
        have hall : ([22].all fun u => !Tryz.prog.wantsStandIn u) = true := by kernel_rfl
        exact (show Tryz.prog.wantsStandIn t = false by simpa using List.all_eq_true.1 hall t hm)⟩)
    (by kernel_rfl)
#print axioms card_holds
end CSparse
theorem treediffSparse_card : Rows.TreediffSparseCardSaid := CSparse.card_holds
end Go.Proofs.YtdieneaillkbgaaGreatDoor
