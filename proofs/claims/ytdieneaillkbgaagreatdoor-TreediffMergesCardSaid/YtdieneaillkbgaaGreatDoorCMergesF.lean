/- Texts of this proof, one after the other: TdJ, TdN, Bld. -/
import Derived.Test.YtdieneaillkbgaaGreatDoorCMergesE
/- Contracts of package treediff: difference. -/
namespace Go.Proofs.YtdieneaillkbgaaGreatDoor
open Go.RowKit Go.Maps
set_option maxRecDepth 100000 in
set_option maxHeartbeats 4000000 in
theorem difference_any (S T : Nat → Prop) (a b : List Ent) (va vb : Value) (w : World) (ha : EntsAt S w va a) (hb : EntsAt T w vb b) (hta : TOk a) (htb : TOk b) :
  Calls Tryz.prog 37 #[va, vb] w fun e w' => ∃ v ys, e = .returned v ∧ ys.map Prod.snd = diffP a b ∧ GotC w.heap.size w' v ys ∧ Below w.heap.size w w' := by
 have HVA := Lib.hid (ents_here ha)
 have HVB := Lib.hid (ents_here hb)
 have HTA := Lib.hid hta
 have HTB := Lib.hid htb
 obtain ⟨aa, ca, rfl, hca, hma, -⟩ := SeqAt.shape ha EntR.len
 obtain ⟨ab, cb, rfl, hcb, hmb, -⟩ := SeqAt.shape hb EntR.len
 unfold maxLen at hma hmb
 obtain ⟨n, hn⟩ : ∃ n, n = a.length := ⟨_, rfl⟩
 obtain ⟨m, hm⟩ : ∃ m, m = b.length := ⟨_, rfl⟩
 rw [← hn] at hca HVA ha ⊢
 rw [← hm] at hcb HVB hb ⊢
 have HN := Lib.hid hn
 have HM := Lib.hid hm
 have hbpA := byPath_any S a _ w ha hta.nodup hta.len
 have hbpB := fun W (hW : Below w.heap.size w W) => byPath_any (fun k => T k ∧ k < w.heap.size) b _ W ((ents_here hb).below hW) htb.nodup htb.len
 have HBPB := Lib.hid hbpB
 clear ha hb hta htb hn hm hbpB
 go_enter Tryz.func37, Tryz.ntmps37
 go_wp2_with fail
 refine hbpA.mono ?_
 rintro e1 w1 ⟨rfl, hA1, hb1⟩
 have HB1 := Lib.hid hb1
 have HA1 := Lib.hid hA1
 clear hA1 hb1 hbpA
 go_wp2_with fail
 refine (HBPB.out w1 HB1.out).mono ?_
 rintro e2 w2 ⟨rfl, hB2, hb2⟩
 have HB2 := Lib.hid (below_next HB1.out hb2)
 have HM2 := Lib.hid hB2
 have HA2 := Lib.hid (HA1.out.below hb2)
 have HSZ := Lib.hid (And.intro HA1.out.lt hB2.lt)
 clear hB2 hb2 HBPB
 have hmk1 := make_set
 have hmk2 := make_src
 go_upto_region 4 with (fail)
 clear hmk1 hmk2
 obtain ⟨w4, hw4⟩ : ∃ W : World, W = (w2.alloc (.map #[] 0)).alloc (.map #[] 0) := ⟨_, rfl⟩
 rw [← hw4]
 have hb4a : Below w2.heap.size w2 (w2.alloc (.map #[] 0)) := (Below.refl _ _).alloc (Nat.le_refl _) _
 have hb4b : Below (w2.alloc (.map #[] 0)).heap.size (w2.alloc (.map #[] 0)) w4 := by rw [hw4]; exact (Below.refl _ _).alloc (Nat.le_refl _) _
 have hb4 := below_next hb4a hb4b
 have HG4 := Lib.hid ((SetR.made w2).below hb4b)
 have HS4 := Lib.hid (show SrcO w4.heap.size w4 (w2.heap.size + 1) (fun _ => []) by
  have := SrcO.made w4.heap.size (w2.alloc (.map #[] 0))
  rw [show (w2.alloc (.map #[] 0)).heap.size = w2.heap.size + 1 by simp] at this
  rw [hw4] at this ⊢; exact this)
 have hs4 : w4.heap.size = w2.heap.size + 2 := by rw [hw4]; simp
 have HL4 := Lib.hid (show LoopD1 (fun k => S k ∧ k < w.heap.size) (fun k => (T k ∧ k < w.heap.size) ∧ k < w1.heap.size) a b w w.heap.size w1.heap.size w2.heap.size (w2.heap.size + 1) w4.heap.size 0 w4 from ⟨HA2.out.below hb4, HM2.out.below hb4, HG4.out, HS4.out, below_next HB2.out hb4⟩)
 have HNE := Lib.hid (show w.heap.size ≠ w2.heap.size ∧ w1.heap.size ≠ w2.heap.size ∧ w2.heap.size + 1 ≠ w2.heap.size ∧ w.heap.size ≠ w2.heap.size + 1 ∧ w1.heap.size ≠ w2.heap.size + 1 ∧ w2.heap.size ≠ w2.heap.size + 1 by
  have h1 := HSZ.out.1
  have h2 := HSZ.out.2
  have h3 := HB2.out.size
  omega)
 have HGB := Lib.hid (show w.heap.size ≤ w2.heap.size ∧ w.heap.size ≤ w2.heap.size + 1 from ⟨HB2.out.size, by have := HB2.out.size; omega⟩)
 have HBS := Lib.hid (show w.heap.size < w4.heap.size ∧ w1.heap.size < w4.heap.size ∧ w2.heap.size < w4.heap.size ∧ w2.heap.size + 1 < w4.heap.size by
  have h1 := HSZ.out.1
  have h2 := HSZ.out.2
  omega)
 obtain ⟨S', hS'⟩ : ∃ S' : Nat → Prop, S' = fun k => S k ∧ k < w.heap.size := ⟨_, rfl⟩
 obtain ⟨T', hT'⟩ : ∃ T' : Nat → Prop, T' = fun k => (T k ∧ k < w.heap.size) ∧ k < w1.heap.size := ⟨_, rfl⟩
 have HSF := Lib.hid (show (∀ k, w.heap.size ≤ k → ¬ S' k) ∧ (∀ k, w.heap.size ≤ k → ¬ T' k) by
  rw [hS', hT']
  exact ⟨fun k h1 h2 => absurd h2.2 (by omega), fun k h1 h2 => absurd h2.1.2 (by omega)⟩)
 rw [← hS', ← hT'] at HL4
 rw [← hS'] at HVA
 clear hS' hT' hw4 hb4a hb4b hb4 hs4
 obtain ⟨bs, hbs⟩ : ∃ bs, bs = w4.heap.size := ⟨_, rfl⟩
 have HBL := Lib.hid (show bs ≤ w4.heap.size by omega)
 rw [← hbs] at HL4 HBS
 clear hbs
 obtain ⟨sb, hsb⟩ : ∃ sb, sb = w2.heap.size + 1 := ⟨_, rfl⟩
 rw [← hsb] at HL4 HNE HGB HBS ⊢
 clear hsb
 obtain ⟨gb, hgb⟩ : ∃ gb, gb = w2.heap.size := ⟨_, rfl⟩
 rw [← hgb] at HL4 HNE HGB HBS ⊢
 clear hgb HG4 HS4 HSZ HA1 HM2 HA2
 go_wp2_with fail
 go_loopw [32] (fun i wr => ∃ k : Nat, k ≤ n ∧ i = .int .i64 k ∧ LoopD1 S' T' a b w w.heap.size w1.heap.size gb sb bs k wr ∧ bs ≤ wr.heap.size) (fun i _ => n - (intOf i).toNat)
 case atStart => exact ⟨0, Nat.zero_le _, rfl, HL4.out, HBL.out⟩
 case round =>
  obtain ⟨k, hk, rfl, hlp, hbl⟩ := hrel
  have HLP := Lib.hid hlp
  have HBL2 := Lib.hid hbl
  clear hlp hbl
  by_cases hlt : k < n
  ·obtain ⟨e, he⟩ : ∃ e, a[k]? = some e := ⟨a[k]'(by rw [← HN.out]; exact hlt), by simp⟩
   obtain ⟨b0, o0, dv, rfl, -, hb0, hd, hok, -, q0, q1, q2, q3, q4, q5⟩ := ents_at (HVA.out.below HLP.out.bel) he
   have HAT := Lib.hid he
   have HD := Lib.hid hd
   have HOK := Lib.hid hok
   have HVE := Lib.hid (HTA.out.val e (List.mem_of_getElem? he))
   obtain ⟨a1, cap1, rfl, hd1, hd2⟩ := hd.slice
   unfold maxLen at hd2
   have HCS := Lib.hid (cont_size hok (by unfold maxLen; omega))
   clear he hd hok
   go_upto_region 7 with (fail)
   obtain ⟨W1, hW1⟩ : ∃ W : World, W = wr.alloc (.cells #[.string e.path, .int .i64 e.kind, .int .i64 e.mode, .int .i64 e.time, .slice a1 e.data.length cap1, .string e.link] 48) := ⟨_, rfl⟩
   rw [← hW1]
   have HW1 := Lib.hid (show Below wr.heap.size wr W1 by rw [hW1]; exact (Below.refl _ _).alloc (Nat.le_refl _) _)
   have HX1 := Lib.hid (show W1.heap[wr.heap.size]? = some (.cells #[.string e.path, .int .i64 e.kind, .int .i64 e.mode, .int .i64 e.time, .slice a1 e.data.length cap1, .string e.link] 48 (0, 0)) by rw [hW1]; exact new20 wr _)
   clear hW1 q0 q1 q2 q3 q4 q5
   have c0 := cell20 (k := 0) HX1.out
   have c1 := cell20 (k := 1) HX1.out
   have c2 := cell20 (k := 2) HX1.out
   have c3 := cell20 (k := 3) HX1.out
   have c4 := cell20 (k := 4) HX1.out
   have c5 := cell20 (k := 5) HX1.out
   have hltX := lt20 HX1.out
   simp only [List.getElem?_toArray, List.getElem?_cons_succ, List.getElem?_cons_zero] at c0 c1 c2 c3 c4 c5
   cases hf : findE b e.path with
   | none =>
    have HKF := Lib.hid (show keptE b e = false by unfold keptE; rw [hf])
    have hlk := (HLP.out.B.below HW1.out).miss mapTy (zeroE_run W1) HOK.out.pth hf true
    unfold zeroE at hlk
    simp only [if_true] at hlk
    clear hf
    go_upto_region 9 with (fail)
    obtain ⟨W2, hW2⟩ : ∃ W : World, W = W1.alloc (.cells #[.string ByteArray.empty, .int .i64 0, .int .i64 0, .int .i64 0, .slice none 0 0, .string ByteArray.empty] 48) := ⟨_, rfl⟩
    rw [← hW2]
    have hb2 : Below W1.heap.size W1 W2 := by rw [hW2]; exact (Below.refl _ _).alloc (Nat.le_refl _) _
    have HW2 := Lib.hid (below_next HW1.out hb2)
    have HX2 := Lib.hid ((hb2.block wr.heap.size (lt20 HX1.out)).trans HX1.out)
    clear hW2 hb2 c0 c1 c2 c3 c4 c5 hltX hlk
    have HL2 := Lib.hid (HLP.out.below HW2.out)
    have HPUT := Lib.hid (HL2.out.G.put boolTy HOK.out.pth)
    have c0 := cell20 (k := 0) HX2.out
    have c1 := cell20 (k := 1) HX2.out
    have c2 := cell20 (k := 2) HX2.out
    have c3 := cell20 (k := 3) HX2.out
    have c4 := cell20 (k := 4) HX2.out
    have c5 := cell20 (k := 5) HX2.out
    have hltX := lt20 HX2.out
    simp only [List.getElem?_toArray, List.getElem?_cons_succ, List.getElem?_cons_zero] at c0 c1 c2 c3 c4 c5
    go_upto_region 10 with (at_mapUpdate; go_must (refine wpList_updRun rfl _ _ _ _ rfl _ _ _ rfl rfl rfl HPUT.out ?_); rintro w3 ⟨hs3, hg3⟩; have HS3 := Lib.hid hs3; have HG3 := Lib.hid hg3; clear hs3 hg3 c0 c1 c2 c3 c4 c5 hltX)
    have HB3 := Lib.hid (HL2.out.bel.grown HG3.out HL2.out.bel.size (fun k e => by cases e; exact HGB.out.1))
    have HX3 := Lib.hid ((HG3.out.block wr.heap.size (lt20 HX2.out) (fun e => by have h1 := Option.some.inj e; have h2 := HLP.out.G.lt; omega)).trans HX2.out)
    have HA3 := Lib.hid (HL2.out.A.other HG3.out HNE.out.1 (HSF.out.1 _ HGB.out.1))
    have HM3 := Lib.hid (HL2.out.B.other HG3.out HNE.out.2.1 (HSF.out.2 _ HGB.out.1))
    have HN3 := Lib.hid (HL2.out.N.other HG3.out HNE.out.2.2.1 HL2.out.G.obj)
    have HD3 := Lib.hid (data_grown (HD.out.below HW2.out) (HSF.out.1 _ HGB.out.1) HG3.out)
    have HGN := Lib.hid (show goneE (a.take (k + 1)) b = goneE (a.take k) b ++ [e] by rw [gone_snoc HAT.out, HKF.out]; rfl)
    clear HPUT
    have c0 := cell20 (k := 0) HX3.out
    have c1 := cell20 (k := 1) HX3.out
    have c2 := cell20 (k := 2) HX3.out
    have c3 := cell20 (k := 3) HX3.out
    have c4 := cell20 (k := 4) HX3.out
    have c5 := cell20 (k := 5) HX3.out
    have hltX := lt20 HX3.out
    simp only [List.getElem?_toArray, List.getElem?_cons_succ, List.getElem?_cons_zero] at c0 c1 c2 c3 c4 c5
    have hmvc := movable_any S' e _ w3 HD3.out
    unfold entV contV at hmvc
    obtain ⟨c, hc⟩ : ∃ c, c = contE e := ⟨_, rfl⟩
    have HC := Lib.hid hc
    rw [← hc] at hmvc HCS
    clear hc
    obtain ⟨ck, cs⟩ := c
    simp only at hmvc HCS
    cases hmv : movB e with
    | false =>
     rw [hmv] at hmvc
     have HMV := Lib.hid hmv
     clear hmv
     go_wp2_with (go_at_call 66; refine hmvc.mono ?_; rintro e4 w4' ⟨rfl, hb4'⟩; have HB4 := Lib.hid hb4'; clear hb4' hmvc c0 c1 c2 c3 c4 c5 hltX)
     go_roundw
     case rel =>
      have hbw := HB4.out.alloc HB4.out.size (.cells #[.int .i64 ck, .string cs] 108)
      exact ⟨k + 1, by omega, by go_num, ⟨HA3.out.below hbw, HM3.out.below hbw, by rw [HGN.out, has_snoc]; exact HS3.out.below hbw, by rw [HGN.out, names_same HMV.out]; exact HN3.out.below hbw, below_next HB3.out hbw⟩, Nat.le_trans HBL2.out (Nat.le_trans HW2.out.size (Nat.le_trans HG3.out.size hbw.size))⟩
     case measure => simp [intOf]; omega
    | true =>
     rw [hmv] at hmvc
     have HMV := Lib.hid hmv
     clear hmv
     go_upto_region 12 with (go_at_call 66; refine hmvc.mono ?_; rintro e4 w4' ⟨rfl, hb4'⟩; have HB4 := Lib.hid hb4'; clear hb4' hmvc c0 c1 c2 c3 c4 c5 hltX)
     obtain ⟨W5, hW5⟩ : ∃ W : World, W = w4'.alloc (.cells #[.int .i64 ck, .string cs] 108) := ⟨_, rfl⟩
     rw [← hW5]
     have HW5 := Lib.hid (show Below w3.heap.size w3 W5 by rw [hW5]; exact HB4.out.alloc HB4.out.size _)
     have HY5 := Lib.hid (show W5.heap[w4'.heap.size]? = some (.cells #[.int .i64 ck, .string cs] 108 (0, 0)) by rw [hW5]; exact new20 w4' _)
     have HX5 := Lib.hid ((HW5.out.block wr.heap.size (lt20 HX3.out)).trans HX3.out)
     clear hW5
     have c0 := cell20 (k := 0) HX5.out
     have c1 := cell20 (k := 1) HX5.out
     have c2 := cell20 (k := 2) HX5.out
     have c3 := cell20 (k := 3) HX5.out
     have c4 := cell20 (k := 4) HX5.out
     have c5 := cell20 (k := 5) HX5.out
     have hltX := lt20 HX5.out
     simp only [List.getElem?_toArray, List.getElem?_cons_succ, List.getElem?_cons_zero] at c0 c1 c2 c3 c4 c5
     have d0 := cell20 (k := 0) HY5.out
     have d1 := cell20 (k := 1) HY5.out
     have hltY := lt20 HY5.out
     simp only [List.getElem?_toArray, List.getElem?_cons_succ, List.getElem?_cons_zero] at d0 d1
     have HS5 := Lib.hid ((HN3.out.below HW5.out).below ((Below.refl _ _).alloc (Nat.le_refl _) (.cells #[.string e.path] 9)))
     obtain ⟨st, v0, w7, hme, hg7, hs7, hrow7, hst⟩ := HS5.out.entry (c := (ck, cs)) HCS.out (by rw [HC.out]; exact cont_wf e)
     have HST := Lib.hid hst
     have HG7 := Lib.hid hg7
     have HR7 := Lib.hid hrow7
     have HS7 := Lib.hid hs7
     unfold contV goInt at hme
     simp only at hme
     clear hst hg7 hrow7 hs7
     obtain ⟨nl, hnl⟩ : ∃ nl, nl = namesG (goneE (a.take k) b) (ck, cs) := ⟨_, rfl⟩
     rw [← hnl] at HR7 HST
     have HNL := Lib.hid hnl
     have hnll : nl.length ≤ 4096 := by
      rw [hnl]; unfold namesG goneE
      rw [List.length_map]
      have h1 := List.length_filter_le (fun g : Ent => movB g && decide (contE g = (ck, cs))) ((a.take k).filter fun x => !keptE b x)
      have h2 := List.length_filter_le (fun x : Ent => !keptE b x) (a.take k)
      have h4 := HTA.out.len
      rw [List.length_take] at h2
      omega
     have HNLL := Lib.hid hnll
     clear hnl hnll
     have hcl1 : ∀ (j : Nat) (u : Value), [Value.string e.path][j]? = some u → w7.cell? ((⟨W5.heap.size, 0, none⟩ : Addr).add j) = some u := fun j u hj =>
      HG7.out.cell (cells_new W5 _ _ j u hj) (fun e => by
       have h1 : ((⟨W5.heap.size, 0, none⟩ : Addr).add j).block = W5.heap.size := by unfold Addr.add; split <;> rfl
       have h2 := Option.some.inj e
       have h3 := (HN3.out.below HW5.out).lt
       omega)
     have hsz7 : bs ≤ w7.heap.size := by
      have h1 := HBL2.out
      have h2 := HW2.out.size
      have h3 := HG3.out.size
      have h4 := HW5.out.size
      have h5 := HS7.out
      simp only [World.size_alloc] at h5
      omega
     have HSZ7 := Lib.hid hsz7
     go_wp2_with (at_builtin; go_must (refine wpList_app1w Tryz.appStrings rfl _ _ rfl bs v0 nl.length (nl.map Value.string) rfl ⟨W5.heap.size, 0, none⟩ [.string e.path] rfl rfl hcl1 (by intro u hu; rw [List.mem_singleton.1 hu]; rfl) HR7.out (by have := HNLL.out; omega) hsz7 ?_); intro v8 w8 hown8 hgr8 _ hpl8; obtain ⟨w9, hst9, hsr9, hg9⟩ := HST.out w8 v8 e.path hgr8 hown8 hpl8; unfold goInt at hst9; have HSR9 := Lib.hid hsr9; have HG8 := Lib.hid hgr8; have HG9 := Lib.hid hg9; clear hsr9 hg9 hgr8 hown8 hpl8 hcl1 hsz7)
     go_roundw
     case rel =>
      have hrw : ∀ k, v0.ownBlock = some k → bs ≤ k := fun k hk => (own_lt HR7.out hk).1
      have hb6 : Below w3.heap.size w3 (W5.alloc (.cells #[.string e.path] 9)) := HW5.out.alloc HW5.out.size _
      have hbs := HBS.out
      have hA9 := (((HA3.out.below hb6).other HG7.out HNE.out.2.2.2.1 (HSF.out.1 _ HGB.out.2)).row HG8.out (fun k hk => ⟨by have := hrw k hk; omega, HSF.out.1 _ (by have := hrw k hk; omega)⟩)).other HG9.out HNE.out.2.2.2.1 (HSF.out.1 _ HGB.out.2)
      have hB9 := (((HM3.out.below hb6).other HG7.out HNE.out.2.2.2.2.1 (HSF.out.2 _ HGB.out.2)).row HG8.out (fun k hk => ⟨by have := hrw k hk; omega, HSF.out.2 _ (by have := hrw k hk; omega)⟩)).other HG9.out HNE.out.2.2.2.2.1 (HSF.out.2 _ HGB.out.2)
      have hS9 := (((HS3.out.below hb6).other HG7.out HNE.out.2.2.2.2.2).row HG8.out (fun k hk => by have := hrw k hk; omega)).other HG9.out HNE.out.2.2.2.2.2
      have hbl6 := below_next HB3.out hb6
      have hbl7 := hbl6.grown HG7.out hbl6.size (fun k e => by cases e; exact HGB.out.2)
      have hbl8 := hbl7.grown HG8.out hbl7.size (fun k e => by have := hrw k e; omega)
      have hbl9 := hbl8.grown HG9.out hbl8.size (fun k e => by cases e; exact HGB.out.2)
      refine ⟨k + 1, by omega, by go_num, ⟨hA9, hB9, by rw [HGN.out, has_snoc]; exact hS9, ?_, hbl9⟩, ?_⟩
      ·rw [HGN.out, ← names_add HMV.out]
       have := HSR9.out
       rw [HNL.out, HC.out] at this
       exact this
      ·exact Nat.le_trans HSZ7.out (Nat.le_trans HG8.out.size HG9.out.size)
     case measure => simp [intOf]; omega
   | some f =>
    have HF := Lib.hid hf
    obtain ⟨vf, hlk, hdf, -⟩ := (HLP.out.B.below HW1.out).hit mapTy hf true
    obtain ⟨af, cf, rfl, hdf1, hdf2⟩ := hdf.slice
    unfold maxLen at hdf2
    unfold entV at hlk
    simp only [if_true] at hlk
    clear hdf
    by_cases hkd : f.kind = e.kind
    ·have HKF := Lib.hid (show keptE b e = true by unfold keptE; rw [hf]; simp [hkd])
     rw [hkd] at hlk
     clear hf hkd
     go_wp2_with fail
     obtain ⟨W2, hW2⟩ : ∃ W : World, W = W1.alloc (.cells #[.string f.path, .int .i64 e.kind, .int .i64 f.mode, .int .i64 f.time, .slice af f.data.length cf, .string f.link] 48) := ⟨_, rfl⟩
     rw [← hW2]
     have hb2 : Below W1.heap.size W1 W2 := by rw [hW2]; exact (Below.refl _ _).alloc (Nat.le_refl _) _
     have HW2 := Lib.hid (below_next HW1.out hb2)
     have HX2 := Lib.hid ((hb2.block wr.heap.size (lt20 HX1.out)).trans HX1.out)
     clear hW2 hb2 c0 c1 c2 c3 c4 c5 hltX hlk
     go_roundw
     case rel =>
      exact ⟨k + 1, by omega, by go_num, (HLP.out.below HW2.out).step HAT.out HKF.out, Nat.le_trans HBL2.out HW2.out.size⟩
     case measure => simp [intOf]; omega
    ·have HKF := Lib.hid (show keptE b e = false by unfold keptE; rw [hf]; simp [hkd])
     clear hf
     go_upto_region 9 with (fail)
     clear hkd
     obtain ⟨W2, hW2⟩ : ∃ W : World, W = W1.alloc (.cells #[.string f.path, .int .i64 f.kind, .int .i64 f.mode, .int .i64 f.time, .slice af f.data.length cf, .string f.link] 48) := ⟨_, rfl⟩
     rw [← hW2]
     have hb2 : Below W1.heap.size W1 W2 := by rw [hW2]; exact (Below.refl _ _).alloc (Nat.le_refl _) _
     have HW2 := Lib.hid (below_next HW1.out hb2)
     have HX2 := Lib.hid ((hb2.block wr.heap.size (lt20 HX1.out)).trans HX1.out)
     clear hW2 hb2 c0 c1 c2 c3 c4 c5 hltX hlk
     have HL2 := Lib.hid (HLP.out.below HW2.out)
     have HPUT := Lib.hid (HL2.out.G.put boolTy HOK.out.pth)
     have c0 := cell20 (k := 0) HX2.out
     have c1 := cell20 (k := 1) HX2.out
     have c2 := cell20 (k := 2) HX2.out
     have c3 := cell20 (k := 3) HX2.out
     have c4 := cell20 (k := 4) HX2.out
     have c5 := cell20 (k := 5) HX2.out
     have hltX := lt20 HX2.out
     simp only [List.getElem?_toArray, List.getElem?_cons_succ, List.getElem?_cons_zero] at c0 c1 c2 c3 c4 c5
     go_upto_region 10 with (at_mapUpdate; go_must (refine wpList_updRun rfl _ _ _ _ rfl _ _ _ rfl rfl rfl HPUT.out ?_); rintro w3 ⟨hs3, hg3⟩; have HS3 := Lib.hid hs3; have HG3 := Lib.hid hg3; clear hs3 hg3 c0 c1 c2 c3 c4 c5 hltX)
     have HB3 := Lib.hid (HL2.out.bel.grown HG3.out HL2.out.bel.size (fun k e => by cases e; exact HGB.out.1))
     have HX3 := Lib.hid ((HG3.out.block wr.heap.size (lt20 HX2.out) (fun e => by have h1 := Option.some.inj e; have h2 := HLP.out.G.lt; omega)).trans HX2.out)
     have HA3 := Lib.hid (HL2.out.A.other HG3.out HNE.out.1 (HSF.out.1 _ HGB.out.1))
     have HM3 := Lib.hid (HL2.out.B.other HG3.out HNE.out.2.1 (HSF.out.2 _ HGB.out.1))
     have HN3 := Lib.hid (HL2.out.N.other HG3.out HNE.out.2.2.1 HL2.out.G.obj)
     have HD3 := Lib.hid (data_grown (HD.out.below HW2.out) (HSF.out.1 _ HGB.out.1) HG3.out)
     have HGN := Lib.hid (show goneE (a.take (k + 1)) b = goneE (a.take k) b ++ [e] by rw [gone_snoc HAT.out, HKF.out]; rfl)
     clear HPUT
     have c0 := cell20 (k := 0) HX3.out
     have c1 := cell20 (k := 1) HX3.out
     have c2 := cell20 (k := 2) HX3.out
     have c3 := cell20 (k := 3) HX3.out
     have c4 := cell20 (k := 4) HX3.out
     have c5 := cell20 (k := 5) HX3.out
     have hltX := lt20 HX3.out
     simp only [List.getElem?_toArray, List.getElem?_cons_succ, List.getElem?_cons_zero] at c0 c1 c2 c3 c4 c5
     have hmvc := movable_any S' e _ w3 HD3.out
     unfold entV contV at hmvc
     obtain ⟨c, hc⟩ : ∃ c, c = contE e := ⟨_, rfl⟩
     have HC := Lib.hid hc
     rw [← hc] at hmvc HCS
     clear hc
     obtain ⟨ck, cs⟩ := c
     simp only at hmvc HCS
     cases hmv : movB e with
     | false =>
      rw [hmv] at hmvc
      have HMV := Lib.hid hmv
      clear hmv
      go_wp2_with (go_at_call 66; refine hmvc.mono ?_; rintro e4 w4' ⟨rfl, hb4'⟩; have HB4 := Lib.hid hb4'; clear hb4' hmvc c0 c1 c2 c3 c4 c5 hltX)
      go_roundw
      case rel =>
       have hbw := HB4.out.alloc HB4.out.size (.cells #[.int .i64 ck, .string cs] 108)
       exact ⟨k + 1, by omega, by go_num, ⟨HA3.out.below hbw, HM3.out.below hbw, by rw [HGN.out, has_snoc]; exact HS3.out.below hbw, by rw [HGN.out, names_same HMV.out]; exact HN3.out.below hbw, below_next HB3.out hbw⟩, Nat.le_trans HBL2.out (Nat.le_trans HW2.out.size (Nat.le_trans HG3.out.size hbw.size))⟩
      case measure => simp [intOf]; omega
     | true =>
      rw [hmv] at hmvc
      have HMV := Lib.hid hmv
      clear hmv
      go_upto_region 12 with (go_at_call 66; refine hmvc.mono ?_; rintro e4 w4' ⟨rfl, hb4'⟩; have HB4 := Lib.hid hb4'; clear hb4' hmvc c0 c1 c2 c3 c4 c5 hltX)
      obtain ⟨W5, hW5⟩ : ∃ W : World, W = w4'.alloc (.cells #[.int .i64 ck, .string cs] 108) := ⟨_, rfl⟩
      rw [← hW5]
      have HW5 := Lib.hid (show Below w3.heap.size w3 W5 by rw [hW5]; exact HB4.out.alloc HB4.out.size _)
      have HY5 := Lib.hid (show W5.heap[w4'.heap.size]? = some (.cells #[.int .i64 ck, .string cs] 108 (0, 0)) by rw [hW5]; exact new20 w4' _)
      have HX5 := Lib.hid ((HW5.out.block wr.heap.size (lt20 HX3.out)).trans HX3.out)
      clear hW5
      have c0 := cell20 (k := 0) HX5.out
      have c1 := cell20 (k := 1) HX5.out
      have c2 := cell20 (k := 2) HX5.out
      have c3 := cell20 (k := 3) HX5.out
      have c4 := cell20 (k := 4) HX5.out
      have c5 := cell20 (k := 5) HX5.out
      have hltX := lt20 HX5.out
      simp only [List.getElem?_toArray, List.getElem?_cons_succ, List.getElem?_cons_zero] at c0 c1 c2 c3 c4 c5
      have d0 := cell20 (k := 0) HY5.out
      have d1 := cell20 (k := 1) HY5.out
      have hltY := lt20 HY5.out
      simp only [List.getElem?_toArray, List.getElem?_cons_succ, List.getElem?_cons_zero] at d0 d1
      have HS5 := Lib.hid ((HN3.out.below HW5.out).below ((Below.refl _ _).alloc (Nat.le_refl _) (.cells #[.string e.path] 9)))
      obtain ⟨st, v0, w7, hme, hg7, hs7, hrow7, hst⟩ := HS5.out.entry (c := (ck, cs)) HCS.out (by rw [HC.out]; exact cont_wf e)
      have HST := Lib.hid hst
      have HG7 := Lib.hid hg7
      have HR7 := Lib.hid hrow7
      have HS7 := Lib.hid hs7
      unfold contV goInt at hme
      simp only at hme
      clear hst hg7 hrow7 hs7
      obtain ⟨nl, hnl⟩ : ∃ nl, nl = namesG (goneE (a.take k) b) (ck, cs) := ⟨_, rfl⟩
      rw [← hnl] at HR7 HST
      have HNL := Lib.hid hnl
      have hnll : nl.length ≤ 4096 := by
       rw [hnl]; unfold namesG goneE
       rw [List.length_map]
       have h1 := List.length_filter_le (fun g : Ent => movB g && decide (contE g = (ck, cs))) ((a.take k).filter fun x => !keptE b x)
       have h2 := List.length_filter_le (fun x : Ent => !keptE b x) (a.take k)
       have h4 := HTA.out.len
       rw [List.length_take] at h2
       omega
      have HNLL := Lib.hid hnll
      clear hnl hnll
      have hcl1 : ∀ (j : Nat) (u : Value), [Value.string e.path][j]? = some u → w7.cell? ((⟨W5.heap.size, 0, none⟩ : Addr).add j) = some u := fun j u hj =>
       HG7.out.cell (cells_new W5 _ _ j u hj) (fun e => by
        have h1 : ((⟨W5.heap.size, 0, none⟩ : Addr).add j).block = W5.heap.size := by unfold Addr.add; split <;> rfl
        have h2 := Option.some.inj e
        have h3 := (HN3.out.below HW5.out).lt
        omega)
      have hsz7 : bs ≤ w7.heap.size := by
       have h1 := HBL2.out
       have h2 := HW2.out.size
       have h3 := HG3.out.size
       have h4 := HW5.out.size
       have h5 := HS7.out
       simp only [World.size_alloc] at h5
       omega
      have HSZ7 := Lib.hid hsz7
      go_wp2_with (at_builtin; go_must (refine wpList_app1w Tryz.appStrings rfl _ _ rfl bs v0 nl.length (nl.map Value.string) rfl ⟨W5.heap.size, 0, none⟩ [.string e.path] rfl rfl hcl1 (by intro u hu; rw [List.mem_singleton.1 hu]; rfl) HR7.out (by have := HNLL.out; omega) hsz7 ?_); intro v8 w8 hown8 hgr8 _ hpl8; obtain ⟨w9, hst9, hsr9, hg9⟩ := HST.out w8 v8 e.path hgr8 hown8 hpl8; unfold goInt at hst9; have HSR9 := Lib.hid hsr9; have HG8 := Lib.hid hgr8; have HG9 := Lib.hid hg9; clear hsr9 hg9 hgr8 hown8 hpl8 hcl1 hsz7)
      go_roundw
      case rel =>
       have hrw : ∀ k, v0.ownBlock = some k → bs ≤ k := fun k hk => (own_lt HR7.out hk).1
       have hb6 : Below w3.heap.size w3 (W5.alloc (.cells #[.string e.path] 9)) := HW5.out.alloc HW5.out.size _
       have hbs := HBS.out
       have hA9 := (((HA3.out.below hb6).other HG7.out HNE.out.2.2.2.1 (HSF.out.1 _ HGB.out.2)).row HG8.out (fun k hk => ⟨by have := hrw k hk; omega, HSF.out.1 _ (by have := hrw k hk; omega)⟩)).other HG9.out HNE.out.2.2.2.1 (HSF.out.1 _ HGB.out.2)
       have hB9 := (((HM3.out.below hb6).other HG7.out HNE.out.2.2.2.2.1 (HSF.out.2 _ HGB.out.2)).row HG8.out (fun k hk => ⟨by have := hrw k hk; omega, HSF.out.2 _ (by have := hrw k hk; omega)⟩)).other HG9.out HNE.out.2.2.2.2.1 (HSF.out.2 _ HGB.out.2)
       have hS9 := (((HS3.out.below hb6).other HG7.out HNE.out.2.2.2.2.2).row HG8.out (fun k hk => by have := hrw k hk; omega)).other HG9.out HNE.out.2.2.2.2.2
       have hbl6 := below_next HB3.out hb6
       have hbl7 := hbl6.grown HG7.out hbl6.size (fun k e => by cases e; exact HGB.out.2)
       have hbl8 := hbl7.grown HG8.out hbl7.size (fun k e => by have := hrw k e; omega)
       have hbl9 := hbl8.grown HG9.out hbl8.size (fun k e => by cases e; exact HGB.out.2)
       refine ⟨k + 1, by omega, by go_num, ⟨hA9, hB9, by rw [HGN.out, has_snoc]; exact hS9, ?_, hbl9⟩, ?_⟩
       ·rw [HGN.out, ← names_add HMV.out]
        have := HSR9.out
        rw [HNL.out, HC.out] at this
        exact this
       ·exact Nat.le_trans HSZ7.out (Nat.le_trans HG8.out.size HG9.out.size)
      case measure => simp [intOf]; omega
  ·have hk2 : k = n := by omega
   subst hk2
   have HEND := Lib.hid (show LoopD1 S' T' a b w w.heap.size w1.heap.size gb sb bs a.length wr by rw [← HN.out]; exact HLP.out)
   clear hk hlt
   go_upto_region 15 with (fail)
   obtain ⟨wE, hwE⟩ : ∃ wE, wE = wr := ⟨_, rfl⟩
   rw [← hwE] at HEND ⊢
   have HBE := Lib.hid (show bs ≤ wE.heap.size by rw [hwE]; exact HBL2.out)
   clear hwE HLP HBL2
   obtain ⟨TS, hTS⟩ : ∃ TS : Nat → Prop, TS = StrB bs wE := ⟨_, rfl⟩
   have HTS := Lib.hid (show (∀ k, TS k → bs ≤ k ∧ k < wE.heap.size) by rw [hTS]; exact fun k hk => ⟨hk.1, hk.2.1⟩)
   have HG0 := Lib.hid (show goneE (a.take a.length) b = (stD a b 0).rem by rw [List.take_length]; rfl)
   have HL2 := Lib.hid (show LoopD2 S' TS a b w w.heap.size gb sb wE.heap.size 0 (.slice none 0 0) [] wE from
    ⟨HEND.out.A, by rw [← HG0.out]; exact HEND.out.G, by rw [← HG0.out, hTS]; exact HEND.out.N.read, GotC.nil _ _, rfl, HEND.out.bel, Nat.le_refl _⟩)
   clear hTS HEND HG0
   obtain ⟨B2, hB2e⟩ : ∃ B2, B2 = wE.heap.size := ⟨_, rfl⟩
   rw [← hB2e] at HL2 HTS HBE
   clear hB2e
   go_wp2_with fail
   have HGS := Lib.hid (show gb < B2 ∧ sb < B2 ∧ w.heap.size < B2 by have h1 := HBS.out; have h2 := HBE.out; omega)
   have HSN := Lib.hid (show ∀ k, B2 ≤ k → ¬ S' k from fun k hk => HSF.out.1 k (by have := HGS.out; omega))
   have HTN := Lib.hid (show ∀ k, B2 ≤ k → ¬ TS k from fun k hk h => by have := (HTS.out k h).2; omega)
   have HWB := Lib.hid (show w.heap.size ≤ B2 by have := HGS.out; omega)
   go_loopw [15, 72] (fun v i wr => ∃ (k : Nat) (ys : List VChg), k ≤ m ∧ i = .int .i64 k ∧ LoopD2 S' TS a b w w.heap.size gb sb B2 k v ys wr) (fun _ i _ => m - (intOf i).toNat)
   case atStart => exact ⟨0, [], Nat.zero_le _, rfl, HL2.out⟩
   case round =>
    obtain ⟨k, ys, hk, rfl, hlp⟩ := hrel
    have HLP := Lib.hid hlp
    obtain ⟨av, cv, hsv, hvn, hvm⟩ := owns_shape hlp.C.row
    subst hsv
    unfold maxLen at hvm
    have HYL := Lib.hid (show ys.length ≤ 4096 by
     have h1 := congrArg List.length hlp.out
     have h2 := congrArg List.length (stD_inv (b := b) HTA.out k).ens
     have h3 := List.length_filter_le (fun y : Ent => decide (findE a y.path ≠ some y)) (b.take k)
     have h4 := HTB.out.len
     rw [List.length_map] at h1 h2
     rw [List.length_take] at h3
     omega)
    clear hlp
    by_cases hlt : k < m
    ·obtain ⟨y, hy⟩ : ∃ y, b[k]? = some y := ⟨b[k]'(by rw [← HM.out]; exact hlt), by simp⟩
     obtain ⟨b0, o0, dv, rfl, -, hb0, hd, hok, -, q0, q1, q2, q3, q4, q5⟩ := ents_at (HVB.out.below HLP.out.bel) hy
     have HAT := Lib.hid hy
     have HD := Lib.hid hd
     have HOK := Lib.hid hok
     have HVE := Lib.hid (HTB.out.val y (List.mem_of_getElem? hy))
     obtain ⟨a1, cap1, rfl, hd1, hd2⟩ := hd.slice
     unfold maxLen at hd2
     have HCS := Lib.hid (cont_size hok (by unfold maxLen; omega))
     clear hy hd hok
     go_upto_region 18 with (fail)
     obtain ⟨W1, hW1⟩ : ∃ W : World, W = wr.alloc (.cells #[.string y.path, .int .i64 y.kind, .int .i64 y.mode, .int .i64 y.time, .slice a1 y.data.length cap1, .string y.link] 48) := ⟨_, rfl⟩
     rw [← hW1]
     have HW1 := Lib.hid (show Below wr.heap.size wr W1 by rw [hW1]; exact (Below.refl _ _).alloc (Nat.le_refl _) _)
     have HX1 := Lib.hid (show W1.heap[wr.heap.size]? = some (.cells #[.string y.path, .int .i64 y.kind, .int .i64 y.mode, .int .i64 y.time, .slice a1 y.data.length cap1, .string y.link] 48 (0, 0)) by rw [hW1]; exact new20 wr _)
     clear hW1 q0 q1 q2 q3 q4 q5
     have c0 := cell20 (k := 0) HX1.out
     have c1 := cell20 (k := 1) HX1.out
     have c2 := cell20 (k := 2) HX1.out
     have c3 := cell20 (k := 3) HX1.out
     have c4 := cell20 (k := 4) HX1.out
     have c5 := cell20 (k := 5) HX1.out
     have hltX := lt20 HX1.out
     simp only [List.getElem?_toArray, List.getElem?_cons_succ, List.getElem?_cons_zero] at c0 c1 c2 c3 c4 c5
     cases hf : findE a y.path with
     | none =>
      have HKF := Lib.hid (show keptE a y = false by unfold keptE; rw [hf])
      have hlk := (HLP.out.A.below HW1.out).miss mapTy (zeroE_run W1) HOK.out.pth hf true
      unfold zeroE at hlk
      simp only [if_true] at hlk
      clear hf
      go_upto_region 22 with (fail)
      obtain ⟨W2, hW2⟩ : ∃ W : World, W = W1.alloc (.cells #[.string ByteArray.empty, .int .i64 0, .int .i64 0, .int .i64 0, .slice none 0 0, .string ByteArray.empty] 48) := ⟨_, rfl⟩
      rw [← hW2]
      have hb2 : Below W1.heap.size W1 W2 := by rw [hW2]; exact (Below.refl _ _).alloc (Nat.le_refl _) _
      have HW2 := Lib.hid (below_next HW1.out hb2)
      have HX2 := Lib.hid ((hb2.block wr.heap.size (lt20 HX1.out)).trans HX1.out)
      clear hW2 hb2 c0 c1 c2 c3 c4 c5 hltX hlk
      refine hld_start (fun w' => w'.cell? ⟨wr.heap.size, 0, none⟩ = some (.string y.path) ∧ w'.cell? ⟨wr.heap.size, 1, none⟩ = some (.int .i64 y.kind) ∧ w'.cell? ⟨wr.heap.size, 2, none⟩ = some (.int .i64 y.mode) ∧ w'.cell? ⟨wr.heap.size, 3, none⟩ = some (.int .i64 y.time) ∧ w'.cell? ⟨wr.heap.size, 4, none⟩ = some (.slice a1 y.data.length cap1) ∧ w'.cell? ⟨wr.heap.size, 5, none⟩ = some (.string y.link)) (by kernel_rfl) ?_
      obtain ⟨V, hV⟩ : ∃ V : World, V = (W2).drew := ⟨_, rfl⟩
      rw [← hV]
      have hbv : Below (W2).heap.size W2 V := by rw [hV]; exact (Below.refl _ _).drew
      have HBV := Lib.hid (below_next HW2.out hbv)
      have HXV := Lib.hid ((hbv.block wr.heap.size (lt20 HX2.out)).trans HX2.out)
      clear hV hbv
      have c0 := cell20 (k := 0) HXV.out
      have c1 := cell20 (k := 1) HXV.out
      have c2 := cell20 (k := 2) HXV.out
      have c3 := cell20 (k := 3) HXV.out
      have c4 := cell20 (k := 4) HXV.out
      have c5 := cell20 (k := 5) HXV.out
      have hltX := lt20 HXV.out
      simp only [List.getElem?_toArray, List.getElem?_cons_succ, List.getElem?_cons_zero] at c0 c1 c2 c3 c4 c5
      refine hld_take 0 rfl (by kernel_rfl) (by kernel_rfl) (by kernel_rfl) (fun _ _ _ h => h) rfl ⟨c0, c1, c2, c3, c4, c5⟩ (by rintro w' ⟨hw1, hw2, hw3, hw4, hw5, hw6⟩; go_simp; rfl) ?_
      simp only [Act.put, List.setIfInBounds_toArray, List.set_cons_succ, List.set_cons_zero]
      refine hld_take 1 rfl (by kernel_rfl) (by kernel_rfl) (by kernel_rfl) (fun _ _ _ h => h) rfl ⟨c0, c1, c2, c3, c4, c5⟩ (by rintro w' ⟨hw1, hw2, hw3, hw4, hw5, hw6⟩; go_simp; rfl) ?_
      simp only [Act.put, List.setIfInBounds_toArray, List.set_cons_succ, List.set_cons_zero]
      refine hld_take 2 rfl (by kernel_rfl) (by kernel_rfl) (by kernel_rfl) (fun _ _ _ h => h) rfl ⟨c0, c1, c2, c3, c4, c5⟩ (by rintro w' ⟨hw1, hw2, hw3, hw4, hw5, hw6⟩; go_simp; rfl) ?_
      simp only [Act.put, List.setIfInBounds_toArray, List.set_cons_succ, List.set_cons_zero]
      refine Hld.of (wpAnyH_all (rs := [3, 5]) (by kernel_rfl) (by simp) fun jj hjj => ?_)
      simp only [List.mem_cons, List.not_mem_nil, or_false] at hjj
      rcases hjj with rfl | rfl
      ·refine hld_opr 3 rfl rfl (fun K hK => ?_)
       go_wp2_with (go_at_call 68; refine (copiedT_flat _ y _ _ (HD.out.below HBV.out) (vEnt_data HVE.out)).mono ?_; rintro e9 U1 ⟨a', cap', rfl, ho9, hb9⟩; have HO1 := Lib.hid ho9; have HSP1 := Lib.hid hb9; clear ho9 hb9 c0 c1 c2 c3 c4 c5 hltX)
       have HBU1 := Lib.hid (below_next HBV.out HSP1.out)
       have HXU1 := Lib.hid ((HSP1.out.block wr.heap.size (lt20 HXV.out)).trans HXV.out)
       have c0 := cell20 (k := 0) HXU1.out
       have c1 := cell20 (k := 1) HXU1.out
       have c2 := cell20 (k := 2) HXU1.out
       have c3 := cell20 (k := 3) HXU1.out
       have c4 := cell20 (k := 4) HXU1.out
       have c5 := cell20 (k := 5) HXU1.out
       have hltX := lt20 HXU1.out
       simp only [List.getElem?_toArray, List.getElem?_cons_succ, List.getElem?_cons_zero] at c0 c1 c2 c3 c4 c5
       refine ⟨⟨c0, c1, c2, c3, c4, c5⟩, ?_⟩
       refine hld_take 4 rfl (by kernel_rfl) (by kernel_rfl) (by kernel_rfl) (fun _ _ _ h => h) rfl ⟨c0, c1, c2, c3, c4, c5⟩ (by rintro w' ⟨hw1, hw2, hw3, hw4, hw5, hw6⟩; go_simp; rfl) ?_
       simp only [Act.put, List.setIfInBounds_toArray, List.set_cons_succ, List.set_cons_zero]
       refine hld_bar 5 rfl (by kernel_rfl) rfl (fun K hK => ?_)
       go_wp2_with fail
       obtain ⟨U2, hU⟩ : ∃ u : World, u = (U1).alloc (.cells #[.int .i64 0, .string ⟨#[]⟩, .string ⟨#[]⟩, .string ⟨#[]⟩, .int .i64 0, .int .i64 0, .int .i64 0, .slice none 0 0, .string ⟨#[]⟩] 58) := ⟨_, rfl⟩
       rw [← hU]
       have HSP2 := Lib.hid (show Below (U1).heap.size U1 U2 by rw [hU]; exact (Below.refl _ _).alloc (Nat.le_refl _) _)
       have HZ2 := Lib.hid (show (U2).heap[(U1).heap.size]? = some (.cells #[.int .i64 0, .string ⟨#[]⟩, .string ⟨#[]⟩, .string ⟨#[]⟩, .int .i64 0, .int .i64 0, .int .i64 0, .slice none 0 0, .string ⟨#[]⟩] 58 (0, 0)) by rw [hU]; exact new20 _ _)
       have HBU2 := Lib.hid (below_next HBU1.out HSP2.out)
       have HXU2 := Lib.hid ((HSP2.out.block wr.heap.size (lt20 HXU1.out)).trans HXU1.out)
       clear hU c0 c1 c2 c3 c4 c5 hltX
       have c0 := cell20 (k := 0) HXU2.out
       have c1 := cell20 (k := 1) HXU2.out
       have c2 := cell20 (k := 2) HXU2.out
       have c3 := cell20 (k := 3) HXU2.out
       have c4 := cell20 (k := 4) HXU2.out
       have c5 := cell20 (k := 5) HXU2.out
       have hltX := lt20 HXU2.out
       simp only [List.getElem?_toArray, List.getElem?_cons_succ, List.getElem?_cons_zero] at c0 c1 c2 c3 c4 c5
       refine ⟨⟨c0, c1, c2, c3, c4, c5⟩, ?_⟩
       have HZB := Lib.hid (show wr.heap.size ≤ U1.heap.size ∧ wr.heap.size < U1.heap.size from ⟨HBU1.out.size, lt20 HXU1.out⟩)
       refine hld_bar 6 rfl (by kernel_rfl) rfl (fun K hK => ?_)
       have z0 := frozen20 (k := 0) HZ2.out
       have z1 := frozen20 (k := 1) HZ2.out
       have z2 := frozen20 (k := 2) HZ2.out
       have z3 := frozen20 (k := 3) HZ2.out
       have z4 := frozen20 (k := 4) HZ2.out
       have z5 := frozen20 (k := 5) HZ2.out
       have z6 := frozen20 (k := 6) HZ2.out
       have z7 := frozen20 (k := 7) HZ2.out
       have z8 := frozen20 (k := 8) HZ2.out
       have y0 := cell20 (k := 0) HZ2.out
       have y1 := cell20 (k := 1) HZ2.out
       have y2 := cell20 (k := 2) HZ2.out
       have y3 := cell20 (k := 3) HZ2.out
       have y4 := cell20 (k := 4) HZ2.out
       have y5 := cell20 (k := 5) HZ2.out
       have y6 := cell20 (k := 6) HZ2.out
       have y7 := cell20 (k := 7) HZ2.out
       have y8 := cell20 (k := 8) HZ2.out
       simp only [List.getElem?_toArray, List.getElem?_cons_succ, List.getElem?_cons_zero] at y0 y1 y2 y3 y4 y5 y6 y7 y8
       go_wp2_with fail
       obtain ⟨WZ, hWZ⟩ : ∃ u : World, u = ((((((((((U2).setCell ⟨U1.heap.size, 0, none⟩ (.int .i64 3)).setCell ⟨U1.heap.size, 1, none⟩ (.string y.path)).setCell ⟨U1.heap.size, 2, none⟩ (.string ⟨#[]⟩)).setCell ⟨U1.heap.size, 3, none⟩ (.string y.path)).setCell ⟨U1.heap.size, 4, none⟩ (.int .i64 y.kind)).setCell ⟨U1.heap.size, 5, none⟩ (.int .i64 y.mode)).setCell ⟨U1.heap.size, 6, none⟩ (.int .i64 y.time)).setCell ⟨U1.heap.size, 7, none⟩ (.slice a' y.data.length cap')).setCell ⟨U1.heap.size, 8, none⟩ (.string y.link)) := ⟨_, rfl⟩
       rw [← hWZ]
       have HGZ := Lib.hid (show (U2).grownBy WZ (some (U1.heap.size)) by rw [hWZ]; exact nine_grown)
       have HCZ := Lib.hid (show WZ.heap[U1.heap.size]? = some (.cells #[.int .i64 3, .string y.path, .string ⟨#[]⟩, .string y.path, .int .i64 y.kind, .int .i64 y.mode, .int .i64 y.time, .slice a' y.data.length cap', .string y.link] 58 (0, 0)) by rw [hWZ]; exact nine20 HZ2.out)
       clear hWZ z0 z1 z2 z3 z4 z5 z6 z7 z8 y0 y1 y2 y3 y4 y5 y6 y7 y8 c0 c1 c2 c3 c4 c5 hltX
       have HBZ := Lib.hid (HBU2.out.grown HGZ.out HBU2.out.size (fun k e => by cases e; exact HZB.out.1))
       have HXZ := Lib.hid ((HGZ.out.block wr.heap.size (lt20 HXU2.out) (fun e => by have h1 := Option.some.inj e; have h2 := HZB.out.2; omega)).trans HXU2.out)
       obtain ⟨bz, hbz⟩ : ∃ bz, bz = U1.heap.size := ⟨_, rfl⟩
       rw [← hbz] at HCZ HGZ ⊢
       have HZL := Lib.hid (show wr.heap.size < bz by have := HZB.out; omega)
       have c0 := cell20 (k := 0) HXZ.out
       have c1 := cell20 (k := 1) HXZ.out
       have c2 := cell20 (k := 2) HXZ.out
       have c3 := cell20 (k := 3) HXZ.out
       have c4 := cell20 (k := 4) HXZ.out
       have c5 := cell20 (k := 5) HXZ.out
       have hltX := lt20 HXZ.out
       simp only [List.getElem?_toArray, List.getElem?_cons_succ, List.getElem?_cons_zero] at c0 c1 c2 c3 c4 c5
       refine ⟨⟨c0, c1, c2, c3, c4, c5⟩, ?_⟩
       refine hld_done (by kernel_rfl) ?_
       have HDZ := Lib.hid (show DataAt (ApartB wr.heap.size bz WZ) WZ (.slice a' y.data.length cap') y.data by
        have h1 := (own_below HO1.out HSP2.out).kept HGZ.out (.inr (fun e => by have := (own_lt HO1.out e).2; omega))
        refine RowAt.mono (row_of_owns h1) (fun k hk hS => ⟨Nat.le_trans HBV.out.size hS.1, hk, ?_⟩) (by omega)
        have := (own_lt HO1.out hS.2).2
        omega)
       clear hbz
       have hmvc := movable_any _ y _ WZ (HD.out.below HBZ.out)
       unfold entV contV at hmvc
       obtain ⟨cnt, hcnt⟩ : ∃ c, c = contE y := ⟨_, rfl⟩
       have HC := Lib.hid hcnt
       rw [← hcnt] at hmvc HCS
       clear hcnt
       obtain ⟨ck, cs⟩ := cnt
       simp only at hmvc HCS
       cases hmv : movB y with
       | false =>
        rw [hmv] at hmvc
        have HST := Lib.hid (show stepD a (stD a b k) y = ⟨(stD a b k).rem, (stD a b k).out ++ [⟨3, y.path, noPath, y⟩]⟩ by unfold stepD mateE; rw [HKF.out, hmv]; rfl)
        clear hmv
        go_upto_region 29 with (go_at_call 66; refine hmvc.mono ?_; rintro e4 w4' ⟨rfl, hb4'⟩; have HB4 := Lib.hid hb4'; clear hb4' hmvc c0 c1 c2 c3 c4 c5 hltX)
        obtain ⟨W5, hW5⟩ : ∃ W : World, W = w4'.alloc (.cells #[.int .i64 ck, .string cs] 108) := ⟨_, rfl⟩
        rw [← hW5]
        have HW5 := Lib.hid (show Below WZ.heap.size WZ W5 by rw [hW5]; exact HB4.out.alloc HB4.out.size _)
        clear hW5
        have HCU := Lib.hid ((HW5.out.block bz (lt20 HCZ.out)).trans HCZ.out)
        have HDU := Lib.hid (data_mono (HDZ.out.below HW5.out) (fun k hk => show ApartB wr.heap.size bz W5 k from ⟨hk.1, Nat.lt_of_lt_of_le hk.2.1 HW5.out.size, hk.2.2⟩))
        have HLU := Lib.hid (HLP.out.below (below_next HBZ.out HW5.out))
        have HLA := Lib.hid HLU.out.A
        have HLG := Lib.hid HLU.out.G
        have HLN := Lib.hid HLU.out.N
        have HLC := Lib.hid HLU.out.C
        have HLB := Lib.hid HLU.out.bel
        have HUL := Lib.hid (Nat.le_trans HBZ.out.size HW5.out.size)
        have HCOK := Lib.hid (show ChgOk ⟨3, y.path, noPath, y⟩ from ⟨rfl, HOK.out.pth, (show (⟨#[]⟩ : ByteArray).size ≤ maxLen by decide), HOK.out⟩)
        have e0 := cell20 (k := 0) HCU.out
        have e1 := cell20 (k := 1) HCU.out
        have e2 := cell20 (k := 2) HCU.out
        have e3 := cell20 (k := 3) HCU.out
        have e4 := cell20 (k := 4) HCU.out
        have e5 := cell20 (k := 5) HCU.out
        have e6 := cell20 (k := 6) HCU.out
        have e7 := cell20 (k := 7) HCU.out
        have e8 := cell20 (k := 8) HCU.out
        have hltZ := lt20 HCU.out
        simp only [List.getElem?_toArray, List.getElem?_cons_succ, List.getElem?_cons_zero] at e0 e1 e2 e3 e4 e5 e6 e7 e8
        have hrw9 := HLC.out.row
        have hyl := HYL.out
        have hbu9 := Nat.le_trans HLP.out.bb HUL.out
        go_wp2_with (at_builtin; go_must (refine wpList_app1p Tryz.appChgs rfl _ _ rfl B2 (.slice av ys.length cv) ys.length (chgsC ys) rfl W5 (chgC (.slice a' y.data.length cap') ⟨3, y.path, noPath, y⟩) _ rfl rfl chgC_one hrw9 (by omega) hbu9 ?_); intro v8 w8 hown8 hg8 _ hpl8; have HOWN8 := Lib.hid hown8; have HG8 := Lib.hid hg8; have HPL8 := Lib.hid hpl8; clear hown8 hg8 hpl8)
        go_roundw
        case rel =>
         exact ⟨k + 1, ys ++ [(.slice a' y.data.length cap', ⟨3, y.path, noPath, y⟩)], by omega, by go_num, HLP.out.push (rem' := (stD a b k).rem) (c := ⟨3, y.path, noPath, y⟩) (x := .slice a' y.data.length cap') (bz := bz) HLA.out HLG.out HLN.out HLC.out HLB.out HAT.out HST.out HOWN8.out HG8.out HPL8.out HDU.out HCOK.out HGS.out HSN.out HTN.out HWB.out HUL.out⟩
        case measure => simp [intOf]; omega
       | true =>
        rw [hmv] at hmvc
        have HMV := Lib.hid hmv
        clear hmv
        go_upto_region 24 with (go_at_call 66; refine hmvc.mono ?_; rintro e4 w4' ⟨rfl, hb4'⟩; have HB4 := Lib.hid hb4'; clear hb4' hmvc c0 c1 c2 c3 c4 c5 hltX)
        obtain ⟨W5, hW5⟩ : ∃ W : World, W = w4'.alloc (.cells #[.int .i64 ck, .string cs] 108) := ⟨_, rfl⟩
        rw [← hW5]
        have HW5 := Lib.hid (show Below WZ.heap.size WZ W5 by rw [hW5]; exact HB4.out.alloc HB4.out.size _)
        have HY5 := Lib.hid (show W5.heap[w4'.heap.size]? = some (.cells #[.int .i64 ck, .string cs] 108 (0, 0)) by rw [hW5]; exact new20 w4' _)
        clear hW5
        have HLU5 := Lib.hid (HLP.out.below (below_next HBZ.out HW5.out))
        have HCW := Lib.hid (show (Lit.int .i64 ck).wf = true by have h := cont_wf y; rw [← HC.out] at h; exact h)
        have HRV := Lib.hid (fun g (hg : g ∈ (stD a b k).rem) => HTA.out.val g ((gone_mem.1 ((stD_inv (b := b) HTA.out k).sub.subset hg)).1))
        have hmt := mate_names HRV.out HVE.out HMV.out
        rw [← HC.out] at hmt
        obtain ⟨vs, hlk, hrow⟩ := HLU5.out.N.get (c := (ck, cs)) HCS.out HCW.out
        unfold contV at hlk
        simp only at hlk
        obtain ⟨nl, hnl⟩ : ∃ nl, nl = namesG (stD a b k).rem (ck, cs) := ⟨_, rfl⟩
        rw [← hnl] at hrow hmt
        have HNL := Lib.hid hnl
        clear hnl
        have d0 := cell20 (k := 0) HY5.out
        have d1 := cell20 (k := 1) HY5.out
        have hltY := lt20 HY5.out
        simp only [List.getElem?_toArray, List.getElem?_cons_succ, List.getElem?_cons_zero] at d0 d1
        obtain ⟨hrl, asl, cps, rfl, hn1, hn2, hr0⟩ := hrow
        unfold maxLen at hn2
        cases nl with
        | nil =>
         have HST := Lib.hid (show stepD a (stD a b k) y = ⟨(stD a b k).rem, (stD a b k).out ++ [⟨3, y.path, noPath, y⟩]⟩ by
          have : mateE (stD a b k).rem y = none := by simpa using hmt
          unfold stepD
          rw [HKF.out, this]; rfl)
         simp only [List.length_nil] at hlk hn1
         clear hmt hrl hr0
         go_upto_region 29 with (fail)
         clear hlk d0 d1 hltY
         have HCU := Lib.hid ((HW5.out.block bz (lt20 HCZ.out)).trans HCZ.out)
         have HDU := Lib.hid (data_mono (HDZ.out.below HW5.out) (fun k hk => show ApartB wr.heap.size bz W5 k from ⟨hk.1, Nat.lt_of_lt_of_le hk.2.1 HW5.out.size, hk.2.2⟩))
         have HLU := Lib.hid (HLP.out.below (below_next HBZ.out HW5.out))
         have HLA := Lib.hid HLU.out.A
         have HLG := Lib.hid HLU.out.G
         have HLN := Lib.hid HLU.out.N
         have HLC := Lib.hid HLU.out.C
         have HLB := Lib.hid HLU.out.bel
         have HUL := Lib.hid (Nat.le_trans HBZ.out.size HW5.out.size)
         have HCOK := Lib.hid (show ChgOk ⟨3, y.path, noPath, y⟩ from ⟨rfl, HOK.out.pth, (show (⟨#[]⟩ : ByteArray).size ≤ maxLen by decide), HOK.out⟩)
         have e0 := cell20 (k := 0) HCU.out
         have e1 := cell20 (k := 1) HCU.out
         have e2 := cell20 (k := 2) HCU.out
         have e3 := cell20 (k := 3) HCU.out
         have e4 := cell20 (k := 4) HCU.out
         have e5 := cell20 (k := 5) HCU.out
         have e6 := cell20 (k := 6) HCU.out
         have e7 := cell20 (k := 7) HCU.out
         have e8 := cell20 (k := 8) HCU.out
         have hltZ := lt20 HCU.out
         simp only [List.getElem?_toArray, List.getElem?_cons_succ, List.getElem?_cons_zero] at e0 e1 e2 e3 e4 e5 e6 e7 e8
         have hrw9 := HLC.out.row
         have hyl := HYL.out
         have hbu9 := Nat.le_trans HLP.out.bb HUL.out
         go_wp2_with (at_builtin; go_must (refine wpList_app1p Tryz.appChgs rfl _ _ rfl B2 (.slice av ys.length cv) ys.length (chgsC ys) rfl W5 (chgC (.slice a' y.data.length cap') ⟨3, y.path, noPath, y⟩) _ rfl rfl chgC_one hrw9 (by omega) hbu9 ?_); intro v8 w8 hown8 hg8 _ hpl8; have HOWN8 := Lib.hid hown8; have HG8 := Lib.hid hg8; have HPL8 := Lib.hid hpl8; clear hown8 hg8 hpl8)
         go_roundw
         case rel =>
          exact ⟨k + 1, ys ++ [(.slice a' y.data.length cap', ⟨3, y.path, noPath, y⟩)], by omega, by go_num, HLP.out.push (rem' := (stD a b k).rem) (c := ⟨3, y.path, noPath, y⟩) (x := .slice a' y.data.length cap') (bz := bz) HLA.out HLG.out HLN.out HLC.out HLB.out HAT.out HST.out HOWN8.out HG8.out HPL8.out HDU.out HCOK.out HGS.out HSN.out HTN.out HWB.out HUL.out⟩
         case measure => simp [intOf]; omega
        | cons pn pns =>
         simp only [List.length_cons, List.map_cons] at hlk hn1 hr0
         have HST0 := Lib.hid hmt
         clear hmt hrl
         go_upto_region 25 with (fail)
         clear hlk d0 d1 hltY hr0 hn1 hn2
         have HCU5 := Lib.hid ((HW5.out.block bz (lt20 HCZ.out)).trans HCZ.out)
         have HBZ2 := Lib.hid (show B2 ≤ bz by have h1 := HZL.out; have h2 := HLP.out.bb; omega)
         have HCB := Lib.hid (show w4'.heap.size ≠ bz by have h1 := lt20 HCZ.out; have h2 := HB4.out.size; omega)
         have hgs := HGS.out
         have z0 := frozen20 (k := 0) HCU5.out
         have e0 := cell20 (k := 0) HCU5.out
         have e1 := cell20 (k := 1) HCU5.out
         have e2 := cell20 (k := 2) HCU5.out
         have e3 := cell20 (k := 3) HCU5.out
         have e4 := cell20 (k := 4) HCU5.out
         have e5 := cell20 (k := 5) HCU5.out
         have e6 := cell20 (k := 6) HCU5.out
         have e7 := cell20 (k := 7) HCU5.out
         have e8 := cell20 (k := 8) HCU5.out
         have hltZ := lt20 HCU5.out
         simp only [List.getElem?_toArray, List.getElem?_cons_succ, List.getElem?_cons_zero] at e0 e1 e2 e3 e4 e5 e6 e7 e8
         go_upto_region 26 with (fail)
         obtain ⟨W6, hW6⟩ : ∃ u : World, u = W5.setCell ⟨bz, 0, none⟩ (.int .i64 2) := ⟨_, rfl⟩
         rw [← hW6]
         have HG6 := Lib.hid (show W5.grownBy W6 (some bz) by rw [hW6]; exact grown_set bz 0 _)
         have HCU6 := Lib.hid (show W6.heap[bz]? = some (.cells #[.int .i64 2, .string y.path, .string ⟨#[]⟩, .string y.path, .int .i64 y.kind, .int .i64 y.mode, .int .i64 y.time, .slice a' y.data.length cap', .string y.link] 58 (0, 0)) by rw [hW6]; exact set20 HCU5.out _)
         clear hW6 z0 e0 e1 e2 e3 e4 e5 e6 e7 e8 hltZ
         have HY6 := Lib.hid ((HG6.out.block _ (lt20 HY5.out) (fun e => HCB.out (Option.some.inj e))).trans HY5.out)
         have HN6 := Lib.hid (HLU5.out.N.other HG6.out (by have := HBZ2.out; omega) (HTN.out _ HBZ2.out))
         obtain ⟨v6, hlk6, hrow6⟩ := HN6.out.get (c := (ck, cs)) HCS.out HCW.out
         obtain ⟨_, as6, cp6, rfl, hn6, hm6, h06⟩ := hrow6
         rw [← HNL.out] at hlk6 hn6 h06
         unfold contV at hlk6
         simp only [List.length_cons, List.map_cons] at hlk6 hn6 h06
         unfold maxLen at hm6
         rcases h06 with h06 | ⟨b6, o6, rfl, -, hcc6⟩
         ·omega
         have hc6 := hcc6 0 (.string pn) rfl
         simp only [Nat.add_zero] at hc6
         have hb6l := block_lt hc6
         have d0 := cell20 (k := 0) HY6.out
         have d1 := cell20 (k := 1) HY6.out
         have hltY := lt20 HY6.out
         simp only [List.getElem?_toArray, List.getElem?_cons_succ, List.getElem?_cons_zero] at d0 d1
         have z2 := frozen20 (k := 2) HCU6.out
         have e0 := cell20 (k := 0) HCU6.out
         have e1 := cell20 (k := 1) HCU6.out
         have e2 := cell20 (k := 2) HCU6.out
         have e3 := cell20 (k := 3) HCU6.out
         have e4 := cell20 (k := 4) HCU6.out
         have e5 := cell20 (k := 5) HCU6.out
         have e6 := cell20 (k := 6) HCU6.out
         have e7 := cell20 (k := 7) HCU6.out
         have e8 := cell20 (k := 8) HCU6.out
         have hltZ := lt20 HCU6.out
         simp only [List.getElem?_toArray, List.getElem?_cons_succ, List.getElem?_cons_zero] at e0 e1 e2 e3 e4 e5 e6 e7 e8
         clear hcc6
         go_upto_region 27 with (fail)
         obtain ⟨W7, hW7⟩ : ∃ u : World, u = W6.setCell ⟨bz, 2, none⟩ (.string pn) := ⟨_, rfl⟩
         rw [← hW7]
         have HG7 := Lib.hid (show W6.grownBy W7 (some bz) by rw [hW7]; exact grown_set bz 2 _)
         have HCU7 := Lib.hid (show W7.heap[bz]? = some (.cells #[.int .i64 2, .string y.path, .string pn, .string y.path, .int .i64 y.kind, .int .i64 y.mode, .int .i64 y.time, .slice a' y.data.length cap', .string y.link] 58 (0, 0)) by rw [hW7]; exact set20 HCU6.out _)
         clear hW7 z2 e0 e1 e2 e3 e4 e5 e6 e7 e8 hltZ d0 d1 hltY hc6 hlk6 hb6l hn6 hm6
         have HY7 := Lib.hid ((HG7.out.block _ (lt20 HY6.out) (fun e => HCB.out (Option.some.inj e))).trans HY6.out)
         have HN7 := Lib.hid (HN6.out.other HG7.out (by have := HBZ2.out; omega) (HTN.out _ HBZ2.out))
         obtain ⟨V7, hV7⟩ : ∃ V : World, V = W7.drew := ⟨_, rfl⟩
         have HD7 := Lib.hid (show Below W7.heap.size W7 V7 by rw [hV7]; exact (Below.refl _ _).drew)
         have HY8 := Lib.hid ((HD7.out.block _ (lt20 HY7.out)).trans HY7.out)
         have HN8 := Lib.hid (HN7.out.below HD7.out)
         obtain ⟨v8', hlk8, hrow8⟩ := HN8.out.get (c := (ck, cs)) HCS.out HCW.out
         have HRW8 := Lib.hid hrow8
         obtain ⟨_, as8, cp8, rfl, hn8, hm8, h08⟩ := hrow8
         rw [← HNL.out] at hlk8 hn8 h08 HRW8
         unfold contV at hlk8
         simp only [List.length_cons, List.map_cons] at hlk8 hn8 h08
         unfold maxLen at hm8
         rcases h08 with h08 | ⟨b8, o8, rfl, hT8, hcc8⟩
         ·omega
         have HT8 := Lib.hid (And.intro hT8 hcc8)
         clear hT8 hcc8
         refine wp_region_segs [some 6, none] (by kernel_rfl) (by kernel_rfl) (by kernel_rfl) ?_
         simp only [wpSegs, List.take_succ_cons, List.take_zero, List.drop_succ_cons, List.drop_zero]
         rw [← hV7]
         have d0 := cell20 (k := 0) HY8.out
         have d1 := cell20 (k := 1) HY8.out
         have hltY := lt20 HY8.out
         simp only [List.getElem?_toArray, List.getElem?_cons_succ, List.getElem?_cons_zero] at d0 d1
         clear hV7
         obtain ⟨as9, hsl, has9⟩ := slice_tail b8 o8 pns.length cp8 hn8
         have hsl9 := hsl V7
         have HRT := Lib.hid (row_tail (w := V7) (TS := TS) (cs := pns.map Value.string) (by rw [List.length_map]) hn8 (by unfold maxLen; omega) HT8.out.1 HT8.out.2 has9)
         clear hsl
         repeat (first | (refine seg_skip rfl ?_; simp only [Act.put, List.setIfInBounds_toArray, List.set_cons_succ, List.set_cons_zero]) | (refine seg_run rfl (fun K hK => ?_); go_simp; refine hK _ ?_; clear hK K))
         refine seg_nil ?_
         obtain ⟨w9, hu9, hn9, hg9⟩ := HN8.out.set (fun h => by have h1 := (HTS.out _ h).1; have h2 := HBS.out; omega) (c := (ck, cs)) HCS.out HCW.out HRT.out
         have HN9 := Lib.hid hn9
         have HG9 := Lib.hid hg9
         unfold contV at hu9
         simp only at hu9
         clear hn9 hg9 has9 hsl9 hlk8
         refine bar_run rfl (fun K hK => ?_)
         clear d0 d1 hltY hn8 hm8
         go_upto_region 28 with (fail)
         clear hu9
         have HCU9 := Lib.hid ((HG9.out.block bz (Nat.lt_of_lt_of_le (lt20 HCU7.out) HD7.out.size) (fun e => by have h1 := Option.some.inj e; have h2 := HBZ2.out; omega)).trans ((HD7.out.block bz (lt20 HCU7.out)).trans HCU7.out))
         have hS6 := HLU5.out.G.other HG6.out (by have := HBZ2.out; omega)
         have hS7 := hS6.other HG7.out (by have := HBZ2.out; omega)
         have HS9 := Lib.hid ((hS7.below HD7.out).other HG9.out (fun e => HNE.out.2.2.1 e.symm))
         clear hS6 hS7
         obtain ⟨g, hg, hgp⟩ : ∃ g, mateE (stD a b k).rem y = some g ∧ g.path = pn := by
          have := HST0.out
          cases hg : mateE (stD a b k).rem y with
          | none => rw [hg] at this; cases this
          | some g => rw [hg] at this; exact ⟨g, rfl, by simpa using this⟩
         have HGM := Lib.hid hg
         have HGP := Lib.hid hgp
         have hps : pn.size ≤ maxLen := by
          rw [← hgp, size_bl]
          have h1 := valid_size (vEnt_path (HRV.out g (mate_some hg).1))
          unfold maxLen; omega
         have HPS := Lib.hid hps
         clear hg hgp hps
         have HDEL := Lib.hid (fun ty => HS9.out.del boolTy HPS.out ty)
         have e0 := cell20 (k := 0) HCU9.out
         have e1 := cell20 (k := 1) HCU9.out
         have e2 := cell20 (k := 2) HCU9.out
         have e3 := cell20 (k := 3) HCU9.out
         have e4 := cell20 (k := 4) HCU9.out
         have e5 := cell20 (k := 5) HCU9.out
         have e6 := cell20 (k := 6) HCU9.out
         have e7 := cell20 (k := 7) HCU9.out
         have e8 := cell20 (k := 8) HCU9.out
         have hltZ := lt20 HCU9.out
         simp only [List.getElem?_toArray, List.getElem?_cons_succ, List.getElem?_cons_zero] at e0 e1 e2 e3 e4 e5 e6 e7 e8
         go_upto_region 29 with (at_delete; go_must (refine wpList_delRun rfl _ _ _ _ rfl _ _ rfl rfl (HDEL.out _) ?_); rintro w10 ⟨hm3, hg3⟩; have HS10 := Lib.hid hm3; have HG10 := Lib.hid hg3; clear hm3 hg3 e0 e1 e2 e3 e4 e5 e6 e7 e8 hltZ)
         clear HDEL
         have hgs := HGS.out
         have hb2 := HBZ2.out
         have hlpb := HLP.out.bb
         have hk10 : ∀ k, B2 ≤ k → k ≠ bz → k < W5.heap.size → w10.heap[k]? = W5.heap[k]? := fun k h1 h2 h3 => by
          have s6 := HG6.out.size
          have s7 := HG7.out.size
          have s8 := HD7.out.size
          have s9 := HG9.out.size
          have q6 := HG6.out.block k h3 (fun e => h2 (Option.some.inj e))
          have q7 := HG7.out.block k (by omega) (fun e => h2 (Option.some.inj e))
          have q8 := HD7.out.block k (by omega)
          have q9 := HG9.out.block k (by omega) (fun e => by have := Option.some.inj e; omega)
          have q10 := HG10.out.block k (by omega) (fun e => by have := Option.some.inj e; omega)
          rw [q10, q9, q8, q7, q6]
         have hsz10 : W5.heap.size ≤ w10.heap.size := by
          have s6 := HG6.out.size
          have s7 := HG7.out.size
          have s8 := HD7.out.size
          have s9 := HG9.out.size
          have s10 := HG10.out.size
          omega
         have hbw5 := below_next HBZ.out HW5.out
         have HCU := Lib.hid ((HG10.out.block bz (lt20 HCU9.out) (fun e => by have := Option.some.inj e; omega)).trans HCU9.out)
         have HDU := Lib.hid (data_keep (S' := ApartB wr.heap.size bz w10) (HDZ.out.below HW5.out) (fun k hS hlt => hk10 k (Nat.le_trans hlpb hS.1) hS.2.2 hlt) (fun k hS hlt => ⟨hS.1, Nat.lt_of_lt_of_le hlt hsz10, hS.2.2⟩))
         have HLA := Lib.hid (((((HLU5.out.A.other HG6.out (by omega) (HSN.out _ hb2)).other HG7.out (by omega) (HSN.out _ hb2)).below HD7.out).other HG9.out HNE.out.2.2.2.1 (HSF.out.1 _ HGB.out.2)).other HG10.out HNE.out.1 (HSF.out.1 _ HGB.out.1))
         have HLG := Lib.hid (show SetR w10 gb (hasE (dropE (stD a b k).rem pn)) by rw [has_drop]; exact HS10.out)
         have HLN := Lib.hid (show SrcT TS w10 sb (namesG (dropE (stD a b k).rem pn)) by
          have hN := HN9.out.other HG10.out HNE.out.2.2.1 (fun h => by have h1 := (HTS.out _ h).1; have h2 := HBS.out; omega)
          have hfe : (fun d => if d = (ck, cs) then pns else namesG (stD a b k).rem d) = namesG (dropE (stD a b k).rem pn) := by
           funext d
           rw [← HGP.out, names_drop ((stD_inv (b := b) HTA.out k).rem_nodup HTA.out) HRV.out HVE.out HGM.out d, ← HC.out, ← HNL.out]
           rfl
          rw [← hfe]
          exact hN)
         have HLC := Lib.hid (HLP.out.C.keep (w' := w10) (fun k h1 h2 => (hk10 k h1 (by have := HZL.out; omega) (Nat.lt_of_lt_of_le h2 hbw5.size)).trans (hbw5.block k h2)) (Nat.le_trans hbw5.size hsz10))
         have HLB := Lib.hid (show Below w.heap.size w w10 by
          have h5 := HLU5.out.bel
          have h6 := h5.grown HG6.out h5.size (fun k e => by cases e; have := HWB.out; omega)
          have h7 := h6.grown HG7.out h6.size (fun k e => by cases e; have := HWB.out; omega)
          have h8 := below_next h7 HD7.out
          have h9 := h8.grown HG9.out h8.size (fun k e => by cases e; exact HGB.out.2)
          exact h9.grown HG10.out h9.size (fun k e => by cases e; exact HGB.out.1))
         have HUL := Lib.hid (Nat.le_trans hbw5.size hsz10)
         have HCOK := Lib.hid (show ChgOk ⟨2, y.path, pn, y⟩ from ⟨rfl, HOK.out.pth, HPS.out, HOK.out⟩)
         have HST := Lib.hid (show stepD a (stD a b k) y = ⟨dropE (stD a b k).rem pn, (stD a b k).out ++ [⟨2, y.path, pn, y⟩]⟩ by
          unfold stepD
          rw [HKF.out, HGM.out, ← HGP.out]; rfl)
         clear hk10 hsz10 hbw5 hb2 hlpb
         have e0 := cell20 (k := 0) HCU.out
         have e1 := cell20 (k := 1) HCU.out
         have e2 := cell20 (k := 2) HCU.out
         have e3 := cell20 (k := 3) HCU.out
         have e4 := cell20 (k := 4) HCU.out
         have e5 := cell20 (k := 5) HCU.out
         have e6 := cell20 (k := 6) HCU.out
         have e7 := cell20 (k := 7) HCU.out
         have e8 := cell20 (k := 8) HCU.out
         have hltZ := lt20 HCU.out
         simp only [List.getElem?_toArray, List.getElem?_cons_succ, List.getElem?_cons_zero] at e0 e1 e2 e3 e4 e5 e6 e7 e8
         have hrw9 := HLC.out.row
         have hyl := HYL.out
         have hbu9 := Nat.le_trans HLP.out.bb HUL.out
         go_wp2_with (at_builtin; go_must (refine wpList_app1p Tryz.appChgs rfl _ _ rfl B2 (.slice av ys.length cv) ys.length (chgsC ys) rfl w10 (chgC (.slice a' y.data.length cap') ⟨2, y.path, pn, y⟩) _ rfl rfl chgC_one hrw9 (by omega) hbu9 ?_); intro v8 w8 hown8 hg8 _ hpl8; have HOWN8 := Lib.hid hown8; have HG8 := Lib.hid hg8; have HPL8 := Lib.hid hpl8; clear hown8 hg8 hpl8)
         go_roundw
         case rel =>
          exact ⟨k + 1, ys ++ [(.slice a' y.data.length cap', ⟨2, y.path, pn, y⟩)], by omega, by go_num, HLP.out.push (rem' := (dropE (stD a b k).rem pn)) (c := ⟨2, y.path, pn, y⟩) (x := .slice a' y.data.length cap') (bz := bz) HLA.out HLG.out HLN.out HLC.out HLB.out HAT.out HST.out HOWN8.out HG8.out HPL8.out HDU.out HCOK.out HGS.out HSN.out HTN.out HWB.out HUL.out⟩
         case measure => simp [intOf]; omega
      ·refine hld_opr 5 rfl rfl (fun K hK => ?_)
       go_wp2_with fail
       obtain ⟨U1, hU⟩ : ∃ u : World, u = (V).alloc (.cells #[.int .i64 0, .string ⟨#[]⟩, .string ⟨#[]⟩, .string ⟨#[]⟩, .int .i64 0, .int .i64 0, .int .i64 0, .slice none 0 0, .string ⟨#[]⟩] 58) := ⟨_, rfl⟩
       rw [← hU]
       have HSP1 := Lib.hid (show Below (V).heap.size V U1 by rw [hU]; exact (Below.refl _ _).alloc (Nat.le_refl _) _)
       have HZ1 := Lib.hid (show (U1).heap[(V).heap.size]? = some (.cells #[.int .i64 0, .string ⟨#[]⟩, .string ⟨#[]⟩, .string ⟨#[]⟩, .int .i64 0, .int .i64 0, .int .i64 0, .slice none 0 0, .string ⟨#[]⟩] 58 (0, 0)) by rw [hU]; exact new20 _ _)
       have HBU1 := Lib.hid (below_next HBV.out HSP1.out)
       have HXU1 := Lib.hid ((HSP1.out.block wr.heap.size (lt20 HXV.out)).trans HXV.out)
       clear hU c0 c1 c2 c3 c4 c5 hltX
       have c0 := cell20 (k := 0) HXU1.out
       have c1 := cell20 (k := 1) HXU1.out
       have c2 := cell20 (k := 2) HXU1.out
       have c3 := cell20 (k := 3) HXU1.out
       have c4 := cell20 (k := 4) HXU1.out
       have c5 := cell20 (k := 5) HXU1.out
       have hltX := lt20 HXU1.out
       simp only [List.getElem?_toArray, List.getElem?_cons_succ, List.getElem?_cons_zero] at c0 c1 c2 c3 c4 c5
       refine ⟨⟨c0, c1, c2, c3, c4, c5⟩, ?_⟩
       refine hld_bar 3 rfl (by kernel_rfl) rfl (fun K hK => ?_)
       go_wp2_with (go_at_call 68; refine (copiedT_flat _ y _ _ (HD.out.below HBU1.out) (vEnt_data HVE.out)).mono ?_; rintro e9 U2 ⟨a', cap', rfl, ho9, hb9⟩; have HO2 := Lib.hid ho9; have HSP2 := Lib.hid hb9; clear ho9 hb9 c0 c1 c2 c3 c4 c5 hltX)
       have HBU2 := Lib.hid (below_next HBU1.out HSP2.out)
       have HXU2 := Lib.hid ((HSP2.out.block wr.heap.size (lt20 HXU1.out)).trans HXU1.out)
       have c0 := cell20 (k := 0) HXU2.out
       have c1 := cell20 (k := 1) HXU2.out
       have c2 := cell20 (k := 2) HXU2.out
       have c3 := cell20 (k := 3) HXU2.out
       have c4 := cell20 (k := 4) HXU2.out
       have c5 := cell20 (k := 5) HXU2.out
       have hltX := lt20 HXU2.out
       simp only [List.getElem?_toArray, List.getElem?_cons_succ, List.getElem?_cons_zero] at c0 c1 c2 c3 c4 c5
       refine ⟨⟨c0, c1, c2, c3, c4, c5⟩, ?_⟩
       refine hld_take 4 rfl (by kernel_rfl) (by kernel_rfl) (by kernel_rfl) (fun _ _ _ h => h) rfl ⟨c0, c1, c2, c3, c4, c5⟩ (by rintro w' ⟨hw1, hw2, hw3, hw4, hw5, hw6⟩; go_simp; rfl) ?_
       simp only [Act.put, List.setIfInBounds_toArray, List.set_cons_succ, List.set_cons_zero]
       have HZ2 := Lib.hid ((HSP2.out.block _ (lt20 HZ1.out)).trans HZ1.out)
       have HZB := Lib.hid (show wr.heap.size ≤ V.heap.size ∧ wr.heap.size < V.heap.size from ⟨HBV.out.size, lt20 HXV.out⟩)
       have HVL := Lib.hid (lt20 HZ1.out)
       refine hld_bar 6 rfl (by kernel_rfl) rfl (fun K hK => ?_)
       have z0 := frozen20 (k := 0) HZ2.out
       have z1 := frozen20 (k := 1) HZ2.out
       have z2 := frozen20 (k := 2) HZ2.out
       have z3 := frozen20 (k := 3) HZ2.out
       have z4 := frozen20 (k := 4) HZ2.out
       have z5 := frozen20 (k := 5) HZ2.out
       have z6 := frozen20 (k := 6) HZ2.out
       have z7 := frozen20 (k := 7) HZ2.out
       have z8 := frozen20 (k := 8) HZ2.out
       have y0 := cell20 (k := 0) HZ2.out
       have y1 := cell20 (k := 1) HZ2.out
       have y2 := cell20 (k := 2) HZ2.out
       have y3 := cell20 (k := 3) HZ2.out
       have y4 := cell20 (k := 4) HZ2.out
       have y5 := cell20 (k := 5) HZ2.out
       have y6 := cell20 (k := 6) HZ2.out
       have y7 := cell20 (k := 7) HZ2.out
       have y8 := cell20 (k := 8) HZ2.out
       simp only [List.getElem?_toArray, List.getElem?_cons_succ, List.getElem?_cons_zero] at y0 y1 y2 y3 y4 y5 y6 y7 y8
       go_wp2_with fail
       obtain ⟨WZ, hWZ⟩ : ∃ u : World, u = ((((((((((U2).setCell ⟨V.heap.size, 0, none⟩ (.int .i64 3)).setCell ⟨V.heap.size, 1, none⟩ (.string y.path)).setCell ⟨V.heap.size, 2, none⟩ (.string ⟨#[]⟩)).setCell ⟨V.heap.size, 3, none⟩ (.string y.path)).setCell ⟨V.heap.size, 4, none⟩ (.int .i64 y.kind)).setCell ⟨V.heap.size, 5, none⟩ (.int .i64 y.mode)).setCell ⟨V.heap.size, 6, none⟩ (.int .i64 y.time)).setCell ⟨V.heap.size, 7, none⟩ (.slice a' y.data.length cap')).setCell ⟨V.heap.size, 8, none⟩ (.string y.link)) := ⟨_, rfl⟩
       rw [← hWZ]
       have HGZ := Lib.hid (show (U2).grownBy WZ (some (V.heap.size)) by rw [hWZ]; exact nine_grown)
       have HCZ := Lib.hid (show WZ.heap[V.heap.size]? = some (.cells #[.int .i64 3, .string y.path, .string ⟨#[]⟩, .string y.path, .int .i64 y.kind, .int .i64 y.mode, .int .i64 y.time, .slice a' y.data.length cap', .string y.link] 58 (0, 0)) by rw [hWZ]; exact nine20 HZ2.out)
       clear hWZ z0 z1 z2 z3 z4 z5 z6 z7 z8 y0 y1 y2 y3 y4 y5 y6 y7 y8 c0 c1 c2 c3 c4 c5 hltX
       have HBZ := Lib.hid (HBU2.out.grown HGZ.out HBU2.out.size (fun k e => by cases e; exact HZB.out.1))
       have HXZ := Lib.hid ((HGZ.out.block wr.heap.size (lt20 HXU2.out) (fun e => by have h1 := Option.some.inj e; have h2 := HZB.out.2; omega)).trans HXU2.out)
       obtain ⟨bz, hbz⟩ : ∃ bz, bz = V.heap.size := ⟨_, rfl⟩
       rw [← hbz] at HCZ HGZ ⊢
       have HZL := Lib.hid (show wr.heap.size < bz by have := HZB.out; omega)
       have c0 := cell20 (k := 0) HXZ.out
       have c1 := cell20 (k := 1) HXZ.out
       have c2 := cell20 (k := 2) HXZ.out
       have c3 := cell20 (k := 3) HXZ.out
       have c4 := cell20 (k := 4) HXZ.out
       have c5 := cell20 (k := 5) HXZ.out
       have hltX := lt20 HXZ.out
       simp only [List.getElem?_toArray, List.getElem?_cons_succ, List.getElem?_cons_zero] at c0 c1 c2 c3 c4 c5
       refine ⟨⟨c0, c1, c2, c3, c4, c5⟩, ?_⟩
       refine hld_done (by kernel_rfl) ?_
       have HDZ := Lib.hid (show DataAt (ApartB wr.heap.size bz WZ) WZ (.slice a' y.data.length cap') y.data by
        have hvl := HVL.out
        have h1 := HO2.out.kept HGZ.out (.inr (fun e => by have := (own_lt HO2.out e).1; omega))
        refine RowAt.mono (row_of_owns h1) (fun k hk hS => ⟨Nat.le_trans HBU1.out.size hS.1, hk, ?_⟩) (by omega)
        have := (own_lt HO2.out hS.2).1
        omega)
       clear hbz
       have hmvc := movable_any _ y _ WZ (HD.out.below HBZ.out)
       unfold entV contV at hmvc
       obtain ⟨cnt, hcnt⟩ : ∃ c, c = contE y := ⟨_, rfl⟩
       have HC := Lib.hid hcnt
       rw [← hcnt] at hmvc HCS
       clear hcnt
       obtain ⟨ck, cs⟩ := cnt
       simp only at hmvc HCS
       cases hmv : movB y with
       | false =>
        rw [hmv] at hmvc
        have HST := Lib.hid (show stepD a (stD a b k) y = ⟨(stD a b k).rem, (stD a b k).out ++ [⟨3, y.path, noPath, y⟩]⟩ by unfold stepD mateE; rw [HKF.out, hmv]; rfl)
        clear hmv
        go_upto_region 29 with (go_at_call 66; refine hmvc.mono ?_; rintro e4 w4' ⟨rfl, hb4'⟩; have HB4 := Lib.hid hb4'; clear hb4' hmvc c0 c1 c2 c3 c4 c5 hltX)
        obtain ⟨W5, hW5⟩ : ∃ W : World, W = w4'.alloc (.cells #[.int .i64 ck, .string cs] 108) := ⟨_, rfl⟩
        rw [← hW5]
        have HW5 := Lib.hid (show Below WZ.heap.size WZ W5 by rw [hW5]; exact HB4.out.alloc HB4.out.size _)
        clear hW5
        have HCU := Lib.hid ((HW5.out.block bz (lt20 HCZ.out)).trans HCZ.out)
        have HDU := Lib.hid (data_mono (HDZ.out.below HW5.out) (fun k hk => show ApartB wr.heap.size bz W5 k from ⟨hk.1, Nat.lt_of_lt_of_le hk.2.1 HW5.out.size, hk.2.2⟩))
        have HLU := Lib.hid (HLP.out.below (below_next HBZ.out HW5.out))
        have HLA := Lib.hid HLU.out.A
        have HLG := Lib.hid HLU.out.G
        have HLN := Lib.hid HLU.out.N
        have HLC := Lib.hid HLU.out.C
        have HLB := Lib.hid HLU.out.bel
        have HUL := Lib.hid (Nat.le_trans HBZ.out.size HW5.out.size)
        have HCOK := Lib.hid (show ChgOk ⟨3, y.path, noPath, y⟩ from ⟨rfl, HOK.out.pth, (show (⟨#[]⟩ : ByteArray).size ≤ maxLen by decide), HOK.out⟩)
        have e0 := cell20 (k := 0) HCU.out
        have e1 := cell20 (k := 1) HCU.out
        have e2 := cell20 (k := 2) HCU.out
        have e3 := cell20 (k := 3) HCU.out
        have e4 := cell20 (k := 4) HCU.out
        have e5 := cell20 (k := 5) HCU.out
        have e6 := cell20 (k := 6) HCU.out
        have e7 := cell20 (k := 7) HCU.out
        have e8 := cell20 (k := 8) HCU.out
        have hltZ := lt20 HCU.out
        simp only [List.getElem?_toArray, List.getElem?_cons_succ, List.getElem?_cons_zero] at e0 e1 e2 e3 e4 e5 e6 e7 e8
        have hrw9 := HLC.out.row
        have hyl := HYL.out
        have hbu9 := Nat.le_trans HLP.out.bb HUL.out
        go_wp2_with (at_builtin; go_must (refine wpList_app1p Tryz.appChgs rfl _ _ rfl B2 (.slice av ys.length cv) ys.length (chgsC ys) rfl W5 (chgC (.slice a' y.data.length cap') ⟨3, y.path, noPath, y⟩) _ rfl rfl chgC_one hrw9 (by omega) hbu9 ?_); intro v8 w8 hown8 hg8 _ hpl8; have HOWN8 := Lib.hid hown8; have HG8 := Lib.hid hg8; have HPL8 := Lib.hid hpl8; clear hown8 hg8 hpl8)
        go_roundw
        case rel =>
         exact ⟨k + 1, ys ++ [(.slice a' y.data.length cap', ⟨3, y.path, noPath, y⟩)], by omega, by go_num, HLP.out.push (rem' := (stD a b k).rem) (c := ⟨3, y.path, noPath, y⟩) (x := .slice a' y.data.length cap') (bz := bz) HLA.out HLG.out HLN.out HLC.out HLB.out HAT.out HST.out HOWN8.out HG8.out HPL8.out HDU.out HCOK.out HGS.out HSN.out HTN.out HWB.out HUL.out⟩
        case measure => simp [intOf]; omega
       | true =>
        rw [hmv] at hmvc
        have HMV := Lib.hid hmv
        clear hmv
        go_upto_region 24 with (go_at_call 66; refine hmvc.mono ?_; rintro e4 w4' ⟨rfl, hb4'⟩; have HB4 := Lib.hid hb4'; clear hb4' hmvc c0 c1 c2 c3 c4 c5 hltX)
        obtain ⟨W5, hW5⟩ : ∃ W : World, W = w4'.alloc (.cells #[.int .i64 ck, .string cs] 108) := ⟨_, rfl⟩
        rw [← hW5]
        have HW5 := Lib.hid (show Below WZ.heap.size WZ W5 by rw [hW5]; exact HB4.out.alloc HB4.out.size _)
        have HY5 := Lib.hid (show W5.heap[w4'.heap.size]? = some (.cells #[.int .i64 ck, .string cs] 108 (0, 0)) by rw [hW5]; exact new20 w4' _)
        clear hW5
        have HLU5 := Lib.hid (HLP.out.below (below_next HBZ.out HW5.out))
        have HCW := Lib.hid (show (Lit.int .i64 ck).wf = true by have h := cont_wf y; rw [← HC.out] at h; exact h)
        have HRV := Lib.hid (fun g (hg : g ∈ (stD a b k).rem) => HTA.out.val g ((gone_mem.1 ((stD_inv (b := b) HTA.out k).sub.subset hg)).1))
        have hmt := mate_names HRV.out HVE.out HMV.out
        rw [← HC.out] at hmt
        obtain ⟨vs, hlk, hrow⟩ := HLU5.out.N.get (c := (ck, cs)) HCS.out HCW.out
        unfold contV at hlk
        simp only at hlk
        obtain ⟨nl, hnl⟩ : ∃ nl, nl = namesG (stD a b k).rem (ck, cs) := ⟨_, rfl⟩
        rw [← hnl] at hrow hmt
        have HNL := Lib.hid hnl
        clear hnl
        have d0 := cell20 (k := 0) HY5.out
        have d1 := cell20 (k := 1) HY5.out
        have hltY := lt20 HY5.out
        simp only [List.getElem?_toArray, List.getElem?_cons_succ, List.getElem?_cons_zero] at d0 d1
        obtain ⟨hrl, asl, cps, rfl, hn1, hn2, hr0⟩ := hrow
        unfold maxLen at hn2
        cases nl with
        | nil =>
         have HST := Lib.hid (show stepD a (stD a b k) y = ⟨(stD a b k).rem, (stD a b k).out ++ [⟨3, y.path, noPath, y⟩]⟩ by
          have : mateE (stD a b k).rem y = none := by simpa using hmt
          unfold stepD
          rw [HKF.out, this]; rfl)
         simp only [List.length_nil] at hlk hn1
         clear hmt hrl hr0
         go_upto_region 29 with (fail)
         clear hlk d0 d1 hltY
         have HCU := Lib.hid ((HW5.out.block bz (lt20 HCZ.out)).trans HCZ.out)
         have HDU := Lib.hid (data_mono (HDZ.out.below HW5.out) (fun k hk => show ApartB wr.heap.size bz W5 k from ⟨hk.1, Nat.lt_of_lt_of_le hk.2.1 HW5.out.size, hk.2.2⟩))
         have HLU := Lib.hid (HLP.out.below (below_next HBZ.out HW5.out))
         have HLA := Lib.hid HLU.out.A
         have HLG := Lib.hid HLU.out.G
         have HLN := Lib.hid HLU.out.N
         have HLC := Lib.hid HLU.out.C
         have HLB := Lib.hid HLU.out.bel
         have HUL := Lib.hid (Nat.le_trans HBZ.out.size HW5.out.size)
         have HCOK := Lib.hid (show ChgOk ⟨3, y.path, noPath, y⟩ from ⟨rfl, HOK.out.pth, (show (⟨#[]⟩ : ByteArray).size ≤ maxLen by decide), HOK.out⟩)
         have e0 := cell20 (k := 0) HCU.out
         have e1 := cell20 (k := 1) HCU.out
         have e2 := cell20 (k := 2) HCU.out
         have e3 := cell20 (k := 3) HCU.out
         have e4 := cell20 (k := 4) HCU.out
         have e5 := cell20 (k := 5) HCU.out
         have e6 := cell20 (k := 6) HCU.out
         have e7 := cell20 (k := 7) HCU.out
         have e8 := cell20 (k := 8) HCU.out
         have hltZ := lt20 HCU.out
         simp only [List.getElem?_toArray, List.getElem?_cons_succ, List.getElem?_cons_zero] at e0 e1 e2 e3 e4 e5 e6 e7 e8
         have hrw9 := HLC.out.row
         have hyl := HYL.out
         have hbu9 := Nat.le_trans HLP.out.bb HUL.out
         go_wp2_with (at_builtin; go_must (refine wpList_app1p Tryz.appChgs rfl _ _ rfl B2 (.slice av ys.length cv) ys.length (chgsC ys) rfl W5 (chgC (.slice a' y.data.length cap') ⟨3, y.path, noPath, y⟩) _ rfl rfl chgC_one hrw9 (by omega) hbu9 ?_); intro v8 w8 hown8 hg8 _ hpl8; have HOWN8 := Lib.hid hown8; have HG8 := Lib.hid hg8; have HPL8 := Lib.hid hpl8; clear hown8 hg8 hpl8)
         go_roundw
         case rel =>
          exact ⟨k + 1, ys ++ [(.slice a' y.data.length cap', ⟨3, y.path, noPath, y⟩)], by omega, by go_num, HLP.out.push (rem' := (stD a b k).rem) (c := ⟨3, y.path, noPath, y⟩) (x := .slice a' y.data.length cap') (bz := bz) HLA.out HLG.out HLN.out HLC.out HLB.out HAT.out HST.out HOWN8.out HG8.out HPL8.out HDU.out HCOK.out HGS.out HSN.out HTN.out HWB.out HUL.out⟩
         case measure => simp [intOf]; omega
        | cons pn pns =>
         simp only [List.length_cons, List.map_cons] at hlk hn1 hr0
         have HST0 := Lib.hid hmt
         clear hmt hrl
         go_upto_region 25 with (fail)
         clear hlk d0 d1 hltY hr0 hn1 hn2
         have HCU5 := Lib.hid ((HW5.out.block bz (lt20 HCZ.out)).trans HCZ.out)
         have HBZ2 := Lib.hid (show B2 ≤ bz by have h1 := HZL.out; have h2 := HLP.out.bb; omega)
         have HCB := Lib.hid (show w4'.heap.size ≠ bz by have h1 := lt20 HCZ.out; have h2 := HB4.out.size; omega)
         have hgs := HGS.out
         have z0 := frozen20 (k := 0) HCU5.out
         have e0 := cell20 (k := 0) HCU5.out
         have e1 := cell20 (k := 1) HCU5.out
         have e2 := cell20 (k := 2) HCU5.out
         have e3 := cell20 (k := 3) HCU5.out
         have e4 := cell20 (k := 4) HCU5.out
         have e5 := cell20 (k := 5) HCU5.out
         have e6 := cell20 (k := 6) HCU5.out
         have e7 := cell20 (k := 7) HCU5.out
         have e8 := cell20 (k := 8) HCU5.out
         have hltZ := lt20 HCU5.out
         simp only [List.getElem?_toArray, List.getElem?_cons_succ, List.getElem?_cons_zero] at e0 e1 e2 e3 e4 e5 e6 e7 e8
         go_upto_region 26 with (fail)
         obtain ⟨W6, hW6⟩ : ∃ u : World, u = W5.setCell ⟨bz, 0, none⟩ (.int .i64 2) := ⟨_, rfl⟩
         rw [← hW6]
         have HG6 := Lib.hid (show W5.grownBy W6 (some bz) by rw [hW6]; exact grown_set bz 0 _)
         have HCU6 := Lib.hid (show W6.heap[bz]? = some (.cells #[.int .i64 2, .string y.path, .string ⟨#[]⟩, .string y.path, .int .i64 y.kind, .int .i64 y.mode, .int .i64 y.time, .slice a' y.data.length cap', .string y.link] 58 (0, 0)) by rw [hW6]; exact set20 HCU5.out _)
         clear hW6 z0 e0 e1 e2 e3 e4 e5 e6 e7 e8 hltZ
         have HY6 := Lib.hid ((HG6.out.block _ (lt20 HY5.out) (fun e => HCB.out (Option.some.inj e))).trans HY5.out)
         have HN6 := Lib.hid (HLU5.out.N.other HG6.out (by have := HBZ2.out; omega) (HTN.out _ HBZ2.out))
         obtain ⟨v6, hlk6, hrow6⟩ := HN6.out.get (c := (ck, cs)) HCS.out HCW.out
         obtain ⟨_, as6, cp6, rfl, hn6, hm6, h06⟩ := hrow6
         rw [← HNL.out] at hlk6 hn6 h06
         unfold contV at hlk6
         simp only [List.length_cons, List.map_cons] at hlk6 hn6 h06
         unfold maxLen at hm6
         rcases h06 with h06 | ⟨b6, o6, rfl, -, hcc6⟩
         ·omega
         have hc6 := hcc6 0 (.string pn) rfl
         simp only [Nat.add_zero] at hc6
         have hb6l := block_lt hc6
         have d0 := cell20 (k := 0) HY6.out
         have d1 := cell20 (k := 1) HY6.out
         have hltY := lt20 HY6.out
         simp only [List.getElem?_toArray, List.getElem?_cons_succ, List.getElem?_cons_zero] at d0 d1
         have z2 := frozen20 (k := 2) HCU6.out
         have e0 := cell20 (k := 0) HCU6.out
         have e1 := cell20 (k := 1) HCU6.out
         have e2 := cell20 (k := 2) HCU6.out
         have e3 := cell20 (k := 3) HCU6.out
         have e4 := cell20 (k := 4) HCU6.out
         have e5 := cell20 (k := 5) HCU6.out
         have e6 := cell20 (k := 6) HCU6.out
         have e7 := cell20 (k := 7) HCU6.out
         have e8 := cell20 (k := 8) HCU6.out
         have hltZ := lt20 HCU6.out
         simp only [List.getElem?_toArray, List.getElem?_cons_succ, List.getElem?_cons_zero] at e0 e1 e2 e3 e4 e5 e6 e7 e8
         clear hcc6
         go_upto_region 27 with (fail)
         obtain ⟨W7, hW7⟩ : ∃ u : World, u = W6.setCell ⟨bz, 2, none⟩ (.string pn) := ⟨_, rfl⟩
         rw [← hW7]
         have HG7 := Lib.hid (show W6.grownBy W7 (some bz) by rw [hW7]; exact grown_set bz 2 _)
         have HCU7 := Lib.hid (show W7.heap[bz]? = some (.cells #[.int .i64 2, .string y.path, .string pn, .string y.path, .int .i64 y.kind, .int .i64 y.mode, .int .i64 y.time, .slice a' y.data.length cap', .string y.link] 58 (0, 0)) by rw [hW7]; exact set20 HCU6.out _)
         clear hW7 z2 e0 e1 e2 e3 e4 e5 e6 e7 e8 hltZ d0 d1 hltY hc6 hlk6 hb6l hn6 hm6
         have HY7 := Lib.hid ((HG7.out.block _ (lt20 HY6.out) (fun e => HCB.out (Option.some.inj e))).trans HY6.out)
         have HN7 := Lib.hid (HN6.out.other HG7.out (by have := HBZ2.out; omega) (HTN.out _ HBZ2.out))
         obtain ⟨V7, hV7⟩ : ∃ V : World, V = W7.drew := ⟨_, rfl⟩
         have HD7 := Lib.hid (show Below W7.heap.size W7 V7 by rw [hV7]; exact (Below.refl _ _).drew)
         have HY8 := Lib.hid ((HD7.out.block _ (lt20 HY7.out)).trans HY7.out)
         have HN8 := Lib.hid (HN7.out.below HD7.out)
         obtain ⟨v8', hlk8, hrow8⟩ := HN8.out.get (c := (ck, cs)) HCS.out HCW.out
         have HRW8 := Lib.hid hrow8
         obtain ⟨_, as8, cp8, rfl, hn8, hm8, h08⟩ := hrow8
         rw [← HNL.out] at hlk8 hn8 h08 HRW8
         unfold contV at hlk8
         simp only [List.length_cons, List.map_cons] at hlk8 hn8 h08
         unfold maxLen at hm8
         rcases h08 with h08 | ⟨b8, o8, rfl, hT8, hcc8⟩
         ·omega
         have HT8 := Lib.hid (And.intro hT8 hcc8)
         clear hT8 hcc8
         refine wp_region_segs [some 6, none] (by kernel_rfl) (by kernel_rfl) (by kernel_rfl) ?_
         simp only [wpSegs, List.take_succ_cons, List.take_zero, List.drop_succ_cons, List.drop_zero]
         rw [← hV7]
         have d0 := cell20 (k := 0) HY8.out
         have d1 := cell20 (k := 1) HY8.out
         have hltY := lt20 HY8.out
         simp only [List.getElem?_toArray, List.getElem?_cons_succ, List.getElem?_cons_zero] at d0 d1
         clear hV7
         obtain ⟨as9, hsl, has9⟩ := slice_tail b8 o8 pns.length cp8 hn8
         have hsl9 := hsl V7
         have HRT := Lib.hid (row_tail (w := V7) (TS := TS) (cs := pns.map Value.string) (by rw [List.length_map]) hn8 (by unfold maxLen; omega) HT8.out.1 HT8.out.2 has9)
         clear hsl
         repeat (first | (refine seg_skip rfl ?_; simp only [Act.put, List.setIfInBounds_toArray, List.set_cons_succ, List.set_cons_zero]) | (refine seg_run rfl (fun K hK => ?_); go_simp; refine hK _ ?_; clear hK K))
         refine seg_nil ?_
         obtain ⟨w9, hu9, hn9, hg9⟩ := HN8.out.set (fun h => by have h1 := (HTS.out _ h).1; have h2 := HBS.out; omega) (c := (ck, cs)) HCS.out HCW.out HRT.out
         have HN9 := Lib.hid hn9
         have HG9 := Lib.hid hg9
         unfold contV at hu9
         simp only at hu9
         clear hn9 hg9 has9 hsl9 hlk8
         refine bar_run rfl (fun K hK => ?_)
         clear d0 d1 hltY hn8 hm8
         go_upto_region 28 with (fail)
         clear hu9
         have HCU9 := Lib.hid ((HG9.out.block bz (Nat.lt_of_lt_of_le (lt20 HCU7.out) HD7.out.size) (fun e => by have h1 := Option.some.inj e; have h2 := HBZ2.out; omega)).trans ((HD7.out.block bz (lt20 HCU7.out)).trans HCU7.out))
         have hS6 := HLU5.out.G.other HG6.out (by have := HBZ2.out; omega)
         have hS7 := hS6.other HG7.out (by have := HBZ2.out; omega)
         have HS9 := Lib.hid ((hS7.below HD7.out).other HG9.out (fun e => HNE.out.2.2.1 e.symm))
         clear hS6 hS7
         obtain ⟨g, hg, hgp⟩ : ∃ g, mateE (stD a b k).rem y = some g ∧ g.path = pn := by
          have := HST0.out
          cases hg : mateE (stD a b k).rem y with
          | none => rw [hg] at this; cases this
          | some g => rw [hg] at this; exact ⟨g, rfl, by simpa using this⟩
         have HGM := Lib.hid hg
         have HGP := Lib.hid hgp
         have hps : pn.size ≤ maxLen := by
          rw [← hgp, size_bl]
          have h1 := valid_size (vEnt_path (HRV.out g (mate_some hg).1))
          unfold maxLen; omega
         have HPS := Lib.hid hps
         clear hg hgp hps
         have HDEL := Lib.hid (fun ty => HS9.out.del boolTy HPS.out ty)
         have e0 := cell20 (k := 0) HCU9.out
         have e1 := cell20 (k := 1) HCU9.out
         have e2 := cell20 (k := 2) HCU9.out
         have e3 := cell20 (k := 3) HCU9.out
         have e4 := cell20 (k := 4) HCU9.out
         have e5 := cell20 (k := 5) HCU9.out
         have e6 := cell20 (k := 6) HCU9.out
         have e7 := cell20 (k := 7) HCU9.out
         have e8 := cell20 (k := 8) HCU9.out
         have hltZ := lt20 HCU9.out
         simp only [List.getElem?_toArray, List.getElem?_cons_succ, List.getElem?_cons_zero] at e0 e1 e2 e3 e4 e5 e6 e7 e8
         go_upto_region 29 with (at_delete; go_must (refine wpList_delRun rfl _ _ _ _ rfl _ _ rfl rfl (HDEL.out _) ?_); rintro w10 ⟨hm3, hg3⟩; have HS10 := Lib.hid hm3; have HG10 := Lib.hid hg3; clear hm3 hg3 e0 e1 e2 e3 e4 e5 e6 e7 e8 hltZ)
         clear HDEL
         have hgs := HGS.out
         have hb2 := HBZ2.out
         have hlpb := HLP.out.bb
         have hk10 : ∀ k, B2 ≤ k → k ≠ bz → k < W5.heap.size → w10.heap[k]? = W5.heap[k]? := fun k h1 h2 h3 => by
          have s6 := HG6.out.size
          have s7 := HG7.out.size
          have s8 := HD7.out.size
          have s9 := HG9.out.size
          have q6 := HG6.out.block k h3 (fun e => h2 (Option.some.inj e))
          have q7 := HG7.out.block k (by omega) (fun e => h2 (Option.some.inj e))
          have q8 := HD7.out.block k (by omega)
          have q9 := HG9.out.block k (by omega) (fun e => by have := Option.some.inj e; omega)
          have q10 := HG10.out.block k (by omega) (fun e => by have := Option.some.inj e; omega)
          rw [q10, q9, q8, q7, q6]
         have hsz10 : W5.heap.size ≤ w10.heap.size := by
          have s6 := HG6.out.size
          have s7 := HG7.out.size
          have s8 := HD7.out.size
          have s9 := HG9.out.size
          have s10 := HG10.out.size
          omega
         have hbw5 := below_next HBZ.out HW5.out
         have HCU := Lib.hid ((HG10.out.block bz (lt20 HCU9.out) (fun e => by have := Option.some.inj e; omega)).trans HCU9.out)
         have HDU := Lib.hid (data_keep (S' := ApartB wr.heap.size bz w10) (HDZ.out.below HW5.out) (fun k hS hlt => hk10 k (Nat.le_trans hlpb hS.1) hS.2.2 hlt) (fun k hS hlt => ⟨hS.1, Nat.lt_of_lt_of_le hlt hsz10, hS.2.2⟩))
         have HLA := Lib.hid (((((HLU5.out.A.other HG6.out (by omega) (HSN.out _ hb2)).other HG7.out (by omega) (HSN.out _ hb2)).below HD7.out).other HG9.out HNE.out.2.2.2.1 (HSF.out.1 _ HGB.out.2)).other HG10.out HNE.out.1 (HSF.out.1 _ HGB.out.1))
         have HLG := Lib.hid (show SetR w10 gb (hasE (dropE (stD a b k).rem pn)) by rw [has_drop]; exact HS10.out)
         have HLN := Lib.hid (show SrcT TS w10 sb (namesG (dropE (stD a b k).rem pn)) by
          have hN := HN9.out.other HG10.out HNE.out.2.2.1 (fun h => by have h1 := (HTS.out _ h).1; have h2 := HBS.out; omega)
          have hfe : (fun d => if d = (ck, cs) then pns else namesG (stD a b k).rem d) = namesG (dropE (stD a b k).rem pn) := by
           funext d
           rw [← HGP.out, names_drop ((stD_inv (b := b) HTA.out k).rem_nodup HTA.out) HRV.out HVE.out HGM.out d, ← HC.out, ← HNL.out]
           rfl
          rw [← hfe]
          exact hN)
         have HLC := Lib.hid (HLP.out.C.keep (w' := w10) (fun k h1 h2 => (hk10 k h1 (by have := HZL.out; omega) (Nat.lt_of_lt_of_le h2 hbw5.size)).trans (hbw5.block k h2)) (Nat.le_trans hbw5.size hsz10))
         have HLB := Lib.hid (show Below w.heap.size w w10 by
          have h5 := HLU5.out.bel
          have h6 := h5.grown HG6.out h5.size (fun k e => by cases e; have := HWB.out; omega)
          have h7 := h6.grown HG7.out h6.size (fun k e => by cases e; have := HWB.out; omega)
          have h8 := below_next h7 HD7.out
          have h9 := h8.grown HG9.out h8.size (fun k e => by cases e; exact HGB.out.2)
          exact h9.grown HG10.out h9.size (fun k e => by cases e; exact HGB.out.1))
         have HUL := Lib.hid (Nat.le_trans hbw5.size hsz10)
         have HCOK := Lib.hid (show ChgOk ⟨2, y.path, pn, y⟩ from ⟨rfl, HOK.out.pth, HPS.out, HOK.out⟩)
         have HST := Lib.hid (show stepD a (stD a b k) y = ⟨dropE (stD a b k).rem pn, (stD a b k).out ++ [⟨2, y.path, pn, y⟩]⟩ by
          unfold stepD
          rw [HKF.out, HGM.out, ← HGP.out]; rfl)
         clear hk10 hsz10 hbw5 hb2 hlpb
         have e0 := cell20 (k := 0) HCU.out
         have e1 := cell20 (k := 1) HCU.out
         have e2 := cell20 (k := 2) HCU.out
         have e3 := cell20 (k := 3) HCU.out
         have e4 := cell20 (k := 4) HCU.out
         have e5 := cell20 (k := 5) HCU.out
         have e6 := cell20 (k := 6) HCU.out
         have e7 := cell20 (k := 7) HCU.out
         have e8 := cell20 (k := 8) HCU.out
         have hltZ := lt20 HCU.out
         simp only [List.getElem?_toArray, List.getElem?_cons_succ, List.getElem?_cons_zero] at e0 e1 e2 e3 e4 e5 e6 e7 e8
         have hrw9 := HLC.out.row
         have hyl := HYL.out
         have hbu9 := Nat.le_trans HLP.out.bb HUL.out
         go_wp2_with (at_builtin; go_must (refine wpList_app1p Tryz.appChgs rfl _ _ rfl B2 (.slice av ys.length cv) ys.length (chgsC ys) rfl w10 (chgC (.slice a' y.data.length cap') ⟨2, y.path, pn, y⟩) _ rfl rfl chgC_one hrw9 (by omega) hbu9 ?_); intro v8 w8 hown8 hg8 _ hpl8; have HOWN8 := Lib.hid hown8; have HG8 := Lib.hid hg8; have HPL8 := Lib.hid hpl8; clear hown8 hg8 hpl8)
         go_roundw
         case rel =>
          exact ⟨k + 1, ys ++ [(.slice a' y.data.length cap', ⟨2, y.path, pn, y⟩)], by omega, by go_num, HLP.out.push (rem' := (dropE (stD a b k).rem pn)) (c := ⟨2, y.path, pn, y⟩) (x := .slice a' y.data.length cap') (bz := bz) HLA.out HLG.out HLN.out HLC.out HLB.out HAT.out HST.out HOWN8.out HG8.out HPL8.out HDU.out HCOK.out HGS.out HSN.out HTN.out HWB.out HUL.out⟩
         case measure => simp [intOf]; omega
     | some f =>
      have HF := Lib.hid hf
      obtain ⟨vf, hlk, hdf, -⟩ := (HLP.out.A.below HW1.out).hit mapTy hf true
      have HDF := Lib.hid hdf
      obtain ⟨af, cf, rfl, hdf1, hdf2⟩ := hdf.slice
      unfold maxLen at hdf2
      unfold entV at hlk
      simp only [if_true] at hlk
      clear hdf
      by_cases hkd : f.kind = y.kind
      ·have HKF := Lib.hid (show keptE a y = true by unfold keptE; rw [hf]; simp [hkd])
       have HKD := Lib.hid hkd
       rw [hkd] at hlk
       clear hf hkd
       go_upto_region 20 with (fail)
       obtain ⟨W2, hW2⟩ : ∃ W : World, W = W1.alloc (.cells #[.string f.path, .int .i64 y.kind, .int .i64 f.mode, .int .i64 f.time, .slice af f.data.length cf, .string f.link] 48) := ⟨_, rfl⟩
       rw [← hW2]
       have hb2 : Below W1.heap.size W1 W2 := by rw [hW2]; exact (Below.refl _ _).alloc (Nat.le_refl _) _
       have HW2 := Lib.hid (below_next HW1.out hb2)
       have HX2 := Lib.hid ((hb2.block wr.heap.size (lt20 HX1.out)).trans HX1.out)
       have HF2 := Lib.hid (show W2.heap[W1.heap.size]? = some (.cells #[.string f.path, .int .i64 y.kind, .int .i64 f.mode, .int .i64 f.time, .slice af f.data.length cf, .string f.link] 48 (0, 0)) by rw [hW2]; exact new20 W1 _)
       have HDF2 := Lib.hid (HDF.out.below hb2)
       clear hW2 hb2 c0 c1 c2 c3 c4 c5 hltX hlk
       have c0 := cell20 (k := 0) HX2.out
       have c1 := cell20 (k := 1) HX2.out
       have c2 := cell20 (k := 2) HX2.out
       have c3 := cell20 (k := 3) HX2.out
       have c4 := cell20 (k := 4) HX2.out
       have c5 := cell20 (k := 5) HX2.out
       have hltX := lt20 HX2.out
       simp only [List.getElem?_toArray, List.getElem?_cons_succ, List.getElem?_cons_zero] at c0 c1 c2 c3 c4 c5
       have d0 := cell20 (k := 0) HF2.out
       have d1 := cell20 (k := 1) HF2.out
       have d2 := cell20 (k := 2) HF2.out
       have d3 := cell20 (k := 3) HF2.out
       have d4 := cell20 (k := 4) HF2.out
       have d5 := cell20 (k := 5) HF2.out
       have hltF := lt20 HF2.out
       simp only [List.getElem?_toArray, List.getElem?_cons_succ, List.getElem?_cons_zero] at d0 d1 d2 d3 d4 d5
       have hC := sameT_any _ _ f y (.slice af f.data.length cf) (.slice a1 y.data.length cap1) W2 HDF2.out (HD.out.below HW2.out)
       unfold entV at hC
       rw [HKD.out] at hC
       by_cases hsm : f = y
       ·rw [decide_eq_true hsm] at hC
        have HST := Lib.hid (show stD a b (k + 1) = stD a b k by rw [stD_succ HAT.out]; unfold stepD; rw [HKF.out, HF.out, hsm]; simp)
        clear hsm
        go_wp2_with (go_at_call 67; refine hC.mono ?_; rintro e4 w4' ⟨rfl, hb4'⟩; have HB4 := Lib.hid hb4'; clear hb4' hC c0 c1 c2 c3 c4 c5 hltX d0 d1 d2 d3 d4 d5 hltF)
        go_roundw
        case rel =>
         exact ⟨k + 1, ys, by omega, by go_num, (HLP.out.below (below_next HW2.out HB4.out)).stay HST.out⟩
        case measure => simp [intOf]; omega
       ·rw [decide_eq_false hsm] at hC
        have HST := Lib.hid (show stepD a (stD a b k) y = ⟨(stD a b k).rem, (stD a b k).out ++ [⟨4, y.path, noPath, y⟩]⟩ by
         unfold stepD; rw [HKF.out, HF.out, if_pos rfl, if_neg (fun e => hsm (Option.some.inj e))])
        clear hsm
        go_upto_region 21 with (go_at_call 67; refine hC.mono ?_; rintro e4 w4' ⟨rfl, hb4'⟩; have HB4 := Lib.hid hb4'; clear hb4' hC c0 c1 c2 c3 c4 c5 hltX d0 d1 d2 d3 d4 d5 hltF)
        have HW4 := Lib.hid (below_next HW2.out HB4.out)
        have HX4 := Lib.hid ((HB4.out.block wr.heap.size (lt20 HX2.out)).trans HX2.out)
        refine hld_start (fun w' => w'.cell? ⟨wr.heap.size, 0, none⟩ = some (.string y.path) ∧ w'.cell? ⟨wr.heap.size, 1, none⟩ = some (.int .i64 y.kind) ∧ w'.cell? ⟨wr.heap.size, 2, none⟩ = some (.int .i64 y.mode) ∧ w'.cell? ⟨wr.heap.size, 3, none⟩ = some (.int .i64 y.time) ∧ w'.cell? ⟨wr.heap.size, 4, none⟩ = some (.slice a1 y.data.length cap1) ∧ w'.cell? ⟨wr.heap.size, 5, none⟩ = some (.string y.link)) (by kernel_rfl) ?_
        obtain ⟨V, hV⟩ : ∃ V : World, V = (w4').drew := ⟨_, rfl⟩
        rw [← hV]
        have hbv : Below (w4').heap.size w4' V := by rw [hV]; exact (Below.refl _ _).drew
        have HBV := Lib.hid (below_next HW4.out hbv)
        have HXV := Lib.hid ((hbv.block wr.heap.size (lt20 HX4.out)).trans HX4.out)
        clear hV hbv
        have c0 := cell20 (k := 0) HXV.out
        have c1 := cell20 (k := 1) HXV.out
        have c2 := cell20 (k := 2) HXV.out
        have c3 := cell20 (k := 3) HXV.out
        have c4 := cell20 (k := 4) HXV.out
        have c5 := cell20 (k := 5) HXV.out
        have hltX := lt20 HXV.out
        simp only [List.getElem?_toArray, List.getElem?_cons_succ, List.getElem?_cons_zero] at c0 c1 c2 c3 c4 c5
        refine hld_take 0 rfl (by kernel_rfl) (by kernel_rfl) (by kernel_rfl) (fun _ _ _ h => h) rfl ⟨c0, c1, c2, c3, c4, c5⟩ (by rintro w' ⟨hw1, hw2, hw3, hw4, hw5, hw6⟩; go_simp; rfl) ?_
        simp only [Act.put, List.setIfInBounds_toArray, List.set_cons_succ, List.set_cons_zero]
        refine hld_take 1 rfl (by kernel_rfl) (by kernel_rfl) (by kernel_rfl) (fun _ _ _ h => h) rfl ⟨c0, c1, c2, c3, c4, c5⟩ (by rintro w' ⟨hw1, hw2, hw3, hw4, hw5, hw6⟩; go_simp; rfl) ?_
        simp only [Act.put, List.setIfInBounds_toArray, List.set_cons_succ, List.set_cons_zero]
        refine hld_take 2 rfl (by kernel_rfl) (by kernel_rfl) (by kernel_rfl) (fun _ _ _ h => h) rfl ⟨c0, c1, c2, c3, c4, c5⟩ (by rintro w' ⟨hw1, hw2, hw3, hw4, hw5, hw6⟩; go_simp; rfl) ?_
        simp only [Act.put, List.setIfInBounds_toArray, List.set_cons_succ, List.set_cons_zero]
        refine hld_take 3 rfl (by kernel_rfl) (by kernel_rfl) (by kernel_rfl) (fun _ _ _ h => h) rfl ⟨c0, c1, c2, c3, c4, c5⟩ (by rintro w' ⟨hw1, hw2, hw3, hw4, hw5, hw6⟩; go_simp; rfl) ?_
        simp only [Act.put, List.setIfInBounds_toArray, List.set_cons_succ, List.set_cons_zero]
        refine hld_bar 4 rfl (by kernel_rfl) rfl (fun K hK => ?_)
        go_wp2_with (go_at_call 68; refine (copiedT_flat _ y _ _ (HD.out.below HBV.out) (vEnt_data HVE.out)).mono ?_; rintro e9 U1 ⟨a', cap', rfl, ho9, hb9⟩; have HO1 := Lib.hid ho9; have HSP1 := Lib.hid hb9; clear ho9 hb9 c0 c1 c2 c3 c4 c5 hltX)
        have HBU1 := Lib.hid (below_next HBV.out HSP1.out)
        have HXU1 := Lib.hid ((HSP1.out.block wr.heap.size (lt20 HXV.out)).trans HXV.out)
        have c0 := cell20 (k := 0) HXU1.out
        have c1 := cell20 (k := 1) HXU1.out
        have c2 := cell20 (k := 2) HXU1.out
        have c3 := cell20 (k := 3) HXU1.out
        have c4 := cell20 (k := 4) HXU1.out
        have c5 := cell20 (k := 5) HXU1.out
        have hltX := lt20 HXU1.out
        simp only [List.getElem?_toArray, List.getElem?_cons_succ, List.getElem?_cons_zero] at c0 c1 c2 c3 c4 c5
        refine ⟨⟨c0, c1, c2, c3, c4, c5⟩, ?_⟩
        refine hld_take 5 rfl (by kernel_rfl) (by kernel_rfl) (by kernel_rfl) (fun _ _ _ h => h) rfl ⟨c0, c1, c2, c3, c4, c5⟩ (by rintro w' ⟨hw1, hw2, hw3, hw4, hw5, hw6⟩; go_simp; rfl) ?_
        simp only [Act.put, List.setIfInBounds_toArray, List.set_cons_succ, List.set_cons_zero]
        refine hld_bar 6 rfl (by kernel_rfl) rfl (fun K hK => ?_)
        have HUA := Lib.hid (alloc20 HXU1.out (.cells (chgC (.slice a' y.data.length cap') ⟨4, y.path, noPath, y⟩).toArray 58))
        clear c0 c1 c2 c3 c4 c5 hltX
        go_wp2_with fail
        have c0 := cell20 (k := 0) HUA.out
        have c1 := cell20 (k := 1) HUA.out
        have c2 := cell20 (k := 2) HUA.out
        have c3 := cell20 (k := 3) HUA.out
        have c4 := cell20 (k := 4) HUA.out
        have c5 := cell20 (k := 5) HUA.out
        have hltX := lt20 HUA.out
        simp only [List.getElem?_toArray, List.getElem?_cons_succ, List.getElem?_cons_zero] at c0 c1 c2 c3 c4 c5
        refine ⟨⟨c0, c1, c2, c3, c4, c5⟩, ?_⟩
        refine hld_bar 7 rfl (by kernel_rfl) rfl (fun K hK => ?_)
        clear c0 c1 c2 c3 c4 c5 hltX
        have HLU := Lib.hid (HLP.out.below HBU1.out)
        have hrw9 := HLU.out.C.row
        have hyl := HYL.out
        have hbu9 := HLU.out.bb
        go_wp2_with (at_builtin; go_must (refine wpList_app1p Tryz.appChgs rfl _ _ rfl B2 (.slice av ys.length cv) ys.length (chgsC ys) rfl U1 (chgC (.slice a' y.data.length cap') ⟨4, y.path, noPath, y⟩) _ rfl rfl chgC_one hrw9 (by omega) hbu9 ?_); intro v8 w8 hown8 hg8 _ hpl8; have HOWN8 := Lib.hid hown8; have HG8 := Lib.hid hg8; have HPL8 := Lib.hid hpl8; clear hown8 hg8 hpl8)
        have HX8 := Lib.hid ((HG8.out.block wr.heap.size (lt20 HXU1.out) (fun e => by have h1 := (own_lt HLP.out.C.row e.symm).2; omega)).trans HXU1.out)
        have c0 := cell20 (k := 0) HX8.out
        have c1 := cell20 (k := 1) HX8.out
        have c2 := cell20 (k := 2) HX8.out
        have c3 := cell20 (k := 3) HX8.out
        have c4 := cell20 (k := 4) HX8.out
        have c5 := cell20 (k := 5) HX8.out
        have hltX := lt20 HX8.out
        simp only [List.getElem?_toArray, List.getElem?_cons_succ, List.getElem?_cons_zero] at c0 c1 c2 c3 c4 c5
        refine ⟨⟨c0, c1, c2, c3, c4, c5⟩, ?_⟩
        refine hld_take 8 rfl (by kernel_rfl) (by kernel_rfl) (by kernel_rfl) (fun _ _ _ h => h) rfl ⟨c0, c1, c2, c3, c4, c5⟩ (by rintro w' ⟨hw1, hw2, hw3, hw4, hw5, hw6⟩; go_simp; try rfl) ?_
        simp only [Act.put, List.setIfInBounds_toArray, List.set_cons_succ, List.set_cons_zero]
        refine hld_done (by kernel_rfl) ?_
        clear c0 c1 c2 c3 c4 c5 hltX
        go_wp2_with fail
        go_roundw
        case rel =>
         have hbx : DataAt (ApartB wr.heap.size U1.heap.size U1) U1 (.slice a' y.data.length cap') y.data :=
          RowAt.mono (row_of_owns HO1.out) (fun k hk hS => ⟨Nat.le_trans HBV.out.size hS.1, hk, by omega⟩) (by omega)
         exact ⟨k + 1, ys ++ [(.slice a' y.data.length cap', ⟨4, y.path, noPath, y⟩)], by omega, by go_num, HLP.out.push (rem' := (stD a b k).rem) (c := ⟨4, y.path, noPath, y⟩) (x := .slice a' y.data.length cap') (bz := U1.heap.size) HLU.out.A HLU.out.G HLU.out.N HLU.out.C HLU.out.bel HAT.out HST.out HOWN8.out HG8.out HPL8.out hbx ⟨rfl, HOK.out.pth, (show (⟨#[]⟩ : ByteArray).size ≤ maxLen by decide), HOK.out⟩ HGS.out HSN.out HTN.out HWB.out HBU1.out.size⟩
        case measure => simp [intOf]; omega
      ·have HKF := Lib.hid (show keptE a y = false by unfold keptE; rw [hf]; simp [hkd])
       clear hf
       go_upto_region 22 with (fail)
       clear hkd
       obtain ⟨W2, hW2⟩ : ∃ W : World, W = W1.alloc (.cells #[.string f.path, .int .i64 f.kind, .int .i64 f.mode, .int .i64 f.time, .slice af f.data.length cf, .string f.link] 48) := ⟨_, rfl⟩
       rw [← hW2]
       have hb2 : Below W1.heap.size W1 W2 := by rw [hW2]; exact (Below.refl _ _).alloc (Nat.le_refl _) _
       have HW2 := Lib.hid (below_next HW1.out hb2)
       have HX2 := Lib.hid ((hb2.block wr.heap.size (lt20 HX1.out)).trans HX1.out)
       clear hW2 hb2 c0 c1 c2 c3 c4 c5 hltX hlk
       refine hld_start (fun w' => w'.cell? ⟨wr.heap.size, 0, none⟩ = some (.string y.path) ∧ w'.cell? ⟨wr.heap.size, 1, none⟩ = some (.int .i64 y.kind) ∧ w'.cell? ⟨wr.heap.size, 2, none⟩ = some (.int .i64 y.mode) ∧ w'.cell? ⟨wr.heap.size, 3, none⟩ = some (.int .i64 y.time) ∧ w'.cell? ⟨wr.heap.size, 4, none⟩ = some (.slice a1 y.data.length cap1) ∧ w'.cell? ⟨wr.heap.size, 5, none⟩ = some (.string y.link)) (by kernel_rfl) ?_
       obtain ⟨V, hV⟩ : ∃ V : World, V = (W2).drew := ⟨_, rfl⟩
       rw [← hV]
       have hbv : Below (W2).heap.size W2 V := by rw [hV]; exact (Below.refl _ _).drew
       have HBV := Lib.hid (below_next HW2.out hbv)
       have HXV := Lib.hid ((hbv.block wr.heap.size (lt20 HX2.out)).trans HX2.out)
       clear hV hbv
       have c0 := cell20 (k := 0) HXV.out
       have c1 := cell20 (k := 1) HXV.out
       have c2 := cell20 (k := 2) HXV.out
       have c3 := cell20 (k := 3) HXV.out
       have c4 := cell20 (k := 4) HXV.out
       have c5 := cell20 (k := 5) HXV.out
       have hltX := lt20 HXV.out
       simp only [List.getElem?_toArray, List.getElem?_cons_succ, List.getElem?_cons_zero] at c0 c1 c2 c3 c4 c5
       refine hld_take 0 rfl (by kernel_rfl) (by kernel_rfl) (by kernel_rfl) (fun _ _ _ h => h) rfl ⟨c0, c1, c2, c3, c4, c5⟩ (by rintro w' ⟨hw1, hw2, hw3, hw4, hw5, hw6⟩; go_simp; rfl) ?_
       simp only [Act.put, List.setIfInBounds_toArray, List.set_cons_succ, List.set_cons_zero]
       refine hld_take 1 rfl (by kernel_rfl) (by kernel_rfl) (by kernel_rfl) (fun _ _ _ h => h) rfl ⟨c0, c1, c2, c3, c4, c5⟩ (by rintro w' ⟨hw1, hw2, hw3, hw4, hw5, hw6⟩; go_simp; rfl) ?_
       simp only [Act.put, List.setIfInBounds_toArray, List.set_cons_succ, List.set_cons_zero]
       refine hld_take 2 rfl (by kernel_rfl) (by kernel_rfl) (by kernel_rfl) (fun _ _ _ h => h) rfl ⟨c0, c1, c2, c3, c4, c5⟩ (by rintro w' ⟨hw1, hw2, hw3, hw4, hw5, hw6⟩; go_simp; rfl) ?_
       simp only [Act.put, List.setIfInBounds_toArray, List.set_cons_succ, List.set_cons_zero]
       refine Hld.of (wpAnyH_all (rs := [3, 5]) (by kernel_rfl) (by simp) fun jj hjj => ?_)
       simp only [List.mem_cons, List.not_mem_nil, or_false] at hjj
       rcases hjj with rfl | rfl
       ·refine hld_opr 3 rfl rfl (fun K hK => ?_)
        go_wp2_with (go_at_call 68; refine (copiedT_flat _ y _ _ (HD.out.below HBV.out) (vEnt_data HVE.out)).mono ?_; rintro e9 U1 ⟨a', cap', rfl, ho9, hb9⟩; have HO1 := Lib.hid ho9; have HSP1 := Lib.hid hb9; clear ho9 hb9 c0 c1 c2 c3 c4 c5 hltX)
        have HBU1 := Lib.hid (below_next HBV.out HSP1.out)
        have HXU1 := Lib.hid ((HSP1.out.block wr.heap.size (lt20 HXV.out)).trans HXV.out)
        have c0 := cell20 (k := 0) HXU1.out
        have c1 := cell20 (k := 1) HXU1.out
        have c2 := cell20 (k := 2) HXU1.out
        have c3 := cell20 (k := 3) HXU1.out
        have c4 := cell20 (k := 4) HXU1.out
        have c5 := cell20 (k := 5) HXU1.out
        have hltX := lt20 HXU1.out
        simp only [List.getElem?_toArray, List.getElem?_cons_succ, List.getElem?_cons_zero] at c0 c1 c2 c3 c4 c5
        refine ⟨⟨c0, c1, c2, c3, c4, c5⟩, ?_⟩
        refine hld_take 4 rfl (by kernel_rfl) (by kernel_rfl) (by kernel_rfl) (fun _ _ _ h => h) rfl ⟨c0, c1, c2, c3, c4, c5⟩ (by rintro w' ⟨hw1, hw2, hw3, hw4, hw5, hw6⟩; go_simp; rfl) ?_
        simp only [Act.put, List.setIfInBounds_toArray, List.set_cons_succ, List.set_cons_zero]
        refine hld_bar 5 rfl (by kernel_rfl) rfl (fun K hK => ?_)
        go_wp2_with fail
        obtain ⟨U2, hU⟩ : ∃ u : World, u = (U1).alloc (.cells #[.int .i64 0, .string ⟨#[]⟩, .string ⟨#[]⟩, .string ⟨#[]⟩, .int .i64 0, .int .i64 0, .int .i64 0, .slice none 0 0, .string ⟨#[]⟩] 58) := ⟨_, rfl⟩
        rw [← hU]
        have HSP2 := Lib.hid (show Below (U1).heap.size U1 U2 by rw [hU]; exact (Below.refl _ _).alloc (Nat.le_refl _) _)
        have HZ2 := Lib.hid (show (U2).heap[(U1).heap.size]? = some (.cells #[.int .i64 0, .string ⟨#[]⟩, .string ⟨#[]⟩, .string ⟨#[]⟩, .int .i64 0, .int .i64 0, .int .i64 0, .slice none 0 0, .string ⟨#[]⟩] 58 (0, 0)) by rw [hU]; exact new20 _ _)
        have HBU2 := Lib.hid (below_next HBU1.out HSP2.out)
        have HXU2 := Lib.hid ((HSP2.out.block wr.heap.size (lt20 HXU1.out)).trans HXU1.out)
        clear hU c0 c1 c2 c3 c4 c5 hltX
        have c0 := cell20 (k := 0) HXU2.out
        have c1 := cell20 (k := 1) HXU2.out
        have c2 := cell20 (k := 2) HXU2.out
        have c3 := cell20 (k := 3) HXU2.out
        have c4 := cell20 (k := 4) HXU2.out
        have c5 := cell20 (k := 5) HXU2.out
        have hltX := lt20 HXU2.out
        simp only [List.getElem?_toArray, List.getElem?_cons_succ, List.getElem?_cons_zero] at c0 c1 c2 c3 c4 c5
        refine ⟨⟨c0, c1, c2, c3, c4, c5⟩, ?_⟩
        have HZB := Lib.hid (show wr.heap.size ≤ U1.heap.size ∧ wr.heap.size < U1.heap.size from ⟨HBU1.out.size, lt20 HXU1.out⟩)
        refine hld_bar 6 rfl (by kernel_rfl) rfl (fun K hK => ?_)
        have z0 := frozen20 (k := 0) HZ2.out
        have z1 := frozen20 (k := 1) HZ2.out
        have z2 := frozen20 (k := 2) HZ2.out
        have z3 := frozen20 (k := 3) HZ2.out
        have z4 := frozen20 (k := 4) HZ2.out
        have z5 := frozen20 (k := 5) HZ2.out
        have z6 := frozen20 (k := 6) HZ2.out
        have z7 := frozen20 (k := 7) HZ2.out
        have z8 := frozen20 (k := 8) HZ2.out
        have y0 := cell20 (k := 0) HZ2.out
        have y1 := cell20 (k := 1) HZ2.out
        have y2 := cell20 (k := 2) HZ2.out
        have y3 := cell20 (k := 3) HZ2.out
        have y4 := cell20 (k := 4) HZ2.out
        have y5 := cell20 (k := 5) HZ2.out
        have y6 := cell20 (k := 6) HZ2.out
        have y7 := cell20 (k := 7) HZ2.out
        have y8 := cell20 (k := 8) HZ2.out
        simp only [List.getElem?_toArray, List.getElem?_cons_succ, List.getElem?_cons_zero] at y0 y1 y2 y3 y4 y5 y6 y7 y8
        go_wp2_with fail
        obtain ⟨WZ, hWZ⟩ : ∃ u : World, u = ((((((((((U2).setCell ⟨U1.heap.size, 0, none⟩ (.int .i64 3)).setCell ⟨U1.heap.size, 1, none⟩ (.string y.path)).setCell ⟨U1.heap.size, 2, none⟩ (.string ⟨#[]⟩)).setCell ⟨U1.heap.size, 3, none⟩ (.string y.path)).setCell ⟨U1.heap.size, 4, none⟩ (.int .i64 y.kind)).setCell ⟨U1.heap.size, 5, none⟩ (.int .i64 y.mode)).setCell ⟨U1.heap.size, 6, none⟩ (.int .i64 y.time)).setCell ⟨U1.heap.size, 7, none⟩ (.slice a' y.data.length cap')).setCell ⟨U1.heap.size, 8, none⟩ (.string y.link)) := ⟨_, rfl⟩
        rw [← hWZ]
        have HGZ := Lib.hid (show (U2).grownBy WZ (some (U1.heap.size)) by rw [hWZ]; exact nine_grown)
        have HCZ := Lib.hid (show WZ.heap[U1.heap.size]? = some (.cells #[.int .i64 3, .string y.path, .string ⟨#[]⟩, .string y.path, .int .i64 y.kind, .int .i64 y.mode, .int .i64 y.time, .slice a' y.data.length cap', .string y.link] 58 (0, 0)) by rw [hWZ]; exact nine20 HZ2.out)
        clear hWZ z0 z1 z2 z3 z4 z5 z6 z7 z8 y0 y1 y2 y3 y4 y5 y6 y7 y8 c0 c1 c2 c3 c4 c5 hltX
        have HBZ := Lib.hid (HBU2.out.grown HGZ.out HBU2.out.size (fun k e => by cases e; exact HZB.out.1))
        have HXZ := Lib.hid ((HGZ.out.block wr.heap.size (lt20 HXU2.out) (fun e => by have h1 := Option.some.inj e; have h2 := HZB.out.2; omega)).trans HXU2.out)
        obtain ⟨bz, hbz⟩ : ∃ bz, bz = U1.heap.size := ⟨_, rfl⟩
        rw [← hbz] at HCZ HGZ ⊢
        have HZL := Lib.hid (show wr.heap.size < bz by have := HZB.out; omega)
        have c0 := cell20 (k := 0) HXZ.out
        have c1 := cell20 (k := 1) HXZ.out
        have c2 := cell20 (k := 2) HXZ.out
        have c3 := cell20 (k := 3) HXZ.out
        have c4 := cell20 (k := 4) HXZ.out
        have c5 := cell20 (k := 5) HXZ.out
        have hltX := lt20 HXZ.out
        simp only [List.getElem?_toArray, List.getElem?_cons_succ, List.getElem?_cons_zero] at c0 c1 c2 c3 c4 c5
        refine ⟨⟨c0, c1, c2, c3, c4, c5⟩, ?_⟩
        refine hld_done (by kernel_rfl) ?_
        have HDZ := Lib.hid (show DataAt (ApartB wr.heap.size bz WZ) WZ (.slice a' y.data.length cap') y.data by
         have h1 := (own_below HO1.out HSP2.out).kept HGZ.out (.inr (fun e => by have := (own_lt HO1.out e).2; omega))
         refine RowAt.mono (row_of_owns h1) (fun k hk hS => ⟨Nat.le_trans HBV.out.size hS.1, hk, ?_⟩) (by omega)
         have := (own_lt HO1.out hS.2).2
         omega)
        clear hbz
        have hmvc := movable_any _ y _ WZ (HD.out.below HBZ.out)
        unfold entV contV at hmvc
        obtain ⟨cnt, hcnt⟩ : ∃ c, c = contE y := ⟨_, rfl⟩
        have HC := Lib.hid hcnt
        rw [← hcnt] at hmvc HCS
        clear hcnt
        obtain ⟨ck, cs⟩ := cnt
        simp only at hmvc HCS
        cases hmv : movB y with
        | false =>
         rw [hmv] at hmvc
         have HST := Lib.hid (show stepD a (stD a b k) y = ⟨(stD a b k).rem, (stD a b k).out ++ [⟨3, y.path, noPath, y⟩]⟩ by unfold stepD mateE; rw [HKF.out, hmv]; rfl)
         clear hmv
         go_upto_region 29 with (go_at_call 66; refine hmvc.mono ?_; rintro e4 w4' ⟨rfl, hb4'⟩; have HB4 := Lib.hid hb4'; clear hb4' hmvc c0 c1 c2 c3 c4 c5 hltX)
         obtain ⟨W5, hW5⟩ : ∃ W : World, W = w4'.alloc (.cells #[.int .i64 ck, .string cs] 108) := ⟨_, rfl⟩
         rw [← hW5]
         have HW5 := Lib.hid (show Below WZ.heap.size WZ W5 by rw [hW5]; exact HB4.out.alloc HB4.out.size _)
         clear hW5
         have HCU := Lib.hid ((HW5.out.block bz (lt20 HCZ.out)).trans HCZ.out)
         have HDU := Lib.hid (data_mono (HDZ.out.below HW5.out) (fun k hk => show ApartB wr.heap.size bz W5 k from ⟨hk.1, Nat.lt_of_lt_of_le hk.2.1 HW5.out.size, hk.2.2⟩))
         have HLU := Lib.hid (HLP.out.below (below_next HBZ.out HW5.out))
         have HLA := Lib.hid HLU.out.A
         have HLG := Lib.hid HLU.out.G
         have HLN := Lib.hid HLU.out.N
         have HLC := Lib.hid HLU.out.C
         have HLB := Lib.hid HLU.out.bel
         have HUL := Lib.hid (Nat.le_trans HBZ.out.size HW5.out.size)
         have HCOK := Lib.hid (show ChgOk ⟨3, y.path, noPath, y⟩ from ⟨rfl, HOK.out.pth, (show (⟨#[]⟩ : ByteArray).size ≤ maxLen by decide), HOK.out⟩)
         have e0 := cell20 (k := 0) HCU.out
         have e1 := cell20 (k := 1) HCU.out
         have e2 := cell20 (k := 2) HCU.out
         have e3 := cell20 (k := 3) HCU.out
         have e4 := cell20 (k := 4) HCU.out
         have e5 := cell20 (k := 5) HCU.out
         have e6 := cell20 (k := 6) HCU.out
         have e7 := cell20 (k := 7) HCU.out
         have e8 := cell20 (k := 8) HCU.out
         have hltZ := lt20 HCU.out
         simp only [List.getElem?_toArray, List.getElem?_cons_succ, List.getElem?_cons_zero] at e0 e1 e2 e3 e4 e5 e6 e7 e8
         have hrw9 := HLC.out.row
         have hyl := HYL.out
         have hbu9 := Nat.le_trans HLP.out.bb HUL.out
         go_wp2_with (at_builtin; go_must (refine wpList_app1p Tryz.appChgs rfl _ _ rfl B2 (.slice av ys.length cv) ys.length (chgsC ys) rfl W5 (chgC (.slice a' y.data.length cap') ⟨3, y.path, noPath, y⟩) _ rfl rfl chgC_one hrw9 (by omega) hbu9 ?_); intro v8 w8 hown8 hg8 _ hpl8; have HOWN8 := Lib.hid hown8; have HG8 := Lib.hid hg8; have HPL8 := Lib.hid hpl8; clear hown8 hg8 hpl8)
         go_roundw
         case rel =>
          exact ⟨k + 1, ys ++ [(.slice a' y.data.length cap', ⟨3, y.path, noPath, y⟩)], by omega, by go_num, HLP.out.push (rem' := (stD a b k).rem) (c := ⟨3, y.path, noPath, y⟩) (x := .slice a' y.data.length cap') (bz := bz) HLA.out HLG.out HLN.out HLC.out HLB.out HAT.out HST.out HOWN8.out HG8.out HPL8.out HDU.out HCOK.out HGS.out HSN.out HTN.out HWB.out HUL.out⟩
         case measure => simp [intOf]; omega
        | true =>
         rw [hmv] at hmvc
         have HMV := Lib.hid hmv
         clear hmv
         go_upto_region 24 with (go_at_call 66; refine hmvc.mono ?_; rintro e4 w4' ⟨rfl, hb4'⟩; have HB4 := Lib.hid hb4'; clear hb4' hmvc c0 c1 c2 c3 c4 c5 hltX)
         obtain ⟨W5, hW5⟩ : ∃ W : World, W = w4'.alloc (.cells #[.int .i64 ck, .string cs] 108) := ⟨_, rfl⟩
         rw [← hW5]
         have HW5 := Lib.hid (show Below WZ.heap.size WZ W5 by rw [hW5]; exact HB4.out.alloc HB4.out.size _)
         have HY5 := Lib.hid (show W5.heap[w4'.heap.size]? = some (.cells #[.int .i64 ck, .string cs] 108 (0, 0)) by rw [hW5]; exact new20 w4' _)
         clear hW5
         have HLU5 := Lib.hid (HLP.out.below (below_next HBZ.out HW5.out))
         have HCW := Lib.hid (show (Lit.int .i64 ck).wf = true by have h := cont_wf y; rw [← HC.out] at h; exact h)
         have HRV := Lib.hid (fun g (hg : g ∈ (stD a b k).rem) => HTA.out.val g ((gone_mem.1 ((stD_inv (b := b) HTA.out k).sub.subset hg)).1))
         have hmt := mate_names HRV.out HVE.out HMV.out
         rw [← HC.out] at hmt
         obtain ⟨vs, hlk, hrow⟩ := HLU5.out.N.get (c := (ck, cs)) HCS.out HCW.out
         unfold contV at hlk
         simp only at hlk
         obtain ⟨nl, hnl⟩ : ∃ nl, nl = namesG (stD a b k).rem (ck, cs) := ⟨_, rfl⟩
         rw [← hnl] at hrow hmt
         have HNL := Lib.hid hnl
         clear hnl
         have d0 := cell20 (k := 0) HY5.out
         have d1 := cell20 (k := 1) HY5.out
         have hltY := lt20 HY5.out
         simp only [List.getElem?_toArray, List.getElem?_cons_succ, List.getElem?_cons_zero] at d0 d1
         obtain ⟨hrl, asl, cps, rfl, hn1, hn2, hr0⟩ := hrow
         unfold maxLen at hn2
         cases nl with
         | nil =>
          have HST := Lib.hid (show stepD a (stD a b k) y = ⟨(stD a b k).rem, (stD a b k).out ++ [⟨3, y.path, noPath, y⟩]⟩ by
           have : mateE (stD a b k).rem y = none := by simpa using hmt
           unfold stepD
           rw [HKF.out, this]; rfl)
          simp only [List.length_nil] at hlk hn1
          clear hmt hrl hr0
          go_upto_region 29 with (fail)
          clear hlk d0 d1 hltY
          have HCU := Lib.hid ((HW5.out.block bz (lt20 HCZ.out)).trans HCZ.out)
          have HDU := Lib.hid (data_mono (HDZ.out.below HW5.out) (fun k hk => show ApartB wr.heap.size bz W5 k from ⟨hk.1, Nat.lt_of_lt_of_le hk.2.1 HW5.out.size, hk.2.2⟩))
          have HLU := Lib.hid (HLP.out.below (below_next HBZ.out HW5.out))
          have HLA := Lib.hid HLU.out.A
          have HLG := Lib.hid HLU.out.G
          have HLN := Lib.hid HLU.out.N
          have HLC := Lib.hid HLU.out.C
          have HLB := Lib.hid HLU.out.bel
          have HUL := Lib.hid (Nat.le_trans HBZ.out.size HW5.out.size)
          have HCOK := Lib.hid (show ChgOk ⟨3, y.path, noPath, y⟩ from ⟨rfl, HOK.out.pth, (show (⟨#[]⟩ : ByteArray).size ≤ maxLen by decide), HOK.out⟩)
          have e0 := cell20 (k := 0) HCU.out
          have e1 := cell20 (k := 1) HCU.out
          have e2 := cell20 (k := 2) HCU.out
          have e3 := cell20 (k := 3) HCU.out
          have e4 := cell20 (k := 4) HCU.out
          have e5 := cell20 (k := 5) HCU.out
          have e6 := cell20 (k := 6) HCU.out
          have e7 := cell20 (k := 7) HCU.out
          have e8 := cell20 (k := 8) HCU.out
          have hltZ := lt20 HCU.out
          simp only [List.getElem?_toArray, List.getElem?_cons_succ, List.getElem?_cons_zero] at e0 e1 e2 e3 e4 e5 e6 e7 e8
          have hrw9 := HLC.out.row
          have hyl := HYL.out
          have hbu9 := Nat.le_trans HLP.out.bb HUL.out
          go_wp2_with (at_builtin; go_must (refine wpList_app1p Tryz.appChgs rfl _ _ rfl B2 (.slice av ys.length cv) ys.length (chgsC ys) rfl W5 (chgC (.slice a' y.data.length cap') ⟨3, y.path, noPath, y⟩) _ rfl rfl chgC_one hrw9 (by omega) hbu9 ?_); intro v8 w8 hown8 hg8 _ hpl8; have HOWN8 := Lib.hid hown8; have HG8 := Lib.hid hg8; have HPL8 := Lib.hid hpl8; clear hown8 hg8 hpl8)
          go_roundw
          case rel =>
           exact ⟨k + 1, ys ++ [(.slice a' y.data.length cap', ⟨3, y.path, noPath, y⟩)], by omega, by go_num, HLP.out.push (rem' := (stD a b k).rem) (c := ⟨3, y.path, noPath, y⟩) (x := .slice a' y.data.length cap') (bz := bz) HLA.out HLG.out HLN.out HLC.out HLB.out HAT.out HST.out HOWN8.out HG8.out HPL8.out HDU.out HCOK.out HGS.out HSN.out HTN.out HWB.out HUL.out⟩
          case measure => simp [intOf]; omega
         | cons pn pns =>
          simp only [List.length_cons, List.map_cons] at hlk hn1 hr0
          have HST0 := Lib.hid hmt
          clear hmt hrl
          go_upto_region 25 with (fail)
          clear hlk d0 d1 hltY hr0 hn1 hn2
          have HCU5 := Lib.hid ((HW5.out.block bz (lt20 HCZ.out)).trans HCZ.out)
          have HBZ2 := Lib.hid (show B2 ≤ bz by have h1 := HZL.out; have h2 := HLP.out.bb; omega)
          have HCB := Lib.hid (show w4'.heap.size ≠ bz by have h1 := lt20 HCZ.out; have h2 := HB4.out.size; omega)
          have hgs := HGS.out
          have z0 := frozen20 (k := 0) HCU5.out
          have e0 := cell20 (k := 0) HCU5.out
          have e1 := cell20 (k := 1) HCU5.out
          have e2 := cell20 (k := 2) HCU5.out
          have e3 := cell20 (k := 3) HCU5.out
          have e4 := cell20 (k := 4) HCU5.out
          have e5 := cell20 (k := 5) HCU5.out
          have e6 := cell20 (k := 6) HCU5.out
          have e7 := cell20 (k := 7) HCU5.out
          have e8 := cell20 (k := 8) HCU5.out
          have hltZ := lt20 HCU5.out
          simp only [List.getElem?_toArray, List.getElem?_cons_succ, List.getElem?_cons_zero] at e0 e1 e2 e3 e4 e5 e6 e7 e8
          go_upto_region 26 with (fail)
          obtain ⟨W6, hW6⟩ : ∃ u : World, u = W5.setCell ⟨bz, 0, none⟩ (.int .i64 2) := ⟨_, rfl⟩
          rw [← hW6]
          have HG6 := Lib.hid (show W5.grownBy W6 (some bz) by rw [hW6]; exact grown_set bz 0 _)
          have HCU6 := Lib.hid (show W6.heap[bz]? = some (.cells #[.int .i64 2, .string y.path, .string ⟨#[]⟩, .string y.path, .int .i64 y.kind, .int .i64 y.mode, .int .i64 y.time, .slice a' y.data.length cap', .string y.link] 58 (0, 0)) by rw [hW6]; exact set20 HCU5.out _)
          clear hW6 z0 e0 e1 e2 e3 e4 e5 e6 e7 e8 hltZ
          have HY6 := Lib.hid ((HG6.out.block _ (lt20 HY5.out) (fun e => HCB.out (Option.some.inj e))).trans HY5.out)
          have HN6 := Lib.hid (HLU5.out.N.other HG6.out (by have := HBZ2.out; omega) (HTN.out _ HBZ2.out))
          obtain ⟨v6, hlk6, hrow6⟩ := HN6.out.get (c := (ck, cs)) HCS.out HCW.out
          obtain ⟨_, as6, cp6, rfl, hn6, hm6, h06⟩ := hrow6
          rw [← HNL.out] at hlk6 hn6 h06
          unfold contV at hlk6
          simp only [List.length_cons, List.map_cons] at hlk6 hn6 h06
          unfold maxLen at hm6
          rcases h06 with h06 | ⟨b6, o6, rfl, -, hcc6⟩
          ·omega
          have hc6 := hcc6 0 (.string pn) rfl
          simp only [Nat.add_zero] at hc6
          have hb6l := block_lt hc6
          have d0 := cell20 (k := 0) HY6.out
          have d1 := cell20 (k := 1) HY6.out
          have hltY := lt20 HY6.out
          simp only [List.getElem?_toArray, List.getElem?_cons_succ, List.getElem?_cons_zero] at d0 d1
          have z2 := frozen20 (k := 2) HCU6.out
          have e0 := cell20 (k := 0) HCU6.out
          have e1 := cell20 (k := 1) HCU6.out
          have e2 := cell20 (k := 2) HCU6.out
          have e3 := cell20 (k := 3) HCU6.out
          have e4 := cell20 (k := 4) HCU6.out
          have e5 := cell20 (k := 5) HCU6.out
          have e6 := cell20 (k := 6) HCU6.out
          have e7 := cell20 (k := 7) HCU6.out
          have e8 := cell20 (k := 8) HCU6.out
          have hltZ := lt20 HCU6.out
          simp only [List.getElem?_toArray, List.getElem?_cons_succ, List.getElem?_cons_zero] at e0 e1 e2 e3 e4 e5 e6 e7 e8
          clear hcc6
          go_upto_region 27 with (fail)
          obtain ⟨W7, hW7⟩ : ∃ u : World, u = W6.setCell ⟨bz, 2, none⟩ (.string pn) := ⟨_, rfl⟩
          rw [← hW7]
          have HG7 := Lib.hid (show W6.grownBy W7 (some bz) by rw [hW7]; exact grown_set bz 2 _)
          have HCU7 := Lib.hid (show W7.heap[bz]? = some (.cells #[.int .i64 2, .string y.path, .string pn, .string y.path, .int .i64 y.kind, .int .i64 y.mode, .int .i64 y.time, .slice a' y.data.length cap', .string y.link] 58 (0, 0)) by rw [hW7]; exact set20 HCU6.out _)
          clear hW7 z2 e0 e1 e2 e3 e4 e5 e6 e7 e8 hltZ d0 d1 hltY hc6 hlk6 hb6l hn6 hm6
          have HY7 := Lib.hid ((HG7.out.block _ (lt20 HY6.out) (fun e => HCB.out (Option.some.inj e))).trans HY6.out)
          have HN7 := Lib.hid (HN6.out.other HG7.out (by have := HBZ2.out; omega) (HTN.out _ HBZ2.out))
          obtain ⟨V7, hV7⟩ : ∃ V : World, V = W7.drew := ⟨_, rfl⟩
          have HD7 := Lib.hid (show Below W7.heap.size W7 V7 by rw [hV7]; exact (Below.refl _ _).drew)
          have HY8 := Lib.hid ((HD7.out.block _ (lt20 HY7.out)).trans HY7.out)
          have HN8 := Lib.hid (HN7.out.below HD7.out)
          obtain ⟨v8', hlk8, hrow8⟩ := HN8.out.get (c := (ck, cs)) HCS.out HCW.out
          have HRW8 := Lib.hid hrow8
          obtain ⟨_, as8, cp8, rfl, hn8, hm8, h08⟩ := hrow8
          rw [← HNL.out] at hlk8 hn8 h08 HRW8
          unfold contV at hlk8
          simp only [List.length_cons, List.map_cons] at hlk8 hn8 h08
          unfold maxLen at hm8
          rcases h08 with h08 | ⟨b8, o8, rfl, hT8, hcc8⟩
          ·omega
          have HT8 := Lib.hid (And.intro hT8 hcc8)
          clear hT8 hcc8
          refine wp_region_segs [some 6, none] (by kernel_rfl) (by kernel_rfl) (by kernel_rfl) ?_
          simp only [wpSegs, List.take_succ_cons, List.take_zero, List.drop_succ_cons, List.drop_zero]
          rw [← hV7]
          have d0 := cell20 (k := 0) HY8.out
          have d1 := cell20 (k := 1) HY8.out
          have hltY := lt20 HY8.out
          simp only [List.getElem?_toArray, List.getElem?_cons_succ, List.getElem?_cons_zero] at d0 d1
          clear hV7
          obtain ⟨as9, hsl, has9⟩ := slice_tail b8 o8 pns.length cp8 hn8
          have hsl9 := hsl V7
          have HRT := Lib.hid (row_tail (w := V7) (TS := TS) (cs := pns.map Value.string) (by rw [List.length_map]) hn8 (by unfold maxLen; omega) HT8.out.1 HT8.out.2 has9)
          clear hsl
          repeat (first | (refine seg_skip rfl ?_; simp only [Act.put, List.setIfInBounds_toArray, List.set_cons_succ, List.set_cons_zero]) | (refine seg_run rfl (fun K hK => ?_); go_simp; refine hK _ ?_; clear hK K))
          refine seg_nil ?_
          obtain ⟨w9, hu9, hn9, hg9⟩ := HN8.out.set (fun h => by have h1 := (HTS.out _ h).1; have h2 := HBS.out; omega) (c := (ck, cs)) HCS.out HCW.out HRT.out
          have HN9 := Lib.hid hn9
          have HG9 := Lib.hid hg9
          unfold contV at hu9
          simp only at hu9
          clear hn9 hg9 has9 hsl9 hlk8
          refine bar_run rfl (fun K hK => ?_)
          clear d0 d1 hltY hn8 hm8
          go_upto_region 28 with (fail)
          clear hu9
          have HCU9 := Lib.hid ((HG9.out.block bz (Nat.lt_of_lt_of_le (lt20 HCU7.out) HD7.out.size) (fun e => by have h1 := Option.some.inj e; have h2 := HBZ2.out; omega)).trans ((HD7.out.block bz (lt20 HCU7.out)).trans HCU7.out))
          have hS6 := HLU5.out.G.other HG6.out (by have := HBZ2.out; omega)
          have hS7 := hS6.other HG7.out (by have := HBZ2.out; omega)
          have HS9 := Lib.hid ((hS7.below HD7.out).other HG9.out (fun e => HNE.out.2.2.1 e.symm))
          clear hS6 hS7
          obtain ⟨g, hg, hgp⟩ : ∃ g, mateE (stD a b k).rem y = some g ∧ g.path = pn := by
           have := HST0.out
           cases hg : mateE (stD a b k).rem y with
           | none => rw [hg] at this; cases this
           | some g => rw [hg] at this; exact ⟨g, rfl, by simpa using this⟩
          have HGM := Lib.hid hg
          have HGP := Lib.hid hgp
          have hps : pn.size ≤ maxLen := by
           rw [← hgp, size_bl]
           have h1 := valid_size (vEnt_path (HRV.out g (mate_some hg).1))
           unfold maxLen; omega
          have HPS := Lib.hid hps
          clear hg hgp hps
          have HDEL := Lib.hid (fun ty => HS9.out.del boolTy HPS.out ty)
          have e0 := cell20 (k := 0) HCU9.out
          have e1 := cell20 (k := 1) HCU9.out
          have e2 := cell20 (k := 2) HCU9.out
          have e3 := cell20 (k := 3) HCU9.out
          have e4 := cell20 (k := 4) HCU9.out
          have e5 := cell20 (k := 5) HCU9.out
          have e6 := cell20 (k := 6) HCU9.out
          have e7 := cell20 (k := 7) HCU9.out
          have e8 := cell20 (k := 8) HCU9.out
          have hltZ := lt20 HCU9.out
          simp only [List.getElem?_toArray, List.getElem?_cons_succ, List.getElem?_cons_zero] at e0 e1 e2 e3 e4 e5 e6 e7 e8
          go_upto_region 29 with (at_delete; go_must (refine wpList_delRun rfl _ _ _ _ rfl _ _ rfl rfl (HDEL.out _) ?_); rintro w10 ⟨hm3, hg3⟩; have HS10 := Lib.hid hm3; have HG10 := Lib.hid hg3; clear hm3 hg3 e0 e1 e2 e3 e4 e5 e6 e7 e8 hltZ)
          clear HDEL
          have hgs := HGS.out
          have hb2 := HBZ2.out
          have hlpb := HLP.out.bb
          have hk10 : ∀ k, B2 ≤ k → k ≠ bz → k < W5.heap.size → w10.heap[k]? = W5.heap[k]? := fun k h1 h2 h3 => by
           have s6 := HG6.out.size
           have s7 := HG7.out.size
           have s8 := HD7.out.size
           have s9 := HG9.out.size
           have q6 := HG6.out.block k h3 (fun e => h2 (Option.some.inj e))
           have q7 := HG7.out.block k (by omega) (fun e => h2 (Option.some.inj e))
           have q8 := HD7.out.block k (by omega)
           have q9 := HG9.out.block k (by omega) (fun e => by have := Option.some.inj e; omega)
           have q10 := HG10.out.block k (by omega) (fun e => by have := Option.some.inj e; omega)
           rw [q10, q9, q8, q7, q6]
          have hsz10 : W5.heap.size ≤ w10.heap.size := by
           have s6 := HG6.out.size
           have s7 := HG7.out.size
           have s8 := HD7.out.size
           have s9 := HG9.out.size
           have s10 := HG10.out.size
           omega
          have hbw5 := below_next HBZ.out HW5.out
          have HCU := Lib.hid ((HG10.out.block bz (lt20 HCU9.out) (fun e => by have := Option.some.inj e; omega)).trans HCU9.out)
          have HDU := Lib.hid (data_keep (S' := ApartB wr.heap.size bz w10) (HDZ.out.below HW5.out) (fun k hS hlt => hk10 k (Nat.le_trans hlpb hS.1) hS.2.2 hlt) (fun k hS hlt => ⟨hS.1, Nat.lt_of_lt_of_le hlt hsz10, hS.2.2⟩))
          have HLA := Lib.hid (((((HLU5.out.A.other HG6.out (by omega) (HSN.out _ hb2)).other HG7.out (by omega) (HSN.out _ hb2)).below HD7.out).other HG9.out HNE.out.2.2.2.1 (HSF.out.1 _ HGB.out.2)).other HG10.out HNE.out.1 (HSF.out.1 _ HGB.out.1))
          have HLG := Lib.hid (show SetR w10 gb (hasE (dropE (stD a b k).rem pn)) by rw [has_drop]; exact HS10.out)
          have HLN := Lib.hid (show SrcT TS w10 sb (namesG (dropE (stD a b k).rem pn)) by
           have hN := HN9.out.other HG10.out HNE.out.2.2.1 (fun h => by have h1 := (HTS.out _ h).1; have h2 := HBS.out; omega)
           have hfe : (fun d => if d = (ck, cs) then pns else namesG (stD a b k).rem d) = namesG (dropE (stD a b k).rem pn) := by
            funext d
            rw [← HGP.out, names_drop ((stD_inv (b := b) HTA.out k).rem_nodup HTA.out) HRV.out HVE.out HGM.out d, ← HC.out, ← HNL.out]
            rfl
           rw [← hfe]
           exact hN)
          have HLC := Lib.hid (HLP.out.C.keep (w' := w10) (fun k h1 h2 => (hk10 k h1 (by have := HZL.out; omega) (Nat.lt_of_lt_of_le h2 hbw5.size)).trans (hbw5.block k h2)) (Nat.le_trans hbw5.size hsz10))
          have HLB := Lib.hid (show Below w.heap.size w w10 by
           have h5 := HLU5.out.bel
           have h6 := h5.grown HG6.out h5.size (fun k e => by cases e; have := HWB.out; omega)
           have h7 := h6.grown HG7.out h6.size (fun k e => by cases e; have := HWB.out; omega)
           have h8 := below_next h7 HD7.out
           have h9 := h8.grown HG9.out h8.size (fun k e => by cases e; exact HGB.out.2)
           exact h9.grown HG10.out h9.size (fun k e => by cases e; exact HGB.out.1))
          have HUL := Lib.hid (Nat.le_trans hbw5.size hsz10)
          have HCOK := Lib.hid (show ChgOk ⟨2, y.path, pn, y⟩ from ⟨rfl, HOK.out.pth, HPS.out, HOK.out⟩)
          have HST := Lib.hid (show stepD a (stD a b k) y = ⟨dropE (stD a b k).rem pn, (stD a b k).out ++ [⟨2, y.path, pn, y⟩]⟩ by
           unfold stepD
           rw [HKF.out, HGM.out, ← HGP.out]; rfl)
          clear hk10 hsz10 hbw5 hb2 hlpb
          have e0 := cell20 (k := 0) HCU.out
          have e1 := cell20 (k := 1) HCU.out
          have e2 := cell20 (k := 2) HCU.out
          have e3 := cell20 (k := 3) HCU.out
          have e4 := cell20 (k := 4) HCU.out
          have e5 := cell20 (k := 5) HCU.out
          have e6 := cell20 (k := 6) HCU.out
          have e7 := cell20 (k := 7) HCU.out
          have e8 := cell20 (k := 8) HCU.out
          have hltZ := lt20 HCU.out
          simp only [List.getElem?_toArray, List.getElem?_cons_succ, List.getElem?_cons_zero] at e0 e1 e2 e3 e4 e5 e6 e7 e8
          have hrw9 := HLC.out.row
          have hyl := HYL.out
          have hbu9 := Nat.le_trans HLP.out.bb HUL.out
          go_wp2_with (at_builtin; go_must (refine wpList_app1p Tryz.appChgs rfl _ _ rfl B2 (.slice av ys.length cv) ys.length (chgsC ys) rfl w10 (chgC (.slice a' y.data.length cap') ⟨2, y.path, pn, y⟩) _ rfl rfl chgC_one hrw9 (by omega) hbu9 ?_); intro v8 w8 hown8 hg8 _ hpl8; have HOWN8 := Lib.hid hown8; have HG8 := Lib.hid hg8; have HPL8 := Lib.hid hpl8; clear hown8 hg8 hpl8)
          go_roundw
          case rel =>
           exact ⟨k + 1, ys ++ [(.slice a' y.data.length cap', ⟨2, y.path, pn, y⟩)], by omega, by go_num, HLP.out.push (rem' := (dropE (stD a b k).rem pn)) (c := ⟨2, y.path, pn, y⟩) (x := .slice a' y.data.length cap') (bz := bz) HLA.out HLG.out HLN.out HLC.out HLB.out HAT.out HST.out HOWN8.out HG8.out HPL8.out HDU.out HCOK.out HGS.out HSN.out HTN.out HWB.out HUL.out⟩
          case measure => simp [intOf]; omega
       ·refine hld_opr 5 rfl rfl (fun K hK => ?_)
        go_wp2_with fail
        obtain ⟨U1, hU⟩ : ∃ u : World, u = (V).alloc (.cells #[.int .i64 0, .string ⟨#[]⟩, .string ⟨#[]⟩, .string ⟨#[]⟩, .int .i64 0, .int .i64 0, .int .i64 0, .slice none 0 0, .string ⟨#[]⟩] 58) := ⟨_, rfl⟩
        rw [← hU]
        have HSP1 := Lib.hid (show Below (V).heap.size V U1 by rw [hU]; exact (Below.refl _ _).alloc (Nat.le_refl _) _)
        have HZ1 := Lib.hid (show (U1).heap[(V).heap.size]? = some (.cells #[.int .i64 0, .string ⟨#[]⟩, .string ⟨#[]⟩, .string ⟨#[]⟩, .int .i64 0, .int .i64 0, .int .i64 0, .slice none 0 0, .string ⟨#[]⟩] 58 (0, 0)) by rw [hU]; exact new20 _ _)
        have HBU1 := Lib.hid (below_next HBV.out HSP1.out)
        have HXU1 := Lib.hid ((HSP1.out.block wr.heap.size (lt20 HXV.out)).trans HXV.out)
        clear hU c0 c1 c2 c3 c4 c5 hltX
        have c0 := cell20 (k := 0) HXU1.out
        have c1 := cell20 (k := 1) HXU1.out
        have c2 := cell20 (k := 2) HXU1.out
        have c3 := cell20 (k := 3) HXU1.out
        have c4 := cell20 (k := 4) HXU1.out
        have c5 := cell20 (k := 5) HXU1.out
        have hltX := lt20 HXU1.out
        simp only [List.getElem?_toArray, List.getElem?_cons_succ, List.getElem?_cons_zero] at c0 c1 c2 c3 c4 c5
        refine ⟨⟨c0, c1, c2, c3, c4, c5⟩, ?_⟩
        refine hld_bar 3 rfl (by kernel_rfl) rfl (fun K hK => ?_)
        go_wp2_with (go_at_call 68; refine (copiedT_flat _ y _ _ (HD.out.below HBU1.out) (vEnt_data HVE.out)).mono ?_; rintro e9 U2 ⟨a', cap', rfl, ho9, hb9⟩; have HO2 := Lib.hid ho9; have HSP2 := Lib.hid hb9; clear ho9 hb9 c0 c1 c2 c3 c4 c5 hltX)
        have HBU2 := Lib.hid (below_next HBU1.out HSP2.out)
        have HXU2 := Lib.hid ((HSP2.out.block wr.heap.size (lt20 HXU1.out)).trans HXU1.out)
        have c0 := cell20 (k := 0) HXU2.out
        have c1 := cell20 (k := 1) HXU2.out
        have c2 := cell20 (k := 2) HXU2.out
        have c3 := cell20 (k := 3) HXU2.out
        have c4 := cell20 (k := 4) HXU2.out
        have c5 := cell20 (k := 5) HXU2.out
        have hltX := lt20 HXU2.out
        simp only [List.getElem?_toArray, List.getElem?_cons_succ, List.getElem?_cons_zero] at c0 c1 c2 c3 c4 c5
        refine ⟨⟨c0, c1, c2, c3, c4, c5⟩, ?_⟩
        refine hld_take 4 rfl (by kernel_rfl) (by kernel_rfl) (by kernel_rfl) (fun _ _ _ h => h) rfl ⟨c0, c1, c2, c3, c4, c5⟩ (by rintro w' ⟨hw1, hw2, hw3, hw4, hw5, hw6⟩; go_simp; rfl) ?_
        simp only [Act.put, List.setIfInBounds_toArray, List.set_cons_succ, List.set_cons_zero]
        have HZ2 := Lib.hid ((HSP2.out.block _ (lt20 HZ1.out)).trans HZ1.out)
        have HZB := Lib.hid (show wr.heap.size ≤ V.heap.size ∧ wr.heap.size < V.heap.size from ⟨HBV.out.size, lt20 HXV.out⟩)
        have HVL := Lib.hid (lt20 HZ1.out)
        refine hld_bar 6 rfl (by kernel_rfl) rfl (fun K hK => ?_)
        have z0 := frozen20 (k := 0) HZ2.out
        have z1 := frozen20 (k := 1) HZ2.out
        have z2 := frozen20 (k := 2) HZ2.out
        have z3 := frozen20 (k := 3) HZ2.out
        have z4 := frozen20 (k := 4) HZ2.out
        have z5 := frozen20 (k := 5) HZ2.out
        have z6 := frozen20 (k := 6) HZ2.out
        have z7 := frozen20 (k := 7) HZ2.out
        have z8 := frozen20 (k := 8) HZ2.out
        have y0 := cell20 (k := 0) HZ2.out
        have y1 := cell20 (k := 1) HZ2.out
        have y2 := cell20 (k := 2) HZ2.out
        have y3 := cell20 (k := 3) HZ2.out
        have y4 := cell20 (k := 4) HZ2.out
        have y5 := cell20 (k := 5) HZ2.out
        have y6 := cell20 (k := 6) HZ2.out
        have y7 := cell20 (k := 7) HZ2.out
        have y8 := cell20 (k := 8) HZ2.out
        simp only [List.getElem?_toArray, List.getElem?_cons_succ, List.getElem?_cons_zero] at y0 y1 y2 y3 y4 y5 y6 y7 y8
        go_wp2_with fail
        obtain ⟨WZ, hWZ⟩ : ∃ u : World, u = ((((((((((U2).setCell ⟨V.heap.size, 0, none⟩ (.int .i64 3)).setCell ⟨V.heap.size, 1, none⟩ (.string y.path)).setCell ⟨V.heap.size, 2, none⟩ (.string ⟨#[]⟩)).setCell ⟨V.heap.size, 3, none⟩ (.string y.path)).setCell ⟨V.heap.size, 4, none⟩ (.int .i64 y.kind)).setCell ⟨V.heap.size, 5, none⟩ (.int .i64 y.mode)).setCell ⟨V.heap.size, 6, none⟩ (.int .i64 y.time)).setCell ⟨V.heap.size, 7, none⟩ (.slice a' y.data.length cap')).setCell ⟨V.heap.size, 8, none⟩ (.string y.link)) := ⟨_, rfl⟩
        rw [← hWZ]
        have HGZ := Lib.hid (show (U2).grownBy WZ (some (V.heap.size)) by rw [hWZ]; exact nine_grown)
        have HCZ := Lib.hid (show WZ.heap[V.heap.size]? = some (.cells #[.int .i64 3, .string y.path, .string ⟨#[]⟩, .string y.path, .int .i64 y.kind, .int .i64 y.mode, .int .i64 y.time, .slice a' y.data.length cap', .string y.link] 58 (0, 0)) by rw [hWZ]; exact nine20 HZ2.out)
        clear hWZ z0 z1 z2 z3 z4 z5 z6 z7 z8 y0 y1 y2 y3 y4 y5 y6 y7 y8 c0 c1 c2 c3 c4 c5 hltX
        have HBZ := Lib.hid (HBU2.out.grown HGZ.out HBU2.out.size (fun k e => by cases e; exact HZB.out.1))
        have HXZ := Lib.hid ((HGZ.out.block wr.heap.size (lt20 HXU2.out) (fun e => by have h1 := Option.some.inj e; have h2 := HZB.out.2; omega)).trans HXU2.out)
        obtain ⟨bz, hbz⟩ : ∃ bz, bz = V.heap.size := ⟨_, rfl⟩
        rw [← hbz] at HCZ HGZ ⊢
        have HZL := Lib.hid (show wr.heap.size < bz by have := HZB.out; omega)
        have c0 := cell20 (k := 0) HXZ.out
        have c1 := cell20 (k := 1) HXZ.out
        have c2 := cell20 (k := 2) HXZ.out
        have c3 := cell20 (k := 3) HXZ.out
        have c4 := cell20 (k := 4) HXZ.out
        have c5 := cell20 (k := 5) HXZ.out
        have hltX := lt20 HXZ.out
        simp only [List.getElem?_toArray, List.getElem?_cons_succ, List.getElem?_cons_zero] at c0 c1 c2 c3 c4 c5
        refine ⟨⟨c0, c1, c2, c3, c4, c5⟩, ?_⟩
        refine hld_done (by kernel_rfl) ?_
        have HDZ := Lib.hid (show DataAt (ApartB wr.heap.size bz WZ) WZ (.slice a' y.data.length cap') y.data by
         have hvl := HVL.out
         have h1 := HO2.out.kept HGZ.out (.inr (fun e => by have := (own_lt HO2.out e).1; omega))
         refine RowAt.mono (row_of_owns h1) (fun k hk hS => ⟨Nat.le_trans HBU1.out.size hS.1, hk, ?_⟩) (by omega)
         have := (own_lt HO2.out hS.2).1
         omega)
        clear hbz
        have hmvc := movable_any _ y _ WZ (HD.out.below HBZ.out)
        unfold entV contV at hmvc
        obtain ⟨cnt, hcnt⟩ : ∃ c, c = contE y := ⟨_, rfl⟩
        have HC := Lib.hid hcnt
        rw [← hcnt] at hmvc HCS
        clear hcnt
        obtain ⟨ck, cs⟩ := cnt
        simp only at hmvc HCS
        cases hmv : movB y with
        | false =>
         rw [hmv] at hmvc
         have HST := Lib.hid (show stepD a (stD a b k) y = ⟨(stD a b k).rem, (stD a b k).out ++ [⟨3, y.path, noPath, y⟩]⟩ by unfold stepD mateE; rw [HKF.out, hmv]; rfl)
         clear hmv
         go_upto_region 29 with (go_at_call 66; refine hmvc.mono ?_; rintro e4 w4' ⟨rfl, hb4'⟩; have HB4 := Lib.hid hb4'; clear hb4' hmvc c0 c1 c2 c3 c4 c5 hltX)
         obtain ⟨W5, hW5⟩ : ∃ W : World, W = w4'.alloc (.cells #[.int .i64 ck, .string cs] 108) := ⟨_, rfl⟩
         rw [← hW5]
         have HW5 := Lib.hid (show Below WZ.heap.size WZ W5 by rw [hW5]; exact HB4.out.alloc HB4.out.size _)
         clear hW5
         have HCU := Lib.hid ((HW5.out.block bz (lt20 HCZ.out)).trans HCZ.out)
         have HDU := Lib.hid (data_mono (HDZ.out.below HW5.out) (fun k hk => show ApartB wr.heap.size bz W5 k from ⟨hk.1, Nat.lt_of_lt_of_le hk.2.1 HW5.out.size, hk.2.2⟩))
         have HLU := Lib.hid (HLP.out.below (below_next HBZ.out HW5.out))
         have HLA := Lib.hid HLU.out.A
         have HLG := Lib.hid HLU.out.G
         have HLN := Lib.hid HLU.out.N
         have HLC := Lib.hid HLU.out.C
         have HLB := Lib.hid HLU.out.bel
         have HUL := Lib.hid (Nat.le_trans HBZ.out.size HW5.out.size)
         have HCOK := Lib.hid (show ChgOk ⟨3, y.path, noPath, y⟩ from ⟨rfl, HOK.out.pth, (show (⟨#[]⟩ : ByteArray).size ≤ maxLen by decide), HOK.out⟩)
         have e0 := cell20 (k := 0) HCU.out
         have e1 := cell20 (k := 1) HCU.out
         have e2 := cell20 (k := 2) HCU.out
         have e3 := cell20 (k := 3) HCU.out
         have e4 := cell20 (k := 4) HCU.out
         have e5 := cell20 (k := 5) HCU.out
         have e6 := cell20 (k := 6) HCU.out
         have e7 := cell20 (k := 7) HCU.out
         have e8 := cell20 (k := 8) HCU.out
         have hltZ := lt20 HCU.out
         simp only [List.getElem?_toArray, List.getElem?_cons_succ, List.getElem?_cons_zero] at e0 e1 e2 e3 e4 e5 e6 e7 e8
         have hrw9 := HLC.out.row
         have hyl := HYL.out
         have hbu9 := Nat.le_trans HLP.out.bb HUL.out
         go_wp2_with (at_builtin; go_must (refine wpList_app1p Tryz.appChgs rfl _ _ rfl B2 (.slice av ys.length cv) ys.length (chgsC ys) rfl W5 (chgC (.slice a' y.data.length cap') ⟨3, y.path, noPath, y⟩) _ rfl rfl chgC_one hrw9 (by omega) hbu9 ?_); intro v8 w8 hown8 hg8 _ hpl8; have HOWN8 := Lib.hid hown8; have HG8 := Lib.hid hg8; have HPL8 := Lib.hid hpl8; clear hown8 hg8 hpl8)
         go_roundw
         case rel =>
          exact ⟨k + 1, ys ++ [(.slice a' y.data.length cap', ⟨3, y.path, noPath, y⟩)], by omega, by go_num, HLP.out.push (rem' := (stD a b k).rem) (c := ⟨3, y.path, noPath, y⟩) (x := .slice a' y.data.length cap') (bz := bz) HLA.out HLG.out HLN.out HLC.out HLB.out HAT.out HST.out HOWN8.out HG8.out HPL8.out HDU.out HCOK.out HGS.out HSN.out HTN.out HWB.out HUL.out⟩
         case measure => simp [intOf]; omega
        | true =>
         rw [hmv] at hmvc
         have HMV := Lib.hid hmv
         clear hmv
         go_upto_region 24 with (go_at_call 66; refine hmvc.mono ?_; rintro e4 w4' ⟨rfl, hb4'⟩; have HB4 := Lib.hid hb4'; clear hb4' hmvc c0 c1 c2 c3 c4 c5 hltX)
         obtain ⟨W5, hW5⟩ : ∃ W : World, W = w4'.alloc (.cells #[.int .i64 ck, .string cs] 108) := ⟨_, rfl⟩
         rw [← hW5]
         have HW5 := Lib.hid (show Below WZ.heap.size WZ W5 by rw [hW5]; exact HB4.out.alloc HB4.out.size _)
         have HY5 := Lib.hid (show W5.heap[w4'.heap.size]? = some (.cells #[.int .i64 ck, .string cs] 108 (0, 0)) by rw [hW5]; exact new20 w4' _)
         clear hW5
         have HLU5 := Lib.hid (HLP.out.below (below_next HBZ.out HW5.out))
         have HCW := Lib.hid (show (Lit.int .i64 ck).wf = true by have h := cont_wf y; rw [← HC.out] at h; exact h)
         have HRV := Lib.hid (fun g (hg : g ∈ (stD a b k).rem) => HTA.out.val g ((gone_mem.1 ((stD_inv (b := b) HTA.out k).sub.subset hg)).1))
         have hmt := mate_names HRV.out HVE.out HMV.out
         rw [← HC.out] at hmt
         obtain ⟨vs, hlk, hrow⟩ := HLU5.out.N.get (c := (ck, cs)) HCS.out HCW.out
         unfold contV at hlk
         simp only at hlk
         obtain ⟨nl, hnl⟩ : ∃ nl, nl = namesG (stD a b k).rem (ck, cs) := ⟨_, rfl⟩
         rw [← hnl] at hrow hmt
         have HNL := Lib.hid hnl
         clear hnl
         have d0 := cell20 (k := 0) HY5.out
         have d1 := cell20 (k := 1) HY5.out
         have hltY := lt20 HY5.out
         simp only [List.getElem?_toArray, List.getElem?_cons_succ, List.getElem?_cons_zero] at d0 d1
         obtain ⟨hrl, asl, cps, rfl, hn1, hn2, hr0⟩ := hrow
         unfold maxLen at hn2
         cases nl with
         | nil =>
          have HST := Lib.hid (show stepD a (stD a b k) y = ⟨(stD a b k).rem, (stD a b k).out ++ [⟨3, y.path, noPath, y⟩]⟩ by
           have : mateE (stD a b k).rem y = none := by simpa using hmt
           unfold stepD
           rw [HKF.out, this]; rfl)
          simp only [List.length_nil] at hlk hn1
          clear hmt hrl hr0
          go_upto_region 29 with (fail)
          clear hlk d0 d1 hltY
          have HCU := Lib.hid ((HW5.out.block bz (lt20 HCZ.out)).trans HCZ.out)
          have HDU := Lib.hid (data_mono (HDZ.out.below HW5.out) (fun k hk => show ApartB wr.heap.size bz W5 k from ⟨hk.1, Nat.lt_of_lt_of_le hk.2.1 HW5.out.size, hk.2.2⟩))
          have HLU := Lib.hid (HLP.out.below (below_next HBZ.out HW5.out))
          have HLA := Lib.hid HLU.out.A
          have HLG := Lib.hid HLU.out.G
          have HLN := Lib.hid HLU.out.N
          have HLC := Lib.hid HLU.out.C
          have HLB := Lib.hid HLU.out.bel
          have HUL := Lib.hid (Nat.le_trans HBZ.out.size HW5.out.size)
          have HCOK := Lib.hid (show ChgOk ⟨3, y.path, noPath, y⟩ from ⟨rfl, HOK.out.pth, (show (⟨#[]⟩ : ByteArray).size ≤ maxLen by decide), HOK.out⟩)
          have e0 := cell20 (k := 0) HCU.out
          have e1 := cell20 (k := 1) HCU.out
          have e2 := cell20 (k := 2) HCU.out
          have e3 := cell20 (k := 3) HCU.out
          have e4 := cell20 (k := 4) HCU.out
          have e5 := cell20 (k := 5) HCU.out
          have e6 := cell20 (k := 6) HCU.out
          have e7 := cell20 (k := 7) HCU.out
          have e8 := cell20 (k := 8) HCU.out
          have hltZ := lt20 HCU.out
          simp only [List.getElem?_toArray, List.getElem?_cons_succ, List.getElem?_cons_zero] at e0 e1 e2 e3 e4 e5 e6 e7 e8
          have hrw9 := HLC.out.row
          have hyl := HYL.out
          have hbu9 := Nat.le_trans HLP.out.bb HUL.out
          go_wp2_with (at_builtin; go_must (refine wpList_app1p Tryz.appChgs rfl _ _ rfl B2 (.slice av ys.length cv) ys.length (chgsC ys) rfl W5 (chgC (.slice a' y.data.length cap') ⟨3, y.path, noPath, y⟩) _ rfl rfl chgC_one hrw9 (by omega) hbu9 ?_); intro v8 w8 hown8 hg8 _ hpl8; have HOWN8 := Lib.hid hown8; have HG8 := Lib.hid hg8; have HPL8 := Lib.hid hpl8; clear hown8 hg8 hpl8)
          go_roundw
          case rel =>
           exact ⟨k + 1, ys ++ [(.slice a' y.data.length cap', ⟨3, y.path, noPath, y⟩)], by omega, by go_num, HLP.out.push (rem' := (stD a b k).rem) (c := ⟨3, y.path, noPath, y⟩) (x := .slice a' y.data.length cap') (bz := bz) HLA.out HLG.out HLN.out HLC.out HLB.out HAT.out HST.out HOWN8.out HG8.out HPL8.out HDU.out HCOK.out HGS.out HSN.out HTN.out HWB.out HUL.out⟩
          case measure => simp [intOf]; omega
         | cons pn pns =>
          simp only [List.length_cons, List.map_cons] at hlk hn1 hr0
          have HST0 := Lib.hid hmt
          clear hmt hrl
          go_upto_region 25 with (fail)
          clear hlk d0 d1 hltY hr0 hn1 hn2
          have HCU5 := Lib.hid ((HW5.out.block bz (lt20 HCZ.out)).trans HCZ.out)
          have HBZ2 := Lib.hid (show B2 ≤ bz by have h1 := HZL.out; have h2 := HLP.out.bb; omega)
          have HCB := Lib.hid (show w4'.heap.size ≠ bz by have h1 := lt20 HCZ.out; have h2 := HB4.out.size; omega)
          have hgs := HGS.out
          have z0 := frozen20 (k := 0) HCU5.out
          have e0 := cell20 (k := 0) HCU5.out
          have e1 := cell20 (k := 1) HCU5.out
          have e2 := cell20 (k := 2) HCU5.out
          have e3 := cell20 (k := 3) HCU5.out
          have e4 := cell20 (k := 4) HCU5.out
          have e5 := cell20 (k := 5) HCU5.out
          have e6 := cell20 (k := 6) HCU5.out
          have e7 := cell20 (k := 7) HCU5.out
          have e8 := cell20 (k := 8) HCU5.out
          have hltZ := lt20 HCU5.out
          simp only [List.getElem?_toArray, List.getElem?_cons_succ, List.getElem?_cons_zero] at e0 e1 e2 e3 e4 e5 e6 e7 e8
          go_upto_region 26 with (fail)
          obtain ⟨W6, hW6⟩ : ∃ u : World, u = W5.setCell ⟨bz, 0, none⟩ (.int .i64 2) := ⟨_, rfl⟩
          rw [← hW6]
          have HG6 := Lib.hid (show W5.grownBy W6 (some bz) by rw [hW6]; exact grown_set bz 0 _)
          have HCU6 := Lib.hid (show W6.heap[bz]? = some (.cells #[.int .i64 2, .string y.path, .string ⟨#[]⟩, .string y.path, .int .i64 y.kind, .int .i64 y.mode, .int .i64 y.time, .slice a' y.data.length cap', .string y.link] 58 (0, 0)) by rw [hW6]; exact set20 HCU5.out _)
          clear hW6 z0 e0 e1 e2 e3 e4 e5 e6 e7 e8 hltZ
          have HY6 := Lib.hid ((HG6.out.block _ (lt20 HY5.out) (fun e => HCB.out (Option.some.inj e))).trans HY5.out)
          have HN6 := Lib.hid (HLU5.out.N.other HG6.out (by have := HBZ2.out; omega) (HTN.out _ HBZ2.out))
          obtain ⟨v6, hlk6, hrow6⟩ := HN6.out.get (c := (ck, cs)) HCS.out HCW.out
          obtain ⟨_, as6, cp6, rfl, hn6, hm6, h06⟩ := hrow6
          rw [← HNL.out] at hlk6 hn6 h06
          unfold contV at hlk6
          simp only [List.length_cons, List.map_cons] at hlk6 hn6 h06
          unfold maxLen at hm6
          rcases h06 with h06 | ⟨b6, o6, rfl, -, hcc6⟩
          ·omega
          have hc6 := hcc6 0 (.string pn) rfl
          simp only [Nat.add_zero] at hc6
          have hb6l := block_lt hc6
          have d0 := cell20 (k := 0) HY6.out
          have d1 := cell20 (k := 1) HY6.out
          have hltY := lt20 HY6.out
          simp only [List.getElem?_toArray, List.getElem?_cons_succ, List.getElem?_cons_zero] at d0 d1
          have z2 := frozen20 (k := 2) HCU6.out
          have e0 := cell20 (k := 0) HCU6.out
          have e1 := cell20 (k := 1) HCU6.out
          have e2 := cell20 (k := 2) HCU6.out
          have e3 := cell20 (k := 3) HCU6.out
          have e4 := cell20 (k := 4) HCU6.out
          have e5 := cell20 (k := 5) HCU6.out
          have e6 := cell20 (k := 6) HCU6.out
          have e7 := cell20 (k := 7) HCU6.out
          have e8 := cell20 (k := 8) HCU6.out
          have hltZ := lt20 HCU6.out
          simp only [List.getElem?_toArray, List.getElem?_cons_succ, List.getElem?_cons_zero] at e0 e1 e2 e3 e4 e5 e6 e7 e8
          clear hcc6
          go_upto_region 27 with (fail)
          obtain ⟨W7, hW7⟩ : ∃ u : World, u = W6.setCell ⟨bz, 2, none⟩ (.string pn) := ⟨_, rfl⟩
          rw [← hW7]
          have HG7 := Lib.hid (show W6.grownBy W7 (some bz) by rw [hW7]; exact grown_set bz 2 _)
          have HCU7 := Lib.hid (show W7.heap[bz]? = some (.cells #[.int .i64 2, .string y.path, .string pn, .string y.path, .int .i64 y.kind, .int .i64 y.mode, .int .i64 y.time, .slice a' y.data.length cap', .string y.link] 58 (0, 0)) by rw [hW7]; exact set20 HCU6.out _)
          clear hW7 z2 e0 e1 e2 e3 e4 e5 e6 e7 e8 hltZ d0 d1 hltY hc6 hlk6 hb6l hn6 hm6
          have HY7 := Lib.hid ((HG7.out.block _ (lt20 HY6.out) (fun e => HCB.out (Option.some.inj e))).trans HY6.out)
          have HN7 := Lib.hid (HN6.out.other HG7.out (by have := HBZ2.out; omega) (HTN.out _ HBZ2.out))
          obtain ⟨V7, hV7⟩ : ∃ V : World, V = W7.drew := ⟨_, rfl⟩
          have HD7 := Lib.hid (show Below W7.heap.size W7 V7 by rw [hV7]; exact (Below.refl _ _).drew)
          have HY8 := Lib.hid ((HD7.out.block _ (lt20 HY7.out)).trans HY7.out)
          have HN8 := Lib.hid (HN7.out.below HD7.out)
          obtain ⟨v8', hlk8, hrow8⟩ := HN8.out.get (c := (ck, cs)) HCS.out HCW.out
          have HRW8 := Lib.hid hrow8
          obtain ⟨_, as8, cp8, rfl, hn8, hm8, h08⟩ := hrow8
          rw [← HNL.out] at hlk8 hn8 h08 HRW8
          unfold contV at hlk8
          simp only [List.length_cons, List.map_cons] at hlk8 hn8 h08
          unfold maxLen at hm8
          rcases h08 with h08 | ⟨b8, o8, rfl, hT8, hcc8⟩
          ·omega
          have HT8 := Lib.hid (And.intro hT8 hcc8)
          clear hT8 hcc8
          refine wp_region_segs [some 6, none] (by kernel_rfl) (by kernel_rfl) (by kernel_rfl) ?_
          simp only [wpSegs, List.take_succ_cons, List.take_zero, List.drop_succ_cons, List.drop_zero]
          rw [← hV7]
          have d0 := cell20 (k := 0) HY8.out
          have d1 := cell20 (k := 1) HY8.out
          have hltY := lt20 HY8.out
          simp only [List.getElem?_toArray, List.getElem?_cons_succ, List.getElem?_cons_zero] at d0 d1
          clear hV7
          obtain ⟨as9, hsl, has9⟩ := slice_tail b8 o8 pns.length cp8 hn8
          have hsl9 := hsl V7
          have HRT := Lib.hid (row_tail (w := V7) (TS := TS) (cs := pns.map Value.string) (by rw [List.length_map]) hn8 (by unfold maxLen; omega) HT8.out.1 HT8.out.2 has9)
          clear hsl
          repeat (first | (refine seg_skip rfl ?_; simp only [Act.put, List.setIfInBounds_toArray, List.set_cons_succ, List.set_cons_zero]) | (refine seg_run rfl (fun K hK => ?_); go_simp; refine hK _ ?_; clear hK K))
          refine seg_nil ?_
          obtain ⟨w9, hu9, hn9, hg9⟩ := HN8.out.set (fun h => by have h1 := (HTS.out _ h).1; have h2 := HBS.out; omega) (c := (ck, cs)) HCS.out HCW.out HRT.out
          have HN9 := Lib.hid hn9
          have HG9 := Lib.hid hg9
          unfold contV at hu9
          simp only at hu9
          clear hn9 hg9 has9 hsl9 hlk8
          refine bar_run rfl (fun K hK => ?_)
          clear d0 d1 hltY hn8 hm8
          go_upto_region 28 with (fail)
          clear hu9
          have HCU9 := Lib.hid ((HG9.out.block bz (Nat.lt_of_lt_of_le (lt20 HCU7.out) HD7.out.size) (fun e => by have h1 := Option.some.inj e; have h2 := HBZ2.out; omega)).trans ((HD7.out.block bz (lt20 HCU7.out)).trans HCU7.out))
          have hS6 := HLU5.out.G.other HG6.out (by have := HBZ2.out; omega)
          have hS7 := hS6.other HG7.out (by have := HBZ2.out; omega)
          have HS9 := Lib.hid ((hS7.below HD7.out).other HG9.out (fun e => HNE.out.2.2.1 e.symm))
          clear hS6 hS7
          obtain ⟨g, hg, hgp⟩ : ∃ g, mateE (stD a b k).rem y = some g ∧ g.path = pn := by
           have := HST0.out
           cases hg : mateE (stD a b k).rem y with
           | none => rw [hg] at this; cases this
           | some g => rw [hg] at this; exact ⟨g, rfl, by simpa using this⟩
          have HGM := Lib.hid hg
          have HGP := Lib.hid hgp
          have hps : pn.size ≤ maxLen := by
           rw [← hgp, size_bl]
           have h1 := valid_size (vEnt_path (HRV.out g (mate_some hg).1))
           unfold maxLen; omega
          have HPS := Lib.hid hps
          clear hg hgp hps
          have HDEL := Lib.hid (fun ty => HS9.out.del boolTy HPS.out ty)
          have e0 := cell20 (k := 0) HCU9.out
          have e1 := cell20 (k := 1) HCU9.out
          have e2 := cell20 (k := 2) HCU9.out
          have e3 := cell20 (k := 3) HCU9.out
          have e4 := cell20 (k := 4) HCU9.out
          have e5 := cell20 (k := 5) HCU9.out
          have e6 := cell20 (k := 6) HCU9.out
          have e7 := cell20 (k := 7) HCU9.out
          have e8 := cell20 (k := 8) HCU9.out
          have hltZ := lt20 HCU9.out
          simp only [List.getElem?_toArray, List.getElem?_cons_succ, List.getElem?_cons_zero] at e0 e1 e2 e3 e4 e5 e6 e7 e8
          go_upto_region 29 with (at_delete; go_must (refine wpList_delRun rfl _ _ _ _ rfl _ _ rfl rfl (HDEL.out _) ?_); rintro w10 ⟨hm3, hg3⟩; have HS10 := Lib.hid hm3; have HG10 := Lib.hid hg3; clear hm3 hg3 e0 e1 e2 e3 e4 e5 e6 e7 e8 hltZ)
          clear HDEL
          have hgs := HGS.out
          have hb2 := HBZ2.out
          have hlpb := HLP.out.bb
          have hk10 : ∀ k, B2 ≤ k → k ≠ bz → k < W5.heap.size → w10.heap[k]? = W5.heap[k]? := fun k h1 h2 h3 => by
           have s6 := HG6.out.size
           have s7 := HG7.out.size
           have s8 := HD7.out.size
           have s9 := HG9.out.size
           have q6 := HG6.out.block k h3 (fun e => h2 (Option.some.inj e))
           have q7 := HG7.out.block k (by omega) (fun e => h2 (Option.some.inj e))
           have q8 := HD7.out.block k (by omega)
           have q9 := HG9.out.block k (by omega) (fun e => by have := Option.some.inj e; omega)
           have q10 := HG10.out.block k (by omega) (fun e => by have := Option.some.inj e; omega)
           rw [q10, q9, q8, q7, q6]
          have hsz10 : W5.heap.size ≤ w10.heap.size := by
           have s6 := HG6.out.size
           have s7 := HG7.out.size
           have s8 := HD7.out.size
           have s9 := HG9.out.size
           have s10 := HG10.out.size
           omega
          have hbw5 := below_next HBZ.out HW5.out
          have HCU := Lib.hid ((HG10.out.block bz (lt20 HCU9.out) (fun e => by have := Option.some.inj e; omega)).trans HCU9.out)
          have HDU := Lib.hid (data_keep (S' := ApartB wr.heap.size bz w10) (HDZ.out.below HW5.out) (fun k hS hlt => hk10 k (Nat.le_trans hlpb hS.1) hS.2.2 hlt) (fun k hS hlt => ⟨hS.1, Nat.lt_of_lt_of_le hlt hsz10, hS.2.2⟩))
          have HLA := Lib.hid (((((HLU5.out.A.other HG6.out (by omega) (HSN.out _ hb2)).other HG7.out (by omega) (HSN.out _ hb2)).below HD7.out).other HG9.out HNE.out.2.2.2.1 (HSF.out.1 _ HGB.out.2)).other HG10.out HNE.out.1 (HSF.out.1 _ HGB.out.1))
          have HLG := Lib.hid (show SetR w10 gb (hasE (dropE (stD a b k).rem pn)) by rw [has_drop]; exact HS10.out)
          have HLN := Lib.hid (show SrcT TS w10 sb (namesG (dropE (stD a b k).rem pn)) by
           have hN := HN9.out.other HG10.out HNE.out.2.2.1 (fun h => by have h1 := (HTS.out _ h).1; have h2 := HBS.out; omega)
           have hfe : (fun d => if d = (ck, cs) then pns else namesG (stD a b k).rem d) = namesG (dropE (stD a b k).rem pn) := by
            funext d
            rw [← HGP.out, names_drop ((stD_inv (b := b) HTA.out k).rem_nodup HTA.out) HRV.out HVE.out HGM.out d, ← HC.out, ← HNL.out]
            rfl
           rw [← hfe]
           exact hN)
          have HLC := Lib.hid (HLP.out.C.keep (w' := w10) (fun k h1 h2 => (hk10 k h1 (by have := HZL.out; omega) (Nat.lt_of_lt_of_le h2 hbw5.size)).trans (hbw5.block k h2)) (Nat.le_trans hbw5.size hsz10))
          have HLB := Lib.hid (show Below w.heap.size w w10 by
           have h5 := HLU5.out.bel
           have h6 := h5.grown HG6.out h5.size (fun k e => by cases e; have := HWB.out; omega)
           have h7 := h6.grown HG7.out h6.size (fun k e => by cases e; have := HWB.out; omega)
           have h8 := below_next h7 HD7.out
           have h9 := h8.grown HG9.out h8.size (fun k e => by cases e; exact HGB.out.2)
           exact h9.grown HG10.out h9.size (fun k e => by cases e; exact HGB.out.1))
          have HUL := Lib.hid (Nat.le_trans hbw5.size hsz10)
          have HCOK := Lib.hid (show ChgOk ⟨2, y.path, pn, y⟩ from ⟨rfl, HOK.out.pth, HPS.out, HOK.out⟩)
          have HST := Lib.hid (show stepD a (stD a b k) y = ⟨dropE (stD a b k).rem pn, (stD a b k).out ++ [⟨2, y.path, pn, y⟩]⟩ by
           unfold stepD
           rw [HKF.out, HGM.out, ← HGP.out]; rfl)
          clear hk10 hsz10 hbw5 hb2 hlpb
          have e0 := cell20 (k := 0) HCU.out
          have e1 := cell20 (k := 1) HCU.out
          have e2 := cell20 (k := 2) HCU.out
          have e3 := cell20 (k := 3) HCU.out
          have e4 := cell20 (k := 4) HCU.out
          have e5 := cell20 (k := 5) HCU.out
          have e6 := cell20 (k := 6) HCU.out
          have e7 := cell20 (k := 7) HCU.out
          have e8 := cell20 (k := 8) HCU.out
          have hltZ := lt20 HCU.out
          simp only [List.getElem?_toArray, List.getElem?_cons_succ, List.getElem?_cons_zero] at e0 e1 e2 e3 e4 e5 e6 e7 e8
          have hrw9 := HLC.out.row
          have hyl := HYL.out
          have hbu9 := Nat.le_trans HLP.out.bb HUL.out
          go_wp2_with (at_builtin; go_must (refine wpList_app1p Tryz.appChgs rfl _ _ rfl B2 (.slice av ys.length cv) ys.length (chgsC ys) rfl w10 (chgC (.slice a' y.data.length cap') ⟨2, y.path, pn, y⟩) _ rfl rfl chgC_one hrw9 (by omega) hbu9 ?_); intro v8 w8 hown8 hg8 _ hpl8; have HOWN8 := Lib.hid hown8; have HG8 := Lib.hid hg8; have HPL8 := Lib.hid hpl8; clear hown8 hg8 hpl8)
          go_roundw
          case rel =>
           exact ⟨k + 1, ys ++ [(.slice a' y.data.length cap', ⟨2, y.path, pn, y⟩)], by omega, by go_num, HLP.out.push (rem' := (dropE (stD a b k).rem pn)) (c := ⟨2, y.path, pn, y⟩) (x := .slice a' y.data.length cap') (bz := bz) HLA.out HLG.out HLN.out HLC.out HLB.out HAT.out HST.out HOWN8.out HG8.out HPL8.out HDU.out HCOK.out HGS.out HSN.out HTN.out HWB.out HUL.out⟩
          case measure => simp [intOf]; omega
    ·have hk2 : k = m := by omega
     subst hk2
     have HEND := Lib.hid (show LoopD2 S' TS a b w w.heap.size gb sb B2 b.length (.slice av ys.length cv) ys wr by rw [← HM.out]; exact HLP.out)
     clear hk hlt
     obtain ⟨ps, hps1, hps2, hps3⟩ := HEND.out.G
     obtain ⟨mm, hmm⟩ : ∃ mm, mm = ps.map boolP := ⟨_, rfl⟩
     have HMM := Lib.hid hmm
     have HMS := Lib.hid (show MapS Tryz.prog 9 wr gb mm by rw [hmm]; exact hps1)
     have HPSZ := Lib.hid hps2
     have hrp : ps.Perm ((stD a b b.length).rem.map Ent.path) := by
      have hn := hps1.nodup
      rw [List.map_map] at hn
      have hn2 : ps.Nodup := by
       unfold List.Nodup at hn ⊢
       rw [List.pairwise_map] at hn
       exact hn.imp fun h e => h (by rw [e])
      refine (List.perm_ext_iff_of_nodup hn2 ((stD_inv (b := b) HTA.out b.length).rem_nodup HTA.out)).2 fun p => ?_
      rw [hps3, findE_isSome]
     have HRP := Lib.hid hrp
     have HPL := Lib.hid (show ps.length ≤ 4096 by
      have h1 := hrp.length_eq
      have h2 := (stD_inv (b := b) HTA.out b.length).sub.length_le
      have h3 := List.length_filter_le (fun x : Ent => !keptE b x) a
      have h4 := HTA.out.len
      rw [List.length_map] at h1
      unfold goneE at h2
      omega)
     have HOUT := Lib.hid (show ys.map Prod.snd = (diffS a b).out by rw [HEND.out.out, stD_end])
     have HRM := Lib.hid (show (stD a b b.length).rem = (diffS a b).rem by rw [stD_end])
     clear hps1 hps2 hps3 hrp hmm
     have hgsb := HGS.out
     go_wp2_with (at_range; go_must (refine wpList_rangeS rfl _ _ rfl boolTy gb _ rfl HMS.out ?_); intro w0 hrg0 hb0 hs0)
     obtain ⟨r, hr⟩ : ∃ r, r = wr.heap.size := ⟨_, rfl⟩
     rw [← hr] at hrg0 ⊢
     have HR := Lib.hid hr
     have HRG0 := Lib.hid hrg0
     have HB0 := Lib.hid hb0
     have HC0 := Lib.hid (HEND.out.C.below hb0)
     have HBL0 := Lib.hid (below_next HEND.out.bel hb0)
     have HBB0 := Lib.hid (Nat.le_trans HEND.out.bb hb0.size)
     clear hr hs0 hrg0 hb0
     obtain ⟨wo, hwo⟩ : ∃ wo, wo = wr.heap.size := ⟨_, rfl⟩
     rw [← hwo] at HR
     have HWO := Lib.hid (show B2 ≤ wo by rw [hwo]; exact HEND.out.bb)
     clear hwo HLP HEND
     go_frame
     go_loopw [15] (fun v wr => ∃ (vis : List (Value × Value)) (pre : List ByteArray) (zs : List VChg), vis.map Prod.fst = pre.map Value.string ∧ RngS Tryz.prog 9 wr gb r mm vis ∧ GotC B2 wr v zs ∧ zs.map Prod.snd = (diffS a b).out ++ pre.map (fun p => (⟨1, p, noPath, noEnt⟩ : Chg)) ∧ Below w.heap.size w wr ∧ B2 ≤ wr.heap.size) (fun _ wr => wr.rangeLeft gb r)
     case atStart => exact ⟨[], [], ys, rfl, HRG0.out, HC0.out, by rw [HOUT.out]; simp, HBL0.out, HBB0.out⟩
     case round =>
      obtain ⟨vis, pre, zs, hvp, hrg, hgc, hzs, hbl, hbb⟩ := hrel
      have HVP := Lib.hid hvp
      have HRG := Lib.hid hrg
      have HGC := Lib.hid hgc
      have HZS := Lib.hid hzs
      have HBL := Lib.hid hbl
      have HBB := Lib.hid hbb
      obtain ⟨az, cz, hsz, hzn, hzm⟩ := owns_shape hgc.row
      subst hsz
      unfold maxLen at hzm
      have HZL := Lib.hid (show zs.length ≤ 12288 by
       have h1 := congrArg List.length hzs
       have h2 := congrArg List.length HOUT.out
       have h3 := HYL.out
       have h4 := HPL.out
       have h5 := hrg.left
       rw [HMM.out, List.length_map] at h5
       have h6 := congrArg List.length hvp
       rw [List.length_map] at h1 h2
       rw [List.length_map, List.length_map] at h6
       rw [List.length_append, List.length_map] at h1
       omega)
      clear hvp hrg hgc hzs hbl hbb
      go_wp2_with (at_next; go_must (refine wpList_nextS rfl _ rfl gb r _ _ rfl HRG.out ?_ ?_))
      ·intro hdone
       have HDN := Lib.hid hdone
       clear hdone
       have hpp : pre.Perm ((diffS a b).rem.map Ent.path) := by
        rw [← HRM.out]
        refine List.Perm.trans (str_perm ?_) HRP.out
        rw [← HVP.out]
        have := HDN.out.map Prod.fst
        rw [HMM.out, List.map_map] at this
        exact this
       have hpM : (zs.map Prod.snd).Perm (diffP a b) := by
        rw [HZS.out]
        refine List.Perm.trans ?_ (diff_perm HTA.out)
        refine List.Perm.append_left _ ?_
        have := hpp.map (fun p => (⟨1, p, noPath, noEnt⟩ : Chg))
        rwa [List.map_map] at this
       have HPM := Lib.hid hpM
       have hds := diff_sorted HTA.out HTB.out
       have HDS := Lib.hid hds
       have HSRT := Lib.hid (sortC_any B2 (.slice az zs.length cz) zs wr HGC.out (fun y hy => diff_kinds HTA.out y.2 (hpM.subset (List.mem_map_of_mem hy))) (chg_inj hpM hds) (diffP a b) hpM hds (by have := HZL.out; omega) HBB.out)
       clear hpp hpM hds
       go_wp2_with (go_at_call 69; refine HSRT.out.mono ?_; rintro e9 w9 ⟨rfl, zt, hzt, hgt, hbt⟩; have HZT := Lib.hid hzt; have HGT := Lib.hid hgt; have HBT := Lib.hid hbt; clear hzt hgt hbt)
       go_ret
       exact ⟨.slice az zs.length cz, zt, rfl, HZT.out, HGT.out.le HWB.out, HBL.out.trans (HBT.out.mono HWB.out)⟩
      ·intro key v1 w1 hmem hnew hrg1 hg1 hs1 hen
       obtain ⟨x, hx, rfl⟩ := fst_mem (m := mm) (ks := ps) (by rw [HMM.out, List.map_map]; rfl) hmem
       have HX := Lib.hid (HPSZ.out x hx)
       have HRG1 := Lib.hid hrg1
       have HG1 := Lib.hid hg1
       have HLEFT := Lib.hid HRG.out.left
       obtain ⟨es, clock, since, seen, c0, -, -, -, -, hri, -⟩ := HRG.out
       have HC1 := Lib.hid (HGC.out.turn hg1 ⟨_, hri, rfl⟩)
       have HBL1 := Lib.hid (HBL.out.grown hg1 HBL.out.size (fun k e => by cases e; have h1 := HR.out; have h2 := HWO.out; have h3 := HWB.out; omega))
       have hbb1 : B2 ≤ w1.heap.size := Nat.le_trans HBB.out hg1.size
       have HBB1 := Lib.hid hbb1
       clear hmem hnew hrg1 hg1 hs1 hx hri
       have hrw9 := HC1.out.row
       have hzl := HZL.out
       go_wp2_with (at_builtin; go_must (refine wpList_app1p Tryz.appChgs rfl _ _ rfl B2 (.slice az zs.length cz) zs.length (chgsC zs) rfl w1 (chgC (.slice none 0 0) ⟨1, x, noPath, noEnt⟩) _ rfl rfl chgC_one hrw9 (by omega) hbb1 ?_); intro v8 w8 hown8 hg8 _ hpl8; have HOWN8 := Lib.hid hown8; have HG8 := Lib.hid hg8; have HPL8 := Lib.hid hpl8; clear hown8 hg8 hpl8)
       go_roundw
       case rel =>
        have hkw : KeepsWalks w1 w8 := KeepsWalks.of_grownBy HG8.out fun j o e ho => by
         obtain ⟨cur, hcur⟩ := own_block HC1.out.row e
         rw [hcur] at ho; cases ho; rfl
        refine ⟨vis ++ [(.string x, v1)], pre ++ [x], zs ++ [(.slice none 0 0, ⟨1, x, noPath, noEnt⟩)], by rw [List.map_append, List.map_append, HVP.out]; rfl, HRG1.out.walks hkw, ?_, ?_, ?_, Nat.le_trans HBB1.out HG8.out.size⟩
        ·exact HC1.out.push (y := (.slice none 0 0, ⟨1, x, noPath, noEnt⟩)) (DataAt.nil _ _) ⟨rfl, HX.out, (show (⟨#[]⟩ : ByteArray).size ≤ maxLen by decide), (show EntOk noEnt from ⟨by decide, by decide, by decide, by decide, by decide⟩)⟩ HOWN8.out HG8.out HPL8.out
        ·rw [List.map_append, HZS.out, List.map_append, List.append_assoc]; rfl
        ·exact HBL1.out.grown HG8.out HBL1.out.size (fun k e => by have h1 := (own_lt HC1.out.row e).1; have h2 := HWB.out; omega)
       case measure =>
        have hkw : KeepsWalks w1 w8 := KeepsWalks.of_grownBy HG8.out fun j o e ho => by
         obtain ⟨cur, hcur⟩ := own_block HC1.out.row e
         rw [hcur] at ho; cases ho; rfl
        have h1 := (HRG1.out.walks hkw).left
        have h2 := HLEFT.out
        simp only [List.length_append, List.length_singleton] at h1
        omega
end Go.Proofs.YtdieneaillkbgaaGreatDoor

/- Contracts of package treediff: Diff, Invert, Compose. -/
namespace Go.Proofs.YtdieneaillkbgaaGreatDoor
open Go.RowKit Go.Maps
def diffQ (a b : List Ent) : List Chg × Int := if checkP a ≠ 0 then ([], checkP a) else if checkP b ≠ 0 then ([], checkP b) else (diffP a b, 0)
/-- What answers a list of changes. -/
def ChgRes (r : List Chg × Int) (w : World) (e : Ending) (w' : World) : Prop :=
  ∃ v ys, e = .returned (.tuple #[v, .int .i64 r.2]) ∧ ys.map Prod.snd = r.1 ∧ GotC w.heap.size w' v ys ∧ Below w.heap.size w w'
theorem chg_err {r : List Chg × Int} {w w' : World} {n : Int} (h : r = ([], n)) (hb : Below w.heap.size w w') : ChgRes r w (.returned (.tuple #[.slice none 0 0, .int .i64 n])) w' :=
  ⟨_, [], by rw [h], by rw [h]; rfl, GotC.nil _ _, hb⟩
theorem chg_got {r : List Chg × Int} {w w' : World} {v : Value} {ys : List VChg} {l : List Chg} (h : r = (l, 0)) (hy : ys.map Prod.snd = l) (hg : GotC w.heap.size w' v ys) (hb : Below w.heap.size w w') : ChgRes r w (.returned (.tuple #[v, .int .i64 0])) w' :=
  ⟨_, ys, by rw [h], by rw [h]; exact hy, hg, hb⟩
set_option maxRecDepth 100000 in
set_option maxHeartbeats 2000000 in
theorem diff_any (S T : Nat → Prop) (a b : List Ent) (va vb : Value) (w : World) (ha : EntsAt S w va a) (hb : EntsAt T w vb b) (henv : Env w) :
    Calls Tryz.prog 15 #[va, vb] w (ChgRes (diffQ a b) w) := by
  have HA := Lib.hid ha
  have HB := Lib.hid hb
  have HE := Lib.hid henv
  obtain ⟨x, hx⟩ : ∃ x, x = checkP a := ⟨_, rfl⟩
  obtain ⟨y, hy⟩ : ∃ y, y = checkP b := ⟨_, rfl⟩
  have hca := check_any S a va w ha henv
  rw [← hx] at hca
  have hcb := fun W (hW : Below w.heap.size w W) => check_any T b vb W (hb.below hW) (henv.below hW)
  rw [← hy] at hcb
  have HCB := Lib.hid hcb
  have HX := Lib.hid hx
  have HY := Lib.hid hy
  clear ha hb henv hx hy hcb
  by_cases h0 : x = 0
  · subst h0
    go_enter Tryz.func15, Tryz.ntmps15
    go_wp2_with fail
    refine hca.mono ?_
    rintro e w1 ⟨rfl, hb1⟩
    have HB1 := Lib.hid hb1
    clear hb1 hca
    by_cases h1 : y = 0
    · subst h1
      have HR := Lib.hid (show diffQ a b = (diffP a b, 0) by unfold diffQ; rw [← HX.out, ← HY.out]; rfl)
      go_wp2_with fail
      refine (HCB.out w1 HB1.out).mono ?_
      rintro e w2 ⟨rfl, hb2⟩
      have HB2 := Lib.hid (below_next HB1.out hb2)
      clear hb2
      go_wp2_with fail
      refine (difference_any S T a b va vb w2 (HA.out.below HB2.out) (HB.out.below HB2.out) (checkP_iff.1 HX.out.symm) (checkP_iff.1 HY.out.symm)).mono ?_
      rintro e w3 ⟨v, ys, rfl, hys, hg, hb3⟩
      have HYS := Lib.hid hys
      have HG := Lib.hid (hg.le HB2.out.size)
      have HB3 := Lib.hid (below_next HB2.out hb3)
      clear hys hg hb3
      go_wp2_with fail
      go_ret2
      exact chg_got HR.out HYS.out HG.out HB3.out
    · have HR := Lib.hid (show diffQ a b = ([], y) by unfold diffQ; rw [← HX.out, ← HY.out, if_neg (by simp), if_pos h1])
      have e1 : (y != 0) = true := by simp [h1]
      clear h1
      go_wp2_with fail
      refine (HCB.out w1 HB1.out).mono ?_
      rintro e w2 ⟨rfl, hb2⟩
      have HB2 := Lib.hid (below_next HB1.out hb2)
      clear hb2
      go_wp2_with fail
      go_ret2
      exact chg_err HR.out HB2.out
  · have HR := Lib.hid (show diffQ a b = ([], x) by unfold diffQ; rw [← HX.out, if_pos h0])
    have e1 : (x != 0) = true := by simp [h0]
    clear h0
    go_enter Tryz.func15, Tryz.ntmps15
    go_wp2_with fail
    refine hca.mono ?_
    rintro e w1 ⟨rfl, hb1⟩
    have HB1 := Lib.hid hb1
    clear hb1 hca
    go_wp2_with fail
    go_ret2
    exact chg_err HR.out HB1.out
theorem apply_flat (S T : Nat → Prop) (a : List Ent) (cs : List Chg) (va vl : Value) (w : World) (m : List Ent) (x : Int) (hr : applyP a cs = (m, x)) (ha : EntsAt S w va a) (hl : ChgsAt T w vl cs) (hlen : a.length + cs.length ≤ 4096) (henv : Env w) :
    Calls Tryz.prog 30 #[va, vl] w fun e w' => ∃ v ys, e = .returned (.tuple #[v, .int .i64 x]) ∧ ys.map Prod.snd = m ∧ GotE w.heap.size w' v ys ∧ Below w.heap.size w w' := by
  have := apply_any S T a cs va vl w ha hl hlen henv
  unfold AppRes at this
  rw [hr] at this
  exact this
end Go.Proofs.YtdieneaillkbgaaGreatDoor

/- (*strings.Builder).WriteString: its laying in this program, its contract. -/
namespace Go.Proofs.YtdieneaillkbgaaGreatDoor
open Go Go.RowKit Go.Shelf
def Tryz.bldRen : Go.Shelf.Ren := ⟨fun | 166 => 56 | 240 => 82 | 276 => 96 | n => n,
  fun | 0 => 0 | 3 => 3 | 4 => 4 | 5 => 5 | 9 => 9 | 20 => 20 | 37 => 46 | 70 => 89 | 72 => 91 | 75 => 93 | 80 => 96 | 127 => 123 | 164 => 133 | n => n, fun | n => n⟩
theorem Tryz.laysBld : Lays.n166 Tryz.prog Tryz.bldRen := {
  mixed := by kernel_rfl
  f166 := Tryz.func56.trans (congrArg some (by kernel_rfl))
  f240 := Tryz.func82.trans (congrArg some (by kernel_rfl))
  f276 := Tryz.func96.trans (congrArg some (by kernel_rfl))
  t0 := Tryz.underlying0
  a0 := Tryz.isAgg0
  z0 := Tryz.sizeOf0
  v0 := Tryz.zeroValue0
  t3 := Tryz.underlying3
  a3 := Tryz.isAgg3
  z3 := Tryz.sizeOf3
  v3 := Tryz.zeroValue3
  t4 := Tryz.underlying4
  a4 := Tryz.isAgg4
  z4 := Tryz.sizeOf4
  v4 := Tryz.zeroValue4
  t9 := Tryz.underlying9
  a9 := Tryz.isAgg9
  z9 := Tryz.sizeOf9
  v9 := Tryz.zeroValue9
  t20 := Tryz.underlying20
  a20 := Tryz.isAgg20
  z20 := Tryz.sizeOf20
  v20 := Tryz.zeroValue20
  t37 := Tryz.underlying46
  a37 := Tryz.isAgg46
  z37 := Tryz.sizeOf46
  v37 := Tryz.zeroValue46
  t70 := Tryz.underlying89
  a70 := Tryz.isAgg89
  z70 := Tryz.sizeOf89
  v70 := Tryz.zeroValue89
  t72 := Tryz.underlying91
  a72 := Tryz.isAgg91
  z72 := Tryz.sizeOf91
  v72 := Tryz.zeroValue91
  t75 := Tryz.underlying93
  a75 := Tryz.isAgg93
  z75 := Tryz.sizeOf93
  v75 := Tryz.zeroValue93
  t164 := Tryz.underlying133
  a164 := Tryz.isAgg133
  z164 := Tryz.sizeOf133
  v164 := Tryz.zeroValue133 }
theorem Tryz.bldExtra : Builder.Extra Tryz.prog Tryz.bldRen := {
  sizeBuilder := by kernel_rfl
  liesBuilder := by kernel_rfl
  t5 := Tryz.underlying5
  a5 := Tryz.isAgg5
  z5 := Tryz.sizeOf5
  v5 := Tryz.zeroValue5
  infoByte := by kernel_rfl
  cellsByte := by kernel_rfl
  sizeByte := by kernel_rfl
  neB5 := by decide }
theorem writeS_any (B b : Nat) (bs : List Value) (s : ByteArray) (w : World) (h : Lib.IsBuilderF 91 5 B b bs w) (hlen : bs.length + s.size ≤ 140737488355328) (hBw : B ≤ w.heap.size) :
    Calls Tryz.prog 56 #[.pointer (some ⟨b, 0, none⟩), .string s] w fun e w' => e = .returned (.tuple #[.int .i64 s.size, .nilIface]) ∧ (Lib.BuilderAtF 91 5 B b (.pointer (some ⟨b, 0, none⟩)) (bs ++ Lib.strCells s) w' ∧ Below B w w' ∧ Lib.OthersKept 5 (some b) w w') :=
  Any.Builder_WriteString_k Tryz.laysBld Tryz.bldExtra B b bs s w h hlen hBw
end Go.Proofs.YtdieneaillkbgaaGreatDoor
