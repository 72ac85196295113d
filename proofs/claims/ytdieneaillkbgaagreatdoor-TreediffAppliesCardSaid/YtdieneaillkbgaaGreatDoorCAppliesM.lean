/- TreediffApplies: for every input the law returns true, and each argument reads afterwards as it read before (the tied card). -/
import Derived.Test.YtdieneaillkbgaaGreatDoorCAppliesH
/- The reference kinkeepref23: Apply. -/
namespace Go.Proofs.YtdieneaillkbgaaGreatDoor
open Go Go.RowKit Go.Maps
theorem take_go {a left : List Ent} {cs : List Chg} {k : Nat} {c : Chg} (h : cs[k]? = some c) : takeR a left (cs.drop k) = if 2 < c.kind then takeR a left (cs.drop (k + 1)) else
    if (!hasE left (if c.kind = 2 then c.src else c.path) || (decide (c.kind = 2) && !alikeE (atE a (if c.kind = 2 then c.src else c.path)) c.en)) = true then none else takeR a (dropE left (if c.kind = 2 then c.src else c.path)) (cs.drop (k + 1)) := by
  obtain ⟨hk, rfl⟩ := List.getElem?_eq_some_iff.1 h
  rw [List.drop_eq_getElem_cons hk, takeR]
/-- What Apply answers. -/
def ApRes (a : List Ent) (cs : List Chg) (w : World) (e : Ending) (w' : World) : Prop := ∃ v, e = .returned (.tuple #[v, .int .i64 (applyR a cs).2]) ∧ EntsAt (fun _ => True) w' v (applyR a cs).1 ∧ Shp v ∧ ((applyR a cs).1.length ≤ a.length + cs.length ∧ ∀ e ∈ (applyR a cs).1, e.path.size ≤ 65000) ∧ Below w.heap.size w w'
theorem ap_err {a : List Ent} {cs : List Chg} {w w' : World} {k : Int} (h : applyR a cs = ([], k)) (hb : Below w.heap.size w w') : ApRes a cs w (.returned (.tuple #[.slice none 0 0, .int .i64 k])) w' :=
  ⟨.slice none 0 0, by rw [h], by rw [h]; exact EntsAt.nil _ _, .inl rfl, by rw [h]; exact ⟨Nat.zero_le _, by simp⟩, hb⟩
theorem ap_ok {a L : List Ent} {cs : List Chg} {w w' : World} {v : Value} (h : applyR a cs = (L, 0)) (hl : EntsAt (fun _ => True) w' v L) (hs : Shp v) (hp : L.length ≤ a.length + cs.length ∧ ∀ e ∈ L, e.path.size ≤ 65000) (hb : Below w.heap.size w w') : ApRes a cs w (.returned (.tuple #[v, .int .i64 0])) w' :=
  ⟨v, by rw [h], by rw [h]; exact hl, hs, by rw [h]; exact hp, hb⟩
structure LoopT (a : List Ent) (cs : List Chg) (w : World) (k : Nat) (v : Value) (left : List Ent) (wr : World) : Prop where
  res : takeR a a cs = takeR a left (cs.drop k)
  lies : EntsAt (fun _ => True) wr v left
  shp : Shp v
  sub : left.Sublist a
  bel : Below w.heap.size w wr
theorem put_go {left out : List Ent} {cs : List Chg} {k : Nat} {c : Chg} (h : cs[k]? = some c) : putsR left out (cs.take k) (cs.drop k) =
    if c.kind = 2 ∨ c.kind = 3 then (if hasE out c.path = true then none else putsR left (insF out c.en) (cs.take (k + 1)) (cs.drop (k + 1)))
    else if c.kind = 4 then
      (if (cs.take k).any (fun x => decide (x.kind = 4) && decide (x.path = c.path)) = true then none
       else if (atE left c.path).kind ≠ c.en.kind then none
       else putsR left (insF (dropE out c.path) c.en) (cs.take (k + 1)) (cs.drop (k + 1)))
    else putsR left out (cs.take (k + 1)) (cs.drop (k + 1)) := by
  obtain ⟨hk, rfl⟩ := List.getElem?_eq_some_iff.1 h
  have ht : cs.take (k + 1) = cs.take k ++ [cs[k]] := by rw [List.take_add_one, h]; rfl
  rw [List.drop_eq_getElem_cons hk, putsR, ht]
structure LoopU (N : Nat) (left : List Ent) (cs : List Chg) (w : World) (k : Nat) (v : Value) (out : List Ent) (wr : World) : Prop where
  res : putsR left left [] cs = putsR left out (cs.take k) (cs.drop k)
  lies : EntsAt (fun _ => True) wr v out
  shp : Shp v
  len : out.length ≤ N + k
  pth : ∀ e ∈ out, e.path.size ≤ 65000
  bel : Below w.heap.size w wr
theorem no_more {cs : List Chg} {j : Nat} {x : Chg} {P : Chg → Prop} (h : ∀ z ∈ cs.take j, ¬ P z) (hx : cs[j]? = some x) (hn : ¬ P x) : ∀ z ∈ cs.take (j + 1), ¬ P z := fun z hz => by
  rw [List.take_add_one, hx] at hz
  rcases List.mem_append.1 hz with hz | hz
  · exact h z hz
  · rw [show z = x by simpa using hz]; exact hn
theorem ins_len (L : List Ent) (e : Ent) : (insF L e).length = L.length + 1 := by rw [(insF_perm L e).length_eq]; rfl
theorem ins_pth {L : List Ent} {e : Ent} {N : Nat} (h : ∀ x ∈ L, x.path.size ≤ N) (he : e.path.size ≤ N) : ∀ x ∈ insF L e, x.path.size ≤ N := fun x hx => by
  rcases List.mem_cons.1 ((insF_perm L e).mem_iff.1 hx) with rfl | hx
  · exact he
  · exact h x hx
theorem ap_puts {a left : List Ent} {cs : List Chg} (hall : ∀ c ∈ cs, chgOk c = true) (ht : takeR a a cs = some left) (hp : putsR left left [] cs = none) : applyR a cs = ([], 13) := by
  unfold applyR
  rw [if_neg (by rw [Bool.not_eq_false, List.all_eq_true]; exact hall), ht]
  simp only [hp]
set_option maxRecDepth 100000 in
set_option maxHeartbeats 40000000 in
theorem r_apply_any (S T : Nat → Prop) (a : List Ent) (cs : List Chg) (va vl : Value) (w : World) (ha : EntsAt S w va a) (hsa : Shp va) (hl : ChgsAt T w vl cs) (hna : a.length ≤ 4096) (hnc : cs.length ≤ 4096)
  (hpa : ∀ e ∈ a, e.path.size ≤ 65000) (hpc : ∀ c ∈ cs, c.path.size ≤ 65000 ∧ c.src.size ≤ 65000 ∧ c.en.path.size ≤ 65000) : Calls Tryz.prog 35 #[va, vl] w (ApRes a cs w) := by
 have HA := Lib.hid (ents_old ha)
 have HL := Lib.hid (chgs_old hl)
 have HSA := Lib.hid hsa
 have HPA := Lib.hid hpa
 have HPC := Lib.hid hpc
 have HNA := Lib.hid hna
 obtain ⟨aa, ca, rfl, hca, hma, -⟩ := SeqAt.shape ha EntR.len
 obtain ⟨al, cl, rfl, hc, hm⟩ := chgs_shape hl
 obtain ⟨n, hn⟩ : ∃ n, n = cs.length := ⟨_, rfl⟩
 rw [← hn] at hc HL hl hnc ⊢
 have HN := Lib.hid hn
 unfold maxLen at hm hma
 clear ha hl hn hsa hpa hpc hna
 go_enter Tryz.func35, Tryz.ntmps35
 go_wp2_with fail
 go_loopw [18] (fun i wr => ∃ k : Nat, k ≤ n ∧ i = .int .i64 k ∧ (∀ c ∈ cs.take k, chgOk c = true) ∧ Below w.heap.size w wr) (fun i _ => n - (intOf i).toNat)
 case atStart => exact ⟨0, Nat.zero_le _, rfl, by simp, Below.refl _ _⟩
 case round =>
  obtain ⟨k, hk, rfl, hok0, hbr⟩ := hrel
  have HOK0 := Lib.hid hok0
  have HBR := Lib.hid hbr
  clear hok0 hbr
  by_cases hlt : k < n
  ·obtain ⟨c, hcc⟩ : ∃ c, cs[k]? = some c := ⟨cs[k]'(by rw [← HN.out]; exact hlt), by simp⟩
   have HCP := Lib.hid (HPC.out c (List.mem_of_getElem? hcc))
   obtain ⟨b, o, dv, rfl, hb, hd, hok, hq⟩ := chgs_at (HL.out.below HBR.out) hcc
   have HAT := Lib.hid hcc
   have HD := Lib.hid hd
   have HOK := Lib.hid hok
   obtain ⟨a1, cap1, rfl, hd1, hd2⟩ := hd.slice
   unfold maxLen at hd2
   have c0 := (hq 0 (by omega)).trans rfl
   have c1 := (hq 1 (by omega)).trans rfl
   have c2 := (hq 2 (by omega)).trans rfl
   have c3 := (hq 3 (by omega)).trans rfl
   have c4 := (hq 4 (by omega)).trans rfl
   have c5 := (hq 5 (by omega)).trans rfl
   have c6 := (hq 6 (by omega)).trans rfl
   have c7 := (hq 7 (by omega)).trans rfl
   have c8 := (hq 8 (by omega)).trans rfl
   simp only [chgC, List.getElem?_cons_succ, List.getElem?_cons_zero, Nat.add_zero] at c0 c1 c2 c3 c4 c5 c6 c7 c8
   clear hcc hd hok hq
   go_upto_region 4 with (fail)
   obtain ⟨W, hW⟩ : ∃ W : World, W = wr.alloc (.cells #[.int .i64 c.kind, .string c.path, .string c.src, .string c.en.path, .int .i64 c.en.kind, .int .i64 c.en.mode, .int .i64 c.en.time, .slice a1 c.en.data.length cap1, .string c.en.link] 50) := ⟨_, rfl⟩
   rw [← hW]
   have HW := Lib.hid (show Below wr.heap.size wr W by rw [hW]; exact (Below.refl _ _).alloc (Nat.le_refl _) _)
   have HX := Lib.hid (show W.heap[wr.heap.size]? = some (.cells #[.int .i64 c.kind, .string c.path, .string c.src, .string c.en.path, .int .i64 c.en.kind, .int .i64 c.en.mode, .int .i64 c.en.time, .slice a1 c.en.data.length cap1, .string c.en.link] 50 (0, 0)) by rw [hW]; exact new20 wr _)
   clear hW c0 c1 c2 c3 c4 c5 c6 c7 c8
   have c0 := cell20 (k := 0) HX.out
   have c1 := cell20 (k := 1) HX.out
   have c2 := cell20 (k := 2) HX.out
   have c3 := cell20 (k := 3) HX.out
   have c4 := cell20 (k := 4) HX.out
   have c5 := cell20 (k := 5) HX.out
   have c6 := cell20 (k := 6) HX.out
   have c7 := cell20 (k := 7) HX.out
   have c8 := cell20 (k := 8) HX.out
   have hltX := lt20 HX.out
   simp only [List.getElem?_toArray, List.getElem?_cons_succ, List.getElem?_cons_zero] at c0 c1 c2 c3 c4 c5 c6 c7 c8
   have HBW := Lib.hid (below_next HBR.out HW.out)
   have hval := r_validC_any _ c (.slice a1 c.en.data.length cap1) W (HD.out.below HW.out) HOK.out (by have := HCP.out; omega)
   unfold chgV at hval
   cases hv : chgOk c with
   | false =>
    have HR := Lib.hid (show applyR a cs = ([], 1) by
     unfold applyR
     rw [if_pos]
     rw [← Bool.not_eq_true, List.all_eq_true]
     intro h
     rw [h c (List.mem_of_getElem? HAT.out)] at hv
     cases hv)
    rw [hv] at hval
    clear hv
    go_wp2_with (go_at_call 27; refine hval.mono ?_; rintro e5 w5 ⟨rfl, hb5⟩; have HB5 := Lib.hid (below_next HBW.out hb5); clear hb5 hval c0 c1 c2 c3 c4 c5 c6 c7 c8 hltX)
    go_ret2
    exact ap_err HR.out HB5.out
   | true =>
    have HON := Lib.hid (show ∀ x ∈ cs.take (k + 1), chgOk x = true from fun x hx => by
     rw [List.take_add_one, HAT.out] at hx
     rcases List.mem_append.1 hx with hx | hx
     ·exact HOK0.out x hx
     ·rw [show x = c by simpa using hx]; exact hv)
    rw [hv] at hval
    clear hv
    go_wp2_with (go_at_call 27; refine hval.mono ?_; rintro e5 w5 ⟨rfl, hb5⟩; have HB5 := Lib.hid (below_next HBW.out hb5); clear hb5 hval c0 c1 c2 c3 c4 c5 c6 c7 c8 hltX)
    go_roundw
    case rel => exact ⟨k + 1, by omega, by go_num, HON.out, HB5.out⟩
    case measure => simp [intOf]; omega
  ·have hk2 : k = n := by omega
   have HALL := Lib.hid (show ∀ c ∈ cs, chgOk c = true by
    have h1 := HOK0.out
    rw [hk2, HN.out, List.take_length] at h1
    exact h1)
   clear hk2 HOK0
   go_wp2_with fail
   go_loopw [8, 29] (fun v i wr => ∃ (k : Nat) (left : List Ent), k ≤ n ∧ i = .int .i64 k ∧ LoopT a cs w k v left wr) (fun _ i _ => n - (intOf i).toNat)
   case atStart => exact ⟨0, a, Nat.zero_le _, rfl, ⟨by rw [List.drop_zero], ents_all (HA.out.below HBR.out), HSA.out, List.Sublist.refl _, HBR.out⟩⟩
   case round =>
    obtain ⟨k, left, hk, rfl, hlp⟩ := hrel
    have HLP := Lib.hid hlp
    have HLL := Lib.hid (show left.length ≤ 65536 by have := hlp.sub.length_le; have := HNA.out; omega)
    clear hlp HBR
    by_cases hlt : k < n
    ·obtain ⟨c, hcc⟩ : ∃ c, cs[k]? = some c := ⟨cs[k]'(by rw [← HN.out]; exact hlt), by simp⟩
     have hcok := HALL.out c (List.mem_of_getElem? hcc)
     have HTG := Lib.hid (take_go (a := a) (left := left) hcc)
     obtain ⟨b, o, dv, rfl, hb, hd, hok, hq⟩ := chgs_at (HL.out.below HLP.out.bel) hcc
     have HAT := Lib.hid hcc
     have HD := Lib.hid hd
     have HOK := Lib.hid hok
     obtain ⟨a1, cap1, rfl, hd1, hd2⟩ := hd.slice
     unfold maxLen at hd2
     have c0 := (hq 0 (by omega)).trans rfl
     have c1 := (hq 1 (by omega)).trans rfl
     have c2 := (hq 2 (by omega)).trans rfl
     have c3 := (hq 3 (by omega)).trans rfl
     have c4 := (hq 4 (by omega)).trans rfl
     have c5 := (hq 5 (by omega)).trans rfl
     have c6 := (hq 6 (by omega)).trans rfl
     have c7 := (hq 7 (by omega)).trans rfl
     have c8 := (hq 8 (by omega)).trans rfl
     simp only [chgC, List.getElem?_cons_succ, List.getElem?_cons_zero, Nat.add_zero] at c0 c1 c2 c3 c4 c5 c6 c7 c8
     clear hcc hd hok hq
     go_upto_region 11 with (fail)
     obtain ⟨W, hW⟩ : ∃ W : World, W = wr.alloc (.cells #[.int .i64 c.kind, .string c.path, .string c.src, .string c.en.path, .int .i64 c.en.kind, .int .i64 c.en.mode, .int .i64 c.en.time, .slice a1 c.en.data.length cap1, .string c.en.link] 50) := ⟨_, rfl⟩
     rw [← hW]
     have HW := Lib.hid (show Below wr.heap.size wr W by rw [hW]; exact (Below.refl _ _).alloc (Nat.le_refl _) _)
     have HX := Lib.hid (show W.heap[wr.heap.size]? = some (.cells #[.int .i64 c.kind, .string c.path, .string c.src, .string c.en.path, .int .i64 c.en.kind, .int .i64 c.en.mode, .int .i64 c.en.time, .slice a1 c.en.data.length cap1, .string c.en.link] 50 (0, 0)) by rw [hW]; exact new20 wr _)
     clear hW c0 c1 c2 c3 c4 c5 c6 c7 c8
     have c0 := cell20 (k := 0) HX.out
     have c1 := cell20 (k := 1) HX.out
     have c2 := cell20 (k := 2) HX.out
     have c3 := cell20 (k := 3) HX.out
     have c4 := cell20 (k := 4) HX.out
     have c5 := cell20 (k := 5) HX.out
     have c6 := cell20 (k := 6) HX.out
     have c7 := cell20 (k := 7) HX.out
     have c8 := cell20 (k := 8) HX.out
     have hltX := lt20 HX.out
     simp only [List.getElem?_toArray, List.getElem?_cons_succ, List.getElem?_cons_zero] at c0 c1 c2 c3 c4 c5 c6 c7 c8
     have HBW := Lib.hid (below_next HLP.out.bel HW.out)
     obtain ⟨cb, hcb⟩ : ∃ z, z = wr.heap.size := ⟨_, rfl⟩
     rw [← hcb] at HX c0 c1 c2 c3 c4 c5 c6 c7 c8 hltX ⊢
     clear hcb
     by_cases hk3 : 2 < c.kind
     ·have hg : decide (2 < c.kind) = true := by simp [hk3]
      have hne2 : (c.kind == 2) = false := by rw [beq_eq_false_iff_ne]; omega
      have HRE := Lib.hid (show takeR a a cs = takeR a left (cs.drop (k + 1)) by rw [HLP.out.res, HTG.out, if_pos hk3])
      go_wp2_with fail
      go_roundw
      case rel => exact ⟨k + 1, left, by omega, by go_num, ⟨HRE.out, HLP.out.lies.below HW.out, HLP.out.shp, HLP.out.sub, HBW.out⟩⟩
      case measure => simp [intOf]; omega
     ·have hg : decide (2 < c.kind) = false := by simp; omega
      have HK3 := Lib.hid hk3
      clear hk3
      by_cases hk2 : c.kind = 2
      ·have he2 : (c.kind == 2) = true := by simp [hk2]
       have HK2 := Lib.hid hk2
       clear hk2
       go_upto_region 15 with (fail)
       clear c0 c1 c2 c3 c4 c5 c6 c7 c8 hltX
       refine hld_start (fun w' => w'.cell? ⟨cb, 0, none⟩ = some (.int .i64 c.kind) ∧ w'.cell? ⟨cb, 1, none⟩ = some (.string c.path) ∧ w'.cell? ⟨cb, 2, none⟩ = some (.string c.src) ∧ w'.cell? ⟨cb, 3, none⟩ = some (.string c.en.path) ∧ w'.cell? ⟨cb, 4, none⟩ = some (.int .i64 c.en.kind) ∧ w'.cell? ⟨cb, 5, none⟩ = some (.int .i64 c.en.mode) ∧ w'.cell? ⟨cb, 6, none⟩ = some (.int .i64 c.en.time) ∧ w'.cell? ⟨cb, 7, none⟩ = some (.slice a1 c.en.data.length cap1) ∧ w'.cell? ⟨cb, 8, none⟩ = some (.string c.en.link)) (by kernel_rfl) ?_
       obtain ⟨V, hV⟩ : ∃ V : World, V = (W).drew := ⟨_, rfl⟩
       rw [← hV]
       have HV := Lib.hid (show Below (W).heap.size (W) V by rw [hV]; exact bel_drew)
       have HXV := Lib.hid ((HV.out.block _ (lt20 HX.out)).trans HX.out)
       have HBV := Lib.hid (below_next HBW.out HV.out)
       clear hV
       have c0 := cell20 (k := 0) HXV.out
       have c1 := cell20 (k := 1) HXV.out
       have c2 := cell20 (k := 2) HXV.out
       have c3 := cell20 (k := 3) HXV.out
       have c4 := cell20 (k := 4) HXV.out
       have c5 := cell20 (k := 5) HXV.out
       have c6 := cell20 (k := 6) HXV.out
       have c7 := cell20 (k := 7) HXV.out
       have c8 := cell20 (k := 8) HXV.out
       have hltX := lt20 HXV.out
       simp only [List.getElem?_toArray, List.getElem?_cons_succ, List.getElem?_cons_zero] at c0 c1 c2 c3 c4 c5 c6 c7 c8
       have hS1 := And.intro c0 (And.intro c1 (And.intro c2 (And.intro c3 (And.intro c4 (And.intro c5 (And.intro c6 (And.intro c7 c8)))))))
       clear c0 c1 c2 c3 c4 c5 c6 c7 c8 hltX
       refine hld_take 0 rfl (by kernel_rfl) (by kernel_rfl) (by kernel_rfl) (fun _ _ _ h => h) rfl hS1 (by rintro w' ⟨hw0, hw1, hw2, hw3, hw4, hw5, hw6, hw7, hw8⟩; go_simp; rfl) ?_
       simp only [Act.put, List.setIfInBounds_toArray, List.set_cons_succ, List.set_cons_zero]
       refine hld_take 1 rfl (by kernel_rfl) (by kernel_rfl) (by kernel_rfl) (fun _ _ _ h => h) rfl hS1 (by rintro w' ⟨hw0, hw1, hw2, hw3, hw4, hw5, hw6, hw7, hw8⟩; go_simp; rfl) ?_
       simp only [Act.put, List.setIfInBounds_toArray, List.set_cons_succ, List.set_cons_zero]
       refine hld_bar 2 rfl (by kernel_rfl) rfl (fun K hK => ?_)
       rcases findIx_spec (p := c.src) left 0 with ⟨hf, hx⟩ | ⟨j, e, hf, hj, hx⟩
       ·have HFI := Lib.hid hx
        have HR := Lib.hid (show applyR a cs = ([], 13) by
         unfold applyR
         rw [if_neg (by rw [Bool.not_eq_false, List.all_eq_true]; exact HALL.out), HLP.out.res, HTG.out, if_neg (show ¬ 2 < c.kind by have := HK3.out; omega), if_pos HK2.out, if_pos]
         unfold hasE; rw [hf]; rfl)
        clear hf hx
        go_wp2_with (go_at_call 65; refine (r_find_is _ left _ (c.src) (-1) V ((HLP.out.lies.below HW.out).below HV.out) HFI.out).mono ?_; rintro e5 w5 ⟨rfl, hb5⟩; have HX5 := Lib.hid ((hb5.block _ (lt20 HXV.out)).trans HXV.out); have HV5 := Lib.hid (below_next HV.out hb5); have HB5 := Lib.hid (below_next HBV.out hb5); clear hb5 hS1)
        have c0 := cell20 (k := 0) HX5.out
        have c1 := cell20 (k := 1) HX5.out
        have c2 := cell20 (k := 2) HX5.out
        have c3 := cell20 (k := 3) HX5.out
        have c4 := cell20 (k := 4) HX5.out
        have c5 := cell20 (k := 5) HX5.out
        have c6 := cell20 (k := 6) HX5.out
        have c7 := cell20 (k := 7) HX5.out
        have c8 := cell20 (k := 8) HX5.out
        have hltX := lt20 HX5.out
        simp only [List.getElem?_toArray, List.getElem?_cons_succ, List.getElem?_cons_zero] at c0 c1 c2 c3 c4 c5 c6 c7 c8
        have hS1 := And.intro c0 (And.intro c1 (And.intro c2 (And.intro c3 (And.intro c4 (And.intro c5 (And.intro c6 (And.intro c7 c8)))))))
        clear c0 c1 c2 c3 c4 c5 c6 c7 c8 hltX
        refine ⟨hS1, ?_⟩
        refine hld_take 3 rfl (by kernel_rfl) (by kernel_rfl) (by kernel_rfl) (fun _ _ _ h => h) rfl hS1 (by rintro w' ⟨hw0, hw1, hw2, hw3, hw4, hw5, hw6, hw7, hw8⟩; go_simp; rfl) ?_
        simp only [Act.put, List.setIfInBounds_toArray, List.set_cons_succ, List.set_cons_zero]
        refine hld_take 4 rfl (by kernel_rfl) (by kernel_rfl) (by kernel_rfl) (fun _ _ _ h => h) rfl hS1 (by rintro w' ⟨hw0, hw1, hw2, hw3, hw4, hw5, hw6, hw7, hw8⟩; go_simp; rfl) ?_
        simp only [Act.put, List.setIfInBounds_toArray, List.set_cons_succ, List.set_cons_zero]
        refine hld_skip 5 rfl (by kernel_rfl) (by kernel_rfl) (by kernel_rfl) (fun _ _ _ h => h) rfl hS1 ?_
        simp only [Act.put, List.setIfInBounds_toArray, List.set_cons_succ, List.set_cons_zero]
        refine hld_skip 6 rfl (by kernel_rfl) (by kernel_rfl) (by kernel_rfl) (fun _ _ _ h => h) rfl hS1 ?_
        simp only [Act.put, List.setIfInBounds_toArray, List.set_cons_succ, List.set_cons_zero]
        refine hld_skip 7 rfl (by kernel_rfl) (by kernel_rfl) (by kernel_rfl) (fun _ _ _ h => h) rfl hS1 ?_
        simp only [Act.put, List.setIfInBounds_toArray, List.set_cons_succ, List.set_cons_zero]
        refine hld_skip 8 rfl (by kernel_rfl) (by kernel_rfl) (by kernel_rfl) (fun _ _ _ h => h) rfl hS1 ?_
        simp only [Act.put, List.setIfInBounds_toArray, List.set_cons_succ, List.set_cons_zero]
        refine hld_skip 9 rfl (by kernel_rfl) (by kernel_rfl) (by kernel_rfl) (fun _ _ _ h => h) rfl hS1 ?_
        simp only [Act.put, List.setIfInBounds_toArray, List.set_cons_succ, List.set_cons_zero]
        refine hld_skip 10 rfl (by kernel_rfl) (by kernel_rfl) (by kernel_rfl) (fun _ _ _ h => h) rfl hS1 ?_
        simp only [Act.put, List.setIfInBounds_toArray, List.set_cons_succ, List.set_cons_zero]
        refine hld_skip 11 rfl (by kernel_rfl) (by kernel_rfl) (by kernel_rfl) (fun _ _ _ h => h) rfl hS1 ?_
        simp only [Act.put, List.setIfInBounds_toArray, List.set_cons_succ, List.set_cons_zero]
        refine hld_skip 12 rfl (by kernel_rfl) (by kernel_rfl) (by kernel_rfl) (fun _ _ _ h => h) rfl hS1 ?_
        simp only [Act.put, List.setIfInBounds_toArray, List.set_cons_succ, List.set_cons_zero]
        refine hld_skip 13 rfl (by kernel_rfl) (by kernel_rfl) (by kernel_rfl) (fun _ _ _ h => h) rfl hS1 ?_
        simp only [Act.put, List.setIfInBounds_toArray, List.set_cons_succ, List.set_cons_zero]
        refine hld_skip 14 rfl (by kernel_rfl) (by kernel_rfl) (by kernel_rfl) (fun _ _ _ h => h) rfl hS1 ?_
        simp only [Act.put, List.setIfInBounds_toArray, List.set_cons_succ, List.set_cons_zero]
        refine hld_skip 15 rfl (by kernel_rfl) (by kernel_rfl) (by kernel_rfl) (fun _ _ _ h => h) rfl hS1 ?_
        simp only [Act.put, List.setIfInBounds_toArray, List.set_cons_succ, List.set_cons_zero]
        refine hld_skip 16 rfl (by kernel_rfl) (by kernel_rfl) (by kernel_rfl) (fun _ _ _ h => h) rfl hS1 ?_
        simp only [Act.put, List.setIfInBounds_toArray, List.set_cons_succ, List.set_cons_zero]
        refine hld_take 17 rfl (by kernel_rfl) (by kernel_rfl) (by kernel_rfl) (fun _ _ _ h => h) rfl hS1 (by rintro w' ⟨hw0, hw1, hw2, hw3, hw4, hw5, hw6, hw7, hw8⟩; go_simp; rfl) ?_
        simp only [Act.put, List.setIfInBounds_toArray, List.set_cons_succ, List.set_cons_zero]
        refine hld_done (by kernel_rfl) ?_
        clear hS1
        go_wp2_with fail
        go_ret2
        exact ap_err HR.out HB5.out
       ·have HFI := Lib.hid hx
        have hhas : hasE left c.src = true := by unfold hasE; rw [hf]; rfl
        have e0 : decide (((0 + j : Nat) : Int) < 0) = false := by simp
        obtain ⟨jj, hjj⟩ : ∃ z : Nat, z = 0 + j := ⟨_, rfl⟩
        rw [← hjj] at HFI e0
        clear hf hx hj hjj
        go_wp2_with (go_at_call 65; refine (r_find_is _ left _ (c.src) ((jj : Int)) V ((HLP.out.lies.below HW.out).below HV.out) HFI.out).mono ?_; rintro e5 w5 ⟨rfl, hb5⟩; have HX5 := Lib.hid ((hb5.block _ (lt20 HXV.out)).trans HXV.out); have HV5 := Lib.hid (below_next HV.out hb5); have HB5 := Lib.hid (below_next HBV.out hb5); clear hb5 hS1)
        have c0 := cell20 (k := 0) HX5.out
        have c1 := cell20 (k := 1) HX5.out
        have c2 := cell20 (k := 2) HX5.out
        have c3 := cell20 (k := 3) HX5.out
        have c4 := cell20 (k := 4) HX5.out
        have c5 := cell20 (k := 5) HX5.out
        have c6 := cell20 (k := 6) HX5.out
        have c7 := cell20 (k := 7) HX5.out
        have c8 := cell20 (k := 8) HX5.out
        have hltX := lt20 HX5.out
        simp only [List.getElem?_toArray, List.getElem?_cons_succ, List.getElem?_cons_zero] at c0 c1 c2 c3 c4 c5 c6 c7 c8
        have hS1 := And.intro c0 (And.intro c1 (And.intro c2 (And.intro c3 (And.intro c4 (And.intro c5 (And.intro c6 (And.intro c7 c8)))))))
        clear c0 c1 c2 c3 c4 c5 c6 c7 c8 hltX
        refine ⟨hS1, ?_⟩
        refine hld_take 3 rfl (by kernel_rfl) (by kernel_rfl) (by kernel_rfl) (fun _ _ _ h => h) rfl hS1 (by rintro w' ⟨hw0, hw1, hw2, hw3, hw4, hw5, hw6, hw7, hw8⟩; go_simp; rfl) ?_
        simp only [Act.put, List.setIfInBounds_toArray, List.set_cons_succ, List.set_cons_zero]
        refine hld_take 4 rfl (by kernel_rfl) (by kernel_rfl) (by kernel_rfl) (fun _ _ _ h => h) rfl hS1 (by rintro w' ⟨hw0, hw1, hw2, hw3, hw4, hw5, hw6, hw7, hw8⟩; go_simp; rfl) ?_
        simp only [Act.put, List.setIfInBounds_toArray, List.set_cons_succ, List.set_cons_zero]
        refine hld_take 5 rfl (by kernel_rfl) (by kernel_rfl) (by kernel_rfl) (fun _ _ _ h => h) rfl hS1 (by rintro w' ⟨hw0, hw1, hw2, hw3, hw4, hw5, hw6, hw7, hw8⟩; go_simp; rfl) ?_
        simp only [Act.put, List.setIfInBounds_toArray, List.set_cons_succ, List.set_cons_zero]
        refine hld_take 6 rfl (by kernel_rfl) (by kernel_rfl) (by kernel_rfl) (fun _ _ _ h => h) rfl hS1 (by rintro w' ⟨hw0, hw1, hw2, hw3, hw4, hw5, hw6, hw7, hw8⟩; go_simp; rfl) ?_
        simp only [Act.put, List.setIfInBounds_toArray, List.set_cons_succ, List.set_cons_zero]
        refine hld_take 7 rfl (by kernel_rfl) (by kernel_rfl) (by kernel_rfl) (fun _ _ _ h => h) rfl hS1 (by rintro w' ⟨hw0, hw1, hw2, hw3, hw4, hw5, hw6, hw7, hw8⟩; go_simp; rfl) ?_
        simp only [Act.put, List.setIfInBounds_toArray, List.set_cons_succ, List.set_cons_zero]
        refine hld_take 8 rfl (by kernel_rfl) (by kernel_rfl) (by kernel_rfl) (fun _ _ _ h => h) rfl hS1 (by rintro w' ⟨hw0, hw1, hw2, hw3, hw4, hw5, hw6, hw7, hw8⟩; go_simp; rfl) ?_
        simp only [Act.put, List.setIfInBounds_toArray, List.set_cons_succ, List.set_cons_zero]
        refine hld_take 9 rfl (by kernel_rfl) (by kernel_rfl) (by kernel_rfl) (fun _ _ _ h => h) rfl hS1 (by rintro w' ⟨hw0, hw1, hw2, hw3, hw4, hw5, hw6, hw7, hw8⟩; go_simp; rfl) ?_
        simp only [Act.put, List.setIfInBounds_toArray, List.set_cons_succ, List.set_cons_zero]
        refine hld_take 10 rfl (by kernel_rfl) (by kernel_rfl) (by kernel_rfl) (fun _ _ _ h => h) rfl hS1 (by rintro w' ⟨hw0, hw1, hw2, hw3, hw4, hw5, hw6, hw7, hw8⟩; go_simp; rfl) ?_
        simp only [Act.put, List.setIfInBounds_toArray, List.set_cons_succ, List.set_cons_zero]
        refine hld_take 12 rfl (by kernel_rfl) (by kernel_rfl) (by kernel_rfl) (fun _ _ _ h => h) rfl hS1 (by rintro w' ⟨hw0, hw1, hw2, hw3, hw4, hw5, hw6, hw7, hw8⟩; go_simp; rfl) ?_
        simp only [Act.put, List.setIfInBounds_toArray, List.set_cons_succ, List.set_cons_zero]
        refine hld_take 13 rfl (by kernel_rfl) (by kernel_rfl) (by kernel_rfl) (fun _ _ _ h => h) rfl hS1 (by rintro w' ⟨hw0, hw1, hw2, hw3, hw4, hw5, hw6, hw7, hw8⟩; go_simp; rfl) ?_
        simp only [Act.put, List.setIfInBounds_toArray, List.set_cons_succ, List.set_cons_zero]
        refine hld_bar 11 rfl (by kernel_rfl) rfl (fun K hK => ?_)
        have hat := r_at_any _ a (.slice aa a.length ca) c.src w5 (HA.out.below HB5.out)
        obtain ⟨x, hxe⟩ : ∃ x, x = atE a c.src := ⟨_, rfl⟩
        unfold AtRes entV at hat
        rw [← hxe] at hat
        have HXE := Lib.hid hxe
        clear hxe
        go_wp2_with (go_at_call 43; refine hat.mono ?_; rintro e6 w6 ⟨a9, c9, rfl, hd9, -, hb6⟩; have HD9 := Lib.hid hd9; have HX6 := Lib.hid ((hb6.block _ (lt20 HX5.out)).trans HX5.out); have HV6 := Lib.hid (below_next HV5.out hb6); have HB6 := Lib.hid (below_next HB5.out hb6); clear hd9 hb6 hat hS1)
        have c0 := cell20 (k := 0) HX6.out
        have c1 := cell20 (k := 1) HX6.out
        have c2 := cell20 (k := 2) HX6.out
        have c3 := cell20 (k := 3) HX6.out
        have c4 := cell20 (k := 4) HX6.out
        have c5 := cell20 (k := 5) HX6.out
        have c6 := cell20 (k := 6) HX6.out
        have c7 := cell20 (k := 7) HX6.out
        have c8 := cell20 (k := 8) HX6.out
        have hltX := lt20 HX6.out
        simp only [List.getElem?_toArray, List.getElem?_cons_succ, List.getElem?_cons_zero] at c0 c1 c2 c3 c4 c5 c6 c7 c8
        have hS1 := And.intro c0 (And.intro c1 (And.intro c2 (And.intro c3 (And.intro c4 (And.intro c5 (And.intro c6 (And.intro c7 c8)))))))
        clear c0 c1 c2 c3 c4 c5 c6 c7 c8 hltX
        refine ⟨hS1, ?_⟩
        refine hld_bar 14 rfl (by kernel_rfl) rfl (fun K hK => ?_)
        have hal := r_alike_any _ _ x c.en (.slice a9 x.data.length c9) (.slice a1 c.en.data.length cap1) w6 HD9.out ((HD.out.below HW.out).below HV6.out)
        unfold entV at hal
        cases hac : alikeE x c.en with
        | false =>
         rw [hac] at hal
         have HR := Lib.hid (show applyR a cs = ([], 13) by
          unfold applyR
          rw [if_neg (by rw [Bool.not_eq_false, List.all_eq_true]; exact HALL.out), HLP.out.res, HTG.out, if_neg (show ¬ 2 < c.kind by have := HK3.out; omega), if_pos HK2.out, if_pos]
          rw [← HXE.out, hac, decide_eq_true HK2.out, hhas]; rfl)
         clear hac hhas
         go_wp2_with (go_at_call 44; refine hal.mono ?_; rintro e7 w7 ⟨rfl, hb7⟩; have HX7 := Lib.hid ((hb7.block _ (lt20 HX6.out)).trans HX6.out); have HB7 := Lib.hid (below_next HB6.out hb7); clear hb7 hal hS1)
         have c0 := cell20 (k := 0) HX7.out
         have c1 := cell20 (k := 1) HX7.out
         have c2 := cell20 (k := 2) HX7.out
         have c3 := cell20 (k := 3) HX7.out
         have c4 := cell20 (k := 4) HX7.out
         have c5 := cell20 (k := 5) HX7.out
         have c6 := cell20 (k := 6) HX7.out
         have c7 := cell20 (k := 7) HX7.out
         have c8 := cell20 (k := 8) HX7.out
         have hltX := lt20 HX7.out
         simp only [List.getElem?_toArray, List.getElem?_cons_succ, List.getElem?_cons_zero] at c0 c1 c2 c3 c4 c5 c6 c7 c8
         have hS1 := And.intro c0 (And.intro c1 (And.intro c2 (And.intro c3 (And.intro c4 (And.intro c5 (And.intro c6 (And.intro c7 c8)))))))
         clear c0 c1 c2 c3 c4 c5 c6 c7 c8 hltX
         refine ⟨hS1, ?_⟩
         refine hld_take 15 rfl (by kernel_rfl) (by kernel_rfl) (by kernel_rfl) (fun _ _ _ h => h) rfl hS1 (by rintro w' ⟨hw0, hw1, hw2, hw3, hw4, hw5, hw6, hw7, hw8⟩; go_simp; rfl) ?_
         simp only [Act.put, List.setIfInBounds_toArray, List.set_cons_succ, List.set_cons_zero]
         refine hld_take 16 rfl (by kernel_rfl) (by kernel_rfl) (by kernel_rfl) (fun _ _ _ h => h) rfl hS1 (by rintro w' ⟨hw0, hw1, hw2, hw3, hw4, hw5, hw6, hw7, hw8⟩; go_simp; rfl) ?_
         simp only [Act.put, List.setIfInBounds_toArray, List.set_cons_succ, List.set_cons_zero]
         refine hld_take 17 rfl (by kernel_rfl) (by kernel_rfl) (by kernel_rfl) (fun _ _ _ h => h) rfl hS1 (by rintro w' ⟨hw0, hw1, hw2, hw3, hw4, hw5, hw6, hw7, hw8⟩; go_simp; rfl) ?_
         simp only [Act.put, List.setIfInBounds_toArray, List.set_cons_succ, List.set_cons_zero]
         refine hld_done (by kernel_rfl) ?_
         clear hS1
         go_wp2_with fail
         go_ret2
         exact ap_err HR.out HB7.out
        | true =>
         rw [hac] at hal
         have HRE := Lib.hid (show takeR a a cs = takeR a (dropE left c.src) (cs.drop (k + 1)) by
          rw [HLP.out.res, HTG.out, if_neg (show ¬ 2 < c.kind by have := HK3.out; omega), if_pos HK2.out, ← HXE.out, hac, hhas, if_neg (by simp)])
         clear hac hhas
         go_wp2_with (go_at_call 44; refine hal.mono ?_; rintro e7 w7 ⟨rfl, hb7⟩; have HX7 := Lib.hid ((hb7.block _ (lt20 HX6.out)).trans HX6.out); have HV7 := Lib.hid (below_next HV6.out hb7); have HB7 := Lib.hid (below_next HB6.out hb7); clear hb7 hal hS1)
         have c0 := cell20 (k := 0) HX7.out
         have c1 := cell20 (k := 1) HX7.out
         have c2 := cell20 (k := 2) HX7.out
         have c3 := cell20 (k := 3) HX7.out
         have c4 := cell20 (k := 4) HX7.out
         have c5 := cell20 (k := 5) HX7.out
         have c6 := cell20 (k := 6) HX7.out
         have c7 := cell20 (k := 7) HX7.out
         have c8 := cell20 (k := 8) HX7.out
         have hltX := lt20 HX7.out
         simp only [List.getElem?_toArray, List.getElem?_cons_succ, List.getElem?_cons_zero] at c0 c1 c2 c3 c4 c5 c6 c7 c8
         have hS1 := And.intro c0 (And.intro c1 (And.intro c2 (And.intro c3 (And.intro c4 (And.intro c5 (And.intro c6 (And.intro c7 c8)))))))
         clear c0 c1 c2 c3 c4 c5 c6 c7 c8 hltX
         refine ⟨hS1, ?_⟩
         refine hld_take 15 rfl (by kernel_rfl) (by kernel_rfl) (by kernel_rfl) (fun _ _ _ h => h) rfl hS1 (by rintro w' ⟨hw0, hw1, hw2, hw3, hw4, hw5, hw6, hw7, hw8⟩; go_simp; rfl) ?_
         simp only [Act.put, List.setIfInBounds_toArray, List.set_cons_succ, List.set_cons_zero]
         refine hld_take 16 rfl (by kernel_rfl) (by kernel_rfl) (by kernel_rfl) (fun _ _ _ h => h) rfl hS1 (by rintro w' ⟨hw0, hw1, hw2, hw3, hw4, hw5, hw6, hw7, hw8⟩; go_simp; rfl) ?_
         simp only [Act.put, List.setIfInBounds_toArray, List.set_cons_succ, List.set_cons_zero]
         refine hld_take 17 rfl (by kernel_rfl) (by kernel_rfl) (by kernel_rfl) (fun _ _ _ h => h) rfl hS1 (by rintro w' ⟨hw0, hw1, hw2, hw3, hw4, hw5, hw6, hw7, hw8⟩; go_simp; rfl) ?_
         simp only [Act.put, List.setIfInBounds_toArray, List.set_cons_succ, List.set_cons_zero]
         refine hld_done (by kernel_rfl) ?_
         clear hS1
         go_wp2_with (go_at_call 55; refine (r_without_any _ left _ (c.src) w7 ((HLP.out.lies.below HW.out).below HV7.out) HLL.out).mono ?_; rintro e8 w8 ⟨v8, rfl, hs8, hb8, hsh8⟩; have HS8 := Lib.hid hs8; have HB8 := Lib.hid (below_next HB7.out hb8); have HSH8 := Lib.hid hsh8; clear hs8 hb8 hsh8)
         go_roundw
         case rel => exact ⟨k + 1, dropE left (c.src), by omega, by go_num, ⟨HRE.out, HS8.out, HSH8.out, (List.filter_sublist).trans HLP.out.sub, HB8.out⟩⟩
         case measure => simp [intOf]; omega
      ·have he2 : (c.kind == 2) = false := by simp [hk2]
       have HK2 := Lib.hid hk2
       clear hk2
       go_upto_region 15 with (fail)
       clear c0 c1 c2 c3 c4 c5 c6 c7 c8 hltX
       refine hld_start (fun w' => w'.cell? ⟨cb, 0, none⟩ = some (.int .i64 c.kind) ∧ w'.cell? ⟨cb, 1, none⟩ = some (.string c.path) ∧ w'.cell? ⟨cb, 2, none⟩ = some (.string c.src) ∧ w'.cell? ⟨cb, 3, none⟩ = some (.string c.en.path) ∧ w'.cell? ⟨cb, 4, none⟩ = some (.int .i64 c.en.kind) ∧ w'.cell? ⟨cb, 5, none⟩ = some (.int .i64 c.en.mode) ∧ w'.cell? ⟨cb, 6, none⟩ = some (.int .i64 c.en.time) ∧ w'.cell? ⟨cb, 7, none⟩ = some (.slice a1 c.en.data.length cap1) ∧ w'.cell? ⟨cb, 8, none⟩ = some (.string c.en.link)) (by kernel_rfl) ?_
       obtain ⟨V, hV⟩ : ∃ V : World, V = (W).drew := ⟨_, rfl⟩
       rw [← hV]
       have HV := Lib.hid (show Below (W).heap.size (W) V by rw [hV]; exact bel_drew)
       have HXV := Lib.hid ((HV.out.block _ (lt20 HX.out)).trans HX.out)
       have HBV := Lib.hid (below_next HBW.out HV.out)
       clear hV
       have c0 := cell20 (k := 0) HXV.out
       have c1 := cell20 (k := 1) HXV.out
       have c2 := cell20 (k := 2) HXV.out
       have c3 := cell20 (k := 3) HXV.out
       have c4 := cell20 (k := 4) HXV.out
       have c5 := cell20 (k := 5) HXV.out
       have c6 := cell20 (k := 6) HXV.out
       have c7 := cell20 (k := 7) HXV.out
       have c8 := cell20 (k := 8) HXV.out
       have hltX := lt20 HXV.out
       simp only [List.getElem?_toArray, List.getElem?_cons_succ, List.getElem?_cons_zero] at c0 c1 c2 c3 c4 c5 c6 c7 c8
       have hS1 := And.intro c0 (And.intro c1 (And.intro c2 (And.intro c3 (And.intro c4 (And.intro c5 (And.intro c6 (And.intro c7 c8)))))))
       clear c0 c1 c2 c3 c4 c5 c6 c7 c8 hltX
       refine hld_take 0 rfl (by kernel_rfl) (by kernel_rfl) (by kernel_rfl) (fun _ _ _ h => h) rfl hS1 (by rintro w' ⟨hw0, hw1, hw2, hw3, hw4, hw5, hw6, hw7, hw8⟩; go_simp; rfl) ?_
       simp only [Act.put, List.setIfInBounds_toArray, List.set_cons_succ, List.set_cons_zero]
       refine hld_take 1 rfl (by kernel_rfl) (by kernel_rfl) (by kernel_rfl) (fun _ _ _ h => h) rfl hS1 (by rintro w' ⟨hw0, hw1, hw2, hw3, hw4, hw5, hw6, hw7, hw8⟩; go_simp; rfl) ?_
       simp only [Act.put, List.setIfInBounds_toArray, List.set_cons_succ, List.set_cons_zero]
       refine hld_bar 2 rfl (by kernel_rfl) rfl (fun K hK => ?_)
       rcases findIx_spec (p := c.path) left 0 with ⟨hf, hx⟩ | ⟨j, e, hf, hj, hx⟩
       ·have HFI := Lib.hid hx
        have HR := Lib.hid (show applyR a cs = ([], 13) by
         unfold applyR
         rw [if_neg (by rw [Bool.not_eq_false, List.all_eq_true]; exact HALL.out), HLP.out.res, HTG.out, if_neg (show ¬ 2 < c.kind by have := HK3.out; omega), if_neg HK2.out, if_pos]
         unfold hasE; rw [hf]; rfl)
        clear hf hx
        go_wp2_with (go_at_call 65; refine (r_find_is _ left _ (c.path) (-1) V ((HLP.out.lies.below HW.out).below HV.out) HFI.out).mono ?_; rintro e5 w5 ⟨rfl, hb5⟩; have HX5 := Lib.hid ((hb5.block _ (lt20 HXV.out)).trans HXV.out); have HV5 := Lib.hid (below_next HV.out hb5); have HB5 := Lib.hid (below_next HBV.out hb5); clear hb5 hS1)
        have c0 := cell20 (k := 0) HX5.out
        have c1 := cell20 (k := 1) HX5.out
        have c2 := cell20 (k := 2) HX5.out
        have c3 := cell20 (k := 3) HX5.out
        have c4 := cell20 (k := 4) HX5.out
        have c5 := cell20 (k := 5) HX5.out
        have c6 := cell20 (k := 6) HX5.out
        have c7 := cell20 (k := 7) HX5.out
        have c8 := cell20 (k := 8) HX5.out
        have hltX := lt20 HX5.out
        simp only [List.getElem?_toArray, List.getElem?_cons_succ, List.getElem?_cons_zero] at c0 c1 c2 c3 c4 c5 c6 c7 c8
        have hS1 := And.intro c0 (And.intro c1 (And.intro c2 (And.intro c3 (And.intro c4 (And.intro c5 (And.intro c6 (And.intro c7 c8)))))))
        clear c0 c1 c2 c3 c4 c5 c6 c7 c8 hltX
        refine ⟨hS1, ?_⟩
        refine hld_take 3 rfl (by kernel_rfl) (by kernel_rfl) (by kernel_rfl) (fun _ _ _ h => h) rfl hS1 (by rintro w' ⟨hw0, hw1, hw2, hw3, hw4, hw5, hw6, hw7, hw8⟩; go_simp; rfl) ?_
        simp only [Act.put, List.setIfInBounds_toArray, List.set_cons_succ, List.set_cons_zero]
        refine hld_take 4 rfl (by kernel_rfl) (by kernel_rfl) (by kernel_rfl) (fun _ _ _ h => h) rfl hS1 (by rintro w' ⟨hw0, hw1, hw2, hw3, hw4, hw5, hw6, hw7, hw8⟩; go_simp; rfl) ?_
        simp only [Act.put, List.setIfInBounds_toArray, List.set_cons_succ, List.set_cons_zero]
        refine hld_skip 5 rfl (by kernel_rfl) (by kernel_rfl) (by kernel_rfl) (fun _ _ _ h => h) rfl hS1 ?_
        simp only [Act.put, List.setIfInBounds_toArray, List.set_cons_succ, List.set_cons_zero]
        refine hld_skip 6 rfl (by kernel_rfl) (by kernel_rfl) (by kernel_rfl) (fun _ _ _ h => h) rfl hS1 ?_
        simp only [Act.put, List.setIfInBounds_toArray, List.set_cons_succ, List.set_cons_zero]
        refine hld_skip 7 rfl (by kernel_rfl) (by kernel_rfl) (by kernel_rfl) (fun _ _ _ h => h) rfl hS1 ?_
        simp only [Act.put, List.setIfInBounds_toArray, List.set_cons_succ, List.set_cons_zero]
        refine hld_skip 8 rfl (by kernel_rfl) (by kernel_rfl) (by kernel_rfl) (fun _ _ _ h => h) rfl hS1 ?_
        simp only [Act.put, List.setIfInBounds_toArray, List.set_cons_succ, List.set_cons_zero]
        refine hld_skip 9 rfl (by kernel_rfl) (by kernel_rfl) (by kernel_rfl) (fun _ _ _ h => h) rfl hS1 ?_
        simp only [Act.put, List.setIfInBounds_toArray, List.set_cons_succ, List.set_cons_zero]
        refine hld_skip 10 rfl (by kernel_rfl) (by kernel_rfl) (by kernel_rfl) (fun _ _ _ h => h) rfl hS1 ?_
        simp only [Act.put, List.setIfInBounds_toArray, List.set_cons_succ, List.set_cons_zero]
        refine hld_skip 11 rfl (by kernel_rfl) (by kernel_rfl) (by kernel_rfl) (fun _ _ _ h => h) rfl hS1 ?_
        simp only [Act.put, List.setIfInBounds_toArray, List.set_cons_succ, List.set_cons_zero]
        refine hld_skip 12 rfl (by kernel_rfl) (by kernel_rfl) (by kernel_rfl) (fun _ _ _ h => h) rfl hS1 ?_
        simp only [Act.put, List.setIfInBounds_toArray, List.set_cons_succ, List.set_cons_zero]
        refine hld_skip 13 rfl (by kernel_rfl) (by kernel_rfl) (by kernel_rfl) (fun _ _ _ h => h) rfl hS1 ?_
        simp only [Act.put, List.setIfInBounds_toArray, List.set_cons_succ, List.set_cons_zero]
        refine hld_skip 14 rfl (by kernel_rfl) (by kernel_rfl) (by kernel_rfl) (fun _ _ _ h => h) rfl hS1 ?_
        simp only [Act.put, List.setIfInBounds_toArray, List.set_cons_succ, List.set_cons_zero]
        refine hld_skip 15 rfl (by kernel_rfl) (by kernel_rfl) (by kernel_rfl) (fun _ _ _ h => h) rfl hS1 ?_
        simp only [Act.put, List.setIfInBounds_toArray, List.set_cons_succ, List.set_cons_zero]
        refine hld_skip 16 rfl (by kernel_rfl) (by kernel_rfl) (by kernel_rfl) (fun _ _ _ h => h) rfl hS1 ?_
        simp only [Act.put, List.setIfInBounds_toArray, List.set_cons_succ, List.set_cons_zero]
        refine hld_take 17 rfl (by kernel_rfl) (by kernel_rfl) (by kernel_rfl) (fun _ _ _ h => h) rfl hS1 (by rintro w' ⟨hw0, hw1, hw2, hw3, hw4, hw5, hw6, hw7, hw8⟩; go_simp; rfl) ?_
        simp only [Act.put, List.setIfInBounds_toArray, List.set_cons_succ, List.set_cons_zero]
        refine hld_done (by kernel_rfl) ?_
        clear hS1
        go_wp2_with fail
        go_ret2
        exact ap_err HR.out HB5.out
       ·have HFI := Lib.hid hx
        have hhas : hasE left c.path = true := by unfold hasE; rw [hf]; rfl
        have HRE := Lib.hid (show takeR a a cs = takeR a (dropE left c.path) (cs.drop (k + 1)) by
         rw [HLP.out.res, HTG.out, if_neg (show ¬ 2 < c.kind by have := HK3.out; omega), if_neg HK2.out, hhas, decide_eq_false HK2.out, if_neg (by simp)])
        have e0 : decide (((0 + j : Nat) : Int) < 0) = false := by simp
        obtain ⟨jj, hjj⟩ : ∃ z : Nat, z = 0 + j := ⟨_, rfl⟩
        rw [← hjj] at HFI e0
        clear hf hx hj hjj hhas
        go_wp2_with (go_at_call 65; refine (r_find_is _ left _ (c.path) ((jj : Int)) V ((HLP.out.lies.below HW.out).below HV.out) HFI.out).mono ?_; rintro e5 w5 ⟨rfl, hb5⟩; have HX5 := Lib.hid ((hb5.block _ (lt20 HXV.out)).trans HXV.out); have HV5 := Lib.hid (below_next HV.out hb5); have HB5 := Lib.hid (below_next HBV.out hb5); clear hb5 hS1)
        have c0 := cell20 (k := 0) HX5.out
        have c1 := cell20 (k := 1) HX5.out
        have c2 := cell20 (k := 2) HX5.out
        have c3 := cell20 (k := 3) HX5.out
        have c4 := cell20 (k := 4) HX5.out
        have c5 := cell20 (k := 5) HX5.out
        have c6 := cell20 (k := 6) HX5.out
        have c7 := cell20 (k := 7) HX5.out
        have c8 := cell20 (k := 8) HX5.out
        have hltX := lt20 HX5.out
        simp only [List.getElem?_toArray, List.getElem?_cons_succ, List.getElem?_cons_zero] at c0 c1 c2 c3 c4 c5 c6 c7 c8
        have hS1 := And.intro c0 (And.intro c1 (And.intro c2 (And.intro c3 (And.intro c4 (And.intro c5 (And.intro c6 (And.intro c7 c8)))))))
        clear c0 c1 c2 c3 c4 c5 c6 c7 c8 hltX
        refine ⟨hS1, ?_⟩
        refine hld_take 3 rfl (by kernel_rfl) (by kernel_rfl) (by kernel_rfl) (fun _ _ _ h => h) rfl hS1 (by rintro w' ⟨hw0, hw1, hw2, hw3, hw4, hw5, hw6, hw7, hw8⟩; go_simp; rfl) ?_
        simp only [Act.put, List.setIfInBounds_toArray, List.set_cons_succ, List.set_cons_zero]
        refine hld_take 4 rfl (by kernel_rfl) (by kernel_rfl) (by kernel_rfl) (fun _ _ _ h => h) rfl hS1 (by rintro w' ⟨hw0, hw1, hw2, hw3, hw4, hw5, hw6, hw7, hw8⟩; go_simp; rfl) ?_
        simp only [Act.put, List.setIfInBounds_toArray, List.set_cons_succ, List.set_cons_zero]
        refine hld_take 5 rfl (by kernel_rfl) (by kernel_rfl) (by kernel_rfl) (fun _ _ _ h => h) rfl hS1 (by rintro w' ⟨hw0, hw1, hw2, hw3, hw4, hw5, hw6, hw7, hw8⟩; go_simp; rfl) ?_
        simp only [Act.put, List.setIfInBounds_toArray, List.set_cons_succ, List.set_cons_zero]
        refine hld_take 6 rfl (by kernel_rfl) (by kernel_rfl) (by kernel_rfl) (fun _ _ _ h => h) rfl hS1 (by rintro w' ⟨hw0, hw1, hw2, hw3, hw4, hw5, hw6, hw7, hw8⟩; go_simp; rfl) ?_
        simp only [Act.put, List.setIfInBounds_toArray, List.set_cons_succ, List.set_cons_zero]
        refine hld_take 7 rfl (by kernel_rfl) (by kernel_rfl) (by kernel_rfl) (fun _ _ _ h => h) rfl hS1 (by rintro w' ⟨hw0, hw1, hw2, hw3, hw4, hw5, hw6, hw7, hw8⟩; go_simp; rfl) ?_
        simp only [Act.put, List.setIfInBounds_toArray, List.set_cons_succ, List.set_cons_zero]
        refine hld_take 8 rfl (by kernel_rfl) (by kernel_rfl) (by kernel_rfl) (fun _ _ _ h => h) rfl hS1 (by rintro w' ⟨hw0, hw1, hw2, hw3, hw4, hw5, hw6, hw7, hw8⟩; go_simp; rfl) ?_
        simp only [Act.put, List.setIfInBounds_toArray, List.set_cons_succ, List.set_cons_zero]
        refine hld_skip 9 rfl (by kernel_rfl) (by kernel_rfl) (by kernel_rfl) (fun _ _ _ h => h) rfl hS1 ?_
        simp only [Act.put, List.setIfInBounds_toArray, List.set_cons_succ, List.set_cons_zero]
        refine hld_skip 10 rfl (by kernel_rfl) (by kernel_rfl) (by kernel_rfl) (fun _ _ _ h => h) rfl hS1 ?_
        simp only [Act.put, List.setIfInBounds_toArray, List.set_cons_succ, List.set_cons_zero]
        refine hld_skip 11 rfl (by kernel_rfl) (by kernel_rfl) (by kernel_rfl) (fun _ _ _ h => h) rfl hS1 ?_
        simp only [Act.put, List.setIfInBounds_toArray, List.set_cons_succ, List.set_cons_zero]
        refine hld_skip 12 rfl (by kernel_rfl) (by kernel_rfl) (by kernel_rfl) (fun _ _ _ h => h) rfl hS1 ?_
        simp only [Act.put, List.setIfInBounds_toArray, List.set_cons_succ, List.set_cons_zero]
        refine hld_skip 13 rfl (by kernel_rfl) (by kernel_rfl) (by kernel_rfl) (fun _ _ _ h => h) rfl hS1 ?_
        simp only [Act.put, List.setIfInBounds_toArray, List.set_cons_succ, List.set_cons_zero]
        refine hld_skip 14 rfl (by kernel_rfl) (by kernel_rfl) (by kernel_rfl) (fun _ _ _ h => h) rfl hS1 ?_
        simp only [Act.put, List.setIfInBounds_toArray, List.set_cons_succ, List.set_cons_zero]
        refine hld_skip 15 rfl (by kernel_rfl) (by kernel_rfl) (by kernel_rfl) (fun _ _ _ h => h) rfl hS1 ?_
        simp only [Act.put, List.setIfInBounds_toArray, List.set_cons_succ, List.set_cons_zero]
        refine hld_take 16 rfl (by kernel_rfl) (by kernel_rfl) (by kernel_rfl) (fun _ _ _ h => h) rfl hS1 (by rintro w' ⟨hw0, hw1, hw2, hw3, hw4, hw5, hw6, hw7, hw8⟩; go_simp; rfl) ?_
        simp only [Act.put, List.setIfInBounds_toArray, List.set_cons_succ, List.set_cons_zero]
        refine hld_take 17 rfl (by kernel_rfl) (by kernel_rfl) (by kernel_rfl) (fun _ _ _ h => h) rfl hS1 (by rintro w' ⟨hw0, hw1, hw2, hw3, hw4, hw5, hw6, hw7, hw8⟩; go_simp; rfl) ?_
        simp only [Act.put, List.setIfInBounds_toArray, List.set_cons_succ, List.set_cons_zero]
        refine hld_done (by kernel_rfl) ?_
        clear hS1
        go_wp2_with (go_at_call 55; refine (r_without_any _ left _ (c.path) w5 ((HLP.out.lies.below HW.out).below HV5.out) HLL.out).mono ?_; rintro e8 w8 ⟨v8, rfl, hs8, hb8, hsh8⟩; have HS8 := Lib.hid hs8; have HB8 := Lib.hid (below_next HB5.out hb8); have HSH8 := Lib.hid hsh8; clear hs8 hb8 hsh8)
        go_roundw
        case rel => exact ⟨k + 1, dropE left (c.path), by omega, by go_num, ⟨HRE.out, HS8.out, HSH8.out, (List.filter_sublist).trans HLP.out.sub, HB8.out⟩⟩
        case measure => simp [intOf]; omega
    ·have hk2 : k = n := by omega
     have HTK := Lib.hid (show takeR a a cs = some left by
      have h1 := HLP.out.res
      rw [hk2, HN.out, List.drop_length] at h1
      exact h1)
     obtain ⟨w1, hw1⟩ : ∃ Z : World, Z = wr := ⟨_, rfl⟩
     rw [← hw1] at HLP ⊢
     clear hk2 hw1
     go_wp2_with fail
     have HLF := Lib.hid (show left.length ≤ a.length ∧ (∀ e ∈ left, e.path.size ≤ 65000) from ⟨HLP.out.sub.length_le, fun e he => HPA.out e (HLP.out.sub.subset he)⟩)
     go_loopw [12, 68] (fun v i wr => ∃ (k : Nat) (out : List Ent), k ≤ n ∧ i = .int .i64 k ∧ LoopU a.length left cs w1 k v out wr) (fun _ i _ => n - (intOf i).toNat)
     case atStart => exact ⟨0, left, Nat.zero_le _, rfl, ⟨by rw [List.take_zero, List.drop_zero], HLP.out.lies, HLP.out.shp, Nat.le_trans HLF.out.1 (Nat.le_add_right _ _), HLF.out.2, Below.refl _ _⟩⟩
     case round =>
      obtain ⟨k, out, hk, rfl, hlu⟩ := hrel
      have HLU := Lib.hid hlu
      have HBU := Lib.hid (below_next HLP.out.bel hlu.bel)
      have HOL := Lib.hid (show out.length ≤ 8192 by have := hlu.len; have := HNA.out; omega)
      clear hlu hlt
      by_cases hlt : k < n
      ·obtain ⟨c, hcc⟩ : ∃ c, cs[k]? = some c := ⟨cs[k]'(by rw [← HN.out]; exact hlt), by simp⟩
       have hkd := chg_kinds (HALL.out c (List.mem_of_getElem? hcc))
       have HPG := Lib.hid (put_go (left := left) (out := out) hcc)
       have HPN := Lib.hid (HPC.out c (List.mem_of_getElem? hcc)).2.2
       obtain ⟨b, o, dv, rfl, hb, hd, hok, hq⟩ := chgs_at (HL.out.below HBU.out) hcc
       have HAT := Lib.hid hcc
       have HD := Lib.hid hd
       have HOK := Lib.hid hok
       obtain ⟨a1, cap1, rfl, hd1, hd2⟩ := hd.slice
       unfold maxLen at hd2
       have c0 := (hq 0 (by omega)).trans rfl
       have c1 := (hq 1 (by omega)).trans rfl
       have c2 := (hq 2 (by omega)).trans rfl
       have c3 := (hq 3 (by omega)).trans rfl
       have c4 := (hq 4 (by omega)).trans rfl
       have c5 := (hq 5 (by omega)).trans rfl
       have c6 := (hq 6 (by omega)).trans rfl
       have c7 := (hq 7 (by omega)).trans rfl
       have c8 := (hq 8 (by omega)).trans rfl
       simp only [chgC, List.getElem?_cons_succ, List.getElem?_cons_zero, Nat.add_zero] at c0 c1 c2 c3 c4 c5 c6 c7 c8
       clear hcc hd hok hq
       go_upto_region 23 with (fail)
       obtain ⟨W, hW⟩ : ∃ W : World, W = wr.alloc (.cells #[.int .i64 c.kind, .string c.path, .string c.src, .string c.en.path, .int .i64 c.en.kind, .int .i64 c.en.mode, .int .i64 c.en.time, .slice a1 c.en.data.length cap1, .string c.en.link] 50) := ⟨_, rfl⟩
       rw [← hW]
       have HW := Lib.hid (show Below wr.heap.size wr W by rw [hW]; exact (Below.refl _ _).alloc (Nat.le_refl _) _)
       have HX := Lib.hid (show W.heap[wr.heap.size]? = some (.cells #[.int .i64 c.kind, .string c.path, .string c.src, .string c.en.path, .int .i64 c.en.kind, .int .i64 c.en.mode, .int .i64 c.en.time, .slice a1 c.en.data.length cap1, .string c.en.link] 50 (0, 0)) by rw [hW]; exact new20 wr _)
       clear hW c0 c1 c2 c3 c4 c5 c6 c7 c8
       have c0 := cell20 (k := 0) HX.out
       have c1 := cell20 (k := 1) HX.out
       have c2 := cell20 (k := 2) HX.out
       have c3 := cell20 (k := 3) HX.out
       have c4 := cell20 (k := 4) HX.out
       have c5 := cell20 (k := 5) HX.out
       have c6 := cell20 (k := 6) HX.out
       have c7 := cell20 (k := 7) HX.out
       have c8 := cell20 (k := 8) HX.out
       have hltX := lt20 HX.out
       simp only [List.getElem?_toArray, List.getElem?_cons_succ, List.getElem?_cons_zero] at c0 c1 c2 c3 c4 c5 c6 c7 c8
       have HBW := Lib.hid (below_next HLU.out.bel HW.out)
       have HBT := Lib.hid (below_next HBU.out HW.out)
       obtain ⟨cb, hcb⟩ : ∃ z, z = wr.heap.size := ⟨_, rfl⟩
       rw [← hcb] at HX c0 c1 c2 c3 c4 c5 c6 c7 c8 hltX ⊢
       clear hcb
       rcases hkd with h1 | h1 | h1 | h1
       ·have HRE := Lib.hid (show putsR left left [] cs = putsR left out (cs.take (k + 1)) (cs.drop (k + 1)) by rw [HLU.out.res, HPG.out, if_neg (show ¬ (c.kind = 2 ∨ c.kind = 3) by omega), if_neg (show ¬ c.kind = 4 by omega)])
        go_wp2_with fail
        go_roundw
        case rel => exact ⟨k + 1, out, by omega, by go_num, ⟨HRE.out, HLU.out.lies.below HW.out, HLU.out.shp, Nat.le_trans HLU.out.len (by omega), HLU.out.pth, HBW.out⟩⟩
        case measure => simp [intOf]; omega
       ·skip
        rcases findIx_spec (p := c.path) out 0 with ⟨hf, hx⟩ | ⟨j, e, hf, hj, hx⟩
        ·have HFI := Lib.hid hx
         have HRE := Lib.hid (show putsR left left [] cs = putsR left (insF out c.en) (cs.take (k + 1)) (cs.drop (k + 1)) by
          rw [HLU.out.res, HPG.out, if_pos (show c.kind = 2 ∨ c.kind = 3 by omega), if_neg]
          unfold hasE; rw [hf]; simp)
         clear hf hx
         go_upto_region 28 with (go_at_call 65; refine (r_find_is _ out _ c.path (-1) W (HLU.out.lies.below HW.out) HFI.out).mono ?_; rintro e5 w5 ⟨rfl, hb5⟩; have HX5 := Lib.hid ((hb5.block _ (lt20 HX.out)).trans HX.out); have HW5 := Lib.hid (below_next HW.out hb5); have HB5 := Lib.hid (below_next HBW.out hb5); clear hb5 c0 c1 c2 c3 c4 c5 c6 c7 c8 hltX)
         have c0 := cell20 (k := 0) HX5.out
         have c1 := cell20 (k := 1) HX5.out
         have c2 := cell20 (k := 2) HX5.out
         have c3 := cell20 (k := 3) HX5.out
         have c4 := cell20 (k := 4) HX5.out
         have c5 := cell20 (k := 5) HX5.out
         have c6 := cell20 (k := 6) HX5.out
         have c7 := cell20 (k := 7) HX5.out
         have c8 := cell20 (k := 8) HX5.out
         have hltX := lt20 HX5.out
         simp only [List.getElem?_toArray, List.getElem?_cons_succ, List.getElem?_cons_zero] at c0 c1 c2 c3 c4 c5 c6 c7 c8
         have hins := r_insert_any _ _ out _ (.slice a1 c.en.data.length cap1) c.en w5 (HLU.out.lies.below HW5.out) HLU.out.shp (HD.out.below HW5.out) HOK.out.en (by have := HOL.out; omega) (fun f hf => by have := HLU.out.pth f hf; omega)
         unfold entV at hins
         go_wp2_with (go_at_call 54; refine hins.mono ?_; rintro e6 w6 ⟨v6, rfl, hs6, hb6, hsh6⟩; have HS6 := Lib.hid hs6; have HSH6 := Lib.hid hsh6; have HB6 := Lib.hid (below_next HB5.out hb6); clear hs6 hsh6 hb6 hins c0 c1 c2 c3 c4 c5 c6 c7 c8 hltX)
         go_roundw
         case rel => exact ⟨k + 1, insF out c.en, by omega, by go_num, ⟨HRE.out, HS6.out, HSH6.out, by rw [ins_len]; have := HLU.out.len; omega, ins_pth HLU.out.pth HPN.out, HB6.out⟩⟩
         case measure => simp [intOf]; omega
        ·have HFI := Lib.hid hx
         have HR := Lib.hid (show applyR a cs = ([], 13) from ap_puts HALL.out HTK.out (by
          rw [HLU.out.res, HPG.out, if_pos (show c.kind = 2 ∨ c.kind = 3 by omega), if_pos]
          unfold hasE; rw [hf]; rfl))
         obtain ⟨jj, hjj⟩ : ∃ z : Nat, z = 0 + j := ⟨_, rfl⟩
         have e0 : decide ((0 : Int) ≤ (jj : Int)) = true := by simp
         rw [← hjj] at HFI
         clear hf hx hj hjj
         go_wp2_with (go_at_call 65; refine (r_find_is _ out _ c.path (jj : Int) W (HLU.out.lies.below HW.out) HFI.out).mono ?_; rintro e5 w5 ⟨rfl, hb5⟩; have HB5 := Lib.hid (below_next HBT.out hb5); clear hb5 c0 c1 c2 c3 c4 c5 c6 c7 c8 hltX)
         go_ret2
         exact ap_err HR.out HB5.out
       ·skip
        rcases findIx_spec (p := c.path) out 0 with ⟨hf, hx⟩ | ⟨j, e, hf, hj, hx⟩
        ·have HFI := Lib.hid hx
         have HRE := Lib.hid (show putsR left left [] cs = putsR left (insF out c.en) (cs.take (k + 1)) (cs.drop (k + 1)) by
          rw [HLU.out.res, HPG.out, if_pos (show c.kind = 2 ∨ c.kind = 3 by omega), if_neg]
          unfold hasE; rw [hf]; simp)
         clear hf hx
         go_upto_region 28 with (go_at_call 65; refine (r_find_is _ out _ c.path (-1) W (HLU.out.lies.below HW.out) HFI.out).mono ?_; rintro e5 w5 ⟨rfl, hb5⟩; have HX5 := Lib.hid ((hb5.block _ (lt20 HX.out)).trans HX.out); have HW5 := Lib.hid (below_next HW.out hb5); have HB5 := Lib.hid (below_next HBW.out hb5); clear hb5 c0 c1 c2 c3 c4 c5 c6 c7 c8 hltX)
         have c0 := cell20 (k := 0) HX5.out
         have c1 := cell20 (k := 1) HX5.out
         have c2 := cell20 (k := 2) HX5.out
         have c3 := cell20 (k := 3) HX5.out
         have c4 := cell20 (k := 4) HX5.out
         have c5 := cell20 (k := 5) HX5.out
         have c6 := cell20 (k := 6) HX5.out
         have c7 := cell20 (k := 7) HX5.out
         have c8 := cell20 (k := 8) HX5.out
         have hltX := lt20 HX5.out
         simp only [List.getElem?_toArray, List.getElem?_cons_succ, List.getElem?_cons_zero] at c0 c1 c2 c3 c4 c5 c6 c7 c8
         have hins := r_insert_any _ _ out _ (.slice a1 c.en.data.length cap1) c.en w5 (HLU.out.lies.below HW5.out) HLU.out.shp (HD.out.below HW5.out) HOK.out.en (by have := HOL.out; omega) (fun f hf => by have := HLU.out.pth f hf; omega)
         unfold entV at hins
         go_wp2_with (go_at_call 54; refine hins.mono ?_; rintro e6 w6 ⟨v6, rfl, hs6, hb6, hsh6⟩; have HS6 := Lib.hid hs6; have HSH6 := Lib.hid hsh6; have HB6 := Lib.hid (below_next HB5.out hb6); clear hs6 hsh6 hb6 hins c0 c1 c2 c3 c4 c5 c6 c7 c8 hltX)
         go_roundw
         case rel => exact ⟨k + 1, insF out c.en, by omega, by go_num, ⟨HRE.out, HS6.out, HSH6.out, by rw [ins_len]; have := HLU.out.len; omega, ins_pth HLU.out.pth HPN.out, HB6.out⟩⟩
         case measure => simp [intOf]; omega
        ·have HFI := Lib.hid hx
         have HR := Lib.hid (show applyR a cs = ([], 13) from ap_puts HALL.out HTK.out (by
          rw [HLU.out.res, HPG.out, if_pos (show c.kind = 2 ∨ c.kind = 3 by omega), if_pos]
          unfold hasE; rw [hf]; rfl))
         obtain ⟨jj, hjj⟩ : ∃ z : Nat, z = 0 + j := ⟨_, rfl⟩
         have e0 : decide ((0 : Int) ≤ (jj : Int)) = true := by simp
         rw [← hjj] at HFI
         clear hf hx hj hjj
         go_wp2_with (go_at_call 65; refine (r_find_is _ out _ c.path (jj : Int) W (HLU.out.lies.below HW.out) HFI.out).mono ?_; rintro e5 w5 ⟨rfl, hb5⟩; have HB5 := Lib.hid (below_next HBT.out hb5); clear hb5 c0 c1 c2 c3 c4 c5 c6 c7 c8 hltX)
         go_ret2
         exact ap_err HR.out HB5.out
       ·go_upto_region 30 with (fail)
        clear c0 c1 c2 c3 c4 c5 c6 c7 c8 hltX
        have HK4 := Lib.hid h1
        clear h1
        go_wp2_with fail
        go_loopw [15] (fun j w4 => ∃ j' : Nat, j = .int .i64 j' ∧ j' ≤ k ∧ (∀ x ∈ cs.take j', ¬ (x.kind = 4 ∧ x.path = c.path)) ∧ Below W.heap.size W w4) (fun j _ => k - (intOf j).toNat)
        case atStart => exact ⟨0, rfl, Nat.zero_le _, by simp, Below.refl _ _⟩
        case round =>
         obtain ⟨j, rfl, hj, hno, hb4⟩ := hrel
         have HNO := Lib.hid hno
         have HB4 := Lib.hid hb4
         clear hno hb4
         have HX4 := Lib.hid ((HB4.out.block _ (lt20 HX.out)).trans HX.out)
         have HBT4 := Lib.hid (below_next HBT.out HB4.out)
         have c0 := cell20 (k := 0) HX4.out
         have c1 := cell20 (k := 1) HX4.out
         have c2 := cell20 (k := 2) HX4.out
         have c3 := cell20 (k := 3) HX4.out
         have c4 := cell20 (k := 4) HX4.out
         have c5 := cell20 (k := 5) HX4.out
         have c6 := cell20 (k := 6) HX4.out
         have c7 := cell20 (k := 7) HX4.out
         have c8 := cell20 (k := 8) HX4.out
         have hltX := lt20 HX4.out
         simp only [List.getElem?_toArray, List.getElem?_cons_succ, List.getElem?_cons_zero] at c0 c1 c2 c3 c4 c5 c6 c7 c8
         by_cases hlj : j < k
         ·obtain ⟨x, hxc⟩ : ∃ x, cs[j]? = some x := ⟨cs[j]'(by rw [← HN.out]; omega), by simp⟩
          obtain ⟨b2, o2, dv2, he2, -, -, -, hq2⟩ := chgs_at (HL.out.below HBT4.out) hxc
          simp only [Option.some.injEq, Addr.mk.injEq, and_true] at he2
          obtain ⟨rfl, rfl⟩ := he2
          have HXC := Lib.hid hxc
          have p0 := (hq2 0 (by omega)).trans rfl
          have p1 := (hq2 1 (by omega)).trans rfl
          simp only [chgC, List.getElem?_cons_succ, List.getElem?_cons_zero, Nat.add_zero] at p0 p1
          have hjn : j < n := by omega
          clear hq2 hxc
          by_cases hxk : x.kind = 4
          ·have e1 : (x.kind == 4) = true := by simp [hxk]
           by_cases hxp : x.path = c.path
           ·have e2 : (x.path.toList == c.path.toList) = true := by rw [hxp]; simp
            have HR := Lib.hid (show applyR a cs = ([], 13) from ap_puts HALL.out HTK.out (by
             rw [HLU.out.res, HPG.out, if_neg (show ¬ (c.kind = 2 ∨ c.kind = 3) by have := HK4.out; omega), if_pos HK4.out, if_pos]
             rw [List.any_eq_true]
             exact ⟨x, List.mem_of_getElem? (i := j) (by rw [List.getElem?_take, if_pos hlj, HXC.out]), by simp [hxk, hxp]⟩))
            clear hxk hxp
            go_upto_region 33 with (fail)
            refine wp_region_segs [some 16] (by kernel_rfl) (by kernel_rfl) (by kernel_rfl) ?_
            simp only [wpSegs, List.take_succ_cons, List.take_zero]
            repeat (first | (refine seg_skip rfl ?_; simp only [Act.put, List.setIfInBounds_toArray, List.set_cons_succ, List.set_cons_zero]) | (refine seg_run rfl (fun K hK => ?_); go_simp; refine hK _ ?_; clear hK K))
            refine seg_nil ?_
            go_wp2_with fail
            go_ret2
            exact ap_err HR.out (below_next HBT4.out bel_drew)
           ·have e2 : (x.path.toList == c.path.toList) = false := by
             rw [beq_eq_false_iff_ne]; intro h; exact hxp (str_eq.1 h)
            have HNX := Lib.hid (show ∀ z ∈ cs.take (j + 1), ¬ (z.kind = 4 ∧ z.path = c.path) from no_more HNO.out HXC.out (fun h => hxp h.2))
            clear hxk hxp
            go_upto_region 33 with (fail)
            refine wp_region_segs [some 16] (by kernel_rfl) (by kernel_rfl) (by kernel_rfl) ?_
            simp only [wpSegs, List.take_succ_cons, List.take_zero]
            repeat (first | (refine seg_skip rfl ?_; simp only [Act.put, List.setIfInBounds_toArray, List.set_cons_succ, List.set_cons_zero]) | (refine seg_run rfl (fun K hK => ?_); go_simp; refine hK _ ?_; clear hK K))
            refine seg_nil ?_
            go_wp2_with fail
            go_roundw
            case rel => exact ⟨j + 1, by go_num, by omega, HNX.out, below_next HB4.out bel_drew⟩
            case measure => simp [intOf]; omega
          ·have e1 : (x.kind == 4) = false := by simp [hxk]
           have HNX := Lib.hid (show ∀ z ∈ cs.take (j + 1), ¬ (z.kind = 4 ∧ z.path = c.path) from no_more HNO.out HXC.out (fun h => hxk h.1))
           clear hxk
           go_upto_region 33 with (fail)
           refine wp_region_segs [some 16] (by kernel_rfl) (by kernel_rfl) (by kernel_rfl) ?_
           simp only [wpSegs, List.take_succ_cons, List.take_zero]
           repeat (first | (refine seg_skip rfl ?_; simp only [Act.put, List.setIfInBounds_toArray, List.set_cons_succ, List.set_cons_zero]) | (refine seg_run rfl (fun K hK => ?_); go_simp; refine hK _ ?_; clear hK K))
           refine seg_nil ?_
           go_wp2_with fail
           go_roundw
           case rel => exact ⟨j + 1, by go_num, by omega, HNX.out, below_next HB4.out bel_drew⟩
           case measure => simp [intOf]; omega
         ·have hj2 : j = k := by omega
          have HAN := Lib.hid (show ¬ (cs.take k).any (fun x => decide (x.kind = 4) && decide (x.path = c.path)) = true by
           rw [List.any_eq_true]
           rintro ⟨z, hz, hq⟩
           rw [← hj2] at hz
           exact HNO.out z hz (by simpa using hq))
          have HBW4 := Lib.hid (below_next HBW.out HB4.out)
          clear hj2 hj HNO
          go_upto_region 35 with (fail)
          obtain ⟨w5, hw5⟩ : ∃ Z : World, Z = wr := ⟨_, rfl⟩
          rw [← hw5] at HX4 HBT4 HBW4 HB4 c0 c1 c2 c3 c4 c5 c6 c7 c8 hltX ⊢
          clear hw5
          clear c0 c1 c2 c3 c4 c5 c6 c7 c8 hltX
          refine hld_start (fun w' => w'.cell? ⟨cb, 0, none⟩ = some (.int .i64 c.kind) ∧ w'.cell? ⟨cb, 1, none⟩ = some (.string c.path) ∧ w'.cell? ⟨cb, 2, none⟩ = some (.string c.src) ∧ w'.cell? ⟨cb, 3, none⟩ = some (.string c.en.path) ∧ w'.cell? ⟨cb, 4, none⟩ = some (.int .i64 c.en.kind) ∧ w'.cell? ⟨cb, 5, none⟩ = some (.int .i64 c.en.mode) ∧ w'.cell? ⟨cb, 6, none⟩ = some (.int .i64 c.en.time) ∧ w'.cell? ⟨cb, 7, none⟩ = some (.slice a1 c.en.data.length cap1) ∧ w'.cell? ⟨cb, 8, none⟩ = some (.string c.en.link)) (by kernel_rfl) ?_
          obtain ⟨V, hV⟩ : ∃ V : World, V = (w5).drew := ⟨_, rfl⟩
          rw [← hV]
          have HV := Lib.hid (show Below (w5).heap.size (w5) V by rw [hV]; exact bel_drew)
          have HXV := Lib.hid ((HV.out.block _ (lt20 HX4.out)).trans HX4.out)
          have HBV := Lib.hid (below_next HBT4.out HV.out)
          clear hV
          have c0 := cell20 (k := 0) HXV.out
          have c1 := cell20 (k := 1) HXV.out
          have c2 := cell20 (k := 2) HXV.out
          have c3 := cell20 (k := 3) HXV.out
          have c4 := cell20 (k := 4) HXV.out
          have c5 := cell20 (k := 5) HXV.out
          have c6 := cell20 (k := 6) HXV.out
          have c7 := cell20 (k := 7) HXV.out
          have c8 := cell20 (k := 8) HXV.out
          have hltX := lt20 HXV.out
          simp only [List.getElem?_toArray, List.getElem?_cons_succ, List.getElem?_cons_zero] at c0 c1 c2 c3 c4 c5 c6 c7 c8
          have hS1 := And.intro c0 (And.intro c1 (And.intro c2 (And.intro c3 (And.intro c4 (And.intro c5 (And.intro c6 (And.intro c7 c8)))))))
          clear c0 c1 c2 c3 c4 c5 c6 c7 c8 hltX
          refine hld_take 0 rfl (by kernel_rfl) (by kernel_rfl) (by kernel_rfl) (fun _ _ _ h => h) rfl hS1 (by rintro w' ⟨hw0, hw1, hw2, hw3, hw4, hw5, hw6, hw7, hw8⟩; go_simp; rfl) ?_
          simp only [Act.put, List.setIfInBounds_toArray, List.set_cons_succ, List.set_cons_zero]
          refine hld_take 1 rfl (by kernel_rfl) (by kernel_rfl) (by kernel_rfl) (fun _ _ _ h => h) rfl hS1 (by rintro w' ⟨hw0, hw1, hw2, hw3, hw4, hw5, hw6, hw7, hw8⟩; go_simp; rfl) ?_
          simp only [Act.put, List.setIfInBounds_toArray, List.set_cons_succ, List.set_cons_zero]
          refine hld_take 2 rfl (by kernel_rfl) (by kernel_rfl) (by kernel_rfl) (fun _ _ _ h => h) rfl hS1 (by rintro w' ⟨hw0, hw1, hw2, hw3, hw4, hw5, hw6, hw7, hw8⟩; go_simp; rfl) ?_
          simp only [Act.put, List.setIfInBounds_toArray, List.set_cons_succ, List.set_cons_zero]
          refine hld_take 5 rfl (by kernel_rfl) (by kernel_rfl) (by kernel_rfl) (fun _ _ _ h => h) rfl hS1 (by rintro w' ⟨hw0, hw1, hw2, hw3, hw4, hw5, hw6, hw7, hw8⟩; go_simp; rfl) ?_
          simp only [Act.put, List.setIfInBounds_toArray, List.set_cons_succ, List.set_cons_zero]
          refine hld_take 6 rfl (by kernel_rfl) (by kernel_rfl) (by kernel_rfl) (fun _ _ _ h => h) rfl hS1 (by rintro w' ⟨hw0, hw1, hw2, hw3, hw4, hw5, hw6, hw7, hw8⟩; go_simp; rfl) ?_
          simp only [Act.put, List.setIfInBounds_toArray, List.set_cons_succ, List.set_cons_zero]
          refine hld_take 7 rfl (by kernel_rfl) (by kernel_rfl) (by kernel_rfl) (fun _ _ _ h => h) rfl hS1 (by rintro w' ⟨hw0, hw1, hw2, hw3, hw4, hw5, hw6, hw7, hw8⟩; go_simp; rfl) ?_
          simp only [Act.put, List.setIfInBounds_toArray, List.set_cons_succ, List.set_cons_zero]
          refine hld_bar 3 rfl (by kernel_rfl) rfl (fun K hK => ?_)
          have HBWV := Lib.hid (below_next HBW4.out HV.out)
          have HWV1 := Lib.hid (below_next HB4.out HV.out)
          have hat := r_at_any _ left _ c.path V (HLP.out.lies.below HBWV.out)
          obtain ⟨x, hxe⟩ : ∃ x, x = atE left c.path := ⟨_, rfl⟩
          unfold AtRes at hat
          rw [← hxe] at hat
          have HXE := Lib.hid hxe
          clear hxe
          go_wp2_with (go_at_call 43; refine hat.mono ?_; rintro e6 w6 ⟨a9, c9, rfl, -, -, hb6⟩; have HX6 := Lib.hid ((hb6.block _ (lt20 HXV.out)).trans HXV.out); have HBW6 := Lib.hid (below_next HBWV.out hb6); have HW6 := Lib.hid (below_next HWV1.out hb6); have HB6 := Lib.hid (below_next HBV.out hb6); clear hb6 hat hS1)
          have c0 := cell20 (k := 0) HX6.out
          have c1 := cell20 (k := 1) HX6.out
          have c2 := cell20 (k := 2) HX6.out
          have c3 := cell20 (k := 3) HX6.out
          have c4 := cell20 (k := 4) HX6.out
          have c5 := cell20 (k := 5) HX6.out
          have c6 := cell20 (k := 6) HX6.out
          have c7 := cell20 (k := 7) HX6.out
          have c8 := cell20 (k := 8) HX6.out
          have hltX := lt20 HX6.out
          simp only [List.getElem?_toArray, List.getElem?_cons_succ, List.getElem?_cons_zero] at c0 c1 c2 c3 c4 c5 c6 c7 c8
          have hS1 := And.intro c0 (And.intro c1 (And.intro c2 (And.intro c3 (And.intro c4 (And.intro c5 (And.intro c6 (And.intro c7 c8)))))))
          clear c0 c1 c2 c3 c4 c5 c6 c7 c8 hltX
          refine ⟨hS1, ?_⟩
          unfold entV
          have hfl := fldK
          refine hld_take 4 rfl (by kernel_rfl) (by kernel_rfl) (by kernel_rfl) (fun _ _ _ h => h) rfl hS1 (by rintro w' ⟨hw0, hw1, hw2, hw3, hw4, hw5, hw6, hw7, hw8⟩; go_simp; rfl) ?_
          simp only [Act.put, List.setIfInBounds_toArray, List.set_cons_succ, List.set_cons_zero]
          clear hfl
          by_cases hxk : x.kind = c.en.kind
          ·have e1 : (x.kind != c.en.kind) = false := by simp [hxk]
           have HRE := Lib.hid (show putsR left left [] cs = putsR left (insF (dropE out c.path) c.en) (cs.take (k + 1)) (cs.drop (k + 1)) by
            rw [HLU.out.res, HPG.out, if_neg (show ¬ (c.kind = 2 ∨ c.kind = 3) by have := HK4.out; omega), if_pos HK4.out, if_neg HAN.out, if_neg]
            rw [← HXE.out]; exact fun h => h hxk)
           clear hxk
           refine hld_take 8 rfl (by kernel_rfl) (by kernel_rfl) (by kernel_rfl) (fun _ _ _ h => h) rfl hS1 (by rintro w' ⟨hw0, hw1, hw2, hw3, hw4, hw5, hw6, hw7, hw8⟩; go_simp; rfl) ?_
           simp only [Act.put, List.setIfInBounds_toArray, List.set_cons_succ, List.set_cons_zero]
           refine hld_done (by kernel_rfl) ?_
           clear hS1
           go_upto_region 37 with (fail)
           refine hld_start (fun w' => w'.cell? ⟨cb, 0, none⟩ = some (.int .i64 c.kind) ∧ w'.cell? ⟨cb, 1, none⟩ = some (.string c.path) ∧ w'.cell? ⟨cb, 2, none⟩ = some (.string c.src) ∧ w'.cell? ⟨cb, 3, none⟩ = some (.string c.en.path) ∧ w'.cell? ⟨cb, 4, none⟩ = some (.int .i64 c.en.kind) ∧ w'.cell? ⟨cb, 5, none⟩ = some (.int .i64 c.en.mode) ∧ w'.cell? ⟨cb, 6, none⟩ = some (.int .i64 c.en.time) ∧ w'.cell? ⟨cb, 7, none⟩ = some (.slice a1 c.en.data.length cap1) ∧ w'.cell? ⟨cb, 8, none⟩ = some (.string c.en.link)) (by kernel_rfl) ?_
           obtain ⟨V, hV⟩ : ∃ V : World, V = (w6).drew := ⟨_, rfl⟩
           rw [← hV]
           have HV := Lib.hid (show Below (w6).heap.size (w6) V by rw [hV]; exact bel_drew)
           have HXV := Lib.hid ((HV.out.block _ (lt20 HX6.out)).trans HX6.out)
           have HBV := Lib.hid (below_next HB6.out HV.out)
           clear hV
           have c0 := cell20 (k := 0) HXV.out
           have c1 := cell20 (k := 1) HXV.out
           have c2 := cell20 (k := 2) HXV.out
           have c3 := cell20 (k := 3) HXV.out
           have c4 := cell20 (k := 4) HXV.out
           have c5 := cell20 (k := 5) HXV.out
           have c6 := cell20 (k := 6) HXV.out
           have c7 := cell20 (k := 7) HXV.out
           have c8 := cell20 (k := 8) HXV.out
           have hltX := lt20 HXV.out
           simp only [List.getElem?_toArray, List.getElem?_cons_succ, List.getElem?_cons_zero] at c0 c1 c2 c3 c4 c5 c6 c7 c8
           have hS1 := And.intro c0 (And.intro c1 (And.intro c2 (And.intro c3 (And.intro c4 (And.intro c5 (And.intro c6 (And.intro c7 c8)))))))
           clear c0 c1 c2 c3 c4 c5 c6 c7 c8 hltX
           refine hld_take 0 rfl (by kernel_rfl) (by kernel_rfl) (by kernel_rfl) (fun _ _ _ h => h) rfl hS1 (by rintro w' ⟨hw0, hw1, hw2, hw3, hw4, hw5, hw6, hw7, hw8⟩; go_simp; rfl) ?_
           simp only [Act.put, List.setIfInBounds_toArray, List.set_cons_succ, List.set_cons_zero]
           refine hld_take 1 rfl (by kernel_rfl) (by kernel_rfl) (by kernel_rfl) (fun _ _ _ h => h) rfl hS1 (by rintro w' ⟨hw0, hw1, hw2, hw3, hw4, hw5, hw6, hw7, hw8⟩; go_simp; rfl) ?_
           simp only [Act.put, List.setIfInBounds_toArray, List.set_cons_succ, List.set_cons_zero]
           refine hld_take 2 rfl (by kernel_rfl) (by kernel_rfl) (by kernel_rfl) (fun _ _ _ h => h) rfl hS1 (by rintro w' ⟨hw0, hw1, hw2, hw3, hw4, hw5, hw6, hw7, hw8⟩; go_simp; rfl) ?_
           simp only [Act.put, List.setIfInBounds_toArray, List.set_cons_succ, List.set_cons_zero]
           refine hld_take 4 rfl (by kernel_rfl) (by kernel_rfl) (by kernel_rfl) (fun _ _ _ h => h) rfl hS1 (by rintro w' ⟨hw0, hw1, hw2, hw3, hw4, hw5, hw6, hw7, hw8⟩; go_simp; rfl) ?_
           simp only [Act.put, List.setIfInBounds_toArray, List.set_cons_succ, List.set_cons_zero]
           refine hld_take 5 rfl (by kernel_rfl) (by kernel_rfl) (by kernel_rfl) (fun _ _ _ h => h) rfl hS1 (by rintro w' ⟨hw0, hw1, hw2, hw3, hw4, hw5, hw6, hw7, hw8⟩; go_simp; rfl) ?_
           simp only [Act.put, List.setIfInBounds_toArray, List.set_cons_succ, List.set_cons_zero]
           refine hld_bar 3 rfl (by kernel_rfl) rfl (fun K hK => ?_)
           have HWV := Lib.hid (below_next HBW6.out HV.out)
           have HWV2 := Lib.hid (below_next HW6.out HV.out)
           have HOV := Lib.hid ((HLU.out.lies.below HW.out).below HWV2.out)
           go_wp2_with (go_at_call 55; refine (r_without_any _ out _ c.path V HOV.out (by have := HOL.out; omega)).mono ?_; rintro e7 w7 ⟨v7, rfl, hs7, hb7, hsh7⟩; have HX7 := Lib.hid ((hb7.block _ (lt20 HXV.out)).trans HXV.out); have HS7 := Lib.hid hs7; have HSH7 := Lib.hid hsh7; have HBW7 := Lib.hid (below_next HWV.out hb7); have HW7 := Lib.hid (below_next HWV2.out hb7); have HB7 := Lib.hid (below_next HBV.out hb7); clear hb7 hsh7 hs7 hS1)
           have c0 := cell20 (k := 0) HX7.out
           have c1 := cell20 (k := 1) HX7.out
           have c2 := cell20 (k := 2) HX7.out
           have c3 := cell20 (k := 3) HX7.out
           have c4 := cell20 (k := 4) HX7.out
           have c5 := cell20 (k := 5) HX7.out
           have c6 := cell20 (k := 6) HX7.out
           have c7 := cell20 (k := 7) HX7.out
           have c8 := cell20 (k := 8) HX7.out
           have hltX := lt20 HX7.out
           simp only [List.getElem?_toArray, List.getElem?_cons_succ, List.getElem?_cons_zero] at c0 c1 c2 c3 c4 c5 c6 c7 c8
           have hS1 := And.intro c0 (And.intro c1 (And.intro c2 (And.intro c3 (And.intro c4 (And.intro c5 (And.intro c6 (And.intro c7 c8)))))))
           clear c0 c1 c2 c3 c4 c5 c6 c7 c8 hltX
           refine ⟨hS1, ?_⟩
           refine hld_bar 6 rfl (by kernel_rfl) rfl (fun K hK => ?_)
           have hins := r_insert_any _ _ (dropE out c.path) _ (.slice a1 c.en.data.length cap1) c.en w7 HS7.out HSH7.out ((HD.out.below HW.out).below HW7.out) HOK.out.en (by have := HOL.out; have := List.length_filter_le (fun x : Ent => decide (x.path ≠ c.path)) out; unfold dropE; omega) (fun f hf => by have := HLU.out.pth f (List.mem_filter.1 hf).1; omega)
           unfold entV at hins
           go_wp2_with (go_at_call 54; refine hins.mono ?_; rintro e8 w8 ⟨v8, rfl, hs8, hb8, hsh8⟩; have HX8 := Lib.hid ((hb8.block _ (lt20 HX7.out)).trans HX7.out); have HS8 := Lib.hid hs8; have HSH8 := Lib.hid hsh8; have HBW8 := Lib.hid (below_next HBW7.out hb8); clear hb8 hsh8 hs8 hS1 hins)
           have c0 := cell20 (k := 0) HX8.out
           have c1 := cell20 (k := 1) HX8.out
           have c2 := cell20 (k := 2) HX8.out
           have c3 := cell20 (k := 3) HX8.out
           have c4 := cell20 (k := 4) HX8.out
           have c5 := cell20 (k := 5) HX8.out
           have c6 := cell20 (k := 6) HX8.out
           have c7 := cell20 (k := 7) HX8.out
           have c8 := cell20 (k := 8) HX8.out
           have hltX := lt20 HX8.out
           simp only [List.getElem?_toArray, List.getElem?_cons_succ, List.getElem?_cons_zero] at c0 c1 c2 c3 c4 c5 c6 c7 c8
           have hS1 := And.intro c0 (And.intro c1 (And.intro c2 (And.intro c3 (And.intro c4 (And.intro c5 (And.intro c6 (And.intro c7 c8)))))))
           clear c0 c1 c2 c3 c4 c5 c6 c7 c8 hltX
           refine ⟨hS1, ?_⟩
           refine hld_take 7 rfl (by kernel_rfl) (by kernel_rfl) (by kernel_rfl) (fun _ _ _ h => h) rfl hS1 (by rintro w' ⟨hw0, hw1, hw2, hw3, hw4, hw5, hw6, hw7, hw8⟩; go_simp; rfl) ?_
           simp only [Act.put, List.setIfInBounds_toArray, List.set_cons_succ, List.set_cons_zero]
           refine hld_done (by kernel_rfl) ?_
           clear hS1
           go_wp2_with fail
           go_roundw
           case rel => exact ⟨k + 1, insF (dropE out c.path) c.en, by omega, by go_num, ⟨HRE.out, HS8.out, HSH8.out, by rw [ins_len]; have := HLU.out.len; have := List.length_filter_le (fun x : Ent => decide (x.path ≠ c.path)) out; unfold dropE; omega, ins_pth (fun f hf => HLU.out.pth f (List.mem_filter.1 hf).1) HPN.out, HBW8.out⟩⟩
           case measure => simp [intOf]; omega
          ·have e1 : (x.kind != c.en.kind) = true := by simp [hxk]
           have HR := Lib.hid (show applyR a cs = ([], 13) from ap_puts HALL.out HTK.out (by
            rw [HLU.out.res, HPG.out, if_neg (show ¬ (c.kind = 2 ∨ c.kind = 3) by have := HK4.out; omega), if_pos HK4.out, if_neg HAN.out, if_pos]
            rw [← HXE.out]; exact hxk))
           clear hxk
           refine hld_take 8 rfl (by kernel_rfl) (by kernel_rfl) (by kernel_rfl) (fun _ _ _ h => h) rfl hS1 (by rintro w' ⟨hw0, hw1, hw2, hw3, hw4, hw5, hw6, hw7, hw8⟩; go_simp; rfl) ?_
           simp only [Act.put, List.setIfInBounds_toArray, List.set_cons_succ, List.set_cons_zero]
           refine hld_done (by kernel_rfl) ?_
           clear hS1
           go_wp2_with fail
           go_ret2
           exact ap_err HR.out HB6.out
      ·have hk2 : k = n := by omega
       have HPK := Lib.hid (show applyR a cs = if checkP out = 0 then (out, 0) else ([], 13) by
        have h1 := HLU.out.res
        rw [hk2, HN.out, List.drop_length, List.take_length] at h1
        unfold applyR
        rw [if_neg (by rw [Bool.not_eq_false, List.all_eq_true]; exact HALL.out), HTK.out]
        simp only [h1, putsR])
       clear hk2
       have hchk := r_check_any _ out _ wr HLU.out.lies HLU.out.pth
       have HSO := Lib.hid HLU.out.shp
       by_cases hz : checkP out = 0
       ·rw [hz] at hchk
        have HR := Lib.hid (show applyR a cs = (out, 0) by rw [HPK.out, if_pos hz])
        clear hz
        go_wp2_with (go_at_call 16; refine hchk.mono ?_; rintro e8 w8 ⟨rfl, hb8⟩; have HS8 := Lib.hid (HLU.out.lies.below hb8); have HB8 := Lib.hid (below_next HBU.out hb8); clear hb8 hchk)
        go_ret2
        exact ap_ok HR.out HS8.out HSO.out ⟨by have := HLU.out.len; rw [← HN.out]; omega, HLU.out.pth⟩ HB8.out
       ·obtain ⟨ck, hck⟩ : ∃ z, z = checkP out := ⟨_, rfl⟩
        have e1 : (ck != 0) = true := by rw [hck]; simp [hz]
        have HR := Lib.hid (show applyR a cs = ([], 13) by rw [HPK.out, if_neg hz])
        rw [← hck] at hchk
        clear hz hck
        go_wp2_with (go_at_call 16; refine hchk.mono ?_; rintro e8 w8 ⟨rfl, hb8⟩; have HB8 := Lib.hid (below_next HBU.out hb8); clear hb8 hchk)
        go_ret2
        exact ap_err HR.out HB8.out
end Go.Proofs.YtdieneaillkbgaaGreatDoor

/- The law TreediffInverts: its walk. -/
namespace Go.Proofs.YtdieneaillkbgaaGreatDoor
open Go Go.RowKit Go.Maps
theorem ChgRes.flat {r : List Chg × Int} {m : List Chg} {x : Int} {w w' : World} {e : Ending} (hr : r = (m, x)) (h : ChgRes r w e w') : ∃ a' c', e = .returned (.tuple #[.slice a' m.length c', .int .i64 x]) ∧ ChgsAt (fun _ => True) w' (.slice a' m.length c') m ∧ c' ≤ 9223372036854775807 ∧ Below w.heap.size w w' := by
  unfold ChgRes at h
  rw [hr] at h
  obtain ⟨v, ys, rfl, hy, hg, hb⟩ := h
  simp only at hy ⊢
  obtain ⟨a', c', rfl, -, hm⟩ := owns_shape hg.row
  have hl : ys.length = m.length := by rw [← hy, List.length_map]
  have hs := hg.seq
  rw [hy, hl] at hs
  rw [hl]
  exact ⟨a', c', rfl, SeqAt.mono hs (by omega) (fun _ _ _ => trivial) (fun c x _ hr => by obtain ⟨v, r1, r2, r3⟩ := hr; exact ⟨v, r1, data_mono r2 (fun _ _ => trivial), r3⟩), by unfold maxLen at hm; omega, hb⟩
theorem invQ_of {a m : List Ent} {cs : List Chg} (h : applyP a cs = (m, 0)) : invQ a cs = (diffP m a, 0) := by unfold invQ; rw [h]; rfl
theorem compQ_of {a m n : List Ent} {cs ds : List Chg} (h : applyP a cs = (m, 0)) (h2 : applyP m ds = (n, 0)) : compQ a cs ds = (diffP a n, 0) := by unfold compQ; rw [h]; simp only; rw [h2]; rfl
end Go.Proofs.YtdieneaillkbgaaGreatDoor

/- The law TreediffApplies: its walk. -/
namespace Go.Proofs.YtdieneaillkbgaaGreatDoor
open Go Go.RowKit Go.Maps
theorem papply_empty {a m : List Ent} {cs : List Chg} {x : Int} (h : applyP a cs = (m, x)) (hx : x ≠ 0) : m = [] := by
  unfold applyP applyQ at h
  split at h
  · exact (Prod.mk.inj h).1.symm
  · split at h
    · exact (Prod.mk.inj h).1.symm
    · split at h
      · exact (Prod.mk.inj h).1.symm
      · split at h
        · exact absurd (Prod.mk.inj h).2.symm hx
        · exact (Prod.mk.inj h).1.symm
theorem papply_bad {a : List Ent} {cs : List Chg} (h : checkP a ≠ 0) : applyP a cs = ([], checkP a) := by
  unfold applyP chkC
  rw [if_pos h, if_pos h]
theorem inv_err {a m : List Ent} {cs : List Chg} {x : Int} (h : applyP a cs = (m, x)) (hx : x ≠ 0) : invQ a cs = ([], x) := by unfold invQ; rw [h, if_pos hx]
theorem comp_err {a m : List Ent} {cs ds : List Chg} {x : Int} (h : applyP a cs = (m, x)) (hx : x ≠ 0) : compQ a cs ds = ([], x) := by unfold compQ; rw [h, if_pos hx]
theorem comp_err2 {a m n : List Ent} {cs ds : List Chg} {x : Int} (h : applyP a cs = (m, 0)) (h2 : applyP m ds = (n, x)) (hx : x ≠ 0) : compQ a cs ds = ([], x) := by unfold compQ; rw [h]; simp only; rw [h2]; simp [hx]
set_option maxRecDepth 100000 in
set_option maxHeartbeats 4000000 in
theorem applies_walk (a : List Ent) (cs ds : List Chg) (va vl vd : Value) (w : World) (ha : EntsAt (fun _ => True) w va a) (hl : ChgsAt (fun _ => True) w vl cs) (hd : ChgsAt (fun _ => True) w vd ds) (hsh : Shp va) (henv : Env w) :
    Calls Tryz.prog 12 #[va, vl, vd] w fun e w' => e = .returned (.bool true) ∧ Below w.heap.size w w' := by
  obtain ⟨aa, ca, rfl, hca, hma, -⟩ := SeqAt.shape ha EntR.len
  obtain ⟨al, cl, rfl, hcl, hml⟩ := chgs_shape hl
  obtain ⟨ad, cd, rfl, hcd, hmd⟩ := chgs_shape hd
  unfold maxLen at hma hml hmd
  have HA := Lib.hid ha
  have HL := Lib.hid (chgs_old hl)
  have HD := Lib.hid (chgs_old hd)
  have HE := Lib.hid henv
  have HSH := Lib.hid hsh
  obtain ⟨na, hna⟩ : ∃ n, n = a.length := ⟨_, rfl⟩
  obtain ⟨n, hn⟩ : ∃ n, n = cs.length := ⟨_, rfl⟩
  obtain ⟨nd, hnd⟩ : ∃ n, n = ds.length := ⟨_, rfl⟩
  rw [← hna] at hca HA HSH ⊢
  rw [← hn] at hcl HL ⊢
  rw [← hnd] at hcd HD ⊢
  have HNA := Lib.hid hna
  have HN := Lib.hid hn
  have HND := Lib.hid hnd
  clear ha hl hd henv hna hn hnd hsh
  go_enter Tryz.func12, Tryz.ntmps12
  go_wp2_with fail
  refine (awD_any w HE.out).mono ?_
  rintro e w1 ⟨rfl, hb1⟩
  have HB1 := Lib.hid hb1
  clear hb1
  go_wp2_with fail
  obtain ⟨w2, hw2⟩ : ∃ Z : World, Z = w1.alloc (.cells #[.slice aa na ca] 22) := ⟨_, rfl⟩
  have hb2 : Below w1.heap.size w1 w2 := by rw [hw2]; exact (Below.refl _ _).alloc (Nat.le_refl _) _
  have HLS := Lib.hid (show ListsAt (fun _ => True) w2 (.slice (some ⟨w1.heap.size, 0, none⟩) 1 1) [(.slice aa na ca, a)] by
    rw [hw2]
    exact lists_new (ls := [(.slice aa na ca, a)]) (by simp) (fun x hx => by
      simp only [List.mem_cons, List.not_mem_nil, or_false] at hx
      subst hx
      exact HA.out.below HB1.out))
  have HB2 := Lib.hid (below_next HB1.out hb2)
  rw [← hw2]
  clear hw2 hb2
  refine (large23_any _ _ _ w2 HLS.out).mono ?_
  rintro e w3 ⟨tb, rfl, htr, hb3⟩
  have HTR := Lib.hid htr
  have HB3 := Lib.hid (below_next HB2.out hb3)
  clear htr hb3 HLS
  cases tb
  case true =>
    go_wp2_with fail
    go_ret
    exact ⟨rfl, HB3.out⟩
  have HSA := Lib.hid (HTR.out (by trivial) _ (List.mem_cons_self ..))
  clear HTR
  go_wp2_with fail
  refine (wide23_any _ cs _ w3 (HL.out.below HB3.out)).mono ?_
  rintro e w4 ⟨tb, rfl, htr, hb⟩
  have HTR := Lib.hid htr
  have HB4 := Lib.hid (below_next HB3.out hb)
  clear htr hb
  cases tb
  case true =>
    go_wp2_with fail
    go_ret
    exact ⟨rfl, HB4.out⟩
  have HSC := Lib.hid (HTR.out (by trivial))
  clear HTR
  go_wp2_with fail
  refine (wide23_any _ ds _ w4 (HD.out.below HB4.out)).mono ?_
  rintro e w5 ⟨tb, rfl, htr, hb⟩
  have HTR := Lib.hid htr
  have HB5 := Lib.hid (below_next HB4.out hb)
  clear htr hb
  cases tb
  case true =>
    go_wp2_with fail
    go_ret
    exact ⟨rfl, HB5.out⟩
  have HSD := Lib.hid (HTR.out (by trivial))
  clear HTR
  have HM := Lib.hid (show a.length ≤ 40 ∧ cs.length ≤ 40 ∧ ds.length ≤ 40 from ⟨HSA.out.1, HSC.out.1, HSD.out.1⟩)
  go_wp2_with fail
  refine (changes_any _ cs _ w5 (HL.out.below HB5.out) (by have := HM.out; omega)).mono ?_
  rintro e w6 ⟨a5, c5, rfl, hc5, hm5, hb5⟩
  have HC6 := Lib.hid hc5
  have HB6 := Lib.hid (below_next HB5.out hb5)
  skip
  clear hc5 hb5
  rw [← HN.out] at HC6 ⊢
  obtain ⟨m, x, hr⟩ : ∃ m x, applyP a cs = (m, x) := ⟨_, _, rfl⟩
  have HR := Lib.hid hr
  clear hr
  have HLEN := Lib.hid (show a.length + cs.length ≤ 4096 ∧ a.length + cs.length + ds.length ≤ 4096 by have := HM.out; omega)
  go_wp2_with fail
  refine (apply_flat2 _ _ a cs _ _ w6 m x HR.out (HA.out.below HB6.out) HC6.out HLEN.out.1 (HE.out.below HB6.out)).mono ?_
  rintro e w7 ⟨a7, c7, rfl, hs7, hc7, hb7⟩
  have HB7 := Lib.hid (below_next HB6.out hb7)
  have HS7 := Lib.hid hs7
  obtain ⟨nm, hnm⟩ : ∃ z, z = m.length := ⟨_, rfl⟩
  rw [← hnm] at HS7 ⊢
  have HNM := Lib.hid hnm
  clear hs7 hb7 hnm HC6
  go_wp2_with fail
  refine (changes_any _ cs _ w7 (HL.out.below HB7.out) (by have := HM.out; omega)).mono ?_
  rintro e w8 ⟨a5, c5, rfl, hc5, hm5, hb5⟩
  have HC8 := Lib.hid hc5
  have HB8 := Lib.hid (below_next HB7.out hb5)
  replace HS7 := Lib.hid (HS7.out.below hb5)
  clear hc5 hb5
  rw [← HN.out] at HC8 ⊢
  obtain ⟨iv, xi, hq⟩ : ∃ m x, invQ a cs = (m, x) := ⟨_, _, rfl⟩
  have HQ := Lib.hid hq
  clear hq
  go_wp2_with fail
  refine (invert_any _ _ a cs _ _ w8 (HA.out.below HB8.out) HC8.out HLEN.out.1 (HE.out.below HB8.out)).mono ?_
  intro e w9 hr9
  obtain ⟨a9, c9, rfl, hs9, hc9, hb9⟩ := ChgRes.flat HQ.out hr9
  have HS9 := Lib.hid hs9
  have HB9 := Lib.hid (below_next HB8.out hb9)
  replace HS7 := Lib.hid (HS7.out.below hb9)
  obtain ⟨ni, hni⟩ : ∃ z, z = iv.length := ⟨_, rfl⟩
  rw [← hni] at HS9 ⊢
  have HNI := Lib.hid hni
  clear hs9 hb9 hr9 hni HC8
  go_wp2_with fail
  refine (changes_any _ cs _ w9 (HL.out.below HB9.out) (by have := HM.out; omega)).mono ?_
  rintro e w10 ⟨a5, c5, rfl, hc5, hm5, hb5⟩
  have HC10 := Lib.hid hc5
  have HB10 := Lib.hid (below_next HB9.out hb5)
  (replace HS7 := Lib.hid (HS7.out.below hb5)); (replace HS9 := Lib.hid (HS9.out.below hb5))
  clear hc5 hb5
  rw [← HN.out] at HC10 ⊢
  go_wp2_with fail
  refine (changes_any _ ds _ w10 (HD.out.below HB10.out) (by have := HM.out; omega)).mono ?_
  rintro e w11 ⟨a11, c11, rfl, hc11, hm11, hb11⟩
  have HC11 := Lib.hid hc11
  have HC10b := Lib.hid (HC10.out.below hb11)
  have HB11 := Lib.hid (below_next HB10.out hb11)
  replace HS7 := Lib.hid (HS7.out.below hb11)
  replace HS9 := Lib.hid (HS9.out.below hb11)
  clear hc11 hb11 HC10
  rw [← HND.out] at HC11 ⊢
  obtain ⟨cv, xc, hq⟩ : ∃ m x, compQ a cs ds = (m, x) := ⟨_, _, rfl⟩
  have HCQ := Lib.hid hq
  clear hq
  go_wp2_with fail
  refine (compose_any _ _ _ a cs ds _ _ _ w11 (HA.out.below HB11.out) HC10b.out HC11.out HLEN.out.2 (HE.out.below HB11.out)).mono ?_
  intro e w12 hr12
  obtain ⟨a12, c12, rfl, hs12, hc12, hb12⟩ := ChgRes.flat HCQ.out hr12
  have HS12 := Lib.hid hs12
  have HB12 := Lib.hid (below_next HB11.out hb12)
  replace HS7 := Lib.hid (HS7.out.below hb12)
  replace HS9 := Lib.hid (HS9.out.below hb12)
  obtain ⟨nc, hnc⟩ : ∃ z, z = cv.length := ⟨_, rfl⟩
  rw [← hnc] at HS12 ⊢
  have HNC := Lib.hid hnc
  clear hs12 hb12 hr12 hnc HC10b HC11
  obtain ⟨z, hz⟩ : ∃ z, z = checkP a := ⟨_, rfl⟩
  have HZ := Lib.hid hz
  clear hz
  have HPA := Lib.hid (show ∀ e ∈ a, e.path.size ≤ 65000 from fun e he => by have := (HSA.out.2 e he).1; omega)
  go_wp2_with fail
  refine (r_check_any _ a _ w12 (HA.out.below HB12.out) HPA.out).mono ?_
  rw [← HZ.out]
  rintro e w13 ⟨rfl, hb13⟩
  have HB13 := Lib.hid (below_next HB12.out hb13)
  replace HS7 := Lib.hid (HS7.out.below hb13)
  replace HS9 := Lib.hid (HS9.out.below hb13)
  replace HS12 := Lib.hid (HS12.out.below hb13)
  by_cases hz : z = 0
  · subst hz
    have HTA := Lib.hid (checkP_iff.1 HZ.out.symm)
    have hap := r_apply_any _ _ a cs _ _ w13 (HA.out.below HB13.out) HSH.out (HL.out.below HB13.out) (by have := HM.out; omega) (by have := HM.out; omega) HPA.out (fun c hc => by have := (HSC.out.2 c hc); have := this.2.2.1; omega)
    unfold ApRes at hap
    rw [apply_same HTA.out, HR.out] at hap
    go_wp2_with fail
    refine hap.mono ?_
    rintro e w14 ⟨v14, rfl, hs14, hsh14, hlp14, hb14⟩
    have HS14 := Lib.hid hs14
    have HSH14 := Lib.hid hsh14
    have HLP14 := Lib.hid hlp14
    have HB14 := Lib.hid (below_next HB13.out hb14)
    replace HS7 := Lib.hid (HS7.out.below hb14)
    replace HS9 := Lib.hid (HS9.out.below hb14)
    replace HS12 := Lib.hid (HS12.out.below hb14)
    simp only at HS14 HLP14 ⊢
    clear hap hs14 hsh14 hlp14 hb14
    by_cases hx : x = 0
    · subst hx
      have HTM := Lib.hid (app_tok (show (applyP a cs).2 = 0 by rw [HR.out])).2
      rw [HR.out] at HTM
      simp only at HTM
      obtain ⟨hi0, hx1⟩ := Prod.mk.inj (HQ.out.symm.trans (invQ_of HR.out))
      subst hx1
      have HIV := Lib.hid hi0
      clear hi0
      have HML := Lib.hid (show m.length ≤ 80 by have h1 := HLP14.out.1; have h2 := HM.out; omega)
      go_wp2_with fail
      refine (r_sameall_any _ _ m m _ _ w14 HS7.out HS14.out).mono ?_
      rw [decide_eq_true rfl]
      rintro e w15 ⟨rfl, hb15⟩
      have HB15 := Lib.hid (below_next HB14.out hb15)
      replace HS9 := Lib.hid (HS9.out.below hb15)
      replace HS12 := Lib.hid (HS12.out.below hb15)
      replace HS14 := Lib.hid (HS14.out.below hb15)
      clear hb15
      go_wp2_with fail
      refine (r_diff_any _ _ m a _ _ w15 HS14.out (HA.out.below HB15.out) HTM.out HTA.out (by have := HML.out; omega) (by have := HM.out; omega)).mono ?_
      rintro e w16 ⟨v16, rfl, hd16, hb16⟩
      have HD16 := Lib.hid hd16
      rw [← HIV.out] at HD16
      have HB16 := Lib.hid (below_next HB15.out hb16)
      replace HS9 := Lib.hid (HS9.out.below hb16)
      replace HS12 := Lib.hid (HS12.out.below hb16)
      replace HS14 := Lib.hid (HS14.out.below hb16)
      clear hb16 hd16
      go_wp2_with fail
      refine (same_any _ _ iv iv _ _ w16 HS9.out HD16.out (by
        have h1 := @diff_len m a HTM.out
        have h2 := HML.out
        have h3 := HM.out
        rw [HIV.out]; omega)).mono ?_
      rw [decide_eq_true rfl]
      rintro e w17 ⟨rfl, hb17⟩
      have HB17 := Lib.hid (below_next HB16.out hb17)
      replace HS12 := Lib.hid (HS12.out.below hb17)
      replace HS14 := Lib.hid (HS14.out.below hb17)
      clear hb17
      obtain ⟨d, y, hr2⟩ : ∃ d y, applyP m ds = (d, y) := ⟨_, _, rfl⟩
      have HR2 := Lib.hid hr2
      clear hr2
      have hap := r_apply_any _ _ m ds _ _ w17 HS14.out HSH14.out (HD.out.below HB17.out) (by have := HML.out; omega) (by have := HM.out; omega) HLP14.out.2 (fun c hc => by have := (HSD.out.2 c hc); have := this.2.2.1; omega)
      unfold ApRes at hap
      rw [apply_same HTM.out, HR2.out] at hap
      go_wp2_with fail
      refine hap.mono ?_
      rintro e w18 ⟨v18, rfl, hs18, hsh18, hlp18, hb18⟩
      have HS18 := Lib.hid hs18
      have HLP18 := Lib.hid hlp18
      have HB18 := Lib.hid (below_next HB17.out hb18)
      replace HS12 := Lib.hid (HS12.out.below hb18)
      simp only at HS18 HLP18 ⊢
      clear hap hs18 hsh18 hlp18 hb18
      by_cases hy : y = 0
      · subst hy
        have HTD := Lib.hid (app_tok (show (applyP m ds).2 = 0 by rw [HR2.out])).2
        rw [HR2.out] at HTD
        simp only at HTD
        obtain ⟨hc0, hx2⟩ := Prod.mk.inj (HCQ.out.symm.trans (compQ_of HR.out HR2.out))
        subst hx2
        have HCV := Lib.hid hc0
        clear hc0
        have HDL := Lib.hid (show d.length ≤ 120 by have h1 := HLP18.out.1; have h2 := HM.out; have h3 := HML.out; omega)
        go_wp2_with fail
        refine (r_diff_any _ _ a d _ _ w18 (HA.out.below HB18.out) HS18.out HTA.out HTD.out (by have := HM.out; omega) (by have := HDL.out; omega)).mono ?_
        rintro e w19 ⟨v19, rfl, hd19, hb19⟩
        have HD19 := Lib.hid hd19
        rw [← HCV.out] at HD19
        have HB19 := Lib.hid (below_next HB18.out hb19)
        replace HS12 := Lib.hid (HS12.out.below hb19)
        clear hb19 hd19
        go_wp2_with fail
        refine (same_any _ _ cv cv _ _ w19 HS12.out HD19.out (by
          have h1 := @diff_len a d HTA.out
          have h2 := HDL.out
          have h3 := HM.out
          rw [HCV.out]; omega)).mono ?_
        rw [decide_eq_true rfl]
        rintro e w20 ⟨rfl, hb20⟩
        have HB20 := Lib.hid (below_next HB19.out hb20)
        clear hb20
        go_wp2_with fail
        go_ret
        exact ⟨rfl, HB20.out⟩
      · have e1 : (y != 0) = true := by simp [hy]
        obtain ⟨hc0, hx2⟩ := Prod.mk.inj (HCQ.out.symm.trans (comp_err2 HR.out HR2.out hy))
        have hn3 : nc = 0 := by rw [HNC.out, hc0]; rfl
        clear hc0 hy
        subst hx2 hn3
        go_wp2_with fail
        go_ret
        exact ⟨rfl, HB18.out⟩
    · have e1 : (x != 0) = true := by simp [hx]
      obtain ⟨hi0, hx1⟩ := Prod.mk.inj (HQ.out.symm.trans (inv_err HR.out hx))
      obtain ⟨hc0, hx2⟩ := Prod.mk.inj (HCQ.out.symm.trans (comp_err HR.out hx))
      have hn1 : nm = 0 := by rw [HNM.out, papply_empty HR.out hx]; rfl
      have hn2 : ni = 0 := by rw [HNI.out, hi0]; rfl
      have hn3 : nc = 0 := by rw [HNC.out, hc0]; rfl
      clear hi0 hc0 hx
      subst hx1 hx2 hn1 hn2 hn3
      go_wp2_with fail
      go_ret
      exact ⟨rfl, HB14.out⟩
  · have e1 : (z == 0) = false := by simp [hz]
    have e2 : (z != 0) = true := by simp [hz]
    have hbad : applyP a cs = ([], z) := by rw [HZ.out]; exact papply_bad (by rw [← HZ.out]; exact hz)
    obtain ⟨hm0, hx0⟩ := Prod.mk.inj (HR.out.symm.trans hbad)
    obtain ⟨hi0, hx1⟩ := Prod.mk.inj (HQ.out.symm.trans (inv_err hbad hz))
    obtain ⟨hc0, hx2⟩ := Prod.mk.inj (HCQ.out.symm.trans (comp_err hbad hz))
    have hn1 : nm = 0 := by rw [HNM.out, hm0]; rfl
    have hn2 : ni = 0 := by rw [HNI.out, hi0]; rfl
    have hn3 : nc = 0 := by rw [HNC.out, hc0]; rfl
    clear hm0 hi0 hc0 hbad hz
    subst hx0 hx1 hx2 hn1 hn2 hn3
    go_wp2_with fail
    go_ret
    exact ⟨rfl, HB13.out⟩
end Go.Proofs.YtdieneaillkbgaaGreatDoor

/- What the laws share: from the form's words (shaped, laid) to the walks' premises, and back. -/
namespace Go.Proofs.YtdieneaillkbgaaGreatDoor
open Go.ChangeShapes Go.WideShapes Go.ChangeAt Go.RowKit Go.Lib Go.Shelf
open Go.ChangeMaps (open_string shut_string)
section
variable {H : Type} {enc : TypeId × Value → H}
/-- The wrap that hands on both the shape of the world and a further condition. -/
theorem handed {a : Assume} {C : Checked} {os : Os} {f : FuncId} {fn : Func} {s : ChangeSpec} {conds : List PathCond} {apart fresh handsOn again : Bool} {X : World → Array Value → Prop}
    (hX : ∀ (w w' : World) (args : Array Value), w.heap = w'.heap → X w args → X w' args)
    (own : ownKnob C.prog.godebug = none) (started : os.Started) (noInit : C.prog.inits.idxOf? f = none) (hfn : C.prog.funcs[f]? = some fn)
    (witness : ∃ (w : World) (tape : Tape) (i : Input), w.os = os ∧ (w.forCall tape i).Shaped C.prog ∧ i.vars = [] ∧ Input.okWide C.prog (w.forCall tape i) .any w.heap.size f i ∧
      ((s.pre enc C.prog fn conds apart (w.forCall tape i).memory i.args ∧ X (w.forCall tape i).memory i.args) ∧ sizedMet enc C.prog fn (OpenSpec.ofChange s) apart (w.forCall tape i).memory i.args) ∧ a.holds C.prog (lone (Frame.enter C.prog f i.args .normal) [] (w.forCall tape i)))
    (contract : ∀ (W : World) (base : Nat) (args : Array Value) (ds gs : List (DataW H)) (before : List MemPlace),
      (∀ (j : Nat) t v, fn.params[j]? = some t → args[j]? = some v → Value.okWide C.prog W .any base t v) →
      DataW.Whole enc C.prog fn.params.toList s.vars apart W args.toList ds gs before →
      (DataW.weightsEach C.prog (fn.params.toList ++ s.plain.varTypes C.prog) (ds ++ gs)).all (· ≤ reachBytes) = true → X W args → W.ShapedOpen C.prog →
      Calls C.prog f args W fun e W' => ∃ v, e = .returned v ∧ s.post enc C.prog fn apart fresh handsOn again W args v W') :
    ReturnsInHanded a C os f .any (fun w args => (s.pre enc C.prog fn conds apart w args ∧ X w args) ∧ sizedMet enc C.prog fn (OpenSpec.ofChange s) apart w args) (s.post enc C.prog fn apart fresh handsOn again) := by
  refine returnsInHanded_of_calls own started noInit witness ?_
  intro w tape i _ hsh _ hok hpre hholds
  obtain ⟨_, _, _, fn', hfn', _, _, _, _, hval⟩ := hok
  have e : fn' = fn := Option.some.inj (hfn'.symm.trans hfn)
  subst e
  obtain ⟨⟨⟨ds, gs, before, hw, hc⟩, hx⟩, hz⟩ := hpre
  have hw' := DataW.Whole.of_heap (w' := w.forCall tape i) (by rfl) hw
  refine (contract (w.forCall tape i) w.heap.size i.args ds gs before hval hw' (hz.weights hw) (hX _ _ _ (by rfl) hx) hsh).mono fun e W' ⟨v, he, hp⟩ => ?_
  subst he
  exact ChangeSpec.post_blind hp
end
def laidL : List (String × DataW Unit) := [("unicode/utf8.acceptRanges", Rows.laid_unicode_utf8_acceptRanges), ("unicode/utf8.first", Rows.laid_unicode_utf8_first)]
theorem own : ownKnob Tryz.prog.godebug = none := by kernel_rfl
theorem laidOut : laidOutB Tryz.prog = true := by kernel_rfl
theorem accept_eq : (Rows.laid_unicode_utf8_acceptRanges : DataW Unit) = acceptData := by kernel_rfl
theorem env_of {W : World} (hL : laidMetH Tryz.prog laidL W) (hsh : W.ShapedOpen Tryz.prog) : Env W := by
  rw [MakeChecks.laidMetH_plain _ _ _ (by kernel_rfl)] at hL
  refine ⟨?_, ?_⟩
  · exact cell_of_shapedOpen_int (zero := #[.int .i64 0]) (t := 3) hsh (of_decide_eq_true (by kernel_rfl)) (by kernel_rfl) rfl (by kernel_rfl) (by kernel_rfl) Tryz.underlying3
  · have h1 := Lib.laidMet.reads hL (.head _)
    have h2 := Lib.laidMet.reads hL (.tail _ (.head _))
    rw [accept_eq] at h1
    exact utf8Tabs_of_readsT (U8Types.of196 Tryz.laysValid) ⟨by kernel_rfl, by kernel_rfl, by kernel_rfl, by kernel_rfl, by kernel_rfl, by kernel_rfl, by kernel_rfl⟩ (Pinned.utf8First_eq ▸ h2) h1
end Go.Proofs.YtdieneaillkbgaaGreatDoor

/- From the form's reading of slices and structs to the rows of the walks. -/
namespace Go.Proofs.YtdieneaillkbgaaGreatDoor
open Go.ChangeShapes Go.WideShapes Go.ChangeAt Go.RowKit Go.Lib Go.Shelf
section
variable {H : Type} {enc : TypeId × Value → H} {P : Program} {W : World} {base : Nat}
theorem add_add (a : Addr) (i j : Nat) : (a.add i).add j = a.add (i + j) := by
  unfold Addr.add
  by_cases hi : i = 0
  · simp [hi]
  · by_cases hj : j = 0
    · simp [hi, hj]
    · simp [hi, hj]; omega
/-- A slice as it is read, its elements' cells read by R. -/
theorem seq_read {α : Type} {R : List Value → α → Prop} {t e : TypeId} {sz : Nat} {spare : Nat → Bool} {held : Bool} {fuel : Nat} {cs0 : List Value} {y0 : DataW H × List MemPlace} (ht : P.underlying t = some (.slice e)) (hc : P.cellsOf e = sz) (hpos : 0 < sz)
    (hR : ∀ n cs y, DataW.trod enc P W base spare held n e cs = some y → ∃ x, R cs x) (hs : ∀ c x, R c x → c.length = sz)
    (hf : DataW.trod enc P W base spare held fuel t cs0 = some y0) : ∃ v, cs0 = [v] ∧ ∃ xs : List α, SeqAt (fun _ => True) W sz R v xs := by
  rcases DataW.trod_slice ht hf with ⟨hcs, _⟩ | ⟨a, len0, cap0, elems, rest, n, _, hcs, _, hb, hl, hm, hlen, hel, _, _⟩
  · exact ⟨_, hcs, [], SeqAt.nil⟩
  · refine ⟨_, hcs, ?_⟩
    rw [hc] at hel
    have each : ∀ i, i < len0 → ∃ cs x, R cs x ∧ cs.length = sz ∧ ∀ j, j < sz → W.cell? (a.add (i * sz + j)) = cs[j]? := by
      intro i hi
      have h1 := hel i hi
      rw [List.getElem?_eq_getElem (by omega), Option.bind_eq_some_iff] at h1
      obtain ⟨cs, hcs, hy⟩ := h1
      obtain ⟨x, hx⟩ := hR n cs _ hy
      refine ⟨cs, x, hx, hs cs x hx, fun j hj => ?_⟩
      have h3 := World.cells?_some hcs
      rw [← add_add]
      exact h3.2.2 j hj
    have main : ∀ m, m ≤ len0 → ∃ (cells : List Value) (xs : List α), xs.length = m ∧ cells.length = m * sz ∧ RowsIn R cells xs ∧ ∀ (j : Nat) u, cells[j]? = some u → W.cell? (a.add j) = some u := by
      intro m
      induction m with
      | zero => intro _; exact ⟨[], [], rfl, by simp, rfl, fun j u hj => by simp at hj⟩
      | succ m ih =>
        intro hm
        obtain ⟨cells, xs, h1, h2, h3, h4⟩ := ih (by omega)
        obtain ⟨cs, x, hx, hcl, hcc⟩ := each m (by omega)
        refine ⟨cells ++ cs, xs ++ [x], by simp [h1], by rw [List.length_append, h2, hcl, Nat.add_mul]; omega, RowsIn.snoc h3 hx, fun j u hj => ?_⟩
        rcases Nat.lt_or_ge j cells.length with hj2 | hj2
        · rw [List.getElem?_append_left hj2] at hj; exact h4 j u hj
        · rw [List.getElem?_append_right hj2] at hj
          have hlt := (List.getElem?_eq_some_iff.1 hj).1
          have := hcc (j - cells.length) (by omega)
          rw [h2, show m * sz + (j - m * sz) = j by omega] at this
          rw [this, ← h2]; exact hj
    obtain ⟨cells, xs, h1, h2, h3, h4⟩ := main len0 (Nat.le_refl _)
    subst h1
    refine ⟨xs, cells, ⟨h2, some a, cap0, rfl, hl, hm, ?_⟩, h3⟩
    rcases Nat.eq_zero_or_pos xs.length with h0 | h0
    · exact .inl h0
    · right
      have hpl : 0 < cells.length := by rw [h2]; exact Nat.mul_pos h0 hpos
      have hc0 := h4 0 cells[0] (by simp [hpl])
      have hsp : a.spot = none := by simpa [Addr.add] using World.cell?_spot hc0
      obtain ⟨b, o, sp⟩ := a
      simp only at hsp
      subst hsp
      refine ⟨b, o, rfl, trivial, fun j u hj => ?_⟩
      have := h4 j u hj
      rw [add_lit] at this; exact this
/-- A slice that came in: its elements' cells, read by R. -/
theorem open_seq {α : Type} {R : List Value → α → Prop} {t e : TypeId} {sz b0 : Nat} {spare : Nat → Bool} {held : Bool} {v : Value} {d : DataW H} {ps : List MemPlace} (ht : P.underlying t = some (.slice e)) (hc : P.cellsOf e = sz) (hpos : 0 < sz)
    (hR : ∀ n cs y, DataW.trod enc P W base spare held n e cs = some y → ∃ x, R cs x) (hs : ∀ c x, R c x → c.length = sz)
    (hval : Value.okWide P W .any b0 t v) (h : DataW.Trod enc P W base spare held t v d ps) : ∃ xs : List α, SeqAt (fun _ => True) W sz R v xs := by
  obtain ⟨a0, len0, cap0, rfl⟩ := okWide_slice ht hval
  obtain ⟨fuel, hf⟩ := h
  obtain ⟨v, h1, h2⟩ := seq_read ht hc hpos hR hs hf
  simp [Value.cells] at h1
  subst h1
  exact h2
end
section
variable {H : Type} {enc : TypeId × Value → H} {W : World} {base b0 : Nat} {spare : Nat → Bool} {held : Bool} {v : Value} {d : DataW H} {ps : List MemPlace}
theorem field_read {P : Program} {t : TypeId} {fs : Array Field} {fuel : Nat} {cs : List Value} {x : DataW H × List MemPlace} (ht : P.underlying t = some (.struct fs)) (h : DataW.trod enc P W base spare held fuel t cs = some x) (i : Nat) {f : Field} (hf : fs[i]? = some f) :
    ∃ n y, DataW.trod enc P W base spare held n f.type ((cs.drop f.offset).take (P.cellsOf f.type)) = some y := by
  obtain ⟨xs, n, _, _, _, hlen, hF⟩ := DataW.trod_struct ht h
  have hi : i < xs.length := by rw [hlen]; exact (Array.getElem?_eq_some_iff.1 hf).1
  exact ⟨n, xs[i], by rw [hF i f hf]; simp [hi]⟩
theorem struct_len {P : Program} {t : TypeId} {fs : Array Field} {fuel : Nat} {cs : List Value} {x : DataW H × List MemPlace} (ht : P.underlying t = some (.struct fs)) (h : DataW.trod enc P W base spare held fuel t cs = some x) : cs.length = P.cellsOf t := by
  obtain ⟨xs, n, _, _, hl, _, _⟩ := DataW.trod_struct ht h
  exact hl
theorem cellsStr : Tryz.prog.cellsOf 9 = 1 := by kernel_rfl
theorem cellsInt : Tryz.prog.cellsOf 3 = 1 := by kernel_rfl
theorem cellsU8 : Tryz.prog.cellsOf 5 = 1 := by kernel_rfl
theorem cellsData : Tryz.prog.cellsOf 46 = 1 := by kernel_rfl
theorem cellsEnt : Tryz.prog.cellsOf 48 = 6 := by kernel_rfl
theorem list6 {α : Type} {cs : List α} (h : cs.length = 6) : ∃ c0 c1 c2 c3 c4 c5, cs = [c0, c1, c2, c3, c4, c5] := by
  match cs, h with
  | [c0, c1, c2, c3, c4, c5], _ => exact ⟨c0, c1, c2, c3, c4, c5, rfl⟩
def ByteR (c : List Value) (b : UInt8) : Prop := c = [u8V b]
theorem read_byte {n : Nat} {cs : List Value} {y : DataW H × List MemPlace} (h : DataW.trod enc Tryz.prog W base spare held n 5 cs = some y) : ∃ b, ByteR cs b := by
  obtain ⟨a, e, _, hw⟩ := DataW.trod_int Tryz.underlying5 h
  have h1 : 0 ≤ a ∧ a ≤ 255 := by
    simp only [Lit.wf, Bool.and_eq_true, decide_eq_true_eq] at hw
    exact ⟨hw.1, hw.2⟩
  refine ⟨UInt8.ofNat a.toNat, ?_⟩
  unfold ByteR u8V
  rw [e, UInt8.toNat_ofNat_of_lt' (by show a.toNat < 256; omega), Int.toNat_of_nonneg h1.1]
theorem bytes_of_seq {S : Nat → Prop} {w : World} {v : Value} {bs : List UInt8} (h : SeqAt S w 1 ByteR v bs) : DataAt S w v bs := by
  obtain ⟨cells, h1, h2⟩ := h
  have : ∀ (bs : List UInt8) (cells : List Value), RowsIn ByteR cells bs → cells = bs.map u8V := by
    intro bs
    induction bs with
    | nil => intro cells h; exact h
    | cons x bs ih =>
      rintro cells ⟨c, rest, rfl, hc, hr⟩
      rw [ih rest hr, show c = [u8V x] from hc]; rfl
  rw [this bs cells h2] at h1
  exact h1
set_option maxRecDepth 100000 in
theorem read_data {n : Nat} {cs : List Value} {y : DataW H × List MemPlace} (h : DataW.trod enc Tryz.prog W base spare held n 46 cs = some y) : ∃ v, cs = [v] ∧ ∃ bs, DataAt (fun _ => True) W v bs := by
  obtain ⟨v, h1, bs, h2⟩ := seq_read (R := ByteR) Tryz.underlying46 cellsU8 (by omega) (fun n cs y hy => read_byte hy) (fun c x hc => by rw [show c = [u8V x] from hc]; rfl) h
  exact ⟨v, h1, bs, bytes_of_seq h2⟩
set_option maxRecDepth 100000 in
theorem read_ent {n : Nat} {cs : List Value} {y : DataW H × List MemPlace} (h : DataW.trod enc Tryz.prog W base spare held n 48 cs = some y) : ∃ e, EntR (fun _ => True) W cs e := by
  have hl := struct_len Tryz.underlying48 h
  rw [cellsEnt] at hl
  obtain ⟨c0, c1, c2, c3, c4, c5, rfl⟩ := list6 hl
  obtain ⟨n0, y0, h0⟩ := field_read Tryz.underlying48 h 0 rfl
  obtain ⟨n1, y1, h1⟩ := field_read Tryz.underlying48 h 1 rfl
  obtain ⟨n2, y2, h2⟩ := field_read Tryz.underlying48 h 2 rfl
  obtain ⟨n3, y3, h3⟩ := field_read Tryz.underlying48 h 3 rfl
  obtain ⟨n4, y4, h4⟩ := field_read Tryz.underlying48 h 4 rfl
  obtain ⟨n5, y5, h5⟩ := field_read Tryz.underlying48 h 5 rfl
  simp only [List.getElem_toArray, List.getElem_cons_zero, List.getElem_cons_succ, cellsStr, cellsInt, cellsData] at h0 h1 h2 h3 h4 h5
  obtain ⟨a0, e0, _, g0⟩ := DataW.trod_string Tryz.underlying9 h0
  obtain ⟨a1, e1, _, g1⟩ := DataW.trod_int Tryz.underlying3 h1
  obtain ⟨a2, e2, _, g2⟩ := DataW.trod_int Tryz.underlying3 h2
  obtain ⟨a3, e3, _, g3⟩ := DataW.trod_int Tryz.underlying3 h3
  obtain ⟨a4, e4, bs, g4⟩ := read_data h4
  obtain ⟨a5, e5, _, g5⟩ := DataW.trod_string Tryz.underlying9 h5
  simp at e0 e1 e2 e3 e4 e5
  subst e0 e1 e2 e3 e4 e5
  exact ⟨⟨a0, a1, a2, a3, bs, a5⟩, _, rfl, g4, ⟨g0, g5, g1, g2, g3⟩⟩
set_option maxRecDepth 100000 in
theorem open_ents (hval : Value.okWide Tryz.prog W .any b0 22 v) (h : DataW.Trod enc Tryz.prog W base spare held 22 v d ps) : ∃ xs, EntsAt (fun _ => True) W v xs :=
  @open_seq H enc Tryz.prog W base Ent (EntR (fun _ => True) W) 22 48 6 b0 spare held v d ps Tryz.underlying22 cellsEnt (by omega) (fun n cs y hy => read_ent hy) EntR.len hval h
end
end Go.Proofs.YtdieneaillkbgaaGreatDoor

/- From the form's reading of changes to the rows of the walks. -/
namespace Go.Proofs.YtdieneaillkbgaaGreatDoor
open Go.ChangeShapes Go.WideShapes Go.ChangeAt Go.RowKit Go.Lib Go.Shelf
section
variable {H : Type} {enc : TypeId × Value → H} {W : World} {base b0 : Nat} {spare : Nat → Bool} {held : Bool} {v : Value} {d : DataW H} {ps : List MemPlace}
theorem cellsChg : Tryz.prog.cellsOf 50 = 9 := by kernel_rfl
theorem list9 {α : Type} {cs : List α} (h : cs.length = 9) : ∃ c0 c1 c2 c3 c4 c5 c6 c7 c8, cs = [c0, c1, c2, c3, c4, c5, c6, c7, c8] := by
  match cs, h with
  | [c0, c1, c2, c3, c4, c5, c6, c7, c8], _ => exact ⟨c0, c1, c2, c3, c4, c5, c6, c7, c8, rfl⟩
set_option maxRecDepth 100000 in
theorem read_chg {n : Nat} {cs : List Value} {y : DataW H × List MemPlace} (h : DataW.trod enc Tryz.prog W base spare held n 50 cs = some y) : ∃ x, ChgR (fun _ => True) W cs x := by
  have hl := struct_len Tryz.underlying50 h
  rw [cellsChg] at hl
  obtain ⟨c0, c1, c2, c3, c4, c5, c6, c7, c8, rfl⟩ := list9 hl
  obtain ⟨n0, y0, h0⟩ := field_read Tryz.underlying50 h 0 rfl
  obtain ⟨n1, y1, h1⟩ := field_read Tryz.underlying50 h 1 rfl
  obtain ⟨n2, y2, h2⟩ := field_read Tryz.underlying50 h 2 rfl
  obtain ⟨n3, y3, h3⟩ := field_read Tryz.underlying50 h 3 rfl
  simp only [List.getElem_toArray, List.getElem_cons_zero, List.getElem_cons_succ, cellsStr, cellsInt, cellsEnt] at h0 h1 h2 h3
  obtain ⟨a0, e0, _, g0⟩ := DataW.trod_int Tryz.underlying3 h0
  obtain ⟨a1, e1, _, g1⟩ := DataW.trod_string Tryz.underlying9 h1
  obtain ⟨a2, e2, _, g2⟩ := DataW.trod_string Tryz.underlying9 h2
  obtain ⟨x3, v3, e3, g3, g3'⟩ := read_ent h3
  simp [entC] at e0 e1 e2 e3
  obtain ⟨b0, b1, b2, b3, b4, b5⟩ := e3
  subst e0 e1 e2 b0 b1 b2 b3 b4 b5
  exact ⟨⟨a0, a1, a2, x3⟩, _, rfl, g3, ⟨g0, g1, g2, g3'⟩⟩
set_option maxRecDepth 100000 in
theorem open_chgs (hval : Value.okWide Tryz.prog W .any b0 31 v) (h : DataW.Trod enc Tryz.prog W base spare held 31 v d ps) : ∃ xs, ChgsAt (fun _ => True) W v xs :=
  @open_seq H enc Tryz.prog W base Chg (ChgR (fun _ => True) W) 31 50 9 b0 spare held v d ps Tryz.underlying31 cellsChg (by omega) (fun n cs y hy => read_chg hy) ChgR.len hval h
end
end Go.Proofs.YtdieneaillkbgaaGreatDoor

/- The look of a slice that came in. -/
namespace Go.Proofs.YtdieneaillkbgaaGreatDoor
open Go.ChangeShapes Go.WideShapes Go.ChangeAt Go.RowKit Go.Lib Go.Shelf
section
variable {H : Type} {enc : TypeId × Value → H} {W : World} {base b0 : Nat} {spare : Nat → Bool} {held : Bool} {v : Value} {d : DataW H} {ps : List MemPlace}
set_option maxRecDepth 100000 in
theorem shp_ents {l : List Ent} (hval : Value.okWide Tryz.prog W .any b0 22 v) (h : DataW.Trod enc Tryz.prog W base spare held 22 v d ps) (hx : EntsAt (fun _ => True) W v l) : Shp v := by
  obtain ⟨a0, len0, cap0, rfl⟩ := okWide_slice Tryz.underlying22 hval
  obtain ⟨fuel, hf⟩ := h
  rcases DataW.trod_slice Tryz.underlying22 hf with ⟨hcs, _⟩ | ⟨a, len, cap, elems, rest, n, _, hcs, _, hb, hl, hm, hlen, hel, _, _⟩
  · simp [Value.cells] at hcs
    obtain ⟨rfl, rfl, rfl⟩ := hcs
    exact .inl rfl
  · simp [Value.cells] at hcs
    obtain ⟨rfl, rfl, rfl⟩ := hcs
    obtain ⟨cells, ⟨hl1, ad, cap, he, _, _, h0⟩, _⟩ := hx
    simp only [Value.slice.injEq] at he
    obtain ⟨rfl, rfl, rfl⟩ := he
    rcases h0 with h0 | ⟨b, o, hab, _⟩
    · rw [h0]; exact .inr (.inr ⟨a, cap0, rfl⟩)
    · rw [hab]; exact .inr (.inl ⟨b, o, _, _, rfl⟩)
end
end Go.Proofs.YtdieneaillkbgaaGreatDoor

/- TreediffApplies: for every input the law returns true, and each argument reads afterwards as it read before (the tied card). -/
namespace Go.Proofs.YtdieneaillkbgaaGreatDoor
open Go.ChangeShapes Go.WideShapes Go.ChangeAt Go.RowKit Go.Lib Go.Shelf
open Go.ChangeMaps (open_string shut_string)
namespace CApplies
set_option maxRecDepth 100000 in
theorem lifted (os : Os) (started : os.Started) (H : Type) (enc : TypeId × Value → H) :
    ReturnsInHanded {} Tryz.checked os 12 .any (fun w args => (Rows.treediffAppliesSpec.pre enc Tryz.prog Tryz.f12 [] false w args ∧ laidMetH Tryz.prog laidL w) ∧ sizedMet enc Tryz.prog Tryz.f12 (OpenSpec.ofChange Rows.treediffAppliesSpec) false w args)
      (Rows.treediffAppliesSpec.post enc Tryz.prog Tryz.f12 false true false false) := by
  refine handed (C := Tryz.checked) (X := fun w _ => laidMetH Tryz.prog laidL w) (fun _ _ _ hh h => h.of_heap hh) own started (by kernel_rfl) Tryz.func12
    (ChangeSpec.witness_shaped (enc := enc) (C := Tryz.checked) (os := os) (X := fun w _ => laidMetH Tryz.prog laidL w) false (World.laidAll Tryz.prog os laidL) #[.slice none 0 0, .slice none 0 0, .slice none 0 0] 8 (World.laidAll_os _ _ _)
      (World.shaped_of_ZipB (by kernel_rfl) (by kernel_rfl)) (by kernel_rfl) (by kernel_rfl) (by kernel_rfl)
      (by rw [MakeChecks.laidMetH_plain _ _ _ (by kernel_rfl)]; exact laidMet_laidAll _ (by kernel_rfl) (by kernel_rfl))) ?_
  intro W base args ds gs before hval0 hW _hWt hL hsh
  have hval : ∀ (j : Nat) t v, Tryz.f12.params[j]? = some t → args[j]? = some v → Value.okWide Tryz.prog W .any base t v := hval0
  have hW' := hW
  obtain ⟨p, q, hA0, hV, rfl, _, _⟩ := hW
  have hA : DataW.TrodAll enc Tryz.prog W 0 (fun _ => true) true Tryz.f12.params.toList args.toList ds p := hA0
  rw [Tryz.params12] at hA hval
  obtain ⟨rfl, rfl⟩ := trodVars_none hV
  simp only [List.append_nil] at hW'
  obtain ⟨v0, v1, v2, d0, d1, d2, p0, p1, p2, rfl, rfl, rfl, h0, h1, h2⟩ := trodAll_three hA
  obtain ⟨l0, hl0⟩ := open_ents (hval 0 22 v0 rfl rfl) h0
  have hlt0 : ∀ x ∈ p0, x.block < W.heap.size := fun x hx => by simpa using hW'.lt x (by simp [hx])
  obtain ⟨l1, hl1⟩ := open_chgs (hval 1 31 v1 rfl rfl) h1
  have hlt1 : ∀ x ∈ p1, x.block < W.heap.size := fun x hx => by simpa using hW'.lt x (by simp [hx])
  obtain ⟨l2, hl2⟩ := open_chgs (hval 2 31 v2 rfl rfl) h2
  have hlt2 : ∀ x ∈ p2, x.block < W.heap.size := fun x hx => by simpa using hW'.lt x (by simp [hx])
  refine (applies_walk l0 l1 l2 v0 v1 v2 W hl0 hl1 hl2 (shp_ents (hval 0 22 v0 rfl rfl) h0 hl0) (env_of hL hsh)).mono fun e W' ⟨he, hb⟩ => ?_
  subst he
  exact ⟨_, rfl, _, _, _, [], _, [], hW', trodAll_mk1 (shut_bool Tryz.underlying4 _), trodAll_mk3 (Below.trod laidOut (by kernel_rfl) (of_decide_eq_true (by kernel_rfl)) h0 hb hlt0) (Below.trod laidOut (by kernel_rfl) (of_decide_eq_true (by kernel_rfl)) h1 hb hlt1) (Below.trod laidOut (by kernel_rfl) (of_decide_eq_true (by kernel_rfl)) h2 hb hlt2), rfl, hb.frame _, fun h => by cases h⟩
theorem holds : Rows.TreediffAppliesSaid :=
  OpenClaim.holds_of_wide 12 Tryz.f12 rfl rfl rfl rfl rfl rfl rfl ⟨rfl, rfl, rfl, rfl, rfl⟩ rfl rfl rfl rfl rfl (by kernel_rfl) Tryz.func12 (by kernel_rfl)
    (of_decide_eq_true (by kernel_rfl)) (by unfold Func.isWrapper; first | (rw [if_pos (by decide +kernel)]; kernel_rfl) | (rw [if_neg (by decide +kernel)]; exact ⟨rfl, rfl⟩))
    (fun os started H enc _ => lifted os started H enc)
theorem card_holds : Rows.TreediffAppliesCardSaid :=
  Claim7.holds_tied_plain_at .later [] [.data, .pinned] true (true, "26f308a74d533cd0a72c14b9da7e68f4e1e057f8caa1e49e6438d7b0ff3c70c4") false holds (fun _ h => by cases h) (by kernel_rfl) (fun _ h => by cases h) treediffApplies_row_tie rfl ⟨rfl, rfl⟩ (by kernel_rfl) rfl
    (fun f fn hf hfn => by
      obtain rfl : f = 12 := Option.some.inj ((show Tryz.prog.funcNamed "kinkeep/kinkeeplaw23.TreediffApplies" = some 12 by kernel_rfl).symm.trans hf) |>.symm
      obtain rfl : fn = Tryz.f12 := (Option.some.inj (Tryz.func12.symm.trans hfn)).symm
      exact ⟨by kernel_rfl, fun j t ht => by
        rw [Tryz.params12] at ht
        have hm : t ∈ [22, 31] := by simpa using Array.mem_of_getElem? ht
        have hall : ([22, 31].all fun u => !Tryz.prog.wantsStandIn u) = true := by kernel_rfl
        exact (show Tryz.prog.wantsStandIn t = false by simpa using List.all_eq_true.1 hall t hm)⟩)
    (by kernel_rfl)
#print axioms card_holds
end CApplies
theorem treediffApplies_card : Rows.TreediffAppliesCardSaid := CApplies.card_holds
end Go.Proofs.YtdieneaillkbgaaGreatDoor
