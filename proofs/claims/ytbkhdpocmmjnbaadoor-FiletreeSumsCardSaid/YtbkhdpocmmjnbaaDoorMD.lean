/- Texts of this proof, one after the other: FtJ, FtK, RfA, RfB, RfC, AwT, Ops, Play, Large, FrT, OpT. -/
import Derived.Test.YtbkhdpocmmjnbaaDoorMC
import Derived.ProofKit
import Derived.Carry
import Derived.Lay
import Derived.PinnedBridge
import Derived.Lib.LaidU8T
import Derived.SevenTiedAt
import Derived.HandedShaped
import Derived.Shelf.Vars
import Derived.Test.YtbkhdpocmmjnbaaDoorTie
import Derived.Test.YtbkhdpocmmjnbaaDoorCards
/- Contracts of package filetree: Equal. -/
namespace Go.Proofs.YtbkhdpocmmjnbaaDoor
open Go.RowKit Go.Maps

theorem same_lists {L M : List Ent} (hL : TOk L) (hM : TOk M) (hl : L.length = M.length) (h : ∀ e ∈ L, findE M e.path = some e) : L = M := by
  refine sorted_perm_eq hL.ord hM.ord ?_
  have hs : ∀ e ∈ L, e ∈ M := fun e he => (findE_some (h e he)).1
  have key : ∀ (a b : List Ent), a.Nodup → (∀ x ∈ a, x ∈ b) → a.length = b.length → a.Perm b := by
    intro a
    induction a with
    | nil => intro b _ _ hl; rw [List.eq_nil_of_length_eq_zero hl.symm]
    | cons x a ih =>
      intro b hn hs hl
      rw [List.nodup_cons] at hn
      obtain ⟨u, t, rfl⟩ := List.append_of_mem (hs x (by simp))
      refine List.Perm.trans ?_ List.perm_middle.symm
      refine (ih (u ++ t) hn.2 (fun y hy => ?_) (by simp at hl ⊢; omega)).cons x
      rcases List.mem_append.1 (hs y (by simp [hy])) with h | h
      · simp [h]
      · rcases List.mem_cons.1 h with rfl | h
        · exact absurd hy hn.1
        · simp [h]
  exact key L M (nodup_ent hL.nodup) hs hl
theorem same_is (S T : Nat → Prop) (a b : Ent) (va vb : Value) (r : Bool) (w : World) (ha : DataAt S w va a.data) (hb : DataAt T w vb b.data) (hr : decide (a = b) = r) : Calls Tryd.prog 50 #[entV va a, entV vb b] w fun e w' => e = .returned (.bool r) ∧ Below w.heap.size w w' := by
  rw [← hr]; exact same_any S T a b va vb w ha hb
def LoopQ (w : World) (M : List Ent) (mb r : Nat) (xs : List VEnt) (wr : World) : Prop :=
  ∃ vis : List VEnt, RngS Tryd.prog 9 wr mb r (xs.map pairOf) (vis.map pairOf) ∧ (∀ x ∈ vis, x ∈ xs) ∧ (vis.map (fun x => x.2.path)).Nodup ∧ (∀ x ∈ vis, findE M x.2.path = some x.2) ∧ Below w.heap.size w wr
theorem drewN_below (w : World) (n : Nat) : Below w.heap.size w (w.drewN n) := ⟨rfl, rfl, rfl, Nat.le_refl _, fun _ _ => rfl⟩
set_option maxRecDepth 100000 in
set_option maxHeartbeats 2000000 in
theorem equal_any (S T : Nat → Prop) (tb mb ub nb : Nat) (L M : List Ent) (w : World) (ht : TreeAt S w tb mb L) (hu : TreeAt T w ub nb M) :
    Calls Tryd.prog 31 #[.pointer (some ⟨tb, 0, none⟩), .pointer (some ⟨ub, 0, none⟩)] w fun e w' => e = .returned (.bool (decide (L = M))) ∧ Below w.heap.size w w' := by
  have HT := Lib.hid ht
  have HU := Lib.hid hu
  have hcl := ht.cell
  have hcu := hu.cell
  have hl1 := ht.ok.len
  have hl2 := hu.ok.len
  have hlen1 : ∀ (n : Nat) ty, (Builtin.len_ #[68] ty #[.map (some mb)]).run Tryd.prog (w.drewN n) = .ok (.int .i64 (L.length : Int)) (w.drewN n) := fun n ty => (ht.below (drewN_below w n)).len mapTy ty
  have hlen2 : ∀ (n : Nat) ty, (Builtin.len_ #[68] ty #[.map (some nb)]).run Tryd.prog (w.drewN n) = .ok (.int .i64 (M.length : Int)) (w.drewN n) := fun n ty => (hu.below (drewN_below w n)).len mapTy ty
  clear ht hu
  by_cases hlen : L.length = M.length
  · have e1 : ((L.length : Int) != (M.length : Int)) = false := by simp [hlen]
    have HLEN := Lib.hid hlen
    clear hlen
    obtain ⟨xs, hm0, hperm⟩ := HT.out.ents
    have HM := Lib.hid hm0
    have HPERM := Lib.hid hperm
    clear hm0 hperm
    go_enter Tryd.func31, Tryd.ntmps31
    go_wp2_with fail
    go_quiet (fail)
    obtain ⟨W, hW⟩ : ∃ W, W = w.drewN nq := ⟨_, rfl⟩
    rw [← hW]
    have HBW := Lib.hid (show Below w.heap.size w W by rw [hW]; exact drewN_below w nq)
    have hcl1 := (HT.out.below HBW.out).cell
    clear hW hlen1 hlen2
    go_wp2_with (at_range; go_must (refine wpList_rangeS rfl _ _ rfl mapTy mb _ rfl (HM.out.below HBW.out).map ?_); intro w0 hrg0 hb0 hs0)
    obtain ⟨r, hr⟩ : ∃ r, r = W.heap.size := ⟨_, rfl⟩
    rw [← hr] at hrg0 ⊢
    have HR := Lib.hid (show w.heap.size ≤ r by have := HBW.out.size; omega)
    have HB0 := Lib.hid (below_next HBW.out hb0)
    clear hr hs0 hb0
    go_frame
    go_loopw [5, 8] (fun _ _ wr => LoopQ w M mb r xs wr) (fun _ _ wr => wr.rangeLeft mb r)
    case atStart => exact ⟨[], hrg0, by simp, by simp, by simp, HB0.out⟩
    case round =>
      obtain ⟨vis, hrg, hsub, hnd, hall, hbr⟩ := hrel
      have HRG := Lib.hid hrg
      have HSUB := Lib.hid hsub
      have HND := Lib.hid hnd
      have HALL := Lib.hid hall
      have HBR := Lib.hid hbr
      have hsz := hbr.size
      clear hrg hsub hnd hall hbr
      go_wp2_with (at_next; go_must (refine wpList_nextS rfl _ rfl mb r _ _ rfl HRG.out ?_ ?_))
      · intro hdone
        have HP2 := Lib.hid (vis_perm HM.out hdone HSUB.out HND.out)
        clear hdone
        go_wp2_with fail
        go_ret
        refine ⟨ret_bool ?_, HBR.out⟩
        symm
        rw [decide_eq_true_eq]
        refine same_lists HT.out.ok HU.out.ok HLEN.out (fun e he => ?_)
        obtain ⟨v, hv⟩ := find_vent (HPERM.out.symm.subset he)
        exact HALL.out _ (HP2.out.symm.subset hv)
      · intro key v1 w1 a0 e0 hmem hxe hnew hrg1 hg1 hs1 hen
        have hxp := pair_path (x := (a0, e0)) (y := (a0, e0)) rfl
        simp only [pairOf, Prod.mk.injEq] at hxe
        obtain ⟨rfl, rfl⟩ := hxe
        have HX := Lib.hid hmem
        have HNEW := Lib.hid (show ∀ y ∈ vis, y.2.path ≠ e0.path from fun y hy e => hnew _ _ y.1 y.2 hy rfl (by rw [e]))
        obtain ⟨hda, -⟩ := HM.out.dat _ hmem
        simp only at hda
        have HDA := Lib.hid (show ∀ W', Below w.heap.size w W' → DataAt S W' a0 e0.data from fun W' hb => (HM.out.dat _ hmem).1.below hb)
        have HPS := Lib.hid (HM.out.dat _ hmem).2.pth
        have HB1 := Lib.hid (HBR.out.grown hg1 hsz (fun k e => by cases e; exact HR.out))
        have HRG1 := Lib.hid hrg1
        have HLEFT := Lib.hid HRG.out.left
        obtain ⟨_, aa, ca, rfl, hca, hma, -⟩ := hda
        have hcu1 := (HU.out.below HB1.out).cell
        have hltu := block_lt hcu1
        simp only at hltu
        unfold entV at hen
        unfold entV
        clear hxp hmem hnew hrg1 hg1 hs1
        cases hf : findE M e0.path with
        | none =>
          have HNE := Lib.hid (show decide (L = M) = false from decide_eq_false (fun e => by
            have h1 : e0 ∈ L := HPERM.out.subset (List.mem_map.2 ⟨_, HX.out, rfl⟩)
            rw [e] at h1
            rw [findE_mem HU.out.ok.nodup h1] at hf
            cases hf))
          have hlk := (HU.out.below (below_next HB1.out ((Below.refl _ _).alloc (Nat.le_refl _) (.cells #[.string e0.path, .int .i64 e0.kind, .int .i64 e0.mode, .int .i64 e0.time, .slice aa e0.data.length ca, .string e0.link] 36)))).miss mapTy (zeroE_run _) HPS.out hf true
          unfold zeroE at hlk
          simp only [if_true] at hlk
          clear hf
          go_wp2_with fail
          go_ret
          exact ⟨ret_bool HNE.out.symm, below_next HB1.out (((Below.refl _ _).alloc (Nat.le_refl _) _).alloc (by simp) _)⟩
        | some g =>
          have HF := Lib.hid hf
          obtain ⟨v2, hlk, hd2, -⟩ := (HU.out.below (below_next HB1.out ((Below.refl _ _).alloc (Nat.le_refl _) (.cells #[.string e0.path, .int .i64 e0.kind, .int .i64 e0.mode, .int .i64 e0.time, .slice aa e0.data.length ca, .string e0.link] 36)))).hit mapTy HPS.out hf true
          have HD2 := Lib.hid hd2
          obtain ⟨_, ag, cg, rfl, hcg, hmg, -⟩ := hd2
          unfold entV at hlk
          simp only [if_true] at hlk
          clear hf
          cases heq : decide (e0 = g)
          · have HEQ := Lib.hid heq
            have HNE := Lib.hid (show decide (L = M) = false from decide_eq_false (fun e => by
              have h1 : e0 ∈ L := HPERM.out.subset (List.mem_map.2 ⟨_, HX.out, rfl⟩)
              rw [e] at h1
              have h2 := findE_mem HU.out.ok.nodup h1
              rw [HF.out] at h2
              exact (of_decide_eq_false heq) (Option.some.inj h2).symm))
            clear heq hcg hmg
            go_wp2_with (go_at_call 50; refine (same_is S T e0 g _ _ false _ (by exact HDA.out _ (below_next HB1.out (((Below.refl _ _).alloc (Nat.le_refl _) _).alloc (by simp) _))) (by exact HD2.out.below ((Below.refl _ _).alloc (Nat.le_refl _) _)) HEQ.out).mono ?_; rintro e w4 ⟨rfl, hb4⟩; have HB4 := Lib.hid (below_next (((Below.refl w1.heap.size w1).alloc (Nat.le_refl _) _).alloc (by simp) _) hb4); clear hb4)
            go_ret
            exact ⟨ret_bool HNE.out.symm, below_next HB1.out HB4.out⟩
          · have HEQ := Lib.hid heq
            have HFE := Lib.hid (show findE M e0.path = some e0 by rw [HF.out, of_decide_eq_true heq])
            clear heq hcg hmg
            go_wp2_with (go_at_call 50; refine (same_is S T e0 g _ _ true _ (by exact HDA.out _ (below_next HB1.out (((Below.refl _ _).alloc (Nat.le_refl _) _).alloc (by simp) _))) (by exact HD2.out.below ((Below.refl _ _).alloc (Nat.le_refl _) _)) HEQ.out).mono ?_; rintro e w4 ⟨rfl, hb4⟩; have HB4 := Lib.hid (below_next (((Below.refl w1.heap.size w1).alloc (Nat.le_refl _) _).alloc (by simp) _) hb4); clear hb4)
            go_roundw
            case rel =>
              refine ⟨vis ++ [(.slice aa e0.data.length ca, e0)], ?_, ?_, ?_, ?_, below_next HB1.out HB4.out⟩
              · rw [List.map_append]
                exact HRG1.out.same (HB4.out.block mb HRG1.out.map.lt) (HB4.out.block r HRG1.out.ltr)
              · intro y hy
                rcases List.mem_append.1 hy with hy | hy
                · exact HSUB.out y hy
                · rw [List.mem_singleton] at hy; rw [hy]; exact HX.out
              · exact nodup_vsnoc HND.out HNEW.out
              · intro y hy
                rcases List.mem_append.1 hy with hy | hy
                · exact HALL.out y hy
                · rw [List.mem_singleton] at hy; rw [hy]; exact HFE.out
            case measure =>
              have h1 := (HRG1.out.same (HB4.out.block mb HRG1.out.map.lt) (HB4.out.block r HRG1.out.ltr)).left
              have h2 := HLEFT.out
              simp only [List.length_append, List.length_singleton] at h1
              omega
  · have HF := Lib.hid (show decide (L = M) = false from decide_eq_false (fun e => hlen (by rw [e])))
    have e1 : ((L.length : Int) != (M.length : Int)) = true := by simp; omega
    clear hlen
    go_enter Tryd.func31, Tryd.ntmps31
    go_wp2_with fail
    go_quiet (fail)
    go_wp2_with fail
    go_ret
    exact ⟨ret_bool HF.out.symm, drewN_below w nq⟩

end Go.Proofs.YtbkhdpocmmjnbaaDoor

/- Contracts of package filetree: Clone. -/
namespace Go.Proofs.YtbkhdpocmmjnbaaDoor
open Go.RowKit Go.Maps


def newS (B r : Nat) (w : World) (k : Nat) : Prop := B ≤ k ∧ k < w.heap.size ∧ k ≠ r
theorem MapE.next {S : Nat → Prop} {w w' : World} {mb r : Nat} {xs : List VEnt} (h : MapE S w mb xs) (hr : ¬ S r) (hne : mb ≠ r) (hg : w.grownBy w' (some r)) : MapE S w' mb xs :=
  ⟨h.map.same (hg.block mb h.map.lt (fun e => hne (Option.some.inj e))), fun x hx => ⟨data_grown (h.dat x hx).1 hr hg, (h.dat x hx).2⟩, h.far⟩
def LoopC (w : World) (mb r : Nat) (xs : List VEnt) (wr : World) : Prop :=
  ∃ vis ys : List VEnt, RngS Tryd.prog 9 wr mb r (xs.map pairOf) (vis.map pairOf) ∧ (∀ x ∈ vis, x ∈ xs) ∧ (vis.map (fun x => x.2.path)).Nodup ∧ ys.map Prod.snd = vis.map Prod.snd ∧ MapE (newS (w.heap.size + 2) r wr) wr w.heap.size ys ∧
    wr.cell? ⟨w.heap.size + 1, 0, none⟩ = some (.map (some w.heap.size)) ∧ Below w.heap.size w wr ∧ w.heap.size + 2 ≤ wr.heap.size
set_option maxRecDepth 100000 in
set_option maxHeartbeats 2000000 in
theorem clone_tree (S : Nat → Prop) (tb mb : Nat) (L : List Ent) (w : World) (ht : TreeAt S w tb mb L) :
    Calls Tryd.prog 29 #[.pointer (some ⟨tb, 0, none⟩)] w fun e w' => e = .returned (.pointer (some ⟨w.heap.size + 1, 0, none⟩)) ∧ (∃ S' : Nat → Prop, (∀ k, S' k → w.heap.size ≤ k) ∧ TreeAt S' w' (w.heap.size + 1) w.heap.size L) ∧ Below w.heap.size w w' := by
  have HT := Lib.hid ht
  obtain ⟨xs, hm0, hperm⟩ := ht.ents
  have HM := Lib.hid hm0
  have HPERM := Lib.hid hperm
  clear ht hm0 hperm
  go_enter Tryd.func29, Tryd.ntmps29
  go_wp2_with (first | (go_at_call 32; refine (new_any _).mono ?_; rintro e W ⟨rfl, hnt, hbW, hWs⟩; have HBW := Lib.hid hbW; have HNT := Lib.hid hnt; have HWS := Lib.hid hWs; have hcl1 := (HT.out.below hbW).cell; clear hnt hbW hWs) | (at_range; go_must (refine wpList_rangeS rfl _ _ rfl mapTy mb _ rfl (HM.out.below HBW.out).map ?_); intro w0 hrg0 hb0 hs0))
  obtain ⟨r, hr⟩ : ∃ r, r = W.heap.size := ⟨_, rfl⟩
  rw [← hr] at hrg0 ⊢
  have HR := Lib.hid (show w.heap.size + 2 ≤ r by have := HWS.out; omega)
  have HB0 := Lib.hid (below_next HBW.out hb0)
  have hnm : MapE (newS (w.heap.size + 2) r w0) w0 w.heap.size [] := by
    obtain ⟨ys, h1, h2⟩ := HNT.out.ents
    have : ys = [] := by have := h2.length_eq; simpa using this
    subst this
    exact (h1.below hb0).mono (fun _ h => h.elim) (fun h => by have := h.1; omega)
  have hnc : w0.cell? ⟨w.heap.size + 1, 0, none⟩ = some (.map (some w.heap.size)) := (hb0.cell (block_lt HNT.out.cell)).trans HNT.out.cell
  have hsz0 : w.heap.size + 2 ≤ w0.heap.size := by have := HWS.out; have := hb0.size; omega
  clear hr hs0 hb0
  go_frame
  go_loopw [4, 5] (fun _ _ wr => LoopC w mb r xs wr) (fun _ _ wr => wr.rangeLeft mb r)
  case atStart => exact ⟨[], [], hrg0, by simp, by simp, rfl, hnm, hnc, HB0.out, hsz0⟩
  case round =>
    obtain ⟨vis, ys, hrg, hsub, hnd, hys, hym, hyc, hbr, hsz2⟩ := hrel
    have HRG := Lib.hid hrg
    have HSUB := Lib.hid hsub
    have HND := Lib.hid hnd
    have HYS := Lib.hid hys
    have HYM := Lib.hid hym
    have HYC := Lib.hid hyc
    have HBR := Lib.hid hbr
    have HSZ2 := Lib.hid hsz2
    clear hrg hsub hnd hys hym hyc hbr hnm hnc
    go_wp2_with (at_next; go_must (refine wpList_nextS rfl _ rfl mb r _ _ rfl HRG.out ?_ ?_))
    · intro hdone
      have HP2 := Lib.hid (vis_perm HM.out hdone HSUB.out HND.out)
      clear hdone
      go_wp2_with fail
      go_ret
      refine ⟨rfl, ⟨newS (w.heap.size + 2) r wr, fun k hk => by have := hk.1; omega, HYC.out, by omega, fun h => by have := h.1; omega, fun k hk => hk.2.1, HT.out.ok, ys, HYM.out, ?_⟩, HBR.out⟩
      rw [HYS.out]
      exact (HP2.out.map Prod.snd).trans HPERM.out
    · intro key v1 w1 a0 e0 hmem hxe hnew hrg1 hg1 hs1 hen
      simp only [pairOf, Prod.mk.injEq] at hxe
      obtain ⟨rfl, rfl⟩ := hxe
      have HX := Lib.hid hmem
      have HNEW := Lib.hid (show ∀ y ∈ vis, y.2.path ≠ e0.path from fun y hy e => hnew _ _ y.1 y.2 hy rfl (by rw [e]))
      obtain ⟨hda, hok⟩ := HM.out.dat _ hmem
      simp only at hda hok
      have HOK := Lib.hid hok
      have HDA := Lib.hid (show ∀ W', Below w.heap.size w W' → DataAt S W' a0 e0.data from fun W' hb => (HM.out.dat _ hmem).1.below hb)
      have HVE := Lib.hid (vEnt_data (HT.out.ok.val e0 (HPERM.out.subset (List.mem_map.2 ⟨_, hmem, rfl⟩))))
      have HB1 := Lib.hid (HBR.out.grown hg1 HBR.out.size (fun k e => by cases e; have := HR.out; omega))
      have HRG1 := Lib.hid hrg1
      have HLEFT := Lib.hid HRG.out.left
      have HYM1 := Lib.hid ((HYM.out.next (fun h => h.2.2 rfl) (by have := HR.out; omega) hg1).mono (S' := newS (w.heap.size + 2) r w1) (fun k hk => ⟨hk.1, Nat.lt_of_lt_of_le hk.2.1 hg1.size, hk.2.2⟩) (fun h => by have := h.1; omega))
      have HYC1 := Lib.hid (hg1.cell HYC.out (fun e => by have h1 := Option.some.inj e; have := HR.out; simp only at h1; omega))
      have HSZ1 := Lib.hid (Nat.le_trans HSZ2.out hg1.size)
      obtain ⟨_, aa, ca, rfl, hca, hma, -⟩ := hda
      unfold maxLen at hma
      unfold entV at hen
      unfold entV
      clear hmem hnew hrg1 hg1 hs1 hok
      go_wp2_with fail
      obtain ⟨W4, hW4⟩ : ∃ W4 : World, W4 = (w1.alloc (.cells #[.string e0.path, .int .i64 e0.kind, .int .i64 e0.mode, .int .i64 e0.time, .slice aa e0.data.length ca, .string e0.link] 36)).drew := ⟨_, rfl⟩
      have hbw : Below w1.heap.size w1 W4 := by rw [hW4]; exact ((Below.refl _ _).alloc (Nat.le_refl _) _).drew
      have HB4 := Lib.hid hbw
      have HX4 := Lib.hid (show W4.heap[w1.heap.size]? = some (.cells #[.string e0.path, .int .i64 e0.kind, .int .i64 e0.mode, .int .i64 e0.time, .slice aa e0.data.length ca, .string e0.link] 36 (0, 0)) by rw [hW4]; exact new20 w1 _)
      refine hld_start (fun w' => w'.cell? ⟨w.heap.size + 1, 0, none⟩ = some (.map (some w.heap.size)) ∧ w'.cell? ⟨w1.heap.size, 0, none⟩ = some (.string e0.path) ∧ w'.cell? ⟨w1.heap.size, 1, none⟩ = some (.int .i64 e0.kind) ∧ w'.cell? ⟨w1.heap.size, 2, none⟩ = some (.int .i64 e0.mode) ∧ w'.cell? ⟨w1.heap.size, 3, none⟩ = some (.int .i64 e0.time) ∧ w'.cell? ⟨w1.heap.size, 4, none⟩ = some (.slice aa e0.data.length ca) ∧ w'.cell? ⟨w1.heap.size, 5, none⟩ = some (.string e0.link)) (by kernel_rfl) ?_
      rw [← hW4]
      clear hW4 hbw hen
      have hS1 := (HB4.out.cell (block_lt HYC1.out)).trans HYC1.out
      have c0 := cell20 (k := 0) HX4.out
      have c1 := cell20 (k := 1) HX4.out
      have c2 := cell20 (k := 2) HX4.out
      have c3 := cell20 (k := 3) HX4.out
      have c4 := cell20 (k := 4) HX4.out
      have c5 := cell20 (k := 5) HX4.out
      simp only [List.getElem?_toArray, List.getElem?_cons_succ, List.getElem?_cons_zero] at c0 c1 c2 c3 c4 c5
      refine hld_take 0 rfl (by kernel_rfl) (by kernel_rfl) (by kernel_rfl) (fun _ _ _ h => h) rfl ⟨hS1, c0, c1, c2, c3, c4, c5⟩ (by rintro w' ⟨hw1, hw2, hw3, hw4, hw5, hw6, hw7⟩; go_simp; rfl) ?_
      simp only [Act.put, List.setIfInBounds_toArray, List.set_cons_succ, List.set_cons_zero]
      refine hld_take 1 rfl (by kernel_rfl) (by kernel_rfl) (by kernel_rfl) (fun _ _ _ h => h) rfl ⟨hS1, c0, c1, c2, c3, c4, c5⟩ (by rintro w' ⟨hw1, hw2, hw3, hw4, hw5, hw6, hw7⟩; go_simp; rfl) ?_
      simp only [Act.put, List.setIfInBounds_toArray, List.set_cons_succ, List.set_cons_zero]
      refine hld_take 2 rfl (by kernel_rfl) (by kernel_rfl) (by kernel_rfl) (fun _ _ _ h => h) rfl ⟨hS1, c0, c1, c2, c3, c4, c5⟩ (by rintro w' ⟨hw1, hw2, hw3, hw4, hw5, hw6, hw7⟩; go_simp; rfl) ?_
      simp only [Act.put, List.setIfInBounds_toArray, List.set_cons_succ, List.set_cons_zero]
      refine hld_take 3 rfl (by kernel_rfl) (by kernel_rfl) (by kernel_rfl) (fun _ _ _ h => h) rfl ⟨hS1, c0, c1, c2, c3, c4, c5⟩ (by rintro w' ⟨hw1, hw2, hw3, hw4, hw5, hw6, hw7⟩; go_simp; rfl) ?_
      simp only [Act.put, List.setIfInBounds_toArray, List.set_cons_succ, List.set_cons_zero]
      refine hld_take 4 rfl (by kernel_rfl) (by kernel_rfl) (by kernel_rfl) (fun _ _ _ h => h) rfl ⟨hS1, c0, c1, c2, c3, c4, c5⟩ (by rintro w' ⟨hw1, hw2, hw3, hw4, hw5, hw6, hw7⟩; go_simp; rfl) ?_
      simp only [Act.put, List.setIfInBounds_toArray, List.set_cons_succ, List.set_cons_zero]
      refine hld_take 5 rfl (by kernel_rfl) (by kernel_rfl) (by kernel_rfl) (fun _ _ _ h => h) rfl ⟨hS1, c0, c1, c2, c3, c4, c5⟩ (by rintro w' ⟨hw1, hw2, hw3, hw4, hw5, hw6, hw7⟩; go_simp; rfl) ?_
      simp only [Act.put, List.setIfInBounds_toArray, List.set_cons_succ, List.set_cons_zero]
      refine hld_bar 6 rfl (by kernel_rfl) rfl (fun K hK => ?_)
      go_wp2_with (go_at_call 35; refine (copied_flat S e0 _ _ (HDA.out _ (below_next HB1.out HB4.out)) HVE.out).mono ?_; rintro e w5 ⟨a', cap', rfl, ho, hb5⟩)
      have HB5 := Lib.hid (below_next HB4.out hb5)
      have HX5 := Lib.hid ((hb5.block w1.heap.size (lt20 HX4.out)).trans HX4.out)
      have hd5 : DataAt (newS (w.heap.size + 2) r w5) w5 (.slice a' e0.data.length cap') e0.data := data_mono (data_of_owns ho) (fun k hk => by
        have h1 := HB4.out.size
        have h2 := HSZ1.out
        have h3 := HRG1.out.ltr
        exact ⟨by omega, hk.2, by omega⟩)
      have hm5 : MapE (newS (w.heap.size + 2) r w5) w5 w.heap.size ys := (HYM1.out.below HB5.out).mono (fun k hk => ⟨hk.1, Nat.lt_of_lt_of_le hk.2.1 HB5.out.size, hk.2.2⟩) (fun h => by have := h.1; omega)
      have hput := hm5.putRun mapTy (fun x hx e => by
        have h1 : x.2 ∈ vis.map Prod.snd := by rw [← HYS.out]; exact List.mem_map.2 ⟨x, hx, rfl⟩
        obtain ⟨y, hy, hyx⟩ := List.mem_map.1 h1
        exact HNEW.out y hy (by rw [hyx]; exact e)) hd5 HOK.out
      have HPUT := Lib.hid hput
      clear ho hb5 hd5 hm5 hput hS1 c0 c1 c2 c3 c4 c5
      have hS1 := (HB5.out.cell (block_lt HYC1.out)).trans HYC1.out
      have c0 := cell20 (k := 0) HX5.out
      have c1 := cell20 (k := 1) HX5.out
      have c2 := cell20 (k := 2) HX5.out
      have c3 := cell20 (k := 3) HX5.out
      have c4 := cell20 (k := 4) HX5.out
      have c5 := cell20 (k := 5) HX5.out
      simp only [List.getElem?_toArray, List.getElem?_cons_succ, List.getElem?_cons_zero] at c0 c1 c2 c3 c4 c5
      refine ⟨⟨hS1, c0, c1, c2, c3, c4, c5⟩, ?_⟩
      refine hld_bar 7 rfl (by kernel_rfl) rfl (fun K hK => ?_)
      go_wp2_with (at_mapUpdate; go_must (refine wpList_updRun rfl _ _ _ _ rfl _ _ _ rfl rfl rfl HPUT.out ?_); rintro w6 ⟨hm6, hg6⟩)
      have HM6 := Lib.hid hm6
      have HG6 := Lib.hid hg6
      have hnb : some w1.heap.size ≠ some w.heap.size := fun e => by have h1 := HSZ1.out; have h2 := Option.some.inj e; omega
      have r1 := hg6.cell hS1 (fun e => by have h2 := Option.some.inj e; simp only at h2; omega)
      have r2 := hg6.cell c0 hnb
      have r3 := hg6.cell c1 hnb
      have r4 := hg6.cell c2 hnb
      have r5 := hg6.cell c3 hnb
      have r6 := hg6.cell c4 hnb
      have r7 := hg6.cell c5 hnb
      refine ⟨⟨r1, r2, r3, r4, r5, r6, r7⟩, ?_⟩
      have HR1 := Lib.hid r1
      clear hm6 hg6 r1 r2 r3 r4 r5 r6 r7 hS1 c0 c1 c2 c3 c4 c5 hnb
      refine hld_done (by kernel_rfl) ?_
      simp only [Act.put]
      go_wp2_with fail
      have HRG6 := Lib.hid (HRG1.out.same (w' := w6)
        ((HG6.out.block mb (Nat.lt_of_lt_of_le HRG1.out.map.lt HB5.out.size) (fun e => by have h1 := HM.out.map.lt; have h2 := Option.some.inj e; omega)).trans (HB5.out.block mb HRG1.out.map.lt))
        ((HG6.out.block r (Nat.lt_of_lt_of_le HRG1.out.ltr HB5.out.size) (fun e => by have h1 := HR.out; have h2 := Option.some.inj e; omega)).trans (HB5.out.block r HRG1.out.ltr)))
      go_roundw
      case rel =>
        refine ⟨vis ++ [(.slice aa e0.data.length ca, e0)], ys ++ [(.slice a' e0.data.length cap', e0)], ?_, ?_, ?_, ?_, ?_, HR1.out, ?_, ?_⟩
        · rw [List.map_append]; exact HRG6.out
        · intro y hy
          rcases List.mem_append.1 hy with hy | hy
          · exact HSUB.out y hy
          · rw [List.mem_singleton] at hy; rw [hy]; exact HX.out
        · exact nodup_vsnoc HND.out HNEW.out
        · rw [List.map_append, List.map_append, HYS.out]; rfl
        · exact HM6.out.mono (fun k hk => ⟨hk.1, Nat.lt_of_lt_of_le hk.2.1 HG6.out.size, hk.2.2⟩) (fun h => by have := h.1; omega)
        · exact (below_next HB1.out HB5.out).grown HG6.out (below_next HB1.out HB5.out).size (fun k e => by cases e; exact Nat.le_refl _)
        · exact Nat.le_trans HSZ1.out (Nat.le_trans HB5.out.size HG6.out.size)
      case measure =>
        have h1 := HRG6.out.left
        have h2 := HLEFT.out
        simp only [List.length_append, List.length_singleton] at h1
        omega

end Go.Proofs.YtbkhdpocmmjnbaaDoor

/- Contracts of the specification kinkeepref20: Find. -/
namespace Go.Proofs.YtbkhdpocmmjnbaaDoor
open Go.RowKit Go.Maps

def findIx : List Ent → ByteArray → Nat → Int
  | [], _, _ => -1
  | e :: L, p, i => if e.path = p then (i : Int) else findIx L p (i + 1)
theorem findIx_drop {L : List Ent} {p : ByteArray} {k : Nat} {e : Ent} (h : L[k]? = some e) : findIx (L.drop k) p k = if e.path = p then (k : Int) else findIx (L.drop (k + 1)) p (k + 1) := by
  obtain ⟨hk, he⟩ := List.getElem?_eq_some_iff.1 h
  rw [List.drop_eq_getElem_cons hk, findIx, he]
/-- The place that is found: of the first entry with the path. -/
theorem findIx_spec {p : ByteArray} : ∀ (L : List Ent) (i : Nat), (findE L p = none ∧ findIx L p i = -1) ∨ ∃ j e, findE L p = some e ∧ L[j]? = some e ∧ findIx L p i = ((i + j : Nat) : Int)
  | [], i => .inl ⟨rfl, rfl⟩
  | e :: L, i => by
    by_cases h : e.path = p
    · right
      refine ⟨0, e, ?_, rfl, ?_⟩
      · unfold findE; rw [List.find?_cons_of_pos (by simp [h])]
      · rw [findIx, if_pos h]; simp
    · have hf : findE (e :: L) p = findE L p := by unfold findE; rw [List.find?_cons_of_neg (by simp [h])]
      rw [findIx, if_neg h, hf]
      rcases findIx_spec L (i + 1) with h1 | ⟨j, f, h1, h2, h3⟩
      · exact .inl h1
      · exact .inr ⟨j + 1, f, h1, by simpa using h2, by rw [h3]; congr 1; omega⟩
set_option maxRecDepth 100000 in
set_option maxHeartbeats 1000000 in
theorem r_find_any (S : Nat → Prop) (L : List Ent) (v : Value) (p : ByteArray) (w : World) (hv : EntsAt S w v L) :
    Calls Tryd.prog 57 #[v, .string p] w fun e w' => e = .returned (.int .i64 (findIx L p 0)) ∧ Below w.heap.size w w' := by
  have HV := Lib.hid hv
  obtain ⟨a, cap, rfl, hc, hm, -⟩ := SeqAt.shape hv EntR.len
  obtain ⟨n, hn⟩ : ∃ n, n = L.length := ⟨_, rfl⟩
  have HN := Lib.hid hn
  rw [← hn] at HV hc ⊢
  unfold maxLen at hm
  clear hv hn
  go_enter Tryd.func57, Tryd.ntmps57
  go_wp2_with fail
  go_loopw [5, 9] (fun _ i wr => ∃ k : Nat, k ≤ n ∧ i = .int .i64 k ∧ findIx L p 0 = findIx (L.drop k) p k ∧ Below w.heap.size w wr) (fun _ i _ => n - (intOf i).toNat)
  case atStart => exact ⟨0, Nat.zero_le _, rfl, rfl, Below.refl _ _⟩
  case round =>
    obtain ⟨k, hk, rfl, hfi, hbr⟩ := hrel
    have HFI := Lib.hid hfi
    have HBR := Lib.hid hbr
    by_cases hlt : k < n
    · obtain ⟨e, he⟩ : ∃ e, L[k]? = some e := ⟨L[k]'(by rw [← HN.out]; exact hlt), by simp⟩
      obtain ⟨b, o, dv, rfl, -, hb, hd, -, -, q0, q1, q2, q3, q4, q5⟩ := ents_at (HV.out.below hbr) he
      obtain ⟨_, ad, cd, rfl, hcd, hmd, -⟩ := hd
      have HAT := Lib.hid (findIx_drop (p := p) he)
      clear he hfi hbr
      by_cases hp : e.path = p
      · have e1 : (e.path.toList == p.toList) = true := by rw [hp]; simp
        have HR := Lib.hid (show findIx L p 0 = (k : Int) by rw [HFI.out, HAT.out, if_pos hp])
        clear hp
        go_wp2_with fail
        go_ret
        exact ⟨ret_int HR.out.symm, below_next HBR.out ((Below.refl _ _).alloc (Nat.le_refl _) _)⟩
      · have e1 : (e.path.toList == p.toList) = false := by
          rw [beq_eq_false_iff_ne]; intro h; exact hp (bl_inj (by rw [← toList_bl, ← toList_bl]; exact h))
        have HR := Lib.hid (show findIx L p 0 = findIx (L.drop (k + 1)) p (k + 1) by rw [HFI.out, HAT.out, if_neg hp])
        clear hp
        go_wp2_with fail
        go_roundw
        case rel => exact ⟨k + 1, by omega, by go_num, HR.out, below_next HBR.out ((Below.refl _ _).alloc (Nat.le_refl _) _)⟩
        case measure => simp [intOf]; omega
    · have HR := Lib.hid (show findIx L p 0 = -1 by rw [HFI.out, List.drop_of_length_le (by rw [← HN.out]; omega)]; rfl)
      clear hfi hbr
      go_wp2_with fail
      go_ret
      exact ⟨ret_int HR.out.symm, HBR.out⟩

end Go.Proofs.YtbkhdpocmmjnbaaDoor

/- Contracts of the specification kinkeepref20: Same. -/
namespace Go.Proofs.YtbkhdpocmmjnbaaDoor
open Go.RowKit Go.Maps

theorem conv20 {S : Nat → Prop} {w : World} {v : Value} {bs : List UInt8} (hd : DataAt S w v bs) : (convert 34 9 v).run Tryd.prog w = .ok (.string ⟨bs.toArray⟩) w := by
  have h := conv_data hd
  have e : strOfNums (bs.map fun b => (b.toNat : Int)) = ⟨bs.toArray⟩ := by
    simp only [strOfNums, List.map_map, Function.comp_def, Int.toNat_natCast]
    simp
  rw [e] at h
  exact h
set_option maxRecDepth 100000 in
set_option maxHeartbeats 2000000 in
theorem r_same20_any (S T : Nat → Prop) (a b : Ent) (va vb : Value) (w : World) (ha : DataAt S w va a.data) (hb : DataAt T w vb b.data) : Calls Tryd.prog 21 #[entV va a, entV vb b] w fun e w' => e = .returned (.bool (decide (a = b))) ∧ Below w.heap.size w w' := by
  obtain ⟨sa, hsa⟩ : ∃ sa : ByteArray, sa = ⟨a.data.toArray⟩ := ⟨_, rfl⟩
  obtain ⟨sb, hsb⟩ : ∃ sb : ByteArray, sb = ⟨b.data.toArray⟩ := ⟨_, rfl⟩
  have hca : ∀ c1 c2 : Array Value, (convert 34 9 va).run Tryd.prog ((w.alloc (.cells c1 36)).alloc (.cells c2 36)) = .ok (.string sa) ((w.alloc (.cells c1 36)).alloc (.cells c2 36)) := fun c1 c2 => by
    rw [hsa]; exact conv20 (ha.below (((Below.refl _ _).alloc (Nat.le_refl _) _).alloc (by simp) _))
  have hcb : ∀ c1 c2 : Array Value, (convert 34 9 vb).run Tryd.prog ((w.alloc (.cells c1 36)).alloc (.cells c2 36)) = .ok (.string sb) ((w.alloc (.cells c1 36)).alloc (.cells c2 36)) := fun c1 c2 => by
    rw [hsb]; exact conv20 (hb.below (((Below.refl _ _).alloc (Nat.le_refl _) _).alloc (by simp) _))
  have HSA := Lib.hid (show bl sa = a.data by rw [hsa]; exact bl_mk _)
  have HSB := Lib.hid (show bl sb = b.data by rw [hsb]; exact bl_mk _)
  obtain ⟨_, aa, ca, rfl, hc1, hm1, -⟩ := ha
  obtain ⟨_, ab, cb, rfl, hc2, hm2, -⟩ := hb
  unfold maxLen at hm1 hm2
  unfold entV
  clear hsa hsb
  have HN := Lib.hid (show ∀ x y : ByteArray, x.toList = y.toList ↔ x = y from fun x y => by rw [toList_bl, toList_bl]; exact ⟨bl_inj, fun h => by rw [h]⟩)
  go_enter Tryd.func21, Tryd.ntmps21
  go_wp2_with fail
  · have y1 : a.path.toList = b.path.toList := by assumption
    have y2 : a.kind = b.kind := by assumption
    have y3 : a.mode = b.mode := by assumption
    have y4 : a.time = b.time := by assumption
    have y5 : a.link.toList = b.link.toList := by assumption
    have HX := Lib.hid (show (sa.toList == sb.toList) = decide (a = b) by
      rw [toList_bl, toList_bl, HSA.out, HSB.out]
      cases a; cases b
      rw [HN.out] at y1 y5
      simp only at y1 y2 y3 y4 y5
      subst y1 y2 y3 y4 y5
      rw [Bool.eq_iff_iff]
      simp)
    go_ret
    exact ⟨ret_bool HX.out, ((Below.refl _ _).alloc (Nat.le_refl _) _).alloc (by simp) _⟩
  all_goals (
    go_ret
    refine ⟨ret_bool ?_, ((Below.refl _ _).alloc (Nat.le_refl _) _).alloc (by simp) _⟩
    symm
    rw [decide_eq_false_iff_not]
    rintro rfl
    exact absurd rfl (by assumption))

end Go.Proofs.YtbkhdpocmmjnbaaDoor

/- Contracts of the specification kinkeepref20: SameAll. -/
namespace Go.Proofs.YtbkhdpocmmjnbaaDoor
open Go.RowKit Go.Maps


theorem r_same20_is (S T : Nat → Prop) (a b : Ent) (va vb : Value) (r : Bool) (w : World) (ha : DataAt S w va a.data) (hb : DataAt T w vb b.data) (hr : decide (a = b) = r) : Calls Tryd.prog 21 #[entV va a, entV vb b] w fun e w' => e = .returned (.bool r) ∧ Below w.heap.size w w' := by
  rw [← hr]; exact r_same20_any S T a b va vb w ha hb
set_option maxRecDepth 100000 in
set_option maxHeartbeats 2000000 in
theorem r_sameall_any (S T : Nat → Prop) (L M : List Ent) (v u : Value) (w : World) (hv : EntsAt S w v L) (hu : EntsAt T w u M) :
    Calls Tryd.prog 15 #[v, u] w fun e w' => e = .returned (.bool (decide (L = M))) ∧ Below w.heap.size w w' := by
  have HV := Lib.hid hv
  have HU := Lib.hid hu
  obtain ⟨a, cap, rfl, hc, hm, -⟩ := SeqAt.shape hv EntR.len
  obtain ⟨a2, cap2, rfl, hc2, hm2, -⟩ := SeqAt.shape hu EntR.len
  unfold maxLen at hm hm2
  clear hv hu
  by_cases hlen : L.length = M.length
  · have e1 : ((L.length : Int) != (M.length : Int)) = false := by simp [hlen]
    obtain ⟨n, hn⟩ : ∃ n, n = L.length := ⟨_, rfl⟩
    have hn2 : n = M.length := by omega
    have HN := Lib.hid hn
    have HN2 := Lib.hid hn2
    rw [← hlen] at HU hc2 e1 ⊢
    rw [← hn] at HV HU hc hc2 e1 ⊢
    clear hn hn2 hlen
    go_enter Tryd.func15, Tryd.ntmps15
    go_wp2_with fail
    go_loopw [5, 13] (fun _ i wr => ∃ k : Nat, k ≤ n ∧ i = .int .i64 k ∧ L.take k = M.take k ∧ Below w.heap.size w wr) (fun _ i _ => n - (intOf i).toNat)
    case atStart => exact ⟨0, Nat.zero_le _, rfl, by simp, Below.refl _ _⟩
    case round =>
      obtain ⟨k, hk, rfl, hfi, hbr⟩ := hrel
      have HFI := Lib.hid hfi
      have HBR := Lib.hid hbr
      by_cases hlt : k < n
      · obtain ⟨e, he⟩ : ∃ e, L[k]? = some e := ⟨L[k]'(by rw [← HN.out]; exact hlt), by simp⟩
        obtain ⟨f, hf⟩ : ∃ f, M[k]? = some f := ⟨M[k]'(by rw [← HN2.out]; exact hlt), by simp⟩
        obtain ⟨b, o, dv, rfl, -, hb, hd, -, -, q0, q1, q2, q3, q4, q5⟩ := ents_at (HV.out.below hbr) he
        obtain ⟨b2, o2, dv2, rfl, -, hb2, hd2, -, -, p0, p1, p2, p3, p4, p5⟩ := ents_at (HU.out.below hbr) hf
        have HD := Lib.hid hd
        have HE := Lib.hid hd2
        obtain ⟨_, ad, cd, rfl, hcd, hmd, -⟩ := hd
        obtain ⟨_, ad2, cd2, rfl, hcd2, hmd2, -⟩ := hd2
        have HAT := Lib.hid (And.intro he hf)
        clear he hf hfi hbr
        cases heq : decide (e = f)
        · have HEQ := Lib.hid heq
          clear heq
          go_upto_region 6 with (fail)
          refine wp_region_segs [some 8, none, some 1] (by kernel_rfl) (by kernel_rfl) (by kernel_rfl) ?_
          simp only [wpSegs, List.take_succ_cons, List.take_zero, List.drop_succ_cons, List.drop_zero]
          obtain ⟨W, hW⟩ : ∃ W : World, W = wr.drew := ⟨_, rfl⟩
          rw [← hW]
          have hbw : Below wr.heap.size wr W := by rw [hW]; exact (Below.refl _ _).drew
          have HBW := Lib.hid hbw
          have z0 := (hbw.cell (block_lt q0)).trans q0
          have z1 := (hbw.cell (block_lt q1)).trans q1
          have z2 := (hbw.cell (block_lt q2)).trans q2
          have z3 := (hbw.cell (block_lt q3)).trans q3
          have z4 := (hbw.cell (block_lt q4)).trans q4
          have z5 := (hbw.cell (block_lt q5)).trans q5
          have x0 := (hbw.cell (block_lt p0)).trans p0
          have x1 := (hbw.cell (block_lt p1)).trans p1
          have x2 := (hbw.cell (block_lt p2)).trans p2
          have x3 := (hbw.cell (block_lt p3)).trans p3
          have x4 := (hbw.cell (block_lt p4)).trans p4
          have x5 := (hbw.cell (block_lt p5)).trans p5
          clear hW hbw q0 q1 q2 q3 q4 q5 p0 p1 p2 p3 p4 p5
          repeat (first | (refine seg_skip rfl ?_; simp only [Act.put, List.setIfInBounds_toArray, List.set_cons_succ, List.set_cons_zero]) | (refine seg_run rfl (fun K hK => ?_); go_simp; refine hK _ ?_; clear hK K))
          refine seg_nil ?_
          refine bar_run rfl (fun K hK => ?_)
          go_wp2_with (go_at_call 21; refine (r_same20_is S T e f _ _ false _ (by exact HD.out.below HBW.out) (by exact HE.out.below HBW.out) HEQ.out).mono ?_; rintro e1 w1 ⟨rfl, hb1⟩; have HB1 := Lib.hid (below_next HBR.out (below_next HBW.out hb1)); clear hb1)
          clear z0 z1 z2 z3 z4 z5 x0 x1 x2 x3 x4 x5
          repeat (first | (refine seg_skip rfl ?_; simp only [Act.put, List.setIfInBounds_toArray, List.set_cons_succ, List.set_cons_zero]) | (refine seg_run rfl (fun K hK => ?_); go_simp; refine hK _ ?_; clear hK K))
          refine seg_nil ?_
          go_wp2_with fail
          go_ret
          refine ⟨ret_bool ?_, HB1.out⟩
          symm
          rw [decide_eq_false_iff_not]
          intro hc
          obtain ⟨h1, h2⟩ := HAT.out
          rw [hc, h2] at h1
          exact (of_decide_eq_false HEQ.out) (Option.some.inj h1).symm
        · have HEQ := Lib.hid heq
          clear heq
          go_upto_region 6 with (fail)
          refine wp_region_segs [some 8, none, some 1] (by kernel_rfl) (by kernel_rfl) (by kernel_rfl) ?_
          simp only [wpSegs, List.take_succ_cons, List.take_zero, List.drop_succ_cons, List.drop_zero]
          obtain ⟨W, hW⟩ : ∃ W : World, W = wr.drew := ⟨_, rfl⟩
          rw [← hW]
          have hbw : Below wr.heap.size wr W := by rw [hW]; exact (Below.refl _ _).drew
          have HBW := Lib.hid hbw
          have z0 := (hbw.cell (block_lt q0)).trans q0
          have z1 := (hbw.cell (block_lt q1)).trans q1
          have z2 := (hbw.cell (block_lt q2)).trans q2
          have z3 := (hbw.cell (block_lt q3)).trans q3
          have z4 := (hbw.cell (block_lt q4)).trans q4
          have z5 := (hbw.cell (block_lt q5)).trans q5
          have x0 := (hbw.cell (block_lt p0)).trans p0
          have x1 := (hbw.cell (block_lt p1)).trans p1
          have x2 := (hbw.cell (block_lt p2)).trans p2
          have x3 := (hbw.cell (block_lt p3)).trans p3
          have x4 := (hbw.cell (block_lt p4)).trans p4
          have x5 := (hbw.cell (block_lt p5)).trans p5
          clear hW hbw q0 q1 q2 q3 q4 q5 p0 p1 p2 p3 p4 p5
          repeat (first | (refine seg_skip rfl ?_; simp only [Act.put, List.setIfInBounds_toArray, List.set_cons_succ, List.set_cons_zero]) | (refine seg_run rfl (fun K hK => ?_); go_simp; refine hK _ ?_; clear hK K))
          refine seg_nil ?_
          refine bar_run rfl (fun K hK => ?_)
          go_wp2_with (go_at_call 21; refine (r_same20_is S T e f _ _ true _ (by exact HD.out.below HBW.out) (by exact HE.out.below HBW.out) HEQ.out).mono ?_; rintro e1 w1 ⟨rfl, hb1⟩; have HB1 := Lib.hid (below_next HBR.out (below_next HBW.out hb1)); clear hb1)
          clear z0 z1 z2 z3 z4 z5 x0 x1 x2 x3 x4 x5
          repeat (first | (refine seg_skip rfl ?_; simp only [Act.put, List.setIfInBounds_toArray, List.set_cons_succ, List.set_cons_zero]) | (refine seg_run rfl (fun K hK => ?_); go_simp; refine hK _ ?_; clear hK K))
          refine seg_nil ?_
          go_wp2_with fail
          go_roundw
          case rel =>
            refine ⟨k + 1, by omega, by go_num, ?_, HB1.out⟩
            rw [List.take_add_one, List.take_add_one, HFI.out, HAT.out.1, HAT.out.2, of_decide_eq_true HEQ.out]
          case measure => simp [intOf]; omega
      · clear hfi hbr
        have hkn : k = n := by omega
        have HR := Lib.hid (show L = M by
          have h1 := HFI.out
          rw [List.take_of_length_le (by rw [← HN.out]; omega), List.take_of_length_le (by rw [← HN2.out]; omega)] at h1
          exact h1)
        clear hkn
        go_wp2_with fail
        go_ret
        exact ⟨ret_bool (decide_eq_true HR.out).symm, HBR.out⟩
  · have HF := Lib.hid (show decide (L = M) = false from decide_eq_false (fun e => hlen (by rw [e])))
    have e1 : ((L.length : Int) != (M.length : Int)) = true := by simp; omega
    clear hlen
    go_enter Tryd.func15, Tryd.ntmps15
    go_wp2_with fail
    go_ret
    exact ⟨ret_bool HF.out.symm, Below.refl _ _⟩

end Go.Proofs.YtbkhdpocmmjnbaaDoor

/- The example of chapter 20: awake returns true. -/
namespace Go.Proofs.YtbkhdpocmmjnbaaDoor
open Go Go.RowKit Go.Maps

theorem len_gather {B : Nat} {w : World} {v : Value} {M : List Ent} (h : Gathered B w v M) : ∃ a c, v = .slice a M.length c ∧ M.length ≤ c ∧ c ≤ maxLen := by
  obtain ⟨ys, rfl, h2, _⟩ := h
  obtain ⟨a, c, rfl, h3, h4⟩ := owns_shape h2
  exact ⟨a, c, by rw [List.length_map], by rw [List.length_map]; exact h3, h4⟩
set_option maxRecDepth 100000 in
set_option maxHeartbeats 4000000 in
theorem awakeT_any (w : World) (he : Env w) : Calls Tryd.prog 10 #[] w fun e w' => e = .returned (.bool true) ∧ Below w.heap.size w w' := by
  have HE := Lib.hid he
  clear he
  go_enter Tryd.func10, Tryd.ntmps10
  go_wp2_with fail
  refine (exampleT_any w).mono ?_
  rintro e w1 ⟨v1, rfl, h1, hb1⟩
  have H1 := Lib.hid h1
  have HB1 := Lib.hid hb1
  obtain ⟨a1, c1, rfl, -, -, -⟩ := SeqAt.shape h1 EntR.len
  clear h1 hb1
  go_wp2_with fail
  refine (from_any _ exT _ _ H1.out (HE.out.below HB1.out)).mono ?_
  rintro e w2 ⟨hb2, h2⟩
  rw [ex_check] at h2
  obtain ⟨tb, mb, rfl, hmb, htb, S2, hS2, ht2⟩ := h2.resolve_left (fun h => h.1 rfl) |>.2
  have HB2 := Lib.hid (below_next HB1.out hb2)
  have HT2 := Lib.hid ht2
  have HMB := Lib.hid (show w.heap.size ≤ mb from Nat.le_trans HB1.out.size hmb)
  have HTL := Lib.hid (block_lt ht2.cell)
  clear hb2 h2 hmb htb hS2 ht2
  go_wp2_with fail
  refine (size_any S2 tb mb exT ⟨#[]⟩ _ HT2.out (by decide)).mono ?_
  rintro e w3 ⟨rfl, hb3⟩
  rw [ex_count]
  have HB3 := Lib.hid (below_next HB2.out hb3)
  have HT3 := Lib.hid (HT2.out.below hb3)
  clear hb3
  go_wp2_with fail
  refine (remove_any S2 tb mb exT ⟨#[97]⟩ false _ HT3.out (by decide) (HE.out.below HB3.out)).mono ?_
  rintro e w4 ⟨rfl, ht4, hg4⟩
  rw [ex_remove] at ht4 ⊢
  have HB4 := Lib.hid (HB3.out.grown hg4 HB3.out.size (fun k e => by cases e; exact HMB.out))
  have HT4 := Lib.hid ht4
  clear ht4 hg4
  go_wp2_with fail
  refine (move_any _ tb mb exT ⟨#[97]⟩ ⟨#[99]⟩ _ HT4.out (by decide) (by decide) (HE.out.below HB4.out)).mono ?_
  rintro e w5 ⟨rfl, ht5, hg5⟩
  rw [ex_move1] at ht5 ⊢
  have HB5 := Lib.hid (HB4.out.grown hg5 HB4.out.size (fun k e => by cases e; exact HMB.out))
  have HT5 := Lib.hid ht5
  clear ht5 hg5
  go_wp2_with fail
  refine (move_any _ tb mb exM ⟨#[99]⟩ ⟨#[99, 47, 100]⟩ _ HT5.out (by decide) (by decide) (HE.out.below HB5.out)).mono ?_
  rintro e w6 ⟨rfl, ht6, hg6⟩
  rw [ex_move2] at ht6 ⊢
  have HB6 := Lib.hid (HB5.out.grown hg6 HB5.out.size (fun k e => by cases e; exact HMB.out))
  have HT6 := Lib.hid ht6
  clear ht6 hg6
  go_wp2_with fail
  refine (move_any _ tb mb exM ⟨#[98]⟩ ⟨#[120, 47, 121]⟩ _ HT6.out (by decide) (by decide) (HE.out.below HB6.out)).mono ?_
  rintro e w7 ⟨rfl, ht7, hg7⟩
  rw [ex_move3] at ht7 ⊢
  have HB7 := Lib.hid (HB6.out.grown hg7 HB6.out.size (fun k e => by cases e; exact HMB.out))
  have HT7 := Lib.hid ht7
  clear ht7 hg7
  go_wp2_with fail
  refine (get_any _ tb mb exM ⟨#[99, 47, 120]⟩ _ HT7.out (by decide)).mono ?_
  rintro e w8 ⟨hb8, h8⟩
  rw [ex_find] at h8
  obtain ⟨v8, rfl, h8⟩ := h8
  have HD8 := Lib.hid (data_of_owns h8)
  obtain ⟨a8, c8, rfl, -, -⟩ := owns_shape h8
  have HB8 := Lib.hid (below_next HB7.out hb8)
  have HT8 := Lib.hid (HT7.out.below hb8)
  clear hb8 h8
  simp only [entV, exM2]
  have hcv : ∀ W, Below w8.heap.size w8 W → (convert 34 9 (.slice a8 2 c8)).run Tryd.prog W = .ok (.string ⟨#[49, 50]⟩) W := fun W hW => by
    have := conv_data (HD8.out.below hW)
    exact this
  have hcv1 := hcv (w8.alloc (.cells #[.string ⟨#[99, 47, 120]⟩, .int .i64 1, .int .i64 0, .int .i64 0, .slice a8 2 c8, .string ⟨#[]⟩] 36)) ((Below.refl _ _).alloc (Nat.le_refl _) _)
  have HB9 := Lib.hid (HB8.out.alloc HB8.out.size (.cells #[.string ⟨#[99, 47, 120]⟩, .int .i64 1, .int .i64 0, .int .i64 0, .slice a8 2 c8, .string ⟨#[]⟩] 36))
  have HT9 := Lib.hid (HT8.out.below ((Below.refl _ _).alloc (Nat.le_refl _) (.cells #[.string ⟨#[99, 47, 120]⟩, .int .i64 1, .int .i64 0, .int .i64 0, .slice a8 2 c8, .string ⟨#[]⟩] 36)))
  clear hcv
  go_wp2_with fail
  refine (entries_any _ tb mb exM _ HT9.out).mono ?_
  rintro e w10 ⟨v10, rfl, hg10, hb10⟩
  obtain ⟨a10, c10, rfl, -, -⟩ := len_gather hg10
  have HB10 := Lib.hid (below_next HB9.out hb10)
  have HT10 := Lib.hid (HT9.out.below hb10)
  clear hg10 hb10 hcv1
  simp only [exM, List.length_cons, List.length_nil, Nat.reduceAdd]
  go_wp2_with fail
  refine (put_any _ (fun _ => False) tb mb exM ⟨⟨#[99]⟩, 1, 0, 0, [], ⟨#[]⟩⟩ (.slice none 0 0) _ HT10.out (DataAt.nil _ _) ⟨by decide, by decide, by decide, by decide, by decide⟩ (HE.out.below HB10.out)).mono ?_
  rintro e w11 ⟨rfl, ht11, hg11⟩
  rw [ex_put] at ht11 ⊢
  have HB11 := Lib.hid (HB10.out.grown hg11 HB10.out.size (fun k e => by cases e; exact HMB.out))
  clear ht11 hg11
  go_wp2_with fail
  refine (new_any _).mono ?_
  rintro e w12 ⟨rfl, ht12, hb12, hs12⟩
  have HB12 := Lib.hid (below_next HB11.out hb12)
  have HT12 := Lib.hid ht12
  clear ht12 hb12 hs12
  go_wp2_with fail
  refine (entries_any _ _ _ [] _ HT12.out).mono ?_
  rintro e w13 ⟨v13, rfl, hg13, hb13⟩
  obtain ⟨a13, c13, rfl, -, -⟩ := len_gather hg13
  have HB13 := Lib.hid (below_next HB12.out hb13)
  clear hg13 hb13
  simp only [List.length_nil]
  go_wp2_with fail
  go_ret
  exact ⟨rfl, HB13.out⟩

end Go.Proofs.YtbkhdpocmmjnbaaDoor

/- Operations: plain, in memory; do and play. -/
namespace Go.Proofs.YtbkhdpocmmjnbaaDoor
open Go Go.RowKit Go.Maps

structure POp where
  kind : Int
  en : Ent
  src : ByteArray
  dst : ByteArray
  below : Bool
def doP (L : List Ent) (x : POp) : List Ent × Int :=
  if x.kind = 1 then putP L x.en
  else if x.kind = 2 then removeP L x.src x.below
  else if x.kind = 3 then moveP L x.src x.dst
  else (L, 0)
def playP (L : List Ent) (l : List POp) : List Ent := l.foldl (fun L x => (doP L x).1) L
theorem playP_snoc (L : List Ent) (l : List POp) (x : POp) : playP L (l ++ [x]) = (doP (playP L l) x).1 := by simp [playP]
structure OpOk (x : POp) : Prop where
  en : EntOk x.en
  src : x.src.size ≤ maxLen
  dst : x.dst.size ≤ maxLen
  knd : (Lit.int .i64 x.kind).wf = true
def opC (v : Value) (x : POp) : List Value := [.int .i64 x.kind, .string x.en.path, .int .i64 x.en.kind, .int .i64 x.en.mode, .int .i64 x.en.time, v, .string x.en.link, .string x.src, .string x.dst, .bool x.below]
def opV (v : Value) (x : POp) : Value := .agg #[.int .i64 x.kind, .string x.en.path, .int .i64 x.en.kind, .int .i64 x.en.mode, .int .i64 x.en.time, v, .string x.en.link, .string x.src, .string x.dst, .bool x.below]
def OpR (S : Nat → Prop) (w : World) (c : List Value) (x : POp) : Prop := ∃ v, c = opC v x ∧ DataAt S w v x.en.data ∧ OpOk x
theorem OpR.len {S : Nat → Prop} {w : World} (c : List Value) (x : POp) (h : OpR S w c x) : c.length = 10 := by obtain ⟨v, rfl, _⟩ := h; rfl
theorem OpR.below {S : Nat → Prop} {w w' : World} {c : List Value} {x : POp} (h : OpR S w c x) (hb : Below w.heap.size w w') : OpR S w' c x := by
  obtain ⟨v, h1, h2, h3⟩ := h
  exact ⟨v, h1, h2.below hb, h3⟩
def OpsAt (S : Nat → Prop) (w : World) (v : Value) (l : List POp) : Prop := SeqAt S w 10 (OpR S w) v l
theorem OpsAt.below {S : Nat → Prop} {w w' : World} {v : Value} {l : List POp} (h : OpsAt S w v l) (hb : Below w.heap.size w w') : OpsAt S w' v l :=
  SeqAt.below h (by omega) hb (fun _ _ _ hr => hr.below hb)
/-- The ten cells of an operation in a row. -/
theorem ops_at {S : Nat → Prop} {w : World} {a : Option Addr} {n cap : Nat} {l : List POp} (hv : OpsAt S w (.slice a n cap) l) {k : Nat} {x : POp} (hr : l[k]? = some x) :
    ∃ b o v, a = some ⟨b, o, none⟩ ∧ b < w.heap.size ∧ DataAt S w v x.en.data ∧ OpOk x ∧ ∀ j, j < 10 → w.cell? ⟨b, o + k * 10 + j, none⟩ = (opC v x)[j]? := by
  obtain ⟨a', cap', he, hn, hm, hat⟩ := SeqAt.shape hv OpR.len
  simp only [Value.slice.injEq] at he
  obtain ⟨rfl, rfl, rfl⟩ := he
  obtain ⟨b, o, c, ha, hb, ⟨v, hc, hd, hok⟩, hl, hj⟩ := hat k x hr
  subst hc
  have hc0 := hj 0 (by omega)
  exact ⟨b, o, v, ha, block_lt (hc0.trans rfl), hd, hok, fun j hjl => by have h := hj j hjl; rwa [← Nat.add_assoc] at h⟩
set_option maxRecDepth 100000 in
set_option maxHeartbeats 2000000 in
theorem do_any (S T : Nat → Prop) (tb mb : Nat) (L : List Ent) (x : POp) (v : Value) (w : World) (ht : TreeAt S w tb mb L) (hd : DataAt T w v x.en.data) (hok : OpOk x) (henv : Env w) :
    Calls Tryd.prog 33 #[.pointer (some ⟨tb, 0, none⟩), opV v x] w (OpRes S tb mb (doP L x) w) := by
  obtain ⟨a, cap, rfl, hd1, hd2⟩ := hd.slice
  have HD := Lib.hid hd
  have HT := Lib.hid ht
  have HE := Lib.hid henv
  have HOK := Lib.hid hok
  unfold maxLen at hd2
  have HB := Lib.hid ((Below.refl w.heap.size w).alloc (Nat.le_refl _) (.cells #[.int .i64 x.kind, .string x.en.path, .int .i64 x.en.kind, .int .i64 x.en.mode, .int .i64 x.en.time, .slice a x.en.data.length cap, .string x.en.link, .string x.src, .string x.dst, .bool x.below] 64))
  unfold opV
  have HRES := Lib.hid (fun (W w' : World) (r : List Ent × Int) (e : Ending) (hb : Below w.heap.size w W) (hr : OpRes S tb mb r W e w') => show OpRes S tb mb r w e w' from by
    obtain ⟨h1, h2, h3⟩ := hr
    refine ⟨h1, h2.mono (fun k hk => ?_) (fun hc => ?_) (fun hc => ?_) (fun k hk => ?_), (grown_of_below hb _).trans h3⟩
    · rcases hk with hk | hk
      · exact .inl hk
      · exact .inr ⟨Nat.le_trans hb.size hk.1, hk.2⟩
    · rcases hc with hc | hc
      · exact HT.out.far hc
      · have := block_lt HT.out.cell; simp only at this; omega
    · obtain ⟨xs, hm, _⟩ := HT.out.ents
      rcases hc with hc | hc
      · exact hm.far hc
      · have := HT.out.mb_lt; omega
    · rcases hk with hk | hk
      · exact Nat.lt_of_lt_of_le (HT.out.lt k hk) (Nat.le_trans hb.size h3.size)
      · exact hk.2)
  clear hd ht henv hok
  by_cases h1 : x.kind = 1
  · have HP := Lib.hid (show doP L x = putP L x.en by unfold doP; rw [if_pos h1])
    have e1 : (x.kind == 1) = true := by simp [h1]
    clear h1
    go_enter Tryd.func33, Tryd.ntmps33
    go_wp2_with (go_at_call 20; refine (put_any S T tb mb L x.en (.slice a x.en.data.length cap) _ (HT.out.below HB.out) (HD.out.below HB.out) HOK.out.en (HE.out.below HB.out)).mono ?_; rintro e w1 hr; have HR := Lib.hid (HRES.out _ _ _ _ HB.out hr); obtain ⟨rfl, -, -⟩ := hr)
    go_ret
    rw [HP.out]
    exact HR.out
  have e1 : (x.kind == 1) = false := by simp [h1]
  by_cases h2 : x.kind = 2
  · have HP := Lib.hid (show doP L x = removeP L x.src x.below by unfold doP; rw [if_neg h1, if_pos h2])
    have e2 : (x.kind == 2) = true := by simp [h2]
    clear h1 h2
    go_enter Tryd.func33, Tryd.ntmps33
    go_wp2_with (go_at_call 23; refine (remove_any S tb mb L x.src x.below _ (HT.out.below HB.out) HOK.out.src (HE.out.below HB.out)).mono ?_; rintro e w1 hr; have HR := Lib.hid (HRES.out _ _ _ _ HB.out hr); obtain ⟨rfl, -, -⟩ := hr)
    go_ret
    rw [HP.out]
    exact HR.out
  have e2 : (x.kind == 2) = false := by simp [h2]
  by_cases h3 : x.kind = 3
  · have HP := Lib.hid (show doP L x = moveP L x.src x.dst by unfold doP; rw [if_neg h1, if_neg h2, if_pos h3])
    have e3 : (x.kind == 3) = true := by simp [h3]
    clear h1 h2 h3
    go_enter Tryd.func33, Tryd.ntmps33
    go_wp2_with (go_at_call 30; refine (move_any S tb mb L x.src x.dst _ (HT.out.below HB.out) HOK.out.src HOK.out.dst (HE.out.below HB.out)).mono ?_; rintro e w1 hr; have HR := Lib.hid (HRES.out _ _ _ _ HB.out hr); obtain ⟨rfl, -, -⟩ := hr)
    go_ret
    rw [HP.out]
    exact HR.out
  · have HP := Lib.hid (show doP L x = (L, 0) by unfold doP; rw [if_neg h1, if_neg h2, if_neg h3])
    have e3 : (x.kind == 3) = false := by simp [h3]
    clear h1 h2 h3
    go_enter Tryd.func33, Tryd.ntmps33
    go_wp2_with fail
    go_ret
    rw [HP.out]
    exact op_same HT.out HB.out

end Go.Proofs.YtbkhdpocmmjnbaaDoor

/- The statements' helpers: play, large, wide. -/
namespace Go.Proofs.YtbkhdpocmmjnbaaDoor
open Go Go.RowKit Go.Maps

/-- A tree of new memory alone, made from block B on. -/
def TreeB (B : Nat) (w : World) (L : List Ent) : Prop := TreeAt (newF (B + 2) w) w (B + 1) B L
theorem TreeB.below {B : Nat} {w w' : World} {L : List Ent} (h : TreeB B w L) (hb : Below w.heap.size w w') : TreeB B w' L := by
  have h1 := block_lt h.cell
  simp only at h1
  exact TreeAt.mono (TreeAt.below h hb) (fun k hk => ⟨hk.1, Nat.lt_of_lt_of_le hk.2 hb.size⟩) (fun hc => by have := hc.1; omega) (fun hc => by have := hc.1; omega) (fun k hk => hk.2)
theorem TreeB.res {B : Nat} {w w' : World} {L : List Ent} {r : List Ent × Int} {e : Ending} (h : TreeB B w L) (hr : OpRes (newF (B + 2) w) (B + 1) B r w e w') : e = .returned (.int .i64 r.2) ∧ TreeB B w' r.1 ∧ w.grownBy w' (some B) := by
  have h1 := block_lt h.cell
  simp only at h1
  obtain ⟨h2, h3, h4⟩ := hr
  refine ⟨h2, h3.mono (fun k hk => ?_) (fun hc => by have := hc.1; omega) (fun hc => by have := hc.1; omega) (fun k hk => hk.2), h4⟩
  rcases hk with hk | hk
  · exact ⟨hk.1, Nat.lt_of_lt_of_le hk.2 h4.size⟩
  · exact ⟨by omega, hk.2⟩
theorem newB_any (w : World) : Calls Tryd.prog 32 #[] w fun e w' => e = .returned (.pointer (some ⟨w.heap.size + 1, 0, none⟩)) ∧ TreeB w.heap.size w' [] ∧ Below w.heap.size w w' :=
  (new_any w).mono fun _ w' ⟨h1, h2, h3, h4⟩ => ⟨h1, h2.mono (fun _ h => h.elim) (fun hc => by have := hc.1; omega) (fun hc => by have := hc.1; omega) (fun k hk => hk.2), h3⟩
set_option maxRecDepth 100000 in
set_option maxHeartbeats 2000000 in
theorem play_any (T : Nat → Prop) (l : List POp) (v : Value) (w : World) (hv : OpsAt T w v l) (henv : Env w) :
    Calls Tryd.prog 18 #[v] w fun e w' => e = .returned (.pointer (some ⟨w.heap.size + 1, 0, none⟩)) ∧ TreeB w.heap.size w' (playP [] l) ∧ Below w.heap.size w w' := by
  have HV := Lib.hid hv
  have HE := Lib.hid henv
  obtain ⟨a, cap, rfl, hc, hm, -⟩ := SeqAt.shape hv OpR.len
  unfold maxLen at hm
  obtain ⟨n, hn⟩ : ∃ n, n = l.length := ⟨_, rfl⟩
  have HN := Lib.hid hn
  rw [← hn] at hc HV ⊢
  clear hv henv hn
  go_enter Tryd.func18, Tryd.ntmps18
  go_wp2_with fail
  refine (newB_any _).mono ?_
  rintro e w1 ⟨rfl, ht1, hb1⟩
  have HT1 := Lib.hid ht1
  have HB1 := Lib.hid hb1
  clear ht1 hb1
  go_wp2_with fail
  go_loopw [9] (fun i wr => ∃ k : Nat, k ≤ n ∧ i = .int .i64 k ∧ TreeB w.heap.size wr (playP [] (l.take k)) ∧ Below w.heap.size w wr) (fun i _ => n - (intOf i).toNat)
  case atStart => exact ⟨0, Nat.zero_le _, rfl, HT1.out, HB1.out⟩
  case round =>
    obtain ⟨k, hk, rfl, htr, hbr⟩ := hrel
    have HTR := Lib.hid htr
    have HBR := Lib.hid hbr
    clear htr hbr
    by_cases hlt : k < n
    · obtain ⟨x, hx⟩ : ∃ x, l[k]? = some x := ⟨l[k]'(by rw [← HN.out]; exact hlt), by simp⟩
      obtain ⟨b, o, dv, rfl, hb, hd, hok, hq⟩ := ops_at (HV.out.below HBR.out) hx
      obtain ⟨a1, cap1, rfl, hd1, hd2⟩ := hd.slice
      have q0 := hq 0 (by omega)
      have q1 := hq 1 (by omega)
      have q2 := hq 2 (by omega)
      have q3 := hq 3 (by omega)
      have q4 := hq 4 (by omega)
      have q5 := hq 5 (by omega)
      have q6 := hq 6 (by omega)
      have q7 := hq 7 (by omega)
      have q8 := hq 8 (by omega)
      have q9 := hq 9 (by omega)
      simp only [opC, List.getElem?_cons_succ, List.getElem?_cons_zero, Nat.add_zero] at q0 q1 q2 q3 q4 q5 q6 q7 q8 q9
      have HX := Lib.hid hx
      have HD := Lib.hid hd
      have HOK := Lib.hid hok
      unfold maxLen at hd2
      clear hx hd hok hq
      have HBA := Lib.hid ((Below.refl wr.heap.size wr).alloc (Nat.le_refl _) (.cells #[.int .i64 x.kind, .string x.en.path, .int .i64 x.en.kind, .int .i64 x.en.mode, .int .i64 x.en.time, .slice a1 x.en.data.length cap1, .string x.en.link, .string x.src, .string x.dst, .bool x.below] 64))
      have HTA := Lib.hid (HTR.out.below HBA.out)
      go_wp2_with fail
      refine (do_any _ T _ _ _ x (.slice a1 x.en.data.length cap1) _ HTA.out (HD.out.below HBA.out) HOK.out (HE.out.below (below_next HBR.out HBA.out))).mono ?_
      rintro e w5 hr
      obtain ⟨rfl, ht5, hg5⟩ := HTA.out.res hr
      have HT5 := Lib.hid ht5
      have HB5 := Lib.hid ((below_next HBR.out HBA.out).grown hg5 (below_next HBR.out HBA.out).size (fun k e => by cases e; exact Nat.le_refl _))
      clear hr ht5 hg5 q0 q1 q2 q3 q4 q5 q6 q7 q8 q9
      go_wp2_with fail
      go_roundw
      case rel =>
        refine ⟨k + 1, by omega, by go_num, ?_, HB5.out⟩
        rw [List.take_add_one, HX.out]
        show TreeB _ _ (playP [] (l.take k ++ [x]))
        rw [playP_snoc]
        exact HT5.out
      case measure => simp [intOf]; omega
    · have hk2 : k = n := by omega
      subst hk2
      go_wp2_with fail
      go_ret
      refine ⟨rfl, ?_, HBR.out⟩
      have h1 := HTR.out
      rw [HN.out, List.take_length] at h1
      exact h1

end Go.Proofs.YtbkhdpocmmjnbaaDoor

/- The statements' helpers: large, wide. -/
namespace Go.Proofs.YtbkhdpocmmjnbaaDoor
open Go Go.RowKit Go.Maps

def SmallE (e : Ent) : Prop := e.path.size ≤ 600 ∧ e.data.length ≤ 100 ∧ e.link.size ≤ 600
def LargeRes (l : List Ent) (most : Int) (w : World) (e : Ending) (w' : World) : Prop := ∃ b, e = .returned (.bool b) ∧ (b = false → (l.length : Int) ≤ most ∧ ∀ x ∈ l, SmallE x) ∧ Below w.heap.size w w'
set_option maxRecDepth 100000 in
set_option maxHeartbeats 2000000 in
theorem large_any (S : Nat → Prop) (l : List Ent) (v : Value) (most : Int) (w : World) (hv : EntsAt S w v l) :
    Calls Tryd.prog 13 #[v, .int .i64 most] w (LargeRes l most w) := by
  have HV := Lib.hid hv
  obtain ⟨a, cap, rfl, hc, hm, -⟩ := SeqAt.shape hv EntR.len
  unfold maxLen at hm
  obtain ⟨n, hn⟩ : ∃ n, n = l.length := ⟨_, rfl⟩
  have HN := Lib.hid hn
  rw [← hn] at hc HV ⊢
  clear hv hn
  go_enter Tryd.func13, Tryd.ntmps13
  go_wp2_with fail
  go_loopw [9] (fun i wr => ∃ k : Nat, k ≤ n ∧ i = .int .i64 k ∧ (∀ x ∈ l.take k, SmallE x) ∧ Below w.heap.size w wr) (fun i _ => n - (intOf i).toNat)
  case atStart => exact ⟨0, Nat.zero_le _, rfl, by simp, Below.refl _ _⟩
  case round =>
    obtain ⟨k, hk, rfl, hsm, hbr⟩ := hrel
    have HSM := Lib.hid hsm
    have HBR := Lib.hid hbr
    clear hsm hbr
    by_cases hlt : k < n
    · obtain ⟨e, he⟩ : ∃ e, l[k]? = some e := ⟨l[k]'(by rw [← HN.out]; exact hlt), by simp⟩
      obtain ⟨b, o, dv, rfl, -, hb, hd, hok, -, q0, q1, q2, q3, q4, q5⟩ := ents_at (HV.out.below HBR.out) he
      obtain ⟨a1, cap1, rfl, hd1, hd2⟩ := hd.slice
      unfold maxLen at hd2
      have hp1 := hok.pth
      have hl1 := hok.lnk
      unfold maxLen at hp1 hl1
      have HX := Lib.hid he
      clear he hd hok
      have HBA := Lib.hid ((Below.refl wr.heap.size wr).alloc (Nat.le_refl _) (.cells #[.string e.path, .int .i64 e.kind, .int .i64 e.mode, .int .i64 e.time, .slice a1 e.data.length cap1, .string e.link] 36))
      by_cases h1 : 600 < e.path.size
      · have h1' : decide (600 < e.path.size) = true := by simp [h1]
        go_wp2_with fail
        go_ret
        exact ⟨true, rfl, (fun h => by cases h), below_next HBR.out HBA.out⟩
      · have h1' : decide (600 < e.path.size) = false := by simp; omega
        by_cases h2 : 100 < e.data.length
        · have h2' : decide (100 < e.data.length) = true := by simp [h2]
          go_wp2_with fail
          go_ret
          exact ⟨true, rfl, (fun h => by cases h), below_next HBR.out HBA.out⟩
        · have h2' : decide (100 < e.data.length) = false := by simp; omega
          by_cases h3 : 600 < e.link.size
          · have h3' : decide (600 < e.link.size) = true := by simp [h3]
            go_wp2_with fail
            go_ret
            exact ⟨true, rfl, (fun h => by cases h), below_next HBR.out HBA.out⟩
          · have h3' : decide (600 < e.link.size) = false := by simp; omega
            have HSE := Lib.hid (show SmallE e from ⟨by omega, by omega, by omega⟩)
            go_wp2_with fail
            go_roundw
            case rel =>
              refine ⟨k + 1, by omega, by go_num, fun x hx => ?_, below_next HBR.out HBA.out⟩
              rw [List.take_add_one, HX.out] at hx
              rcases List.mem_append.1 hx with hx | hx
              · exact HSM.out x hx
              · simp only [Option.toList_some, List.mem_singleton] at hx
                rw [hx]; exact HSE.out
            case measure => simp [intOf]; omega
    · have hk2 : k = n := by omega
      subst hk2
      go_wp2_with fail
      go_ret
      refine ⟨_, rfl, fun h => ⟨?_, fun x hx => HSM.out x (by rw [HN.out, List.take_length]; exact hx)⟩, HBR.out⟩
      rw [← HN.out]
      simp at h
      omega
def SmallOp (x : POp) : Prop := x.src.size ≤ 600 ∧ x.dst.size ≤ 600 ∧ SmallE x.en
def WideRes (l : List POp) (w : World) (e : Ending) (w' : World) : Prop := ∃ b, e = .returned (.bool b) ∧ (b = false → l.length ≤ 30 ∧ ∀ x ∈ l, SmallOp x) ∧ Below w.heap.size w w'
theorem ent_row {S : Nat → Prop} {w : World} {a : Option Addr} {c : Nat} {e : Ent} (hd : DataAt S w (.slice a e.data.length c) e.data) (hok : EntOk e) : EntsAt (fun _ => True) (w.alloc (.cells #[.string e.path, .int .i64 e.kind, .int .i64 e.mode, .int .i64 e.time, .slice a e.data.length c, .string e.link] 36)) (.slice (some ⟨w.heap.size, 0, none⟩) 1 1) [e] := by
  refine ⟨entC (.slice a e.data.length c) e, RowAt.weak (row_new (cells := entC (.slice a e.data.length c) e) (new20 w _) rfl (by decide)) (fun _ _ => trivial), ⟨entC (.slice a e.data.length c) e, [], by simp, ⟨.slice a e.data.length c, rfl, ?_, hok⟩, rfl⟩⟩
  exact data_mono (hd.below ((Below.refl _ _).alloc (Nat.le_refl _) _)) (fun _ _ => trivial)
set_option maxRecDepth 100000 in
set_option maxHeartbeats 2000000 in
theorem wide_any (S : Nat → Prop) (l : List POp) (v : Value) (w : World) (hv : OpsAt S w v l) :
    Calls Tryd.prog 17 #[v] w (WideRes l w) := by
  have HV := Lib.hid hv
  obtain ⟨a, cap, rfl, hc, hm, -⟩ := SeqAt.shape hv OpR.len
  unfold maxLen at hm
  obtain ⟨n, hn⟩ : ∃ n, n = l.length := ⟨_, rfl⟩
  have HN := Lib.hid hn
  rw [← hn] at hc HV ⊢
  clear hv hn
  go_enter Tryd.func17, Tryd.ntmps17
  go_wp2_with fail
  go_loopw [7] (fun i wr => ∃ k : Nat, k ≤ n ∧ i = .int .i64 k ∧ (∀ x ∈ l.take k, SmallOp x) ∧ Below w.heap.size w wr) (fun i _ => n - (intOf i).toNat)
  case atStart => exact ⟨0, Nat.zero_le _, rfl, by simp, Below.refl _ _⟩
  case round =>
    obtain ⟨k, hk, rfl, hsm, hbr⟩ := hrel
    have HSM := Lib.hid hsm
    have HBR := Lib.hid hbr
    clear hsm hbr
    by_cases hlt : k < n
    · obtain ⟨x, hx⟩ : ∃ x, l[k]? = some x := ⟨l[k]'(by rw [← HN.out]; exact hlt), by simp⟩
      obtain ⟨b, o, dv, rfl, hb, hd, hok, hq⟩ := ops_at (HV.out.below HBR.out) hx
      obtain ⟨a1, cap1, rfl, hd1, hd2⟩ := hd.slice
      have q0 := hq 0 (by omega)
      have q1 := hq 1 (by omega)
      have q2 := hq 2 (by omega)
      have q3 := hq 3 (by omega)
      have q4 := hq 4 (by omega)
      have q5 := hq 5 (by omega)
      have q6 := hq 6 (by omega)
      have q7 := hq 7 (by omega)
      have q8 := hq 8 (by omega)
      have q9 := hq 9 (by omega)
      simp only [opC, List.getElem?_cons_succ, List.getElem?_cons_zero, Nat.add_zero] at q0 q1 q2 q3 q4 q5 q6 q7 q8 q9
      have HX := Lib.hid hx
      have HD := Lib.hid hd
      have HOK := Lib.hid hok
      have hp1 := hok.src
      have hl1 := hok.dst
      unfold maxLen at hd2 hp1 hl1
      clear hx hd hok hq
      have HBA := Lib.hid ((Below.refl wr.heap.size wr).alloc (Nat.le_refl _) (.cells #[.int .i64 x.kind, .string x.en.path, .int .i64 x.en.kind, .int .i64 x.en.mode, .int .i64 x.en.time, .slice a1 x.en.data.length cap1, .string x.en.link, .string x.src, .string x.dst, .bool x.below] 64))
      by_cases h1 : 600 < x.src.size
      · have h1' : decide (600 < x.src.size) = true := by simp [h1]
        go_wp2_with fail
        go_ret
        exact ⟨true, rfl, (fun h => by cases h), below_next HBR.out HBA.out⟩
      · have h1' : decide (600 < x.src.size) = false := by simp; omega
        by_cases h2 : 600 < x.dst.size
        · have h2' : decide (600 < x.dst.size) = true := by simp [h2]
          go_wp2_with fail
          go_ret
          exact ⟨true, rfl, (fun h => by cases h), below_next HBR.out HBA.out⟩
        · have h2' : decide (600 < x.dst.size) = false := by simp; omega
          go_wp2_with fail
          obtain ⟨W, hW⟩ : ∃ W, W = wr.alloc (.cells #[.int .i64 x.kind, .string x.en.path, .int .i64 x.en.kind, .int .i64 x.en.mode, .int .i64 x.en.time, .slice a1 x.en.data.length cap1, .string x.en.link, .string x.src, .string x.dst, .bool x.below] 64) := ⟨_, rfl⟩
          have hws : wr.heap.size + 1 = W.heap.size := by rw [hW]; simp
          have HBW := Lib.hid (show Below wr.heap.size wr W by rw [hW]; exact HBA.out)
          rw [← hW, hws]
          clear hW hws
          have HER := Lib.hid (ent_row (HD.out.below HBW.out) HOK.out.en)
          have HB4 := Lib.hid ((below_next HBR.out HBW.out).alloc (below_next HBR.out HBW.out).size (.cells #[.string x.en.path, .int .i64 x.en.kind, .int .i64 x.en.mode, .int .i64 x.en.time, .slice a1 x.en.data.length cap1, .string x.en.link] 36))
          refine (large_any (fun _ => True) [x.en] (.slice (some ⟨W.heap.size, 0, none⟩) 1 1) 1 _ HER.out).mono ?_
          rintro e w5 ⟨lb, rfl, hlg, hb5⟩
          have HB5 := Lib.hid (below_next HB4.out hb5)
          have HLG := Lib.hid hlg
          clear hlg hb5
          cases lb
          · go_wp2_with fail
            go_roundw
            case rel =>
              refine ⟨k + 1, by omega, by go_num, fun y hy => ?_, HB5.out⟩
              rw [List.take_add_one, HX.out] at hy
              rcases List.mem_append.1 hy with hy | hy
              · exact HSM.out y hy
              · simp only [Option.toList_some, List.mem_singleton] at hy
                rw [hy]; exact ⟨by omega, by omega, (HLG.out (by simp)).2 _ (by simp)⟩
            case measure => simp [intOf]; omega
          · go_wp2_with fail
            go_ret
            exact ⟨true, rfl, (fun h => by cases h), HB5.out⟩
    · have hk2 : k = n := by omega
      subst hk2
      go_wp2_with fail
      go_ret
      refine ⟨_, rfl, fun h => ⟨?_, fun x hx => HSM.out x (by rw [HN.out, List.take_length]; exact hx)⟩, HBR.out⟩
      rw [← HN.out]
      simp at h
      omega

end Go.Proofs.YtbkhdpocmmjnbaaDoor

/- What the laws share: from the form's words (shaped, laid) to the walks' premises, and back. -/
namespace Go.Proofs.YtbkhdpocmmjnbaaDoor
open Go.ChangeShapes Go.WideShapes Go.ChangeAt Go.RowKit Go.Lib Go.Shelf
open Go.ChangeMaps (open_string shut_string)

section
variable {H : Type} {enc : TypeId × Value → H}
/-- The wrap that hands on both the shape of the world and a further condition. -/
theorem handed {a : Assume} {C : Checked} {os : Os} {f : FuncId} {fn : Func} {s : ChangeSpec} {conds : List PathCond} {apart fresh handsOn again : Bool} {X : World → Array Value → Prop}
    (hX : ∀ (w w' : World) (args : Array Value), w.heap = w'.heap → X w args → X w' args)
    (own : ownKnob C.prog.godebug = none) (started : os.Started) (noInit : C.prog.inits.idxOf? f = none) (hfn : C.prog.funcs[f]? = some fn)
    (witness : ∃ (w : World) (tape : Tape) (i : Input), w.os = os ∧ (w.forCall tape i).Shaped C.prog ∧ i.vars = [] ∧ Input.okWide C.prog (w.forCall tape i) .any w.heap.size f i ∧
      ((s.pre enc C.prog fn conds apart (w.forCall tape i).memory i.args ∧ X (w.forCall tape i).memory i.args) ∧ sizedMet enc C.prog fn (OpenSpec.ofChange s) apart (w.forCall tape i).memory i.args) ∧ a.holds C.prog (lone (Frame.enter C.prog f i.args .normal) [] (w.forCall tape i)))
    (contract : ∀ (W : World) (base : Nat) (args : Array Value) (ds gs : List (DataW H)) (before : List MemPlace),
      (∀ (j : Nat) t v, fn.params[j]? = some t → args[j]? = some v → Value.okWide C.prog W .any base t v) →
      DataW.Whole enc C.prog fn.params.toList s.vars apart W args.toList ds gs before →
      (DataW.weightsEach C.prog (fn.params.toList ++ s.plain.varTypes C.prog) (ds ++ gs)).all (· ≤ reachBytes) = true → X W args → W.ShapedOpen C.prog →
      Calls C.prog f args W fun e W' => ∃ v, e = .returned v ∧ s.post enc C.prog fn apart fresh handsOn again W args v W') :
    ReturnsInHanded a C os f .any (fun w args => (s.pre enc C.prog fn conds apart w args ∧ X w args) ∧ sizedMet enc C.prog fn (OpenSpec.ofChange s) apart w args) (s.post enc C.prog fn apart fresh handsOn again) := by
  refine returnsInHanded_of_calls own started noInit witness ?_
  intro w tape i _ hsh _ hok hpre hholds
  obtain ⟨_, _, _, fn', hfn', _, _, _, _, hval⟩ := hok
  have e : fn' = fn := Option.some.inj (hfn'.symm.trans hfn)
  subst e
  obtain ⟨⟨⟨ds, gs, before, hw, hc⟩, hx⟩, hz⟩ := hpre
  have hw' := DataW.Whole.of_heap (w' := w.forCall tape i) (by rfl) hw
  refine (contract (w.forCall tape i) w.heap.size i.args ds gs before hval hw' (hz.weights hw) (hX _ _ _ (by rfl) hx) hsh).mono fun e W' ⟨v, he, hp⟩ => ?_
  subst he
  exact ChangeSpec.post_blind hp
end

def laidL : List (String × DataW Unit) := [("unicode/utf8.acceptRanges", Rows.laid_unicode_utf8_acceptRanges), ("unicode/utf8.first", Rows.laid_unicode_utf8_first)]
theorem own : ownKnob Tryd.prog.godebug = none := by kernel_rfl
theorem laidOut : laidOutB Tryd.prog = true := by kernel_rfl
theorem accept_eq : (Rows.laid_unicode_utf8_acceptRanges : DataW Unit) = acceptData := by kernel_rfl
theorem env_of {W : World} (hL : laidMetH Tryd.prog laidL W) (hsh : W.ShapedOpen Tryd.prog) : Env W := by
  rw [MakeChecks.laidMetH_plain _ _ _ (by kernel_rfl)] at hL
  refine ⟨?_, ?_⟩
  · exact cell_of_shapedOpen_int (zero := #[.int .i64 0]) (t := 3) hsh (of_decide_eq_true (by kernel_rfl)) (by kernel_rfl) rfl (by kernel_rfl) (by kernel_rfl) Tryd.underlying3
  · have h1 := Lib.laidMet.reads hL (.head _)
    have h2 := Lib.laidMet.reads hL (.tail _ (.head _))
    rw [accept_eq] at h1
    exact utf8Tabs_of_readsT (U8Types.of196 Tryd.laysValid) ⟨by kernel_rfl, by kernel_rfl, by kernel_rfl, by kernel_rfl, by kernel_rfl, by kernel_rfl, by kernel_rfl⟩ (Pinned.utf8First_eq ▸ h2) h1

end Go.Proofs.YtbkhdpocmmjnbaaDoor

/- From the form's reading of slices and structs to the rows of the walks. -/
namespace Go.Proofs.YtbkhdpocmmjnbaaDoor
open Go.ChangeShapes Go.WideShapes Go.ChangeAt Go.RowKit Go.Lib Go.Shelf

section
variable {H : Type} {enc : TypeId × Value → H} {P : Program} {W : World} {base : Nat}
theorem add_add (a : Addr) (i j : Nat) : (a.add i).add j = a.add (i + j) := by
  unfold Addr.add
  by_cases hi : i = 0
  · simp [hi]
  · by_cases hj : j = 0
    · simp [hi, hj]
    · simp [hi, hj]; omega
/-- A slice as it is read, its elements' cells read by R. -/
theorem seq_read {α : Type} {R : List Value → α → Prop} {t e : TypeId} {sz : Nat} {spare : Nat → Bool} {held : Bool} {fuel : Nat} {cs0 : List Value} {y0 : DataW H × List MemPlace} (ht : P.underlying t = some (.slice e)) (hc : P.cellsOf e = sz) (hpos : 0 < sz)
    (hR : ∀ n cs y, DataW.trod enc P W base spare held n e cs = some y → ∃ x, R cs x) (hs : ∀ c x, R c x → c.length = sz)
    (hf : DataW.trod enc P W base spare held fuel t cs0 = some y0) : ∃ v, cs0 = [v] ∧ ∃ xs : List α, SeqAt (fun _ => True) W sz R v xs := by
  rcases DataW.trod_slice ht hf with ⟨hcs, _⟩ | ⟨a, len0, cap0, elems, rest, n, _, hcs, _, hb, hl, hm, hlen, hel, _, _⟩
  · exact ⟨_, hcs, [], SeqAt.nil⟩
  · refine ⟨_, hcs, ?_⟩
    rw [hc] at hel
    have each : ∀ i, i < len0 → ∃ cs x, R cs x ∧ cs.length = sz ∧ ∀ j, j < sz → W.cell? (a.add (i * sz + j)) = cs[j]? := by
      intro i hi
      have h1 := hel i hi
      rw [List.getElem?_eq_getElem (by omega), Option.bind_eq_some_iff] at h1
      obtain ⟨cs, hcs, hy⟩ := h1
      obtain ⟨x, hx⟩ := hR n cs _ hy
      refine ⟨cs, x, hx, hs cs x hx, fun j hj => ?_⟩
      have h3 := World.cells?_some hcs
      rw [← add_add]
      exact h3.2.2 j hj
    have main : ∀ m, m ≤ len0 → ∃ (cells : List Value) (xs : List α), xs.length = m ∧ cells.length = m * sz ∧ RowsIn R cells xs ∧ ∀ (j : Nat) u, cells[j]? = some u → W.cell? (a.add j) = some u := by
      intro m
      induction m with
      | zero => intro _; exact ⟨[], [], rfl, by simp, rfl, fun j u hj => by simp at hj⟩
      | succ m ih =>
        intro hm
        obtain ⟨cells, xs, h1, h2, h3, h4⟩ := ih (by omega)
        obtain ⟨cs, x, hx, hcl, hcc⟩ := each m (by omega)
        refine ⟨cells ++ cs, xs ++ [x], by simp [h1], by rw [List.length_append, h2, hcl, Nat.add_mul]; omega, RowsIn.snoc h3 hx, fun j u hj => ?_⟩
        rcases Nat.lt_or_ge j cells.length with hj2 | hj2
        · rw [List.getElem?_append_left hj2] at hj; exact h4 j u hj
        · rw [List.getElem?_append_right hj2] at hj
          have hlt := (List.getElem?_eq_some_iff.1 hj).1
          have := hcc (j - cells.length) (by omega)
          rw [h2, show m * sz + (j - m * sz) = j by omega] at this
          rw [this, ← h2]; exact hj
    obtain ⟨cells, xs, h1, h2, h3, h4⟩ := main len0 (Nat.le_refl _)
    subst h1
    refine ⟨xs, cells, ⟨h2, some a, cap0, rfl, hl, hm, ?_⟩, h3⟩
    rcases Nat.eq_zero_or_pos xs.length with h0 | h0
    · exact .inl h0
    · right
      have hpl : 0 < cells.length := by rw [h2]; exact Nat.mul_pos h0 hpos
      have hc0 := h4 0 cells[0] (by simp [hpl])
      have hsp : a.spot = none := by simpa [Addr.add] using World.cell?_spot hc0
      obtain ⟨b, o, sp⟩ := a
      simp only at hsp
      subst hsp
      refine ⟨b, o, rfl, trivial, fun j u hj => ?_⟩
      have := h4 j u hj
      rw [add_lit] at this; exact this
/-- A slice that came in: its elements' cells, read by R. -/
theorem open_seq {α : Type} {R : List Value → α → Prop} {t e : TypeId} {sz b0 : Nat} {spare : Nat → Bool} {held : Bool} {v : Value} {d : DataW H} {ps : List MemPlace} (ht : P.underlying t = some (.slice e)) (hc : P.cellsOf e = sz) (hpos : 0 < sz)
    (hR : ∀ n cs y, DataW.trod enc P W base spare held n e cs = some y → ∃ x, R cs x) (hs : ∀ c x, R c x → c.length = sz)
    (hval : Value.okWide P W .any b0 t v) (h : DataW.Trod enc P W base spare held t v d ps) : ∃ xs : List α, SeqAt (fun _ => True) W sz R v xs := by
  obtain ⟨a0, len0, cap0, rfl⟩ := okWide_slice ht hval
  obtain ⟨fuel, hf⟩ := h
  obtain ⟨v, h1, h2⟩ := seq_read ht hc hpos hR hs hf
  simp [Value.cells] at h1
  subst h1
  exact h2
end

section
variable {H : Type} {enc : TypeId × Value → H} {W : World} {base b0 : Nat} {spare : Nat → Bool} {held : Bool} {v : Value} {d : DataW H} {ps : List MemPlace}
theorem field_read {P : Program} {t : TypeId} {fs : Array Field} {fuel : Nat} {cs : List Value} {x : DataW H × List MemPlace} (ht : P.underlying t = some (.struct fs)) (h : DataW.trod enc P W base spare held fuel t cs = some x) (i : Nat) {f : Field} (hf : fs[i]? = some f) :
    ∃ n y, DataW.trod enc P W base spare held n f.type ((cs.drop f.offset).take (P.cellsOf f.type)) = some y := by
  obtain ⟨xs, n, _, _, _, hlen, hF⟩ := DataW.trod_struct ht h
  have hi : i < xs.length := by rw [hlen]; exact (Array.getElem?_eq_some_iff.1 hf).1
  exact ⟨n, xs[i], by rw [hF i f hf]; simp [hi]⟩
theorem struct_len {P : Program} {t : TypeId} {fs : Array Field} {fuel : Nat} {cs : List Value} {x : DataW H × List MemPlace} (ht : P.underlying t = some (.struct fs)) (h : DataW.trod enc P W base spare held fuel t cs = some x) : cs.length = P.cellsOf t := by
  obtain ⟨xs, n, _, _, hl, _, _⟩ := DataW.trod_struct ht h
  exact hl
theorem cellsStr : Tryd.prog.cellsOf 9 = 1 := by kernel_rfl
theorem cellsInt : Tryd.prog.cellsOf 3 = 1 := by kernel_rfl
theorem cellsBool : Tryd.prog.cellsOf 4 = 1 := by kernel_rfl
theorem cellsU8 : Tryd.prog.cellsOf 5 = 1 := by kernel_rfl
theorem cellsData : Tryd.prog.cellsOf 34 = 1 := by kernel_rfl
theorem cellsEnt : Tryd.prog.cellsOf 36 = 6 := by kernel_rfl
theorem cellsOp : Tryd.prog.cellsOf 64 = 10 := by kernel_rfl
theorem list6 {α : Type} {cs : List α} (h : cs.length = 6) : ∃ c0 c1 c2 c3 c4 c5, cs = [c0, c1, c2, c3, c4, c5] := by
  match cs, h with
  | [c0, c1, c2, c3, c4, c5], _ => exact ⟨c0, c1, c2, c3, c4, c5, rfl⟩
theorem list10 {α : Type} {cs : List α} (h : cs.length = 10) : ∃ c0 c1 c2 c3 c4 c5 c6 c7 c8 c9, cs = [c0, c1, c2, c3, c4, c5, c6, c7, c8, c9] := by
  match cs, h with
  | [c0, c1, c2, c3, c4, c5, c6, c7, c8, c9], _ => exact ⟨c0, c1, c2, c3, c4, c5, c6, c7, c8, c9, rfl⟩
def ByteR (c : List Value) (b : UInt8) : Prop := c = [u8V b]
theorem read_byte {n : Nat} {cs : List Value} {y : DataW H × List MemPlace} (h : DataW.trod enc Tryd.prog W base spare held n 5 cs = some y) : ∃ b, ByteR cs b := by
  obtain ⟨a, e, _, hw⟩ := DataW.trod_int Tryd.underlying5 h
  have h1 : 0 ≤ a ∧ a ≤ 255 := by
    simp only [Lit.wf, Bool.and_eq_true, decide_eq_true_eq] at hw
    exact ⟨hw.1, hw.2⟩
  refine ⟨UInt8.ofNat a.toNat, ?_⟩
  unfold ByteR u8V
  rw [e, UInt8.toNat_ofNat_of_lt' (by show a.toNat < 256; omega), Int.toNat_of_nonneg h1.1]
theorem bytes_of_seq {S : Nat → Prop} {w : World} {v : Value} {bs : List UInt8} (h : SeqAt S w 1 ByteR v bs) : DataAt S w v bs := by
  obtain ⟨cells, h1, h2⟩ := h
  have : ∀ (bs : List UInt8) (cells : List Value), RowsIn ByteR cells bs → cells = bs.map u8V := by
    intro bs
    induction bs with
    | nil => intro cells h; exact h
    | cons x bs ih =>
      rintro cells ⟨c, rest, rfl, hc, hr⟩
      rw [ih rest hr, show c = [u8V x] from hc]; rfl
  rw [this bs cells h2] at h1
  exact h1
set_option maxRecDepth 100000 in
theorem read_data {n : Nat} {cs : List Value} {y : DataW H × List MemPlace} (h : DataW.trod enc Tryd.prog W base spare held n 34 cs = some y) : ∃ v, cs = [v] ∧ ∃ bs, DataAt (fun _ => True) W v bs := by
  obtain ⟨v, h1, bs, h2⟩ := seq_read (R := ByteR) Tryd.underlying34 cellsU8 (by omega) (fun n cs y hy => read_byte hy) (fun c x hc => by rw [show c = [u8V x] from hc]; rfl) h
  exact ⟨v, h1, bs, bytes_of_seq h2⟩
set_option maxRecDepth 100000 in
theorem read_ent {n : Nat} {cs : List Value} {y : DataW H × List MemPlace} (h : DataW.trod enc Tryd.prog W base spare held n 36 cs = some y) : ∃ e, EntR (fun _ => True) W cs e := by
  have hl := struct_len Tryd.underlying36 h
  rw [cellsEnt] at hl
  obtain ⟨c0, c1, c2, c3, c4, c5, rfl⟩ := list6 hl
  obtain ⟨n0, y0, h0⟩ := field_read Tryd.underlying36 h 0 rfl
  obtain ⟨n1, y1, h1⟩ := field_read Tryd.underlying36 h 1 rfl
  obtain ⟨n2, y2, h2⟩ := field_read Tryd.underlying36 h 2 rfl
  obtain ⟨n3, y3, h3⟩ := field_read Tryd.underlying36 h 3 rfl
  obtain ⟨n4, y4, h4⟩ := field_read Tryd.underlying36 h 4 rfl
  obtain ⟨n5, y5, h5⟩ := field_read Tryd.underlying36 h 5 rfl
  simp only [List.getElem_toArray, List.getElem_cons_zero, List.getElem_cons_succ, cellsStr, cellsInt, cellsData] at h0 h1 h2 h3 h4 h5
  obtain ⟨a0, e0, _, g0⟩ := DataW.trod_string Tryd.underlying9 h0
  obtain ⟨a1, e1, _, g1⟩ := DataW.trod_int Tryd.underlying3 h1
  obtain ⟨a2, e2, _, g2⟩ := DataW.trod_int Tryd.underlying3 h2
  obtain ⟨a3, e3, _, g3⟩ := DataW.trod_int Tryd.underlying3 h3
  obtain ⟨a4, e4, bs, g4⟩ := read_data h4
  obtain ⟨a5, e5, _, g5⟩ := DataW.trod_string Tryd.underlying9 h5
  simp at e0 e1 e2 e3 e4 e5
  subst e0 e1 e2 e3 e4 e5
  exact ⟨⟨a0, a1, a2, a3, bs, a5⟩, _, rfl, g4, ⟨g0, g5, g1, g2, g3⟩⟩
set_option maxRecDepth 100000 in
theorem read_op {n : Nat} {cs : List Value} {y : DataW H × List MemPlace} (h : DataW.trod enc Tryd.prog W base spare held n 64 cs = some y) : ∃ x, OpR (fun _ => True) W cs x := by
  have hl := struct_len Tryd.underlying64 h
  rw [cellsOp] at hl
  obtain ⟨c0, c1, c2, c3, c4, c5, c6, c7, c8, c9, rfl⟩ := list10 hl
  obtain ⟨n0, y0, h0⟩ := field_read Tryd.underlying64 h 0 rfl
  obtain ⟨n1, y1, h1⟩ := field_read Tryd.underlying64 h 1 rfl
  obtain ⟨n2, y2, h2⟩ := field_read Tryd.underlying64 h 2 rfl
  obtain ⟨n3, y3, h3⟩ := field_read Tryd.underlying64 h 3 rfl
  obtain ⟨n4, y4, h4⟩ := field_read Tryd.underlying64 h 4 rfl
  simp only [List.getElem_toArray, List.getElem_cons_zero, List.getElem_cons_succ, cellsStr, cellsInt, cellsBool, cellsEnt] at h0 h1 h2 h3 h4
  obtain ⟨a0, e0, _, g0⟩ := DataW.trod_int Tryd.underlying3 h0
  obtain ⟨x1, v1, e1, g1, g1'⟩ := read_ent h1
  obtain ⟨a2, e2, _, g2⟩ := DataW.trod_string Tryd.underlying9 h2
  obtain ⟨a3, e3, _, g3⟩ := DataW.trod_string Tryd.underlying9 h3
  obtain ⟨a4, e4, _⟩ := DataW.trod_bool Tryd.underlying4 h4
  simp [entC] at e0 e1 e2 e3 e4
  obtain ⟨b0, b1, b2, b3, b4, b5⟩ := e1
  subst e0 b0 b1 b2 b3 b4 b5 e2 e3 e4
  exact ⟨⟨a0, x1, a2, a3, a4⟩, _, rfl, g1, ⟨g1', g2, g3, g0⟩⟩
set_option maxRecDepth 100000 in
theorem open_ops (hval : Value.okWide Tryd.prog W .any b0 33 v) (h : DataW.Trod enc Tryd.prog W base spare held 33 v d ps) : ∃ xs, OpsAt (fun _ => True) W v xs :=
  @open_seq H enc Tryd.prog W base POp (OpR (fun _ => True) W) 33 64 10 b0 spare held v d ps Tryd.underlying33 cellsOp (by omega) (fun n cs y hy => read_op hy) OpR.len hval h
set_option maxRecDepth 100000 in
theorem open_ents (hval : Value.okWide Tryd.prog W .any b0 22 v) (h : DataW.Trod enc Tryd.prog W base spare held 22 v d ps) : ∃ xs, EntsAt (fun _ => True) W v xs :=
  @open_seq H enc Tryd.prog W base Ent (EntR (fun _ => True) W) 22 36 6 b0 spare held v d ps Tryd.underlying22 cellsEnt (by omega) (fun n cs y hy => read_ent hy) EntR.len hval h
theorem agg_of {v : Value} {l : List Value} (h : v.cells.toList = l) (hl : 1 < l.length) : v = .agg l.toArray := by
  cases v
  case agg cs => simp only [Value.cells] at h; rw [← h]
  all_goals (exfalso; simp only [Value.cells] at h; rw [← h] at hl; simp at hl)
theorem open_ent (h : DataW.Trod enc Tryd.prog W base spare held 36 v d ps) : ∃ dv e, v = entV dv e ∧ DataAt (fun _ => True) W dv e.data ∧ EntOk e := by
  obtain ⟨fuel, hf⟩ := h
  obtain ⟨e, dv, h1, h2, h3⟩ := read_ent hf
  exact ⟨dv, e, agg_of h1 (by simp), h2, h3⟩
theorem open_op (h : DataW.Trod enc Tryd.prog W base spare held 64 v d ps) : ∃ dv x, v = opV dv x ∧ DataAt (fun _ => True) W dv x.en.data ∧ OpOk x := by
  obtain ⟨fuel, hf⟩ := h
  obtain ⟨x, dv, h1, h2, h3⟩ := read_op hf
  exact ⟨dv, x, agg_of h1 (by simp), h2, h3⟩
end

end Go.Proofs.YtbkhdpocmmjnbaaDoor
