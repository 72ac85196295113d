/- Texts of this proof, one after the other: FtL, FtM, FtN, FtO, FtP, FtQ, FtR, Rng, FtS, FtT, FtU, ExT, FtH, FtI, FtJ, FtK, RfA, RfB. -/
import Derived.Test.YtbkhdpocmmjnbaaGreatDoorMB
import Derived.RangeFuncNested
import Derived.RangeFuncLeaves
import Derived.RangeFuncBox
import Derived.Shelf.Abstract
import Derived.WalkKit
import Derived.OwnWalkIn
import Derived.TacticsInMore
import Derived.LoopNIn
import Derived.LoopIn
import Derived.Maps.AppendAt
import Derived.Lib.SlBytesConst
/- Contracts of package filetree: Move. -/
namespace Go.Proofs.YtbkhdpocmmjnbaaGreatDoor
open Go.RowKit Go.Maps


theorem mv_inj {L : List Ent} {s d : ByteArray} (h : Mv L s d) {a b : Ent} (ha : a ∈ L) (hb : b ∈ L) (e : (moveE s d a).path = (moveE s d b).path) : a = b := by
  have hn : ((L.map (moveE s d)).map Ent.path).Nodup := (h.perm.map Ent.path).nodup_iff.1 h.tok.nodup
  rw [List.map_map] at hn
  unfold List.Nodup at hn
  rw [List.pairwise_map, List.pairwise_iff_getElem] at hn
  obtain ⟨i, hi, rfl⟩ := List.getElem_of_mem ha
  obtain ⟨j, hj, rfl⟩ := List.getElem_of_mem hb
  by_cases hij : i = j
  · subst hij; rfl
  · exfalso
    rcases Nat.lt_or_gt_of_ne hij with hlt | hlt
    · exact hn i j hi hj hlt e
    · exact hn j i hj hi hlt e.symm
theorem at_in {L : List Ent} {p : ByteArray} {e : Ent} (h : e ∈ atP L p) : inB p e = true := by
  have := (List.mem_filter.1 h).2
  rw [Bool.and_eq_true] at this
  exact this.1
theorem at_ix_nodup {L : List Ent} (h : TOk L) {p : ByteArray} {j k : Nat} {a : Ent} (hj : (atP L p)[j]? = some a) (hk : (atP L p)[k]? = some a) : j = k := by
  have hn := at_nodup h p
  unfold List.Nodup at hn
  rw [List.pairwise_map, List.pairwise_iff_getElem] at hn
  obtain ⟨h1, h2⟩ := List.getElem?_eq_some_iff.1 hj
  obtain ⟨h3, h4⟩ := List.getElem?_eq_some_iff.1 hk
  rcases Nat.lt_trichotomy j k with hlt | heq | hlt
  · exact absurd (by rw [h2, h4]) (hn j k h1 h3 hlt)
  · exact heq
  · exact absurd (by rw [h2, h4]) (hn k j h3 h1 hlt)
/-- Where a moved entry comes to stand, nothing stands yet. -/
theorem mv_fresh {L : List Ent} {s d : ByteArray} (h : Mv L s d) {xs ys : List VEnt} (hp : (xs.map Prod.snd).Perm L) (hy : ys.map Prod.snd = (atP L s).map (moveE s d)) {k : Nat} {y : VEnt} (hk : ys[k]? = some y) :
    ∀ x ∈ struckE xs ((atP L s).map Ent.path) ++ ys.take k, x.2.path ≠ y.2.path := by
  have get : ∀ {j : Nat} {z : VEnt}, ys[j]? = some z → ∃ e, (atP L s)[j]? = some e ∧ z.2 = moveE s d e := by
    intro j z hz
    have h1 : (ys.map Prod.snd)[j]? = some z.2 := by rw [List.getElem?_map, hz]; rfl
    rw [hy, List.getElem?_map] at h1
    cases he : (atP L s)[j]? with
    | none => rw [he] at h1; cases h1
    | some e => rw [he] at h1; exact ⟨e, rfl, (Option.some.inj h1).symm⟩
  obtain ⟨e, he, hye⟩ := get hk
  have heM := List.mem_of_getElem? he
  intro x hx hxy
  rw [hye] at hxy
  rcases List.mem_append.1 hx with hx | hx
  · obtain ⟨h1, h2⟩ := struck_mem.1 hx
    have hxL : x.2 ∈ L := hp.subset (List.mem_map.2 ⟨x, h1, rfl⟩)
    have hni : inB s x.2 = false := by
      rw [Bool.eq_false_iff]
      intro hi
      apply h2
      obtain ⟨f, hf⟩ := h.is
      refine List.mem_map.2 ⟨x.2, ?_, rfl⟩
      rw [atP_there hf]
      exact List.mem_filter.2 ⟨hxL, hi⟩
    have := mv_inj h hxL (atP_sub e heM) (by rw [moveE_no hni]; exact hxy)
    rw [this] at hni
    rw [at_in heM] at hni
    cases hni
  · obtain ⟨j, hj⟩ := List.mem_iff_getElem?.1 hx
    rw [List.getElem?_take] at hj
    split at hj
    · rename_i hjk
      obtain ⟨f, hf, hxf⟩ := get hj
      rw [hxf] at hxy
      have := mv_inj h (atP_sub f (List.mem_of_getElem? hf)) (atP_sub e heM) hxy
      subst this
      have := at_ix_nodup h.ok hf he
      omega
    · cases hj
theorem trim20 {L : List Ent} (h : TOk L) {p q : ByteArray} (hv : validP (bl p) = true) {e : Ent} (he : e ∈ L) (hi : inB p e = true) : q ++ (⟨(Lib.trimPrefix e.path.data.toList p.data.toList).toArray⟩ : ByteArray) = (moveE p q e).path := by
  apply bl_inj
  rw [(moveE_yes hi).1, bl_append, bl_mk]
  congr 1
  obtain ⟨t, ht, _⟩ := within_rest h hv he hi
  show Lib.trimPrefix (bl e.path) (bl p) = _
  unfold Lib.trimPrefix Lib.hasPrefix
  rw [if_pos]
  rw [ht, List.isPrefixOf_iff_prefix]
  exact List.prefix_append _ _
theorem trim_le (a b : List UInt8) : (Lib.trimPrefix a b).length ≤ a.length := by
  unfold Lib.trimPrefix
  split
  · rw [List.length_drop]; omega
  · exact Nat.le_refl _
theorem trim_is (s p q : ByteArray) (np : ByteArray) (w : World) (h : q ++ (⟨(Lib.trimPrefix s.data.toList p.data.toList).toArray⟩ : ByteArray) = np) : Calls Tryz.prog 44 #[.string s, .string p] w fun e w' => ∃ r : ByteArray, e = .returned (.string r) ∧ q ++ r = np ∧ r.size ≤ s.size ∧ w = w' :=
  (Tryz.strings_TrimPrefix s p w).mono fun _ _ ⟨he, hw⟩ => ⟨_, he, h, by rw [size_bl, size_bl, bl_mk]; exact trim_le _ _, hw.symm⟩
theorem within20 (d p : ByteArray) (b : Bool) (w : World) (he : Env w) (h : withinB (bl d) (bl p) = b) : Calls Tryz.prog 42 #[.string d, .string p] w fun e w' => e = .returned (.bool b) ∧ Below w.heap.size w w' := by
  rw [← h]; exact within_any d p w he
theorem make_ents (w : World) (n : Nat) (hn : n ≤ 4096) : ∃ mc : Array Value, (Instr.makeSlice 27 (.int .i64 0) (.int .i64 (n : Int))).run Tryz.prog w = .ok (.slice (some ⟨w.heap.size, 0, none⟩) 0 n) (w.alloc (.cells mc 30)) ∧ (w.alloc (.cells mc 30)).ownsRow w.heap.size 30 6 (.slice (some ⟨w.heap.size, 0, none⟩) 0 n) 0 [] := by
  obtain ⟨ht, ⟨i, z, h11, h12, h13, h14, h15⟩, hpos, hsm⟩ := Tryz.appEnts
  have hb' : (i.bytes : Int) * (n : Int) ≤ 281474976710656 := by
    have h : i.bytes * n ≤ 128 * 4096 := Nat.mul_le_mul (by omega) hn
    have h2 : ((i.bytes * n : Nat) : Int) ≤ 281474976710656 := by omega
    rwa [Int.natCast_mul] at h2
  have hr := run_make (P := Tryz.prog) w _ _ i z ht h11 h12 .i64 .i64 0 n (Int.le_refl _) (by omega) hb' (by omega)
  simp only [Int.toNat_zero, Int.toNat_natCast] at hr
  refine ⟨_, hr, World.ownsRow_made w _ n (Nat.le_refl _) (by unfold maxLen; omega) ?_⟩
  have := size_madeCells z.cells (n * i.size)
  rw [this, h13]
theorem move_ent {p q : ByteArray} {e : Ent} (hi : inB p e = true) {np : ByteArray} (h : np = (moveE p q e).path) : moveE p q e = { e with path := np } := by
  rw [h]; unfold moveE; rw [if_pos hi]
def LoopM (S : Nat → Prop) (w w5 : World) (L : List Ent) (p q : ByteArray) (k : Nat) (ys : List VEnt) (v : Value) (wr : World) : Prop :=
  ys.map Prod.snd = ((atP L p).take k).map (moveE p q) ∧ wr.ownsRow w5.heap.size 30 6 v k (entsC ys) ∧ (∀ y ∈ ys, DataAt S w y.1 y.2.data ∧ EntOk y.2 ∧ validP (bl y.2.path) = true) ∧ Below w5.heap.size w5 wr

end Go.Proofs.YtbkhdpocmmjnbaaGreatDoor

/- Contracts of package filetree: Move. -/
namespace Go.Proofs.YtbkhdpocmmjnbaaGreatDoor
open Go.RowKit Go.Maps


set_option maxRecDepth 100000 in
set_option maxHeartbeats 2000000 in
theorem move_loops (S : Nat → Prop) (tb mb : Nat) (L : List Ent) (p q : ByteArray) (f : Ent) (w : World) (ht : TreeAt S w tb mb L) (hps : p.size ≤ maxLen) (hqs : q.size ≤ maxLen) (henv : Env w)
    (hvs : validP (bl p) = true) (hvd : validP (bl q) = true) (hf : findE L p = some f) (hw : withinB (bl p) (bl q) = false) (hno : findE L q = none) (hup : dirE L (parentL (bl q)) = 0) :
    Calls Tryz.prog 25 #[.pointer (some ⟨tb, 0, none⟩), .string p, .string q] w (OpRes S tb mb (moveP L p q) w) := by
  have HT := Lib.hid ht
  have HE := Lib.hid henv
  have HPS := Lib.hid hps
  have HQS := Lib.hid hqs
  have HVS := Lib.hid hvs
  have HVD := Lib.hid hvd
  have HF := Lib.hid hf
  have HW := Lib.hid hw
  have HNO := Lib.hid hno
  have HUP := Lib.hid hup
  obtain ⟨xs, hm0, hperm⟩ := ht.ents
  have HM := Lib.hid hm0
  have HPERM := Lib.hid hperm
  obtain ⟨n, hn⟩ : ∃ n, n = (pathsM L p).length := ⟨_, rfl⟩
  have hn2 : n = (atP L p).length := by rw [hn]; unfold pathsM; rw [List.length_map]
  have hn4 : n ≤ 4096 := by
    rw [hn2]
    have := List.length_filter_le (fun e => inB p e && (decide (p.size = 0) || (findE L p).isSome)) L
    unfold atP
    have := ht.ok.len
    omega
  have HN := Lib.hid hn
  have HN2 := Lib.hid hn2
  clear ht hps hqs henv hvs hvd hf hw hno hup hm0 hperm hn hn2
  go_enter Tryz.func25, Tryz.ntmps25
  go_wp2_with fail
  refine (valid20_is p true _ HE.out HVS.out).mono ?_
  rintro e w1 ⟨rfl, hb1⟩
  have HB1 := Lib.hid hb1
  clear hb1
  go_wp2_with fail
  refine (valid20_is q true _ (HE.out.below HB1.out) HVD.out).mono ?_
  rintro e w2 ⟨rfl, hb2⟩
  have HB2 := Lib.hid (below_next HB1.out hb2)
  have HT2 := Lib.hid (HT.out.below HB2.out)
  have hcl := HT2.out.cell
  obtain ⟨v, hlk, hd, -⟩ := HT2.out.hit mapTy HPS.out HF.out true
  obtain ⟨a, cap, rfl, -, -⟩ := hd.slice
  unfold entV at hlk
  simp only [if_true] at hlk
  clear hd hb2
  go_wp2_with fail
  have HB2a := Lib.hid (HB2.out.alloc HB2.out.size (.cells #[.string f.path, .int .i64 f.kind, .int .i64 f.mode, .int .i64 f.time, .slice a f.data.length cap, .string f.link] 30))
  refine (within20 p q false _ (HE.out.below HB2a.out) HW.out).mono ?_
  rintro e w3 ⟨rfl, hb3⟩
  have HB3 := Lib.hid (below_next HB2a.out hb3)
  clear hb3 hcl hlk
  have HT3 := Lib.hid (HT.out.below HB3.out)
  have hcl := HT3.out.cell
  have hlk := HT3.out.miss mapTy (zeroE_run w3) HQS.out HNO.out true
  unfold zeroE at hlk
  simp only [if_true] at hlk
  go_wp2_with fail
  have HB3a := Lib.hid (HB3.out.alloc HB3.out.size (.cells #[.string ByteArray.empty, .int .i64 0, .int .i64 0, .int .i64 0, .slice none 0 0, .string ByteArray.empty] 30))
  refine (parentT_is S tb mb L q _ 0 (HT.out.below HB3a.out) (HE.out.below HB3a.out) HVD.out HUP.out).mono ?_
  rintro e w4 ⟨rfl, hb4⟩
  have HB4 := Lib.hid (below_next HB3a.out hb4)
  clear hb4 hcl hlk
  go_wp2_with fail
  refine (paths_any S tb mb L p _ (HT.out.below HB4.out) HPS.out).mono ?_
  rintro e w5 ⟨v5, rfl, ho5, hb5⟩
  rw [← HN.out] at ho5
  obtain ⟨a5, c5, rfl, hn5, hm5⟩ := owns_shape ho5
  have HO5 := Lib.hid ho5
  have HB5 := Lib.hid (below_next HB4.out hb5)
  unfold maxLen at hm5
  obtain ⟨mc, hmk, hmo⟩ := make_ents w5 n hn4
  have HMO := Lib.hid hmo
  clear ho5 hb5 hmo
  go_wp2_with fail
  clear hmk
  have HROW := Lib.hid (row_of_owns HO5.out)
  go_loopw [13, 67] (fun v i wr => ∃ (k : Nat) (ys : List VEnt), k ≤ n ∧ i = .int .i64 k ∧ LoopM S w w5 L p q k ys v wr) (fun _ i _ => n - (intOf i).toNat)
  case atStart => exact ⟨0, [], Nat.zero_le _, rfl, by simp, HMO.out, by simp, (Below.refl _ _).alloc (Nat.le_refl _) _⟩
  case round =>
    obtain ⟨k, ys, hk, rfl, hys, hown, hdat, hbr⟩ := hrel
    have HYS := Lib.hid hys
    have HOWN := Lib.hid hown
    have HDAT := Lib.hid hdat
    have HBR := Lib.hid hbr
    have HBR0 := Lib.hid (below_next HB5.out hbr)
    obtain ⟨av, cv, hsv, hvn, hvm⟩ := owns_shape hown
    subst hsv
    have hyl : ys.length = k := by have := congrArg List.length hys; rw [List.length_map, List.length_map, List.length_take, ← HN2.out] at this; omega
    have HYL := Lib.hid hyl
    unfold maxLen at hvm
    clear hys hown hdat hbr hyl
    by_cases hlt : k < n
    · have hla : k < (atP L p).length := by rw [← HN2.out]; exact hlt
      obtain ⟨e, hat⟩ : ∃ e, (atP L p)[k]? = some e := ⟨_, List.getElem?_eq_getElem hla⟩
      have HAT := Lib.hid hat
      have heM := List.mem_of_getElem? hat
      have heL := atP_sub e heM
      obtain ⟨v, hv⟩ := find_vent (HPERM.out.symm.subset heL)
      obtain ⟨hd0, hok0⟩ := HM.out.dat _ hv
      simp only at hd0 hok0
      obtain ⟨a1, cap1, rfl, hd1, hd2⟩ := hd0.slice
      have HD0 := Lib.hid hd0
      have HOK0 := Lib.hid hok0
      have hlk := (HM.out.below HBR0.out).hit mapTy hv false
      have hcl := (HT.out.below HBR0.out).cell
      have hltb := block_lt hcl
      simp only at hltb
      unfold entV at hlk
      simp only [Bool.false_eq_true, if_false] at hlk
      unfold maxLen at hd2
      obtain ⟨_, a3, c3, he3, _, _, h03⟩ := HROW.out
      simp only [Value.slice.injEq] at he3
      obtain ⟨rfl, -, rfl⟩ := he3
      rcases h03 with h03 | ⟨b, o, rfl, -, hcc⟩
      · omega
      have hc0 := hcc k (.string e.path) (by unfold pathsM; rw [List.getElem?_map, List.getElem?_map, hat]; rfl)
      have hcq := (HBR.out.cell (block_lt hc0)).trans hc0
      obtain ⟨np, hnp⟩ : ∃ np, np = (moveE p q e).path := ⟨_, rfl⟩
      have HNP := Lib.hid hnp
      have HTR := Lib.hid ((trim20 (q := q) HT.out.ok HVS.out heL (at_in heM)).trans hnp.symm)
      have HEM := Lib.hid heM
      have hq5 : q.size ≤ 512 := by have := valid_size HVD.out; rwa [size_bl]
      have he5 : e.path.size ≤ 512 := by have := valid_size (vEnt_path (HT.out.ok.val e heL)); rwa [size_bl]
      clear hat hcc hc0 hla heL hv hnp heM hd0 hok0
      cases hvn : validP (bl np)
      · have HVN := Lib.hid hvn
        have HP := Lib.hid (show moveP L p q = (L, 2) by
          unfold moveP
          rw [HVS.out, HVD.out, HF.out, HW.out, HNO.out, HUP.out]
          have : (L.all fun e => !inB p e || validP (bl (moveE p q e).path)) = false := by
            rw [Bool.eq_false_iff]
            intro hall
            have := List.all_eq_true.1 hall e (atP_sub e HEM.out)
            rw [at_in HEM.out, ← HNP.out, HVN.out] at this
            cases this
          rw [this]
          simp)
        clear hvn
        go_wp2_with fail
        obtain ⟨W, hW⟩ : ∃ W, W = wr.alloc (.cells #[.string e.path, .int .i64 e.kind, .int .i64 e.mode, .int .i64 e.time, .slice a1 e.data.length cap1, .string e.link] 30) := ⟨_, rfl⟩
        rw [← hW]
        have HX := Lib.hid (show W.heap[wr.heap.size]? = some (.cells #[.string e.path, .int .i64 e.kind, .int .i64 e.mode, .int .i64 e.time, .slice a1 e.data.length cap1, .string e.link] 30 (0, 0)) by rw [hW]; exact new20 wr _)
        have HWL := Lib.hid (show Below wr.heap.size wr W by rw [hW]; exact (Below.refl _ _).alloc (Nat.le_refl _) _)
        clear hW
        refine (trim_is e.path p q np W HTR.out).mono ?_
        rintro e6 w6 ⟨r, rfl, hr, hrs, rfl⟩
        have m0 := cell20 (k := 0) HX.out
        simp only [List.getElem?_toArray, List.getElem?_cons_zero] at m0
        have p0 := frozen20 (k := 0) HX.out
        go_wp2_with fail
        obtain ⟨V, hV⟩ : ∃ V, V = W.setCell ⟨wr.heap.size, 0, none⟩ (.string np) := ⟨_, rfl⟩
        rw [← hV]
        have HWV := Lib.hid (show Below wr.heap.size wr V by rw [hV]; exact below_set20 HWL.out (Nat.le_refl _))
        have HXV := Lib.hid (show V.heap[wr.heap.size]? = some (.cells #[.string np, .int .i64 e.kind, .int .i64 e.mode, .int .i64 e.time, .slice a1 e.data.length cap1, .string e.link] 30 (0, 0)) by rw [hV]; exact set20 HX.out _)
        have HBV := Lib.hid (below_next HBR0.out HWV.out)
        clear hV m0 p0 hr hrs hq5 he5
        refine (valid20_is np false _ (HE.out.below HBV.out) HVN.out).mono ?_
        rintro e7 w7 ⟨rfl, hb7⟩
        have HB7 := Lib.hid (below_next HBV.out hb7)
        clear hb7
        go_wp2_with fail
        go_ret
        rw [HP.out]
        exact op_same HT.out HB7.out
      · have HVN := Lib.hid hvn
        clear hvn
        go_wp2_with fail
        obtain ⟨W, hW⟩ : ∃ W, W = wr.alloc (.cells #[.string e.path, .int .i64 e.kind, .int .i64 e.mode, .int .i64 e.time, .slice a1 e.data.length cap1, .string e.link] 30) := ⟨_, rfl⟩
        rw [← hW]
        have HX := Lib.hid (show W.heap[wr.heap.size]? = some (.cells #[.string e.path, .int .i64 e.kind, .int .i64 e.mode, .int .i64 e.time, .slice a1 e.data.length cap1, .string e.link] 30 (0, 0)) by rw [hW]; exact new20 wr _)
        have HWL := Lib.hid (show Below wr.heap.size wr W by rw [hW]; exact (Below.refl _ _).alloc (Nat.le_refl _) _)
        clear hW
        refine (trim_is e.path p q np W HTR.out).mono ?_
        rintro e6 w6 ⟨r, rfl, hr, hrs, rfl⟩
        have m0 := cell20 (k := 0) HX.out
        simp only [List.getElem?_toArray, List.getElem?_cons_zero] at m0
        have p0 := frozen20 (k := 0) HX.out
        go_wp2_with fail
        obtain ⟨V, hV⟩ : ∃ V, V = W.setCell ⟨wr.heap.size, 0, none⟩ (.string np) := ⟨_, rfl⟩
        rw [← hV]
        have HWV := Lib.hid (show Below wr.heap.size wr V by rw [hV]; exact below_set20 HWL.out (Nat.le_refl _))
        have HXV := Lib.hid (show V.heap[wr.heap.size]? = some (.cells #[.string np, .int .i64 e.kind, .int .i64 e.mode, .int .i64 e.time, .slice a1 e.data.length cap1, .string e.link] 30 (0, 0)) by rw [hV]; exact set20 HX.out _)
        have HBV := Lib.hid (below_next HBR0.out HWV.out)
        clear hV m0 p0 hr hrs hq5 he5
        refine (valid20_is np true _ (HE.out.below HBV.out) HVN.out).mono ?_
        rintro e7 w7 ⟨rfl, hb7⟩
        have HB7 := Lib.hid (HWV.out.trans (hb7.mono HWV.out.size))
        have HX7 := Lib.hid ((hb7.block wr.heap.size (lt20 HXV.out)).trans HXV.out)
        clear hb7
        have c0 := cell20 (k := 0) HX7.out
        have c1 := cell20 (k := 1) HX7.out
        have c2 := cell20 (k := 2) HX7.out
        have c3 := cell20 (k := 3) HX7.out
        have c4 := cell20 (k := 4) HX7.out
        have c5 := cell20 (k := 5) HX7.out
        simp only [List.getElem?_toArray, List.getElem?_cons_succ, List.getElem?_cons_zero] at c0 c1 c2 c3 c4 c5
        have HO7 := Lib.hid (own_below HOWN.out HB7.out)
        have hsz7 : w5.heap.size ≤ w7.heap.size := Nat.le_trans HBR.out.size HB7.out.size
        go_wp2_with (at_builtin; go_must (refine wpList_app1p Tryz.appEnts rfl _ _ rfl w5.heap.size (.slice av k cv) k (entsC ys) rfl w7 (entC (.slice a1 e.data.length cap1) { e with path := np }) _ rfl rfl entC_one HO7.out (by omega) hsz7 ?_); intro v' w8 hown8 hgrow8 _ _)
        have HO8 := Lib.hid hown8
        have HG8 := Lib.hid hgrow8
        clear hown8 hgrow8 c0 c1 c2 c3 c4 c5
        go_wp2_with fail
        go_roundw
        case rel =>
          refine ⟨k + 1, ys ++ [(.slice a1 e.data.length cap1, { e with path := np })], by omega, by go_num, ?_, ?_, ?_, ?_⟩
          · rw [List.take_add_one, HAT.out, List.map_append, List.map_append, HYS.out, ← move_ent (at_in HEM.out) HNP.out]; rfl
          · rw [entsC_snoc]; exact HO8.out
          · intro y hy
            rcases List.mem_append.1 hy with hy | hy
            · exact HDAT.out y hy
            · rw [List.mem_singleton] at hy
              subst hy
              have hok := HOK0.out
              refine ⟨HD0.out, ⟨?_, hok.lnk, hok.knd, hok.mde, hok.tim⟩, HVN.out⟩
              have := valid_size HVN.out
              show np.size ≤ _
              rw [size_bl]; unfold maxLen; omega
          · exact below_grown (HBR.out.trans (HB7.out.mono HBR.out.size)) HO7.out HG8.out (Nat.le_refl _) hsz7
        case measure => simp [intOf]; omega
    · have hk2 : k = n := by omega
      subst hk2
      have HMV := Lib.hid (show Mv L p q from ⟨HT.out.ok, HVS.out, HVD.out, ⟨f, HF.out⟩, HW.out, HNO.out, HUP.out, fun e he hi => by
        have h1 : e ∈ atP L p := by rw [atP_there HF.out]; exact List.mem_filter.2 ⟨he, hi⟩
        have h2 : moveE p q e ∈ ys.map Prod.snd := by
          rw [HYS.out, HN2.out, List.take_length]
          exact List.mem_map.2 ⟨e, h1, rfl⟩
        obtain ⟨y, hy, hye⟩ := List.mem_map.1 h2
        rw [← hye]; exact (HDAT.out y hy).2.2⟩)
      clear hlt hk
      obtain ⟨wd, rfl⟩ : ∃ wd, wd = wr := ⟨_, rfl⟩
      obtain ⟨S2, hS2⟩ : ∃ S2 : Nat → Prop, S2 = fun k => S k ∨ (w.heap.size ≤ k ∧ k < wd.heap.size) := ⟨_, rfl⟩
      have HWT := Lib.hid (show TreeAt S2 wd tb mb L by rw [hS2]; exact HT.out.wide HBR0.out)
      have HS2 := Lib.hid hS2
      obtain ⟨zs, hz0, hzp⟩ := HWT.out.ents
      have HZ0 := Lib.hid hz0
      have HZP := Lib.hid hzp
      have HMLT := Lib.hid (show mb < w4.heap.size from Nat.lt_of_lt_of_le HT.out.mb_lt HB4.out.size)
      have HYL2 := Lib.hid (show ys.length = k from HYL.out)
      clear hS2 hz0 hzp
      go_wp2_with fail
      go_loopw [18, 94] (fun _ i wq => ∃ j : Nat, j ≤ k ∧ i = .int .i64 j ∧ MapE S2 wq mb (struckE zs ((pathsM L p).take j)) ∧ wd.grownBy wq (some mb)) (fun _ i _ => k - (intOf i).toNat)
      case atStart => exact ⟨0, Nat.zero_le _, rfl, by rw [List.take_zero, struck_nil]; exact HZ0.out, World.grownBy.refl _ _⟩
      case round =>
        obtain ⟨j, hj, rfl, hm, hg⟩ := hrel
        have HMJ := Lib.hid hm
        have HG := Lib.hid hg
        clear hm hg
        by_cases hlt : j < k
        · obtain ⟨e, hat⟩ : ∃ e, (pathsM L p)[j]? = some e := ⟨_, List.getElem?_eq_getElem (by rw [← HN.out]; exact hlt)⟩
          obtain ⟨_, a3, c3, he3, _, _, h03⟩ := HROW.out
          simp only [Value.slice.injEq] at he3
          obtain ⟨rfl, -, rfl⟩ := he3
          rcases h03 with h03 | ⟨b, o, rfl, hb, hcc⟩
          · omega
          have hc0 := hcc j (.string e) (by simp [hat])
          have hcq := HG.out.cell ((HBR.out.cell (block_lt hc0)).trans hc0) (fun e => by have h1 := Option.some.inj e; have h2 := HMLT.out; have h3 := hb.1; simp only at h1; omega)
          have hcl := HG.out.cell HWT.out.cell (fun e => HWT.out.ne (Option.some.inj e))
          have HDEL := Lib.hid (del_step HMJ.out HZ0.out.nodup (at_nodup HWT.out.ok p) hat (path_at HZ0.out HZP.out (List.mem_of_getElem? hat)))
          clear hat hcc hc0 hb
          go_wp2_with (at_delete; go_must (refine wpList_delRun rfl _ _ _ _ rfl _ _ rfl rfl (HDEL.out _) ?_); rintro w9 ⟨hm3, hg3⟩)
          go_roundw
          case rel => exact ⟨j + 1, by omega, by go_num, hm3, HG.out.trans hg3⟩
          case measure => simp [intOf]; omega
        · have hj2 : k = j := by omega
          subst hj2
          have HMF := Lib.hid (show MapE S2 wr mb (struckE zs ((atP L p).map Ent.path)) by
            have h1 := HMJ.out
            rw [HN.out, List.take_length] at h1
            exact h1)
          clear hlt hj HMJ
          obtain ⟨we, rfl⟩ : ∃ we, we = wr := ⟨_, rfl⟩
          go_wp2_with fail
          go_loopw [106] (fun i wq => ∃ j : Nat, j ≤ k ∧ i = .int .i64 j ∧ MapE S2 wq mb (struckE zs ((atP L p).map Ent.path) ++ ys.take j) ∧ wd.grownBy wq (some mb)) (fun i _ => k - (intOf i).toNat)
          case atStart => exact ⟨0, Nat.zero_le _, rfl, by rw [List.take_zero, List.append_nil]; exact HMF.out, HG.out⟩
          case round =>
            obtain ⟨j, hj, rfl, hm, hg⟩ := hrel
            have HMJ := Lib.hid hm
            have HGJ := Lib.hid hg
            clear hm hg
            by_cases hlt : j < k
            · obtain ⟨y, hy⟩ : ∃ y, ys[j]? = some y := ⟨_, List.getElem?_eq_getElem (by rw [HYL2.out]; exact hlt)⟩
              obtain ⟨b, rfl, hbb, hbl, -, d0, d1, d2, d3, d4, d5⟩ := own_ent HOWN.out hy
              have hbm : some b ≠ some mb := fun e => by have h1 := Option.some.inj e; have h2 := HT.out.mb_lt; have h3 := HB5.out.size; omega
              have q0 := HGJ.out.cell d0 hbm
              have q1 := HGJ.out.cell d1 hbm
              have q2 := HGJ.out.cell d2 hbm
              have q3 := HGJ.out.cell d3 hbm
              have q4 := HGJ.out.cell d4 hbm
              have q5 := HGJ.out.cell d5 hbm
              obtain ⟨v, e⟩ := y
              have hyd := HDAT.out _ (List.mem_of_getElem? hy)
              simp only at hyd d0 d1 d2 d3 d4 d5 q0 q1 q2 q3 q4 q5
              obtain ⟨a1, cap1, rfl, hd1, hd2⟩ := hyd.1.slice
              unfold maxLen at hd2
              have HYD := Lib.hid hyd
              have HYJ := Lib.hid hy
              have hblr : b < wr.heap.size := Nat.lt_of_lt_of_le hbl HGJ.out.size
              have hbr2 := hblr
              clear hyd hy d0 d1 d2 d3 d4 d5
              go_wp2_with fail
              obtain ⟨W4, hW4⟩ : ∃ W4 : World, W4 = (wr.alloc (.cells #[.string e.path, .int .i64 e.kind, .int .i64 e.mode, .int .i64 e.time, .slice a1 e.data.length cap1, .string e.link] 30)).drew := ⟨_, rfl⟩
              have HB4b := Lib.hid (show Below wr.heap.size wr W4 by rw [hW4]; exact ((Below.refl _ _).alloc (Nat.le_refl _) _).drew)
              have HX4 := Lib.hid (show W4.heap[wr.heap.size]? = some (.cells #[.string e.path, .int .i64 e.kind, .int .i64 e.mode, .int .i64 e.time, .slice a1 e.data.length cap1, .string e.link] 30 (0, 0)) by rw [hW4]; exact new20 wr _)
              refine hld_start (fun w' => w'.cell? ⟨tb, 0, none⟩ = some (.map (some mb)) ∧ w'.cell? ⟨wr.heap.size, 0, none⟩ = some (.string e.path) ∧ w'.cell? ⟨wr.heap.size, 1, none⟩ = some (.int .i64 e.kind) ∧ w'.cell? ⟨wr.heap.size, 2, none⟩ = some (.int .i64 e.mode) ∧ w'.cell? ⟨wr.heap.size, 3, none⟩ = some (.int .i64 e.time) ∧ w'.cell? ⟨wr.heap.size, 4, none⟩ = some (.slice a1 e.data.length cap1) ∧ w'.cell? ⟨wr.heap.size, 5, none⟩ = some (.string e.link)) (by kernel_rfl) ?_
              rw [← hW4]
              clear hW4 q0 q1 q2 q3 q4 q5
              have hS0 := HGJ.out.cell HWT.out.cell (fun e => HWT.out.ne (Option.some.inj e))
              have hS1 := (HB4b.out.cell (block_lt hS0)).trans hS0
              have c0 := cell20 (k := 0) HX4.out
              have c1 := cell20 (k := 1) HX4.out
              have c2 := cell20 (k := 2) HX4.out
              have c3 := cell20 (k := 3) HX4.out
              have c4 := cell20 (k := 4) HX4.out
              have c5 := cell20 (k := 5) HX4.out
              simp only [List.getElem?_toArray, List.getElem?_cons_succ, List.getElem?_cons_zero] at c0 c1 c2 c3 c4 c5
              refine hld_take 0 rfl (by kernel_rfl) (by kernel_rfl) (by kernel_rfl) (fun _ _ _ h => h) rfl ⟨hS1, c0, c1, c2, c3, c4, c5⟩ (by rintro w' ⟨hw1, hw2, hw3, hw4, hw5, hw6, hw7⟩; go_simp; rfl) ?_
              simp only [Act.put, List.setIfInBounds_toArray, List.set_cons_succ, List.set_cons_zero]
              refine hld_take 1 rfl (by kernel_rfl) (by kernel_rfl) (by kernel_rfl) (fun _ _ _ h => h) rfl ⟨hS1, c0, c1, c2, c3, c4, c5⟩ (by rintro w' ⟨hw1, hw2, hw3, hw4, hw5, hw6, hw7⟩; go_simp; rfl) ?_
              simp only [Act.put, List.setIfInBounds_toArray, List.set_cons_succ, List.set_cons_zero]
              refine hld_take 2 rfl (by kernel_rfl) (by kernel_rfl) (by kernel_rfl) (fun _ _ _ h => h) rfl ⟨hS1, c0, c1, c2, c3, c4, c5⟩ (by rintro w' ⟨hw1, hw2, hw3, hw4, hw5, hw6, hw7⟩; go_simp; rfl) ?_
              simp only [Act.put, List.setIfInBounds_toArray, List.set_cons_succ, List.set_cons_zero]
              refine hld_take 3 rfl (by kernel_rfl) (by kernel_rfl) (by kernel_rfl) (fun _ _ _ h => h) rfl ⟨hS1, c0, c1, c2, c3, c4, c5⟩ (by rintro w' ⟨hw1, hw2, hw3, hw4, hw5, hw6, hw7⟩; go_simp; rfl) ?_
              simp only [Act.put, List.setIfInBounds_toArray, List.set_cons_succ, List.set_cons_zero]
              refine hld_take 4 rfl (by kernel_rfl) (by kernel_rfl) (by kernel_rfl) (fun _ _ _ h => h) rfl ⟨hS1, c0, c1, c2, c3, c4, c5⟩ (by rintro w' ⟨hw1, hw2, hw3, hw4, hw5, hw6, hw7⟩; go_simp; rfl) ?_
              simp only [Act.put, List.setIfInBounds_toArray, List.set_cons_succ, List.set_cons_zero]
              refine hld_take 5 rfl (by kernel_rfl) (by kernel_rfl) (by kernel_rfl) (fun _ _ _ h => h) rfl ⟨hS1, c0, c1, c2, c3, c4, c5⟩ (by rintro w' ⟨hw1, hw2, hw3, hw4, hw5, hw6, hw7⟩; go_simp; rfl) ?_
              simp only [Act.put, List.setIfInBounds_toArray, List.set_cons_succ, List.set_cons_zero]
              refine hld_take 6 rfl (by kernel_rfl) (by kernel_rfl) (by kernel_rfl) (fun _ _ _ h => h) rfl ⟨hS1, c0, c1, c2, c3, c4, c5⟩ (by rintro w' ⟨hw1, hw2, hw3, hw4, hw5, hw6, hw7⟩; go_simp; rfl) ?_
              simp only [Act.put, List.setIfInBounds_toArray, List.set_cons_succ, List.set_cons_zero]
              have hyd := HYD.out
              have hdw := data_mono (S' := S2) ((data_grown (hyd.1.below HBR0.out) HM.out.far HGJ.out).below HB4b.out) (fun k hk => by rw [HS2.out]; exact .inl hk)
              have HPUT := Lib.hid ((HMJ.out.below HB4b.out).putRun mapTy (mv_fresh HMV.out HZP.out (by rw [HYS.out, HN2.out, List.take_length]) HYJ.out) hdw hyd.2.1)
              clear hyd hdw
              refine hld_bar 7 rfl (by kernel_rfl) rfl (fun K hK => ?_)
              go_wp2_with (at_mapUpdate; go_must (refine wpList_updRun rfl _ _ _ _ rfl _ _ _ rfl rfl rfl HPUT.out ?_); rintro w6 ⟨hm6, hg6⟩)
              have HM6 := Lib.hid hm6
              have HG6 := Lib.hid hg6
              have hnb : some wr.heap.size ≠ some mb := fun e => by have h1 := HMJ.out.map.lt; have h2 := Option.some.inj e; omega
              have r1 := hg6.cell hS1 (fun e => HWT.out.ne (Option.some.inj e))
              have r2 := hg6.cell c0 hnb
              have r3 := hg6.cell c1 hnb
              have r4 := hg6.cell c2 hnb
              have r5 := hg6.cell c3 hnb
              have r6 := hg6.cell c4 hnb
              have r7 := hg6.cell c5 hnb
              refine ⟨⟨r1, r2, r3, r4, r5, r6, r7⟩, ?_⟩
              clear hm6 hg6 r1 r2 r3 r4 r5 r6 r7 hS0 hS1 c0 c1 c2 c3 c4 c5 hnb
              refine hld_done (by kernel_rfl) ?_
              go_wp2_with fail
              go_roundw
              case rel =>
                refine ⟨j + 1, by omega, by go_num, ?_, HGJ.out.trans ((grown_of_below HB4b.out _).trans HG6.out)⟩
                rw [List.take_add_one, HYJ.out, ← List.append_assoc]
                exact HM6.out
              case measure => simp [intOf]; omega
            · have hj2 : k = j := by omega
              subst hj2
              have h1 := HMJ.out
              rw [← HYL2.out, List.take_length] at h1
              have hmv := HWT.out.moved HMV.out HZP.out (by rw [HYS.out, HN2.out, List.take_length]) h1 HGJ.out
              have HMD := Lib.hid hmv
              clear hlt hj h1 hmv
              go_wp2_with fail
              go_ret
              rw [move_by HMV.out]
              have h2 := HMD.out
              rw [move_by HMV.out, HS2.out] at h2
              exact op_done HT.out HBR0.out HGJ.out h2

end Go.Proofs.YtbkhdpocmmjnbaaGreatDoor

/- Contracts of package filetree: Move, whole. -/
namespace Go.Proofs.YtbkhdpocmmjnbaaGreatDoor
open Go.RowKit Go.Maps

theorem dirE_is (L : List Ent) (p : List UInt8) : dirE L p = 0 ∨ dirE L p = 4 ∨ dirE L p = 13 := by
  unfold dirE
  split
  · exact .inl rfl
  · split
    · exact .inr (.inl rfl)
    · split
      · exact .inl rfl
      · exact .inr (.inr rfl)
set_option maxRecDepth 100000 in
set_option maxHeartbeats 2000000 in
theorem move_any (S : Nat → Prop) (tb mb : Nat) (L : List Ent) (p q : ByteArray) (w : World) (ht : TreeAt S w tb mb L) (hps : p.size ≤ maxLen) (hqs : q.size ≤ maxLen) (henv : Env w) :
    Calls Tryz.prog 25 #[.pointer (some ⟨tb, 0, none⟩), .string p, .string q] w (OpRes S tb mb (moveP L p q) w) := by
  have HT := Lib.hid ht
  have HE := Lib.hid henv
  have HPS := Lib.hid hps
  have HQS := Lib.hid hqs
  clear ht henv hps hqs
  cases hvs : validP (bl p)
  · have HVS := Lib.hid hvs
    have HP := Lib.hid (show moveP L p q = (L, 1) by unfold moveP; rw [hvs]; rfl)
    clear hvs
    go_enter Tryz.func25, Tryz.ntmps25
    go_wp2_with fail
    refine (valid20_is p false _ HE.out HVS.out).mono ?_
    rintro e w1 ⟨rfl, hb1⟩
    have HB1 := Lib.hid hb1
    clear hb1
    go_wp2_with fail
    go_ret
    rw [HP.out]
    exact op_same HT.out HB1.out
  have HVS := Lib.hid hvs
  cases hvd : validP (bl q)
  · have HVD := Lib.hid hvd
    have HP := Lib.hid (show moveP L p q = (L, 1) by unfold moveP; rw [hvs, hvd]; rfl)
    clear hvs hvd
    go_enter Tryz.func25, Tryz.ntmps25
    go_wp2_with fail
    refine (valid20_is p true _ HE.out HVS.out).mono ?_
    rintro e w1 ⟨rfl, hb1⟩
    have HB1 := Lib.hid hb1
    clear hb1
    go_wp2_with fail
    refine (valid20_is q false _ (HE.out.below HB1.out) HVD.out).mono ?_
    rintro e w2 ⟨rfl, hb2⟩
    have HB2 := Lib.hid (below_next HB1.out hb2)
    clear hb2
    go_wp2_with fail
    go_ret
    rw [HP.out]
    exact op_same HT.out HB2.out
  have HVD := Lib.hid hvd
  cases hf : findE L p with
  | none =>
    have HF := Lib.hid hf
    have HP := Lib.hid (show moveP L p q = (L, 4) by unfold moveP; rw [hvs, hvd, hf]; rfl)
    clear hvs hvd hf
    go_enter Tryz.func25, Tryz.ntmps25
    go_wp2_with fail
    refine (valid20_is p true _ HE.out HVS.out).mono ?_
    rintro e w1 ⟨rfl, hb1⟩
    have HB1 := Lib.hid hb1
    clear hb1
    go_wp2_with fail
    refine (valid20_is q true _ (HE.out.below HB1.out) HVD.out).mono ?_
    rintro e w2 ⟨rfl, hb2⟩
    have HB2 := Lib.hid (below_next HB1.out hb2)
    have HT2 := Lib.hid (HT.out.below HB2.out)
    have hcl := HT2.out.cell
    have hlk := HT2.out.miss mapTy (zeroE_run w2) HPS.out HF.out true
    unfold zeroE at hlk
    simp only [if_true] at hlk
    clear hb2
    go_wp2_with fail
    go_ret
    rw [HP.out]
    exact op_same HT.out (HB2.out.alloc HB2.out.size _)
  | some f =>
    have HF := Lib.hid hf
    cases hw : withinB (bl p) (bl q)
    · have HW := Lib.hid hw
      cases hno : findE L q with
      | none =>
        have HNO := Lib.hid hno
        rcases dirE_is L (parentL (bl q)) with hup | hup | hup
        · clear hvs hvd hf hw hno
          exact move_loops S tb mb L p q f w HT.out HPS.out HQS.out HE.out HVS.out HVD.out HF.out HW.out HNO.out hup
        · have HUP := Lib.hid hup
          have HP := Lib.hid (show moveP L p q = (L, 4) by unfold moveP; rw [hvs, hvd, hf, hw, hno, hup]; rfl)
          clear hvs hvd hf hw hno hup
          go_enter Tryz.func25, Tryz.ntmps25
          go_wp2_with fail
          refine (valid20_is p true _ HE.out HVS.out).mono ?_
          rintro e w1 ⟨rfl, hb1⟩
          have HB1 := Lib.hid hb1
          clear hb1
          go_wp2_with fail
          refine (valid20_is q true _ (HE.out.below HB1.out) HVD.out).mono ?_
          rintro e w2 ⟨rfl, hb2⟩
          have HB2 := Lib.hid (below_next HB1.out hb2)
          have HT2 := Lib.hid (HT.out.below HB2.out)
          have hcl := HT2.out.cell
          obtain ⟨v, hlk, hd, -⟩ := HT2.out.hit mapTy HPS.out HF.out true
          obtain ⟨a, cap, rfl, -, -⟩ := hd.slice
          unfold entV at hlk
          simp only [if_true] at hlk
          clear hd hb2
          go_wp2_with fail
          have HB2a := Lib.hid (HB2.out.alloc HB2.out.size (.cells #[.string f.path, .int .i64 f.kind, .int .i64 f.mode, .int .i64 f.time, .slice a f.data.length cap, .string f.link] 30))
          refine (within20 p q false _ (HE.out.below HB2a.out) HW.out).mono ?_
          rintro e w3 ⟨rfl, hb3⟩
          have HB3 := Lib.hid (below_next HB2a.out hb3)
          clear hb3 hcl hlk
          have HT3 := Lib.hid (HT.out.below HB3.out)
          have hcl := HT3.out.cell
          have hlk := HT3.out.miss mapTy (zeroE_run w3) HQS.out HNO.out true
          unfold zeroE at hlk
          simp only [if_true] at hlk
          go_wp2_with fail
          have HB3a := Lib.hid (HB3.out.alloc HB3.out.size (.cells #[.string ByteArray.empty, .int .i64 0, .int .i64 0, .int .i64 0, .slice none 0 0, .string ByteArray.empty] 30))
          refine (parentT_is S tb mb L q _ 4 (HT.out.below HB3a.out) (HE.out.below HB3a.out) HVD.out HUP.out).mono ?_
          rintro e w4 ⟨rfl, hb4⟩
          have HB4 := Lib.hid (below_next HB3a.out hb4)
          clear hb4 hcl hlk
          go_wp2_with fail
          go_ret
          rw [HP.out]
          exact op_same HT.out HB4.out
        · have HUP := Lib.hid hup
          have HP := Lib.hid (show moveP L p q = (L, 13) by unfold moveP; rw [hvs, hvd, hf, hw, hno, hup]; rfl)
          clear hvs hvd hf hw hno hup
          go_enter Tryz.func25, Tryz.ntmps25
          go_wp2_with fail
          refine (valid20_is p true _ HE.out HVS.out).mono ?_
          rintro e w1 ⟨rfl, hb1⟩
          have HB1 := Lib.hid hb1
          clear hb1
          go_wp2_with fail
          refine (valid20_is q true _ (HE.out.below HB1.out) HVD.out).mono ?_
          rintro e w2 ⟨rfl, hb2⟩
          have HB2 := Lib.hid (below_next HB1.out hb2)
          have HT2 := Lib.hid (HT.out.below HB2.out)
          have hcl := HT2.out.cell
          obtain ⟨v, hlk, hd, -⟩ := HT2.out.hit mapTy HPS.out HF.out true
          obtain ⟨a, cap, rfl, -, -⟩ := hd.slice
          unfold entV at hlk
          simp only [if_true] at hlk
          clear hd hb2
          go_wp2_with fail
          have HB2a := Lib.hid (HB2.out.alloc HB2.out.size (.cells #[.string f.path, .int .i64 f.kind, .int .i64 f.mode, .int .i64 f.time, .slice a f.data.length cap, .string f.link] 30))
          refine (within20 p q false _ (HE.out.below HB2a.out) HW.out).mono ?_
          rintro e w3 ⟨rfl, hb3⟩
          have HB3 := Lib.hid (below_next HB2a.out hb3)
          clear hb3 hcl hlk
          have HT3 := Lib.hid (HT.out.below HB3.out)
          have hcl := HT3.out.cell
          have hlk := HT3.out.miss mapTy (zeroE_run w3) HQS.out HNO.out true
          unfold zeroE at hlk
          simp only [if_true] at hlk
          go_wp2_with fail
          have HB3a := Lib.hid (HB3.out.alloc HB3.out.size (.cells #[.string ByteArray.empty, .int .i64 0, .int .i64 0, .int .i64 0, .slice none 0 0, .string ByteArray.empty] 30))
          refine (parentT_is S tb mb L q _ 13 (HT.out.below HB3a.out) (HE.out.below HB3a.out) HVD.out HUP.out).mono ?_
          rintro e w4 ⟨rfl, hb4⟩
          have HB4 := Lib.hid (below_next HB3a.out hb4)
          clear hb4 hcl hlk
          go_wp2_with fail
          go_ret
          rw [HP.out]
          exact op_same HT.out HB4.out
      | some g =>
        have HNO := Lib.hid hno
        have HP := Lib.hid (show moveP L p q = (L, 5) by unfold moveP; rw [hvs, hvd, hf, hw, hno]; rfl)
        clear hvs hvd hf hw hno
        go_enter Tryz.func25, Tryz.ntmps25
        go_wp2_with fail
        refine (valid20_is p true _ HE.out HVS.out).mono ?_
        rintro e w1 ⟨rfl, hb1⟩
        have HB1 := Lib.hid hb1
        clear hb1
        go_wp2_with fail
        refine (valid20_is q true _ (HE.out.below HB1.out) HVD.out).mono ?_
        rintro e w2 ⟨rfl, hb2⟩
        have HB2 := Lib.hid (below_next HB1.out hb2)
        have HT2 := Lib.hid (HT.out.below HB2.out)
        have hcl := HT2.out.cell
        obtain ⟨v, hlk, hd, -⟩ := HT2.out.hit mapTy HPS.out HF.out true
        obtain ⟨a, cap, rfl, -, -⟩ := hd.slice
        unfold entV at hlk
        simp only [if_true] at hlk
        clear hd hb2
        go_wp2_with fail
        have HB2a := Lib.hid (HB2.out.alloc HB2.out.size (.cells #[.string f.path, .int .i64 f.kind, .int .i64 f.mode, .int .i64 f.time, .slice a f.data.length cap, .string f.link] 30))
        refine (within20 p q false _ (HE.out.below HB2a.out) HW.out).mono ?_
        rintro e w3 ⟨rfl, hb3⟩
        have HB3 := Lib.hid (below_next HB2a.out hb3)
        clear hb3 hcl hlk
        have HT3 := Lib.hid (HT.out.below HB3.out)
        have hcl := HT3.out.cell
        obtain ⟨v, hlk, hd, -⟩ := HT3.out.hit mapTy HQS.out HNO.out true
        obtain ⟨a', cap', rfl, -, -⟩ := hd.slice
        unfold entV at hlk
        simp only [if_true] at hlk
        clear hd
        go_wp2_with fail
        go_ret
        rw [HP.out]
        exact op_same HT.out (HB3.out.alloc HB3.out.size _)
    · have HW := Lib.hid hw
      have HP := Lib.hid (show moveP L p q = (L, 13) by unfold moveP; rw [hvs, hvd, hf, hw]; rfl)
      clear hvs hvd hf hw
      go_enter Tryz.func25, Tryz.ntmps25
      go_wp2_with fail
      refine (valid20_is p true _ HE.out HVS.out).mono ?_
      rintro e w1 ⟨rfl, hb1⟩
      have HB1 := Lib.hid hb1
      clear hb1
      go_wp2_with fail
      refine (valid20_is q true _ (HE.out.below HB1.out) HVD.out).mono ?_
      rintro e w2 ⟨rfl, hb2⟩
      have HB2 := Lib.hid (below_next HB1.out hb2)
      have HT2 := Lib.hid (HT.out.below HB2.out)
      have hcl := HT2.out.cell
      obtain ⟨v, hlk, hd, -⟩ := HT2.out.hit mapTy HPS.out HF.out true
      obtain ⟨a, cap, rfl, -, -⟩ := hd.slice
      unfold entV at hlk
      simp only [if_true] at hlk
      clear hd hb2
      go_wp2_with fail
      have HB2a := Lib.hid (HB2.out.alloc HB2.out.size (.cells #[.string f.path, .int .i64 f.kind, .int .i64 f.mode, .int .i64 f.time, .slice a f.data.length cap, .string f.link] 30))
      refine (within20 p q true _ (HE.out.below HB2a.out) HW.out).mono ?_
      rintro e w3 ⟨rfl, hb3⟩
      have HB3 := Lib.hid (below_next HB2a.out hb3)
      clear hb3 hcl hlk
      go_wp2_with fail
      go_ret
      rw [HP.out]
      exact op_same HT.out HB3.out

end Go.Proofs.YtbkhdpocmmjnbaaGreatDoor

/- Contracts of package filetree: List. -/
namespace Go.Proofs.YtbkhdpocmmjnbaaGreatDoor
open Go.RowKit Go.Maps

def kidK (L : List Ent) (d : ByteArray) (k : Nat) : List Ent := ((atP L d).take k).filter fun e => decide (parentL (bl e.path) = bl d) && decide (e.path ≠ d)
theorem kidK_step {L : List Ent} {d : ByteArray} {k : Nat} {e : Ent} (h : (atP L d)[k]? = some e) : kidK L d (k + 1) = kidK L d k ++ (if (decide (parentL (bl e.path) = bl d) && decide (e.path ≠ d)) = true then [e] else []) := by
  unfold kidK
  rw [List.take_add_one, h, List.filter_append]
  congr 1
  simp only [Option.toList_some, List.filter_cons, List.filter_nil]
def ListRes (L : List Ent) (d : ByteArray) (w : World) (e : Ending) (w' : World) : Prop :=
  ∃ v ys, e = .returned (.tuple #[v, .int .i64 (listP L d).2]) ∧ ys.map Prod.snd = (listP L d).1 ∧ GotE w.heap.size w' v ys ∧ Below w.heap.size w w'
theorem list_bad {L : List Ent} {d : ByteArray} {w w' : World} {x : Int} (h : listP L d = ([], x)) (hb : Below w.heap.size w w') : ListRes L d w (.returned (.tuple #[.slice none 0 0, .int .i64 x])) w' :=
  ⟨_, [], by rw [h], by rw [h]; rfl, GotE.nil _ _, hb⟩
set_option maxRecDepth 100000 in
set_option maxHeartbeats 2000000 in
theorem list_any (S : Nat → Prop) (tb mb : Nat) (L : List Ent) (d : ByteArray) (w : World) (ht : TreeAt S w tb mb L) (hds : d.size ≤ maxLen) (henv : Env w) :
    Calls Tryz.prog 16 #[.pointer (some ⟨tb, 0, none⟩), .string d] w (ListRes L d w) := by
  have HT := Lib.hid ht
  have HE := Lib.hid henv
  have HDS := Lib.hid hds
  obtain ⟨xs, hm0, hperm⟩ := ht.ents
  have HM := Lib.hid hm0
  have HPERM := Lib.hid hperm
  obtain ⟨n, hn⟩ : ∃ n, n = (pathsM L d).length := ⟨_, rfl⟩
  have hn2 : n = (atP L d).length := by rw [hn]; unfold pathsM; rw [List.length_map]
  have hn4 : n ≤ 4096 := by
    rw [hn2]
    have := List.length_filter_le (fun e => inB d e && (decide (d.size = 0) || (findE L d).isSome)) L
    unfold atP
    have := ht.ok.len
    omega
  have HN := Lib.hid hn
  have HN2 := Lib.hid hn2
  clear ht henv hds hm0 hperm hn hn2
  by_cases h0 : d.size = 0
  · have hbd := size_zero.1 h0
    have e0 : d.toList.isEmpty = true := by rw [empty20, hbd, decide_eq_true rfl]
    have HD0E := Lib.hid (show dirE L (bl d) = 0 by unfold dirE; rw [if_pos hbd])
    have HLP := Lib.hid (show listP L d = (kidsE L d, 0) by unfold listP; rw [if_neg (by simp [h0]), HD0E.out]; rfl)
    have HB4 := Lib.hid (Below.refl w.heap.size w)
    clear h0 hbd
    go_enter Tryz.func16, Tryz.ntmps16
    go_wp2_with fail
    refine (paths_any S tb mb L d _ (HT.out.below HB4.out) HDS.out).mono ?_
    rintro e w5 ⟨v5, rfl, ho5, hb5⟩
    rw [← HN.out] at ho5
    obtain ⟨a5, c5, rfl, hn5, hm5⟩ := owns_shape ho5
    have HROW := Lib.hid (row_of_owns ho5)
    have HB5 := Lib.hid (below_next HB4.out hb5)
    unfold maxLen at hm5
    clear ho5 hb5
    go_wp2_with fail
    go_loopw [8, 36] (fun v i wr => ∃ (k : Nat) (ys : List VEnt), k ≤ n ∧ i = .int .i64 k ∧ ys.map Prod.snd = kidK L d k ∧ GotE w5.heap.size wr v ys ∧ Below w5.heap.size w5 wr) (fun _ i _ => n - (intOf i).toNat)
    case atStart => exact ⟨0, [], Nat.zero_le _, rfl, by simp [kidK], GotE.nil _ _, Below.refl _ _⟩
    case round =>
      obtain ⟨k, ys, hk, rfl, hys, hgot, hbr⟩ := hrel
      have HYS := Lib.hid hys
      have HGOT := Lib.hid hgot
      have HBR := Lib.hid hbr
      have HBR0 := Lib.hid (below_next HB5.out hbr)
      obtain ⟨av, cv, hsv, hvn, hvm⟩ := owns_shape hgot.row
      subst hsv
      unfold maxLen at hvm
      have HYL := Lib.hid (show ys.length ≤ 4096 by
        have := congrArg List.length hys
        rw [List.length_map] at this
        rw [this]
        unfold kidK
        have h1 := List.length_filter_le (fun e => decide (parentL (bl e.path) = bl d) && decide (e.path ≠ d)) ((atP L d).take k)
        rw [List.length_take] at h1
        omega)
      clear hys hgot hbr
      by_cases hlt : k < n
      · have hla : k < (atP L d).length := by rw [← HN2.out]; exact hlt
        obtain ⟨e, hat⟩ : ∃ e, (atP L d)[k]? = some e := ⟨_, List.getElem?_eq_getElem hla⟩
        have HAT := Lib.hid hat
        have heM := List.mem_of_getElem? hat
        have heL := atP_sub e heM
        have HVE := Lib.hid (HT.out.ok.val e heL)
        obtain ⟨v, hv⟩ := find_vent (HPERM.out.symm.subset heL)
        have HV := Lib.hid hv
        obtain ⟨hd0, hok0⟩ := HM.out.dat _ hv
        simp only at hd0 hok0
        obtain ⟨a1, cap1, rfl, hd1, hd2⟩ := hd0.slice
        have HD0 := Lib.hid hd0
        have HOK0 := Lib.hid hok0
        unfold maxLen at hd2
        obtain ⟨_, a3, c3, he3, _, _, h03⟩ := HROW.out
        simp only [Value.slice.injEq] at he3
        obtain ⟨rfl, -, rfl⟩ := he3
        rcases h03 with h03 | ⟨b, o, rfl, -, hcc⟩
        · omega
        have hc0 := hcc k (.string e.path) (by unfold pathsM; rw [List.getElem?_map, List.getElem?_map, hat]; rfl)
        have hcq := (HBR.out.cell (block_lt hc0)).trans hc0
        obtain ⟨q, hq⟩ : ∃ q : ByteArray, q = ⟨(parentL (bl e.path)).toArray⟩ := ⟨_, rfl⟩
        have hbq : bl q = parentL (bl e.path) := by rw [hq]; exact bl_mk _
        have HQ := Lib.hid hq
        have hps := parent_shorter (vEnt_path (HT.out.ok.val e heL))
        clear hat hcc hc0 hla heL heM hv hd0 hok0 hq
        by_cases hpar : parentL (bl e.path) = bl d
        · have hqd : q = d := bl_inj (hbq.trans hpar)
          have hne : e.path ≠ d := fun hc => by rw [hpar, ← hc] at hps; omega
          have e1 : (e.path.toList == d.toList) = false := by
            rw [Bool.eq_false_iff]
            intro hc
            exact hne (bl_inj (by rw [← toList_bl, ← toList_bl]; simpa using hc))
          have e2 : (e.path.toList != d.toList) = true := by simp [bne, e1]
          have HCND := Lib.hid (show (decide (parentL (bl e.path) = bl d) && decide (e.path ≠ d)) = true by simp [hpar, hne])
          rw [hqd] at HQ
          clear hqd hne hpar hbq hps
          go_wp2_with fail
          refine (parent20 e.path d _ (HE.out.below HBR0.out) (vEnt_path HVE.out) HQ.out).mono ?_
          rintro e6 w6 ⟨rfl, hb6⟩
          have HB6 := Lib.hid hb6
          have HB60 := Lib.hid (below_next HBR0.out hb6)
          have hcl := (HT.out.below HB60.out).cell
          have hlk := (HM.out.below HB60.out).hit mapTy HV.out false
          unfold entV at hlk
          simp only [Bool.false_eq_true, if_false] at hlk
          clear hb6 hcq
          go_wp2_with fail
          refine (copied_flat S e _ _ (HD0.out.below HB60.out) (vEnt_data HVE.out)).mono ?_
          rintro e7 w7 ⟨a', cap', rfl, ho7, hb7⟩
          have HO7 := Lib.hid ho7
          have HB7 := Lib.hid (HB6.out.trans (hb7.mono HB6.out.size))
          have hsz7 : w5.heap.size ≤ w7.heap.size := Nat.le_trans HBR.out.size HB7.out.size
          have HOW := Lib.hid (own_below HGOT.out.row HB7.out)
          have hyl := HYL.out
          clear hb7 ho7 hcl hlk
          go_wp2_with (at_builtin; go_must (refine wpList_app1p Tryz.appEnts rfl _ _ rfl w5.heap.size (.slice av ys.length cv) ys.length (entsC ys) rfl w7 (entC (.slice a' e.data.length cap') e) _ rfl rfl entC_one HOW.out (by omega) hsz7 ?_); intro v' w8 hown8 hgrow8 _ hpl8; have HG8 := Lib.hid hgrow8; have HPU := Lib.hid (HGOT.out.push (y := (.slice a' e.data.length cap', e)) HB7.out (data_mono (data_of_owns HO7.out) (fun k hk => ⟨Nat.le_trans HB6.out.size hk.1, hk.2⟩)) HOK0.out HBR.out.size hown8 hgrow8 hpl8); clear hown8 hgrow8 hpl8)
          go_wp2_with fail
          go_roundw
          case rel =>
            refine ⟨k + 1, ys ++ [(.slice a' e.data.length cap', e)], by omega, by go_num, ?_, HPU.out, ?_⟩
            · rw [List.map_append, HYS.out, kidK_step HAT.out, if_pos HCND.out]; rfl
            · exact below_grown (HBR.out.trans (HB7.out.mono HBR.out.size)) HOW.out HG8.out (Nat.le_refl _) hsz7
          case measure => simp [intOf]; omega
        · have hqd : q ≠ d := fun hc => hpar (by rw [← hbq, hc])
          have e1 : (q.toList == d.toList) = false := by
            rw [Bool.eq_false_iff]
            intro hc
            exact hqd (bl_inj (by rw [← toList_bl, ← toList_bl]; simpa using hc))
          have HCND := Lib.hid (show ¬ (decide (parentL (bl e.path) = bl d) && decide (e.path ≠ d)) = true by simp [hpar])
          clear hqd hpar hbq hps
          go_wp2_with fail
          refine (parent20 e.path q _ (HE.out.below HBR0.out) (vEnt_path HVE.out) HQ.out).mono ?_
          rintro e6 w6 ⟨rfl, hb6⟩
          have HB6 := Lib.hid hb6
          clear hb6 hcq
          go_wp2_with fail
          go_roundw
          case rel =>
            refine ⟨k + 1, ys, by omega, by go_num, ?_, HGOT.out.below HB6.out, HBR.out.trans (HB6.out.mono HBR.out.size)⟩
            rw [HYS.out, kidK_step HAT.out, if_neg HCND.out, List.append_nil]
          case measure => simp [intOf]; omega
      · have hk2 : k = n := by omega
        go_wp2_with fail
        go_ret2
        refine ⟨.slice av ys.length cv, ys, by rw [HLP.out]; rfl, ?_, HGOT.out.le HB5.out.size, HBR0.out⟩
        rw [HYS.out, hk2, HLP.out]
        unfold kidK
        rw [HN2.out, List.take_length]
        exact at_kids HT.out.ok HD0E.out
  · have hbd : bl d ≠ [] := fun h => h0 (size_zero.2 h)
    have e0 : d.toList.isEmpty = false := by rw [empty20, decide_eq_false hbd]
    cases hv : validP (bl d)
    · have HV := Lib.hid hv
      have HLP := Lib.hid (show listP L d = ([], 1) by unfold listP; rw [if_pos ⟨h0, hv⟩])
      clear hv h0 hbd
      go_enter Tryz.func16, Tryz.ntmps16
      go_wp2_with fail
      refine (valid20_is d false _ HE.out HV.out).mono ?_
      rintro e w1 ⟨rfl, hb1⟩
      have HB1 := Lib.hid hb1
      clear hb1
      go_wp2_with fail
      go_ret2
      exact list_bad HLP.out HB1.out
    · have HV := Lib.hid hv
      have HBK := Lib.hid (show (⟨(bl d).toArray⟩ : ByteArray) = d from bl_inj (bl_mk _))
      have HLP0 := Lib.hid (show listP L d = if dirE L (bl d) ≠ 0 then ([], dirE L (bl d)) else (kidsE L d, 0) by unfold listP; rw [if_neg (by simp [hv])]; rfl)
      cases hf : findE L d with
      | none =>
        have HF := Lib.hid hf
        have HLP := Lib.hid (show listP L d = ([], 4) by rw [HLP0.out]; unfold dirE; rw [if_neg hbd, HBK.out, hf]; rfl)
        clear hv h0 hbd hf
        go_enter Tryz.func16, Tryz.ntmps16
        go_wp2_with fail
        refine (valid20_is d true _ HE.out HV.out).mono ?_
        rintro e w1 ⟨rfl, hb1⟩
        have HB1 := Lib.hid hb1
        have hcl := (HT.out.below hb1).cell
        have hlk := (HT.out.below hb1).miss mapTy (zeroE_run w1) HDS.out HF.out true
        unfold zeroE at hlk
        simp only [if_true] at hlk
        clear hb1
        go_wp2_with fail
        go_ret2
        exact list_bad HLP.out (HB1.out.alloc HB1.out.size _)
      | some f =>
        have HF := Lib.hid hf
        by_cases hk : f.kind = 2
        · have e3 : (f.kind != 2) = false := by simp [hk]
          have HD0E := Lib.hid (show dirE L (bl d) = 0 by unfold dirE; rw [if_neg hbd, HBK.out, hf]; simp only [if_pos hk])
          have HLP := Lib.hid (show listP L d = (kidsE L d, 0) by rw [HLP0.out, HD0E.out]; rfl)
          clear hv h0 hbd hf hk
          go_enter Tryz.func16, Tryz.ntmps16
          go_wp2_with fail
          refine (valid20_is d true _ HE.out HV.out).mono ?_
          rintro e w1 ⟨rfl, hb1⟩
          have HB1 := Lib.hid hb1
          have hcl := (HT.out.below hb1).cell
          obtain ⟨v, hlk, hd, -⟩ := (HT.out.below hb1).hit mapTy HDS.out HF.out true
          obtain ⟨a, cap, rfl, -, -⟩ := hd.slice
          unfold entV at hlk
          simp only [if_true] at hlk
          clear hb1 hd
          go_wp2_with fail
          have HB4 := Lib.hid (HB1.out.alloc HB1.out.size (.cells #[.string f.path, .int .i64 f.kind, .int .i64 f.mode, .int .i64 f.time, .slice a f.data.length cap, .string f.link] 30))
          clear hcl hlk
          refine (paths_any S tb mb L d _ (HT.out.below HB4.out) HDS.out).mono ?_
          rintro e w5 ⟨v5, rfl, ho5, hb5⟩
          rw [← HN.out] at ho5
          obtain ⟨a5, c5, rfl, hn5, hm5⟩ := owns_shape ho5
          have HROW := Lib.hid (row_of_owns ho5)
          have HB5 := Lib.hid (below_next HB4.out hb5)
          unfold maxLen at hm5
          clear ho5 hb5
          go_wp2_with fail
          go_loopw [8, 36] (fun v i wr => ∃ (k : Nat) (ys : List VEnt), k ≤ n ∧ i = .int .i64 k ∧ ys.map Prod.snd = kidK L d k ∧ GotE w5.heap.size wr v ys ∧ Below w5.heap.size w5 wr) (fun _ i _ => n - (intOf i).toNat)
          case atStart => exact ⟨0, [], Nat.zero_le _, rfl, by simp [kidK], GotE.nil _ _, Below.refl _ _⟩
          case round =>
            obtain ⟨k, ys, hk, rfl, hys, hgot, hbr⟩ := hrel
            have HYS := Lib.hid hys
            have HGOT := Lib.hid hgot
            have HBR := Lib.hid hbr
            have HBR0 := Lib.hid (below_next HB5.out hbr)
            obtain ⟨av, cv, hsv, hvn, hvm⟩ := owns_shape hgot.row
            subst hsv
            unfold maxLen at hvm
            have HYL := Lib.hid (show ys.length ≤ 4096 by
              have := congrArg List.length hys
              rw [List.length_map] at this
              rw [this]
              unfold kidK
              have h1 := List.length_filter_le (fun e => decide (parentL (bl e.path) = bl d) && decide (e.path ≠ d)) ((atP L d).take k)
              rw [List.length_take] at h1
              omega)
            clear hys hgot hbr
            by_cases hlt : k < n
            · have hla : k < (atP L d).length := by rw [← HN2.out]; exact hlt
              obtain ⟨e, hat⟩ : ∃ e, (atP L d)[k]? = some e := ⟨_, List.getElem?_eq_getElem hla⟩
              have HAT := Lib.hid hat
              have heM := List.mem_of_getElem? hat
              have heL := atP_sub e heM
              have HVE := Lib.hid (HT.out.ok.val e heL)
              obtain ⟨v, hv⟩ := find_vent (HPERM.out.symm.subset heL)
              have HV := Lib.hid hv
              obtain ⟨hd0, hok0⟩ := HM.out.dat _ hv
              simp only at hd0 hok0
              obtain ⟨a1, cap1, rfl, hd1, hd2⟩ := hd0.slice
              have HD0 := Lib.hid hd0
              have HOK0 := Lib.hid hok0
              unfold maxLen at hd2
              obtain ⟨_, a3, c3, he3, _, _, h03⟩ := HROW.out
              simp only [Value.slice.injEq] at he3
              obtain ⟨rfl, -, rfl⟩ := he3
              rcases h03 with h03 | ⟨b, o, rfl, -, hcc⟩
              · omega
              have hc0 := hcc k (.string e.path) (by unfold pathsM; rw [List.getElem?_map, List.getElem?_map, hat]; rfl)
              have hcq := (HBR.out.cell (block_lt hc0)).trans hc0
              obtain ⟨q, hq⟩ : ∃ q : ByteArray, q = ⟨(parentL (bl e.path)).toArray⟩ := ⟨_, rfl⟩
              have hbq : bl q = parentL (bl e.path) := by rw [hq]; exact bl_mk _
              have HQ := Lib.hid hq
              have hps := parent_shorter (vEnt_path (HT.out.ok.val e heL))
              clear hat hcc hc0 hla heL heM hv hd0 hok0 hq
              by_cases hpar : parentL (bl e.path) = bl d
              · have hqd : q = d := bl_inj (hbq.trans hpar)
                have hne : e.path ≠ d := fun hc => by rw [hpar, ← hc] at hps; omega
                have e1 : (e.path.toList == d.toList) = false := by
                  rw [Bool.eq_false_iff]
                  intro hc
                  exact hne (bl_inj (by rw [← toList_bl, ← toList_bl]; simpa using hc))
                have e2 : (e.path.toList != d.toList) = true := by simp [bne, e1]
                have HCND := Lib.hid (show (decide (parentL (bl e.path) = bl d) && decide (e.path ≠ d)) = true by simp [hpar, hne])
                rw [hqd] at HQ
                clear hqd hne hpar hbq hps
                go_wp2_with fail
                refine (parent20 e.path d _ (HE.out.below HBR0.out) (vEnt_path HVE.out) HQ.out).mono ?_
                rintro e6 w6 ⟨rfl, hb6⟩
                have HB6 := Lib.hid hb6
                have HB60 := Lib.hid (below_next HBR0.out hb6)
                have hcl := (HT.out.below HB60.out).cell
                have hlk := (HM.out.below HB60.out).hit mapTy HV.out false
                unfold entV at hlk
                simp only [Bool.false_eq_true, if_false] at hlk
                clear hb6 hcq
                go_wp2_with fail
                refine (copied_flat S e _ _ (HD0.out.below HB60.out) (vEnt_data HVE.out)).mono ?_
                rintro e7 w7 ⟨a', cap', rfl, ho7, hb7⟩
                have HO7 := Lib.hid ho7
                have HB7 := Lib.hid (HB6.out.trans (hb7.mono HB6.out.size))
                have hsz7 : w5.heap.size ≤ w7.heap.size := Nat.le_trans HBR.out.size HB7.out.size
                have HOW := Lib.hid (own_below HGOT.out.row HB7.out)
                have hyl := HYL.out
                clear hb7 ho7 hcl hlk
                go_wp2_with (at_builtin; go_must (refine wpList_app1p Tryz.appEnts rfl _ _ rfl w5.heap.size (.slice av ys.length cv) ys.length (entsC ys) rfl w7 (entC (.slice a' e.data.length cap') e) _ rfl rfl entC_one HOW.out (by omega) hsz7 ?_); intro v' w8 hown8 hgrow8 _ hpl8; have HG8 := Lib.hid hgrow8; have HPU := Lib.hid (HGOT.out.push (y := (.slice a' e.data.length cap', e)) HB7.out (data_mono (data_of_owns HO7.out) (fun k hk => ⟨Nat.le_trans HB6.out.size hk.1, hk.2⟩)) HOK0.out HBR.out.size hown8 hgrow8 hpl8); clear hown8 hgrow8 hpl8)
                go_wp2_with fail
                go_roundw
                case rel =>
                  refine ⟨k + 1, ys ++ [(.slice a' e.data.length cap', e)], by omega, by go_num, ?_, HPU.out, ?_⟩
                  · rw [List.map_append, HYS.out, kidK_step HAT.out, if_pos HCND.out]; rfl
                  · exact below_grown (HBR.out.trans (HB7.out.mono HBR.out.size)) HOW.out HG8.out (Nat.le_refl _) hsz7
                case measure => simp [intOf]; omega
              · have hqd : q ≠ d := fun hc => hpar (by rw [← hbq, hc])
                have e1 : (q.toList == d.toList) = false := by
                  rw [Bool.eq_false_iff]
                  intro hc
                  exact hqd (bl_inj (by rw [← toList_bl, ← toList_bl]; simpa using hc))
                have HCND := Lib.hid (show ¬ (decide (parentL (bl e.path) = bl d) && decide (e.path ≠ d)) = true by simp [hpar])
                clear hqd hpar hbq hps
                go_wp2_with fail
                refine (parent20 e.path q _ (HE.out.below HBR0.out) (vEnt_path HVE.out) HQ.out).mono ?_
                rintro e6 w6 ⟨rfl, hb6⟩
                have HB6 := Lib.hid hb6
                clear hb6 hcq
                go_wp2_with fail
                go_roundw
                case rel =>
                  refine ⟨k + 1, ys, by omega, by go_num, ?_, HGOT.out.below HB6.out, HBR.out.trans (HB6.out.mono HBR.out.size)⟩
                  rw [HYS.out, kidK_step HAT.out, if_neg HCND.out, List.append_nil]
                case measure => simp [intOf]; omega
            · have hk2 : k = n := by omega
              go_wp2_with fail
              go_ret2
              refine ⟨.slice av ys.length cv, ys, by rw [HLP.out]; rfl, ?_, HGOT.out.le HB5.out.size, HBR0.out⟩
              rw [HYS.out, hk2, HLP.out]
              unfold kidK
              rw [HN2.out, List.take_length]
              exact at_kids HT.out.ok HD0E.out
        · have e3 : (f.kind != 2) = true := by simp [hk]
          have HLP := Lib.hid (show listP L d = ([], 13) by rw [HLP0.out]; unfold dirE; rw [if_neg hbd, HBK.out, hf]; simp only [if_neg hk]; rfl)
          clear hv h0 hbd hf hk
          go_enter Tryz.func16, Tryz.ntmps16
          go_wp2_with fail
          refine (valid20_is d true _ HE.out HV.out).mono ?_
          rintro e w1 ⟨rfl, hb1⟩
          have HB1 := Lib.hid hb1
          have hcl := (HT.out.below hb1).cell
          obtain ⟨v, hlk, hd, -⟩ := (HT.out.below hb1).hit mapTy HDS.out HF.out true
          obtain ⟨a, cap, rfl, -, -⟩ := hd.slice
          unfold entV at hlk
          simp only [if_true] at hlk
          clear hb1 hd
          go_wp2_with fail
          go_ret2
          exact list_bad HLP.out (HB1.out.alloc HB1.out.size _)

end Go.Proofs.YtbkhdpocmmjnbaaGreatDoor

/- Contracts of package filetree: Check, its plain law and its map. -/
namespace Go.Proofs.YtbkhdpocmmjnbaaGreatDoor
open Go.RowKit Go.Maps

theorem checkF_go : ∀ {m pre : List Ent} (r : List Ent), Tr (pre ++ m) → checkF pre (m ++ r) = checkF (pre ++ m) r
  | [], pre, r, _ => by simp
  | e :: m, pre, r, h => by
    have h1 : Tr (pre ++ [e]) := Tr.pre (M := m) (by simpa using h)
    have h2 := (checkAt_iff h1.pre e).2 h1
    have h3 := checkF_go (m := m) (pre := pre ++ [e]) r (by simpa using h)
    rw [List.cons_append, checkF, if_pos h2, h3]
    simp
theorem check_at {L : List Ent} (hl : L.length ≤ 4096) {k : Nat} (h : Tr (L.take k)) : checkP L = checkF (L.take k) (L.drop k) := by
  have h1 := checkF_go (m := L.take k) (pre := []) (L.drop k) (by simpa using h)
  rw [List.take_append_drop, List.nil_append] at h1
  unfold checkP
  rw [if_neg (by omega), h1]
theorem drop_cons {α : Type} {L : List α} {k : Nat} {e : α} (h : L[k]? = some e) : L.drop k = e :: L.drop (k + 1) := by
  obtain ⟨h1, h2⟩ := List.getElem?_eq_some_iff.1 h
  rw [List.drop_eq_getElem_cons h1, h2]
theorem check_stop {L : List Ent} (hl : L.length ≤ 4096) {k : Nat} (h : Tr (L.take k)) {e : Ent} (he : L[k]? = some e) {x : Int} (hx : checkAt (L.take k) e = x) (h0 : x ≠ 0) : checkP L = x := by
  rw [check_at hl h, drop_cons he, checkF, hx, if_neg h0]
theorem check_next {L : List Ent} {k : Nat} (h : Tr (L.take k)) {e : Ent} (he : L[k]? = some e) (hx : checkAt (L.take k) e = 0) : Tr (L.take (k + 1)) := by
  rw [List.take_add_one, he]
  exact (checkAt_iff h e).1 hx
theorem check_done {L : List Ent} (hl : L.length ≤ 4096) (h : Tr (L.take L.length)) : checkP L = 0 := by
  rw [check_at hl h, List.drop_length]; rfl
theorem check_big {L : List Ent} (hl : 4096 < L.length) : checkP L = 2 := by unfold checkP; rw [if_pos hl]
/-- The kinds by the paths. -/
def kindP (e : Ent) : Value × Value := (.string e.path, .int .i64 e.kind)
theorem mapIntTy : Tryz.prog.underlying 89 = some (.map 9 3) := Tryz.underlying89
theorem make_kinds (w : World) (n : Nat) (hn : n ≤ 4096) : (Instr.makeMap 89 (some (.int .i64 (n : Int)))).run Tryz.prog w = .ok (.map (some w.heap.size)) (w.alloc (.map #[] 0)) := by
  have h1 : IntKind.i64.wrap (n : Int) = n := by rw [IntKind.wrap_i64]; omega
  simp [Instr.makeMap, asInt, asIntOf]
theorem kinds_hit {w : World} {mb : Nat} {M : List Ent} (h : MapS Tryz.prog 9 w mb (M.map kindP)) {p : ByteArray} (hp : p.size ≤ maxLen) {f : Ent} (hf : findE M p = some f) :
    (Instr.lookup 89 (.map (some mb)) (.string p) true).run Tryz.prog w = .ok (.tuple #[.int .i64 f.kind, .bool true]) w := by
  obtain ⟨h1, h2⟩ := findE_some hf
  have h3 : (Value.string p, Value.int .i64 f.kind) ∈ M.map kindP := List.mem_map.2 ⟨f, h1, by rw [← h2]; rfl⟩
  have := h.is.hit lawStr20 mapIntTy (keyStr20 hp) h3 true
  simpa only [if_true] using this
theorem kinds_miss {w : World} {mb : Nat} {M : List Ent} (h : MapS Tryz.prog 9 w mb (M.map kindP)) {p : ByteArray} (hp : p.size ≤ maxLen) (hf : findE M p = none) :
    (Instr.lookup 89 (.map (some mb)) (.string p) true).run Tryz.prog w = .ok (.tuple #[.int .i64 0, .bool false]) w := by
  have hz : (zeroValue 3).run Tryz.prog w = .ok (.int .i64 0) w := by kernel_rfl
  have := h.is.miss lawStr20 mapIntTy hz (keyStr20 hp) (fun q hq e => by
    obtain ⟨x, hx, rfl⟩ := List.mem_map.1 hq
    simp only [kindP, Value.string.injEq] at e
    exact findE_none hf x hx e) true
  simpa only [if_true] using this
theorem kinds_new {M : List Ent} {e : Ent} (h : Tr (M ++ [e])) : ∀ q ∈ M.map kindP, q.1 ≠ Value.string e.path := by
  intro q hq hc
  obtain ⟨x, hx, rfl⟩ := List.mem_map.1 hq
  simp only [kindP, Value.string.injEq] at hc
  have hn := h.ord.nodup
  rw [List.map_append, List.nodup_append] at hn
  exact hn.2.2 x.path (List.mem_map.2 ⟨x, hx, rfl⟩) e.path (by simp) hc
theorem compare20 (a b : ByteArray) (o : Int) (w : World) (ha : a.size ≤ maxLen) (h : cmpL (bl a) (bl b) = o) : Calls Tryz.prog 53 #[.string a, .string b] w fun e w' => e = .returned (.int .i64 o) ∧ Below w.heap.size w w' := by
  rw [← h]; exact compare_any a b w (by unfold maxLen at ha; omega)
theorem after_zero (e : Ent) : afterE [] e = true := rfl
theorem after_at {L : List Ent} {k : Nat} {f e : Ent} (hf : L[k]? = some f) : afterE (L.take (k + 1)) e = decide (cmpL (bl f.path) (bl e.path) < 0) := by
  have : (L.take (k + 1)).getLast? = some f := by rw [List.take_add_one, hf]; simp
  unfold afterE
  rw [this]; rfl

end Go.Proofs.YtbkhdpocmmjnbaaGreatDoor

/- Contracts of package filetree: Check. -/
namespace Go.Proofs.YtbkhdpocmmjnbaaGreatDoor
open Go.RowKit Go.Maps


/-- What the call returns in a round, from the entry's own cells. -/
def RoundC (L : List Ent) (mb : Nat) (w : World) (k : Nat) (wr : World) : Prop := Tr (L.take k) ∧ MapS Tryz.prog 9 wr mb ((L.take k).map kindP) ∧ Below w.heap.size w wr
set_option maxRecDepth 100000 in
set_option maxHeartbeats 4000000 in
theorem check_any (S : Nat → Prop) (L : List Ent) (v : Value) (w : World) (hv : EntsAt S w v L) (henv : Env w) : Calls Tryz.prog 41 #[v] w fun e w' => e = .returned (.int .i64 (checkP L)) ∧ Below w.heap.size w w' := by
  have HV := Lib.hid hv
  have HE := Lib.hid henv
  obtain ⟨a, cap, rfl, hc, hm, -⟩ := SeqAt.shape hv EntR.len
  unfold maxLen at hm
  obtain ⟨n, hn⟩ : ∃ n, n = L.length := ⟨_, rfl⟩
  have HN := Lib.hid hn
  rw [← hn] at hc HV ⊢
  clear hv henv
  by_cases hbig : 4096 < n
  · have hbi : (4096 : Int) < (n : Int) := by omega
    have HC := Lib.hid (check_big (by rw [← hn]; exact hbig))
    clear hbig hn
    go_enter Tryz.func41, Tryz.ntmps41
    go_wp2_with fail
    go_ret
    exact ⟨ret_int (by rw [HC.out]), Below.refl _ _⟩
  · have hbi : (n : Int) ≤ (4096 : Int) := by omega
    have hmk := make_kinds w n (by omega)
    have HL4 := Lib.hid (show L.length ≤ 4096 by omega)
    clear hbig hn
    go_enter Tryz.func41, Tryz.ntmps41
    go_wp2_with fail
    obtain ⟨W0, hW0⟩ : ∃ W0, W0 = w.alloc (.map #[] 0) := ⟨_, rfl⟩
    rw [← hW0]
    have HM0 := Lib.hid (show MapS Tryz.prog 9 W0 w.heap.size [] by rw [hW0]; exact MapS.made w)
    have HB0 := Lib.hid (show Below w.heap.size w W0 by rw [hW0]; exact (Below.refl _ _).alloc (Nat.le_refl _) _)
    clear hW0
    clear hmk
    go_loopw [18] (fun i wr => ∃ k : Nat, k ≤ n ∧ i = .int .i64 k ∧ RoundC L w.heap.size w k wr) (fun i _ => n - (intOf i).toNat)
    case atStart => exact ⟨0, Nat.zero_le _, rfl, ⟨List.Pairwise.nil, by simp, by simp⟩, HM0.out, HB0.out⟩
    case round =>
      obtain ⟨k, hk, rfl, htr, hkm, hbr⟩ := hrel
      have HTR := Lib.hid htr
      have HKM := Lib.hid hkm
      have HBR := Lib.hid hbr
      clear htr hkm hbr
      by_cases hlt : k < n
      · obtain ⟨e, he⟩ : ∃ e, L[k]? = some e := ⟨L[k]'(by rw [← HN.out]; exact hlt), by simp⟩
        obtain ⟨b, o, dv, rfl, -, hb, hd, hok, -, q0, q1, q2, q3, q4, q5⟩ := ents_at (HV.out.below HBR.out) he
        have HAT := Lib.hid he
        have HD := Lib.hid hd
        have HOK := Lib.hid hok
        obtain ⟨a1, cap1, rfl, hd1, hd2⟩ := hd.slice
        unfold maxLen at hd2
        clear he hd hok
        cases hve : vEnt e
        · have HVE := Lib.hid hve
          have HCA := Lib.hid (show checkAt (L.take k) e = 1 by unfold checkAt; rw [hve]; rfl)
          clear hve
          go_wp2_with fail
          obtain ⟨W, hW⟩ : ∃ W, W = wr.alloc (.cells #[.string e.path, .int .i64 e.kind, .int .i64 e.mode, .int .i64 e.time, .slice a1 e.data.length cap1, .string e.link] 30) := ⟨_, rfl⟩
          rw [← hW]
          have HX := Lib.hid (show W.heap[wr.heap.size]? = some (.cells #[.string e.path, .int .i64 e.kind, .int .i64 e.mode, .int .i64 e.time, .slice a1 e.data.length cap1, .string e.link] 30 (0, 0)) by rw [hW]; exact new20 wr _)
          have HWL := Lib.hid (show Below wr.heap.size wr W by rw [hW]; exact (Below.refl _ _).alloc (Nat.le_refl _) _)
          have HBW := Lib.hid (below_next HBR.out HWL.out)
          clear hW
          refine (validE_is S e _ false _ (HD.out.below HWL.out) HOK.out (HE.out.below HBW.out) HVE.out).mono ?_
          rintro e7 w7 ⟨rfl, hb7⟩
          have HB9 := Lib.hid (below_next HBW.out hb7)
          clear hb7
          go_wp2_with fail
          go_ret
          exact ⟨ret_int (by rw [check_stop HL4.out HTR.out HAT.out (x := 1) HCA.out (by decide)]), HB9.out⟩
        · have HVE := Lib.hid hve
          obtain ⟨q, hq⟩ : ∃ q : ByteArray, q = ⟨(parentL (bl e.path)).toArray⟩ := ⟨_, rfl⟩
          have HBQ := Lib.hid (show bl q = parentL (bl e.path) by rw [hq]; exact bl_mk _)
          have HQ := Lib.hid hq
          have HQS := Lib.hid (show q.size ≤ maxLen by
            have h1 := parent_shorter (vEnt_path hve)
            have h2 := valid_size (vEnt_path hve)
            rw [size_bl, HBQ.out]; unfold maxLen; omega)
          clear hve hq
          rcases Nat.eq_zero_or_pos k with hk0 | hk0
          · have e9 : decide (0 < k) = false := by simp; omega
            have e8 : (k : Int) ≤ 0 := by omega
            have HCV := Lib.hid (show (vEnt e && afterE (L.take k) e) = true by rw [hk0, HVE.out]; rfl)
            clear hk0
            go_wp2_with fail
            obtain ⟨W, hW⟩ : ∃ W, W = wr.alloc (.cells #[.string e.path, .int .i64 e.kind, .int .i64 e.mode, .int .i64 e.time, .slice a1 e.data.length cap1, .string e.link] 30) := ⟨_, rfl⟩
            rw [← hW]
            have HX := Lib.hid (show W.heap[wr.heap.size]? = some (.cells #[.string e.path, .int .i64 e.kind, .int .i64 e.mode, .int .i64 e.time, .slice a1 e.data.length cap1, .string e.link] 30 (0, 0)) by rw [hW]; exact new20 wr _)
            have HWL := Lib.hid (show Below wr.heap.size wr W by rw [hW]; exact (Below.refl _ _).alloc (Nat.le_refl _) _)
            have HBW := Lib.hid (below_next HBR.out HWL.out)
            clear hW
            refine (validE_is S e _ true _ (HD.out.below HWL.out) HOK.out (HE.out.below HBW.out) HVE.out).mono ?_
            rintro e7 w7 ⟨rfl, hb7⟩
            have HX7 := Lib.hid ((hb7.block wr.heap.size (lt20 HX.out)).trans HX.out)
            have HL7 := Lib.hid (HWL.out.trans (hb7.mono HWL.out.size))
            have c0 := cell20 (k := 0) HX7.out
            have c1 := cell20 (k := 1) HX7.out
            have c2 := cell20 (k := 2) HX7.out
            have c3 := cell20 (k := 3) HX7.out
            have c4 := cell20 (k := 4) HX7.out
            have c5 := cell20 (k := 5) HX7.out
            simp only [List.getElem?_toArray, List.getElem?_cons_succ, List.getElem?_cons_zero] at c0 c1 c2 c3 c4 c5
            clear hb7
            go_wp2_with fail
            refine wp_region_segs [some 11, none, some 2] (by kernel_rfl) (by kernel_rfl) (by kernel_rfl) ?_
            simp only [wpSegs, List.take_succ_cons, List.take_zero, List.drop_succ_cons, List.drop_zero]
            obtain ⟨wd, hwd⟩ : ∃ wd : World, wd = w7.drew := ⟨_, rfl⟩
            rw [← hwd]
            have HLD := Lib.hid (show Below wr.heap.size wr wd by rw [hwd]; exact HL7.out.trans ((Below.refl w7.heap.size w7).drew.mono HL7.out.size))
            have HXD := Lib.hid (show wd.heap[wr.heap.size]? = some (.cells #[.string e.path, .int .i64 e.kind, .int .i64 e.mode, .int .i64 e.time, .slice a1 e.data.length cap1, .string e.link] 30 (0, 0)) by rw [hwd]; exact HX7.out)
            clear hwd c0 c1 c2 c3 c4 c5
            have c0 := cell20 (k := 0) HXD.out
            have c1 := cell20 (k := 1) HXD.out
            have c2 := cell20 (k := 2) HXD.out
            have c3 := cell20 (k := 3) HXD.out
            have c4 := cell20 (k := 4) HXD.out
            have c5 := cell20 (k := 5) HXD.out
            simp only [List.getElem?_toArray, List.getElem?_cons_succ, List.getElem?_cons_zero] at c0 c1 c2 c3 c4 c5
            repeat (first | (refine seg_skip rfl ?_; simp only [Act.put, List.setIfInBounds_toArray, List.set_cons_succ, List.set_cons_zero]) | (refine seg_run rfl (fun K hK => ?_); go_simp; refine hK _ ?_; clear hK K))
            refine seg_nil ?_
            refine bar_skip rfl ?_
            simp only [Act.put, List.setIfInBounds_toArray, List.set_cons_succ, List.set_cons_zero]
            repeat (first | (refine seg_skip rfl ?_; simp only [Act.put, List.setIfInBounds_toArray, List.set_cons_succ, List.set_cons_zero]) | (refine seg_run rfl (fun K hK => ?_); go_simp; refine hK _ ?_; clear hK K))
            refine seg_nil ?_
            clear c0 c1 c2 c3 c4 c5
            have HL8 := Lib.hid HLD.out
            have HX8 := Lib.hid HXD.out
            have HB8 := Lib.hid (below_next HBR.out HLD.out)
            have c0 := cell20 (k := 0) HX8.out
            have c1 := cell20 (k := 1) HX8.out
            have c2 := cell20 (k := 2) HX8.out
            have c3 := cell20 (k := 3) HX8.out
            have c4 := cell20 (k := 4) HX8.out
            have c5 := cell20 (k := 5) HX8.out
            simp only [List.getElem?_toArray, List.getElem?_cons_succ, List.getElem?_cons_zero] at c0 c1 c2 c3 c4 c5
            go_wp2_with fail
            by_cases h0 : parentL (bl e.path) = []
            · have e1 : q.toList.isEmpty = true := by rw [empty20, HBQ.out, decide_eq_true h0]
              have HTN := Lib.hid (check_next HTR.out HAT.out (show checkAt (L.take k) e = 0 by unfold checkAt; rw [if_pos HCV.out]; unfold dirE; rw [if_pos h0]))
              clear h0
              refine (parent20 e.path q _ (HE.out.below HB8.out) (vEnt_path HVE.out) HQ.out).mono ?_
              rintro e9 w9 ⟨rfl, hb9⟩
              have HL9 := Lib.hid (HL8.out.trans (hb9.mono HL8.out.size))
              have HB9 := Lib.hid (below_next HB8.out hb9)
              have HX9 := Lib.hid ((hb9.block wr.heap.size (lt20 HX8.out)).trans HX8.out)
              have HK9 := Lib.hid (HKM.out.same (HL9.out.block w.heap.size HKM.out.lt))
              clear hb9
              have c0 := cell20 (k := 0) HX9.out
              have c1 := cell20 (k := 1) HX9.out
              have c2 := cell20 (k := 2) HX9.out
              have c3 := cell20 (k := 3) HX9.out
              have c4 := cell20 (k := 4) HX9.out
              have c5 := cell20 (k := 5) HX9.out
              simp only [List.getElem?_toArray, List.getElem?_cons_succ, List.getElem?_cons_zero] at c0 c1 c2 c3 c4 c5
              go_wp2_with (at_mapUpdate; go_must (refine wpList_putS lawStr20 rfl _ _ _ _ rfl mapIntTy w.heap.size _ HK9.out rfl (.string e.path) (.int .i64 e.kind) rfl rfl (keyStr20 HOK.out.pth) (kinds_new (by have h1 := HTN.out; rw [List.take_add_one, HAT.out] at h1; exact h1)) ?_); intro w10 hm10 hg10)
              have HM10 := Lib.hid hm10
              have HG10 := Lib.hid hg10
              clear hm10 hg10 c0 c1 c2 c3 c4 c5
              go_wp2_with fail
              go_roundw
              case rel =>
                refine ⟨k + 1, by omega, by go_num, HTN.out, ?_, ?_⟩
                · rw [List.take_add_one, HAT.out, List.map_append]; exact HM10.out
                · exact HB9.out.grown HG10.out HB9.out.size (fun k e => by cases e; exact Nat.le_refl _)
              case measure => simp [intOf]; omega
            · have e1 : q.toList.isEmpty = false := by rw [empty20, HBQ.out, decide_eq_false h0]
              have HDI := Lib.hid (show ∀ x, (match findE (L.take k) q with | none => (4 : Int) | some f => if f.kind = 2 then 0 else 13) = x → checkAt (L.take k) e = x from fun x hx => by unfold checkAt; rw [if_pos HCV.out]; unfold dirE; rw [if_neg h0, ← HQ.out]; exact hx)
              clear h0
              cases hf : findE (L.take k) q with
              | none =>
                have HF := Lib.hid hf
                have HCA := Lib.hid (HDI.out 4 (by rw [hf]))
                clear hf
                refine (parent20 e.path q _ (HE.out.below HB8.out) (vEnt_path HVE.out) HQ.out).mono ?_
                rintro e9 w9 ⟨rfl, hb9⟩
                have HL9 := Lib.hid (HL8.out.trans (hb9.mono HL8.out.size))
                have HB9 := Lib.hid (below_next HB8.out hb9)
                have HX9 := Lib.hid ((hb9.block wr.heap.size (lt20 HX8.out)).trans HX8.out)
                have HK9 := Lib.hid (HKM.out.same (HL9.out.block w.heap.size HKM.out.lt))
                clear hb9
                have c0 := cell20 (k := 0) HX9.out
                have c1 := cell20 (k := 1) HX9.out
                have c2 := cell20 (k := 2) HX9.out
                have c3 := cell20 (k := 3) HX9.out
                have c4 := cell20 (k := 4) HX9.out
                have c5 := cell20 (k := 5) HX9.out
                simp only [List.getElem?_toArray, List.getElem?_cons_succ, List.getElem?_cons_zero] at c0 c1 c2 c3 c4 c5
                have hlk := kinds_miss HK9.out HQS.out HF.out
                go_wp2_with fail
                go_ret
                exact ⟨ret_int (by rw [check_stop HL4.out HTR.out HAT.out (x := 4) HCA.out (by decide)]), HB9.out⟩
              | some f =>
                have HF := Lib.hid hf
                by_cases hk2 : f.kind = 2
                · have e3 : (f.kind != 2) = false := by simp [hk2]
                  have HTN := Lib.hid (check_next HTR.out HAT.out (HDI.out 0 (by rw [hf]; simp only [if_pos hk2])))
                  clear hf hk2
                  refine (parent20 e.path q _ (HE.out.below HB8.out) (vEnt_path HVE.out) HQ.out).mono ?_
                  rintro e9 w9 ⟨rfl, hb9⟩
                  have HL9 := Lib.hid (HL8.out.trans (hb9.mono HL8.out.size))
                  have HB9 := Lib.hid (below_next HB8.out hb9)
                  have HX9 := Lib.hid ((hb9.block wr.heap.size (lt20 HX8.out)).trans HX8.out)
                  have HK9 := Lib.hid (HKM.out.same (HL9.out.block w.heap.size HKM.out.lt))
                  clear hb9
                  have c0 := cell20 (k := 0) HX9.out
                  have c1 := cell20 (k := 1) HX9.out
                  have c2 := cell20 (k := 2) HX9.out
                  have c3 := cell20 (k := 3) HX9.out
                  have c4 := cell20 (k := 4) HX9.out
                  have c5 := cell20 (k := 5) HX9.out
                  simp only [List.getElem?_toArray, List.getElem?_cons_succ, List.getElem?_cons_zero] at c0 c1 c2 c3 c4 c5
                  have hlk := kinds_hit HK9.out HQS.out HF.out
                  go_wp2_with (at_mapUpdate; go_must (refine wpList_putS lawStr20 rfl _ _ _ _ rfl mapIntTy w.heap.size _ HK9.out rfl (.string e.path) (.int .i64 e.kind) rfl rfl (keyStr20 HOK.out.pth) (kinds_new (by have h1 := HTN.out; rw [List.take_add_one, HAT.out] at h1; exact h1)) ?_); intro w10 hm10 hg10)
                  have HM10 := Lib.hid hm10
                  have HG10 := Lib.hid hg10
                  clear hm10 hg10 c0 c1 c2 c3 c4 c5
                  go_wp2_with fail
                  go_roundw
                  case rel =>
                    refine ⟨k + 1, by omega, by go_num, HTN.out, ?_, ?_⟩
                    · rw [List.take_add_one, HAT.out, List.map_append]; exact HM10.out
                    · exact HB9.out.grown HG10.out HB9.out.size (fun k e => by cases e; exact Nat.le_refl _)
                  case measure => simp [intOf]; omega
                · have e3 : (f.kind != 2) = true := by simp [hk2]
                  have HCA := Lib.hid (HDI.out 13 (by rw [hf]; simp only [if_neg hk2]))
                  clear hf hk2
                  refine (parent20 e.path q _ (HE.out.below HB8.out) (vEnt_path HVE.out) HQ.out).mono ?_
                  rintro e9 w9 ⟨rfl, hb9⟩
                  have HL9 := Lib.hid (HL8.out.trans (hb9.mono HL8.out.size))
                  have HB9 := Lib.hid (below_next HB8.out hb9)
                  have HX9 := Lib.hid ((hb9.block wr.heap.size (lt20 HX8.out)).trans HX8.out)
                  have HK9 := Lib.hid (HKM.out.same (HL9.out.block w.heap.size HKM.out.lt))
                  clear hb9
                  have c0 := cell20 (k := 0) HX9.out
                  have c1 := cell20 (k := 1) HX9.out
                  have c2 := cell20 (k := 2) HX9.out
                  have c3 := cell20 (k := 3) HX9.out
                  have c4 := cell20 (k := 4) HX9.out
                  have c5 := cell20 (k := 5) HX9.out
                  simp only [List.getElem?_toArray, List.getElem?_cons_succ, List.getElem?_cons_zero] at c0 c1 c2 c3 c4 c5
                  have hlk := kinds_hit HK9.out HQS.out HF.out
                  go_wp2_with fail
                  go_ret
                  exact ⟨ret_int (by rw [check_stop HL4.out HTR.out HAT.out (x := 13) HCA.out (by decide)]), HB9.out⟩
          · obtain ⟨j, rfl⟩ : ∃ j, k = j + 1 := ⟨k - 1, by omega⟩
            obtain ⟨f, hf⟩ : ∃ f, L[j]? = some f := ⟨L[j]'(by rw [← HN.out]; omega), by simp⟩
            obtain ⟨b', o', dv', he', -, -, -, hokf, -, p0, -⟩ := ents_at (HV.out.below HBR.out) hf
            simp only [Option.some.injEq, Addr.mk.injEq, and_true] at he'
            obtain ⟨rfl, rfl⟩ := he'
            have HPF := Lib.hid hokf.pth
            obtain ⟨c, hc⟩ : ∃ c, cmpL (bl f.path) (bl e.path) = c := ⟨_, rfl⟩
            have HC := Lib.hid hc
            have e9 : decide (0 < j + 1) = true := by simp
            have hjn : j < n := by omega
            have hjn2 : (j : Int) < (n : Int) := by omega
            have hjn3 : decide (j < n) = true := by simp; omega
            have hwj : IntKind.i64.wrap (j : Int) = j := by rw [IntKind.wrap_i64]; omega
            have HAF := Lib.hid (show afterE (L.take (j + 1)) e = decide (c < 0) by rw [after_at hf, hc])
            clear hf hokf hc hk0
            by_cases hneg : c < 0
            · have HCV := Lib.hid (show (vEnt e && afterE (L.take (j + 1)) e) = true by rw [HVE.out, HAF.out, decide_eq_true hneg]; rfl)
              have e8 : decide (0 ≤ c) = false := by simp; omega
              go_wp2_with fail
              obtain ⟨W, hW⟩ : ∃ W, W = wr.alloc (.cells #[.string e.path, .int .i64 e.kind, .int .i64 e.mode, .int .i64 e.time, .slice a1 e.data.length cap1, .string e.link] 30) := ⟨_, rfl⟩
              rw [← hW]
              have HX := Lib.hid (show W.heap[wr.heap.size]? = some (.cells #[.string e.path, .int .i64 e.kind, .int .i64 e.mode, .int .i64 e.time, .slice a1 e.data.length cap1, .string e.link] 30 (0, 0)) by rw [hW]; exact new20 wr _)
              have HWL := Lib.hid (show Below wr.heap.size wr W by rw [hW]; exact (Below.refl _ _).alloc (Nat.le_refl _) _)
              have HBW := Lib.hid (below_next HBR.out HWL.out)
              clear hW
              refine (validE_is S e _ true _ (HD.out.below HWL.out) HOK.out (HE.out.below HBW.out) HVE.out).mono ?_
              rintro e7 w7 ⟨rfl, hb7⟩
              have HX7 := Lib.hid ((hb7.block wr.heap.size (lt20 HX.out)).trans HX.out)
              have HL7 := Lib.hid (HWL.out.trans (hb7.mono HWL.out.size))
              have c0 := cell20 (k := 0) HX7.out
              have c1 := cell20 (k := 1) HX7.out
              have c2 := cell20 (k := 2) HX7.out
              have c3 := cell20 (k := 3) HX7.out
              have c4 := cell20 (k := 4) HX7.out
              have c5 := cell20 (k := 5) HX7.out
              simp only [List.getElem?_toArray, List.getElem?_cons_succ, List.getElem?_cons_zero] at c0 c1 c2 c3 c4 c5
              clear hb7
              go_wp2_with fail
              refine wp_region_segs [some 11, none, some 2] (by kernel_rfl) (by kernel_rfl) (by kernel_rfl) ?_
              simp only [wpSegs, List.take_succ_cons, List.take_zero, List.drop_succ_cons, List.drop_zero]
              obtain ⟨wd, hwd⟩ : ∃ wd : World, wd = w7.drew := ⟨_, rfl⟩
              rw [← hwd]
              have HLD := Lib.hid (show Below wr.heap.size wr wd by rw [hwd]; exact HL7.out.trans ((Below.refl w7.heap.size w7).drew.mono HL7.out.size))
              have HXD := Lib.hid (show wd.heap[wr.heap.size]? = some (.cells #[.string e.path, .int .i64 e.kind, .int .i64 e.mode, .int .i64 e.time, .slice a1 e.data.length cap1, .string e.link] 30 (0, 0)) by rw [hwd]; exact HX7.out)
              clear hwd c0 c1 c2 c3 c4 c5
              have c0 := cell20 (k := 0) HXD.out
              have c1 := cell20 (k := 1) HXD.out
              have c2 := cell20 (k := 2) HXD.out
              have c3 := cell20 (k := 3) HXD.out
              have c4 := cell20 (k := 4) HXD.out
              have c5 := cell20 (k := 5) HXD.out
              simp only [List.getElem?_toArray, List.getElem?_cons_succ, List.getElem?_cons_zero] at c0 c1 c2 c3 c4 c5
              have y0 := (HLD.out.cell (block_lt p0)).trans p0
              repeat (first | (refine seg_skip rfl ?_; simp only [Act.put, List.setIfInBounds_toArray, List.set_cons_succ, List.set_cons_zero]) | (refine seg_run rfl (fun K hK => ?_); go_simp; refine hK _ ?_; clear hK K))
              refine seg_nil ?_
              refine bar_run rfl (fun K hK => ?_)
              go_wp2_with (go_at_call 53; refine (compare20 f.path e.path c _ HPF.out HC.out).mono ?_; rintro e8' w8 ⟨rfl, hb8⟩; have HL8 := Lib.hid (HLD.out.trans (hb8.mono HLD.out.size)); have HX8 := Lib.hid ((hb8.block wr.heap.size (lt20 HXD.out)).trans HXD.out); clear hb8 c0 c1 c2 c3 c4 c5 y0)
              repeat (first | (refine seg_skip rfl ?_; simp only [Act.put, List.setIfInBounds_toArray, List.set_cons_succ, List.set_cons_zero]) | (refine seg_run rfl (fun K hK => ?_); go_simp; refine hK _ ?_; clear hK K))
              refine seg_nil ?_
              have HB8 := Lib.hid (below_next HBR.out HL8.out)
              have c0 := cell20 (k := 0) HX8.out
              have c1 := cell20 (k := 1) HX8.out
              have c2 := cell20 (k := 2) HX8.out
              have c3 := cell20 (k := 3) HX8.out
              have c4 := cell20 (k := 4) HX8.out
              have c5 := cell20 (k := 5) HX8.out
              simp only [List.getElem?_toArray, List.getElem?_cons_succ, List.getElem?_cons_zero] at c0 c1 c2 c3 c4 c5
              go_wp2_with fail
              by_cases h0 : parentL (bl e.path) = []
              · have e1 : q.toList.isEmpty = true := by rw [empty20, HBQ.out, decide_eq_true h0]
                have HTN := Lib.hid (check_next HTR.out HAT.out (show checkAt (L.take (j + 1)) e = 0 by unfold checkAt; rw [if_pos HCV.out]; unfold dirE; rw [if_pos h0]))
                clear h0
                refine (parent20 e.path q _ (HE.out.below HB8.out) (vEnt_path HVE.out) HQ.out).mono ?_
                rintro e9 w9 ⟨rfl, hb9⟩
                have HL9 := Lib.hid (HL8.out.trans (hb9.mono HL8.out.size))
                have HB9 := Lib.hid (below_next HB8.out hb9)
                have HX9 := Lib.hid ((hb9.block wr.heap.size (lt20 HX8.out)).trans HX8.out)
                have HK9 := Lib.hid (HKM.out.same (HL9.out.block w.heap.size HKM.out.lt))
                clear hb9
                have c0 := cell20 (k := 0) HX9.out
                have c1 := cell20 (k := 1) HX9.out
                have c2 := cell20 (k := 2) HX9.out
                have c3 := cell20 (k := 3) HX9.out
                have c4 := cell20 (k := 4) HX9.out
                have c5 := cell20 (k := 5) HX9.out
                simp only [List.getElem?_toArray, List.getElem?_cons_succ, List.getElem?_cons_zero] at c0 c1 c2 c3 c4 c5
                go_wp2_with (at_mapUpdate; go_must (refine wpList_putS lawStr20 rfl _ _ _ _ rfl mapIntTy w.heap.size _ HK9.out rfl (.string e.path) (.int .i64 e.kind) rfl rfl (keyStr20 HOK.out.pth) (kinds_new (by have h1 := HTN.out; rw [List.take_add_one, HAT.out] at h1; exact h1)) ?_); intro w10 hm10 hg10)
                have HM10 := Lib.hid hm10
                have HG10 := Lib.hid hg10
                clear hm10 hg10 c0 c1 c2 c3 c4 c5
                go_wp2_with fail
                go_roundw
                case rel =>
                  refine ⟨j + 1 + 1, by omega, by go_num, HTN.out, ?_, ?_⟩
                  · rw [List.take_add_one, HAT.out, List.map_append]; exact HM10.out
                  · exact HB9.out.grown HG10.out HB9.out.size (fun k e => by cases e; exact Nat.le_refl _)
                case measure => simp [intOf]; omega
              · have e1 : q.toList.isEmpty = false := by rw [empty20, HBQ.out, decide_eq_false h0]
                have HDI := Lib.hid (show ∀ x, (match findE (L.take (j + 1)) q with | none => (4 : Int) | some g => if g.kind = 2 then 0 else 13) = x → checkAt (L.take (j + 1)) e = x from fun x hx => by unfold checkAt; rw [if_pos HCV.out]; unfold dirE; rw [if_neg h0, ← HQ.out]; exact hx)
                clear h0
                cases hf : findE (L.take (j + 1)) q with
                | none =>
                  have HF := Lib.hid hf
                  have HCA := Lib.hid (HDI.out 4 (by rw [hf]))
                  clear hf
                  refine (parent20 e.path q _ (HE.out.below HB8.out) (vEnt_path HVE.out) HQ.out).mono ?_
                  rintro e9 w9 ⟨rfl, hb9⟩
                  have HL9 := Lib.hid (HL8.out.trans (hb9.mono HL8.out.size))
                  have HB9 := Lib.hid (below_next HB8.out hb9)
                  have HX9 := Lib.hid ((hb9.block wr.heap.size (lt20 HX8.out)).trans HX8.out)
                  have HK9 := Lib.hid (HKM.out.same (HL9.out.block w.heap.size HKM.out.lt))
                  clear hb9
                  have c0 := cell20 (k := 0) HX9.out
                  have c1 := cell20 (k := 1) HX9.out
                  have c2 := cell20 (k := 2) HX9.out
                  have c3 := cell20 (k := 3) HX9.out
                  have c4 := cell20 (k := 4) HX9.out
                  have c5 := cell20 (k := 5) HX9.out
                  simp only [List.getElem?_toArray, List.getElem?_cons_succ, List.getElem?_cons_zero] at c0 c1 c2 c3 c4 c5
                  have hlk := kinds_miss HK9.out HQS.out HF.out
                  go_wp2_with fail
                  go_ret
                  exact ⟨ret_int (by rw [check_stop HL4.out HTR.out HAT.out (x := 4) HCA.out (by decide)]), HB9.out⟩
                | some g =>
                  have HF := Lib.hid hf
                  by_cases hk2 : g.kind = 2
                  · have e3 : (g.kind != 2) = false := by simp [hk2]
                    have HTN := Lib.hid (check_next HTR.out HAT.out (HDI.out 0 (by rw [hf]; simp only [if_pos hk2])))
                    clear hf hk2
                    refine (parent20 e.path q _ (HE.out.below HB8.out) (vEnt_path HVE.out) HQ.out).mono ?_
                    rintro e9 w9 ⟨rfl, hb9⟩
                    have HL9 := Lib.hid (HL8.out.trans (hb9.mono HL8.out.size))
                    have HB9 := Lib.hid (below_next HB8.out hb9)
                    have HX9 := Lib.hid ((hb9.block wr.heap.size (lt20 HX8.out)).trans HX8.out)
                    have HK9 := Lib.hid (HKM.out.same (HL9.out.block w.heap.size HKM.out.lt))
                    clear hb9
                    have c0 := cell20 (k := 0) HX9.out
                    have c1 := cell20 (k := 1) HX9.out
                    have c2 := cell20 (k := 2) HX9.out
                    have c3 := cell20 (k := 3) HX9.out
                    have c4 := cell20 (k := 4) HX9.out
                    have c5 := cell20 (k := 5) HX9.out
                    simp only [List.getElem?_toArray, List.getElem?_cons_succ, List.getElem?_cons_zero] at c0 c1 c2 c3 c4 c5
                    have hlk := kinds_hit HK9.out HQS.out HF.out
                    go_wp2_with (at_mapUpdate; go_must (refine wpList_putS lawStr20 rfl _ _ _ _ rfl mapIntTy w.heap.size _ HK9.out rfl (.string e.path) (.int .i64 e.kind) rfl rfl (keyStr20 HOK.out.pth) (kinds_new (by have h1 := HTN.out; rw [List.take_add_one, HAT.out] at h1; exact h1)) ?_); intro w10 hm10 hg10)
                    have HM10 := Lib.hid hm10
                    have HG10 := Lib.hid hg10
                    clear hm10 hg10 c0 c1 c2 c3 c4 c5
                    go_wp2_with fail
                    go_roundw
                    case rel =>
                      refine ⟨j + 1 + 1, by omega, by go_num, HTN.out, ?_, ?_⟩
                      · rw [List.take_add_one, HAT.out, List.map_append]; exact HM10.out
                      · exact HB9.out.grown HG10.out HB9.out.size (fun k e => by cases e; exact Nat.le_refl _)
                    case measure => simp [intOf]; omega
                  · have e3 : (g.kind != 2) = true := by simp [hk2]
                    have HCA := Lib.hid (HDI.out 13 (by rw [hf]; simp only [if_neg hk2]))
                    clear hf hk2
                    refine (parent20 e.path q _ (HE.out.below HB8.out) (vEnt_path HVE.out) HQ.out).mono ?_
                    rintro e9 w9 ⟨rfl, hb9⟩
                    have HL9 := Lib.hid (HL8.out.trans (hb9.mono HL8.out.size))
                    have HB9 := Lib.hid (below_next HB8.out hb9)
                    have HX9 := Lib.hid ((hb9.block wr.heap.size (lt20 HX8.out)).trans HX8.out)
                    have HK9 := Lib.hid (HKM.out.same (HL9.out.block w.heap.size HKM.out.lt))
                    clear hb9
                    have c0 := cell20 (k := 0) HX9.out
                    have c1 := cell20 (k := 1) HX9.out
                    have c2 := cell20 (k := 2) HX9.out
                    have c3 := cell20 (k := 3) HX9.out
                    have c4 := cell20 (k := 4) HX9.out
                    have c5 := cell20 (k := 5) HX9.out
                    simp only [List.getElem?_toArray, List.getElem?_cons_succ, List.getElem?_cons_zero] at c0 c1 c2 c3 c4 c5
                    have hlk := kinds_hit HK9.out HQS.out HF.out
                    go_wp2_with fail
                    go_ret
                    exact ⟨ret_int (by rw [check_stop HL4.out HTR.out HAT.out (x := 13) HCA.out (by decide)]), HB9.out⟩
            · have HCA := Lib.hid (show checkAt (L.take (j + 1)) e = 1 by unfold checkAt; rw [HAF.out, decide_eq_false hneg]; simp)
              have e8 : decide (0 ≤ c) = true := by simp; omega
              have e7 : 0 ≤ c := by omega
              go_wp2_with fail
              obtain ⟨W, hW⟩ : ∃ W, W = wr.alloc (.cells #[.string e.path, .int .i64 e.kind, .int .i64 e.mode, .int .i64 e.time, .slice a1 e.data.length cap1, .string e.link] 30) := ⟨_, rfl⟩
              rw [← hW]
              have HX := Lib.hid (show W.heap[wr.heap.size]? = some (.cells #[.string e.path, .int .i64 e.kind, .int .i64 e.mode, .int .i64 e.time, .slice a1 e.data.length cap1, .string e.link] 30 (0, 0)) by rw [hW]; exact new20 wr _)
              have HWL := Lib.hid (show Below wr.heap.size wr W by rw [hW]; exact (Below.refl _ _).alloc (Nat.le_refl _) _)
              have HBW := Lib.hid (below_next HBR.out HWL.out)
              clear hW
              refine (validE_is S e _ true _ (HD.out.below HWL.out) HOK.out (HE.out.below HBW.out) HVE.out).mono ?_
              rintro e7 w7 ⟨rfl, hb7⟩
              have HX7 := Lib.hid ((hb7.block wr.heap.size (lt20 HX.out)).trans HX.out)
              have HL7 := Lib.hid (HWL.out.trans (hb7.mono HWL.out.size))
              have c0 := cell20 (k := 0) HX7.out
              have c1 := cell20 (k := 1) HX7.out
              have c2 := cell20 (k := 2) HX7.out
              have c3 := cell20 (k := 3) HX7.out
              have c4 := cell20 (k := 4) HX7.out
              have c5 := cell20 (k := 5) HX7.out
              simp only [List.getElem?_toArray, List.getElem?_cons_succ, List.getElem?_cons_zero] at c0 c1 c2 c3 c4 c5
              clear hb7
              go_wp2_with fail
              refine wp_region_segs [some 11, none, some 2] (by kernel_rfl) (by kernel_rfl) (by kernel_rfl) ?_
              simp only [wpSegs, List.take_succ_cons, List.take_zero, List.drop_succ_cons, List.drop_zero]
              obtain ⟨wd, hwd⟩ : ∃ wd : World, wd = w7.drew := ⟨_, rfl⟩
              rw [← hwd]
              have HLD := Lib.hid (show Below wr.heap.size wr wd by rw [hwd]; exact HL7.out.trans ((Below.refl w7.heap.size w7).drew.mono HL7.out.size))
              have HXD := Lib.hid (show wd.heap[wr.heap.size]? = some (.cells #[.string e.path, .int .i64 e.kind, .int .i64 e.mode, .int .i64 e.time, .slice a1 e.data.length cap1, .string e.link] 30 (0, 0)) by rw [hwd]; exact HX7.out)
              clear hwd c0 c1 c2 c3 c4 c5
              have c0 := cell20 (k := 0) HXD.out
              have c1 := cell20 (k := 1) HXD.out
              have c2 := cell20 (k := 2) HXD.out
              have c3 := cell20 (k := 3) HXD.out
              have c4 := cell20 (k := 4) HXD.out
              have c5 := cell20 (k := 5) HXD.out
              simp only [List.getElem?_toArray, List.getElem?_cons_succ, List.getElem?_cons_zero] at c0 c1 c2 c3 c4 c5
              have y0 := (HLD.out.cell (block_lt p0)).trans p0
              repeat (first | (refine seg_skip rfl ?_; simp only [Act.put, List.setIfInBounds_toArray, List.set_cons_succ, List.set_cons_zero]) | (refine seg_run rfl (fun K hK => ?_); go_simp; refine hK _ ?_; clear hK K))
              refine seg_nil ?_
              refine bar_run rfl (fun K hK => ?_)
              go_wp2_with (go_at_call 53; refine (compare20 f.path e.path c _ HPF.out HC.out).mono ?_; rintro e8' w8 ⟨rfl, hb8⟩; have HL8 := Lib.hid (HLD.out.trans (hb8.mono HLD.out.size)); clear hb8 c0 c1 c2 c3 c4 c5 y0)
              repeat (first | (refine seg_skip rfl ?_; simp only [Act.put, List.setIfInBounds_toArray, List.set_cons_succ, List.set_cons_zero]) | (refine seg_run rfl (fun K hK => ?_); go_simp; refine hK _ ?_; clear hK K))
              refine seg_nil ?_
              have HB9 := Lib.hid (below_next HBR.out HL8.out)
              go_wp2_with fail
              go_ret
              exact ⟨ret_int (by rw [check_stop HL4.out HTR.out HAT.out (x := 1) HCA.out (by decide)]), HB9.out⟩
      · have hk2 : k = n := by omega
        subst hk2
        go_wp2_with fail
        go_ret
        exact ⟨ret_int (by rw [check_done HL4.out (by rw [← HN.out]; exact HTR.out)]), HBR.out⟩

end Go.Proofs.YtbkhdpocmmjnbaaGreatDoor

/- Contracts of package filetree: From. -/
namespace Go.Proofs.YtbkhdpocmmjnbaaGreatDoor
open Go.RowKit Go.Maps


def newF (B : Nat) (w : World) (k : Nat) : Prop := B ≤ k ∧ k < w.heap.size
/-- A tree that the call has made. -/
def NewTree (w w' : World) (tb mb : Nat) (L : List Ent) : Prop := w.heap.size ≤ mb ∧ w.heap.size ≤ tb ∧ ∃ S' : Nat → Prop, (∀ k, S' k → w.heap.size ≤ k) ∧ TreeAt S' w' tb mb L
def FromRes (L : List Ent) (w : World) (e : Ending) (w' : World) : Prop := Below w.heap.size w w' ∧
  ((checkP L ≠ 0 ∧ e = .returned (.tuple #[.pointer none, .int .i64 (checkP L)])) ∨ (checkP L = 0 ∧ ∃ tb mb, e = .returned (.tuple #[.pointer (some ⟨tb, 0, none⟩), .int .i64 0]) ∧ NewTree w w' tb mb L))
def LoopF (w : World) (L : List Ent) (mb : Nat) (k : Nat) (wr : World) : Prop :=
  ∃ ys : List VEnt, ys.map Prod.snd = L.take k ∧ MapE (newF (mb + 2) wr) wr mb ys ∧ wr.cell? ⟨mb + 1, 0, none⟩ = some (.map (some mb)) ∧ Below w.heap.size w wr ∧ mb + 2 ≤ wr.heap.size
theorem check_is (S : Nat → Prop) (L : List Ent) (v : Value) (x : Int) (w : World) (hv : EntsAt S w v L) (henv : Env w) (hx : checkP L = x) : Calls Tryz.prog 41 #[v] w fun e w' => e = .returned (.int .i64 x) ∧ Below w.heap.size w w' := by
  rw [← hx]; exact check_any S L v w hv henv
set_option maxRecDepth 100000 in
set_option maxHeartbeats 2000000 in
theorem from_any (S : Nat → Prop) (L : List Ent) (v : Value) (w : World) (hv : EntsAt S w v L) (henv : Env w) : Calls Tryz.prog 22 #[v] w (FromRes L w) := by
  have HV := Lib.hid hv
  have HE := Lib.hid henv
  obtain ⟨a, cap, rfl, hc, hm, -⟩ := SeqAt.shape hv EntR.len
  unfold maxLen at hm
  obtain ⟨n, hn⟩ : ∃ n, n = L.length := ⟨_, rfl⟩
  have HN := Lib.hid hn
  rw [← hn] at hc HV ⊢
  clear hv henv hn
  obtain ⟨x, hx⟩ : ∃ x, checkP L = x := ⟨_, rfl⟩
  have HX := Lib.hid hx
  clear hx
  by_cases h0 : x = 0
  · subst h0
    have HOK := Lib.hid (checkP_iff.1 HX.out)
    have hn4 : n ≤ 4096 := by rw [HN.out]; exact HOK.out.len
    go_enter Tryz.func22, Tryz.ntmps22
    go_wp2_with fail
    refine (check_is S L _ 0 w HV.out HE.out HX.out).mono ?_
    rintro e w1 ⟨rfl, hb1⟩
    have HB1 := Lib.hid hb1
    clear hb1
    go_wp2_with fail
    refine (new_any _).mono ?_
    rintro e W ⟨rfl, hnt, hbW, hWs⟩
    obtain ⟨mb, hmb⟩ : ∃ mb, mb = w1.heap.size := ⟨_, rfl⟩
    rw [← hmb] at hnt hWs ⊢
    have HMB := Lib.hid (show w.heap.size ≤ mb by rw [hmb]; exact HB1.out.size)
    have HNT := Lib.hid hnt
    have HBW := Lib.hid (below_next HB1.out hbW)
    have HWS := Lib.hid hWs
    have HM0 := Lib.hid (show MapE (newF (mb + 2) W) W mb [] by
      obtain ⟨ys, h1, h2⟩ := HNT.out.ents
      have : ys = [] := by have := h2.length_eq; simpa using this
      subst this
      exact h1.mono (fun _ h => h.elim) (fun h => by have := h.1; omega))
    clear hnt hbW hWs hmb
    go_wp2_with fail
    go_loopw [16] (fun i wr => ∃ k : Nat, k ≤ n ∧ i = .int .i64 k ∧ LoopF w L mb k wr) (fun i _ => n - (intOf i).toNat)
    case atStart => exact ⟨0, Nat.zero_le _, rfl, [], by simp, HM0.out, HNT.out.cell, HBW.out, by have := HWS.out; omega⟩
    case round =>
      obtain ⟨k, hk, rfl, ys, hys, hym, hyc, hbr, hsz⟩ := hrel
      have HYS := Lib.hid hys
      have HYM := Lib.hid hym
      have HYC := Lib.hid hyc
      have HBR := Lib.hid hbr
      have HSZ := Lib.hid hsz
      clear hys hym hyc hbr hsz
      by_cases hlt : k < n
      · obtain ⟨e, he⟩ : ∃ e, L[k]? = some e := ⟨L[k]'(by rw [← HN.out]; exact hlt), by simp⟩
        obtain ⟨b, o, dv, rfl, -, hb, hd, hok, -, q0, q1, q2, q3, q4, q5⟩ := ents_at (HV.out.below HBR.out) he
        have HAT := Lib.hid he
        have HD := Lib.hid hd
        have HOKE := Lib.hid hok
        have HVE := Lib.hid (vEnt_data (HOK.out.val e (List.mem_of_getElem? he)))
        obtain ⟨a1, cap1, rfl, hd1, hd2⟩ := hd.slice
        unfold maxLen at hd2
        have HNEW := Lib.hid (show ∀ x ∈ ys, x.2.path ≠ e.path from fun x hx hc => by
          have h1 : x.2 ∈ L.take k := by rw [← HYS.out]; exact List.mem_map.2 ⟨x, hx, rfl⟩
          obtain ⟨j, hj⟩ := List.mem_iff_getElem?.1 h1
          rw [List.getElem?_take] at hj
          split at hj
          · rename_i hjk
            have hn := HOK.out.nodup
            unfold List.Nodup at hn
            rw [List.pairwise_map, List.pairwise_iff_getElem] at hn
            obtain ⟨g1, g2⟩ := List.getElem?_eq_some_iff.1 hj
            obtain ⟨g3, g4⟩ := List.getElem?_eq_some_iff.1 he
            exact hn j k g1 g3 hjk (by rw [g2, g4]; exact hc)
          · cases hj)
        clear he hd hok
        go_wp2_with fail
        obtain ⟨W4, hW4⟩ : ∃ W4 : World, W4 = (wr.alloc (.cells #[.string e.path, .int .i64 e.kind, .int .i64 e.mode, .int .i64 e.time, .slice a1 e.data.length cap1, .string e.link] 30)).drew := ⟨_, rfl⟩
        have HB4 := Lib.hid (show Below wr.heap.size wr W4 by rw [hW4]; exact ((Below.refl _ _).alloc (Nat.le_refl _) _).drew)
        have HX4 := Lib.hid (show W4.heap[wr.heap.size]? = some (.cells #[.string e.path, .int .i64 e.kind, .int .i64 e.mode, .int .i64 e.time, .slice a1 e.data.length cap1, .string e.link] 30 (0, 0)) by rw [hW4]; exact new20 wr _)
        refine hld_start (fun w' => w'.cell? ⟨mb + 1, 0, none⟩ = some (.map (some mb)) ∧ w'.cell? ⟨wr.heap.size, 0, none⟩ = some (.string e.path) ∧ w'.cell? ⟨wr.heap.size, 1, none⟩ = some (.int .i64 e.kind) ∧ w'.cell? ⟨wr.heap.size, 2, none⟩ = some (.int .i64 e.mode) ∧ w'.cell? ⟨wr.heap.size, 3, none⟩ = some (.int .i64 e.time) ∧ w'.cell? ⟨wr.heap.size, 4, none⟩ = some (.slice a1 e.data.length cap1) ∧ w'.cell? ⟨wr.heap.size, 5, none⟩ = some (.string e.link)) (by kernel_rfl) ?_
        rw [← hW4]
        clear hW4 q0 q1 q2 q3 q4 q5
        have hS1 := (HB4.out.cell (block_lt HYC.out)).trans HYC.out
        have c0 := cell20 (k := 0) HX4.out
        have c1 := cell20 (k := 1) HX4.out
        have c2 := cell20 (k := 2) HX4.out
        have c3 := cell20 (k := 3) HX4.out
        have c4 := cell20 (k := 4) HX4.out
        have c5 := cell20 (k := 5) HX4.out
        simp only [List.getElem?_toArray, List.getElem?_cons_succ, List.getElem?_cons_zero] at c0 c1 c2 c3 c4 c5
        refine hld_take 0 rfl (by kernel_rfl) (by kernel_rfl) (by kernel_rfl) (fun _ _ _ h => h) rfl ⟨hS1, c0, c1, c2, c3, c4, c5⟩ (by rintro w' ⟨hw1, hw2, hw3, hw4, hw5, hw6, hw7⟩; go_simp; rfl) ?_
        simp only [Act.put, List.setIfInBounds_toArray, List.set_cons_succ, List.set_cons_zero]
        refine hld_take 1 rfl (by kernel_rfl) (by kernel_rfl) (by kernel_rfl) (fun _ _ _ h => h) rfl ⟨hS1, c0, c1, c2, c3, c4, c5⟩ (by rintro w' ⟨hw1, hw2, hw3, hw4, hw5, hw6, hw7⟩; go_simp; rfl) ?_
        simp only [Act.put, List.setIfInBounds_toArray, List.set_cons_succ, List.set_cons_zero]
        refine hld_take 2 rfl (by kernel_rfl) (by kernel_rfl) (by kernel_rfl) (fun _ _ _ h => h) rfl ⟨hS1, c0, c1, c2, c3, c4, c5⟩ (by rintro w' ⟨hw1, hw2, hw3, hw4, hw5, hw6, hw7⟩; go_simp; rfl) ?_
        simp only [Act.put, List.setIfInBounds_toArray, List.set_cons_succ, List.set_cons_zero]
        refine hld_take 3 rfl (by kernel_rfl) (by kernel_rfl) (by kernel_rfl) (fun _ _ _ h => h) rfl ⟨hS1, c0, c1, c2, c3, c4, c5⟩ (by rintro w' ⟨hw1, hw2, hw3, hw4, hw5, hw6, hw7⟩; go_simp; rfl) ?_
        simp only [Act.put, List.setIfInBounds_toArray, List.set_cons_succ, List.set_cons_zero]
        refine hld_take 4 rfl (by kernel_rfl) (by kernel_rfl) (by kernel_rfl) (fun _ _ _ h => h) rfl ⟨hS1, c0, c1, c2, c3, c4, c5⟩ (by rintro w' ⟨hw1, hw2, hw3, hw4, hw5, hw6, hw7⟩; go_simp; rfl) ?_
        simp only [Act.put, List.setIfInBounds_toArray, List.set_cons_succ, List.set_cons_zero]
        refine hld_take 5 rfl (by kernel_rfl) (by kernel_rfl) (by kernel_rfl) (fun _ _ _ h => h) rfl ⟨hS1, c0, c1, c2, c3, c4, c5⟩ (by rintro w' ⟨hw1, hw2, hw3, hw4, hw5, hw6, hw7⟩; go_simp; rfl) ?_
        simp only [Act.put, List.setIfInBounds_toArray, List.set_cons_succ, List.set_cons_zero]
        refine hld_take 6 rfl (by kernel_rfl) (by kernel_rfl) (by kernel_rfl) (fun _ _ _ h => h) rfl ⟨hS1, c0, c1, c2, c3, c4, c5⟩ (by rintro w' ⟨hw1, hw2, hw3, hw4, hw5, hw6, hw7⟩; go_simp; rfl) ?_
        simp only [Act.put, List.setIfInBounds_toArray, List.set_cons_succ, List.set_cons_zero]
        refine hld_bar 7 rfl (by kernel_rfl) rfl (fun K hK => ?_)
        go_wp2_with (go_at_call 32; refine (copied_flat S e _ _ (HD.out.below HB4.out) HVE.out).mono ?_; rintro e5 w5 ⟨a', cap', rfl, ho, hb5⟩)
        have HB5 := Lib.hid (below_next HB4.out hb5)
        have HX5 := Lib.hid ((hb5.block wr.heap.size (lt20 HX4.out)).trans HX4.out)
        have hd5 : DataAt (newF (mb + 2) w5) w5 (.slice a' e.data.length cap') e.data := data_mono (data_of_owns ho) (fun k hk => by
          have h1 := HB4.out.size
          have h2 := HSZ.out
          exact ⟨by omega, hk.2⟩)
        have hm5 : MapE (newF (mb + 2) w5) w5 mb ys := (HYM.out.below HB5.out).mono (fun k hk => ⟨hk.1, Nat.lt_of_lt_of_le hk.2 HB5.out.size⟩) (fun h => by have := h.1; omega)
        have HPUT := Lib.hid (hm5.putRun mapTy HNEW.out hd5 HOKE.out)
        clear ho hb5 hd5 hm5 hS1 c0 c1 c2 c3 c4 c5
        have hS1 := (HB5.out.cell (block_lt HYC.out)).trans HYC.out
        have c0 := cell20 (k := 0) HX5.out
        have c1 := cell20 (k := 1) HX5.out
        have c2 := cell20 (k := 2) HX5.out
        have c3 := cell20 (k := 3) HX5.out
        have c4 := cell20 (k := 4) HX5.out
        have c5 := cell20 (k := 5) HX5.out
        simp only [List.getElem?_toArray, List.getElem?_cons_succ, List.getElem?_cons_zero] at c0 c1 c2 c3 c4 c5
        refine ⟨⟨hS1, c0, c1, c2, c3, c4, c5⟩, ?_⟩
        refine hld_bar 8 rfl (by kernel_rfl) rfl (fun K hK => ?_)
        go_wp2_with (at_mapUpdate; go_must (refine wpList_updRun rfl _ _ _ _ rfl _ _ _ rfl rfl rfl HPUT.out ?_); rintro w6 ⟨hm6, hg6⟩)
        have HM6 := Lib.hid hm6
        have HG6 := Lib.hid hg6
        have hnb : some wr.heap.size ≠ some mb := fun e => by have h1 := HSZ.out; have h2 := Option.some.inj e; omega
        have r1 := hg6.cell hS1 (fun e => by have h2 := Option.some.inj e; simp only at h2; omega)
        have r2 := hg6.cell c0 hnb
        have r3 := hg6.cell c1 hnb
        have r4 := hg6.cell c2 hnb
        have r5 := hg6.cell c3 hnb
        have r6 := hg6.cell c4 hnb
        have r7 := hg6.cell c5 hnb
        refine ⟨⟨r1, r2, r3, r4, r5, r6, r7⟩, ?_⟩
        have HR1 := Lib.hid r1
        clear hm6 hg6 r1 r2 r3 r4 r5 r6 r7 hS1 c0 c1 c2 c3 c4 c5 hnb
        refine hld_done (by kernel_rfl) ?_
        simp only [Act.put]
        go_wp2_with fail
        go_roundw
        case rel =>
          refine ⟨k + 1, by omega, by go_num, ys ++ [(.slice a' e.data.length cap', e)], ?_, ?_, HR1.out, ?_, ?_⟩
          · rw [List.take_add_one, HAT.out, List.map_append, HYS.out]; rfl
          · exact HM6.out.mono (fun k hk => ⟨hk.1, Nat.lt_of_lt_of_le hk.2 HG6.out.size⟩) (fun h => by have := h.1; omega)
          · exact (below_next HBR.out HB5.out).grown HG6.out (below_next HBR.out HB5.out).size (fun k e => by cases e; exact HMB.out)
          · exact Nat.le_trans HSZ.out (Nat.le_trans HB5.out.size HG6.out.size)
        case measure => simp [intOf]; omega
      · have hk2 : k = n := by omega
        subst hk2
        go_wp2_with fail
        go_ret2
        refine ⟨HBR.out, .inr ⟨HX.out, mb + 1, mb, rfl, HMB.out, by have := HMB.out; omega, newF (mb + 2) wr, fun k hk => by have h1 := hk.1; have h2 := HMB.out; omega, HYC.out, by omega, fun h => by have := h.1; omega, fun k hk => hk.2, HOK.out, ys, HYM.out, ?_⟩⟩
        rw [HYS.out, HN.out, List.take_length]
  · have e1 : (x != 0) = true := by simp [h0]
    have HX0 := Lib.hid h0
    clear h0
    go_enter Tryz.func22, Tryz.ntmps22
    go_wp2_with fail
    refine (check_is S L _ x w HV.out HE.out HX.out).mono ?_
    rintro e w1 ⟨rfl, hb1⟩
    have HB1 := Lib.hid hb1
    clear hb1
    go_wp2_with fail
    go_ret2
    refine ⟨HB1.out, .inl ⟨by rw [HX.out]; exact HX0.out, ?_⟩⟩
    rw [HX.out]; rfl

end Go.Proofs.YtbkhdpocmmjnbaaGreatDoor

/- A range over a function whose rounds know something of what they are handed, in the world in which they are handed it. -/
namespace Go.Proofs.YtbkhdpocmmjnbaaGreatDoor
open Go Go.RowKit

/-- What an iterator promises to a loop: each round is asked at an element of which D holds; between two rounds what is new alone has turned. -/
def SeqD {α : Type} (P : Program) (g : Nat) (lb : Array Value) (encs : α → Array Value) (D : α → World → Prop) (Kp : World → World → Prop) (S Sp : List α → Prop) (N : Nat) (w : World) : Prop :=
  ∀ (l : Nat) (J Jx : List α → World → Prop) (W : World), Below w.heap.size w W → (∀ s A B, J s A → Below A.heap.size A B → J s B) →
    (∀ pre x A, J pre A → D x A → pre.length < N → YieldAt Fence.wide 2 P l (encs x) A fun e B => (e = .returned (.bool true) ∧ J (pre ++ [x]) B ∧ Kp A B) ∨ (e = .returned (.bool false) ∧ Jx (pre ++ [x]) B)) →
    J [] W →
    CallsIn Fence.wide 3 P g (#[.func (.yield l) #[] #[]] ++ lb) W fun e B => (∃ v, e = .returned v) ∧ ((∃ xs, S xs ∧ J xs B) ∨ (∃ pre, Sp pre ∧ Jx pre B))

/-- How a round's body may be left. -/
def roundEnd {α : Type} (Kp : World → World → Prop) (I : List α → World → Prop) (Ix : Code → List α → World → Prop) (xs : List α) (W : World) : Exit → Act → World → Prop
  | .normal, _, B => KeepsOthers W B ∧ Kp W B ∧ I xs B
  | .ret, _, B => KeepsOthers W B ∧ Ix .ret xs B
  | .exit id, _, B => KeepsOthers W B ∧ Ix (.exit id) xs B
  | .goto t, _, B => KeepsOthers W B ∧ Ix (.goto t) xs B
  | .panic _, _, _ => False
  | .outgrown, _, _ => False

section
variable {P : Program} {α : Type}
theorem below_none {W W' : World} (h : Below W.heap.size W W') : W.grownBy W' none := ⟨h.os, h.tape, h.output, h.size, fun k hk _ => h.block k hk⟩
/-- The record of the loop and the block of its deferred calls, beside the caller's own word. -/
theorem busy_ready {W : World} {l : Nat} {r : Loop} (h : W.heap[l]? = some (.loop r)) (o : Obj) : (W.putObj l o).heap[l]? = some o := World.putObj_heap_same (Array.getElem?_eq_some_iff.1 h).1

theorem wp_rangeD {g : Operand} {ps : Array Tmp} {assign body : Code} {Q : Exit → Act → World → Prop} {a : Act} {w : World} {gf : Nat} {lb : Array Value} (hg : a.eval g = .func (.func gf) #[] lb) (eg : ∀ args w, (callFunc gf args).run P w = .ok (.enter gf args) w)
    {encs : α → Array Value} {D : α → World → Prop} {Kp : World → World → Prop} {S Sp : List α → Prop} {N : Nat} (hseq : SeqD P gf lb encs D Kp S Sp N w)
    (hKt : ∀ {A B C : World}, Kp A B → Kp B C → Kp A C) (hKb : ∀ (W : World) (l : Nat) (o o' : Obj), w.heap.size ≤ l → W.heap[l]? = some o → o.isCells = false → o.isWalk = false → Kp W (W.putObj l o')) (hps : ∀ x, (encs x).size = ps.size)
    (I : List α → World → Prop) (Ix : Code → List α → World → Prop) (Ax : List α → α → Act → World → Prop) (hI : OwnFrom w.heap.size I) (hIx : ∀ c, OwnFrom w.heap.size (Ix c))
    (hAx : OwnFrom w.heap.size (fun (s : List α × α × Act) W => Ax s.1 s.2.1 s.2.2 W)) (h0 : I [] w)
    (hassign : ∀ (l : Nat) (pre : List α) (x : α) (W : World), w.heap.size < W.heap.size → I pre W → D x W → pre.length < N → assign.wpIn (Fence.wide.inRound l) 2 P (Exit.then (fun a₁ B => KeepsOthers W B ∧ Kp W B ∧ Ax pre x a₁ B) (fun _ _ _ => False)) { tmps := (ps.zip (encs x)).foldl (fun t (p, v) => t.setIfInBounds p v) a.tmps, defers := [] } W)
    (hbody : ∀ (l : Nat) (pre : List α) (x : α) (a₁ : Act) (W : World), Ax pre x a₁ W → body.wpIn (Fence.wide.inRound l) 2 P (roundEnd Kp I Ix (pre ++ [x]) W) a₁ W)
    (hdone : ∀ (Dl : Nat) (xs : List α) (W : World), w.heap.size ≤ Dl → S xs → I xs W → W.heap[Dl]? = some (.deferred (some [])) → Q .normal { a with defers := { target := .collected Dl, args := #[] } :: a.defers } W)
    (hstop : ∀ (Dl : Nat) (c : Code) (pre : List α) (W : World), w.heap.size ≤ Dl → Sp pre → Ix c pre W → W.heap[Dl]? = some (.deferred (some [])) → c.wp P Q { a with defers := { target := .collected Dl, args := #[] } :: a.defers } W) :
    (Code.rangeFunc g ps assign body).wp P Q a w := by
  refine (wpIn_wide (n := 4)).1 (wpIn_rangeFunc (fun fn hfn => ?_))
  show ∃ l mark w₁ d w₁' f args w₂, _
  let rec_ : LoopState → Option Code → Loop := fun st pe => { state := st, pending := pe, fn := fn, tmps := a.tmps, params := ps, assign := assign, body := body, defers := w.heap.size }
  obtain ⟨rec, hrec⟩ : ∃ r, r = rec_ := ⟨_, rfl⟩
  have hrp : ∀ st pe, (rec st pe).params = ps := fun st pe => by rw [hrec]
  have hrs : ∀ st pe, (rec st pe).state = st := fun st pe => by rw [hrec]
  have hrj : ∀ st pe, (rec st pe).pending = pe := fun st pe => by rw [hrec]
  obtain ⟨L, hL⟩ : ∃ L, L = w.heap.size + 1 := ⟨_, rfl⟩
  obtain ⟨V, hV⟩ : ∃ V, (w.alloc (.deferred (some []))).alloc (.loop (rec .ready none)) = V := ⟨_, rfl⟩
  have hVL : V.heap[L]? = some (.loop (rec .ready none)) := by
    rw [← hV, hL]; have := World.alloc_heap_new (w.alloc (.deferred (some []))) (.loop (rec .ready none)); rwa [World.size_alloc] at this
  have hVD : V.heap[w.heap.size]? = some (.deferred (some [])) := by
    rw [← hV]; exact (Below.heap_alloc _ _ _ (by simp)).trans (World.alloc_heap_new w _)
  have hVI : I [] V := by rw [← hV]; exact hI.alloc _ (hI.alloc _ h0)
  have hVB : Below w.heap.size w V := by rw [← hV]; exact ((Below.refl _ w).alloc (Nat.le_refl _) _).alloc (by simp) _
  -- what stands between two rounds; what stands when one has left
  let J : List α → World → Prop := fun pre W => I pre W ∧ W.heap[L]? = some (.loop (rec .ready none)) ∧ W.heap[w.heap.size]? = some (.deferred (some []))
  let Jx : List α → World → Prop := fun pre W => ∃ c, Ix c pre W ∧ W.heap[L]? = some (.loop (rec .done (some c))) ∧ W.heap[w.heap.size]? = some (.deferred (some []))
  have hJ : ∀ s A B, J s A → Below A.heap.size A B → J s B := by
    rintro s A B ⟨h1, h2, h3⟩ hb
    refine ⟨hI s A B none h1 (below_none hb) (fun r e => by cases e), ?_, ?_⟩
    · exact (hb.block _ (Array.getElem?_eq_some_iff.1 h2).1).trans h2
    · exact (hb.block _ (Array.getElem?_eq_some_iff.1 h3).1).trans h3
  have hend : ∀ (jump : Option Code) (W B : World), W.heap[L]? = some (.loop (rec .busy none)) → W.heap[w.heap.size]? = some (.deferred (some [])) → KeepsOthers W B →
      (Instr.endRound L jump).run P B = .ok (.bool jump.isNone) (B.putObj L (.loop (rec (if jump.isNone then .ready else .done) jump))) ∧ B.heap[L]? = some (.loop (rec .busy none)) ∧
      (B.putObj L (.loop (rec (if jump.isNone then .ready else .done) jump))).heap[L]? = some (.loop (rec (if jump.isNone then .ready else .done) jump)) ∧
      (B.putObj L (.loop (rec (if jump.isNone then .ready else .done) jump))).heap[w.heap.size]? = some (.deferred (some [])) := by
    intro jump W B h1 h2 hk
    have hb := hk.same _ _ h1 rfl
    have hd := hk.same _ _ h2 rfl
    have := run_endRound (P := P) jump hb
    refine ⟨?_, hb, busy_ready hb _, (World.putObj_heap_other (by omega)).trans hd⟩
    rw [this, hrec]
  have hround : ∀ pre x A, J pre A → D x A → pre.length < N → YieldAt Fence.wide 2 P L (encs x) A fun e B => (e = .returned (.bool true) ∧ J (pre ++ [x]) B ∧ Kp A B) ∨ (e = .returned (.bool false) ∧ Jx (pre ++ [x]) B) := by
    rintro pre x A ⟨hi, hl, hk⟩ hd hN
    have hlt : L < A.heap.size := (Array.getElem?_eq_some_iff.1 hl).1
    have hy := run_yield (P := P) (args := encs x) hl (by rw [hrp]; exact hps x)
    refine ⟨_, _, _, _, hy, ?_⟩
    rw [hrec]
    refine roundIn_of_wpIn hfn (wpIn_mono (hassign L pre x A (by omega) hi hd hN) ?_)
    rintro e a₁ B hB
    cases e with
    | normal =>
      obtain ⟨hko, hkp, hax⟩ := hB
      have hl1 := hko.same _ _ hl rfl
      have hk1 := hko.same _ _ hk rfl
      have hbr := run_beginRound (P := P) hl1 (hrs _ _)
      refine ⟨_, hbr, ?_⟩
      have hbz : ({ rec .ready none with state := .busy } : Loop) = rec .busy none := by rw [hrec]
      rw [hbz]
      have hl2 := busy_ready hl1 (.loop (rec .busy none))
      have hk2 : (B.putObj L (.loop (rec .busy none))).heap[w.heap.size]? = some (.deferred (some [])) := (World.putObj_heap_other (by omega)).trans hk1
      have hax2 : Ax pre x a₁ (B.putObj L (.loop (rec .busy none))) := hAx.putObj (s := (pre, x, a₁)) _ hax (by omega) hl1 rfl
      have hkp2 : Kp A (B.putObj L (.loop (rec .busy none))) := hKt hkp (hKb _ _ _ _ (by omega) hl1 rfl rfl)
      refine wpIn_mono (hbody L pre x a₁ _ hax2) ?_
      rintro e a3 C hC
      cases e with
      | normal =>
        obtain ⟨c1, c2, c3⟩ := hC
        obtain ⟨r1, r2, r3, r4⟩ := hend none _ C hl2 hk2 c1
        exact ⟨_, _, r1, .inl ⟨rfl, ⟨hI.putObj _ c3 (by omega) r2 rfl, r3, r4⟩, hKt (hKt hkp2 c2) (hKb _ _ _ _ (by omega) r2 rfl rfl)⟩⟩
      | ret =>
        obtain ⟨c1, c3⟩ := hC
        obtain ⟨r1, r2, r3, r4⟩ := hend (some .ret) _ C hl2 hk2 c1
        exact ⟨_, _, r1, .inr ⟨rfl, _, (hIx _).putObj _ c3 (by omega) r2 rfl, r3, r4⟩⟩
      | exit id =>
        obtain ⟨c1, c3⟩ := hC
        obtain ⟨r1, r2, r3, r4⟩ := hend (some (.exit id)) _ C hl2 hk2 c1
        exact ⟨_, _, r1, .inr ⟨rfl, _, (hIx _).putObj _ c3 (by omega) r2 rfl, r3, r4⟩⟩
      | goto t =>
        obtain ⟨c1, c3⟩ := hC
        obtain ⟨r1, r2, r3, r4⟩ := hend (some (.goto t)) _ C hl2 hk2 c1
        exact ⟨_, _, r1, .inr ⟨rfl, _, (hIx _).putObj _ c3 (by omega) r2 rfl, r3, r4⟩⟩
      | panic ch => exact hC.elim
      | outgrown => exact hC.elim
    | ret => exact hB.elim
    | exit id => exact hB.elim
    | goto t => exact hB.elim
    | panic ch => exact hB.elim
    | outgrown => exact hB.elim
  refine ⟨L, [{ target := .collected w.heap.size, args := #[] }], V, { target := .fn (.func gf) lb, args := #[.func (.yield L) #[] #[]] }, V, gf, #[.func (.yield L) #[] #[]] ++ lb, V, ?_, ?_, fun _ _ => trivial, ?_, fun _ => by omega, ?_⟩
  · rw [← hV, hL, hrec]; exact run_enterLoop_outer _ _ _ _ _
  · simp only [resolve, hg]
    simp [go_sem]
  · simp [invoke, go_sem, eg]
  · refine (hseq L J Jx V hVB hJ hround ⟨hVI, hVL, hVD⟩).mono ?_
    rintro e B ⟨⟨v, rfl⟩, hB⟩
    rcases hB with ⟨xs, hS, hi, hl, hk⟩ | ⟨pre, hS, c, hi, hl, hk⟩
    · have := run_endLoop (P := P) hl (by rw [hrs]; simp)
      rw [hrj] at this
      exact ⟨none, _, this, hdone _ xs _ (Nat.le_refl _) hS (hI.putObj _ hi (by omega) hl rfl) ((World.putObj_heap_other (by omega)).trans hk)⟩
    · have := run_endLoop (P := P) hl (by rw [hrs]; simp)
      rw [hrj] at this
      exact ⟨some c, _, this, (wpIn_wide (n := 4)).2 (hstop _ c pre _ (Nat.le_refl _) hS ((hIx c).putObj _ hi (by omega) hl rfl) ((World.putObj_heap_other (by omega)).trans hk))⟩
end

end Go.Proofs.YtbkhdpocmmjnbaaGreatDoor

/- Contracts of package filetree: Walk, the function that it hands back. -/
namespace Go.Proofs.YtbkhdpocmmjnbaaGreatDoor
open Go Go.RowKit Go.Maps
attribute [local go_sem] Oper.semAt_some

/-- Rows of a type lie as they lay. -/
def KeepTy (t : TypeId) (A B : World) : Prop := ∀ (k : Nat) (cs : Array Value), A.heap[k]? = some (.cells cs t (0, 0)) → B.heap[k]? = A.heap[k]?
/-- What a round keeps of Walk's own: what lay below, and rows of strings. -/
def WalkKp (B : Nat) (V W : World) : Prop := Below B V W ∧ KeepTy 9 V W
section
variable {t : TypeId} {A B C : World} {n : Nat}
theorem KeepTy.refl (A : World) : KeepTy t A A := fun _ _ _ => rfl
theorem KeepTy.trans (h : KeepTy t A B) (k : KeepTy t B C) : KeepTy t A C := fun i cs hi => (k i cs ((h i cs hi).trans hi)).trans (h i cs hi)
theorem KeepTy.below (h : Below A.heap.size A B) : KeepTy t A B := fun i _ hi => h.block i (Array.getElem?_eq_some_iff.1 hi).1
theorem KeepTy.grown {row : Option Nat} (h : A.grownBy B row) (hr : ∀ r, row = some r → ∀ cs, A.heap[r]? ≠ some (.cells cs t (0, 0))) : KeepTy t A B := fun i cs hi => h.block i (Array.getElem?_eq_some_iff.1 hi).1 (fun e => hr i e.symm cs hi)
theorem KeepTy.own {base sz m : Nat} {v : Value} {xs : List Value} (h : KeepTy t A B) (ho : A.ownsRow base t sz v m xs) : B.ownsRow base t sz v m xs := by
  refine ⟨ho.1, ho.2.imp id ?_⟩
  rintro ⟨g, cap, cur, h1, h2, h3, h4⟩
  exact ⟨g, cap, cur, h1, h2, (h g cur h3).trans h3, h4⟩
theorem walkKp_t (h : WalkKp n A B) (k : WalkKp n B C) : WalkKp n A C := ⟨h.1.trans k.1, h.2.trans k.2⟩
theorem walkKp_b {w : World} (hn : n ≤ w.heap.size) (W : World) (l : Nat) (o o' : Obj) (hl : w.heap.size ≤ l) (h : W.heap[l]? = some o) (hc : o.isCells = false) (hw : o.isWalk = false) : WalkKp n W (W.putObj l o') :=
  ⟨belowK_b hn W l o o' hl h hc hw, KeepTy.grown (grownBy_putObj' W l o') (fun r e cs hcs => by cases e; rw [h] at hcs; cases hcs; cases hc)⟩
theorem walkKp_below (hn : n ≤ A.heap.size) (h : Below A.heap.size A B) : WalkKp n A B := ⟨h.mono hn, KeepTy.below h⟩
end
/-- An entry that has been handed over: its data lie in new memory. -/
def EntNew (B : Nat) (x : VEnt) (W : World) : Prop := W.ownsRow B 5 1 x.1 x.2.data.length (x.2.data.map u8V) ∧ EntOk x.2
def WalkSeq (L : List Ent) (p : ByteArray) (b1 b2 n₀ : Nat) (w : World) : Prop :=
  SeqD Tryz.prog 40 #[.pointer (some ⟨b1, 0, none⟩), .pointer (some ⟨b2, 0, none⟩)] (fun x : VEnt => #[entV x.1 x.2]) (EntNew n₀) (WalkKp n₀)
    (fun xs => xs.map Prod.snd = atP L p) (fun pre => ∃ k, pre.map Prod.snd = (atP L p).take k) 4096 w
set_option maxRecDepth 100000 in
set_option maxHeartbeats 2000000 in
theorem walk_seq (S : Nat → Prop) (tb mb : Nat) (L : List Ent) (p : ByteArray) (b1 b2 : Nat) (w wc : World) (ht : TreeAt S w tb mb L) (hbc : Below w.heap.size w wc) (hps : p.size ≤ maxLen) (h1 : w.cell? ⟨b1, 0, none⟩ = some (.pointer (some ⟨tb, 0, none⟩))) (h2 : w.cell? ⟨b2, 0, none⟩ = some (.string p)) : WalkSeq L p b1 b2 w.heap.size wc := by
  intro l J Jx W hbW' hJ hY h0
  have hbW := below_next hbc hbW'
  have HBW := Lib.hid hbW
  have HT := Lib.hid ht
  have HPS := Lib.hid hps
  have HJ := Lib.hid hJ
  have HY := Lib.hid hY
  have H0 := Lib.hid h0
  have k1 := (hbW.cell (block_lt h1)).trans h1
  have k2 := (hbW.cell (block_lt h2)).trans h2
  have HK1 := Lib.hid h1
  obtain ⟨xs, hm0, hperm⟩ := ht.ents
  have HM := Lib.hid hm0
  have HPERM := Lib.hid hperm
  obtain ⟨n, hn⟩ : ∃ n, n = (pathsM L p).length := ⟨_, rfl⟩
  have hn2 : n = (atP L p).length := by rw [hn]; unfold pathsM; rw [List.length_map]
  have hn4 : n ≤ 4096 := by
    rw [hn2]
    have := List.length_filter_le (fun e => inB p e && (decide (p.size = 0) || (findE L p).isSome)) L
    unfold atP
    have := ht.ok.len
    omega
  have HN := Lib.hid hn
  have HN2 := Lib.hid hn2
  clear ht hps hJ hY h0 hbW hbW' hbc h2 hm0 hperm hn hn2
  refine callsIn_wide.2 ?_
  show Calls Tryz.prog 40 #[.func (.yield l) #[] #[], .pointer (some ⟨b1, 0, none⟩), .pointer (some ⟨b2, 0, none⟩)] W _
  go_enter Tryz.func40, Tryz.ntmps40
  go_wp2_with fail
  refine (paths_any S tb mb L p _ (HT.out.below HBW.out) HPS.out).mono ?_
  rintro e w5 ⟨v5, rfl, ho5, hb5⟩
  rw [← HN.out] at ho5
  obtain ⟨a5, c5, rfl, hn5, hm5⟩ := owns_shape ho5
  have HO5 := Lib.hid ho5
  have HB5 := Lib.hid hb5
  unfold maxLen at hm5
  clear ho5 hb5 k1 k2
  go_wp2_with fail
  go_loopw [12] (fun i wr => ∃ (k : Nat) (pre : List VEnt), k ≤ n ∧ i = .int .i64 k ∧ pre.map Prod.snd = (atP L p).take k ∧ J pre wr ∧ Below w.heap.size w wr ∧ wr.ownsRow W.heap.size 9 1 (.slice a5 n c5) n ((pathsM L p).map Value.string)) (fun i _ => n - (intOf i).toNat)
  case atStart => exact ⟨0, [], Nat.zero_le _, rfl, by simp, HJ.out _ _ _ H0.out HB5.out, below_next HBW.out HB5.out, HO5.out⟩
  case round =>
    obtain ⟨k, pre, hk, rfl, hpre, hJk, hbr, hown⟩ := hrel
    have HPRE := Lib.hid hpre
    have HJK := Lib.hid hJk
    have HBR := Lib.hid hbr
    have HOWN := Lib.hid hown
    clear hpre hJk hbr hown
    by_cases hlt : k < n
    · have hla : k < (atP L p).length := by rw [← HN2.out]; exact hlt
      obtain ⟨e, hat⟩ : ∃ e, (atP L p)[k]? = some e := ⟨_, List.getElem?_eq_getElem hla⟩
      have HAT := Lib.hid hat
      have heL := atP_sub e (List.mem_of_getElem? hat)
      have HVE := Lib.hid (HT.out.ok.val e heL)
      obtain ⟨v, hv⟩ := find_vent (HPERM.out.symm.subset heL)
      obtain ⟨hd0, hok0⟩ := HM.out.dat _ hv
      simp only at hd0 hok0
      obtain ⟨a1, cap1, rfl, hd1, hd2⟩ := hd0.slice
      have HD0 := Lib.hid hd0
      have HOK0 := Lib.hid hok0
      have hlk := (HM.out.below HBR.out).hit mapTy hv true
      have hcl := (HT.out.below HBR.out).cell
      have hltb := block_lt hcl
      have hk1 := (HBR.out.cell (block_lt HK1.out)).trans HK1.out
      have hlk1 := block_lt hk1
      simp only at hltb hlk1
      unfold entV at hlk
      simp only [if_true] at hlk
      unfold maxLen at hd2
      obtain ⟨_, a3, c3, he3, _, _, h03⟩ := row_of_owns HOWN.out
      simp only [Value.slice.injEq] at he3
      obtain ⟨rfl, -, rfl⟩ := he3
      rcases h03 with h03 | ⟨b, o, rfl, -, hcc⟩
      · omega
      have hcq := hcc k (.string e.path) (by unfold pathsM; rw [List.getElem?_map, List.getElem?_map, hat]; rfl)
      clear hat hcc hla heL hv hd0 hok0
      go_upto_region 4 with (fail)
      obtain ⟨W4, hW4⟩ : ∃ W4, W4 = wr.alloc (.cells #[.string e.path, .int .i64 e.kind, .int .i64 e.mode, .int .i64 e.time, .slice a1 e.data.length cap1, .string e.link] 30) := ⟨_, rfl⟩
      rw [← hW4]
      have HX := Lib.hid (show W4.heap[wr.heap.size]? = some (.cells #[.string e.path, .int .i64 e.kind, .int .i64 e.mode, .int .i64 e.time, .slice a1 e.data.length cap1, .string e.link] 30 (0, 0)) by rw [hW4]; exact new20 wr _)
      have HWL := Lib.hid (show Below wr.heap.size wr W4 by rw [hW4]; exact (Below.refl _ _).alloc (Nat.le_refl _) _)
      clear hW4 hlk hcl hcq hk1
      have c0 := cell20 (k := 0) HX.out
      have c1 := cell20 (k := 1) HX.out
      have c2 := cell20 (k := 2) HX.out
      have c3 := cell20 (k := 3) HX.out
      have c4 := cell20 (k := 4) HX.out
      have c5 := cell20 (k := 5) HX.out
      simp only [List.getElem?_toArray, List.getElem?_cons_succ, List.getElem?_cons_zero] at c0 c1 c2 c3 c4 c5
      refine (wpIn_wide (n := 3)).1 ?_
      gi_wp2_with (refine ⟨trivial, ?_⟩; gi_at_call 32; refine (callsIn_wide.2 (copied_flat S e _ _ (HD0.out.below (below_next HBR.out HWL.out)) (vEnt_data HVE.out))).mono ?_; rintro e5 w6 ⟨a', cap', rfl, ho6, hb6⟩; have HB6 := Lib.hid (HWL.out.trans (hb6.mono HWL.out.size)); obtain ⟨fn, tmps, assign, body, hy, hR⟩ := HY.out pre (.slice a' e.data.length cap', e) w6 (HJ.out _ _ _ HJK.out HB6.out) ⟨owns_le20 ho6 (Nat.le_trans HBR.out.size HWL.out.size), HOK0.out⟩ (by have h1 := congrArg List.length HPRE.out; rw [List.length_map, List.length_take] at h1; omega); simp only [entV] at hy; have HO6 := Lib.hid ho6; clear ho6 hb6 c0 c1 c2 c3 c4 c5)
      refine hR.mono ?_
      rintro e6 w7 (⟨rfl, hj7, hk7⟩ | ⟨rfl, hj7⟩)
      · have HJ7 := Lib.hid hj7
        have HK7 := Lib.hid hk7
        have HBR6 := Lib.hid (below_next HBR.out HB6.out)
        clear hj7 hk7 hy hR
        gi_wp2
        go_wp2_with fail
        go_roundw
        case rel =>
          refine ⟨k + 1, pre ++ [(.slice a' e.data.length cap', e)], by omega, by go_num, ?_, HJ7.out, HBR6.out.trans HK7.out.1, HK7.out.2.own (own_below HOWN.out HB6.out)⟩
          rw [List.take_add_one, HAT.out, List.map_append, HPRE.out]; rfl
        case measure => simp [intOf]; omega
      · have HJ7 := Lib.hid hj7
        clear hj7 hy hR
        gi_wp2
        go_wp2_with fail
        refine bodyPost_ret (results_none rfl _ _ _) rfl ?_
        refine ⟨⟨_, rfl⟩, .inr ⟨_, ⟨k + 1, ?_⟩, HJ7.out⟩⟩
        rw [List.take_add_one, HAT.out, List.map_append, HPRE.out]; rfl
    · have hk2 : k = n := by omega
      go_wp2_with fail
      go_end0
      refine ⟨⟨_, rfl⟩, .inl ⟨pre, ?_, HJK.out⟩⟩
      rw [HPRE.out, hk2, HN2.out, List.take_length]

end Go.Proofs.YtbkhdpocmmjnbaaGreatDoor

/- Contracts of package filetree: slices.AppendSeq over Walk. -/
namespace Go.Proofs.YtbkhdpocmmjnbaaGreatDoor
open Go Go.RowKit Go.Maps
attribute [local go_sem] Oper.semAt_some

/-- What turns no cells leaves owned rows. -/
theorem own_turn {A B : World} {row : Option Nat} {base sz m : Nat} {t : TypeId} {v : Value} {xs : List Value} (h : A.ownsRow base t sz v m xs) (hg : A.grownBy B row) (hr : ∀ r, row = some r → ∃ o : Obj, A.heap[r]? = some o ∧ o.isCells = false) : B.ownsRow base t sz v m xs := by
  refine h.kept hg ?_
  rcases h.2 with ⟨rfl, _⟩ | ⟨g, cap, cur, rfl, _, hgb, _⟩
  · exact .inl rfl
  · refine .inr fun e' => ?_
    obtain ⟨o, ho, hc⟩ := hr g (by simpa [Value.ownBlock] using e'.symm)
    rw [hgb] at ho; cases ho; cases hc
theorem own_block {A : World} {base sz m k : Nat} {t : TypeId} {v : Value} {xs : List Value} (h : A.ownsRow base t sz v m xs) (hk : v.ownBlock = some k) : ∃ cur, A.heap[k]? = some (.cells cur t (0, 0)) := by
  rcases h.2 with ⟨rfl, _⟩ | ⟨g, cap, cur, rfl, _, hgb, _⟩
  · cases hk
  · obtain rfl : g = k := by simpa [Value.ownBlock] using hk
    exact ⟨cur, hgb⟩
/-- Rows of two types lie in two blocks. -/
theorem own_apart {A : World} {b1 b2 s1 s2 m1 m2 : Nat} {t1 t2 : TypeId} {v1 v2 : Value} {x1 x2 : List Value} (h1 : A.ownsRow b1 t1 s1 v1 m1 x1) (h2 : A.ownsRow b2 t2 s2 v2 m2 x2) (ht : t1 ≠ t2) : v1.ownBlock = none ∨ v1.ownBlock ≠ v2.ownBlock := by
  cases h : v1.ownBlock with
  | none => exact .inl rfl
  | some k =>
    refine .inr fun e => ?_
    obtain ⟨c1, d1⟩ := own_block h1 h
    obtain ⟨c2, d2⟩ := own_block h2 e.symm
    rw [d1] at d2
    cases d2
    exact ht rfl
theorem ent_turn {B : Nat} {x : VEnt} {A C : World} {row : Option Nat} (h : EntNew B x A) (hg : A.grownBy C row) (hr : ∀ r, row = some r → ∃ o : Obj, A.heap[r]? = some o ∧ o.isCells = false) : EntNew B x C := ⟨own_turn h.1 hg hr, h.2⟩
theorem cells_new (w : World) (l : List Value) (e2 : TypeId) : ∀ (j : Nat) (u : Value), l[j]? = some u → (w.alloc (.cells l.toArray e2)).cell? ((⟨w.heap.size, 0, none⟩ : Addr).add j) = some u := by
  intro j u hj
  have hadd : (⟨w.heap.size, 0, none⟩ : Addr).add j = ⟨w.heap.size, j, none⟩ := by unfold Addr.add; split <;> simp_all
  rw [hadd]
  have hh := heap_alloc_new w (.cells l.toArray e2)
  simp only [World.cell?, hh]
  simp [hj]
/-- The box holds a slice of what has come. -/
def CollI (B bx : Nat) (w : World) (pre : List VEnt) (W : World) : Prop :=
  (∃ v, Boxed W bx 27 v ∧ W.ownsRow B 30 6 v pre.length (entsC pre) ∧ ∀ y ∈ pre, EntNew B y W) ∧ Below B w W
theorem collI_own {B bx B' : Nat} {w : World} (hB : B ≤ B') (hw : B ≤ w.heap.size) : OwnFrom B' (CollI B bx w) := by
  rintro pre X Y row ⟨⟨v, h1, h2, h3⟩, h4⟩ hg hr
  have hr2 := fun r e => (hr r e).2
  refine ⟨⟨v, h1.kept hg (fun e' => ?_), own_turn h2 hg hr2, fun y hy => ent_turn (h3 y hy) hg hr2⟩, ?_⟩
  · obtain ⟨o, ho, hc⟩ := hr2 bx e'.symm
    rw [show X.heap[bx]? = _ from h1] at ho; cases ho; cases hc
  · refine h4.grown hg (Nat.le_trans hw h4.size) (fun k e => ?_)
    have := (hr k e).1
    omega
/-- The round's own block of the entry that has come. -/
def CollA (B bx : Nat) (w : World) (mk : Nat → VEnt → Act) (pre : List VEnt) (x : VEnt) (a : Act) (W : World) : Prop :=
  CollI B bx w pre W ∧ EntNew B x W ∧ pre.length < 4096 ∧ ∃ b, W.heap[b]? = some (.cells #[.string x.2.path, .int .i64 x.2.kind, .int .i64 x.2.mode, .int .i64 x.2.time, x.1, .string x.2.link] 30 (0, 0)) ∧ a = mk b x
theorem collA_own {B bx B' : Nat} {w : World} {mk : Nat → VEnt → Act} (hB : B ≤ B') (hw : B ≤ w.heap.size) : OwnFrom B' (fun (s : List VEnt × VEnt × Act) W => CollA B bx w mk s.1 s.2.1 s.2.2 W) := by
  rintro ⟨pre, x, a⟩ X Y row ⟨h1, h2, h3, b, h4, h5⟩ hg hr
  have hr2 := fun r e => (hr r e).2
  refine ⟨collI_own hB hw pre X Y row h1 hg hr, ent_turn h2 hg hr2, h3, b, (hg.block b (Array.getElem?_eq_some_iff.1 h4).1 (fun e' => ?_)).trans h4, h5⟩
  obtain ⟨o, ho, hc⟩ := hr2 b e'.symm
  rw [h4] at ho; cases ho; cases hc
def aseqAct (bx b1 b2 : Nat) (b : Nat) (x : VEnt) : Act := { tmps := #[.slice none 0 0, .func (.func 40) #[] #[.pointer (some ⟨b1, 0, none⟩), .pointer (some ⟨b2, 0, none⟩)], .pointer (some ⟨bx, 0, none⟩), undef, .slice none 0 0, .pointer (some ⟨b, 0, none⟩), .func (.func 40) #[] #[.pointer (some ⟨b1, 0, none⟩), .pointer (some ⟨b2, 0, none⟩)], entV x.1 x.2, undef, undef, undef, undef, undef], defers := [] }
/-- What has been collected: a row of entries and their data, all in new memory. -/
def Gathered (B : Nat) (w' : World) (v : Value) (M : List Ent) : Prop := ∃ ys : List VEnt, ys.map Prod.snd = M ∧ w'.ownsRow B 30 6 v ys.length (entsC ys) ∧ ∀ y ∈ ys, EntNew B y w'
set_option maxRecDepth 100000 in
set_option maxHeartbeats 2000000 in
theorem appendSeq_walk (S : Nat → Prop) (tb mb : Nat) (L : List Ent) (p : ByteArray) (b1 b2 : Nat) (w : World) (ht : TreeAt S w tb mb L) (hps : p.size ≤ maxLen) (h1 : w.cell? ⟨b1, 0, none⟩ = some (.pointer (some ⟨tb, 0, none⟩))) (h2 : w.cell? ⟨b2, 0, none⟩ = some (.string p)) :
    Calls Tryz.prog 48 #[.slice none 0 0, .func (.func 40) #[] #[.pointer (some ⟨b1, 0, none⟩), .pointer (some ⟨b2, 0, none⟩)]] w fun e w' => ∃ v, e = .returned v ∧ Gathered w.heap.size w' v (atP L p) ∧ Below w.heap.size w w' := by
  have HT := Lib.hid ht
  have HPS := Lib.hid hps
  have H1 := Lib.hid h1
  have H2 := Lib.hid h2
  clear ht hps h1 h2
  refine (callsIn_wide (n := 4)).1 (callsIn_of_wp_marks Tryz.func48 rfl trivial ?_ rfl)
  simp only [Tryz.ntmps48, List.size_toArray, List.length_cons, List.length_nil, Nat.reduceAdd, Nat.reduceSub, Array.replicate_succ, Array.replicate_zero, List.push_toArray, List.append_toArray, List.nil_append, List.cons_append]
  refine (wpIn_wide (n := 4)).2 ?_
  go_wp2_with fail
  obtain ⟨w0, hw0⟩ : ∃ w0, w0 = w.alloc (.cells #[.slice none 0 0] 27) := ⟨_, rfl⟩
  rw [← hw0]
  have HBX := Lib.hid (show Boxed w0 w.heap.size 27 (.slice none 0 0) by rw [hw0]; exact Boxed.new w _ _)
  have HB0 := Lib.hid (show Below w.heap.size w w0 by rw [hw0]; exact (Below.refl _ _).alloc (Nat.le_refl _) _)
  have hsz0 : w0.heap.size = w.heap.size + 1 := by rw [hw0]; simp
  clear hw0
  obtain ⟨hty, ⟨i0, z0, hi1, hi2, hi3, hi4, hi5⟩, -, -⟩ := Tryz.appEnts
  refine wp_rangeD (gf := 40) (lb := #[.pointer (some ⟨b1, 0, none⟩), .pointer (some ⟨b2, 0, none⟩)]) rfl (enters_of Tryz.func40 (by kernel_rfl) rfl)
    (walk_seq S tb mb L p b1 b2 w w0 HT.out HB0.out HPS.out H1.out H2.out) walkKp_t (walkKp_b (by omega)) (fun _ => rfl)
    (CollI w.heap.size w.heap.size w) (fun _ _ _ => False) (CollA w.heap.size w.heap.size w (aseqAct w.heap.size b1 b2))
    (collI_own (by omega) (Nat.le_refl _)) (fun _ _ _ _ _ h _ _ => h) (collA_own (by omega) (Nat.le_refl _)) ⟨⟨_, HBX.out, World.ownsRow_nil _ _ _ _, by simp⟩, HB0.out⟩ ?assign ?body ?done ?stop
  case assign =>
    rintro l pre ⟨v, e⟩ W hW hI hD hN
    obtain ⟨a', c', hv, -, -⟩ := owns_shape hD.1
    simp only at hv
    subst hv
    have hbw : Below W.heap.size W (W.alloc (.cells #[.string e.path, .int .i64 e.kind, .int .i64 e.mode, .int .i64 e.time, .slice a' e.data.length c', .string e.link] 30)) := (Below.refl _ _).alloc (Nat.le_refl _) _
    simp only [entV]
    gi_wp2
    refine ⟨KeepsOthers.alloc _ _, walkKp_below (by omega) hbw, (collI_own (B' := w.heap.size) (Nat.le_refl _) (Nat.le_refl _)).alloc _ hI, ⟨owns_le20 (own_below hD.1 hbw) (by omega), hD.2⟩, hN, W.heap.size, new20 W _, rfl⟩
  case body =>
    rintro l pre ⟨v0, e⟩ a₁ W ⟨⟨⟨v, hv, hrow, hdat⟩, hB⟩, hD, hN, b, hb, rfl⟩
    obtain ⟨a', c', hv0, -, -⟩ := owns_shape hD.1
    simp only at hv0
    subst hv0
    simp only at hb
    have c0 := cell20 (k := 0) hb
    have c1 := cell20 (k := 1) hb
    have c2 := cell20 (k := 2) hb
    have c3 := cell20 (k := 3) hb
    have c4 := cell20 (k := 4) hb
    have c5 := cell20 (k := 5) hb
    simp only [List.getElem?_toArray, List.getElem?_cons_succ, List.getElem?_cons_zero] at c0 c1 c2 c3 c4 c5
    have hc := hv.cell
    simp only [aseqAct, entV]
    gi_wp2_with (gi_at_builtin; refine wpListIn_append_own _ rfl _ _ 27 rfl w.heap.size 30 i0 z0 6 80 hty hi1 hi2 hi3 hi4 hi5 (by decide) _ _ _ rfl (hrow.alloc _) ⟨W.heap.size, 0, none⟩ 1 1 (entC (.slice a' e.data.length c') e) rfl rfl (cells_new W _ _) entC_one (by unfold maxLen; omega) (by omega) (by have := hB.size; simp; omega) ?_; intro v' w1 hown' hgrow _; obtain ⟨g', cap', rfl⟩ := ownsRow_succ hown'; obtain ⟨hv1, hv2, hr2, hk2, hb2⟩ := hv.appended (by decide) hrow hB.size (Nat.le_refl _) hown' hgrow; have hc1 := hv1.cell; have hf1 := hv1.frozen)
    have hbw : Below W.heap.size W (W.alloc (.cells (entC (.slice a' e.data.length c') e).toArray 30)) := (Below.refl _ _).alloc (Nat.le_refl _) _
    have key : ∀ y : VEnt, EntNew w.heap.size y W → EntNew w.heap.size y (w1.setCell ⟨w.heap.size, 0, none⟩ (.slice (some ⟨g', 0, none⟩) (pre.length + 1) cap')) := fun y hy => by
      have k1 := own_below hy.1 hbw
      have k2 := k1.kept hgrow (own_apart k1 (own_below hrow hbw) (by decide))
      exact ⟨k2.kept (grownBy_setCell' w1 _ _) (.inr (hv1.not_row (by decide) k2).symm), hy.2⟩
    refine ⟨hk2, ⟨hb2, ?_⟩, ⟨_, hv2, ?_, fun y hy => ?_⟩, hB.trans hb2⟩
    · refine ((KeepTy.below hbw).trans (KeepTy.grown hgrow fun r e' cs hcs => ?_)).trans (KeepTy.grown (grownBy_setCell' w1 _ _) fun r e' cs hcs => ?_)
      · obtain ⟨cur, hcur⟩ := own_block (own_below hrow hbw) e'
        rw [hcur] at hcs
        simp at hcs
      · cases e'
        rw [show w1.heap[w.heap.size]? = _ from hv1] at hcs
        simp at hcs
    · rw [List.length_append, List.length_singleton, entsC_snoc]
      exact hr2
    · rcases List.mem_append.1 hy with hy | hy
      · exact key y (hdat y hy)
      · rw [List.mem_singleton] at hy
        rw [hy]
        exact key _ hD
  case done =>
    rintro Dl ys W hDl hS ⟨⟨v, hv, hrow, hdat⟩, hB⟩ hK
    have hc := hv.cell
    go_wp2_with fail
    refine ⟨by simp, .inl ⟨_, _, rfl, run_takeDeferred hK, ?_⟩⟩
    refine ⟨_, results_tmp rfl _ _ _, v, rfl, ⟨ys, hS, ownsRow_putObj hrow _ hK rfl, fun y hy => ⟨ownsRow_putObj (hdat y hy).1 _ hK rfl, (hdat y hy).2⟩⟩, hB.trans (belowK_b (w := w) (Nat.le_refl _) W Dl _ _ (by omega) hK rfl rfl)⟩
  case stop =>
    rintro Dl c pre W _ _ h _
    exact h.elim

end Go.Proofs.YtbkhdpocmmjnbaaGreatDoor

/- Contracts of package filetree: Walk, slices.Collect, Entries. -/
namespace Go.Proofs.YtbkhdpocmmjnbaaGreatDoor
open Go Go.RowKit Go.Maps

theorem walk_any (tb : Nat) (p : ByteArray) (w : World) : Calls Tryz.prog 21 #[.pointer (some ⟨tb, 0, none⟩), .string p] w fun e w' => e = .returned (.func (.func 40) #[] #[.pointer (some ⟨w.heap.size, 0, none⟩), .pointer (some ⟨w.heap.size + 1, 0, none⟩)]) ∧
    w'.cell? ⟨w.heap.size, 0, none⟩ = some (.pointer (some ⟨tb, 0, none⟩)) ∧ w'.cell? ⟨w.heap.size + 1, 0, none⟩ = some (.string p) ∧ Below w.heap.size w w' ∧ w'.heap.size = w.heap.size + 2 := by
  go_enter Tryz.func21, Tryz.ntmps21
  go_wp2_with fail
  go_ret
  exact ⟨rfl, cell20 (alloc20 (new20 w _) _), cell20 (new20b w _ _), ((Below.refl _ _).alloc (Nat.le_refl _) _).alloc (by simp) _, by simp⟩
theorem Gathered.le {B B' : Nat} {w : World} {v : Value} {M : List Ent} (h : Gathered B w v M) (hB : B' ≤ B) : Gathered B' w v M := by
  obtain ⟨ys, h1, h2, h3⟩ := h
  exact ⟨ys, h1, owns_le20 h2 hB, fun y hy => ⟨owns_le20 (h3 y hy).1 hB, (h3 y hy).2⟩⟩
theorem Gathered.below {B : Nat} {w w' : World} {v : Value} {M : List Ent} (h : Gathered B w v M) (hb : Below w.heap.size w w') : Gathered B w' v M := by
  obtain ⟨ys, h1, h2, h3⟩ := h
  exact ⟨ys, h1, own_below h2 hb, fun y hy => ⟨own_below (h3 y hy).1 hb, (h3 y hy).2⟩⟩
theorem Gathered.seq {B : Nat} {w : World} {v : Value} {M : List Ent} (h : Gathered B w v M) : EntsAt (fun k => B ≤ k ∧ k < w.heap.size) w v M := by
  obtain ⟨ys, rfl, h2, h3⟩ := h
  refine ⟨entsC ys, ?_, entsC_in (fun y hy => ⟨data_of_owns (h3 y hy).1, (h3 y hy).2⟩)⟩
  rw [List.length_map]
  exact RowAt.mono (row_of_owns h2) (fun k hk hS => ⟨hS.1, hk⟩) (by omega)
theorem collect_walk (S : Nat → Prop) (tb mb : Nat) (L : List Ent) (p : ByteArray) (b1 b2 : Nat) (w : World) (ht : TreeAt S w tb mb L) (hps : p.size ≤ maxLen) (h1 : w.cell? ⟨b1, 0, none⟩ = some (.pointer (some ⟨tb, 0, none⟩))) (h2 : w.cell? ⟨b2, 0, none⟩ = some (.string p)) :
    Calls Tryz.prog 31 #[.func (.func 40) #[] #[.pointer (some ⟨b1, 0, none⟩), .pointer (some ⟨b2, 0, none⟩)]] w fun e w' => ∃ v, e = .returned v ∧ Gathered w.heap.size w' v (atP L p) ∧ Below w.heap.size w w' := by
  go_enter Tryz.func31, Tryz.ntmps31
  go_wp2_with (go_at_call 48; refine (appendSeq_walk S tb mb L p b1 b2 w ht hps h1 h2).mono ?_; rintro e w1 ⟨v, rfl, hg, hb⟩)
  go_ret
  exact ⟨v, rfl, hg, hb⟩
theorem entries_any (S : Nat → Prop) (tb mb : Nat) (L : List Ent) (w : World) (ht : TreeAt S w tb mb L) :
    Calls Tryz.prog 11 #[.pointer (some ⟨tb, 0, none⟩)] w fun e w' => ∃ v, e = .returned v ∧ Gathered w.heap.size w' v L ∧ Below w.heap.size w w' := by
  have HT := Lib.hid ht
  clear ht
  have HR := Lib.hid (atP_root (p := ⟨#[]⟩) HT.out.ok rfl)
  go_enter Tryz.func11, Tryz.ntmps11
  go_wp2_with fail
  refine (walk_any tb ⟨#[]⟩ _).mono ?_
  rintro e w1 ⟨rfl, h1, h2, hb1, hs1⟩
  have HB1 := Lib.hid hb1
  have H1 := Lib.hid h1
  have H2 := Lib.hid h2
  clear h1 h2 hb1
  go_wp2_with fail
  refine (collect_walk S tb mb L ⟨#[]⟩ _ _ _ (HT.out.below HB1.out) (by decide) H1.out H2.out).mono ?_
  rintro e w2 ⟨v, rfl, hg, hb⟩
  have HG := Lib.hid hg
  have HB2 := Lib.hid (below_next HB1.out hb)
  clear hg hb
  go_wp2_with fail
  go_ret
  refine ⟨v, rfl, ?_, HB2.out⟩
  rw [← HR.out]
  exact HG.out.le HB1.out.size

end Go.Proofs.YtbkhdpocmmjnbaaGreatDoor

/- The example of chapter 20. -/
namespace Go.Proofs.YtbkhdpocmmjnbaaGreatDoor
open Go Go.RowKit Go.Maps

def exT1 : Ent := ⟨⟨#[97]⟩, 2, 493, 0, [], ⟨#[]⟩⟩
def exT2 : Ent := ⟨⟨#[97, 47, 120]⟩, 1, 0, 0, [49, 50], ⟨#[]⟩⟩
def exT3 : Ent := ⟨⟨#[98]⟩, 3, 0, 0, [], ⟨#[97]⟩⟩
def exT : List Ent := [exT1, exT2, exT3]
def exM2 : Ent := ⟨⟨#[99, 47, 120]⟩, 1, 0, 0, [49, 50], ⟨#[]⟩⟩
def exM : List Ent := [exT3, ⟨⟨#[99]⟩, 2, 493, 0, [], ⟨#[]⟩⟩, exM2]
theorem ex_check : checkP exT = 0 := by kernel_rfl
theorem ex_count : cntL (atP exT ⟨#[]⟩) = ⟨1, 1, 1, 2⟩ := by kernel_rfl
theorem ex_remove : removeP exT ⟨#[97]⟩ false = (exT, 6) := by kernel_rfl
theorem ex_move1 : moveP exT ⟨#[97]⟩ ⟨#[99]⟩ = (exM, 0) := by kernel_rfl
theorem ex_move2 : moveP exM ⟨#[99]⟩ ⟨#[99, 47, 100]⟩ = (exM, 13) := by kernel_rfl
theorem ex_move3 : moveP exM ⟨#[98]⟩ ⟨#[120, 47, 121]⟩ = (exM, 4) := by kernel_rfl
theorem ex_find : findE exM ⟨#[99, 47, 120]⟩ = some exM2 := by kernel_rfl
theorem ex_put : putP exM ⟨⟨#[99]⟩, 1, 0, 0, [], ⟨#[]⟩⟩ = (exM, 13) := by kernel_rfl
theorem cell_any {W : World} {b k : Nat} {cs : Array Value} {t : TypeId} {fr : Nat × Nat} (h : W.heap[b]? = some (.cells cs t fr)) : W.cell? ⟨b, k, none⟩ = cs[k]? := by simp [World.cell?, h]
theorem row_new {W : World} {b n sz : Nat} {cells : List Value} {t : TypeId} {fr : Nat × Nat} (h : W.heap[b]? = some (.cells cells.toArray t fr)) (hl : cells.length = n * sz) (hn : n ≤ maxLen) : RowAt (fun k => k = b) W sz (.slice (some ⟨b, 0, none⟩) n n) n cells :=
  ⟨hl, some ⟨b, 0, none⟩, n, rfl, Nat.le_refl _, hn, .inr ⟨b, 0, rfl, rfl, fun j u hj => by rw [cell_any h, Nat.zero_add, List.getElem?_toArray]; exact hj⟩⟩
theorem exOk (e : Ent) (h : e = exT1 ∨ e = exT2 ∨ e = exT3) : EntOk e := by
  rcases h with rfl | rfl | rfl <;> exact ⟨by decide, by decide, by decide, by decide, by decide⟩
set_option maxRecDepth 100000 in
set_option maxHeartbeats 2000000 in
theorem exampleT_any (w : World) : Calls Tryz.prog 23 #[] w fun e w' => ∃ v, e = .returned v ∧ EntsAt (fun k => w.heap.size ≤ k ∧ k < w'.heap.size) w' v exT ∧ Below w.heap.size w w' := by
  have hcv := fun (w : World) (C : Array Value) (n c : Nat) => Lib.run_convert_bytes_const (P := Tryz.prog) w 28 5 C n c Tryz.underlying28 Tryz.underlying5
  go_enter Tryz.func23, Tryz.ntmps23
  go_wp2_with fail
  go_ret
  obtain ⟨W1, hW1⟩ : ∃ W1, W1 = w.alloc (.cells #[.int .u8 49, .int .u8 50] 5 (2, 3)) := ⟨_, rfl⟩
  rw [← hW1]
  have h1 : W1.heap[w.heap.size]? = some (.cells #[.int .u8 49, .int .u8 50] 5 (2, 3)) := by rw [hW1]; exact new20 w _
  have hs1 : W1.heap.size = w.heap.size + 1 := by rw [hW1]; simp
  have hb1 : Below w.heap.size w W1 := by rw [hW1]; exact (Below.refl _ _).alloc (Nat.le_refl _) _
  clear hW1
  refine ⟨.slice (some ⟨W1.heap.size, 0, none⟩) 3 3, by rw [hs1]; rfl, ?_, hb1.alloc hb1.size _⟩
  have hrow := row_new (W := W1.alloc (.cells (entsC [(.slice none 0 0, exT1), (.slice (some ⟨w.heap.size, 0, none⟩) 2 2, exT2), (.slice none 0 0, exT3)]).toArray 30)) (b := W1.heap.size) (n := 3) (sz := 6) (new20 W1 _) rfl (by decide)
  have hdat := row_new (n := 2) (sz := 1) (cells := [u8V 49, u8V 50]) (alloc20 h1 (.cells (entsC [(.slice none 0 0, exT1), (.slice (some ⟨w.heap.size, 0, none⟩) 2 2, exT2), (.slice none 0 0, exT3)]).toArray 30)) rfl (by decide)
  have hsz : (W1.alloc (.cells (entsC [(.slice none 0 0, exT1), (.slice (some ⟨w.heap.size, 0, none⟩) 2 2, exT2), (.slice none 0 0, exT3)]).toArray 30)).heap.size = w.heap.size + 2 := by simp [hs1]
  change EntsAt _ (W1.alloc (.cells (entsC [(.slice none 0 0, exT1), (.slice (some ⟨w.heap.size, 0, none⟩) 2 2, exT2), (.slice none 0 0, exT3)]).toArray 30)) _ exT
  refine ⟨_, RowAt.mono hrow (fun k hk hS => ?_) (by omega), entsC_in (ys := [(.slice none 0 0, exT1), (.slice (some ⟨w.heap.size, 0, none⟩) 2 2, exT2), (.slice none 0 0, exT3)]) (fun y hy => ?_)⟩
  · subst hS
    exact ⟨by omega, hk⟩
  · simp only [List.mem_cons, List.not_mem_nil, or_false] at hy
    rcases hy with rfl | rfl | rfl
    · exact ⟨DataAt.nil _ _, exOk _ (.inl rfl)⟩
    · refine ⟨RowAt.mono hdat (fun k hk hS => ?_) (by omega), exOk _ (.inr (.inl rfl))⟩
      subst hS
      exact ⟨Nat.le_refl _, hk⟩
    · exact ⟨DataAt.nil _ _, exOk _ (.inr (.inr rfl))⟩

end Go.Proofs.YtbkhdpocmmjnbaaGreatDoor

/- Contracts of package filetree: Get. -/
namespace Go.Proofs.YtbkhdpocmmjnbaaGreatDoor
open Go.RowKit Go.Maps

def GetRes (L : List Ent) (p : ByteArray) (w : World) (e : Ending) (w' : World) : Prop := Below w.heap.size w w' ∧ match findE L p with
  | none => e = .returned (.tuple #[.agg #[.string ⟨#[]⟩, .int .i64 0, .int .i64 0, .int .i64 0, .slice none 0 0, .string ⟨#[]⟩], .bool false])
  | some f => ∃ v, e = .returned (.tuple #[entV v f, .bool true]) ∧ w'.ownsRow w.heap.size 5 1 v f.data.length (f.data.map u8V)
set_option maxHeartbeats 1000000 in
theorem get_res {a : Act} {w : World} {b : Nat} {x0 x1 x2 x3 x4 x5 e5 : Value} (h : w.heap[b]? = some (.cells #[x0, x1, x2, x3, x4, x5] 30 (0, 0)))
    (h4 : a.tmps[4]? = some (.pointer (some ⟨b, 0, none⟩))) (h5 : a.tmps[5]? = some e5) : (results Tryz.f13 a.tmps).run Tryz.prog w = .ok (.tuple #[.agg #[x0, x1, x2, x3, x4, x5], e5]) w := by
  have m0 := cell20 (k := 0) h
  have m1 := cell20 (k := 1) h
  have m2 := cell20 (k := 2) h
  have m3 := cell20 (k := 3) h
  have m4 := cell20 (k := 4) h
  have m5 := cell20 (k := 5) h
  simp only [List.getElem?_toArray, List.getElem?_cons_succ, List.getElem?_cons_zero] at m0 m1 m2 m3 m4 m5
  simp [results, Tryz.results13, go_sem, h4, h5, m0, m1, m2, m3, m4, m5]
theorem get_end {a : Act} {w : World} {b : Nat} {x0 x1 x2 x3 x4 x5 e5 : Value} {Q : Ending → World → Prop} (h : w.heap[b]? = some (.cells #[x0, x1, x2, x3, x4, x5] 30 (0, 0)))
    (h4 : a.tmps[4]? = some (.pointer (some ⟨b, 0, none⟩))) (h5 : a.tmps[5]? = some e5) (hd : a.defers = [])
    (hQ : Q (.returned (.tuple #[.agg #[x0, x1, x2, x3, x4, x5], e5])) w) :
    bodyPost Tryz.prog Tryz.f13 Q Exit.ret a w :=
  bodyPost_ret (get_res h h4 h5) hd hQ
set_option maxRecDepth 100000 in
set_option maxHeartbeats 1000000 in
theorem get_any (S : Nat → Prop) (tb mb : Nat) (L : List Ent) (p : ByteArray) (w : World) (ht : TreeAt S w tb mb L) (hps : p.size ≤ maxLen) :
    Calls Tryz.prog 13 #[.pointer (some ⟨tb, 0, none⟩), .string p] w (GetRes L p w) := by
  have HT := Lib.hid ht
  have hcl := ht.cell
  have hlt := block_lt hcl
  simp only at hlt
  have HB0 := Lib.hid ((Below.refl w.heap.size w).alloc (Nat.le_refl _) (.cells #[.string ⟨#[]⟩, .int .i64 0, .int .i64 0, .int .i64 0, .slice none 0 0, .string ⟨#[]⟩] 30))
  cases hf : findE L p with
  | none =>
    have HR := Lib.hid (show ∀ e w', Below w.heap.size w w' → e = .returned (.tuple #[.agg #[.string ⟨#[]⟩, .int .i64 0, .int .i64 0, .int .i64 0, .slice none 0 0, .string ⟨#[]⟩], .bool false]) → GetRes L p w e w' from fun e w' h1 h2 => by unfold GetRes; rw [hf]; exact ⟨h1, h2⟩)
    have hlk := (ht.below HB0.out).miss mapTy (zeroE_run _) hps hf true
    unfold zeroE at hlk
    simp only [if_true] at hlk
    clear ht hf
    go_enter Tryz.func13, Tryz.ntmps13
    go_wp2_with fail
    refine get_end (b := w.heap.size) (alloc20 (new20 w _) _) (by kernel_rfl) (by kernel_rfl) (by kernel_rfl) (HR.out _ _ ?_ rfl)
    exact ((Below.refl _ _).alloc (Nat.le_refl _) _).alloc (by simp) _
  | some f =>
    obtain ⟨v, hlk, hd, -⟩ := (ht.below HB0.out).hit mapTy hps hf true
    have HD := Lib.hid hd
    obtain ⟨_, a, cap, rfl, hc, hm, -⟩ := hd
    unfold entV at hlk
    simp only [if_true] at hlk
    have HV := Lib.hid (vEnt_data (ht.ok.val f (findE_some hf).1))
    have HR := Lib.hid (show ∀ e w' v, Below w.heap.size w w' → e = .returned (.tuple #[entV v f, .bool true]) → w'.ownsRow w.heap.size 5 1 v f.data.length (f.data.map u8V) → GetRes L p w e w' from fun e w' v h1 h2 h3 => by unfold GetRes; rw [hf]; exact ⟨h1, v, h2, h3⟩)
    clear ht hf hc hm
    go_enter Tryz.func13, Tryz.ntmps13
    go_wp2_with fail
    obtain ⟨W, hW⟩ : ∃ W : World, W = (w.alloc (.cells #[.string ⟨#[]⟩, .int .i64 0, .int .i64 0, .int .i64 0, .slice none 0 0, .string ⟨#[]⟩] 30)).alloc (.cells #[.string f.path, .int .i64 f.kind, .int .i64 f.mode, .int .i64 f.time, .slice a f.data.length cap, .string f.link] 30) := ⟨_, rfl⟩
    rw [← hW]
    have hz1 : W.heap[w.heap.size]? = some (.cells #[.string ⟨#[]⟩, .int .i64 0, .int .i64 0, .int .i64 0, .slice none 0 0, .string ⟨#[]⟩] 30 (0, 0)) := by rw [hW]; exact alloc20 (new20 _ _) _
    have HB1 := Lib.hid (show Below w.heap.size w W by rw [hW]; exact ((Below.refl _ _).alloc (Nat.le_refl _) _).alloc (by simp) _)
    have hWs : W.heap.size = w.heap.size + 2 := by rw [hW]; simp
    have hdW : DataAt S W (.slice a f.data.length cap) f.data := by rw [hW]; exact HD.out.below ((Below.refl _ _).alloc (Nat.le_refl _) _)
    refine (copied_flat S f _ W hdW HV.out).mono ?_
    rintro e w1 ⟨a', cap', rfl, ho, hb1⟩
    have HO := Lib.hid ho
    have HB2 := Lib.hid (below_next HB1.out hb1)
    have HX1 := Lib.hid ((hb1.block w.heap.size (lt20 hz1)).trans hz1)
    have HWS := Lib.hid hWs
    clear hW hdW ho hb1 hz1 hWs hcl hlt hlk
    have m0 := cell20 (k := 0) HX1.out
    have m1 := cell20 (k := 1) HX1.out
    have m2 := cell20 (k := 2) HX1.out
    have m3 := cell20 (k := 3) HX1.out
    have m4 := cell20 (k := 4) HX1.out
    have m5 := cell20 (k := 5) HX1.out
    simp only [List.getElem?_toArray, List.getElem?_cons_succ, List.getElem?_cons_zero] at m0 m1 m2 m3 m4 m5
    have p0 := frozen20 (k := 0) HX1.out
    have p1 := frozen20 (k := 1) HX1.out
    have p2 := frozen20 (k := 2) HX1.out
    have p3 := frozen20 (k := 3) HX1.out
    have p4 := frozen20 (k := 4) HX1.out
    have p5 := frozen20 (k := 5) HX1.out
    go_wp2_with fail
    refine get_end (b := w.heap.size) (six20 HX1.out) (by kernel_rfl) (by kernel_rfl) (by kernel_rfl) (HR.out _ _ (.slice a' f.data.length cap') ?_ rfl ?_)
    · repeat refine below_set20 ?_ (Nat.le_refl _)
      exact HB2.out
    · have hz := HWS.out
      refine owns_le20 (base := W.heap.size) ?_ (by omega)
      repeat refine ownsRow_setCell_below ?_ (by show w.heap.size < _; omega) _
      exact HO.out

end Go.Proofs.YtbkhdpocmmjnbaaGreatDoor

/- Contracts of package filetree: Size. -/
namespace Go.Proofs.YtbkhdpocmmjnbaaGreatDoor
open Go.RowKit Go.Maps

def cK (L : List Ent) (p : ByteArray) (k : Nat) : Cnt := cntL ((atP L p).take k)
theorem cK_step {L : List Ent} {p : ByteArray} {k : Nat} {e : Ent} (h : (atP L p)[k]? = some e) : cK L p (k + 1) = cntE (cK L p k) e := by
  unfold cK
  rw [List.take_add_one, h, ← cntL_snoc]; rfl
theorem cK_le {L : List Ent} (h : TOk L) (p : ByteArray) : ∀ k, k ≤ (atP L p).length → (cK L p k).files ≤ k ∧ (cK L p k).dirs ≤ k ∧ (cK L p k).links ≤ k ∧ (cK L p k).bytes ≤ k * 1048576
  | 0, _ => by simp [cK, cntL]
  | k + 1, hk => by
    obtain ⟨h1, h2, h3, h4⟩ := cK_le h p k (by omega)
    have he : (atP L p)[k]? = some (atP L p)[k] := by simp
    rw [cK_step he]
    have hv := h.val _ (atP_sub _ (List.getElem_mem (by omega : k < (atP L p).length)))
    have hd : (atP L p)[k].data.length ≤ 1048576 := by
      by_cases hk1 : (atP L p)[k].kind = 1
      · unfold vEnt vKind at hv
        simp only [Bool.and_eq_true] at hv
        have := hv.2
        rw [if_pos hk1] at this
        simp only [Bool.and_eq_true, decide_eq_true_eq] at this
        exact this.1
      · rw [data_file hv hk1]; omega
    unfold cntE
    refine ⟨?_, ?_, ?_, ?_⟩
    · show _ + _ ≤ _; split <;> omega
    · show _ + _ ≤ _; split <;> omega
    · show _ + _ ≤ _; split <;> omega
    · show _ + _ ≤ _; omega
theorem size_end {a : Act} {w : World} {e4 e5 e6 e7 : Value} {Q : Ending → World → Prop} (h4 : a.tmps[4]? = some e4) (h5 : a.tmps[5]? = some e5) (h6 : a.tmps[6]? = some e6) (h7 : a.tmps[7]? = some e7) (hd : a.defers = [])
    (hQ : Q (.returned (.tuple #[e4, e5, e6, e7])) w) : bodyPost Tryz.prog Tryz.f18 Q Exit.ret a w :=
  bodyPost_ret (v := .tuple #[e4, e5, e6, e7]) (by simp [results, Tryz.results18, go_sem, h4, h5, h6, h7]) hd hQ
set_option maxRecDepth 100000 in
set_option maxHeartbeats 2000000 in
theorem size_any (S : Nat → Prop) (tb mb : Nat) (L : List Ent) (p : ByteArray) (w : World) (ht : TreeAt S w tb mb L) (hps : p.size ≤ maxLen) :
    Calls Tryz.prog 18 #[.pointer (some ⟨tb, 0, none⟩), .string p] w fun e w' => e = .returned (.tuple #[.int .i64 (cntL (atP L p)).files, .int .i64 (cntL (atP L p)).dirs, .int .i64 (cntL (atP L p)).links, .int .i64 (cntL (atP L p)).bytes]) ∧ Below w.heap.size w w' := by
  have HT := Lib.hid ht
  obtain ⟨n, hn⟩ : ∃ n, n = (pathsM L p).length := ⟨_, rfl⟩
  have hn2 : n = (atP L p).length := by rw [hn]; unfold pathsM; rw [List.length_map]
  have hn4 : n ≤ 4096 := by
    rw [hn2]
    have := List.length_filter_le (fun e => inB p e && (decide (p.size = 0) || (findE L p).isSome)) L
    unfold atP
    have := ht.ok.len
    omega
  have HN := Lib.hid hn
  have HN2 := Lib.hid hn2
  clear ht hn hn2
  go_enter Tryz.func18, Tryz.ntmps18
  go_wp2_with (go_at_call 34; refine (paths_any S tb mb L p _ HT.out hps).mono ?_; rintro e w2 ⟨v2, rfl, ho, hb2⟩; have HROW := Lib.hid (RowAt.weak (T := fun _ => True) (row_of_owns ho) (fun _ _ => trivial)); obtain ⟨a2, c2, rfl, hc2, hm2⟩ := owns_shape ho; rw [← HN.out] at *)
  have HB2 := Lib.hid hb2
  unfold maxLen at hm2
  clear ho hb2
  go_loopw [4, 5, 6, 7, 15] (fun f d l b i wr => ∃ k : Nat, k ≤ n ∧ i = .int .i64 k ∧ f = .int .i64 (cK L p k).files ∧ d = .int .i64 (cK L p k).dirs ∧ l = .int .i64 (cK L p k).links ∧ b = .int .i64 (cK L p k).bytes ∧ Below w2.heap.size w2 wr) (fun _ _ _ _ i _ => n - (intOf i).toNat)
  case atStart => exact ⟨0, Nat.zero_le _, rfl, by simp [cK, cntL], by simp [cK, cntL], by simp [cK, cntL], by simp [cK, cntL], Below.refl _ _⟩
  case round =>
    obtain ⟨k, hk, rfl, rfl, rfl, rfl, rfl, hbr⟩ := hrel
    have HBR := Lib.hid hbr
    by_cases hlt : k < n
    · have hla : k < (atP L p).length := by rw [← HN2.out]; exact hlt
      obtain ⟨e, hat⟩ : ∃ e, (atP L p)[k]? = some e := ⟨_, List.getElem?_eq_getElem hla⟩
      have heL := atP_sub e (List.mem_of_getElem? hat)
      have hfe := findE_mem HT.out.ok.nodup heL
      have hvE := HT.out.ok.val e heL
      have HTR := Lib.hid (HT.out.below (below_next HB2.out hbr))
      obtain ⟨v, hlk, hd, hok⟩ := HTR.out.hit mapTy (by have := valid_size (vEnt_path hvE); rw [size_bl]; unfold maxLen; omega) hfe false
      have hcl := HTR.out.cell
      have hltb := block_lt hcl
      simp only at hltb
      have hdl := vEnt_data hvE
      obtain ⟨_, a, cap, rfl, hc, hm, -⟩ := hd
      unfold entV at hlk
      simp only [Bool.false_eq_true, if_false] at hlk
      unfold maxLen at hm
      obtain ⟨_, a3, c3, he3, _, _, h03⟩ := HROW.out
      simp only [Value.slice.injEq] at he3
      obtain ⟨rfl, -, rfl⟩ := he3
      rcases h03 with h03 | ⟨b, o, rfl, -, hcc⟩
      · omega
      have hc0 := hcc k (.string e.path) (by unfold pathsM; rw [List.getElem?_map, List.getElem?_map, hat]; rfl)
      have hcq := (hbr.cell (block_lt hc0)).trans hc0
      obtain ⟨b1, b2, b3, b4⟩ := cK_le HT.out.ok p k (by omega)
      have HAT := Lib.hid hat
      have HKD := Lib.hid (kind_of hvE)
      have HDF := Lib.hid (fun hk => data_file hvE hk)
      clear hat heL hfe hvE hok hcc hc0 hbr hla
      have hb4' : (cK L p k).bytes ≤ 4294967296 := by omega
      rcases HKD.out with hkd | hkd | hkd
      · have e1 : (e.kind == 1) = true := by simp [hkd]
        have HKK := Lib.hid hkd
        clear hkd
        have hk0 := HKK.out
        go_wp2_with fail
        go_roundw
        case rel =>
          refine ⟨k + 1, by omega, by go_num, ?_, ?_, ?_, ?_, below_next HBR.out ((Below.refl _ _).alloc (Nat.le_refl _) _)⟩
          · rw [cK_step HAT.out]; simp [cntE, hk0]
          · rw [cK_step HAT.out]; simp [cntE, hk0]
          · rw [cK_step HAT.out]; simp [cntE, hk0]
          · rw [cK_step HAT.out]; simp [cntE, hk0]
        case measure => simp [intOf]; omega
      · have e1 : (e.kind == 1) = false := by simp [hkd]
        have e2 : (e.kind == 2) = true := by simp [hkd]
        have HKK := Lib.hid hkd
        have HD0 := Lib.hid (HDF.out (by omega))
        clear hkd
        have hk0 := HKK.out
        go_wp2_with fail
        go_roundw
        case rel =>
          refine ⟨k + 1, by omega, by go_num, ?_, ?_, ?_, ?_, below_next HBR.out ((Below.refl _ _).alloc (Nat.le_refl _) _)⟩
          · rw [cK_step HAT.out]; simp [cntE, hk0]
          · rw [cK_step HAT.out]; simp [cntE, hk0]
          · rw [cK_step HAT.out]; simp [cntE, hk0]
          · rw [cK_step HAT.out]; simp [cntE, HD0.out]
        case measure => simp [intOf]; omega
      · have e1 : (e.kind == 1) = false := by simp [hkd]
        have e2 : (e.kind == 2) = false := by simp [hkd]
        have e3 : (e.kind == 3) = true := by simp [hkd]
        have HKK := Lib.hid hkd
        have HD0 := Lib.hid (HDF.out (by omega))
        clear hkd
        have hk0 := HKK.out
        go_wp2_with fail
        go_roundw
        case rel =>
          refine ⟨k + 1, by omega, by go_num, ?_, ?_, ?_, ?_, below_next HBR.out ((Below.refl _ _).alloc (Nat.le_refl _) _)⟩
          · rw [cK_step HAT.out]; simp [cntE, hk0]
          · rw [cK_step HAT.out]; simp [cntE, hk0]
          · rw [cK_step HAT.out]; simp [cntE, hk0]
          · rw [cK_step HAT.out]; simp [cntE, HD0.out]
        case measure => simp [intOf]; omega
    · clear hbr
      have hk2 : k = n := by omega
      have HCK := Lib.hid (show cK L p k = cntL (atP L p) by unfold cK; rw [hk2, HN2.out, List.take_length])
      clear hk2
      go_wp2_with fail
      refine size_end (e4 := .int .i64 (cK L p k).files) (e5 := .int .i64 (cK L p k).dirs) (e6 := .int .i64 (cK L p k).links) (e7 := .int .i64 (cK L p k).bytes) (by kernel_rfl) (by kernel_rfl) (by kernel_rfl) (by kernel_rfl) (by kernel_rfl) ?_
      rw [HCK.out]
      exact ⟨rfl, below_next HB2.out HBR.out⟩

end Go.Proofs.YtbkhdpocmmjnbaaGreatDoor

/- Contracts of package filetree: Equal. -/
namespace Go.Proofs.YtbkhdpocmmjnbaaGreatDoor
open Go.RowKit Go.Maps

theorem same_lists {L M : List Ent} (hL : TOk L) (hM : TOk M) (hl : L.length = M.length) (h : ∀ e ∈ L, findE M e.path = some e) : L = M := by
  refine sorted_perm_eq hL.ord hM.ord ?_
  have hs : ∀ e ∈ L, e ∈ M := fun e he => (findE_some (h e he)).1
  have key : ∀ (a b : List Ent), a.Nodup → (∀ x ∈ a, x ∈ b) → a.length = b.length → a.Perm b := by
    intro a
    induction a with
    | nil => intro b _ _ hl; rw [List.eq_nil_of_length_eq_zero hl.symm]
    | cons x a ih =>
      intro b hn hs hl
      rw [List.nodup_cons] at hn
      obtain ⟨u, t, rfl⟩ := List.append_of_mem (hs x (by simp))
      refine List.Perm.trans ?_ List.perm_middle.symm
      refine (ih (u ++ t) hn.2 (fun y hy => ?_) (by simp at hl ⊢; omega)).cons x
      rcases List.mem_append.1 (hs y (by simp [hy])) with h | h
      · simp [h]
      · rcases List.mem_cons.1 h with rfl | h
        · exact absurd hy hn.1
        · simp [h]
  exact key L M (nodup_ent hL.nodup) hs hl
def LoopQ (w : World) (M : List Ent) (mb r : Nat) (xs : List VEnt) (wr : World) : Prop :=
  ∃ vis : List VEnt, RngS Tryz.prog 9 wr mb r (xs.map pairOf) (vis.map pairOf) ∧ (∀ x ∈ vis, x ∈ xs) ∧ (vis.map (fun x => x.2.path)).Nodup ∧ (∀ x ∈ vis, findE M x.2.path = some x.2) ∧ Below w.heap.size w wr
theorem drewN_below (w : World) (n : Nat) : Below w.heap.size w (w.drewN n) := ⟨rfl, rfl, rfl, Nat.le_refl _, fun _ _ => rfl⟩
end Go.Proofs.YtbkhdpocmmjnbaaGreatDoor

/- Contracts of package filetree: Clone. -/
namespace Go.Proofs.YtbkhdpocmmjnbaaGreatDoor
open Go.RowKit Go.Maps


def newS (B r : Nat) (w : World) (k : Nat) : Prop := B ≤ k ∧ k < w.heap.size ∧ k ≠ r
theorem MapE.next {S : Nat → Prop} {w w' : World} {mb r : Nat} {xs : List VEnt} (h : MapE S w mb xs) (hr : ¬ S r) (hne : mb ≠ r) (hg : w.grownBy w' (some r)) : MapE S w' mb xs :=
  ⟨h.map.same (hg.block mb h.map.lt (fun e => hne (Option.some.inj e))), fun x hx => ⟨data_grown (h.dat x hx).1 hr hg, (h.dat x hx).2⟩, h.far⟩
def LoopC (w : World) (mb r : Nat) (xs : List VEnt) (wr : World) : Prop :=
  ∃ vis ys : List VEnt, RngS Tryz.prog 9 wr mb r (xs.map pairOf) (vis.map pairOf) ∧ (∀ x ∈ vis, x ∈ xs) ∧ (vis.map (fun x => x.2.path)).Nodup ∧ ys.map Prod.snd = vis.map Prod.snd ∧ MapE (newS (w.heap.size + 2) r wr) wr w.heap.size ys ∧
    wr.cell? ⟨w.heap.size + 1, 0, none⟩ = some (.map (some w.heap.size)) ∧ Below w.heap.size w wr ∧ w.heap.size + 2 ≤ wr.heap.size
end Go.Proofs.YtbkhdpocmmjnbaaGreatDoor

/- Contracts of the specification kinkeepref20: Find. -/
namespace Go.Proofs.YtbkhdpocmmjnbaaGreatDoor
open Go.RowKit Go.Maps

def findIx : List Ent → ByteArray → Nat → Int
  | [], _, _ => -1
  | e :: L, p, i => if e.path = p then (i : Int) else findIx L p (i + 1)
theorem findIx_drop {L : List Ent} {p : ByteArray} {k : Nat} {e : Ent} (h : L[k]? = some e) : findIx (L.drop k) p k = if e.path = p then (k : Int) else findIx (L.drop (k + 1)) p (k + 1) := by
  obtain ⟨hk, he⟩ := List.getElem?_eq_some_iff.1 h
  rw [List.drop_eq_getElem_cons hk, findIx, he]
/-- The place that is found: of the first entry with the path. -/
theorem findIx_spec {p : ByteArray} : ∀ (L : List Ent) (i : Nat), (findE L p = none ∧ findIx L p i = -1) ∨ ∃ j e, findE L p = some e ∧ L[j]? = some e ∧ findIx L p i = ((i + j : Nat) : Int)
  | [], i => .inl ⟨rfl, rfl⟩
  | e :: L, i => by
    by_cases h : e.path = p
    · right
      refine ⟨0, e, ?_, rfl, ?_⟩
      · unfold findE; rw [List.find?_cons_of_pos (by simp [h])]
      · rw [findIx, if_pos h]; simp
    · have hf : findE (e :: L) p = findE L p := by unfold findE; rw [List.find?_cons_of_neg (by simp [h])]
      rw [findIx, if_neg h, hf]
      rcases findIx_spec L (i + 1) with h1 | ⟨j, f, h1, h2, h3⟩
      · exact .inl h1
      · exact .inr ⟨j + 1, f, h1, by simpa using h2, by rw [h3]; congr 1; omega⟩
set_option maxRecDepth 100000 in
set_option maxHeartbeats 1000000 in
theorem r_find_any (S : Nat → Prop) (L : List Ent) (v : Value) (p : ByteArray) (w : World) (hv : EntsAt S w v L) :
    Calls Tryz.prog 14 #[v, .string p] w fun e w' => e = .returned (.int .i64 (findIx L p 0)) ∧ Below w.heap.size w w' := by
  have HV := Lib.hid hv
  obtain ⟨a, cap, rfl, hc, hm, -⟩ := SeqAt.shape hv EntR.len
  obtain ⟨n, hn⟩ : ∃ n, n = L.length := ⟨_, rfl⟩
  have HN := Lib.hid hn
  rw [← hn] at HV hc ⊢
  unfold maxLen at hm
  clear hv hn
  go_enter Tryz.func14, Tryz.ntmps14
  go_wp2_with fail
  go_loopw [5, 9] (fun _ i wr => ∃ k : Nat, k ≤ n ∧ i = .int .i64 k ∧ findIx L p 0 = findIx (L.drop k) p k ∧ Below w.heap.size w wr) (fun _ i _ => n - (intOf i).toNat)
  case atStart => exact ⟨0, Nat.zero_le _, rfl, rfl, Below.refl _ _⟩
  case round =>
    obtain ⟨k, hk, rfl, hfi, hbr⟩ := hrel
    have HFI := Lib.hid hfi
    have HBR := Lib.hid hbr
    by_cases hlt : k < n
    · obtain ⟨e, he⟩ : ∃ e, L[k]? = some e := ⟨L[k]'(by rw [← HN.out]; exact hlt), by simp⟩
      obtain ⟨b, o, dv, rfl, -, hb, hd, -, -, q0, q1, q2, q3, q4, q5⟩ := ents_at (HV.out.below hbr) he
      obtain ⟨_, ad, cd, rfl, hcd, hmd, -⟩ := hd
      have HAT := Lib.hid (findIx_drop (p := p) he)
      clear he hfi hbr
      by_cases hp : e.path = p
      · have e1 : (e.path.toList == p.toList) = true := by rw [hp]; simp
        have HR := Lib.hid (show findIx L p 0 = (k : Int) by rw [HFI.out, HAT.out, if_pos hp])
        clear hp
        go_wp2_with fail
        go_ret
        exact ⟨ret_int HR.out.symm, below_next HBR.out ((Below.refl _ _).alloc (Nat.le_refl _) _)⟩
      · have e1 : (e.path.toList == p.toList) = false := by
          rw [beq_eq_false_iff_ne]; intro h; exact hp (bl_inj (by rw [← toList_bl, ← toList_bl]; exact h))
        have HR := Lib.hid (show findIx L p 0 = findIx (L.drop (k + 1)) p (k + 1) by rw [HFI.out, HAT.out, if_neg hp])
        clear hp
        go_wp2_with fail
        go_roundw
        case rel => exact ⟨k + 1, by omega, by go_num, HR.out, below_next HBR.out ((Below.refl _ _).alloc (Nat.le_refl _) _)⟩
        case measure => simp [intOf]; omega
    · have HR := Lib.hid (show findIx L p 0 = -1 by rw [HFI.out, List.drop_of_length_le (by rw [← HN.out]; omega)]; rfl)
      clear hfi hbr
      go_wp2_with fail
      go_ret
      exact ⟨ret_int HR.out.symm, HBR.out⟩

end Go.Proofs.YtbkhdpocmmjnbaaGreatDoor

/- Contracts of the specification kinkeepref20: Same. -/
namespace Go.Proofs.YtbkhdpocmmjnbaaGreatDoor
open Go.RowKit Go.Maps

theorem conv20 {S : Nat → Prop} {w : World} {v : Value} {bs : List UInt8} (hd : DataAt S w v bs) : (convert 28 9 v).run Tryz.prog w = .ok (.string ⟨bs.toArray⟩) w := by
  have h := conv_data hd
  have e : strOfNums (bs.map fun b => (b.toNat : Int)) = ⟨bs.toArray⟩ := by
    simp only [strOfNums, List.map_map, Function.comp_def, Int.toNat_natCast]
    simp
  rw [e] at h
  exact h
set_option maxRecDepth 100000 in
set_option maxHeartbeats 2000000 in
theorem r_same20_any (S T : Nat → Prop) (a b : Ent) (va vb : Value) (w : World) (ha : DataAt S w va a.data) (hb : DataAt T w vb b.data) : Calls Tryz.prog 15 #[entV va a, entV vb b] w fun e w' => e = .returned (.bool (decide (a = b))) ∧ Below w.heap.size w w' := by
  obtain ⟨sa, hsa⟩ : ∃ sa : ByteArray, sa = ⟨a.data.toArray⟩ := ⟨_, rfl⟩
  obtain ⟨sb, hsb⟩ : ∃ sb : ByteArray, sb = ⟨b.data.toArray⟩ := ⟨_, rfl⟩
  have hca : ∀ c1 c2 : Array Value, (convert 28 9 va).run Tryz.prog ((w.alloc (.cells c1 30)).alloc (.cells c2 30)) = .ok (.string sa) ((w.alloc (.cells c1 30)).alloc (.cells c2 30)) := fun c1 c2 => by
    rw [hsa]; exact conv20 (ha.below (((Below.refl _ _).alloc (Nat.le_refl _) _).alloc (by simp) _))
  have hcb : ∀ c1 c2 : Array Value, (convert 28 9 vb).run Tryz.prog ((w.alloc (.cells c1 30)).alloc (.cells c2 30)) = .ok (.string sb) ((w.alloc (.cells c1 30)).alloc (.cells c2 30)) := fun c1 c2 => by
    rw [hsb]; exact conv20 (hb.below (((Below.refl _ _).alloc (Nat.le_refl _) _).alloc (by simp) _))
  have HSA := Lib.hid (show bl sa = a.data by rw [hsa]; exact bl_mk _)
  have HSB := Lib.hid (show bl sb = b.data by rw [hsb]; exact bl_mk _)
  obtain ⟨_, aa, ca, rfl, hc1, hm1, -⟩ := ha
  obtain ⟨_, ab, cb, rfl, hc2, hm2, -⟩ := hb
  unfold maxLen at hm1 hm2
  unfold entV
  clear hsa hsb
  have HN := Lib.hid (show ∀ x y : ByteArray, x.toList = y.toList ↔ x = y from fun x y => by rw [toList_bl, toList_bl]; exact ⟨bl_inj, fun h => by rw [h]⟩)
  go_enter Tryz.func15, Tryz.ntmps15
  go_wp2_with fail
  · have y1 : a.path.toList = b.path.toList := by assumption
    have y2 : a.kind = b.kind := by assumption
    have y3 : a.mode = b.mode := by assumption
    have y4 : a.time = b.time := by assumption
    have y5 : a.link.toList = b.link.toList := by assumption
    have HX := Lib.hid (show (sa.toList == sb.toList) = decide (a = b) by
      rw [toList_bl, toList_bl, HSA.out, HSB.out]
      cases a; cases b
      rw [HN.out] at y1 y5
      simp only at y1 y2 y3 y4 y5
      subst y1 y2 y3 y4 y5
      rw [Bool.eq_iff_iff]
      simp)
    go_ret
    exact ⟨ret_bool HX.out, ((Below.refl _ _).alloc (Nat.le_refl _) _).alloc (by simp) _⟩
  all_goals (
    go_ret
    refine ⟨ret_bool ?_, ((Below.refl _ _).alloc (Nat.le_refl _) _).alloc (by simp) _⟩
    symm
    rw [decide_eq_false_iff_not]
    rintro rfl
    exact absurd rfl (by assumption))

end Go.Proofs.YtbkhdpocmmjnbaaGreatDoor
