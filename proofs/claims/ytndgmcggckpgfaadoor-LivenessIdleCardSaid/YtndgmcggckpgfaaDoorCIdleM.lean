/- LivenessIdle: for every input the law returns true, and each argument reads afterwards as it read before (the tied card). -/
import Derived.Test.YtndgmcggckpgfaaDoorME
/- The law LivenessDrops: its walk. -/
namespace Go.Proofs.YtndgmcggckpgfaaDoor
open Go.RowKit

/-- What a law of the chapter carries along. -/
structure LCtx (w0 w : World) (sv cv : Value) (roots : List Ref) (cs : List (ByteArray × List UInt8)) : Prop where
  env : Env w
  snaps : SnapsAt (fun _ => True) w sv roots
  cont : ContIn (fun _ => True) w cv cs
  below : Below w0.heap.size w0 w
theorem LCtx.next {w0 w w' : World} {sv cv : Value} {roots : List Ref} {cs : List (ByteArray × List UInt8)} (h : LCtx w0 w sv cv roots cs) (hb : Below w.heap.size w w') : LCtx w0 w' sv cv roots cs :=
  ⟨h.env.below hb, SeqAt.below h.snaps (by omega) hb (fun _ _ _ h => h), h.cont.below hb, below_next h.below hb⟩
theorem lens_one {w : World} {a : Option Addr} {n cap : Nat} (h1 : n ≤ cap) (h2 : cap ≤ maxLen) : LensAt (fun _ => True) (w.alloc (.cells #[.slice a n cap] 26)) (.slice (some ⟨w.heap.size, 0, none⟩) 1 1) [n] :=
  ⟨[.slice a n cap], (row_lit (cells := [.slice a n cap]) (heap_alloc_new w _) rfl (by decide)).weak (fun _ _ => trivial), ⟨[.slice a n cap], [], rfl, ⟨a, cap, rfl, h1, h2⟩, rfl⟩⟩
theorem cont_map {S : Nat → Prop} {w : World} {cv : Value} {cs : List (ByteArray × List UInt8)} (h : ContIn S w cv cs) : ∃ cm, cv = .map cm := by
  rcases h with ⟨h, _⟩ | ⟨b, _, _, h, _⟩ <;> exact ⟨_, h⟩
theorem exclE_in {need : Ref → Except Int (List Ref)} {roots : List Ref} {ix : Nat} (h : ix < roots.length) : exclE need roots (ix : Int) = mapE (fun ls => lessP (ls.getD ix []) (unionP (ls.eraseIdx ix))) (eachP need roots) := by
  unfold exclE; rw [if_neg (by omega), Int.toNat_natCast]
theorem has24_is (S : Nat → Prop) (v : Value) (rs : List Ref) (x : Ref) (b : Bool) (w : World) (hv : RefsAt S w v rs) (hx : RefOk x) (h : decide (x ∈ rs) = b) :
    Calls Tryd.prog 14 #[v, refV x] w fun e w' => e = .returned (.bool b) ∧ Below w.heap.size w w' := by rw [← h]; exact has24_any S v rs x w hv hx
theorem sameRefs_is (S T : Nat → Prop) (v u : Value) (rs ss : List Ref) (b : Bool) (w : World) (hv : RefsAt S w v rs) (hu : RefsAt T w u ss) (h : decide (rs = ss) = b) :
    Calls Tryd.prog 16 #[v, u] w fun e w' => e = .returned (.bool b) ∧ Below w.heap.size w w' := by rw [← h]; exact sameRefs_any S T v u rs ss w hv hu

set_option maxRecDepth 100000 in
set_option maxHeartbeats 4000000 in
theorem drops_walk (sv cv : Value) (roots : List Ref) (cs : List (ByteArray × List UInt8)) (index : Int) (w : World) (he : Env w) (hs : SnapsAt (fun _ => True) w sv roots) (hc : ContIn (fun _ => True) w cv cs) :
    Calls Tryd.prog 4 #[sv, .int .i64 index, cv] w fun e w' => e = .returned (.bool true) ∧ Below w.heap.size w w' := by
  have HRK := Lib.hid hs.ok
  obtain ⟨sa, sc, rfl, hsc, hsm, -⟩ := SeqAt.shape hs SnapR.len
  have HSC := Lib.hid (And.intro hsc hsm)
  unfold maxLen at hsm
  obtain ⟨cm, rfl⟩ := cont_map hc
  have HL := Lib.hid (show LCtx w w (.slice sa roots.length sc) (.map cm) roots cs from ⟨he, hs, hc, Below.refl _ _⟩)
  clear he hs hc
  go_enter Tryd.func4, Tryd.ntmps4
  go_wp2_with fail
  have hba := (Below.refl w.heap.size w).alloc (Nat.le_refl _) (.cells #[.slice sa roots.length sc] 26)
  have HL1 := Lib.hid (HL.out.next hba)
  refine (few_any _ _ _ _ cs [roots.length] _ HL1.out.cont (lens_one HSC.out.1 HSC.out.2)).mono ?_
  rintro e w1 ⟨fb, rfl, hb1, hfew⟩
  have HL2 := Lib.hid (HL1.out.next hb1)
  clear hba hb1 HL HL1
  have HL := HL2
  cases fb
  · clear hfew
    go_wp2_with fail
    refine (awake48_any _ HL.out.env).mono ?_
    rintro e wz ⟨rfl, hbz⟩
    have HLZ := Lib.hid (HL.out.next hbz)
    clear hbz
    go_wp2_with fail
    go_ret
    exact ⟨rfl, HLZ.out.below⟩
  · obtain ⟨h6, h80⟩ := hfew rfl
    have h6' : roots.length ≤ 6 := h6 _ (by simp)
    have HN := Lib.hid (needF_ok h80)
    clear hfew h6 h80
    by_cases hi0 : index < 0
    · go_wp2_with fail
      refine (awake48_any _ HL.out.env).mono ?_
      rintro e wz ⟨rfl, hbz⟩
      have HLZ := Lib.hid (HL.out.next hbz)
      clear hbz
      go_wp2_with fail
      go_ret
      exact ⟨rfl, HLZ.out.below⟩
    · by_cases hi1 : (roots.length : Int) ≤ index
      · go_wp2_with fail
        refine (awake48_any _ HL.out.env).mono ?_
        rintro e wz ⟨rfl, hbz⟩
        have HLZ := Lib.hid (HL.out.next hbz)
        clear hbz
        go_wp2_with fail
        go_ret
        exact ⟨rfl, HLZ.out.below⟩
      · obtain ⟨ix, rfl⟩ : ∃ ix : Nat, index = (ix : Int) := ⟨index.toNat, by omega⟩
        have hix : ix < roots.length := by omega
        clear hi0 hi1
        go_wp2_with fail
        refine (Exclusive_any cs _ HN.out _ _ _ _ roots (ix : Int) _ HL.out.snaps HL.out.cont.at HL.out.env (by omega)).mono ?_
        rintro e w2 ⟨hb2, hres⟩
        rw [exclE_in hix] at hres
        have HL3 := Lib.hid (HL.out.next hb2)
        clear HL2 HL
        have HL := HL3
        cases hep : eachP (needF cs) roots with
        | error x =>
          rw [hep] at hres
          obtain ⟨rfl, hx⟩ := hres
          have e1 : (x != 0) = true := by simp [hx]
          clear hep hx hb2
          go_wp2_with fail
          refine (awake48_any _ HL.out.env).mono ?_
          rintro e wz ⟨rfl, hbz⟩
          have HLZ := Lib.hid (HL.out.next hbz)
          clear hbz
          go_wp2_with fail
          go_ret
          exact ⟨rfl, HLZ.out.below⟩
        | ok ls =>
          rw [hep] at hres
          obtain ⟨xv, rfl, hxv⟩ := hres
          have hll : ls.length = roots.length := eachP_len hep
          obtain ⟨lx, hlx⟩ : ∃ lx, ls[ix]? = some lx := ⟨ls[ix]'(by omega), by simp⟩
          have hgd : ls.getD ix [] = lx := by rw [List.getD_eq_getElem?_getD, hlx]; rfl
          have hxv : RefsAt (w1.heap.size ≤ ·) w2 xv (lessP (ls.getD ix []) (unionP (ls.eraseIdx ix))) := hxv
          rw [hgd] at hxv
          have hnd : lx.Nodup := by
            obtain ⟨r, hr1, hr2⟩ := eachP_mem hep lx (List.mem_of_getElem? hlx)
            exact needF_nd hr2
          have HX := Lib.hid hxv
          have HEP := Lib.hid hep
          have HLX := Lib.hid hlx
          have HND := Lib.hid hnd
          obtain ⟨xl, hxl⟩ : ∃ xl, xl = lessP lx (unionP (ls.eraseIdx ix)) := ⟨_, rfl⟩
          rw [← hxl] at HX hxv
          have HXL := Lib.hid hxl
          obtain ⟨xa, xc, rfl, hxc, hxm, -⟩ := SeqAt.shape hxv RefR.len
          unfold maxLen at hxm
          clear hep hxv hll hgd hnd hlx hxl hb2
          go_wp2_with fail
          refine (others_any _ _ roots ix _ HL.out.snaps hix (by omega)).mono ?_
          rintro e w3 ⟨ov, rfl, hov, hb3⟩
          have HL4 := Lib.hid (HL.out.next hb3)
          have HX4 := Lib.hid (show RefsAt _ w3 _ _ from SeqAt.below HX.out (by omega) hb3 (fun _ _ _ h => h))
          have HOV := Lib.hid hov
          obtain ⟨oa, oc, rfl, -, -, -⟩ := SeqAt.shape hov SnapR.len
          clear hov hb3 HL HL3 HX
          have HL := HL4
          have HDE := Lib.hid (show deltaE (needF cs) roots (roots.eraseIdx ix) = .ok (ls, ls.eraseIdx ix) by unfold deltaE; rw [HEP.out]; simp only [eachP_erase ix HEP.out])
          have HLE := Lib.hid (show (roots.eraseIdx ix).length ≤ 1000 from Nat.le_trans (List.length_eraseIdx_le roots ix) (by omega))
          go_wp2_with fail
          refine (Delta_any cs _ HN.out _ _ _ _ _ _ roots (roots.eraseIdx ix) _ HL.out.snaps HOV.out HL.out.cont.at HL.out.env (by omega) HLE.out).mono ?_
          rintro e w4 ⟨hb4, hres⟩
          rw [HDE.out] at hres
          obtain ⟨gv, lv, rfl, hgv, hlv⟩ := hres
          have HL5 := Lib.hid (HL.out.next hb4)
          have HX5 := Lib.hid (show RefsAt _ w4 _ _ from SeqAt.below HX4.out (by omega) hb4 (fun _ _ _ h => h))
          rw [drop_none] at hgv
          have HLV := Lib.hid hlv
          have HDL := Lib.hid (show xl.length = (lessP (unionP ls) (unionP (ls.eraseIdx ix))).length by rw [HXL.out]; exact drop_len HLX.out HND.out)
          have HDM := Lib.hid (show ∀ x ∈ xl, decide (x ∈ lessP (unionP ls) (unionP (ls.eraseIdx ix))) = true from fun x hx => by rw [HXL.out] at hx; simpa using (drop_mem HLX.out x).1 hx)
          obtain ⟨ll, hll⟩ : ∃ ll, ll = lessP (unionP ls) (unionP (ls.eraseIdx ix)) := ⟨_, rfl⟩
          rw [← hll] at HLV HDL HDM hlv
          obtain ⟨la, lc, rfl, -, -, -⟩ := SeqAt.shape hlv RefR.len
          obtain ⟨ga, gc, rfl, -, -, -⟩ := SeqAt.shape hgv RefR.len
          have e1 : ((xl.length : Int) != (ll.length : Int)) = false := by rw [HDL.out]; simp
          clear hgv hlv hll hb4 HL HL4 HX4
          have HL := HL5
          go_wp2_with fail
          go_loopw [12] (fun i wr => ∃ k : Nat, k ≤ xl.length ∧ i = .int .i64 k ∧ Below w4.heap.size w4 wr) (fun i _ => xl.length - (intOf i).toNat)
          case atStart => exact ⟨0, Nat.zero_le _, rfl, Below.refl _ _⟩
          case round =>
            obtain ⟨k, hk, rfl, hbr⟩ := hrel
            have HBR := Lib.hid hbr
            clear hbr e1
            by_cases hlt : k < xl.length
            · obtain ⟨x, hx⟩ : ∃ x, xl[k]? = some x := ⟨xl[k], by simp [hlt]⟩
              obtain ⟨b, o, rfl, hok, q0, q1, q2⟩ := refs_at HX5.out HBR.out hx
              have HOK := Lib.hid hok
              have HMX := Lib.hid (HDM.out x (List.mem_of_getElem? hx))
              have HLW := Lib.hid (show RefsAt _ wr _ _ from SeqAt.below HLV.out (by omega) HBR.out (fun _ _ _ h => h))
              clear hx hok
              go_wp2_with fail
              refine (has24_is _ _ ll x true _ HLW.out HOK.out HMX.out).mono ?_
              rintro e w5 ⟨rfl, hb5⟩
              have HB5 := Lib.hid (below_next HBR.out hb5)
              clear hb5 q0 q1 q2
              go_wp2_with fail
              go_roundw
              case rel => exact ⟨k + 1, by omega, by go_num, HB5.out⟩
              case measure => simp [intOf]; omega
            · obtain rfl : k = xl.length := by omega
              have HL6 := Lib.hid (HL.out.next HBR.out)
              have HX6 := Lib.hid (show RefsAt _ wr _ _ from SeqAt.below HX5.out (by omega) HBR.out (fun _ _ _ h => h))
              clear HL HL5 HX5
              have HL := HL6
              go_wp2_with fail
              refine (others_any _ _ roots ix _ HL.out.snaps hix (by omega)).mono ?_
              rintro e w6 ⟨ov2, rfl, hov2, hb6⟩
              have HL7 := Lib.hid (HL.out.next hb6)
              have HX7 := Lib.hid (show RefsAt _ w6 _ _ from SeqAt.below HX6.out (by omega) hb6 (fun _ _ _ h => h))
              have HOV2 := Lib.hid hov2
              obtain ⟨oa2, oc2, rfl, -, -, -⟩ := SeqAt.shape hov2 SnapR.len
              have HEE := Lib.hid (show mapE (fun l => lessP xl (unionP l)) (eachP (needF cs) (roots.eraseIdx ix)) = .ok xl by
                rw [eachP_erase ix HEP.out]
                show Except.ok (lessP xl (unionP (ls.eraseIdx ix))) = _
                rw [HXL.out, less_twice])
              have HXB := Lib.hid (show xl.length < 1099511627775 by
                rw [HXL.out]
                refine Nat.lt_of_le_of_lt (Nat.le_trans (lessP_le _ _) (eachP_le HN.out HRK.out HEP.out lx (List.mem_of_getElem? HLX.out))) (by decide))
              clear hov2 hb6 HL HL6 HX6
              have HL := HL7
              go_wp2_with fail
              refine (Orphans_any cs _ HN.out _ _ _ _ _ _ xl (roots.eraseIdx ix) _ HX7.out HOV2.out HL.out.cont.at HL.out.env HLE.out HXB.out).mono ?_
              rintro e w7 ⟨hb7, hres⟩
              rw [HEE.out] at hres
              obtain ⟨qv, rfl, hqv⟩ := hres
              have HL8 := Lib.hid (HL.out.next hb7)
              have HX8 := Lib.hid (show RefsAt _ w7 _ _ from SeqAt.below HX7.out (by omega) hb7 (fun _ _ _ h => h))
              have HQV := Lib.hid hqv
              obtain ⟨qa, qc, rfl, -, -, -⟩ := SeqAt.shape hqv RefR.len
              clear hqv hb7 HL HL7 HX7
              have HL := HL8
              go_wp2_with fail
              refine (awake48_any _ HL.out.env).mono ?_
              rintro e w8 ⟨rfl, hb8⟩
              have HL9 := Lib.hid (HL.out.next hb8)
              have HX9 := Lib.hid (show RefsAt _ w8 _ _ from SeqAt.below HX8.out (by omega) hb8 (fun _ _ _ h => h))
              have HQ9 := Lib.hid (show RefsAt _ w8 _ _ from SeqAt.below HQV.out (by omega) hb8 (fun _ _ _ h => h))
              clear hb8
              go_wp2_with fail
              refine (sameRefs_is _ _ _ _ xl xl true _ HQ9.out HX9.out (by simp)).mono ?_
              rintro e w9 ⟨rfl, hb9⟩
              have HLA := Lib.hid (HL9.out.next hb9)
              clear hb9
              go_wp2_with fail
              go_ret
              exact ⟨rfl, HLA.out.below⟩

end Go.Proofs.YtndgmcggckpgfaaDoor

/- The law LivenessIdle: its walk. -/
namespace Go.Proofs.YtndgmcggckpgfaaDoor
open Go.RowKit



theorem used_mem {refs l m : List Ref} (h : ∀ x, x ∈ l ↔ x ∈ m) : usedB refs l = usedB refs m := by
  unfold usedB
  congr 1
  funext r
  simp only [h r]
theorem used_men (refs l : List Ref) : usedB refs (menAll l []) = usedB refs l := used_mem (fun x => by rw [menAll_mem]; simp)
theorem used_less {refs l : List Ref} : (lessP refs l).length = refs.length ↔ usedB refs l = false := by
  rw [idle_less]
  unfold idleB usedB
  simp
theorem idsP_at {xs : List Stripe} {l : List Ref} {k : Nat} {x : Stripe} (h : xs[k]? = some x) (hu : usedB x.refs l = false) : (idsP false xs l)[(idsP false (xs.take k) l).length]? = some x.id ∧ (idsP false (xs.take k) l).length < (idsP false xs l).length := by
  have e : idsP false xs l = idsP false (xs.take (k + 1)) l ++ idsP false (xs.drop (k + 1)) l := by
    unfold idsP
    rw [← List.map_append, ← List.filter_append, List.take_append_drop]
  have e2 : idsP false (xs.take (k + 1)) l = idsP false (xs.take k) l ++ [x.id] := by rw [take_snoc' h, idsP_snoc, if_pos hu]
  rw [e, e2, List.append_assoc]
  constructor
  · rw [List.getElem?_append_right (Nat.le_refl _)]; simp
  · simp
theorem strs_at {S : Nat → Prop} {w w' : World} {a : Option Addr} {n cap : Nat} {l : List ByteArray} (hv : StrsAt S w (.slice a n cap) l) (hb : Below w.heap.size w w') {k : Nat} {x : ByteArray} (hx : l[k]? = some x) : ∃ b o, a = some ⟨b, o, none⟩ ∧ w'.cell? ⟨b, o + k, none⟩ = some (.string x) := by
  obtain ⟨hl, a', cap', hv', _, _, h0⟩ := hv
  cases hv'
  rcases h0 with h0 | ⟨b, o, rfl, _, hc⟩
  · simp [List.eq_nil_of_length_eq_zero h0] at hx
  · have h1 := hc k (.string x) (by simp [hx])
    exact ⟨b, o, rfl, (hb.cell (block_lt h1)).trans h1⟩
/-- What the loop over the stripes carries. -/
structure ICtx (w0 w : World) (xv sv cv iv : Value) (xs : List Stripe) (roots : List Ref) (cs : List (ByteArray × List UInt8)) (ids : List ByteArray) : Prop where
  l : LCtx w0 w sv cv roots cs
  xs : StripesAt (fun _ => True) w xv xs
  ids : StrsAt (fun _ => True) w iv ids
theorem ICtx.next {w0 w w' : World} {xv sv cv iv : Value} {xs : List Stripe} {roots : List Ref} {cs : List (ByteArray × List UInt8)} {ids : List ByteArray} (h : ICtx w0 w xv sv cv iv xs roots cs ids) (hb : Below w.heap.size w w') : ICtx w0 w' xv sv cv iv xs roots cs ids :=
  ⟨h.l.next hb, h.xs.below hb, RowAt.below h.ids (by omega) hb⟩
set_option maxRecDepth 100000 in
set_option maxHeartbeats 4000000 in
theorem idle_walk (xv sv cv : Value) (xs : List Stripe) (roots : List Ref) (cs : List (ByteArray × List UInt8)) (w : World) (he : Env w) (hx : StripesAt (fun _ => True) w xv xs) (hxb : ∀ x ∈ xs, x.refs.length < 4398046511104) (hs : SnapsAt (fun _ => True) w sv roots) (hc : ContIn (fun _ => True) w cv cs) :
    Calls Tryd.prog 6 #[xv, sv, cv] w fun e w' => e = .returned (.bool true) ∧ Below w.heap.size w w' := by
  have HRK := Lib.hid hs.ok
  have HXB := Lib.hid hxb
  obtain ⟨sa, sc, rfl, hsc, hsm, -⟩ := SeqAt.shape hs SnapR.len
  obtain ⟨xa, xc, rfl, hxc, hxm, -⟩ := SeqAt.shape hx StripeR.len
  have HSC := Lib.hid (And.intro hsc hsm)
  unfold maxLen at hsm hxm
  obtain ⟨cm, rfl⟩ := cont_map hc
  have HL := Lib.hid (show LCtx w w (.slice sa roots.length sc) (.map cm) roots cs from ⟨he, hs, hc, Below.refl _ _⟩)
  have HX := Lib.hid hx
  clear he hs hc hx hxb
  go_enter Tryd.func6, Tryd.ntmps6
  go_wp2_with fail
  have hba := (Below.refl w.heap.size w).alloc (Nat.le_refl _) (.cells #[.slice sa roots.length sc] 26)
  have HL1 := Lib.hid (HL.out.next hba)
  refine (few_any _ _ _ _ cs [roots.length] _ HL1.out.cont (lens_one HSC.out.1 HSC.out.2)).mono ?_
  rintro e w1 ⟨fb, rfl, hb1, hfew⟩
  have HL2 := Lib.hid (HL1.out.next hb1)
  have HX2 := Lib.hid (StripesAt.below (HX.out.below hba) hb1)
  clear hba hb1 HL HL1 HX
  have HL := HL2
  cases fb
  · clear hfew
    go_wp2_with fail
    refine (awake48_any _ HL.out.env).mono ?_
    rintro e wz ⟨rfl, hbz⟩
    have HLZ := Lib.hid (HL.out.next hbz)
    clear hbz
    go_wp2_with fail
    go_ret
    exact ⟨rfl, HLZ.out.below⟩
  · obtain ⟨h6, h80⟩ := hfew rfl
    have h6' : roots.length ≤ 6 := h6 _ (by simp)
    have HN := Lib.hid (needF_ok h80)
    clear hfew h6 h80
    by_cases h20 : 20 < xs.length
    · go_wp2_with fail
      refine (awake48_any _ HL.out.env).mono ?_
      rintro e wz ⟨rfl, hbz⟩
      have HLZ := Lib.hid (HL.out.next hbz)
      clear hbz
      go_wp2_with fail
      go_ret
      exact ⟨rfl, HLZ.out.below⟩
    · go_wp2_with fail
      refine (Needed_any cs _ HN.out _ _ _ _ roots _ HL.out.snaps HL.out.cont.at HL.out.env (by omega)).mono ?_
      rintro e w2 ⟨hb2, hres⟩
      have HL3 := Lib.hid (HL.out.next hb2)
      have HX3 := Lib.hid (HX2.out.below hb2)
      clear HL2 HL HX2
      have HL := HL3
      cases hep : eachP (needF cs) roots with
      | error x =>
        rw [hep] at hres
        obtain ⟨rfl, hx⟩ := hres
        have e1 : (x != 0) = true := by simp [hx]
        clear hep hx hb2
        go_wp2_with fail
        refine (awake48_any _ HL.out.env).mono ?_
        rintro e wz ⟨rfl, hbz⟩
        have HLZ := Lib.hid (HL.out.next hbz)
        clear hbz
        go_wp2_with fail
        go_ret
        exact ⟨rfl, HLZ.out.below⟩
      | ok ls =>
        rw [hep] at hres
        obtain ⟨lv, rfl, hlv⟩ := hres
        have HUB := Lib.hid (unionOf_len HN.out HRK.out hep (by omega))
        have HEP := Lib.hid hep
        obtain ⟨L, hL⟩ : ∃ L, L = unionP ls := ⟨_, rfl⟩
        have hlv : RefsAt (w1.heap.size ≤ ·) w2 lv L := by rw [hL]; exact hlv
        rw [← hL] at HUB
        have HLL := Lib.hid hL
        have HLV := Lib.hid hlv
        obtain ⟨la, lc, rfl, -, -, -⟩ := SeqAt.shape hlv RefR.len
        clear hep hlv hL hb2
        go_wp2_with fail
        refine (Idle_any _ _ _ _ xs L _ HX3.out HLV.out HUB.out (by omega)).mono ?_
        rintro e w3 ⟨iv, rfl, hiv, hb3⟩
        obtain ⟨ids, hids⟩ : ∃ ids, ids = idsP false xs (menAll L []) := ⟨_, rfl⟩
        rw [← hids] at hiv
        have HID := Lib.hid hids
        have HI := Lib.hid (show ICtx w w3 (.slice xa xs.length xc) (.slice sa roots.length sc) (.map cm) iv xs roots cs ids from ⟨HL.out.next hb3, HX3.out.below hb3, hiv.weak (fun _ _ => trivial)⟩)
        obtain ⟨_, ia, ic, rfl, hin, him, -⟩ := hiv
        unfold maxLen at him
        clear hids hb3 HL HL3 HX3 HLV
        go_wp2_with fail
        go_loopw [10, 11] (fun a i wr => ∃ k : Nat, k ≤ xs.length ∧ i = .int .i64 k ∧ a = .int .i64 ((idsP false (xs.take k) (menAll L [])).length : Nat) ∧ ICtx w wr (.slice xa xs.length xc) (.slice sa roots.length sc) (.map cm) (.slice ia ids.length ic) xs roots cs ids) (fun _ i _ => xs.length - (intOf i).toNat)
        case atStart => exact ⟨0, Nat.zero_le _, rfl, rfl, HI.out⟩
        case round =>
          obtain ⟨k, hk, rfl, rfl, hi⟩ := hrel
          have HIR := Lib.hid hi
          have hlk := idsP_le false (xs.take k) (menAll L [])
          rw [List.length_take] at hlk
          obtain ⟨m, hm⟩ : ∃ m, m = (idsP false (xs.take k) (menAll L [])).length := ⟨_, rfl⟩
          rw [← hm] at hlk ⊢
          have HM := Lib.hid hm
          clear hi HI hm
          by_cases hlt : k < xs.length
          · obtain ⟨x, hx⟩ : ∃ x, xs[k]? = some x := ⟨xs[k], by simp [hlt]⟩
            obtain ⟨b, o, a1, a2, a3, a4, ra, rc, rfl, hrc, hrm, hrf, hcl⟩ := stripes_at HIR.out.xs (Below.refl _ _) hx
            unfold maxLen at hrm
            have HXK := Lib.hid hx
            have HRF := Lib.hid hrf
            have HRB := Lib.hid (HXB.out x (List.mem_of_getElem? hx))
            have HEE := Lib.hid (show mapE (fun l => lessP x.refs (unionP l)) (eachP (needF cs) roots) = .ok (lessP x.refs L) by rw [HEP.out, HLL.out]; rfl)
            have q5 := hcl 5 (by omega)
            simp only [List.getElem?_cons_zero, List.getElem?_cons_succ, Nat.add_zero] at q5
            clear hx hrf hcl
            go_wp2_with fail
            refine (Orphans_big cs _ HN.out _ _ _ _ _ _ x.refs roots _ HRF.out HIR.out.l.snaps HIR.out.l.cont.at HIR.out.l.env (by omega) HRB.out).mono ?_
            rintro e w4 ⟨hb4, hres⟩
            rw [HEE.out] at hres
            obtain ⟨ov, rfl, hov⟩ := hres
            have HI4 := Lib.hid (HIR.out.next hb4)
            obtain ⟨ol, hol⟩ : ∃ ol, ol = lessP x.refs L := ⟨_, rfl⟩
            rw [← hol] at hov
            have HOL := Lib.hid hol
            obtain ⟨oa, oc, rfl, -, -, -⟩ := SeqAt.shape hov RefR.len
            have hcl := stripes_at HI4.out.xs (Below.refl _ _) HXK.out
            obtain ⟨_, _, c1, c2, c3, c4, ra', rc', e0, hrc', hrm', -, hcl⟩ := hcl
            cases e0
            unfold maxLen at hrm'
            have q5 := hcl 5 (by omega)
            have q0 := hcl 0 (by omega)
            simp only [List.getElem?_cons_zero, List.getElem?_cons_succ, Nat.add_zero] at q5 q0
            clear hcl hol hov hb4
            cases hu : usedB x.refs (menAll L [])
            · have hlen : ol.length = x.refs.length := by rw [HOL.out]; exact used_less.2 (by rw [← used_men]; exact hu)
              obtain ⟨hat, hlt3⟩ := idsP_at HXK.out hu
              rw [← HM.out, ← HID.out] at hat hlt3
              have HSN := Lib.hid (show (idsP false (xs.take (k + 1)) (menAll L [])).length = m + 1 by rw [take_snoc' HXK.out, idsP_snoc, if_pos hu, List.length_append, ← HM.out]; rfl)
              have e1 : ((ol.length : Int) != (x.refs.length : Int)) = false := by rw [hlen]; simp
              have e2 : decide (ids.length ≤ m) = false := by simp; omega
              have e3 : (x.id.toList != x.id.toList) = false := by simp
              have HAT := Lib.hid hat
              clear hat hu hlen q0
              go_upto_region 15 with (fail)
              refine wp_region_segs [some 16] (by kernel_rfl) (by kernel_rfl) (by kernel_rfl) ?_
              simp only [wpSegs, List.take_succ_cons, List.take_zero, List.drop_succ_cons, List.drop_zero]
              obtain ⟨W, hW⟩ : ∃ W : World, W = w4.drew := ⟨_, rfl⟩
              rw [← hW]
              have HI5 := Lib.hid (HI4.out.next (show Below w4.heap.size w4 W by rw [hW]; exact (Below.refl _ _).drew))
              clear hW
              obtain ⟨ib, io, rfl, p0⟩ := strs_at HI5.out.ids (Below.refl _ _) HAT.out
              have hcl := stripes_at HI5.out.xs (Below.refl _ _) HXK.out
              obtain ⟨_, _, _, _, _, _, _, _, e0, _, _, -, hcl⟩ := hcl
              cases e0
              have q0 := hcl 0 (by omega)
              simp only [List.getElem?_cons_zero, List.getElem?_cons_succ, Nat.add_zero] at q0
              clear hcl
              repeat (first | (refine seg_skip rfl ?_; simp only [Act.put, List.setIfInBounds_toArray, List.set_cons_succ, List.set_cons_zero]) | (refine seg_run rfl (fun K hK => ?_); go_simp; refine hK _ ?_; clear hK K))
              refine seg_nil ?_
              go_wp2_with fail
              go_roundw
              case rel => exact ⟨k + 1, by omega, by go_num, by rw [HSN.out]; go_num, HI5.out⟩
              case measure => simp [intOf]; omega
            · have hlen : ¬ ol.length = x.refs.length := by rw [HOL.out]; exact fun h => by rw [used_less, ← used_men, hu] at h; cases h
              have HSN := Lib.hid (show (idsP false (xs.take (k + 1)) (menAll L [])).length = m by rw [take_snoc' HXK.out, idsP_snoc, if_neg (by rw [hu]; simp), ← HM.out])
              have e1 : ((ol.length : Int) != (x.refs.length : Int)) = true := by simp; omega
              clear hu hlen
              go_wp2_with fail
              go_roundw
              case rel => exact ⟨k + 1, by omega, by go_num, by rw [HSN.out], HI4.out⟩
              case measure => simp [intOf]; omega
          · obtain rfl : k = xs.length := by omega
            have hmm : m = ids.length := by rw [HM.out, HID.out, List.take_of_length_le (Nat.le_refl _)]
            subst hmm
            go_wp2_with fail
            refine (awake48_any _ HIR.out.l.env).mono ?_
            rintro e wz ⟨rfl, hbz⟩
            have HLZ := Lib.hid (HIR.out.l.next hbz)
            clear hbz
            go_wp2_with fail
            go_ret
            exact ⟨rfl, HLZ.out.below⟩

end Go.Proofs.YtndgmcggckpgfaaDoor

/- LivenessIdle: for every input the law returns true, and each argument reads afterwards as it read before (the tied card). -/
namespace Go.Proofs.YtndgmcggckpgfaaDoor
open Go.ChangeShapes Go.WideShapes Go.ChangeAt Go.RowKit Go.Lib Go.Shelf
open Go.ChangeMaps (open_string shut_string)

namespace CIdle
set_option maxRecDepth 100000 in
theorem lifted (os : Os) (started : os.Started) (H : Type) (enc : TypeId × Value → H) :
    ReturnsInHanded {} Tryd.checked os 6 .any (fun w args => (Rows.livenessIdleSpec.pre enc Tryd.prog Tryd.f6 [] false w args ∧ laidMetH Tryd.prog laidL w) ∧ sizedMet enc Tryd.prog Tryd.f6 (OpenSpec.ofChange Rows.livenessIdleSpec) false w args)
      (Rows.livenessIdleSpec.post enc Tryd.prog Tryd.f6 false true false false) := by
  refine handed (C := Tryd.checked) (X := fun w _ => laidMetH Tryd.prog laidL w) (fun _ _ _ hh h => h.of_heap hh) own started (by kernel_rfl) Tryd.func6
    (ChangeSpec.witness_shaped (enc := enc) (C := Tryd.checked) (os := os) (X := fun w _ => laidMetH Tryd.prog laidL w) false (World.laidAll Tryd.prog os laidL) #[.slice none 0 0, .slice none 0 0, .map none] 8 (World.laidAll_os _ _ _)
      (World.shaped_of_ZipB (by kernel_rfl) (by kernel_rfl)) (by kernel_rfl) (by kernel_rfl) (by kernel_rfl)
      (by rw [MakeChecks.laidMetH_plain _ _ _ (by kernel_rfl)]; exact laidMet_laidAll _ (by kernel_rfl) (by kernel_rfl))) ?_
  intro W base args ds gs before hval0 hW _hWt hL hsh
  have hval : ∀ (j : Nat) t v, Tryd.f6.params[j]? = some t → args[j]? = some v → Value.okWide Tryd.prog W .any base t v := hval0
  have hW' := hW
  obtain ⟨p, q, hA0, hV, rfl, _, _⟩ := hW
  have hA : DataW.TrodAll enc Tryd.prog W 0 (fun _ => true) true Tryd.f6.params.toList args.toList ds p := hA0
  rw [Tryd.params6] at hA hval
  obtain ⟨rfl, rfl⟩ := trodVars_none hV
  simp only [List.append_nil] at hW'
  obtain ⟨v0, v1, v2, d0, d1, d2, p0, p1, p2, rfl, rfl, rfl, h0, h1, h2⟩ := trodAll_three hA
  have hw : (DataW.weightsEach Tryd.prog (Tryd.f6.params.toList ++ _) ([d0, d1, d2] ++ [])).all (fun x => decide (x ≤ reachBytes)) = true := _hWt
  rw [Tryd.params6] at hw
  obtain ⟨xs, hxs, hxb⟩ := open_stripesB (hval 0 43 v0 rfl rfl) h0 (light_each (i := 0) rfl rfl hw)
  obtain ⟨rs, hrs⟩ := open_snaps (hval 1 26 v1 rfl rfl) h1
  obtain ⟨cs, hcs⟩ := open_cont (hval 2 27 v2 rfl rfl) h2
  have hlt0 : ∀ x ∈ p0, x.block < W.heap.size := fun x hx => by simpa using hW'.lt x (by simp [hx])
  have hlt1 : ∀ x ∈ p1, x.block < W.heap.size := fun x hx => by simpa using hW'.lt x (by simp [hx])
  have hlt2 : ∀ x ∈ p2, x.block < W.heap.size := fun x hx => by simpa using hW'.lt x (by simp [hx])
  refine (idle_walk v0 v1 v2 xs rs cs W (env_of hL hsh) hxs hxb hrs hcs).mono fun e W' ⟨he, hb⟩ => ?_
  subst he
  exact ⟨_, rfl, _, _, _, [], _, [], hW', trodAll_mk1 (shut_bool Tryd.underlying4 _), trodAll_mk3 (Below.trod laidOut (by kernel_rfl) (of_decide_eq_true (by kernel_rfl)) h0 hb hlt0) (Below.trod laidOut (by kernel_rfl) (of_decide_eq_true (by kernel_rfl)) h1 hb hlt1) (Below.trod laidOut (by kernel_rfl) (of_decide_eq_true (by kernel_rfl)) h2 hb hlt2), rfl, hb.frame _, fun h => by cases h⟩
theorem holds : Rows.LivenessIdleSaid :=
  OpenClaim.holds_of_wide 6 Tryd.f6 rfl rfl rfl rfl rfl rfl rfl ⟨rfl, rfl, rfl, rfl, rfl⟩ rfl rfl rfl rfl rfl (by kernel_rfl) Tryd.func6 (by kernel_rfl)
    (of_decide_eq_true (by kernel_rfl)) (by unfold Func.isWrapper; first | (rw [if_pos (by decide +kernel)]; kernel_rfl) | (rw [if_neg (by decide +kernel)]; exact ⟨rfl, rfl⟩))
    (fun os started H enc _ => lifted os started H enc)
theorem card_holds : Rows.LivenessIdleCardSaid :=
  Claim7.holds_tied_plain_at .later [] [.data, .pinned] true (true, "ff2cba2c439d558082da2d7ed5d675c4d6d17ccae7d1fb128fdb3451a48726d3") false holds (fun _ h => by cases h) (by kernel_rfl) (fun _ h => by cases h) livenessIdle_row_tie rfl ⟨rfl, rfl⟩ (by kernel_rfl) rfl
    (fun f fn hf hfn => by
      obtain rfl : f = 6 := Option.some.inj ((show Tryd.prog.funcNamed "kinkeep/kinkeeplaw48.LivenessIdle" = some 6 by kernel_rfl).symm.trans hf) |>.symm
      obtain rfl : fn = Tryd.f6 := (Option.some.inj (Tryd.func6.symm.trans hfn)).symm
      exact ⟨by kernel_rfl, fun j t ht => by
        rw [Tryd.params6] at ht
        have hm : t ∈ [43, 26, 27] := by simpa using Array.mem_of_getElem? ht
        have hall : ([43, 26, 27].all fun u => !Tryd.prog.wantsStandIn u) = true := by kernel_rfl
        exact (show Tryd.prog.wantsStandIn t = false by simpa using List.all_eq_true.1 hall t hm)⟩)
    (by kernel_rfl)
#print axioms card_holds
end CIdle
theorem livenessIdle_card : Rows.LivenessIdleCardSaid := CIdle.card_holds
end Go.Proofs.YtndgmcggckpgfaaDoor
