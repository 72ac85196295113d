/- LivenessUnion: for every input the law returns true, and each argument reads afterwards as it read before (the tied card). -/
import Derived.Test.YtndgmcggckpgfaaDoorME
/- The law LivenessDrops: its walk. -/
namespace Go.Proofs.YtndgmcggckpgfaaDoor
open Go.RowKit

/-- What a law of the chapter carries along. -/
structure LCtx (w0 w : World) (sv cv : Value) (roots : List Ref) (cs : List (ByteArray × List UInt8)) : Prop where
  env : Env w
  snaps : SnapsAt (fun _ => True) w sv roots
  cont : ContIn (fun _ => True) w cv cs
  below : Below w0.heap.size w0 w
theorem LCtx.next {w0 w w' : World} {sv cv : Value} {roots : List Ref} {cs : List (ByteArray × List UInt8)} (h : LCtx w0 w sv cv roots cs) (hb : Below w.heap.size w w') : LCtx w0 w' sv cv roots cs :=
  ⟨h.env.below hb, SeqAt.below h.snaps (by omega) hb (fun _ _ _ h => h), h.cont.below hb, below_next h.below hb⟩
theorem lens_one {w : World} {a : Option Addr} {n cap : Nat} (h1 : n ≤ cap) (h2 : cap ≤ maxLen) : LensAt (fun _ => True) (w.alloc (.cells #[.slice a n cap] 26)) (.slice (some ⟨w.heap.size, 0, none⟩) 1 1) [n] :=
  ⟨[.slice a n cap], (row_lit (cells := [.slice a n cap]) (heap_alloc_new w _) rfl (by decide)).weak (fun _ _ => trivial), ⟨[.slice a n cap], [], rfl, ⟨a, cap, rfl, h1, h2⟩, rfl⟩⟩
theorem cont_map {S : Nat → Prop} {w : World} {cv : Value} {cs : List (ByteArray × List UInt8)} (h : ContIn S w cv cs) : ∃ cm, cv = .map cm := by
  rcases h with ⟨h, _⟩ | ⟨b, _, _, h, _⟩ <;> exact ⟨_, h⟩
theorem exclE_in {need : Ref → Except Int (List Ref)} {roots : List Ref} {ix : Nat} (h : ix < roots.length) : exclE need roots (ix : Int) = mapE (fun ls => lessP (ls.getD ix []) (unionP (ls.eraseIdx ix))) (eachP need roots) := by
  unfold exclE; rw [if_neg (by omega), Int.toNat_natCast]
theorem has24_is (S : Nat → Prop) (v : Value) (rs : List Ref) (x : Ref) (b : Bool) (w : World) (hv : RefsAt S w v rs) (hx : RefOk x) (h : decide (x ∈ rs) = b) :
    Calls Tryd.prog 14 #[v, refV x] w fun e w' => e = .returned (.bool b) ∧ Below w.heap.size w w' := by rw [← h]; exact has24_any S v rs x w hv hx
theorem sameRefs_is (S T : Nat → Prop) (v u : Value) (rs ss : List Ref) (b : Bool) (w : World) (hv : RefsAt S w v rs) (hu : RefsAt T w u ss) (h : decide (rs = ss) = b) :
    Calls Tryd.prog 16 #[v, u] w fun e w' => e = .returned (.bool b) ∧ Below w.heap.size w w' := by rw [← h]; exact sameRefs_any S T v u rs ss w hv hu

set_option maxRecDepth 100000 in
set_option maxHeartbeats 4000000 in
theorem drops_walk (sv cv : Value) (roots : List Ref) (cs : List (ByteArray × List UInt8)) (index : Int) (w : World) (he : Env w) (hs : SnapsAt (fun _ => True) w sv roots) (hc : ContIn (fun _ => True) w cv cs) :
    Calls Tryd.prog 4 #[sv, .int .i64 index, cv] w fun e w' => e = .returned (.bool true) ∧ Below w.heap.size w w' := by
  have HRK := Lib.hid hs.ok
  obtain ⟨sa, sc, rfl, hsc, hsm, -⟩ := SeqAt.shape hs SnapR.len
  have HSC := Lib.hid (And.intro hsc hsm)
  unfold maxLen at hsm
  obtain ⟨cm, rfl⟩ := cont_map hc
  have HL := Lib.hid (show LCtx w w (.slice sa roots.length sc) (.map cm) roots cs from ⟨he, hs, hc, Below.refl _ _⟩)
  clear he hs hc
  go_enter Tryd.func4, Tryd.ntmps4
  go_wp2_with fail
  have hba := (Below.refl w.heap.size w).alloc (Nat.le_refl _) (.cells #[.slice sa roots.length sc] 26)
  have HL1 := Lib.hid (HL.out.next hba)
  refine (few_any _ _ _ _ cs [roots.length] _ HL1.out.cont (lens_one HSC.out.1 HSC.out.2)).mono ?_
  rintro e w1 ⟨fb, rfl, hb1, hfew⟩
  have HL2 := Lib.hid (HL1.out.next hb1)
  clear hba hb1 HL HL1
  have HL := HL2
  cases fb
  · clear hfew
    go_wp2_with fail
    refine (awake48_any _ HL.out.env).mono ?_
    rintro e wz ⟨rfl, hbz⟩
    have HLZ := Lib.hid (HL.out.next hbz)
    clear hbz
    go_wp2_with fail
    go_ret
    exact ⟨rfl, HLZ.out.below⟩
  · obtain ⟨h6, h80⟩ := hfew rfl
    have h6' : roots.length ≤ 6 := h6 _ (by simp)
    have HN := Lib.hid (needF_ok h80)
    clear hfew h6 h80
    by_cases hi0 : index < 0
    · go_wp2_with fail
      refine (awake48_any _ HL.out.env).mono ?_
      rintro e wz ⟨rfl, hbz⟩
      have HLZ := Lib.hid (HL.out.next hbz)
      clear hbz
      go_wp2_with fail
      go_ret
      exact ⟨rfl, HLZ.out.below⟩
    · by_cases hi1 : (roots.length : Int) ≤ index
      · go_wp2_with fail
        refine (awake48_any _ HL.out.env).mono ?_
        rintro e wz ⟨rfl, hbz⟩
        have HLZ := Lib.hid (HL.out.next hbz)
        clear hbz
        go_wp2_with fail
        go_ret
        exact ⟨rfl, HLZ.out.below⟩
      · obtain ⟨ix, rfl⟩ : ∃ ix : Nat, index = (ix : Int) := ⟨index.toNat, by omega⟩
        have hix : ix < roots.length := by omega
        clear hi0 hi1
        go_wp2_with fail
        refine (Exclusive_any cs _ HN.out _ _ _ _ roots (ix : Int) _ HL.out.snaps HL.out.cont.at HL.out.env (by omega)).mono ?_
        rintro e w2 ⟨hb2, hres⟩
        rw [exclE_in hix] at hres
        have HL3 := Lib.hid (HL.out.next hb2)
        clear HL2 HL
        have HL := HL3
        cases hep : eachP (needF cs) roots with
        | error x =>
          rw [hep] at hres
          obtain ⟨rfl, hx⟩ := hres
          have e1 : (x != 0) = true := by simp [hx]
          clear hep hx hb2
          go_wp2_with fail
          refine (awake48_any _ HL.out.env).mono ?_
          rintro e wz ⟨rfl, hbz⟩
          have HLZ := Lib.hid (HL.out.next hbz)
          clear hbz
          go_wp2_with fail
          go_ret
          exact ⟨rfl, HLZ.out.below⟩
        | ok ls =>
          rw [hep] at hres
          obtain ⟨xv, rfl, hxv⟩ := hres
          have hll : ls.length = roots.length := eachP_len hep
          obtain ⟨lx, hlx⟩ : ∃ lx, ls[ix]? = some lx := ⟨ls[ix]'(by omega), by simp⟩
          have hgd : ls.getD ix [] = lx := by rw [List.getD_eq_getElem?_getD, hlx]; rfl
          have hxv : RefsAt (w1.heap.size ≤ ·) w2 xv (lessP (ls.getD ix []) (unionP (ls.eraseIdx ix))) := hxv
          rw [hgd] at hxv
          have hnd : lx.Nodup := by
            obtain ⟨r, hr1, hr2⟩ := eachP_mem hep lx (List.mem_of_getElem? hlx)
            exact needF_nd hr2
          have HX := Lib.hid hxv
          have HEP := Lib.hid hep
          have HLX := Lib.hid hlx
          have HND := Lib.hid hnd
          obtain ⟨xl, hxl⟩ : ∃ xl, xl = lessP lx (unionP (ls.eraseIdx ix)) := ⟨_, rfl⟩
          rw [← hxl] at HX hxv
          have HXL := Lib.hid hxl
          obtain ⟨xa, xc, rfl, hxc, hxm, -⟩ := SeqAt.shape hxv RefR.len
          unfold maxLen at hxm
          clear hep hxv hll hgd hnd hlx hxl hb2
          go_wp2_with fail
          refine (others_any _ _ roots ix _ HL.out.snaps hix (by omega)).mono ?_
          rintro e w3 ⟨ov, rfl, hov, hb3⟩
          have HL4 := Lib.hid (HL.out.next hb3)
          have HX4 := Lib.hid (show RefsAt _ w3 _ _ from SeqAt.below HX.out (by omega) hb3 (fun _ _ _ h => h))
          have HOV := Lib.hid hov
          obtain ⟨oa, oc, rfl, -, -, -⟩ := SeqAt.shape hov SnapR.len
          clear hov hb3 HL HL3 HX
          have HL := HL4
          have HDE := Lib.hid (show deltaE (needF cs) roots (roots.eraseIdx ix) = .ok (ls, ls.eraseIdx ix) by unfold deltaE; rw [HEP.out]; simp only [eachP_erase ix HEP.out])
          have HLE := Lib.hid (show (roots.eraseIdx ix).length ≤ 1000 from Nat.le_trans (List.length_eraseIdx_le roots ix) (by omega))
          go_wp2_with fail
          refine (Delta_any cs _ HN.out _ _ _ _ _ _ roots (roots.eraseIdx ix) _ HL.out.snaps HOV.out HL.out.cont.at HL.out.env (by omega) HLE.out).mono ?_
          rintro e w4 ⟨hb4, hres⟩
          rw [HDE.out] at hres
          obtain ⟨gv, lv, rfl, hgv, hlv⟩ := hres
          have HL5 := Lib.hid (HL.out.next hb4)
          have HX5 := Lib.hid (show RefsAt _ w4 _ _ from SeqAt.below HX4.out (by omega) hb4 (fun _ _ _ h => h))
          rw [drop_none] at hgv
          have HLV := Lib.hid hlv
          have HDL := Lib.hid (show xl.length = (lessP (unionP ls) (unionP (ls.eraseIdx ix))).length by rw [HXL.out]; exact drop_len HLX.out HND.out)
          have HDM := Lib.hid (show ∀ x ∈ xl, decide (x ∈ lessP (unionP ls) (unionP (ls.eraseIdx ix))) = true from fun x hx => by rw [HXL.out] at hx; simpa using (drop_mem HLX.out x).1 hx)
          obtain ⟨ll, hll⟩ : ∃ ll, ll = lessP (unionP ls) (unionP (ls.eraseIdx ix)) := ⟨_, rfl⟩
          rw [← hll] at HLV HDL HDM hlv
          obtain ⟨la, lc, rfl, -, -, -⟩ := SeqAt.shape hlv RefR.len
          obtain ⟨ga, gc, rfl, -, -, -⟩ := SeqAt.shape hgv RefR.len
          have e1 : ((xl.length : Int) != (ll.length : Int)) = false := by rw [HDL.out]; simp
          clear hgv hlv hll hb4 HL HL4 HX4
          have HL := HL5
          go_wp2_with fail
          go_loopw [12] (fun i wr => ∃ k : Nat, k ≤ xl.length ∧ i = .int .i64 k ∧ Below w4.heap.size w4 wr) (fun i _ => xl.length - (intOf i).toNat)
          case atStart => exact ⟨0, Nat.zero_le _, rfl, Below.refl _ _⟩
          case round =>
            obtain ⟨k, hk, rfl, hbr⟩ := hrel
            have HBR := Lib.hid hbr
            clear hbr e1
            by_cases hlt : k < xl.length
            · obtain ⟨x, hx⟩ : ∃ x, xl[k]? = some x := ⟨xl[k], by simp [hlt]⟩
              obtain ⟨b, o, rfl, hok, q0, q1, q2⟩ := refs_at HX5.out HBR.out hx
              have HOK := Lib.hid hok
              have HMX := Lib.hid (HDM.out x (List.mem_of_getElem? hx))
              have HLW := Lib.hid (show RefsAt _ wr _ _ from SeqAt.below HLV.out (by omega) HBR.out (fun _ _ _ h => h))
              clear hx hok
              go_wp2_with fail
              refine (has24_is _ _ ll x true _ HLW.out HOK.out HMX.out).mono ?_
              rintro e w5 ⟨rfl, hb5⟩
              have HB5 := Lib.hid (below_next HBR.out hb5)
              clear hb5 q0 q1 q2
              go_wp2_with fail
              go_roundw
              case rel => exact ⟨k + 1, by omega, by go_num, HB5.out⟩
              case measure => simp [intOf]; omega
            · obtain rfl : k = xl.length := by omega
              have HL6 := Lib.hid (HL.out.next HBR.out)
              have HX6 := Lib.hid (show RefsAt _ wr _ _ from SeqAt.below HX5.out (by omega) HBR.out (fun _ _ _ h => h))
              clear HL HL5 HX5
              have HL := HL6
              go_wp2_with fail
              refine (others_any _ _ roots ix _ HL.out.snaps hix (by omega)).mono ?_
              rintro e w6 ⟨ov2, rfl, hov2, hb6⟩
              have HL7 := Lib.hid (HL.out.next hb6)
              have HX7 := Lib.hid (show RefsAt _ w6 _ _ from SeqAt.below HX6.out (by omega) hb6 (fun _ _ _ h => h))
              have HOV2 := Lib.hid hov2
              obtain ⟨oa2, oc2, rfl, -, -, -⟩ := SeqAt.shape hov2 SnapR.len
              have HEE := Lib.hid (show mapE (fun l => lessP xl (unionP l)) (eachP (needF cs) (roots.eraseIdx ix)) = .ok xl by
                rw [eachP_erase ix HEP.out]
                show Except.ok (lessP xl (unionP (ls.eraseIdx ix))) = _
                rw [HXL.out, less_twice])
              have HXB := Lib.hid (show xl.length < 1099511627775 by
                rw [HXL.out]
                refine Nat.lt_of_le_of_lt (Nat.le_trans (lessP_le _ _) (eachP_le HN.out HRK.out HEP.out lx (List.mem_of_getElem? HLX.out))) (by decide))
              clear hov2 hb6 HL HL6 HX6
              have HL := HL7
              go_wp2_with fail
              refine (Orphans_any cs _ HN.out _ _ _ _ _ _ xl (roots.eraseIdx ix) _ HX7.out HOV2.out HL.out.cont.at HL.out.env HLE.out HXB.out).mono ?_
              rintro e w7 ⟨hb7, hres⟩
              rw [HEE.out] at hres
              obtain ⟨qv, rfl, hqv⟩ := hres
              have HL8 := Lib.hid (HL.out.next hb7)
              have HX8 := Lib.hid (show RefsAt _ w7 _ _ from SeqAt.below HX7.out (by omega) hb7 (fun _ _ _ h => h))
              have HQV := Lib.hid hqv
              obtain ⟨qa, qc, rfl, -, -, -⟩ := SeqAt.shape hqv RefR.len
              clear hqv hb7 HL HL7 HX7
              have HL := HL8
              go_wp2_with fail
              refine (awake48_any _ HL.out.env).mono ?_
              rintro e w8 ⟨rfl, hb8⟩
              have HL9 := Lib.hid (HL.out.next hb8)
              have HX9 := Lib.hid (show RefsAt _ w8 _ _ from SeqAt.below HX8.out (by omega) hb8 (fun _ _ _ h => h))
              have HQ9 := Lib.hid (show RefsAt _ w8 _ _ from SeqAt.below HQV.out (by omega) hb8 (fun _ _ _ h => h))
              clear hb8
              go_wp2_with fail
              refine (sameRefs_is _ _ _ _ xl xl true _ HQ9.out HX9.out (by simp)).mono ?_
              rintro e w9 ⟨rfl, hb9⟩
              have HLA := Lib.hid (HL9.out.next hb9)
              clear hb9
              go_wp2_with fail
              go_ret
              exact ⟨rfl, HLA.out.below⟩

end Go.Proofs.YtndgmcggckpgfaaDoor

/- The law LivenessUnion: its walk. -/
namespace Go.Proofs.YtndgmcggckpgfaaDoor
open Go.RowKit

theorem lens_two {w : World} {a a2 : Option Addr} {n cap n2 cap2 : Nat} (h1 : n ≤ cap) (h2 : cap ≤ maxLen) (h3 : n2 ≤ cap2) (h4 : cap2 ≤ maxLen) : LensAt (fun _ => True) (w.alloc (.cells #[.slice a n cap, .slice a2 n2 cap2] 26)) (.slice (some ⟨w.heap.size, 0, none⟩) 2 2) [n, n2] :=
  ⟨[.slice a n cap, .slice a2 n2 cap2], (row_lit (cells := [.slice a n cap, .slice a2 n2 cap2]) (heap_alloc_new w _) rfl (by decide)).weak (fun _ _ => trivial), ⟨[.slice a n cap], _, rfl, ⟨a, cap, rfl, h1, h2⟩, ⟨[.slice a2 n2 cap2], [], rfl, ⟨a2, cap2, rfl, h3, h4⟩, rfl⟩⟩⟩
/-- A guarded operation that is wanted. -/
theorem wpList_unguard {P : Program} {ops : Array Oper} {Q : Exit → Act → World → Prop} {dst : Option Tmp} {op : Op} {ty : TypeId} {pos : String} {aft : Array Edge} {g : Option (Nat × Bool)} {rest : List Oper} {a : Act} {w : World}
    (hw : Region.wanted ⟨dst, op, ty, pos, aft, g⟩ (yielded ops a.tmps) = true) (h : wpList P ops Q (⟨dst, op, ty, pos, aft, none⟩ :: rest) a w) : wpList P ops Q (⟨dst, op, ty, pos, aft, g⟩ :: rest) a w := by
  unfold wpList at h ⊢
  rw [hw]
  simp only [Region.wanted, if_true] at h
  exact h
/-- Two lists of snapshots. -/
structure LCtx2 (w0 w : World) (av bv cv : Value) (ra rb : List Ref) (cs : List (ByteArray × List UInt8)) : Prop where
  env : Env w
  a : SnapsAt (fun _ => True) w av ra
  b : SnapsAt (fun _ => True) w bv rb
  cont : ContIn (fun _ => True) w cv cs
  below : Below w0.heap.size w0 w
theorem LCtx2.next {w0 w w' : World} {av bv cv : Value} {ra rb : List Ref} {cs : List (ByteArray × List UInt8)} (h : LCtx2 w0 w av bv cv ra rb cs) (hb : Below w.heap.size w w') : LCtx2 w0 w' av bv cv ra rb cs :=
  ⟨h.env.below hb, SeqAt.below h.a (by omega) hb (fun _ _ _ h => h), SeqAt.below h.b (by omega) hb (fun _ _ _ h => h), h.cont.below hb, below_next h.below hb⟩
theorem SnapsAt.lts {S : Nat → Prop} {w : World} {v : Value} {rs : List Ref} (h : SnapsAt S w v rs) : SnapsAt (· < w.heap.size) w v rs := by
  obtain ⟨cells, h1, h2⟩ := h
  exact ⟨cells, h1.mono (fun k hk _ => hk) (by omega), h2⟩
theorem RefsAt.lts {S : Nat → Prop} {w : World} {v : Value} {rs : List Ref} (h : RefsAt S w v rs) : RefsAt (· < w.heap.size) w v rs := by
  obtain ⟨cells, h1, h2⟩ := h
  exact ⟨cells, h1.mono (fun k hk _ => hk) (by omega), h2⟩
theorem refs_one {cells : List Value} : ∀ {rs : List Ref}, RowsIn RefR cells rs → ∀ u ∈ cells, u.oneCell' = true := by
  intro rs
  induction rs generalizing cells with
  | nil => intro h; have : cells = [] := h; subst this; simp
  | cons r rs ih =>
    rintro ⟨c, rest, rfl, ⟨rfl, _⟩, hr⟩ u hu
    rcases List.mem_append.1 hu with hu | hu
    · exact refC_one u hu
    · exact ih hr u hu

set_option maxRecDepth 100000 in
set_option maxHeartbeats 4000000 in
theorem union_walk (av bv cv : Value) (ra rb : List Ref) (cs : List (ByteArray × List UInt8)) (w : World) (he : Env w) (ha : SnapsAt (fun _ => True) w av ra) (hb : SnapsAt (fun _ => True) w bv rb) (hc : ContIn (fun _ => True) w cv cs) :
    Calls Tryd.prog 5 #[av, bv, cv] w fun e w' => e = .returned (.bool true) ∧ Below w.heap.size w w' := by
  have HRA := Lib.hid ha.ok
  have HRB := Lib.hid hb.ok
  obtain ⟨aa, ac, rfl, hac, ham, -⟩ := SeqAt.shape ha SnapR.len
  obtain ⟨ba, bc, rfl, hbc, hbm, -⟩ := SeqAt.shape hb SnapR.len
  have HSC := Lib.hid (And.intro (And.intro hac ham) (And.intro hbc hbm))
  unfold maxLen at ham hbm
  obtain ⟨cm, rfl⟩ := cont_map hc
  have HL := Lib.hid (show LCtx2 w w (.slice aa ra.length ac) (.slice ba rb.length bc) (.map cm) ra rb cs from ⟨he, ha, hb, hc, Below.refl _ _⟩)
  clear he ha hb hc
  go_enter Tryd.func5, Tryd.ntmps5
  go_wp2_with fail
  have hba := (Below.refl w.heap.size w).alloc (Nat.le_refl _) (.cells #[.slice aa ra.length ac, .slice ba rb.length bc] 26)
  have HL1 := Lib.hid (HL.out.next hba)
  refine (few_any _ _ _ _ cs [ra.length, rb.length] _ HL1.out.cont (lens_two HSC.out.1.1 HSC.out.1.2 HSC.out.2.1 HSC.out.2.2)).mono ?_
  rintro e w1 ⟨fb, rfl, hb1, hfew⟩
  have HL2 := Lib.hid (HL1.out.next hb1)
  clear hba hb1 HL HL1
  have HL := HL2
  cases fb
  · clear hfew
    go_wp2_with fail
    refine (awake48_any _ HL.out.env).mono ?_
    rintro e wz ⟨rfl, hbz⟩
    have HLZ := Lib.hid (HL.out.next hbz)
    clear hbz
    go_wp2_with fail
    go_ret
    exact ⟨rfl, HLZ.out.below⟩
  · obtain ⟨h6, h80⟩ := hfew rfl
    have h6a : ra.length ≤ 6 := h6 _ (by simp)
    have h6b : rb.length ≤ 6 := h6 _ (by simp)
    have HN := Lib.hid (needF_ok h80)
    clear hfew h6 h80
    go_wp2_with fail
    refine (Needed_any cs _ HN.out _ _ _ _ ra _ HL.out.a HL.out.cont.at HL.out.env (by omega)).mono ?_
    rintro e w2 ⟨hb2, hresA⟩
    have HRES := Lib.hid hresA
    have HL3 := Lib.hid (HL.out.next hb2)
    clear hb2 HL HL2 hresA
    have HL := HL3
    cases hea : eachP (needF cs) ra with
    | error x =>
      have hr := HRES.out
      rw [hea] at hr
      obtain ⟨rfl, hx⟩ := hr
      have e1 : (x != 0) = true := by simp [hx]
      have HAB := Lib.hid (show eachP (needF cs) (ra ++ rb) = .error x from eachP_append_err.1 hea)
      have HDE := Lib.hid (show deltaE (needF cs) ra rb = .error x by unfold deltaE; rw [hea])
      clear hea hx HRES e1
      obtain ⟨c1, hr1, hin1⟩ := HL.out.a.lts
      obtain ⟨c2, hr2, hin2⟩ := HL.out.b.lts
      have HI1 := Lib.hid hin1
      have HI2 := Lib.hid hin2
      have HO1 := Lib.hid (World.ownsRow_lit (e := 55) (size := 10) (base := w2.heap.size) w2 #[] 0 (Nat.le_refl _) (Nat.zero_le _) (by simp))
      have HB1 := Lib.hid ((Below.refl w2.heap.size w2).alloc (Nat.le_refl _) (.cells #[] 55))
      have hz1 := HB1.out.size
      have HR1 := Lib.hid (hr1.same (fun k hk => HB1.out.block k hk))
      have HR2 := Lib.hid hr2
      clear hr1 hr2 hin1 hin2
      go_wp2_with (first | (at_builtin; refine wpList_appn Tryd.appSnaps rfl _ _ rfl w2.heap.size (.slice (some ⟨w2.heap.size, 0, none⟩) 0 0) 0 [] rfl HO1.out (.slice aa ra.length ac) ra.length c1 rfl HR1.out (snaps_one HI1.out) (by omega) hz1 ?_; intro v1 W2 hown1 hg1; have HO2 := Lib.hid (show W2.ownsRow w2.heap.size 55 10 v1 ra.length c1 by simpa using hown1); have HB2 := Lib.hid (below_grown HB1.out HO1.out hg1 (Nat.le_refl _) hz1); have hz2 := HB2.out.size; have HR3 := Lib.hid (HR2.out.same (fun k hk => HB2.out.block k hk)); obtain ⟨a1, k1, rfl, -, -⟩ := owns_shape HO2.out; clear hown1 hg1) | (at_builtin; refine wpList_appn Tryd.appSnaps rfl _ _ rfl w2.heap.size (.slice a1 ra.length k1) ra.length c1 rfl HO2.out (.slice ba rb.length bc) rb.length c2 rfl HR3.out (snaps_one HI2.out) (by omega) hz2 ?_; intro v2 W3 hown2 hg2; have HO3 := Lib.hid hown2; have HB3 := Lib.hid (below_grown HB2.out HO2.out hg2 (Nat.le_refl _) hz2); obtain ⟨a2, k2, rfl, -, -⟩ := owns_shape hown2; clear hown2 hg2))
      have HSN := Lib.hid (show SnapsAt (w2.heap.size ≤ ·) W3 (.slice a2 (ra.length + rb.length) k2) (ra ++ rb) by
        have h1 := row_of_owns HO3.out
        refine ⟨c1 ++ c2, ?_, RowsIn.append HI1.out HI2.out⟩
        rw [List.length_append]
        exact h1.weak (fun k hk => hk.1))
      have HL4 := Lib.hid (HL.out.next HB3.out)
      clear HL HL3
      have HL := HL4
      refine (Needed_any cs _ HN.out _ _ _ _ (ra ++ rb) _ HSN.out HL.out.cont.at HL.out.env (by rw [List.length_append]; omega)).mono ?_
      rintro e w4 ⟨hb4, hres4⟩
      have HRES4 := Lib.hid hres4
      have HL5 := Lib.hid (HL.out.next hb4)
      have hr4 := HRES4.out
      rw [HAB.out] at hr4
      obtain ⟨rfl, hx⟩ := hr4
      have e1 : (x != 0) = true := by simp [hx]
      clear hb4 hres4 hx HL HL4 HRES4
      have HL := HL5
      go_wp2_with fail
      refine (Delta_any cs _ HN.out _ _ _ _ _ _ ra rb _ HL.out.a HL.out.b HL.out.cont.at HL.out.env (by omega) (by omega)).mono ?_
      rintro e w5 ⟨hb5, hres5⟩
      rw [HDE.out] at hres5
      obtain ⟨rfl, -⟩ := hres5
      have HL6 := Lib.hid (HL.out.next hb5)
      clear hb5 HL HL5
      have HL := HL6
      go_wp2_with fail
      refine (awake48_any _ HL.out.env).mono ?_
      rintro e wz ⟨rfl, hbz⟩
      have HLZ := Lib.hid (HL.out.next hbz)
      clear hbz
      go_wp2_with fail
      go_ret
      exact ⟨rfl, HLZ.out.below⟩
    | ok la =>
      have hr := HRES.out
      rw [hea] at hr
      obtain ⟨xv, rfl, hxv⟩ := hr
      have HEA := Lib.hid hea
      have HX := Lib.hid hxv
      obtain ⟨xl, hxl⟩ : ∃ xl, xl = unionP la := ⟨_, rfl⟩
      rw [← hxl] at HX hxv
      have HXL := Lib.hid hxl
      obtain ⟨xa, xc, rfl, hxc, hxm, -⟩ := SeqAt.shape hxv RefR.len
      unfold maxLen at hxm
      clear hea hxv hxl HRES
      cases heb : eachP (needF cs) rb with
      | error x =>
        have HAB := Lib.hid (show eachP (needF cs) (ra ++ rb) = .error x from eachP_append_err.2 la HEA.out heb)
        have HDE := Lib.hid (show deltaE (needF cs) ra rb = .error x by unfold deltaE; rw [HEA.out]; simp only [heb])
        clear heb
        obtain ⟨c1, hr1, hin1⟩ := HL.out.a.lts
        obtain ⟨c2, hr2, hin2⟩ := HL.out.b.lts
        have HI1 := Lib.hid hin1
        have HI2 := Lib.hid hin2
        have HO1 := Lib.hid (World.ownsRow_lit (e := 55) (size := 10) (base := w2.heap.size) w2 #[] 0 (Nat.le_refl _) (Nat.zero_le _) (by simp))
        have HB1 := Lib.hid ((Below.refl w2.heap.size w2).alloc (Nat.le_refl _) (.cells #[] 55))
        have hz1 := HB1.out.size
        have HR1 := Lib.hid (hr1.same (fun k hk => HB1.out.block k hk))
        have HR2 := Lib.hid hr2
        clear hr1 hr2 hin1 hin2
        go_wp2_with (first | (at_builtin; refine wpList_appn Tryd.appSnaps rfl _ _ rfl w2.heap.size (.slice (some ⟨w2.heap.size, 0, none⟩) 0 0) 0 [] rfl HO1.out (.slice aa ra.length ac) ra.length c1 rfl HR1.out (snaps_one HI1.out) (by omega) hz1 ?_; intro v1 W2 hown1 hg1; have HO2 := Lib.hid (show W2.ownsRow w2.heap.size 55 10 v1 ra.length c1 by simpa using hown1); have HB2 := Lib.hid (below_grown HB1.out HO1.out hg1 (Nat.le_refl _) hz1); have hz2 := HB2.out.size; have HR3 := Lib.hid (HR2.out.same (fun k hk => HB2.out.block k hk)); obtain ⟨a1, k1, rfl, -, -⟩ := owns_shape HO2.out; clear hown1 hg1) | (at_builtin; refine wpList_appn Tryd.appSnaps rfl _ _ rfl w2.heap.size (.slice a1 ra.length k1) ra.length c1 rfl HO2.out (.slice ba rb.length bc) rb.length c2 rfl HR3.out (snaps_one HI2.out) (by omega) hz2 ?_; intro v2 W3 hown2 hg2; have HO3 := Lib.hid hown2; have HB3 := Lib.hid (below_grown HB2.out HO2.out hg2 (Nat.le_refl _) hz2); obtain ⟨a2, k2, rfl, -, -⟩ := owns_shape hown2; clear hown2 hg2))
        have HSN := Lib.hid (show SnapsAt (w2.heap.size ≤ ·) W3 (.slice a2 (ra.length + rb.length) k2) (ra ++ rb) by
          have h1 := row_of_owns HO3.out
          refine ⟨c1 ++ c2, ?_, RowsIn.append HI1.out HI2.out⟩
          rw [List.length_append]
          exact h1.weak (fun k hk => hk.1))
        have HL4 := Lib.hid (HL.out.next HB3.out)
        clear HL HL3
        have HL := HL4
        refine (Needed_any cs _ HN.out _ _ _ _ (ra ++ rb) _ HSN.out HL.out.cont.at HL.out.env (by rw [List.length_append]; omega)).mono ?_
        rintro e w4 ⟨hb4, hres4⟩
        have HRES4 := Lib.hid hres4
        have HL5 := Lib.hid (HL.out.next hb4)
        have HXW := Lib.hid trivial
        clear HXW
        have hr4 := HRES4.out
        rw [HAB.out] at hr4
        obtain ⟨rfl, hx⟩ := hr4
        have e1 : (x != 0) = true := by simp [hx]
        clear hb4 hres4 hx HL HL4 HRES4
        have HL := HL5
        go_wp2_with fail
        refine (Delta_any cs _ HN.out _ _ _ _ _ _ ra rb _ HL.out.a HL.out.b HL.out.cont.at HL.out.env (by omega) (by omega)).mono ?_
        rintro e w5 ⟨hb5, hres5⟩
        rw [HDE.out] at hres5
        obtain ⟨rfl, -⟩ := hres5
        have HL6 := Lib.hid (HL.out.next hb5)
        clear hb5 HL HL5
        have HL := HL6
        go_wp2_with fail
        refine (awake48_any _ HL.out.env).mono ?_
        rintro e wz ⟨rfl, hbz⟩
        have HLZ := Lib.hid (HL.out.next hbz)
        clear hbz
        go_wp2_with fail
        go_ret
        exact ⟨rfl, HLZ.out.below⟩
      | ok lb =>
        have HAB := Lib.hid (show eachP (needF cs) (ra ++ rb) = .ok (la ++ lb) from eachP_append HEA.out heb)
        have HDE := Lib.hid (show deltaE (needF cs) ra rb = .ok (la, lb) by unfold deltaE; rw [HEA.out]; simp only [heb])
        have HLB := Lib.hid (eachP_le HN.out HRB.out heb)
        have hlbl : lb.length = rb.length := eachP_len heb
        have HLL := Lib.hid (show (unionP lb).length < 1099511627775 from unionOf_len HN.out HRB.out heb (by omega))
        have HLX := Lib.hid (show xl.length < 549755813887 by
          rw [HXL.out]
          have h1 := unionP_len (eachP_le HN.out HRA.out HEA.out)
          rw [eachP_len HEA.out] at h1
          exact Nat.lt_of_le_of_lt (Nat.le_trans h1 (Nat.mul_le_mul_right 1000000000 h6a)) (by decide))
        have HLG := Lib.hid (show (lessP (unionP lb) (unionP la)).length < 549755813887 by
          have h1 := unionP_len HLB.out
          rw [hlbl] at h1
          exact Nat.lt_of_le_of_lt (Nat.le_trans (lessP_le _ _) (Nat.le_trans h1 (Nat.mul_le_mul_right 1000000000 h6b))) (by decide))
        clear heb hlbl
        obtain ⟨c1, hr1, hin1⟩ := HL.out.a.lts
        obtain ⟨c2, hr2, hin2⟩ := HL.out.b.lts
        have HI1 := Lib.hid hin1
        have HI2 := Lib.hid hin2
        have HO1 := Lib.hid (World.ownsRow_lit (e := 55) (size := 10) (base := w2.heap.size) w2 #[] 0 (Nat.le_refl _) (Nat.zero_le _) (by simp))
        have HB1 := Lib.hid ((Below.refl w2.heap.size w2).alloc (Nat.le_refl _) (.cells #[] 55))
        have hz1 := HB1.out.size
        have HR1 := Lib.hid (hr1.same (fun k hk => HB1.out.block k hk))
        have HR2 := Lib.hid hr2
        clear hr1 hr2 hin1 hin2
        go_wp2_with (first | (at_builtin; refine wpList_appn Tryd.appSnaps rfl _ _ rfl w2.heap.size (.slice (some ⟨w2.heap.size, 0, none⟩) 0 0) 0 [] rfl HO1.out (.slice aa ra.length ac) ra.length c1 rfl HR1.out (snaps_one HI1.out) (by omega) hz1 ?_; intro v1 W2 hown1 hg1; have HO2 := Lib.hid (show W2.ownsRow w2.heap.size 55 10 v1 ra.length c1 by simpa using hown1); have HB2 := Lib.hid (below_grown HB1.out HO1.out hg1 (Nat.le_refl _) hz1); have hz2 := HB2.out.size; have HR3 := Lib.hid (HR2.out.same (fun k hk => HB2.out.block k hk)); obtain ⟨a1, k1, rfl, -, -⟩ := owns_shape HO2.out; clear hown1 hg1) | (at_builtin; refine wpList_appn Tryd.appSnaps rfl _ _ rfl w2.heap.size (.slice a1 ra.length k1) ra.length c1 rfl HO2.out (.slice ba rb.length bc) rb.length c2 rfl HR3.out (snaps_one HI2.out) (by omega) hz2 ?_; intro v2 W3 hown2 hg2; have HO3 := Lib.hid hown2; have HB3 := Lib.hid (below_grown HB2.out HO2.out hg2 (Nat.le_refl _) hz2); obtain ⟨a2, k2, rfl, -, -⟩ := owns_shape hown2; clear hown2 hg2))
        have HSN := Lib.hid (show SnapsAt (w2.heap.size ≤ ·) W3 (.slice a2 (ra.length + rb.length) k2) (ra ++ rb) by
          have h1 := row_of_owns HO3.out
          refine ⟨c1 ++ c2, ?_, RowsIn.append HI1.out HI2.out⟩
          rw [List.length_append]
          exact h1.weak (fun k hk => hk.1))
        have HL4 := Lib.hid (HL.out.next HB3.out)
        clear HL HL3
        have HL := HL4
        refine (Needed_any cs _ HN.out _ _ _ _ (ra ++ rb) _ HSN.out HL.out.cont.at HL.out.env (by rw [List.length_append]; omega)).mono ?_
        rintro e w4 ⟨hb4, hres4⟩
        have HRES4 := Lib.hid hres4
        have HL5 := Lib.hid (HL.out.next hb4)
        have hr4 := HRES4.out
        rw [HAB.out] at hr4
        obtain ⟨yv, rfl, hyv⟩ := hr4
        have HY := Lib.hid hyv
        obtain ⟨yl, hyl⟩ : ∃ yl, yl = unionP (la ++ lb) := ⟨_, rfl⟩
        have hyv2 : RefsAt (W3.heap.size ≤ ·) w4 yv yl := by rw [hyl]; exact hyv
        have HY := Lib.hid hyv2
        have HYL := Lib.hid hyl
        obtain ⟨ya, yc, rfl, -, -, -⟩ := SeqAt.shape hyv2 RefR.len
        have HX4 := Lib.hid (show RefsAt _ w4 _ _ from SeqAt.below (SeqAt.below HX.out (by omega) HB3.out (fun _ _ _ h => h)) (by omega) hb4 (fun _ _ _ h => h))
        clear hb4 hres4 hyv hyv2 hyl HL HL4 HRES4
        have HL := HL5
        go_wp2_with fail
        refine (Delta_any cs _ HN.out _ _ _ _ _ _ ra rb _ HL.out.a HL.out.b HL.out.cont.at HL.out.env (by omega) (by omega)).mono ?_
        rintro e w5 ⟨hb5, hres5⟩
        rw [HDE.out] at hres5
        obtain ⟨gv, lv, rfl, hgv, hlv⟩ := hres5
        obtain ⟨gl, hgl⟩ : ∃ gl, gl = lessP (unionP lb) (unionP la) := ⟨_, rfl⟩
        rw [← hgl] at hgv HLG
        have HGL := Lib.hid hgl
        have HG := Lib.hid hgv
        obtain ⟨ga, gc, rfl, -, -, -⟩ := SeqAt.shape hgv RefR.len
        obtain ⟨la', lc', rfl, -, -, -⟩ := SeqAt.shape hlv RefR.len
        have HL6 := Lib.hid (HL.out.next hb5)
        have HX5 := Lib.hid (show RefsAt _ w5 _ _ from SeqAt.below HX4.out (by omega) hb5 (fun _ _ _ h => h))
        have HY5 := Lib.hid (show RefsAt _ w5 _ _ from SeqAt.below HY.out (by omega) hb5 (fun _ _ _ h => h))
        clear hb5 hgv hlv hgl HL HL5
        have HL := HL6
        go_wp2_with fail
        refine (awake48_any _ HL.out.env).mono ?_
        rintro e w6 ⟨rfl, hb6⟩
        have HL7 := Lib.hid (HL.out.next hb6)
        have HX6 := Lib.hid (RefsAt.lts (show RefsAt _ w6 _ _ from SeqAt.below HX5.out (by omega) hb6 (fun _ _ _ h => h)))
        have HY6 := Lib.hid (RefsAt.lts (show RefsAt _ w6 _ _ from SeqAt.below HY5.out (by omega) hb6 (fun _ _ _ h => h)))
        have HG6 := Lib.hid (RefsAt.lts (show RefsAt _ w6 _ _ from SeqAt.below HG.out (by omega) hb6 (fun _ _ _ h => h)))
        obtain ⟨d1, hs1, hj1⟩ := HX6.out
        obtain ⟨d2, hs2, hj2⟩ := HG6.out
        have HJ1 := Lib.hid hj1
        have HJ2 := Lib.hid hj2
        have HQ1 := Lib.hid (World.ownsRow_lit (e := 37) (size := 3) (base := w6.heap.size) w6 #[] 0 (Nat.le_refl _) (Nat.zero_le _) (by simp))
        have HC1 := Lib.hid ((Below.refl w6.heap.size w6).alloc (Nat.le_refl _) (.cells #[] 37))
        have hy1 := HC1.out.size
        have HS1 := Lib.hid (hs1.same (fun k hk => HC1.out.block k hk))
        have HS2 := Lib.hid hs2
        have HXG := Lib.hid (show xl.length + gl.length < 1099511627775 by have := HLX.out; have := HLG.out; omega)
        have HX1 := Lib.hid (show 0 + xl.length < 1099511627775 by have := HLX.out; omega)
        clear hb6 hs1 hs2 hj1 hj2 HL HL6
        go_wp2_with (first | (at_builtin; refine wpList_unguard rfl ?_; refine wpList_appn Tryd.appRefs rfl _ _ rfl w6.heap.size (.slice (some ⟨w6.heap.size, 0, none⟩) 0 0) 0 [] rfl HQ1.out (.slice xa xl.length xc) xl.length d1 rfl HS1.out (refs_one HJ1.out) HX1.out hy1 ?_; intro v1 W7 hown1 hg1; have HQ2 := Lib.hid (show W7.ownsRow w6.heap.size 37 3 v1 xl.length d1 by simpa using hown1); have HC2 := Lib.hid (below_grown HC1.out HQ1.out hg1 (Nat.le_refl _) hy1); have hy2 := HC2.out.size; have HS3 := Lib.hid (HS2.out.same (fun k hk => HC2.out.block k hk)); obtain ⟨b1, j1, rfl, -, -⟩ := owns_shape HQ2.out; clear hown1 hg1) | (at_builtin; refine wpList_unguard rfl ?_; refine wpList_appn Tryd.appRefs rfl _ _ rfl w6.heap.size (.slice b1 xl.length j1) xl.length d1 rfl HQ2.out (.slice ga gl.length gc) gl.length d2 rfl HS3.out (refs_one HJ2.out) HXG.out hy2 ?_; intro v2 W8 hown2 hg2; have HQ3 := Lib.hid hown2; have HC3 := Lib.hid (below_grown HC2.out HQ2.out hg2 (Nat.le_refl _) hy2); obtain ⟨b2, j2, rfl, -, -⟩ := owns_shape hown2; clear hown2 hg2))
        have HZZ := Lib.hid (show RefsAt (w6.heap.size ≤ ·) W8 (.slice b2 (xl.length + gl.length) j2) (xl ++ gl) by
          have h1 := row_of_owns HQ3.out
          refine ⟨d1 ++ d2, ?_, RowsIn.append HJ1.out HJ2.out⟩
          rw [List.length_append]
          exact h1.weak (fun k hk => hk.1))
        have HEQ := Lib.hid (show decide (yl = xl ++ gl) = true by rw [HYL.out, HXL.out, HGL.out, union_append]; simp)
        have HY8 := Lib.hid (show RefsAt _ W8 _ _ from SeqAt.same HY6.out (fun k hk => HC3.out.block k hk) (fun _ _ _ h => h))
        refine (sameRefs_is _ _ _ _ yl (xl ++ gl) true _ HY8.out HZZ.out HEQ.out).mono ?_
        rintro e w9 ⟨rfl, hb9⟩
        have HLA := Lib.hid ((HL7.out.next HC3.out).next hb9)
        clear hb9
        go_wp2_with fail
        go_ret
        exact ⟨rfl, HLA.out.below⟩

end Go.Proofs.YtndgmcggckpgfaaDoor

/- LivenessUnion: for every input the law returns true, and each argument reads afterwards as it read before (the tied card). -/
namespace Go.Proofs.YtndgmcggckpgfaaDoor
open Go.ChangeShapes Go.WideShapes Go.ChangeAt Go.RowKit Go.Lib Go.Shelf
open Go.ChangeMaps (open_string shut_string)

namespace CUnion
set_option maxRecDepth 100000 in
theorem lifted (os : Os) (started : os.Started) (H : Type) (enc : TypeId × Value → H) :
    ReturnsInHanded {} Tryd.checked os 5 .any (fun w args => (Rows.livenessUnionSpec.pre enc Tryd.prog Tryd.f5 [] false w args ∧ laidMetH Tryd.prog laidL w) ∧ sizedMet enc Tryd.prog Tryd.f5 (OpenSpec.ofChange Rows.livenessUnionSpec) false w args)
      (Rows.livenessUnionSpec.post enc Tryd.prog Tryd.f5 false true false false) := by
  refine handed (C := Tryd.checked) (X := fun w _ => laidMetH Tryd.prog laidL w) (fun _ _ _ hh h => h.of_heap hh) own started (by kernel_rfl) Tryd.func5
    (ChangeSpec.witness_shaped (enc := enc) (C := Tryd.checked) (os := os) (X := fun w _ => laidMetH Tryd.prog laidL w) false (World.laidAll Tryd.prog os laidL) #[.slice none 0 0, .slice none 0 0, .map none] 8 (World.laidAll_os _ _ _)
      (World.shaped_of_ZipB (by kernel_rfl) (by kernel_rfl)) (by kernel_rfl) (by kernel_rfl) (by kernel_rfl)
      (by rw [MakeChecks.laidMetH_plain _ _ _ (by kernel_rfl)]; exact laidMet_laidAll _ (by kernel_rfl) (by kernel_rfl))) ?_
  intro W base args ds gs before hval0 hW _ hL hsh
  have hval : ∀ (j : Nat) t v, Tryd.f5.params[j]? = some t → args[j]? = some v → Value.okWide Tryd.prog W .any base t v := hval0
  have hW' := hW
  obtain ⟨p, q, hA0, hV, rfl, _, _⟩ := hW
  have hA : DataW.TrodAll enc Tryd.prog W 0 (fun _ => true) true Tryd.f5.params.toList args.toList ds p := hA0
  rw [Tryd.params5] at hA hval
  obtain ⟨rfl, rfl⟩ := trodVars_none hV
  simp only [List.append_nil] at hW'
  obtain ⟨v0, v1, v2, d0, d1, d2, p0, p1, p2, rfl, rfl, rfl, h0, h1, h2⟩ := trodAll_three hA
  obtain ⟨ra, hra⟩ := open_snaps (hval 0 26 v0 rfl rfl) h0
  obtain ⟨rb, hrb⟩ := open_snaps (hval 1 26 v1 rfl rfl) h1
  obtain ⟨cs, hcs⟩ := open_cont (hval 2 27 v2 rfl rfl) h2
  have hlt0 : ∀ x ∈ p0, x.block < W.heap.size := fun x hx => by simpa using hW'.lt x (by simp [hx])
  have hlt1 : ∀ x ∈ p1, x.block < W.heap.size := fun x hx => by simpa using hW'.lt x (by simp [hx])
  have hlt2 : ∀ x ∈ p2, x.block < W.heap.size := fun x hx => by simpa using hW'.lt x (by simp [hx])
  refine (union_walk v0 v1 v2 ra rb cs W (env_of hL hsh) hra hrb hcs).mono fun e W' ⟨he, hb⟩ => ?_
  subst he
  exact ⟨_, rfl, _, _, _, [], _, [], hW', trodAll_mk1 (shut_bool Tryd.underlying4 _), trodAll_mk3 (Below.trod laidOut (by kernel_rfl) (of_decide_eq_true (by kernel_rfl)) h0 hb hlt0) (Below.trod laidOut (by kernel_rfl) (of_decide_eq_true (by kernel_rfl)) h1 hb hlt1) (Below.trod laidOut (by kernel_rfl) (of_decide_eq_true (by kernel_rfl)) h2 hb hlt2), rfl, hb.frame _, fun h => by cases h⟩
theorem holds : Rows.LivenessUnionSaid :=
  OpenClaim.holds_of_wide 5 Tryd.f5 rfl rfl rfl rfl rfl rfl rfl ⟨rfl, rfl, rfl, rfl, rfl⟩ rfl rfl rfl rfl rfl (by kernel_rfl) Tryd.func5 (by kernel_rfl)
    (of_decide_eq_true (by kernel_rfl)) (by unfold Func.isWrapper; first | (rw [if_pos (by decide +kernel)]; kernel_rfl) | (rw [if_neg (by decide +kernel)]; exact ⟨rfl, rfl⟩))
    (fun os started H enc _ => lifted os started H enc)
theorem card_holds : Rows.LivenessUnionCardSaid :=
  Claim7.holds_tied_plain_at .later [] [.data, .pinned] true (true, "ff2cba2c439d558082da2d7ed5d675c4d6d17ccae7d1fb128fdb3451a48726d3") false holds (fun _ h => by cases h) (by kernel_rfl) (fun _ h => by cases h) livenessUnion_row_tie rfl ⟨rfl, rfl⟩ (by kernel_rfl) rfl
    (fun f fn hf hfn => by
      obtain rfl : f = 5 := Option.some.inj ((show Tryd.prog.funcNamed "kinkeep/kinkeeplaw48.LivenessUnion" = some 5 by kernel_rfl).symm.trans hf) |>.symm
      obtain rfl : fn = Tryd.f5 := (Option.some.inj (Tryd.func5.symm.trans hfn)).symm
      exact ⟨by kernel_rfl, fun j t ht => by
        rw [Tryd.params5] at ht
        have hm : t ∈ [26, 26, 27] := by simpa using Array.mem_of_getElem? ht
        have hall : ([26, 26, 27].all fun u => !Tryd.prog.wantsStandIn u) = true := by kernel_rfl
        exact (show Tryd.prog.wantsStandIn t = false by simpa using List.all_eq_true.1 hall t hm)⟩)
    (by kernel_rfl)
#print axioms card_holds
end CUnion
theorem livenessUnion_card : Rows.LivenessUnionCardSaid := CUnion.card_holds
end Go.Proofs.YtndgmcggckpgfaaDoor
