/- The law PathnameParses: its walk. -/
import Derived.Test.YtlipekkiaiaplaaDoorPrint
import Derived.Test.YtlipekkiaiaplaaDoorRefL
import Derived.Test.YtlipekkiaiaplaaDoorLaw5a
import Derived.BigQuiet
import Derived.Deep.QuietTactic
namespace Go.Proofs.YtlipekkiaiaplaaDoor
open Go.RowKit

set_option maxRecDepth 100000 in
set_option maxHeartbeats 2000000 in
theorem equal_any (rs : List PRule) (S T : Nat → Prop) (va vb : Value) (w : World) (ha : RulesAt S w va rs) (hb : RulesAt T w vb rs) :
    Calls Tryd.prog 35 #[va, vb] w fun e w' => e = .returned (.bool true) ∧ Below w.heap.size w w' := by
  have HA := Lib.hid ha
  have HB := Lib.hid hb
  obtain ⟨a1, c1, rfl, hc1, hcm1, -⟩ := ha.cells
  obtain ⟨a2, c2, rfl, hc2, hcm2, -⟩ := hb.cells
  clear ha hb
  unfold maxLen at hcm1 hcm2
  go_enter Tryd.func35, Tryd.ntmps35
  go_wp2_with fail
  go_loopw [13] (fun i wr => ∃ k m : Nat, k ≤ rs.length ∧ i = .int .i64 k ∧ wr = w.drewN m) (fun i _ => rs.length - (intOf i).toNat)
  case atStart => exact ⟨0, 0, Nat.zero_le _, rfl, rfl⟩
  case round =>
    obtain ⟨k, m, hk, rfl, rfl⟩ := hrel
    by_cases hlt : k < rs.length
    · obtain ⟨r, hr⟩ : ∃ r, rs[k]? = some r := ⟨rs[k], by simp [hlt]⟩
      obtain ⟨_, _, hv', _, _, hcells⟩ := HA.out.cells
      cases hv'
      obtain ⟨b, o, rfl, c0, c1, c2, c3⟩ := hcells k r hr
      obtain ⟨_, _, hv', _, _, hcells'⟩ := HB.out.cells
      cases hv'
      obtain ⟨b', o', rfl, d0, d1, d2, d3⟩ := hcells' k r hr
      clear hr hcells hcells'
      go_upto_region 6 with fail
      go_quiet (fail)
      go_wp2_with fail
      go_roundw
      case rel => exact ⟨k + 1, m + nq, by omega, by go_num, rfl⟩
      case measure => simp [intOf]; omega
    · go_wp2_with fail
      go_ret
      exact ⟨rfl, below_draws (Below.refl _ _) _⟩

theorem r_line_rule (r : PRule) (w : World) (hs : r.pat.length ≤ 65536) : Calls Tryd.prog 37 #[.agg #[.string ⟨r.pat.toArray⟩, .bool r.keep, .bool r.dir, .bool r.rooted]] w (LineRes r w) := by
  have := r_line_any ⟨r.pat.toArray⟩ r.keep r.dir r.rooted w (by rw [size_bl, bl_mk]; exact hs)
  rw [bl_mk] at this; exact this
theorem p_parse_is (s : ByteArray) (o : List PRule × Int × Int) (w : World) (he : Env w) (h : parseE (bl s) = o) : Calls Tryd.prog 33 #[.string s] w (ParseRes o w) := by rw [← h]; exact parse_any s w he
theorem r_parse_is (s : ByteArray) (o : List PRule × Int × Int) (w : World) (h : parseE (bl s) = o) : Calls Tryd.prog 34 #[.string s] w (ParseRes o w) := by rw [← h]; exact r_parse_any s w
theorem print_o (rs : List PRule) (S : Nat → Prop) (v : Value) (o : List UInt8 × Int) (w : World) (he : Env w) (hv : RulesAt S w v rs) (hp : ∀ r ∈ rs, r.pat.length ≤ 9223372036854775807) (h : printE rs = o) : Calls Tryd.prog 36 #[v] w (PrintRes o w) := by
  rw [← h]; exact print_any rs S v w he hv hp
theorem good_is {r : PRule} (h : goodR r = true) : (compileS r).isSome = true ∧ r.pat.length ≤ 512 := by
  rw [← good_compile] at h
  obtain ⟨cs, hcs⟩ := Option.isSome_iff_exists.1 h
  exact ⟨h, (patS_bounds (compileS_pat hcs)).2.2⟩
theorem good_not {r : PRule} (h : goodR r = false) : compileS r = none := by
  rw [← good_compile] at h
  cases hc : compileS r
  · rfl
  · rw [hc] at h; cases h
theorem nl_size : (⟨#[10]⟩ : ByteArray).size = 1 := rfl
set_option maxRecDepth 100000 in
set_option maxHeartbeats 4000000 in
theorem parses_walk (s : ByteArray) (rs : List PRule) (S : Nat → Prop) (v : Value) (w : World) (he : Env w) (hv : RulesAt S w v rs) (hp : ∀ r ∈ rs, r.pat.length ≤ 9223372036854775807) :
    Calls Tryd.prog 9 #[.string s, v] w fun e w' => e = .returned (.bool true) ∧ Below w.heap.size w w' := by
  have HE := Lib.hid he
  have HB := Lib.hid (Below.refl w.heap.size w)
  have HV := Lib.hid hv
  have HP := Lib.hid hp
  obtain ⟨a, cap, rfl, hc, hcm, -⟩ := hv.cells
  clear he hv hp
  unfold maxLen at hcm
  go_enter Tryd.func9, Tryd.ntmps9
  go_wp2_with fail
  refine (awake_any _ HE.out).mono ?_
  rintro e w' ⟨rfl, hb'⟩
  have hE' := HE.out.below hb'
  have hB' := below_next HB.out hb'
  have hV' := HV.out.below hb'
  clear HE HB HV
  have HE := Lib.hid hE'
  have HB := Lib.hid hB'
  have HV := Lib.hid hV'
  clear hb' hE' hB' hV'
  generalize w' = W at *
  by_cases hsz : (3000 < s.size ∧ s.size ≤ 65536) ∨ 300 < rs.length
  · rcases hsz with ⟨h1, h2⟩ | h1
    · go_wp2_with fail
      all_goals (
        go_ret
        exact ⟨rfl, HB.out⟩)
    · go_wp2_with fail
      all_goals (
        go_ret
        exact ⟨rfl, HB.out⟩)
  · have h300 : rs.length ≤ 300 := by omega
    rcases Nat.lt_or_ge 3000 s.size with h3 | h3
    · have h6 : 65536 < s.size := by omega
      clear hsz
      go_wp2_with fail
      obtain ⟨ps, n, er, hpe⟩ : ∃ ps n e, parseE (bl s) = (ps, n, e) := ⟨_, _, _, rfl⟩
      have HPE := Lib.hid hpe
      clear hpe
      refine (p_parse_is s _ _ HE.out HPE.out).mono ?_
      rintro e w1 ⟨v1, rfl, hv1, hb1⟩
      simp only at hv1 ⊢
      obtain ⟨a1, c1, rfl, hc1, hcm1, -⟩ := hv1.cells
      have HV1 := Lib.hid hv1
      have HE1 := Lib.hid (HE.out.below hb1)
      have HB1 := Lib.hid (below_next HB.out hb1)
      have HVV1 := Lib.hid (HV.out.below hb1)
      clear hv1 hb1 HE HB HV
      unfold maxLen at hcm1
      go_wp2_with fail
      refine (r_parse_is s _ _ HPE.out).mono ?_
      rintro e w2 ⟨v2, rfl, hv2, hb2⟩
      simp only at hv2 ⊢
      obtain ⟨a2, c2, rfl, hc2, hcm2, -⟩ := hv2.cells
      have HV2 := Lib.hid hv2
      have HV3 := Lib.hid (HV1.out.below hb2)
      have HE2 := Lib.hid (HE1.out.below hb2)
      have HB2 := Lib.hid (below_next HB1.out hb2)
      have HV := Lib.hid (HVV1.out.below hb2)
      clear hv2 hb2 HE1 HB1 HVV1 HV1
      unfold maxLen at hcm2
      have HE := HE2
      have HB := HB2
      clear HE2 HB2
      have enn : (n != n) = false := by simp
      have eee : (er != er) = false := by simp
      go_wp2_with fail
      clear enn eee
      refine (equal_any ps _ _ _ _ _ HV3.out HV2.out).mono ?_
      rintro e w' ⟨rfl, hb'⟩
      have hE' := HE.out.below hb'
      have hB' := below_next HB.out hb'
      have hV' := HV.out.below hb'
      clear HE HB HV
      have HE := Lib.hid hE'
      have HB := Lib.hid hB'
      have HV := Lib.hid hV'
      clear hb' hE' hB' hV'
      generalize w' = W at *
      clear HV2 HV3
      go_wp2_with fail
      refine (rules_any rs S _ _ HV.out h300).mono ?_
      rintro e w3 ⟨pv, rfl, hpv, hb3⟩
      have HPV := Lib.hid hpv
      obtain ⟨pa, pc, rfl, -, -, -⟩ := hpv.cells
      have hE3 := HE.out.below hb3
      have hB3 := below_next HB.out hb3
      have hV3 := HV.out.below hb3
      clear HE HB HV hpv hb3
      have HE := Lib.hid hE3
      have HB := Lib.hid hB3
      have HV := Lib.hid hV3
      clear hE3 hB3 hV3
      obtain ⟨pt, pe, hpr⟩ : ∃ pt pe, printE rs = (pt, pe) := ⟨_, _, rfl⟩
      have HPR := Lib.hid hpr
      clear hpr
      go_wp2_with fail
      refine (print_o rs _ _ _ _ HE.out HPV.out HP.out HPR.out).mono ?_
      rintro e w4 ⟨t, rfl, ht, hb4⟩
      simp only at ht ⊢
      have HT := Lib.hid ht
      have hB4 := below_next HB.out hb4
      have hV4 := HV.out.below hb4
      clear HE HB HV HPV hb4 ht
      have HB := Lib.hid hB4
      have HV := Lib.hid hV4
      clear hB4 hV4
      go_wp2_with fail
      go_loopw [13, 65] (fun u i wr => ∃ (k : Nat) (want : ByteArray), k ≤ rs.length ∧ u = .string want ∧ i = .int .i64 k ∧ Below w4.heap.size w4 wr ∧ bl want = printTx (rs.take k) ∧ want.size ≤ 516 * k ∧ AllOk rs k) (fun _ i _ => rs.length - (intOf i).toNat)
      case atStart => exact ⟨0, ⟨#[]⟩, Nat.zero_le _, rfl, rfl, Below.refl _ _, rfl, Nat.le_refl 0, fun j r hj => by omega⟩
      case round =>
        obtain ⟨k, want, hk, rfl, rfl, hbr, hw, hws, hok⟩ := hrel
        have HW := Lib.hid hw
        have HBR := Lib.hid hbr
        have HOK := Lib.hid hok
        clear hw hok
        by_cases hlt : k < rs.length
        · obtain ⟨r, hr⟩ : ∃ r, rs[k]? = some r := ⟨rs[k], by simp [hlt]⟩
          obtain ⟨_, _, hv', _, _, hcells⟩ := (HV.out.below hbr).cells
          cases hv'
          obtain ⟨b, o, rfl, c0, c1, c2, c3⟩ := hcells k r hr
          have HR := Lib.hid hr
          have HTK := Lib.hid (print_take hr)
          clear hr hcells hbr
          have hwb : Below wr.heap.size wr (wr.alloc (.cells #[.string ⟨r.pat.toArray⟩, .bool r.keep, .bool r.dir, .bool r.rooted] 30)) := (Below.refl _ _).alloc (Nat.le_refl _) _
          have HWB := Lib.hid hwb
          clear hwb
          rcases Nat.lt_or_ge 600 r.pat.length with h600 | h600
          · go_wp2_with fail
            go_ret
            exact ⟨rfl, below_next (below_next HB.out HBR.out) HWB.out⟩
          · have hpl : r.pat.length ≤ 65536 := by omega
            go_wp2_with fail
            cases hg : goodR r
            · have HG := Lib.hid hg
              clear hg
              have hbad := printE_bad (List.mem_of_getElem? HR.out) (good_not HG.out)
              rw [HPR.out] at hbad
              simp only [Prod.mk.injEq] at hbad
              obtain ⟨hb1, rfl⟩ := hbad
              have e0 : t.toList.isEmpty = true := by rw [toList_bl, HT.out, hb1]; rfl
              clear hb1
              refine (r_good_is r false _ hpl HG.out).mono ?_
              rintro e w5 ⟨rfl, hb5⟩
              have HB5 := Lib.hid (below_next HWB.out hb5)
              clear hb5
              go_wp2_with fail
              go_ret
              exact ⟨rfl, below_next (below_next HB.out HBR.out) HB5.out⟩
            · have HG := Lib.hid hg
              clear hg
              refine (r_good_is r true _ hpl HG.out).mono ?_
              rintro e w5 ⟨rfl, hb5⟩
              have hbox : w5.heap[wr.heap.size]? = some (.cells #[.string ⟨r.pat.toArray⟩, .bool r.keep, .bool r.dir, .bool r.rooted] 30 (0, 0)) := by
                rw [hb5.block _ (by simp)]; exact heap_alloc_new wr _
              have n0 : w5.cell? ⟨wr.heap.size, 0, none⟩ = some (.string ⟨r.pat.toArray⟩) := by rw [cell_of_heap hbox]; rfl
              have n1 : w5.cell? ⟨wr.heap.size, 1, none⟩ = some (.bool r.keep) := by rw [cell_of_heap hbox]; rfl
              have n2 : w5.cell? ⟨wr.heap.size, 2, none⟩ = some (.bool r.dir) := by rw [cell_of_heap hbox]; rfl
              have n3 : w5.cell? ⟨wr.heap.size, 3, none⟩ = some (.bool r.rooted) := by rw [cell_of_heap hbox]; rfl
              have HB5 := Lib.hid (below_next HWB.out hb5)
              clear hb5 hbox
              go_wp2_with fail
              refine (r_line_rule r _ hpl).mono ?_
              rintro e w6 ⟨lt, rfl, hlt6, hb6⟩
              have hsl : lt.size ≤ 515 := by rw [size_bl, hlt6]; exact line_small r (good_is HG.out).2
              have HL6 := Lib.hid hlt6
              have HB6 := Lib.hid (below_next HB5.out hb6)
              clear hb6 hlt6
              go_wp2_with fail
              go_roundw
              case rel =>
                refine ⟨k + 1, want ++ lt ++ ⟨#[10]⟩, by omega, rfl, by go_num, below_next HBR.out HB6.out, ?_, ?_, fun j q hj hq => ?_⟩
                · rw [bl_append, bl_append, HW.out, HL6.out, HTK.out, List.append_assoc]; rfl
                · rw [ByteArray.size_append, ByteArray.size_append, nl_size]; omega
                · rcases Nat.lt_or_ge j k with h | h
                  · exact HOK.out j q h hq
                  · obtain rfl : j = k := by omega
                    have := HR.out.symm.trans hq
                    cases this
                    exact (good_is HG.out).1
              case measure => simp [intOf]; omega
        · obtain rfl : k = rs.length := by omega
          have hpo := printE_ok HOK.out.all
          rw [HPR.out] at hpo
          have hw := HW.out
          rw [List.take_length] at hw
          clear hbr
          rcases Nat.lt_or_ge 256 rs.length with h256 | h256
          · rw [if_pos h256] at hpo
            simp only [Prod.mk.injEq] at hpo
            obtain ⟨h1, rfl⟩ := hpo
            have e0 : t.toList.isEmpty = true := by rw [toList_bl, HT.out, h1]; rfl
            clear h1 hw
            go_wp2_with fail
            go_ret
            exact ⟨rfl, below_next HB.out HBR.out⟩
          · rw [if_neg (by omega)] at hpo
            simp only [Prod.mk.injEq] at hpo
            obtain ⟨h1, rfl⟩ := hpo
            have e0 : (t.toList == want.toList) = true := by rw [toList_bl, toList_bl, HT.out, h1, hw]; simp
            clear h1 hw
            go_wp2_with fail
            go_ret
            exact ⟨rfl, below_next HB.out HBR.out⟩
    · clear hsz
      go_wp2_with fail
      obtain ⟨ps, n, er, hpe⟩ : ∃ ps n e, parseE (bl s) = (ps, n, e) := ⟨_, _, _, rfl⟩
      have HPE := Lib.hid hpe
      clear hpe
      refine (p_parse_is s _ _ HE.out HPE.out).mono ?_
      rintro e w1 ⟨v1, rfl, hv1, hb1⟩
      simp only at hv1 ⊢
      obtain ⟨a1, c1, rfl, hc1, hcm1, -⟩ := hv1.cells
      have HV1 := Lib.hid hv1
      have HE1 := Lib.hid (HE.out.below hb1)
      have HB1 := Lib.hid (below_next HB.out hb1)
      have HVV1 := Lib.hid (HV.out.below hb1)
      clear hv1 hb1 HE HB HV
      unfold maxLen at hcm1
      go_wp2_with fail
      refine (r_parse_is s _ _ HPE.out).mono ?_
      rintro e w2 ⟨v2, rfl, hv2, hb2⟩
      simp only at hv2 ⊢
      obtain ⟨a2, c2, rfl, hc2, hcm2, -⟩ := hv2.cells
      have HV2 := Lib.hid hv2
      have HV3 := Lib.hid (HV1.out.below hb2)
      have HE2 := Lib.hid (HE1.out.below hb2)
      have HB2 := Lib.hid (below_next HB1.out hb2)
      have HV := Lib.hid (HVV1.out.below hb2)
      clear hv2 hb2 HE1 HB1 HVV1 HV1
      unfold maxLen at hcm2
      have HE := HE2
      have HB := HB2
      clear HE2 HB2
      have enn : (n != n) = false := by simp
      have eee : (er != er) = false := by simp
      go_wp2_with fail
      clear enn eee
      refine (equal_any ps _ _ _ _ _ HV3.out HV2.out).mono ?_
      rintro e w' ⟨rfl, hb'⟩
      have hE' := HE.out.below hb'
      have hB' := below_next HB.out hb'
      have hV' := HV.out.below hb'
      clear HE HB HV
      have HE := Lib.hid hE'
      have HB := Lib.hid hB'
      have HV := Lib.hid hV'
      clear hb' hE' hB' hV'
      generalize w' = W at *
      clear HV2 HV3
      go_wp2_with fail
      refine (rules_any rs S _ _ HV.out h300).mono ?_
      rintro e w3 ⟨pv, rfl, hpv, hb3⟩
      have HPV := Lib.hid hpv
      obtain ⟨pa, pc, rfl, -, -, -⟩ := hpv.cells
      have hE3 := HE.out.below hb3
      have hB3 := below_next HB.out hb3
      have hV3 := HV.out.below hb3
      clear HE HB HV hpv hb3
      have HE := Lib.hid hE3
      have HB := Lib.hid hB3
      have HV := Lib.hid hV3
      clear hE3 hB3 hV3
      obtain ⟨pt, pe, hpr⟩ : ∃ pt pe, printE rs = (pt, pe) := ⟨_, _, rfl⟩
      have HPR := Lib.hid hpr
      clear hpr
      go_wp2_with fail
      refine (print_o rs _ _ _ _ HE.out HPV.out HP.out HPR.out).mono ?_
      rintro e w4 ⟨t, rfl, ht, hb4⟩
      simp only at ht ⊢
      have HT := Lib.hid ht
      have hB4 := below_next HB.out hb4
      have hV4 := HV.out.below hb4
      clear HE HB HV HPV hb4 ht
      have HB := Lib.hid hB4
      have HV := Lib.hid hV4
      clear hB4 hV4
      go_wp2_with fail
      go_loopw [13, 65] (fun u i wr => ∃ (k : Nat) (want : ByteArray), k ≤ rs.length ∧ u = .string want ∧ i = .int .i64 k ∧ Below w4.heap.size w4 wr ∧ bl want = printTx (rs.take k) ∧ want.size ≤ 516 * k ∧ AllOk rs k) (fun _ i _ => rs.length - (intOf i).toNat)
      case atStart => exact ⟨0, ⟨#[]⟩, Nat.zero_le _, rfl, rfl, Below.refl _ _, rfl, Nat.le_refl 0, fun j r hj => by omega⟩
      case round =>
        obtain ⟨k, want, hk, rfl, rfl, hbr, hw, hws, hok⟩ := hrel
        have HW := Lib.hid hw
        have HBR := Lib.hid hbr
        have HOK := Lib.hid hok
        clear hw hok
        by_cases hlt : k < rs.length
        · obtain ⟨r, hr⟩ : ∃ r, rs[k]? = some r := ⟨rs[k], by simp [hlt]⟩
          obtain ⟨_, _, hv', _, _, hcells⟩ := (HV.out.below hbr).cells
          cases hv'
          obtain ⟨b, o, rfl, c0, c1, c2, c3⟩ := hcells k r hr
          have HR := Lib.hid hr
          have HTK := Lib.hid (print_take hr)
          clear hr hcells hbr
          have hwb : Below wr.heap.size wr (wr.alloc (.cells #[.string ⟨r.pat.toArray⟩, .bool r.keep, .bool r.dir, .bool r.rooted] 30)) := (Below.refl _ _).alloc (Nat.le_refl _) _
          have HWB := Lib.hid hwb
          clear hwb
          rcases Nat.lt_or_ge 600 r.pat.length with h600 | h600
          · go_wp2_with fail
            go_ret
            exact ⟨rfl, below_next (below_next HB.out HBR.out) HWB.out⟩
          · have hpl : r.pat.length ≤ 65536 := by omega
            go_wp2_with fail
            cases hg : goodR r
            · have HG := Lib.hid hg
              clear hg
              have hbad := printE_bad (List.mem_of_getElem? HR.out) (good_not HG.out)
              rw [HPR.out] at hbad
              simp only [Prod.mk.injEq] at hbad
              obtain ⟨hb1, rfl⟩ := hbad
              have e0 : t.toList.isEmpty = true := by rw [toList_bl, HT.out, hb1]; rfl
              clear hb1
              refine (r_good_is r false _ hpl HG.out).mono ?_
              rintro e w5 ⟨rfl, hb5⟩
              have HB5 := Lib.hid (below_next HWB.out hb5)
              clear hb5
              go_wp2_with fail
              go_ret
              exact ⟨rfl, below_next (below_next HB.out HBR.out) HB5.out⟩
            · have HG := Lib.hid hg
              clear hg
              refine (r_good_is r true _ hpl HG.out).mono ?_
              rintro e w5 ⟨rfl, hb5⟩
              have hbox : w5.heap[wr.heap.size]? = some (.cells #[.string ⟨r.pat.toArray⟩, .bool r.keep, .bool r.dir, .bool r.rooted] 30 (0, 0)) := by
                rw [hb5.block _ (by simp)]; exact heap_alloc_new wr _
              have n0 : w5.cell? ⟨wr.heap.size, 0, none⟩ = some (.string ⟨r.pat.toArray⟩) := by rw [cell_of_heap hbox]; rfl
              have n1 : w5.cell? ⟨wr.heap.size, 1, none⟩ = some (.bool r.keep) := by rw [cell_of_heap hbox]; rfl
              have n2 : w5.cell? ⟨wr.heap.size, 2, none⟩ = some (.bool r.dir) := by rw [cell_of_heap hbox]; rfl
              have n3 : w5.cell? ⟨wr.heap.size, 3, none⟩ = some (.bool r.rooted) := by rw [cell_of_heap hbox]; rfl
              have HB5 := Lib.hid (below_next HWB.out hb5)
              clear hb5 hbox
              go_wp2_with fail
              refine (r_line_rule r _ hpl).mono ?_
              rintro e w6 ⟨lt, rfl, hlt6, hb6⟩
              have hsl : lt.size ≤ 515 := by rw [size_bl, hlt6]; exact line_small r (good_is HG.out).2
              have HL6 := Lib.hid hlt6
              have HB6 := Lib.hid (below_next HB5.out hb6)
              clear hb6 hlt6
              go_wp2_with fail
              go_roundw
              case rel =>
                refine ⟨k + 1, want ++ lt ++ ⟨#[10]⟩, by omega, rfl, by go_num, below_next HBR.out HB6.out, ?_, ?_, fun j q hj hq => ?_⟩
                · rw [bl_append, bl_append, HW.out, HL6.out, HTK.out, List.append_assoc]; rfl
                · rw [ByteArray.size_append, ByteArray.size_append, nl_size]; omega
                · rcases Nat.lt_or_ge j k with h | h
                  · exact HOK.out j q h hq
                  · obtain rfl : j = k := by omega
                    have := HR.out.symm.trans hq
                    cases this
                    exact (good_is HG.out).1
              case measure => simp [intOf]; omega
        · obtain rfl : k = rs.length := by omega
          have hpo := printE_ok HOK.out.all
          rw [HPR.out] at hpo
          have hw := HW.out
          rw [List.take_length] at hw
          clear hbr
          rcases Nat.lt_or_ge 256 rs.length with h256 | h256
          · rw [if_pos h256] at hpo
            simp only [Prod.mk.injEq] at hpo
            obtain ⟨h1, rfl⟩ := hpo
            have e0 : t.toList.isEmpty = true := by rw [toList_bl, HT.out, h1]; rfl
            clear h1 hw
            go_wp2_with fail
            go_ret
            exact ⟨rfl, below_next HB.out HBR.out⟩
          · rw [if_neg (by omega)] at hpo
            simp only [Prod.mk.injEq] at hpo
            obtain ⟨h1, rfl⟩ := hpo
            have e0 : (t.toList == want.toList) = true := by rw [toList_bl, toList_bl, HT.out, h1, hw]; simp
            clear h1 hw
            go_wp2_with fail
            go_ret
            exact ⟨rfl, below_next HB.out HBR.out⟩

end Go.Proofs.YtlipekkiaiaplaaDoor
