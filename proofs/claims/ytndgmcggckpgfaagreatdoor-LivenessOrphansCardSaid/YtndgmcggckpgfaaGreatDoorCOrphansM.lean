/- LivenessOrphans: for every input the law returns true, and each argument reads afterwards as it read before (the tied card). -/
import Derived.Test.YtndgmcggckpgfaaGreatDoorMG
/- The law LivenessOrphans: its walk. -/
namespace Go.Proofs.YtndgmcggckpgfaaGreatDoor
open Go.RowKit


theorem IntsAt.below {S : Nat → Prop} {w w' : World} {v : Value} {l : List Int} (h : IntsAt S w v l) (hb : Below w.heap.size w w') : IntsAt S w' v l := RowAt.below h (by omega) hb
theorem ints04_is (S T : Nat → Prop) (v u : Value) (rs ss : List Int) (b : Bool) (w : World) (hv : IntsAt S w v rs) (hu : IntsAt T w u ss) (h : decide (rs = ss) = b) :
    Calls Tryz.prog 21 #[v, u] w fun e w' => e = .returned (.bool b) ∧ Below w.heap.size w w' := by rw [← h]; exact ints04_any S T v u rs ss w hv hu
set_option maxRecDepth 100000 in
set_option maxHeartbeats 4000000 in
theorem orphans_walk (rv sv cv : Value) (refs roots : List Ref) (cs : List (ByteArray × List UInt8)) (name : ByteArray) (w : World) (he : Env w) (hrv : RefsAt (fun _ => True) w rv refs) (hs : SnapsAt (fun _ => True) w sv roots) (hc : ContIn (fun _ => True) w cv cs) :
    Calls Tryz.prog 5 #[rv, sv, cv, .string name] w fun e w' => e = .returned (.bool true) ∧ Below w.heap.size w w' := by
  obtain ⟨ra, rc, rfl, hrc, hrm, -⟩ := SeqAt.shape hrv RefR.len
  unfold maxLen at hrm
  have HRV := Lib.hid hrv
  clear hrv
  have HRK := Lib.hid hs.ok
  obtain ⟨sa, sc, rfl, hsc, hsm, -⟩ := SeqAt.shape hs SnapR.len
  have HSC := Lib.hid (And.intro hsc hsm)
  unfold maxLen at hsm
  obtain ⟨cm, rfl⟩ := cont_map hc
  have HL := Lib.hid (show LCtx w w (.slice sa roots.length sc) (.map cm) roots cs from ⟨he, hs, hc, Below.refl _ _⟩)
  clear he hs hc
  go_enter Tryz.func5, Tryz.ntmps5
  go_wp2_with fail
  have hb := (Below.refl w.heap.size w).alloc (Nat.le_refl _) (.cells #[.slice sa roots.length sc] 22)
  have HLq := Lib.hid (HL.out.next hb)
  clear HL
  have HL := HLq
  clear HLq
  have HQq := Lib.hid (show RefsAt _ _ _ _ from SeqAt.below HRV.out (by omega) hb (fun _ _ _ h => h))
  clear HRV
  have HRV := HQq
  clear HQq
  refine (few_any _ _ _ _ cs [roots.length] _ HL.out.cont (lens_one HSC.out.1 HSC.out.2)).mono ?_
  clear hb
  rintro e w1 ⟨fb, rfl, hb, hfew⟩
  have HLq := Lib.hid (HL.out.next hb)
  clear HL
  have HL := HLq
  clear HLq
  have HQq := Lib.hid (show RefsAt _ w1 _ _ from SeqAt.below HRV.out (by omega) hb (fun _ _ _ h => h))
  clear HRV
  have HRV := HQq
  clear HQq
  clear hb
  cases fb
  · clear hfew
    go_wp2_with fail
    refine (awake48_any _ HL.out.env).mono ?_
    rintro e wz ⟨rfl, hbz⟩
    have HLZ := Lib.hid (HL.out.next hbz)
    clear hbz
    go_wp2_with fail
    go_ret
    exact ⟨rfl, HLZ.out.below⟩
  · obtain ⟨h6, h80⟩ := hfew rfl
    have h6' : roots.length ≤ 6 := h6 _ (by simp)
    have HN := Lib.hid (needF_ok h80)
    have HRF := Lib.hid (refsOf_needF h80)
    clear hfew h6 h80
    by_cases h40 : 40 < refs.length
    · go_wp2_with fail
      refine (awake48_any _ HL.out.env).mono ?_
      rintro e wz ⟨rfl, hbz⟩
      have HLZ := Lib.hid (HL.out.next hbz)
      clear hbz
      go_wp2_with fail
      go_ret
      exact ⟨rfl, HLZ.out.below⟩
    · go_wp2_with fail
      refine (Orphans_any cs _ HN.out _ _ _ _ _ _ refs roots _ HRV.out HL.out.snaps HL.out.cont.at HL.out.env (by omega) (by omega)).mono ?_
      rintro e w2 ⟨hb, hres⟩
      have HLq := Lib.hid (HL.out.next hb)
      clear HL
      have HL := HLq
      clear HLq
      have HQq := Lib.hid (show RefsAt _ w2 _ _ from SeqAt.below HRV.out (by omega) hb (fun _ _ _ h => h))
      clear HRV
      have HRV := HQq
      clear HQq
      cases hea : eachP (needF cs) roots with
      | error x =>
        rw [hea] at hres
        obtain ⟨rfl, hx⟩ := hres
        have e1 : (x != 0) = true := by simp [hx]
        have HEA := Lib.hid hea
        clear hea hx hb
        go_wp2_with fail
        refine (Keepers_any cs _ HN.out _ _ _ _ roots name _ HL.out.snaps HL.out.cont.at HL.out.env (by omega)).mono ?_
        rintro e w3 ⟨hb, hres⟩
        have HLq := Lib.hid (HL.out.next hb)
        clear HL
        have HL := HLq
        clear HLq
        rw [HEA.out] at hres
        obtain ⟨rfl, -⟩ := hres
        clear hb
        go_wp2_with fail
        refine (each48_any cs _ HRF.out _ _ _ _ roots _ HL.out.snaps HL.out.cont.at HL.out.env (by omega)).mono ?_
        rintro e w4 ⟨hb, hres⟩
        have HLq := Lib.hid (HL.out.next hb)
        clear HL
        have HL := HLq
        clear HLq
        rw [HEA.out] at hres
        obtain ⟨rfl, -⟩ := hres
        clear hb
        go_wp2_with fail
        refine (awake48_any _ HL.out.env).mono ?_
        rintro e wz ⟨rfl, hbz⟩
        have HLZ := Lib.hid (HL.out.next hbz)
        clear hbz
        go_wp2_with fail
        go_ret
        exact ⟨rfl, HLZ.out.below⟩
      | ok ls =>
        rw [hea] at hres
        obtain ⟨ov, rfl, hov⟩ := hres
        have HEA := Lib.hid hea
        have HLS := Lib.hid (eachP_le HN.out HRK.out hea)
        have hul : ls.length ≤ 6 := by rw [eachP_len hea]; omega
        obtain ⟨gl, hgl⟩ : ∃ gl, gl = lessP refs (unionP ls) := ⟨_, rfl⟩
        have hov2 : RefsAt (w1.heap.size ≤ ·) w2 ov gl := by rw [hgl]; exact hov
        have HG := Lib.hid hov2
        obtain ⟨ga, gc, rfl, -, -, -⟩ := SeqAt.shape hov2 RefR.len
        have HGL := Lib.hid hgl
        clear hea hov hov2 hb hgl
        go_wp2_with fail
        refine (Keepers_any cs _ HN.out _ _ _ _ roots name _ HL.out.snaps HL.out.cont.at HL.out.env (by omega)).mono ?_
        rintro e w3 ⟨hb, hres⟩
        have HLq := Lib.hid (HL.out.next hb)
        clear HL
        have HL := HLq
        clear HLq
        have HQq := Lib.hid (show RefsAt _ w3 _ _ from SeqAt.below HRV.out (by omega) hb (fun _ _ _ h => h))
        clear HRV
        have HRV := HQq
        clear HQq
        have HQq := Lib.hid (show RefsAt _ w3 _ _ from SeqAt.below HG.out (by omega) hb (fun _ _ _ h => h))
        clear HG
        have HG := HQq
        clear HQq
        rw [HEA.out] at hres
        obtain ⟨kv, rfl, hkv⟩ := hres
        obtain ⟨kl, hkl⟩ : ∃ kl, kl = keepTo ls name ls.length := ⟨_, rfl⟩
        have hkv2 : IntsAt (w2.heap.size ≤ ·) w3 kv kl := by rw [hkl]; exact hkv
        have HK := Lib.hid hkv2
        obtain ⟨_, ka, kc, rfl, -, -, -⟩ := hkv2
        have HKL := Lib.hid hkl
        clear hb hkl hkv
        go_wp2_with fail
        refine (each48_any cs _ HRF.out _ _ _ _ roots _ HL.out.snaps HL.out.cont.at HL.out.env (by omega)).mono ?_
        rintro e w4 ⟨hb, hres⟩
        have HLq := Lib.hid (HL.out.next hb)
        clear HL
        have HL := HLq
        clear HLq
        have HQq := Lib.hid (show RefsAt _ w4 _ _ from SeqAt.below HRV.out (by omega) hb (fun _ _ _ h => h))
        clear HRV
        have HRV := HQq
        clear HQq
        have HQq := Lib.hid (show RefsAt _ w4 _ _ from SeqAt.below HG.out (by omega) hb (fun _ _ _ h => h))
        clear HG
        have HG := HQq
        clear HQq
        have HQq := Lib.hid (IntsAt.below HK.out hb)
        clear HK
        have HK := HQq
        clear HQq
        rw [HEA.out] at hres
        obtain ⟨va, rfl, hva⟩ := hres
        have HVA := Lib.hid hva
        obtain ⟨a1, c1, rfl, hac1, hac2, -⟩ := SeqAt.shape hva ListR.len
        unfold maxLen at hac2
        have HO0 := Lib.hid (World.ownsRow_lit (e := 3) (size := 1) (base := w4.heap.size) w4 #[] 0 (Nat.le_refl _) (Nat.zero_le _) (by simp))
        have HBA := Lib.hid ((Below.refl w4.heap.size w4).alloc (Nat.le_refl _) (.cells #[] 3))
        clear hb hva
        go_wp2_with fail
        go_loopw [15, 16] (fun o i wr => ∃ k : Nat, k ≤ ls.length ∧ i = .int .i64 k ∧ wr.ownsRow w4.heap.size 3 1 o (keepTo ls name k).length ((keepTo ls name k).map (Value.int .i64)) ∧ Below w4.heap.size w4 wr) (fun _ i _ => ls.length - (intOf i).toNat)
        case atStart => exact ⟨0, Nat.zero_le _, rfl, HO0.out, HBA.out⟩
        case round =>
          obtain ⟨k, hk, rfl, hown, hbr⟩ := hrel
          have HO := Lib.hid hown
          have HBR := Lib.hid hbr
          have hkl := keepTo_len ls name k
          obtain ⟨ao, co, rfl, hn2, hm2⟩ := owns_shape hown
          clear hown hbr
          by_cases hlt : k < ls.length
          · obtain ⟨l, hl⟩ : ∃ l, ls[k]? = some l := ⟨ls[k], by simp [hlt]⟩
            obtain ⟨b, o, ca, cc, rfl, q0, hrf⟩ := lists_at HVA.out HBR.out hl
            have HRL := Lib.hid hrf
            have HKT := Lib.hid (show keepTo ls name (k + 1) = keepTo ls name k ++ (if named l name then [(k : Int)] else []) by rw [keepTo, List.getD_eq_getElem?_getD, hl]; rfl)
            have hbz := HBR.out.size
            clear hl hrf
            cases hnm : named l name
            · have HNM := Lib.hid hnm
              have HKT2 := Lib.hid (show keepTo ls name (k + 1) = keepTo ls name k by rw [HKT.out, hnm]; simp)
              clear hnm
              go_wp2_with fail
              refine (named48_is _ _ l name false _ HRL.out HNM.out).mono ?_
              rintro e wn ⟨rfl, rfl⟩
              go_wp2_with fail
              go_roundw
              case rel => exact ⟨k + 1, by omega, by go_num, by rw [HKT2.out]; exact HO.out, HBR.out⟩
              case measure => simp [intOf]; omega
            · have HNM := Lib.hid hnm
              have HKT2 := Lib.hid (show keepTo ls name (k + 1) = keepTo ls name k ++ [(k : Int)] by rw [HKT.out, hnm]; rfl)
              clear hnm
              go_wp2_with fail
              refine (named48_is _ _ l name true _ HRL.out HNM.out).mono ?_
              rintro e wn ⟨rfl, rfl⟩
              go_wp2_with (at_builtin; go_must (refine wpList_app1 Tryz.appInts rfl _ _ rfl w4.heap.size (.slice ao (keepTo ls name k).length co) (keepTo ls name k).length ((keepTo ls name k).map (Value.int .i64)) rfl wr [.int .i64 (k : Int)] _ rfl rfl (by simp; rfl) HO.out (by omega) hbz ?_); intro v' wc hown' hgrow' _; have HB2 := Lib.hid (below_grown HBR.out HO.out hgrow' (Nat.le_refl _) hbz); have HO2 := Lib.hid (show wc.ownsRow w4.heap.size 3 1 v' (keepTo ls name (k + 1)).length ((keepTo ls name (k + 1)).map (Value.int .i64)) by rw [HKT2.out, List.length_append, List.map_append]; exact hown'); obtain ⟨ae, ce, rfl, -, -⟩ := owns_shape hown'; clear hown' hgrow')
              go_roundw
              case rel => exact ⟨k + 1, by omega, by go_num, HO2.out, HB2.out⟩
              case measure => simp [intOf]; omega
          · obtain rfl : k = ls.length := by omega
            have hb := HBR.out
            have HLq := Lib.hid (HL.out.next hb)
            clear HL
            have HL := HLq
            clear HLq
            have HQq := Lib.hid (show RefsAt _ wr _ _ from SeqAt.below HRV.out (by omega) hb (fun _ _ _ h => h))
            clear HRV
            have HRV := HQq
            clear HQq
            have HQq := Lib.hid (show RefsAt _ wr _ _ from SeqAt.below HG.out (by omega) hb (fun _ _ _ h => h))
            clear HG
            have HG := HQq
            clear HQq
            have HQq := Lib.hid (IntsAt.below HK.out hb)
            clear HK
            have HK := HQq
            clear HQq
            have HQq := Lib.hid (ListsAt.below HVA.out hb)
            clear HVA
            have HVA := HQq
            clear HQq
            have HKK := Lib.hid (show IntsAt (w4.heap.size ≤ ·) wr (.slice ao kl.length co) kl by rw [HKL.out]; exact (row_of_owns HO.out).weak (fun k hk => hk.1))
            have HEQ := Lib.hid (show (keepTo ls name ls.length).length = kl.length by rw [HKL.out])
            clear hb hkl
            rw [HEQ.out]
            go_wp2_with fail
            refine (awake48_any _ HL.out.env).mono ?_
            rintro e w5 ⟨rfl, hb⟩
            have HLq := Lib.hid (HL.out.next hb)
            clear HL
            have HL := HLq
            clear HLq
            have HQq := Lib.hid (show RefsAt _ w5 _ _ from SeqAt.below HRV.out (by omega) hb (fun _ _ _ h => h))
            clear HRV
            have HRV := HQq
            clear HQq
            have HQq := Lib.hid (show RefsAt _ w5 _ _ from SeqAt.below HG.out (by omega) hb (fun _ _ _ h => h))
            clear HG
            have HG := HQq
            clear HQq
            have HQq := Lib.hid (IntsAt.below HK.out hb)
            clear HK
            have HK := HQq
            clear HQq
            have HQq := Lib.hid (IntsAt.below HKK.out hb)
            clear HKK
            have HKK := HQq
            clear HQq
            have HQq := Lib.hid (ListsAt.below HVA.out hb)
            clear HVA
            have HVA := HQq
            clear HQq
            clear hb
            go_wp2_with fail
            refine (union48_any _ _ ls _ HVA.out (by omega) HLS.out).mono ?_
            rintro e w6 ⟨uv, rfl, huv, hb⟩
            have HLq := Lib.hid (HL.out.next hb)
            clear HL
            have HL := HLq
            clear HLq
            have HQq := Lib.hid (show RefsAt _ w6 _ _ from SeqAt.below HRV.out (by omega) hb (fun _ _ _ h => h))
            clear HRV
            have HRV := HQq
            clear HQq
            have HQq := Lib.hid (show RefsAt _ w6 _ _ from SeqAt.below HG.out (by omega) hb (fun _ _ _ h => h))
            clear HG
            have HG := HQq
            clear HQq
            have HQq := Lib.hid (IntsAt.below HK.out hb)
            clear HK
            have HK := HQq
            clear HQq
            have HQq := Lib.hid (IntsAt.below HKK.out hb)
            clear HKK
            have HKK := HQq
            clear HQq
            have HU := Lib.hid huv
            obtain ⟨ua, uc, rfl, -, -, -⟩ := SeqAt.shape huv RefR.len
            clear hb huv
            go_wp2_with fail
            refine (less48_any _ _ _ _ refs (unionP ls) _ HRV.out HU.out (by omega)).mono ?_
            rintro e w7 ⟨lv, rfl, hlv, hb⟩
            have HLq := Lib.hid (HL.out.next hb)
            clear HL
            have HL := HLq
            clear HLq
            have HQq := Lib.hid (show RefsAt _ w7 _ _ from SeqAt.below HG.out (by omega) hb (fun _ _ _ h => h))
            clear HG
            have HG := HQq
            clear HQq
            have HQq := Lib.hid (IntsAt.below HK.out hb)
            clear HK
            have HK := HQq
            clear HQq
            have HQq := Lib.hid (IntsAt.below HKK.out hb)
            clear HKK
            have HKK := HQq
            clear HQq
            have hlv2 : RefsAt (w6.heap.size ≤ ·) w7 lv gl := by rw [HGL.out]; exact hlv
            have HLV := Lib.hid hlv2
            obtain ⟨la, lc, rfl, -, -, -⟩ := SeqAt.shape hlv2 RefR.len
            clear hb hlv hlv2
            go_wp2_with fail
            refine (sameRefs_is _ _ _ _ gl gl true _ HG.out HLV.out (by simp)).mono ?_
            rintro e w8 ⟨rfl, hb⟩
            have HLq := Lib.hid (HL.out.next hb)
            clear HL
            have HL := HLq
            clear HLq
            have HQq := Lib.hid (IntsAt.below HK.out hb)
            clear HK
            have HK := HQq
            clear HQq
            have HQq := Lib.hid (IntsAt.below HKK.out hb)
            clear HKK
            have HKK := HQq
            clear HQq
            clear hb
            go_wp2_with fail
            refine (ints04_is _ _ _ _ kl kl true _ HK.out HKK.out (by simp)).mono ?_
            rintro e w9 ⟨rfl, hb⟩
            have HLq := Lib.hid (HL.out.next hb)
            clear HL
            have HL := HLq
            clear HLq
            clear hb
            go_wp2_with fail
            go_ret
            exact ⟨rfl, HL.out.below⟩

end Go.Proofs.YtndgmcggckpgfaaGreatDoor

/- LivenessOrphans: for every input the law returns true, and each argument reads afterwards as it read before (the tied card). -/
namespace Go.Proofs.YtndgmcggckpgfaaGreatDoor
open Go.ChangeShapes Go.WideShapes Go.ChangeAt Go.RowKit Go.Lib Go.Shelf
open Go.ChangeMaps (open_string shut_string)

namespace COrphans
set_option maxRecDepth 100000 in
theorem lifted (os : Os) (started : os.Started) (H : Type) (enc : TypeId × Value → H) :
    ReturnsInHanded {} Tryz.checked os 5 .any (fun w args => (Rows.livenessOrphansSpec.pre enc Tryz.prog Tryz.f5 [] false w args ∧ laidMetH Tryz.prog laidL w) ∧ sizedMet enc Tryz.prog Tryz.f5 (OpenSpec.ofChange Rows.livenessOrphansSpec) false w args)
      (Rows.livenessOrphansSpec.post enc Tryz.prog Tryz.f5 false true false false) := by
  refine handed (C := Tryz.checked) (X := fun w _ => laidMetH Tryz.prog laidL w) (fun _ _ _ hh h => h.of_heap hh) own started (by kernel_rfl) Tryz.func5
    (ChangeSpec.witness_shaped (enc := enc) (C := Tryz.checked) (os := os) (X := fun w _ => laidMetH Tryz.prog laidL w) false (World.laidAll Tryz.prog os laidL) #[.slice none 0 0, .slice none 0 0, .map none, .string ⟨#[]⟩] 8 (World.laidAll_os _ _ _)
      (World.shaped_of_ZipB (by kernel_rfl) (by kernel_rfl)) (by kernel_rfl) (by kernel_rfl) (by kernel_rfl)
      (by rw [MakeChecks.laidMetH_plain _ _ _ (by kernel_rfl)]; exact laidMet_laidAll _ (by kernel_rfl) (by kernel_rfl))) ?_
  intro W base args ds gs before hval0 hW _hWt hL hsh
  have hval : ∀ (j : Nat) t v, Tryz.f5.params[j]? = some t → args[j]? = some v → Value.okWide Tryz.prog W .any base t v := hval0
  have hW' := hW
  obtain ⟨p, q, hA0, hV, rfl, _, _⟩ := hW
  have hA : DataW.TrodAll enc Tryz.prog W 0 (fun _ => true) true Tryz.f5.params.toList args.toList ds p := hA0
  rw [Tryz.params5] at hA hval
  obtain ⟨rfl, rfl⟩ := trodVars_none hV
  simp only [List.append_nil] at hW'
  obtain ⟨v0, v1, v2, v3, d0, d1, d2, d3, p0, p1, p2, p3, rfl, rfl, rfl, h0, h1, h2, h3⟩ := trodAll_four hA
  obtain ⟨fs0, hfs0⟩ := open_refs (hval 0 26 v0 rfl rfl) h0
  obtain ⟨rs1, hrs1⟩ := open_snaps (hval 1 22 v1 rfl rfl) h1
  obtain ⟨cs2, hcs2⟩ := open_cont (hval 2 23 v2 rfl rfl) h2
  obtain ⟨s3, rfl, rfl, rfl, hw3⟩ := open_string Tryz.underlying9 (hval 3 9 v3 rfl rfl) h3
  have hlt0 : ∀ x ∈ p0, x.block < W.heap.size := fun x hx => by simpa using hW'.lt x (by simp [hx])
  have hlt1 : ∀ x ∈ p1, x.block < W.heap.size := fun x hx => by simpa using hW'.lt x (by simp [hx])
  have hlt2 : ∀ x ∈ p2, x.block < W.heap.size := fun x hx => by simpa using hW'.lt x (by simp [hx])
  refine (orphans_walk v0 v1 v2 fs0 rs1 cs2 s3 W (env_of hL hsh) hfs0 hrs1 hcs2).mono fun e W' ⟨he, hb⟩ => ?_
  subst he
  exact ⟨_, rfl, _, _, _, [], _, [], hW', trodAll_mk1 (shut_bool Tryz.underlying4 _), trodAll_mk4 (Below.trod laidOut (by kernel_rfl) (of_decide_eq_true (by kernel_rfl)) h0 hb hlt0) (Below.trod laidOut (by kernel_rfl) (of_decide_eq_true (by kernel_rfl)) h1 hb hlt1) (Below.trod laidOut (by kernel_rfl) (of_decide_eq_true (by kernel_rfl)) h2 hb hlt2) (shut_string Tryz.underlying9 hw3), rfl, hb.frame _, fun h => by cases h⟩
theorem holds : Rows.LivenessOrphansSaid :=
  OpenClaim.holds_of_wide 5 Tryz.f5 rfl rfl rfl rfl rfl rfl rfl ⟨rfl, rfl, rfl, rfl, rfl⟩ rfl rfl rfl rfl rfl (by kernel_rfl) Tryz.func5 (by kernel_rfl)
    (of_decide_eq_true (by kernel_rfl)) (by unfold Func.isWrapper; first | (rw [if_pos (by decide +kernel)]; kernel_rfl) | (rw [if_neg (by decide +kernel)]; exact ⟨rfl, rfl⟩))
    (fun os started H enc _ => lifted os started H enc)
theorem card_holds : Rows.LivenessOrphansCardSaid :=
  Claim7.holds_tied_plain_at .later [] [.data, .pinned] true (true, "8763d9110891523682653750762d1a7552683129e318fb1c4c0f53c8f9932086") false holds (fun _ h => by cases h) (by kernel_rfl) (fun _ h => by cases h) livenessOrphans_row_tie rfl ⟨rfl, rfl⟩ (by kernel_rfl) rfl
    (fun f fn hf hfn => by
      obtain rfl : f = 5 := Option.some.inj ((show Tryz.prog.funcNamed "kinkeep/kinkeeplaw48.LivenessOrphans" = some 5 by kernel_rfl).symm.trans hf) |>.symm
      obtain rfl : fn = Tryz.f5 := (Option.some.inj (Tryz.func5.symm.trans hfn)).symm
      exact ⟨by kernel_rfl, fun j t ht => by
        rw [Tryz.params5] at ht
        have hm : t ∈ [26, 22, 23, 9] := by simpa using Array.mem_of_getElem? ht
        have hall : ([26, 22, 23, 9].all fun u => !Tryz.prog.wantsStandIn u) = true := by kernel_rfl
        exact (show Tryz.prog.wantsStandIn t = false by simpa using List.all_eq_true.1 hall t hm)⟩)
    (by kernel_rfl)
#print axioms card_holds
end COrphans
theorem livenessOrphans_card : Rows.LivenessOrphansCardSaid := COrphans.card_holds
end Go.Proofs.YtndgmcggckpgfaaGreatDoor
