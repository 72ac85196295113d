/- Contracts of package pathname: Ignored. -/
import Derived.Test.YtlipekkiaiaplaaDoorRules
namespace Go.Proofs.YtlipekkiaiaplaaDoor
open Go.RowKit

def ignV (o : Bool × Int) : Value := .tuple #[.bool o.1, .int .i64 o.2]
theorem ignAt_drop {dir : Bool} {parts : List (List UInt8)} {n k : Nat} {us : List (PRule × List PComp)} {u : PRule × List PComp} (b : Bool) (h : us[k]? = some u) :
    ignAt dir parts n (us.drop k) b = ignAt dir parts n (us.drop (k + 1)) (if ruleHits dir u.1 u.2 parts n then !u.1.keep else b) := by
  obtain ⟨hk, rfl⟩ := List.getElem?_eq_some_iff.1 h
  rw [List.drop_eq_getElem_cons hk, ignAt]

def IgnRel (dir : Bool) (parts : List (List UInt8)) (us : List (PRule × List PComp)) (m : Nat) (ig : Bool) : Prop :=
  (ig = false → ignFrom dir parts us parts.length 1 = ignFrom dir parts us (parts.length - m) (m + 1)) ∧ (ig = true → ignFrom dir parts us parts.length 1 = true)
theorem hfrom {dir : Bool} {xs : List ByteArray} {us : List (PRule × List PComp)} {m : Nat} (h : IgnRel dir (xs.map bl) us m true) : ignFrom dir (xs.map bl) us xs.length 1 = true := by
  have := h.2 rfl
  rw [List.length_map] at this; exact this
theorem ruleHits_eq (dir : Bool) (r : PRule) (cs : List PComp) (parts : List (List UInt8)) (n : Nat) (d : Bool) (hd : (dir || decide (n < parts.length)) = d) : ruleHits dir r cs parts n = ((d || !r.dir) && matchS cs (if r.rooted then parts.take n else (parts.take n).drop (n - 1))) := by
  unfold ruleHits; rw [hd]

def IgnIn (dir : Bool) (parts : List (List UInt8)) (us : List (PRule × List PComp)) (m k : Nat) (b : Bool) : Prop :=
  ignAt dir parts (m + 1) us false = ignAt dir parts (m + 1) (us.drop k) b
theorem ign_miss {dir : Bool} {parts : List (List UInt8)} {us : List (PRule × List PComp)} {m k : Nat} {b : Bool} {r : PRule} {cs : List PComp} (h : IgnIn dir parts us m k b) (hu : us[k]? = some (r, cs)) (hh : ruleHits dir r cs parts (m + 1) = false) : IgnIn dir parts us m (k + 1) b := by
  unfold IgnIn at *
  rw [h, ignAt_drop b hu, hh]; rfl
theorem ign_hit {dir : Bool} {parts : List (List UInt8)} {us : List (PRule × List PComp)} {m k : Nat} {b : Bool} {r : PRule} {cs : List PComp} (h : IgnIn dir parts us m k b) (hu : us[k]? = some (r, cs)) (hh : ruleHits dir r cs parts (m + 1) = true) : IgnIn dir parts us m (k + 1) (!r.keep) := by
  unfold IgnIn at *
  rw [h, ignAt_drop b hu, hh]; rfl
set_option maxHeartbeats 4000000 in
theorem ignored_any (rs : List PRule) (S : Nat → Prop) (v : Value) (s : ByteArray) (dir : Bool) (w : World) (he : Env w) (hv : RulesAt S w v rs) (hp : ∀ r ∈ rs, r.pat.length ≤ 9223372036854775807) :
    Calls Tryd.prog 20 #[v, .string s, .bool dir] w fun e w' => e = .returned (ignV (ignoredE rs (bl s) dir)) ∧ Below w.heap.size w w' := by
  have HE := Lib.hid he
  have HV := Lib.hid hv
  have HP := Lib.hid hp
  obtain ⟨a, cap, rfl, hc, hcm, -⟩ := hv.cells
  clear he hv hp
  unfold maxLen at hcm
  go_enter Tryd.func20, Tryd.ntmps20
  go_wp2_with fail
  refine (split_calls s w HE.out).mono ?_
  rintro e w1 (⟨hval, tv, xs, rfl, hxs, htv, hb1⟩ | ⟨hval, rfl, hb1⟩)
  · obtain ⟨hx1, hx2⟩ := parts_size hval hxs
    obtain ⟨ta, tc, rfl, htc1, htc2, -⟩ := htv.shape
    have HB1 := Lib.hid hb1
    have HTV := Lib.hid htv
    have HXS := Lib.hid hxs
    have HVAL := Lib.hid hval
    have HX2 := Lib.hid hx2
    clear hb1 htv hxs hval hx2
    unfold maxLen at htc2
    by_cases h256 : rs.length ≤ 256
    · have hmk := run_made (P := Tryd.prog) (t := 69) (e := 62) (z := .slice none 0 0) rs.length [.slice none 0 0] Tryd.underlying69 (bytes := 24) (sz := 1) (by kernel_rfl) rfl rfl (by omega) (by omega) (by omega)
      go_wp2_with fail
      clear hmk
      go_loopw [37] (fun i wr => ∃ (k : Nat) (us : List (PRule × List PComp)), k ≤ rs.length ∧ i = .int .i64 k ∧ PatInv w1 w1.heap.size rs.length k (us.map Prod.snd) wr ∧ compileAll (rs.take k) = some us) (fun i _ => rs.length - (intOf i).toNat)
      case atStart =>
        refine ⟨0, [], Nat.zero_le _, rfl, ⟨⟨[], rfl, ?_⟩, (Below.refl _ _).alloc (Nat.le_refl _) _, by simp, rfl⟩, by simp [compileAll]⟩
        have := heap_alloc_new w1 (.cells (made [.slice none 0 0] rs.length) 62)
        simpa [made] using this
      case round =>
        obtain ⟨k, us, hk, rfl, hI, hcomp⟩ := hrel
        have HI := Lib.hid hI
        have HC := Lib.hid hcomp
        clear hI hcomp
        have hBW : Below w1.heap.size w1 wr := HI.out.below
        have HBW := Lib.hid hBW
        clear hBW
        by_cases hlt : k < rs.length
        · obtain ⟨r, hr⟩ : ∃ r, rs[k]? = some r := ⟨rs[k], by simp [hlt]⟩
          obtain ⟨_, _, hv', _, _, hcells⟩ := (RulesAt.below HV.out (below_next HB1.out HBW.out)).cells
          cases hv'
          obtain ⟨b, o, rfl, c0, c1, c2, c3⟩ := hcells k r hr
          have hrp := HP.out r (List.mem_of_getElem? hr)
          have HR := Lib.hid hr
          clear hr hcells
          have hwb : Below wr.heap.size wr (wr.alloc (.cells #[.string ⟨r.pat.toArray⟩, .bool r.keep, .bool r.dir, .bool r.rooted] 53)) := (Below.refl _ _).alloc (Nat.le_refl _) _
          have HWB := Lib.hid hwb
          clear hwb
          have hsn : compileAll (rs.take (k + 1)) = match compileS r with | none => none | some cs => some (us ++ [(r, cs)]) := by
            have e1 : rs.take (k + 1) = rs.take k ++ [r] := by rw [List.take_add_one]; simp [HR.out]
            rw [e1, compileAll_snoc, HC.out]; rfl
          have HSN := Lib.hid hsn
          clear hsn
          go_wp2_with fail
          have hE2 : Env (wr.alloc (.cells #[.string ⟨r.pat.toArray⟩, .bool r.keep, .bool r.dir, .bool r.rooted] 53)) := HE.out.below (below_next (below_next HB1.out HBW.out) HWB.out)
          cases hcs : compileS r with
          | none =>
            have HCS := Lib.hid hcs
            clear hcs
            refine (compile_rule r _ hE2 hrp).mono ?_
            rw [HCS.out]
            rintro e w3 ⟨rfl, hb3⟩
            have hb3' : Below wr.heap.size wr w3 := below_next HWB.out hb3
            have HB3 := Lib.hid hb3'
            clear hb3 hb3' hE2
            obtain ⟨d0, d1⟩ := (HI.out.grown HB3.out).cell hlt
            go_wp2_with fail
            go_ret2
            refine ⟨?_, below_next HB1.out ((HBW.out.trans (HB3.out.mono HBW.out.size)).setCell (by simp) _)⟩
            have hnone : compileAll rs = none := by
              rw [← List.take_append_drop (k + 1) rs]
              exact compileAll_none _ _ (by rw [HSN.out, HCS.out])
            rw [ignoredE, if_neg (by rw [HVAL.out]; simp; omega), hnone]; rfl
          | some cs =>
            have HCS := Lib.hid hcs
            clear hcs
            refine (compile_rule r _ hE2 hrp).mono ?_
            rw [HCS.out]
            rintro e w3 ⟨pv, rfl, hv3, hb3⟩
            have hb3' : Below wr.heap.size wr w3 := below_next HWB.out hb3
            have HB3 := Lib.hid hb3'
            have HI3 := Lib.hid (HI.out.grown hb3')
            have hcblt := HI.out.lt
            have HV3 := Lib.hid (CompsAt.move (T := (w1.heap.size < ·)) (w' := w3) hv3 (fun j hj h2 => ⟨by simp at h2; omega, rfl⟩))
            obtain ⟨av, cv, rfl, hnv, hmv, -⟩ := hv3.shape CompR.len
            clear hb3 hb3' hE2 hv3
            obtain ⟨d0, d1⟩ := HI3.out.cell hlt
            go_wp2_with fail
            go_roundw
            case rel =>
              refine ⟨k + 1, us ++ [(r, cs)], by omega, by go_num, ?_, by rw [HSN.out, HCS.out]⟩
              have := HI3.out.put hlt HV3.out
              simpa using this
            case measure => simp [intOf]; omega
        · obtain rfl : k = rs.length := by omega
          have hcomp : compileAll rs = some us := by rw [← HC.out, List.take_length]
          have HCA := Lib.hid hcomp
          clear hcomp
          have hul : us.length = rs.length := by have := HI.out.len; rw [List.length_map] at this; exact this
          have hparts : 0 < xs.length := by
            have := splitL_pos 47 (bl s); rw [← HXS.out, List.length_map] at this; omega
          have hfin : ignoredE rs (bl s) dir = (ignFrom dir (xs.map bl) us xs.length 1, 0) := by
            rw [ignoredE, if_neg (by rw [HVAL.out]; simp; omega), HCA.out, ← HXS.out, List.length_map]
          have HFIN := Lib.hid hfin
          clear hfin
          have HUL := Lib.hid hul
          clear hul
          go_wp2_with fail
          go_loopw [14, 15] (fun g n wr2 => ∃ (m : Nat) (ig : Bool), m ≤ xs.length ∧ g = .bool ig ∧ n = .int .i64 ((m : Int) + 1) ∧ PatInv w1 w1.heap.size rs.length rs.length (us.map Prod.snd) wr2 ∧
              IgnRel dir (xs.map bl) us m ig) (fun _ n _ => xs.length + 1 - (intOf n).toNat)
          case atStart => exact ⟨0, false, Nat.zero_le _, rfl, rfl, HI.out, fun _ => rfl, fun h => by cases h⟩
          case round =>
            clear HI HBW
            obtain ⟨m, ig, hm, rfl, rfl, hI2, hf⟩ := hrel
            have HI := Lib.hid hI2
            have HF := Lib.hid hf
            clear hI2 hf
            cases ig
            · by_cases hlt : m < xs.length
              · have e1 : decide ((m : Int) + 1 ≤ (xs.length : Int)) = true := by simp; omega
                have hstep : ignFrom dir (xs.map bl) us (xs.length - m) (m + 1) = if ignAt dir (xs.map bl) (m + 1) us false then true else ignFrom dir (xs.map bl) us (xs.length - (m + 1)) (m + 1 + 1) := by
                  rw [show xs.length - m = (xs.length - (m + 1)) + 1 by omega, ignFrom]
                have HSTEP := Lib.hid hstep
                clear hstep
                cases dir
                · by_cases hml : m + 1 < xs.length
                  · have hml2 : decide ((m : Int) + 1 < (xs.length : Int)) = true := by simp; omega
                    have HD := Lib.hid (show (false || decide (m + 1 < (xs.map bl).length)) = true by simp [hml])
                    go_wp2_with fail
                    go_loopw [14, 72] (fun g i wr3 => ∃ (k : Nat) (b : Bool), k ≤ rs.length ∧ g = .bool b ∧ i = .int .i64 k ∧ PatInv w1 w1.heap.size rs.length rs.length (us.map Prod.snd) wr3 ∧ IgnIn false (xs.map bl) us m k b) (fun _ i _ => rs.length - (intOf i).toNat)
                    case atStart => exact ⟨0, false, Nat.zero_le _, rfl, rfl, HI.out, rfl⟩
                    case round =>
                      clear HI
                      obtain ⟨k, b, hk, rfl, rfl, hI2, hin⟩ := hrel
                      have HI := Lib.hid hI2
                      have HIN := Lib.hid hin
                      clear hI2 hin
                      by_cases hkl : k < rs.length
                      · obtain ⟨r, hr⟩ : ∃ r, rs[k]? = some r := ⟨rs[k], by simp [hkl]⟩
                        obtain ⟨cs, hu⟩ : ∃ cs, us[k]? = some (r, cs) := by
                          have h1 := compileAll_fst HCA.out
                          have hk2 : k < us.length := by rw [HUL.out]; exact hkl
                          have h2 : (us.map Prod.fst)[k]? = some r := by rw [h1]; exact hr
                          rw [List.getElem?_map, List.getElem?_eq_getElem hk2] at h2
                          refine ⟨us[k].2, ?_⟩
                          rw [List.getElem?_eq_getElem hk2]
                          simp only [Option.map_some, Option.some.injEq] at h2
                          rw [← h2]
                        obtain ⟨hc1, hc2, -⟩ := patS_bounds (compileS_pat (compileAll_mem HCA.out _ (List.mem_of_getElem? hu)))
                        obtain ⟨pv, hpc, hpv⟩ := HI.out.get (i := k) (cs := cs) (by rw [List.getElem?_map, hu]; rfl)
                        obtain ⟨pa, pcap, rfl, -, -, -⟩ := hpv.shape CompR.len
                        have hbig : Below w.heap.size w wr := below_next HB1.out HI.out.below
                        obtain ⟨_, _, hv', _, _, hcells⟩ := (RulesAt.below HV.out hbig).cells
                        cases hv'
                        obtain ⟨b0, o0, rfl, c0, c1, c2, c3⟩ := hcells k r hr
                        have hst : StrsAt (fun _ => True) wr (.slice ta xs.length tc) xs := RowAt.weak (RowAt.below HTV.out (by omega) HI.out.below) (fun _ _ => trivial)
                        obtain ⟨tb, tof, rfl⟩ := strs_block hst hparts
                        have HST := Lib.hid hst
                        have HU := Lib.hid hu
                        have HC2 := Lib.hid hc2
                        have HPV := Lib.hid hpv
                        have HH := Lib.hid (ruleHits_eq false r cs (xs.map bl) (m + 1) true HD.out)
                        obtain ⟨rp, rk, rd, rr⟩ := r
                        simp only at c0 c1 c2 c3
                        clear hr hu hc2 hcells hbig hpv hst
                        have hwb : Below wr.heap.size wr (wr.alloc (.cells #[.string ⟨rp.toArray⟩, .bool rk, .bool rd, .bool rr] 53)) := (Below.refl _ _).alloc (Nat.le_refl _) _
                        have HWB := Lib.hid hwb
                        have hpc2 := hwb.cell (block_lt hpc)
                        rw [hpc] at hpc2
                        have HST2 := Lib.hid (show StrsAt (fun _ => True) (wr.alloc (.cells #[.string ⟨rp.toArray⟩, .bool rk, .bool rd, .bool rr] 53)) _ xs from RowAt.below HST.out (by omega) hwb)
                        clear hwb
                        have k4 : ∀ w4 : World, Below (wr.alloc (.cells #[.string ⟨rp.toArray⟩, .bool rk, .bool rd, .bool rr] 53)).heap.size (wr.alloc (.cells #[.string ⟨rp.toArray⟩, .bool rk, .bool rd, .bool rr] 53)) w4 → w4.cell? ⟨wr.heap.size, 1, none⟩ = some (.bool rk) := fun w4 hb4 => (hb4.cell (p := ⟨wr.heap.size, 1, none⟩) (by simp)).trans (by simp)
                        have K4 := Lib.hid k4
                        clear k4
                        cases rr
                        · cases hmb : matchS cs (((xs.take (m + 1)).drop m).map bl)
                          all_goals (
                            have HMB := Lib.hid hmb
                            clear hmb
                            cases rd
                            all_goals (
                              go_wp2_with (go_at_call 44; refine (matchesAll_any cs ((xs.take (m + 1)).drop m) (fun _ => True) _ _ _ (HPV.out.below HWB.out) (strs_drop HST2.out hlt 1 (by omega)) (by omega) (by simp; omega) (fun c hc => by have := HC2.out c hc; omega) (fun x hx => by have := HX2.out x (List.mem_of_mem_take (List.mem_of_mem_drop hx)); omega)).mono ?_; rintro e w4 ⟨rfl, hb4⟩; rw [HMB.out]; have c4 := K4.out _ hb4; have HB4 := Lib.hid hb4; clear hb4)
                              go_roundw
                              case rel => exact ⟨k + 1, _, by omega, rfl, by go_num, HI.out.grown (by first | exact below_next HWB.out HB4.out | exact HWB.out), by first | exact ign_miss HIN.out HU.out (HH.out.trans (by simp [← List.map_take, ← List.map_drop, HMB.out])) | exact ign_hit HIN.out HU.out (HH.out.trans (by simp [← List.map_take, ← List.map_drop, HMB.out]))⟩
                              case measure => simp [intOf]; omega))
                        · cases hmb : matchS cs ((xs.take (m + 1)).map bl)
                          all_goals (
                            have HMB := Lib.hid hmb
                            clear hmb
                            cases rd
                            all_goals (
                              go_wp2_with (go_at_call 44; refine (matchesAll_any cs (xs.take (m + 1)) (fun _ => True) _ _ _ (HPV.out.below HWB.out) (strs_take HST2.out (by omega)) (by omega) (by simp; omega) (fun c hc => by have := HC2.out c hc; omega) (fun x hx => by have := HX2.out x (List.mem_of_mem_take hx); omega)).mono ?_; rintro e w4 ⟨rfl, hb4⟩; rw [HMB.out]; have c4 := K4.out _ hb4; have HB4 := Lib.hid hb4; clear hb4)
                              go_roundw
                              case rel => exact ⟨k + 1, _, by omega, rfl, by go_num, HI.out.grown (by first | exact below_next HWB.out HB4.out | exact HWB.out), by first | exact ign_miss HIN.out HU.out (HH.out.trans (by simp [← List.map_take, HMB.out])) | exact ign_hit HIN.out HU.out (HH.out.trans (by simp [← List.map_take, HMB.out]))⟩
                              case measure => simp [intOf]; omega))
                      · obtain rfl : k = rs.length := by omega
                        have hat : ignAt false (xs.map bl) (m + 1) us false = b := by
                          have := HIN.out
                          unfold IgnIn at this
                          rw [this, ← HUL.out, List.drop_length]; rfl
                        have HAT := Lib.hid hat
                        clear hat
                        go_wp2_with fail
                        go_roundw
                        case rel =>
                          refine ⟨m + 1, b, by omega, rfl, by go_num, HI.out, fun hb => ?_, fun hb => ?_⟩
                          · have := HF.out.1 rfl
                            rw [this, List.length_map, HSTEP.out, HAT.out, hb]; rfl
                          · have := HF.out.1 rfl
                            rw [this, List.length_map, HSTEP.out, HAT.out, hb]; rfl
                        case measure => simp [intOf]; omega
                  · have hml2 : decide ((m : Int) + 1 < (xs.length : Int)) = false := by simp; omega
                    have HD := Lib.hid (show (false || decide (m + 1 < (xs.map bl).length)) = false by simp [hml])
                    go_wp2_with fail
                    go_loopw [14, 72] (fun g i wr3 => ∃ (k : Nat) (b : Bool), k ≤ rs.length ∧ g = .bool b ∧ i = .int .i64 k ∧ PatInv w1 w1.heap.size rs.length rs.length (us.map Prod.snd) wr3 ∧ IgnIn false (xs.map bl) us m k b) (fun _ i _ => rs.length - (intOf i).toNat)
                    case atStart => exact ⟨0, false, Nat.zero_le _, rfl, rfl, HI.out, rfl⟩
                    case round =>
                      clear HI
                      obtain ⟨k, b, hk, rfl, rfl, hI2, hin⟩ := hrel
                      have HI := Lib.hid hI2
                      have HIN := Lib.hid hin
                      clear hI2 hin
                      by_cases hkl : k < rs.length
                      · obtain ⟨r, hr⟩ : ∃ r, rs[k]? = some r := ⟨rs[k], by simp [hkl]⟩
                        obtain ⟨cs, hu⟩ : ∃ cs, us[k]? = some (r, cs) := by
                          have h1 := compileAll_fst HCA.out
                          have hk2 : k < us.length := by rw [HUL.out]; exact hkl
                          have h2 : (us.map Prod.fst)[k]? = some r := by rw [h1]; exact hr
                          rw [List.getElem?_map, List.getElem?_eq_getElem hk2] at h2
                          refine ⟨us[k].2, ?_⟩
                          rw [List.getElem?_eq_getElem hk2]
                          simp only [Option.map_some, Option.some.injEq] at h2
                          rw [← h2]
                        obtain ⟨hc1, hc2, -⟩ := patS_bounds (compileS_pat (compileAll_mem HCA.out _ (List.mem_of_getElem? hu)))
                        obtain ⟨pv, hpc, hpv⟩ := HI.out.get (i := k) (cs := cs) (by rw [List.getElem?_map, hu]; rfl)
                        obtain ⟨pa, pcap, rfl, -, -, -⟩ := hpv.shape CompR.len
                        have hbig : Below w.heap.size w wr := below_next HB1.out HI.out.below
                        obtain ⟨_, _, hv', _, _, hcells⟩ := (RulesAt.below HV.out hbig).cells
                        cases hv'
                        obtain ⟨b0, o0, rfl, c0, c1, c2, c3⟩ := hcells k r hr
                        have hst : StrsAt (fun _ => True) wr (.slice ta xs.length tc) xs := RowAt.weak (RowAt.below HTV.out (by omega) HI.out.below) (fun _ _ => trivial)
                        obtain ⟨tb, tof, rfl⟩ := strs_block hst hparts
                        have HST := Lib.hid hst
                        have HU := Lib.hid hu
                        have HC2 := Lib.hid hc2
                        have HPV := Lib.hid hpv
                        have HH := Lib.hid (ruleHits_eq false r cs (xs.map bl) (m + 1) false HD.out)
                        obtain ⟨rp, rk, rd, rr⟩ := r
                        simp only at c0 c1 c2 c3
                        clear hr hu hc2 hcells hbig hpv hst
                        have hwb : Below wr.heap.size wr (wr.alloc (.cells #[.string ⟨rp.toArray⟩, .bool rk, .bool rd, .bool rr] 53)) := (Below.refl _ _).alloc (Nat.le_refl _) _
                        have HWB := Lib.hid hwb
                        have hpc2 := hwb.cell (block_lt hpc)
                        rw [hpc] at hpc2
                        have HST2 := Lib.hid (show StrsAt (fun _ => True) (wr.alloc (.cells #[.string ⟨rp.toArray⟩, .bool rk, .bool rd, .bool rr] 53)) _ xs from RowAt.below HST.out (by omega) hwb)
                        clear hwb
                        have k4 : ∀ w4 : World, Below (wr.alloc (.cells #[.string ⟨rp.toArray⟩, .bool rk, .bool rd, .bool rr] 53)).heap.size (wr.alloc (.cells #[.string ⟨rp.toArray⟩, .bool rk, .bool rd, .bool rr] 53)) w4 → w4.cell? ⟨wr.heap.size, 1, none⟩ = some (.bool rk) := fun w4 hb4 => (hb4.cell (p := ⟨wr.heap.size, 1, none⟩) (by simp)).trans (by simp)
                        have K4 := Lib.hid k4
                        clear k4
                        cases rr
                        · cases hmb : matchS cs (((xs.take (m + 1)).drop m).map bl)
                          all_goals (
                            have HMB := Lib.hid hmb
                            clear hmb
                            cases rd
                            all_goals (
                              go_wp2_with (go_at_call 44; refine (matchesAll_any cs ((xs.take (m + 1)).drop m) (fun _ => True) _ _ _ (HPV.out.below HWB.out) (strs_drop HST2.out hlt 1 (by omega)) (by omega) (by simp; omega) (fun c hc => by have := HC2.out c hc; omega) (fun x hx => by have := HX2.out x (List.mem_of_mem_take (List.mem_of_mem_drop hx)); omega)).mono ?_; rintro e w4 ⟨rfl, hb4⟩; rw [HMB.out]; have c4 := K4.out _ hb4; have HB4 := Lib.hid hb4; clear hb4)
                              go_roundw
                              case rel => exact ⟨k + 1, _, by omega, rfl, by go_num, HI.out.grown (by first | exact below_next HWB.out HB4.out | exact HWB.out), by first | exact ign_miss HIN.out HU.out (HH.out.trans (by simp [← List.map_take, ← List.map_drop, HMB.out])) | exact ign_hit HIN.out HU.out (HH.out.trans (by simp [← List.map_take, ← List.map_drop, HMB.out]))⟩
                              case measure => simp [intOf]; omega))
                        · cases hmb : matchS cs ((xs.take (m + 1)).map bl)
                          all_goals (
                            have HMB := Lib.hid hmb
                            clear hmb
                            cases rd
                            all_goals (
                              go_wp2_with (go_at_call 44; refine (matchesAll_any cs (xs.take (m + 1)) (fun _ => True) _ _ _ (HPV.out.below HWB.out) (strs_take HST2.out (by omega)) (by omega) (by simp; omega) (fun c hc => by have := HC2.out c hc; omega) (fun x hx => by have := HX2.out x (List.mem_of_mem_take hx); omega)).mono ?_; rintro e w4 ⟨rfl, hb4⟩; rw [HMB.out]; have c4 := K4.out _ hb4; have HB4 := Lib.hid hb4; clear hb4)
                              go_roundw
                              case rel => exact ⟨k + 1, _, by omega, rfl, by go_num, HI.out.grown (by first | exact below_next HWB.out HB4.out | exact HWB.out), by first | exact ign_miss HIN.out HU.out (HH.out.trans (by simp [← List.map_take, HMB.out])) | exact ign_hit HIN.out HU.out (HH.out.trans (by simp [← List.map_take, HMB.out]))⟩
                              case measure => simp [intOf]; omega))
                      · obtain rfl : k = rs.length := by omega
                        have hat : ignAt false (xs.map bl) (m + 1) us false = b := by
                          have := HIN.out
                          unfold IgnIn at this
                          rw [this, ← HUL.out, List.drop_length]; rfl
                        have HAT := Lib.hid hat
                        clear hat
                        go_wp2_with fail
                        go_roundw
                        case rel =>
                          refine ⟨m + 1, b, by omega, rfl, by go_num, HI.out, fun hb => ?_, fun hb => ?_⟩
                          · have := HF.out.1 rfl
                            rw [this, List.length_map, HSTEP.out, HAT.out, hb]; rfl
                          · have := HF.out.1 rfl
                            rw [this, List.length_map, HSTEP.out, HAT.out, hb]; rfl
                        case measure => simp [intOf]; omega
                · have HD := Lib.hid (show (true || decide (m + 1 < (xs.map bl).length)) = true by simp)
                  go_wp2_with fail
                  go_loopw [14, 72] (fun g i wr3 => ∃ (k : Nat) (b : Bool), k ≤ rs.length ∧ g = .bool b ∧ i = .int .i64 k ∧ PatInv w1 w1.heap.size rs.length rs.length (us.map Prod.snd) wr3 ∧ IgnIn true (xs.map bl) us m k b) (fun _ i _ => rs.length - (intOf i).toNat)
                  case atStart => exact ⟨0, false, Nat.zero_le _, rfl, rfl, HI.out, rfl⟩
                  case round =>
                    clear HI
                    obtain ⟨k, b, hk, rfl, rfl, hI2, hin⟩ := hrel
                    have HI := Lib.hid hI2
                    have HIN := Lib.hid hin
                    clear hI2 hin
                    by_cases hkl : k < rs.length
                    · obtain ⟨r, hr⟩ : ∃ r, rs[k]? = some r := ⟨rs[k], by simp [hkl]⟩
                      obtain ⟨cs, hu⟩ : ∃ cs, us[k]? = some (r, cs) := by
                        have h1 := compileAll_fst HCA.out
                        have hk2 : k < us.length := by rw [HUL.out]; exact hkl
                        have h2 : (us.map Prod.fst)[k]? = some r := by rw [h1]; exact hr
                        rw [List.getElem?_map, List.getElem?_eq_getElem hk2] at h2
                        refine ⟨us[k].2, ?_⟩
                        rw [List.getElem?_eq_getElem hk2]
                        simp only [Option.map_some, Option.some.injEq] at h2
                        rw [← h2]
                      obtain ⟨hc1, hc2, -⟩ := patS_bounds (compileS_pat (compileAll_mem HCA.out _ (List.mem_of_getElem? hu)))
                      obtain ⟨pv, hpc, hpv⟩ := HI.out.get (i := k) (cs := cs) (by rw [List.getElem?_map, hu]; rfl)
                      obtain ⟨pa, pcap, rfl, -, -, -⟩ := hpv.shape CompR.len
                      have hbig : Below w.heap.size w wr := below_next HB1.out HI.out.below
                      obtain ⟨_, _, hv', _, _, hcells⟩ := (RulesAt.below HV.out hbig).cells
                      cases hv'
                      obtain ⟨b0, o0, rfl, c0, c1, c2, c3⟩ := hcells k r hr
                      have hst : StrsAt (fun _ => True) wr (.slice ta xs.length tc) xs := RowAt.weak (RowAt.below HTV.out (by omega) HI.out.below) (fun _ _ => trivial)
                      obtain ⟨tb, tof, rfl⟩ := strs_block hst hparts
                      have HST := Lib.hid hst
                      have HU := Lib.hid hu
                      have HC2 := Lib.hid hc2
                      have HPV := Lib.hid hpv
                      have HH := Lib.hid (ruleHits_eq true r cs (xs.map bl) (m + 1) true HD.out)
                      obtain ⟨rp, rk, rd, rr⟩ := r
                      simp only at c0 c1 c2 c3
                      clear hr hu hc2 hcells hbig hpv hst
                      have hwb : Below wr.heap.size wr (wr.alloc (.cells #[.string ⟨rp.toArray⟩, .bool rk, .bool rd, .bool rr] 53)) := (Below.refl _ _).alloc (Nat.le_refl _) _
                      have HWB := Lib.hid hwb
                      have hpc2 := hwb.cell (block_lt hpc)
                      rw [hpc] at hpc2
                      have HST2 := Lib.hid (show StrsAt (fun _ => True) (wr.alloc (.cells #[.string ⟨rp.toArray⟩, .bool rk, .bool rd, .bool rr] 53)) _ xs from RowAt.below HST.out (by omega) hwb)
                      clear hwb
                      have k4 : ∀ w4 : World, Below (wr.alloc (.cells #[.string ⟨rp.toArray⟩, .bool rk, .bool rd, .bool rr] 53)).heap.size (wr.alloc (.cells #[.string ⟨rp.toArray⟩, .bool rk, .bool rd, .bool rr] 53)) w4 → w4.cell? ⟨wr.heap.size, 1, none⟩ = some (.bool rk) := fun w4 hb4 => (hb4.cell (p := ⟨wr.heap.size, 1, none⟩) (by simp)).trans (by simp)
                      have K4 := Lib.hid k4
                      clear k4
                      cases rr
                      · cases hmb : matchS cs (((xs.take (m + 1)).drop m).map bl)
                        all_goals (
                          have HMB := Lib.hid hmb
                          clear hmb
                          cases rd
                          all_goals (
                            go_wp2_with (go_at_call 44; refine (matchesAll_any cs ((xs.take (m + 1)).drop m) (fun _ => True) _ _ _ (HPV.out.below HWB.out) (strs_drop HST2.out hlt 1 (by omega)) (by omega) (by simp; omega) (fun c hc => by have := HC2.out c hc; omega) (fun x hx => by have := HX2.out x (List.mem_of_mem_take (List.mem_of_mem_drop hx)); omega)).mono ?_; rintro e w4 ⟨rfl, hb4⟩; rw [HMB.out]; have c4 := K4.out _ hb4; have HB4 := Lib.hid hb4; clear hb4)
                            go_roundw
                            case rel => exact ⟨k + 1, _, by omega, rfl, by go_num, HI.out.grown (by first | exact below_next HWB.out HB4.out | exact HWB.out), by first | exact ign_miss HIN.out HU.out (HH.out.trans (by simp [← List.map_take, ← List.map_drop, HMB.out])) | exact ign_hit HIN.out HU.out (HH.out.trans (by simp [← List.map_take, ← List.map_drop, HMB.out]))⟩
                            case measure => simp [intOf]; omega))
                      · cases hmb : matchS cs ((xs.take (m + 1)).map bl)
                        all_goals (
                          have HMB := Lib.hid hmb
                          clear hmb
                          cases rd
                          all_goals (
                            go_wp2_with (go_at_call 44; refine (matchesAll_any cs (xs.take (m + 1)) (fun _ => True) _ _ _ (HPV.out.below HWB.out) (strs_take HST2.out (by omega)) (by omega) (by simp; omega) (fun c hc => by have := HC2.out c hc; omega) (fun x hx => by have := HX2.out x (List.mem_of_mem_take hx); omega)).mono ?_; rintro e w4 ⟨rfl, hb4⟩; rw [HMB.out]; have c4 := K4.out _ hb4; have HB4 := Lib.hid hb4; clear hb4)
                            go_roundw
                            case rel => exact ⟨k + 1, _, by omega, rfl, by go_num, HI.out.grown (by first | exact below_next HWB.out HB4.out | exact HWB.out), by first | exact ign_miss HIN.out HU.out (HH.out.trans (by simp [← List.map_take, HMB.out])) | exact ign_hit HIN.out HU.out (HH.out.trans (by simp [← List.map_take, HMB.out]))⟩
                            case measure => simp [intOf]; omega))
                    · obtain rfl : k = rs.length := by omega
                      have hat : ignAt true (xs.map bl) (m + 1) us false = b := by
                        have := HIN.out
                        unfold IgnIn at this
                        rw [this, ← HUL.out, List.drop_length]; rfl
                      have HAT := Lib.hid hat
                      clear hat
                      go_wp2_with fail
                      go_roundw
                      case rel =>
                        refine ⟨m + 1, b, by omega, rfl, by go_num, HI.out, fun hb => ?_, fun hb => ?_⟩
                        · have := HF.out.1 rfl
                          rw [this, List.length_map, HSTEP.out, HAT.out, hb]; rfl
                        · have := HF.out.1 rfl
                          rw [this, List.length_map, HSTEP.out, HAT.out, hb]; rfl
                      case measure => simp [intOf]; omega
              · have e1 : decide ((m : Int) + 1 ≤ (xs.length : Int)) = false := by simp; omega
                go_wp2_with fail
                go_ret2
                refine ⟨?_, below_next HB1.out HI.out.below⟩
                have := HF.out.1 rfl
                rw [List.length_map, show xs.length - m = 0 by omega] at this
                rw [HFIN.out, this]; rfl
            · by_cases hlt : m < xs.length
              · have e1 : decide ((m : Int) + 1 ≤ (xs.length : Int)) = true := by simp; omega
                go_wp2_with fail
                go_ret2
                exact ⟨by rw [HFIN.out, hfrom HF.out]; rfl, below_next HB1.out HI.out.below⟩
              · have e1 : decide ((m : Int) + 1 ≤ (xs.length : Int)) = false := by simp; omega
                go_wp2_with fail
                go_ret2
                exact ⟨by rw [HFIN.out, hfrom HF.out]; rfl, below_next HB1.out HI.out.below⟩
    · have h256' : 256 < rs.length := by omega
      go_wp2_with fail
      go_ret2
      exact ⟨by rw [ignoredE, if_pos (.inr h256')]; rfl, HB1.out⟩
  · have HB1 := Lib.hid hb1
    have HVAL := Lib.hid hval
    clear hb1 hval
    go_wp2_with fail
    go_ret2
    exact ⟨by rw [ignoredE, if_pos (.inl HVAL.out)]; rfl, HB1.out⟩

end Go.Proofs.YtlipekkiaiaplaaDoor
