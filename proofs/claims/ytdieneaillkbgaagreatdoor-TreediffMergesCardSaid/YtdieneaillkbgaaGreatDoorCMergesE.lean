/- Texts of this proof, one after the other: TdM, DifT. -/
import Derived.Test.YtdieneaillkbgaaGreatDoorCMergesD
/- Contracts of package treediff: Apply. -/
namespace Go.Proofs.YtdieneaillkbgaaGreatDoor
open Go.RowKit Go.Maps
set_option maxRecDepth 100000 in
set_option maxHeartbeats 4000000 in
theorem apply_any (S T : Nat → Prop) (a : List Ent) (cs : List Chg) (va vl : Value) (w : World) (ha : EntsAt S w va a) (hl : ChgsAt T w vl cs) (hlen : a.length + cs.length ≤ 4096) (henv : Env w) :
  Calls Tryz.prog 30 #[va, vl] w (AppRes a cs w) := by
 have HA := Lib.hid (ents_old ha)
 have HL := Lib.hid (chgs_old hl)
 have HE := Lib.hid henv
 obtain ⟨al, cl, rfl, hc, hm⟩ := chgs_shape hl
 obtain ⟨n, hn⟩ : ∃ n, n = cs.length := ⟨_, rfl⟩
 rw [← hn] at hc HL hl ⊢
 have HN := Lib.hid hn
 have HLEN := Lib.hid (show a.length + cs.length ≤ 4096 from hlen)
 unfold maxLen at hm
 have hck := checkC_any S T a cs va (.slice al n cl) w ha hl henv
 obtain ⟨x, hx⟩ : ∃ x, x = chkC a cs := ⟨_, rfl⟩
 rw [← hx] at hck
 have HCX := Lib.hid hx
 clear ha hl henv hn hlen hx
 by_cases h0 : x = 0
 ·subst h0
  have HOKS := Lib.hid (chk_ok HCX.out.symm)
  have HTA := Lib.hid (checkP_iff.1 HOKS.out.1)
  go_enter Tryz.func30, Tryz.ntmps30
  go_wp2_with fail
  refine hck.mono ?_
  rintro e w1 ⟨rfl, hb1⟩
  have HB1 := Lib.hid hb1
  clear hb1 hck
  go_wp2_with fail
  refine (byPath_any (Old w) a _ w1 (HA.out.below HB1.out) HTA.out.nodup HTA.out.len).mono ?_
  rintro e w2 ⟨rfl, hm2, hb2⟩
  have HM2 := Lib.hid (hm2.mono (S' := Old w) (fun k hk => hk.1) (old_new HB1.out.size))
  have HB2 := Lib.hid (below_next HB1.out hb2)
  have HS2 := Lib.hid (show w1.heap.size < w2.heap.size from hm2.lt)
  clear hm2 hb2
  go_wp2_with fail
  obtain ⟨lb, hlb⟩ : ∃ lb, lb = w1.heap.size := ⟨_, rfl⟩
  obtain ⟨bx, hbx⟩ : ∃ bx, bx = w2.heap.size := ⟨_, rfl⟩
  obtain ⟨w3, hw3⟩ : ∃ w3, w3 = w2.alloc (.cells #[.map (some w1.heap.size)] 75) := ⟨_, rfl⟩
  rw [← hw3]
  have HBX3 := Lib.hid (show w3.heap[bx]? = some (.cells #[.map (some lb)] 75 (0, 0)) by rw [hw3, hbx, hlb]; exact new20 w2 _)
  have HD3 := Lib.hid (show Below w2.heap.size w2 w3 by rw [hw3]; exact (Below.refl _ _).alloc (Nat.le_refl _) _)
  have HZ3 := Lib.hid (show w3.heap.size = bx + 1 by rw [hw3, hbx]; simp)
  rw [← hlb] at HM2
  have HLB := Lib.hid (show w.heap.size ≤ lb ∧ lb < bx by have h1 := HB1.out.size; have h2 := HS2.out; omega)
  rw [← hbx]
  clear hw3 hlb hbx
  refine (byPath_any (Old w) a _ w3 (HA.out.below (below_next HB2.out HD3.out)) HTA.out.nodup HTA.out.len).mono ?_
  rintro e w4 ⟨rfl, hm4, hb4⟩
  obtain ⟨ob, hob⟩ : ∃ ob, ob = w3.heap.size := ⟨_, rfl⟩
  rw [← hob] at hm4 ⊢
  have HOB := Lib.hid (show bx < ob by have := HZ3.out; omega)
  have HAP := Lib.hid (show Apart3 w bx lb ob from ⟨by have := HLB.out; omega, HLB.out.1, by have := HLB.out; have := HOB.out; omega, by have := HLB.out; omega, by have := HLB.out; have := HOB.out; omega, by have := HOB.out; omega⟩)
  have HL4 := Lib.hid (show LoopA1 a w bx lb ob a w4 from ⟨(hb4.block bx (lt20 HBX3.out)).trans HBX3.out, (HM2.out.below HD3.out).below hb4, hm4.mono (S' := Old w) (fun k hk => hk.1) (old_new HAP.out.b3), below_next (below_next HB2.out HD3.out) hb4⟩)
  clear hm4 hb4 hob HM2 HB2 HS2 HBX3 HD3 HZ3 HB1
  go_wp2_with fail
  go_loopw [35] (fun i wr => ∃ (k : Nat) (L : List Ent), k ≤ n ∧ i = .int .i64 k ∧ takeP a a (cs.take k) = some L ∧ LoopA1 a w bx lb ob L wr) (fun i _ => n - (intOf i).toNat)
  case atStart => exact ⟨0, a, Nat.zero_le _, rfl, rfl, HL4.out⟩
  case round =>
   obtain ⟨k, L, hk, rfl, htk, hlp⟩ := hrel
   have HTK := Lib.hid htk
   have HLP := Lib.hid hlp
   clear htk hlp
   by_cases hlt : k < n
   ·obtain ⟨c, hcc⟩ : ∃ c, cs[k]? = some c := ⟨cs[k]'(by rw [← HN.out]; exact hlt), by simp⟩
    have HCV := Lib.hid (HOKS.out.2 c (List.mem_of_getElem? hcc))
    obtain ⟨b, o, dv, rfl, hb, hd, hok, hq⟩ := chgs_at (HL.out.below HLP.out.bel) hcc
    have HAT := Lib.hid hcc
    have HD := Lib.hid hd
    have HOK := Lib.hid hok
    obtain ⟨a1, cap1, rfl, hd1, hd2⟩ := hd.slice
    unfold maxLen at hd2
    have c0 := (hq 0 (by omega)).trans rfl
    have c1 := (hq 1 (by omega)).trans rfl
    have c2 := (hq 2 (by omega)).trans rfl
    have c3 := (hq 3 (by omega)).trans rfl
    have c4 := (hq 4 (by omega)).trans rfl
    have c5 := (hq 5 (by omega)).trans rfl
    have c6 := (hq 6 (by omega)).trans rfl
    have c7 := (hq 7 (by omega)).trans rfl
    have c8 := (hq 8 (by omega)).trans rfl
    simp only [chgC, List.getElem?_cons_succ, List.getElem?_cons_zero, Nat.add_zero] at c0 c1 c2 c3 c4 c5 c6 c7 c8
    clear hcc hd hok hq
    go_upto_region 10 with (fail)
    obtain ⟨W, hW⟩ : ∃ W : World, W = wr.alloc (.cells #[.int .i64 c.kind, .string c.path, .string c.src, .string c.en.path, .int .i64 c.en.kind, .int .i64 c.en.mode, .int .i64 c.en.time, .slice a1 c.en.data.length cap1, .string c.en.link] 58) := ⟨_, rfl⟩
    rw [← hW]
    have HW := Lib.hid (show Below wr.heap.size wr W by rw [hW]; exact (Below.refl _ _).alloc (Nat.le_refl _) _)
    have HX := Lib.hid (show W.heap[wr.heap.size]? = some (.cells #[.int .i64 c.kind, .string c.path, .string c.src, .string c.en.path, .int .i64 c.en.kind, .int .i64 c.en.mode, .int .i64 c.en.time, .slice a1 c.en.data.length cap1, .string c.en.link] 58 (0, 0)) by rw [hW]; exact new20 wr _)
    have HEQ := Lib.hid hW.symm
    clear hW c0 c1 c2 c3 c4 c5 c6 c7 c8
    have c0 := cell20 (k := 0) HX.out
    have c1 := cell20 (k := 1) HX.out
    have c2 := cell20 (k := 2) HX.out
    have c3 := cell20 (k := 3) HX.out
    have c4 := cell20 (k := 4) HX.out
    have c5 := cell20 (k := 5) HX.out
    have c6 := cell20 (k := 6) HX.out
    have c7 := cell20 (k := 7) HX.out
    have c8 := cell20 (k := 8) HX.out
    have hltX := lt20 HX.out
    simp only [List.getElem?_toArray, List.getElem?_cons_succ, List.getElem?_cons_zero] at c0 c1 c2 c3 c4 c5 c6 c7 c8
    have HLW := Lib.hid (HLP.out.below HW.out)
    have hcB := cell20 (k := 0) HLW.out.box
    simp only [List.getElem?_toArray, List.getElem?_cons_zero] at hcB
    by_cases h1 : c.kind = 1
    ·have hC := takeC_any (Old w) bx lb (findE L) c.path _ HLW.out.lft (cell20 (k := 0) HLW.out.box) HOK.out.pth
     cases hh : hasE L c.path with
     | false =>
      have HF := Lib.hid (app_take HCX.out.symm (take_fail HTK.out HAT.out (by rw [take1 h1, hh]; rfl)))
      rw [show (findE L c.path).isSome = false from hh] at hC
      clear hh
      go_wp2_with fail
      refine hC.mono ?_
      rintro e w5 ⟨rfl, hm5, hg5⟩
      have HL5 := Lib.hid (HLW.out.take HAP.out hm5 hg5)
      clear hm5 hg5 hC
      go_wp2_with fail
      go_ret2
      exact app_err HF.out HL5.out.bel
     | true =>
      have HSTEP := Lib.hid (show takeP a L [c] = some (dropE L c.path) by rw [take1 h1, hh]; rfl)
      rw [show (findE L c.path).isSome = true from hh] at hC
      clear hh
      go_wp2_with fail
      refine hC.mono ?_
      rintro e w5 ⟨rfl, hm5, hg5⟩
      have HL5 := Lib.hid (HLW.out.take HAP.out hm5 hg5)
      clear hm5 hg5 hC
      go_wp2_with fail
      go_roundw
      case rel => exact ⟨k + 1, _, by omega, by go_num, by rw [take_step HTK.out HAT.out, HSTEP.out], HL5.out⟩
      case measure => simp [intOf]; omega
    ·by_cases h2 : c.kind = 2
     ·skip
      obtain ⟨ao, co, hlk, hdo, hoo, hco⟩ := HLW.out.org.ask1 mapTy (zeroE_run W) HOK.out.src
      obtain ⟨f, hf⟩ : ∃ f, f = enOr (findE a c.src) := ⟨_, rfl⟩
      rw [← hf] at hlk hdo hoo
      have HF := Lib.hid hf
      have HDO := Lib.hid hdo
      unfold maxLen at hco
      clear hf hdo hoo
      go_upto_region 16 with (fail)
      obtain ⟨W2, hW2⟩ : ∃ Z : World, Z = (W).alloc (.cells #[.string f.path, .int .i64 f.kind, .int .i64 f.mode, .int .i64 f.time, .slice ao f.data.length co, .string f.link] 48) := ⟨_, rfl⟩
      rw [← hW2]
      have hb2 : Below (W).heap.size W W2 := by rw [hW2]; exact (Below.refl _ _).alloc (Nat.le_refl _) _
      have HW2 := Lib.hid (below_next HW.out hb2)
      have HX2 := Lib.hid ((hb2.block wr.heap.size (lt20 HX.out)).trans HX.out)
      have HO2 := Lib.hid (show (W2).heap[(W).heap.size]? = some (.cells #[.string f.path, .int .i64 f.kind, .int .i64 f.mode, .int .i64 f.time, .slice ao f.data.length co, .string f.link] 48 (0, 0)) by rw [hW2]; exact new20 _ _)
      have HZ2 := Lib.hid hb2
      clear hW2 hb2 c0 c1 c2 c3 c4 c5 c6 c7 c8 hltX hlk
      have HL2 := Lib.hid (HLP.out.below HW2.out)
      have hcB := cell20 (k := 0) HL2.out.box
      simp only [List.getElem?_toArray, List.getElem?_cons_zero] at hcB
      have hC := takeC_any (Old w) bx lb (findE L) c.src _ HL2.out.lft (cell20 (k := 0) HL2.out.box) HOK.out.src
      have c0 := cell20 (k := 0) HX2.out
      have c1 := cell20 (k := 1) HX2.out
      have c2 := cell20 (k := 2) HX2.out
      have c3 := cell20 (k := 3) HX2.out
      have c4 := cell20 (k := 4) HX2.out
      have c5 := cell20 (k := 5) HX2.out
      have c6 := cell20 (k := 6) HX2.out
      have c7 := cell20 (k := 7) HX2.out
      have c8 := cell20 (k := 8) HX2.out
      have hltX := lt20 HX2.out
      simp only [List.getElem?_toArray, List.getElem?_cons_succ, List.getElem?_cons_zero] at c0 c1 c2 c3 c4 c5 c6 c7 c8
      cases hh : hasE L c.src with
      | false =>
       have HFL := Lib.hid (app_take HCX.out.symm (take_fail HTK.out HAT.out (by rw [take2 h2, hh]; rfl)))
       rw [show (findE L c.src).isSome = false from hh] at hC
       clear hh
       go_wp2_with fail
       refine hC.mono ?_
       rintro e w5 ⟨rfl, hm5, hg5⟩
       have HL5 := Lib.hid (HL2.out.take HAP.out hm5 hg5)
       clear hm5 hg5 hC
       go_wp2_with fail
       go_ret2
       exact app_err HFL.out HL5.out.bel
      | true =>
       obtain ⟨g, hg⟩ := has_sub (takeP_sub HTK.out) hh
       have HFG := Lib.hid (show f = g by rw [HF.out, hg]; rfl)
       have HAL := Lib.hid (show alikeAt a c.src c.en = alikeE f c.en by unfold alikeAt; rw [hg, HFG.out])
       rw [show (findE L c.src).isSome = true from hh] at hC
       have HHH := Lib.hid hh
       clear hh hg
       have hlbl := HLP.out.lft.lt
       have HWL := Lib.hid (show wr.heap.size ≤ W.heap.size from HW.out.size)
       go_wp2_with fail
       refine hC.mono ?_
       rintro e w5 ⟨rfl, hm5, hg5⟩
       have HL5 := Lib.hid (HL2.out.take HAP.out hm5 hg5)
       have HX5 := Lib.hid ((hg5.block _ (lt20 HX2.out) (fun e => by have := Option.some.inj e; omega)).trans HX2.out)
       have HO5 := Lib.hid ((hg5.block _ (lt20 HO2.out) (fun e => by have h1 := Option.some.inj e; have h2 := HWL.out; omega)).trans HO2.out)
       have HD5 := Lib.hid (data_grown (HDO.out.below HZ2.out) (old_new HAP.out.b2) hg5)
       have HE5 := Lib.hid (data_grown (HD.out.below HW2.out) (old_new HAP.out.b2) hg5)
       clear hm5 hg5 hC c0 c1 c2 c3 c4 c5 c6 c7 c8 hltX hlbl
       have c0 := cell20 (k := 0) HX5.out
       have c1 := cell20 (k := 1) HX5.out
       have c2 := cell20 (k := 2) HX5.out
       have c3 := cell20 (k := 3) HX5.out
       have c4 := cell20 (k := 4) HX5.out
       have c5 := cell20 (k := 5) HX5.out
       have c6 := cell20 (k := 6) HX5.out
       have c7 := cell20 (k := 7) HX5.out
       have c8 := cell20 (k := 8) HX5.out
       have hltX := lt20 HX5.out
       simp only [List.getElem?_toArray, List.getElem?_cons_succ, List.getElem?_cons_zero] at c0 c1 c2 c3 c4 c5 c6 c7 c8
       have d0 := cell20 (k := 0) HO5.out
       have d1 := cell20 (k := 1) HO5.out
       have d2 := cell20 (k := 2) HO5.out
       have d3 := cell20 (k := 3) HO5.out
       have d4 := cell20 (k := 4) HO5.out
       have d5 := cell20 (k := 5) HO5.out
       have hltD := lt20 HO5.out
       simp only [List.getElem?_toArray, List.getElem?_cons_succ, List.getElem?_cons_zero] at d0 d1 d2 d3 d4 d5
       by_cases hk : f.kind = c.en.kind
       ·have hkn : (f.kind != c.en.kind) = false := by simp [hk]
        have HK := Lib.hid hk
        clear hk
        have hS := sameC_any _ _ f c.en (.slice ao f.data.length co) (.slice a1 c.en.data.length cap1) w5 HD5.out HE5.out
        unfold entV at hS
        cases hq : (decide (f.data = c.en.data) && decide (f.link = c.en.link)) with
        | false =>
         have HFL := Lib.hid (app_take HCX.out.symm (take_fail HTK.out HAT.out (by rw [take2 h2, HHH.out, HAL.out]; unfold alikeE; rw [decide_eq_true HK.out, hq]; rfl)))
         rw [hq] at hS
         clear hq
         go_wp2_with fail
         refine hS.mono ?_
         rintro e w6 ⟨rfl, hb6⟩
         have HL6 := Lib.hid (HL5.out.below hb6)
         clear hb6 hS c0 c1 c2 c3 c4 c5 c6 c7 c8 hltX d0 d1 d2 d3 d4 d5 hltD
         go_wp2_with fail
         go_ret2
         exact app_err HFL.out HL6.out.bel
        | true =>
         have HSTEP := Lib.hid (show takeP a L [c] = some (dropE L c.src) by rw [take2 h2, HHH.out, HAL.out]; unfold alikeE; rw [decide_eq_true HK.out, hq]; rfl)
         rw [hq] at hS
         clear hq
         go_wp2_with fail
         refine hS.mono ?_
         rintro e w6 ⟨rfl, hb6⟩
         have HL6 := Lib.hid (HL5.out.below hb6)
         clear hb6 hS c0 c1 c2 c3 c4 c5 c6 c7 c8 hltX d0 d1 d2 d3 d4 d5 hltD
         go_wp2_with fail
         go_roundw
         case rel => exact ⟨k + 1, _, by omega, by go_num, by rw [take_step HTK.out HAT.out, HSTEP.out], HL6.out⟩
         case measure => simp [intOf]; omega
       ·have hkn : (f.kind != c.en.kind) = true := by simp [hk]
        have HFL := Lib.hid (app_take HCX.out.symm (take_fail HTK.out HAT.out (by rw [take2 h2, HHH.out, HAL.out]; unfold alikeE; rw [decide_eq_false hk]; rfl)))
        clear hk
        go_wp2_with fail
        go_ret2
        exact app_err HFL.out HL5.out.bel
     ·have HSTEP := Lib.hid (show takeP a L [c] = some L from take3 h1 h2)
      go_wp2_with fail
      go_roundw
      case rel => exact ⟨k + 1, _, by omega, by go_num, by rw [take_step HTK.out HAT.out, HSTEP.out], HLW.out⟩
      case measure => simp [intOf]; omega
   ·have hk2 : n = k := by omega
    subst hk2
    have HTKN := Lib.hid (show takeP a a cs = some L by have h := HTK.out; rw [HN.out, List.take_length] at h; exact h)
    have HLL := Lib.hid (takeP_sub HTKN.out)
    clear hk hlt
    have hmk1 := make_mapE0
    have hmk2 := make_set
    go_upto_region 21 with (fail)
    clear hmk1 hmk2
    obtain ⟨w6, hw6⟩ : ∃ W : World, W = (wr.alloc (.map #[] 0)).alloc (.map #[] 0) := ⟨_, rfl⟩
    rw [← hw6]
    have hb6a : Below wr.heap.size wr (wr.alloc (.map #[] 0)) := (Below.refl _ _).alloc (Nat.le_refl _) _
    have hb6b : Below (wr.alloc (.map #[] 0)).heap.size (wr.alloc (.map #[] 0)) w6 := by rw [hw6]; exact (Below.refl _ _).alloc (Nat.le_refl _) _
    have hb6 := below_next hb6a hb6b
    obtain ⟨ab, hab⟩ : ∃ ab, ab = wr.heap.size := ⟨_, rfl⟩
    obtain ⟨mb, hmb⟩ : ∃ mb, mb = wr.heap.size + 1 := ⟨_, rfl⟩
    have hwr := HLP.out.bel.size
    have hx1 := lt20 HLP.out.box
    have hx2 := HLP.out.lft.lt
    have HAP4 := Lib.hid (show Apart4 w bx lb ab mb from ⟨HAP.out.b1, HAP.out.b2, by omega, by omega, HAP.out.n1, by omega, by omega, by omega, by omega, by omega⟩)
    have HL6 := Lib.hid (show LoopA2 w bx lb ab mb L ⟨[], []⟩ w6 from ⟨(hb6.block bx hx1).trans HLP.out.box, (HLP.out.lft.below hb6).to (fun p => by rw [over_find]; cases findE L p <;> rfl), (by rw [hab]; exact (MapR.made (Old w) wr (old_new hwr)).below hb6b), (by
     have := SetR.made (wr.alloc (.map #[] 0))
     rw [show (wr.alloc (.map #[] 0)).heap.size = mb by simp [hmb]] at this
     rw [hw6]; exact this), below_next HLP.out.bel hb6⟩)
    rw [← hmb, ← hab]
    clear hw6 hb6a hb6b hb6 hwr hx1 hx2 hab hmb
    obtain ⟨wz, hwz⟩ : ∃ wz, wz = wr := ⟨_, rfl⟩
    clear hwz
    go_wp2_with fail
    go_loopw [79] (fun i wr => ∃ (k : Nat) (s : PSt), k ≤ n ∧ i = .int .i64 k ∧ putsP L ⟨[], []⟩ (cs.take k) = some s ∧ PInv L s k ∧ LoopA2 w bx lb ab mb L s wr) (fun i _ => n - (intOf i).toNat)
    case atStart => exact ⟨0, ⟨[], []⟩, Nat.zero_le _, rfl, rfl, PInv.nil L, HL6.out⟩
    case round =>
     obtain ⟨k, s, hk, rfl, hps, hpi, hlp⟩ := hrel
     have HPS := Lib.hid hps
     have HPI := Lib.hid hpi
     have HLP := Lib.hid hlp
     clear hps hpi hlp
     by_cases hlt : k < n
     ·obtain ⟨c, hcc⟩ : ∃ c, cs[k]? = some c := ⟨cs[k]'(by rw [← HN.out]; exact hlt), by simp⟩
      have HCV := Lib.hid (HOKS.out.2 c (List.mem_of_getElem? hcc))
      obtain ⟨b, o, dv, rfl, hb, hd, hok, hq⟩ := chgs_at (HL.out.below HLP.out.bel) hcc
      have HAT := Lib.hid hcc
      have HD := Lib.hid hd
      have HOK := Lib.hid hok
      obtain ⟨a1, cap1, rfl, hd1, hd2⟩ := hd.slice
      unfold maxLen at hd2
      have c0 := (hq 0 (by omega)).trans rfl
      have c1 := (hq 1 (by omega)).trans rfl
      have c2 := (hq 2 (by omega)).trans rfl
      have c3 := (hq 3 (by omega)).trans rfl
      have c4 := (hq 4 (by omega)).trans rfl
      have c5 := (hq 5 (by omega)).trans rfl
      have c6 := (hq 6 (by omega)).trans rfl
      have c7 := (hq 7 (by omega)).trans rfl
      have c8 := (hq 8 (by omega)).trans rfl
      simp only [chgC, List.getElem?_cons_succ, List.getElem?_cons_zero, Nat.add_zero] at c0 c1 c2 c3 c4 c5 c6 c7 c8
      clear hcc hd hok hq
      go_upto_region 24 with (fail)
      obtain ⟨W, hW⟩ : ∃ W : World, W = wr.alloc (.cells #[.int .i64 c.kind, .string c.path, .string c.src, .string c.en.path, .int .i64 c.en.kind, .int .i64 c.en.mode, .int .i64 c.en.time, .slice a1 c.en.data.length cap1, .string c.en.link] 58) := ⟨_, rfl⟩
      rw [← hW]
      have HW := Lib.hid (show Below wr.heap.size wr W by rw [hW]; exact (Below.refl _ _).alloc (Nat.le_refl _) _)
      have HX := Lib.hid (show W.heap[wr.heap.size]? = some (.cells #[.int .i64 c.kind, .string c.path, .string c.src, .string c.en.path, .int .i64 c.en.kind, .int .i64 c.en.mode, .int .i64 c.en.time, .slice a1 c.en.data.length cap1, .string c.en.link] 58 (0, 0)) by rw [hW]; exact new20 wr _)
      have HEQ := Lib.hid hW.symm
      clear hW c0 c1 c2 c3 c4 c5 c6 c7 c8
      have c0 := cell20 (k := 0) HX.out
      have c1 := cell20 (k := 1) HX.out
      have c2 := cell20 (k := 2) HX.out
      have c3 := cell20 (k := 3) HX.out
      have c4 := cell20 (k := 4) HX.out
      have c5 := cell20 (k := 5) HX.out
      have c6 := cell20 (k := 6) HX.out
      have c7 := cell20 (k := 7) HX.out
      have c8 := cell20 (k := 8) HX.out
      have hltX := lt20 HX.out
      simp only [List.getElem?_toArray, List.getElem?_cons_succ, List.getElem?_cons_zero] at c0 c1 c2 c3 c4 c5 c6 c7 c8
      have HLW := Lib.hid (HLP.out.below HW.out)
      have hcB := cell20 (k := 0) HLW.out.box
      simp only [List.getElem?_toArray, List.getElem?_cons_zero] at hcB
      obtain ⟨ao, co, hlk, hdo, hoo, hco⟩ := HLW.out.lft.ask mapTy (zeroE_run W) HOK.out.pth
      obtain ⟨f, hf⟩ : ∃ f, f = enOr (findE (L.map (overE s.mods)) c.path) := ⟨_, rfl⟩
      obtain ⟨t1, ht1⟩ : ∃ t, t = hasE L c.path := ⟨_, rfl⟩
      rw [show (findE (L.map (overE s.mods)) c.path).isSome = t1 by rw [over_find, Option.isSome_map]; exact ht1.symm, ← hf] at hlk
      have HF := Lib.hid hf
      have HT1 := Lib.hid ht1
      unfold maxLen at hco
      clear hf ht1 hdo hoo
      go_upto_region 25 with (fail)
      obtain ⟨W2, hW2⟩ : ∃ Z : World, Z = (W).alloc (.cells #[.string f.path, .int .i64 f.kind, .int .i64 f.mode, .int .i64 f.time, .slice ao f.data.length co, .string f.link] 48) := ⟨_, rfl⟩
      rw [← hW2]
      have hb2 : Below (W).heap.size W W2 := by rw [hW2]; exact (Below.refl _ _).alloc (Nat.le_refl _) _
      have HW2 := Lib.hid (below_next HW.out hb2)
      have HX2 := Lib.hid ((hb2.block wr.heap.size (lt20 HX.out)).trans HX.out)
      have HO2 := Lib.hid (show (W2).heap[(W).heap.size]? = some (.cells #[.string f.path, .int .i64 f.kind, .int .i64 f.mode, .int .i64 f.time, .slice ao f.data.length co, .string f.link] 48 (0, 0)) by rw [hW2]; exact new20 _ _)
      have HZ2 := Lib.hid hb2
      clear hW2 hb2 c0 c1 c2 c3 c4 c5 c6 c7 c8 hltX hlk
      clear hcB
      have HL2 := Lib.hid (HLP.out.below HW2.out)
      by_cases h2 : c.kind = 2
      ·have HK23 := Lib.hid (show c.kind = 2 ∨ c.kind = 3 from Or.inl h2)
       have HPE := Lib.hid (chg_ent HCV.out (by omega)).2
       obtain ⟨a2, co2, hlk, hdo, hoo, hco2⟩ := HL2.out.add.ask mapTy (zeroE_run W2) HOK.out.pth
       obtain ⟨f2, hf2⟩ : ∃ f, f = enOr (findE s.added c.path) := ⟨_, rfl⟩
       obtain ⟨t2, ht2⟩ : ∃ t, t = hasE s.added c.path := ⟨_, rfl⟩
       rw [show (findE s.added c.path).isSome = t2 from ht2.symm, ← hf2] at hlk
       have HT2 := Lib.hid ht2
       unfold maxLen at hco2
       clear hf2 ht2 hdo hoo
       have c0 := cell20 (k := 0) HX2.out
       have c1 := cell20 (k := 1) HX2.out
       have c2 := cell20 (k := 2) HX2.out
       have c3 := cell20 (k := 3) HX2.out
       have c4 := cell20 (k := 4) HX2.out
       have c5 := cell20 (k := 5) HX2.out
       have c6 := cell20 (k := 6) HX2.out
       have c7 := cell20 (k := 7) HX2.out
       have c8 := cell20 (k := 8) HX2.out
       have hltX := lt20 HX2.out
       simp only [List.getElem?_toArray, List.getElem?_cons_succ, List.getElem?_cons_zero] at c0 c1 c2 c3 c4 c5 c6 c7 c8
       go_upto_region 29 with (fail)
       obtain ⟨W3, hW2⟩ : ∃ Z : World, Z = (W2).alloc (.cells #[.string f2.path, .int .i64 f2.kind, .int .i64 f2.mode, .int .i64 f2.time, .slice a2 f2.data.length co2, .string f2.link] 48) := ⟨_, rfl⟩
       rw [← hW2]
       have hb2 : Below (W2).heap.size W2 W3 := by rw [hW2]; exact (Below.refl _ _).alloc (Nat.le_refl _) _
       have HW3 := Lib.hid (below_next HW2.out hb2)
       have HX3 := Lib.hid ((hb2.block wr.heap.size (lt20 HX2.out)).trans HX2.out)
       have HO3 := Lib.hid (show (W3).heap[(W2).heap.size]? = some (.cells #[.string f2.path, .int .i64 f2.kind, .int .i64 f2.mode, .int .i64 f2.time, .slice a2 f2.data.length co2, .string f2.link] 48 (0, 0)) by rw [hW2]; exact new20 _ _)
       have HZ2 := Lib.hid hb2
       clear hW2 hb2 c0 c1 c2 c3 c4 c5 c6 c7 c8 hltX hlk
       have HL3 := Lib.hid (HLP.out.below HW3.out)
       cases t1 with
       | true =>
        have HFL := Lib.hid (app_puts HCX.out.symm HTKN.out (puts_fail HPS.out HAT.out (by unfold stepP; rw [if_pos HK23.out, ← HT1.out]; rfl)))
        go_wp2_with fail
        go_ret2
        exact app_err HFL.out HL3.out.bel
       | false =>
        cases t2 with
        | true =>
         have HFL := Lib.hid (app_puts HCX.out.symm HTKN.out (puts_fail HPS.out HAT.out (by unfold stepP; rw [if_pos HK23.out, ← HT1.out, ← HT2.out]; rfl)))
         go_wp2_with fail
         go_ret2
         exact app_err HFL.out HL3.out.bel
        | false =>
         have HSTEP := Lib.hid (show stepP L s c = some ⟨s.added ++ [c.en], s.mods⟩ by unfold stepP; rw [if_pos HK23.out, ← HT1.out, ← HT2.out]; rfl)
         have HI3 := Lib.hid (HPI.out.step HCV.out HSTEP.out)
         have hput := HL3.out.add.put mapTy (HD.out.below HW3.out) HOK.out.en
         rw [← HPE.out] at hput
         have HPUT := Lib.hid hput
         clear hput
         have c0 := cell20 (k := 0) HX3.out
         have c1 := cell20 (k := 1) HX3.out
         have c2 := cell20 (k := 2) HX3.out
         have c3 := cell20 (k := 3) HX3.out
         have c4 := cell20 (k := 4) HX3.out
         have c5 := cell20 (k := 5) HX3.out
         have c6 := cell20 (k := 6) HX3.out
         have c7 := cell20 (k := 7) HX3.out
         have c8 := cell20 (k := 8) HX3.out
         have hltX := lt20 HX3.out
         simp only [List.getElem?_toArray, List.getElem?_cons_succ, List.getElem?_cons_zero] at c0 c1 c2 c3 c4 c5 c6 c7 c8
         go_wp2_with (at_mapUpdate; go_must (refine wpList_updRun rfl _ _ _ _ rfl _ _ _ rfl rfl rfl HPUT.out ?_); rintro w6 ⟨hm6, hg6⟩; have HM6 := Lib.hid hm6; have HG6 := Lib.hid hg6; clear hm6 hg6 c0 c1 c2 c3 c4 c5 c6 c7 c8 hltX)
         go_roundw
         case rel => exact ⟨k + 1, _, by omega, by go_num, by rw [puts_step HPS.out HAT.out, HSTEP.out], HI3.out, HL3.out.put HAP4.out (by rw [← HPE.out]; exact HT2.out.symm) HM6.out HG6.out⟩
         case measure => simp [intOf]; omega
      ·by_cases h3 : c.kind = 3
       ·have HK23 := Lib.hid (show c.kind = 2 ∨ c.kind = 3 from Or.inr h3)
        have HPE := Lib.hid (chg_ent HCV.out (by omega)).2
        obtain ⟨a2, co2, hlk, hdo, hoo, hco2⟩ := HL2.out.add.ask mapTy (zeroE_run W2) HOK.out.pth
        obtain ⟨f2, hf2⟩ : ∃ f, f = enOr (findE s.added c.path) := ⟨_, rfl⟩
        obtain ⟨t2, ht2⟩ : ∃ t, t = hasE s.added c.path := ⟨_, rfl⟩
        rw [show (findE s.added c.path).isSome = t2 from ht2.symm, ← hf2] at hlk
        have HT2 := Lib.hid ht2
        unfold maxLen at hco2
        clear hf2 ht2 hdo hoo
        have c0 := cell20 (k := 0) HX2.out
        have c1 := cell20 (k := 1) HX2.out
        have c2 := cell20 (k := 2) HX2.out
        have c3 := cell20 (k := 3) HX2.out
        have c4 := cell20 (k := 4) HX2.out
        have c5 := cell20 (k := 5) HX2.out
        have c6 := cell20 (k := 6) HX2.out
        have c7 := cell20 (k := 7) HX2.out
        have c8 := cell20 (k := 8) HX2.out
        have hltX := lt20 HX2.out
        simp only [List.getElem?_toArray, List.getElem?_cons_succ, List.getElem?_cons_zero] at c0 c1 c2 c3 c4 c5 c6 c7 c8
        go_upto_region 29 with (fail)
        obtain ⟨W3, hW2⟩ : ∃ Z : World, Z = (W2).alloc (.cells #[.string f2.path, .int .i64 f2.kind, .int .i64 f2.mode, .int .i64 f2.time, .slice a2 f2.data.length co2, .string f2.link] 48) := ⟨_, rfl⟩
        rw [← hW2]
        have hb2 : Below (W2).heap.size W2 W3 := by rw [hW2]; exact (Below.refl _ _).alloc (Nat.le_refl _) _
        have HW3 := Lib.hid (below_next HW2.out hb2)
        have HX3 := Lib.hid ((hb2.block wr.heap.size (lt20 HX2.out)).trans HX2.out)
        have HO3 := Lib.hid (show (W3).heap[(W2).heap.size]? = some (.cells #[.string f2.path, .int .i64 f2.kind, .int .i64 f2.mode, .int .i64 f2.time, .slice a2 f2.data.length co2, .string f2.link] 48 (0, 0)) by rw [hW2]; exact new20 _ _)
        have HZ2 := Lib.hid hb2
        clear hW2 hb2 c0 c1 c2 c3 c4 c5 c6 c7 c8 hltX hlk
        have HL3 := Lib.hid (HLP.out.below HW3.out)
        cases t1 with
        | true =>
         have HFL := Lib.hid (app_puts HCX.out.symm HTKN.out (puts_fail HPS.out HAT.out (by unfold stepP; rw [if_pos HK23.out, ← HT1.out]; rfl)))
         go_wp2_with fail
         go_ret2
         exact app_err HFL.out HL3.out.bel
        | false =>
         cases t2 with
         | true =>
          have HFL := Lib.hid (app_puts HCX.out.symm HTKN.out (puts_fail HPS.out HAT.out (by unfold stepP; rw [if_pos HK23.out, ← HT1.out, ← HT2.out]; rfl)))
          go_wp2_with fail
          go_ret2
          exact app_err HFL.out HL3.out.bel
         | false =>
          have HSTEP := Lib.hid (show stepP L s c = some ⟨s.added ++ [c.en], s.mods⟩ by unfold stepP; rw [if_pos HK23.out, ← HT1.out, ← HT2.out]; rfl)
          have HI3 := Lib.hid (HPI.out.step HCV.out HSTEP.out)
          have hput := HL3.out.add.put mapTy (HD.out.below HW3.out) HOK.out.en
          rw [← HPE.out] at hput
          have HPUT := Lib.hid hput
          clear hput
          have c0 := cell20 (k := 0) HX3.out
          have c1 := cell20 (k := 1) HX3.out
          have c2 := cell20 (k := 2) HX3.out
          have c3 := cell20 (k := 3) HX3.out
          have c4 := cell20 (k := 4) HX3.out
          have c5 := cell20 (k := 5) HX3.out
          have c6 := cell20 (k := 6) HX3.out
          have c7 := cell20 (k := 7) HX3.out
          have c8 := cell20 (k := 8) HX3.out
          have hltX := lt20 HX3.out
          simp only [List.getElem?_toArray, List.getElem?_cons_succ, List.getElem?_cons_zero] at c0 c1 c2 c3 c4 c5 c6 c7 c8
          go_wp2_with (at_mapUpdate; go_must (refine wpList_updRun rfl _ _ _ _ rfl _ _ _ rfl rfl rfl HPUT.out ?_); rintro w6 ⟨hm6, hg6⟩; have HM6 := Lib.hid hm6; have HG6 := Lib.hid hg6; clear hm6 hg6 c0 c1 c2 c3 c4 c5 c6 c7 c8 hltX)
          go_roundw
          case rel => exact ⟨k + 1, _, by omega, by go_num, by rw [puts_step HPS.out HAT.out, HSTEP.out], HI3.out, HL3.out.put HAP4.out (by rw [← HPE.out]; exact HT2.out.symm) HM6.out HG6.out⟩
          case measure => simp [intOf]; omega
       ·by_cases h4 : c.kind = 4
        ·have HPE := Lib.hid (chg_ent HCV.out (by omega)).2
         cases t1 with
         | false =>
          have HFL := Lib.hid (app_puts HCX.out.symm HTKN.out (puts_fail HPS.out HAT.out (by
           have h1 := HT1.out
           unfold hasE at h1
           unfold stepP; rw [if_neg (by omega), if_pos h4]
           cases hf : findE L c.path with
           | none => rfl
           | some g => rw [hf] at h1; cases h1)))
          have c0 := cell20 (k := 0) HX2.out
          have c1 := cell20 (k := 1) HX2.out
          have c2 := cell20 (k := 2) HX2.out
          have c3 := cell20 (k := 3) HX2.out
          have c4 := cell20 (k := 4) HX2.out
          have c5 := cell20 (k := 5) HX2.out
          have c6 := cell20 (k := 6) HX2.out
          have c7 := cell20 (k := 7) HX2.out
          have c8 := cell20 (k := 8) HX2.out
          have hltX := lt20 HX2.out
          simp only [List.getElem?_toArray, List.getElem?_cons_succ, List.getElem?_cons_zero] at c0 c1 c2 c3 c4 c5 c6 c7 c8
          go_wp2_with fail
          go_ret2
          exact app_err HFL.out HL2.out.bel
         | true =>
          obtain ⟨g, hg⟩ : ∃ g, findE L c.path = some g := by
           have h1 := HT1.out
           unfold hasE at h1
           exact Option.isSome_iff_exists.1 h1.symm
          have HG := Lib.hid hg
          clear hg
          have hget := HL2.out.mods.get boolTy (boolZ W2) HOK.out.pth
          obtain ⟨t3, ht3⟩ : ∃ t, t = hasE s.mods c.path := ⟨_, rfl⟩
          rw [← ht3] at hget
          have HT3 := Lib.hid ht3
          clear ht3
          have c0 := cell20 (k := 0) HX2.out
          have c1 := cell20 (k := 1) HX2.out
          have c2 := cell20 (k := 2) HX2.out
          have c3 := cell20 (k := 3) HX2.out
          have c4 := cell20 (k := 4) HX2.out
          have c5 := cell20 (k := 5) HX2.out
          have c6 := cell20 (k := 6) HX2.out
          have c7 := cell20 (k := 7) HX2.out
          have c8 := cell20 (k := 8) HX2.out
          have hltX := lt20 HX2.out
          simp only [List.getElem?_toArray, List.getElem?_cons_succ, List.getElem?_cons_zero] at c0 c1 c2 c3 c4 c5 c6 c7 c8
          have d0 := cell20 (k := 0) HO2.out
          have d1 := cell20 (k := 1) HO2.out
          have d2 := cell20 (k := 2) HO2.out
          have d3 := cell20 (k := 3) HO2.out
          have d4 := cell20 (k := 4) HO2.out
          have d5 := cell20 (k := 5) HO2.out
          have hltD := lt20 HO2.out
          simp only [List.getElem?_toArray, List.getElem?_cons_succ, List.getElem?_cons_zero] at d0 d1 d2 d3 d4 d5
          have hcB := cell20 (k := 0) HL2.out.box
          simp only [List.getElem?_toArray, List.getElem?_cons_zero] at hcB
          by_cases hk : f.kind = c.en.kind
          ·have hkn : (f.kind != c.en.kind) = false := by simp [hk]
           have HK := Lib.hid hk
           clear hk
           cases t3 with
           | true =>
            have HFL := Lib.hid (app_puts HCX.out.symm HTKN.out (puts_fail HPS.out HAT.out (by unfold stepP; rw [if_neg (by omega), if_pos h4, HG.out]; simp only; rw [if_pos (Or.inr HT3.out.symm)])))
            go_wp2_with fail
            go_ret2
            exact app_err HFL.out HL2.out.bel
           | false =>
            have HFE := Lib.hid (show f = g by
             rw [HF.out, over_find, HG.out, Option.map_some]
             exact over_same (by rw [(findE_some HG.out).2]; exact HT3.out.symm))
            have HSTEP := Lib.hid (show stepP L s c = some ⟨s.added, s.mods ++ [c.en]⟩ by
             unfold stepP; rw [if_neg (by omega), if_pos h4, HG.out]; simp only
             rw [if_neg]
             rintro (h | h)
             ·rw [← HFE.out] at h; exact h HK.out
             ·rw [← HT3.out] at h; cases h)
            have HI3 := Lib.hid (HPI.out.step HCV.out HSTEP.out)
            have HPUT1 := Lib.hid (HL2.out.mods.put boolTy HOK.out.pth)
            go_upto_region 36 with (at_mapUpdate; go_must (refine wpList_updRun rfl _ _ _ _ rfl _ _ _ rfl rfl rfl HPUT1.out ?_); rintro w6 ⟨hm6, hg6⟩; have HM6 := Lib.hid hm6; have HG6 := Lib.hid hg6; clear hm6 hg6 hget hcB c0 c1 c2 c3 c4 c5 c6 c7 c8 hltX d0 d1 d2 d3 d4 d5 hltD)
            have hmbl := HLP.out.mods.lt
            have hXL := HAP4.out
            have HX6 := Lib.hid ((HG6.out.block _ (lt20 HX2.out) (fun e => by have := Option.some.inj e; omega)).trans HX2.out)
            have HB6 := Lib.hid ((HG6.out.block _ (lt20 HL2.out.box) (fun e => hXL.n4 (Option.some.inj e).symm)).trans HL2.out.box)
            have hput := (HL2.out.lft.other HG6.out (Ne.symm hXL.n5) (old_new hXL.b4)).put mapTy (data_grown (HD.out.below HW2.out) (old_new hXL.b4) HG6.out) HOK.out.en
            rw [← HPE.out] at hput
            have HPUT := Lib.hid hput
            clear hput hmbl hXL
            have hcB := cell20 (k := 0) HB6.out
            simp only [List.getElem?_toArray, List.getElem?_cons_zero] at hcB
            have c0 := cell20 (k := 0) HX6.out
            have c1 := cell20 (k := 1) HX6.out
            have c2 := cell20 (k := 2) HX6.out
            have c3 := cell20 (k := 3) HX6.out
            have c4 := cell20 (k := 4) HX6.out
            have c5 := cell20 (k := 5) HX6.out
            have c6 := cell20 (k := 6) HX6.out
            have c7 := cell20 (k := 7) HX6.out
            have c8 := cell20 (k := 8) HX6.out
            have hltX := lt20 HX6.out
            simp only [List.getElem?_toArray, List.getElem?_cons_succ, List.getElem?_cons_zero] at c0 c1 c2 c3 c4 c5 c6 c7 c8
            go_wp2_with (at_mapUpdate; go_must (refine wpList_updRun rfl _ _ _ _ rfl _ _ _ rfl rfl rfl HPUT.out ?_); rintro w7 ⟨hm7, hg7⟩; have HM7 := Lib.hid hm7; have HG7 := Lib.hid hg7; clear hm7 hg7 hcB c0 c1 c2 c3 c4 c5 c6 c7 c8 hltX)
            go_roundw
            case rel => exact ⟨k + 1, _, by omega, by go_num, by rw [puts_step HPS.out HAT.out, HSTEP.out], HI3.out, HL2.out.mod HAP4.out (by rw [← HPE.out]; exact HT3.out.symm) (by rw [← HPE.out]; exact HT1.out.symm) (by rw [← HPE.out]; exact HM6.out) HG6.out HM7.out HG7.out⟩
            case measure => simp [intOf]; omega
          ·have hkn : (f.kind != c.en.kind) = true := by simp [hk]
           have HFL := Lib.hid (app_puts HCX.out.symm HTKN.out (puts_fail HPS.out HAT.out (by
            unfold stepP; rw [if_neg (by omega), if_pos h4, HG.out]; simp only
            rw [if_pos]
            by_cases hm : hasE s.mods c.path = true
            ·exact Or.inr hm
            ·refine Or.inl fun e => hk ?_
             rw [HF.out, over_find, HG.out, Option.map_some]
             rw [show enOr (some (overE s.mods g)) = g from over_same (by rw [(findE_some HG.out).2]; exact Bool.not_eq_true _ ▸ hm)]
             exact e)))
           clear hk
           go_wp2_with fail
           go_ret2
           exact app_err HFL.out HL2.out.bel
        ·have HSTEP := Lib.hid (show stepP L s c = some s by unfold stepP; rw [if_neg (by omega), if_neg h4])
         have c0 := cell20 (k := 0) HX2.out
         have c1 := cell20 (k := 1) HX2.out
         have c2 := cell20 (k := 2) HX2.out
         have c3 := cell20 (k := 3) HX2.out
         have c4 := cell20 (k := 4) HX2.out
         have c5 := cell20 (k := 5) HX2.out
         have c6 := cell20 (k := 6) HX2.out
         have c7 := cell20 (k := 7) HX2.out
         have c8 := cell20 (k := 8) HX2.out
         have hltX := lt20 HX2.out
         simp only [List.getElem?_toArray, List.getElem?_cons_succ, List.getElem?_cons_zero] at c0 c1 c2 c3 c4 c5 c6 c7 c8
         go_wp2_with fail
         go_roundw
         case rel => exact ⟨k + 1, s, by omega, by go_num, by rw [puts_step HPS.out HAT.out, HSTEP.out], (HPI.out.step HCV.out HSTEP.out), HL2.out⟩
         case measure => simp [intOf]; omega
     ·have hk2 : n = k := by omega
      subst hk2
      have HPSN := Lib.hid (show putsP L ⟨[], []⟩ cs = some s by have h := HPS.out; rw [HN.out, List.take_length] at h; exact h)
      have HDN := Lib.hid (app_done HCX.out.symm HTKN.out HPSN.out)
      obtain ⟨M, hM⟩ : ∃ M, M = sortP (resE L s) := ⟨_, rfl⟩
      have hLn := HTA.out.nodup.sublist (HLL.out.map Ent.path)
      have hrn := resE_nodup HPI.out hLn
      have hrv := resE_vent HPI.out (fun e he => HTA.out.val e (HLL.out.subset he))
      have HMS := Lib.hid (show SortedE M by rw [hM]; exact sortP_sorted hrn)
      have HML := Lib.hid (show ∀ p, findE M p = findE (resE L s) p from fun p => by rw [hM]; exact findE_perm (sortP_perm _) (((sortP_perm _).map Ent.path).nodup_iff.2 hrn) p)
      have HMN := Lib.hid (show M.length ≤ 4096 by
       rw [hM, (sortP_perm _).length_eq, resE_len]
       have h1 := HLL.out.length_le
       have h2 := HPI.out.len
       have h3 := HLEN.out
       have h4 := HN.out
       omega)
      have HMD := Lib.hid (show ∀ e ∈ M, e.data.length ≤ 140737488355328 from fun e he => vEnt_data (hrv e (by rw [hM] at he; exact (sortP_perm _).subset he)))
      rw [← hM] at HDN
      clear hM hLn hrn hrv hk hlt
      have hcB := cell20 (k := 0) HLP.out.box
      have hltB := lt20 HLP.out.box
      simp only [List.getElem?_toArray, List.getElem?_cons_zero] at hcB
      go_wp2_with fail
      refine (copyM_any (Old w) lb ab _ _ wr HLP.out.lft HLP.out.add (Ne.symm HAP4.out.n2) (fun k hk => old_new (Nat.le_trans HLP.out.bel.size hk))).mono ?_
      rintro e w5 ⟨rfl, hm5, hg5⟩
      have HM5 := Lib.hid (hm5.to fun p => res_look' HPI.out p)
      have HB5 := Lib.hid (HLP.out.bel.grown hg5 HLP.out.bel.size (fun k e => by cases e; exact HAP4.out.b2))
      have HX5 := Lib.hid ((hg5.block _ (lt20 HLP.out.box) (fun e => HAP4.out.n1 (Option.some.inj e).symm)).trans HLP.out.box)
      clear hm5 hg5 hcB hltB
      have hcB := cell20 (k := 0) HX5.out
      have hltB := lt20 HX5.out
      simp only [List.getElem?_toArray, List.getElem?_cons_zero] at hcB
      go_wp2_with fail
      refine (sortedM_any (Old w) lb _ M w5 HM5.out HMS.out HML.out HMN.out HMD.out).mono ?_
      rintro e w6 ⟨v, ys, rfl, hys, hgot, hb6⟩
      have HYS := Lib.hid hys
      have HGOT := Lib.hid (hgot.le HB5.out.size)
      have HB6 := Lib.hid (below_next HB5.out hb6)
      have HSQ := Lib.hid hgot.seq
      obtain ⟨av, cv, rfl, -, -⟩ := owns_shape hgot.row
      rw [hys] at HSQ
      clear hgot hb6 hys hcB hltB
      obtain ⟨q, hq⟩ : ∃ q, q = checkP M := ⟨_, rfl⟩
      have hcm := check_any _ M (.slice av ys.length cv) w6 HSQ.out (HE.out.below HB6.out)
      rw [← hq] at hcm HDN
      clear hq
      by_cases hq0 : q = 0
      ·have HF := Lib.hid (show applyP a cs = (M, 0) by rw [HDN.out, if_pos hq0])
       subst hq0
       go_wp2_with fail
       refine hcm.mono ?_
       rintro e w7 ⟨rfl, hb7⟩
       have HB7 := Lib.hid (below_next HB6.out hb7)
       have HG7 := Lib.hid (HGOT.out.below hb7)
       clear hb7 hcm
       go_wp2_with fail
       go_ret2
       exact ⟨.slice av ys.length cv, ys, by rw [HF.out]; rfl, by rw [HF.out]; exact HYS.out, HG7.out, HB7.out⟩
      ·have HF := Lib.hid (show applyP a cs = ([], 13) by rw [HDN.out, if_neg hq0])
       have hq1 : (q != 0) = true := by simp [hq0]
       clear hq0
       go_wp2_with fail
       refine hcm.mono ?_
       rintro e w7 ⟨rfl, hb7⟩
       have HB7 := Lib.hid (below_next HB6.out hb7)
       clear hb7 hcm
       go_wp2_with fail
       go_ret2
       exact app_err HF.out HB7.out
 ·have HF := Lib.hid (show applyP a cs = ([], x) by unfold applyP; rw [← HCX.out, if_pos h0])
  go_enter Tryz.func30, Tryz.ntmps30
  go_wp2_with fail
  refine hck.mono ?_
  rintro e w1 ⟨rfl, hb1⟩
  have HB1 := Lib.hid hb1
  clear hb1 hck
  go_wp2_with fail
  go_ret2
  exact app_err HF.out HB1.out
end Go.Proofs.YtdieneaillkbgaaGreatDoor

/- Differences of trees, in plain words: the difference stands in its order. -/
namespace Go.Proofs.YtdieneaillkbgaaGreatDoor
open Go Go.RowKit Go.Maps
theorem nodup_inj {α β : Type} {f : α → β} : ∀ {L : List α}, (L.map f).Nodup → ∀ x ∈ L, ∀ y ∈ L, f x = f y → x = y
  | [], _, x, hx, _, _, _ => by cases hx
  | z :: L, h, x, hx, y, hy, he => by
    rw [List.map_cons, List.nodup_cons] at h
    rcases List.mem_cons.1 hx with hx | hx
    · rcases List.mem_cons.1 hy with hy | hy
      · rw [hx, hy]
      · exact absurd (by rw [← hx, he]; exact List.mem_map_of_mem hy) h.1
    · rcases List.mem_cons.1 hy with hy | hy
      · exact absurd (by rw [← hy, ← he]; exact List.mem_map_of_mem hx) h.1
      · exact nodup_inj h.2 x hx y hy he
theorem chg_inj {L : List VChg} {M : List Chg} (hp : (L.map Prod.snd).Perm M) (hM : M.Pairwise ltC) : ∀ x ∈ L, ∀ y ∈ L, x.2.kind = y.2.kind → x.2.path = y.2.path → x = y := by
  have h1 : (M.map fun c => (c.kind, c.path)).Nodup := by
    unfold List.Nodup
    rw [List.pairwise_map]
    refine hM.imp fun {x y} h e => ?_
    have e1 := (Prod.mk.inj e).1
    have e2 := (Prod.mk.inj e).2
    rcases h with h | ⟨_, h⟩
    · omega
    · rw [e2, (cmp_zero _ _).2 rfl] at h; omega
  have h2 : (L.map fun y => (y.2.kind, y.2.path)).Nodup := by
    have := (hp.map fun c => (c.kind, c.path)).nodup_iff.2 h1
    rwa [List.map_map] at this
  intro x hx y hy hk hq
  exact nodup_inj h2 x hx y hy (by rw [hk, hq])
section
variable {a b : List Ent}
theorem out_perm (ha : TOk a) : (ofK 2 (diffS a b).out ++ ofK 3 (diffS a b).out ++ ofK 4 (diffS a b).out).Perm (diffS a b).out := by
  have hk : ∀ c ∈ (diffS a b).out, c.kind = 2 ∨ c.kind = 3 ∨ c.kind = 4 := fun c hc => ((dinv ha b).all c hc).kind
  generalize (diffS a b).out = l at hk
  induction l with
  | nil => exact List.Perm.refl _
  | cons c l ih =>
    have ih := ih fun x hx => hk x (List.mem_cons_of_mem _ hx)
    rw [ofK_cons, ofK_cons, ofK_cons]
    rcases hk c (List.mem_cons_self ..) with h | h | h
    · rw [if_pos h, if_neg (by omega), if_neg (by omega)]
      exact ih.cons c
    · rw [if_neg (by omega), if_pos h, if_neg (by omega)]
      rw [List.append_assoc, List.cons_append]
      refine List.perm_middle.trans ?_
      rw [← List.append_assoc]
      exact ih.cons c
    · rw [if_neg (by omega), if_neg (by omega), if_pos h]
      exact List.perm_middle.trans (ih.cons c)
theorem diff_perm (ha : TOk a) : ((diffS a b).out ++ (diffS a b).rem.map remC).Perm (diffP a b) := by
  unfold diffP
  refine List.perm_append_comm.trans ?_
  rw [List.append_assoc, List.append_assoc, ← List.append_assoc (ofK 2 _)]
  exact (out_perm ha).symm.append_left _
theorem out_sorted (ha : TOk a) (hb : TOk b) : (diffS a b).out.Pairwise fun c d => cmpL (bl c.path) (bl d.path) < 0 := by
  have hd := dinv ha b
  have h1 : ((diffS a b).out.map Chg.en).Pairwise fun x y => cmpE x y < 0 := by rw [hd.ens]; exact hb.ord.filter _
  rw [List.pairwise_map] at h1
  refine List.Pairwise.imp_of_mem (fun {x y} hx hy h => ?_) h1
  rw [(hd.all x hx).path, (hd.all y hy).path]
  exact h
theorem diff_sorted (ha : TOk a) (hb : TOk b) : (diffP a b).Pairwise ltC := by
  have hd := dinv ha b
  have hk : ∀ k, (ofK k (diffS a b).out).Pairwise ltC := fun k =>
    List.Pairwise.imp_of_mem (fun {x y} hx hy h => Or.inr ⟨(mem_ofK.1 hx).2.trans (mem_ofK.1 hy).2.symm, h⟩) ((out_sorted ha hb).sublist (ofK_sub k _))
  have hx : ∀ {k j : Int}, k < j → ∀ x ∈ ofK k (diffS a b).out, ∀ y ∈ ofK j (diffS a b).out, ltC x y := fun hkj x hx y hy =>
    Or.inl (by rw [(mem_ofK.1 hx).2, (mem_ofK.1 hy).2]; exact hkj)
  have hr : ((diffS a b).rem.map remC).Pairwise ltC := by
    rw [List.pairwise_map]
    exact (ha.ord.sublist (hd.sub.trans List.filter_sublist)).imp fun {x y} h => Or.inr ⟨rfl, h⟩
  have hr2 : ∀ x ∈ (diffS a b).rem.map remC, ∀ (j : Int), 1 < j → ∀ y ∈ ofK j (diffS a b).out, ltC x y := fun x hx j hj y hy => by
    obtain ⟨g, _, rfl⟩ := List.mem_map.1 hx
    exact Or.inl (by rw [(mem_ofK.1 hy).2]; exact hj)
  unfold diffP
  refine List.pairwise_append.2 ⟨List.pairwise_append.2 ⟨List.pairwise_append.2 ⟨hr, hk 2, fun x h1 y h2 => hr2 x h1 2 (by omega) y h2⟩, hk 3, fun x h1 y h2 => ?_⟩, hk 4, fun x h1 y h2 => ?_⟩
  · rcases List.mem_append.1 h1 with h1 | h1
    · exact hr2 x h1 3 (by omega) y h2
    · exact hx (by omega) x h1 y h2
  · rcases List.mem_append.1 h1 with h1 | h1
    · rcases List.mem_append.1 h1 with h1 | h1
      · exact hr2 x h1 4 (by omega) y h2
      · exact hx (by omega) x h1 y h2
    · exact hx (by omega) x h1 y h2
theorem diff_kinds (ha : TOk a) : ∀ c ∈ diffP a b, KindOk c := by
  intro c hc
  rcases mem_diff hc with ⟨g, _, rfl⟩ | h
  · exact ⟨(show (1 : Int) ≤ 1 by decide), (show (1 : Int) ≤ 4 by decide)⟩
  · have := ((dinv ha b).all c h).kind
    exact ⟨by omega, by omega⟩
end
end Go.Proofs.YtdieneaillkbgaaGreatDoor
