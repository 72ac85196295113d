/- The law PathnameIgnores: its walk. -/
import Derived.Test.YtlipekkiaiaplaaDoorRefM
import Derived.Test.YtlipekkiaiaplaaDoorParse
import Derived.Test.YtlipekkiaiaplaaDoorAwake
namespace Go.Proofs.YtlipekkiaiaplaaDoor
open Go.RowKit

def RulesRes (rs : List PRule) (w : World) (e : Ending) (w' : World) : Prop := ∃ v, e = .returned v ∧ RulesAt (w.heap.size ≤ ·) w' v rs ∧ Below w.heap.size w w'
set_option maxHeartbeats 1000000 in
theorem rules_any (rs : List PRule) (S : Nat → Prop) (v : Value) (w : World) (hv : RulesAt S w v rs) (hn : rs.length ≤ 300) : Calls Tryd.prog 21 #[v] w (RulesRes rs w) := by
  have HV := Lib.hid hv
  obtain ⟨a, cap, rfl, hc, hcm, -⟩ := hv.cells
  clear hv
  unfold maxLen at hcm
  go_enter Tryd.func21, Tryd.ntmps21
  go_wp2_with fail
  go_loopw [3, 8] (fun v i wr => ∃ k : Nat, k ≤ rs.length ∧ i = .int .i64 k ∧ wr.ownsRow w.heap.size 53 4 v k ((rs.take k).flatMap ruleC) ∧ Below w.heap.size w wr) (fun _ i _ => rs.length - (intOf i).toNat)
  case atStart => exact ⟨0, Nat.zero_le _, rfl, World.ownsRow_nil _ _ _ _, Below.refl _ _⟩
  case round =>
    obtain ⟨k, hk, rfl, hown, hb⟩ := hrel
    have HB := Lib.hid hb
    have HO := Lib.hid hown
    have hsz : w.heap.size ≤ wr.heap.size := hb.size
    obtain ⟨av, cv, rfl, hnv, hmv⟩ := owns_shape hown
    by_cases hlt : k < rs.length
    · obtain ⟨r, hr⟩ : ∃ r, rs[k]? = some r := ⟨rs[k], by simp [hlt]⟩
      obtain ⟨_, _, hv', _, _, hcells⟩ := (RulesAt.below HV.out hb).cells
      cases hv'
      obtain ⟨b, o, rfl, c0, c1, c2, c3⟩ := hcells k r hr
      have HR := Lib.hid hr
      have hsn : (rs.take (k + 1)).flatMap ruleC = (rs.take k).flatMap ruleC ++ ruleC r := by rw [List.take_add_one, hr]; simp
      have HSN := Lib.hid hsn
      clear hr hcells hb hown hsn
      have HO2 := Lib.hid (show World.ownsRow (wr.alloc (.cells #[.string ⟨r.pat.toArray⟩, .bool r.keep, .bool r.dir, .bool r.rooted] 30)) w.heap.size 53 4 (.slice av k cv) k ((rs.take k).flatMap ruleC) from HO.out.alloc _)
      go_wp2_with (at_builtin; go_must (refine wpList_app1 Tryd.appRules rfl _ _ rfl w.heap.size (.slice av k cv) k ((rs.take k).flatMap ruleC) rfl (wr.alloc (.cells #[.string ⟨r.pat.toArray⟩, .bool r.keep, .bool r.dir, .bool r.rooted] 30)) (ruleC r) _ (by rw [alloc_size]; rfl) rfl (by simp [ruleC]; exact ⟨rfl, rfl, rfl, rfl⟩) HO2.out (by omega) (by simp; omega) ?_); intro v' w3 hown1 hgrow1 _)
      have HO1 := Lib.hid hown1
      have HG1 := Lib.hid hgrow1
      clear hown1 hgrow1
      go_wp2_with fail
      go_roundw
      case rel =>
        refine ⟨k + 1, by omega, by go_num, ?_, ?_⟩
        · have := HO1.out; rw [HSN.out]; exact this
        · exact below_grown (HB.out.alloc hsz _) HO2.out HG1.out (Nat.le_refl _) (by simp; omega)
      case measure => simp [intOf]; omega
    · obtain rfl : k = rs.length := by omega
      clear hown hb
      go_wp2_with fail
      go_ret
      refine ⟨_, rfl, ?_, HB.out⟩
      have := HO.out
      rw [List.take_length] at this
      exact SeqAt.mono (rules_of_owns this) (by omega) (fun k _ hk => hk) (fun _ _ _ h => h)

theorem compile_good (rs : List PRule) : (rs.all goodR) = (compileAll rs).isSome := by
  induction rs with
  | nil => rfl
  | cons r rs ih =>
    simp only [List.all_cons, compileAll]
    rw [← good_compile, ih]
    cases compileS r <;> simp
    cases compileAll rs <;> simp
theorem r_good_is (r : PRule) (o : Bool) (w : World) (hs : r.pat.length ≤ 65536) (h : goodR r = o) :
    Calls Tryd.prog 19 #[.agg #[.string ⟨r.pat.toArray⟩, .bool r.keep, .bool r.dir, .bool r.rooted]] w fun e w' => e = .returned (.bool o) ∧ Below w.heap.size w w' := by
  refine (r_good_any ⟨r.pat.toArray⟩ r.keep r.dir r.rooted w (by rw [size_bl, bl_mk]; exact hs)).mono ?_
  rintro e w' ⟨rfl, hb⟩
  rw [bl_mk, h]; exact ⟨rfl, hb⟩
theorem ignored_at (rs : List PRule) (S : Nat → Prop) (v : Value) (s : ByteArray) (dir : Bool) (b : Bool) (n : Int) (w : World) (he : Env w) (hv : RulesAt S w v rs) (hp : ∀ r ∈ rs, r.pat.length ≤ 9223372036854775807) (h : ignoredE rs (bl s) dir = (b, n)) :
    Calls Tryd.prog 20 #[v, .string s, .bool dir] w fun e w' => e = .returned (.tuple #[.bool b, .int .i64 n]) ∧ Below w.heap.size w w' := by
  refine (ignored_any rs S v s dir w he hv hp).mono ?_
  rintro e w' ⟨rfl, hb⟩
  rw [h]; exact ⟨rfl, hb⟩
theorem r_ignored_is (rs : List PRule) (us : List (PRule × List PComp)) (S : Nat → Prop) (v : Value) (s : ByteArray) (dir o : Bool) (w : World) (hv : RulesAt S w v rs) (hca : compileAll rs = some us) (hval : validP (bl s) = true)
    (h : ignFrom dir (splitL 47 (bl s)) us (splitL 47 (bl s)).length 1 = o) : Calls Tryd.prog 22 #[v, .string s, .bool dir] w fun e w' => e = .returned (.bool o) ∧ Below w.heap.size w w' := by
  rw [← h]; exact r_ignored_any rs us S v s dir w hv hca hval
theorem r_valid_o (s : ByteArray) (o : Bool) (w : World) (hs : s.size ≤ 16777216) (h : validP (bl s) = o) : Calls Tryd.prog 17 #[.string s] w fun e w' => e = .returned (.bool o) ∧ Below w.heap.size w w' := by rw [← h]; exact r_valid_any s w hs

theorem ign_bad {rs : List PRule} {l : List UInt8} {dir G : Bool} (hG : G = decide (rs.length ≤ 256)) (h : (G && rs.all goodR) = false) : ignoredE rs l dir = (false, 1) := by
  unfold ignoredE
  split
  · rfl
  · rename_i hn
    have hG1 : G = true := by rw [hG]; simp; omega
    rw [hG1, Bool.true_and, compile_good] at h
    cases hc : compileAll rs with
    | none => rfl
    | some us => rw [hc] at h; cases h
theorem ign_inv {rs : List PRule} {l : List UInt8} {dir : Bool} (h : validP l = false) : ignoredE rs l dir = (false, 1) := by
  unfold ignoredE
  rw [if_pos (.inl h)]
theorem ign_ok {rs : List PRule} {l : List UInt8} {dir G : Bool} (hG : G = decide (rs.length ≤ 256)) (h : (G && rs.all goodR) = true) (hv : validP l = true) : ∃ us, compileAll rs = some us ∧ ignoredE rs l dir = (ignFrom dir (splitL 47 l) us (splitL 47 l).length 1, 0) := by
  simp only [Bool.and_eq_true] at h
  obtain ⟨h1, h2⟩ := h
  rw [h1] at hG
  have hle : rs.length ≤ 256 := by simpa using hG.symm
  rw [compile_good] at h2
  obtain ⟨us, hus⟩ := Option.isSome_iff_exists.1 h2
  refine ⟨us, hus, ?_⟩
  unfold ignoredE
  rw [if_neg (by rw [hv]; simp; omega), hus]
theorem all_take_snoc {rs : List PRule} {k : Nat} {r : PRule} (G : Bool) (hr : rs[k]? = some r) : (G && (rs.take (k + 1)).all goodR) = ((G && (rs.take k).all goodR) && goodR r) := by
  rw [List.take_add_one, hr]
  simp [Bool.and_assoc]

set_option maxRecDepth 100000 in
set_option maxHeartbeats 4000000 in
theorem ignores_walk (rs : List PRule) (S : Nat → Prop) (v : Value) (s : ByteArray) (dir : Bool) (w : World) (he : Env w) (hv : RulesAt S w v rs) (hp : ∀ r ∈ rs, r.pat.length ≤ 9223372036854775807) :
    Calls Tryd.prog 4 #[v, .string s, .bool dir] w fun e w' => e = .returned (.bool true) ∧ Below w.heap.size w w' := by
  have HE := Lib.hid he
  have HB := Lib.hid (Below.refl w.heap.size w)
  have HV := Lib.hid hv
  have HP := Lib.hid hp
  obtain ⟨a, cap, rfl, hc, hcm, -⟩ := hv.cells
  clear he hv hp
  unfold maxLen at hcm
  go_enter Tryd.func4, Tryd.ntmps4
  go_wp2_with fail
  refine (awake_any _ HE.out).mono ?_
  rintro e w' ⟨rfl, hb'⟩
  have hE' := HE.out.below hb'
  have hB' := below_next HB.out hb'
  clear HE HB
  have HE := Lib.hid hE'
  have HB := Lib.hid hB'
  clear hb' hE' hB'
  generalize w' = W at *
  by_cases hsz : (10 < rs.length ∧ rs.length ≤ 256) ∨ 300 < rs.length ∨ 40 < s.size
  · rcases hsz with ⟨h1, h2⟩ | h1 | h1
    · go_wp2_with fail
      go_ret
      exact ⟨rfl, HB.out⟩
    · have h2 : 10 < rs.length := by omega
      have h3 : ¬ rs.length ≤ 256 := by omega
      go_wp2_with fail
      go_ret
      exact ⟨rfl, HB.out⟩
    · go_wp2_with fail
      all_goals (
        go_ret
        exact ⟨rfl, HB.out⟩)
  · have h40 : s.size ≤ 40 := by omega
    rcases Nat.lt_or_ge 10 rs.length with h10 | h10
    · have h256 : 256 < rs.length := by omega
      have h300 : rs.length ≤ 300 := by omega
      have HGG := Lib.hid (show false = decide (rs.length ≤ 256) by symm; simp; omega)
      clear hsz
      have hdec : decide ((rs.length : Int) ≤ 256) = false := by simp; omega
      go_wp2_with fail
      clear hdec
      go_loopw [7, 37] (fun u i wr => ∃ (k : Nat) (g : Bool), k ≤ rs.length ∧ u = .bool g ∧ i = .int .i64 k ∧ Below W.heap.size W wr ∧ g = (false && (rs.take k).all goodR)) (fun _ i _ => rs.length - (intOf i).toNat)
      case atStart => exact ⟨0, false, Nat.zero_le _, rfl, rfl, Below.refl _ _, by simp⟩
      case round =>
        obtain ⟨k, g, hk, rfl, rfl, hbr, hg⟩ := hrel
        have HG := Lib.hid hg
        have HBR := Lib.hid hbr
        have hBW := below_next HB.out hbr
        have HBW := Lib.hid hBW
        clear hg hbr
        by_cases hlt : k < rs.length
        · obtain ⟨r, hr⟩ : ∃ r, rs[k]? = some r := ⟨rs[k], by simp [hlt]⟩
          obtain ⟨_, _, hv', _, _, hcells⟩ := (RulesAt.below HV.out hBW).cells
          cases hv'
          obtain ⟨b, o, rfl, c0, c1, c2, c3⟩ := hcells k r hr
          have HSN := Lib.hid (all_take_snoc false hr)
          clear hr hcells hBW
          have hwb : Below wr.heap.size wr (wr.alloc (.cells #[.string ⟨r.pat.toArray⟩, .bool r.keep, .bool r.dir, .bool r.rooted] 30)) := (Below.refl _ _).alloc (Nat.le_refl _) _
          have HWB := Lib.hid hwb
          clear hwb
          rcases Nat.lt_or_ge 20 r.pat.length with h20 | h20
          · go_wp2_with fail
            go_ret
            exact ⟨rfl, below_next HBW.out HWB.out⟩
          · cases g
            · go_wp2_with fail
              go_roundw
              case rel => exact ⟨k + 1, false, by omega, rfl, by go_num, below_next HBR.out HWB.out, by rw [HSN.out, ← HG.out]; rfl⟩
              case measure => simp [intOf]; omega
            · obtain ⟨o2, ho2⟩ : ∃ o2, goodR r = o2 := ⟨_, rfl⟩
              have HO2 := Lib.hid ho2
              clear ho2
              have hpl : r.pat.length ≤ 65536 := by omega
              go_wp2_with fail
              all_goals (
                refine (r_good_is r o2 _ hpl HO2.out).mono ?_
                rintro e w3 ⟨rfl, hb3⟩
                have HB3 := Lib.hid (below_next HWB.out hb3)
                clear hb3
                go_wp2_with fail
                go_roundw
                case rel => exact ⟨k + 1, o2, by omega, rfl, by go_num, below_next HBR.out HB3.out, by rw [HSN.out, ← HG.out, HO2.out]; rfl⟩
                case measure => simp [intOf]; omega)
        · obtain rfl : k = rs.length := by omega
          have hg : g = (false && rs.all goodR) := by have := HG.out; rw [List.take_length] at this; exact this
          have hE := HE.out.below HBR.out
          clear HE HB HG
          have HE := Lib.hid hE
          have HB := HBW
          have HG := Lib.hid hg
          clear hg hE HBW HBR hBW
          go_wp2_with fail
          refine (rules_any rs S _ _ (RulesAt.below HV.out HB.out) (by omega)).mono ?_
          rintro e w2 ⟨pv, rfl, hpv, hb2⟩
          have HPV := Lib.hid hpv
          obtain ⟨pa, pc, rfl, -, -, -⟩ := hpv.cells
          have hE := HE.out.below hb2
          have hB := below_next HB.out hb2
          clear HE HB hpv hb2
          have HE := Lib.hid hE
          have HB := Lib.hid hB
          clear hE hB
          go_wp2_with fail
          cases g
          · have HI := Lib.hid (ign_bad (l := bl s) (dir := dir) HGG.out HG.out.symm)
            refine (ignored_at rs _ _ s dir false 1 _ HE.out HPV.out HP.out HI.out).mono ?_
            rintro e w' ⟨rfl, hb'⟩
            have hE' := HE.out.below hb'
            have hB' := below_next HB.out hb'
            clear HE HB
            have HE := Lib.hid hE'
            have HB := Lib.hid hB'
            clear hb' hE' hB'
            generalize w' = W at *
            go_wp2_with fail
            go_ret
            exact ⟨rfl, HB.out⟩
          · cases hval : validP (bl s)
            · have HVAL := Lib.hid hval
              clear hval
              have HI := Lib.hid (ign_inv (rs := rs) (dir := dir) HVAL.out)
              refine (ignored_at rs _ _ s dir false 1 _ HE.out HPV.out HP.out HI.out).mono ?_
              rintro e w' ⟨rfl, hb'⟩
              have hE' := HE.out.below hb'
              have hB' := below_next HB.out hb'
              clear HE HB
              have HE := Lib.hid hE'
              have HB := Lib.hid hB'
              clear hb' hE' hB'
              generalize w' = W at *
              go_wp2_with fail
              refine (r_valid_o s _ _ (by omega) HVAL.out).mono ?_
              rintro e w' ⟨rfl, hb'⟩
              have hE' := HE.out.below hb'
              have hB' := below_next HB.out hb'
              clear HE HB
              have HE := Lib.hid hE'
              have HB := Lib.hid hB'
              clear hb' hE' hB'
              generalize w' = W at *
              go_wp2_with fail
              go_ret
              exact ⟨rfl, HB.out⟩
            · have HVAL := Lib.hid hval
              clear hval
              obtain ⟨us, hus, hie⟩ := ign_ok (dir := dir) HGG.out HG.out.symm HVAL.out
              obtain ⟨m, hm⟩ : ∃ m, ignFrom dir (splitL 47 (bl s)) us (splitL 47 (bl s)).length 1 = m := ⟨_, rfl⟩
              have HM := Lib.hid hm
              have HUS := Lib.hid hus
              have HI := Lib.hid (hie.trans (by rw [hm]))
              clear hm hus hie
              cases m
              · skip
                refine (ignored_at rs _ _ s dir false 0 _ HE.out HPV.out HP.out HI.out).mono ?_
                rintro e w' ⟨rfl, hb'⟩
                have hE' := HE.out.below hb'
                have hB' := below_next HB.out hb'
                clear HE HB
                have HE := Lib.hid hE'
                have HB := Lib.hid hB'
                clear hb' hE' hB'
                generalize w' = W at *
                go_wp2_with fail
                refine (r_valid_o s _ _ (by omega) HVAL.out).mono ?_
                rintro e w' ⟨rfl, hb'⟩
                have hE' := HE.out.below hb'
                have hB' := below_next HB.out hb'
                clear HE HB
                have HE := Lib.hid hE'
                have HB := Lib.hid hB'
                clear hb' hE' hB'
                generalize w' = W at *
                go_wp2_with fail
                refine (r_ignored_is rs us S _ s dir false _ (RulesAt.below HV.out HB.out) HUS.out HVAL.out HM.out).mono ?_
                rintro e w' ⟨rfl, hb'⟩
                have hE' := HE.out.below hb'
                have hB' := below_next HB.out hb'
                clear HE HB
                have HE := Lib.hid hE'
                have HB := Lib.hid hB'
                clear hb' hE' hB'
                generalize w' = W at *
                go_wp2_with fail
                go_ret
                exact ⟨rfl, HB.out⟩
              · skip
                refine (ignored_at rs _ _ s dir true 0 _ HE.out HPV.out HP.out HI.out).mono ?_
                rintro e w' ⟨rfl, hb'⟩
                have hE' := HE.out.below hb'
                have hB' := below_next HB.out hb'
                clear HE HB
                have HE := Lib.hid hE'
                have HB := Lib.hid hB'
                clear hb' hE' hB'
                generalize w' = W at *
                go_wp2_with fail
                refine (r_valid_o s _ _ (by omega) HVAL.out).mono ?_
                rintro e w' ⟨rfl, hb'⟩
                have hE' := HE.out.below hb'
                have hB' := below_next HB.out hb'
                clear HE HB
                have HE := Lib.hid hE'
                have HB := Lib.hid hB'
                clear hb' hE' hB'
                generalize w' = W at *
                go_wp2_with fail
                refine (r_ignored_is rs us S _ s dir true _ (RulesAt.below HV.out HB.out) HUS.out HVAL.out HM.out).mono ?_
                rintro e w' ⟨rfl, hb'⟩
                have hE' := HE.out.below hb'
                have hB' := below_next HB.out hb'
                clear HE HB
                have HE := Lib.hid hE'
                have HB := Lib.hid hB'
                clear hb' hE' hB'
                generalize w' = W at *
                go_wp2_with fail
                go_ret
                exact ⟨rfl, HB.out⟩
    · have HGG := Lib.hid (show true = decide (rs.length ≤ 256) by symm; simp; omega)
      clear hsz
      have hdec : decide ((rs.length : Int) ≤ 256) = true := by simp; omega
      go_wp2_with fail
      clear hdec
      go_loopw [7, 37] (fun u i wr => ∃ (k : Nat) (g : Bool), k ≤ rs.length ∧ u = .bool g ∧ i = .int .i64 k ∧ Below W.heap.size W wr ∧ g = (true && (rs.take k).all goodR)) (fun _ i _ => rs.length - (intOf i).toNat)
      case atStart => exact ⟨0, true, Nat.zero_le _, rfl, rfl, Below.refl _ _, by simp⟩
      case round =>
        obtain ⟨k, g, hk, rfl, rfl, hbr, hg⟩ := hrel
        have HG := Lib.hid hg
        have HBR := Lib.hid hbr
        have hBW := below_next HB.out hbr
        have HBW := Lib.hid hBW
        clear hg hbr
        by_cases hlt : k < rs.length
        · obtain ⟨r, hr⟩ : ∃ r, rs[k]? = some r := ⟨rs[k], by simp [hlt]⟩
          obtain ⟨_, _, hv', _, _, hcells⟩ := (RulesAt.below HV.out hBW).cells
          cases hv'
          obtain ⟨b, o, rfl, c0, c1, c2, c3⟩ := hcells k r hr
          have HSN := Lib.hid (all_take_snoc true hr)
          clear hr hcells hBW
          have hwb : Below wr.heap.size wr (wr.alloc (.cells #[.string ⟨r.pat.toArray⟩, .bool r.keep, .bool r.dir, .bool r.rooted] 30)) := (Below.refl _ _).alloc (Nat.le_refl _) _
          have HWB := Lib.hid hwb
          clear hwb
          rcases Nat.lt_or_ge 20 r.pat.length with h20 | h20
          · go_wp2_with fail
            go_ret
            exact ⟨rfl, below_next HBW.out HWB.out⟩
          · cases g
            · go_wp2_with fail
              go_roundw
              case rel => exact ⟨k + 1, false, by omega, rfl, by go_num, below_next HBR.out HWB.out, by rw [HSN.out, ← HG.out]; rfl⟩
              case measure => simp [intOf]; omega
            · obtain ⟨o2, ho2⟩ : ∃ o2, goodR r = o2 := ⟨_, rfl⟩
              have HO2 := Lib.hid ho2
              clear ho2
              have hpl : r.pat.length ≤ 65536 := by omega
              go_wp2_with fail
              all_goals (
                refine (r_good_is r o2 _ hpl HO2.out).mono ?_
                rintro e w3 ⟨rfl, hb3⟩
                have HB3 := Lib.hid (below_next HWB.out hb3)
                clear hb3
                go_wp2_with fail
                go_roundw
                case rel => exact ⟨k + 1, o2, by omega, rfl, by go_num, below_next HBR.out HB3.out, by rw [HSN.out, ← HG.out, HO2.out]; rfl⟩
                case measure => simp [intOf]; omega)
        · obtain rfl : k = rs.length := by omega
          have hg : g = (true && rs.all goodR) := by have := HG.out; rw [List.take_length] at this; exact this
          have hE := HE.out.below HBR.out
          clear HE HB HG
          have HE := Lib.hid hE
          have HB := HBW
          have HG := Lib.hid hg
          clear hg hE HBW HBR hBW
          go_wp2_with fail
          refine (rules_any rs S _ _ (RulesAt.below HV.out HB.out) (by omega)).mono ?_
          rintro e w2 ⟨pv, rfl, hpv, hb2⟩
          have HPV := Lib.hid hpv
          obtain ⟨pa, pc, rfl, -, -, -⟩ := hpv.cells
          have hE := HE.out.below hb2
          have hB := below_next HB.out hb2
          clear HE HB hpv hb2
          have HE := Lib.hid hE
          have HB := Lib.hid hB
          clear hE hB
          go_wp2_with fail
          cases g
          · have HI := Lib.hid (ign_bad (l := bl s) (dir := dir) HGG.out HG.out.symm)
            refine (ignored_at rs _ _ s dir false 1 _ HE.out HPV.out HP.out HI.out).mono ?_
            rintro e w' ⟨rfl, hb'⟩
            have hE' := HE.out.below hb'
            have hB' := below_next HB.out hb'
            clear HE HB
            have HE := Lib.hid hE'
            have HB := Lib.hid hB'
            clear hb' hE' hB'
            generalize w' = W at *
            go_wp2_with fail
            go_ret
            exact ⟨rfl, HB.out⟩
          · cases hval : validP (bl s)
            · have HVAL := Lib.hid hval
              clear hval
              have HI := Lib.hid (ign_inv (rs := rs) (dir := dir) HVAL.out)
              refine (ignored_at rs _ _ s dir false 1 _ HE.out HPV.out HP.out HI.out).mono ?_
              rintro e w' ⟨rfl, hb'⟩
              have hE' := HE.out.below hb'
              have hB' := below_next HB.out hb'
              clear HE HB
              have HE := Lib.hid hE'
              have HB := Lib.hid hB'
              clear hb' hE' hB'
              generalize w' = W at *
              go_wp2_with fail
              refine (r_valid_o s _ _ (by omega) HVAL.out).mono ?_
              rintro e w' ⟨rfl, hb'⟩
              have hE' := HE.out.below hb'
              have hB' := below_next HB.out hb'
              clear HE HB
              have HE := Lib.hid hE'
              have HB := Lib.hid hB'
              clear hb' hE' hB'
              generalize w' = W at *
              go_wp2_with fail
              go_ret
              exact ⟨rfl, HB.out⟩
            · have HVAL := Lib.hid hval
              clear hval
              obtain ⟨us, hus, hie⟩ := ign_ok (dir := dir) HGG.out HG.out.symm HVAL.out
              obtain ⟨m, hm⟩ : ∃ m, ignFrom dir (splitL 47 (bl s)) us (splitL 47 (bl s)).length 1 = m := ⟨_, rfl⟩
              have HM := Lib.hid hm
              have HUS := Lib.hid hus
              have HI := Lib.hid (hie.trans (by rw [hm]))
              clear hm hus hie
              cases m
              · skip
                refine (ignored_at rs _ _ s dir false 0 _ HE.out HPV.out HP.out HI.out).mono ?_
                rintro e w' ⟨rfl, hb'⟩
                have hE' := HE.out.below hb'
                have hB' := below_next HB.out hb'
                clear HE HB
                have HE := Lib.hid hE'
                have HB := Lib.hid hB'
                clear hb' hE' hB'
                generalize w' = W at *
                go_wp2_with fail
                refine (r_valid_o s _ _ (by omega) HVAL.out).mono ?_
                rintro e w' ⟨rfl, hb'⟩
                have hE' := HE.out.below hb'
                have hB' := below_next HB.out hb'
                clear HE HB
                have HE := Lib.hid hE'
                have HB := Lib.hid hB'
                clear hb' hE' hB'
                generalize w' = W at *
                go_wp2_with fail
                refine (r_ignored_is rs us S _ s dir false _ (RulesAt.below HV.out HB.out) HUS.out HVAL.out HM.out).mono ?_
                rintro e w' ⟨rfl, hb'⟩
                have hE' := HE.out.below hb'
                have hB' := below_next HB.out hb'
                clear HE HB
                have HE := Lib.hid hE'
                have HB := Lib.hid hB'
                clear hb' hE' hB'
                generalize w' = W at *
                go_wp2_with fail
                go_ret
                exact ⟨rfl, HB.out⟩
              · skip
                refine (ignored_at rs _ _ s dir true 0 _ HE.out HPV.out HP.out HI.out).mono ?_
                rintro e w' ⟨rfl, hb'⟩
                have hE' := HE.out.below hb'
                have hB' := below_next HB.out hb'
                clear HE HB
                have HE := Lib.hid hE'
                have HB := Lib.hid hB'
                clear hb' hE' hB'
                generalize w' = W at *
                go_wp2_with fail
                refine (r_valid_o s _ _ (by omega) HVAL.out).mono ?_
                rintro e w' ⟨rfl, hb'⟩
                have hE' := HE.out.below hb'
                have hB' := below_next HB.out hb'
                clear HE HB
                have HE := Lib.hid hE'
                have HB := Lib.hid hB'
                clear hb' hE' hB'
                generalize w' = W at *
                go_wp2_with fail
                refine (r_ignored_is rs us S _ s dir true _ (RulesAt.below HV.out HB.out) HUS.out HVAL.out HM.out).mono ?_
                rintro e w' ⟨rfl, hb'⟩
                have hE' := HE.out.below hb'
                have hB' := below_next HB.out hb'
                clear HE HB
                have HE := Lib.hid hE'
                have HB := Lib.hid hB'
                clear hb' hE' hB'
                generalize w' = W at *
                go_wp2_with fail
                go_ret
                exact ⟨rfl, HB.out⟩

end Go.Proofs.YtlipekkiaiaplaaDoor
