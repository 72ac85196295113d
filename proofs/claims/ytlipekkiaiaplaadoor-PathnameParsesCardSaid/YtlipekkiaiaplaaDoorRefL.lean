/- Contracts of the specification of chapter 18: Parse. -/
import Derived.Test.YtlipekkiaiaplaaDoorRefK
namespace Go.Proofs.YtlipekkiaiaplaaDoor
open Go.RowKit

theorem Tryd.appRRules : AppTy Tryd.prog 28 30 4 24 := AppTy.mk' (z := .agg #[.string ByteArray.empty, .bool false, .bool false, .bool false]) Tryd.underlying28 (by kernel_rfl) rfl (by decide) (by decide)
theorem rrules_of_owns {w : World} {base : Nat} {v : Value} {rs : List PRule} (h : w.ownsRow base 30 4 v rs.length (rs.flatMap ruleC)) : RulesAt (base ≤ ·) w v rs :=
  ⟨rs.flatMap ruleC, (row_of_owns h).weak (fun _ hk => hk.1), rows_rules rs⟩
theorem r_rule_some (s : ByteArray) (r : PRule) (w : World) (hs : s.size ≤ 65536) (h : parseLineS (bl s) = some r) :
    Calls Tryd.prog 60 #[.string s] w fun e w' => e = .returned (.tuple #[.agg #[.string ⟨r.pat.toArray⟩, .bool r.keep, .bool r.dir, .bool r.rooted], .bool true]) ∧ Below w.heap.size w w' := by
  refine (r_rule_any s w hs).mono ?_
  rintro e w' ⟨⟨p, rfl, hp⟩, hb⟩
  refine ⟨?_, hb⟩
  rw [parseLine_T] at h
  split at h
  · rename_i hc
    cases h
    rw [← hp, mk_bl, hc.2]
    rw [← hp] at hc
    simp [hp]
    rw [← hp]; exact hc.1
  · cases h
def RuleBad (w : World) (e : Ending) (w' : World) : Prop := ∃ p k d r, e = .returned (.tuple #[.agg #[.string p, .bool k, .bool d, .bool r], .bool false]) ∧ Below w.heap.size w w'
theorem r_rule_none (s : ByteArray) (w : World) (hs : s.size ≤ 65536) (h : parseLineS (bl s) = none) : Calls Tryd.prog 60 #[.string s] w (RuleBad w) := by
  refine (r_rule_any s w hs).mono ?_
  rintro e w' ⟨⟨p, rfl, hp⟩, hb⟩
  refine ⟨p, (ruleT (bl s)).keep, (ruleT (bl s)).dir, (ruleT (bl s)).rooted, ?_, hb⟩
  rw [parseLine_T] at h
  split at h
  · cases h
  · rename_i hc
    have : (decide ((ruleT (bl s)).pat ≠ []) && goodR (ruleT (bl s))) = false := by
      rw [Bool.and_eq_false_iff]
      by_cases h1 : (ruleT (bl s)).pat ≠ []
      · right
        cases hg : goodR (ruleT (bl s))
        · rfl
        · exact absurd ⟨h1, hg⟩ hc
      · left; simpa using h1
    rw [this]

theorem splitL_len (c : UInt8) (s : ByteArray) (xs : List ByteArray) (hx : xs.map bl = splitL c (bl s)) : xs.length ≤ s.size + 1 := by
  have h1 : (splitL c (bl s)).length = xs.length := by rw [← hx]; simp
  have h2 := splitL_len_le c (bl s)
  rw [← size_bl] at h2
  omega
set_option maxHeartbeats 2000000 in
theorem r_parse_any (s : ByteArray) (w : World) : Calls Tryd.prog 34 #[.string s] w (ParseRes (parseE (bl s)) w) := by
  by_cases h6 : s.size ≤ 65536
  · have hpe : parseE (bl s) = parseS (splitL 10 (bl s)) 0 [] := by unfold parseE; rw [if_neg (by rw [← size_bl]; omega)]
    have HPE := Lib.hid hpe
    clear hpe
    go_enter Tryd.func34, Tryd.ntmps34
    go_wp2_with fail
    refine (r_lines_any s w (by omega)).mono ?_
    rintro e w1 ⟨v, xs, rfl, hx, hv, hb1⟩
    have hxl : xs.length ≤ 65537 := by have := splitL_len 10 s xs hx; omega
    obtain ⟨a, cap, rfl, hc, hcm, hcell⟩ := hv.shape
    have HX := Lib.hid hx
    have HC0 := Lib.hid hcell
    have HB1 := Lib.hid hb1
    have hsz1 : w.heap.size ≤ w1.heap.size := hb1.size
    clear hx hcell hb1 hv
    unfold maxLen at hcm
    go_wp2_with fail
    go_loopw [5, 16] (fun v i wr => ∃ (k : Nat) (rs : List PRule), k ≤ xs.length ∧ rs.length ≤ 256 ∧ i = .int .i64 k ∧ wr.ownsRow w1.heap.size 30 4 v rs.length (rs.flatMap ruleC) ∧
        Below w1.heap.size w1 wr ∧ parseS (splitL 10 (bl s)) 0 [] = parseS ((xs.map bl).drop k) k rs) (fun _ i _ => xs.length - (intOf i).toNat)
    case atStart => exact ⟨0, [], Nat.zero_le _, Nat.zero_le _, rfl, World.ownsRow_nil _ _ _ _, Below.refl _ _, by rw [HX.out]; rfl⟩
    case round =>
      obtain ⟨k, rs, hk, hrs, rfl, hown, hb, hc⟩ := hrel
      have HC := Lib.hid hc
      have HB := Lib.hid hb
      have HO := Lib.hid hown
      have hsz : w1.heap.size ≤ wr.heap.size := hb.size
      have hbw : Below w.heap.size w wr := below_next HB1.out hb
      have HBW := Lib.hid hbw
      obtain ⟨av, cv, rfl, hnv, hmv⟩ := owns_shape hown
      clear hbw
      by_cases hlt : k < xs.length
      · obtain ⟨x, hx⟩ : ∃ x, xs[k]? = some x := ⟨xs[k], by simp [hlt]⟩
        obtain ⟨b, o, rfl, _, hcl⟩ := HC0.out k x hx
        have hcell : wr.cell? ⟨b, o + k, none⟩ = some (.string x) := (hb.cell (p := ⟨b, o + k, none⟩) (block_lt hcl)).trans hcl
        have hxs : x.size ≤ 65536 := by have := part_size HX.out hx; omega
        have HK := Lib.hid hx
        clear hx hb hc hown hcl
        have HP := Lib.hid (show (xs.map bl)[k]? = some (bl x) by simp [HK.out])
        by_cases h0 : bl x = []
        · have e0 : x.toList.isEmpty = true := by rw [toList_bl, h0]; rfl
          have H0 := Lib.hid h0
          clear h0
          go_wp2_with fail
          go_roundw
          case rel => exact ⟨k + 1, rs, by omega, hrs, by go_num, HO.out, HB.out, by rw [HC.out]; exact parse_skip HP.out (.inl H0.out)⟩
          case measure => simp [intOf]; omega
        · have e0 : x.toList.isEmpty = false := by rw [toList_bl]; simpa using h0
          have hz : 0 < x.size := size_pos (by rw [toList_bl]; exact h0)
          have hfi := first_is hz 35 (by omega)
          have H0 := Lib.hid h0
          clear h0
          cases hh : Lib.hasPrefix (bl x) [35]
          · have e35 : (((x[0].toNat : Nat) : Int) == 35) = false := hfi.symm.trans hh
            have HH := Lib.hid hh
            clear hh hfi
            go_wp2_with fail
            cases hpl : parseLineS (bl x) with
            | none =>
              have HPL := Lib.hid hpl
              clear hpl
              refine (r_rule_none x wr hxs HPL.out).mono ?_
              rintro e w2 ⟨rp, rk, rd, rr, rfl, hb2⟩
              have HB2 := Lib.hid hb2
              clear hb2
              go_wp2_with fail
              go_ret3
              refine ⟨.slice none 0 0, ?_, ?_, below_next (below_next HBW.out HB2.out) ((Below.refl _ _).alloc (Nat.le_refl _) _)⟩
              · rw [HPE.out, HC.out, parse_bad HP.out H0.out HH.out HPL.out]; rfl
              · rw [HPE.out, HC.out, parse_bad HP.out H0.out HH.out HPL.out]; exact rules_nil
            | some r =>
              have HPL := Lib.hid hpl
              clear hpl
              refine (r_rule_some x r wr hxs HPL.out).mono ?_
              rintro e w2 ⟨rfl, hb2⟩
              have HB2 := Lib.hid hb2
              have hsz2 := hb2.size
              clear hb2
              obtain ⟨rp, rk, rd, rr⟩ := r
              by_cases hfull : rs.length = 256
              · have ef : ((rs.length : Int) == 256) = true := by rw [hfull]; rfl
                have HF := Lib.hid hfull
                clear hfull
                go_wp2_with fail
                go_ret3
                refine ⟨.slice none 0 0, ?_, ?_, below_next (below_next HBW.out HB2.out) ((Below.refl _ _).alloc (Nat.le_refl _) _)⟩
                · rw [HPE.out, HC.out, parse_full HP.out H0.out HH.out HPL.out HF.out]; rfl
                · rw [HPE.out, HC.out, parse_full HP.out H0.out HH.out HPL.out HF.out]; exact rules_nil
              · have ef : ((rs.length : Int) == 256) = false := by rw [beq_eq_false_iff_ne]; omega
                have HF := Lib.hid hfull
                have hlt2 : rs.length < 256 := by omega
                clear hfull
                have HO2 := Lib.hid (show World.ownsRow (w2.alloc (.cells #[.string ⟨rp.toArray⟩, .bool rk, .bool rd, .bool rr] 30)) w1.heap.size 30 4 (.slice av rs.length cv) rs.length (rs.flatMap ruleC) from (owns_below HO.out HB2.out).alloc _)
                go_wp2_with (at_builtin; go_must (refine wpList_app1 Tryd.appRRules rfl _ _ rfl w1.heap.size (.slice av rs.length cv) rs.length (rs.flatMap ruleC) rfl (w2.alloc (.cells #[.string ⟨rp.toArray⟩, .bool rk, .bool rd, .bool rr] 30)) (ruleC ⟨rp, rk, rd, rr⟩) _ (by rw [alloc_size]; rfl) rfl (by simp [ruleC]; exact ⟨rfl, rfl, rfl, rfl⟩) HO2.out (by omega) (by simp; omega) ?_); intro v' w3 hown1 hgrow1 _)
                have HO1 := Lib.hid hown1
                have HG1 := Lib.hid hgrow1
                clear hown1 hgrow1
                go_wp2_with fail
                go_roundw
                case rel =>
                  refine ⟨k + 1, rs ++ [⟨rp, rk, rd, rr⟩], by omega, by simp; omega, by go_num, ?_, ?_, by rw [HC.out]; exact parse_add HP.out H0.out HH.out HPL.out HF.out⟩
                  · have := HO1.out; simpa using this
                  · exact below_grown (((HB.out.trans (HB2.out.mono hsz)).alloc (by omega) _)) HO2.out HG1.out (Nat.le_refl _) (by simp; omega)
                case measure => simp [intOf]; omega
          · have e35 : (((x[0].toNat : Nat) : Int) == 35) = true := hfi.symm.trans hh
            have HH := Lib.hid hh
            clear hh hfi
            go_wp2_with fail
            go_roundw
            case rel => exact ⟨k + 1, rs, by omega, hrs, by go_num, HO.out, HB.out, by rw [HC.out]; exact parse_skip HP.out (.inr HH.out)⟩
            case measure => simp [intOf]; omega
      · clear hb hc hown
        go_wp2_with fail
        go_ret3
        have hfin : parseE (bl s) = (rs, 0, 0) := by
          rw [HPE.out, HC.out, List.drop_eq_nil_of_le (by simp; omega)]; rfl
        refine ⟨.slice av rs.length cv, by rw [hfin]; rfl, ?_, HBW.out⟩
        rw [hfin]
        exact SeqAt.mono (rrules_of_owns HO.out) (by omega) (fun k _ hk => by omega) (fun _ _ _ h => h)
  · have hpe : parseE (bl s) = ([], 0, 2) := by unfold parseE; rw [if_pos (by rw [← size_bl]; omega)]
    have HPE := Lib.hid hpe
    clear hpe
    go_enter Tryd.func34, Tryd.ntmps34
    go_wp2_with fail
    go_ret3
    exact ⟨.slice none 0 0, by rw [HPE.out]; rfl, by rw [HPE.out]; exact rules_nil, Below.refl _ _⟩

end Go.Proofs.YtlipekkiaiaplaaDoor
