/- Contracts of the laws of chapter 18: rules; the specification's Good over rules. -/
import Derived.Test.YtlipekkiaiaplaaDoorRefJ
import Derived.Test.YtlipekkiaiaplaaDoorParse
import Derived.Test.YtlipekkiaiaplaaDoorAwake
namespace Go.Proofs.YtlipekkiaiaplaaDoor
open Go.RowKit

def RulesRes (rs : List PRule) (w : World) (e : Ending) (w' : World) : Prop := ∃ v, e = .returned v ∧ RulesAt (w.heap.size ≤ ·) w' v rs ∧ Below w.heap.size w w'
set_option maxHeartbeats 1000000 in
theorem rules_any (rs : List PRule) (S : Nat → Prop) (v : Value) (w : World) (hv : RulesAt S w v rs) (hn : rs.length ≤ 300) : Calls Tryd.prog 21 #[v] w (RulesRes rs w) := by
  have HV := Lib.hid hv
  obtain ⟨a, cap, rfl, hc, hcm, -⟩ := hv.cells
  clear hv
  unfold maxLen at hcm
  go_enter Tryd.func21, Tryd.ntmps21
  go_wp2_with fail
  go_loopw [3, 8] (fun v i wr => ∃ k : Nat, k ≤ rs.length ∧ i = .int .i64 k ∧ wr.ownsRow w.heap.size 53 4 v k ((rs.take k).flatMap ruleC) ∧ Below w.heap.size w wr) (fun _ i _ => rs.length - (intOf i).toNat)
  case atStart => exact ⟨0, Nat.zero_le _, rfl, World.ownsRow_nil _ _ _ _, Below.refl _ _⟩
  case round =>
    obtain ⟨k, hk, rfl, hown, hb⟩ := hrel
    have HB := Lib.hid hb
    have HO := Lib.hid hown
    have hsz : w.heap.size ≤ wr.heap.size := hb.size
    obtain ⟨av, cv, rfl, hnv, hmv⟩ := owns_shape hown
    by_cases hlt : k < rs.length
    · obtain ⟨r, hr⟩ : ∃ r, rs[k]? = some r := ⟨rs[k], by simp [hlt]⟩
      obtain ⟨_, _, hv', _, _, hcells⟩ := (RulesAt.below HV.out hb).cells
      cases hv'
      obtain ⟨b, o, rfl, c0, c1, c2, c3⟩ := hcells k r hr
      have HR := Lib.hid hr
      have hsn : (rs.take (k + 1)).flatMap ruleC = (rs.take k).flatMap ruleC ++ ruleC r := by rw [List.take_add_one, hr]; simp
      have HSN := Lib.hid hsn
      clear hr hcells hb hown hsn
      have HO2 := Lib.hid (show World.ownsRow (wr.alloc (.cells #[.string ⟨r.pat.toArray⟩, .bool r.keep, .bool r.dir, .bool r.rooted] 30)) w.heap.size 53 4 (.slice av k cv) k ((rs.take k).flatMap ruleC) from HO.out.alloc _)
      go_wp2_with (at_builtin; go_must (refine wpList_app1 Tryd.appRules rfl _ _ rfl w.heap.size (.slice av k cv) k ((rs.take k).flatMap ruleC) rfl (wr.alloc (.cells #[.string ⟨r.pat.toArray⟩, .bool r.keep, .bool r.dir, .bool r.rooted] 30)) (ruleC r) _ (by rw [alloc_size]; rfl) rfl (by simp [ruleC]; exact ⟨rfl, rfl, rfl, rfl⟩) HO2.out (by omega) (by simp; omega) ?_); intro v' w3 hown1 hgrow1 _)
      have HO1 := Lib.hid hown1
      have HG1 := Lib.hid hgrow1
      clear hown1 hgrow1
      go_wp2_with fail
      go_roundw
      case rel =>
        refine ⟨k + 1, by omega, by go_num, ?_, ?_⟩
        · have := HO1.out; rw [HSN.out]; exact this
        · exact below_grown (HB.out.alloc hsz _) HO2.out HG1.out (Nat.le_refl _) (by simp; omega)
      case measure => simp [intOf]; omega
    · obtain rfl : k = rs.length := by omega
      clear hown hb
      go_wp2_with fail
      go_ret
      refine ⟨_, rfl, ?_, HB.out⟩
      have := HO.out
      rw [List.take_length] at this
      exact SeqAt.mono (rules_of_owns this) (by omega) (fun k _ hk => hk) (fun _ _ _ h => h)

theorem r_good_is (r : PRule) (o : Bool) (w : World) (hs : r.pat.length ≤ 65536) (h : goodR r = o) :
    Calls Tryd.prog 19 #[.agg #[.string ⟨r.pat.toArray⟩, .bool r.keep, .bool r.dir, .bool r.rooted]] w fun e w' => e = .returned (.bool o) ∧ Below w.heap.size w w' := by
  refine (r_good_any ⟨r.pat.toArray⟩ r.keep r.dir r.rooted w (by rw [size_bl, bl_mk]; exact hs)).mono ?_
  rintro e w' ⟨rfl, hb⟩
  rw [bl_mk, h]; exact ⟨rfl, hb⟩

end Go.Proofs.YtlipekkiaiaplaaDoor
