/- The chapter's example: awake returns true. -/
import Derived.Test.YtlipekkiaiaplaaDoorIgn
import Derived.Test.YtlipekkiaiaplaaDoorParse
namespace Go.Proofs.YtlipekkiaiaplaaDoor
open Go.RowKit

theorem clean_is (s : ByteArray) (o : Option (List UInt8)) (w : World) (he : Env w) (hs : s.size ≤ 65536) (h : cleanL (bl s) = o) :
    Calls Tryd.prog 29 #[.string s] w fun e w' => e = .returned (cleanV o) ∧ Below w.heap.size w w' := by rw [← h]; exact clean_any s w he hs
theorem match_is (p s : ByteArray) (o : Bool × Int) (w : World) (he : Env w) (hp : p.size ≤ 65536) (h : matchE (bl p) (bl s) = o) :
    Calls Tryd.prog 15 #[.string p, .string s] w fun e w' => e = .returned (matchV o) ∧ Below w.heap.size w w' := by rw [← h]; exact match_any p s w he (by omega)
theorem parse_is (s : ByteArray) (o : List PRule × Int × Int) (w : World) (he : Env w) (h : parseE (bl s) = o) : Calls Tryd.prog 33 #[.string s] w (ParseRes o w) := by rw [← h]; exact parse_any s w he
theorem ignored_is (rs : List PRule) (S : Nat → Prop) (v : Value) (s : ByteArray) (dir : Bool) (o : Bool × Int) (w : World) (he : Env w) (hv : RulesAt S w v rs) (hp : ∀ r ∈ rs, r.pat.length ≤ 65536) (h : ignoredE rs (bl s) dir = o) :
    Calls Tryd.prog 20 #[v, .string s, .bool dir] w fun e w' => e = .returned (ignV o) ∧ Below w.heap.size w w' := by rw [← h]; exact ignored_any rs S v s dir w he hv (fun r hr => by have := hp r hr; omega)
theorem compare_is (a b : ByteArray) (o : Int) (w : World) (ha : a.size ≤ 65536) (h : cmpL (bl a) (bl b) = o) :
    Calls Tryd.prog 25 #[.string a, .string b] w fun e w' => e = .returned (.int .i64 o) ∧ Below w.heap.size w w' := by rw [← h]; exact compare_any a b w (by omega)
theorem valid_is (s : ByteArray) (o : Bool) (w : World) (he : Env w) (h : validP (bl s) = o) : Calls Tryd.prog 23 #[.string s] w fun e w' => e = .returned (.bool o) ∧ Below w.heap.size w w' := by rw [← h]; exact valid_any s w he

def exRules : List PRule := [⟨[42, 46, 116, 109, 112], false, false, false⟩, ⟨[107, 101, 101, 112, 46, 116, 109, 112], true, false, false⟩, ⟨[98, 117, 105, 108, 100], false, true, true⟩, ⟨[98, 47, 99], false, false, true⟩]
theorem ex1 : cleanL (bl ⟨#[47, 97, 47, 46, 47, 98, 47, 47, 46, 46, 47, 99]⟩) = some [97, 47, 99] := by decide +kernel
theorem ex2 : cleanL (bl ⟨#[97, 47, 46, 46]⟩) = none := by decide +kernel
theorem ex3 : matchE (bl ⟨#[42, 46, 116, 63, 116]⟩) (bl ⟨#[97, 46, 116, 120, 116]⟩) = (true, 0) := by decide +kernel
theorem ex4 : matchE (bl ⟨#[97, 47, 42, 42, 47, 99]⟩) (bl ⟨#[97, 47, 98, 47, 98, 47, 99]⟩) = (true, 0) := by decide +kernel
theorem ex5 : matchE (bl ⟨#[91, 97]⟩) (bl ⟨#[97]⟩) = (false, 1) := by decide +kernel
theorem ex6 : parseE (bl ⟨#[42, 46, 116, 109, 112, 10, 33, 107, 101, 101, 112, 46, 116, 109, 112, 10, 47, 98, 117, 105, 108, 100, 47, 10, 98, 47, 99, 10]⟩) = (exRules, 0, 0) := by kernel_rfl
theorem ex7 : ignoredE exRules (bl ⟨#[98, 47, 99, 47, 100]⟩) false = (true, 0) := by decide +kernel
theorem ex8 : ignoredE exRules (bl ⟨#[107, 101, 101, 112, 46, 116, 109, 112]⟩) false = (false, 0) := by decide +kernel
theorem ex9 : cmpL (bl ⟨#[97, 47, 98]⟩) (bl ⟨#[97, 32, 98]⟩) = -1 := by decide +kernel
theorem ex10 : validP (bl ⟨#[97]⟩) = true := by decide +kernel
theorem ex11 : validP (bl ⟨#[]⟩) = false := by decide +kernel
theorem exPat : ∀ r ∈ exRules, r.pat.length ≤ 65536 := by decide +kernel

set_option maxRecDepth 100000 in
set_option maxHeartbeats 4000000 in
theorem awake_any (w : World) (he : Env w) : Calls Tryd.prog 14 #[] w fun e w' => e = .returned (.bool true) ∧ Below w.heap.size w w' := by
  have HE := Lib.hid he
  have HB := Lib.hid (Below.refl w.heap.size w)
  clear he
  go_enter Tryd.func14, Tryd.ntmps14
  go_wp2_with fail
  refine (clean_is _ _ _ HE.out (by decide) ex1).mono ?_
  rintro e w' ⟨rfl, hb'⟩
  have hE' := HE.out.below hb'
  have hB' := below_next HB.out hb'
  clear HE HB
  have HE := Lib.hid hE'
  have HB := Lib.hid hB'
  clear hb' hE' hB'
  simp only [cleanV]
  generalize w' = W at *
  go_wp2_with fail
  refine (clean_is _ _ _ HE.out (by decide) ex2).mono ?_
  rintro e w' ⟨rfl, hb'⟩
  have hE' := HE.out.below hb'
  have hB' := below_next HB.out hb'
  clear HE HB
  have HE := Lib.hid hE'
  have HB := Lib.hid hB'
  clear hb' hE' hB'
  simp only [cleanV]
  generalize w' = W at *
  go_wp2_with fail
  refine (match_is _ _ _ _ HE.out (by decide) ex3).mono ?_
  rintro e w' ⟨rfl, hb'⟩
  have hE' := HE.out.below hb'
  have hB' := below_next HB.out hb'
  clear HE HB
  have HE := Lib.hid hE'
  have HB := Lib.hid hB'
  clear hb' hE' hB'
  simp only [matchV]
  generalize w' = W at *
  go_wp2_with fail
  refine (match_is _ _ _ _ HE.out (by decide) ex4).mono ?_
  rintro e w' ⟨rfl, hb'⟩
  have hE' := HE.out.below hb'
  have hB' := below_next HB.out hb'
  clear HE HB
  have HE := Lib.hid hE'
  have HB := Lib.hid hB'
  clear hb' hE' hB'
  simp only [matchV]
  generalize w' = W at *
  go_wp2_with fail
  refine (match_is _ _ _ _ HE.out (by decide) ex5).mono ?_
  rintro e w' ⟨rfl, hb'⟩
  have hE' := HE.out.below hb'
  have hB' := below_next HB.out hb'
  clear HE HB
  have HE := Lib.hid hE'
  have HB := Lib.hid hB'
  clear hb' hE' hB'
  simp only [matchV]
  generalize w' = W at *
  go_wp2_with fail
  refine (parse_is _ _ _ HE.out ex6).mono ?_
  rintro e w' ⟨v, rfl, hv, hb'⟩
  have hE' := HE.out.below hb'
  have hB' := below_next HB.out hb'
  clear HE HB
  have HE := Lib.hid hE'
  have HB := Lib.hid hB'
  have HV := Lib.hid hv
  obtain ⟨va, vc, rfl, -, -, -⟩ := hv.cells
  clear hb' hE' hB' hv
  go_wp2_with fail
  refine (ignored_is exRules _ _ _ false _ _ HE.out HV.out exPat ex7).mono ?_
  rintro e w2 ⟨rfl, hb'⟩
  have hE' := HE.out.below hb'
  have hB' := below_next HB.out hb'
  have hv' := HV.out.below hb'
  clear HE HB HV
  have HE := Lib.hid hE'
  have HB := Lib.hid hB'
  have HV := Lib.hid hv'
  clear hb' hE' hB' hv'
  simp only [ignV]
  go_wp2_with fail
  refine (ignored_is exRules _ _ _ false _ _ HE.out HV.out exPat ex8).mono ?_
  rintro e w' ⟨rfl, hb'⟩
  have hE' := HE.out.below hb'
  have hB' := below_next HB.out hb'
  clear HE HB
  have HE := Lib.hid hE'
  have HB := Lib.hid hB'
  clear hb' hE' hB'
  simp only [ignV]
  generalize w' = W at *
  go_wp2_with fail
  refine (compare_is _ _ _ _ (by decide) ex9).mono ?_
  rintro e w' ⟨rfl, hb'⟩
  have hE' := HE.out.below hb'
  have hB' := below_next HB.out hb'
  clear HE HB
  have HE := Lib.hid hE'
  have HB := Lib.hid hB'
  clear hb' hE' hB'
  generalize w' = W at *
  go_wp2_with fail
  refine (valid_is _ _ _ HE.out ex10).mono ?_
  rintro e w' ⟨rfl, hb'⟩
  have hE' := HE.out.below hb'
  have hB' := below_next HB.out hb'
  clear HE HB
  have HE := Lib.hid hE'
  have HB := Lib.hid hB'
  clear hb' hE' hB'
  generalize w' = W at *
  go_wp2_with fail
  refine (valid_is _ _ _ HE.out ex11).mono ?_
  rintro e w' ⟨rfl, hb'⟩
  have hE' := HE.out.below hb'
  have hB' := below_next HB.out hb'
  clear HE HB
  have HE := Lib.hid hE'
  have HB := Lib.hid hB'
  clear hb' hE' hB'
  generalize w' = W at *
  go_wp2_with fail
  go_ret
  exact ⟨rfl, HB.out⟩

end Go.Proofs.YtlipekkiaiaplaaDoor
