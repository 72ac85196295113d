/- Contracts of package pathname: Rule.line, parseLine, Parse. -/
import Derived.Test.YtlipekkiaiaplaaDoorRules
namespace Go.Proofs.YtlipekkiaiaplaaDoor
open Go.RowKit

def zeroRule : Value := .agg #[.string ⟨#[]⟩, .bool false, .bool false, .bool false]
def parseLineV (o : Option PRule) : Value := match o with
  | some r => .tuple #[ruleV r, .bool true]
  | none => .tuple #[zeroRule, .bool false]

def CutP (s p : ByteArray) (w : World) (e : Ending) (w' : World) : Prop := ∃ s1 b, e = .returned (.tuple #[.string s1, .bool b]) ∧ bl s1 = Lib.trimPrefix (bl s) (bl p) ∧ b = Lib.hasPrefix (bl s) (bl p) ∧ w = w'
def CutS (s p : ByteArray) (w : World) (e : Ending) (w' : World) : Prop := ∃ s1 b, e = .returned (.tuple #[.string s1, .bool b]) ∧ bl s1 = Lib.trimSuffix (bl s) (bl p) ∧ b = Lib.hasSuffix (bl s) (bl p) ∧ w = w'
theorem cutPrefix_ex (s p : ByteArray) (w : World) : Calls Tryd.prog 78 #[.string s, .string p] w (CutP s p w) :=
  (cutPrefix_any s p w).mono fun _ _ ⟨he, hw⟩ => ⟨_, _, he, bl_mk _, rfl, hw⟩
theorem cutSuffix_ex (s p : ByteArray) (w : World) (hs : s.size ≤ 9223372036854775807) : Calls Tryd.prog 79 #[.string s, .string p] w (CutS s p w) :=
  (cutSuffix_any s p w hs).mono fun _ _ ⟨he, hw⟩ => ⟨_, _, he, bl_mk _, rfl, hw⟩
theorem trimPrefix_len (l p : List UInt8) : (Lib.trimPrefix l p).length ≤ l.length := by
  unfold Lib.trimPrefix; split <;> simp
theorem trimSuffix_len (l p : List UInt8) : (Lib.trimSuffix l p).length ≤ l.length := by
  unfold Lib.trimSuffix; split <;> simp <;> omega

set_option maxHeartbeats 1000000 in
theorem parseLine_any (s : ByteArray) (w : World) (he : Env w) (hs : s.size ≤ 65536) :
    Calls Tryd.prog 58 #[.string s] w fun e w' => e = .returned (parseLineV (parseLineS (bl s))) ∧ Below w.heap.size w w' := by
  have HE := Lib.hid he
  clear he
  go_enter Tryd.func58, Tryd.ntmps58
  go_wp2_with fail
  refine (cutPrefix_ex s ⟨#[33]⟩ _).mono ?_
  rintro e w' ⟨s1, b1, rfl, h1, h1', rfl⟩
  have H1 := Lib.hid h1
  have H1' := Lib.hid h1'
  have hl1 : s1.size ≤ 65536 := by have := trimPrefix_len (bl s) (bl ⟨#[33]⟩); rw [← h1, ← size_bl, ← size_bl] at this; omega
  clear h1 h1'
  go_wp2_with fail
  refine (cutPrefix_ex s1 ⟨#[47]⟩ _).mono ?_
  rintro e w' ⟨s2, b2, rfl, h2, h2', rfl⟩
  have H2 := Lib.hid h2
  have H2' := Lib.hid h2'
  have hl2 : s2.size ≤ 65536 := by have := trimPrefix_len (bl s1) (bl ⟨#[47]⟩); rw [← h2, ← size_bl, ← size_bl] at this; omega
  clear h2 h2'
  go_wp2_with fail
  refine (cutSuffix_ex s2 ⟨#[47]⟩ _ (by omega)).mono ?_
  rintro e w' ⟨s3, b3, rfl, h3, h3', rfl⟩
  have H3 := Lib.hid h3
  have H3' := Lib.hid h3'
  have hl3 : s3.size ≤ 65536 := by have := trimSuffix_len (bl s2) (bl ⟨#[47]⟩); rw [← h3, ← size_bl, ← size_bl] at this; omega
  clear h3 h3'
  have hru : ruleS (bl s) = ⟨bl s3, b1, b3, b2 || (bl s3).contains 47⟩ := by
    rw [H3.out, H1'.out, H3'.out, H2'.out, H2.out, H1.out]; rfl
  cases b2
  · rw [Bool.false_or] at hru
    cases hct : (bl s3).contains 47
    · have HCT := Lib.hid hct
      rw [hct] at hru
      have HRU := Lib.hid hru
      clear hct hru
      go_wp2_with fail
      refine (contains_is s3 47 false _ HCT.out).mono ?_
      rintro e w' ⟨rfl, rfl⟩
      go_wp2_with fail
      have hcp : compileS (ruleS (bl s)) = compileS ⟨bl s3, b1, b3, false⟩ := by rw [HRU.out]
      have HCP := Lib.hid hcp
      clear hcp
      have hb0 : Below w.heap.size w ((w.alloc (.cells #[.string ⟨#[]⟩, .bool false, .bool false, .bool false] 53)).alloc (.cells #[.string s3, .bool b1, .bool b3, .bool false] 53)) := ((Below.refl _ _).alloc (Nat.le_refl _) _).alloc (by simp) _
      have HB0 := Lib.hid hb0
      clear hb0
      cases hcs : compileS ⟨bl s3, b1, b3, false⟩ with
      | none =>
        have HCS := Lib.hid hcs
        clear hcs
        refine (compile_any s3 b1 b3 false _ (HE.out.below HB0.out) (by omega)).mono ?_
        rw [HCS.out]
        rintro e w3 ⟨rfl, hb3⟩
        have hres : w3.heap[w.heap.size]? = some (.cells #[.string ⟨#[]⟩, .bool false, .bool false, .bool false] 53 (0, 0)) := by
          rw [hb3.block _ (by simp; omega), Below.heap_alloc _ _ _ (by simp)]; exact heap_alloc_new w _
        have hb3' := below_next HB0.out hb3
        have HB3 := Lib.hid hb3'
        clear hb3 hb3'
        have r0 : w3.cell? ⟨w.heap.size, 0, none⟩ = some (.string ⟨#[]⟩) := by rw [cell_of_heap hres]; rfl
        have r1 : w3.cell? ⟨w.heap.size, 1, none⟩ = some (.bool false) := by rw [cell_of_heap hres]; rfl
        have r2 : w3.cell? ⟨w.heap.size, 2, none⟩ = some (.bool false) := by rw [cell_of_heap hres]; rfl
        have r3 : w3.cell? ⟨w.heap.size, 3, none⟩ = some (.bool false) := by rw [cell_of_heap hres]; rfl
        have f0 : w3.frozen? ⟨w.heap.size, 0, none⟩ = false := frozen_of_heap hres
        have f1 : w3.frozen? ⟨w.heap.size, 1, none⟩ = false := frozen_of_heap hres
        have f2 : w3.frozen? ⟨w.heap.size, 2, none⟩ = false := frozen_of_heap hres
        have f3 : w3.frozen? ⟨w.heap.size, 3, none⟩ = false := frozen_of_heap hres
        have HR := Lib.hid hres
        clear hres
        go_wp2_with fail
        obtain ⟨W, hW⟩ : ∃ W, W = ((((w3.setCell ⟨w.heap.size, 0, none⟩ (.string ⟨#[]⟩)).setCell ⟨w.heap.size, 1, none⟩ (.bool false)).setCell ⟨w.heap.size, 2, none⟩ (.bool false)).setCell ⟨w.heap.size, 3, none⟩ (.bool false)) := ⟨_, rfl⟩
        rw [← hW]
        have h4 := set4 HR.out (.string ⟨#[]⟩) (.bool false) (.bool false) (.bool false)
        rw [← hW] at h4
        obtain ⟨h41, h42⟩ := h4
        have m0 : W.cell? ⟨w.heap.size, 0, none⟩ = some (.string ⟨#[]⟩) := by rw [cell_of_heap h41]; rfl
        have m1 : W.cell? ⟨w.heap.size, 1, none⟩ = some (.bool false) := by rw [cell_of_heap h41]; rfl
        have m2 : W.cell? ⟨w.heap.size, 2, none⟩ = some (.bool false) := by rw [cell_of_heap h41]; rfl
        have m3 : W.cell? ⟨w.heap.size, 3, none⟩ = some (.bool false) := by rw [cell_of_heap h41]; rfl
        clear hW
        refine bodyPost_ret (v := .tuple #[.agg #[.string ⟨#[]⟩, .bool false, .bool false, .bool false], .bool false]) (by simp [results, Tryd.results58, go_sem, m0, m1, m2, m3]) rfl ?_
        refine ⟨?_, HB3.out.grown h42 HB3.out.size (fun k hk => by cases hk; exact Nat.le_refl _)⟩
        rw [parseLineS, HCP.out, HCS.out]; rfl
      | some cs =>
        have HCS := Lib.hid hcs
        clear hcs
        refine (compile_any s3 b1 b3 false _ (HE.out.below HB0.out) (by omega)).mono ?_
        rw [HCS.out]
        rintro e w3 ⟨pv, rfl, hpv, hb3⟩
        clear hpv
        have hres : w3.heap[w.heap.size]? = some (.cells #[.string ⟨#[]⟩, .bool false, .bool false, .bool false] 53 (0, 0)) := by
          rw [hb3.block _ (by simp; omega), Below.heap_alloc _ _ _ (by simp)]; exact heap_alloc_new w _
        have hbox : w3.heap[w.heap.size + 1]? = some (.cells #[.string s3, .bool b1, .bool b3, .bool false] 53 (0, 0)) := by
          rw [hb3.block _ (by simp)]
          have := heap_alloc_new (w.alloc (.cells #[.string ⟨#[]⟩, .bool false, .bool false, .bool false] 53)) (.cells #[.string s3, .bool b1, .bool b3, .bool false] 53)
          simpa using this
        have n0 : w3.cell? ⟨w.heap.size + 1, 0, none⟩ = some (.string s3) := by rw [cell_of_heap hbox]; rfl
        have n1 : w3.cell? ⟨w.heap.size + 1, 1, none⟩ = some (.bool b1) := by rw [cell_of_heap hbox]; rfl
        have n2 : w3.cell? ⟨w.heap.size + 1, 2, none⟩ = some (.bool b3) := by rw [cell_of_heap hbox]; rfl
        have n3 : w3.cell? ⟨w.heap.size + 1, 3, none⟩ = some (.bool false) := by rw [cell_of_heap hbox]; rfl
        clear hbox
        have hb3' := below_next HB0.out hb3
        have HB3 := Lib.hid hb3'
        clear hb3 hb3'
        have r0 : w3.cell? ⟨w.heap.size, 0, none⟩ = some (.string ⟨#[]⟩) := by rw [cell_of_heap hres]; rfl
        have r1 : w3.cell? ⟨w.heap.size, 1, none⟩ = some (.bool false) := by rw [cell_of_heap hres]; rfl
        have r2 : w3.cell? ⟨w.heap.size, 2, none⟩ = some (.bool false) := by rw [cell_of_heap hres]; rfl
        have r3 : w3.cell? ⟨w.heap.size, 3, none⟩ = some (.bool false) := by rw [cell_of_heap hres]; rfl
        have f0 : w3.frozen? ⟨w.heap.size, 0, none⟩ = false := frozen_of_heap hres
        have f1 : w3.frozen? ⟨w.heap.size, 1, none⟩ = false := frozen_of_heap hres
        have f2 : w3.frozen? ⟨w.heap.size, 2, none⟩ = false := frozen_of_heap hres
        have f3 : w3.frozen? ⟨w.heap.size, 3, none⟩ = false := frozen_of_heap hres
        have HR := Lib.hid hres
        clear hres
        go_wp2_with fail
        obtain ⟨W, hW⟩ : ∃ W, W = ((((w3.setCell ⟨w.heap.size, 0, none⟩ (.string s3)).setCell ⟨w.heap.size, 1, none⟩ (.bool b1)).setCell ⟨w.heap.size, 2, none⟩ (.bool b3)).setCell ⟨w.heap.size, 3, none⟩ (.bool false)) := ⟨_, rfl⟩
        rw [← hW]
        have h4 := set4 HR.out (.string s3) (.bool b1) (.bool b3) (.bool false)
        rw [← hW] at h4
        obtain ⟨h41, h42⟩ := h4
        have m0 : W.cell? ⟨w.heap.size, 0, none⟩ = some (.string s3) := by rw [cell_of_heap h41]; rfl
        have m1 : W.cell? ⟨w.heap.size, 1, none⟩ = some (.bool b1) := by rw [cell_of_heap h41]; rfl
        have m2 : W.cell? ⟨w.heap.size, 2, none⟩ = some (.bool b3) := by rw [cell_of_heap h41]; rfl
        have m3 : W.cell? ⟨w.heap.size, 3, none⟩ = some (.bool false) := by rw [cell_of_heap h41]; rfl
        clear hW
        refine bodyPost_ret (v := .tuple #[.agg #[.string s3, .bool b1, .bool b3, .bool false], .bool true]) (by simp [results, Tryd.results58, go_sem, m0, m1, m2, m3]) rfl ?_
        refine ⟨?_, HB3.out.grown h42 HB3.out.size (fun k hk => by cases hk; exact Nat.le_refl _)⟩
        rw [parseLineS, HCP.out, HCS.out]
        simp only [Option.isSome_some, if_true, HRU.out, parseLineV, ruleV, mk_bl]
    · have HCT := Lib.hid hct
      rw [hct] at hru
      have HRU := Lib.hid hru
      clear hct hru
      go_wp2_with fail
      refine (contains_is s3 47 true _ HCT.out).mono ?_
      rintro e w' ⟨rfl, rfl⟩
      go_wp2_with fail
      have hcp : compileS (ruleS (bl s)) = compileS ⟨bl s3, b1, b3, true⟩ := by rw [HRU.out]
      have HCP := Lib.hid hcp
      clear hcp
      have hb0 : Below w.heap.size w ((w.alloc (.cells #[.string ⟨#[]⟩, .bool false, .bool false, .bool false] 53)).alloc (.cells #[.string s3, .bool b1, .bool b3, .bool true] 53)) := ((Below.refl _ _).alloc (Nat.le_refl _) _).alloc (by simp) _
      have HB0 := Lib.hid hb0
      clear hb0
      cases hcs : compileS ⟨bl s3, b1, b3, true⟩ with
      | none =>
        have HCS := Lib.hid hcs
        clear hcs
        refine (compile_any s3 b1 b3 true _ (HE.out.below HB0.out) (by omega)).mono ?_
        rw [HCS.out]
        rintro e w3 ⟨rfl, hb3⟩
        have hres : w3.heap[w.heap.size]? = some (.cells #[.string ⟨#[]⟩, .bool false, .bool false, .bool false] 53 (0, 0)) := by
          rw [hb3.block _ (by simp; omega), Below.heap_alloc _ _ _ (by simp)]; exact heap_alloc_new w _
        have hb3' := below_next HB0.out hb3
        have HB3 := Lib.hid hb3'
        clear hb3 hb3'
        have r0 : w3.cell? ⟨w.heap.size, 0, none⟩ = some (.string ⟨#[]⟩) := by rw [cell_of_heap hres]; rfl
        have r1 : w3.cell? ⟨w.heap.size, 1, none⟩ = some (.bool false) := by rw [cell_of_heap hres]; rfl
        have r2 : w3.cell? ⟨w.heap.size, 2, none⟩ = some (.bool false) := by rw [cell_of_heap hres]; rfl
        have r3 : w3.cell? ⟨w.heap.size, 3, none⟩ = some (.bool false) := by rw [cell_of_heap hres]; rfl
        have f0 : w3.frozen? ⟨w.heap.size, 0, none⟩ = false := frozen_of_heap hres
        have f1 : w3.frozen? ⟨w.heap.size, 1, none⟩ = false := frozen_of_heap hres
        have f2 : w3.frozen? ⟨w.heap.size, 2, none⟩ = false := frozen_of_heap hres
        have f3 : w3.frozen? ⟨w.heap.size, 3, none⟩ = false := frozen_of_heap hres
        have HR := Lib.hid hres
        clear hres
        go_wp2_with fail
        obtain ⟨W, hW⟩ : ∃ W, W = ((((w3.setCell ⟨w.heap.size, 0, none⟩ (.string ⟨#[]⟩)).setCell ⟨w.heap.size, 1, none⟩ (.bool false)).setCell ⟨w.heap.size, 2, none⟩ (.bool false)).setCell ⟨w.heap.size, 3, none⟩ (.bool false)) := ⟨_, rfl⟩
        rw [← hW]
        have h4 := set4 HR.out (.string ⟨#[]⟩) (.bool false) (.bool false) (.bool false)
        rw [← hW] at h4
        obtain ⟨h41, h42⟩ := h4
        have m0 : W.cell? ⟨w.heap.size, 0, none⟩ = some (.string ⟨#[]⟩) := by rw [cell_of_heap h41]; rfl
        have m1 : W.cell? ⟨w.heap.size, 1, none⟩ = some (.bool false) := by rw [cell_of_heap h41]; rfl
        have m2 : W.cell? ⟨w.heap.size, 2, none⟩ = some (.bool false) := by rw [cell_of_heap h41]; rfl
        have m3 : W.cell? ⟨w.heap.size, 3, none⟩ = some (.bool false) := by rw [cell_of_heap h41]; rfl
        clear hW
        refine bodyPost_ret (v := .tuple #[.agg #[.string ⟨#[]⟩, .bool false, .bool false, .bool false], .bool false]) (by simp [results, Tryd.results58, go_sem, m0, m1, m2, m3]) rfl ?_
        refine ⟨?_, HB3.out.grown h42 HB3.out.size (fun k hk => by cases hk; exact Nat.le_refl _)⟩
        rw [parseLineS, HCP.out, HCS.out]; rfl
      | some cs =>
        have HCS := Lib.hid hcs
        clear hcs
        refine (compile_any s3 b1 b3 true _ (HE.out.below HB0.out) (by omega)).mono ?_
        rw [HCS.out]
        rintro e w3 ⟨pv, rfl, hpv, hb3⟩
        clear hpv
        have hres : w3.heap[w.heap.size]? = some (.cells #[.string ⟨#[]⟩, .bool false, .bool false, .bool false] 53 (0, 0)) := by
          rw [hb3.block _ (by simp; omega), Below.heap_alloc _ _ _ (by simp)]; exact heap_alloc_new w _
        have hbox : w3.heap[w.heap.size + 1]? = some (.cells #[.string s3, .bool b1, .bool b3, .bool true] 53 (0, 0)) := by
          rw [hb3.block _ (by simp)]
          have := heap_alloc_new (w.alloc (.cells #[.string ⟨#[]⟩, .bool false, .bool false, .bool false] 53)) (.cells #[.string s3, .bool b1, .bool b3, .bool true] 53)
          simpa using this
        have n0 : w3.cell? ⟨w.heap.size + 1, 0, none⟩ = some (.string s3) := by rw [cell_of_heap hbox]; rfl
        have n1 : w3.cell? ⟨w.heap.size + 1, 1, none⟩ = some (.bool b1) := by rw [cell_of_heap hbox]; rfl
        have n2 : w3.cell? ⟨w.heap.size + 1, 2, none⟩ = some (.bool b3) := by rw [cell_of_heap hbox]; rfl
        have n3 : w3.cell? ⟨w.heap.size + 1, 3, none⟩ = some (.bool true) := by rw [cell_of_heap hbox]; rfl
        clear hbox
        have hb3' := below_next HB0.out hb3
        have HB3 := Lib.hid hb3'
        clear hb3 hb3'
        have r0 : w3.cell? ⟨w.heap.size, 0, none⟩ = some (.string ⟨#[]⟩) := by rw [cell_of_heap hres]; rfl
        have r1 : w3.cell? ⟨w.heap.size, 1, none⟩ = some (.bool false) := by rw [cell_of_heap hres]; rfl
        have r2 : w3.cell? ⟨w.heap.size, 2, none⟩ = some (.bool false) := by rw [cell_of_heap hres]; rfl
        have r3 : w3.cell? ⟨w.heap.size, 3, none⟩ = some (.bool false) := by rw [cell_of_heap hres]; rfl
        have f0 : w3.frozen? ⟨w.heap.size, 0, none⟩ = false := frozen_of_heap hres
        have f1 : w3.frozen? ⟨w.heap.size, 1, none⟩ = false := frozen_of_heap hres
        have f2 : w3.frozen? ⟨w.heap.size, 2, none⟩ = false := frozen_of_heap hres
        have f3 : w3.frozen? ⟨w.heap.size, 3, none⟩ = false := frozen_of_heap hres
        have HR := Lib.hid hres
        clear hres
        go_wp2_with fail
        obtain ⟨W, hW⟩ : ∃ W, W = ((((w3.setCell ⟨w.heap.size, 0, none⟩ (.string s3)).setCell ⟨w.heap.size, 1, none⟩ (.bool b1)).setCell ⟨w.heap.size, 2, none⟩ (.bool b3)).setCell ⟨w.heap.size, 3, none⟩ (.bool true)) := ⟨_, rfl⟩
        rw [← hW]
        have h4 := set4 HR.out (.string s3) (.bool b1) (.bool b3) (.bool true)
        rw [← hW] at h4
        obtain ⟨h41, h42⟩ := h4
        have m0 : W.cell? ⟨w.heap.size, 0, none⟩ = some (.string s3) := by rw [cell_of_heap h41]; rfl
        have m1 : W.cell? ⟨w.heap.size, 1, none⟩ = some (.bool b1) := by rw [cell_of_heap h41]; rfl
        have m2 : W.cell? ⟨w.heap.size, 2, none⟩ = some (.bool b3) := by rw [cell_of_heap h41]; rfl
        have m3 : W.cell? ⟨w.heap.size, 3, none⟩ = some (.bool true) := by rw [cell_of_heap h41]; rfl
        clear hW
        refine bodyPost_ret (v := .tuple #[.agg #[.string s3, .bool b1, .bool b3, .bool true], .bool true]) (by simp [results, Tryd.results58, go_sem, m0, m1, m2, m3]) rfl ?_
        refine ⟨?_, HB3.out.grown h42 HB3.out.size (fun k hk => by cases hk; exact Nat.le_refl _)⟩
        rw [parseLineS, HCP.out, HCS.out]
        simp only [Option.isSome_some, if_true, HRU.out, parseLineV, ruleV, mk_bl]
  · rw [Bool.true_or] at hru
    have HRU := Lib.hid hru
    clear hru
    go_wp2_with fail
    have hcp : compileS (ruleS (bl s)) = compileS ⟨bl s3, b1, b3, true⟩ := by rw [HRU.out]
    have HCP := Lib.hid hcp
    clear hcp
    have hb0 : Below w.heap.size w ((w.alloc (.cells #[.string ⟨#[]⟩, .bool false, .bool false, .bool false] 53)).alloc (.cells #[.string s3, .bool b1, .bool b3, .bool true] 53)) := ((Below.refl _ _).alloc (Nat.le_refl _) _).alloc (by simp) _
    have HB0 := Lib.hid hb0
    clear hb0
    cases hcs : compileS ⟨bl s3, b1, b3, true⟩ with
    | none =>
      have HCS := Lib.hid hcs
      clear hcs
      refine (compile_any s3 b1 b3 true _ (HE.out.below HB0.out) (by omega)).mono ?_
      rw [HCS.out]
      rintro e w3 ⟨rfl, hb3⟩
      have hres : w3.heap[w.heap.size]? = some (.cells #[.string ⟨#[]⟩, .bool false, .bool false, .bool false] 53 (0, 0)) := by
        rw [hb3.block _ (by simp; omega), Below.heap_alloc _ _ _ (by simp)]; exact heap_alloc_new w _
      have hb3' := below_next HB0.out hb3
      have HB3 := Lib.hid hb3'
      clear hb3 hb3'
      have r0 : w3.cell? ⟨w.heap.size, 0, none⟩ = some (.string ⟨#[]⟩) := by rw [cell_of_heap hres]; rfl
      have r1 : w3.cell? ⟨w.heap.size, 1, none⟩ = some (.bool false) := by rw [cell_of_heap hres]; rfl
      have r2 : w3.cell? ⟨w.heap.size, 2, none⟩ = some (.bool false) := by rw [cell_of_heap hres]; rfl
      have r3 : w3.cell? ⟨w.heap.size, 3, none⟩ = some (.bool false) := by rw [cell_of_heap hres]; rfl
      have f0 : w3.frozen? ⟨w.heap.size, 0, none⟩ = false := frozen_of_heap hres
      have f1 : w3.frozen? ⟨w.heap.size, 1, none⟩ = false := frozen_of_heap hres
      have f2 : w3.frozen? ⟨w.heap.size, 2, none⟩ = false := frozen_of_heap hres
      have f3 : w3.frozen? ⟨w.heap.size, 3, none⟩ = false := frozen_of_heap hres
      have HR := Lib.hid hres
      clear hres
      go_wp2_with fail
      obtain ⟨W, hW⟩ : ∃ W, W = ((((w3.setCell ⟨w.heap.size, 0, none⟩ (.string ⟨#[]⟩)).setCell ⟨w.heap.size, 1, none⟩ (.bool false)).setCell ⟨w.heap.size, 2, none⟩ (.bool false)).setCell ⟨w.heap.size, 3, none⟩ (.bool false)) := ⟨_, rfl⟩
      rw [← hW]
      have h4 := set4 HR.out (.string ⟨#[]⟩) (.bool false) (.bool false) (.bool false)
      rw [← hW] at h4
      obtain ⟨h41, h42⟩ := h4
      have m0 : W.cell? ⟨w.heap.size, 0, none⟩ = some (.string ⟨#[]⟩) := by rw [cell_of_heap h41]; rfl
      have m1 : W.cell? ⟨w.heap.size, 1, none⟩ = some (.bool false) := by rw [cell_of_heap h41]; rfl
      have m2 : W.cell? ⟨w.heap.size, 2, none⟩ = some (.bool false) := by rw [cell_of_heap h41]; rfl
      have m3 : W.cell? ⟨w.heap.size, 3, none⟩ = some (.bool false) := by rw [cell_of_heap h41]; rfl
      clear hW
      refine bodyPost_ret (v := .tuple #[.agg #[.string ⟨#[]⟩, .bool false, .bool false, .bool false], .bool false]) (by simp [results, Tryd.results58, go_sem, m0, m1, m2, m3]) rfl ?_
      refine ⟨?_, HB3.out.grown h42 HB3.out.size (fun k hk => by cases hk; exact Nat.le_refl _)⟩
      rw [parseLineS, HCP.out, HCS.out]; rfl
    | some cs =>
      have HCS := Lib.hid hcs
      clear hcs
      refine (compile_any s3 b1 b3 true _ (HE.out.below HB0.out) (by omega)).mono ?_
      rw [HCS.out]
      rintro e w3 ⟨pv, rfl, hpv, hb3⟩
      clear hpv
      have hres : w3.heap[w.heap.size]? = some (.cells #[.string ⟨#[]⟩, .bool false, .bool false, .bool false] 53 (0, 0)) := by
        rw [hb3.block _ (by simp; omega), Below.heap_alloc _ _ _ (by simp)]; exact heap_alloc_new w _
      have hbox : w3.heap[w.heap.size + 1]? = some (.cells #[.string s3, .bool b1, .bool b3, .bool true] 53 (0, 0)) := by
        rw [hb3.block _ (by simp)]
        have := heap_alloc_new (w.alloc (.cells #[.string ⟨#[]⟩, .bool false, .bool false, .bool false] 53)) (.cells #[.string s3, .bool b1, .bool b3, .bool true] 53)
        simpa using this
      have n0 : w3.cell? ⟨w.heap.size + 1, 0, none⟩ = some (.string s3) := by rw [cell_of_heap hbox]; rfl
      have n1 : w3.cell? ⟨w.heap.size + 1, 1, none⟩ = some (.bool b1) := by rw [cell_of_heap hbox]; rfl
      have n2 : w3.cell? ⟨w.heap.size + 1, 2, none⟩ = some (.bool b3) := by rw [cell_of_heap hbox]; rfl
      have n3 : w3.cell? ⟨w.heap.size + 1, 3, none⟩ = some (.bool true) := by rw [cell_of_heap hbox]; rfl
      clear hbox
      have hb3' := below_next HB0.out hb3
      have HB3 := Lib.hid hb3'
      clear hb3 hb3'
      have r0 : w3.cell? ⟨w.heap.size, 0, none⟩ = some (.string ⟨#[]⟩) := by rw [cell_of_heap hres]; rfl
      have r1 : w3.cell? ⟨w.heap.size, 1, none⟩ = some (.bool false) := by rw [cell_of_heap hres]; rfl
      have r2 : w3.cell? ⟨w.heap.size, 2, none⟩ = some (.bool false) := by rw [cell_of_heap hres]; rfl
      have r3 : w3.cell? ⟨w.heap.size, 3, none⟩ = some (.bool false) := by rw [cell_of_heap hres]; rfl
      have f0 : w3.frozen? ⟨w.heap.size, 0, none⟩ = false := frozen_of_heap hres
      have f1 : w3.frozen? ⟨w.heap.size, 1, none⟩ = false := frozen_of_heap hres
      have f2 : w3.frozen? ⟨w.heap.size, 2, none⟩ = false := frozen_of_heap hres
      have f3 : w3.frozen? ⟨w.heap.size, 3, none⟩ = false := frozen_of_heap hres
      have HR := Lib.hid hres
      clear hres
      go_wp2_with fail
      obtain ⟨W, hW⟩ : ∃ W, W = ((((w3.setCell ⟨w.heap.size, 0, none⟩ (.string s3)).setCell ⟨w.heap.size, 1, none⟩ (.bool b1)).setCell ⟨w.heap.size, 2, none⟩ (.bool b3)).setCell ⟨w.heap.size, 3, none⟩ (.bool true)) := ⟨_, rfl⟩
      rw [← hW]
      have h4 := set4 HR.out (.string s3) (.bool b1) (.bool b3) (.bool true)
      rw [← hW] at h4
      obtain ⟨h41, h42⟩ := h4
      have m0 : W.cell? ⟨w.heap.size, 0, none⟩ = some (.string s3) := by rw [cell_of_heap h41]; rfl
      have m1 : W.cell? ⟨w.heap.size, 1, none⟩ = some (.bool b1) := by rw [cell_of_heap h41]; rfl
      have m2 : W.cell? ⟨w.heap.size, 2, none⟩ = some (.bool b3) := by rw [cell_of_heap h41]; rfl
      have m3 : W.cell? ⟨w.heap.size, 3, none⟩ = some (.bool true) := by rw [cell_of_heap h41]; rfl
      clear hW
      refine bodyPost_ret (v := .tuple #[.agg #[.string s3, .bool b1, .bool b3, .bool true], .bool true]) (by simp [results, Tryd.results58, go_sem, m0, m1, m2, m3]) rfl ?_
      refine ⟨?_, HB3.out.grown h42 HB3.out.size (fun k hk => by cases hk; exact Nat.le_refl _)⟩
      rw [parseLineS, HCP.out, HCS.out]
      simp only [Option.isSome_some, if_true, HRU.out, parseLineV, ruleV, mk_bl]

theorem rows_rules : ∀ rs : List PRule, RowsIn RuleR (rs.flatMap ruleC) rs
  | [] => rfl
  | r :: rs => ⟨ruleC r, rs.flatMap ruleC, by rw [List.flatMap_cons], rfl, rows_rules rs⟩
theorem Tryd.appRules : AppTy Tryd.prog 33 53 4 24 := AppTy.mk' (z := .agg #[.string ByteArray.empty, .bool false, .bool false, .bool false]) Tryd.underlying33 (by kernel_rfl) rfl (by decide) (by decide)
theorem rules_of_owns {w : World} {base : Nat} {v : Value} {rs : List PRule} (h : w.ownsRow base 53 4 v rs.length (rs.flatMap ruleC)) : RulesAt (base ≤ ·) w v rs :=
  ⟨rs.flatMap ruleC, (row_of_owns h).weak (fun _ hk => hk.1), rows_rules rs⟩

theorem owns_below {w w' : World} {base : Nat} {e : TypeId} {sz : Nat} {v : Value} {n : Nat} {xs : List Value} (h : w.ownsRow base e sz v n xs) (hb : Below w.heap.size w w') : w'.ownsRow base e sz v n xs :=
  h.kept (grownBy.of_below (r := none) hb) (by cases v.ownBlock <;> simp)
theorem alloc_size (w : World) (o : Obj) : (w.alloc o).heap.size = w.heap.size + 1 := by simp
/-- What Parse leaves. -/
def ParseRes (o : List PRule × Int × Int) (w : World) (e : Ending) (w' : World) : Prop :=
  ∃ v, e = .returned (.tuple #[v, .int .i64 o.2.1, .int .i64 o.2.2]) ∧ RulesAt (w.heap.size ≤ ·) w' v o.1 ∧ Below w.heap.size w w'
theorem rules_nil {S : Nat → Prop} {w : World} : RulesAt S w (.slice none 0 0) [] := SeqAt.nil

theorem parse_skip {ls : List (List UInt8)} {k : Nat} {acc : List PRule} {l : List UInt8} (h : ls[k]? = some l) (hl : l = [] ∨ Lib.hasPrefix l [35] = true) : parseS (ls.drop k) k acc = parseS (ls.drop (k + 1)) (k + 1) acc := by
  obtain ⟨hk, rfl⟩ := List.getElem?_eq_some_iff.1 h
  rw [List.drop_eq_getElem_cons hk, parseS, if_pos hl]
theorem parse_bad {ls : List (List UInt8)} {k : Nat} {acc : List PRule} {l : List UInt8} (h : ls[k]? = some l) (h1 : l ≠ []) (h2 : Lib.hasPrefix l [35] = false) (hp : parseLineS l = none) : parseS (ls.drop k) k acc = ([], (k : Int) + 1, 3) := by
  obtain ⟨hk, rfl⟩ := List.getElem?_eq_some_iff.1 h
  rw [List.drop_eq_getElem_cons hk, parseS, if_neg (by rw [h2]; simp [h1]), hp]
theorem parse_full {ls : List (List UInt8)} {k : Nat} {acc : List PRule} {l : List UInt8} {r : PRule} (h : ls[k]? = some l) (h1 : l ≠ []) (h2 : Lib.hasPrefix l [35] = false) (hp : parseLineS l = some r) (ha : acc.length = 256) : parseS (ls.drop k) k acc = ([], (k : Int) + 1, 2) := by
  obtain ⟨hk, rfl⟩ := List.getElem?_eq_some_iff.1 h
  rw [List.drop_eq_getElem_cons hk, parseS, if_neg (by rw [h2]; simp [h1]), hp]
  simp [ha]
theorem parse_add {ls : List (List UInt8)} {k : Nat} {acc : List PRule} {l : List UInt8} {r : PRule} (h : ls[k]? = some l) (h1 : l ≠ []) (h2 : Lib.hasPrefix l [35] = false) (hp : parseLineS l = some r) (ha : ¬ acc.length = 256) : parseS (ls.drop k) k acc = parseS (ls.drop (k + 1)) (k + 1) (acc ++ [r]) := by
  obtain ⟨hk, rfl⟩ := List.getElem?_eq_some_iff.1 h
  rw [List.drop_eq_getElem_cons hk, parseS, if_neg (by rw [h2]; simp [h1]), hp]
  simp [ha]

set_option maxHeartbeats 2000000 in
theorem parse_any (s : ByteArray) (w : World) (he : Env w) : Calls Tryd.prog 33 #[.string s] w (ParseRes (parseE (bl s)) w) := by
  have HE := Lib.hid he
  clear he
  by_cases h6 : s.size ≤ 65536
  · have hpe : parseE (bl s) = parseS (splitL 10 (bl s)) 0 [] := by unfold parseE; rw [if_neg (by rw [← size_bl]; omega)]
    have HPE := Lib.hid hpe
    clear hpe
    go_enter Tryd.func33, Tryd.ntmps33
    go_wp2_with fail
    refine (split_any s 10 w HE.out (by omega)).mono ?_
    rintro e w' ⟨xs, hx, rfl, rfl⟩
    have hxl : xs.length ≤ 65537 := by
      have h1 : (splitL 10 (bl s)).length = xs.length := by rw [← hx]; simp
      have h2 := splitL_len_le 10 (bl s)
      rw [← size_bl] at h2
      omega
    have HX := Lib.hid hx
    clear hx
    go_wp2_with fail
    go_loopw [5, 16] (fun v i wr => ∃ (k : Nat) (rs : List PRule), k ≤ xs.length ∧ rs.length ≤ 256 ∧ i = .int .i64 k ∧ wr.ownsRow (w.heap.size + 1) 53 4 v rs.length (rs.flatMap ruleC) ∧
        Below (w.heap.size + 1) (w.alloc (.cells (xs.map Value.string).toArray 9)) wr ∧ parseS (splitL 10 (bl s)) 0 [] = parseS ((xs.map bl).drop k) k rs) (fun _ i _ => xs.length - (intOf i).toNat)
    case atStart => exact ⟨0, [], Nat.zero_le _, Nat.zero_le _, rfl, World.ownsRow_nil _ _ _ _, Below.refl _ _, by rw [HX.out]; rfl⟩
    case round =>
      obtain ⟨k, rs, hk, hrs, rfl, hown, hb, hc⟩ := hrel
      have HC := Lib.hid hc
      have HB := Lib.hid hb
      have HO := Lib.hid hown
      have hsz : w.heap.size + 1 ≤ wr.heap.size := by have := hb.size; simpa using this
      have hbw : Below w.heap.size w wr := below_next ((Below.refl _ _).alloc (Nat.le_refl _) _) (by simpa using hb)
      have HBW := Lib.hid hbw
      obtain ⟨av, cv, rfl, hnv, hmv⟩ := owns_shape hown
      clear hbw
      by_cases hlt : k < xs.length
      · obtain ⟨x, hx⟩ : ∃ x, xs[k]? = some x := ⟨xs[k], by simp [hlt]⟩
        have hcell : wr.cell? ⟨w.heap.size, k, none⟩ = some (.string x) := (hb.cell (p := ⟨w.heap.size, k, none⟩) (by simp)).trans (row_cell (map_get hx))
        have hxs : x.size ≤ 65536 := by have := part_size HX.out hx; omega
        have HK := Lib.hid hx
        clear hx hb hc hown
        have HP := Lib.hid (show (xs.map bl)[k]? = some (bl x) by simp [HK.out])
        by_cases h0 : bl x = []
        · have e0 : x.toList.isEmpty = true := by rw [toList_bl, h0]; rfl
          have H0 := Lib.hid h0
          clear h0
          go_wp2_with fail
          go_roundw
          case rel => exact ⟨k + 1, rs, by omega, hrs, by go_num, HO.out, HB.out, by rw [HC.out]; exact parse_skip HP.out (.inl H0.out)⟩
          case measure => simp [intOf]; omega
        · have e0 : x.toList.isEmpty = false := by rw [toList_bl]; simpa using h0
          have H0 := Lib.hid h0
          clear h0
          cases hh : Lib.hasPrefix (bl x) [35]
          · have HH := Lib.hid hh
            clear hh
            go_wp2_with fail
            refine (hasPrefix_is x ⟨#[35]⟩ false _ HH.out).mono ?_
            rintro e w' ⟨rfl, rfl⟩
            go_wp2_with fail
            cases hpl : parseLineS (bl x) with
            | none =>
              have HPL := Lib.hid hpl
              clear hpl
              refine (parseLine_any x wr (HE.out.below HBW.out) hxs).mono ?_
              rw [HPL.out]
              rintro e w2 ⟨rfl, hb2⟩
              have HB2 := Lib.hid hb2
              clear hb2
              simp only [parseLineV, zeroRule]
              go_wp2_with fail
              go_ret3
              refine ⟨.slice none 0 0, ?_, ?_, below_next (below_next HBW.out HB2.out) ((Below.refl _ _).alloc (Nat.le_refl _) _)⟩
              · rw [HPE.out, HC.out, parse_bad HP.out H0.out HH.out HPL.out]; rfl
              · rw [HPE.out, HC.out, parse_bad HP.out H0.out HH.out HPL.out]; exact rules_nil
            | some r =>
              have HPL := Lib.hid hpl
              clear hpl
              refine (parseLine_any x wr (HE.out.below HBW.out) hxs).mono ?_
              rw [HPL.out]
              rintro e w2 ⟨rfl, hb2⟩
              have HB2 := Lib.hid hb2
              have hsz2 := hb2.size
              clear hb2
              obtain ⟨rp, rk, rd, rr⟩ := r
              simp only [parseLineV, ruleV]
              by_cases hfull : rs.length = 256
              · have ef : ((rs.length : Int) == 256) = true := by rw [hfull]; rfl
                have HF := Lib.hid hfull
                clear hfull
                go_wp2_with fail
                go_ret3
                refine ⟨.slice none 0 0, ?_, ?_, below_next (below_next HBW.out HB2.out) ((Below.refl _ _).alloc (Nat.le_refl _) _)⟩
                · rw [HPE.out, HC.out, parse_full HP.out H0.out HH.out HPL.out HF.out]; rfl
                · rw [HPE.out, HC.out, parse_full HP.out H0.out HH.out HPL.out HF.out]; exact rules_nil
              · have ef : ((rs.length : Int) == 256) = false := by rw [beq_eq_false_iff_ne]; omega
                have HF := Lib.hid hfull
                have hlt2 : rs.length < 256 := by omega
                clear hfull
                have HO2 := Lib.hid (show World.ownsRow (w2.alloc (.cells #[.string ⟨rp.toArray⟩, .bool rk, .bool rd, .bool rr] 53)) (w.heap.size + 1) 53 4 (.slice av rs.length cv) rs.length (rs.flatMap ruleC) from (owns_below HO.out HB2.out).alloc _)
                go_wp2_with (at_builtin; go_must (refine wpList_app1 Tryd.appRules rfl _ _ rfl (w.heap.size + 1) (.slice av rs.length cv) rs.length (rs.flatMap ruleC) rfl (w2.alloc (.cells #[.string ⟨rp.toArray⟩, .bool rk, .bool rd, .bool rr] 53)) (ruleC ⟨rp, rk, rd, rr⟩) _ (by rw [alloc_size]; rfl) rfl (by simp [ruleC]; exact ⟨rfl, rfl, rfl, rfl⟩) HO2.out (by omega) (by simp; omega) ?_); intro v' w3 hown1 hgrow1 _)
                have HO1 := Lib.hid hown1
                have HG1 := Lib.hid hgrow1
                clear hown1 hgrow1
                go_wp2_with fail
                go_roundw
                case rel =>
                  refine ⟨k + 1, rs ++ [⟨rp, rk, rd, rr⟩], by omega, by simp; omega, by go_num, ?_, ?_, by rw [HC.out]; exact parse_add HP.out H0.out HH.out HPL.out HF.out⟩
                  · have := HO1.out; simpa using this
                  · exact below_grown (((HB.out.trans (HB2.out.mono hsz)).alloc (by omega) _)) HO2.out HG1.out (Nat.le_refl _) (by simp; omega)
                case measure => simp [intOf]; omega
          · have HH := Lib.hid hh
            clear hh
            go_wp2_with fail
            refine (hasPrefix_is x ⟨#[35]⟩ true _ HH.out).mono ?_
            rintro e w' ⟨rfl, rfl⟩
            go_wp2_with fail
            go_roundw
            case rel => exact ⟨k + 1, rs, by omega, hrs, by go_num, HO.out, HB.out, by rw [HC.out]; exact parse_skip HP.out (.inr HH.out)⟩
            case measure => simp [intOf]; omega
      · clear hb hc hown
        go_wp2_with fail
        go_ret3
        have hfin : parseE (bl s) = (rs, 0, 0) := by
          rw [HPE.out, HC.out, List.drop_eq_nil_of_le (by simp; omega)]; rfl
        refine ⟨.slice av rs.length cv, by rw [hfin]; rfl, ?_, HBW.out⟩
        rw [hfin]
        exact SeqAt.mono (rules_of_owns HO.out) (by omega) (fun k _ hk => by omega) (fun _ _ _ h => h)
  · have hpe : parseE (bl s) = ([], 0, 2) := by unfold parseE; rw [if_pos (by rw [← size_bl]; omega)]
    have HPE := Lib.hid hpe
    clear hpe
    go_enter Tryd.func33, Tryd.ntmps33
    go_wp2_with fail
    go_ret3
    exact ⟨.slice none 0 0, by rw [HPE.out]; rfl, by rw [HPE.out]; exact rules_nil, Below.refl _ _⟩

end Go.Proofs.YtlipekkiaiaplaaDoor
