/- Rules that came in: the form's reading of []kinkeepref18.Rule as rows of rules. -/
import Derived.Test.YtlipekkiaiaplaaDoorOpen
import Derived.Lib.SmallJoins
namespace Go.Proofs.YtlipekkiaiaplaaDoor
open Go.ChangeShapes Go.WideShapes Go.ChangeAt Go.RowKit Go.Lib Go.Shelf

def RuleRB (c : List Value) (r : PRule) : Prop := c = ruleC r ∧ r.pat.length ≤ maxLen
theorem rules_of_seq {S : Nat → Prop} {w : World} {v : Value} {rs : List PRule} (h : SeqAt S w 4 RuleRB v rs) : RulesAt S w v rs ∧ ∀ r ∈ rs, r.pat.length ≤ maxLen := by
  obtain ⟨cells, h1, h2⟩ := h
  have : ∀ (cells : List Value) (rs : List PRule), RowsIn RuleRB cells rs → RowsIn RuleR cells rs ∧ ∀ r ∈ rs, r.pat.length ≤ maxLen := by
    intro cells rs
    induction rs generalizing cells with
    | nil => intro h; exact ⟨h, by simp⟩
    | cons x xs ih =>
      rintro ⟨c, rest, rfl, ⟨rfl, hx⟩, hr⟩
      obtain ⟨e1, e2⟩ := ih rest hr
      refine ⟨⟨_, rest, rfl, rfl, e1⟩, fun y hy => ?_⟩
      rcases List.mem_cons.1 hy with rfl | hy
      · exact hx
      · exact e2 y hy
  obtain ⟨e1, e2⟩ := this cells rs h2
  exact ⟨⟨cells, h1, e1⟩, e2⟩
theorem cellsRule : Tryd.prog.cellsOf 30 = 4 := by kernel_rfl
theorem cellsBool : Tryd.prog.cellsOf 4 = 1 := by kernel_rfl
theorem list4 {α : Type} {cs : List α} (h : cs.length = 4) : ∃ c0 c1 c2 c3, cs = [c0, c1, c2, c3] := by
  match cs, h with
  | [c0, c1, c2, c3], _ => exact ⟨c0, c1, c2, c3, rfl⟩
set_option maxRecDepth 100000 in
theorem open_rules {H : Type} {enc : TypeId × Value → H} {W : World} {base b0 : Nat} {spare : Nat → Bool} {held : Bool} {v : Value} {d : DataW H} {ps : List MemPlace}
    (hval : Value.okWide Tryd.prog W .any b0 28 v) (h : DataW.Trod enc Tryd.prog W base spare held 28 v d ps) : ∃ rs, RulesAt (fun _ => True) W v rs ∧ ∀ r ∈ rs, r.pat.length ≤ maxLen := by
  have hR : ∀ n cs y, DataW.trod enc Tryd.prog W base spare held n 30 cs = some y → ∃ x, RuleRB cs x := fun n cs y hy => by
    obtain ⟨y0, y1, y2, y3, m, _, hl, h0, h1, h2, h3⟩ := Joins.trod_struct4 Tryd.underlying30 hy
    rw [cellsRule] at hl
    obtain ⟨c0, c1, c2, c3, rfl⟩ := list4 hl
    simp only [cellsStr, cellsBool] at h0 h1 h2 h3
    obtain ⟨s, e0, _, hs⟩ := DataW.trod_string Tryd.underlying9 h0
    obtain ⟨k, e1, _⟩ := DataW.trod_bool Tryd.underlying4 h1
    obtain ⟨d, e2, _⟩ := DataW.trod_bool Tryd.underlying4 h2
    obtain ⟨r, e3, _⟩ := DataW.trod_bool Tryd.underlying4 h3
    simp at e0 e1 e2 e3
    subst e0 e1 e2 e3
    refine ⟨⟨bl s, k, d, r⟩, ?_, ?_⟩
    · simp only [ruleC, mk_bl]
    · rw [size_bl] at hs; exact hs
  have hs : ∀ c x, RuleRB c x → c.length = 4 := fun c x hx => by rw [hx.1]; rfl
  obtain ⟨xs, hx⟩ := @open_seq H enc Tryd.prog W base PRule RuleRB 28 30 4 b0 spare held v d ps Tryd.underlying28 cellsRule (by omega) hR hs hval h
  exact ⟨xs, rules_of_seq hx⟩

end Go.Proofs.YtlipekkiaiaplaaDoor
