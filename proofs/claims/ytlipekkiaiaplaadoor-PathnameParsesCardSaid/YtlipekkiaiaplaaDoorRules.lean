/- Rules in memory; parts of rows. -/
import Derived.Test.YtlipekkiaiaplaaDoorMatch
namespace Go.Proofs.YtlipekkiaiaplaaDoor
open Go.RowKit

/-- A rule's cells. -/
def ruleC (r : PRule) : List Value := [.string ⟨r.pat.toArray⟩, .bool r.keep, .bool r.dir, .bool r.rooted]
def RuleR (c : List Value) (r : PRule) : Prop := c = ruleC r
theorem RuleR.len (c : List Value) (r : PRule) (h : RuleR c r) : c.length = 4 := by rw [h]; rfl
def RulesAt (S : Nat → Prop) (w : World) (v : Value) (rs : List PRule) : Prop := SeqAt S w 4 RuleR v rs
theorem RulesAt.below {S : Nat → Prop} {w w' : World} {v : Value} {rs : List PRule} (h : RulesAt S w v rs) (hb : Below w.heap.size w w') : RulesAt S w' v rs := SeqAt.below h (by omega) hb (fun _ _ _ h => h)
theorem RulesAt.cells {S : Nat → Prop} {w : World} {v : Value} {rs : List PRule} (h : RulesAt S w v rs) :
    ∃ a cap, v = .slice a rs.length cap ∧ rs.length ≤ cap ∧ cap ≤ maxLen ∧ ∀ (k : Nat) r, rs[k]? = some r → ∃ b o, a = some ⟨b, o, none⟩ ∧ w.cell? ⟨b, o + k * 4, none⟩ = some (.string ⟨r.pat.toArray⟩) ∧
      w.cell? ⟨b, o + k * 4 + 1, none⟩ = some (.bool r.keep) ∧ w.cell? ⟨b, o + k * 4 + 2, none⟩ = some (.bool r.dir) ∧ w.cell? ⟨b, o + k * 4 + 3, none⟩ = some (.bool r.rooted) := by
  obtain ⟨a, cap, hv, h1, h2, h3⟩ := SeqAt.shape h RuleR.len
  refine ⟨a, cap, hv, h1, h2, fun k r hk => ?_⟩
  obtain ⟨b, o, c, ha, _, hc, _, hj⟩ := h3 k r hk
  rw [RuleR] at hc
  subst hc
  have j0 := hj 0 (by omega)
  have j1 := hj 1 (by omega)
  have j2 := hj 2 (by omega)
  have j3 := hj 3 (by omega)
  exact ⟨b, o, ha, j0, j1, j2, j3⟩

theorem strs_take {S : Nat → Prop} {w : World} {a : Option Addr} {cap n : Nat} {xs : List ByteArray} (h : StrsAt S w (.slice a xs.length cap) xs) (hn : n ≤ xs.length) : StrsAt S w (.slice a n cap) (xs.take n) := by
  obtain ⟨_, a', cap', hv, h1, h2, h0⟩ := h
  cases hv
  have hl : (xs.take n).length = n := by simp; omega
  refine ⟨by simp, a, cap, by rw [hl], by omega, h2, ?_⟩
  rcases h0 with h0 | ⟨b, o, ha, hb, hc⟩
  · left; omega
  · right
    refine ⟨b, o, ha, hb, fun j u hj => hc j u ?_⟩
    rw [List.map_take] at hj
    rw [List.getElem?_take] at hj
    split at hj
    · exact hj
    · simp at hj
theorem strs_drop {S : Nat → Prop} {w : World} {b o cap n : Nat} {xs : List ByteArray} (h : StrsAt S w (.slice (some ⟨b, o, none⟩) xs.length cap) xs) (hn : n < xs.length) (m : Nat) (hm : n + m ≤ xs.length) :
    StrsAt S w (.slice (some ⟨b, o + n, none⟩) m (cap - n)) ((xs.take (n + m)).drop n) := by
  obtain ⟨_, a', cap', hv, h1, h2, h0⟩ := h
  cases hv
  have hl : ((xs.take (n + m)).drop n).length = m := by simp; omega
  refine ⟨by simp, _, _, by rw [hl], by omega, by omega, ?_⟩
  rcases h0 with h0 | ⟨b', o', ha, hb, hc⟩
  · omega
  · cases ha
    right
    refine ⟨b, o + n, rfl, hb, fun j u hj => ?_⟩
    have := hc (n + j) u (by
      rw [List.map_drop, List.map_take, List.getElem?_drop, List.getElem?_take] at hj
      split at hj
      · exact hj
      · simp at hj)
    rw [Nat.add_assoc]; exact this
theorem strs_block {S : Nat → Prop} {w : World} {a : Option Addr} {cap : Nat} {xs : List ByteArray} (h : StrsAt S w (.slice a xs.length cap) xs) (hn : 0 < xs.length) : ∃ b o, a = some ⟨b, o, none⟩ := by
  obtain ⟨_, a', cap', hv, h1, h2, h0⟩ := h
  cases hv
  rcases h0 with h0 | ⟨b', o', ha, hb, hc⟩
  · omega
  · exact ⟨b', o', ha⟩

/-- The patterns of rules. -/
def PatR (S : Nat → Prop) (w : World) (c : List Value) (cs : List PComp) : Prop := ∃ v, c = [v] ∧ CompsAt S w v cs
theorem PatR.len {S : Nat → Prop} {w : World} (c : List Value) (cs : List PComp) (h : PatR S w c cs) : c.length = 1 := by obtain ⟨v, rfl, _⟩ := h; rfl
theorem PatR.move {S T : Nat → Prop} {w w' : World} {c : List Value} {cs : List PComp} (h : PatR S w c cs) (hs : ∀ k, k < w.heap.size → S k → T k ∧ w'.heap[k]? = w.heap[k]?) : PatR T w' c cs := by
  obtain ⟨v, rfl, hr⟩ := h
  exact ⟨v, rfl, hr.move hs⟩
structure PatInv (w : World) (cb n k : Nat) (us : List (List PComp)) (wr : World) : Prop where
  box : ∃ done, RowsIn (PatR (cb < ·) wr) done us ∧ wr.heap[cb]? = some (.cells (done ++ zeros [.slice none 0 0] (n - k)).toArray 62 (0, 0))
  below : Below cb w wr
  lt : cb < wr.heap.size
  len : us.length = k
theorem PatInv.grown {w : World} {cb n k : Nat} {us : List (List PComp)} {wr w' : World} (h : PatInv w cb n k us wr) (hb : Below wr.heap.size wr w') : PatInv w cb n k us w' := by
  obtain ⟨⟨done, hr, hbx⟩, hbl, hlt, hl⟩ := h
  exact ⟨⟨done, hr.mono fun c x _ hc => hc.move fun k hk h2 => ⟨h2, hb.block k hk⟩, by rw [hb.block cb hlt]; exact hbx⟩, hbl.trans (hb.mono (by omega)), Nat.lt_of_lt_of_le hlt hb.size, hl⟩
theorem PatInv.cell {w : World} {cb n k : Nat} {us : List (List PComp)} {wr : World} (h : PatInv w cb n k us wr) (hk : k < n) : wr.cell? ⟨cb, k, none⟩ = some (.slice none 0 0) ∧ wr.frozen? ⟨cb, k, none⟩ = false := by
  obtain ⟨⟨done, hr, hbx⟩, hbl, hlt, hl⟩ := h
  have hdl := hr.len PatR.len
  obtain ⟨m, hm⟩ : ∃ m, n - k = m + 1 := ⟨n - k - 1, by omega⟩
  rw [hm, zeros_succ] at hbx
  refine ⟨?_, frozen_of_heap hbx⟩
  rw [cell_of_heap hbx, List.getElem?_toArray, List.getElem?_append_right (by omega), show k - done.length = 0 by omega]; rfl
theorem PatInv.put {w : World} {cb n k : Nat} {us : List (List PComp)} {cs : List PComp} {wr : World} {v : Value} (h : PatInv w cb n k us wr) (hk : k < n) (hv : CompsAt (cb < ·) wr v cs) : PatInv w cb n (k + 1) (us ++ [cs]) (wr.setCell ⟨cb, k, none⟩ v) := by
  obtain ⟨⟨done, hr, hbx⟩, hbl, hlt, hl⟩ := h
  have hdl := hr.len PatR.len
  obtain ⟨m, hm⟩ : ∃ m, n - k = m + 1 := ⟨n - k - 1, by omega⟩
  rw [hm, zeros_succ] at hbx
  refine ⟨⟨done ++ [v], ?_, ?_⟩, hbl.setCell (by simp) _, by simp [World.setCell]; exact hlt, by simp [hl]⟩
  · refine RowsIn.snoc (hr.mono fun c x _ hc => hc.move fun j hj h2 => ⟨h2, Below.heap_setCell _ _ _ _ (by simp; omega)⟩) ?_
    exact ⟨_, rfl, hv.move fun j hj h2 => ⟨h2, Below.heap_setCell _ _ _ _ (by simp; omega)⟩⟩
  · simp only [World.setCell, Array.getElem?_modify, if_true, hbx, Option.map_some]
    rw [show n - (k + 1) = m by omega]
    simp only [List.setIfInBounds_toArray, Option.some.injEq, Obj.cells.injEq, and_true]
    rw [show k = done.length by omega]
    simp
theorem PatInv.get {w : World} {cb n k : Nat} {us : List (List PComp)} {wr : World} (h : PatInv w cb n k us wr) {i : Nat} {cs : List PComp} (hi : us[i]? = some cs) : ∃ v, wr.cell? ⟨cb, i, none⟩ = some v ∧ CompsAt (cb < ·) wr v cs := by
  obtain ⟨⟨done, hr, hbx⟩, hbl, hlt, hl⟩ := h
  obtain ⟨c, ⟨v, rfl, hv⟩, hj⟩ := hr.get PatR.len hi
  have h0 := hj 0 (by omega)
  simp only [Nat.mul_one, Nat.add_zero, List.getElem?_cons_zero] at h0
  refine ⟨v, ?_, hv⟩
  rw [cell_of_heap hbx, List.getElem?_toArray, List.getElem?_append_left (List.getElem?_eq_some_iff.1 h0).1]
  exact h0

theorem compileAll_snoc : ∀ (rs : List PRule) (r : PRule), compileAll (rs ++ [r]) = match compileAll rs with | none => none | some us => match compileS r with | none => none | some cs => some (us ++ [(r, cs)])
  | [], r => by simp only [List.nil_append, compileAll]; cases compileS r <;> simp
  | q :: rs, r => by
    simp only [List.cons_append, compileAll]
    rw [compileAll_snoc rs r]
    cases compileS q <;> simp
    cases compileAll rs <;> simp
    cases compileS r <;> simp
theorem compileAll_none (rs qs : List PRule) (h : compileAll rs = none) : compileAll (rs ++ qs) = none := by
  induction rs with
  | nil => simp [compileAll] at h
  | cons r rs ih =>
    simp only [List.cons_append, compileAll] at h ⊢
    cases hp : compileS r with
    | none => rfl
    | some c =>
      rw [hp] at h
      simp only at h
      cases hps : compileAll rs with
      | none => simp [ih hps]
      | some cs => rw [hps] at h; simp at h
theorem compileAll_mem : ∀ {rs : List PRule} {us : List (PRule × List PComp)}, compileAll rs = some us → ∀ u ∈ us, compileS u.1 = some u.2
  | [], us, h => by simp [compileAll] at h; subst h; simp
  | r :: rs, us, h => by
    unfold compileAll at h
    split at h
    · simp at h
    · rename_i cs e
      split at h
      · simp at h
      · rename_i u2 e2
        simp at h; subst h
        intro u hu
        rcases List.mem_cons.1 hu with rfl | hu
        · exact e
        · exact compileAll_mem e2 u hu
theorem compileAll_fst : ∀ {rs : List PRule} {us : List (PRule × List PComp)}, compileAll rs = some us → us.map Prod.fst = rs
  | [], us, h => by simp [compileAll] at h; subst h; rfl
  | r :: rs, us, h => by
    unfold compileAll at h
    split at h
    · simp at h
    · split at h
      · simp at h
      · rename_i u2 e2
        simp at h; subst h
        simp [compileAll_fst e2]
theorem compileS_pat {r : PRule} {cs : List PComp} (h : compileS r = some cs) : patS r.pat = some cs := by
  unfold compileS at h
  split at h
  · simp at h
  · split at h
    · simp at h
    · exact h

end Go.Proofs.YtlipekkiaiaplaaDoor
