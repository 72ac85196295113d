/- A region that draws its order, cut into segments: within a segment the operations leave the world alone, and between segments there is one operation for which all earlier ones are waited for. Then the order of the text serves. -/
import Derived.StillTailTactics
import Derived.WalkKit
namespace Go.Proofs.YtlipekkiaiaplaaDoor
open Go

section
variable {P : Program} {ops : Array Oper} {md : Region.Mode} {w : World}

/-- Every operation before m is waited for by a later one up to m; every operation behind m waits for one from m on. -/
def cutB (md : Region.Mode) (ops : Array Oper) (m : Nat) : Bool :=
  ((List.range m).all fun i => decide (ops.size ≤ m) || (List.range (m + 1)).any fun j => decide (i < j) && Region.waitsFor md ops j i) &&
  ((List.range ops.size).all fun t => decide (t ≤ m) || (List.range t).any fun u => decide (m ≤ u) && Region.waitsFor md ops t u)

theorem cut_waits {m : Nat} {listed : Array Bool} (hc : cutB md ops m = true) (inv : HeadInv md ops m listed) :
    ∀ (d i : Nat), m - i = d → i < m → listed.getD i true = false → ∀ t, m ≤ t → t ∉ Region.ready md ops listed := by
  simp only [cutB, Bool.and_eq_true] at hc
  obtain ⟨hs, hch⟩ := hc
  intro d
  induction d using Nat.strongRecOn with
  | _ d ih =>
    intro i hd hi hun t ht hr
    obtain ⟨_, ot, hot, hall⟩ := mem_ready.1 hr
    have htlt : t < ops.size := (Array.getElem?_eq_some_iff.1 hot).1
    rcases Nat.lt_or_ge m t with htm | htm
    · have h1 := List.all_eq_true.1 hch t (List.mem_range.2 htlt)
      simp only [Bool.or_eq_true, decide_eq_true_eq] at h1
      rcases h1 with h1 | h1
      · omega
      · obtain ⟨u, hu, hu2⟩ := List.any_eq_true.1 h1
        simp only [Bool.and_eq_true, decide_eq_true_eq] at hu2
        obtain ⟨o', ho', e, he, hb, hon⟩ := Region.waitsFor_spec hu2.2
        have ho : o' = ot := Option.some.inj (ho'.symm.trans hot)
        subst ho
        have h2 := hall e he hb
        rw [hon, getD_both (inv.tail u hu2.1 (by have := List.mem_range.1 hu; omega))] at h2
        cases h2
    · have htm' : t = m := by omega
      subst htm'
      have h1 := List.all_eq_true.1 hs i (List.mem_range.2 hi)
      simp only [Bool.or_eq_true, decide_eq_true_eq] at h1
      rcases h1 with h1 | h1
      · omega
      · obtain ⟨j, hj, hj2⟩ := List.any_eq_true.1 h1
        simp only [Bool.and_eq_true, decide_eq_true_eq] at hj2
        obtain ⟨oj, hoj, e, he, hb, hon⟩ := Region.waitsFor_spec hj2.2
        have hjle := List.mem_range.1 hj
        rcases Nat.lt_or_ge j t with hjt | hjt
        · cases hl : listed.getD j false with
          | true =>
            have h2 := inv.closed j oj hoj hl e he hb
            rw [hon, getD_both hun] at h2
            cases h2
          | false =>
            exact ih (t - j) (by omega) j rfl hjt (getD_in (by rw [inv.size]; omega) hl) t (Nat.le_refl _) hr
        · have hjt' : j = t := by omega
          subst hjt'
          have ho : oj = ot := Option.some.inj (hoj.symm.trans hot)
          subst ho
          have h2 := hall e he hb
          rw [hon, getD_both hun] at h2
          cases h2

theorem seg_first {m i : Nat} {oi : Oper} {v : Value} {L : Array Bool → Act → Prop} (hi : ops[i]? = some oi) (hsel : ∀ (j : Nat) (o : Oper) cs b, ops[j]? = some o → o.op ≠ .select cs b)
    (hc : cutB md ops m = true) (hin : i < m) (hdone : ∀ listed a, L listed a → ∀ j ∈ Region.ready md ops listed, m ≤ j) :
    ∀ (f : Nat) (listed : Array Bool) (a : Act), HeadInv md ops m listed →
      (∀ j oj, ops[j]? = some oj → j ≠ i → listed.getD j true = false → (∀ e ∈ oj.after, Region.binds md e = true → e.on ≠ i) → oi.apart ops oj = true) →
      i ∈ Region.ready md ops listed → YieldsAt P ops w oi v a →
      wpAnyL P md ops w m L f (listed.setIfInBounds i true) (a.put oi.dst v) → wpAnyL P md ops w m L (f + 1) listed a := by
  intro f
  induction f with
  | zero =>
    intro listed a inv _ hr hy H
    have hun := (mem_ready.1 hr).1
    refine ⟨List.ne_nil_of_mem hr, fun j hj => ?_⟩
    have hjm : j < m := Nat.lt_of_not_le fun h => cut_waits hc inv _ i rfl hin hun j h hj
    refine ⟨hjm, ?_⟩
    by_cases hji : j = i
    · subst hji; exact hy.stOp hi H
    · have := hdone _ _ H j (ready_mono hj hji)
      omega
  | succ f ih =>
    intro listed a inv hfree hr hy H
    have hun := (mem_ready.1 hr).1
    refine ⟨List.ne_nil_of_mem hr, fun j hj => ?_⟩
    have hjm : j < m := Nat.lt_of_not_le fun h => cut_waits hc inv _ i rfl hin hun j h hj
    refine ⟨hjm, ?_⟩
    by_cases hji : j = i
    · subst hji; exact hy.stOp hi H
    · have h1 := (H.2 j (ready_mono hj hji)).2
      obtain ⟨hjun, oj, hoj, hall⟩ := mem_ready.1 hj
      have hnot : ∀ e ∈ oj.after, Region.binds md e = true → e.on ≠ i := fun e he hb heq => by
        have h1 := hall e he hb
        rw [heq, getD_both hun] at h1
        cases h1
      have h2 := stOp_put hoj (hfree j oj hoj hji hjun hnot) (fun cs b => hsel i oi cs b hi) (fun cs b => hsel j oj cs b hoj) hy h1
      refine stOp_mono (fun a' h3 => ih (listed.setIfInBounds j true) a' (inv.set hj hjm) (fun k ok hk hki hunk hno => ?_) (ready_mono hr (Ne.symm hji)) h3.1 ?_) h2
      · refine hfree k ok hk hki ?_ hno
        by_cases hjk : j = k
        · subst hjk; exact hjun
        · rw [getD_set_ne true hjk] at hunk; exact hunk
      · rw [Array.setIfInBounds_comm _ _ hji]
        exact h3.2

/-- The list behind n operations from k on. -/
def behind : Nat → Nat → Array Bool → Array Bool
  | 0, _, listed => listed
  | n + 1, k, listed => behind n (k + 1) (listed.setIfInBounds k true)
/-- The n operations from k on may be taken in the order of the text. -/
def segB (md : Region.Mode) (ops : Array Oper) : Nat → Nat → Array Bool → Bool
  | 0, k, listed => (Region.ready md ops listed).all fun j => decide (k ≤ j)
  | n + 1, k, listed => (Region.ready md ops listed).contains k && Region.free md ops listed k && segB md ops n (k + 1) (listed.setIfInBounds k true)

theorem seg_lex {m : Nat} {Lq : Act → Prop} (hsel : Region.noSelect ops = true) (hc : cutB md ops m = true) (LM : Array Bool) :
    ∀ (l : List Oper) (k : Nat) (listed : Array Bool) (a : Act), (∀ j, j < l.length → l[j]? = ops[k + j]?) → k + l.length = m → HeadInv md ops m listed →
    segB md ops l.length k listed = true → behind l.length k listed = LM → wpStill P ops w Lq l a →
    wpAnyL P md ops w m (fun listed' a' => listed' = LM ∧ Lq a') l.length listed a ∧ ∀ j ∈ Region.ready md ops LM, m ≤ j
  | [], k, listed, a, _, hk, _, hB, hL, h => by
    have hkm : k = m := by simpa using hk
    subst hkm
    have hLM : listed = LM := hL
    subst hLM
    refine ⟨⟨rfl, h⟩, fun j hj => ?_⟩
    have := List.all_eq_true.1 hB j hj
    simpa using this
  | o :: l, k, listed, a, hl, hk, inv, hB, hL, h => by
    have h0 : ops[k]? = some o := by simpa using (hl 0 (by simp)).symm
    simp only [List.length_cons, segB, Bool.and_eq_true] at hB
    obtain ⟨⟨hr, hf⟩, hB'⟩ := hB
    have hkm : k < m := by simp only [List.length_cons] at hk; omega
    have hr' : k ∈ Region.ready md ops listed := by simpa using hr
    have hst : stOp P ops w k (wpStill P ops w Lq l) a := by unfold stOp; simp only [h0]; exact h
    obtain ⟨v, hy, hK⟩ := yieldsAt_of_stOp h0 hst
    have IH := seg_lex hsel hc LM l (k + 1) _ _ (fun j hj => by have := hl (j + 1) (by simp; omega); simpa [Nat.add_assoc, Nat.add_comm 1 j] using this) (by simp only [List.length_cons] at hk; omega) (inv.set hr' hkm) hB' hL hK
    refine ⟨seg_first h0 (Region.noSelect_spec hsel) hc hkm (fun listed' a' hL' => ?_) l.length listed a inv (Region.free_spec h0 hf) hr' hy IH.1, IH.2⟩
    rw [hL'.1]; exact IH.2

/-- The list is closed, and nothing from m on is in it. -/
def headB (md : Region.Mode) (ops : Array Oper) (m : Nat) (listed : Array Bool) : Bool :=
  decide (listed.size = ops.size) &&
  ((List.range ops.size).all fun j => !listed.getD j false || match ops[j]? with | some oj => oj.after.all (fun e => !Region.binds md e || listed.getD e.on false) | none => true) &&
  ((List.range ops.size).all fun t => decide (t < m) || !listed.getD t true)
theorem headB_spec {m : Nat} {listed : Array Bool} (h : headB md ops m listed = true) : HeadInv md ops m listed := by
  simp only [headB, Bool.and_eq_true, decide_eq_true_eq] at h
  obtain ⟨⟨h1, h2⟩, h3⟩ := h
  refine ⟨h1, fun j oj hj hl e he hb => ?_, fun t ht ht2 => ?_⟩
  · have := List.all_eq_true.1 h2 j (List.mem_range.2 (Array.getElem?_eq_some_iff.1 hj).1)
    rw [hl, hj] at this
    simp only [Bool.not_true, Bool.false_or] at this
    have := Array.all_eq_true'.1 this e he
    rw [hb] at this
    simpa using this
  · have := List.all_eq_true.1 h3 t (List.mem_range.2 ht2)
    simp only [Bool.or_eq_true, decide_eq_true_eq] at this
    rcases this with h | h
    · omega
    · simpa using h

/-- The segments: some n: n operations that leave the world alone; none: one operation that all wait for. -/
def segsB (md : Region.Mode) (ops : Array Oper) : List (Option Nat) → Nat → Array Bool → Bool
  | [], k, listed => decide (k = ops.size) && (Region.ready md ops listed).isEmpty
  | some n :: s, k, listed => decide (k + n ≤ ops.size) && cutB md ops (k + n) && headB md ops (k + n) listed && segB md ops n k listed && segsB md ops s (k + n) (behind n k listed)
  | none :: s, k, listed => decide (k < ops.size) && decide (Region.ready md ops listed = [k]) && segsB md ops s (k + 1) (listed.setIfInBounds k true)
/-- A segment, closed to the look of 'whnf'. -/
@[irreducible] def Seg (P : Program) (ops : Array Oper) (w : World) (Q : Act → Prop) (l : List Oper) (a : Act) : Prop := wpStill P ops w Q l a
theorem Seg.out {Q : Act → Prop} {l : List Oper} {a : Act} (h : Seg P ops w Q l a) : wpStill P ops w Q l a := by unfold Seg at h; exact h
theorem Seg.of {Q : Act → Prop} {l : List Oper} {a : Act} (h : wpStill P ops w Q l a) : Seg P ops w Q l a := by unfold Seg; exact h
@[irreducible] def Bar (P : Program) (ops : Array Oper) (next : Act → World → Prop) (Q : Exit → Act → World → Prop) (l : List Oper) (a : Act) (w : World) : Prop := wpList P ops (Exit.then next Q) l a w
theorem Bar.out {next : Act → World → Prop} {Q : Exit → Act → World → Prop} {l : List Oper} {a : Act} (h : Bar P ops next Q l a w) : wpList P ops (Exit.then next Q) l a w := by unfold Bar at h; exact h
theorem Bar.of {next : Act → World → Prop} {Q : Exit → Act → World → Prop} {l : List Oper} {a : Act} (h : wpList P ops (Exit.then next Q) l a w) : Bar P ops next Q l a w := by unfold Bar; exact h
def wpSegs (P : Program) (ops : Array Oper) (Q : Exit → Act → World → Prop) : List (Option Nat) → List Oper → Act → World → Prop
  | [], _, a, w => Q .normal a w
  | some n :: s, l, a, w => Seg P ops w (fun a' => wpSegs P ops Q s (l.drop n) a' w) (l.take n) a
  | none :: s, l, a, w => Bar P ops (fun a' w' => wpSegs P ops Q s (l.drop 1) a' w') Q (l.take 1) a w

theorem wpAny_of_segs {Q : Exit → Act → World → Prop} (hsel : Region.noSelect ops = true) : ∀ (s : List (Option Nat)) (l : List Oper) (k : Nat) (listed : Array Bool) (a : Act) (w : World),
    (∀ j, l[j]? = ops[k + j]?) → segsB md ops s k listed = true → wpSegs P ops Q s l a w → wpAny P md ops Q (ops.size - k) listed a w
  | [], l, k, listed, a, w, hl, hB, h => by
    simp only [segsB, Bool.and_eq_true, decide_eq_true_eq] at hB
    rw [hB.1, Nat.sub_self]
    exact ⟨by simpa using hB.2, h⟩
  | some n :: s, l, k, listed, a, w, hl, hB, h => by
    simp only [segsB, Bool.and_eq_true, decide_eq_true_eq] at hB
    obtain ⟨⟨⟨⟨hn, hc⟩, hh⟩, hs⟩, hB'⟩ := hB
    have hll : l.length = ops.size - k := by
      have h1 : ∀ j, j < l.length ↔ k + j < ops.size := fun j => by
        constructor
        · intro hj; have := hl j; rw [List.getElem?_eq_getElem hj] at this; exact (Array.getElem?_eq_some_iff.1 this.symm).1
        · intro hj; have := hl j; rw [Array.getElem?_eq_getElem hj] at this; exact (List.getElem?_eq_some_iff.1 this).1
      rcases Nat.lt_trichotomy l.length (ops.size - k) with h2 | h2 | h2
      · have := (h1 l.length).2 (by omega); omega
      · exact h2
      · have := (h1 (ops.size - k)).1 h2; omega
    have htl : (l.take n).length = n := by simp; omega
    have H := seg_lex (P := P) (md := md) (w := w) hsel hc (behind n k listed) (l.take n) k listed a (fun j hj => by
      rw [htl] at hj
      rw [List.getElem?_take, if_pos hj]; exact hl j) (by rw [htl]) (headB_spec hh) (by rw [htl]; exact hs) (by rw [htl]) (Seg.out h)
    have := wpAny_of_head (Q' := Q) (g := ops.size - (k + n)) (fun listed' a' hL => by
      rw [hL.1]
      exact wpAny_of_segs hsel s (l.drop n) (k + n) _ a' w (fun j => by rw [List.getElem?_drop, hl, Nat.add_assoc]) hB' hL.2) _ _ _ H.1
    rw [htl, show n + (ops.size - (k + n)) = ops.size - k by omega] at this
    exact this
  | none :: s, l, k, listed, a, w, hl, hB, h => by
    simp only [segsB, Bool.and_eq_true, decide_eq_true_eq] at hB
    obtain ⟨⟨hk, hr⟩, hB'⟩ := hB
    obtain ⟨o, ho⟩ : ∃ o, ops[k]? = some o := ⟨ops[k], by simp [hk]⟩
    have h0 : l[0]? = some o := by rw [hl]; exact ho
    obtain ⟨l', rfl⟩ : ∃ l', l = o :: l' := by
      cases l with
      | nil => simp at h0
      | cons x y => simp at h0; exact ⟨y, by rw [h0]⟩
    rw [show ops.size - k = (ops.size - (k + 1)) + 1 by omega]
    refine ⟨fun h1 => (by rw [hr] at h1; cases h1), fun i hi => ?_⟩
    rw [hr] at hi
    have hik : i = k := by simpa using hi
    subst hik
    have hw : wpOp P ops Q i (fun a' w' => wpSegs P ops Q s l' a' w') a w := by
      unfold wpOp
      simp only [ho]
      exact Bar.out h
    exact wpOp_mono (fun a' w' h' => wpAny_of_segs hsel s l' (i + 1) _ a' w' (fun j => by have := hl (j + 1); simpa [Nat.add_assoc, Nat.add_comm 1 j] using this) hB' h') hw

theorem wp_region_segs {id : Nat} {Q : Exit → Act → World → Prop} {a : Act} {w : World} {l : List Oper} (s : List (Option Nat)) (hm : P.follows .mixedOrders = true) (hsel : Region.noSelect l.toArray = true)
    (hB : segsB .any l.toArray s 0 (Array.replicate l.toArray.size false) = true) (h : wpSegs P l.toArray Q s l a w.drew) : (Code.region id l.toArray true).wp P Q a w := by
  refine wp_region_any hm ?_
  have := wpAny_of_segs (md := .any) (P := P) (Q := Q) hsel s l 0 _ a w.drew (by simp) hB h
  simpa using this

/-- The steps of a segment; the region's operations are laid aside. -/
theorem seg_nil {Q : Act → Prop} {a : Act} (h : Q a) : Seg P ops w Q [] a := Seg.of h
theorem seg_skip {Q : Act → Prop} {a : Act} {o : Oper} {rest : List Oper} (hw : Region.wanted o (yielded ops a.tmps) = false) (h : Seg P ops w Q rest (a.put o.dst undef)) : Seg P ops w Q (o :: rest) a := by
  refine Seg.of ?_
  unfold wpStill; rw [hw]; exact h.out
theorem seg_run {Q : Act → Prop} {a : Act} {dst : Option Tmp} {op : Op} {ty : TypeId} {pos : String} {aft : Array Edge} {g : Option (Nat × Bool)} {rest : List Oper} (hw : Region.wanted ⟨dst, op, ty, pos, aft, g⟩ (yielded ops a.tmps) = true)
    (h : ∀ K : Act → Prop, (∀ a, Seg P ops w Q rest a → K a) → Oper.still P ⟨dst, op, ty, pos, #[], none⟩ a w K) : Seg P ops w Q (⟨dst, op, ty, pos, aft, g⟩ :: rest) a := by
  refine Seg.of ?_
  unfold wpStill; rw [hw]; exact h _ (fun _ h => h.out)
theorem bar_skip {Q : Exit → Act → World → Prop} {next : Act → World → Prop} {a : Act} {o : Oper} (hw : Region.wanted o (yielded ops a.tmps) = false) (h : next (a.put o.dst undef) w) : Bar P ops next Q [o] a w := by
  refine Bar.of ?_
  unfold wpList; rw [hw]; exact h
theorem bar_run {Q : Exit → Act → World → Prop} {next : Act → World → Prop} {a : Act} {dst : Option Tmp} {op : Op} {ty : TypeId} {pos : String} {aft : Array Edge} {g : Option (Nat × Bool)} (hw : Region.wanted ⟨dst, op, ty, pos, aft, g⟩ (yielded ops a.tmps) = true)
    (h : ∀ K : Act → World → Prop, (∀ a w, next a w → K a w) → wpList P #[] (Exit.then K Q) [⟨dst, op, ty, pos, #[], none⟩] a w) : Bar P ops next Q [⟨dst, op, ty, pos, aft, g⟩] a w := by
  refine Bar.of ?_
  have := h _ (fun _ _ h => h)
  unfold wpList at this ⊢
  rw [hw]
  simp only [Region.wanted, if_true] at this
  exact this
end

end Go.Proofs.YtlipekkiaiaplaaDoor
