/- Contracts of package pathname's scanner: items. -/
import Derived.Test.YtlipekkiaiaplaaDoorPatC
import Derived.Test.YtlipekkiaiaplaaDoorSeq
namespace Go.Proofs.YtlipekkiaiaplaaDoor
open Go.RowKit

def ItemR (S : Nat → Prop) (w : World) (c : List Value) (it : PItem) : Prop := ∃ v, c = [.bool it.star, .bool it.any, .bool it.neg, v] ∧ RangesAt S w v it.ranges
theorem ItemR.len {S : Nat → Prop} {w : World} (c : List Value) (it : PItem) (h : ItemR S w c it) : c.length = 4 := by obtain ⟨v, rfl, _⟩ := h; rfl
def ItemsAt (S : Nat → Prop) (w : World) (v : Value) (its : List PItem) : Prop := SeqAt S w 4 (ItemR S w) v its
theorem ItemR.move {S T : Nat → Prop} {w w' : World} {c : List Value} {it : PItem} (h : ItemR S w c it) (hs : ∀ k, k < w.heap.size → S k → T k ∧ w'.heap[k]? = w.heap[k]?) : ItemR T w' c it := by
  obtain ⟨v, rfl, hr⟩ := h
  refine ⟨v, rfl, ?_⟩
  have h1 := RowAt.mono (T := fun k => T k ∧ w'.heap[k]? = w.heap[k]?) hr hs (by omega)
  exact (h1.same (w' := w') (fun k hk => hk.2)).weak (fun k hk => hk.1)
theorem ItemsAt.move {S T : Nat → Prop} {w w' : World} {v : Value} {its : List PItem} (h : ItemsAt S w v its) (hs : ∀ k, k < w.heap.size → S k → T k ∧ w'.heap[k]? = w.heap[k]?) : ItemsAt T w' v its := by
  obtain ⟨cells, h1, h2⟩ := h
  have h3 := RowAt.mono (T := fun k => T k ∧ w'.heap[k]? = w.heap[k]?) h1 hs (by omega)
  exact ⟨cells, (h3.same (w' := w') (fun k hk => hk.2)).weak (fun k hk => hk.1), h2.mono fun c x _ hc => hc.move hs⟩

theorem Tryd.appItems : AppTy Tryd.prog 88 116 4 32 := AppTy.mk' (z := .agg #[.bool false, .bool false, .bool false, .slice none 0 0]) Tryd.underlying88 (by kernel_rfl) rfl (by decide) (by decide)

/-- The state inside items' loop. -/
structure ItsInv (w : World) (sb : Nat) (rest : List Int) (its : List PItem) (v : Value) (wr : World) : Prop where
  scan : ScanAt wr sb rest
  own : ∃ cells, wr.ownsRow w.heap.size 116 4 v its.length cells ∧ RowsIn (ItemR (fun k => w.heap.size ≤ k ∧ some k ≠ v.ownBlock) wr) cells its
  grow : w.grownBy wr (some sb)
  lt : sb < w.heap.size

theorem ItsInv.scanned {w : World} {sb : Nat} {rest rest' : List Int} {its : List PItem} {v : Value} {wr w1 : World} (h : ItsInv w sb rest its v wr) (hs : ScanAt w1 sb rest') (hg : wr.grownBy w1 (some sb)) : ItsInv w sb rest' its v w1 := by
  obtain ⟨_, ⟨cells, ho, hr⟩, hgr, hl⟩ := h
  refine ⟨hs, ⟨cells, ho.kept hg ?_, hr.mono fun c x _ hc => hc.move fun k hk h2 => ⟨h2, hg.block k hk (by simp; omega)⟩⟩, grownBy.trans hgr hg, hl⟩
  cases hv : v.ownBlock with
  | none => exact .inl rfl
  | some k => right; have := (ho.lt k hv).1; simp; omega
theorem ItsInv.alloc {w : World} {sb : Nat} {rest : List Int} {its : List PItem} {v : Value} {wr : World} (h : ItsInv w sb rest its v wr) (o : Obj) : ItsInv w sb rest its v (wr.alloc o) :=
  h.scanned (scan_alloc h.scan _) (World.grownBy_alloc _ _ _)
/-- An item is appended. -/
theorem ItsInv.added {w : World} {sb : Nat} {rest : List Int} {its : List PItem} {v v' rv : Value} {wr w1 : World} {it : PItem} {cells : List Value} (h : ItsInv w sb rest its v wr)
    (hcells : wr.ownsRow w.heap.size 116 4 v its.length cells ∧ RowsIn (ItemR (fun k => w.heap.size ≤ k ∧ some k ≠ v.ownBlock) wr) cells its)
    (hrv : RangesAt (fun k => w.heap.size ≤ k ∧ some k ≠ v.ownBlock) wr rv it.ranges)
    (ho : w1.ownsRow w.heap.size 116 4 v' (its.length + 1) (cells ++ [.bool it.star, .bool it.any, .bool it.neg, rv])) (hg : wr.grownBy w1 v.ownBlock) (hnew : ∀ k, v'.ownBlock = some k → v.ownBlock = some k ∨ wr.heap.size ≤ k) : ItsInv w sb rest (its ++ [it]) v' w1 := by
  obtain ⟨⟨sv, hs1, hs2⟩, _, hgr, hl⟩ := h
  obtain ⟨ho0, hr0⟩ := hcells
  have hsz := hgr.size
  have hmove : ∀ k, k < wr.heap.size → (w.heap.size ≤ k ∧ some k ≠ v.ownBlock) → (w.heap.size ≤ k ∧ some k ≠ v'.ownBlock) ∧ w1.heap[k]? = wr.heap[k]? := by
    intro k hk ⟨h1, h2⟩
    refine ⟨⟨h1, fun e => ?_⟩, hg.block k hk h2⟩
    rcases hnew k e.symm with h3 | h3
    · exact h2 h3.symm
    · omega
  have hold : ∀ k, k < w.heap.size → w1.heap[k]? = wr.heap[k]? := fun k hk => hg.block k (by omega) (fun e => by have := (ho0.lt k e.symm).1; omega)
  refine ⟨⟨sv, by rw [hold sb hl]; exact hs1, hs2.same fun k hk => hold k (by omega)⟩, ⟨_, by simpa using ho, ?_⟩, ?_, hl⟩
  · refine RowsIn.snoc (hr0.mono fun c x _ hc => hc.move hmove) ?_
    exact ItemR.move (w := wr) ⟨rv, rfl, hrv⟩ hmove
  · exact ⟨hg.os.trans hgr.os, hg.tape.trans hgr.tape, hg.output.trans hgr.output, by have := hg.size; omega, fun k hk hk2 => (hold k hk).trans (hgr.block k hk hk2)⟩


def ItemsOk (sb : Nat) (its : List PItem) (w : World) (e : Ending) (w' : World) : Prop :=
  ∃ v, e = .returned (.tuple #[v, .bool true]) ∧ ItemsAt (w.heap.size ≤ ·) w' v its ∧ w.grownBy w' (some sb)
def ItemsRes (sb : Nat) (o : Option (List PItem)) (w : World) (e : Ending) (w' : World) : Prop :=
  match o with
  | some its => ItemsOk sb its w e w'
  | none => e = .returned (.tuple #[.slice none 0 0, .bool false]) ∧ w.grownBy w' (some sb)

set_option maxHeartbeats 2000000 in
theorem items_any (sb : Nat) (rs : List Int) (w : World) (h : ScanAt w sb rs) (ht : rs.length < 1099511627775) : Calls Tryd.prog 66 #[.pointer (some ⟨sb, 0, none⟩)] w (ItemsRes sb (itemsL rs) w) := by
  have hlt := h.lt
  have H0 := Lib.hid h
  clear h
  go_enter Tryd.func66, Tryd.ntmps66
  go_wp2_with fail
  go_loopw [4] (fun v wr => ∃ (rest : List Int) (its : List PItem), ItsInv w sb rest its v wr ∧ its.length + rest.length ≤ rs.length ∧ itemsL rs = (itemsL rest).map (its ++ ·)) (fun _ wr => scanLen sb wr)
  case atStart => exact ⟨rs, [], ⟨H0.out, ⟨[], World.ownsRow_nil _ _ _ _, rfl⟩, grownBy.refl _ _, hlt⟩, by simp, by cases itemsL rs <;> simp⟩
  case round =>
    obtain ⟨rest, its, hI, hal, hc⟩ := hrel
    have HI := Lib.hid hI
    have HC := Lib.hid hc
    clear hc
    obtain ⟨a, cap, k0, -⟩ := hI.scan.open
    clear hI
    cases rest with
    | nil =>
      simp only [List.length_nil] at k0
      go_wp2_with fail
      go_ret2
      have hnil : itemsL rs = some its := by rw [HC.out]; simp [itemsL, itemsS]
      rw [hnil]
      obtain ⟨cells, ho, hr⟩ := HI.out.own
      refine ⟨u4, rfl, ⟨cells, (row_of_owns ho).weak (fun k hk => hk.1), hr.mono fun c x _ hc => hc.move fun k _ hk => ⟨hk.1, rfl⟩⟩, HI.out.grow⟩
    | cons r t =>
      simp only [List.length_cons] at k0 hal
      have ht' : t.length < 1099511627775 := by omega
      obtain ⟨n, hn⟩ : ∃ n, n = t.length := ⟨_, rfl⟩
      rw [← hn] at k0
      have HN := Lib.hid hn
      clear hn
      go_wp2_with fail
      cases hi : itemS (r :: t) with
      | none =>
        have HIt := Lib.hid hi
        clear hi
        refine (item_any sb r t wr HI.out.scan ht').mono ?_
        rw [HIt.out]
        rintro e w1 ⟨b0, b1, b2, x, nx, cx, u, rfl, hs1, hg1⟩
        have HI1 := Lib.hid (HI.out.scanned hs1 hg1)
        clear hs1 hg1
        go_wp2_with fail
        go_ret2
        rw [HC.out, itemsL_bad (by simp) HIt.out]
        exact ⟨rfl, grownBy.trans HI1.out.grow (World.grownBy_alloc _ _ _)⟩
      | some p =>
        obtain ⟨it, u⟩ := p
        have hl1 := itemS_len hi
        simp only [List.length_cons] at hl1
        have HIt := Lib.hid hi
        clear hi
        refine (item_any sb r t wr HI.out.scan ht').mono ?_
        rw [HIt.out]
        rintro e w1 ⟨rv, rfl, hrv, hs1, hg1⟩
        obtain ⟨_, av, cv, rfl, _⟩ := id hrv
        have HI1 := Lib.hid ((HI.out.scanned hs1 hg1).alloc (.cells #[.bool it.star, .bool it.any, .bool it.neg, .slice av it.ranges.length cv] 116))
        have hrv2 : RangesAt (fun k => w.heap.size ≤ k ∧ some k ≠ u4.ownBlock) (w1.alloc (.cells #[.bool it.star, .bool it.any, .bool it.neg, .slice av it.ranges.length cv] 116)) (.slice av it.ranges.length cv) it.ranges := by
          have hsz := HI.out.grow.size
          obtain ⟨cells, ho, -⟩ := HI.out.own
          have h5 := RowAt.weak (T := fun k => w.heap.size ≤ k ∧ some k ≠ u4.ownBlock) hrv (fun k hk => ⟨by omega, fun e => by have := (ho.lt k e.symm).2; omega⟩)
          exact h5.below (by omega) ((Below.refl _ _).alloc (Nat.le_refl _) _)
        have HRV := Lib.hid hrv2
        clear hs1 hg1 hrv hrv2
        obtain ⟨cells, hcells⟩ := HI1.out.own
        have HCE := Lib.hid hcells
        clear hcells
        go_wp2_with (at_builtin; go_must (refine wpList_app1p Tryd.appItems rfl _ _ rfl w.heap.size u4 its.length cells rfl (w1.alloc (.cells #[.bool it.star, .bool it.any, .bool it.neg, .slice av it.ranges.length cv] 116)) [.bool it.star, .bool it.any, .bool it.neg, .slice av it.ranges.length cv] _ (by simp; rfl) rfl (by simp; exact ⟨rfl, rfl, rfl, rfl⟩) HCE.out.1 (by omega) (by have := HI1.out.grow.size; omega) ?_); intro v' w5 hown5 hgrow5 _ hnew5; have HI5 := Lib.hid (HI1.out.added HCE.out HRV.out hown5 hgrow5 hnew5); clear hown5 hgrow5 hnew5)
        go_roundw
        case rel =>
          refine ⟨u, its ++ [it], HI5.out, by simp; omega, ?_⟩
          rw [HC.out, itemsL_step (by simp) HIt.out]
          cases itemsL u <;> simp
        case measure =>
          rw [HI5.out.scan.len, HI.out.scan.len]
          simp; omega

end Go.Proofs.YtlipekkiaiaplaaDoor
