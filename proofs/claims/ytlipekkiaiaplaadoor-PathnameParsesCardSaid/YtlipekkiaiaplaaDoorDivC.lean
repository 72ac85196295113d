/- divide over items and runes: the function itself; component.matches. -/
import Derived.Test.YtlipekkiaiaplaaDoorDivB
import Derived.Laws.EntriesVeiled
namespace Go.Proofs.YtlipekkiaiaplaaDoor
open Go.RowKit

theorem zeros_bool (n : Nat) : zeros [Value.bool false] n = (List.replicate n false).map Value.bool := by
  induction n with
  | zero => rfl
  | succ n ih => rw [zeros_succ, ih, List.replicate_succ]; rfl

theorem heap_at (w : World) (os : List Obj) : ∀ (k : Nat) (o : Obj), os[k]? = some o → (os.foldl World.alloc w).heap[w.heap.size + k]? = some o := by
  induction os generalizing w with
  | nil => intro k o h; simp at h
  | cons p os ih =>
    intro k o h
    cases k with
    | zero =>
      simp at h; subst h
      have hb : ∀ (l : List Obj) (v : World), Below v.heap.size v (l.foldl World.alloc v) := by
        intro l
        induction l with
        | nil => intro v; exact Below.refl _ _
        | cons q l ih2 => intro v; exact below_next ((Below.refl _ _).alloc (Nat.le_refl _) q) (ih2 (v.alloc q))
      rw [Nat.add_zero, List.foldl_cons, (hb os (w.alloc p)).block _ (by simp)]
      exact heap_alloc_new w p
    | succ k =>
      have := ih (w.alloc p) k o (by simpa using h)
      rw [List.foldl_cons, show w.heap.size + (k + 1) = (w.alloc p).heap.size + k by simp; omega]
      exact this
theorem below_allocs (l : List Obj) : ∀ v : World, Below v.heap.size v (l.foldl World.alloc v) := by
  induction l with
  | nil => intro v; exact Below.refl _ _
  | cons q l ih2 => intro v; exact below_next ((Below.refl _ _).alloc (Nat.le_refl _) q) (ih2 (v.alloc q))
theorem size_allocs (l : List Obj) : ∀ v : World, (l.foldl World.alloc v).heap.size = v.heap.size + l.length := by
  induction l with
  | nil => intro v; rfl
  | cons q l ih2 => intro v; rw [List.foldl_cons, ih2]; simp; omega
/-- The boxes that divide lays. -/
theorem divSt_start (w : World) (pv tv sv mv : Value) (N f t0 t1 t2 t3 t5 t6 : Nat) :
    DivSt w w.heap.size N f pv tv sv mv (List.replicate N false) (((((((w.alloc (.cells #[pv] t0)).alloc (.cells #[tv] t1)).alloc (.cells #[sv] t2)).alloc (.cells #[mv] t3)).alloc (.cells (made [.bool false] N) 4)).alloc (.cells #[.slice (some ⟨w.heap.size + 4, 0, none⟩) N N] t5)).alloc (.cells #[fromV f w.heap.size] t6)) := by
  have e : (((((((w.alloc (.cells #[pv] t0)).alloc (.cells #[tv] t1)).alloc (.cells #[sv] t2)).alloc (.cells #[mv] t3)).alloc (.cells (made [.bool false] N) 4)).alloc (.cells #[.slice (some ⟨w.heap.size + 4, 0, none⟩) N N] t5)).alloc (.cells #[fromV f w.heap.size] t6)) =
    [Obj.cells #[pv] t0, .cells #[tv] t1, .cells #[sv] t2, .cells #[mv] t3, .cells (made [.bool false] N) 4, .cells #[.slice (some ⟨w.heap.size + 4, 0, none⟩) N N] t5, .cells #[fromV f w.heap.size] t6].foldl World.alloc w := rfl
  rw [e]
  have H := heap_at w [Obj.cells #[pv] t0, .cells #[tv] t1, .cells #[sv] t2, .cells #[mv] t3, .cells (made [.bool false] N) 4, .cells #[.slice (some ⟨w.heap.size + 4, 0, none⟩) N N] t5, .cells #[fromV f w.heap.size] t6]
  refine ⟨?_, ?_, ?_, ?_, ?_, ?_, ?_, by simp, by rw [size_allocs]; simp, below_allocs _ _⟩
  · exact (cell_of_heap (j := 0) (show _ = some (Obj.cells #[pv] t0 (0, 0)) from H 0 _ rfl)).trans rfl
  · rw [cell_of_heap (H 1 _ rfl)]; rfl
  · rw [cell_of_heap (H 2 _ rfl)]; rfl
  · rw [cell_of_heap (H 3 _ rfl)]; rfl
  · rw [cell_of_heap (H 5 _ rfl)]; rfl
  · rw [cell_of_heap (H 6 _ rfl)]; rfl
  · rw [H 4 _ rfl, made, zeros_bool]

set_option maxRecDepth 100000 in
set_option maxHeartbeats 1000000 in
theorem divideI_any (ps : List PItem) (ts : List Int) (S : Nat → Prop) (w : World) (pv tv : Value) (hp : ItemsAt S w pv ps) (htv : RowAt S w 1 tv ts.length (ts.map (Value.int .i32))) (hn : ps.length ≤ 65536) (hm : ts.length ≤ 65536) :
    Calls Tryd.prog 86 #[pv, tv, .func (.func 87) #[] #[], .func (.func 88) #[] #[]] w fun e w' => e = .returned (.bool (dv PItem.star itemM ps ts)) ∧ Below w.heap.size w w' := by
  obtain ⟨pa, pc, rfl, -, -, -⟩ := hp.shape ItemR.len
  obtain ⟨_, ta, tc, rfl, -⟩ := id htv
  have HF := Lib.hid (fromI ps ts S w w.heap.size _ _ rfl hp htv hn hm ps.length 0 rfl (Nat.zero_le _))
  clear hp htv
  have hN : (ps.length + 1) * (ts.length + 1) ≤ 65537 * 65537 := Nat.mul_le_mul (by omega) (by omega)
  have hX : ((ps.length : Int) + 1) * ((ts.length : Int) + 1) = (((ps.length + 1) * (ts.length + 1) : Nat) : Int) := by simp
  have hb1 : 0 ≤ ((ps.length : Int) + 1) * ((ts.length : Int) + 1) := by rw [hX]; omega
  have hb2 : ((ps.length : Int) + 1) * ((ts.length : Int) + 1) ≤ 4295098369 := by rw [hX]; omega
  have hmk := run_made (P := Tryd.prog) (t := 119) (e := 4) (z := .bool false) ((ps.length + 1) * (ts.length + 1)) [.bool false] Tryd.underlying119 (bytes := 1) (sz := 1) (by kernel_rfl) rfl rfl (by omega) (by omega) (by omega)
  rw [← hX] at hmk
  clear hX hN
  go_enter Tryd.func86, Tryd.ntmps86
  go_wp2_with fail
  refine (HF.out 0 0 0 _ (List.replicate ((ps.length + 1) * (ts.length + 1)) false) rfl rfl (Nat.zero_le _) (divSt_start w _ _ _ _ _ _ _ _ _ _ _ _) ?_).mono ?_
  · intro i' j' _ _ _ h
    rw [List.getElem?_replicate] at h
    split at h <;> simp at h
  · rintro e w1 ⟨tr', rfl, hst, -, -⟩
    go_wp2_with fail
    go_ret
    exact ⟨rfl, hst.below⟩

end Go.Proofs.YtlipekkiaiaplaaDoor
