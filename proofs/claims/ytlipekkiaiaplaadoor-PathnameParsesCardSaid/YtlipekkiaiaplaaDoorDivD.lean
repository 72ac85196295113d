/- component.matches. -/
import Derived.Test.YtlipekkiaiaplaaDoorDivC
namespace Go.Proofs.YtlipekkiaiaplaaDoor
open Go.RowKit

/-- The runes of a string in a new row. -/
theorem runes_row {w : World} {x : ByteArray} {cap : Nat} (hc : (runesL (bl x)).length ≤ cap) (hm : cap ≤ maxLen) (zs : List Value) :
    RowAt (fun _ => True) (w.alloc (.cells (((runesL (bl x)).map (Value.int .i32)) ++ zs).toArray 21)).drew 1 (.slice (some ⟨w.heap.size, 0, none⟩) (runesL (bl x)).length cap) (runesL (bl x)).length ((runesL (bl x)).map (Value.int .i32)) := by
  refine ⟨by simp, _, cap, rfl, hc, hm, .inr ⟨w.heap.size, 0, rfl, trivial, fun j u hj => ?_⟩⟩
  have h1 := heap_alloc_new w (.cells (((runesL (bl x)).map (Value.int .i32)) ++ zs).toArray 21)
  have h2 : (w.alloc (.cells (((runesL (bl x)).map (Value.int .i32)) ++ zs).toArray 21)).drew.heap[w.heap.size]? = some (.cells (((runesL (bl x)).map (Value.int .i32)) ++ zs).toArray 21 (0, 0)) := h1
  rw [Nat.zero_add, cell_of_heap h2, List.getElem?_toArray, List.getElem?_append_left (List.getElem?_eq_some_iff.1 hj).1]
  exact hj

set_option maxRecDepth 100000 in
set_option maxHeartbeats 1000000 in
theorem compMatches_any (S : Nat → Prop) (c : PComp) (v : Value) (x : ByteArray) (w : World) (hv : ItemsAt S w v c.items) (hn : c.items.length ≤ 65536) (hx : x.size ≤ 65536) :
    Calls Tryd.prog 69 #[.agg #[.bool c.dbl, v], .string x] w fun e w' => e = .returned (.bool (compM c (bl x))) ∧ Below w.heap.size w w' := by
  obtain ⟨av, cv, rfl, -, -, -⟩ := hv.shape ItemR.len
  have hrl := runesL_length (bl x)
  rw [← size_bl] at hrl
  have HV := Lib.hid hv
  clear hv
  have hcv := fun w => run_runes (P := Tryd.prog) (src := 9) (dst := 91) (e := 21) x Tryd.underlying9 Tryd.underlying91 Tryd.underlying21 (by omega) w
  go_enter Tryd.func69, Tryd.ntmps69
  go_wp2_with fail
  clear hcv
  have hsz : w.heap.size + 1 = (w.alloc (.cells #[.bool c.dbl, .slice av c.items.length cv] 90)).heap.size := by simp
  have hba : Below w.heap.size w (w.alloc (.cells #[.bool c.dbl, .slice av c.items.length cv] 90)) := (Below.refl _ _).alloc (Nat.le_refl _) _
  rw [hsz]
  generalize w.alloc (.cells #[.bool c.dbl, .slice av c.items.length cv] 90) = wa at *
  have hcg := grownCap_ge wa (runesL (bl x)).length 0 21
  have hcm := grownCap_le_maxLen wa (runesL (bl x)).length 0 21 (by unfold maxLen; omega)
  have hrow := runes_row (w := wa) hcg hcm (List.replicate (grownCap wa (runesL (bl x)).length 0 21 - (runesL (bl x)).length) (Value.int .i32 0))
  have hbb : Below w.heap.size w (wa.alloc (.cells (((runesL (bl x)).map (Value.int .i32)) ++ List.replicate (grownCap wa (runesL (bl x)).length 0 21 - (runesL (bl x)).length) (Value.int .i32 0)).toArray 21)).drew := (hba.alloc (by omega) _).drew
  generalize grownCap wa (runesL (bl x)).length 0 21 = cp at *
  generalize (wa.alloc (.cells (((runesL (bl x)).map (Value.int .i32)) ++ List.replicate (cp - (runesL (bl x)).length) (Value.int .i32 0)).toArray 21)).drew = wb at *
  have hit : ItemsAt (fun _ => True) wb (.slice av c.items.length cv) c.items := ItemsAt.move HV.out (fun k hk _ => ⟨trivial, hbb.block k hk⟩)
  refine (divideI_any c.items (runesL (bl x)) (fun _ => True) wb _ _ hit hrow hn (by omega)).mono ?_
  rintro e w1 ⟨rfl, hb1⟩
  have HB1 := Lib.hid hb1
  clear hb1
  go_wp2_with fail
  go_ret
  exact ⟨rfl, below_next hbb HB1.out⟩

end Go.Proofs.YtlipekkiaiaplaaDoor
