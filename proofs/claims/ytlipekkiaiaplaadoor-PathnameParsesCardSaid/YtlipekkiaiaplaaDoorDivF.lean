/- divide over components and strings: the function itself; matchesAll. -/
import Derived.Test.YtlipekkiaiaplaaDoorDivE
namespace Go.Proofs.YtlipekkiaiaplaaDoor
open Go.RowKit

set_option maxRecDepth 100000 in
set_option maxHeartbeats 1000000 in
theorem divideS_any (ps : List PComp) (ts : List ByteArray) (S : Nat → Prop) (w : World) (pv tv : Value) (hp : CompsAt S w pv ps) (htv : RowAt S w 1 tv ts.length (ts.map Value.string)) (hn : ps.length ≤ 65536) (hm : ts.length ≤ 65536) (hps : ∀ c ∈ ps, c.items.length ≤ 65536) (hts : ∀ x ∈ ts, x.size ≤ 65536) :
    Calls Tryd.prog 67 #[pv, tv, .func (.func 68) #[] #[], .func (.func 69) #[] #[]] w fun e w' => e = .returned (.bool (dv PComp.dbl compMB ps ts)) ∧ Below w.heap.size w w' := by
  obtain ⟨pa, pc, rfl, -, -, -⟩ := hp.shape CompR.len
  obtain ⟨_, ta, tc, rfl, -⟩ := id htv
  have HF := Lib.hid (fromS ps ts S w w.heap.size _ _ rfl hp htv hn hm hps hts ps.length 0 rfl (Nat.zero_le _))
  clear hp htv hps hts
  have hN : (ps.length + 1) * (ts.length + 1) ≤ 65537 * 65537 := Nat.mul_le_mul (by omega) (by omega)
  have hX : ((ps.length : Int) + 1) * ((ts.length : Int) + 1) = (((ps.length + 1) * (ts.length + 1) : Nat) : Int) := by simp
  have hb1 : 0 ≤ ((ps.length : Int) + 1) * ((ts.length : Int) + 1) := by rw [hX]; omega
  have hb2 : ((ps.length : Int) + 1) * ((ts.length : Int) + 1) ≤ 4295098369 := by rw [hX]; omega
  have hmk := run_made (P := Tryd.prog) (t := 119) (e := 4) (z := .bool false) ((ps.length + 1) * (ts.length + 1)) [.bool false] Tryd.underlying119 (bytes := 1) (sz := 1) (by kernel_rfl) rfl rfl (by omega) (by omega) (by omega)
  rw [← hX] at hmk
  clear hX hN
  go_enter Tryd.func67, Tryd.ntmps67
  go_wp2_with fail
  refine (HF.out 0 0 0 _ (List.replicate ((ps.length + 1) * (ts.length + 1)) false) rfl rfl (Nat.zero_le _) (divSt_start w _ _ _ _ _ _ _ _ _ _ _ _) ?_).mono ?_
  · intro i' j' _ _ _ h
    rw [List.getElem?_replicate] at h
    split at h <;> simp at h
  · rintro e w1 ⟨tr', rfl, hst, -, -⟩
    go_wp2_with fail
    go_ret
    exact ⟨rfl, hst.below⟩

theorem dv_map {P T U : Type} (star : P → Bool) (m : P → T → Bool) (f : U → T) : ∀ (ps : List P) (us : List U), dv star (fun p u => m p (f u)) ps us = dv star m ps (us.map f)
  | [], us => by cases us <;> simp [dv]
  | p :: ps, us => by
    have ih := dv_map star m f ps
    unfold dv
    split
    · induction us with
      | nil => simp [anySuf, ih]
      | cons u us ih2 => simp only [anySuf, List.map_cons, ih, ih2]
    · cases us with
      | nil => simp [headM]
      | cons u us => simp [headM, ih]
theorem dv_match (cs : List PComp) (xs : List ByteArray) : dv PComp.dbl compMB cs xs = matchS cs (xs.map bl) := dv_map PComp.dbl compM bl cs xs

set_option maxHeartbeats 400000 in
theorem matchesAll_any (cs : List PComp) (xs : List ByteArray) (S : Nat → Prop) (w : World) (pv tv : Value) (hp : CompsAt S w pv cs) (htv : StrsAt S w tv xs) (hn : cs.length ≤ 65536) (hm : xs.length ≤ 65536) (hps : ∀ c ∈ cs, c.items.length ≤ 65536) (hts : ∀ x ∈ xs, x.size ≤ 65536) :
    Calls Tryd.prog 44 #[pv, tv] w fun e w' => e = .returned (.bool (matchS cs (xs.map bl))) ∧ Below w.heap.size w w' := by
  have H := Lib.hid (divideS_any cs xs S w pv tv hp htv hn hm hps hts)
  clear hp htv hps hts
  go_enter Tryd.func44, Tryd.ntmps44
  go_wp2_with fail
  refine H.out.mono ?_
  rintro e w1 ⟨rfl, hb⟩
  go_wp2_with fail
  go_ret
  exact ⟨ret_bool (dv_match cs xs), hb⟩

end Go.Proofs.YtlipekkiaiaplaaDoor
