/- Texts of this proof, one after the other: EncD, ItemF, Lib, ExS, ExS0, WalkA, WalkB. -/
import Derived.Test.YtndgmcggckpgfaaDoorMB
/- Contracts of the reference of package manifest: Node. -/
namespace Go.Proofs.YtndgmcggckpgfaaDoor
open Go.RowKit


def itVals (it : Item) : List RVal :=
  [textV it.name, numV it.kind, numV it.mode, numV it.time] ++
    (if it.kind = 1 then countV it.chunks.length :: it.chunks.flatMap refVals else if it.kind = 2 then refVals it.node else [textV it.link])
def valsTo (l : List Item) (k : Nat) : List RVal := countV l.length :: (l.take k).flatMap itVals
def nodeVals (l : List Item) : List RVal := countV l.length :: l.flatMap itVals
theorem valsTo_snoc {l : List Item} {k : Nat} {it : Item} (h : l[k]? = some it) : valsTo l (k + 1) = valsTo l k ++ itVals it := by
  unfold valsTo
  obtain ⟨hk, rfl⟩ := List.getElem?_eq_some_iff.1 h
  rw [List.take_succ_eq_append_getElem hk, List.flatMap_append]; simp
theorem valsTo_all (l : List Item) : valsTo l l.length = nodeVals l := by unfold valsTo nodeVals; rw [List.take_of_length_le (Nat.le_refl _)]
theorem valsTo_le (l : List Item) (k : Nat) : (valsTo l k).length ≤ (nodeVals l).length := by
  unfold valsTo nodeVals
  have h : l.flatMap itVals = (l.take k).flatMap itVals ++ (l.drop k).flatMap itVals := by rw [← List.flatMap_append, List.take_append_drop]
  rw [h]
  simp
/-- The strings of an item are short. -/
structure ItSmall (it : Item) : Prop where
  nm : it.name.size ≤ 65536
  lk : it.link.size ≤ 65536
  nd : it.node.name.size ≤ 65536
  ch : ∀ c ∈ it.chunks, c.name.size ≤ 65536
def nodeB (l : List Item) : List UInt8 := match encP (nodeVals l) with
  | .error _ => []
  | .ok b => b
structure NdAt (w : World) (xb : Nat) (cs : Array Value) (wq : World) (lv : Value) (vals : List RVal) : Prop where
  row : wq.ownsRow w.heap.size 91 6 lv vals.length (vals.flatMap rvC)
  box : wq.heap[xb]? = some (.cells cs 83 (0, 0))
  below : Below w.heap.size w wq
section
variable {w wq w' : World} {xb : Nat} {cs : Array Value} {lv v' : Value} {vals news : List RVal}
theorem NdAt.next (h : NdAt w xb cs wq lv vals) (hb : Below wq.heap.size wq w') : NdAt w xb cs w' lv vals :=
  ⟨owns_below h.row hb, (hb.block xb (lt_of_block h.box)).trans h.box, below_next h.below hb⟩
theorem NdAt.app (h : NdAt w xb cs wq lv vals) (ho : w'.ownsRow w.heap.size 91 6 v' (vals.length + news.length) (vals.flatMap rvC ++ news.flatMap rvC)) (hg : wq.grownBy w' lv.ownBlock) : NdAt w xb cs w' v' (vals ++ news) := by
  refine ⟨by rw [List.length_append, List.flatMap_append]; exact ho, (hg.block xb (lt_of_block h.box) (fun e => ?_)).trans h.box, below_grown h.below h.row hg (Nat.le_refl _) h.below.size⟩
  obtain ⟨c, hc⟩ := owns_cells h.row e.symm
  have := h.box.symm.trans hc
  simp at this
end
theorem Tryd.appVals : AppTy Tryd.prog 92 91 6 56 := AppTy.mk' (z := .agg #[.int .i64 0, .int .u64 0, .int .i64 0, .bool false, .string ⟨#[]⟩, .int .i64 0]) Tryd.underlying92 (by kernel_rfl) rfl (by decide) (by decide)
theorem rvC_one {l : List RVal} : ∀ u ∈ l.flatMap rvC, u.oneCell' = true := by
  intro u hu
  obtain ⟨x, _, hx⟩ := List.mem_flatMap.1 hu
  simp only [rvC, List.mem_cons, List.not_mem_nil, or_false] at hx
  rcases hx with rfl | rfl | rfl | rfl | rfl | rfl <;> rfl
theorem rvC_len : ∀ (l : List RVal), (l.flatMap rvC).length = l.length * 6
  | [] => rfl
  | x :: l => by rw [List.flatMap_cons, List.length_append, rvC_len l, List.length_cons]; simp [rvC]; omega
theorem ItemsAt.lts {S : Nat → Prop} {w : World} {v : Value} {l : List Item} (h : ItemsAt S w v l) : ItemsAt (· < w.heap.size) w v l := by
  obtain ⟨cells, hr, hin⟩ := h
  exact ⟨cells, hr.mono (fun k hk hS => hk) (by omega), hin.mono (fun c x _ ⟨cv, h1, ⟨cells, h2, h3⟩, h4⟩ => ⟨cv, h1, ⟨cells, h2.mono (fun k hk _ => hk) (by omega), h3⟩, h4⟩)⟩
theorem refVals_len : ∀ (l : List Ref), (l.flatMap refVals).length = 3 * l.length
  | [] => rfl
  | x :: l => by rw [List.flatMap_cons, List.length_append, refVals_len l, List.length_cons]; simp [refVals]; omega
def hd4 (it : Item) : List RVal := [textV it.name, numV it.kind, numV it.mode, numV it.time]
theorem itVals_file {it : Item} (h : it.kind = 1) : itVals it = hd4 it ++ (countV it.chunks.length :: it.chunks.flatMap refVals) := by unfold itVals hd4; rw [if_pos h]
theorem itVals_dir {it : Item} (h : it.kind = 2) : itVals it = hd4 it ++ refVals it.node := by unfold itVals hd4; rw [if_neg (by omega), if_pos h]
theorem itVals_link {it : Item} (h1 : ¬ it.kind = 1) (h2 : ¬ it.kind = 2) : itVals it = hd4 it ++ [textV it.link] := by unfold itVals hd4; rw [if_neg h1, if_neg h2]
theorem hd4_len (it : Item) : (hd4 it).length = 4 := rfl
theorem itVals_ok {it : Item} (h : ItSmall it) (hc : it.chunks.length ≤ 1000000) : ∀ x ∈ itVals it, RvOk x := by
  intro x hx
  unfold itVals at hx
  rcases List.mem_append.1 hx with hx | hx
  · simp only [List.mem_cons, List.not_mem_nil, or_false] at hx
    rcases hx with rfl | rfl | rfl | rfl
    · exact textV_ok h.nm
    · exact numV_ok _
    · exact numV_ok _
    · exact numV_ok _
  · split at hx
    · rcases List.mem_cons.1 hx with rfl | hx
      · exact countV_ok hc
      · obtain ⟨c, hc1, hc2⟩ := List.mem_flatMap.1 hx
        exact refVals_ok (h.ch c hc1) x hc2
    · split at hx
      · exact refVals_ok h.nd x hx
      · simp only [List.mem_singleton] at hx; subst hx; exact textV_ok h.lk
theorem nodeVals_ok {l : List Item} (hs : ∀ it ∈ l, ItSmall it) (hl : l.length ≤ 1000000) (hn : (nodeVals l).length ≤ 1000000) : ∀ x ∈ nodeVals l, RvOk x := by
  intro x hx
  unfold nodeVals at hx
  rcases List.mem_cons.1 hx with rfl | hx
  · exact countV_ok hl
  · obtain ⟨it, h1, h2⟩ := List.mem_flatMap.1 hx
    by_cases hk : it.kind = 1
    · refine itVals_ok (hs it h1) ?_ x h2
      have h3 : (itVals it).length ≤ (l.flatMap itVals).length := by
        obtain ⟨a, b, rfl⟩ := List.append_of_mem h1
        rw [List.flatMap_append, List.flatMap_cons, List.length_append, List.length_append]; omega
      have h4 : it.chunks.length ≤ (itVals it).length := by rw [itVals_file hk, List.length_append, List.length_cons, refVals_len]; omega
      unfold nodeVals at hn
      rw [List.length_cons] at hn
      omega
    · unfold itVals at h2
      rw [if_neg hk] at h2
      rcases List.mem_append.1 h2 with hx | hx
      · simp only [List.mem_cons, List.not_mem_nil, or_false] at hx
        rcases hx with rfl | rfl | rfl | rfl
        · exact textV_ok (hs it h1).nm
        · exact numV_ok _
        · exact numV_ok _
        · exact numV_ok _
      · split at hx
        · exact refVals_ok (hs it h1).nd x hx
        · simp only [List.mem_singleton] at hx; subst hx; exact textV_ok (hs it h1).lk
theorem rvs_row {S : Nat → Prop} {w : World} {v : Value} {l : List RVal} (h : RvsAt S w v l) : RowAt S w 6 v l.length (l.flatMap rvC) := by
  obtain ⟨cells, h1, h2⟩ := h
  have : ∀ (l : List RVal) (cells : List Value), RowsIn RvR cells l → cells = l.flatMap rvC := by
    intro l
    induction l with
    | nil => intro cells h; exact h
    | cons x l ih =>
      rintro cells ⟨c, rest, rfl, ⟨rfl, _⟩, hr⟩
      rw [ih rest hr]; rfl
  rw [← this l cells h2]; exact h1
def fileTo (v4 : List RVal) (cs : List Ref) (j : Nat) : List RVal := v4 ++ (countV cs.length :: (cs.take j).flatMap refVals)
theorem fileTo_snoc {v4 : List RVal} {cs : List Ref} {j : Nat} {c : Ref} (h : cs[j]? = some c) : fileTo v4 cs (j + 1) = fileTo v4 cs j ++ refVals c := by
  unfold fileTo
  rw [take_snoc' h, List.flatMap_append]; simp
theorem fileTo_all (v4 : List RVal) (cs : List Ref) : fileTo v4 cs cs.length = v4 ++ (countV cs.length :: cs.flatMap refVals) := by unfold fileTo; rw [List.take_of_length_le (Nat.le_refl _)]
theorem fileTo_le (v4 : List RVal) (cs : List Ref) (j : Nat) : (fileTo v4 cs j).length ≤ (v4 ++ (countV cs.length :: cs.flatMap refVals)).length := by
  unfold fileTo
  rw [List.length_append, List.length_append, List.length_cons, List.length_cons, refVals_len, refVals_len, List.length_take]
  omega
def NodeNew (l : List Item) (w : World) (e : Ending) (w' : World) : Prop := ∃ v, e = .returned v ∧ BytesAt (w.heap.size ≤ ·) w' v (nodeB l) ∧ Below w.heap.size w w'
set_option maxRecDepth 100000 in
set_option maxHeartbeats 4000000 in
theorem node24_any (S : Nat → Prop) (v : Value) (l : List Item) (w : World) (hv : ItemsAt S w v l) (hs : ∀ it ∈ l, ItSmall it) (hl : (nodeVals l).length ≤ 1000000) (hll : l.length ≤ 1000000) : Calls Tryd.prog 31 #[v] w (NodeNew l w) := by
  obtain ⟨a, cap, rfl, hc, hm, -⟩ := SeqAt.shape hv ItemR.len
  unfold maxLen at hm
  have HV := Lib.hid hv.lts
  have HS := Lib.hid hs
  have HL := Lib.hid hl
  have HO0 := Lib.hid (World.ownsRow_lit (e := 91) (size := 6) (base := w.heap.size) w #[.int .i64 7, .int .u64 0, .int .i64 (l.length : Int), .bool false, .string ⟨#[]⟩, .int .i64 0] 1 (Nat.le_refl _) (by unfold maxLen; omega) rfl)
  have HB0 := Lib.hid ((Below.refl w.heap.size w).alloc (Nat.le_refl _) (.cells #[.int .i64 7, .int .u64 0, .int .i64 (l.length : Int), .bool false, .string ⟨#[]⟩, .int .i64 0] 91))
  clear hv hs hl
  go_enter Tryd.func31, Tryd.ntmps31
  go_wp2_with fail
  go_loopw [3, 4] (fun lv i wr => ∃ (k : Nat), k ≤ l.length ∧ i = .int .i64 k ∧ wr.ownsRow w.heap.size 91 6 lv (valsTo l k).length ((valsTo l k).flatMap rvC) ∧ Below w.heap.size w wr) (fun _ i _ => l.length - (intOf i).toNat)
  case atStart => exact ⟨0, Nat.zero_le _, rfl, HO0.out, HB0.out⟩
  case round =>
    obtain ⟨k, hk, rfl, hown, hb⟩ := hrel
    have HO := Lib.hid hown
    have HB := Lib.hid hb
    obtain ⟨ao, co, rfl, hn1, hn2⟩ := owns_shape hown
    clear hown hb HO0 HB0
    by_cases hlt : k < l.length
    · obtain ⟨it, hit⟩ : ∃ it, l[k]? = some it := ⟨l[k], by simp [hlt]⟩
      obtain ⟨b, o, ca, cc, rfl, hok, hrf, -, -, hcl⟩ := items_at HV.out HB.out hit
      have HIS := Lib.hid (HS.out it (List.mem_of_getElem? hit))
      have HSN := Lib.hid (valsTo_snoc hit)
      have HLE := Lib.hid (show (valsTo l k ++ itVals it).length ≤ 1000000 by rw [← valsTo_snoc hit]; exact Nat.le_trans (valsTo_le _ _) HL.out)
      have q0 := hcl 0 (by omega)
      have q1 := hcl 1 (by omega)
      have q2 := hcl 2 (by omega)
      have q3 := hcl 3 (by omega)
      have q4 := hcl 4 (by omega)
      have q5 := hcl 5 (by omega)
      have q6 := hcl 6 (by omega)
      have q7 := hcl 7 (by omega)
      have q8 := hcl 8 (by omega)
      have q9 := hcl 9 (by omega)
      simp only [itemC, List.getElem?_cons_zero, List.getElem?_cons_succ, Nat.add_zero] at q0 q1 q2 q3 q4 q5 q6 q7 q8 q9
      obtain ⟨W, hW⟩ : ∃ W : World, W = wr.alloc (.cells #[.string it.name, .int .i64 it.kind, .int .i64 it.mode, .int .i64 it.time, .int .i64 it.size, .string it.link, .slice ca it.chunks.length cc, .string it.node.name, .int .i64 it.node.gen, .int .i64 it.node.size] 83) := ⟨_, rfl⟩
      have HAL := Lib.hid (show Below wr.heap.size wr W by rw [hW]; exact (Below.refl _ _).alloc (Nat.le_refl _) _)
      have HN1 := Lib.hid (show NdAt w wr.heap.size #[.string it.name, .int .i64 it.kind, .int .i64 it.mode, .int .i64 it.time, .int .i64 it.size, .string it.link, .slice ca it.chunks.length cc, .string it.node.name, .int .i64 it.node.gen, .int .i64 it.node.size] W (.slice ao (valsTo l k).length co) (valsTo l k) from ⟨owns_below HO.out HAL.out, by rw [hW]; exact heap_alloc_new wr _, below_next HB.out HAL.out⟩)
      have HRF := Lib.hid hrf
      have hol := hok
      clear hit hcl hok hol hrf
      obtain ⟨vk, hvk⟩ : ∃ vk, vk = valsTo l k := ⟨_, rfl⟩
      rw [← hvk] at HSN HLE HN1 hn1 ⊢
      clear hvk
      go_upto_region 6 with (fail)
      rw [← hW]
      clear hW q0 q1 q2 q3 q4 q5 q6 q7 q8 q9 HO
      refine hld_start (fun w' => w'.cell? ⟨wr.heap.size, 0, none⟩ = some (.string it.name) ∧ w'.cell? ⟨wr.heap.size, 1, none⟩ = some (.int .i64 it.kind) ∧ w'.cell? ⟨wr.heap.size, 2, none⟩ = some (.int .i64 it.mode) ∧ w'.cell? ⟨wr.heap.size, 3, none⟩ = some (.int .i64 it.time)) (by kernel_rfl) ?_
      obtain ⟨W2, hW2⟩ : ∃ W2 : World, W2 = W.drew := ⟨_, rfl⟩
      rw [← hW2]
      have HN2 := Lib.hid (HN1.out.next (show Below W.heap.size W W2 by rw [hW2]; exact (Below.refl _ _).drew))
      clear hW2 HN1
      have c0 := cellH (k := 0) HN2.out.box
      have c1 := cellH (k := 1) HN2.out.box
      have c2 := cellH (k := 2) HN2.out.box
      have c3 := cellH (k := 3) HN2.out.box
      simp only [List.getElem?_toArray, List.getElem?_cons_succ, List.getElem?_cons_zero] at c0 c1 c2 c3
      refine hld_take 0 rfl (by kernel_rfl) (by kernel_rfl) (by kernel_rfl) (fun _ _ _ h => h) rfl (by go_simp) (by rintro w' ⟨hw1, hw2, hw3, hw4⟩; go_simp; rfl) ?_
      simp only [Act.put, List.setIfInBounds_toArray, List.set_cons_succ, List.set_cons_zero]
      refine hld_take 1 rfl (by kernel_rfl) (by kernel_rfl) (by kernel_rfl) (fun _ _ _ h => h) rfl (by go_simp) (by rintro w' ⟨hw1, hw2, hw3, hw4⟩; go_simp; rfl) ?_
      simp only [Act.put, List.setIfInBounds_toArray, List.set_cons_succ, List.set_cons_zero]
      refine hld_take 2 rfl (by kernel_rfl) (by kernel_rfl) (by kernel_rfl) (fun _ _ _ h => h) rfl (by go_simp) (by rintro w' ⟨hw1, hw2, hw3, hw4⟩; go_simp; rfl) ?_
      simp only [Act.put, List.setIfInBounds_toArray, List.set_cons_succ, List.set_cons_zero]
      refine hld_take 3 rfl (by kernel_rfl) (by kernel_rfl) (by kernel_rfl) (fun _ _ _ h => h) rfl (by go_simp) (by rintro w' ⟨hw1, hw2, hw3, hw4⟩; go_simp; rfl) ?_
      simp only [Act.put, List.setIfInBounds_toArray, List.set_cons_succ, List.set_cons_zero]
      refine hld_take 4 rfl (by kernel_rfl) (by kernel_rfl) (by kernel_rfl) (fun _ _ _ h => h) rfl (by go_simp) (by rintro w' ⟨hw1, hw2, hw3, hw4⟩; go_simp; rfl) ?_
      simp only [Act.put, List.setIfInBounds_toArray, List.set_cons_succ, List.set_cons_zero]
      refine hld_take 5 rfl (by kernel_rfl) (by kernel_rfl) (by kernel_rfl) (fun _ _ _ h => h) rfl (by go_simp) (by rintro w' ⟨hw1, hw2, hw3, hw4⟩; go_simp; rfl) ?_
      simp only [Act.put, List.setIfInBounds_toArray, List.set_cons_succ, List.set_cons_zero]
      refine hld_take 7 rfl (by kernel_rfl) (by kernel_rfl) (by kernel_rfl) (fun _ _ _ h => h) rfl (by go_simp) (by rintro w' ⟨hw1, hw2, hw3, hw4⟩; go_simp; rfl) ?_
      simp only [Act.put, List.setIfInBounds_toArray, List.set_cons_succ, List.set_cons_zero]
      refine hld_take 8 rfl (by kernel_rfl) (by kernel_rfl) (by kernel_rfl) (fun _ _ _ h => h) rfl (by go_simp) (by rintro w' ⟨hw1, hw2, hw3, hw4⟩; go_simp; rfl) ?_
      simp only [Act.put, List.setIfInBounds_toArray, List.set_cons_succ, List.set_cons_zero]
      refine hld_take 10 rfl (by kernel_rfl) (by kernel_rfl) (by kernel_rfl) (fun _ _ _ h => h) rfl (by go_simp) (by rintro w' ⟨hw1, hw2, hw3, hw4⟩; go_simp; rfl) ?_
      simp only [Act.put, List.setIfInBounds_toArray, List.set_cons_succ, List.set_cons_zero]
      refine hld_take 11 rfl (by kernel_rfl) (by kernel_rfl) (by kernel_rfl) (fun _ _ _ h => h) rfl (by go_simp) (by rintro w' ⟨hw1, hw2, hw3, hw4⟩; go_simp; rfl) ?_
      simp only [Act.put, List.setIfInBounds_toArray, List.set_cons_succ, List.set_cons_zero]
      refine hld_bar 6 rfl (by kernel_rfl) rfl (fun K hK => ?_)
      go_wp2_with (go_at_call 35; refine (number24_any it.kind _).mono ?_; rintro e w1 ⟨rfl, hb1⟩)
      have HN3 := Lib.hid (HN2.out.next hb1)
      clear hb1 c0 c1 c2 c3
      have c0 := cellH (k := 0) HN3.out.box
      have c1 := cellH (k := 1) HN3.out.box
      have c2 := cellH (k := 2) HN3.out.box
      have c3 := cellH (k := 3) HN3.out.box
      simp only [List.getElem?_toArray, List.getElem?_cons_succ, List.getElem?_cons_zero] at c0 c1 c2 c3
      refine ⟨⟨c0, c1, c2, c3⟩, ?_⟩
      refine hld_bar 9 rfl (by kernel_rfl) rfl (fun K hK => ?_)
      go_wp2_with (go_at_call 35; refine (number24_any it.mode _).mono ?_; rintro e w2 ⟨rfl, hb2⟩)
      have HN4 := Lib.hid (HN3.out.next hb2)
      clear hb2 c0 c1 c2 c3
      have c0 := cellH (k := 0) HN4.out.box
      have c1 := cellH (k := 1) HN4.out.box
      have c2 := cellH (k := 2) HN4.out.box
      have c3 := cellH (k := 3) HN4.out.box
      simp only [List.getElem?_toArray, List.getElem?_cons_succ, List.getElem?_cons_zero] at c0 c1 c2 c3
      refine ⟨⟨c0, c1, c2, c3⟩, ?_⟩
      refine hld_bar 12 rfl (by kernel_rfl) rfl (fun K hK => ?_)
      go_wp2_with (go_at_call 35; refine (number24_any it.time _).mono ?_; rintro e w3 ⟨rfl, hb3⟩)
      have HN5 := Lib.hid (HN4.out.next hb3)
      clear hb3 c0 c1 c2 c3
      have c0 := cellH (k := 0) HN5.out.box
      have c1 := cellH (k := 1) HN5.out.box
      have c2 := cellH (k := 2) HN5.out.box
      have c3 := cellH (k := 3) HN5.out.box
      simp only [List.getElem?_toArray, List.getElem?_cons_succ, List.getElem?_cons_zero] at c0 c1 c2 c3
      refine ⟨⟨c0, c1, c2, c3⟩, ?_⟩
      refine hld_bar 13 rfl (by kernel_rfl) rfl (fun K hK => ?_)
      unfold rvV
      go_wp2_with fail
      have hcells : (#[Value.int .i64 5, .int .u64 0, .int .i64 0, .bool false, .string it.name, .int .i64 0, .int .i64 (numV it.kind).kind, .int .u64 (numV it.kind).u, .int .i64 (numV it.kind).n, .bool (numV it.kind).b, .string (numV it.kind).s, .int .i64 (numV it.kind).most, .int .i64 (numV it.mode).kind, .int .u64 (numV it.mode).u, .int .i64 (numV it.mode).n, .bool (numV it.mode).b, .string (numV it.mode).s, .int .i64 (numV it.mode).most, .int .i64 (numV it.time).kind, .int .u64 (numV it.time).u, .int .i64 (numV it.time).n, .bool (numV it.time).b, .string (numV it.time).s, .int .i64 (numV it.time).most] : Array Value) = ((hd4 it).flatMap rvC).toArray := rfl
      rw [hcells]
      obtain ⟨w4, hw4⟩ : ∃ w4 : World, w4 = w3.alloc (.cells ((hd4 it).flatMap rvC).toArray 91) := ⟨_, rfl⟩
      have HN6 := Lib.hid (HN5.out.next (show Below w3.heap.size w3 w4 by rw [hw4]; exact (Below.refl _ _).alloc (Nat.le_refl _) _))
      have HNW := Lib.hid (show RowAt (w.heap.size ≤ ·) w4 6 (.slice (some ⟨w3.heap.size, 0, none⟩) 4 4) 4 ((hd4 it).flatMap rvC) by
        have h1 := row_of_owns (World.ownsRow_lit (base := w3.heap.size) (e := 91) (size := 6) w3 ((hd4 it).flatMap rvC).toArray 4 (Nat.le_refl _) (by unfold maxLen; omega) rfl)
        rw [hw4]
        exact h1.weak (fun k hk => Nat.le_trans HN5.out.below.size hk.1))
      rw [← hw4]
      clear hw4 hcells HN2 HN3 HN4 HN5 c0 c1 c2 c3
      have c0 := cellH (k := 0) HN6.out.box
      have c1 := cellH (k := 1) HN6.out.box
      have c2 := cellH (k := 2) HN6.out.box
      have c3 := cellH (k := 3) HN6.out.box
      simp only [List.getElem?_toArray, List.getElem?_cons_succ, List.getElem?_cons_zero] at c0 c1 c2 c3
      have hll2 : vk.length + 4 ≤ 1000000 := by
        have h1 := HLE.out
        rw [List.length_append] at h1
        have h2 : 4 ≤ (itVals it).length := by unfold itVals; simp
        omega
      have hbz := HN6.out.below.size
      refine ⟨⟨c0, c1, c2, c3⟩, ?_⟩
      refine hld_bar 14 rfl (by kernel_rfl) rfl (fun K hK => ?_)
      go_wp2_with (at_builtin; go_must (refine wpList_appn Tryd.appVals rfl _ _ rfl w.heap.size (.slice ao vk.length co) vk.length (vk.flatMap rvC) rfl HN6.out.row _ 4 ((hd4 it).flatMap rvC) rfl HNW.out rvC_one (by omega) hbz ?_); intro v' wc hown' hgrow')
      have h7 := HN6.out.app (news := hd4 it) hown' hgrow'
      obtain ⟨v4, hv4e⟩ : ∃ v4, v4 = vk ++ hd4 it := ⟨_, rfl⟩
      rw [← hv4e] at h7
      have HN7 := Lib.hid h7
      have HV4 := Lib.hid hv4e
      have hv4 : v4.length ≤ 1000000 := by rw [hv4e, List.length_append, hd4_len]; omega
      clear h7 hv4e
      obtain ⟨a7, c7', rfl, -, -⟩ := owns_shape HN7.out.row
      clear hown' hgrow' c0 c1 c2 c3 HNW HN6 hbz
      have c0 := cellH (k := 0) HN7.out.box
      have c1 := cellH (k := 1) HN7.out.box
      have c2 := cellH (k := 2) HN7.out.box
      have c3 := cellH (k := 3) HN7.out.box
      simp only [List.getElem?_toArray, List.getElem?_cons_succ, List.getElem?_cons_zero] at c0 c1 c2 c3
      refine ⟨⟨c0, c1, c2, c3⟩, ?_⟩
      refine hld_take 15 rfl (by kernel_rfl) (by kernel_rfl) (by kernel_rfl) (fun _ _ _ h => h) rfl (by go_simp) (by rintro w' ⟨hw1, hw2, hw3, hw4⟩; go_simp; rfl) ?_
      simp only [Act.put, List.setIfInBounds_toArray, List.set_cons_succ, List.set_cons_zero]
      refine hld_done (by kernel_rfl) ?_
      clear c0 c1 c2 c3
      have hbz := HN7.out.below.size
      by_cases hk1 : it.kind = 1
      · have HIV := Lib.hid (show vk ++ itVals it = v4 ++ (countV it.chunks.length :: it.chunks.flatMap refVals) by rw [itVals_file hk1, HV4.out, List.append_assoc])
        have HFL := Lib.hid (show ∀ j, (fileTo v4 it.chunks j).length ≤ 1000000 from fun j => Nat.le_trans (fileTo_le v4 it.chunks j) (by rw [← HIV.out]; exact HLE.out))
        obtain ⟨_, _, hcv, hcc1, hcc2, -⟩ := SeqAt.shape HRF.out RefR.len
        cases hcv
        unfold maxLen at hcc2
        have e1 : (it.kind == 1) = true := by simpa using hk1
        clear hk1
        have c0 := cellH (k := 0) HN7.out.box
        have c1 := cellH (k := 1) HN7.out.box
        have c2 := cellH (k := 2) HN7.out.box
        have c3 := cellH (k := 3) HN7.out.box
        have c4 := cellH (k := 4) HN7.out.box
        have c5 := cellH (k := 5) HN7.out.box
        have c6 := cellH (k := 6) HN7.out.box
        have c7 := cellH (k := 7) HN7.out.box
        have c8 := cellH (k := 8) HN7.out.box
        have c9 := cellH (k := 9) HN7.out.box
        simp only [List.getElem?_toArray, List.getElem?_cons_succ, List.getElem?_cons_zero] at c0 c1 c2 c3 c4 c5 c6 c7 c8 c9
        go_wp2_with (at_builtin; go_must (refine wpList_app1 Tryd.appVals rfl _ _ rfl w.heap.size (.slice a7 v4.length c7') v4.length (v4.flatMap rvC) rfl wc (rvC (countV it.chunks.length)) _ rfl rfl (by have := rvC_one (l := [countV it.chunks.length]); simpa using this) HN7.out.row (by omega) hbz ?_); intro v' wd hown' hgrow' _; have h8 := HN7.out.app (news := [countV it.chunks.length]) (by simpa using hown') hgrow'; have HN8 := Lib.hid (show NdAt w wr.heap.size _ wd v' (fileTo v4 it.chunks 0) from h8); obtain ⟨a8, c8', rfl, -, -⟩ := owns_shape HN8.out.row; clear hown' hgrow' h8)
        clear c0 c1 c2 c3 c4 c5 c6 c7 c8 c9
        obtain ⟨wo, hwo⟩ : ∃ wo : World, wo = wr := ⟨_, rfl⟩
        subst hwo
        go_loopw [3, 6] (fun lv i wq => ∃ j : Nat, j ≤ it.chunks.length ∧ i = .int .i64 j ∧ NdAt w wo.heap.size #[.string it.name, .int .i64 it.kind, .int .i64 it.mode, .int .i64 it.time, .int .i64 it.size, .string it.link, .slice ca it.chunks.length cc, .string it.node.name, .int .i64 it.node.gen, .int .i64 it.node.size] wq lv (fileTo v4 it.chunks j)) (fun _ i _ => it.chunks.length - (intOf i).toNat)
        case atStart => exact ⟨0, Nat.zero_le _, rfl, HN8.out⟩
        case round =>
          obtain ⟨j, hj, rfl, hnd⟩ := hrel
          have HND := Lib.hid hnd
          have hfl := HFL.out j
          have hbq := hnd.below.size
          obtain ⟨a9, c9', rfl, -, -⟩ := owns_shape hnd.row
          have c6 := cellH (k := 6) hnd.box
          simp only [List.getElem?_toArray, List.getElem?_cons_succ, List.getElem?_cons_zero] at c6
          clear hnd HN8 HN7
          by_cases hlt2 : j < it.chunks.length
          · obtain ⟨c, hc⟩ : ∃ c, it.chunks[j]? = some c := ⟨it.chunks[j], by simp [hlt2]⟩
            have HRQ := Lib.hid (show RefsAt (fun k => k < w.heap.size) wr (.slice ca it.chunks.length cc) it.chunks from RefsAt.same HRF.out (fun k hk hS => ⟨hS, (HND.out.below.block k hS).trans (HB.out.block k hS).symm⟩))
            obtain ⟨b2, o2, rfl, hcok, p0, p1, p2⟩ := refs_at HRQ.out (Below.refl _ _) hc
            have HFS := Lib.hid (fileTo_snoc (v4 := v4) hc)
            have HCN := Lib.hid (HIS.out.ch c (List.mem_of_getElem? hc))
            clear hc hcok
            go_wp2_with fail
            refine (reference24_any c _ HCN.out).mono ?_
            rintro e w8 ⟨rv, rfl, hrv, hb8⟩
            have HN9 := Lib.hid (HND.out.next hb8)
            have HRW := Lib.hid (rvs_row hrv)
            have hbz8 := HN9.out.below.size
            obtain ⟨ra, rc, rfl, -, -, -⟩ := SeqAt.shape hrv RvR.len
            clear hrv hb8 p0 p1 p2 c6
            go_wp2_with (at_builtin; go_must (refine wpList_appn Tryd.appVals rfl _ _ rfl w.heap.size (.slice a9 (fileTo v4 it.chunks j).length c9') (fileTo v4 it.chunks j).length ((fileTo v4 it.chunks j).flatMap rvC) rfl HN9.out.row _ (refVals c).length ((refVals c).flatMap rvC) rfl HRW.out rvC_one (by simp only [refVals, List.length_cons, List.length_nil]; omega) hbz8 ?_); intro v' we hown' hgrow'; have h8 := HN9.out.app (news := refVals c) hown' hgrow'; rw [← HFS.out] at h8; have HNE := Lib.hid h8; obtain ⟨ae, ce, rfl, -, -⟩ := owns_shape h8.row; clear hown' hgrow' h8)
            go_roundw
            case rel => exact ⟨j + 1, by omega, by go_num, HNE.out⟩
            case measure => simp [intOf]; omega
          · obtain rfl : j = it.chunks.length := by omega
            have HFE := Lib.hid (show vk ++ itVals it = fileTo v4 it.chunks it.chunks.length by rw [fileTo_all, HIV.out])
            go_wp2_with fail
            go_roundw
            case rel => exact ⟨k + 1, by omega, by go_num, by rw [HSN.out, HFE.out]; exact HND.out.row, HND.out.below⟩
            case measure => simp [intOf]; omega
      · by_cases hk2 : it.kind = 2
        · have HIV := Lib.hid (show vk ++ itVals it = v4 ++ refVals it.node by rw [itVals_dir hk2, HV4.out, List.append_assoc])
          have e1 : (it.kind == 1) = false := by simpa using hk1
          have e2 : (it.kind == 2) = true := by simpa using hk2
          clear hk1 hk2
          have c0 := cellH (k := 0) HN7.out.box
          have c1 := cellH (k := 1) HN7.out.box
          have c2 := cellH (k := 2) HN7.out.box
          have c3 := cellH (k := 3) HN7.out.box
          have c4 := cellH (k := 4) HN7.out.box
          have c5 := cellH (k := 5) HN7.out.box
          have c6 := cellH (k := 6) HN7.out.box
          have c7 := cellH (k := 7) HN7.out.box
          have c8 := cellH (k := 8) HN7.out.box
          have c9 := cellH (k := 9) HN7.out.box
          simp only [List.getElem?_toArray, List.getElem?_cons_succ, List.getElem?_cons_zero] at c0 c1 c2 c3 c4 c5 c6 c7 c8 c9
          go_wp2_with fail
          refine (reference24_any it.node _ HIS.out.nd).mono ?_
          rintro e w8 ⟨rv, rfl, hrv, hb8⟩
          have HN8 := Lib.hid (HN7.out.next hb8)
          have HRW := Lib.hid (rvs_row hrv)
          have hbz8 := HN8.out.below.size
          obtain ⟨ra, rc, rfl, -, -, -⟩ := SeqAt.shape hrv RvR.len
          clear hrv hb8 c0 c1 c2 c3 c4 c5 c6 c7 c8 c9
          go_wp2_with (at_builtin; go_must (refine wpList_appn Tryd.appVals rfl _ _ rfl w.heap.size (.slice a7 v4.length c7') v4.length (v4.flatMap rvC) rfl HN8.out.row _ (refVals it.node).length ((refVals it.node).flatMap rvC) rfl HRW.out rvC_one (by simp only [refVals, List.length_cons, List.length_nil]; omega) hbz8 ?_); intro v' wd hown' hgrow'; have h8 := HN8.out.app (news := refVals it.node) hown' hgrow'; rw [← HIV.out] at h8; obtain ⟨v8, hv8⟩ : ∃ v8, v8 = vk ++ itVals it := ⟨_, rfl⟩; have HV8 := Lib.hid hv8; rw [← hv8] at h8; have HN9 := Lib.hid h8; obtain ⟨a8, c8', rfl, -, -⟩ := owns_shape h8.row; clear hown' hgrow' h8 hv8)
          go_roundw
          case rel => exact ⟨k + 1, by omega, by go_num, by rw [HSN.out, ← HV8.out]; exact HN9.out.row, HN9.out.below⟩
          case measure => simp [intOf]; omega
        · have HIV := Lib.hid (show vk ++ itVals it = v4 ++ [textV it.link] by rw [itVals_link hk1 hk2, HV4.out, List.append_assoc])
          have e1 : (it.kind == 1) = false := by simpa using hk1
          have e2 : (it.kind == 2) = false := by simpa using hk2
          clear hk1 hk2
          have c0 := cellH (k := 0) HN7.out.box
          have c1 := cellH (k := 1) HN7.out.box
          have c2 := cellH (k := 2) HN7.out.box
          have c3 := cellH (k := 3) HN7.out.box
          have c4 := cellH (k := 4) HN7.out.box
          have c5 := cellH (k := 5) HN7.out.box
          have c6 := cellH (k := 6) HN7.out.box
          have c7 := cellH (k := 7) HN7.out.box
          have c8 := cellH (k := 8) HN7.out.box
          have c9 := cellH (k := 9) HN7.out.box
          simp only [List.getElem?_toArray, List.getElem?_cons_succ, List.getElem?_cons_zero] at c0 c1 c2 c3 c4 c5 c6 c7 c8 c9
          go_wp2_with (at_builtin; go_must (refine wpList_app1 Tryd.appVals rfl _ _ rfl w.heap.size (.slice a7 v4.length c7') v4.length (v4.flatMap rvC) rfl wc (rvC (textV it.link)) _ rfl rfl (by have := rvC_one (l := [textV it.link]); simpa using this) HN7.out.row (by omega) hbz ?_); intro v' wd hown' hgrow' _; have h8 := HN7.out.app (news := [textV it.link]) (by simpa using hown') hgrow'; rw [← HIV.out] at h8; obtain ⟨v8, hv8⟩ : ∃ v8, v8 = vk ++ itVals it := ⟨_, rfl⟩; have HV8 := Lib.hid hv8; rw [← hv8] at h8; have HN8 := Lib.hid h8; obtain ⟨a8, c8', rfl, -, -⟩ := owns_shape h8.row; clear hown' hgrow' h8 hv8)
          go_roundw
          case rel => exact ⟨k + 1, by omega, by go_num, by rw [HSN.out, ← HV8.out]; exact HN8.out.row, HN8.out.below⟩
          case measure => simp [intOf]; omega
    · obtain rfl : k = l.length := by omega
      have HRS := Lib.hid (show RvsAt (fun _ => True) wr (.slice ao (valsTo l l.length).length co) (nodeVals l) by
        have h1 := row_of_owns HO.out
        have h2 := valsTo_all l
        rw [h2] at h1 ⊢
        exact ⟨_, h1.weak (fun _ _ => trivial), rv_rows (nodeVals_ok HS.out (by omega) HL.out)⟩)
      have HLL := HL
      go_wp2_with fail
      refine (encode_any _ _ _ _ HRS.out HLL.out).mono ?_
      rintro e w1 ⟨hb1, hres⟩
      have HB1 := Lib.hid (below_next HB.out hb1)
      have hz := HB.out.size
      clear hb1
      cases hen : encP (nodeVals l) with
      | error x =>
        rw [hen] at hres
        obtain ⟨rfl, hx⟩ := hres
        have HX := Lib.hid (show nodeB l = [] by unfold nodeB; rw [hen])
        clear hen hx
        go_wp2_with fail
        go_ret
        exact ⟨_, rfl, by rw [HX.out]; exact RowAt.nil _ _ _, HB1.out⟩
      | ok bs =>
        rw [hen] at hres
        obtain ⟨v, rfl, hv⟩ := hres
        have HX := Lib.hid (show nodeB l = bs by unfold nodeB; rw [hen])
        have HVB := Lib.hid hv
        obtain ⟨_, va, vc, rfl, hv1, hv2, -⟩ := hv
        clear hen
        go_wp2_with fail
        go_ret
        exact ⟨_, rfl, by rw [HX.out]; exact HVB.out.weak (fun k hk => Nat.le_trans hz hk), HB1.out⟩

end Go.Proofs.YtndgmcggckpgfaaDoor

/- Contracts of package manifest: Items. -/
namespace Go.Proofs.YtndgmcggckpgfaaDoor
open Go.RowKit


theorem validNode_is (S : Nat → Prop) (l : List Item) (v : Value) (b : Bool) (w : World) (hv : ItemsAt S w v l) (henv : Env w) (h : vNode l = b) : Calls Tryd.prog 54 #[v] w fun e w' => e = .returned (.bool b) ∧ Below w.heap.size w w' := by
  rw [← h]; exact validNode_any S l v w hv henv
theorem noRef_ok : RefOk noRef := ⟨by decide, by decide, by decide⟩
set_option maxRecDepth 100000 in
set_option maxHeartbeats 4000000 in
theorem items_any (S : Nat → Prop) (data : List UInt8) (v : Value) (w : World) (hv : BytesAt S w v data) (henv : Env w) : Calls Tryd.prog 45 #[v] w (ItemsRes data w) := by
  obtain ⟨_, a, cap, rfl, hn, hm, -⟩ := id hv
  unfold maxLen at hm
  have HV := Lib.hid hv
  have HE := Lib.hid henv
  clear hv henv
  by_cases hbig : 32768 < data.length
  · have HP := Lib.hid (itemsP_big hbig)
    go_enter Tryd.func45, Tryd.ntmps45
    go_wp2_with fail
    go_ret2
    exact ⟨Below.refl _ _, by rw [HP.out]; rfl⟩
  · have HBIG := Lib.hid hbig
    go_enter Tryd.func45, Tryd.ntmps45
    go_wp2_with fail
    refine (newReader_any S data _ w HV.out (by omega)).mono ?_
    rintro e w1 ⟨rb, dv, rfl, hge, hrd, hb1⟩
    have HRD1 := Lib.hid hrd
    have HB1 := Lib.hid hb1
    clear hrd hb1
    go_wp2_with fail
    refine (count_p rb dv data ⟨0, 0, 0⟩ 4096 _ HRD1.out (by omega)).mono ?_
    rintro e w2 ⟨n, s1, hcn, rfl, hrd2, hg2⟩
    have hnl : n ≤ 4096 := by have := cnP_le data 4096 ⟨0, 0, 0⟩; rw [hcn] at this; exact this
    have HCN := Lib.hid hcn
    have HI2 := Lib.hid (show ItsInv w1 rb w2 dv (.slice none 0 0) data s1 [] from ⟨hrd2, ⟨_, HRD1.out⟩, ⟨[], World.ownsRow_nil _ _ _ _, rfl⟩, hg2⟩)
    clear hcn hrd2 hg2
    go_wp2_with fail
    go_loopw [5, 16] (fun v i wr => ∃ (k : Nat) (l : List Item) (s : RS), k ≤ n ∧ i = .int .i64 k ∧ l.length = k ∧ itemsN data s1 k = some (l, s) ∧ ItsInv w1 rb wr dv v data s l) (fun _ i _ => n - (intOf i).toNat)
    case atStart => exact ⟨0, [], s1, Nat.zero_le _, rfl, rfl, rfl, HI2.out⟩
    case round =>
      obtain ⟨k, l, s, hk, rfl, hlk, hit, hinv⟩ := hrel
      have HIT := Lib.hid hit
      have HINV := Lib.hid hinv
      have HLK := Lib.hid hlk
      obtain ⟨cells, hown, hrow⟩ := hinv.row
      have HOWN := Lib.hid hown
      have HROW := Lib.hid hrow
      obtain ⟨av, cv0, hvs, hvn, hvm⟩ := owns_shape hown
      have HRD := Lib.hid hinv.rd
      subst hvs
      clear hit hinv hlk hown hrow
      by_cases hlt : k < n
      · go_wp2_with fail
        refine (text_p rb dv data s 64 _ HRD.out (by omega)).mono ?_
        rintro e w3 ⟨nm, s2, hp1, rfl, h1, h2⟩
        have HP1 := Lib.hid hp1
        have HM0 := Lib.hid (ItMid.start HRD.out h1 h2 #[.string ⟨nm.toArray⟩, .int .i64 0, .int .i64 0, .int .i64 0, .int .i64 0, .string ⟨#[]⟩, .slice none 0 0, .string ⟨#[]⟩, .int .i64 0, .int .i64 0])
        clear hp1 h1 h2
        go_wp2_with fail
        refine (uint_p rb dv data s2 _ HM0.out.rd).mono ?_
        rintro e w4 ⟨kd, s3, hp, rfl, h1, h2⟩
        have HP2 := Lib.hid hp
        have HM1 := Lib.hid (HM0.out.call h1 h2)
        have ck := HM1.out.cell 1
        have fk := HM1.out.free 1
        simp only [List.getElem?_toArray, List.getElem?_cons_succ, List.getElem?_cons_zero] at ck
        clear hp h1 h2
        go_wp2_with fail
        obtain ⟨kv, hkv⟩ : ∃ ix : Int, ix = wrap64 (kd : Int) := ⟨_, rfl⟩
        rw [← hkv]
        have Hkv := Lib.hid hkv
        clear hkv
        obtain ⟨w5, hw4⟩ : ∃ wx : World, wx = w4.setCell ⟨w3.heap.size, 1, none⟩ (.int .i64 kv) := ⟨_, rfl⟩
        rw [← hw4]
        have m4 := HM1.out.set 1 (.int .i64 kv)
        rw [← hw4] at m4
        simp only [List.setIfInBounds_toArray, List.set_cons_succ, List.set_cons_zero] at m4
        have HM2 := Lib.hid m4
        clear m4 hw4 ck fk HM0 HM1
        refine (uint_p rb dv data s3 _ HM2.out.rd).mono ?_
        rintro e w6 ⟨md, s4, hp, rfl, h1, h2⟩
        have HP3 := Lib.hid hp
        have HM3 := Lib.hid (HM2.out.call h1 h2)
        have ck := HM3.out.cell 2
        have fk := HM3.out.free 2
        simp only [List.getElem?_toArray, List.getElem?_cons_succ, List.getElem?_cons_zero] at ck
        clear hp h1 h2
        go_wp2_with fail
        obtain ⟨mv, hkv⟩ : ∃ ix : Int, ix = wrap64 (md : Int) := ⟨_, rfl⟩
        rw [← hkv]
        have Hmv := Lib.hid hkv
        clear hkv
        obtain ⟨w7, hw4⟩ : ∃ wx : World, wx = w6.setCell ⟨w3.heap.size, 2, none⟩ (.int .i64 mv) := ⟨_, rfl⟩
        rw [← hw4]
        have m4 := HM3.out.set 2 (.int .i64 mv)
        rw [← hw4] at m4
        simp only [List.setIfInBounds_toArray, List.set_cons_succ, List.set_cons_zero] at m4
        have HM4 := Lib.hid m4
        clear m4 hw4 ck fk HM2 HM3
        refine (uint_p rb dv data s4 _ HM4.out.rd).mono ?_
        rintro e w8 ⟨td, s5, hp, rfl, h1, h2⟩
        have HP4 := Lib.hid hp
        have HM5 := Lib.hid (HM4.out.call h1 h2)
        have ck := HM5.out.cell 3
        have fk := HM5.out.free 3
        simp only [List.getElem?_toArray, List.getElem?_cons_succ, List.getElem?_cons_zero] at ck
        clear hp h1 h2
        go_upto_region 11 with (fail)
        obtain ⟨tv, hkv⟩ : ∃ ix : Int, ix = wrap64 (td : Int) := ⟨_, rfl⟩
        rw [← hkv]
        have Htv := Lib.hid hkv
        clear hkv
        obtain ⟨w9, hw4⟩ : ∃ wx : World, wx = w8.setCell ⟨w3.heap.size, 3, none⟩ (.int .i64 tv) := ⟨_, rfl⟩
        rw [← hw4]
        have m4 := HM5.out.set 3 (.int .i64 tv)
        rw [← hw4] at m4
        simp only [List.setIfInBounds_toArray, List.set_cons_succ, List.set_cons_zero] at m4
        have HM6 := Lib.hid m4
        clear m4 hw4 ck fk HM4 HM5
        have ck := HM6.out.cell 1
        simp only [List.getElem?_toArray, List.getElem?_cons_succ, List.getElem?_cons_zero] at ck
        have HH := Lib.hid (itemP_head HP1.out HP2.out HP3.out HP4.out)
        have hnms : nm.length ≤ 64 := by have := txP_len data 64 s; rw [HP1.out] at this; exact this
        by_cases hk1 : kv = 1
        · have e1 : (kv == 1) = true := by simp [hk1]
          have HK1 := Lib.hid (show toI kd = 1 from Hkv.out.symm.trans hk1)
          clear hk1
          go_wp2_with fail
          refine (count_p rb dv data s5 963 _ HM6.out.rd (by omega)).mono ?_
          rintro e wa ⟨n2, s6, hp, rfl, h1, h2⟩
          have HP5 := Lib.hid hp
          have hn2 : n2 ≤ 963 := by have := cnP_le data 963 s5; rw [hp] at this; exact this
          have HM7 := Lib.hid (HM6.out.call h1 h2)
          clear hp h1 h2 ck HM6
          go_wp2_with fail
          obtain ⟨wo, hwo⟩ : ∃ wo : World, wo = wr := ⟨_, rfl⟩
          subst hwo
          go_loopw [39] (fun i wq => ∃ (j : Nat) (ch : List Ref) (s7 : RS) (cv : Value), j ≤ n2 ∧ i = .int .i64 j ∧ ch.length = j ∧ chunkN data s6 j = (ch, s7) ∧ ItMid rb w3.heap.size wo wq dv data s7 #[.string ⟨nm.toArray⟩, .int .i64 kv, .int .i64 mv, .int .i64 tv, .int .i64 0, .string ⟨#[]⟩, cv, .string ⟨#[]⟩, .int .i64 0, .int .i64 0] ∧ wq.ownsRow (w3.heap.size + 1) 37 3 cv ch.length (ch.flatMap refC)) (fun i _ => n2 - (intOf i).toNat)
          case atStart => exact ⟨0, [], s6, .slice none 0 0, Nat.zero_le _, rfl, rfl, rfl, HM7.out, World.ownsRow_nil _ _ _ _⟩
          case round =>
            obtain ⟨j, ch, s7, cv, hj, rfl, hlj, hch, hmid, how⟩ := hrel
            have HLJ := Lib.hid hlj
            have HCH := Lib.hid hch
            have HMQ := Lib.hid hmid
            have HOQ := Lib.hid how
            obtain ⟨a6, c6, hv6, hvn6, hvm6⟩ := owns_shape how
            subst hv6
            clear hlj hch hmid how
            by_cases hlt2 : j < n2
            · have ck := HMQ.out.cell 6
              have fk := HMQ.out.free 6
              simp only [List.getElem?_toArray, List.getElem?_cons_succ, List.getElem?_cons_zero] at ck
              go_wp2_with fail
              refine hld_begin (fun w' => w'.cell? ⟨w3.heap.size, 6, none⟩ = some (.slice a6 ch.length c6)) (by kernel_rfl) (by kernel_rfl) ?_
              simp only [List.dropLast_cons_cons, List.dropLast_singleton, List.length_cons, List.length_nil, Nat.reduceAdd, Nat.reduceSub]
              have HMD := Lib.hid (HMQ.out.below ((Below.refl _ _).drew))
              refine hld_take 0 rfl (by kernel_rfl) (by kernel_rfl) (by kernel_rfl) (fun _ _ _ h => h) rfl (by go_simp) (by intro w' hw'; go_simp; rfl) ?_
              simp only [Act.put, List.setIfInBounds_toArray, List.set_cons_succ, List.set_cons_zero]
              refine hld_take 1 rfl (by kernel_rfl) (by kernel_rfl) (by kernel_rfl) (fun _ _ _ h => h) rfl (by go_simp) (by intro w' hw'; go_simp; rfl) ?_
              simp only [Act.put, List.setIfInBounds_toArray, List.set_cons_succ, List.set_cons_zero]
              refine hld_take 2 rfl (by kernel_rfl) (by kernel_rfl) (by kernel_rfl) (fun _ _ _ h => h) rfl (by go_simp) (by intro w' hw'; go_simp; rfl) ?_
              simp only [Act.put, List.setIfInBounds_toArray, List.set_cons_succ, List.set_cons_zero]
              refine hld_bar 3 rfl (by kernel_rfl) rfl (fun K hK => ?_)
              go_wp2_with (go_at_call 51; refine (readRef_any rb dv data s7 _ HMD.out.rd).mono ?_; rintro e wb ⟨r, s8, hp, rfl, h1, h2, hrok⟩; unfold refV)
              have HP6 := Lib.hid hp
              have HRO := Lib.hid hrok
              have HMB := Lib.hid (HMD.out.call h1 h2)
              have HOB := Lib.hid (HOQ.out.kept (grown_trans (b := wr.drew) ⟨rfl, rfl, rfl, Nat.le_refl _, fun _ _ _ => rfl⟩ h2) (.inr (by
                intro e
                have := (HOQ.out.lt _ e).1
                have := RdAt.lt HRD1.out
                have := HINV.out.grown.size
                have := HMQ.out.ge
                omega)))
              have ck2 := HMB.out.cell 6
              have HMC := Lib.hid (HMB.out.below ((Below.refl _ _).alloc (Nat.le_refl _) (.cells #[.string r.name, .int .i64 r.gen, .int .i64 r.size] 37)))
              have ck3 := HMC.out.cell 6
              have fk2 := HMB.out.free 6
              have hbz2 : w3.heap.size + 1 ≤ wb.heap.size := (Array.getElem?_eq_some_iff.1 HMB.out.box).1
              simp only [List.getElem?_toArray, List.getElem?_cons_succ, List.getElem?_cons_zero] at ck2 ck3
              clear hp h1 h2 hrok ck fk HMQ HMD
              refine ⟨ck2, ?_⟩
              refine hld_bar 4 rfl (by kernel_rfl) rfl (fun K hK => ?_)
              go_wp2_with fail
              (first | (refine ⟨ck3, ?_⟩) | skip)
              refine hld_bar 5 rfl (by kernel_rfl) rfl (fun K hK => ?_)
              go_wp2_with (at_builtin; go_must (refine wpList_app1p Tryd.appRefs rfl _ _ rfl (w3.heap.size + 1) (.slice a6 ch.length c6) ch.length (ch.flatMap refC) rfl wb [.string r.name, .int .i64 r.gen, .int .i64 r.size] _ rfl rfl (refC_one (r := r)) HOB.out (by have := HLJ.out; omega) hbz2 ?_); intro v' wc hown' hgrow' _ hpl; obtain ⟨ae, ce, rfl, -, -⟩ := owns_shape hown')
              have HMW := Lib.hid (HMB.out.app hgrow' (fun k hk => by have := (HOB.out.lt k hk).1; omega))
              have HOW := Lib.hid (show wc.ownsRow (w3.heap.size + 1) 37 3 (.slice ae (ch.length + 1) ce) (ch ++ [r]).length ((ch ++ [r]).flatMap refC) by rw [List.length_append, List.flatMap_append]; simpa [refC] using hown')
              have ck4 := HMW.out.cell 6
              have fk4 := HMW.out.free 6
              simp only [List.getElem?_toArray, List.getElem?_cons_succ, List.getElem?_cons_zero] at ck4
              clear hown' hgrow' hpl ck2 ck3 fk2 HMC HMB HOB HOQ
              refine ⟨ck4, ?_⟩
              refine hld_take 6 rfl (by kernel_rfl) (by kernel_rfl) (by kernel_rfl) (fun _ _ _ h => h) rfl (by go_simp) (by intro w' hw'; go_simp; rfl) ?_
              simp only [Act.put, List.setIfInBounds_toArray, List.set_cons_succ, List.set_cons_zero]
              refine hld_done (by kernel_rfl) ?_
              refine last_run rfl rfl (fun K hK => ?_)
              go_wp2_with fail
              go_roundw
              case rel =>
                have m4 := HMW.out.set 6 (.slice ae (ch.length + 1) ce)
                simp only [List.setIfInBounds_toArray, List.set_cons_succ, List.set_cons_zero] at m4
                refine ⟨j + 1, ch ++ [r], s8, .slice ae (ch.length + 1) ce, by omega, by go_num, by simp [HLJ.out], chunkN_step HCH.out HP6.out, m4, HOW.out.kept (grown_set _ _ _ _) (.inr (by
                  intro e
                  have := (HOW.out.lt _ e).1
                  omega))⟩
              case measure => simp [intOf]; omega
            · obtain rfl : j = n2 := by omega
              have hchok : ∀ r ∈ ch, RefOk r := by
                have := chunkN_ok data s6 j
                rw [HCH.out] at this; exact this
              have HRF := Lib.hid (refs_owned HOQ.out hchok)
              have ck := HMQ.out.cell 6
              simp only [List.getElem?_toArray, List.getElem?_cons_succ, List.getElem?_cons_zero] at ck
              clear hchok
              go_wp2_with fail
              refine (total_any _ _ ch _ HRF.out).mono ?_
              rintro e wb ⟨rfl, hbt⟩
              have HMB := Lib.hid (HMQ.out.below hbt)
              have HRB := Lib.hid (show RefsAt (fun k => w3.heap.size < k) wb (.slice a6 ch.length c6) ch from RefsAt.same (SeqAt.below HRF.out (by omega) hbt (fun _ _ _ h => h)) (fun k hk hS => ⟨by have := hS.1; omega, rfl⟩))
              have ck4 := HMB.out.cell 4
              have fk4 := HMB.out.free 4
              simp only [List.getElem?_toArray, List.getElem?_cons_succ, List.getElem?_cons_zero] at ck4
              obtain ⟨tw, htw⟩ : ∃ tw : Int, tw = totW ch := ⟨_, rfl⟩
              rw [← htw]
              have HTW := Lib.hid htw
              clear hbt ck htw HRF
              go_upto_region 23 with (fail)
              obtain ⟨wd, hwd⟩ : ∃ wx : World, wx = wb.setCell ⟨w3.heap.size, 4, none⟩ (.int .i64 tw) := ⟨_, rfl⟩
              rw [← hwd]
              have m4 := HMB.out.set 4 (.int .i64 tw)
              rw [← hwd] at m4
              simp only [List.setIfInBounds_toArray, List.set_cons_succ, List.set_cons_zero] at m4
              have HM8 := Lib.hid m4
              have HIP := Lib.hid (show itemP data s = some (⟨⟨nm.toArray⟩, toI kd, toI md, toI td, tw, ⟨#[]⟩, ch, noRef⟩, s7) by rw [HH.out, itemK_file HK1.out HP5.out HCH.out, HTW.out])
              have HOK := Lib.hid (show ItemOk ⟨⟨nm.toArray⟩, kv, mv, tv, tw, ⟨#[]⟩, ch, noRef⟩ from ⟨by show ByteArray.size ⟨_⟩ ≤ _; unfold maxLen; simp [ByteArray.size]; omega, by show ByteArray.size ⟨_⟩ ≤ _; unfold maxLen; simp [ByteArray.size], noRef_ok⟩)
              have HCV := Lib.hid (show RefsAt (wo.heap.size ≤ ·) wd (.slice a6 ch.length c6) ch from RefsAt.same HRB.out (fun k hk hS => ⟨by have := HMQ.out.ge; show wo.heap.size ≤ k; omega, by rw [hwd]; exact Below.heap_setCell _ _ _ _ (by show k ≠ w3.heap.size; omega)⟩))
              clear m4 hwd ck4 fk4 HMB HMQ HRB
              have d0 := HM8.out.cell 0
              have d1 := HM8.out.cell 1
              have d2 := HM8.out.cell 2
              have d3 := HM8.out.cell 3
              have d4 := HM8.out.cell 4
              have d5 := HM8.out.cell 5
              have d6 := HM8.out.cell 6
              have d7 := HM8.out.cell 7
              have d8 := HM8.out.cell 8
              have d9 := HM8.out.cell 9
              simp only [List.getElem?_toArray, List.getElem?_cons_succ, List.getElem?_cons_zero] at d0 d1 d2 d3 d4 d5 d6 d7 d8 d9
              have HOC := Lib.hid (HOWN.out.kept HM8.out.grown (.inr (by
                intro e
                have := (HOWN.out.lt _ e).1
                have := RdAt.lt HRD1.out
                omega)))
              have hbz : w1.heap.size ≤ wd.heap.size := Nat.le_trans HINV.out.grown.size HM8.out.grown.size
              have HXI := Lib.hid (show itemP data s = some (⟨⟨nm.toArray⟩, kv, mv, tv, tw, ⟨#[]⟩, ch, noRef⟩, s7) by rw [HIP.out, Hkv.out, Hmv.out, Htv.out]; rfl)
              have hlen : l.length < 4096 := by have := HLK.out; omega
              go_wp2_with (at_builtin; go_must (refine wpList_app1p Tryd.appItems rfl _ _ rfl w1.heap.size (.slice av l.length cv0) l.length cells rfl wd [.string ⟨nm.toArray⟩, .int .i64 kv, .int .i64 mv, .int .i64 tv, .int .i64 (tw), .string ⟨#[]⟩, .slice a6 ch.length c6, .string ⟨#[]⟩, .int .i64 0, .int .i64 0] _ rfl rfl (itemC_one (it := ⟨⟨nm.toArray⟩, kv, mv, tv, tw, ⟨#[]⟩, ch, noRef⟩)) HOC.out (by omega) hbz ?_); intro v' we hown' hgrow' _ hpl; have HIE := Lib.hid (HINV.out.added (it := ⟨⟨nm.toArray⟩, kv, mv, tv, tw, ⟨#[]⟩, ch, noRef⟩) HM8.out HCV.out HOK.out HROW.out HOWN.out hown' hgrow' hpl); obtain ⟨ae, ce, rfl, -, -⟩ := owns_shape hown'; clear hown' hgrow' hpl)
              go_roundw
              case rel => exact ⟨k + 1, l ++ [⟨⟨nm.toArray⟩, kv, mv, tv, tw, ⟨#[]⟩, ch, noRef⟩], s7, by omega, by go_num, by simp [HLK.out], itemsN_step HIT.out HXI.out, HIE.out⟩
              case measure => simp [intOf]; omega
        · have e1 : (kv == 1) = false := by simp [hk1]
          by_cases hk2 : kv = 2
          · have e2 : (kv == 2) = true := by simp [hk2]
            have HK2 := Lib.hid (show toI kd = 2 from Hkv.out.symm.trans hk2)
            clear hk1 hk2
            go_wp2_with fail
            refine (readRef_any rb dv data s5 _ HM6.out.rd).mono ?_
            rintro e wa ⟨r, s6, hp, rfl, h1, h2, hrok⟩
            have HP5 := Lib.hid hp
            have HRO := Lib.hid hrok
            have HM7 := Lib.hid (HM6.out.call h1 h2)
            have c7 := HM7.out.cell 7
            have c8 := HM7.out.cell 8
            have c9 := HM7.out.cell 9
            have f7 := HM7.out.free 7
            have f8 := HM7.out.free 8
            have f9 := HM7.out.free 9
            simp only [List.getElem?_toArray, List.getElem?_cons_succ, List.getElem?_cons_zero] at c7 c8 c9
            unfold refV
            clear hp h1 h2 hrok ck
            go_upto_region 23 with (fail)
            obtain ⟨wb, hwb⟩ : ∃ wx : World, wx = ((wa.setCell ⟨w3.heap.size, 7, none⟩ (.string r.name)).setCell ⟨w3.heap.size, 8, none⟩ (.int .i64 r.gen)).setCell ⟨w3.heap.size, 9, none⟩ (.int .i64 r.size) := ⟨_, rfl⟩
            rw [← hwb]
            have m4 := ((HM7.out.set 7 (.string r.name)).set 8 (.int .i64 r.gen)).set 9 (.int .i64 r.size)
            rw [← hwb] at m4
            simp only [List.setIfInBounds_toArray, List.set_cons_succ, List.set_cons_zero] at m4
            have HM8 := Lib.hid m4
            have HIP := Lib.hid (HH.out.trans (itemK_dir HK2.out HP5.out))
            have HOK := Lib.hid (show ItemOk ⟨⟨nm.toArray⟩, kv, mv, tv, 0, ⟨#[]⟩, [], r⟩ from ⟨by show ByteArray.size ⟨_⟩ ≤ _; unfold maxLen; simp [ByteArray.size]; omega, by show ByteArray.size ⟨_⟩ ≤ _; unfold maxLen; simp [ByteArray.size], HRO.out⟩)
            have HCV := Lib.hid (show RefsAt (wr.heap.size ≤ ·) wb (.slice none 0 0) [] from SeqAt.nil)
            clear m4 hwb c7 c8 c9 f7 f8 f9 HM7 HM6
            have d0 := HM8.out.cell 0
            have d1 := HM8.out.cell 1
            have d2 := HM8.out.cell 2
            have d3 := HM8.out.cell 3
            have d4 := HM8.out.cell 4
            have d5 := HM8.out.cell 5
            have d6 := HM8.out.cell 6
            have d7 := HM8.out.cell 7
            have d8 := HM8.out.cell 8
            have d9 := HM8.out.cell 9
            simp only [List.getElem?_toArray, List.getElem?_cons_succ, List.getElem?_cons_zero] at d0 d1 d2 d3 d4 d5 d6 d7 d8 d9
            have HOC := Lib.hid (HOWN.out.kept HM8.out.grown (.inr (by
              intro e
              have := (HOWN.out.lt _ e).1
              have := RdAt.lt HRD1.out
              omega)))
            have hbz : w1.heap.size ≤ wb.heap.size := Nat.le_trans HINV.out.grown.size HM8.out.grown.size
            have HXI := Lib.hid (show itemP data s = some (⟨⟨nm.toArray⟩, kv, mv, tv, 0, ⟨#[]⟩, [], r⟩, s6) by rw [HIP.out, Hkv.out, Hmv.out, Htv.out]; rfl)
            have hlen : l.length < 4096 := by have := HLK.out; omega
            go_wp2_with (at_builtin; go_must (refine wpList_app1p Tryd.appItems rfl _ _ rfl w1.heap.size (.slice av l.length cv0) l.length cells rfl wb [.string ⟨nm.toArray⟩, .int .i64 kv, .int .i64 mv, .int .i64 tv, .int .i64 (0), .string ⟨#[]⟩, .slice none 0 0, .string r.name, .int .i64 r.gen, .int .i64 r.size] _ rfl rfl (itemC_one (it := ⟨⟨nm.toArray⟩, kv, mv, tv, 0, ⟨#[]⟩, [], r⟩)) HOC.out (by omega) hbz ?_); intro v' we hown' hgrow' _ hpl; have HIE := Lib.hid (HINV.out.added (it := ⟨⟨nm.toArray⟩, kv, mv, tv, 0, ⟨#[]⟩, [], r⟩) HM8.out HCV.out HOK.out HROW.out HOWN.out hown' hgrow' hpl); obtain ⟨ae, ce, rfl, -, -⟩ := owns_shape hown'; clear hown' hgrow' hpl)
            go_roundw
            case rel => exact ⟨k + 1, l ++ [⟨⟨nm.toArray⟩, kv, mv, tv, 0, ⟨#[]⟩, [], r⟩], s6, by omega, by go_num, by simp [HLK.out], itemsN_step HIT.out HXI.out, HIE.out⟩
            case measure => simp [intOf]; omega
          · have e2 : (kv == 2) = false := by simp [hk2]
            by_cases hk3 : kv = 3
            · have e3 : (kv == 3) = true := by simp [hk3]
              have HK3 := Lib.hid (show toI kd = 3 from Hkv.out.symm.trans hk3)
              clear hk1 hk2 hk3
              go_wp2_with fail
              refine (text_p rb dv data s5 512 _ HM6.out.rd (by omega)).mono ?_
              rintro e wa ⟨lk, s6, hp, rfl, h1, h2⟩
              have HP5 := Lib.hid hp
              have hlks : lk.length ≤ 512 := by have := txP_len data 512 s5; rw [hp] at this; exact this
              have HM7 := Lib.hid (HM6.out.call h1 h2)
              have c7 := HM7.out.cell 5
              have f7 := HM7.out.free 5
              simp only [List.getElem?_toArray, List.getElem?_cons_succ, List.getElem?_cons_zero] at c7
              clear hp h1 h2 ck
              go_upto_region 23 with (fail)
              obtain ⟨wb, hwb⟩ : ∃ wx : World, wx = wa.setCell ⟨w3.heap.size, 5, none⟩ (.string ⟨lk.toArray⟩) := ⟨_, rfl⟩
              rw [← hwb]
              have m4 := HM7.out.set 5 (.string ⟨lk.toArray⟩)
              rw [← hwb] at m4
              simp only [List.setIfInBounds_toArray, List.set_cons_succ, List.set_cons_zero] at m4
              have HM8 := Lib.hid m4
              have HIP := Lib.hid (HH.out.trans (itemK_link HK3.out HP5.out))
              have HOK := Lib.hid (show ItemOk ⟨⟨nm.toArray⟩, kv, mv, tv, 0, ⟨lk.toArray⟩, [], noRef⟩ from ⟨by show ByteArray.size ⟨_⟩ ≤ _; unfold maxLen; simp [ByteArray.size]; omega, by show ByteArray.size ⟨_⟩ ≤ _; unfold maxLen; simp [ByteArray.size]; omega, noRef_ok⟩)
              have HCV := Lib.hid (show RefsAt (wr.heap.size ≤ ·) wb (.slice none 0 0) [] from SeqAt.nil)
              clear m4 hwb c7 f7 HM7 HM6
              have d0 := HM8.out.cell 0
              have d1 := HM8.out.cell 1
              have d2 := HM8.out.cell 2
              have d3 := HM8.out.cell 3
              have d4 := HM8.out.cell 4
              have d5 := HM8.out.cell 5
              have d6 := HM8.out.cell 6
              have d7 := HM8.out.cell 7
              have d8 := HM8.out.cell 8
              have d9 := HM8.out.cell 9
              simp only [List.getElem?_toArray, List.getElem?_cons_succ, List.getElem?_cons_zero] at d0 d1 d2 d3 d4 d5 d6 d7 d8 d9
              have HOC := Lib.hid (HOWN.out.kept HM8.out.grown (.inr (by
                intro e
                have := (HOWN.out.lt _ e).1
                have := RdAt.lt HRD1.out
                omega)))
              have hbz : w1.heap.size ≤ wb.heap.size := Nat.le_trans HINV.out.grown.size HM8.out.grown.size
              have HXI := Lib.hid (show itemP data s = some (⟨⟨nm.toArray⟩, kv, mv, tv, 0, ⟨lk.toArray⟩, [], noRef⟩, s6) by rw [HIP.out, Hkv.out, Hmv.out, Htv.out]; rfl)
              have hlen : l.length < 4096 := by have := HLK.out; omega
              go_wp2_with (at_builtin; go_must (refine wpList_app1p Tryd.appItems rfl _ _ rfl w1.heap.size (.slice av l.length cv0) l.length cells rfl wb [.string ⟨nm.toArray⟩, .int .i64 kv, .int .i64 mv, .int .i64 tv, .int .i64 (0), .string ⟨lk.toArray⟩, .slice none 0 0, .string ⟨#[]⟩, .int .i64 0, .int .i64 0] _ rfl rfl (itemC_one (it := ⟨⟨nm.toArray⟩, kv, mv, tv, 0, ⟨lk.toArray⟩, [], noRef⟩)) HOC.out (by omega) hbz ?_); intro v' we hown' hgrow' _ hpl; have HIE := Lib.hid (HINV.out.added (it := ⟨⟨nm.toArray⟩, kv, mv, tv, 0, ⟨lk.toArray⟩, [], noRef⟩) HM8.out HCV.out HOK.out HROW.out HOWN.out hown' hgrow' hpl); obtain ⟨ae, ce, rfl, -, -⟩ := owns_shape hown'; clear hown' hgrow' hpl)
              go_roundw
              case rel => exact ⟨k + 1, l ++ [⟨⟨nm.toArray⟩, kv, mv, tv, 0, ⟨lk.toArray⟩, [], noRef⟩], s6, by omega, by go_num, by simp [HLK.out], itemsN_step HIT.out HXI.out, HIE.out⟩
              case measure => simp [intOf]; omega
            · have e3 : (kv == 3) = false := by simp [hk3]
              have HIN := Lib.hid (itemsP_none HBIG.out HCN.out (itemsN_none (itemsN_stop HIT.out (HH.out.trans (itemK_none (fun e => hk1 (Hkv.out.trans e)) (fun e => hk2 (Hkv.out.trans e)) (fun e => hk3 (Hkv.out.trans e))))) n (by omega)))
              clear hk1 hk2 hk3
              go_wp2_with fail
              go_ret2
              have hfb : Below w.heap.size w w9 := HB1.out.trans ((Grows.of_grown (S := fun k => k = rb) (grown_trans HINV.out.grown HM6.out.grown) (fun k hk => by cases hk; rfl)).below HB1.out.size (fun k hk => by subst hk; exact hge))
              exact ⟨hfb, by rw [HIN.out]; rfl⟩
      · obtain rfl : k = n := by omega
        have HIS := Lib.hid (itemsP_some HBIG.out HCN.out HIT.out)
        have HIA := Lib.hid (show ItemsAt (w.heap.size ≤ ·) wr (.slice av l.length cv0) l from by
          have hww := HB1.out.size
          refine ⟨cells, (row_of_owns HOWN.out).weak (fun k hk => by have := hk.1; omega), HROW.out.mono (fun c x _ hx => hx.same (fun k hk hS => ⟨by have := hS.1; omega, rfl⟩))⟩)
        have HFB := Lib.hid (show Below w.heap.size w wr from HB1.out.trans ((Grows.of_grown (S := fun k => k = rb) HINV.out.grown (fun k hk => by cases hk; rfl)).below HB1.out.size (fun k hk => by subst hk; exact hge)))
        go_wp2_with fail
        refine (end_any rb dv data s _ HRD.out).mono ?_
        rintro e we ⟨rfl, nd, rfl⟩
        obtain ⟨ev, hev⟩ : ∃ ev : Int, ev = endE data s := ⟨_, rfl⟩
        rw [← hev]
        have HEV := Lib.hid hev
        clear hev
        by_cases h0 : ev = 0
        · subst h0
          have HIA2 := Lib.hid (show ItemsAt (w.heap.size ≤ ·) (wr.drewN nd) (.slice av l.length cv0) l from ItemsAt.below HIA.out (below_draws (Below.refl _ _) nd))
          have HE2 := Lib.hid (HE.out.below (below_draws HFB.out nd))
          cases hvn2 : vNode l
          · have HIN := Lib.hid (show itemsP data = none by rw [HIS.out, hvn2]; simp)
            have HVN := Lib.hid hvn2
            clear hvn2
            go_wp2_with fail
            refine (validNode_is _ l _ false _ HIA2.out HE2.out HVN.out).mono ?_
            rintro e wf ⟨rfl, hbf⟩
            have HBF := Lib.hid (below_next (below_draws HFB.out nd) hbf)
            clear hbf
            go_wp2_with fail
            go_ret2
            exact ⟨HBF.out, by rw [HIN.out]; rfl⟩
          · have HIN := Lib.hid (show itemsP data = some l by rw [HIS.out, hvn2]; simp [HEV.out.symm])
            have HVN := Lib.hid hvn2
            clear hvn2
            go_wp2_with fail
            refine (validNode_is _ l _ true _ HIA2.out HE2.out HVN.out).mono ?_
            rintro e wf ⟨rfl, hbf⟩
            have HBF := Lib.hid (below_next (below_draws HFB.out nd) hbf)
            have HIF := Lib.hid (ItemsAt.below HIA2.out hbf)
            clear hbf
            go_wp2_with fail
            go_ret2
            exact ⟨HBF.out, by rw [HIN.out]; exact ⟨_, rfl, HIF.out⟩⟩
        · have HIN := Lib.hid (show itemsP data = none by rw [HIS.out, if_neg (fun h => h0 (HEV.out.trans h.1))])
          have e6 : (ev != 0) = true := by simp [h0]
          clear h0
          go_wp2_with fail
          go_ret2
          exact ⟨below_draws HFB.out nd, by rw [HIN.out]; rfl⟩

end Go.Proofs.YtndgmcggckpgfaaDoor

/- Contracts of package manifest: library.chunk, library.node. -/
namespace Go.Proofs.YtndgmcggckpgfaaDoor
open Go.RowKit Go.Maps

/-- The entries of a map of contents. -/
def EntsIn (S : Nat → Prop) (w : World) : List (Value × Value) → List (ByteArray × List UInt8) → Prop
  | [], [] => True
  | (k, v) :: m, (n, bs) :: cs => k = .string n ∧ BytesAt S w v bs ∧ EntsIn S w m cs
  | _, _ => False
theorem EntsIn.mono {S : Nat → Prop} {w w' : World} : ∀ {m : List (Value × Value)} {cs : List (ByteArray × List UInt8)}, EntsIn S w m cs → (∀ v bs, BytesAt S w v bs → BytesAt S w' v bs) → EntsIn S w' m cs
  | [], [], _, _ => trivial
  | [], _ :: _, h, _ => h
  | _ :: _, [], h, _ => h
  | (_, _) :: _, (_, _) :: _, h, hm => ⟨h.1, hm _ _ h.2.1, EntsIn.mono h.2.2 hm⟩
def findC : List (ByteArray × List UInt8) → ByteArray → Option (List UInt8)
  | [], _ => none
  | (k, bs) :: cs, n => if k = n then some bs else findC cs n
theorem EntsIn.hit {S : Nat → Prop} {w : World} {n : ByteArray} {bs : List UInt8} : ∀ {m : List (Value × Value)} {cs : List (ByteArray × List UInt8)}, EntsIn S w m cs → findC cs n = some bs → ∃ v, (Value.string n, v) ∈ m ∧ BytesAt S w v bs
  | [], [], _, hf => by simp [findC] at hf
  | [], _ :: _, h, _ => False.elim h
  | _ :: _, [], h, _ => False.elim h
  | (k, v) :: m, (n', bs') :: cs, h, hf => by
    simp only [findC] at hf
    split at hf
    · rename_i e
      simp only [Option.some.injEq] at hf
      subst hf e
      exact ⟨v, by rw [h.1]; simp, h.2.1⟩
    · obtain ⟨v', h1, h2⟩ := EntsIn.hit h.2.2 hf
      exact ⟨v', by simp [h1], h2⟩
theorem EntsIn.miss {S : Nat → Prop} {w : World} {n : ByteArray} : ∀ {m : List (Value × Value)} {cs : List (ByteArray × List UInt8)}, EntsIn S w m cs → findC cs n = none → ∀ p ∈ m, p.1 ≠ Value.string n
  | [], [], _, _, _, hp => by simp at hp
  | [], _ :: _, h, _, _, _ => False.elim h
  | _ :: _, [], h, _, _, _ => False.elim h
  | (k, v) :: m, (n', bs') :: cs, h, hf, p, hp => by
    simp only [findC] at hf
    split at hf
    · simp at hf
    · rename_i e
      rcases List.mem_cons.1 hp with rfl | hp
      · intro e2
        have := h.1.symm.trans e2
        simp only [Value.string.injEq] at this
        exact e this
      · exact EntsIn.miss h.2.2 hf p hp
/-- A map of contents. -/
def ContAt (S : Nat → Prop) (w : World) (cv : Value) (cs : List (ByteArray × List UInt8)) : Prop :=
  (cv = .map none ∧ cs = []) ∨ ∃ b m, cv = .map (some b) ∧ S b ∧ MapIs Tryd.prog 9 w b m ∧ EntsIn S w m cs
theorem ContAt.below {S : Nat → Prop} {w w' : World} {cv : Value} {cs : List (ByteArray × List UInt8)} (h : ContAt S w cv cs) (hb : Below w.heap.size w w') : ContAt S w' cv cs := by
  rcases h with h | ⟨b, m, h1, h0, h2, h3⟩
  · exact .inl h
  · exact .inr ⟨b, m, h1, h0, h2.same (hb.block b h2.lt), h3.mono (fun v bs hv => RowAt.below hv (by omega) hb)⟩
theorem lawStr : Keyed Tryd.prog 9 := string_keyed Tryd.underlying9
theorem keyStr {n : ByteArray} (h : n.size ≤ maxLen) : ∃ l, keyOf Tryd.prog 9 (.string n) = some l := ⟨.string n.data.toList, by simp [keyOf, mapKey, Tryd.underlying9, h]⟩
theorem ContAt.hitL {S : Nat → Prop} {w : World} {cv : Value} {cs : List (ByteArray × List UInt8)} (h : ContAt S w cv cs) {n : ByteArray} {bs : List UInt8} (hn : n.size ≤ maxLen) (hf : findC cs n = some bs) :
    ∃ v, (Instr.lookup 99 cv (.string n) true).run Tryd.prog w = .ok (.tuple #[v, .bool true]) w ∧ BytesAt S w v bs := by
  rcases h with ⟨_, rfl⟩ | ⟨b, m, rfl, _, h2, h3⟩
  · simp [findC] at hf
  · obtain ⟨v, hv, hb⟩ := h3.hit hf
    exact ⟨v, h2.hit lawStr (t := 99) (e := 65) (by kernel_rfl) (keyStr hn) hv true, hb⟩
theorem ContAt.missL {S : Nat → Prop} {w : World} {cv : Value} {cs : List (ByteArray × List UInt8)} (h : ContAt S w cv cs) {n : ByteArray} (hn : n.size ≤ maxLen) (hf : findC cs n = none) :
    (Instr.lookup 99 cv (.string n) true).run Tryd.prog w = .ok (.tuple #[.slice none 0 0, .bool false]) w := by
  obtain ⟨l, hl⟩ := keyStr hn
  rcases h with ⟨rfl, _⟩ | ⟨b, m, rfl, _, h2, h3⟩
  · exact Maps.look_nil true lawStr (t := 99) (e := 65) (by kernel_rfl) (by kernel_rfl) hl
  · exact h2.miss lawStr (t := 99) (e := 65) (by kernel_rfl) (by kernel_rfl) (keyStr hn) (h3.miss hf) true
def chunkP (cs : List (ByteArray × List UInt8)) (r : Ref) : Except Int (List UInt8) := match findC cs r.name with
  | none => .error 10
  | some bs => if (bs.length : Int) = r.size then .ok bs else .error 9
def nodeP (cs : List (ByteArray × List UInt8)) (r : Ref) : Except Int (List Item) := match chunkP cs r with
  | .error e => .error e
  | .ok bs => match itemsP bs with
    | none => .error 9
    | some l => .ok l
def ChunkRes (cs : List (ByteArray × List UInt8)) (r : Ref) (S : Nat → Prop) (w : World) (e : Ending) (w' : World) : Prop := Below w.heap.size w w' ∧ match chunkP cs r with
  | .error x => e = .returned (.tuple #[.slice none 0 0, .int .i64 x]) ∧ x ≠ 0
  | .ok bs => ∃ v, e = .returned (.tuple #[v, .int .i64 0]) ∧ BytesAt S w' v bs
set_option maxRecDepth 100000 in
set_option maxHeartbeats 1000000 in
theorem chunk_any (S : Nat → Prop) (cv : Value) (cs : List (ByteArray × List UInt8)) (r : Ref) (w : World) (hc : ContAt S w cv cs) (hr : RefOk r) : Calls Tryd.prog 44 #[cv, refV r] w (ChunkRes cs r S w) := by
  have hnm := hr.nm
  have HC := Lib.hid (hc.below ((Below.refl _ _).alloc (Nat.le_refl _) (.cells #[.string r.name, .int .i64 r.gen, .int .i64 r.size] 37)))
  have HB := Lib.hid ((Below.refl w.heap.size w).alloc (Nat.le_refl _) (.cells #[.string r.name, .int .i64 r.gen, .int .i64 r.size] 37))
  unfold refV
  clear hc hr
  cases hf : findC cs r.name with
  | none =>
    have hlk := HC.out.missL hnm hf
    have HF := Lib.hid (show chunkP cs r = .error 10 by unfold chunkP; rw [hf])
    clear hf hnm
    go_enter Tryd.func44, Tryd.ntmps44
    go_wp2_with fail
    go_ret2
    exact ⟨HB.out, by rw [HF.out]; exact ⟨rfl, by decide⟩⟩
  | some bs =>
    obtain ⟨v, hlk, hv⟩ := HC.out.hitL hnm hf
    have HV := Lib.hid hv
    obtain ⟨_, a, cap, rfl, hn, hm, -⟩ := hv
    unfold maxLen at hm
    by_cases hl : (bs.length : Int) = r.size
    · have HF := Lib.hid (show chunkP cs r = .ok bs by unfold chunkP; rw [hf]; simp only [if_pos hl])
      have e1 : ((bs.length : Int) != r.size) = false := by simp [hl]
      clear hf hnm hl
      go_enter Tryd.func44, Tryd.ntmps44
      go_wp2_with fail
      go_ret2
      exact ⟨HB.out, by rw [HF.out]; exact ⟨_, rfl, HV.out⟩⟩
    · have HF := Lib.hid (show chunkP cs r = .error 9 by unfold chunkP; rw [hf]; simp only [if_neg hl])
      have e1 : ((bs.length : Int) != r.size) = true := by simp [hl]
      clear hf hnm hl
      go_enter Tryd.func44, Tryd.ntmps44
      go_wp2_with fail
      go_ret2
      exact ⟨HB.out, by rw [HF.out]; exact ⟨rfl, by decide⟩⟩
def NodeRes (cs : List (ByteArray × List UInt8)) (r : Ref) (w : World) (e : Ending) (w' : World) : Prop := Below w.heap.size w w' ∧ match nodeP cs r with
  | .error x => e = .returned (.tuple #[.slice none 0 0, .int .i64 x]) ∧ x ≠ 0
  | .ok l => ∃ v, e = .returned (.tuple #[v, .int .i64 0]) ∧ ItemsAt (w.heap.size ≤ ·) w' v l
set_option maxRecDepth 100000 in
set_option maxHeartbeats 1000000 in
theorem node_any (S : Nat → Prop) (cv : Value) (cs : List (ByteArray × List UInt8)) (r : Ref) (w : World) (hc : ContAt S w cv cs) (hr : RefOk r) (henv : Env w) : Calls Tryd.prog 39 #[cv, refV r] w (NodeRes cs r w) := by
  have HB := Lib.hid ((Below.refl w.heap.size w).alloc (Nat.le_refl _) (.cells #[.string r.name, .int .i64 r.gen, .int .i64 r.size] 37))
  have HC := Lib.hid (hc.below HB.out)
  have HR := Lib.hid hr
  have HE := Lib.hid (henv.below HB.out)
  unfold refV
  clear hc hr henv
  go_enter Tryd.func39, Tryd.ntmps39
  go_wp2_with fail
  refine (chunk_any S cv cs r _ HC.out HR.out).mono ?_
  rintro e w1 ⟨hb1, hres⟩
  have HB1 := Lib.hid (below_next HB.out hb1)
  have HE1 := Lib.hid (HE.out.below hb1)
  clear hb1
  cases hch : chunkP cs r with
  | error x =>
    rw [hch] at hres
    obtain ⟨rfl, hx⟩ := hres
    have HN := Lib.hid (show nodeP cs r = .error x by unfold nodeP; rw [hch])
    have HX := Lib.hid hx
    have e1 : (x != 0) = true := by simp [hx]
    clear hch hx
    go_wp2_with fail
    go_ret2
    exact ⟨HB1.out, by rw [HN.out]; exact ⟨rfl, HX.out⟩⟩
  | ok bs =>
    rw [hch] at hres
    obtain ⟨v, rfl, hv⟩ := hres
    have HV := Lib.hid hv
    obtain ⟨_, a, cap, rfl, hn, hm, -⟩ := hv
    unfold maxLen at hm
    have HCH := Lib.hid hch
    clear hch
    go_wp2_with fail
    refine (items_any S bs _ w1 HV.out HE1.out).mono ?_
    rintro e w2 ⟨hb2, hres⟩
    have HB2 := Lib.hid (below_next HB1.out hb2)
    clear hb2
    cases hit : itemsP bs with
    | none =>
      rw [hit] at hres
      simp only at hres
      subst hres
      have HN := Lib.hid (show nodeP cs r = .error 9 by unfold nodeP; rw [HCH.out]; simp only [hit])
      clear hit
      go_wp2_with fail
      go_ret2
      exact ⟨HB2.out, by rw [HN.out]; exact ⟨rfl, by decide⟩⟩
    | some l =>
      rw [hit] at hres
      simp only at hres
      obtain ⟨v, rfl, hv⟩ := hres
      have hwz := HB1.out.size
      have HV2 := Lib.hid (show ItemsAt (w.heap.size ≤ ·) w2 v l from by
        obtain ⟨cells, h1, h2⟩ := hv
        exact ⟨cells, h1.weak (fun k hk => Nat.le_trans hwz hk), h2.mono (fun c x _ hx => hx.same (fun k _ hS => ⟨Nat.le_trans hwz hS, rfl⟩))⟩)
      obtain ⟨a2, c2, rfl, -, -, -⟩ := SeqAt.shape hv ItemR.len
      have HN := Lib.hid (show nodeP cs r = .ok l by unfold nodeP; rw [HCH.out]; simp only [hit])
      clear hit hv
      go_wp2_with fail
      go_ret2
      exact ⟨HB2.out, by rw [HN.out]; exact ⟨_, rfl, HV2.out⟩⟩

end Go.Proofs.YtndgmcggckpgfaaDoor

/- The chapter's example: the region that makes the snapshots and the contents, in every order (printed by gen_ex48.py). -/
namespace Go.Proofs.YtndgmcggckpgfaaDoor
open Go Go.RowKit Go.Maps

def nameB (c : UInt8) : ByteArray := ⟨#[c, 0, 0, 0, 0, 0, 0, 0, 0, 0, 0, 0, 0, 0, 0, 0, 0, 0, 0, 0, 0, 0, 0, 0, 0, 0, 0, 0, 0, 0, 0, c]⟩
theorem nameB_small (c : UInt8) : (nameB c).size ≤ maxLen := show (32 : Nat) ≤ 9223372036854775807 by decide
theorem nameB_ne : ¬ nameB 49 = nameB 50 := by decide +kernel
theorem nameB_ne' : ¬ nameB 50 = nameB 49 := by decide +kernel
def exCells (ol tl : Nat) : Array Value := #[.int .i64 0, .int .i64 0, .int .i64 0, .string (nameB 49), .int .i64 0, .int .i64 (ol : Int), .int .i64 0, .int .i64 0, .string ⟨#[]⟩, .bool false, .int .i64 0, .int .i64 0, .int .i64 0, .string (nameB 50), .int .i64 0, .int .i64 (tl : Int), .int .i64 0, .int .i64 0, .string ⟨#[]⟩, .bool false]
def ExM (w0 wr : World) (mb : Nat) (m : List (Value × Value)) : Prop := w0.heap.size ≤ mb ∧ MapIs Tryd.prog 9 wr mb m
def ExS (w0 wr : World) (sb : Nat) (cs : Array Value) : Prop := w0.heap.size ≤ sb ∧ wr.heap[sb]? = some (.cells cs 55 (0, 0))
theorem ExM.next {w0 wr w1 : World} {mb : Nat} {m : List (Value × Value)} (h : ExM w0 wr mb m) (hb : Below wr.heap.size wr w1) : ExM w0 w1 mb m := ⟨h.1, h.2.same (hb.block mb h.2.lt)⟩
theorem ExS.next {w0 wr w1 : World} {sb : Nat} {cs : Array Value} (h : ExS w0 wr sb cs) (hb : Below wr.heap.size wr w1) : ExS w0 w1 sb cs := ⟨h.1, (hb.block sb (lt_of_block h.2)).trans h.2⟩
theorem ExS.grown {w0 wr w1 : World} {sb mb : Nat} {cs : Array Value} {m : List (Value × Value)} (h : ExS w0 wr sb cs) (hg : wr.grownBy w1 (some mb)) (hm : MapIs Tryd.prog 9 wr mb m) : ExS w0 w1 sb cs :=
  ⟨h.1, (hg.block sb (lt_of_block h.2) (fun e => by
    obtain ⟨es, clock, hh, _⟩ := hm
    cases e
    rw [h.2] at hh; cases hh)).trans h.2⟩
def ExPanic (Q : Exit → Act → World → Prop) : Prop := ∀ c, ∀ (a : Act) (d : Option Tmp) (v : Value) (w : World), Q (.panic c) (a.put d v) w → Q (.panic c) a w
theorem wpList_ins {w : World} {ops : Array Oper} {rest : List Oper} {o : Oper} {a : Act} {Q : Exit → Act → World → Prop} (hg : o.guard = none) (mo x v : Operand) (hop : o.op = Op.insert 27 mo x v) (b : Nat) (m : List (Value × Value)) (h : MapIs Tryd.prog 9 w b m) (hmo : a.eval mo = .map (some b)) (n : ByteArray) (val : Value) (hn : n.size ≤ maxLen) (hx : a.eval x = .string n) (hv : a.eval v = val) (hnew : ∀ p ∈ m, p.1 ≠ Value.string n)
    (hK : ∀ w', MapIs Tryd.prog 9 w' b (m ++ [(.string n, val)]) → w.grownBy w' (some b) → wpList Tryd.prog ops Q rest (a.put o.dst undef) w') : wpList Tryd.prog ops Q (o :: rest) a w := by
  refine wpList_plain hg fun K' hK' => ?_
  obtain ⟨w', hrun, r1, r2⟩ := h.put lawStr Tryd.underlying27 (keyStr hn) hnew val
  unfold Oper.wp
  simp [execOp, hop, hmo, hx, hv, hrun, Result.andThen]
  exact hK' _ _ (hK w' r1 r2)
theorem hld_op {P : Program} {ops : Array Oper} {Q : Exit → Act → World → Prop} {S : World → Prop} {dst : Option Tmp} {op : Op} {ty : TypeId} {pos : String} {aft : Array Edge} {g : Option (Nat × Bool)} {fuel : Nat} {listed : Array Bool} {a : Act} {w : World} (i : Nat) (hi : ops[i]? = some ⟨dst, op, ty, pos, aft, g⟩)
    (hw : Region.wanted ⟨dst, op, ty, pos, aft, g⟩ (yielded ops a.tmps) = true)
    (h : ∀ K : Act → World → Prop, (∀ a w, S w ∧ Hld P ops Q S fuel (listed.setIfInBounds i true) a w → K a w) → wpList P #[] (Exit.then K Q) [⟨dst, op, ty, pos, #[], none⟩] a w) :
    wpOp P ops Q i (fun a' w' => S w' ∧ wpAnyH P .any ops Q S fuel (listed.setIfInBounds i true) a' w') a w := by
  have hb : Bar P ops (fun a' w' => S w' ∧ wpAnyH P .any ops Q S fuel (listed.setIfInBounds i true) a' w') Q [⟨dst, op, ty, pos, aft, g⟩] a w :=
    bar_run hw (fun K hK => h K (fun a w hh => hK a w ⟨hh.1, hh.2.out⟩))
  unfold wpOp
  simp only [hi]
  exact Bar.out hb

def exOps : Array Oper := #[{ dst := some 23, op := Op.call { callee := Callee.value (Operand.func 30), args := #[Operand.const (Value.int IntKind.u8 49)], argTypes := #[5] }, type := 9, pos := "law.go:20", after := #[], guard := none },
  { dst := some 24, op := Op.move (Operand.tmp 4), type := 65, pos := "law.go:20", after := #[], guard := none },
  { dst := some 25, op := Op.call { callee := Callee.builtin Builtin.len, args := #[Operand.tmp 24], argTypes := #[65] }, type := 3, pos := "law.go:20", after := #[{ on := 1, ground := Ground.data }], guard := none },
  { dst := some 26, op := Op.build 37 #[(0, Operand.tmp 23), (2, Operand.tmp 25)], type := 37, pos := "law.go:20", after := #[{ on := 0, ground := Ground.data }, { on := 2, ground := Ground.data }], guard := none },
  { dst := some 27, op := Op.build 55 #[(3, Operand.tmp 26)], type := 55, pos := "law.go:20", after := #[{ on := 3, ground := Ground.data }], guard := none },
  { dst := some 28, op := Op.call { callee := Callee.value (Operand.func 30), args := #[Operand.const (Value.int IntKind.u8 50)], argTypes := #[5] }, type := 9, pos := "law.go:20", after := #[{ on := 0, ground := Ground.chain }], guard := none },
  { dst := some 29, op := Op.move (Operand.tmp 5), type := 65, pos := "law.go:20", after := #[], guard := none },
  { dst := some 30, op := Op.call { callee := Callee.builtin Builtin.len, args := #[Operand.tmp 29], argTypes := #[65] }, type := 3, pos := "law.go:20", after := #[{ on := 6, ground := Ground.data }], guard := none },
  { dst := some 31, op := Op.build 37 #[(0, Operand.tmp 28), (2, Operand.tmp 30)], type := 37, pos := "law.go:20", after := #[{ on := 5, ground := Ground.data }, { on := 7, ground := Ground.data }], guard := none },
  { dst := some 32, op := Op.build 55 #[(3, Operand.tmp 31)], type := 55, pos := "law.go:20", after := #[{ on := 8, ground := Ground.data }], guard := none },
  { dst := some 33, op := Op.buildSlice 26 2 #[(0, Operand.tmp 27), (1, Operand.tmp 32)], type := 26, pos := "law.go:20", after := #[{ on := 4, ground := Ground.data }, { on := 9, ground := Ground.data }], guard := none },
  { dst := some 34, op := Op.makeMap 27 none, type := 27, pos := "law.go:20", after := #[], guard := none },
  { dst := some 35, op := Op.call { callee := Callee.value (Operand.func 30), args := #[Operand.const (Value.int IntKind.u8 49)], argTypes := #[5] }, type := 9, pos := "law.go:20", after := #[{ on := 5, ground := Ground.chain }], guard := none },
  { dst := some 36, op := Op.move (Operand.tmp 4), type := 65, pos := "law.go:20", after := #[{ on := 19, ground := Ground.gcOnly Departure.lateStores }], guard := none },
  { dst := none, op := Op.insert 27 (Operand.tmp 34) (Operand.tmp 35) (Operand.tmp 36), type := 0, pos := "law.go:20", after := #[{ on := 11, ground := Ground.data }, { on := 12, ground := Ground.data }, { on := 13, ground := Ground.data }, { on := 19, ground := Ground.gcOnly Departure.lateStores }], guard := none },
  { dst := some 37, op := Op.call { callee := Callee.value (Operand.func 30), args := #[Operand.const (Value.int IntKind.u8 50)], argTypes := #[5] }, type := 9, pos := "law.go:20", after := #[{ on := 12, ground := Ground.chain }], guard := none },
  { dst := some 38, op := Op.move (Operand.tmp 5), type := 65, pos := "law.go:20", after := #[{ on := 19, ground := Ground.gcOnly Departure.lateStores }], guard := none },
  { dst := none, op := Op.insert 27 (Operand.tmp 34) (Operand.tmp 37) (Operand.tmp 38), type := 0, pos := "law.go:20", after := #[{ on := 11, ground := Ground.data }, { on := 15, ground := Ground.data }, { on := 16, ground := Ground.data }, { on := 19, ground := Ground.gcOnly Departure.lateStores }], guard := none },
  { dst := some 39, op := Op.move (Operand.tmp 34), type := 27, pos := "law.go:20", after := #[{ on := 11, ground := Ground.data }, { on := 12, ground := Ground.data }, { on := 13, ground := Ground.data }, { on := 14, ground := Ground.data }, { on := 15, ground := Ground.data }, { on := 16, ground := Ground.data }, { on := 17, ground := Ground.data }, { on := 19, ground := Ground.gcOnly Departure.lateStores }], guard := none },
  { dst := some 0, op := Op.assign (Operand.tmp 33), type := 26, pos := "law.go:20", after := #[{ on := 10, ground := Ground.data }, { on := 15, ground := Ground.chain }, { on := 0, ground := Ground.phase }, { on := 1, ground := Ground.phase }, { on := 2, ground := Ground.phase }, { on := 3, ground := Ground.phase }, { on := 4, ground := Ground.phase }, { on := 5, ground := Ground.phase }, { on := 6, ground := Ground.phase }, { on := 7, ground := Ground.phase }, { on := 8, ground := Ground.phase }, { on := 9, ground := Ground.phase }, { on := 10, ground := Ground.phase }, { on := 11, ground := Ground.textOnly Departure.lateStoresUnsure }, { on := 12, ground := Ground.textOnly Departure.lateStoresUnsure }, { on := 13, ground := Ground.textOnly Departure.lateStores }, { on := 14, ground := Ground.textOnly Departure.lateStores }, { on := 15, ground := Ground.textOnly Departure.lateStoresUnsure }, { on := 16, ground := Ground.textOnly Departure.lateStores }, { on := 17, ground := Ground.textOnly Departure.lateStores }, { on := 18, ground := Ground.textOnly Departure.lateStores }], guard := none },
  { dst := some 1, op := Op.assign (Operand.tmp 39), type := 27, pos := "law.go:20", after := #[{ on := 18, ground := Ground.data }, { on := 19, ground := Ground.chain }, { on := 0, ground := Ground.phase }, { on := 1, ground := Ground.phase }, { on := 2, ground := Ground.phase }, { on := 3, ground := Ground.phase }, { on := 4, ground := Ground.phase }, { on := 5, ground := Ground.phase }, { on := 6, ground := Ground.phase }, { on := 7, ground := Ground.phase }, { on := 8, ground := Ground.phase }, { on := 9, ground := Ground.phase }, { on := 10, ground := Ground.phase }, { on := 11, ground := Ground.phase }, { on := 12, ground := Ground.phase }, { on := 13, ground := Ground.phase }, { on := 14, ground := Ground.phase }, { on := 15, ground := Ground.phase }, { on := 16, ground := Ground.phase }, { on := 17, ground := Ground.phase }, { on := 18, ground := Ground.phase }, { on := 19, ground := Ground.phase }], guard := none }]
def ExQ (Q : Exit → Act → World → Prop) (w0 : World) (oa : Option Addr) (ol oc : Nat) (ta : Option Addr) (tl tc : Nat) : Prop :=
  ∀ (s2 s3 s6 s7 s8 s9 s10 s11 s12 s13 s14 s15 s16 s17 s18 s19 s20 s21 s22 : Value) (mb sb : Nat) (wr : World) (m : List (Value × Value)), (m = [(.string (nameB 49), .slice oa ol oc), (.string (nameB 50), .slice ta tl tc)] ∨ m = [(.string (nameB 50), .slice ta tl tc), (.string (nameB 49), .slice oa ol oc)]) → Below w0.heap.size w0 wr → ExM w0 wr mb m → ExS w0 wr sb (exCells ol tl) →
    Q .normal ⟨#[.slice (some ⟨sb, 0, none⟩) 2 2, .map (some mb), s2, s3, .slice oa ol oc, .slice ta tl tc, s6, s7, s8, s9, s10, s11, s12, s13, s14, s15, s16, s17, s18, s19, s20, s21, s22, .string (nameB 49), .slice oa ol oc, .int .i64 (ol : Int), .agg #[.string (nameB 49), .int .i64 0, .int .i64 (ol : Int)], .agg #[.int .i64 0, .int .i64 0, .int .i64 0, .string (nameB 49), .int .i64 0, .int .i64 (ol : Int), .int .i64 0, .int .i64 0, .string ⟨#[]⟩, .bool false], .string (nameB 50), .slice ta tl tc, .int .i64 (tl : Int), .agg #[.string (nameB 50), .int .i64 0, .int .i64 (tl : Int)], .agg #[.int .i64 0, .int .i64 0, .int .i64 0, .string (nameB 50), .int .i64 0, .int .i64 (tl : Int), .int .i64 0, .int .i64 0, .string ⟨#[]⟩, .bool false], .slice (some ⟨sb, 0, none⟩) 2 2, .map (some mb), .string (nameB 49), .slice oa ol oc, .string (nameB 50), .slice ta tl tc, .map (some mb)], []⟩ wr
set_option maxRecDepth 100000 in
theorem name49_any (w : World) : Calls Tryd.prog 30 #[.int .u8 49] w fun e w' => e = .returned (.string (nameB 49)) ∧ Below w.heap.size w w' := by
  have HAL := Lib.hid ((Below.refl w.heap.size w).alloc (Nat.le_refl _) (.cells #[.int .u8 49, .int .u8 0, .int .u8 0, .int .u8 0, .int .u8 0, .int .u8 0, .int .u8 0, .int .u8 0, .int .u8 0, .int .u8 0, .int .u8 0, .int .u8 0, .int .u8 0, .int .u8 0, .int .u8 0, .int .u8 0, .int .u8 0, .int .u8 0, .int .u8 0, .int .u8 0, .int .u8 0, .int .u8 0, .int .u8 0, .int .u8 0, .int .u8 0, .int .u8 0, .int .u8 0, .int .u8 0, .int .u8 0, .int .u8 0, .int .u8 0, .int .u8 49] 5))
  have hcv := conv_in (w := w.alloc (.cells #[.int .u8 49, .int .u8 0, .int .u8 0, .int .u8 0, .int .u8 0, .int .u8 0, .int .u8 0, .int .u8 0, .int .u8 0, .int .u8 0, .int .u8 0, .int .u8 0, .int .u8 0, .int .u8 0, .int .u8 0, .int .u8 0, .int .u8 0, .int .u8 0, .int .u8 0, .int .u8 0, .int .u8 0, .int .u8 0, .int .u8 0, .int .u8 0, .int .u8 0, .int .u8 0, .int .u8 0, .int .u8 0, .int .u8 0, .int .u8 0, .int .u8 0, .int .u8 49] 5)) (rb := w.heap.size + 1) (pv := .slice (some ⟨w.heap.size, 0, none⟩) 32 32) (bs := bl (nameB 49)) ⟨w.heap.size, 0, 32, rfl, by decide, by omega, fun j b hj => by
    rw [cellH (heap_alloc_new w _), Nat.zero_add]
    have h2 : ((bl (nameB 49)).map byteV)[j]? = some (byteV b) := by simp [hj]
    rw [List.getElem?_toArray]
    exact h2⟩
  rw [mk_bl] at hcv
  go_enter Tryd.func30, Tryd.ntmps30
  go_wp2_with fail
  go_ret
  exact ⟨rfl, HAL.out⟩
set_option maxRecDepth 100000 in
theorem name50_any (w : World) : Calls Tryd.prog 30 #[.int .u8 50] w fun e w' => e = .returned (.string (nameB 50)) ∧ Below w.heap.size w w' := by
  have HAL := Lib.hid ((Below.refl w.heap.size w).alloc (Nat.le_refl _) (.cells #[.int .u8 50, .int .u8 0, .int .u8 0, .int .u8 0, .int .u8 0, .int .u8 0, .int .u8 0, .int .u8 0, .int .u8 0, .int .u8 0, .int .u8 0, .int .u8 0, .int .u8 0, .int .u8 0, .int .u8 0, .int .u8 0, .int .u8 0, .int .u8 0, .int .u8 0, .int .u8 0, .int .u8 0, .int .u8 0, .int .u8 0, .int .u8 0, .int .u8 0, .int .u8 0, .int .u8 0, .int .u8 0, .int .u8 0, .int .u8 0, .int .u8 0, .int .u8 50] 5))
  have hcv := conv_in (w := w.alloc (.cells #[.int .u8 50, .int .u8 0, .int .u8 0, .int .u8 0, .int .u8 0, .int .u8 0, .int .u8 0, .int .u8 0, .int .u8 0, .int .u8 0, .int .u8 0, .int .u8 0, .int .u8 0, .int .u8 0, .int .u8 0, .int .u8 0, .int .u8 0, .int .u8 0, .int .u8 0, .int .u8 0, .int .u8 0, .int .u8 0, .int .u8 0, .int .u8 0, .int .u8 0, .int .u8 0, .int .u8 0, .int .u8 0, .int .u8 0, .int .u8 0, .int .u8 0, .int .u8 50] 5)) (rb := w.heap.size + 1) (pv := .slice (some ⟨w.heap.size, 0, none⟩) 32 32) (bs := bl (nameB 50)) ⟨w.heap.size, 0, 32, rfl, by decide, by omega, fun j b hj => by
    rw [cellH (heap_alloc_new w _), Nat.zero_add]
    have h2 : ((bl (nameB 50)).map byteV)[j]? = some (byteV b) := by simp [hj]
    rw [List.getElem?_toArray]
    exact h2⟩
  rw [mk_bl] at hcv
  go_enter Tryd.func30, Tryd.ntmps30
  go_wp2_with fail
  go_ret
  exact ⟨rfl, HAL.out⟩
set_option maxRecDepth 100000 in
theorem name97_any (w : World) : Calls Tryd.prog 30 #[.int .u8 97] w fun e w' => e = .returned (.string (nameB 97)) ∧ Below w.heap.size w w' := by
  have HAL := Lib.hid ((Below.refl w.heap.size w).alloc (Nat.le_refl _) (.cells #[.int .u8 97, .int .u8 0, .int .u8 0, .int .u8 0, .int .u8 0, .int .u8 0, .int .u8 0, .int .u8 0, .int .u8 0, .int .u8 0, .int .u8 0, .int .u8 0, .int .u8 0, .int .u8 0, .int .u8 0, .int .u8 0, .int .u8 0, .int .u8 0, .int .u8 0, .int .u8 0, .int .u8 0, .int .u8 0, .int .u8 0, .int .u8 0, .int .u8 0, .int .u8 0, .int .u8 0, .int .u8 0, .int .u8 0, .int .u8 0, .int .u8 0, .int .u8 97] 5))
  have hcv := conv_in (w := w.alloc (.cells #[.int .u8 97, .int .u8 0, .int .u8 0, .int .u8 0, .int .u8 0, .int .u8 0, .int .u8 0, .int .u8 0, .int .u8 0, .int .u8 0, .int .u8 0, .int .u8 0, .int .u8 0, .int .u8 0, .int .u8 0, .int .u8 0, .int .u8 0, .int .u8 0, .int .u8 0, .int .u8 0, .int .u8 0, .int .u8 0, .int .u8 0, .int .u8 0, .int .u8 0, .int .u8 0, .int .u8 0, .int .u8 0, .int .u8 0, .int .u8 0, .int .u8 0, .int .u8 97] 5)) (rb := w.heap.size + 1) (pv := .slice (some ⟨w.heap.size, 0, none⟩) 32 32) (bs := bl (nameB 97)) ⟨w.heap.size, 0, 32, rfl, by decide, by omega, fun j b hj => by
    rw [cellH (heap_alloc_new w _), Nat.zero_add]
    have h2 : ((bl (nameB 97)).map byteV)[j]? = some (byteV b) := by simp [hj]
    rw [List.getElem?_toArray]
    exact h2⟩
  rw [mk_bl] at hcv
  go_enter Tryd.func30, Tryd.ntmps30
  go_wp2_with fail
  go_ret
  exact ⟨rfl, HAL.out⟩
set_option maxRecDepth 100000 in
theorem name98_any (w : World) : Calls Tryd.prog 30 #[.int .u8 98] w fun e w' => e = .returned (.string (nameB 98)) ∧ Below w.heap.size w w' := by
  have HAL := Lib.hid ((Below.refl w.heap.size w).alloc (Nat.le_refl _) (.cells #[.int .u8 98, .int .u8 0, .int .u8 0, .int .u8 0, .int .u8 0, .int .u8 0, .int .u8 0, .int .u8 0, .int .u8 0, .int .u8 0, .int .u8 0, .int .u8 0, .int .u8 0, .int .u8 0, .int .u8 0, .int .u8 0, .int .u8 0, .int .u8 0, .int .u8 0, .int .u8 0, .int .u8 0, .int .u8 0, .int .u8 0, .int .u8 0, .int .u8 0, .int .u8 0, .int .u8 0, .int .u8 0, .int .u8 0, .int .u8 0, .int .u8 0, .int .u8 98] 5))
  have hcv := conv_in (w := w.alloc (.cells #[.int .u8 98, .int .u8 0, .int .u8 0, .int .u8 0, .int .u8 0, .int .u8 0, .int .u8 0, .int .u8 0, .int .u8 0, .int .u8 0, .int .u8 0, .int .u8 0, .int .u8 0, .int .u8 0, .int .u8 0, .int .u8 0, .int .u8 0, .int .u8 0, .int .u8 0, .int .u8 0, .int .u8 0, .int .u8 0, .int .u8 0, .int .u8 0, .int .u8 0, .int .u8 0, .int .u8 0, .int .u8 0, .int .u8 0, .int .u8 0, .int .u8 0, .int .u8 98] 5)) (rb := w.heap.size + 1) (pv := .slice (some ⟨w.heap.size, 0, none⟩) 32 32) (bs := bl (nameB 98)) ⟨w.heap.size, 0, 32, rfl, by decide, by omega, fun j b hj => by
    rw [cellH (heap_alloc_new w _), Nat.zero_add]
    have h2 : ((bl (nameB 98)).map byteV)[j]? = some (byteV b) := by simp [hj]
    rw [List.getElem?_toArray]
    exact h2⟩
  rw [mk_bl] at hcv
  go_enter Tryd.func30, Tryd.ntmps30
  go_wp2_with fail
  go_ret
  exact ⟨rfl, HAL.out⟩

end Go.Proofs.YtndgmcggckpgfaaDoor

/- The chapter's example: the states of the drawn region, part 0 (printed by gen_ex48.py). -/
namespace Go.Proofs.YtndgmcggckpgfaaDoor
open Go Go.RowKit Go.Maps
set_option maxRecDepth 100000 in
set_option maxHeartbeats 1000000 in
theorem exs8 {Q : Exit → Act → World → Prop} {w0 : World} {oa ta : Option Addr} {ol oc tl tc : Nat} (hq : ExQ Q w0 oa ol oc ta tl tc) (hQ : ExPanic Q) {s2 s3 s6 s7 s8 s9 s10 s11 s12 s13 s14 s15 s16 s17 s18 s19 s20 s21 s22 : Value} {mb sb : Nat} {wr : World} (hb : Below w0.heap.size w0 wr) (hm : ExM w0 wr mb [(.string (nameB 49), .slice oa ol oc), (.string (nameB 50), .slice ta tl tc)]) (hs : ExS w0 wr sb (exCells ol tl)) :
    Hld Tryd.prog exOps Q (fun _ => True) 0 #[true, true, true, true, true, true, true, true, true, true, true, true, true, true, true, true, true, true, true, true, true] ⟨#[.slice (some ⟨sb, 0, none⟩) 2 2, .map (some mb), s2, s3, .slice oa ol oc, .slice ta tl tc, s6, s7, s8, s9, s10, s11, s12, s13, s14, s15, s16, s17, s18, s19, s20, s21, s22, .string (nameB 49), .slice oa ol oc, .int .i64 (ol : Int), .agg #[.string (nameB 49), .int .i64 0, .int .i64 (ol : Int)], .agg #[.int .i64 0, .int .i64 0, .int .i64 0, .string (nameB 49), .int .i64 0, .int .i64 (ol : Int), .int .i64 0, .int .i64 0, .string ⟨#[]⟩, .bool false], .string (nameB 50), .slice ta tl tc, .int .i64 (tl : Int), .agg #[.string (nameB 50), .int .i64 0, .int .i64 (tl : Int)], .agg #[.int .i64 0, .int .i64 0, .int .i64 0, .string (nameB 50), .int .i64 0, .int .i64 (tl : Int), .int .i64 0, .int .i64 0, .string ⟨#[]⟩, .bool false], .slice (some ⟨sb, 0, none⟩) 2 2, .map (some mb), .string (nameB 49), .slice oa ol oc, .string (nameB 50), .slice ta tl tc, .map (some mb)], []⟩ wr := by
  refine hld_done (by kernel_rfl) ?_
  exact hq _ _ _ _ _ _ _ _ _ _ _ _ _ _ _ _ _ _ _ _ _ wr _ (.inl rfl) hb hm hs
set_option maxRecDepth 100000 in
set_option maxHeartbeats 1000000 in
theorem exs11 {Q : Exit → Act → World → Prop} {w0 : World} {oa ta : Option Addr} {ol oc tl tc : Nat} (hq : ExQ Q w0 oa ol oc ta tl tc) (hQ : ExPanic Q) {s2 s3 s6 s7 s8 s9 s10 s11 s12 s13 s14 s15 s16 s17 s18 s19 s20 s21 s22 : Value} {mb sb : Nat} {wr : World} (hb : Below w0.heap.size w0 wr) (hm : ExM w0 wr mb [(.string (nameB 50), .slice ta tl tc), (.string (nameB 49), .slice oa ol oc)]) (hs : ExS w0 wr sb (exCells ol tl)) :
    Hld Tryd.prog exOps Q (fun _ => True) 0 #[true, true, true, true, true, true, true, true, true, true, true, true, true, true, true, true, true, true, true, true, true] ⟨#[.slice (some ⟨sb, 0, none⟩) 2 2, .map (some mb), s2, s3, .slice oa ol oc, .slice ta tl tc, s6, s7, s8, s9, s10, s11, s12, s13, s14, s15, s16, s17, s18, s19, s20, s21, s22, .string (nameB 49), .slice oa ol oc, .int .i64 (ol : Int), .agg #[.string (nameB 49), .int .i64 0, .int .i64 (ol : Int)], .agg #[.int .i64 0, .int .i64 0, .int .i64 0, .string (nameB 49), .int .i64 0, .int .i64 (ol : Int), .int .i64 0, .int .i64 0, .string ⟨#[]⟩, .bool false], .string (nameB 50), .slice ta tl tc, .int .i64 (tl : Int), .agg #[.string (nameB 50), .int .i64 0, .int .i64 (tl : Int)], .agg #[.int .i64 0, .int .i64 0, .int .i64 0, .string (nameB 50), .int .i64 0, .int .i64 (tl : Int), .int .i64 0, .int .i64 0, .string ⟨#[]⟩, .bool false], .slice (some ⟨sb, 0, none⟩) 2 2, .map (some mb), .string (nameB 49), .slice oa ol oc, .string (nameB 50), .slice ta tl tc, .map (some mb)], []⟩ wr := by
  refine hld_done (by kernel_rfl) ?_
  exact hq _ _ _ _ _ _ _ _ _ _ _ _ _ _ _ _ _ _ _ _ _ wr _ (.inr rfl) hb hm hs
set_option maxRecDepth 100000 in
set_option maxHeartbeats 1000000 in
theorem exs7 {Q : Exit → Act → World → Prop} {w0 : World} {oa ta : Option Addr} {ol oc tl tc : Nat} (hq : ExQ Q w0 oa ol oc ta tl tc) (hQ : ExPanic Q) {s1 s2 s3 s6 s7 s8 s9 s10 s11 s12 s13 s14 s15 s16 s17 s18 s19 s20 s21 s22 s39 : Value} {mb sb : Nat} {wr : World} (hb : Below w0.heap.size w0 wr) (hm : ExM w0 wr mb [(.string (nameB 49), .slice oa ol oc)]) (hs : ExS w0 wr sb (exCells ol tl)) :
    Hld Tryd.prog exOps Q (fun _ => True) 3 #[true, true, true, true, true, true, true, true, true, true, true, true, true, true, true, true, true, false, false, true, false] ⟨#[.slice (some ⟨sb, 0, none⟩) 2 2, s1, s2, s3, .slice oa ol oc, .slice ta tl tc, s6, s7, s8, s9, s10, s11, s12, s13, s14, s15, s16, s17, s18, s19, s20, s21, s22, .string (nameB 49), .slice oa ol oc, .int .i64 (ol : Int), .agg #[.string (nameB 49), .int .i64 0, .int .i64 (ol : Int)], .agg #[.int .i64 0, .int .i64 0, .int .i64 0, .string (nameB 49), .int .i64 0, .int .i64 (ol : Int), .int .i64 0, .int .i64 0, .string ⟨#[]⟩, .bool false], .string (nameB 50), .slice ta tl tc, .int .i64 (tl : Int), .agg #[.string (nameB 50), .int .i64 0, .int .i64 (tl : Int)], .agg #[.int .i64 0, .int .i64 0, .int .i64 0, .string (nameB 50), .int .i64 0, .int .i64 (tl : Int), .int .i64 0, .int .i64 0, .string ⟨#[]⟩, .bool false], .slice (some ⟨sb, 0, none⟩) 2 2, .map (some mb), .string (nameB 49), .slice oa ol oc, .string (nameB 50), .slice ta tl tc, s39], []⟩ wr := by
  refine Hld.of (wpAnyH_all (rs := [17]) (by kernel_rfl) (by simp) fun j hj => ?_)
  obtain rfl := List.mem_singleton.1 hj
  refine hld_op 17 rfl rfl (fun K hK => ?_)
  refine wpList_ins rfl _ _ _ rfl mb _ hm.2 rfl (nameB 50) (.slice ta tl tc) (nameB_small _) rfl rfl (by simp [nameB_ne]) ?_
  intro w1 hm1 hg1
  go_wp2_with fail
  refine ⟨trivial, ?_⟩
  refine hld_take 18 rfl (by kernel_rfl) (by kernel_rfl) (by kernel_rfl) (fun c a w h => hQ c a _ _ w h) rfl trivial (by intro w' hw'; go_simp; rfl) ?_
  simp only [Act.put, List.setIfInBounds_toArray, List.set_cons_succ, List.set_cons_zero]
  refine hld_take 20 rfl (by kernel_rfl) (by kernel_rfl) (by kernel_rfl) (fun c a w h => hQ c a _ _ w h) rfl trivial (by intro w' hw'; go_simp; rfl) ?_
  simp only [Act.put, List.setIfInBounds_toArray, List.set_cons_succ, List.set_cons_zero]
  exact exs8 hq hQ (hb.grown hg1 hb.size (fun k hk => by cases hk; exact hm.1)) ⟨hm.1, hm1⟩ (hs.grown hg1 hm.2)
set_option maxRecDepth 100000 in
set_option maxHeartbeats 1000000 in
theorem exs10 {Q : Exit → Act → World → Prop} {w0 : World} {oa ta : Option Addr} {ol oc tl tc : Nat} (hq : ExQ Q w0 oa ol oc ta tl tc) (hQ : ExPanic Q) {s1 s2 s3 s6 s7 s8 s9 s10 s11 s12 s13 s14 s15 s16 s17 s18 s19 s20 s21 s22 s39 : Value} {mb sb : Nat} {wr : World} (hb : Below w0.heap.size w0 wr) (hm : ExM w0 wr mb [(.string (nameB 50), .slice ta tl tc)]) (hs : ExS w0 wr sb (exCells ol tl)) :
    Hld Tryd.prog exOps Q (fun _ => True) 3 #[true, true, true, true, true, true, true, true, true, true, true, true, true, true, false, true, true, true, false, true, false] ⟨#[.slice (some ⟨sb, 0, none⟩) 2 2, s1, s2, s3, .slice oa ol oc, .slice ta tl tc, s6, s7, s8, s9, s10, s11, s12, s13, s14, s15, s16, s17, s18, s19, s20, s21, s22, .string (nameB 49), .slice oa ol oc, .int .i64 (ol : Int), .agg #[.string (nameB 49), .int .i64 0, .int .i64 (ol : Int)], .agg #[.int .i64 0, .int .i64 0, .int .i64 0, .string (nameB 49), .int .i64 0, .int .i64 (ol : Int), .int .i64 0, .int .i64 0, .string ⟨#[]⟩, .bool false], .string (nameB 50), .slice ta tl tc, .int .i64 (tl : Int), .agg #[.string (nameB 50), .int .i64 0, .int .i64 (tl : Int)], .agg #[.int .i64 0, .int .i64 0, .int .i64 0, .string (nameB 50), .int .i64 0, .int .i64 (tl : Int), .int .i64 0, .int .i64 0, .string ⟨#[]⟩, .bool false], .slice (some ⟨sb, 0, none⟩) 2 2, .map (some mb), .string (nameB 49), .slice oa ol oc, .string (nameB 50), .slice ta tl tc, s39], []⟩ wr := by
  refine Hld.of (wpAnyH_all (rs := [14]) (by kernel_rfl) (by simp) fun j hj => ?_)
  obtain rfl := List.mem_singleton.1 hj
  refine hld_op 14 rfl rfl (fun K hK => ?_)
  refine wpList_ins rfl _ _ _ rfl mb _ hm.2 rfl (nameB 49) (.slice oa ol oc) (nameB_small _) rfl rfl (by simp [nameB_ne']) ?_
  intro w1 hm1 hg1
  go_wp2_with fail
  refine ⟨trivial, ?_⟩
  refine hld_take 18 rfl (by kernel_rfl) (by kernel_rfl) (by kernel_rfl) (fun c a w h => hQ c a _ _ w h) rfl trivial (by intro w' hw'; go_simp; rfl) ?_
  simp only [Act.put, List.setIfInBounds_toArray, List.set_cons_succ, List.set_cons_zero]
  refine hld_take 20 rfl (by kernel_rfl) (by kernel_rfl) (by kernel_rfl) (fun c a w h => hQ c a _ _ w h) rfl trivial (by intro w' hw'; go_simp; rfl) ?_
  simp only [Act.put, List.setIfInBounds_toArray, List.set_cons_succ, List.set_cons_zero]
  exact exs11 hq hQ (hb.grown hg1 hb.size (fun k hk => by cases hk; exact hm.1)) ⟨hm.1, hm1⟩ (hs.grown hg1 hm.2)
set_option maxRecDepth 100000 in
set_option maxHeartbeats 1000000 in
theorem exs18 {Q : Exit → Act → World → Prop} {w0 : World} {oa ta : Option Addr} {ol oc tl tc : Nat} (hq : ExQ Q w0 oa ol oc ta tl tc) (hQ : ExPanic Q) {s0 s1 s2 s3 s6 s7 s8 s9 s10 s11 s12 s13 s14 s15 s16 s17 s18 s19 s20 s21 s22 s33 : Value} {mb : Nat} {wr : World} (hb : Below w0.heap.size w0 wr) (hm : ExM w0 wr mb [(.string (nameB 49), .slice oa ol oc), (.string (nameB 50), .slice ta tl tc)]) :
    Hld Tryd.prog exOps Q (fun _ => True) 3 #[true, true, true, true, true, true, true, true, true, true, false, true, true, true, true, true, true, true, true, false, false] ⟨#[s0, s1, s2, s3, .slice oa ol oc, .slice ta tl tc, s6, s7, s8, s9, s10, s11, s12, s13, s14, s15, s16, s17, s18, s19, s20, s21, s22, .string (nameB 49), .slice oa ol oc, .int .i64 (ol : Int), .agg #[.string (nameB 49), .int .i64 0, .int .i64 (ol : Int)], .agg #[.int .i64 0, .int .i64 0, .int .i64 0, .string (nameB 49), .int .i64 0, .int .i64 (ol : Int), .int .i64 0, .int .i64 0, .string ⟨#[]⟩, .bool false], .string (nameB 50), .slice ta tl tc, .int .i64 (tl : Int), .agg #[.string (nameB 50), .int .i64 0, .int .i64 (tl : Int)], .agg #[.int .i64 0, .int .i64 0, .int .i64 0, .string (nameB 50), .int .i64 0, .int .i64 (tl : Int), .int .i64 0, .int .i64 0, .string ⟨#[]⟩, .bool false], s33, .map (some mb), .string (nameB 49), .slice oa ol oc, .string (nameB 50), .slice ta tl tc, .map (some mb)], []⟩ wr := by
  refine Hld.of (wpAnyH_all (rs := [10]) (by kernel_rfl) (by simp) fun j hj => ?_)
  obtain rfl := List.mem_singleton.1 hj
  refine hld_op 10 rfl rfl (fun K hK => ?_)
  go_wp2_with fail
  refine ⟨trivial, ?_⟩
  refine hld_take 19 rfl (by kernel_rfl) (by kernel_rfl) (by kernel_rfl) (fun c a w h => hQ c a _ _ w h) rfl trivial (by intro w' hw'; go_simp; rfl) ?_
  simp only [Act.put, List.setIfInBounds_toArray, List.set_cons_succ, List.set_cons_zero]
  refine hld_take 20 rfl (by kernel_rfl) (by kernel_rfl) (by kernel_rfl) (fun c a w h => hQ c a _ _ w h) rfl trivial (by intro w' hw'; go_simp; rfl) ?_
  simp only [Act.put, List.setIfInBounds_toArray, List.set_cons_succ, List.set_cons_zero]
  exact exs8 hq hQ (below_next hb ((Below.refl wr.heap.size wr).alloc (Nat.le_refl _) _)) (hm.next ((Below.refl wr.heap.size wr).alloc (Nat.le_refl _) _)) ⟨hb.size, heap_alloc_new wr _⟩
set_option maxRecDepth 100000 in
set_option maxHeartbeats 1000000 in
theorem exs21 {Q : Exit → Act → World → Prop} {w0 : World} {oa ta : Option Addr} {ol oc tl tc : Nat} (hq : ExQ Q w0 oa ol oc ta tl tc) (hQ : ExPanic Q) {s0 s1 s2 s3 s6 s7 s8 s9 s10 s11 s12 s13 s14 s15 s16 s17 s18 s19 s20 s21 s22 s33 : Value} {mb : Nat} {wr : World} (hb : Below w0.heap.size w0 wr) (hm : ExM w0 wr mb [(.string (nameB 50), .slice ta tl tc), (.string (nameB 49), .slice oa ol oc)]) :
    Hld Tryd.prog exOps Q (fun _ => True) 3 #[true, true, true, true, true, true, true, true, true, true, false, true, true, true, true, true, true, true, true, false, false] ⟨#[s0, s1, s2, s3, .slice oa ol oc, .slice ta tl tc, s6, s7, s8, s9, s10, s11, s12, s13, s14, s15, s16, s17, s18, s19, s20, s21, s22, .string (nameB 49), .slice oa ol oc, .int .i64 (ol : Int), .agg #[.string (nameB 49), .int .i64 0, .int .i64 (ol : Int)], .agg #[.int .i64 0, .int .i64 0, .int .i64 0, .string (nameB 49), .int .i64 0, .int .i64 (ol : Int), .int .i64 0, .int .i64 0, .string ⟨#[]⟩, .bool false], .string (nameB 50), .slice ta tl tc, .int .i64 (tl : Int), .agg #[.string (nameB 50), .int .i64 0, .int .i64 (tl : Int)], .agg #[.int .i64 0, .int .i64 0, .int .i64 0, .string (nameB 50), .int .i64 0, .int .i64 (tl : Int), .int .i64 0, .int .i64 0, .string ⟨#[]⟩, .bool false], s33, .map (some mb), .string (nameB 49), .slice oa ol oc, .string (nameB 50), .slice ta tl tc, .map (some mb)], []⟩ wr := by
  refine Hld.of (wpAnyH_all (rs := [10]) (by kernel_rfl) (by simp) fun j hj => ?_)
  obtain rfl := List.mem_singleton.1 hj
  refine hld_op 10 rfl rfl (fun K hK => ?_)
  go_wp2_with fail
  refine ⟨trivial, ?_⟩
  refine hld_take 19 rfl (by kernel_rfl) (by kernel_rfl) (by kernel_rfl) (fun c a w h => hQ c a _ _ w h) rfl trivial (by intro w' hw'; go_simp; rfl) ?_
  simp only [Act.put, List.setIfInBounds_toArray, List.set_cons_succ, List.set_cons_zero]
  refine hld_take 20 rfl (by kernel_rfl) (by kernel_rfl) (by kernel_rfl) (fun c a w h => hQ c a _ _ w h) rfl trivial (by intro w' hw'; go_simp; rfl) ?_
  simp only [Act.put, List.setIfInBounds_toArray, List.set_cons_succ, List.set_cons_zero]
  exact exs11 hq hQ (below_next hb ((Below.refl wr.heap.size wr).alloc (Nat.le_refl _) _)) (hm.next ((Below.refl wr.heap.size wr).alloc (Nat.le_refl _) _)) ⟨hb.size, heap_alloc_new wr _⟩
set_option maxRecDepth 100000 in
set_option maxHeartbeats 1000000 in
theorem exs6 {Q : Exit → Act → World → Prop} {w0 : World} {oa ta : Option Addr} {ol oc tl tc : Nat} (hq : ExQ Q w0 oa ol oc ta tl tc) (hQ : ExPanic Q) {s0 s1 s2 s3 s6 s7 s8 s9 s10 s11 s12 s13 s14 s15 s16 s17 s18 s19 s20 s21 s22 s37 s39 : Value} {mb sb : Nat} {wr : World} (hb : Below w0.heap.size w0 wr) (hm : ExM w0 wr mb [(.string (nameB 49), .slice oa ol oc)]) (hs : ExS w0 wr sb (exCells ol tl)) :
    Hld Tryd.prog exOps Q (fun _ => True) 5 #[true, true, true, true, true, true, true, true, true, true, true, true, true, true, true, false, true, false, false, false, false] ⟨#[s0, s1, s2, s3, .slice oa ol oc, .slice ta tl tc, s6, s7, s8, s9, s10, s11, s12, s13, s14, s15, s16, s17, s18, s19, s20, s21, s22, .string (nameB 49), .slice oa ol oc, .int .i64 (ol : Int), .agg #[.string (nameB 49), .int .i64 0, .int .i64 (ol : Int)], .agg #[.int .i64 0, .int .i64 0, .int .i64 0, .string (nameB 49), .int .i64 0, .int .i64 (ol : Int), .int .i64 0, .int .i64 0, .string ⟨#[]⟩, .bool false], .string (nameB 50), .slice ta tl tc, .int .i64 (tl : Int), .agg #[.string (nameB 50), .int .i64 0, .int .i64 (tl : Int)], .agg #[.int .i64 0, .int .i64 0, .int .i64 0, .string (nameB 50), .int .i64 0, .int .i64 (tl : Int), .int .i64 0, .int .i64 0, .string ⟨#[]⟩, .bool false], .slice (some ⟨sb, 0, none⟩) 2 2, .map (some mb), .string (nameB 49), .slice oa ol oc, s37, .slice ta tl tc, s39], []⟩ wr := by
  refine Hld.of (wpAnyH_all (rs := [15]) (by kernel_rfl) (by simp) fun j hj => ?_)
  obtain rfl := List.mem_singleton.1 hj
  refine hld_op 15 rfl rfl (fun K hK => ?_)
  go_wp2_with (go_at_call 30; refine (name50_any _).mono ?_; rintro e w1 ⟨rfl, hb1⟩)
  refine ⟨trivial, ?_⟩
  refine hld_take 19 rfl (by kernel_rfl) (by kernel_rfl) (by kernel_rfl) (fun c a w h => hQ c a _ _ w h) rfl trivial (by intro w' hw'; go_simp; rfl) ?_
  simp only [Act.put, List.setIfInBounds_toArray, List.set_cons_succ, List.set_cons_zero]
  exact exs7 hq hQ (below_next hb hb1) (hm.next hb1) (hs.next hb1)
set_option maxRecDepth 100000 in
set_option maxHeartbeats 1000000 in
theorem exs9 {Q : Exit → Act → World → Prop} {w0 : World} {oa ta : Option Addr} {ol oc tl tc : Nat} (hq : ExQ Q w0 oa ol oc ta tl tc) (hQ : ExPanic Q) {s1 s2 s3 s6 s7 s8 s9 s10 s11 s12 s13 s14 s15 s16 s17 s18 s19 s20 s21 s22 s39 : Value} {mb sb : Nat} {wr : World} (hb : Below w0.heap.size w0 wr) (hm : ExM w0 wr mb []) (hs : ExS w0 wr sb (exCells ol tl)) :
    Hld Tryd.prog exOps Q (fun _ => True) 4 #[true, true, true, true, true, true, true, true, true, true, true, true, true, true, false, true, true, false, false, true, false] ⟨#[.slice (some ⟨sb, 0, none⟩) 2 2, s1, s2, s3, .slice oa ol oc, .slice ta tl tc, s6, s7, s8, s9, s10, s11, s12, s13, s14, s15, s16, s17, s18, s19, s20, s21, s22, .string (nameB 49), .slice oa ol oc, .int .i64 (ol : Int), .agg #[.string (nameB 49), .int .i64 0, .int .i64 (ol : Int)], .agg #[.int .i64 0, .int .i64 0, .int .i64 0, .string (nameB 49), .int .i64 0, .int .i64 (ol : Int), .int .i64 0, .int .i64 0, .string ⟨#[]⟩, .bool false], .string (nameB 50), .slice ta tl tc, .int .i64 (tl : Int), .agg #[.string (nameB 50), .int .i64 0, .int .i64 (tl : Int)], .agg #[.int .i64 0, .int .i64 0, .int .i64 0, .string (nameB 50), .int .i64 0, .int .i64 (tl : Int), .int .i64 0, .int .i64 0, .string ⟨#[]⟩, .bool false], .slice (some ⟨sb, 0, none⟩) 2 2, .map (some mb), .string (nameB 49), .slice oa ol oc, .string (nameB 50), .slice ta tl tc, s39], []⟩ wr := by
  refine Hld.of (wpAnyH_all (rs := [14, 17]) (by kernel_rfl) (by simp) fun j hj => ?_)
  simp only [List.mem_cons, List.not_mem_nil, or_false] at hj
  rcases hj with rfl | rfl
  · refine hld_op 14 rfl rfl (fun K hK => ?_)
    refine wpList_ins rfl _ _ _ rfl mb _ hm.2 rfl (nameB 49) (.slice oa ol oc) (nameB_small _) rfl rfl (by simp) ?_
    intro w1 hm1 hg1
    go_wp2_with fail
    refine ⟨trivial, ?_⟩
    exact exs7 hq hQ (hb.grown hg1 hb.size (fun k hk => by cases hk; exact hm.1)) ⟨hm.1, hm1⟩ (hs.grown hg1 hm.2)
  · refine hld_op 17 rfl rfl (fun K hK => ?_)
    refine wpList_ins rfl _ _ _ rfl mb _ hm.2 rfl (nameB 50) (.slice ta tl tc) (nameB_small _) rfl rfl (by simp) ?_
    intro w1 hm1 hg1
    go_wp2_with fail
    refine ⟨trivial, ?_⟩
    exact exs10 hq hQ (hb.grown hg1 hb.size (fun k hk => by cases hk; exact hm.1)) ⟨hm.1, hm1⟩ (hs.grown hg1 hm.2)
set_option maxRecDepth 100000 in
set_option maxHeartbeats 1000000 in
theorem exs17 {Q : Exit → Act → World → Prop} {w0 : World} {oa ta : Option Addr} {ol oc tl tc : Nat} (hq : ExQ Q w0 oa ol oc ta tl tc) (hQ : ExPanic Q) {s0 s1 s2 s3 s6 s7 s8 s9 s10 s11 s12 s13 s14 s15 s16 s17 s18 s19 s20 s21 s22 s33 s39 : Value} {mb : Nat} {wr : World} (hb : Below w0.heap.size w0 wr) (hm : ExM w0 wr mb [(.string (nameB 49), .slice oa ol oc)]) :
    Hld Tryd.prog exOps Q (fun _ => True) 5 #[true, true, true, true, true, true, true, true, true, true, false, true, true, true, true, true, true, false, false, false, false] ⟨#[s0, s1, s2, s3, .slice oa ol oc, .slice ta tl tc, s6, s7, s8, s9, s10, s11, s12, s13, s14, s15, s16, s17, s18, s19, s20, s21, s22, .string (nameB 49), .slice oa ol oc, .int .i64 (ol : Int), .agg #[.string (nameB 49), .int .i64 0, .int .i64 (ol : Int)], .agg #[.int .i64 0, .int .i64 0, .int .i64 0, .string (nameB 49), .int .i64 0, .int .i64 (ol : Int), .int .i64 0, .int .i64 0, .string ⟨#[]⟩, .bool false], .string (nameB 50), .slice ta tl tc, .int .i64 (tl : Int), .agg #[.string (nameB 50), .int .i64 0, .int .i64 (tl : Int)], .agg #[.int .i64 0, .int .i64 0, .int .i64 0, .string (nameB 50), .int .i64 0, .int .i64 (tl : Int), .int .i64 0, .int .i64 0, .string ⟨#[]⟩, .bool false], s33, .map (some mb), .string (nameB 49), .slice oa ol oc, .string (nameB 50), .slice ta tl tc, s39], []⟩ wr := by
  refine Hld.of (wpAnyH_all (rs := [10, 17]) (by kernel_rfl) (by simp) fun j hj => ?_)
  simp only [List.mem_cons, List.not_mem_nil, or_false] at hj
  rcases hj with rfl | rfl
  · refine hld_op 10 rfl rfl (fun K hK => ?_)
    go_wp2_with fail
    refine ⟨trivial, ?_⟩
    refine hld_take 19 rfl (by kernel_rfl) (by kernel_rfl) (by kernel_rfl) (fun c a w h => hQ c a _ _ w h) rfl trivial (by intro w' hw'; go_simp; rfl) ?_
    simp only [Act.put, List.setIfInBounds_toArray, List.set_cons_succ, List.set_cons_zero]
    exact exs7 hq hQ (below_next hb ((Below.refl wr.heap.size wr).alloc (Nat.le_refl _) _)) (hm.next ((Below.refl wr.heap.size wr).alloc (Nat.le_refl _) _)) ⟨hb.size, heap_alloc_new wr _⟩
  · refine hld_op 17 rfl rfl (fun K hK => ?_)
    refine wpList_ins rfl _ _ _ rfl mb _ hm.2 rfl (nameB 50) (.slice ta tl tc) (nameB_small _) rfl rfl (by simp [nameB_ne]) ?_
    intro w1 hm1 hg1
    go_wp2_with fail
    refine ⟨trivial, ?_⟩
    refine hld_take 18 rfl (by kernel_rfl) (by kernel_rfl) (by kernel_rfl) (fun c a w h => hQ c a _ _ w h) rfl trivial (by intro w' hw'; go_simp; rfl) ?_
    simp only [Act.put, List.setIfInBounds_toArray, List.set_cons_succ, List.set_cons_zero]
    exact exs18 hq hQ (hb.grown hg1 hb.size (fun k hk => by cases hk; exact hm.1)) ⟨hm.1, hm1⟩
set_option maxRecDepth 100000 in
set_option maxHeartbeats 1000000 in
theorem exs20 {Q : Exit → Act → World → Prop} {w0 : World} {oa ta : Option Addr} {ol oc tl tc : Nat} (hq : ExQ Q w0 oa ol oc ta tl tc) (hQ : ExPanic Q) {s0 s1 s2 s3 s6 s7 s8 s9 s10 s11 s12 s13 s14 s15 s16 s17 s18 s19 s20 s21 s22 s33 s39 : Value} {mb : Nat} {wr : World} (hb : Below w0.heap.size w0 wr) (hm : ExM w0 wr mb [(.string (nameB 50), .slice ta tl tc)]) :
    Hld Tryd.prog exOps Q (fun _ => True) 5 #[true, true, true, true, true, true, true, true, true, true, false, true, true, true, false, true, true, true, false, false, false] ⟨#[s0, s1, s2, s3, .slice oa ol oc, .slice ta tl tc, s6, s7, s8, s9, s10, s11, s12, s13, s14, s15, s16, s17, s18, s19, s20, s21, s22, .string (nameB 49), .slice oa ol oc, .int .i64 (ol : Int), .agg #[.string (nameB 49), .int .i64 0, .int .i64 (ol : Int)], .agg #[.int .i64 0, .int .i64 0, .int .i64 0, .string (nameB 49), .int .i64 0, .int .i64 (ol : Int), .int .i64 0, .int .i64 0, .string ⟨#[]⟩, .bool false], .string (nameB 50), .slice ta tl tc, .int .i64 (tl : Int), .agg #[.string (nameB 50), .int .i64 0, .int .i64 (tl : Int)], .agg #[.int .i64 0, .int .i64 0, .int .i64 0, .string (nameB 50), .int .i64 0, .int .i64 (tl : Int), .int .i64 0, .int .i64 0, .string ⟨#[]⟩, .bool false], s33, .map (some mb), .string (nameB 49), .slice oa ol oc, .string (nameB 50), .slice ta tl tc, s39], []⟩ wr := by
  refine Hld.of (wpAnyH_all (rs := [10, 14]) (by kernel_rfl) (by simp) fun j hj => ?_)
  simp only [List.mem_cons, List.not_mem_nil, or_false] at hj
  rcases hj with rfl | rfl
  · refine hld_op 10 rfl rfl (fun K hK => ?_)
    go_wp2_with fail
    refine ⟨trivial, ?_⟩
    refine hld_take 19 rfl (by kernel_rfl) (by kernel_rfl) (by kernel_rfl) (fun c a w h => hQ c a _ _ w h) rfl trivial (by intro w' hw'; go_simp; rfl) ?_
    simp only [Act.put, List.setIfInBounds_toArray, List.set_cons_succ, List.set_cons_zero]
    exact exs10 hq hQ (below_next hb ((Below.refl wr.heap.size wr).alloc (Nat.le_refl _) _)) (hm.next ((Below.refl wr.heap.size wr).alloc (Nat.le_refl _) _)) ⟨hb.size, heap_alloc_new wr _⟩
  · refine hld_op 14 rfl rfl (fun K hK => ?_)
    refine wpList_ins rfl _ _ _ rfl mb _ hm.2 rfl (nameB 49) (.slice oa ol oc) (nameB_small _) rfl rfl (by simp [nameB_ne']) ?_
    intro w1 hm1 hg1
    go_wp2_with fail
    refine ⟨trivial, ?_⟩
    refine hld_take 18 rfl (by kernel_rfl) (by kernel_rfl) (by kernel_rfl) (fun c a w h => hQ c a _ _ w h) rfl trivial (by intro w' hw'; go_simp; rfl) ?_
    simp only [Act.put, List.setIfInBounds_toArray, List.set_cons_succ, List.set_cons_zero]
    exact exs21 hq hQ (hb.grown hg1 hb.size (fun k hk => by cases hk; exact hm.1)) ⟨hm.1, hm1⟩
set_option maxRecDepth 100000 in
set_option maxHeartbeats 1000000 in
theorem exs5 {Q : Exit → Act → World → Prop} {w0 : World} {oa ta : Option Addr} {ol oc tl tc : Nat} (hq : ExQ Q w0 oa ol oc ta tl tc) (hQ : ExPanic Q) {s0 s1 s2 s3 s6 s7 s8 s9 s10 s11 s12 s13 s14 s15 s16 s17 s18 s19 s20 s21 s22 s37 s39 : Value} {mb sb : Nat} {wr : World} (hb : Below w0.heap.size w0 wr) (hm : ExM w0 wr mb []) (hs : ExS w0 wr sb (exCells ol tl)) :
    Hld Tryd.prog exOps Q (fun _ => True) 6 #[true, true, true, true, true, true, true, true, true, true, true, true, true, true, false, false, true, false, false, false, false] ⟨#[s0, s1, s2, s3, .slice oa ol oc, .slice ta tl tc, s6, s7, s8, s9, s10, s11, s12, s13, s14, s15, s16, s17, s18, s19, s20, s21, s22, .string (nameB 49), .slice oa ol oc, .int .i64 (ol : Int), .agg #[.string (nameB 49), .int .i64 0, .int .i64 (ol : Int)], .agg #[.int .i64 0, .int .i64 0, .int .i64 0, .string (nameB 49), .int .i64 0, .int .i64 (ol : Int), .int .i64 0, .int .i64 0, .string ⟨#[]⟩, .bool false], .string (nameB 50), .slice ta tl tc, .int .i64 (tl : Int), .agg #[.string (nameB 50), .int .i64 0, .int .i64 (tl : Int)], .agg #[.int .i64 0, .int .i64 0, .int .i64 0, .string (nameB 50), .int .i64 0, .int .i64 (tl : Int), .int .i64 0, .int .i64 0, .string ⟨#[]⟩, .bool false], .slice (some ⟨sb, 0, none⟩) 2 2, .map (some mb), .string (nameB 49), .slice oa ol oc, s37, .slice ta tl tc, s39], []⟩ wr := by
  refine Hld.of (wpAnyH_all (rs := [14, 15]) (by kernel_rfl) (by simp) fun j hj => ?_)
  simp only [List.mem_cons, List.not_mem_nil, or_false] at hj
  rcases hj with rfl | rfl
  · refine hld_op 14 rfl rfl (fun K hK => ?_)
    refine wpList_ins rfl _ _ _ rfl mb _ hm.2 rfl (nameB 49) (.slice oa ol oc) (nameB_small _) rfl rfl (by simp) ?_
    intro w1 hm1 hg1
    go_wp2_with fail
    refine ⟨trivial, ?_⟩
    exact exs6 hq hQ (hb.grown hg1 hb.size (fun k hk => by cases hk; exact hm.1)) ⟨hm.1, hm1⟩ (hs.grown hg1 hm.2)
  · refine hld_op 15 rfl rfl (fun K hK => ?_)
    go_wp2_with (go_at_call 30; refine (name50_any _).mono ?_; rintro e w1 ⟨rfl, hb1⟩)
    refine ⟨trivial, ?_⟩
    refine hld_take 19 rfl (by kernel_rfl) (by kernel_rfl) (by kernel_rfl) (fun c a w h => hQ c a _ _ w h) rfl trivial (by intro w' hw'; go_simp; rfl) ?_
    simp only [Act.put, List.setIfInBounds_toArray, List.set_cons_succ, List.set_cons_zero]
    exact exs9 hq hQ (below_next hb hb1) (hm.next hb1) (hs.next hb1)
set_option maxRecDepth 100000 in
set_option maxHeartbeats 1000000 in
theorem exs13 {Q : Exit → Act → World → Prop} {w0 : World} {oa ta : Option Addr} {ol oc tl tc : Nat} (hq : ExQ Q w0 oa ol oc ta tl tc) (hQ : ExPanic Q) {s1 s2 s3 s6 s7 s8 s9 s10 s11 s12 s13 s14 s15 s16 s17 s18 s19 s20 s21 s22 s34 s39 : Value} {sb : Nat} {wr : World} (hb : Below w0.heap.size w0 wr) (hs : ExS w0 wr sb (exCells ol tl)) :
    Hld Tryd.prog exOps Q (fun _ => True) 5 #[true, true, true, true, true, true, true, true, true, true, true, false, true, true, false, true, true, false, false, true, false] ⟨#[.slice (some ⟨sb, 0, none⟩) 2 2, s1, s2, s3, .slice oa ol oc, .slice ta tl tc, s6, s7, s8, s9, s10, s11, s12, s13, s14, s15, s16, s17, s18, s19, s20, s21, s22, .string (nameB 49), .slice oa ol oc, .int .i64 (ol : Int), .agg #[.string (nameB 49), .int .i64 0, .int .i64 (ol : Int)], .agg #[.int .i64 0, .int .i64 0, .int .i64 0, .string (nameB 49), .int .i64 0, .int .i64 (ol : Int), .int .i64 0, .int .i64 0, .string ⟨#[]⟩, .bool false], .string (nameB 50), .slice ta tl tc, .int .i64 (tl : Int), .agg #[.string (nameB 50), .int .i64 0, .int .i64 (tl : Int)], .agg #[.int .i64 0, .int .i64 0, .int .i64 0, .string (nameB 50), .int .i64 0, .int .i64 (tl : Int), .int .i64 0, .int .i64 0, .string ⟨#[]⟩, .bool false], .slice (some ⟨sb, 0, none⟩) 2 2, s34, .string (nameB 49), .slice oa ol oc, .string (nameB 50), .slice ta tl tc, s39], []⟩ wr := by
  refine Hld.of (wpAnyH_all (rs := [11]) (by kernel_rfl) (by simp) fun j hj => ?_)
  obtain rfl := List.mem_singleton.1 hj
  refine hld_op 11 rfl rfl (fun K hK => ?_)
  have hmm := @run_makeMap Tryd.prog
  go_wp2_with fail
  refine ⟨trivial, ?_⟩
  exact exs9 hq hQ (below_next hb ((Below.refl wr.heap.size wr).alloc (Nat.le_refl _) _)) ⟨hb.size, MapIs.made wr⟩ (hs.next ((Below.refl wr.heap.size wr).alloc (Nat.le_refl _) _))
set_option maxRecDepth 100000 in
set_option maxHeartbeats 1000000 in
theorem exs16 {Q : Exit → Act → World → Prop} {w0 : World} {oa ta : Option Addr} {ol oc tl tc : Nat} (hq : ExQ Q w0 oa ol oc ta tl tc) (hQ : ExPanic Q) {s0 s1 s2 s3 s6 s7 s8 s9 s10 s11 s12 s13 s14 s15 s16 s17 s18 s19 s20 s21 s22 s33 s37 s39 : Value} {mb : Nat} {wr : World} (hb : Below w0.heap.size w0 wr) (hm : ExM w0 wr mb [(.string (nameB 49), .slice oa ol oc)]) :
    Hld Tryd.prog exOps Q (fun _ => True) 6 #[true, true, true, true, true, true, true, true, true, true, false, true, true, true, true, false, true, false, false, false, false] ⟨#[s0, s1, s2, s3, .slice oa ol oc, .slice ta tl tc, s6, s7, s8, s9, s10, s11, s12, s13, s14, s15, s16, s17, s18, s19, s20, s21, s22, .string (nameB 49), .slice oa ol oc, .int .i64 (ol : Int), .agg #[.string (nameB 49), .int .i64 0, .int .i64 (ol : Int)], .agg #[.int .i64 0, .int .i64 0, .int .i64 0, .string (nameB 49), .int .i64 0, .int .i64 (ol : Int), .int .i64 0, .int .i64 0, .string ⟨#[]⟩, .bool false], .string (nameB 50), .slice ta tl tc, .int .i64 (tl : Int), .agg #[.string (nameB 50), .int .i64 0, .int .i64 (tl : Int)], .agg #[.int .i64 0, .int .i64 0, .int .i64 0, .string (nameB 50), .int .i64 0, .int .i64 (tl : Int), .int .i64 0, .int .i64 0, .string ⟨#[]⟩, .bool false], s33, .map (some mb), .string (nameB 49), .slice oa ol oc, s37, .slice ta tl tc, s39], []⟩ wr := by
  refine Hld.of (wpAnyH_all (rs := [10, 15]) (by kernel_rfl) (by simp) fun j hj => ?_)
  simp only [List.mem_cons, List.not_mem_nil, or_false] at hj
  rcases hj with rfl | rfl
  · refine hld_op 10 rfl rfl (fun K hK => ?_)
    go_wp2_with fail
    refine ⟨trivial, ?_⟩
    exact exs6 hq hQ (below_next hb ((Below.refl wr.heap.size wr).alloc (Nat.le_refl _) _)) (hm.next ((Below.refl wr.heap.size wr).alloc (Nat.le_refl _) _)) ⟨hb.size, heap_alloc_new wr _⟩
  · refine hld_op 15 rfl rfl (fun K hK => ?_)
    go_wp2_with (go_at_call 30; refine (name50_any _).mono ?_; rintro e w1 ⟨rfl, hb1⟩)
    refine ⟨trivial, ?_⟩
    exact exs17 hq hQ (below_next hb hb1) (hm.next hb1)
set_option maxRecDepth 100000 in
set_option maxHeartbeats 1000000 in
theorem exs19 {Q : Exit → Act → World → Prop} {w0 : World} {oa ta : Option Addr} {ol oc tl tc : Nat} (hq : ExQ Q w0 oa ol oc ta tl tc) (hQ : ExPanic Q) {s0 s1 s2 s3 s6 s7 s8 s9 s10 s11 s12 s13 s14 s15 s16 s17 s18 s19 s20 s21 s22 s33 s39 : Value} {mb : Nat} {wr : World} (hb : Below w0.heap.size w0 wr) (hm : ExM w0 wr mb []) :
    Hld Tryd.prog exOps Q (fun _ => True) 6 #[true, true, true, true, true, true, true, true, true, true, false, true, true, true, false, true, true, false, false, false, false] ⟨#[s0, s1, s2, s3, .slice oa ol oc, .slice ta tl tc, s6, s7, s8, s9, s10, s11, s12, s13, s14, s15, s16, s17, s18, s19, s20, s21, s22, .string (nameB 49), .slice oa ol oc, .int .i64 (ol : Int), .agg #[.string (nameB 49), .int .i64 0, .int .i64 (ol : Int)], .agg #[.int .i64 0, .int .i64 0, .int .i64 0, .string (nameB 49), .int .i64 0, .int .i64 (ol : Int), .int .i64 0, .int .i64 0, .string ⟨#[]⟩, .bool false], .string (nameB 50), .slice ta tl tc, .int .i64 (tl : Int), .agg #[.string (nameB 50), .int .i64 0, .int .i64 (tl : Int)], .agg #[.int .i64 0, .int .i64 0, .int .i64 0, .string (nameB 50), .int .i64 0, .int .i64 (tl : Int), .int .i64 0, .int .i64 0, .string ⟨#[]⟩, .bool false], s33, .map (some mb), .string (nameB 49), .slice oa ol oc, .string (nameB 50), .slice ta tl tc, s39], []⟩ wr := by
  refine Hld.of (wpAnyH_all (rs := [10, 14, 17]) (by kernel_rfl) (by simp) fun j hj => ?_)
  simp only [List.mem_cons, List.not_mem_nil, or_false] at hj
  rcases hj with rfl | rfl | rfl
  · refine hld_op 10 rfl rfl (fun K hK => ?_)
    go_wp2_with fail
    refine ⟨trivial, ?_⟩
    refine hld_take 19 rfl (by kernel_rfl) (by kernel_rfl) (by kernel_rfl) (fun c a w h => hQ c a _ _ w h) rfl trivial (by intro w' hw'; go_simp; rfl) ?_
    simp only [Act.put, List.setIfInBounds_toArray, List.set_cons_succ, List.set_cons_zero]
    exact exs9 hq hQ (below_next hb ((Below.refl wr.heap.size wr).alloc (Nat.le_refl _) _)) (hm.next ((Below.refl wr.heap.size wr).alloc (Nat.le_refl _) _)) ⟨hb.size, heap_alloc_new wr _⟩
  · refine hld_op 14 rfl rfl (fun K hK => ?_)
    refine wpList_ins rfl _ _ _ rfl mb _ hm.2 rfl (nameB 49) (.slice oa ol oc) (nameB_small _) rfl rfl (by simp) ?_
    intro w1 hm1 hg1
    go_wp2_with fail
    refine ⟨trivial, ?_⟩
    exact exs17 hq hQ (hb.grown hg1 hb.size (fun k hk => by cases hk; exact hm.1)) ⟨hm.1, hm1⟩
  · refine hld_op 17 rfl rfl (fun K hK => ?_)
    refine wpList_ins rfl _ _ _ rfl mb _ hm.2 rfl (nameB 50) (.slice ta tl tc) (nameB_small _) rfl rfl (by simp) ?_
    intro w1 hm1 hg1
    go_wp2_with fail
    refine ⟨trivial, ?_⟩
    exact exs20 hq hQ (hb.grown hg1 hb.size (fun k hk => by cases hk; exact hm.1)) ⟨hm.1, hm1⟩
set_option maxRecDepth 100000 in
set_option maxHeartbeats 1000000 in
theorem exs4 {Q : Exit → Act → World → Prop} {w0 : World} {oa ta : Option Addr} {ol oc tl tc : Nat} (hq : ExQ Q w0 oa ol oc ta tl tc) (hQ : ExPanic Q) {s0 s1 s2 s3 s6 s7 s8 s9 s10 s11 s12 s13 s14 s15 s16 s17 s18 s19 s20 s21 s22 s35 s37 s39 : Value} {mb sb : Nat} {wr : World} (hb : Below w0.heap.size w0 wr) (hm : ExM w0 wr mb []) (hs : ExS w0 wr sb (exCells ol tl)) :
    Hld Tryd.prog exOps Q (fun _ => True) 7 #[true, true, true, true, true, true, true, true, true, true, true, true, false, true, false, false, true, false, false, false, false] ⟨#[s0, s1, s2, s3, .slice oa ol oc, .slice ta tl tc, s6, s7, s8, s9, s10, s11, s12, s13, s14, s15, s16, s17, s18, s19, s20, s21, s22, .string (nameB 49), .slice oa ol oc, .int .i64 (ol : Int), .agg #[.string (nameB 49), .int .i64 0, .int .i64 (ol : Int)], .agg #[.int .i64 0, .int .i64 0, .int .i64 0, .string (nameB 49), .int .i64 0, .int .i64 (ol : Int), .int .i64 0, .int .i64 0, .string ⟨#[]⟩, .bool false], .string (nameB 50), .slice ta tl tc, .int .i64 (tl : Int), .agg #[.string (nameB 50), .int .i64 0, .int .i64 (tl : Int)], .agg #[.int .i64 0, .int .i64 0, .int .i64 0, .string (nameB 50), .int .i64 0, .int .i64 (tl : Int), .int .i64 0, .int .i64 0, .string ⟨#[]⟩, .bool false], .slice (some ⟨sb, 0, none⟩) 2 2, .map (some mb), s35, .slice oa ol oc, s37, .slice ta tl tc, s39], []⟩ wr := by
  refine Hld.of (wpAnyH_all (rs := [12]) (by kernel_rfl) (by simp) fun j hj => ?_)
  obtain rfl := List.mem_singleton.1 hj
  refine hld_op 12 rfl rfl (fun K hK => ?_)
  go_wp2_with (go_at_call 30; refine (name49_any _).mono ?_; rintro e w1 ⟨rfl, hb1⟩)
  refine ⟨trivial, ?_⟩
  exact exs5 hq hQ (below_next hb hb1) (hm.next hb1) (hs.next hb1)
set_option maxRecDepth 100000 in
set_option maxHeartbeats 1000000 in
theorem exs12 {Q : Exit → Act → World → Prop} {w0 : World} {oa ta : Option Addr} {ol oc tl tc : Nat} (hq : ExQ Q w0 oa ol oc ta tl tc) (hQ : ExPanic Q) {s0 s1 s2 s3 s6 s7 s8 s9 s10 s11 s12 s13 s14 s15 s16 s17 s18 s19 s20 s21 s22 s34 s37 s39 : Value} {sb : Nat} {wr : World} (hb : Below w0.heap.size w0 wr) (hs : ExS w0 wr sb (exCells ol tl)) :
    Hld Tryd.prog exOps Q (fun _ => True) 7 #[true, true, true, true, true, true, true, true, true, true, true, false, true, true, false, false, true, false, false, false, false] ⟨#[s0, s1, s2, s3, .slice oa ol oc, .slice ta tl tc, s6, s7, s8, s9, s10, s11, s12, s13, s14, s15, s16, s17, s18, s19, s20, s21, s22, .string (nameB 49), .slice oa ol oc, .int .i64 (ol : Int), .agg #[.string (nameB 49), .int .i64 0, .int .i64 (ol : Int)], .agg #[.int .i64 0, .int .i64 0, .int .i64 0, .string (nameB 49), .int .i64 0, .int .i64 (ol : Int), .int .i64 0, .int .i64 0, .string ⟨#[]⟩, .bool false], .string (nameB 50), .slice ta tl tc, .int .i64 (tl : Int), .agg #[.string (nameB 50), .int .i64 0, .int .i64 (tl : Int)], .agg #[.int .i64 0, .int .i64 0, .int .i64 0, .string (nameB 50), .int .i64 0, .int .i64 (tl : Int), .int .i64 0, .int .i64 0, .string ⟨#[]⟩, .bool false], .slice (some ⟨sb, 0, none⟩) 2 2, s34, .string (nameB 49), .slice oa ol oc, s37, .slice ta tl tc, s39], []⟩ wr := by
  refine Hld.of (wpAnyH_all (rs := [11, 15]) (by kernel_rfl) (by simp) fun j hj => ?_)
  simp only [List.mem_cons, List.not_mem_nil, or_false] at hj
  rcases hj with rfl | rfl
  · refine hld_op 11 rfl rfl (fun K hK => ?_)
    have hmm := @run_makeMap Tryd.prog
    go_wp2_with fail
    refine ⟨trivial, ?_⟩
    exact exs5 hq hQ (below_next hb ((Below.refl wr.heap.size wr).alloc (Nat.le_refl _) _)) ⟨hb.size, MapIs.made wr⟩ (hs.next ((Below.refl wr.heap.size wr).alloc (Nat.le_refl _) _))
  · refine hld_op 15 rfl rfl (fun K hK => ?_)
    go_wp2_with (go_at_call 30; refine (name50_any _).mono ?_; rintro e w1 ⟨rfl, hb1⟩)
    refine ⟨trivial, ?_⟩
    refine hld_take 19 rfl (by kernel_rfl) (by kernel_rfl) (by kernel_rfl) (fun c a w h => hQ c a _ _ w h) rfl trivial (by intro w' hw'; go_simp; rfl) ?_
    simp only [Act.put, List.setIfInBounds_toArray, List.set_cons_succ, List.set_cons_zero]
    exact exs13 hq hQ (below_next hb hb1) (hs.next hb1)
set_option maxRecDepth 100000 in
set_option maxHeartbeats 1000000 in
theorem exs15 {Q : Exit → Act → World → Prop} {w0 : World} {oa ta : Option Addr} {ol oc tl tc : Nat} (hq : ExQ Q w0 oa ol oc ta tl tc) (hQ : ExPanic Q) {s0 s1 s2 s3 s6 s7 s8 s9 s10 s11 s12 s13 s14 s15 s16 s17 s18 s19 s20 s21 s22 s33 s37 s39 : Value} {mb : Nat} {wr : World} (hb : Below w0.heap.size w0 wr) (hm : ExM w0 wr mb []) :
    Hld Tryd.prog exOps Q (fun _ => True) 7 #[true, true, true, true, true, true, true, true, true, true, false, true, true, true, false, false, true, false, false, false, false] ⟨#[s0, s1, s2, s3, .slice oa ol oc, .slice ta tl tc, s6, s7, s8, s9, s10, s11, s12, s13, s14, s15, s16, s17, s18, s19, s20, s21, s22, .string (nameB 49), .slice oa ol oc, .int .i64 (ol : Int), .agg #[.string (nameB 49), .int .i64 0, .int .i64 (ol : Int)], .agg #[.int .i64 0, .int .i64 0, .int .i64 0, .string (nameB 49), .int .i64 0, .int .i64 (ol : Int), .int .i64 0, .int .i64 0, .string ⟨#[]⟩, .bool false], .string (nameB 50), .slice ta tl tc, .int .i64 (tl : Int), .agg #[.string (nameB 50), .int .i64 0, .int .i64 (tl : Int)], .agg #[.int .i64 0, .int .i64 0, .int .i64 0, .string (nameB 50), .int .i64 0, .int .i64 (tl : Int), .int .i64 0, .int .i64 0, .string ⟨#[]⟩, .bool false], s33, .map (some mb), .string (nameB 49), .slice oa ol oc, s37, .slice ta tl tc, s39], []⟩ wr := by
  refine Hld.of (wpAnyH_all (rs := [10, 14, 15]) (by kernel_rfl) (by simp) fun j hj => ?_)
  simp only [List.mem_cons, List.not_mem_nil, or_false] at hj
  rcases hj with rfl | rfl | rfl
  · refine hld_op 10 rfl rfl (fun K hK => ?_)
    go_wp2_with fail
    refine ⟨trivial, ?_⟩
    exact exs5 hq hQ (below_next hb ((Below.refl wr.heap.size wr).alloc (Nat.le_refl _) _)) (hm.next ((Below.refl wr.heap.size wr).alloc (Nat.le_refl _) _)) ⟨hb.size, heap_alloc_new wr _⟩
  · refine hld_op 14 rfl rfl (fun K hK => ?_)
    refine wpList_ins rfl _ _ _ rfl mb _ hm.2 rfl (nameB 49) (.slice oa ol oc) (nameB_small _) rfl rfl (by simp) ?_
    intro w1 hm1 hg1
    go_wp2_with fail
    refine ⟨trivial, ?_⟩
    exact exs16 hq hQ (hb.grown hg1 hb.size (fun k hk => by cases hk; exact hm.1)) ⟨hm.1, hm1⟩
  · refine hld_op 15 rfl rfl (fun K hK => ?_)
    go_wp2_with (go_at_call 30; refine (name50_any _).mono ?_; rintro e w1 ⟨rfl, hb1⟩)
    refine ⟨trivial, ?_⟩
    exact exs19 hq hQ (below_next hb hb1) (hm.next hb1)
set_option maxRecDepth 100000 in
set_option maxHeartbeats 1000000 in
theorem exs23 {Q : Exit → Act → World → Prop} {w0 : World} {oa ta : Option Addr} {ol oc tl tc : Nat} (hq : ExQ Q w0 oa ol oc ta tl tc) (hQ : ExPanic Q) {s0 s1 s2 s3 s6 s7 s8 s9 s10 s11 s12 s13 s14 s15 s16 s17 s18 s19 s20 s21 s22 s33 s34 s39 : Value} {wr : World} (hb : Below w0.heap.size w0 wr) :
    Hld Tryd.prog exOps Q (fun _ => True) 7 #[true, true, true, true, true, true, true, true, true, true, false, false, true, true, false, true, true, false, false, false, false] ⟨#[s0, s1, s2, s3, .slice oa ol oc, .slice ta tl tc, s6, s7, s8, s9, s10, s11, s12, s13, s14, s15, s16, s17, s18, s19, s20, s21, s22, .string (nameB 49), .slice oa ol oc, .int .i64 (ol : Int), .agg #[.string (nameB 49), .int .i64 0, .int .i64 (ol : Int)], .agg #[.int .i64 0, .int .i64 0, .int .i64 0, .string (nameB 49), .int .i64 0, .int .i64 (ol : Int), .int .i64 0, .int .i64 0, .string ⟨#[]⟩, .bool false], .string (nameB 50), .slice ta tl tc, .int .i64 (tl : Int), .agg #[.string (nameB 50), .int .i64 0, .int .i64 (tl : Int)], .agg #[.int .i64 0, .int .i64 0, .int .i64 0, .string (nameB 50), .int .i64 0, .int .i64 (tl : Int), .int .i64 0, .int .i64 0, .string ⟨#[]⟩, .bool false], s33, s34, .string (nameB 49), .slice oa ol oc, .string (nameB 50), .slice ta tl tc, s39], []⟩ wr := by
  refine Hld.of (wpAnyH_all (rs := [10, 11]) (by kernel_rfl) (by simp) fun j hj => ?_)
  simp only [List.mem_cons, List.not_mem_nil, or_false] at hj
  rcases hj with rfl | rfl
  · refine hld_op 10 rfl rfl (fun K hK => ?_)
    go_wp2_with fail
    refine ⟨trivial, ?_⟩
    refine hld_take 19 rfl (by kernel_rfl) (by kernel_rfl) (by kernel_rfl) (fun c a w h => hQ c a _ _ w h) rfl trivial (by intro w' hw'; go_simp; rfl) ?_
    simp only [Act.put, List.setIfInBounds_toArray, List.set_cons_succ, List.set_cons_zero]
    exact exs13 hq hQ (below_next hb ((Below.refl wr.heap.size wr).alloc (Nat.le_refl _) _)) ⟨hb.size, heap_alloc_new wr _⟩
  · refine hld_op 11 rfl rfl (fun K hK => ?_)
    have hmm := @run_makeMap Tryd.prog
    go_wp2_with fail
    refine ⟨trivial, ?_⟩
    exact exs19 hq hQ (below_next hb ((Below.refl wr.heap.size wr).alloc (Nat.le_refl _) _)) ⟨hb.size, MapIs.made wr⟩
set_option maxRecDepth 100000 in
set_option maxHeartbeats 1000000 in
theorem exs3 {Q : Exit → Act → World → Prop} {w0 : World} {oa ta : Option Addr} {ol oc tl tc : Nat} (hq : ExQ Q w0 oa ol oc ta tl tc) (hQ : ExPanic Q) {s0 s1 s2 s3 s6 s7 s8 s9 s10 s11 s12 s13 s14 s15 s16 s17 s18 s19 s20 s21 s22 s34 s35 s37 s39 : Value} {sb : Nat} {wr : World} (hb : Below w0.heap.size w0 wr) (hs : ExS w0 wr sb (exCells ol tl)) :
    Hld Tryd.prog exOps Q (fun _ => True) 8 #[true, true, true, true, true, true, true, true, true, true, true, false, false, true, false, false, true, false, false, false, false] ⟨#[s0, s1, s2, s3, .slice oa ol oc, .slice ta tl tc, s6, s7, s8, s9, s10, s11, s12, s13, s14, s15, s16, s17, s18, s19, s20, s21, s22, .string (nameB 49), .slice oa ol oc, .int .i64 (ol : Int), .agg #[.string (nameB 49), .int .i64 0, .int .i64 (ol : Int)], .agg #[.int .i64 0, .int .i64 0, .int .i64 0, .string (nameB 49), .int .i64 0, .int .i64 (ol : Int), .int .i64 0, .int .i64 0, .string ⟨#[]⟩, .bool false], .string (nameB 50), .slice ta tl tc, .int .i64 (tl : Int), .agg #[.string (nameB 50), .int .i64 0, .int .i64 (tl : Int)], .agg #[.int .i64 0, .int .i64 0, .int .i64 0, .string (nameB 50), .int .i64 0, .int .i64 (tl : Int), .int .i64 0, .int .i64 0, .string ⟨#[]⟩, .bool false], .slice (some ⟨sb, 0, none⟩) 2 2, s34, s35, .slice oa ol oc, s37, .slice ta tl tc, s39], []⟩ wr := by
  refine Hld.of (wpAnyH_all (rs := [11, 12]) (by kernel_rfl) (by simp) fun j hj => ?_)
  simp only [List.mem_cons, List.not_mem_nil, or_false] at hj
  rcases hj with rfl | rfl
  · refine hld_op 11 rfl rfl (fun K hK => ?_)
    have hmm := @run_makeMap Tryd.prog
    go_wp2_with fail
    refine ⟨trivial, ?_⟩
    exact exs4 hq hQ (below_next hb ((Below.refl wr.heap.size wr).alloc (Nat.le_refl _) _)) ⟨hb.size, MapIs.made wr⟩ (hs.next ((Below.refl wr.heap.size wr).alloc (Nat.le_refl _) _))
  · refine hld_op 12 rfl rfl (fun K hK => ?_)
    go_wp2_with (go_at_call 30; refine (name49_any _).mono ?_; rintro e w1 ⟨rfl, hb1⟩)
    refine ⟨trivial, ?_⟩
    exact exs12 hq hQ (below_next hb hb1) (hs.next hb1)
set_option maxRecDepth 100000 in
set_option maxHeartbeats 1000000 in
theorem exs14 {Q : Exit → Act → World → Prop} {w0 : World} {oa ta : Option Addr} {ol oc tl tc : Nat} (hq : ExQ Q w0 oa ol oc ta tl tc) (hQ : ExPanic Q) {s0 s1 s2 s3 s6 s7 s8 s9 s10 s11 s12 s13 s14 s15 s16 s17 s18 s19 s20 s21 s22 s33 s35 s37 s39 : Value} {mb : Nat} {wr : World} (hb : Below w0.heap.size w0 wr) (hm : ExM w0 wr mb []) :
    Hld Tryd.prog exOps Q (fun _ => True) 8 #[true, true, true, true, true, true, true, true, true, true, false, true, false, true, false, false, true, false, false, false, false] ⟨#[s0, s1, s2, s3, .slice oa ol oc, .slice ta tl tc, s6, s7, s8, s9, s10, s11, s12, s13, s14, s15, s16, s17, s18, s19, s20, s21, s22, .string (nameB 49), .slice oa ol oc, .int .i64 (ol : Int), .agg #[.string (nameB 49), .int .i64 0, .int .i64 (ol : Int)], .agg #[.int .i64 0, .int .i64 0, .int .i64 0, .string (nameB 49), .int .i64 0, .int .i64 (ol : Int), .int .i64 0, .int .i64 0, .string ⟨#[]⟩, .bool false], .string (nameB 50), .slice ta tl tc, .int .i64 (tl : Int), .agg #[.string (nameB 50), .int .i64 0, .int .i64 (tl : Int)], .agg #[.int .i64 0, .int .i64 0, .int .i64 0, .string (nameB 50), .int .i64 0, .int .i64 (tl : Int), .int .i64 0, .int .i64 0, .string ⟨#[]⟩, .bool false], s33, .map (some mb), s35, .slice oa ol oc, s37, .slice ta tl tc, s39], []⟩ wr := by
  refine Hld.of (wpAnyH_all (rs := [10, 12]) (by kernel_rfl) (by simp) fun j hj => ?_)
  simp only [List.mem_cons, List.not_mem_nil, or_false] at hj
  rcases hj with rfl | rfl
  · refine hld_op 10 rfl rfl (fun K hK => ?_)
    go_wp2_with fail
    refine ⟨trivial, ?_⟩
    exact exs4 hq hQ (below_next hb ((Below.refl wr.heap.size wr).alloc (Nat.le_refl _) _)) (hm.next ((Below.refl wr.heap.size wr).alloc (Nat.le_refl _) _)) ⟨hb.size, heap_alloc_new wr _⟩
  · refine hld_op 12 rfl rfl (fun K hK => ?_)
    go_wp2_with (go_at_call 30; refine (name49_any _).mono ?_; rintro e w1 ⟨rfl, hb1⟩)
    refine ⟨trivial, ?_⟩
    exact exs15 hq hQ (below_next hb hb1) (hm.next hb1)
set_option maxRecDepth 100000 in
set_option maxHeartbeats 1000000 in
theorem exs22 {Q : Exit → Act → World → Prop} {w0 : World} {oa ta : Option Addr} {ol oc tl tc : Nat} (hq : ExQ Q w0 oa ol oc ta tl tc) (hQ : ExPanic Q) {s0 s1 s2 s3 s6 s7 s8 s9 s10 s11 s12 s13 s14 s15 s16 s17 s18 s19 s20 s21 s22 s33 s34 s37 s39 : Value} {wr : World} (hb : Below w0.heap.size w0 wr) :
    Hld Tryd.prog exOps Q (fun _ => True) 8 #[true, true, true, true, true, true, true, true, true, true, false, false, true, true, false, false, true, false, false, false, false] ⟨#[s0, s1, s2, s3, .slice oa ol oc, .slice ta tl tc, s6, s7, s8, s9, s10, s11, s12, s13, s14, s15, s16, s17, s18, s19, s20, s21, s22, .string (nameB 49), .slice oa ol oc, .int .i64 (ol : Int), .agg #[.string (nameB 49), .int .i64 0, .int .i64 (ol : Int)], .agg #[.int .i64 0, .int .i64 0, .int .i64 0, .string (nameB 49), .int .i64 0, .int .i64 (ol : Int), .int .i64 0, .int .i64 0, .string ⟨#[]⟩, .bool false], .string (nameB 50), .slice ta tl tc, .int .i64 (tl : Int), .agg #[.string (nameB 50), .int .i64 0, .int .i64 (tl : Int)], .agg #[.int .i64 0, .int .i64 0, .int .i64 0, .string (nameB 50), .int .i64 0, .int .i64 (tl : Int), .int .i64 0, .int .i64 0, .string ⟨#[]⟩, .bool false], s33, s34, .string (nameB 49), .slice oa ol oc, s37, .slice ta tl tc, s39], []⟩ wr := by
  refine Hld.of (wpAnyH_all (rs := [10, 11, 15]) (by kernel_rfl) (by simp) fun j hj => ?_)
  simp only [List.mem_cons, List.not_mem_nil, or_false] at hj
  rcases hj with rfl | rfl | rfl
  · refine hld_op 10 rfl rfl (fun K hK => ?_)
    go_wp2_with fail
    refine ⟨trivial, ?_⟩
    exact exs12 hq hQ (below_next hb ((Below.refl wr.heap.size wr).alloc (Nat.le_refl _) _)) ⟨hb.size, heap_alloc_new wr _⟩
  · refine hld_op 11 rfl rfl (fun K hK => ?_)
    have hmm := @run_makeMap Tryd.prog
    go_wp2_with fail
    refine ⟨trivial, ?_⟩
    exact exs15 hq hQ (below_next hb ((Below.refl wr.heap.size wr).alloc (Nat.le_refl _) _)) ⟨hb.size, MapIs.made wr⟩
  · refine hld_op 15 rfl rfl (fun K hK => ?_)
    go_wp2_with (go_at_call 30; refine (name50_any _).mono ?_; rintro e w1 ⟨rfl, hb1⟩)
    refine ⟨trivial, ?_⟩
    exact exs23 hq hQ (below_next hb hb1)
set_option maxRecDepth 100000 in
set_option maxHeartbeats 1000000 in
theorem exs2 {Q : Exit → Act → World → Prop} {w0 : World} {oa ta : Option Addr} {ol oc tl tc : Nat} (hq : ExQ Q w0 oa ol oc ta tl tc) (hQ : ExPanic Q) {s0 s1 s2 s3 s6 s7 s8 s9 s10 s11 s12 s13 s14 s15 s16 s17 s18 s19 s20 s21 s22 s33 s34 s35 s37 s39 : Value} {wr : World} (hb : Below w0.heap.size w0 wr) :
    Hld Tryd.prog exOps Q (fun _ => True) 9 #[true, true, true, true, true, true, true, true, true, true, false, false, false, true, false, false, true, false, false, false, false] ⟨#[s0, s1, s2, s3, .slice oa ol oc, .slice ta tl tc, s6, s7, s8, s9, s10, s11, s12, s13, s14, s15, s16, s17, s18, s19, s20, s21, s22, .string (nameB 49), .slice oa ol oc, .int .i64 (ol : Int), .agg #[.string (nameB 49), .int .i64 0, .int .i64 (ol : Int)], .agg #[.int .i64 0, .int .i64 0, .int .i64 0, .string (nameB 49), .int .i64 0, .int .i64 (ol : Int), .int .i64 0, .int .i64 0, .string ⟨#[]⟩, .bool false], .string (nameB 50), .slice ta tl tc, .int .i64 (tl : Int), .agg #[.string (nameB 50), .int .i64 0, .int .i64 (tl : Int)], .agg #[.int .i64 0, .int .i64 0, .int .i64 0, .string (nameB 50), .int .i64 0, .int .i64 (tl : Int), .int .i64 0, .int .i64 0, .string ⟨#[]⟩, .bool false], s33, s34, s35, .slice oa ol oc, s37, .slice ta tl tc, s39], []⟩ wr := by
  refine Hld.of (wpAnyH_all (rs := [10, 11, 12]) (by kernel_rfl) (by simp) fun j hj => ?_)
  simp only [List.mem_cons, List.not_mem_nil, or_false] at hj
  rcases hj with rfl | rfl | rfl
  · refine hld_op 10 rfl rfl (fun K hK => ?_)
    go_wp2_with fail
    refine ⟨trivial, ?_⟩
    exact exs3 hq hQ (below_next hb ((Below.refl wr.heap.size wr).alloc (Nat.le_refl _) _)) ⟨hb.size, heap_alloc_new wr _⟩
  · refine hld_op 11 rfl rfl (fun K hK => ?_)
    have hmm := @run_makeMap Tryd.prog
    go_wp2_with fail
    refine ⟨trivial, ?_⟩
    exact exs14 hq hQ (below_next hb ((Below.refl wr.heap.size wr).alloc (Nat.le_refl _) _)) ⟨hb.size, MapIs.made wr⟩
  · refine hld_op 12 rfl rfl (fun K hK => ?_)
    go_wp2_with (go_at_call 30; refine (name49_any _).mono ?_; rintro e w1 ⟨rfl, hb1⟩)
    refine ⟨trivial, ?_⟩
    exact exs22 hq hQ (below_next hb hb1)
set_option maxRecDepth 100000 in
set_option maxHeartbeats 1000000 in
theorem exs24 {Q : Exit → Act → World → Prop} {w0 : World} {oa ta : Option Addr} {ol oc tl tc : Nat} (hq : ExQ Q w0 oa ol oc ta tl tc) (hQ : ExPanic Q) {s0 s1 s2 s3 s6 s7 s8 s9 s10 s11 s12 s13 s14 s15 s16 s17 s18 s19 s20 s21 s22 s28 s31 s32 s33 s35 s37 s39 : Value} {mb : Nat} {wr : World} (hb : Below w0.heap.size w0 wr) (hm : ExM w0 wr mb []) :
    Hld Tryd.prog exOps Q (fun _ => True) 11 #[true, true, true, true, true, false, true, true, false, false, false, true, false, true, false, false, true, false, false, false, false] ⟨#[s0, s1, s2, s3, .slice oa ol oc, .slice ta tl tc, s6, s7, s8, s9, s10, s11, s12, s13, s14, s15, s16, s17, s18, s19, s20, s21, s22, .string (nameB 49), .slice oa ol oc, .int .i64 (ol : Int), .agg #[.string (nameB 49), .int .i64 0, .int .i64 (ol : Int)], .agg #[.int .i64 0, .int .i64 0, .int .i64 0, .string (nameB 49), .int .i64 0, .int .i64 (ol : Int), .int .i64 0, .int .i64 0, .string ⟨#[]⟩, .bool false], s28, .slice ta tl tc, .int .i64 (tl : Int), s31, s32, s33, .map (some mb), s35, .slice oa ol oc, s37, .slice ta tl tc, s39], []⟩ wr := by
  refine Hld.of (wpAnyH_all (rs := [5]) (by kernel_rfl) (by simp) fun j hj => ?_)
  obtain rfl := List.mem_singleton.1 hj
  refine hld_op 5 rfl rfl (fun K hK => ?_)
  go_wp2_with (go_at_call 30; refine (name50_any _).mono ?_; rintro e w1 ⟨rfl, hb1⟩)
  refine ⟨trivial, ?_⟩
  refine hld_take 8 rfl (by kernel_rfl) (by kernel_rfl) (by kernel_rfl) (fun c a w h => hQ c a _ _ w h) rfl trivial (by intro w' hw'; go_simp; rfl) ?_
  simp only [Act.put, List.setIfInBounds_toArray, List.set_cons_succ, List.set_cons_zero]
  refine hld_take 9 rfl (by kernel_rfl) (by kernel_rfl) (by kernel_rfl) (fun c a w h => hQ c a _ _ w h) rfl trivial (by intro w' hw'; go_simp; rfl) ?_
  simp only [Act.put, List.setIfInBounds_toArray, List.set_cons_succ, List.set_cons_zero]
  exact exs14 hq hQ (below_next hb hb1) (hm.next hb1)
set_option maxRecDepth 100000 in
set_option maxHeartbeats 1000000 in
theorem exs1 {Q : Exit → Act → World → Prop} {w0 : World} {oa ta : Option Addr} {ol oc tl tc : Nat} (hq : ExQ Q w0 oa ol oc ta tl tc) (hQ : ExPanic Q) {s0 s1 s2 s3 s6 s7 s8 s9 s10 s11 s12 s13 s14 s15 s16 s17 s18 s19 s20 s21 s22 s28 s31 s32 s33 s34 s35 s37 s39 : Value} {wr : World} (hb : Below w0.heap.size w0 wr) :
    Hld Tryd.prog exOps Q (fun _ => True) 12 #[true, true, true, true, true, false, true, true, false, false, false, false, false, true, false, false, true, false, false, false, false] ⟨#[s0, s1, s2, s3, .slice oa ol oc, .slice ta tl tc, s6, s7, s8, s9, s10, s11, s12, s13, s14, s15, s16, s17, s18, s19, s20, s21, s22, .string (nameB 49), .slice oa ol oc, .int .i64 (ol : Int), .agg #[.string (nameB 49), .int .i64 0, .int .i64 (ol : Int)], .agg #[.int .i64 0, .int .i64 0, .int .i64 0, .string (nameB 49), .int .i64 0, .int .i64 (ol : Int), .int .i64 0, .int .i64 0, .string ⟨#[]⟩, .bool false], s28, .slice ta tl tc, .int .i64 (tl : Int), s31, s32, s33, s34, s35, .slice oa ol oc, s37, .slice ta tl tc, s39], []⟩ wr := by
  refine Hld.of (wpAnyH_all (rs := [5, 11]) (by kernel_rfl) (by simp) fun j hj => ?_)
  simp only [List.mem_cons, List.not_mem_nil, or_false] at hj
  rcases hj with rfl | rfl
  · refine hld_op 5 rfl rfl (fun K hK => ?_)
    go_wp2_with (go_at_call 30; refine (name50_any _).mono ?_; rintro e w1 ⟨rfl, hb1⟩)
    refine ⟨trivial, ?_⟩
    refine hld_take 8 rfl (by kernel_rfl) (by kernel_rfl) (by kernel_rfl) (fun c a w h => hQ c a _ _ w h) rfl trivial (by intro w' hw'; go_simp; rfl) ?_
    simp only [Act.put, List.setIfInBounds_toArray, List.set_cons_succ, List.set_cons_zero]
    refine hld_take 9 rfl (by kernel_rfl) (by kernel_rfl) (by kernel_rfl) (fun c a w h => hQ c a _ _ w h) rfl trivial (by intro w' hw'; go_simp; rfl) ?_
    simp only [Act.put, List.setIfInBounds_toArray, List.set_cons_succ, List.set_cons_zero]
    exact exs2 hq hQ (below_next hb hb1)
  · refine hld_op 11 rfl rfl (fun K hK => ?_)
    have hmm := @run_makeMap Tryd.prog
    go_wp2_with fail
    refine ⟨trivial, ?_⟩
    exact exs24 hq hQ (below_next hb ((Below.refl wr.heap.size wr).alloc (Nat.le_refl _) _)) ⟨hb.size, MapIs.made wr⟩
set_option maxRecDepth 100000 in
set_option maxHeartbeats 1000000 in
theorem exs25 {Q : Exit → Act → World → Prop} {w0 : World} {oa ta : Option Addr} {ol oc tl tc : Nat} (hq : ExQ Q w0 oa ol oc ta tl tc) (hQ : ExPanic Q) {s0 s1 s2 s3 s6 s7 s8 s9 s10 s11 s12 s13 s14 s15 s16 s17 s18 s19 s20 s21 s22 s23 s26 s27 s28 s31 s32 s33 s35 s37 s39 : Value} {mb : Nat} {wr : World} (hb : Below w0.heap.size w0 wr) (hm : ExM w0 wr mb []) :
    Hld Tryd.prog exOps Q (fun _ => True) 14 #[false, true, true, false, false, false, true, true, false, false, false, true, false, true, false, false, true, false, false, false, false] ⟨#[s0, s1, s2, s3, .slice oa ol oc, .slice ta tl tc, s6, s7, s8, s9, s10, s11, s12, s13, s14, s15, s16, s17, s18, s19, s20, s21, s22, s23, .slice oa ol oc, .int .i64 (ol : Int), s26, s27, s28, .slice ta tl tc, .int .i64 (tl : Int), s31, s32, s33, .map (some mb), s35, .slice oa ol oc, s37, .slice ta tl tc, s39], []⟩ wr := by
  refine Hld.of (wpAnyH_all (rs := [0]) (by kernel_rfl) (by simp) fun j hj => ?_)
  obtain rfl := List.mem_singleton.1 hj
  refine hld_op 0 rfl rfl (fun K hK => ?_)
  go_wp2_with (go_at_call 30; refine (name49_any _).mono ?_; rintro e w1 ⟨rfl, hb1⟩)
  refine ⟨trivial, ?_⟩
  refine hld_take 3 rfl (by kernel_rfl) (by kernel_rfl) (by kernel_rfl) (fun c a w h => hQ c a _ _ w h) rfl trivial (by intro w' hw'; go_simp; rfl) ?_
  simp only [Act.put, List.setIfInBounds_toArray, List.set_cons_succ, List.set_cons_zero]
  refine hld_take 4 rfl (by kernel_rfl) (by kernel_rfl) (by kernel_rfl) (fun c a w h => hQ c a _ _ w h) rfl trivial (by intro w' hw'; go_simp; rfl) ?_
  simp only [Act.put, List.setIfInBounds_toArray, List.set_cons_succ, List.set_cons_zero]
  exact exs24 hq hQ (below_next hb hb1) (hm.next hb1)
set_option maxRecDepth 100000 in
set_option maxHeartbeats 1000000 in
theorem exs0 {Q : Exit → Act → World → Prop} {w0 : World} {oa ta : Option Addr} {ol oc tl tc : Nat} (hq : ExQ Q w0 oa ol oc ta tl tc) (hQ : ExPanic Q) {s0 s1 s2 s3 s6 s7 s8 s9 s10 s11 s12 s13 s14 s15 s16 s17 s18 s19 s20 s21 s22 s23 s26 s27 s28 s31 s32 s33 s34 s35 s37 s39 : Value} {wr : World} (hb : Below w0.heap.size w0 wr) :
    Hld Tryd.prog exOps Q (fun _ => True) 15 #[false, true, true, false, false, false, true, true, false, false, false, false, false, true, false, false, true, false, false, false, false] ⟨#[s0, s1, s2, s3, .slice oa ol oc, .slice ta tl tc, s6, s7, s8, s9, s10, s11, s12, s13, s14, s15, s16, s17, s18, s19, s20, s21, s22, s23, .slice oa ol oc, .int .i64 (ol : Int), s26, s27, s28, .slice ta tl tc, .int .i64 (tl : Int), s31, s32, s33, s34, s35, .slice oa ol oc, s37, .slice ta tl tc, s39], []⟩ wr := by
  refine Hld.of (wpAnyH_all (rs := [0, 11]) (by kernel_rfl) (by simp) fun j hj => ?_)
  simp only [List.mem_cons, List.not_mem_nil, or_false] at hj
  rcases hj with rfl | rfl
  · refine hld_op 0 rfl rfl (fun K hK => ?_)
    go_wp2_with (go_at_call 30; refine (name49_any _).mono ?_; rintro e w1 ⟨rfl, hb1⟩)
    refine ⟨trivial, ?_⟩
    refine hld_take 3 rfl (by kernel_rfl) (by kernel_rfl) (by kernel_rfl) (fun c a w h => hQ c a _ _ w h) rfl trivial (by intro w' hw'; go_simp; rfl) ?_
    simp only [Act.put, List.setIfInBounds_toArray, List.set_cons_succ, List.set_cons_zero]
    refine hld_take 4 rfl (by kernel_rfl) (by kernel_rfl) (by kernel_rfl) (fun c a w h => hQ c a _ _ w h) rfl trivial (by intro w' hw'; go_simp; rfl) ?_
    simp only [Act.put, List.setIfInBounds_toArray, List.set_cons_succ, List.set_cons_zero]
    exact exs1 hq hQ (below_next hb hb1)
  · refine hld_op 11 rfl rfl (fun K hK => ?_)
    have hmm := @run_makeMap Tryd.prog
    go_wp2_with fail
    refine ⟨trivial, ?_⟩
    exact exs25 hq hQ (below_next hb ((Below.refl wr.heap.size wr).alloc (Nat.le_refl _) _)) ⟨hb.size, MapIs.made wr⟩
set_option maxRecDepth 100000 in
set_option maxHeartbeats 1000000 in
theorem ex_start {Q : Exit → Act → World → Prop} {w0 : World} {oa ta : Option Addr} {ol oc tl tc : Nat} (hq : ExQ Q w0 oa ol oc ta tl tc) (hQ : ExPanic Q) {s0 s1 s2 s3 s6 s7 s8 s9 s10 s11 s12 s13 s14 s15 s16 s17 s18 s19 s20 s21 s22 s23 s24 s25 s26 s27 s28 s29 s30 s31 s32 s33 s34 s35 s36 s37 s38 s39 : Value} {wr : World} (hb : Below w0.heap.size w0 wr) :
    Hld Tryd.prog exOps Q (fun _ => True) 21 #[false, false, false, false, false, false, false, false, false, false, false, false, false, false, false, false, false, false, false, false, false] ⟨#[s0, s1, s2, s3, .slice oa ol oc, .slice ta tl tc, s6, s7, s8, s9, s10, s11, s12, s13, s14, s15, s16, s17, s18, s19, s20, s21, s22, s23, s24, s25, s26, s27, s28, s29, s30, s31, s32, s33, s34, s35, s36, s37, s38, s39], []⟩ wr := by
  refine hld_take 1 rfl (by kernel_rfl) (by kernel_rfl) (by kernel_rfl) (fun c a w h => hQ c a _ _ w h) rfl trivial (by intro w' hw'; go_simp; rfl) ?_
  simp only [Act.put, List.setIfInBounds_toArray, List.set_cons_succ, List.set_cons_zero]
  refine hld_take 2 rfl (by kernel_rfl) (by kernel_rfl) (by kernel_rfl) (fun c a w h => hQ c a _ _ w h) rfl trivial (by intro w' hw'; go_simp; rfl) ?_
  simp only [Act.put, List.setIfInBounds_toArray, List.set_cons_succ, List.set_cons_zero]
  refine hld_take 6 rfl (by kernel_rfl) (by kernel_rfl) (by kernel_rfl) (fun c a w h => hQ c a _ _ w h) rfl trivial (by intro w' hw'; go_simp; rfl) ?_
  simp only [Act.put, List.setIfInBounds_toArray, List.set_cons_succ, List.set_cons_zero]
  refine hld_take 7 rfl (by kernel_rfl) (by kernel_rfl) (by kernel_rfl) (fun c a w h => hQ c a _ _ w h) rfl trivial (by intro w' hw'; go_simp; rfl) ?_
  simp only [Act.put, List.setIfInBounds_toArray, List.set_cons_succ, List.set_cons_zero]
  refine hld_take 13 rfl (by kernel_rfl) (by kernel_rfl) (by kernel_rfl) (fun c a w h => hQ c a _ _ w h) rfl trivial (by intro w' hw'; go_simp; rfl) ?_
  simp only [Act.put, List.setIfInBounds_toArray, List.set_cons_succ, List.set_cons_zero]
  refine hld_take 16 rfl (by kernel_rfl) (by kernel_rfl) (by kernel_rfl) (fun c a w h => hQ c a _ _ w h) rfl trivial (by intro w' hw'; go_simp; rfl) ?_
  simp only [Act.put, List.setIfInBounds_toArray, List.set_cons_succ, List.set_cons_zero]
  exact exs0 hq hQ hb

end Go.Proofs.YtndgmcggckpgfaaDoor

/- Contracts of package manifest: walker.mention. -/
namespace Go.Proofs.YtndgmcggckpgfaaDoor
open Go.RowKit


/-- A walker at block wb: what is expanded, what is listed. -/
structure WkAt (w : World) (base wb eb sb : Nat) (fv v : Value) (ex rs : List Ref) : Prop where
  box : w.heap[wb]? = some (.cells #[fv, .map (some eb), .map (some sb), v] 105 (0, 0))
  exs : SetAt w eb ex
  see : SetAt w sb rs
  row : w.ownsRow base 37 3 v rs.length (rs.flatMap refC)
  ne : eb ≠ sb
def WkOwn (wb eb sb : Nat) (v : Value) (k : Nat) : Prop := k = wb ∨ k = eb ∨ k = sb ∨ v.ownBlock = some k
section
variable {w w' : World} {base wb eb sb : Nat} {fv v : Value} {ex rs : List Ref}
theorem SetAt.cells {b : Nat} {l : List Ref} (h : SetAt w b l) {cs : Array Value} {t : TypeId} {z : Nat × Nat} : w.heap[b]? ≠ some (.cells cs t z) := fun e => by
  obtain ⟨es, clock, hb, _⟩ := h.map
  rw [hb] at e; cases e
theorem WkAt.wne (h : WkAt w base wb eb sb fv v ex rs) : wb ≠ eb ∧ wb ≠ sb := ⟨fun e => h.exs.cells (e ▸ h.box), fun e => h.see.cells (e ▸ h.box)⟩
theorem owns_block {e : TypeId} {sz : Nat} {n : Nat} {xs : List Value} {k : Nat} (h : w.ownsRow base e sz v n xs) (hk : v.ownBlock = some k) : ∃ cs, w.heap[k]? = some (.cells cs e (0, 0)) := by
  obtain ⟨_, h2⟩ := h
  rcases h2 with ⟨rfl, rfl⟩ | ⟨g, cap, cur, rfl, _, hh, _⟩
  · cases hk
  · have : g = k := by simpa [Value.ownBlock] using hk
    subst this
    exact ⟨cur, hh⟩
theorem WkAt.own (h : WkAt w base wb eb sb fv v ex rs) {k : Nat} (hk : v.ownBlock = some k) : k ≠ wb ∧ k ≠ eb ∧ k ≠ sb := by
  obtain ⟨cs, hc⟩ := owns_block h.row hk
  refine ⟨fun e => ?_, fun e => ?_, fun e => ?_⟩
  · subst e
    have := hc.symm.trans h.box
    simp at this
  · subst e; exact h.exs.cells hc
  · subst e; exact h.see.cells hc
theorem WkAt.keep (h : WkAt w base wb eb sb fv v ex rs) (hs : ∀ k, k < w.heap.size → WkOwn wb eb sb v k → w'.heap[k]? = w.heap[k]?) : WkAt w' base wb eb sb fv v ex rs := by
  refine ⟨(hs wb (lt_of_block h.box) (.inl rfl)).trans h.box, h.exs.same (hs eb h.exs.map.lt (.inr (.inl rfl))), h.see.same (hs sb h.see.map.lt (.inr (.inr (.inl rfl)))), ?_, h.ne⟩
  obtain ⟨hl, h2⟩ := h.row
  refine ⟨hl, ?_⟩
  rcases h2 with h2 | ⟨g, cap, cur, rfl, hg, hh, h3⟩
  · exact .inl h2
  · exact .inr ⟨g, cap, cur, rfl, hg, (hs g (lt_of_block hh) (.inr (.inr (.inr rfl)))).trans hh, h3⟩
theorem WkAt.below (h : WkAt w base wb eb sb fv v ex rs) (hb : Below w.heap.size w w') : WkAt w' base wb eb sb fv v ex rs := h.keep (fun k hk _ => hb.block k hk)
theorem WkAt.ok (h : WkAt w base wb eb sb fv v ex rs) : ∀ r ∈ rs, RefOk r := h.see.ok
theorem WkAt.shape (h : WkAt w base wb eb sb fv v ex rs) : ∃ a cap, v = .slice a rs.length cap := by
  obtain ⟨a, cap, h1, _⟩ := owns_shape h.row
  exact ⟨a, cap, h1⟩
end
def mentionP (r : Ref) (rs : List Ref) : List Ref := if r ∈ rs then rs else rs ++ [r]
def WkRes (base wb eb sb : Nat) (fv v : Value) (ex rs : List Ref) (w w' : World) : Prop :=
  ∃ v', WkAt w' base wb eb sb fv v' ex rs ∧ Grows (WkOwn wb eb sb v) w w' ∧ ∀ k, v'.ownBlock = some k → v.ownBlock = some k ∨ w.heap.size ≤ k
set_option maxRecDepth 100000 in
set_option maxHeartbeats 2000000 in
theorem mention_any (base wb eb sb : Nat) (fv v : Value) (ex rs : List Ref) (r : Ref) (w : World) (h : WkAt w base wb eb sb fv v ex rs) (hr : RefOk r) (hl : rs.length < 1099511627775) (hbase : base ≤ w.heap.size) :
    Calls Tryd.prog 46 #[.pointer (some ⟨wb, 0, none⟩), refV r] w fun e w' => e = .returned (.tuple #[]) ∧ WkRes base wb eb sb fv v ex (mentionP r rs) w w' := by
  obtain ⟨av, cv, rfl⟩ := h.shape
  obtain ⟨W, hW⟩ : ∃ W : World, W = (w.alloc (.cells #[.string r.name, .int .i64 r.gen, .int .i64 r.size] 37)).drew := ⟨_, rfl⟩
  have hbW : Below w.heap.size w W := by rw [hW]; exact ((Below.refl _ _).alloc (Nat.le_refl _) _).drew
  have HBW := Lib.hid hbW
  have HK := Lib.hid (h.below hbW)
  have bx : W.heap[w.heap.size]? = some (.cells #[.string r.name, .int .i64 r.gen, .int .i64 r.size] 37 (0, 0)) := by rw [hW]; exact heap_alloc_new w _
  have HBX := Lib.hid bx
  have HR := Lib.hid hr
  have HW := Lib.hid hW
  have q0 := cellH (k := 0) bx
  have q1 := cellH (k := 1) bx
  have q2 := cellH (k := 2) bx
  have c2 := cellH (k := 2) HK.out.box
  have hlk := HK.out.see.look hr
  simp only [List.getElem?_toArray, List.getElem?_cons_succ, List.getElem?_cons_zero] at q0 q1 q2 c2
  have hwb : wb < w.heap.size := lt_of_block h.box
  have H0 := Lib.hid h
  unfold refV at hlk ⊢
  clear h hr bx hbW
  by_cases hm : r ∈ rs
  · have e1 : decide (r ∈ rs) = true := by simp [hm]
    have HM := Lib.hid (show mentionP r rs = rs by unfold mentionP; rw [if_pos hm])
    rw [e1] at hlk
    clear e1 hm
    go_enter Tryd.func46, Tryd.ntmps46
    go_wp2_with fail
    refine wp_region_segs [some 7] (by kernel_rfl) (by kernel_rfl) (by kernel_rfl) ?_
    simp only [wpSegs, List.take_succ_cons, List.take_zero, List.drop_succ_cons, List.drop_zero]
    rw [← HW.out]
    clear hW
    repeat (first | (refine seg_skip rfl ?_; simp only [Act.put, List.setIfInBounds_toArray, List.set_cons_succ, List.set_cons_zero]) | (refine seg_run rfl (fun K hK => ?_); go_simp; refine hK _ ?_; clear hK K))
    refine seg_nil ?_
    go_wp2_with fail
    go_end0
    exact ⟨rfl, .slice av rs.length cv, by rw [HM.out]; exact HK.out, Grows.of_below HBW.out, fun k hk => .inl hk⟩
  · have e1 : decide (r ∈ rs) = false := by simp [hm]
    have HM := Lib.hid (show mentionP r rs = rs ++ [r] by unfold mentionP; rw [if_neg hm])
    have HNM := Lib.hid hm
    rw [e1] at hlk
    clear e1 hm
    go_enter Tryd.func46, Tryd.ntmps46
    go_wp2_with fail
    refine wp_region_segs [some 7] (by kernel_rfl) (by kernel_rfl) (by kernel_rfl) ?_
    simp only [wpSegs, List.take_succ_cons, List.take_zero, List.drop_succ_cons, List.drop_zero]
    rw [← HW.out]
    clear hW
    repeat (first | (refine seg_skip rfl ?_; simp only [Act.put, List.setIfInBounds_toArray, List.set_cons_succ, List.set_cons_zero]) | (refine seg_run rfl (fun K hK => ?_); go_simp; refine hK _ ?_; clear hK K))
    refine seg_nil ?_
    go_wp2_with fail
    refine wp_region_segs [some 5, none] (by kernel_rfl) (by kernel_rfl) (by kernel_rfl) ?_
    simp only [wpSegs, List.take_succ_cons, List.take_zero, List.drop_succ_cons, List.drop_zero]
    have HK1 := Lib.hid (HK.out.below ((Below.refl _ W).drew))
    repeat (first | (refine seg_skip rfl ?_; simp only [Act.put, List.setIfInBounds_toArray, List.set_cons_succ, List.set_cons_zero]) | (refine seg_run rfl (fun K hK => ?_); go_simp; refine hK _ ?_; clear hK K))
    refine seg_nil ?_
    refine bar_run rfl (fun K hK => ?_)
    go_wp2_with (at_mapUpdate; go_must (refine wpList_setadd rfl _ _ _ rfl sb rs HK1.out.see rfl r HR.out rfl rfl HNM.out ?_); intro w2 hset hg2)
    have hsb : sb < w.heap.size := H0.out.see.map.lt
    have heb : eb < w.heap.size := H0.out.exs.map.lt
    have hbs := HBW.out.size
    obtain ⟨W3, hW3⟩ : ∃ W3 : World, W3 = w2.drew := ⟨_, rfl⟩
    have hg3 : W.grownBy W3 (some sb) := by rw [hW3]; exact grown_trans (b := W.drew) ⟨rfl, rfl, rfl, Nat.le_refl _, fun _ _ _ => rfl⟩ (grown_trans hg2 ⟨rfl, rfl, rfl, Nat.le_refl _, fun _ _ _ => rfl⟩)
    have hz3 := hg3.size
    have HSET := Lib.hid (show SetAt W3 sb (rs ++ [r]) by rw [hW3]; exact hset.same rfl)
    have HEX := Lib.hid (HK.out.exs.same (w' := W3) (hg3.block eb HK.out.exs.map.lt (by simp; exact HK.out.ne)))
    have HROW := Lib.hid (HK.out.row.kept hg3 (.inr (fun e => (HK.out.own e).2.2 rfl)))
    have HWB := Lib.hid (keepH hg3 HK.out.box HK.out.wne.2)
    have HRB := Lib.hid (keepH hg3 HBX.out (by omega))
    have HG3 := Lib.hid hg3
    have c3 := cellH (k := 3) HWB.out
    have f3 := frozenH (k := 3) HWB.out
    have r0 := cellH (k := 0) HRB.out
    have r1 := cellH (k := 1) HRB.out
    have r2 := cellH (k := 2) HRB.out
    simp only [List.getElem?_toArray, List.getElem?_cons_succ, List.getElem?_cons_zero] at c3 r0 r1 r2
    clear q0 q1 q2 c2 hlk hset hg2 hg3
    refine hld_begin (fun w' => w'.cell? ⟨wb, 3, none⟩ = some (.slice av rs.length cv) ∧ w'.cell? ⟨w.heap.size, 0, none⟩ = some (.string r.name) ∧ w'.cell? ⟨w.heap.size, 1, none⟩ = some (.int .i64 r.gen) ∧ w'.cell? ⟨w.heap.size, 2, none⟩ = some (.int .i64 r.size)) (by kernel_rfl) (by kernel_rfl) ?_
    simp only [List.dropLast_cons_cons, List.dropLast_singleton, List.length_cons, List.length_nil, Nat.reduceAdd, Nat.reduceSub]
    rw [← hW3]
    clear hW3
    refine hld_take 0 rfl (by kernel_rfl) (by kernel_rfl) (by kernel_rfl) (fun _ _ _ h => h) rfl (by go_simp) (by rintro w' ⟨hw1, hw2, hw3, hw4⟩; go_simp; rfl) ?_
    simp only [Act.put, List.setIfInBounds_toArray, List.set_cons_succ, List.set_cons_zero]
    refine hld_take 1 rfl (by kernel_rfl) (by kernel_rfl) (by kernel_rfl) (fun _ _ _ h => h) rfl (by go_simp) (by rintro w' ⟨hw1, hw2, hw3, hw4⟩; go_simp; rfl) ?_
    simp only [Act.put, List.setIfInBounds_toArray, List.set_cons_succ, List.set_cons_zero]
    refine hld_take 2 rfl (by kernel_rfl) (by kernel_rfl) (by kernel_rfl) (fun _ _ _ h => h) rfl (by go_simp) (by rintro w' ⟨hw1, hw2, hw3, hw4⟩; go_simp; rfl) ?_
    simp only [Act.put, List.setIfInBounds_toArray, List.set_cons_succ, List.set_cons_zero]
    refine hld_take 3 rfl (by kernel_rfl) (by kernel_rfl) (by kernel_rfl) (fun _ _ _ h => h) rfl (by go_simp) (by rintro w' ⟨hw1, hw2, hw3, hw4⟩; go_simp; rfl) ?_
    simp only [Act.put, List.setIfInBounds_toArray, List.set_cons_succ, List.set_cons_zero]
    refine hld_take 4 rfl (by kernel_rfl) (by kernel_rfl) (by kernel_rfl) (fun _ _ _ h => h) rfl (by go_simp) (by rintro w' ⟨hw1, hw2, hw3, hw4⟩; go_simp; rfl) ?_
    simp only [Act.put, List.setIfInBounds_toArray, List.set_cons_succ, List.set_cons_zero]
    refine hld_take 5 rfl (by kernel_rfl) (by kernel_rfl) (by kernel_rfl) (fun _ _ _ h => h) rfl (by go_simp) (by rintro w' ⟨hw1, hw2, hw3, hw4⟩; go_simp; rfl) ?_
    simp only [Act.put, List.setIfInBounds_toArray, List.set_cons_succ, List.set_cons_zero]
    have hltw : wb < W3.heap.size := lt_of_block HWB.out
    have hltr : w.heap.size < W3.heap.size := lt_of_block HRB.out
    have HAL := Lib.hid ((Below.refl W3.heap.size W3).alloc (Nat.le_refl _) (.cells #[.string r.name, .int .i64 r.gen, .int .i64 r.size] 37))
    have hS2 := And.intro ((HAL.out.cell (p := ⟨wb, 3, none⟩) hltw).trans c3) (And.intro ((HAL.out.cell (p := ⟨w.heap.size, 0, none⟩) hltr).trans r0) (And.intro ((HAL.out.cell (p := ⟨w.heap.size, 1, none⟩) hltr).trans r1) ((HAL.out.cell (p := ⟨w.heap.size, 2, none⟩) hltr).trans r2)))
    have HS2 := Lib.hid hS2
    clear hS2
    refine hld_bar 6 rfl (by kernel_rfl) rfl (fun K hK => ?_)
    go_wp2_with fail
    (first | (refine ⟨HS2.out, ?_⟩) | skip)
    refine hld_bar 7 rfl (by kernel_rfl) rfl (fun K hK => ?_)
    go_wp2_with (at_builtin; go_must (refine wpList_app1p Tryd.appRefs rfl _ _ rfl base (.slice av rs.length cv) rs.length (rs.flatMap refC) rfl W3 [.string r.name, .int .i64 r.gen, .int .i64 r.size] _ rfl rfl (refC_one (r := r)) HROW.out (by omega) (by omega) ?_); intro v' wc hown' hgrow' _ hpl; obtain ⟨ae, ce, rfl, -, -⟩ := owns_shape hown')
    have hne : ∀ k, (Value.slice av rs.length cv).ownBlock = some k → k ≠ wb ∧ k ≠ eb ∧ k ≠ sb := fun k hk => H0.out.own hk
    have hner : (Value.slice av rs.length cv).ownBlock ≠ some w.heap.size := fun e => by have := (H0.out.row.lt _ e).2; omega
    have HWB2 := Lib.hid ((hgrow'.block wb hltw (fun e => (hne wb e.symm).1 rfl)).trans HWB.out)
    have HRB2 := Lib.hid ((hgrow'.block w.heap.size hltr (fun e => hner e.symm)).trans HRB.out)
    have HEX2 := Lib.hid (HEX.out.same (hgrow'.block eb HEX.out.map.lt (fun e => (hne eb e.symm).2.1 rfl)))
    have HSET2 := Lib.hid (HSET.out.same (hgrow'.block sb HSET.out.map.lt (fun e => (hne sb e.symm).2.2 rfl)))
    have HGR := Lib.hid hgrow'
    have HPL := Lib.hid hpl
    have HOW := Lib.hid (show wc.ownsRow base 37 3 (.slice ae (rs.length + 1) ce) (rs ++ [r]).length ((rs ++ [r]).flatMap refC) by rw [List.length_append, List.flatMap_append]; simpa [refC] using hown')
    have c4 := cellH (k := 3) HWB2.out
    have f4 := frozenH (k := 3) HWB2.out
    have s0 := cellH (k := 0) HRB2.out
    have s1 := cellH (k := 1) HRB2.out
    have s2 := cellH (k := 2) HRB2.out
    simp only [List.getElem?_toArray, List.getElem?_cons_succ, List.getElem?_cons_zero] at c4 s0 s1 s2
    clear hown' hgrow' hpl c3 f3 r0 r1 r2 hne hner
    refine ⟨⟨c4, s0, s1, s2⟩, ?_⟩
    refine hld_take 8 rfl (by kernel_rfl) (by kernel_rfl) (by kernel_rfl) (fun _ _ _ h => h) rfl (by go_simp) (by rintro w' ⟨hw1, hw2, hw3, hw4⟩; go_simp; rfl) ?_
    simp only [Act.put, List.setIfInBounds_toArray, List.set_cons_succ, List.set_cons_zero]
    refine hld_take 9 rfl (by kernel_rfl) (by kernel_rfl) (by kernel_rfl) (fun _ _ _ h => h) rfl (by go_simp) (by rintro w' ⟨hw1, hw2, hw3, hw4⟩; go_simp; rfl) ?_
    simp only [Act.put, List.setIfInBounds_toArray, List.set_cons_succ, List.set_cons_zero]
    refine hld_done (by kernel_rfl) ?_
    refine last_run rfl rfl (fun K hK => ?_)
    go_wp2_with fail
    go_end0
    refine ⟨rfl, .slice ae (rs.length + 1) ce, ?_, ?_, ?_⟩
    · rw [HM.out]
      have hws := H0.out.wne
      have hx := setH (k := 3) HWB2.out (.slice ae (rs.length + 1) ce)
      simp only [List.setIfInBounds_toArray, List.set_cons_succ, List.set_cons_zero] at hx
      refine ⟨hx, HEX2.out.same (Below.heap_setCell _ _ _ _ (Ne.symm hws.1)), HSET2.out.same (Below.heap_setCell _ _ _ _ (Ne.symm hws.2)), HOW.out.kept (grown_set _ _ _ _) (.inr (fun e => ?_)), H0.out.ne⟩
      rcases HPL.out wb e with h1 | h1
      · exact (H0.out.own h1).1 rfl
      · omega
    · refine Grows.trans (Grows.of_below HBW.out) (Grows.trans (S := WkOwn wb eb sb (.slice av rs.length cv)) (Grows.of_grown HG3.out (fun k hk => by cases hk; exact .inr (.inr (.inl rfl)))) (Grows.trans (S := WkOwn wb eb sb (.slice av rs.length cv)) (Grows.of_grown HGR.out (fun k hk => .inr (.inr (.inr hk)))) (Grows.of_grown (S := WkOwn wb eb sb (.slice av rs.length cv)) (grown_set wc wb 3 _) (fun k hk => by cases hk; exact .inl rfl)) (fun i _ h => h)) (fun i _ h => h)) (fun i _ h => h)
    · intro k hk
      rcases HPL.out k hk with h1 | h1
      · exact .inl h1
      · exact .inr (by omega)

end Go.Proofs.YtndgmcggckpgfaaDoor

/- Contracts of package manifest: walker.walk: plain words, and what stands during the walk over items. -/
namespace Go.Proofs.YtndgmcggckpgfaaDoor
open Go.RowKit

def menAll (cs rs : List Ref) : List Ref := cs.foldl (fun rs r => mentionP r rs) rs
def overW (f : Ref → List Ref × List Ref → Option (Int × (List Ref × List Ref))) : List Item → List Ref × List Ref → Option (Int × (List Ref × List Ref))
  | [], st => some (0, st)
  | it :: l, st => if it.kind ≠ 2 then overW f l (st.1, menAll it.chunks st.2) else
    (f it.node (st.1, menAll it.chunks st.2)).bind fun p => if p.1 ≠ 0 then some p else overW f l p.2
def walkP (visit : Ref → Except Int (List Item)) : Nat → Ref → List Ref × List Ref → Option (Int × (List Ref × List Ref))
  | 0, _, _ => none
  | n + 1, r, st => if r ∈ st.1 then some (0, (st.1, mentionP r st.2)) else match visit r with
    | .error x => some (x, (st.1 ++ [r], mentionP r st.2))
    | .ok l => overW (walkP visit n) l (st.1 ++ [r], mentionP r st.2)
theorem mentionP_le (r : Ref) (rs : List Ref) : rs.length ≤ (mentionP r rs).length := by
  unfold mentionP
  split
  · exact Nat.le_refl _
  · simp
theorem menAll_le : ∀ (cs rs : List Ref), rs.length ≤ (menAll cs rs).length
  | [], _ => Nat.le_refl _
  | c :: cs, rs => Nat.le_trans (mentionP_le c rs) (menAll_le cs (mentionP c rs))
theorem menAll_snoc (cs : List Ref) (c : Ref) (rs : List Ref) : menAll (cs ++ [c]) rs = mentionP c (menAll cs rs) := by
  unfold menAll; rw [List.foldl_append]; rfl
theorem menAll_take_le (cs rs : List Ref) (j : Nat) : (menAll (cs.take j) rs).length ≤ (menAll cs rs).length := by
  have : menAll cs rs = menAll (cs.drop j) (menAll (cs.take j) rs) := by
    unfold menAll
    rw [← List.foldl_append, List.take_append_drop]
  rw [this]
  exact menAll_le _ _
theorem overW_le {f : Ref → List Ref × List Ref → Option (Int × (List Ref × List Ref))} (hf : ∀ r st x st', f r st = some (x, st') → st.2.length ≤ st'.2.length) :
    ∀ (l : List Item) (st : List Ref × List Ref) (x : Int) (st' : List Ref × List Ref), overW f l st = some (x, st') → st.2.length ≤ st'.2.length
  | [], st, x, st', h => by
    simp only [overW, Option.some.injEq, Prod.mk.injEq] at h
    obtain ⟨_, rfl⟩ := h
    exact Nat.le_refl _
  | it :: l, st, x, st', h => by
    rw [overW] at h
    split at h
    · exact Nat.le_trans (menAll_le it.chunks st.2) (overW_le hf l _ x st' h)
    · rw [Option.bind_eq_some_iff] at h
      obtain ⟨⟨y, st2⟩, h1, h2⟩ := h
      have h3 := hf _ _ _ _ h1
      have h4 := menAll_le it.chunks st.2
      simp only at h2 h3
      split at h2
      · simp only [Option.some.injEq, Prod.mk.injEq] at h2
        obtain ⟨_, rfl⟩ := h2
        exact Nat.le_trans h4 h3
      · exact Nat.le_trans (Nat.le_trans h4 h3) (overW_le hf l _ x st' h2)
theorem walkP_le (visit : Ref → Except Int (List Item)) : ∀ (n : Nat) (r : Ref) (st : List Ref × List Ref) (x : Int) (st' : List Ref × List Ref), walkP visit n r st = some (x, st') → st.2.length ≤ st'.2.length
  | 0, _, _, _, _, h => by simp [walkP] at h
  | n + 1, r, st, x, st', h => by
    have hm := mentionP_le r st.2
    rw [walkP] at h
    split at h
    · simp only [Option.some.injEq, Prod.mk.injEq] at h
      obtain ⟨_, rfl⟩ := h
      exact hm
    · split at h
      · simp only [Option.some.injEq, Prod.mk.injEq] at h
        obtain ⟨_, rfl⟩ := h
        exact hm
      · exact Nat.le_trans hm (overW_le (walkP_le visit n) _ _ x st' h)

/-- What a visit leaves. -/
def VisRes (res : Except Int (List Item)) (w : World) (e : Ending) (w' : World) : Prop := Below w.heap.size w w' ∧ match res with
  | .error x => e = .returned (.tuple #[.slice none 0 0, .int .i64 x]) ∧ x ≠ 0
  | .ok l => ∃ v, e = .returned (.tuple #[v, .int .i64 0]) ∧ ItemsAt (w.heap.size ≤ ·) w' v l
theorem WkAt.notown {w : World} {base wb eb sb : Nat} {fv v : Value} {ex rs : List Ref} (h : WkAt w base wb eb sb fv v ex rs) {k : Nat} {cs : Array Value} {t : TypeId} {z : Nat × Nat} (hb : w.heap[k]? = some (.cells cs t z)) (h1 : t ≠ 105) (h2 : t ≠ 37) : ¬ WkOwn wb eb sb v k := by
  rintro (e | e | e | e)
  · subst e
    have := hb.symm.trans h.box
    simp at this
    exact h1 this.2.1
  · subst e; exact h.exs.cells hb
  · subst e; exact h.see.cells hb
  · obtain ⟨cs', hc⟩ := owns_block h.row e
    have := hb.symm.trans hc
    simp at this
    exact h2 this.2.1
/-- During the walk over the items of a node. -/
structure WkIn (w : World) (B h5 h6 base wb eb sb : Nat) (fv v itv : Value) (l : List Item) (wr : World) (v2 : Value) (ex rs : List Ref) : Prop where
  at' : WkAt wr base wb eb sb fv v2 ex rs
  gr : Grows (WkOwn wb eb sb v) w wr
  own : ∀ k, v2.ownBlock = some k → v.ownBlock = some k ∨ w.heap.size ≤ k
  apart : ∀ k, v2.ownBlock = some k → k < h5 ∨ h6 ≤ k
  lo : wb < h5 ∧ eb < h5 ∧ sb < h5
  ord : w.heap.size ≤ h5 ∧ h5 ≤ h6 ∧ h6 ≤ wr.heap.size
  its : ItemsAt (fun k => h5 ≤ k ∧ k < h6) wr itv l
theorem ItemsAt.same {S : Nat → Prop} {w w' : World} {v : Value} {l : List Item} (h : ItemsAt S w v l) (hs : ∀ k, k < w.heap.size → S k → w'.heap[k]? = w.heap[k]?) : ItemsAt S w' v l := by
  obtain ⟨cells, hr, hin⟩ := h
  have h2 := hr.mono (T := fun k => k < w.heap.size ∧ S k) (fun k hk hS => ⟨hk, hS⟩) (by omega)
  have h3 := h2.same (w' := w') (fun k hk => hs k hk.1 hk.2)
  exact ⟨cells, h3.weak (fun k hk => hk.2), hin.mono (fun c x _ hx => hx.same (fun k hk hS => ⟨hS, hs k hk hS⟩))⟩
section
variable {w wr w' : World} {B h5 h6 base wb eb sb : Nat} {fv v itv v2 v3 : Value} {l : List Item} {ex rs ex3 rs3 : List Ref}
theorem WkIn.below (h : WkIn w B h5 h6 base wb eb sb fv v itv l wr v2 ex rs) (hb : Below wr.heap.size wr w') : WkIn w B h5 h6 base wb eb sb fv v itv l w' v2 ex rs :=
  ⟨h.at'.below hb, h.gr.trans (Grows.of_below hb (S := fun _ => False)) (fun _ _ h => False.elim h), h.own, h.apart, h.lo, ⟨h.ord.1, h.ord.2.1, Nat.le_trans h.ord.2.2 hb.size⟩, h.its.below hb⟩
theorem WkIn.notown (h : WkIn w B h5 h6 base wb eb sb fv v itv l wr v2 ex rs) {k : Nat} (hk : h5 ≤ k ∧ k < h6) : ¬ WkOwn wb eb sb v2 k := by
  have := h.lo
  rintro (e | e | e | e)
  · omega
  · omega
  · omega
  · have := h.apart k e; omega
theorem WkIn.step (h : WkIn w B h5 h6 base wb eb sb fv v itv l wr v2 ex rs) (hr : WkRes base wb eb sb fv v2 ex3 rs3 wr w') : ∃ v3, WkIn w B h5 h6 base wb eb sb fv v itv l w' v3 ex3 rs3 ∧ Grows (WkOwn wb eb sb v2) wr w' := by
  obtain ⟨v3, h1, h2, h3⟩ := hr
  have hz := h.gr.size
  refine ⟨v3, ⟨h1, h.gr.trans h2 (fun i hi ho => ?_), fun k hk => ?_, fun k hk => ?_, h.lo, ⟨h.ord.1, h.ord.2.1, Nat.le_trans h.ord.2.2 h2.size⟩, h.its.same (fun k hk hS => h2.block k hk (h.notown hS))⟩, h2⟩
  · rcases ho with e | e | e | e
    · exact .inl e
    · exact .inr (.inl e)
    · exact .inr (.inr (.inl e))
    · rcases h.own i e with e | e
      · exact .inr (.inr (.inr e))
      · omega
  · rcases h3 k hk with e | e
    · exact h.own k e
    · exact .inr (by omega)
  · rcases h3 k hk with e | e
    · exact h.apart k e
    · have := h.ord; exact .inr (by omega)
end

end Go.Proofs.YtndgmcggckpgfaaDoor
