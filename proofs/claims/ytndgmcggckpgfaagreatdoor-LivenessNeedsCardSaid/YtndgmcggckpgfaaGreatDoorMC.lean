/- Texts of this proof, one after the other: RWkA, RWkB, WalkC, Needs, Pres, RGood, CompP, PathC, Glob, PlainB, RefP, RefA, RefB, RItem, EncA, RNumP. -/
import Derived.Test.YtndgmcggckpgfaaGreatDoorMB
import Derived.Laws.Cover4
/- Contracts of the reference of package manifest: (*Walk).need. -/
namespace Go.Proofs.YtndgmcggckpgfaaGreatDoor
open Go.RowKit


/-- A walk of the reference at block wb: what is expanded, what is listed. -/
structure RkAt (w : World) (base wb eb sb : Nat) (ln : Bool) (v : Value) (ex rs : List Ref) : Prop where
  box : w.heap[wb]? = some (.cells #[v, .map (some sb), .map (some eb), .bool ln] 83 (0, 0))
  exs : SetAt w eb ex
  see : SetAt w sb rs
  row : w.ownsRow base 43 3 v rs.length (rs.flatMap refC)
  ne : eb ≠ sb
section
variable {w w' : World} {base wb eb sb : Nat} {ln : Bool} {v : Value} {ex rs : List Ref}
theorem RkAt.wne (h : RkAt w base wb eb sb ln v ex rs) : wb ≠ eb ∧ wb ≠ sb := ⟨fun e => h.exs.cells (e ▸ h.box), fun e => h.see.cells (e ▸ h.box)⟩
theorem RkAt.own (h : RkAt w base wb eb sb ln v ex rs) {k : Nat} (hk : v.ownBlock = some k) : k ≠ wb ∧ k ≠ eb ∧ k ≠ sb := by
  obtain ⟨cs, hc⟩ := owns_block h.row hk
  refine ⟨fun e => ?_, fun e => ?_, fun e => ?_⟩
  · subst e
    have := hc.symm.trans h.box
    simp at this
  · subst e; exact h.exs.cells hc
  · subst e; exact h.see.cells hc
theorem RkAt.keep (h : RkAt w base wb eb sb ln v ex rs) (hs : ∀ k, k < w.heap.size → WkOwn wb eb sb v k → w'.heap[k]? = w.heap[k]?) : RkAt w' base wb eb sb ln v ex rs := by
  refine ⟨(hs wb (lt_of_block h.box) (.inl rfl)).trans h.box, h.exs.same (hs eb h.exs.map.lt (.inr (.inl rfl))), h.see.same (hs sb h.see.map.lt (.inr (.inr (.inl rfl)))), ?_, h.ne⟩
  obtain ⟨hl, h2⟩ := h.row
  refine ⟨hl, ?_⟩
  rcases h2 with h2 | ⟨g, cap, cur, rfl, hg, hh, h3⟩
  · exact .inl h2
  · exact .inr ⟨g, cap, cur, rfl, hg, (hs g (lt_of_block hh) (.inr (.inr (.inr rfl)))).trans hh, h3⟩
theorem RkAt.below (h : RkAt w base wb eb sb ln v ex rs) (hb : Below w.heap.size w w') : RkAt w' base wb eb sb ln v ex rs := h.keep (fun k hk _ => hb.block k hk)
theorem RkAt.ok (h : RkAt w base wb eb sb ln v ex rs) : ∀ r ∈ rs, RefOk r := h.see.ok
theorem RkAt.shape (h : RkAt w base wb eb sb ln v ex rs) : ∃ a cap, v = .slice a rs.length cap := by
  obtain ⟨a, cap, h1, _⟩ := owns_shape h.row
  exact ⟨a, cap, h1⟩
end
def RkRes (base wb eb sb : Nat) (ln : Bool) (v : Value) (ex rs : List Ref) (w w' : World) : Prop :=
  ∃ v', RkAt w' base wb eb sb ln v' ex rs ∧ Grows (WkOwn wb eb sb v) w w' ∧ ∀ k, v'.ownBlock = some k → v.ownBlock = some k ∨ w.heap.size ≤ k
set_option maxRecDepth 100000 in
set_option maxHeartbeats 2000000 in
theorem need24_any (base wb eb sb : Nat) (ln : Bool) (v : Value) (ex rs : List Ref) (r : Ref) (w : World) (h : RkAt w base wb eb sb ln v ex rs) (hr : RefOk r) (hl : rs.length < 1099511627775) (hbase : base ≤ w.heap.size) :
    Calls Tryz.prog 47 #[.pointer (some ⟨wb, 0, none⟩), refV r] w fun e w' => e = .returned (.tuple #[]) ∧ RkRes base wb eb sb ln v ex (mentionP r rs) w w' := by
  obtain ⟨av, cv, rfl⟩ := h.shape
  obtain ⟨W, hW⟩ : ∃ W : World, W = (w.alloc (.cells #[.string r.name, .int .i64 r.gen, .int .i64 r.size] 43)).drew := ⟨_, rfl⟩
  have hbW : Below w.heap.size w W := by rw [hW]; exact ((Below.refl _ _).alloc (Nat.le_refl _) _).drew
  have HBW := Lib.hid hbW
  have HK := Lib.hid (h.below hbW)
  have bx : W.heap[w.heap.size]? = some (.cells #[.string r.name, .int .i64 r.gen, .int .i64 r.size] 43 (0, 0)) := by rw [hW]; exact heap_alloc_new w _
  have HBX := Lib.hid bx
  have HR := Lib.hid hr
  have HW := Lib.hid hW
  have q0 := cellH (k := 0) bx
  have q1 := cellH (k := 1) bx
  have q2 := cellH (k := 2) bx
  have c2 := cellH (k := 1) HK.out.box
  have hlk := HK.out.see.look hr
  simp only [List.getElem?_toArray, List.getElem?_cons_succ, List.getElem?_cons_zero] at q0 q1 q2 c2
  have hwb : wb < w.heap.size := lt_of_block h.box
  have H0 := Lib.hid h
  unfold refV at hlk ⊢
  clear h hr bx hbW
  by_cases hm : r ∈ rs
  · have e1 : decide (r ∈ rs) = true := by simp [hm]
    have HM := Lib.hid (show mentionP r rs = rs by unfold mentionP; rw [if_pos hm])
    rw [e1] at hlk
    clear e1 hm
    go_enter Tryz.func47, Tryz.ntmps47
    go_wp2_with fail
    refine wp_region_segs [some 7] (by kernel_rfl) (by kernel_rfl) (by kernel_rfl) ?_
    simp only [wpSegs, List.take_succ_cons, List.take_zero]
    rw [← HW.out]
    clear hW
    repeat (first | (refine seg_skip rfl ?_; simp only [Act.put, List.setIfInBounds_toArray, List.set_cons_succ, List.set_cons_zero]) | (refine seg_run rfl (fun K hK => ?_); go_simp; refine hK _ ?_; clear hK K))
    refine seg_nil ?_
    go_wp2_with fail
    go_end0
    exact ⟨rfl, .slice av rs.length cv, by rw [HM.out]; exact HK.out, Grows.of_below HBW.out, fun k hk => .inl hk⟩
  · have e1 : decide (r ∈ rs) = false := by simp [hm]
    have HM := Lib.hid (show mentionP r rs = rs ++ [r] by unfold mentionP; rw [if_neg hm])
    have HNM := Lib.hid hm
    rw [e1] at hlk
    clear e1 hm
    go_enter Tryz.func47, Tryz.ntmps47
    go_wp2_with fail
    refine wp_region_segs [some 7] (by kernel_rfl) (by kernel_rfl) (by kernel_rfl) ?_
    simp only [wpSegs, List.take_succ_cons, List.take_zero]
    rw [← HW.out]
    clear hW
    repeat (first | (refine seg_skip rfl ?_; simp only [Act.put, List.setIfInBounds_toArray, List.set_cons_succ, List.set_cons_zero]) | (refine seg_run rfl (fun K hK => ?_); go_simp; refine hK _ ?_; clear hK K))
    refine seg_nil ?_
    go_wp2_with fail
    refine wp_region_segs [some 5, none] (by kernel_rfl) (by kernel_rfl) (by kernel_rfl) ?_
    simp only [wpSegs, List.take_succ_cons, List.take_zero, List.drop_succ_cons, List.drop_zero]
    have HK1 := Lib.hid (HK.out.below ((Below.refl _ W).drew))
    repeat (first | (refine seg_skip rfl ?_; simp only [Act.put, List.setIfInBounds_toArray, List.set_cons_succ, List.set_cons_zero]) | (refine seg_run rfl (fun K hK => ?_); go_simp; refine hK _ ?_; clear hK K))
    refine seg_nil ?_
    refine bar_run rfl (fun K hK => ?_)
    go_wp2_with (at_mapUpdate; go_must (refine wpList_setadd rfl _ _ _ rfl sb rs HK1.out.see rfl r HR.out rfl rfl HNM.out ?_); intro w2 hset hg2)
    have hsb : sb < w.heap.size := H0.out.see.map.lt
    have heb : eb < w.heap.size := H0.out.exs.map.lt
    have hbs := HBW.out.size
    obtain ⟨W3, hW3⟩ : ∃ W3 : World, W3 = w2.drew := ⟨_, rfl⟩
    have hg3 : W.grownBy W3 (some sb) := by rw [hW3]; exact grown_trans (b := W.drew) ⟨rfl, rfl, rfl, Nat.le_refl _, fun _ _ _ => rfl⟩ (grown_trans hg2 ⟨rfl, rfl, rfl, Nat.le_refl _, fun _ _ _ => rfl⟩)
    have hz3 := hg3.size
    have HSET := Lib.hid (show SetAt W3 sb (rs ++ [r]) by rw [hW3]; exact hset.same rfl)
    have HEX := Lib.hid (HK.out.exs.same (w' := W3) (hg3.block eb HK.out.exs.map.lt (by simp; exact HK.out.ne)))
    have HROW := Lib.hid (HK.out.row.kept hg3 (.inr (fun e => (HK.out.own e).2.2 rfl)))
    have HWB := Lib.hid (keepH hg3 HK.out.box HK.out.wne.2)
    have HRB := Lib.hid (keepH hg3 HBX.out (by omega))
    have HG3 := Lib.hid hg3
    have c3 := cellH (k := 0) HWB.out
    have f3 := frozenH (k := 0) HWB.out
    have r0 := cellH (k := 0) HRB.out
    have r1 := cellH (k := 1) HRB.out
    have r2 := cellH (k := 2) HRB.out
    simp only [List.getElem?_toArray, List.getElem?_cons_succ, List.getElem?_cons_zero] at c3 r0 r1 r2
    clear q0 q1 q2 c2 hlk hset hg2 hg3
    refine hld_begin (fun w' => w'.cell? ⟨wb, 0, none⟩ = some (.slice av rs.length cv) ∧ w'.cell? ⟨w.heap.size, 0, none⟩ = some (.string r.name) ∧ w'.cell? ⟨w.heap.size, 1, none⟩ = some (.int .i64 r.gen) ∧ w'.cell? ⟨w.heap.size, 2, none⟩ = some (.int .i64 r.size)) (by kernel_rfl) (by kernel_rfl) ?_
    simp only [List.dropLast_cons_cons, List.dropLast_singleton, List.length_cons, List.length_nil, Nat.reduceAdd, Nat.reduceSub]
    rw [← hW3]
    clear hW3
    refine hld_take 0 rfl (by kernel_rfl) (by kernel_rfl) (by kernel_rfl) (fun _ _ _ h => h) rfl (by go_simp) (by rintro w' ⟨hw1, hw2, hw3, hw4⟩; go_simp; rfl) ?_
    simp only [Act.put, List.setIfInBounds_toArray, List.set_cons_succ, List.set_cons_zero]
    refine hld_take 1 rfl (by kernel_rfl) (by kernel_rfl) (by kernel_rfl) (fun _ _ _ h => h) rfl (by go_simp) (by rintro w' ⟨hw1, hw2, hw3, hw4⟩; go_simp; rfl) ?_
    simp only [Act.put, List.setIfInBounds_toArray, List.set_cons_succ, List.set_cons_zero]
    refine hld_take 2 rfl (by kernel_rfl) (by kernel_rfl) (by kernel_rfl) (fun _ _ _ h => h) rfl (by go_simp) (by rintro w' ⟨hw1, hw2, hw3, hw4⟩; go_simp; rfl) ?_
    simp only [Act.put, List.setIfInBounds_toArray, List.set_cons_succ, List.set_cons_zero]
    refine hld_take 3 rfl (by kernel_rfl) (by kernel_rfl) (by kernel_rfl) (fun _ _ _ h => h) rfl (by go_simp) (by rintro w' ⟨hw1, hw2, hw3, hw4⟩; go_simp; rfl) ?_
    simp only [Act.put, List.setIfInBounds_toArray, List.set_cons_succ, List.set_cons_zero]
    refine hld_take 4 rfl (by kernel_rfl) (by kernel_rfl) (by kernel_rfl) (fun _ _ _ h => h) rfl (by go_simp) (by rintro w' ⟨hw1, hw2, hw3, hw4⟩; go_simp; rfl) ?_
    simp only [Act.put, List.setIfInBounds_toArray, List.set_cons_succ, List.set_cons_zero]
    refine hld_take 5 rfl (by kernel_rfl) (by kernel_rfl) (by kernel_rfl) (fun _ _ _ h => h) rfl (by go_simp) (by rintro w' ⟨hw1, hw2, hw3, hw4⟩; go_simp; rfl) ?_
    simp only [Act.put, List.setIfInBounds_toArray, List.set_cons_succ, List.set_cons_zero]
    have hltw : wb < W3.heap.size := lt_of_block HWB.out
    have hltr : w.heap.size < W3.heap.size := lt_of_block HRB.out
    have HAL := Lib.hid ((Below.refl W3.heap.size W3).alloc (Nat.le_refl _) (.cells #[.string r.name, .int .i64 r.gen, .int .i64 r.size] 43))
    have hS2 := And.intro ((HAL.out.cell (p := ⟨wb, 0, none⟩) hltw).trans c3) (And.intro ((HAL.out.cell (p := ⟨w.heap.size, 0, none⟩) hltr).trans r0) (And.intro ((HAL.out.cell (p := ⟨w.heap.size, 1, none⟩) hltr).trans r1) ((HAL.out.cell (p := ⟨w.heap.size, 2, none⟩) hltr).trans r2)))
    have HS2 := Lib.hid hS2
    clear hS2
    refine hld_bar 6 rfl (by kernel_rfl) rfl (fun K hK => ?_)
    go_wp2_with fail
    (first | (refine ⟨HS2.out, ?_⟩) | skip)
    refine hld_bar 7 rfl (by kernel_rfl) rfl (fun K hK => ?_)
    go_wp2_with (at_builtin; go_must (refine wpList_app1p Tryz.appRefs rfl _ _ rfl base (.slice av rs.length cv) rs.length (rs.flatMap refC) rfl W3 [.string r.name, .int .i64 r.gen, .int .i64 r.size] _ rfl rfl (refC_one (r := r)) HROW.out (by omega) (by omega) ?_); intro v' wc hown' hgrow' _ hpl; obtain ⟨ae, ce, rfl, -, -⟩ := owns_shape hown')
    have hne : ∀ k, (Value.slice av rs.length cv).ownBlock = some k → k ≠ wb ∧ k ≠ eb ∧ k ≠ sb := fun k hk => H0.out.own hk
    have hner : (Value.slice av rs.length cv).ownBlock ≠ some w.heap.size := fun e => by have := (H0.out.row.lt _ e).2; omega
    have HWB2 := Lib.hid ((hgrow'.block wb hltw (fun e => (hne wb e.symm).1 rfl)).trans HWB.out)
    have HRB2 := Lib.hid ((hgrow'.block w.heap.size hltr (fun e => hner e.symm)).trans HRB.out)
    have HEX2 := Lib.hid (HEX.out.same (hgrow'.block eb HEX.out.map.lt (fun e => (hne eb e.symm).2.1 rfl)))
    have HSET2 := Lib.hid (HSET.out.same (hgrow'.block sb HSET.out.map.lt (fun e => (hne sb e.symm).2.2 rfl)))
    have HGR := Lib.hid hgrow'
    have HPL := Lib.hid hpl
    have HOW := Lib.hid (show wc.ownsRow base 43 3 (.slice ae (rs.length + 1) ce) (rs ++ [r]).length ((rs ++ [r]).flatMap refC) by rw [List.length_append, List.flatMap_append]; simpa [refC] using hown')
    have c4 := cellH (k := 0) HWB2.out
    have f4 := frozenH (k := 0) HWB2.out
    have s0 := cellH (k := 0) HRB2.out
    have s1 := cellH (k := 1) HRB2.out
    have s2 := cellH (k := 2) HRB2.out
    simp only [List.getElem?_toArray, List.getElem?_cons_succ, List.getElem?_cons_zero] at c4 s0 s1 s2
    clear hown' hgrow' hpl c3 f3 r0 r1 r2 hne hner
    refine ⟨⟨c4, s0, s1, s2⟩, ?_⟩
    refine hld_take 8 rfl (by kernel_rfl) (by kernel_rfl) (by kernel_rfl) (fun _ _ _ h => h) rfl (by go_simp) (by rintro w' ⟨hw1, hw2, hw3, hw4⟩; go_simp; rfl) ?_
    simp only [Act.put, List.setIfInBounds_toArray, List.set_cons_succ, List.set_cons_zero]
    refine hld_take 9 rfl (by kernel_rfl) (by kernel_rfl) (by kernel_rfl) (fun _ _ _ h => h) rfl (by go_simp) (by rintro w' ⟨hw1, hw2, hw3, hw4⟩; go_simp; rfl) ?_
    simp only [Act.put, List.setIfInBounds_toArray, List.set_cons_succ, List.set_cons_zero]
    refine hld_done (by kernel_rfl) ?_
    refine last_run rfl rfl (fun K hK => ?_)
    go_wp2_with fail
    go_end0
    refine ⟨rfl, .slice ae (rs.length + 1) ce, ?_, ?_, ?_⟩
    · rw [HM.out]
      have hws := H0.out.wne
      have hx := setH (k := 0) HWB2.out (.slice ae (rs.length + 1) ce)
      simp only [List.setIfInBounds_toArray, List.set_cons_zero] at hx
      refine ⟨hx, HEX2.out.same (Below.heap_setCell _ _ _ _ (Ne.symm hws.1)), HSET2.out.same (Below.heap_setCell _ _ _ _ (Ne.symm hws.2)), HOW.out.kept (grown_set _ _ _ _) (.inr (fun e => ?_)), H0.out.ne⟩
      rcases HPL.out wb e with h1 | h1
      · exact (H0.out.own h1).1 rfl
      · omega
    · refine Grows.trans (Grows.of_below HBW.out) (Grows.trans (S := WkOwn wb eb sb (.slice av rs.length cv)) (Grows.of_grown HG3.out (fun k hk => by cases hk; exact .inr (.inr (.inl rfl)))) (Grows.trans (S := WkOwn wb eb sb (.slice av rs.length cv)) (Grows.of_grown HGR.out (fun k hk => .inr (.inr (.inr hk)))) (Grows.of_grown (S := WkOwn wb eb sb (.slice av rs.length cv)) (grown_set wc wb 0 _) (fun k hk => by cases hk; exact .inl rfl)) (fun i _ h => h)) (fun i _ h => h)) (fun i _ h => h)
    · intro k hk
      rcases HPL.out k hk with h1 | h1
      · exact .inl h1
      · exact .inr (by omega)

end Go.Proofs.YtndgmcggckpgfaaGreatDoor

/- The reference's walk: what stands during the walk over items. -/
namespace Go.Proofs.YtndgmcggckpgfaaGreatDoor
open Go.RowKit

theorem RkAt.notown {w : World} {base wb eb sb : Nat} {ln : Bool} {v : Value} {ex rs : List Ref} (h : RkAt w base wb eb sb ln v ex rs) {k : Nat} {cs : Array Value} {t : TypeId} {z : Nat × Nat} (hb : w.heap[k]? = some (.cells cs t z)) (h1 : t ≠ 83) (h2 : t ≠ 43) : ¬ WkOwn wb eb sb v k := by
  rintro (e | e | e | e)
  · subst e
    have := hb.symm.trans h.box
    simp at this
    exact h1 this.2.1
  · subst e; exact h.exs.cells hb
  · subst e; exact h.see.cells hb
  · obtain ⟨cs', hc⟩ := owns_block h.row e
    have := hb.symm.trans hc
    simp at this
    exact h2 this.2.1
/-- During the walk over the items of a node. -/
structure RkIn (w : World) (B h5 h6 base wb eb sb : Nat) (ln : Bool) (v itv : Value) (l : List Item) (wr : World) (v2 : Value) (ex rs : List Ref) : Prop where
  at' : RkAt wr base wb eb sb ln v2 ex rs
  gr : Grows (WkOwn wb eb sb v) w wr
  own : ∀ k, v2.ownBlock = some k → v.ownBlock = some k ∨ w.heap.size ≤ k
  apart : ∀ k, v2.ownBlock = some k → k < h5 ∨ h6 ≤ k
  lo : wb < h5 ∧ eb < h5 ∧ sb < h5
  ord : w.heap.size ≤ h5 ∧ h5 ≤ h6 ∧ h6 ≤ wr.heap.size
  its : ItemsAt (fun k => h5 ≤ k ∧ k < h6) wr itv l
section
variable {w wr w' : World} {B h5 h6 base wb eb sb : Nat} {ln : Bool} {v itv v2 v3 : Value} {l : List Item} {ex rs ex3 rs3 : List Ref}
theorem RkIn.below (h : RkIn w B h5 h6 base wb eb sb ln v itv l wr v2 ex rs) (hb : Below wr.heap.size wr w') : RkIn w B h5 h6 base wb eb sb ln v itv l w' v2 ex rs :=
  ⟨h.at'.below hb, h.gr.trans (Grows.of_below hb (S := fun _ => False)) (fun _ _ h => False.elim h), h.own, h.apart, h.lo, ⟨h.ord.1, h.ord.2.1, Nat.le_trans h.ord.2.2 hb.size⟩, h.its.below hb⟩
theorem RkIn.notown (h : RkIn w B h5 h6 base wb eb sb ln v itv l wr v2 ex rs) {k : Nat} (hk : h5 ≤ k ∧ k < h6) : ¬ WkOwn wb eb sb v2 k := by
  have := h.lo
  rintro (e | e | e | e)
  · omega
  · omega
  · omega
  · have := h.apart k e; omega
theorem RkIn.step (h : RkIn w B h5 h6 base wb eb sb ln v itv l wr v2 ex rs) (hr : RkRes base wb eb sb ln v2 ex3 rs3 wr w') : ∃ v3, RkIn w B h5 h6 base wb eb sb ln v itv l w' v3 ex3 rs3 ∧ Grows (WkOwn wb eb sb v2) wr w' := by
  obtain ⟨v3, h1, h2, h3⟩ := hr
  have hz := h.gr.size
  refine ⟨v3, ⟨h1, h.gr.trans h2 (fun i hi ho => ?_), fun k hk => ?_, fun k hk => ?_, h.lo, ⟨h.ord.1, h.ord.2.1, Nat.le_trans h.ord.2.2 h2.size⟩, h.its.same (fun k hk hS => h2.block k hk (h.notown hS))⟩, h2⟩
  · rcases ho with e | e | e | e
    · exact .inl e
    · exact .inr (.inl e)
    · exact .inr (.inr (.inl e))
    · rcases h.own i e with e | e
      · exact .inr (.inr (.inr e))
      · omega
  · rcases h3 k hk with e | e
    · exact h.own k e
    · exact .inr (by omega)
  · rcases h3 k hk with e | e
    · exact h.apart k e
    · have := h.ord; exact .inr (by omega)
end

end Go.Proofs.YtndgmcggckpgfaaGreatDoor

/- Contracts of package manifest: walker.walk. -/
namespace Go.Proofs.YtndgmcggckpgfaaGreatDoor
open Go.RowKit


def WalkC (visit : Ref → Except Int (List Item)) (F : Nat) (cv : Value) (I : World → Prop) (B n : Nat) : Prop := ∀ (r : Ref) (st : List Ref × List Ref) (x : Int) (st' : List Ref × List Ref) (base wb eb sb : Nat) (v : Value) (w : World), walkP visit n r st = some (x, st') → st'.2.length < 1099511627775 →
  WkAt w base wb eb sb (.func (.func F) #[cv] #[]) v st.1 st.2 → RefOk r → I w → (B ≤ base ∧ B ≤ wb ∧ B ≤ eb ∧ B ≤ sb) → base ≤ w.heap.size →
  Calls Tryz.prog 50 #[.pointer (some ⟨wb, 0, none⟩), refV r] w fun e w' => e = .returned (.int .i64 x) ∧ WkRes base wb eb sb (.func (.func F) #[cv] #[]) v st'.1 st'.2 w w'
def VisC (visit : Ref → Except Int (List Item)) (F : Nat) (cv : Value) (I : World → Prop) : Prop := ∀ (W : World) (r : Ref), I W → RefOk r → Calls Tryz.prog F #[cv, refV r] W (VisRes (visit r) W)
def KeepI (I : World → Prop) (B : Nat) : Prop := ∀ w w' : World, I w → Grows (B ≤ ·) w w' → I w'
theorem own_ge {B base wb eb sb : Nat} {w : World} {fv v : Value} {ex rs : List Ref} (h : WkAt w base wb eb sb fv v ex rs) (hB : B ≤ base ∧ B ≤ wb ∧ B ≤ eb ∧ B ≤ sb) {k : Nat} (hk : WkOwn wb eb sb v k) : B ≤ k := by
  rcases hk with e | e | e | e
  · omega
  · omega
  · omega
  · have := (h.row.lt k e).1; omega
theorem grows_mono {S T : Nat → Prop} {w w' : World} (h : Grows S w w') (hs : ∀ k, S k → T k) : Grows T w w' := ⟨h.os, h.tape, h.output, h.size, fun k hk hn => h.block k hk (fun hS => hn (hs k hS))⟩
theorem ItemsAt.lt {S : Nat → Prop} {w : World} {v : Value} {l : List Item} (h : ItemsAt S w v l) : ItemsAt (fun k => S k ∧ k < w.heap.size) w v l := by
  obtain ⟨cells, hr, hin⟩ := h
  exact ⟨cells, hr.mono (fun k hk hS => ⟨hS, hk⟩) (by omega), hin.mono (fun c x _ hx => hx.same (fun k hk hS => ⟨⟨hS, hk⟩, rfl⟩))⟩
theorem overW_cons {f : Ref → List Ref × List Ref → Option (Int × (List Ref × List Ref))} {it : Item} {l : List Item} {ex rs : List Ref} {q : Int × (List Ref × List Ref)} (h : overW f (it :: l) (ex, rs) = some q) :
    (it.kind ≠ 2 ∧ overW f l (ex, menAll it.chunks rs) = some q) ∨ (it.kind = 2 ∧ ∃ y st2, f it.node (ex, menAll it.chunks rs) = some (y, st2) ∧ ((y ≠ 0 ∧ q = (y, st2)) ∨ (y = 0 ∧ overW f l st2 = some q))) := by
  rw [overW] at h
  split at h
  · rename_i hk
    exact .inl ⟨hk, h⟩
  · rename_i hk
    rw [Option.bind_eq_some_iff] at h
    obtain ⟨⟨y, st2⟩, h1, h2⟩ := h
    refine .inr ⟨Decidable.not_not.1 hk, y, st2, h1, ?_⟩
    simp only at h2
    split at h2
    · rename_i hy
      exact .inl ⟨hy, (Option.some.inj h2).symm⟩
    · rename_i hy
      exact .inr ⟨Decidable.not_not.1 hy, h2⟩
theorem overW_men {visit : Ref → Except Int (List Item)} {n : Nat} {it : Item} {l : List Item} {ex rs : List Ref} {x : Int} {st' : List Ref × List Ref} (h : overW (walkP visit n) (it :: l) (ex, rs) = some (x, st')) : (menAll it.chunks rs).length ≤ st'.2.length := by
  rcases overW_cons h with ⟨_, h2⟩ | ⟨_, y, st2, h1, h2⟩
  · exact overW_le (walkP_le visit n) l _ x st' h2
  · have h3 := walkP_le visit n _ _ _ _ h1
    rcases h2 with ⟨_, h2⟩ | ⟨_, h2⟩
    · obtain ⟨_, rfl⟩ := Prod.mk.inj h2
      exact h3
    · exact Nat.le_trans h3 (overW_le (walkP_le visit n) l _ x st' h2)
set_option maxRecDepth 100000 in
set_option maxHeartbeats 4000000 in
theorem walkN_step (visit : Ref → Except Int (List Item)) (cv : Value) (I : World → Prop) (B n : Nat) (hI : KeepI I B) (hV : VisC visit 46 cv I) (IH : WalkC visit 46 cv I B n) : WalkC visit 46 cv I B (n + 1) := by
  intro r st x st' base wb eb sb v w hw hlen h hr hi hB hbase
  have HI := Lib.hid hI
  have HV := Lib.hid hV
  have HIH := Lib.hid IH
  have HB := Lib.hid hB
  have HR := Lib.hid hr
  have H := Lib.hid h
  have HIW := Lib.hid hi
  have HLEN := Lib.hid hlen
  have HWP := Lib.hid hw
  have hmen : (mentionP r st.2).length ≤ st'.2.length := by
    rw [walkP] at hw
    split at hw
    · simp only [Option.some.injEq, Prod.mk.injEq] at hw
      obtain ⟨_, rfl⟩ := hw
      exact Nat.le_refl _
    · split at hw
      · simp only [Option.some.injEq, Prod.mk.injEq] at hw
        obtain ⟨_, rfl⟩ := hw
        exact Nat.le_refl _
      · exact overW_le (walkP_le visit n) _ _ x st' hw
  have hml := mentionP_le r st.2
  have HB0 := Lib.hid ((Below.refl w.heap.size w).alloc (Nat.le_refl _) (.cells #[.string r.name, .int .i64 r.gen, .int .i64 r.size] 43))
  have HK0 := Lib.hid (h.below HB0.out)
  have HBX0 := Lib.hid (heap_alloc_new w (.cells #[.string r.name, .int .i64 r.gen, .int .i64 r.size] 43))
  have hwb : wb < w.heap.size := lt_of_block h.box
  unfold refV
  clear hw h hr hi hI hV IH hB
  go_enter Tryz.func50, Tryz.ntmps50
  go_wp2_with fail
  refine (mention_any base wb eb sb _ v st.1 st.2 r _ HK0.out HR.out (by omega) (by simp; omega)).mono ?_
  rintro e w1 ⟨rfl, v1, hk1, hg1, ho1⟩
  have HK1 := Lib.hid hk1
  have HBX1 := Lib.hid (show w1.heap[w.heap.size]? = some (.cells #[.string r.name, .int .i64 r.gen, .int .i64 r.size] 43 (0, 0)) from (hg1.block w.heap.size (by simp) (fun ho => by
    rcases ho with e | e | e | e
    · omega
    · have := H.out.exs.map.lt; omega
    · have := H.out.see.map.lt; omega
    · have := (H.out.row.lt _ e).2; omega)).trans HBX0.out)
  have hz1 := hg1.size
  simp at hz1
  have HG1 := Lib.hid (show Grows (WkOwn wb eb sb v) w w1 from (Grows.of_below HB0.out (S := WkOwn wb eb sb v)).trans hg1 (fun _ _ h => h))
  have HO1 := Lib.hid (show ∀ k, v1.ownBlock = some k → v.ownBlock = some k ∨ w.heap.size ≤ k from fun k hk => by
    rcases ho1 k hk with e | e
    · exact .inl e
    · simp at e; exact .inr (by omega))
  clear hk1 hg1 ho1 HK0 HBX0
  have c1 := cellH (k := 1) HK1.out.box
  have q0 := cellH (k := 0) HBX1.out
  have q1 := cellH (k := 1) HBX1.out
  have q2 := cellH (k := 2) HBX1.out
  simp only [List.getElem?_toArray, List.getElem?_cons_succ, List.getElem?_cons_zero] at c1 q0 q1 q2
  go_wp2_with fail
  refine wp_region_segs [some 6] (by kernel_rfl) (by kernel_rfl) (by kernel_rfl) ?_
  simp only [wpSegs, List.take_succ_cons, List.take_zero]
  obtain ⟨W1, hW1⟩ : ∃ W1 : World, W1 = w1.drew := ⟨_, rfl⟩
  rw [← hW1]
  have hbw1 : Below w1.heap.size w1 W1 := by rw [hW1]; exact (Below.refl _ _).drew
  have HK2 := Lib.hid (HK1.out.below hbw1)
  have HBX2 := Lib.hid ((hbw1.block w.heap.size (by omega)).trans HBX1.out)
  have HG2 := Lib.hid (HG1.out.trans (Grows.of_below hbw1 (S := fun _ => False)) (fun _ _ h => False.elim h))
  have hz2 := hbw1.size
  clear hbw1 HK1 HBX1 HG1 c1 q0 q1 q2
  have c1 := cellH (k := 1) HK2.out.box
  have q0 := cellH (k := 0) HBX2.out
  have q1 := cellH (k := 1) HBX2.out
  have q2 := cellH (k := 2) HBX2.out
  have hlk := HK2.out.exs.look HR.out
  unfold refV at hlk
  simp only [List.getElem?_toArray, List.getElem?_cons_succ, List.getElem?_cons_zero] at c1 q0 q1 q2
  clear hW1
  by_cases hm : r ∈ st.1
  · have e1 : decide (r ∈ st.1) = true := by simp [hm]
    rw [e1] at hlk
    have HRES := Lib.hid (show (x, st') = (0, (st.1, mentionP r st.2)) by have := HWP.out; rw [walkP, if_pos hm] at this; exact (Option.some.inj this).symm)
    clear e1 hm
    repeat (first | (refine seg_skip rfl ?_; simp only [Act.put, List.setIfInBounds_toArray, List.set_cons_succ, List.set_cons_zero]) | (refine seg_run rfl (fun K hK => ?_); go_simp; refine hK _ ?_; clear hK K))
    refine seg_nil ?_
    go_wp2_with fail
    go_ret
    obtain ⟨e1, e2⟩ := Prod.mk.inj HRES.out
    exact ⟨ret_int e1.symm, v1, by rw [e2]; exact HK2.out, HG2.out, HO1.out⟩
  · have e1 : decide (r ∈ st.1) = false := by simp [hm]
    rw [e1] at hlk
    have HNM := Lib.hid hm
    have HWQ := Lib.hid (show (match visit r with | .error x => some (x, (st.1 ++ [r], mentionP r st.2)) | .ok l => overW (walkP visit n) l (st.1 ++ [r], mentionP r st.2)) = some (x, st') by have := HWP.out; rw [walkP, if_neg hm] at this; exact this)
    clear e1 hm HWP
    repeat (first | (refine seg_skip rfl ?_; simp only [Act.put, List.setIfInBounds_toArray, List.set_cons_succ, List.set_cons_zero]) | (refine seg_run rfl (fun K hK => ?_); go_simp; refine hK _ ?_; clear hK K))
    refine seg_nil ?_
    go_wp2_with fail
    refine wp_region_segs [some 5, none] (by kernel_rfl) (by kernel_rfl) (by kernel_rfl) ?_
    simp only [wpSegs, List.take_succ_cons, List.take_zero, List.drop_succ_cons, List.drop_zero]
    repeat (first | (refine seg_skip rfl ?_; simp only [Act.put, List.setIfInBounds_toArray, List.set_cons_succ, List.set_cons_zero]) | (refine seg_run rfl (fun K hK => ?_); go_simp; refine hK _ ?_; clear hK K))
    refine seg_nil ?_
    refine bar_run rfl (fun K hK => ?_)
    have HKd := Lib.hid (HK2.out.below ((Below.refl _ W1).drew))
    go_wp2_with (at_mapUpdate; go_must (refine wpList_setadd rfl _ _ _ rfl eb st.1 HKd.out.exs rfl r HR.out rfl rfl HNM.out ?_); intro w2 hset hg2)
    have heb : eb < w.heap.size := H.out.exs.map.lt
    have hsb : sb < w.heap.size := H.out.see.map.lt
    have hne1 := H.out.wne
    have hne2 := H.out.ne
    refine wp_region_segs [some 5, none, some 5] (by kernel_rfl) (by kernel_rfl) (by kernel_rfl) ?_
    simp only [wpSegs, List.take_succ_cons, List.take_zero, List.drop_succ_cons, List.drop_zero]
    obtain ⟨W2, hW2⟩ : ∃ W2 : World, W2 = w2.drew := ⟨_, rfl⟩
    rw [← hW2]
    have hg3 : W1.grownBy W2 (some eb) := by rw [hW2]; exact grown_trans (b := W1.drew) ⟨rfl, rfl, rfl, Nat.le_refl _, fun _ _ _ => rfl⟩ (grown_trans hg2 ⟨rfl, rfl, rfl, Nat.le_refl _, fun _ _ _ => rfl⟩)
    have hset3 : SetAt W2 eb (st.1 ++ [r]) := by rw [hW2]; exact hset.same rfl
    have HK3 := Lib.hid (show WkAt W2 base wb eb sb (.func (.func 46) #[cv] #[]) v1 (st.1 ++ [r]) (mentionP r st.2) from ⟨keepH hg3 HK2.out.box hne1.1, hset3, HK2.out.see.same (hg3.block sb HK2.out.see.map.lt (by simp; exact Ne.symm hne2)), HK2.out.row.kept hg3 (.inr (fun e => (HK2.out.own e).2.1 rfl)), hne2⟩)
    have HBX3 := Lib.hid (keepH hg3 HBX2.out (by omega))
    have HG3 := Lib.hid (show Grows (WkOwn wb eb sb v) w W2 from HG2.out.trans (Grows.of_grown (S := fun k => k = eb) hg3 (fun k hk => by cases hk; rfl)) (fun i _ h => .inr (.inl h)))
    have hz3 := hg3.size
    have HI3 := Lib.hid (HI.out w W2 HIW.out (grows_mono HG3.out (fun k hk => own_ge H.out HB.out hk)))
    clear hW2 hg3 hset3 hset hg2 HKd HK2 HBX2 HG2 c1 q0 q1 q2 hlk
    have c0 := cellH (k := 0) HK3.out.box
    have q0 := cellH (k := 0) HBX3.out
    have q1 := cellH (k := 1) HBX3.out
    have q2 := cellH (k := 2) HBX3.out
    simp only [List.getElem?_toArray, List.getElem?_cons_succ, List.getElem?_cons_zero] at c0 q0 q1 q2
    repeat (first | (refine seg_skip rfl ?_; simp only [Act.put, List.setIfInBounds_toArray, List.set_cons_succ, List.set_cons_zero]) | (refine seg_run rfl (fun K hK => ?_); go_simp; refine hK _ ?_; clear hK K))
    refine seg_nil ?_
    refine bar_run rfl (fun K hK => ?_)
    go_wp2_with fail
    refine (HV.out W2 r HI3.out HR.out).mono ?_
    rintro e w3 ⟨hb3, hres⟩
    have HK4 := Lib.hid (HK3.out.below hb3)
    have HG4 := Lib.hid (HG3.out.trans (Grows.of_below hb3 (S := fun _ => False)) (fun _ _ h => False.elim h))
    have HB3 := Lib.hid hb3
    have hz4 := hb3.size
    clear hb3 c0 q0 q1 q2
    cases hvr : visit r with
    | error y =>
      rw [hvr] at hres
      obtain ⟨rfl, hy⟩ := hres
      have HRES := Lib.hid (show (x, st') = (y, (st.1 ++ [r], mentionP r st.2)) by have := HWQ.out; rw [hvr] at this; exact (Option.some.inj this).symm)
      have e1 : (y != 0) = true := by simp [hy]
      clear hvr hy
      go_wp2_with fail
      repeat (first | (refine seg_skip rfl ?_; simp only [Act.put, List.setIfInBounds_toArray, List.set_cons_succ, List.set_cons_zero]) | (refine seg_run rfl (fun K hK => ?_); go_simp; refine hK _ ?_; clear hK K))
      refine seg_nil ?_
      go_wp2_with fail
      go_ret
      obtain ⟨e1, e2⟩ := Prod.mk.inj HRES.out
      exact ⟨ret_int e1.symm, v1, by rw [e2]; exact HK4.out, HG4.out, HO1.out⟩
    | ok l =>
      rw [hvr] at hres
      obtain ⟨itv, rfl, hits⟩ := hres
      have HOV := Lib.hid (show overW (walkP visit n) l (st.1 ++ [r], mentionP r st.2) = some (x, st') by have := HWQ.out; rw [hvr] at this; exact this)
      obtain ⟨ia, ic, rfl, hil, him, -⟩ := SeqAt.shape hits ItemR.len
      unfold maxLen at him
      have HIN := Lib.hid (show WkIn w B W2.heap.size w3.heap.size base wb eb sb (.func (.func 46) #[cv] #[]) v (.slice ia l.length ic) l w3 v1 (st.1 ++ [r]) (mentionP r st.2) from
        ⟨HK4.out, HG4.out, HO1.out, fun k hk => .inl (HK3.out.row.lt k hk).2, ⟨by omega, by omega, by omega⟩, ⟨by omega, hz4, Nat.le_refl _⟩, ItemsAt.lt hits⟩)
      clear hvr hits HWQ HK3 HK4 HG3 HG4 HBX3
      go_wp2_with fail
      repeat (first | (refine seg_skip rfl ?_; simp only [Act.put, List.setIfInBounds_toArray, List.set_cons_succ, List.set_cons_zero]) | (refine seg_run rfl (fun K hK => ?_); go_simp; refine hK _ ?_; clear hK K))
      refine seg_nil ?_
      go_wp2_with fail
      go_loopw [40] (fun i wr => ∃ (k : Nat) (v2 : Value) (ex2 rs2 : List Ref), k ≤ l.length ∧ i = .int .i64 k ∧ overW (walkP visit n) (l.drop k) (ex2, rs2) = some (x, st') ∧ WkIn w B W2.heap.size w3.heap.size base wb eb sb (.func (.func 46) #[cv] #[]) v (.slice ia l.length ic) l wr v2 ex2 rs2) (fun i _ => l.length - (intOf i).toNat)
      case atStart => exact ⟨0, v1, _, _, Nat.zero_le _, rfl, HOV.out, HIN.out⟩
      case round =>
        obtain ⟨k, v2, ex2, rs2, hk, rfl, hov, hin⟩ := hrel
        have HV2 := Lib.hid hov
        have HN2 := Lib.hid hin
        clear hov hin
        by_cases hlt : k < l.length
        · obtain ⟨it, hr2⟩ : ∃ it, l[k]? = some it := ⟨l[k], by simp [hlt]⟩
          obtain ⟨b, o, ca, cc, rfl, hok, hrf, -, -, hcl⟩ := items_at HN2.out.its (Below.refl _ _) hr2
          have HOV2 := Lib.hid (show overW (walkP visit n) (it :: l.drop (k + 1)) (ex2, rs2) = some (x, st') by
            obtain ⟨hk', rfl⟩ := List.getElem?_eq_some_iff.1 hr2
            rw [← List.drop_eq_getElem_cons hk']; exact HV2.out)
          have hmb := overW_men HOV2.out
          have HOK := Lib.hid hok
          have q0 := hcl 0 (by omega)
          have q1 := hcl 1 (by omega)
          have q2 := hcl 2 (by omega)
          have q3 := hcl 3 (by omega)
          have q4 := hcl 4 (by omega)
          have q5 := hcl 5 (by omega)
          have q6 := hcl 6 (by omega)
          have q7 := hcl 7 (by omega)
          have q8 := hcl 8 (by omega)
          have q9 := hcl 9 (by omega)
          simp only [itemC, List.getElem?_cons_zero, List.getElem?_cons_succ, Nat.add_zero] at q0 q1 q2 q3 q4 q5 q6 q7 q8 q9
          obtain ⟨wo, hwo⟩ : ∃ wo : World, wo = wr := ⟨_, rfl⟩
          subst hwo
          have HAL := Lib.hid ((Below.refl wo.heap.size wo).alloc (Nat.le_refl _) (.cells #[.string it.name, .int .i64 it.kind, .int .i64 it.mode, .int .i64 it.time, .int .i64 it.size, .string it.link, .slice ca it.chunks.length cc, .string it.node.name, .int .i64 it.node.gen, .int .i64 it.node.size] 76))
          have HN3 := Lib.hid (HN2.out.below HAL.out)
          have HRF := Lib.hid (show RefsAt (fun k => W2.heap.size ≤ k ∧ k < w3.heap.size) _ (.slice ca it.chunks.length cc) it.chunks from SeqAt.below hrf (by omega) HAL.out (fun _ _ _ h => h))
          obtain ⟨a', cap', hv', hcl1, hcl2, -⟩ := SeqAt.shape hrf RefR.len
          cases hv'
          unfold maxLen at hcl2
          clear hr2 hok hrf hcl
          have HBX5 := Lib.hid (heap_alloc_new wo (.cells #[.string it.name, .int .i64 it.kind, .int .i64 it.mode, .int .i64 it.time, .int .i64 it.size, .string it.link, .slice ca it.chunks.length cc, .string it.node.name, .int .i64 it.node.gen, .int .i64 it.node.size] 76))
          go_wp2_with fail
          clear q0 q1 q2 q3 q4 q5 q6 q7 q8 q9
          go_loopw [47] (fun i wq => ∃ (j : Nat) (v3 : Value), j ≤ it.chunks.length ∧ i = .int .i64 j ∧ WkIn w B W2.heap.size w3.heap.size base wb eb sb (.func (.func 46) #[cv] #[]) v (.slice (some ⟨b, o, none⟩) l.length ic) l wq v3 ex2 (menAll (it.chunks.take j) rs2) ∧ RefsAt (fun k => W2.heap.size ≤ k ∧ k < w3.heap.size) wq (.slice ca it.chunks.length cc) it.chunks ∧ wq.heap[wo.heap.size]? = some (.cells #[.string it.name, .int .i64 it.kind, .int .i64 it.mode, .int .i64 it.time, .int .i64 it.size, .string it.link, .slice ca it.chunks.length cc, .string it.node.name, .int .i64 it.node.gen, .int .i64 it.node.size] 76 (0, 0))) (fun i _ => it.chunks.length - (intOf i).toNat)
          case atStart => exact ⟨0, v2, Nat.zero_le _, rfl, HN3.out, HRF.out, HBX5.out⟩
          case round =>
            obtain ⟨j, v3, hj, rfl, hin3, hrf3, hbx3⟩ := hrel
            have HN4 := Lib.hid hin3
            have HRF4 := Lib.hid hrf3
            have HBX6 := Lib.hid hbx3
            clear hin3 hrf3 hbx3 HN3 HRF HBX5 HAL
            by_cases hlt2 : j < it.chunks.length
            · obtain ⟨c, hc⟩ : ∃ c, it.chunks[j]? = some c := ⟨it.chunks[j], by simp [hlt2]⟩
              obtain ⟨b2, o2, rfl, hcok, p0, p1, p2⟩ := refs_at HRF4.out (Below.refl _ _) hc
              have HCO := Lib.hid hcok
              have HSN := Lib.hid (show menAll (it.chunks.take (j + 1)) rs2 = mentionP c (menAll (it.chunks.take j) rs2) by rw [take_snoc' hc, menAll_snoc])
              have hjl := menAll_take_le it.chunks rs2 j
              have HAL2 := Lib.hid ((Below.refl wr.heap.size wr).alloc (Nat.le_refl _) (.cells #[.string c.name, .int .i64 c.gen, .int .i64 c.size] 43))
              have HN5 := Lib.hid (HN4.out.below HAL2.out)
              have hbz : base ≤ (wr.alloc (.cells #[.string c.name, .int .i64 c.gen, .int .i64 c.size] 43)).heap.size := Nat.le_trans hbase (Nat.le_trans HN4.out.gr.size HAL2.out.size)
              have HBZ := Lib.hid hbz
              clear hc hcok hbz
              go_wp2_with fail
              refine (mention_any base wb eb sb _ v3 ex2 _ c _ HN5.out.at' HCO.out (by omega) HBZ.out).mono ?_
              rintro e w4 ⟨rfl, hres⟩
              obtain ⟨v4, hin4, hg4⟩ := HN5.out.step hres
              have HN6 := Lib.hid hin4
              have hzz := HAL2.out.size
              have HRF6 := Lib.hid (show RefsAt (fun k => W2.heap.size ≤ k ∧ k < w3.heap.size) w4 (.slice (some ⟨b2, o2, none⟩) it.chunks.length cc) it.chunks from RefsAt.same HRF4.out (fun k hk hS => ⟨hS, (hg4.block k (Nat.lt_of_lt_of_le hk hzz) (HN5.out.notown hS)).trans (HAL2.out.block k hk)⟩))
              have hbk := allocH HBX6.out (.cells #[.string c.name, .int .i64 c.gen, .int .i64 c.size] 43)
              have HBX7 := Lib.hid ((hg4.block wo.heap.size ((Array.getElem?_eq_some_iff.1 hbk).1) (HN5.out.at'.notown hbk (by decide) (by decide))).trans hbk)
              clear hres hin4 hg4 hbk p0 p1 p2
              go_wp2_with fail
              go_roundw
              case rel => exact ⟨j + 1, v4, by omega, by go_num, by rw [HSN.out]; exact HN6.out, HRF6.out, HBX7.out⟩
              case measure => simp [intOf]; omega
            · obtain rfl : j = it.chunks.length := by omega
              rw [List.take_of_length_le (Nat.le_refl _)] at HN4
              have c1 := cellH (k := 1) HBX6.out
              have c7 := cellH (k := 7) HBX6.out
              have c8 := cellH (k := 8) HBX6.out
              have c9 := cellH (k := 9) HBX6.out
              simp only [List.getElem?_toArray, List.getElem?_cons_succ, List.getElem?_cons_zero] at c1 c7 c8 c9
              rcases overW_cons HOV2.out with ⟨hk2, h2⟩ | ⟨hk2, y, st2, h1, h2⟩
              · have e2 : (it.kind != 2) = true := by simp [hk2]
                have H2 := Lib.hid h2
                clear hk2 h2
                go_wp2_with fail
                go_roundw
                case rel => exact ⟨k + 1, v3, _, _, by omega, by go_num, H2.out, HN4.out⟩
                case measure => simp [intOf]; omega
              · have e2 : (it.kind != 2) = false := by simp [hk2]
                have H1 := Lib.hid h1
                have H2 := Lib.hid h2
                have hle2 : st2.2.length ≤ st'.2.length := by
                  rcases h2 with ⟨_, h2⟩ | ⟨_, h2⟩
                  · obtain ⟨_, rfl⟩ := Prod.mk.inj h2
                    exact Nat.le_refl _
                  · exact overW_le (walkP_le visit n) _ _ x st' h2
                have HI4 := Lib.hid (HI.out w wr HIW.out (grows_mono HN4.out.gr (fun k hk => own_ge H.out HB.out hk)))
                have HBZ := Lib.hid (Nat.le_trans hbase HN4.out.gr.size)
                clear hk2 h1 h2
                go_wp2_with fail
                refine (HIH.out it.node (ex2, menAll it.chunks rs2) y st2 base wb eb sb v3 wr H1.out (by omega) HN4.out.at' HOK.out.nd HI4.out HB.out HBZ.out).mono ?_
                rintro e w4 ⟨rfl, hres⟩
                obtain ⟨v4, hin4, -⟩ := HN4.out.step hres
                have HN6 := Lib.hid hin4
                clear hres hin4 c1 c7 c8 c9
                rcases H2.out with ⟨hy, h2⟩ | ⟨hy, h2⟩
                · have e3 : (y != 0) = true := by simp [hy]
                  have HRES := Lib.hid h2
                  clear hy h2
                  go_wp2_with fail
                  go_ret
                  obtain ⟨e1, e2⟩ := Prod.mk.inj HRES.out
                  exact ⟨ret_int e1.symm, v4, by rw [e2]; exact HN6.out.at', HN6.out.gr, HN6.out.own⟩
                · subst hy
                  have H3 := Lib.hid h2
                  clear h2
                  go_wp2_with fail
                  go_roundw
                  case rel => exact ⟨k + 1, v4, st2.1, st2.2, by omega, by go_num, H3.out, HN6.out⟩
                  case measure => simp [intOf]; omega
        · obtain rfl : k = l.length := by omega
          have HRES := Lib.hid (show (x, st') = (0, (ex2, rs2)) by have := HV2.out; rw [List.drop_of_length_le (Nat.le_refl _)] at this; exact (Option.some.inj this).symm)
          go_wp2_with fail
          go_ret
          obtain ⟨e1, e2⟩ := Prod.mk.inj HRES.out
          exact ⟨ret_int e1.symm, v2, by rw [e2]; exact HN2.out.at', HN2.out.gr, HN2.out.own⟩
theorem walkN_any (visit : Ref → Except Int (List Item)) (cv : Value) (I : World → Prop) (B : Nat) (hI : KeepI I B) (hV : VisC visit 46 cv I) : ∀ n, WalkC visit 46 cv I B n
  | 0 => by intro r st x st' base wb eb sb v w hw; simp [walkP] at hw
  | n + 1 => walkN_step visit cv I B n hI hV (walkN_any visit cv I B hI hV n)

end Go.Proofs.YtndgmcggckpgfaaGreatDoor

/- Contracts of package manifest: needs, Refs. -/
namespace Go.Proofs.YtndgmcggckpgfaaGreatDoor
open Go.RowKit

def needP (visit : Ref → Except Int (List Item)) (n : Nat) (root : Ref) : Option (Except Int (List Ref)) :=
  if vRef root = true then (walkP visit n root ([], [])).map fun p => if p.1 = 0 then .ok p.2.2 else .error p.1 else some (.error 1)
def NeedRes (res : Except Int (List Ref)) (w : World) (e : Ending) (w' : World) : Prop := Below w.heap.size w w' ∧ match res with
  | .error x => e = .returned (.tuple #[.slice none 0 0, .int .i64 x]) ∧ x ≠ 0
  | .ok rs => ∃ v, e = .returned (.tuple #[v, .int .i64 0]) ∧ RefsAt (w.heap.size ≤ ·) w' v rs
theorem wk_start {w : World} {B : Nat} {fv : Value} : WkAt (((w.alloc (.map #[] 0)).alloc (.map #[] 0)).alloc (.cells #[fv, .map (some w.heap.size), .map (some (w.heap.size + 1)), .slice none 0 0] 102)) B (w.heap.size + 1 + 1) w.heap.size (w.heap.size + 1) fv (.slice none 0 0) [] [] := by
  have e1 : (w.alloc (.map #[] 0)).heap.size = w.heap.size + 1 := by simp
  have e2 : ((w.alloc (.map #[] 0)).alloc (.map #[] 0)).heap.size = w.heap.size + 1 + 1 := by simp
  have h1 := SetAt.made w
  have h2 := SetAt.made (w.alloc (.map #[] 0))
  rw [e1] at h2
  have h3 := heap_alloc_new ((w.alloc (.map #[] 0)).alloc (.map #[] 0)) (.cells #[fv, .map (some w.heap.size), .map (some (w.heap.size + 1)), .slice none 0 0] 102)
  rw [e2] at h3
  refine ⟨h3, ?_, h2.same (Below.heap_alloc _ _ _ (by rw [e2]; omega)), World.ownsRow_nil _ _ _ _, by omega⟩
  exact h1.same ((Below.heap_alloc _ _ _ (by rw [e2]; omega)).trans (Below.heap_alloc _ _ _ (by rw [e1]; omega)))
set_option maxRecDepth 100000 in
set_option maxHeartbeats 2000000 in
theorem needsN_any (visit : Ref → Except Int (List Item)) (cv : Value) (I : World → Prop) (n : Nat) (root : Ref) (res : Except Int (List Ref)) (w : World) (hI : KeepI I w.heap.size) (hV : VisC visit 46 cv I) (hi : I w) (hr : RefOk root)
    (hn : needP visit n root = some res) (hl : ∀ p, walkP visit n root ([], []) = some p → p.2.2.length < 1099511627775) :
    Calls Tryz.prog 41 #[refV root, .func (.func 46) #[cv] #[]] w (NeedRes res w) := by
  have HI := Lib.hid hI
  have HV := Lib.hid hV
  have HIW := Lib.hid hi
  have HR := Lib.hid hr
  have HL := Lib.hid hl
  have hmm := @run_makeMap Tryz.prog
  have HB0 := Lib.hid ((Below.refl w.heap.size w).alloc (Nat.le_refl _) (.cells #[.string root.name, .int .i64 root.gen, .int .i64 root.size] 43))
  have HBX0 := Lib.hid (heap_alloc_new w (.cells #[.string root.name, .int .i64 root.gen, .int .i64 root.size] 43))
  unfold refV
  clear hI hV hi hr hl
  cases hv : vRef root
  · have HRES := Lib.hid (show res = .error 1 by rw [needP, if_neg (by rw [hv]; simp)] at hn; exact (Option.some.inj hn).symm)
    have HVR := Lib.hid hv
    clear hv hn
    go_enter Tryz.func41, Tryz.ntmps41
    go_wp2_with fail
    refine (validRef_is root false _ HR.out HVR.out).mono ?_
    rintro e w1 ⟨rfl, hb1⟩
    have HB1 := Lib.hid (below_next HB0.out hb1)
    clear hb1
    go_wp2_with fail
    go_ret2
    exact ⟨HB1.out, by rw [HRES.out]; exact ⟨rfl, by decide⟩⟩
  · have HVR := Lib.hid hv
    obtain ⟨⟨x, st⟩, hwp, hres⟩ : ∃ p, walkP visit n root ([], []) = some p ∧ res = (if p.1 = 0 then .ok p.2.2 else .error p.1) := by
      rw [needP, if_pos hv, Option.map_eq_some_iff] at hn
      obtain ⟨p, h1, h2⟩ := hn
      exact ⟨p, h1, h2.symm⟩
    have HWP := Lib.hid hwp
    have HRES := Lib.hid hres
    have HLN := Lib.hid (HL.out _ hwp)
    clear hv hn hwp hres
    go_enter Tryz.func41, Tryz.ntmps41
    go_wp2_with fail
    refine (validRef_is root true _ HR.out HVR.out).mono ?_
    rintro e w1 ⟨rfl, hb1⟩
    have HB1 := Lib.hid (below_next HB0.out hb1)
    have hbx1 := (hb1.block w.heap.size (by simp)).trans HBX0.out
    have HBX1 := Lib.hid hbx1
    have hz1 := lt_of_block hbx1
    clear hb1 hbx1 HBX0
    obtain ⟨W, hW⟩ : ∃ W : World, W = ((w1.alloc (.map #[] 0)).alloc (.map #[] 0)).alloc (.cells #[.func (.func 46) #[cv] #[], .map (some w1.heap.size), .map (some (w1.heap.size + 1)), .slice none 0 0] 102) := ⟨_, rfl⟩
    have HK := Lib.hid (show WkAt W w.heap.size (w1.heap.size + 1 + 1) w1.heap.size (w1.heap.size + 1) (.func (.func 46) #[cv] #[]) (.slice none 0 0) [] [] by rw [hW]; exact wk_start)
    have hbw : Below w1.heap.size w1 W := by rw [hW]; exact (((Below.refl _ _).alloc (Nat.le_refl _) _).alloc (by simp) _).alloc (by simp; omega) _
    have HBW := Lib.hid (below_next HB1.out hbw)
    have HBX2 := Lib.hid ((hbw.block w.heap.size hz1).trans HBX1.out)
    have q0 := cellH (k := 0) HBX2.out
    have q1 := cellH (k := 1) HBX2.out
    have q2 := cellH (k := 2) HBX2.out
    have r0 := cellH (k := 0) HBX1.out
    have r1 := cellH (k := 1) HBX1.out
    have r2 := cellH (k := 2) HBX1.out
    simp only [List.getElem?_toArray, List.getElem?_cons_succ, List.getElem?_cons_zero] at q0 q1 q2 r0 r1 r2
    have HI2 := Lib.hid (HI.out w W HIW.out (Grows.of_below HBW.out))
    clear hbw
    go_upto_region 4 with (fail)
    rw [← hW]
    clear hW
    go_wp2_with fail
    refine (walkN_any visit cv I w.heap.size HI.out HV.out n root ([], []) x st w.heap.size (w1.heap.size + 1 + 1) w1.heap.size (w1.heap.size + 1) (.slice none 0 0) W HWP.out HLN.out HK.out HR.out HI2.out ⟨Nat.le_refl _, by omega, by omega, by omega⟩ HBW.out.size).mono ?_
    rintro e w2 ⟨rfl, v2, hk2, hg2, ho2⟩
    have HK2 := Lib.hid hk2
    have HB2 := Lib.hid (show Below w.heap.size w w2 from HBW.out.trans (hg2.below HBW.out.size (fun k hk => own_ge HK.out ⟨Nat.le_refl _, by omega, by omega, by omega⟩ hk)))
    obtain ⟨a2, c2, rfl⟩ := hk2.shape
    have d3 := cellH (k := 3) hk2.box
    simp only [List.getElem?_toArray, List.getElem?_cons_succ, List.getElem?_cons_zero] at d3
    clear hk2 hg2 ho2 q0 q1 q2 r0 r1 r2
    by_cases hx : x = 0
    · subst hx
      have HRS := Lib.hid (show res = .ok st.2 by rw [HRES.out]; simp)
      go_wp2_with fail
      go_ret2
      exact ⟨HB2.out, by rw [HRS.out]; exact ⟨_, rfl, RefsAt.same (refs_owned HK2.out.row HK2.out.ok) (fun k _ hS => ⟨hS.1, rfl⟩)⟩⟩
    · have e1 : (x != 0) = true := by simp [hx]
      have HRS := Lib.hid (show res = .error x by rw [HRES.out]; simp [hx])
      have HX := Lib.hid hx
      clear hx
      go_wp2_with fail
      go_ret2
      exact ⟨HB2.out, by rw [HRS.out]; exact ⟨rfl, HX.out⟩⟩

/-- What the walk relies on. -/
structure RefsI (B : Nat) (cv : Value) (cs : List (ByteArray × List UInt8)) (w : World) : Prop where
  cont : ContAt (· < B) w cv cs
  env : Env w
  lt : 0 < B ∧ 1 < B ∧ 2 < B
  size : B ≤ w.heap.size
theorem RowAt.lt' {S : Nat → Prop} {w : World} {sz : Nat} {v : Value} {n : Nat} {cells : List Value} (h : RowAt S w sz v n cells) (hs : 0 < sz) : RowAt (· < w.heap.size) w sz v n cells := h.mono (fun _ hk _ => hk) hs
theorem ContAt.lt {S : Nat → Prop} {w : World} {cv : Value} {cs : List (ByteArray × List UInt8)} (h : ContAt S w cv cs) : ContAt (· < w.heap.size) w cv cs := by
  rcases h with h | ⟨b, m, h1, h0, h2, h3⟩
  · exact .inl h
  · refine .inr ⟨b, m, h1, h2.lt, h2, ?_⟩
    clear h1 h2 h0
    induction m generalizing cs with
    | nil => cases cs with
      | nil => trivial
      | cons => exact h3
    | cons p m ih => cases cs with
      | nil => exact h3
      | cons q cs => exact ⟨h3.1, RowAt.lt' h3.2.1 (by omega), ih h3.2.2⟩
theorem RefsI.keep {B : Nat} {cv : Value} {cs : List (ByteArray × List UInt8)} : KeepI (RefsI B cv cs) B := by
  intro w w' h hg
  have hb : Below B w w' := hg.below h.size (fun k hk => hk)
  refine ⟨?_, h.env.belowB hb h.lt.1 h.lt.2.1 h.lt.2.2, h.lt, Nat.le_trans h.size hg.size⟩
  rcases h.cont with h1 | ⟨b, m, h1, h0, h2, h3⟩
  · exact .inl h1
  · exact .inr ⟨b, m, h1, h0, h2.same (hb.block b h0), h3.mono (fun v bs hv => RowAt.same hv (fun k hk => hb.block k hk))⟩
theorem RefsI.visit {B : Nat} {cv : Value} {cs : List (ByteArray × List UInt8)} : VisC (nodeP cs) 46 cv (RefsI B cv cs) := fun W r hI hr => (node_any (· < B) cv cs r W hI.cont hr hI.env).mono fun _ _ h => h
theorem RefsI.start {S : Nat → Prop} {w : World} {cv : Value} {cs : List (ByteArray × List UInt8)} (h : ContAt S w cv cs) (he : Env w) : RefsI w.heap.size cv cs w := ⟨h.lt, he, he.lt, Nat.le_refl _⟩
set_option maxRecDepth 100000 in
set_option maxHeartbeats 1000000 in
theorem refs_any (S : Nat → Prop) (cv : Value) (cs : List (ByteArray × List UInt8)) (n : Nat) (root : Ref) (res : Except Int (List Ref)) (w : World) (hc : ContAt S w cv cs) (henv : Env w) (hr : RefOk root)
    (hn : needP (nodeP cs) n root = some res) (hl : ∀ p, walkP (nodeP cs) n root ([], []) = some p → p.2.2.length < 1099511627775) :
    Calls Tryz.prog 37 #[refV root, cv] w (NeedRes res w) := by
  have hmf : ∀ (fn : Fn) (first cap : Array Value) (w : World), (Instr.makeFunc fn first cap).run Tryz.prog w = .ok (.func fn first cap) w := fun _ _ _ _ => rfl
  have HB0 := Lib.hid ((Below.refl w.heap.size w).alloc (Nat.le_refl _) (.cells #[.string root.name, .int .i64 root.gen, .int .i64 root.size] 43))
  have HI := Lib.hid (RefsI.start (hc.below HB0.out) (henv.below HB0.out))
  have HR := Lib.hid hr
  have HN := Lib.hid hn
  have HL := Lib.hid hl
  unfold refV
  clear hc henv hr hn hl
  go_enter Tryz.func37, Tryz.ntmps37
  go_wp2_with fail
  refine (needsN_any (nodeP cs) cv _ n root res _ RefsI.keep RefsI.visit HI.out HR.out HN.out HL.out).mono ?_
  rintro e w1 ⟨hb1, hres⟩
  have HB1 := Lib.hid (below_next HB0.out hb1)
  clear hb1
  cases res with
  | error x =>
    obtain ⟨rfl, hx⟩ := hres
    have HX := Lib.hid hx
    clear hx
    go_wp2_with fail
    go_ret2
    exact ⟨HB1.out, rfl, HX.out⟩
  | ok rs =>
    obtain ⟨v, rfl, hv⟩ := hres
    have hz := HB0.out.size
    have HV := Lib.hid (show RefsAt (w.heap.size ≤ ·) w1 v rs from RefsAt.same hv (fun k _ hS => ⟨Nat.le_trans hz hS, rfl⟩))
    obtain ⟨a, cap, rfl, -, -, -⟩ := SeqAt.shape hv RefR.len
    clear hv
    go_wp2_with fail
    go_ret2
    exact ⟨HB1.out, _, rfl, HV.out⟩

end Go.Proofs.YtndgmcggckpgfaaGreatDoor

/- Contracts of package manifest: library.present. -/
namespace Go.Proofs.YtndgmcggckpgfaaGreatDoor
open Go Go.RowKit Go.Maps

/-- A node that may be missing. -/
def presP (cs : List (ByteArray × List UInt8)) (r : Ref) : Except Int (List Item) := match nodeP cs r with
  | .error x => if x = 10 then .ok [] else .error x
  | .ok l => .ok l
def PresRes (cs : List (ByteArray × List UInt8)) (r : Ref) (w : World) (e : Ending) (w' : World) : Prop := Below w.heap.size w w' ∧ match presP cs r with
  | .error x => e = .returned (.tuple #[.slice none 0 0, .int .i64 x]) ∧ x ≠ 0
  | .ok l => ∃ v, e = .returned (.tuple #[v, .int .i64 0]) ∧ ItemsAt (w.heap.size ≤ ·) w' v l
set_option maxRecDepth 100000 in
set_option maxHeartbeats 1000000 in
theorem present_any (S : Nat → Prop) (cv : Value) (cs : List (ByteArray × List UInt8)) (r : Ref) (w : World) (hc : ContAt S w cv cs) (hr : RefOk r) (henv : Env w) : Calls Tryz.prog 42 #[cv, refV r] w (PresRes cs r w) := by
  have HB := Lib.hid ((Below.refl w.heap.size w).alloc (Nat.le_refl _) (.cells #[.string r.name, .int .i64 r.gen, .int .i64 r.size] 43))
  have HC := Lib.hid (hc.below HB.out)
  have HR := Lib.hid hr
  have HE := Lib.hid (henv.below HB.out)
  unfold refV
  clear hc hr henv
  go_enter Tryz.func42, Tryz.ntmps42
  go_wp2_with fail
  refine (node_any S cv cs r _ HC.out HR.out HE.out).mono ?_
  rintro e w1 ⟨hb1, hres⟩
  have HB1 := Lib.hid (below_next HB.out hb1)
  have hz := hb1.size
  simp at hz
  clear hb1
  cases hnd : nodeP cs r with
  | error x =>
    rw [hnd] at hres
    obtain ⟨rfl, hx⟩ := hres
    by_cases h10 : x = 10
    · subst h10
      have HN := Lib.hid (show presP cs r = .ok [] by unfold presP; rw [hnd]; rfl)
      clear hnd hx
      go_wp2_with fail
      go_ret2
      exact ⟨HB1.out, by rw [HN.out]; exact ⟨_, rfl, SeqAt.nil⟩⟩
    · have HN := Lib.hid (show presP cs r = .error x by unfold presP; rw [hnd]; simp only [if_neg h10])
      have e1 : (x == 10) = false := by simp [h10]
      have HX := Lib.hid hx
      clear hnd hx h10
      go_wp2_with fail
      go_ret2
      exact ⟨HB1.out, by rw [HN.out]; exact ⟨rfl, HX.out⟩⟩
  | ok l =>
    rw [hnd] at hres
    obtain ⟨v, rfl, hv⟩ := hres
    have HN := Lib.hid (show presP cs r = .ok l by unfold presP; rw [hnd])
    have HV := Lib.hid hv
    have HV2 := Lib.hid (show ItemsAt (w.heap.size ≤ ·) w1 v l from by
      obtain ⟨cells, h1, h2⟩ := hv
      have hwz : w.heap.size ≤ (w.alloc (.cells #[.string r.name, .int .i64 r.gen, .int .i64 r.size] 43)).heap.size := by simp
      exact ⟨cells, h1.weak (fun k hk => Nat.le_trans hwz hk), h2.mono (fun c x _ hx => hx.same (fun k _ hS => ⟨Nat.le_trans hwz hS, rfl⟩))⟩)
    obtain ⟨a, cap, rfl, -, -, -⟩ := SeqAt.shape hv ItemR.len
    clear hnd hv
    go_wp2_with fail
    go_ret2
    exact ⟨HB1.out, by rw [HN.out]; exact ⟨_, rfl, HV2.out⟩⟩

end Go.Proofs.YtndgmcggckpgfaaGreatDoor

/- Contracts of the reference of package manifest: Good (what Item does, given).  -/
namespace Go.Proofs.YtndgmcggckpgfaaGreatDoor
open Go.RowKit


/-- What the reference's Item does. -/
def ItemFOf : Prop := ∀ (S : Nat → Prop) (it : Item) (cv : Value) (w : World), RefsAt S w cv it.chunks → ItemOk it → Calls Tryz.prog 82 #[itemV cv it] w fun e w' => e = .returned (.bool (vItem it)) ∧ Below w.heap.size w w'
theorem itemF_is (HI : ItemFOf) (S : Nat → Prop) (it : Item) (cv : Value) (b : Bool) (w : World) (hcv : RefsAt S w cv it.chunks) (hok : ItemOk it) (h : vItem it = b) : Calls Tryz.prog 82 #[itemV cv it] w fun e w' => e = .returned (.bool b) ∧ Below w.heap.size w w' := by
  rw [← h]; exact HI S it cv w hcv hok
set_option maxRecDepth 100000 in
set_option maxHeartbeats 2000000 in
theorem good_any (HI : ItemFOf) (S : Nat → Prop) (l : List Item) (v : Value) (w : World) (hv : ItemsAt S w v l) : Calls Tryz.prog 70 #[v] w fun e w' => e = .returned (.bool (vNode l)) ∧ Below w.heap.size w w' := by
  obtain ⟨a, cap, rfl, hc, hm, -⟩ := SeqAt.shape hv ItemR.len
  unfold maxLen at hm
  have HV := Lib.hid hv
  have HII := Lib.hid HI
  clear hv HI
  go_enter Tryz.func70, Tryz.ntmps70
  go_wp2_with fail
  go_loopw [3] (fun i wr => ∃ k : Nat, k ≤ l.length ∧ i = .int .i64 k ∧ vNodeF none l = vNodeF (prevN l k) (l.drop k) ∧ Below w.heap.size w wr) (fun i _ => l.length - (intOf i).toNat)
  case atStart => exact ⟨0, Nat.zero_le _, rfl, rfl, Below.refl _ _⟩
  case round =>
    obtain ⟨k, hk, rfl, hal, hb⟩ := hrel
    have HB := Lib.hid hb
    have HA := Lib.hid hal
    clear hb hal
    by_cases hlt : k < l.length
    · obtain ⟨it, hr⟩ : ∃ it, l[k]? = some it := ⟨l[k], by simp [hlt]⟩
      obtain ⟨W, hW⟩ : ∃ W : World, W = wr.drew := ⟨_, rfl⟩
      have HBW := Lib.hid (show Below w.heap.size w W by rw [hW]; exact HB.out.drew)
      obtain ⟨b, o, ca, cc, rfl, hok, hrf, hbl, -, hcl⟩ := items_at HV.out HBW.out hr
      have HR := Lib.hid hr
      have HO := Lib.hid hok
      have HRF := Lib.hid hrf
      have q0 := hcl 0 (by omega)
      have q1 := hcl 1 (by omega)
      have q2 := hcl 2 (by omega)
      have q3 := hcl 3 (by omega)
      have q4 := hcl 4 (by omega)
      have q5 := hcl 5 (by omega)
      have q6 := hcl 6 (by omega)
      have q7 := hcl 7 (by omega)
      have q8 := hcl 8 (by omega)
      have q9 := hcl 9 (by omega)
      simp only [itemC, List.getElem?_cons_zero, List.getElem?_cons_succ, Nat.add_zero] at q0 q1 q2 q3 q4 q5 q6 q7 q8 q9
      clear hr hok hrf hcl
      cases hvi : vItem it
      · have HF := Lib.hid (show vNode l = false by unfold vNode; rw [HA.out, vNodeF_step HR.out, hvi]; simp)
        have HVI := Lib.hid hvi
        clear hvi
        go_wp2_with fail
        refine wp_region_segs [some 4, none, some 19] (by kernel_rfl) (by kernel_rfl) (by kernel_rfl) ?_
        simp only [wpSegs, List.take_succ_cons, List.take_zero, List.drop_succ_cons, List.drop_zero]
        rw [← hW]
        clear hW
        repeat (first | (refine seg_skip rfl ?_; simp only [Act.put, List.setIfInBounds_toArray, List.set_cons_succ, List.set_cons_zero]) | (refine seg_run rfl (fun K hK => ?_); go_simp; refine hK _ ?_; clear hK K))
        refine seg_nil ?_
        refine bar_run rfl (fun K hK => ?_)
        go_wp2_with (go_at_call 82; refine (itemF_is HII.out S it (.slice ca it.chunks.length cc) false _ HRF.out HO.out HVI.out).mono ?_; rintro e w1 ⟨rfl, hb1⟩)
        have HB1 := Lib.hid (below_next HBW.out hb1)
        clear hb1
        repeat (first | (refine seg_skip rfl ?_; simp only [Act.put, List.setIfInBounds_toArray, List.set_cons_succ, List.set_cons_zero]) | (refine seg_run rfl (fun K hK => ?_); go_simp; refine hK _ ?_; clear hK K))
        refine seg_nil ?_
        go_wp2_with fail
        go_ret
        exact ⟨ret_bool (by rw [HF.out]), HB1.out⟩
      · have HVI := Lib.hid hvi
        clear hvi
        by_cases hk0 : k ≤ 0
        · have HF := Lib.hid (show vNodeF none l = vNodeF (prevN l (k + 1)) (l.drop (k + 1)) by
            obtain rfl : k = 0 := by omega
            rw [HA.out, vNodeF_step HR.out, HVI.out]; simp [prevN, nmAfter])
          have ek : decide (0 < k) = false := by simp; omega
          go_wp2_with fail
          refine wp_region_segs [some 4, none, some 19] (by kernel_rfl) (by kernel_rfl) (by kernel_rfl) ?_
          simp only [wpSegs, List.take_succ_cons, List.take_zero, List.drop_succ_cons, List.drop_zero]
          rw [← hW]
          clear hW
          repeat (first | (refine seg_skip rfl ?_; simp only [Act.put, List.setIfInBounds_toArray, List.set_cons_succ, List.set_cons_zero]) | (refine seg_run rfl (fun K hK => ?_); go_simp; refine hK _ ?_; clear hK K))
          refine seg_nil ?_
          refine bar_run rfl (fun K hK => ?_)
          go_wp2_with (go_at_call 82; refine (itemF_is HII.out S it (.slice ca it.chunks.length cc) true _ HRF.out HO.out HVI.out).mono ?_; rintro e w1 ⟨rfl, hb1⟩)
          have HB1 := Lib.hid (below_next HBW.out hb1)
          clear hb1
          repeat (first | (refine seg_skip rfl ?_; simp only [Act.put, List.setIfInBounds_toArray, List.set_cons_succ, List.set_cons_zero]) | (refine seg_run rfl (fun K hK => ?_); go_simp; refine hK _ ?_; clear hK K))
          refine seg_nil ?_
          go_wp2_with fail
          go_roundw
          case rel => exact ⟨k + 1, by omega, by go_num, HF.out, HB1.out⟩
          case measure => simp [intOf]; omega
        · obtain ⟨ip, hrp⟩ : ∃ ip, l[k - 1]? = some ip := ⟨l[k - 1], by simp⟩
          have HRP := Lib.hid hrp
          have HPR := Lib.hid (show prevN l k = some ip.name from prevN_pos (by omega) hrp)
          have hs1 : IntKind.i64.wrap ((k : Int) - 1) = (k : Int) - 1 := IntWalk.i64_in _ (by omega)
          have hs2 : ((k : Int) - 1).toNat = k - 1 := by omega
          have ek : decide (0 < k) = true := by simp; omega
          have hs3 : (1 : Int) ≤ (k : Int) := by omega
          have hs4 : 1 ≤ k := by omega
          have hs5 : 0 < k := by omega
          have hs6 : (0 : Int) ≤ (k : Int) - 1 := by omega
          have hs7 : (k : Int) - 1 < (l.length : Int) := by omega
          clear hrp
          go_wp2_with fail
          refine wp_region_segs [some 4, none, some 19] (by kernel_rfl) (by kernel_rfl) (by kernel_rfl) ?_
          simp only [wpSegs, List.take_succ_cons, List.take_zero, List.drop_succ_cons, List.drop_zero]
          rw [← hW]
          clear hW
          repeat (first | (refine seg_skip rfl ?_; simp only [Act.put, List.setIfInBounds_toArray, List.set_cons_succ, List.set_cons_zero]) | (refine seg_run rfl (fun K hK => ?_); go_simp; refine hK _ ?_; clear hK K))
          refine seg_nil ?_
          refine bar_run rfl (fun K hK => ?_)
          go_wp2_with (go_at_call 82; refine (itemF_is HII.out S it (.slice ca it.chunks.length cc) true _ HRF.out HO.out HVI.out).mono ?_; rintro e w1 ⟨rfl, hb1⟩)
          have HB1 := Lib.hid (below_next HBW.out hb1)
          clear hb1
          obtain ⟨b2, o2, ca2, cc2, e2, -, -, -, -, hcl⟩ := items_at HV.out HB1.out HR.out
          cases e2
          have n0 := hcl 0 (by omega)
          simp only [itemC, List.getElem?_cons_zero, Nat.add_zero] at n0
          clear hcl
          obtain ⟨b3, o3, ca3, cc3, e3, -, -, -, -, hcl⟩ := items_at HV.out HB1.out HRP.out
          cases e3
          have p0 := hcl 0 (by omega)
          simp only [itemC, List.getElem?_cons_zero, Nat.add_zero] at p0
          clear hcl
          cases hlt3 : nmLt ip.name it.name
          · have HF := Lib.hid (show vNode l = false by unfold vNode; rw [HA.out, vNodeF_step HR.out, HPR.out, HVI.out]; simp [nmAfter, hlt3])
            unfold nmLt at hlt3
            repeat (first | (refine seg_skip rfl ?_; simp only [Act.put, List.setIfInBounds_toArray, List.set_cons_succ, List.set_cons_zero]) | (refine seg_run rfl (fun K hK => ?_); go_simp; refine hK _ ?_; clear hK K))
            refine seg_nil ?_
            go_wp2_with fail
            go_ret
            exact ⟨ret_bool (by rw [HF.out]), HB1.out⟩
          · have HF := Lib.hid (show vNodeF none l = vNodeF (prevN l (k + 1)) (l.drop (k + 1)) by rw [HA.out, vNodeF_step HR.out, HPR.out, HVI.out]; simp [nmAfter, hlt3])
            unfold nmLt at hlt3
            repeat (first | (refine seg_skip rfl ?_; simp only [Act.put, List.setIfInBounds_toArray, List.set_cons_succ, List.set_cons_zero]) | (refine seg_run rfl (fun K hK => ?_); go_simp; refine hK _ ?_; clear hK K))
            refine seg_nil ?_
            go_wp2_with fail
            go_roundw
            case rel => exact ⟨k + 1, by omega, by go_num, HF.out, HB1.out⟩
            case measure => simp [intOf]; omega
    · obtain rfl : k = l.length := by omega
      have HF := Lib.hid (show vNode l = decide (l.length ≤ 4096) by unfold vNode; rw [HA.out, List.drop_of_length_le (Nat.le_refl _)]; simp [vNodeF])
      go_wp2_with fail
      go_ret
      exact ⟨ret_bool (by rw [HF.out, Bool.eq_iff_iff]; simp; omega), HB.out⟩

end Go.Proofs.YtndgmcggckpgfaaGreatDoor

/- A name of an item: a valid path with no slash is a component (plain). -/
namespace Go.Proofs.YtndgmcggckpgfaaGreatDoor
open Go.RowKit

theorem comp_valid (l : List UInt8) : compB l = (validP l && !l.contains 47) := by
  by_cases h : (47 : UInt8) ∈ l
  · have h1 : l.contains 47 = true := by simpa using h
    have h2 : compB l = false := by unfold compB; rw [h1]; simp
    rw [h1, h2]; simp
  · have h1 : l.contains 47 = false := by simpa using h
    rw [h1]
    unfold validP
    rw [splitL_whole 47 l h]
    cases hc : compB l
    · simp [hc]
    · have h2 : l.length ≤ 64 := by
        unfold compB at hc
        simp only [Bool.and_eq_true, decide_eq_true_eq] at hc
        exact hc.1.1.1.1.2
      simp [hc]; omega

end Go.Proofs.YtndgmcggckpgfaaGreatDoor

/- Contracts of package pathname: Clean, Join. -/
namespace Go.Proofs.YtndgmcggckpgfaaGreatDoor
open Go.RowKit

theorem clean_skip {ps acc : List (List UInt8)} {k : Nat} {p : List UInt8} (h : ps[k]? = some p) (hp : p = [] ∨ p = [46]) : cleanParts (ps.drop k) acc = cleanParts (ps.drop (k + 1)) acc := by
  obtain ⟨hk, rfl⟩ := List.getElem?_eq_some_iff.1 h
  rw [List.drop_eq_getElem_cons hk, cleanParts, if_pos hp]
theorem clean_up {ps acc : List (List UInt8)} {k : Nat} {p : List UInt8} (h : ps[k]? = some p) (hp : p = [46, 46]) (ha : acc ≠ []) : cleanParts (ps.drop k) acc = cleanParts (ps.drop (k + 1)) acc.dropLast := by
  obtain ⟨hk, rfl⟩ := List.getElem?_eq_some_iff.1 h
  rw [List.drop_eq_getElem_cons hk, cleanParts, hp]
  simp [ha]
theorem clean_out {ps : List (List UInt8)} {k : Nat} {p : List UInt8} (h : ps[k]? = some p) (hp : p = [46, 46]) : cleanParts (ps.drop k) [] = none := by
  obtain ⟨hk, rfl⟩ := List.getElem?_eq_some_iff.1 h
  rw [List.drop_eq_getElem_cons hk, cleanParts, hp]
  simp
theorem clean_add {ps acc : List (List UInt8)} {k : Nat} {p : List UInt8} (h : ps[k]? = some p) (h1 : p ≠ []) (h2 : p ≠ [46]) (h3 : p ≠ [46, 46]) : cleanParts (ps.drop k) acc = cleanParts (ps.drop (k + 1)) (acc ++ [p]) := by
  obtain ⟨hk, rfl⟩ := List.getElem?_eq_some_iff.1 h
  rw [List.drop_eq_getElem_cons hk, cleanParts]
  simp [h1, h2, h3]

/-- What Clean returns. -/
def cleanV (o : Option (List UInt8)) : Value := match o with
  | some l => .tuple #[.string ⟨l.toArray⟩, .int .i64 0]
  | none => .tuple #[.string ⟨#[]⟩, .int .i64 1]

def joinV (o : List UInt8 × Int) : Value := .tuple #[.string ⟨o.1.toArray⟩, .int .i64 o.2]

end Go.Proofs.YtndgmcggckpgfaaGreatDoor

/- Plain words of chapter 18: patterns. No program in sight. -/
namespace Go.Proofs.YtndgmcggckpgfaaGreatDoor

/-- The runes of a string. -/
def runesGo : Nat → List UInt8 → List Int
  | 0, _ => []
  | n + 1, l => if l = [] then [] else ((Lib.decodeL l).1 : Int) :: runesGo n (l.drop (Lib.decodeL l).2)
def runesL (l : List UInt8) : List Int := runesGo l.length l

/-- An item of a pattern component. -/
structure PItem where
  star : Bool
  any : Bool
  neg : Bool
  ranges : List (Int × Int)
/-- A component of a pattern. -/
structure PComp where
  dbl : Bool
  items : List PItem

def starI : PItem := ⟨true, false, false, []⟩
def anyI : PItem := ⟨false, true, false, []⟩
def litI (r : Int) : PItem := ⟨false, false, false, [(r, r)]⟩

/-- The first rune and the rest. -/
def headS : List Int → Option (Int × List Int)
  | [] => none
  | q :: u => some (q, u)
/-- An element of a class. -/
def elemS : List Int → Option (Int × List Int)
  | [] => none
  | r :: t => if r = 92 then headS t else if r = 93 ∨ r = 94 ∨ r = 45 then none else some (r, t)
/-- The ranges of a class up to its closing bracket. -/
def classS : Nat → List Int → List (Int × Int) → Option (List (Int × Int) × List Int)
  | 0, _, _ => none
  | f + 1, l, acc =>
    if l.head? = some 93 then some (acc, l.tail) else
    match elemS l with
    | none => none
    | some (lo, t) =>
      if t.head? = some 45 then
        match elemS t.tail with
        | none => none
        | some (hi, u) => if hi < lo then none else classS f u (acc ++ [(lo, hi)])
      else classS f t (acc ++ [(lo, lo)])
/-- A class behind its opening bracket. -/
def clsS (t : List Int) : Option (PItem × List Int) :=
  let neg := decide (t.head? = some 94)
  let t' := if neg then t.tail else t
  match classS (t'.length + 1) t' [] with
  | none => none
  | some (rs, u) => if rs = [] then none else some (⟨false, false, neg, rs⟩, u)
/-- An item. -/
def itemS : List Int → Option (PItem × List Int)
  | [] => none
  | r :: t =>
    if r = 42 then some (starI, t) else if r = 63 then some (anyI, t) else if r = 91 then clsS t
    else if r = 92 then (headS t).map (fun x => (litI x.1, x.2)) else some (litI r, t)
def itemsS : Nat → List Int → Option (List PItem)
  | 0, _ => none
  | f + 1, l => if l = [] then some [] else
    match itemS l with
    | none => none
    | some (it, t) => match itemsS f t with | none => none | some its => some (it :: its)
def itemsL (l : List Int) : Option (List PItem) := itemsS (l.length + 1) l
def compS (p : List UInt8) : Option PComp :=
  if p = [42, 42] then some ⟨true, []⟩ else
  match itemsL (runesL p) with
  | none => none
  | some its => if its = [] then none else some ⟨false, its⟩
def compsS : List (List UInt8) → Option (List PComp)
  | [] => some []
  | p :: r => match compS p with
    | none => none
    | some c => match compsS r with | none => none | some cs => some (c :: cs)
/-- The components of a pattern, or none. -/
def patS (l : List UInt8) : Option (List PComp) :=
  if 512 < l.length ∨ textB l = false then none else if 16 < (splitL 47 l).length then none else compsS (splitL 47 l)

def anySuf {T : Type} (f : List T → Bool) : List T → Bool
  | [] => f []
  | t :: us => f (t :: us) || anySuf f us
def headM {T : Type} (m : T → Bool) (f : List T → Bool) : List T → Bool
  | [] => false
  | t :: us => m t && f us
/-- Whether parts can be divided among pieces. -/
def dv {P T : Type} (star : P → Bool) (m : P → T → Bool) : List P → List T → Bool
  | [], ts => ts.isEmpty
  | p :: ps, ts => if star p then anySuf (dv star m ps) ts else headM (m p) (dv star m ps) ts
def inR (r : Int) (x : Int × Int) : Bool := decide (x.1 ≤ r) && decide (r ≤ x.2)
def itemM (it : PItem) (r : Int) : Bool := it.any || ((it.ranges.any (inR r)) != it.neg)
def compM (c : PComp) (part : List UInt8) : Bool := dv (·.star) itemM c.items (runesL part)
def matchS (cs : List PComp) (parts : List (List UInt8)) : Bool := dv (·.dbl) compM cs parts

theorem elemS_len {l t : List Int} {r : Int} (h : elemS l = some (r, t)) : t.length < l.length := by
  cases l with
  | nil => simp [elemS] at h
  | cons a l =>
    rw [elemS] at h
    split at h
    · cases l with
      | nil => simp [headS] at h
      | cons q u => simp [headS] at h; obtain ⟨_, rfl⟩ := h; simp; omega
    · split at h
      · simp at h
      · simp at h; obtain ⟨_, rfl⟩ := h; simp
theorem classS_len : ∀ (f : Nat) {l : List Int} {acc : List (Int × Int)} {rs : List (Int × Int)} {u : List Int}, classS f l acc = some (rs, u) → u.length ≤ l.length
  | 0, _, _, _, _, h => by simp [classS] at h
  | f + 1, l, acc, rs, u, h => by
    unfold classS at h
    split at h
    · simp at h; obtain ⟨_, rfl⟩ := h; simp
    · split at h
      · simp at h
      · rename_i lo t e
        have h1 := elemS_len e
        split at h
        · split at h
          · simp at h
          · rename_i hi v e2
            have h2 := elemS_len e2
            rw [List.length_tail] at h2
            split at h
            · simp at h
            · have := classS_len f h; omega
        · have := classS_len f h; omega
theorem classS_fuel : ∀ (f g : Nat) (l : List Int) (acc : List (Int × Int)), l.length < f → l.length < g → classS f l acc = classS g l acc
  | 0, _, _, _, h, _ => by omega
  | _, 0, _, _, _, h => by omega
  | f + 1, g + 1, l, acc, h1, h2 => by
    unfold classS
    split
    · rfl
    · split
      · rfl
      · rename_i lo t e
        have h3 := elemS_len e
        split
        · split
          · rfl
          · rename_i hi v e2
            have h4 := elemS_len e2
            rw [List.length_tail] at h4
            split
            · rfl
            · exact classS_fuel f g _ _ (by omega) (by omega)
        · exact classS_fuel f g _ _ (by omega) (by omega)
theorem clsS_len {t u : List Int} {it : PItem} (h : clsS t = some (it, u)) : u.length ≤ t.length := by
  unfold clsS at h
  simp only at h
  split at h
  · simp at h
  · rename_i rs v e
    have := classS_len _ e
    split at h
    · simp at h
    · simp only [Option.some.injEq, Prod.mk.injEq] at h
      obtain ⟨_, rfl⟩ := h
      split at this
      · rw [List.length_tail] at this; omega
      · exact this
theorem itemS_len {l t : List Int} {it : PItem} (h : itemS l = some (it, t)) : t.length < l.length := by
  cases l with
  | nil => simp [itemS] at h
  | cons a l =>
    rw [itemS] at h
    split at h
    · simp at h; obtain ⟨_, rfl⟩ := h; simp
    · split at h
      · simp at h; obtain ⟨_, rfl⟩ := h; simp
      · split at h
        · have := clsS_len h; simp; omega
        · split at h
          · cases l with
            | nil => simp [headS] at h
            | cons q u => simp [headS] at h; obtain ⟨_, rfl⟩ := h; simp; omega
          · simp at h; obtain ⟨_, rfl⟩ := h; simp
theorem itemsS_fuel : ∀ (f g : Nat) (l : List Int), l.length < f → l.length < g → itemsS f l = itemsS g l
  | 0, _, _, h, _ => by omega
  | _, 0, _, _, h => by omega
  | f + 1, g + 1, l, h1, h2 => by
    unfold itemsS
    split
    · rfl
    · split
      · rfl
      · rename_i it t e
        have := itemS_len e
        rw [itemsS_fuel f g t (by omega) (by omega)]
theorem itemsL_step {l t : List Int} {it : PItem} (hl : l ≠ []) (h : itemS l = some (it, t)) : itemsL l = match itemsL t with | none => none | some its => some (it :: its) := by
  have := itemS_len h
  unfold itemsL
  rw [itemsS, if_neg hl, h]
  simp only
  rw [itemsS_fuel l.length (t.length + 1) t (by omega) (by omega)]
theorem itemsL_bad {l : List Int} (hl : l ≠ []) (h : itemS l = none) : itemsL l = none := by
  unfold itemsL
  rw [itemsS, if_neg hl, h]

theorem decodeL_cons_le (l : List UInt8) (h : l ≠ []) : 1 ≤ (Lib.decodeL l).2 ∧ (Lib.decodeL l).2 ≤ l.length := ⟨Lib.decodeL_width l, Lib.decodeL_le l h⟩
theorem runesGo_fuel : ∀ (n m : Nat) (l : List UInt8), l.length ≤ n → l.length ≤ m → runesGo n l = runesGo m l
  | 0, m, l, h, _ => by
    have : l = [] := List.eq_nil_of_length_eq_zero (by omega)
    subst this; cases m <;> simp [runesGo]
  | n, 0, l, _, h => by
    have : l = [] := List.eq_nil_of_length_eq_zero (by omega)
    subst this; cases n <;> simp [runesGo]
  | n + 1, m + 1, l, h1, h2 => by
    unfold runesGo
    split
    · rfl
    · rename_i hl
      have := decodeL_cons_le l hl
      rw [runesGo_fuel n m (l.drop (Lib.decodeL l).2) (by rw [List.length_drop]; omega) (by rw [List.length_drop]; omega)]
theorem runesL_nil : runesL [] = [] := rfl
theorem runesL_step (l : List UInt8) (h : l ≠ []) : runesL l = ((Lib.decodeL l).1 : Int) :: runesL (l.drop (Lib.decodeL l).2) := by
  have h1 := decodeL_cons_le l h
  have hl : l.length = (l.length - 1) + 1 := by have := List.length_pos_iff.2 h; omega
  unfold runesL
  rw [hl, runesGo, if_neg h, runesGo_fuel _ (l.drop (Lib.decodeL l).2).length (l.drop (Lib.decodeL l).2) (by rw [List.length_drop]; omega) (Nat.le_refl _)]
theorem runesGo_length : ∀ (n : Nat) (l : List UInt8), (runesGo n l).length ≤ n
  | 0, _ => by simp [runesGo]
  | n + 1, l => by
    unfold runesGo
    split
    · simp
    · have := runesGo_length n (l.drop (Lib.decodeL l).2); simp; omega
theorem runesL_length (l : List UInt8) : (runesL l).length ≤ l.length := runesGo_length _ _
/-- What the model's conversion to runes gives. -/
theorem runesFrom_eq (s : ByteArray) : ∀ (n i : Nat) (acc : Array Value), Conv.runesFrom s n i acc = acc ++ ((runesGo n (s.data.toList.drop i)).map (Value.int .i32)).toArray
  | 0, i, acc => by simp [Conv.runesFrom, runesGo]
  | n + 1, i, acc => by
    unfold Conv.runesFrom runesGo
    have hsz : s.size = s.data.toList.length := Lib.size_eq s
    by_cases h : i < s.size
    · rw [if_pos h, if_neg (by intro e; have := List.drop_eq_nil_iff.1 e; omega)]
      simp only
      rw [runesFrom_eq s n, Lib.decodeL_drop, List.drop_drop]
      apply Array.ext'
      simp
    · rw [if_neg h, if_pos (List.drop_eq_nil_iff.2 (by omega))]
      simp
theorem runes_conv (s : ByteArray) : Conv.runesFrom s s.size 0 #[] = ((runesL s.data.toList).map (Value.int .i32)).toArray := by
  rw [runesFrom_eq, Lib.size_eq]
  simp [runesL]

end Go.Proofs.YtndgmcggckpgfaaGreatDoor

/- Plain words of chapter 18: sizes of patterns; rules. No program in sight. -/
namespace Go.Proofs.YtndgmcggckpgfaaGreatDoor

theorem itemsS_length : ∀ (f : Nat) (l : List Int) (its : List PItem), itemsS f l = some its → its.length ≤ l.length
  | 0, _, _, h => by simp [itemsS] at h
  | f + 1, l, its, h => by
    unfold itemsS at h
    split at h
    · simp at h; subst h; simp
    · split at h
      · simp at h
      · rename_i it t e
        have := itemS_len e
        split at h
        · simp at h
        · rename_i its2 e2
          have h2 := itemsS_length f t its2 e2
          simp at h; subst h; simp; omega
theorem compS_items {p : List UInt8} {c : PComp} (h : compS p = some c) : c.items.length ≤ p.length := by
  unfold compS at h
  split at h
  · simp at h; subst h; simp
  · split at h
    · simp at h
    · rename_i its e
      have h1 := itemsS_length _ _ _ e
      have h2 := runesL_length p
      split at h
      · simp at h
      · simp at h; subst h; simp; omega
theorem compsS_len : ∀ {ps : List (List UInt8)} {cs : List PComp}, compsS ps = some cs → cs.length = ps.length
  | [], cs, h => by simp [compsS] at h; subst h; rfl
  | p :: ps, cs, h => by
    unfold compsS at h
    split at h
    · simp at h
    · split at h
      · simp at h
      · rename_i cs2 e2
        simp at h; subst h
        simp [compsS_len e2]
theorem compsS_items : ∀ {ps : List (List UInt8)} {cs : List PComp} {m : Nat}, compsS ps = some cs → (∀ p ∈ ps, p.length ≤ m) → ∀ c ∈ cs, c.items.length ≤ m
  | [], cs, m, h, _ => by simp [compsS] at h; subst h; simp
  | p :: ps, cs, m, h, hm => by
    unfold compsS at h
    split at h
    · simp at h
    · rename_i c0 e0
      split at h
      · simp at h
      · rename_i cs2 e2
        simp at h; subst h
        intro c hc
        rcases List.mem_cons.1 hc with rfl | hc
        · have := compS_items e0; have := hm p (by simp); omega
        · exact compsS_items e2 (fun q hq => hm q (by simp [hq])) c hc

/-- A rule. -/
structure PRule where
  pat : List UInt8
  keep : Bool
  dir : Bool
  rooted : Bool
/-- The components of a rule's pattern, or none. -/
def compileS (r : PRule) : Option (List PComp) :=
  if Lib.hasPrefix r.pat [33] || Lib.hasPrefix r.pat [35] then none else if r.pat.contains 47 && !r.rooted then none else patS r.pat
/-- Match: the result and the error. -/
def matchE (p l : List UInt8) : Bool × Int :=
  match patS p with
  | none => (false, 1)
  | some cs => if validP l then (matchS cs (splitL 47 l), 0) else (false, 1)
/-- The line of a rule. -/
def lineS (r : PRule) : List UInt8 :=
  (if r.keep then [33] else []) ++ (if r.rooted && !r.pat.contains 47 then [47] else []) ++ r.pat ++ (if r.dir then [47] else [])
/-- The rule of a line. -/
def ruleS (l : List UInt8) : PRule :=
  let l1 := Lib.trimPrefix l [33]
  let l2 := Lib.trimPrefix l1 [47]
  let p := Lib.trimSuffix l2 [47]
  ⟨p, Lib.hasPrefix l [33], Lib.hasSuffix l2 [47], Lib.hasPrefix l1 [47] || p.contains 47⟩
def parseLineS (l : List UInt8) : Option PRule := if (compileS (ruleS l)).isSome then some (ruleS l) else none
/-- Parse over the lines: i is the number of the next line; the result, the line, the error. -/
def parseS : List (List UInt8) → Nat → List PRule → List PRule × Int × Int
  | [], _, acc => (acc, 0, 0)
  | l :: ls, i, acc => if l = [] ∨ Lib.hasPrefix l [35] = true then parseS ls (i + 1) acc else
    match parseLineS l with
    | none => ([], i + 1, 3)
    | some r => if acc.length = 256 then ([], i + 1, 2) else parseS ls (i + 1) (acc ++ [r])
def parseE (l : List UInt8) : List PRule × Int × Int := if 65536 < l.length then ([], 0, 2) else parseS (splitL 10 l) 0 []
/-- Ignored, at one directory of the path: n components of parts. -/
def ruleHits (dir : Bool) (r : PRule) (cs : List PComp) (parts : List (List UInt8)) (n : Nat) : Bool :=
  (dir || decide (n < parts.length) || !r.dir) && matchS cs (if r.rooted then parts.take n else (parts.take n).drop (n - 1))
def ignAt (dir : Bool) (parts : List (List UInt8)) (n : Nat) : List (PRule × List PComp) → Bool → Bool
  | [], b => b
  | (r, cs) :: t, b => ignAt dir parts n t (if ruleHits dir r cs parts n then !r.keep else b)
def ignFrom (dir : Bool) (parts : List (List UInt8)) (rs : List (PRule × List PComp)) : Nat → Nat → Bool
  | 0, _ => false
  | f + 1, n => if ignAt dir parts n rs false then true else ignFrom dir parts rs f (n + 1)
def compileAll : List PRule → Option (List (PRule × List PComp))
  | [] => some []
  | r :: t => match compileS r with
    | none => none
    | some cs => match compileAll t with | none => none | some u => some ((r, cs) :: u)
def ignoredE (rs : List PRule) (path : List UInt8) (dir : Bool) : Bool × Int :=
  if validP path = false ∨ 256 < rs.length then (false, 1) else
  match compileAll rs with
  | none => (false, 1)
  | some u => (ignFrom dir (splitL 47 path) u (splitL 47 path).length 1, 0)
/-- Print: the text and the error. -/
def printE (rs : List PRule) : List UInt8 × Int :=
  if (rs.all fun r => (compileS r).isSome) = false then ([], 1) else if 256 < rs.length then ([], 2) else (rs.flatMap fun r => lineS r ++ [10], 0)

end Go.Proofs.YtndgmcggckpgfaaGreatDoor

/- Plain words for the specification's side of chapter 18. No program in sight. -/
namespace Go.Proofs.YtndgmcggckpgfaaGreatDoor

theorem addOf (k n : Nat) (z : Int) (h : z = ((k + n : Nat) : Int)) : UInt8.ofNat k + UInt8.ofNat n = UInt8.ofNat z.toNat := by
  subst h; rw [Int.toNat_natCast, UInt8.ofNat_add]
theorem encode_lib (r : Nat) : (Utf8.encode (r : Int)).data.toList = Lib.encodeRune (r : Int) := by
  unfold Lib.encodeRune
  by_cases c1 : r < 128
  · have v : Utf8.valid (r : Int) = true := by simp [Utf8.valid]; omega
    rw [Lib.encodeRuneZ_one (by omega) (by omega)]; simp [Utf8.encode, v, c1]
  by_cases c2 : r < 2048
  · have v : Utf8.valid (r : Int) = true := by simp [Utf8.valid]; omega
    rw [Lib.encodeRuneZ_two (by omega) (by omega)]; simp [Utf8.encode, v, c1, c2]; exact ⟨addOf 192 _ _ (by omega), addOf 128 _ _ (by omega)⟩
  by_cases hb : (55296 ≤ r ∧ r ≤ 57343) ∨ 1114111 < r
  · have v : Utf8.valid (r : Int) = false := by simp [Utf8.valid]; omega
    rw [Lib.encodeRuneZ_bad (by omega)]; simp [Utf8.encode, v, Utf8.runeError]
  by_cases c3 : r < 65536
  · have v : Utf8.valid (r : Int) = true := by simp [Utf8.valid]; omega
    rw [Lib.encodeRuneZ_three (by omega)]; simp [Utf8.encode, v, c1, c2, c3]; exact ⟨addOf 224 _ _ (by omega), addOf 128 _ _ (by omega), addOf 128 _ _ (by omega)⟩
  · have v : Utf8.valid (r : Int) = true := by simp [Utf8.valid]; omega
    rw [Lib.encodeRuneZ_four (by omega) (by omega)]; simp [Utf8.encode, v, c1, c2, c3]; exact ⟨addOf 240 _ _ (by omega), addOf 128 _ _ (by omega), addOf 128 _ _ (by omega), addOf 128 _ _ (by omega)⟩

/-- The runes of a string, encoded again. -/
def reL (l : List UInt8) : List UInt8 := (runesL l).flatMap Lib.encodeRune
theorem reL_nil : reL [] = [] := rfl
theorem reL_step (l : List UInt8) (h : l ≠ []) : reL l = Lib.encodeRune ((Lib.decodeL l).1 : Int) ++ reL (l.drop (Lib.decodeL l).2) := by
  unfold reL; rw [runesL_step l h, List.flatMap_cons]
theorem encodeRune_len (r : Int) : (Lib.encodeRune r).length ≤ 4 := by
  have := (Lib.encodeRuneZ_length r).2; simpa [Lib.encodeRune] using this
theorem reL_law : ∀ (n : Nat) (l : List UInt8), l.length ≤ n → l.length ≤ (reL l).length ∧ (reL l = l ↔ Lib.validD l = true)
  | 0, l, h => by
    have : l = [] := List.eq_nil_of_length_eq_zero (by omega)
    subst this
    exact ⟨by simp, by simp [reL_nil, Lib.validD_nil]⟩
  | n + 1, l, h => by
    by_cases hl : l = []
    · subst hl
      exact ⟨by simp, by simp [reL_nil, Lib.validD_nil]⟩
    · have hw := decodeL_cons_le l hl
      obtain ⟨ih1, ih2⟩ := reL_law n (l.drop (Lib.decodeL l).2) (by rw [List.length_drop]; omega)
      rw [List.length_drop] at ih1
      rw [reL_step l hl, Lib.validD_step l hl]
      by_cases hb : (Lib.decodeL l).1 = 65533 ∧ (Lib.decodeL l).2 = 1
      · have e3 : (Lib.encodeRune ((Lib.decodeL l).1 : Int)).length = 3 := by rw [hb.1]; rfl
        rw [if_pos hb]
        refine ⟨by rw [List.length_append, e3]; omega, ⟨fun e => ?_, fun e => by cases e⟩⟩
        have := congrArg List.length e
        rw [List.length_append, e3] at this
        omega
      · rw [if_neg hb, Lib.encode_decode l hl hb]
        refine ⟨by rw [List.length_append, List.length_take]; omega, ?_⟩
        rw [← ih2]
        constructor
        · intro e
          have h2 : l.take (Lib.decodeL l).2 ++ reL (l.drop (Lib.decodeL l).2) = l.take (Lib.decodeL l).2 ++ l.drop (Lib.decodeL l).2 := by rw [List.take_append_drop]; exact e
          exact List.append_cancel_left h2
        · intro e; rw [e, List.take_append_drop]
theorem reL_valid (l : List UInt8) : (reL l == l) = Lib.validD l := by
  rw [Bool.eq_iff_iff, beq_iff_eq]; exact (reL_law l.length l (Nat.le_refl _)).2

theorem compB_slash (l : List UInt8) : ((splitL 47 l).length == 1) = !l.contains 47 := by
  by_cases h : (47 : UInt8) ∈ l
  · obtain ⟨p, q, rfl, hp⟩ := index_one l 47 h
    have := splitL_pos 47 q
    rw [splitL_append 47 p q hp]
    have h2 : ((p :: splitL 47 q).length == 1) = false := by rw [beq_eq_false_iff_ne]; simp; exact splitL_ne 47 q
    rw [h2]; simp
  · rw [splitL_whole 47 l h]; simp [h]
theorem uniteL_snoc (ps : List (List UInt8)) (p : List UInt8) : uniteL (ps ++ [p]) = if ps = [] then p else uniteL ps ++ [47] ++ p := by
  cases ps with
  | nil => simp [uniteL, Lib.join_one]
  | cons q ps =>
    simp only [List.cons_append, uniteL, Lib.join_cons, if_neg (List.cons_ne_nil q ps)]
    have : ∀ (l : List (List UInt8)), Lib.joinTail [47] (l ++ [p]) = Lib.joinTail [47] l ++ 47 :: p := by
      intro l
      induction l with
      | nil => simp [Lib.joinTail]
      | cons a l _ => simp only [List.cons_append, Lib.joinTail]; simp
    rw [this]; simp

end Go.Proofs.YtndgmcggckpgfaaGreatDoor

/- Contracts of the specification of chapter 18: UTF8, plain, Divide, Unite, Component, Valid. -/
namespace Go.Proofs.YtndgmcggckpgfaaGreatDoor
open Go.RowKit

theorem reL_len (l : List UInt8) : (reL l).length ≤ 4 * l.length := by
  have h1 := runesL_length l
  have : ∀ rs : List Int, (rs.flatMap Lib.encodeRune).length ≤ 4 * rs.length := by
    intro rs
    induction rs with
    | nil => simp
    | cons r rs ih => rw [List.flatMap_cons, List.length_append, List.length_cons]; have := encodeRune_len r; omega
  have h2 := this (runesL l)
  unfold reL; omega
theorem decode_drop (s : ByteArray) (pos : Nat) : Lib.decodeL ((bl s).drop pos) = Utf8.decode s pos := Lib.decodeL_drop s pos
theorem drop_ne {s : ByteArray} {pos : Nat} (h : pos < s.size) : (bl s).drop pos ≠ [] := by
  intro e; have := List.drop_eq_nil_iff.1 e; rw [← size_bl] at this; omega
theorem utf8_next {s o : ByteArray} {pos : Nat} (hp : pos < s.size) (h : bl o ++ reL ((bl s).drop pos) = reL (bl s)) :
    bl (o ++ Utf8.encode ((Utf8.decode s pos).1 : Int)) ++ reL ((bl s).drop (pos + (Utf8.decode s pos).2)) = reL (bl s) := by
  rw [bl_append, ← h, reL_step _ (drop_ne hp), decode_drop, List.drop_drop, ← encode_lib, data_bl, List.append_assoc]

set_option maxHeartbeats 400000 in
theorem r_utf8_any (s : ByteArray) (w : World) (hs : s.size ≤ 16777216) :
    Calls Tryz.prog 104 #[.string s] w fun e w' => e = .returned (.bool (Lib.validD (bl s))) ∧ Below w.heap.size w w' := by
  go_enter Tryz.func104, Tryz.ntmps104
  go_wp2
  go_loopw [3] (fun v wr => ∃ (pos : Nat) (o : ByteArray), v = .string o ∧ wr = w.iter s pos ∧ o.size ≤ 67108864 ∧ bl o ++ reL ((bl s).drop pos) = reL (bl s)) (fun _ wr => s.size - wr.iterPos w.heap.size)
  case atStart => exact ⟨0, ⟨#[]⟩, rfl, rfl, by simp [ByteArray.size], by simp [bl]⟩
  case round =>
    obtain ⟨pos, o, rfl, rfl, ho, hrel2⟩ := hrel
    have HR := Lib.hid hrel2
    clear hrel2
    by_cases hp : pos < s.size
    · have hnx : ∀ ty, (Instr.next (.pointer (some ⟨w.heap.size, 0, none⟩)) true ty).run Tryz.prog (w.iter s pos) = _ := fun ty => run_next_any w s pos ty hp
      obtain ⟨r, hr⟩ : ∃ r, r = (Utf8.decode s pos).1 := ⟨_, rfl⟩
      obtain ⟨E, hE⟩ : ∃ E, E = Utf8.encode (r : Int) := ⟨_, rfl⟩
      have hcv : ∀ w', (convert 21 9 (.int .i32 (r : Int))).run Tryz.prog w' = .ok (.string E) w' := fun w' => by rw [hE]; exact run_convert_int_string w' _ _ .i32 _ (by rw [Tryz.underlying21]; rfl) Tryz.underlying9
      have hE4 : E.size ≤ 4 := by rw [hE]; exact encode_size_le _
      simp only [← hr] at hnx
      have HE := Lib.hid hE
      have HRR := Lib.hid hr
      clear hE hr
      go_wp2
      go_roundw
      case rel =>
        have hn : bl (o ++ E) ++ reL ((bl s).drop (pos + (Utf8.decode s pos).2)) = reL (bl s) := by rw [HE.out, HRR.out]; exact utf8_next hp HR.out
        refine ⟨pos + (Utf8.decode s pos).2, o ++ E, rfl, rfl, ?_, hn⟩
        have h1 := congrArg List.length hn
        have h2 := reL_len (bl s)
        rw [List.length_append, ← size_bl] at h1
        rw [← size_bl] at h2
        omega
      case measure =>
        rw [World.iterPos_iter, World.iterPos_iter]
        have := Lib.width_pos s pos
        omega
    · have hnx : ∀ ty, (Instr.next (.pointer (some ⟨w.heap.size, 0, none⟩)) true ty).run Tryz.prog (w.iter s pos) = _ := fun ty => run_next_end w s pos ty hp
      go_wp2
      go_ret
      refine ⟨ret_bool ?_, (Below.refl _ _).alloc (Nat.le_refl _) _⟩
      have h1 : bl o = reL (bl s) := by
        rw [← HR.out, List.drop_eq_nil_of_le (by rw [← size_bl]; omega), reL_nil, List.append_nil]
      rw [toList_bl, toList_bl, h1]
      exact reL_valid (bl s)

theorem lowFree_low {s : ByteArray} {j : Nat} (hj : j < s.size) (h : (s[j].toNat : Int) < 32) : lowFree (bl s) = false := by
  refine low_none hj ?_
  rw [get_bl s j hj, ← byte_bl s j hj]; omega

set_option maxHeartbeats 400000 in
theorem r_plain_any (s : ByteArray) (w : World) (hs : s.size ≤ 16777216) :
    Calls Tryz.prog 98 #[.string s] w fun e w' => e = .returned (.bool (textB (bl s))) ∧ Below w.heap.size w w' := by
  go_enter Tryz.func98, Tryz.ntmps98
  go_wp2
  go_loop [3] (fun i => ∃ k : Nat, k ≤ s.size ∧ i = .int .i64 k ∧ ∀ j, j < k → j < s.size → 32 ≤ (s.get! j).toNat) (fun i => s.size - (intOf i).toNat)
  case atStart => exact ⟨0, Nat.zero_le _, rfl, fun j hj => by omega⟩
  case round =>
    obtain ⟨k, hk, rfl, hlow⟩ := hrel
    have HL := Lib.hid hlow
    clear hlow
    by_cases hp : k < s.size
    · go_wp2
      · have hlt : (s[k].toNat : Int) < 32 := by assumption
        go_ret
        exact ⟨ret_bool (by simp [textB, lowFree_low hp hlt]), Below.refl _ _⟩
      · have hge : (32 : Int) ≤ (s[k].toNat : Int) := by assumption
        go_round
        case rel =>
          refine ⟨k + 1, by omega, by go_num, fun j hj hjs => ?_⟩
          rcases Nat.lt_or_ge j k with h | h
          · exact HL.out j h hjs
          · obtain rfl : j = k := by omega
            rw [get_bl s j hp, ← byte_bl s j hp]; omega
        case measure => simp [intOf] <;> omega
    · go_wp2_with (go_at_call 104; refine (r_utf8_any s _ hs).mono ?_; rintro e w' ⟨rfl, hb⟩)
      go_ret
      refine ⟨ret_bool ?_, hb⟩
      simp only [textB, low_all (fun j hj => HL.out j (by omega) hj), Bool.true_and]

/-- What Divide leaves. -/
def DivideOk (c : UInt8) (s : ByteArray) (w : World) (e : Ending) (w' : World) : Prop :=
  ∃ v xs, e = .returned v ∧ xs.map bl = splitL c (bl s) ∧ StrsAt (w.heap.size ≤ ·) w' v xs ∧ Below w.heap.size w w'
theorem divide_take {s : ByteArray} {c : UInt8} {ys : List ByteArray} {f k : Nat} (hk : k < s.size) (hf : f ≤ k) (h : splitL c (bl s) = ys.map bl ++ splitL c ((bl s).drop f)) (hn : ∀ j, f ≤ j → j < k → (s.get! j) ≠ c) (hc : s[k] = c) :
    splitL c (bl s) = (ys ++ [s.extract f k]).map bl ++ splitL c ((bl s).drop (k + 1)) := by
  have hk2 : k < (bl s).length := by rw [← size_bl]; exact hk
  have e : (bl s).drop f = bl (s.extract f k) ++ c :: (bl s).drop (k + 1) := by
    rw [bl_extract, ← hc, byte_bl s k hk, List.getElem_cons_drop, List.drop_take]
    have h2 := List.take_append_drop (k - f) ((bl s).drop f)
    rw [List.drop_drop, show f + (k - f) = k by omega] at h2
    exact h2.symm
  have hm : c ∉ bl (s.extract f k) := by
    intro hm
    obtain ⟨j, hj, ej⟩ := List.getElem_of_mem hm
    simp only [bl_extract] at hj ej
    rw [List.length_drop, List.length_take] at hj
    rw [List.getElem_drop, List.getElem_take] at ej
    exact hn (f + j) (by omega) (by omega) (by rw [get_bl s _ (by omega)]; exact ej)
  rw [h, e, splitL_append _ _ _ hm]; simp
theorem divide_last {s : ByteArray} {c : UInt8} {ys : List ByteArray} {f : Nat} (hf : f ≤ s.size) (h : splitL c (bl s) = ys.map bl ++ splitL c ((bl s).drop f)) (hn : ∀ j, f ≤ j → j < s.size → (s.get! j) ≠ c) :
    splitL c (bl s) = (ys ++ [s.extract f s.size]).map bl := by
  have e : (bl s).drop f = bl (s.extract f s.size) := by rw [bl_extract, size_bl, List.take_length]
  have hm : c ∉ (bl s).drop f := by
    intro hm
    obtain ⟨j, hj, ej⟩ := List.getElem_of_mem hm
    rw [List.length_drop, ← size_bl] at hj
    rw [List.getElem_drop] at ej
    exact hn (f + j) (by omega) (by omega) (by rw [get_bl s _ (by omega)]; exact ej)
  rw [h, splitL_whole _ _ hm, e]; simp

set_option maxHeartbeats 1000000 in
theorem r_divide_any (s : ByteArray) (w : World) (hs : s.size ≤ 16777216) : Calls Tryz.prog 99 #[.string s] w (DivideOk 47 s w) := by
  go_enter Tryz.func99, Tryz.ntmps99
  go_wp2_with fail
  go_loopw [3, 4, 5] (fun v fr i wr => ∃ (k f : Nat) (ys : List ByteArray), k ≤ s.size + 1 ∧ f ≤ k ∧ ys.length ≤ k ∧ i = .int .i64 k ∧ fr = .int .i64 f ∧ wr.ownsRow w.heap.size 9 1 v ys.length (ys.map Value.string) ∧ Below w.heap.size w wr ∧
      (k ≤ s.size → splitL 47 (bl s) = ys.map bl ++ splitL 47 ((bl s).drop f) ∧ ∀ j, f ≤ j → j < k → (s.get! j) ≠ 47) ∧ (k = s.size + 1 → splitL 47 (bl s) = ys.map bl)) (fun _ _ i _ => s.size + 1 - (intOf i).toNat)
  case atStart => exact ⟨0, 0, [], Nat.zero_le _, Nat.le_refl _, Nat.le_refl _, rfl, rfl, World.ownsRow_nil _ _ _ _, Below.refl _ _, fun _ => ⟨by simp, fun j _ hj => by omega⟩, fun h => by omega⟩
  case round =>
    obtain ⟨k, f, ys, hk, hf, hy, rfl, rfl, hown, hb, hr1, hr2⟩ := hrel
    have HO := Lib.hid hown
    have HB := Lib.hid hb
    have HR1 := Lib.hid hr1
    have HR2 := Lib.hid hr2
    have hsz : w.heap.size ≤ wr.heap.size := hb.size
    clear hown hb hr1 hr2
    by_cases hle : k ≤ s.size
    · by_cases hlt : k < s.size
      · have e1 : ((k : Int) == (s.size : Int)) = false := by rw [beq_eq_false_iff_ne]; omega
        by_cases hc : s[k] = 47
        · have e2 : ((s[k].toNat : Int) == (47 : UInt8).toNat) = true := by rw [hc]; rfl
          have e2' : ((s[k].toNat : Int) == 47) = true := e2
          have HCC := Lib.hid hc
          clear hc e2
          go_wp2_with (at_builtin; go_must (refine wpList_app1 Tryz.appStrings rfl _ _ rfl w.heap.size u3 ys.length (ys.map Value.string) rfl wr [.string (s.extract f k)] _ rfl rfl (by simp; rfl) HO.out (by omega) hsz ?_); intro v' w1 hown1 hgrow1 _)
          have HO1 := Lib.hid hown1
          have HG1 := Lib.hid hgrow1
          clear hown1 hgrow1
          go_wp2_with fail
          go_roundw
          case rel =>
            refine ⟨k + 1, k + 1, ys ++ [s.extract f k], by omega, Nat.le_refl _, by simp; omega, by go_num, by go_num, ?_, below_grown HB.out HO.out HG1.out (Nat.le_refl _) hsz, fun _ => ⟨divide_take hlt hf (HR1.out hle).1 (HR1.out hle).2 HCC.out, fun j h1 h2 => by omega⟩, fun h => by omega⟩
            have := HO1.out; simpa using this
          case measure => simp [intOf] <;> omega
        · have e2' : ((s[k].toNat : Int) == 47) = false := by
            rw [beq_eq_false_iff_ne]; intro e; apply hc; apply UInt8.toNat_inj.1; have : s[k].toNat = 47 := by omega
            rw [this]; rfl
          have HCC := Lib.hid hc
          clear hc
          go_wp2_with fail
          go_roundw
          case rel =>
            refine ⟨k + 1, f, ys, by omega, by omega, by omega, by go_num, rfl, HO.out, HB.out, fun _ => ⟨(HR1.out hle).1, fun j h1 h2 => ?_⟩, fun h => by omega⟩
            rcases Nat.lt_or_ge j k with h | h
            · exact (HR1.out hle).2 j h1 h
            · obtain rfl : j = k := by omega
              rw [get_bl s j hlt, ← byte_bl s j hlt]; exact HCC.out
          case measure => simp [intOf] <;> omega
      · obtain rfl : k = s.size := by omega
        have e1 : ((s.size : Int) == (s.size : Int)) = true := by simp
        go_wp2_with (at_builtin; go_must (refine wpList_app1 Tryz.appStrings rfl _ _ rfl w.heap.size u3 ys.length (ys.map Value.string) rfl wr [.string (s.extract f s.size)] _ rfl rfl (by simp; rfl) HO.out (by omega) hsz ?_); intro v' w1 hown1 hgrow1 _)
        have HO1 := Lib.hid hown1
        have HG1 := Lib.hid hgrow1
        clear hown1 hgrow1
        go_wp2_with fail
        go_roundw
        case rel =>
          refine ⟨s.size + 1, s.size + 1, ys ++ [s.extract f s.size], by omega, Nat.le_refl _, by simp; omega, by go_num, by go_num, ?_, below_grown HB.out HO.out HG1.out (Nat.le_refl _) hsz, fun h => by omega, fun _ => divide_last hf (HR1.out hle).1 (HR1.out hle).2⟩
          have := HO1.out; simpa using this
        case measure => simp [intOf] <;> omega
    · obtain ⟨a, cap, rfl, hn, hm⟩ := owns_shape HO.out
      go_wp2_with fail
      go_ret
      exact ⟨_, ys, rfl, (HR2.out (by omega)).symm, (row_of_owns HO.out).weak (fun k hk => hk.1), HB.out⟩
end Go.Proofs.YtndgmcggckpgfaaGreatDoor

/- Contracts of the specification of chapter 18: Unite, Component, Valid. -/
namespace Go.Proofs.YtndgmcggckpgfaaGreatDoor
open Go.RowKit

theorem take_unite {xs : List ByteArray} {k : Nat} {x : ByteArray} (hx : xs[k]? = some x) : uniteL ((xs.take (k + 1)).map bl) = if k = 0 then bl x else uniteL ((xs.take k).map bl) ++ [47] ++ bl x := by
  have hk := (List.getElem?_eq_some_iff.1 hx).1
  have e : (xs.take (k + 1)).map bl = (xs.take k).map bl ++ [bl x] := by rw [List.take_add_one, hx]; simp
  rw [e, uniteL_snoc]
  by_cases h : k = 0
  · subst h; simp
  · have h2 : (xs.take k).map bl ≠ [] := by
      intro e; have := congrArg List.length e; simp only [List.length_map, List.length_take, List.length_nil] at this; omega
    rw [if_neg h, if_neg h2]
theorem unite_take_len (xs : List ByteArray) (m : Nat) (h : ∀ x ∈ xs, x.size ≤ m) (k : Nat) : (uniteL ((xs.take k).map bl)).length ≤ xs.length * (m + 1) := by
  have h1 := uniteL_len ((xs.take k).map bl) m (fun p hp => by
    obtain ⟨y, hy, rfl⟩ := List.mem_map.1 hp
    have := h y (List.mem_of_mem_take hy)
    rw [← size_bl]; exact this)
  have h2 : ((xs.take k).map bl).length ≤ xs.length := by simp; omega
  exact Nat.le_trans h1 (Nat.mul_le_mul_right _ h2)

theorem div_one {xs : List ByteArray} {s : ByteArray} (hx : xs.map bl = splitL 47 (bl s)) : ((xs.length : Int) == 1) = !(bl s).contains 47 := by
  rw [← compB_slash, ← hx, List.length_map, Bool.eq_iff_iff, beq_iff_eq, beq_iff_eq]; omega
set_option maxHeartbeats 1000000 in
theorem r_component_any (s : ByteArray) (w : World) (hs : s.size ≤ 16777216) :
    Calls Tryz.prog 94 #[.string s] w fun e w' => e = .returned (.bool (compB (bl s))) ∧ Below w.heap.size w w' := by
  go_enter Tryz.func94, Tryz.ntmps94
  go_wp2_with (first
    | (go_at_call 98; refine (r_plain_any s _ hs).mono ?_; rintro e w1 ⟨rfl, hb1⟩)
    | (go_at_call 99; refine (r_divide_any s _ hs).mono ?_; rintro e w2 ⟨v2, xs2, rfl, hx2, hv2, hb2⟩; obtain ⟨a2, c2, rfl, -, -, -⟩ := hv2.shape; have HX2 := Lib.hid hx2; clear hx2 hv2))
  all_goals (go_ret; refine ⟨ret_bool ?_, by first | exact Below.refl _ _ | exact below_next hb1 hb2 | exact hb1⟩)
  all_goals (rw [Bool.eq_iff_iff]; simp only [toList_bl] at *)
  all_goals (first | (have hq := div_one HX2.out; simp_all [compB, size_bl]; done) | (simp_all [compB, size_bl]; done) | (simp_all [compB, size_bl]; omega) | (have hq := div_one HX2.out; simp_all [compB, size_bl]; intro _; omega))

end Go.Proofs.YtndgmcggckpgfaaGreatDoor

/- Contracts of the reference of package manifest: Item. -/
namespace Go.Proofs.YtndgmcggckpgfaaGreatDoor
open Go.RowKit


set_option maxHeartbeats 1000000 in
theorem component_big (s : ByteArray) (w : World) (hs : 64 < s.size) (hm : s.size ≤ maxLen) : Calls Tryz.prog 94 #[.string s] w fun e w' => e = .returned (.bool (compB (bl s))) ∧ Below w.heap.size w w' := by
  have HF := Lib.hid (show compB (bl s) = false by
    have h1 : decide ((bl s).length ≤ 64) = false := by rw [← size_bl]; simp; omega
    unfold compB; rw [h1]; simp)
  unfold maxLen at hm
  go_enter Tryz.func94, Tryz.ntmps94
  go_wp2_with fail
  all_goals (go_ret; exact ⟨ret_bool HF.out.symm, Below.refl _ _⟩)
theorem component_is (s : ByteArray) (b : Bool) (w : World) (hs : s.size ≤ maxLen) (h : compB (bl s) = b) : Calls Tryz.prog 94 #[.string s] w fun e w' => e = .returned (.bool b) ∧ Below w.heap.size w w' := by
  rw [← h]
  by_cases h64 : s.size ≤ 64
  · exact r_component_any s w (by omega)
  · exact component_big s w (by omega) hs
theorem vItem_comp (it : Item) : vItem it = (compB (bl it.name) && (decide (0 ≤ it.mode) && decide (it.mode ≤ 511) && decide (0 ≤ it.time)) && vBody it) := by
  unfold vItem vHead; rw [comp_valid]
set_option maxRecDepth 100000 in
set_option maxHeartbeats 2000000 in
theorem item24_any : ItemFOf := by
  intro S it cv w hcv hok
  obtain ⟨a, cap, rfl, hc, hm, -⟩ := SeqAt.shape hcv RefR.len
  unfold maxLen at hm
  have HV := Lib.hid hcv
  have HO := Lib.hid hok
  have hq1 := hok.nm
  have hq2 := hok.lk
  unfold maxLen at hq1 hq2
  have heq : ∀ w, (Op.equalIn 10000 43 (.agg #[.string it.node.name, .int .i64 it.node.gen, .int .i64 it.node.size]) (.agg #[.string ⟨#[]⟩, .int .i64 0, .int .i64 0])).run Tryz.prog w = .ok (decide (it.node = noRef)) w := fun w => eqRef it.node noRef w
  have HL := Lib.hid (show it.link.toList = [] ↔ it.link.size = 0 by rw [toList_bl, size_bl]; simp)
  clear hcv hok
  unfold itemV
  cases hv : compB (bl it.name)
  · have HVP := Lib.hid hv
    clear hv
    go_enter Tryz.func82, Tryz.ntmps82
    go_wp2_with fail
    obtain ⟨W, hW⟩ : ∃ W, W = w.alloc (.cells #[.string it.name, .int .i64 it.kind, .int .i64 it.mode, .int .i64 it.time, .int .i64 it.size, .string it.link, .slice a it.chunks.length cap, .string it.node.name, .int .i64 it.node.gen, .int .i64 it.node.size] 76) := ⟨_, rfl⟩
    rw [← hW]
    have HBW := Lib.hid (show Below w.heap.size w W by rw [hW]; exact (Below.refl _ _).alloc (Nat.le_refl _) _)
    have HBX := Lib.hid (show W.heap[w.heap.size]? = some (.cells #[.string it.name, .int .i64 it.kind, .int .i64 it.mode, .int .i64 it.time, .int .i64 it.size, .string it.link, .slice a it.chunks.length cap, .string it.node.name, .int .i64 it.node.gen, .int .i64 it.node.size] 76 (0, 0)) by rw [hW]; exact heap_alloc_new w _)
    clear hW
    refine (component_is it.name false _ HO.out.nm HVP.out).mono ?_
    rintro e w1 ⟨rfl, hb1⟩
    have HBXr := Lib.hid ((hb1.block w.heap.size ((Array.getElem?_eq_some_iff.1 HBX.out).1)).trans HBX.out)
    have HB1 := Lib.hid (below_next HBW.out hb1)
    have hlt1 : w.heap.size < w1.heap.size := (Array.getElem?_eq_some_iff.1 HBXr.out).1
    have c0 := cellH (k := 0) HBXr.out
    have c1 := cellH (k := 1) HBXr.out
    have c2 := cellH (k := 2) HBXr.out
    have c3 := cellH (k := 3) HBXr.out
    have c4 := cellH (k := 4) HBXr.out
    have c5 := cellH (k := 5) HBXr.out
    have c6 := cellH (k := 6) HBXr.out
    have c7 := cellH (k := 7) HBXr.out
    have c8 := cellH (k := 8) HBXr.out
    have c9 := cellH (k := 9) HBXr.out
    simp only [List.getElem?_toArray, List.getElem?_cons_succ, List.getElem?_cons_zero] at c0 c1 c2 c3 c4 c5 c6 c7 c8 c9
    clear hb1 HBX
    go_wp2_with fail
    go_ret
    exact ⟨ret_bool (by rw [vItem_comp, HVP.out]; rfl), HB1.out⟩
  · have HVP := Lib.hid hv
    clear hv
    by_cases hmt : 0 ≤ it.mode ∧ it.mode ≤ 511 ∧ 0 ≤ it.time
    · have HH := Lib.hid (show vItem it = vBody it by obtain ⟨x1, x2, x3⟩ := hmt; rw [vItem_comp, HVP.out]; simp [x1, x2, x3])
      obtain ⟨hm1, hm2, hm3⟩ := hmt
      by_cases hk2 : it.kind = 2
      · have hvb : vBody it = (decide (it.link.size = 0) && decide (it.size = 0) && decide (it.chunks.length = 0) && vRef it.node) := by unfold vBody; rw [if_neg (by omega), if_pos hk2]
        have e1 : (it.kind == 1) = false := by simp [hk2]
        have e5 : (it.kind == 2) = true := by simp [hk2]
        have e2 : (it.kind != 1) = true := by simp [hk2]
        have e3 : (it.kind != 2) = false := by simp [hk2]
        have e4 : (it.kind != 3) = true := by simp [hk2]
        clear hk2
        by_cases hch : it.chunks.length = 0
        · have hc0 : ¬ 0 < it.chunks.length := by omega
          by_cases hsz : it.size = 0
          · have es : (it.size != 0) = false := by simp [hsz]
            by_cases hl : it.link.size = 0
            · have hl2 : it.link.toList = [] := HL.out.2 hl
              have HK := Lib.hid (show vBody it = vRef it.node by rw [hvb, hch, hsz, hl]; simp)
              clear hvb hch hsz hl
              go_enter Tryz.func82, Tryz.ntmps82
              go_wp2_with fail
              obtain ⟨W, hW⟩ : ∃ W, W = w.alloc (.cells #[.string it.name, .int .i64 it.kind, .int .i64 it.mode, .int .i64 it.time, .int .i64 it.size, .string it.link, .slice a it.chunks.length cap, .string it.node.name, .int .i64 it.node.gen, .int .i64 it.node.size] 76) := ⟨_, rfl⟩
              rw [← hW]
              have HBW := Lib.hid (show Below w.heap.size w W by rw [hW]; exact (Below.refl _ _).alloc (Nat.le_refl _) _)
              have HBX := Lib.hid (show W.heap[w.heap.size]? = some (.cells #[.string it.name, .int .i64 it.kind, .int .i64 it.mode, .int .i64 it.time, .int .i64 it.size, .string it.link, .slice a it.chunks.length cap, .string it.node.name, .int .i64 it.node.gen, .int .i64 it.node.size] 76 (0, 0)) by rw [hW]; exact heap_alloc_new w _)
              clear hW
              refine (component_is it.name true _ HO.out.nm HVP.out).mono ?_
              rintro e w1 ⟨rfl, hb1⟩
              have HBXr := Lib.hid ((hb1.block w.heap.size ((Array.getElem?_eq_some_iff.1 HBX.out).1)).trans HBX.out)
              have HB1 := Lib.hid (below_next HBW.out hb1)
              have hlt1 : w.heap.size < w1.heap.size := (Array.getElem?_eq_some_iff.1 HBXr.out).1
              have c0 := cellH (k := 0) HBXr.out
              have c1 := cellH (k := 1) HBXr.out
              have c2 := cellH (k := 2) HBXr.out
              have c3 := cellH (k := 3) HBXr.out
              have c4 := cellH (k := 4) HBXr.out
              have c5 := cellH (k := 5) HBXr.out
              have c6 := cellH (k := 6) HBXr.out
              have c7 := cellH (k := 7) HBXr.out
              have c8 := cellH (k := 8) HBXr.out
              have c9 := cellH (k := 9) HBXr.out
              simp only [List.getElem?_toArray, List.getElem?_cons_succ, List.getElem?_cons_zero] at c0 c1 c2 c3 c4 c5 c6 c7 c8 c9
              clear hb1 HBX
              go_wp2_with fail
              refine (ref24_any it.node _ HO.out.nd).mono ?_
              rintro e w2 ⟨rfl, hb2⟩
              have HB2 := Lib.hid (below_next HB1.out hb2)
              clear hb2
              go_wp2_with fail
              go_ret
              exact ⟨ret_bool (by rw [HH.out, HK.out]), HB2.out⟩
            · have hl2 : ¬ it.link.toList = [] := fun h => hl (HL.out.1 h)
              have hl3 : it.link.toList.isEmpty = false := by rw [List.isEmpty_eq_false_iff]; exact hl2
              have HK := Lib.hid (show vBody it = false by rw [hvb]; simp [hl])
              clear hvb hch hsz hl
              go_enter Tryz.func82, Tryz.ntmps82
              go_wp2_with fail
              obtain ⟨W, hW⟩ : ∃ W, W = w.alloc (.cells #[.string it.name, .int .i64 it.kind, .int .i64 it.mode, .int .i64 it.time, .int .i64 it.size, .string it.link, .slice a it.chunks.length cap, .string it.node.name, .int .i64 it.node.gen, .int .i64 it.node.size] 76) := ⟨_, rfl⟩
              rw [← hW]
              have HBW := Lib.hid (show Below w.heap.size w W by rw [hW]; exact (Below.refl _ _).alloc (Nat.le_refl _) _)
              have HBX := Lib.hid (show W.heap[w.heap.size]? = some (.cells #[.string it.name, .int .i64 it.kind, .int .i64 it.mode, .int .i64 it.time, .int .i64 it.size, .string it.link, .slice a it.chunks.length cap, .string it.node.name, .int .i64 it.node.gen, .int .i64 it.node.size] 76 (0, 0)) by rw [hW]; exact heap_alloc_new w _)
              clear hW
              refine (component_is it.name true _ HO.out.nm HVP.out).mono ?_
              rintro e w1 ⟨rfl, hb1⟩
              have HBXr := Lib.hid ((hb1.block w.heap.size ((Array.getElem?_eq_some_iff.1 HBX.out).1)).trans HBX.out)
              have HB1 := Lib.hid (below_next HBW.out hb1)
              have hlt1 : w.heap.size < w1.heap.size := (Array.getElem?_eq_some_iff.1 HBXr.out).1
              have c0 := cellH (k := 0) HBXr.out
              have c1 := cellH (k := 1) HBXr.out
              have c2 := cellH (k := 2) HBXr.out
              have c3 := cellH (k := 3) HBXr.out
              have c4 := cellH (k := 4) HBXr.out
              have c5 := cellH (k := 5) HBXr.out
              have c6 := cellH (k := 6) HBXr.out
              have c7 := cellH (k := 7) HBXr.out
              have c8 := cellH (k := 8) HBXr.out
              have c9 := cellH (k := 9) HBXr.out
              simp only [List.getElem?_toArray, List.getElem?_cons_succ, List.getElem?_cons_zero] at c0 c1 c2 c3 c4 c5 c6 c7 c8 c9
              clear hb1 HBX
              go_wp2_with fail
              all_goals (go_ret; exact ⟨ret_bool (by rw [HH.out, HK.out]), HB1.out⟩)
          · have es : (it.size != 0) = true := by simp [hsz]
            have HK := Lib.hid (show vBody it = false by rw [hvb]; simp [hsz])
            clear hvb hch hsz
            go_enter Tryz.func82, Tryz.ntmps82
            go_wp2_with fail
            obtain ⟨W, hW⟩ : ∃ W, W = w.alloc (.cells #[.string it.name, .int .i64 it.kind, .int .i64 it.mode, .int .i64 it.time, .int .i64 it.size, .string it.link, .slice a it.chunks.length cap, .string it.node.name, .int .i64 it.node.gen, .int .i64 it.node.size] 76) := ⟨_, rfl⟩
            rw [← hW]
            have HBW := Lib.hid (show Below w.heap.size w W by rw [hW]; exact (Below.refl _ _).alloc (Nat.le_refl _) _)
            have HBX := Lib.hid (show W.heap[w.heap.size]? = some (.cells #[.string it.name, .int .i64 it.kind, .int .i64 it.mode, .int .i64 it.time, .int .i64 it.size, .string it.link, .slice a it.chunks.length cap, .string it.node.name, .int .i64 it.node.gen, .int .i64 it.node.size] 76 (0, 0)) by rw [hW]; exact heap_alloc_new w _)
            clear hW
            refine (component_is it.name true _ HO.out.nm HVP.out).mono ?_
            rintro e w1 ⟨rfl, hb1⟩
            have HBXr := Lib.hid ((hb1.block w.heap.size ((Array.getElem?_eq_some_iff.1 HBX.out).1)).trans HBX.out)
            have HB1 := Lib.hid (below_next HBW.out hb1)
            have hlt1 : w.heap.size < w1.heap.size := (Array.getElem?_eq_some_iff.1 HBXr.out).1
            have c0 := cellH (k := 0) HBXr.out
            have c1 := cellH (k := 1) HBXr.out
            have c2 := cellH (k := 2) HBXr.out
            have c3 := cellH (k := 3) HBXr.out
            have c4 := cellH (k := 4) HBXr.out
            have c5 := cellH (k := 5) HBXr.out
            have c6 := cellH (k := 6) HBXr.out
            have c7 := cellH (k := 7) HBXr.out
            have c8 := cellH (k := 8) HBXr.out
            have c9 := cellH (k := 9) HBXr.out
            simp only [List.getElem?_toArray, List.getElem?_cons_succ, List.getElem?_cons_zero] at c0 c1 c2 c3 c4 c5 c6 c7 c8 c9
            clear hb1 HBX
            go_wp2_with fail
            all_goals (go_ret; exact ⟨ret_bool (by rw [HH.out, HK.out]), HB1.out⟩)
        · have hc0 : 0 < it.chunks.length := by omega
          have HK := Lib.hid (show vBody it = false by rw [hvb]; simp [hch])
          clear hvb hch
          go_enter Tryz.func82, Tryz.ntmps82
          go_wp2_with fail
          obtain ⟨W, hW⟩ : ∃ W, W = w.alloc (.cells #[.string it.name, .int .i64 it.kind, .int .i64 it.mode, .int .i64 it.time, .int .i64 it.size, .string it.link, .slice a it.chunks.length cap, .string it.node.name, .int .i64 it.node.gen, .int .i64 it.node.size] 76) := ⟨_, rfl⟩
          rw [← hW]
          have HBW := Lib.hid (show Below w.heap.size w W by rw [hW]; exact (Below.refl _ _).alloc (Nat.le_refl _) _)
          have HBX := Lib.hid (show W.heap[w.heap.size]? = some (.cells #[.string it.name, .int .i64 it.kind, .int .i64 it.mode, .int .i64 it.time, .int .i64 it.size, .string it.link, .slice a it.chunks.length cap, .string it.node.name, .int .i64 it.node.gen, .int .i64 it.node.size] 76 (0, 0)) by rw [hW]; exact heap_alloc_new w _)
          clear hW
          refine (component_is it.name true _ HO.out.nm HVP.out).mono ?_
          rintro e w1 ⟨rfl, hb1⟩
          have HBXr := Lib.hid ((hb1.block w.heap.size ((Array.getElem?_eq_some_iff.1 HBX.out).1)).trans HBX.out)
          have HB1 := Lib.hid (below_next HBW.out hb1)
          have hlt1 : w.heap.size < w1.heap.size := (Array.getElem?_eq_some_iff.1 HBXr.out).1
          have c0 := cellH (k := 0) HBXr.out
          have c1 := cellH (k := 1) HBXr.out
          have c2 := cellH (k := 2) HBXr.out
          have c3 := cellH (k := 3) HBXr.out
          have c4 := cellH (k := 4) HBXr.out
          have c5 := cellH (k := 5) HBXr.out
          have c6 := cellH (k := 6) HBXr.out
          have c7 := cellH (k := 7) HBXr.out
          have c8 := cellH (k := 8) HBXr.out
          have c9 := cellH (k := 9) HBXr.out
          simp only [List.getElem?_toArray, List.getElem?_cons_succ, List.getElem?_cons_zero] at c0 c1 c2 c3 c4 c5 c6 c7 c8 c9
          clear hb1 HBX
          go_wp2_with fail
          all_goals (go_ret; exact ⟨ret_bool (by rw [HH.out, HK.out]), HB1.out⟩)
      · by_cases hn : it.node = noRef
        · have en : decide (it.node = noRef) = true := by simp [hn]
          have HN := Lib.hid hn
          clear hn
          by_cases hk1 : it.kind = 1
          · have hvb : vBody it = (decide (it.link.size = 0) && decide (it.node = noRef) && vChunks it) := by unfold vBody; rw [if_pos hk1]
            have e1 : (it.kind == 1) = true := by simp [hk1]
            have e2 : (it.kind != 1) = false := by simp [hk1]
            have e3 : (it.kind != 2) = true := by simp [hk1]
            have e4 : (it.kind != 3) = true := by simp [hk1]
            clear hk1 hk2
            by_cases hl : it.link.size = 0
            · have hl2 : it.link.toList = [] := HL.out.2 hl
              have HK := Lib.hid (show vBody it = vChunks it by rw [hvb, HN.out, hl]; simp)
              clear hvb hl
              go_enter Tryz.func82, Tryz.ntmps82
              go_wp2_with fail
              obtain ⟨W, hW⟩ : ∃ W, W = w.alloc (.cells #[.string it.name, .int .i64 it.kind, .int .i64 it.mode, .int .i64 it.time, .int .i64 it.size, .string it.link, .slice a it.chunks.length cap, .string it.node.name, .int .i64 it.node.gen, .int .i64 it.node.size] 76) := ⟨_, rfl⟩
              rw [← hW]
              have HBW := Lib.hid (show Below w.heap.size w W by rw [hW]; exact (Below.refl _ _).alloc (Nat.le_refl _) _)
              have HBX := Lib.hid (show W.heap[w.heap.size]? = some (.cells #[.string it.name, .int .i64 it.kind, .int .i64 it.mode, .int .i64 it.time, .int .i64 it.size, .string it.link, .slice a it.chunks.length cap, .string it.node.name, .int .i64 it.node.gen, .int .i64 it.node.size] 76 (0, 0)) by rw [hW]; exact heap_alloc_new w _)
              clear hW
              refine (component_is it.name true _ HO.out.nm HVP.out).mono ?_
              rintro e w1 ⟨rfl, hb1⟩
              have HBXr := Lib.hid ((hb1.block w.heap.size ((Array.getElem?_eq_some_iff.1 HBX.out).1)).trans HBX.out)
              have HB1 := Lib.hid (below_next HBW.out hb1)
              have hlt1 : w.heap.size < w1.heap.size := (Array.getElem?_eq_some_iff.1 HBXr.out).1
              have c0 := cellH (k := 0) HBXr.out
              have c1 := cellH (k := 1) HBXr.out
              have c2 := cellH (k := 2) HBXr.out
              have c3 := cellH (k := 3) HBXr.out
              have c4 := cellH (k := 4) HBXr.out
              have c5 := cellH (k := 5) HBXr.out
              have c6 := cellH (k := 6) HBXr.out
              have c7 := cellH (k := 7) HBXr.out
              have c8 := cellH (k := 8) HBXr.out
              have c9 := cellH (k := 9) HBXr.out
              simp only [List.getElem?_toArray, List.getElem?_cons_succ, List.getElem?_cons_zero] at c0 c1 c2 c3 c4 c5 c6 c7 c8 c9
              clear hb1 HBX
              go_wp2_with fail
              clear c0 c1 c2 c3 c4 c5 c6 c7 c8 c9 e1 e2 e3 e4 en hl2
              go_loopw [3, 4] (fun sm i wr => ∃ k : Nat, k ≤ it.chunks.length ∧ i = .int .i64 k ∧ sm = .int .i64 (totW (it.chunks.take k)) ∧ (it.chunks.take k).all vPiece = true ∧ Below w1.heap.size w1 wr) (fun _ i _ => it.chunks.length - (intOf i).toNat)
              case atStart => exact ⟨0, Nat.zero_le _, rfl, rfl, rfl, Below.refl _ _⟩
              case round =>
                obtain ⟨k, hk, rfl, rfl, hal, hb⟩ := hrel
                have HB := Lib.hid hb
                have HA := Lib.hid hal
                clear hb hal
                have HBXw := Lib.hid ((HB.out.block w.heap.size hlt1).trans HBXr.out)
                have c4 := cellH (k := 4) HBXw.out
                have c6 := cellH (k := 6) HBXw.out
                simp only [List.getElem?_toArray, List.getElem?_cons_succ, List.getElem?_cons_zero] at c4 c6
                by_cases hlt : k < it.chunks.length
                · obtain ⟨r, hr⟩ : ∃ r, it.chunks[k]? = some r := ⟨it.chunks[k], by simp [hlt]⟩
                  obtain ⟨b, o, rfl, hok, q0, q1, q2⟩ := refs_at HV.out (below_next HB1.out HB.out) hr
                  have HR := Lib.hid hr
                  have HRO := Lib.hid hok
                  have HS := Lib.hid (show totW (it.chunks.take (k + 1)) = wrap64 (totW (it.chunks.take k) + r.size) by rw [take_snoc' hr, totW_snoc])
                  clear hr hok
                  cases hvr : vRef r
                  · have HF := Lib.hid (show vChunks it = false by unfold vChunks; rw [all_no HR.out (by simp [vPiece, hvr])]; rfl)
                    have HVR := Lib.hid hvr
                    clear hvr
                    go_wp2_with fail
                    refine (ref24_is r false _ HRO.out HVR.out).mono ?_
                    rintro e w2 ⟨rfl, hb2⟩
                    have HB2 := Lib.hid (below_next HB.out hb2)
                    clear hb2
                    go_wp2_with fail
                    go_ret
                    exact ⟨ret_bool (by rw [HH.out, HK.out, HF.out]), below_next HB1.out HB2.out⟩
                  · have HVR := Lib.hid hvr
                    have hrs : 0 ≤ r.size := by
                      simp only [vRef, Bool.and_eq_true, decide_eq_true_eq] at hvr
                      exact hvr.1.2
                    clear hvr
                    by_cases hs : r.size = 0
                    · have HF := Lib.hid (show vChunks it = false by unfold vChunks; rw [all_no HR.out (by simp [vPiece, HVR.out]; omega)]; rfl)
                      have es : (r.size == 0) = true := by simp [hs]
                      clear hs
                      go_wp2_with fail
                      refine (ref24_is r true _ HRO.out HVR.out).mono ?_
                      rintro e w2 ⟨rfl, hb2⟩
                      have HB2 := Lib.hid (below_next HB.out hb2)
                      have d2 := (hb2.cell (block_lt q2)).trans q2
                      have d6 := (hb2.cell (block_lt c6)).trans c6
                      clear hb2 q0 q1 q2
                      go_wp2_with fail
                      go_ret
                      exact ⟨ret_bool (by rw [HH.out, HK.out, HF.out]), below_next HB1.out HB2.out⟩
                    · have es : (r.size == 0) = false := by simp [hs]
                      have HP := Lib.hid (show vPiece r = true by simp [vPiece, HVR.out]; omega)
                      clear hs hrs
                      go_wp2_with fail
                      refine (ref24_is r true _ HRO.out HVR.out).mono ?_
                      rintro e w2 ⟨rfl, hb2⟩
                      have HB2 := Lib.hid (below_next HB.out hb2)
                      have d2 := (hb2.cell (block_lt q2)).trans q2
                      have d6 := (hb2.cell (block_lt c6)).trans c6
                      clear hb2 q0 q1 q2
                      go_wp2_with fail
                      go_roundw
                      case rel => exact ⟨k + 1, by omega, by go_num, by rw [HS.out], all_take HA.out HR.out HP.out, HB2.out⟩
                      case measure => simp [intOf]; omega
                · obtain rfl : k = it.chunks.length := by omega
                  have hall : it.chunks.all vPiece = true := by
                    have := HA.out
                    rwa [List.take_of_length_le (Nat.le_refl _)] at this
                  have HALL := Lib.hid hall
                  have HTK := Lib.hid (show it.chunks.take it.chunks.length = it.chunks from List.take_of_length_le (Nat.le_refl _))
                  obtain ⟨tw, htw⟩ : ∃ tw : Int, tw = totW (it.chunks.take it.chunks.length) := ⟨_, rfl⟩
                  rw [← htw]
                  have HTW := Lib.hid htw
                  clear hall htw
                  by_cases hsz : tw = it.size
                  · have e5 : (tw == it.size) = true := by simp [hsz]
                    have HSZ := Lib.hid hsz
                    clear hsz
                    by_cases hmx : tw ≤ 1048576
                    · have HVC := Lib.hid (show vChunks it = true by
                        unfold vChunks; rw [HALL.out]
                        have h1 := HTW.out
                        rw [HTK.out] at h1
                        have h2 := HSZ.out
                        simp only [Bool.true_and, Bool.and_eq_true, decide_eq_true_eq]
                        omega)
                      go_wp2_with fail
                      go_ret
                      exact ⟨ret_bool (by rw [HH.out, HK.out, HVC.out]), below_next HB1.out HB.out⟩
                    · have HVC := Lib.hid (show vChunks it = false by
                        unfold vChunks; rw [HALL.out]
                        have h1 := HTW.out
                        rw [HTK.out] at h1
                        have h2 := HSZ.out
                        rw [Bool.eq_false_iff]
                        simp only [Bool.true_and, ne_eq, Bool.and_eq_true, decide_eq_true_eq]
                        omega)
                      go_wp2_with fail
                      go_ret
                      exact ⟨ret_bool (by rw [HH.out, HK.out, HVC.out]), below_next HB1.out HB.out⟩
                  · have e5 : (tw == it.size) = false := by simp [hsz]
                    have HVC := Lib.hid (show vChunks it = false by
                      unfold vChunks; rw [HALL.out]
                      have h1 := HTW.out
                      rw [HTK.out] at h1
                      rw [Bool.eq_false_iff]
                      simp only [Bool.true_and, ne_eq, Bool.and_eq_true, decide_eq_true_eq]
                      omega)
                    clear hsz
                    go_wp2_with fail
                    go_ret
                    exact ⟨ret_bool (by rw [HH.out, HK.out, HVC.out]), below_next HB1.out HB.out⟩
            · have hl2 : ¬ it.link.toList = [] := fun h => hl (HL.out.1 h)
              have hl3 : it.link.toList.isEmpty = false := by rw [List.isEmpty_eq_false_iff]; exact hl2
              have HK := Lib.hid (show vBody it = false by rw [hvb]; simp [hl])
              clear hvb hl
              go_enter Tryz.func82, Tryz.ntmps82
              go_wp2_with fail
              obtain ⟨W, hW⟩ : ∃ W, W = w.alloc (.cells #[.string it.name, .int .i64 it.kind, .int .i64 it.mode, .int .i64 it.time, .int .i64 it.size, .string it.link, .slice a it.chunks.length cap, .string it.node.name, .int .i64 it.node.gen, .int .i64 it.node.size] 76) := ⟨_, rfl⟩
              rw [← hW]
              have HBW := Lib.hid (show Below w.heap.size w W by rw [hW]; exact (Below.refl _ _).alloc (Nat.le_refl _) _)
              have HBX := Lib.hid (show W.heap[w.heap.size]? = some (.cells #[.string it.name, .int .i64 it.kind, .int .i64 it.mode, .int .i64 it.time, .int .i64 it.size, .string it.link, .slice a it.chunks.length cap, .string it.node.name, .int .i64 it.node.gen, .int .i64 it.node.size] 76 (0, 0)) by rw [hW]; exact heap_alloc_new w _)
              clear hW
              refine (component_is it.name true _ HO.out.nm HVP.out).mono ?_
              rintro e w1 ⟨rfl, hb1⟩
              have HBXr := Lib.hid ((hb1.block w.heap.size ((Array.getElem?_eq_some_iff.1 HBX.out).1)).trans HBX.out)
              have HB1 := Lib.hid (below_next HBW.out hb1)
              have hlt1 : w.heap.size < w1.heap.size := (Array.getElem?_eq_some_iff.1 HBXr.out).1
              have c0 := cellH (k := 0) HBXr.out
              have c1 := cellH (k := 1) HBXr.out
              have c2 := cellH (k := 2) HBXr.out
              have c3 := cellH (k := 3) HBXr.out
              have c4 := cellH (k := 4) HBXr.out
              have c5 := cellH (k := 5) HBXr.out
              have c6 := cellH (k := 6) HBXr.out
              have c7 := cellH (k := 7) HBXr.out
              have c8 := cellH (k := 8) HBXr.out
              have c9 := cellH (k := 9) HBXr.out
              simp only [List.getElem?_toArray, List.getElem?_cons_succ, List.getElem?_cons_zero] at c0 c1 c2 c3 c4 c5 c6 c7 c8 c9
              clear hb1 HBX
              go_wp2_with fail
              all_goals (go_ret; exact ⟨ret_bool (by rw [HH.out, HK.out]), HB1.out⟩)
          · have e1 : (it.kind == 1) = false := by simp [hk1]
            have e5 : (it.kind == 2) = false := by simp [hk2]
            have e2 : (it.kind != 1) = true := by simp [hk1]
            have e3 : (it.kind != 2) = true := by simp [hk2]
            by_cases hk3 : it.kind = 3
            · have hvb : vBody it = ((decide (it.size = 0) && decide (it.chunks.length = 0) && decide (it.node = noRef)) && (decide (1 ≤ it.link.size) && decide (it.link.size ≤ 512) && !(bl it.link).contains 0)) := by unfold vBody; rw [if_neg hk1, if_neg hk2, if_pos hk3]
              have e6 : (it.kind == 3) = true := by simp [hk3]
              have e4 : (it.kind != 3) = false := by simp [hk3]
              clear hk1 hk2 hk3
              by_cases hch : it.chunks.length = 0
              · have hc0 : ¬ 0 < it.chunks.length := by omega
                by_cases hsz : it.size = 0
                · have es : (it.size != 0) = false := by simp [hsz]
                  have HK := Lib.hid (show vBody it = (decide (1 ≤ it.link.size) && decide (it.link.size ≤ 512) && !(bl it.link).contains 0) by rw [hvb, HN.out, hch, hsz]; simp)
                  clear hvb hch hsz
                  go_enter Tryz.func82, Tryz.ntmps82
                  go_wp2_with fail
                  obtain ⟨W, hW⟩ : ∃ W, W = w.alloc (.cells #[.string it.name, .int .i64 it.kind, .int .i64 it.mode, .int .i64 it.time, .int .i64 it.size, .string it.link, .slice a it.chunks.length cap, .string it.node.name, .int .i64 it.node.gen, .int .i64 it.node.size] 76) := ⟨_, rfl⟩
                  rw [← hW]
                  have HBW := Lib.hid (show Below w.heap.size w W by rw [hW]; exact (Below.refl _ _).alloc (Nat.le_refl _) _)
                  have HBX := Lib.hid (show W.heap[w.heap.size]? = some (.cells #[.string it.name, .int .i64 it.kind, .int .i64 it.mode, .int .i64 it.time, .int .i64 it.size, .string it.link, .slice a it.chunks.length cap, .string it.node.name, .int .i64 it.node.gen, .int .i64 it.node.size] 76 (0, 0)) by rw [hW]; exact heap_alloc_new w _)
                  clear hW
                  refine (component_is it.name true _ HO.out.nm HVP.out).mono ?_
                  rintro e w1 ⟨rfl, hb1⟩
                  have HBXr := Lib.hid ((hb1.block w.heap.size ((Array.getElem?_eq_some_iff.1 HBX.out).1)).trans HBX.out)
                  have HB1 := Lib.hid (below_next HBW.out hb1)
                  have hlt1 : w.heap.size < w1.heap.size := (Array.getElem?_eq_some_iff.1 HBXr.out).1
                  have c0 := cellH (k := 0) HBXr.out
                  have c1 := cellH (k := 1) HBXr.out
                  have c2 := cellH (k := 2) HBXr.out
                  have c3 := cellH (k := 3) HBXr.out
                  have c4 := cellH (k := 4) HBXr.out
                  have c5 := cellH (k := 5) HBXr.out
                  have c6 := cellH (k := 6) HBXr.out
                  have c7 := cellH (k := 7) HBXr.out
                  have c8 := cellH (k := 8) HBXr.out
                  have c9 := cellH (k := 9) HBXr.out
                  simp only [List.getElem?_toArray, List.getElem?_cons_succ, List.getElem?_cons_zero] at c0 c1 c2 c3 c4 c5 c6 c7 c8 c9
                  clear hb1 HBX
                  go_wp2_with fail
                  clear c0 c1 c2 c3 c4 c5 c6 c7 c8 c9 e1 e2 e3 e4 e5 e6 en es hc0
                  go_loopw [5] (fun i wr => ∃ k : Nat, k ≤ it.link.size ∧ i = .int .i64 k ∧ ((bl it.link).take k).contains 0 = false ∧ wr = w1) (fun i _ => it.link.size - (intOf i).toNat)
                  case atStart => exact ⟨0, Nat.zero_le _, rfl, rfl, rfl⟩
                  case round =>
                    obtain ⟨k, hk, rfl, hct, rfl⟩ := hrel
                    have HCT := Lib.hid hct
                    clear hct
                    have c5 := cellH (k := 5) HBXr.out
                    simp only [List.getElem?_toArray, List.getElem?_cons_succ, List.getElem?_cons_zero] at c5
                    have hsb : it.link.size = (bl it.link).length := size_bl _
                    have HSB := Lib.hid hsb
                    clear hsb
                    by_cases hlt : k < it.link.size
                    · have HGB := Lib.hid (show (bl it.link)[k]? = some it.link[k] by rw [byte_bl, List.getElem?_eq_getElem (by rw [← HSB.out]; exact hlt)])
                      by_cases hz : it.link[k] = 0
                      · have ez : (((it.link[k]).toNat : Int) == 0) = true := by simp [hz]
                        have HC := Lib.hid (show (bl it.link).contains 0 = true by
                          have h1 := HGB.out
                          rw [hz] at h1
                          rw [List.contains_iff_mem]
                          exact List.mem_of_getElem? h1)
                        clear hz
                        go_wp2_with fail
                        go_ret
                        exact ⟨ret_bool (by rw [HH.out, HK.out, HC.out]; simp), HB1.out⟩
                      · have ez : (((it.link[k]).toNat : Int) == 0) = false := by
                          simp only [beq_eq_false_iff_ne, ne_eq]
                          intro h
                          exact hz (UInt8.toNat_inj.1 (by simpa using h))
                        have HC := Lib.hid (show ((bl it.link).take (k + 1)).contains 0 = false by
                          have h2 := HCT.out
                          rw [take_snoc' HGB.out, Bool.eq_false_iff, ne_eq, List.contains_iff_mem, List.mem_append, List.mem_singleton]
                          rintro (h | h)
                          · rw [Bool.eq_false_iff, ne_eq, List.contains_iff_mem] at h2
                            exact h2 h
                          · exact hz h.symm)
                        clear hz
                        go_wp2_with fail
                        go_roundw
                        case rel => exact ⟨k + 1, by omega, by go_num, HC.out, by first | rfl | trivial⟩
                        case measure => simp [intOf]; omega
                    · obtain rfl : k = it.link.size := by omega
                      have HC := Lib.hid (show (bl it.link).contains 0 = false by
                        have := HCT.out
                        rwa [List.take_of_length_le (by rw [HSB.out]; exact Nat.le_refl _)] at this)
                      by_cases h1 : 1 ≤ it.link.size
                      · by_cases h2 : it.link.size ≤ 512
                        · have HV2 := Lib.hid (show vBody it = true by rw [HK.out, HC.out]; simp [h1, h2])
                          go_wp2_with fail
                          go_ret
                          exact ⟨ret_bool (by rw [HH.out, HV2.out] <;> (first | (simp; done) | (simp; omega))), HB1.out⟩
                        · have HV2 := Lib.hid (show vBody it = false by rw [HK.out, HC.out]; simp [h2])
                          go_wp2_with fail
                          go_ret
                          exact ⟨ret_bool (by rw [HH.out, HV2.out] <;> (first | (simp; done) | (simp; omega))), HB1.out⟩
                      · have HV2 := Lib.hid (show vBody it = false by rw [HK.out, HC.out]; simp [h1])
                        go_wp2_with fail
                        go_ret
                        exact ⟨ret_bool (by rw [HH.out, HV2.out] <;> (first | (simp; done) | (simp; omega))), HB1.out⟩
                · have es : (it.size != 0) = true := by simp [hsz]
                  have HK := Lib.hid (show vBody it = false by rw [hvb]; simp [hsz])
                  clear hvb hch hsz
                  go_enter Tryz.func82, Tryz.ntmps82
                  go_wp2_with fail
                  obtain ⟨W, hW⟩ : ∃ W, W = w.alloc (.cells #[.string it.name, .int .i64 it.kind, .int .i64 it.mode, .int .i64 it.time, .int .i64 it.size, .string it.link, .slice a it.chunks.length cap, .string it.node.name, .int .i64 it.node.gen, .int .i64 it.node.size] 76) := ⟨_, rfl⟩
                  rw [← hW]
                  have HBW := Lib.hid (show Below w.heap.size w W by rw [hW]; exact (Below.refl _ _).alloc (Nat.le_refl _) _)
                  have HBX := Lib.hid (show W.heap[w.heap.size]? = some (.cells #[.string it.name, .int .i64 it.kind, .int .i64 it.mode, .int .i64 it.time, .int .i64 it.size, .string it.link, .slice a it.chunks.length cap, .string it.node.name, .int .i64 it.node.gen, .int .i64 it.node.size] 76 (0, 0)) by rw [hW]; exact heap_alloc_new w _)
                  clear hW
                  refine (component_is it.name true _ HO.out.nm HVP.out).mono ?_
                  rintro e w1 ⟨rfl, hb1⟩
                  have HBXr := Lib.hid ((hb1.block w.heap.size ((Array.getElem?_eq_some_iff.1 HBX.out).1)).trans HBX.out)
                  have HB1 := Lib.hid (below_next HBW.out hb1)
                  have hlt1 : w.heap.size < w1.heap.size := (Array.getElem?_eq_some_iff.1 HBXr.out).1
                  have c0 := cellH (k := 0) HBXr.out
                  have c1 := cellH (k := 1) HBXr.out
                  have c2 := cellH (k := 2) HBXr.out
                  have c3 := cellH (k := 3) HBXr.out
                  have c4 := cellH (k := 4) HBXr.out
                  have c5 := cellH (k := 5) HBXr.out
                  have c6 := cellH (k := 6) HBXr.out
                  have c7 := cellH (k := 7) HBXr.out
                  have c8 := cellH (k := 8) HBXr.out
                  have c9 := cellH (k := 9) HBXr.out
                  simp only [List.getElem?_toArray, List.getElem?_cons_succ, List.getElem?_cons_zero] at c0 c1 c2 c3 c4 c5 c6 c7 c8 c9
                  clear hb1 HBX
                  go_wp2_with fail
                  all_goals (go_ret; exact ⟨ret_bool (by rw [HH.out, HK.out]), HB1.out⟩)
              · have hc0 : 0 < it.chunks.length := by omega
                have HK := Lib.hid (show vBody it = false by rw [hvb]; simp [hch])
                clear hvb hch
                go_enter Tryz.func82, Tryz.ntmps82
                go_wp2_with fail
                obtain ⟨W, hW⟩ : ∃ W, W = w.alloc (.cells #[.string it.name, .int .i64 it.kind, .int .i64 it.mode, .int .i64 it.time, .int .i64 it.size, .string it.link, .slice a it.chunks.length cap, .string it.node.name, .int .i64 it.node.gen, .int .i64 it.node.size] 76) := ⟨_, rfl⟩
                rw [← hW]
                have HBW := Lib.hid (show Below w.heap.size w W by rw [hW]; exact (Below.refl _ _).alloc (Nat.le_refl _) _)
                have HBX := Lib.hid (show W.heap[w.heap.size]? = some (.cells #[.string it.name, .int .i64 it.kind, .int .i64 it.mode, .int .i64 it.time, .int .i64 it.size, .string it.link, .slice a it.chunks.length cap, .string it.node.name, .int .i64 it.node.gen, .int .i64 it.node.size] 76 (0, 0)) by rw [hW]; exact heap_alloc_new w _)
                clear hW
                refine (component_is it.name true _ HO.out.nm HVP.out).mono ?_
                rintro e w1 ⟨rfl, hb1⟩
                have HBXr := Lib.hid ((hb1.block w.heap.size ((Array.getElem?_eq_some_iff.1 HBX.out).1)).trans HBX.out)
                have HB1 := Lib.hid (below_next HBW.out hb1)
                have hlt1 : w.heap.size < w1.heap.size := (Array.getElem?_eq_some_iff.1 HBXr.out).1
                have c0 := cellH (k := 0) HBXr.out
                have c1 := cellH (k := 1) HBXr.out
                have c2 := cellH (k := 2) HBXr.out
                have c3 := cellH (k := 3) HBXr.out
                have c4 := cellH (k := 4) HBXr.out
                have c5 := cellH (k := 5) HBXr.out
                have c6 := cellH (k := 6) HBXr.out
                have c7 := cellH (k := 7) HBXr.out
                have c8 := cellH (k := 8) HBXr.out
                have c9 := cellH (k := 9) HBXr.out
                simp only [List.getElem?_toArray, List.getElem?_cons_succ, List.getElem?_cons_zero] at c0 c1 c2 c3 c4 c5 c6 c7 c8 c9
                clear hb1 HBX
                go_wp2_with fail
                all_goals (go_ret; exact ⟨ret_bool (by rw [HH.out, HK.out]), HB1.out⟩)
            · have HK := Lib.hid (show vBody it = false by unfold vBody; rw [if_neg hk1, if_neg hk2, if_neg hk3])
              have e6 : (it.kind == 3) = false := by simp [hk3]
              have e4 : (it.kind != 3) = true := by simp [hk3]
              clear hk1 hk2 hk3
              by_cases hch : it.chunks.length = 0
              · have hc0 : ¬ 0 < it.chunks.length := by omega
                by_cases hsz : it.size = 0
                · have es : (it.size != 0) = false := by simp [hsz]
                  clear hch hsz
                  by_cases hl : it.link.size = 0
                  · have hl2 : it.link.toList = [] := HL.out.2 hl
                    clear hl
                    go_enter Tryz.func82, Tryz.ntmps82
                    go_wp2_with fail
                    obtain ⟨W, hW⟩ : ∃ W, W = w.alloc (.cells #[.string it.name, .int .i64 it.kind, .int .i64 it.mode, .int .i64 it.time, .int .i64 it.size, .string it.link, .slice a it.chunks.length cap, .string it.node.name, .int .i64 it.node.gen, .int .i64 it.node.size] 76) := ⟨_, rfl⟩
                    rw [← hW]
                    have HBW := Lib.hid (show Below w.heap.size w W by rw [hW]; exact (Below.refl _ _).alloc (Nat.le_refl _) _)
                    have HBX := Lib.hid (show W.heap[w.heap.size]? = some (.cells #[.string it.name, .int .i64 it.kind, .int .i64 it.mode, .int .i64 it.time, .int .i64 it.size, .string it.link, .slice a it.chunks.length cap, .string it.node.name, .int .i64 it.node.gen, .int .i64 it.node.size] 76 (0, 0)) by rw [hW]; exact heap_alloc_new w _)
                    clear hW
                    refine (component_is it.name true _ HO.out.nm HVP.out).mono ?_
                    rintro e w1 ⟨rfl, hb1⟩
                    have HBXr := Lib.hid ((hb1.block w.heap.size ((Array.getElem?_eq_some_iff.1 HBX.out).1)).trans HBX.out)
                    have HB1 := Lib.hid (below_next HBW.out hb1)
                    have hlt1 : w.heap.size < w1.heap.size := (Array.getElem?_eq_some_iff.1 HBXr.out).1
                    have c0 := cellH (k := 0) HBXr.out
                    have c1 := cellH (k := 1) HBXr.out
                    have c2 := cellH (k := 2) HBXr.out
                    have c3 := cellH (k := 3) HBXr.out
                    have c4 := cellH (k := 4) HBXr.out
                    have c5 := cellH (k := 5) HBXr.out
                    have c6 := cellH (k := 6) HBXr.out
                    have c7 := cellH (k := 7) HBXr.out
                    have c8 := cellH (k := 8) HBXr.out
                    have c9 := cellH (k := 9) HBXr.out
                    simp only [List.getElem?_toArray, List.getElem?_cons_succ, List.getElem?_cons_zero] at c0 c1 c2 c3 c4 c5 c6 c7 c8 c9
                    clear hb1 HBX
                    go_wp2_with fail
                    all_goals (go_ret; exact ⟨ret_bool (by rw [HH.out, HK.out]), HB1.out⟩)
                  · have hl2 : ¬ it.link.toList = [] := fun h => hl (HL.out.1 h)
                    have hl3 : it.link.toList.isEmpty = false := by rw [List.isEmpty_eq_false_iff]; exact hl2
                    clear hl
                    go_enter Tryz.func82, Tryz.ntmps82
                    go_wp2_with fail
                    obtain ⟨W, hW⟩ : ∃ W, W = w.alloc (.cells #[.string it.name, .int .i64 it.kind, .int .i64 it.mode, .int .i64 it.time, .int .i64 it.size, .string it.link, .slice a it.chunks.length cap, .string it.node.name, .int .i64 it.node.gen, .int .i64 it.node.size] 76) := ⟨_, rfl⟩
                    rw [← hW]
                    have HBW := Lib.hid (show Below w.heap.size w W by rw [hW]; exact (Below.refl _ _).alloc (Nat.le_refl _) _)
                    have HBX := Lib.hid (show W.heap[w.heap.size]? = some (.cells #[.string it.name, .int .i64 it.kind, .int .i64 it.mode, .int .i64 it.time, .int .i64 it.size, .string it.link, .slice a it.chunks.length cap, .string it.node.name, .int .i64 it.node.gen, .int .i64 it.node.size] 76 (0, 0)) by rw [hW]; exact heap_alloc_new w _)
                    clear hW
                    refine (component_is it.name true _ HO.out.nm HVP.out).mono ?_
                    rintro e w1 ⟨rfl, hb1⟩
                    have HBXr := Lib.hid ((hb1.block w.heap.size ((Array.getElem?_eq_some_iff.1 HBX.out).1)).trans HBX.out)
                    have HB1 := Lib.hid (below_next HBW.out hb1)
                    have hlt1 : w.heap.size < w1.heap.size := (Array.getElem?_eq_some_iff.1 HBXr.out).1
                    have c0 := cellH (k := 0) HBXr.out
                    have c1 := cellH (k := 1) HBXr.out
                    have c2 := cellH (k := 2) HBXr.out
                    have c3 := cellH (k := 3) HBXr.out
                    have c4 := cellH (k := 4) HBXr.out
                    have c5 := cellH (k := 5) HBXr.out
                    have c6 := cellH (k := 6) HBXr.out
                    have c7 := cellH (k := 7) HBXr.out
                    have c8 := cellH (k := 8) HBXr.out
                    have c9 := cellH (k := 9) HBXr.out
                    simp only [List.getElem?_toArray, List.getElem?_cons_succ, List.getElem?_cons_zero] at c0 c1 c2 c3 c4 c5 c6 c7 c8 c9
                    clear hb1 HBX
                    go_wp2_with fail
                    all_goals (go_ret; exact ⟨ret_bool (by rw [HH.out, HK.out]), HB1.out⟩)
                · have es : (it.size != 0) = true := by simp [hsz]
                  clear hch hsz
                  go_enter Tryz.func82, Tryz.ntmps82
                  go_wp2_with fail
                  obtain ⟨W, hW⟩ : ∃ W, W = w.alloc (.cells #[.string it.name, .int .i64 it.kind, .int .i64 it.mode, .int .i64 it.time, .int .i64 it.size, .string it.link, .slice a it.chunks.length cap, .string it.node.name, .int .i64 it.node.gen, .int .i64 it.node.size] 76) := ⟨_, rfl⟩
                  rw [← hW]
                  have HBW := Lib.hid (show Below w.heap.size w W by rw [hW]; exact (Below.refl _ _).alloc (Nat.le_refl _) _)
                  have HBX := Lib.hid (show W.heap[w.heap.size]? = some (.cells #[.string it.name, .int .i64 it.kind, .int .i64 it.mode, .int .i64 it.time, .int .i64 it.size, .string it.link, .slice a it.chunks.length cap, .string it.node.name, .int .i64 it.node.gen, .int .i64 it.node.size] 76 (0, 0)) by rw [hW]; exact heap_alloc_new w _)
                  clear hW
                  refine (component_is it.name true _ HO.out.nm HVP.out).mono ?_
                  rintro e w1 ⟨rfl, hb1⟩
                  have HBXr := Lib.hid ((hb1.block w.heap.size ((Array.getElem?_eq_some_iff.1 HBX.out).1)).trans HBX.out)
                  have HB1 := Lib.hid (below_next HBW.out hb1)
                  have hlt1 : w.heap.size < w1.heap.size := (Array.getElem?_eq_some_iff.1 HBXr.out).1
                  have c0 := cellH (k := 0) HBXr.out
                  have c1 := cellH (k := 1) HBXr.out
                  have c2 := cellH (k := 2) HBXr.out
                  have c3 := cellH (k := 3) HBXr.out
                  have c4 := cellH (k := 4) HBXr.out
                  have c5 := cellH (k := 5) HBXr.out
                  have c6 := cellH (k := 6) HBXr.out
                  have c7 := cellH (k := 7) HBXr.out
                  have c8 := cellH (k := 8) HBXr.out
                  have c9 := cellH (k := 9) HBXr.out
                  simp only [List.getElem?_toArray, List.getElem?_cons_succ, List.getElem?_cons_zero] at c0 c1 c2 c3 c4 c5 c6 c7 c8 c9
                  clear hb1 HBX
                  go_wp2_with fail
                  all_goals (go_ret; exact ⟨ret_bool (by rw [HH.out, HK.out]), HB1.out⟩)
              · have hc0 : 0 < it.chunks.length := by omega
                clear hch
                go_enter Tryz.func82, Tryz.ntmps82
                go_wp2_with fail
                obtain ⟨W, hW⟩ : ∃ W, W = w.alloc (.cells #[.string it.name, .int .i64 it.kind, .int .i64 it.mode, .int .i64 it.time, .int .i64 it.size, .string it.link, .slice a it.chunks.length cap, .string it.node.name, .int .i64 it.node.gen, .int .i64 it.node.size] 76) := ⟨_, rfl⟩
                rw [← hW]
                have HBW := Lib.hid (show Below w.heap.size w W by rw [hW]; exact (Below.refl _ _).alloc (Nat.le_refl _) _)
                have HBX := Lib.hid (show W.heap[w.heap.size]? = some (.cells #[.string it.name, .int .i64 it.kind, .int .i64 it.mode, .int .i64 it.time, .int .i64 it.size, .string it.link, .slice a it.chunks.length cap, .string it.node.name, .int .i64 it.node.gen, .int .i64 it.node.size] 76 (0, 0)) by rw [hW]; exact heap_alloc_new w _)
                clear hW
                refine (component_is it.name true _ HO.out.nm HVP.out).mono ?_
                rintro e w1 ⟨rfl, hb1⟩
                have HBXr := Lib.hid ((hb1.block w.heap.size ((Array.getElem?_eq_some_iff.1 HBX.out).1)).trans HBX.out)
                have HB1 := Lib.hid (below_next HBW.out hb1)
                have hlt1 : w.heap.size < w1.heap.size := (Array.getElem?_eq_some_iff.1 HBXr.out).1
                have c0 := cellH (k := 0) HBXr.out
                have c1 := cellH (k := 1) HBXr.out
                have c2 := cellH (k := 2) HBXr.out
                have c3 := cellH (k := 3) HBXr.out
                have c4 := cellH (k := 4) HBXr.out
                have c5 := cellH (k := 5) HBXr.out
                have c6 := cellH (k := 6) HBXr.out
                have c7 := cellH (k := 7) HBXr.out
                have c8 := cellH (k := 8) HBXr.out
                have c9 := cellH (k := 9) HBXr.out
                simp only [List.getElem?_toArray, List.getElem?_cons_succ, List.getElem?_cons_zero] at c0 c1 c2 c3 c4 c5 c6 c7 c8 c9
                clear hb1 HBX
                go_wp2_with fail
                all_goals (go_ret; exact ⟨ret_bool (by rw [HH.out, HK.out]), HB1.out⟩)
        · have en : decide (it.node = noRef) = false := by simp [hn]
          have e3 : (it.kind != 2) = true := by simp [hk2]
          have HK := Lib.hid (show vBody it = false by unfold vBody; rw [if_neg hk2]; simp [hn])
          clear hn hk2
          go_enter Tryz.func82, Tryz.ntmps82
          go_wp2_with fail
          obtain ⟨W, hW⟩ : ∃ W, W = w.alloc (.cells #[.string it.name, .int .i64 it.kind, .int .i64 it.mode, .int .i64 it.time, .int .i64 it.size, .string it.link, .slice a it.chunks.length cap, .string it.node.name, .int .i64 it.node.gen, .int .i64 it.node.size] 76) := ⟨_, rfl⟩
          rw [← hW]
          have HBW := Lib.hid (show Below w.heap.size w W by rw [hW]; exact (Below.refl _ _).alloc (Nat.le_refl _) _)
          have HBX := Lib.hid (show W.heap[w.heap.size]? = some (.cells #[.string it.name, .int .i64 it.kind, .int .i64 it.mode, .int .i64 it.time, .int .i64 it.size, .string it.link, .slice a it.chunks.length cap, .string it.node.name, .int .i64 it.node.gen, .int .i64 it.node.size] 76 (0, 0)) by rw [hW]; exact heap_alloc_new w _)
          clear hW
          refine (component_is it.name true _ HO.out.nm HVP.out).mono ?_
          rintro e w1 ⟨rfl, hb1⟩
          have HBXr := Lib.hid ((hb1.block w.heap.size ((Array.getElem?_eq_some_iff.1 HBX.out).1)).trans HBX.out)
          have HB1 := Lib.hid (below_next HBW.out hb1)
          have hlt1 : w.heap.size < w1.heap.size := (Array.getElem?_eq_some_iff.1 HBXr.out).1
          have c0 := cellH (k := 0) HBXr.out
          have c1 := cellH (k := 1) HBXr.out
          have c2 := cellH (k := 2) HBXr.out
          have c3 := cellH (k := 3) HBXr.out
          have c4 := cellH (k := 4) HBXr.out
          have c5 := cellH (k := 5) HBXr.out
          have c6 := cellH (k := 6) HBXr.out
          have c7 := cellH (k := 7) HBXr.out
          have c8 := cellH (k := 8) HBXr.out
          have c9 := cellH (k := 9) HBXr.out
          simp only [List.getElem?_toArray, List.getElem?_cons_succ, List.getElem?_cons_zero] at c0 c1 c2 c3 c4 c5 c6 c7 c8 c9
          clear hb1 HBX
          go_wp2_with fail
          all_goals (go_ret; exact ⟨ret_bool (by rw [HH.out, HK.out]), HB1.out⟩)
    · have HF := Lib.hid (show vItem it = false by
        have : (decide (0 ≤ it.mode) && decide (it.mode ≤ 511) && decide (0 ≤ it.time)) = false := by
          rw [Bool.eq_false_iff]; simp; omega
        rw [vItem_comp, this]; simp)
      go_enter Tryz.func82, Tryz.ntmps82
      go_wp2_with fail
      obtain ⟨W, hW⟩ : ∃ W, W = w.alloc (.cells #[.string it.name, .int .i64 it.kind, .int .i64 it.mode, .int .i64 it.time, .int .i64 it.size, .string it.link, .slice a it.chunks.length cap, .string it.node.name, .int .i64 it.node.gen, .int .i64 it.node.size] 76) := ⟨_, rfl⟩
      rw [← hW]
      have HBW := Lib.hid (show Below w.heap.size w W by rw [hW]; exact (Below.refl _ _).alloc (Nat.le_refl _) _)
      have HBX := Lib.hid (show W.heap[w.heap.size]? = some (.cells #[.string it.name, .int .i64 it.kind, .int .i64 it.mode, .int .i64 it.time, .int .i64 it.size, .string it.link, .slice a it.chunks.length cap, .string it.node.name, .int .i64 it.node.gen, .int .i64 it.node.size] 76 (0, 0)) by rw [hW]; exact heap_alloc_new w _)
      clear hW
      refine (component_is it.name true _ HO.out.nm HVP.out).mono ?_
      rintro e w1 ⟨rfl, hb1⟩
      have HBXr := Lib.hid ((hb1.block w.heap.size ((Array.getElem?_eq_some_iff.1 HBX.out).1)).trans HBX.out)
      have HB1 := Lib.hid (below_next HBW.out hb1)
      have hlt1 : w.heap.size < w1.heap.size := (Array.getElem?_eq_some_iff.1 HBXr.out).1
      have c0 := cellH (k := 0) HBXr.out
      have c1 := cellH (k := 1) HBXr.out
      have c2 := cellH (k := 2) HBXr.out
      have c3 := cellH (k := 3) HBXr.out
      have c4 := cellH (k := 4) HBXr.out
      have c5 := cellH (k := 5) HBXr.out
      have c6 := cellH (k := 6) HBXr.out
      have c7 := cellH (k := 7) HBXr.out
      have c8 := cellH (k := 8) HBXr.out
      have c9 := cellH (k := 9) HBXr.out
      simp only [List.getElem?_toArray, List.getElem?_cons_succ, List.getElem?_cons_zero] at c0 c1 c2 c3 c4 c5 c6 c7 c8 c9
      clear hb1 HBX
      have HM3 := Lib.hid hmt
      clear hmt
      rcases Int.lt_or_le it.mode 0 with h1 | h1
      · go_wp2_with fail
        go_ret
        exact ⟨ret_bool (by rw [HF.out]), HB1.out⟩
      · rcases Int.lt_or_le 511 it.mode with h2 | h2
        · go_wp2_with fail
          go_ret
          exact ⟨ret_bool (by rw [HF.out]), HB1.out⟩
        · have h3 : it.time < 0 := by have := HM3.out; omega
          go_wp2_with fail
          go_ret
          exact ⟨ret_bool (by rw [HF.out]), HB1.out⟩

end Go.Proofs.YtndgmcggckpgfaaGreatDoor

/- Contracts of the reference of package wire: Number. -/
namespace Go.Proofs.YtndgmcggckpgfaaGreatDoor
open Go.RowKit

/-- The encoding of a number; f rounds at most. -/
def numB : Nat → Nat → List UInt8
  | 0, n => [UInt8.ofNat n]
  | f + 1, n => if 127 < n then UInt8.ofNat (n % 128 + 128) :: numB f (n / 128) else [UInt8.ofNat n]
def encNum (n : Nat) : List UInt8 := numB 10 n
theorem numB_len : ∀ (f n : Nat), (numB f n).length ≤ f + 1
  | 0, _ => by simp [numB]
  | f + 1, n => by
    rw [numB]
    split
    · have := numB_len f (n / 128); simp; omega
    · simp
theorem encNum_len (n : Nat) : (encNum n).length ≤ 11 := numB_len 10 n
def BytesNew (bs : List UInt8) (w : World) (e : Ending) (w' : World) : Prop := ∃ v, e = .returned v ∧ BytesAt (w.heap.size ≤ ·) w' v bs ∧ Below w.heap.size w w'
theorem byteV_nat {n : Nat} (h : n < 256) : byteV (UInt8.ofNat n) = .int .u8 (n : Int) := by
  unfold byteV; rw [UInt8.toNat_ofNat_of_lt' (by exact h)]
theorem cons_one (b : UInt8) : ∀ u ∈ [byteV b], u.oneCell' = true := by simp [byteV, Value.oneCell']
set_option maxRecDepth 100000 in
set_option maxHeartbeats 2000000 in
theorem encNumber_any (n : Nat) (w : World) (hn : n < 18446744073709551616) : Calls Tryz.prog 51 #[.int .u64 (n : Int)] w (BytesNew (encNum n) w) := by
  have HO := Lib.hid (World.ownsRow_lit (e := 5) (size := 1) (base := w.heap.size) w #[] 0 (Nat.le_refl _) (Nat.zero_le _) (by simp))
  have HB := Lib.hid ((Below.refl w.heap.size w).alloc (Nat.le_refl _) (.cells #[] 5))
  go_enter Tryz.func51, Tryz.ntmps51
  go_wp2_with fail
  go_loopw [0, 3] (fun x o wr => ∃ (f m : Nat) (acc : List UInt8), x = .int .u64 (m : Int) ∧ m < 18446744073709551616 ∧ m < 2 ^ (7 * f) ∧ acc ++ numB f m = encNum n ∧ wr.ownsRow w.heap.size 5 1 o acc.length (acc.map byteV) ∧ acc.length ≤ 20 ∧ Below w.heap.size w wr) (fun x _ _ => (intOf x).toNat)
  case atStart => exact ⟨10, n, [], rfl, hn, Nat.lt_trans hn (by decide), rfl, HO.out, by simp, HB.out⟩
  case round =>
    obtain ⟨f, m, acc, rfl, hm, hmf, henc, hown, hal, hb⟩ := hrel
    have HE := Lib.hid henc
    have HO2 := Lib.hid hown
    have HB2 := Lib.hid hb
    have HMF := Lib.hid hmf
    have hbz := hb.size
    obtain ⟨ao, co, rfl, h1, h2⟩ := owns_shape hown
    clear henc hown hb hmf HO HB
    by_cases hlt : 127 < m
    · have hv : Value.int .u8 ((m : Int) % 128 + 128) = byteV (UInt8.ofNat (m % 128 + 128)) := by rw [byteV_nat (by omega)]; simp
      have HV := Lib.hid hv
      obtain ⟨f, rfl⟩ : ∃ g, f = g + 1 := ⟨f - 1, by
        cases f with
        | zero => have := HMF.out; simp at this; omega
        | succ g => rfl⟩
      have HE2 := Lib.hid (show (acc ++ [UInt8.ofNat (m % 128 + 128)]) ++ numB f (m / 128) = encNum n by rw [← HE.out, numB, if_pos hlt]; simp)
      have HMF2 := Lib.hid (show m / 128 < 2 ^ (7 * f) by
        have h3 := HMF.out
        rw [show 7 * (f + 1) = 7 * f + 7 by omega, Nat.pow_add] at h3
        exact Nat.div_lt_of_lt_mul (by omega))
      have hal2 : acc.length ≤ 10 := by
        have h4 := encNum_len n
        rw [← HE.out, List.length_append, numB, if_pos hlt, List.length_cons] at h4
        omega
      clear hv
      go_wp2_with (at_builtin; go_must (refine wpList_app1 Tryz.appBytes rfl _ _ rfl w.heap.size (.slice ao acc.length co) acc.length (acc.map byteV) rfl wr [.int .u8 ((m : Int) % 128 + 128)] _ rfl rfl (by rw [HV.out]; exact cons_one _) HO2.out (by omega) hbz ?_); intro v' wc hown' hgrow' _; have HB3 := Lib.hid (below_grown HB2.out HO2.out hgrow' (Nat.le_refl _) hbz); have HO3 := Lib.hid (show wc.ownsRow w.heap.size 5 1 v' (acc ++ [UInt8.ofNat (m % 128 + 128)]).length ((acc ++ [UInt8.ofNat (m % 128 + 128)]).map byteV) by rw [List.length_append, List.map_append, List.map_cons, List.map_nil, ← HV.out]; exact hown'); obtain ⟨ae, ce, rfl, -, -⟩ := owns_shape hown'; clear hown' hgrow')
      go_roundw
      case rel => exact ⟨f, m / 128, acc ++ [UInt8.ofNat (m % 128 + 128)], by simp, by omega, HMF2.out, HE2.out, HO3.out, by simp; omega, HB3.out⟩
      case measure => simp [intOf]; omega
    · have hv : Value.int .u8 (m : Int) = byteV (UInt8.ofNat m) := by rw [byteV_nat (by omega)]
      have HV := Lib.hid hv
      have HE2 := Lib.hid (show acc ++ [UInt8.ofNat m] = encNum n by
        rw [← HE.out]
        cases f with
        | zero => rfl
        | succ f => rw [numB, if_neg hlt])
      clear hv
      go_wp2_with (at_builtin; go_must (refine wpList_app1 Tryz.appBytes rfl _ _ rfl w.heap.size (.slice ao acc.length co) acc.length (acc.map byteV) rfl wr [.int .u8 (m : Int)] _ rfl rfl (by rw [HV.out]; exact cons_one _) HO2.out (by omega) hbz ?_); intro v' wc hown' hgrow' _; have HB3 := Lib.hid (below_grown HB2.out HO2.out hgrow' (Nat.le_refl _) hbz); have HO3 := Lib.hid (show wc.ownsRow w.heap.size 5 1 v' (acc ++ [UInt8.ofNat m]).length ((acc ++ [UInt8.ofNat m]).map byteV) by rw [List.length_append, List.map_append, List.map_cons, List.map_nil, ← HV.out]; exact hown'); obtain ⟨ae, ce, rfl, -, -⟩ := owns_shape hown'; clear hown' hgrow')
      go_ret
      rw [← HE2.out]
      exact ⟨_, rfl, (row_of_owns HO3.out).weak (fun k hk => hk.1), HB3.out⟩

end Go.Proofs.YtndgmcggckpgfaaGreatDoor

/- The reference's number agrees with the program's. -/
namespace Go.Proofs.YtndgmcggckpgfaaGreatDoor
open Go.RowKit

def valN : List UInt8 → Nat
  | [] => 0
  | b :: l => b.toNat % 128 + 128 * valN l
def valR (l : List UInt8) : Nat := valN l % 18446744073709551616
def numR (data : List UInt8) (off : Nat) : Nat → Nat → Except Int (Nat × Nat)
  | 0, _ => .error 3
  | f + 1, k => match data[off + k]? with
    | none => .error 3
    | some b => if 128 ≤ b.toNat then numR data off f (k + 1)
      else if encNum (valR ((data.drop off).take (k + 1))) = (data.drop off).take (k + 1) then .ok (valR ((data.drop off).take (k + 1)), off + k + 1) else .error 3
theorem valN_lt : ∀ l : List UInt8, valN l < 2 ^ (7 * l.length)
  | [] => by simp [valN]
  | b :: l => by
    have := valN_lt l
    rw [valN, List.length_cons, show 7 * (l.length + 1) = 7 * l.length + 7 by omega, Nat.pow_add]
    omega
theorem valN_snoc : ∀ (l : List UInt8) (b : UInt8), valN (l ++ [b]) = valN l + b.toNat % 128 * 2 ^ (7 * l.length)
  | [], b => by simp [valN]
  | c :: l, b => by
    rw [List.cons_append, valN, valN_snoc l b, valN, List.length_cons, show 7 * (l.length + 1) = 7 * l.length + 7 by omega, Nat.pow_add, Nat.mul_add]
    have : 128 * (b.toNat % 128 * 2 ^ (7 * l.length)) = b.toNat % 128 * (2 ^ (7 * l.length) * 2 ^ 7) := by
      rw [Nat.mul_left_comm, Nat.mul_comm 128]
    omega
theorem valR_cons (b : UInt8) (l : List UInt8) : valR (b :: l) = (valR l * 128 % 18446744073709551616 + b.toNat % 128) % 18446744073709551616 := by
  unfold valR; rw [valN]; omega
theorem valN_num : ∀ (f n : Nat), n < 2 ^ (7 * (f + 1)) → valN (numB f n) = n
  | 0, n, h => by
    have h1 : n < 128 := h
    rw [numB, valN, valN, UInt8.toNat_ofNat_of_lt' (by show n < 256; omega)]; omega
  | f + 1, n, h => by
    rw [numB]
    split
    · rw [valN, valN_num f (n / 128) (by
        rw [show 7 * (f + 1 + 1) = 7 * (f + 1) + 7 by omega, Nat.pow_add] at h
        exact Nat.div_lt_of_lt_mul (by omega)), UInt8.toNat_ofNat_of_lt' (by show _ < 256; omega)]
      omega
    · rw [valN, valN, UInt8.toNat_ofNat_of_lt' (by show n < 256; omega)]; omega
theorem last_num : ∀ (f n : Nat) (c : UInt8) (l : List UInt8), 0 < n → n < 2 ^ (7 * (f + 1)) → numB f n = l ++ [c] → c.toNat ≠ 0
  | 0, n, c, l, h0, h, he => by
    have h1 : n < 128 := h
    rw [numB] at he
    have : c = UInt8.ofNat n := by
      have := congrArg List.getLast? he
      simpa using this.symm
    rw [this, UInt8.toNat_ofNat_of_lt' (by show n < 256; omega)]; omega
  | f + 1, n, c, l, h0, h, he => by
    rw [numB] at he
    split at he
    · cases l with
      | nil =>
        simp only [List.nil_append, List.cons.injEq] at he
        have := congrArg List.length he.2
        have h3 : (numB f (n / 128)).length ≠ 0 := by cases f <;> (rw [numB]; try split) <;> simp
        simp at this; exact absurd (by simp [this]) h3
      | cons d l =>
        simp only [List.cons_append, List.cons.injEq] at he
        exact last_num f (n / 128) c l (by omega) (by
          rw [show 7 * (f + 1 + 1) = 7 * (f + 1) + 7 by omega, Nat.pow_add] at h
          exact Nat.div_lt_of_lt_mul (by omega)) he.2
    · have : c = UInt8.ofNat n := by
        have := congrArg List.getLast? he
        simpa using this.symm
      rw [this, UInt8.toNat_ofNat_of_lt' (by show n < 256; omega)]; omega
theorem num_val : ∀ (f : Nat) (l : List UInt8) (c : UInt8), (∀ b ∈ l, 128 ≤ b.toNat) → c.toNat < 128 → (l ≠ [] → c.toNat ≠ 0) → l.length ≤ f → numB f (valN (l ++ [c])) = l ++ [c]
  | f, [], c, _, h2, _, _ => by
    have hv : valN ([] ++ [c]) = c.toNat := by simp [valN]; omega
    rw [hv]
    have hc : UInt8.ofNat c.toNat = c := UInt8.ofNat_toNat
    cases f with
    | zero => rw [numB, hc]; rfl
    | succ f => rw [numB, if_neg (by omega), hc]; rfl
  | 0, b :: l, c, _, _, _, h4 => by simp at h4
  | f + 1, b :: l, c, h1, h2, h3, h4 => by
    have hb := h1 b (by simp)
    have hb8 := b.toNat_lt
    have hr := num_val f l c (fun x hx => h1 x (by simp [hx])) h2 (fun _ => h3 (by simp)) (by simpa using h4)
    have hp : 0 < valN (l ++ [c]) := by
      rw [valN_snoc]
      have hc := h3 (by simp)
      have : 0 < c.toNat % 128 * 2 ^ (7 * l.length) := Nat.mul_pos (by omega) (Nat.two_pow_pos _)
      omega
    rw [List.cons_append, numB, valN, if_pos (by omega), show (b.toNat % 128 + 128 * valN (l ++ [c])) / 128 = valN (l ++ [c]) by omega, hr,
      show (b.toNat % 128 + 128 * valN (l ++ [c])) % 128 + 128 = b.toNat by omega, UInt8.ofNat_toNat]
theorem or_add (m x k : Nat) (h : m < 2 ^ k) : m ||| (x * 2 ^ k) = m + x * 2 ^ k := by
  rw [Nat.or_comm, Nat.mul_comm, ← Nat.two_pow_add_eq_or_of_lt h, Nat.add_comm]
theorem numN_val (m : Nat) (b : UInt8) (k : Nat) (hk : k ≤ 9) (h : m < 2 ^ (7 * k)) : numN m b k = (m + b.toNat % 128 * 2 ^ (7 * k)) % 18446744073709551616 := by
  unfold numN
  have hb : b.toNat % 128 < 128 := by omega
  generalize b.toNat % 128 = x at hb
  by_cases h9 : k = 9
  · subst h9
    have e : x * 2 ^ (7 * 9) % 18446744073709551616 = x % 2 * 2 ^ (7 * 9) := by
      simp only [Nat.reduceMul, Nat.reducePow]; omega
    rw [e, or_add _ _ _ h]
    simp only [Nat.reduceMul, Nat.reducePow] at *
    omega
  · have hp : 2 ^ (7 * k) * 128 ≤ 18446744073709551616 := by
      rw [show (128 : Nat) = 2 ^ 7 from rfl, show (18446744073709551616 : Nat) = 2 ^ 64 from rfl, ← Nat.pow_add]
      exact Nat.pow_le_pow_right (by omega) (by omega)
    have hx : x * 2 ^ (7 * k) + 2 ^ (7 * k) ≤ 2 ^ (7 * k) * 128 := by
      rw [Nat.mul_comm (2 ^ (7 * k)), ← Nat.succ_mul]; exact Nat.mul_le_mul_right _ (by omega)
    rw [Nat.mod_eq_of_lt (by omega), or_add _ _ _ h, Nat.mod_eq_of_lt (by omega)]
theorem numG_ref (data : List UInt8) (off : Nat) : ∀ (f k : Nat), k + f = 10 → (∀ b ∈ (data.drop off).take k, 128 ≤ b.toNat) → off + k ≤ data.length →
    numG data f k (off + k) (valN ((data.drop off).take k)) = numR data off f k
  | 0, _, _, _, _ => rfl
  | f + 1, k, hk, hp, hle => by
    rw [numG, numR]
    cases hd : data[off + k]? with
    | none => rfl
    | some b =>
      have hb8 := b.toNat_lt
      have hlt : off + k < data.length := (List.getElem?_eq_some_iff.1 hd).1
      have hlen : ((data.drop off).take k).length = k := by simp; omega
      have htk : (data.drop off).take (k + 1) = (data.drop off).take k ++ [b] := by
        rw [List.take_add_one, List.getElem?_drop, hd]; rfl
      have hm := valN_lt ((data.drop off).take k)
      rw [hlen] at hm
      have hs := valN_snoc ((data.drop off).take k) b
      rw [hlen, ← htk] at hs
      have hnn := numN_val _ b k (by omega) hm
      rw [← hs] at hnn
      simp only
      by_cases h128 : 128 ≤ b.toNat
      · rw [if_pos h128, if_pos h128]
        by_cases hf : f = 0
        · subst hf; rfl
        · have hlt2 : valN ((data.drop off).take (k + 1)) < 18446744073709551616 := by
            have := valN_lt ((data.drop off).take (k + 1))
            refine Nat.lt_of_lt_of_le this ?_
            rw [show (18446744073709551616 : Nat) = 2 ^ 64 from rfl]
            exact Nat.pow_le_pow_right (by omega) (by simp; omega)
          rw [hnn, Nat.mod_eq_of_lt hlt2]
          have := numG_ref data off f (k + 1) (by omega) (by
            intro x hx
            rw [htk, List.mem_append] at hx
            rcases hx with hx | hx
            · exact hp x hx
            · simp at hx; subst hx; exact h128) (by omega)
          exact this
      · rw [if_neg h128, if_neg h128, hnn]
        have hval : valR ((data.drop off).take (k + 1)) = valN ((data.drop off).take (k + 1)) % 18446744073709551616 := rfl
        have hvl : valR ((data.drop off).take (k + 1)) < 2 ^ (7 * (10 + 1)) := by rw [hval]; exact Nat.lt_trans (Nat.mod_lt _ (by decide)) (by decide)
        by_cases hbad : numBad b k = true
        · rw [if_pos hbad, if_neg]
          intro he
          have h1 := valN_num 10 _ hvl
          rw [show numB 10 _ = _ from he] at h1
          simp only [numBad, Bool.or_eq_true, Bool.and_eq_true, decide_eq_true_eq] at hbad
          rcases hbad with ⟨h2, h3⟩ | ⟨h2, h3⟩
          · have hpos : 0 < valN ((data.drop off).take (k + 1)) % 18446744073709551616 := by
              rcases Nat.eq_zero_or_pos (valN ((data.drop off).take (k + 1)) % 18446744073709551616) with h0 | h0
              · exfalso
                rw [hval, h0] at he
                have := congrArg List.length he
                simp [encNum, numB] at this
                omega
              · exact h0
            exact last_num 10 _ b ((data.drop off).take k) (by rw [hval]; exact hpos) hvl (by rw [← htk]; exact he) h3
          · subst h2
            rw [hs] at h1
            have h5 : valR ((data.drop off).take (9 + 1)) < 18446744073709551616 := by rw [hval]; exact Nat.mod_lt _ (by decide)
            rw [← h1] at h5
            simp only [Nat.reduceMul, Nat.reducePow] at h5
            omega
        · rw [if_neg hbad]
          have hbad' : numBad b k = false := by simpa using hbad
          simp only [numBad, Bool.or_eq_false_iff, Bool.and_eq_false_iff, decide_eq_false_iff_not] at hbad'
          have hsm : valN ((data.drop off).take (k + 1)) < 18446744073709551616 := by
            rw [hs]
            by_cases h9 : k = 9
            · subst h9
              have : ¬ 1 < b.toNat := by rcases hbad'.2 with h | h; · exact absurd rfl h
                                         · exact h
              simp only [Nat.reduceMul, Nat.reducePow] at hm ⊢
              omega
            · have hp : 2 ^ (7 * k) * 128 ≤ 18446744073709551616 := by
                rw [show (128 : Nat) = 2 ^ 7 from rfl, show (18446744073709551616 : Nat) = 2 ^ 64 from rfl, ← Nat.pow_add]
                exact Nat.pow_le_pow_right (by omega) (by omega)
              have hx : b.toNat % 128 * 2 ^ (7 * k) + 2 ^ (7 * k) ≤ 2 ^ (7 * k) * 128 := by
                rw [Nat.mul_comm (2 ^ (7 * k)), ← Nat.succ_mul]; exact Nat.mul_le_mul_right _ (by omega)
              omega
          have hvv : valR ((data.drop off).take (k + 1)) = valN ((data.drop off).take (k + 1)) := by rw [hval, Nat.mod_eq_of_lt hsm]
          have henc : encNum (valR ((data.drop off).take (k + 1))) = (data.drop off).take (k + 1) := by
            rw [hvv, htk]
            refine num_val 10 _ b hp (by omega) ?_ (by omega)
            intro hne
            have : 0 < k := by
              rcases Nat.eq_zero_or_pos k with h0 | h0
              · subst h0; simp at hne
              · exact h0
            rcases hbad'.1 with h | h
            · exact absurd this h
            · exact h
          rw [if_pos henc, Nat.mod_eq_of_lt hsm, hvv]
theorem numE_ref (data : List UInt8) (off : Nat) (h : off ≤ data.length) : numE data off = numR data off 10 0 := by
  have := numG_ref data off 10 0 rfl (by simp) (by omega)
  simpa [valN, numE] using this

end Go.Proofs.YtndgmcggckpgfaaGreatDoor
