/- Texts of this proof, one after the other: WalkC, Needs, SetA, SetB, SetC, NeedP, Ex, SetD, SetE, SetF, SetG, EqUse. -/
import Derived.Test.YtndgmcggckpgfaaDoorMC
/- Contracts of package manifest: walker.walk. -/
namespace Go.Proofs.YtndgmcggckpgfaaDoor
open Go.RowKit


def WalkC (visit : Ref → Except Int (List Item)) (F : Nat) (cv : Value) (I : World → Prop) (B n : Nat) : Prop := ∀ (r : Ref) (st : List Ref × List Ref) (x : Int) (st' : List Ref × List Ref) (base wb eb sb : Nat) (v : Value) (w : World), walkP visit n r st = some (x, st') → st'.2.length < 1099511627775 →
  WkAt w base wb eb sb (.func (.func F) #[cv] #[]) v st.1 st.2 → RefOk r → I w → (B ≤ base ∧ B ≤ wb ∧ B ≤ eb ∧ B ≤ sb) → base ≤ w.heap.size →
  Calls Tryd.prog 43 #[.pointer (some ⟨wb, 0, none⟩), refV r] w fun e w' => e = .returned (.int .i64 x) ∧ WkRes base wb eb sb (.func (.func F) #[cv] #[]) v st'.1 st'.2 w w'
def VisC (visit : Ref → Except Int (List Item)) (F : Nat) (cv : Value) (I : World → Prop) : Prop := ∀ (W : World) (r : Ref), I W → RefOk r → Calls Tryd.prog F #[cv, refV r] W (VisRes (visit r) W)
def KeepI (I : World → Prop) (B : Nat) : Prop := ∀ w w' : World, I w → Grows (B ≤ ·) w w' → I w'
theorem own_ge {B base wb eb sb : Nat} {w : World} {fv v : Value} {ex rs : List Ref} (h : WkAt w base wb eb sb fv v ex rs) (hB : B ≤ base ∧ B ≤ wb ∧ B ≤ eb ∧ B ≤ sb) {k : Nat} (hk : WkOwn wb eb sb v k) : B ≤ k := by
  rcases hk with e | e | e | e
  · omega
  · omega
  · omega
  · have := (h.row.lt k e).1; omega
theorem grows_mono {S T : Nat → Prop} {w w' : World} (h : Grows S w w') (hs : ∀ k, S k → T k) : Grows T w w' := ⟨h.os, h.tape, h.output, h.size, fun k hk hn => h.block k hk (fun hS => hn (hs k hS))⟩
theorem ItemsAt.lt {S : Nat → Prop} {w : World} {v : Value} {l : List Item} (h : ItemsAt S w v l) : ItemsAt (fun k => S k ∧ k < w.heap.size) w v l := by
  obtain ⟨cells, hr, hin⟩ := h
  exact ⟨cells, hr.mono (fun k hk hS => ⟨hS, hk⟩) (by omega), hin.mono (fun c x _ hx => hx.same (fun k hk hS => ⟨⟨hS, hk⟩, rfl⟩))⟩
theorem overW_cons {f : Ref → List Ref × List Ref → Option (Int × (List Ref × List Ref))} {it : Item} {l : List Item} {ex rs : List Ref} {q : Int × (List Ref × List Ref)} (h : overW f (it :: l) (ex, rs) = some q) :
    (it.kind ≠ 2 ∧ overW f l (ex, menAll it.chunks rs) = some q) ∨ (it.kind = 2 ∧ ∃ y st2, f it.node (ex, menAll it.chunks rs) = some (y, st2) ∧ ((y ≠ 0 ∧ q = (y, st2)) ∨ (y = 0 ∧ overW f l st2 = some q))) := by
  rw [overW] at h
  split at h
  · rename_i hk
    exact .inl ⟨hk, h⟩
  · rename_i hk
    rw [Option.bind_eq_some_iff] at h
    obtain ⟨⟨y, st2⟩, h1, h2⟩ := h
    refine .inr ⟨Decidable.not_not.1 hk, y, st2, h1, ?_⟩
    simp only at h2
    split at h2
    · rename_i hy
      exact .inl ⟨hy, (Option.some.inj h2).symm⟩
    · rename_i hy
      exact .inr ⟨Decidable.not_not.1 hy, h2⟩
theorem overW_men {visit : Ref → Except Int (List Item)} {n : Nat} {it : Item} {l : List Item} {ex rs : List Ref} {x : Int} {st' : List Ref × List Ref} (h : overW (walkP visit n) (it :: l) (ex, rs) = some (x, st')) : (menAll it.chunks rs).length ≤ st'.2.length := by
  rcases overW_cons h with ⟨_, h2⟩ | ⟨_, y, st2, h1, h2⟩
  · exact overW_le (walkP_le visit n) l _ x st' h2
  · have h3 := walkP_le visit n _ _ _ _ h1
    rcases h2 with ⟨_, h2⟩ | ⟨_, h2⟩
    · obtain ⟨_, rfl⟩ := Prod.mk.inj h2
      exact h3
    · exact Nat.le_trans h3 (overW_le (walkP_le visit n) l _ x st' h2)
set_option maxRecDepth 100000 in
set_option maxHeartbeats 4000000 in
theorem walkN_step (visit : Ref → Except Int (List Item)) (cv : Value) (I : World → Prop) (B n : Nat) (hI : KeepI I B) (hV : VisC visit 39 cv I) (IH : WalkC visit 39 cv I B n) : WalkC visit 39 cv I B (n + 1) := by
  intro r st x st' base wb eb sb v w hw hlen h hr hi hB hbase
  have HI := Lib.hid hI
  have HV := Lib.hid hV
  have HIH := Lib.hid IH
  have HB := Lib.hid hB
  have HR := Lib.hid hr
  have H := Lib.hid h
  have HIW := Lib.hid hi
  have HLEN := Lib.hid hlen
  have HWP := Lib.hid hw
  have hmen : (mentionP r st.2).length ≤ st'.2.length := by
    rw [walkP] at hw
    split at hw
    · simp only [Option.some.injEq, Prod.mk.injEq] at hw
      obtain ⟨_, rfl⟩ := hw
      exact Nat.le_refl _
    · split at hw
      · simp only [Option.some.injEq, Prod.mk.injEq] at hw
        obtain ⟨_, rfl⟩ := hw
        exact Nat.le_refl _
      · exact overW_le (walkP_le visit n) _ _ x st' hw
  have hml := mentionP_le r st.2
  have HB0 := Lib.hid ((Below.refl w.heap.size w).alloc (Nat.le_refl _) (.cells #[.string r.name, .int .i64 r.gen, .int .i64 r.size] 37))
  have HK0 := Lib.hid (h.below HB0.out)
  have HBX0 := Lib.hid (heap_alloc_new w (.cells #[.string r.name, .int .i64 r.gen, .int .i64 r.size] 37))
  have hwb : wb < w.heap.size := lt_of_block h.box
  unfold refV
  clear hw h hr hi hI hV IH hB
  go_enter Tryd.func43, Tryd.ntmps43
  go_wp2_with fail
  refine (mention_any base wb eb sb _ v st.1 st.2 r _ HK0.out HR.out (by omega) (by simp; omega)).mono ?_
  rintro e w1 ⟨rfl, v1, hk1, hg1, ho1⟩
  have HK1 := Lib.hid hk1
  have HBX1 := Lib.hid (show w1.heap[w.heap.size]? = some (.cells #[.string r.name, .int .i64 r.gen, .int .i64 r.size] 37 (0, 0)) from (hg1.block w.heap.size (by simp) (fun ho => by
    rcases ho with e | e | e | e
    · omega
    · have := H.out.exs.map.lt; omega
    · have := H.out.see.map.lt; omega
    · have := (H.out.row.lt _ e).2; omega)).trans HBX0.out)
  have hz1 := hg1.size
  simp at hz1
  have HG1 := Lib.hid (show Grows (WkOwn wb eb sb v) w w1 from (Grows.of_below HB0.out (S := WkOwn wb eb sb v)).trans hg1 (fun _ _ h => h))
  have HO1 := Lib.hid (show ∀ k, v1.ownBlock = some k → v.ownBlock = some k ∨ w.heap.size ≤ k from fun k hk => by
    rcases ho1 k hk with e | e
    · exact .inl e
    · simp at e; exact .inr (by omega))
  clear hk1 hg1 ho1 HK0 HBX0
  have c1 := cellH (k := 1) HK1.out.box
  have q0 := cellH (k := 0) HBX1.out
  have q1 := cellH (k := 1) HBX1.out
  have q2 := cellH (k := 2) HBX1.out
  simp only [List.getElem?_toArray, List.getElem?_cons_succ, List.getElem?_cons_zero] at c1 q0 q1 q2
  go_wp2_with fail
  refine wp_region_segs [some 6] (by kernel_rfl) (by kernel_rfl) (by kernel_rfl) ?_
  simp only [wpSegs, List.take_succ_cons, List.take_zero, List.drop_succ_cons, List.drop_zero]
  obtain ⟨W1, hW1⟩ : ∃ W1 : World, W1 = w1.drew := ⟨_, rfl⟩
  rw [← hW1]
  have hbw1 : Below w1.heap.size w1 W1 := by rw [hW1]; exact (Below.refl _ _).drew
  have HK2 := Lib.hid (HK1.out.below hbw1)
  have HBX2 := Lib.hid ((hbw1.block w.heap.size (by omega)).trans HBX1.out)
  have HG2 := Lib.hid (HG1.out.trans (Grows.of_below hbw1 (S := fun _ => False)) (fun _ _ h => False.elim h))
  have hz2 := hbw1.size
  clear hbw1 HK1 HBX1 HG1 c1 q0 q1 q2
  have c1 := cellH (k := 1) HK2.out.box
  have q0 := cellH (k := 0) HBX2.out
  have q1 := cellH (k := 1) HBX2.out
  have q2 := cellH (k := 2) HBX2.out
  have hlk := HK2.out.exs.look HR.out
  unfold refV at hlk
  simp only [List.getElem?_toArray, List.getElem?_cons_succ, List.getElem?_cons_zero] at c1 q0 q1 q2
  clear hW1
  by_cases hm : r ∈ st.1
  · have e1 : decide (r ∈ st.1) = true := by simp [hm]
    rw [e1] at hlk
    have HRES := Lib.hid (show (x, st') = (0, (st.1, mentionP r st.2)) by have := HWP.out; rw [walkP, if_pos hm] at this; exact (Option.some.inj this).symm)
    clear e1 hm
    repeat (first | (refine seg_skip rfl ?_; simp only [Act.put, List.setIfInBounds_toArray, List.set_cons_succ, List.set_cons_zero]) | (refine seg_run rfl (fun K hK => ?_); go_simp; refine hK _ ?_; clear hK K))
    refine seg_nil ?_
    go_wp2_with fail
    go_ret
    obtain ⟨e1, e2⟩ := Prod.mk.inj HRES.out
    exact ⟨ret_int e1.symm, v1, by rw [e2]; exact HK2.out, HG2.out, HO1.out⟩
  · have e1 : decide (r ∈ st.1) = false := by simp [hm]
    rw [e1] at hlk
    have HNM := Lib.hid hm
    have HWQ := Lib.hid (show (match visit r with | .error x => some (x, (st.1 ++ [r], mentionP r st.2)) | .ok l => overW (walkP visit n) l (st.1 ++ [r], mentionP r st.2)) = some (x, st') by have := HWP.out; rw [walkP, if_neg hm] at this; exact this)
    clear e1 hm HWP
    repeat (first | (refine seg_skip rfl ?_; simp only [Act.put, List.setIfInBounds_toArray, List.set_cons_succ, List.set_cons_zero]) | (refine seg_run rfl (fun K hK => ?_); go_simp; refine hK _ ?_; clear hK K))
    refine seg_nil ?_
    go_wp2_with fail
    refine wp_region_segs [some 5, none] (by kernel_rfl) (by kernel_rfl) (by kernel_rfl) ?_
    simp only [wpSegs, List.take_succ_cons, List.take_zero, List.drop_succ_cons, List.drop_zero]
    repeat (first | (refine seg_skip rfl ?_; simp only [Act.put, List.setIfInBounds_toArray, List.set_cons_succ, List.set_cons_zero]) | (refine seg_run rfl (fun K hK => ?_); go_simp; refine hK _ ?_; clear hK K))
    refine seg_nil ?_
    refine bar_run rfl (fun K hK => ?_)
    have HKd := Lib.hid (HK2.out.below ((Below.refl _ W1).drew))
    go_wp2_with (at_mapUpdate; go_must (refine wpList_setadd rfl _ _ _ rfl eb st.1 HKd.out.exs rfl r HR.out rfl rfl HNM.out ?_); intro w2 hset hg2)
    have heb : eb < w.heap.size := H.out.exs.map.lt
    have hsb : sb < w.heap.size := H.out.see.map.lt
    have hne1 := H.out.wne
    have hne2 := H.out.ne
    refine wp_region_segs [some 5, none, some 5] (by kernel_rfl) (by kernel_rfl) (by kernel_rfl) ?_
    simp only [wpSegs, List.take_succ_cons, List.take_zero, List.drop_succ_cons, List.drop_zero]
    obtain ⟨W2, hW2⟩ : ∃ W2 : World, W2 = w2.drew := ⟨_, rfl⟩
    rw [← hW2]
    have hg3 : W1.grownBy W2 (some eb) := by rw [hW2]; exact grown_trans (b := W1.drew) ⟨rfl, rfl, rfl, Nat.le_refl _, fun _ _ _ => rfl⟩ (grown_trans hg2 ⟨rfl, rfl, rfl, Nat.le_refl _, fun _ _ _ => rfl⟩)
    have hset3 : SetAt W2 eb (st.1 ++ [r]) := by rw [hW2]; exact hset.same rfl
    have HK3 := Lib.hid (show WkAt W2 base wb eb sb (.func (.func 39) #[cv] #[]) v1 (st.1 ++ [r]) (mentionP r st.2) from ⟨keepH hg3 HK2.out.box hne1.1, hset3, HK2.out.see.same (hg3.block sb HK2.out.see.map.lt (by simp; exact Ne.symm hne2)), HK2.out.row.kept hg3 (.inr (fun e => (HK2.out.own e).2.1 rfl)), hne2⟩)
    have HBX3 := Lib.hid (keepH hg3 HBX2.out (by omega))
    have HG3 := Lib.hid (show Grows (WkOwn wb eb sb v) w W2 from HG2.out.trans (Grows.of_grown (S := fun k => k = eb) hg3 (fun k hk => by cases hk; rfl)) (fun i _ h => .inr (.inl h)))
    have hz3 := hg3.size
    have HI3 := Lib.hid (HI.out w W2 HIW.out (grows_mono HG3.out (fun k hk => own_ge H.out HB.out hk)))
    clear hW2 hg3 hset3 hset hg2 HKd HK2 HBX2 HG2 c1 q0 q1 q2 hlk
    have c0 := cellH (k := 0) HK3.out.box
    have q0 := cellH (k := 0) HBX3.out
    have q1 := cellH (k := 1) HBX3.out
    have q2 := cellH (k := 2) HBX3.out
    simp only [List.getElem?_toArray, List.getElem?_cons_succ, List.getElem?_cons_zero] at c0 q0 q1 q2
    repeat (first | (refine seg_skip rfl ?_; simp only [Act.put, List.setIfInBounds_toArray, List.set_cons_succ, List.set_cons_zero]) | (refine seg_run rfl (fun K hK => ?_); go_simp; refine hK _ ?_; clear hK K))
    refine seg_nil ?_
    refine bar_run rfl (fun K hK => ?_)
    go_wp2_with fail
    refine (HV.out W2 r HI3.out HR.out).mono ?_
    rintro e w3 ⟨hb3, hres⟩
    have HK4 := Lib.hid (HK3.out.below hb3)
    have HG4 := Lib.hid (HG3.out.trans (Grows.of_below hb3 (S := fun _ => False)) (fun _ _ h => False.elim h))
    have HB3 := Lib.hid hb3
    have hz4 := hb3.size
    clear hb3 c0 q0 q1 q2
    cases hvr : visit r with
    | error y =>
      rw [hvr] at hres
      obtain ⟨rfl, hy⟩ := hres
      have HRES := Lib.hid (show (x, st') = (y, (st.1 ++ [r], mentionP r st.2)) by have := HWQ.out; rw [hvr] at this; exact (Option.some.inj this).symm)
      have e1 : (y != 0) = true := by simp [hy]
      clear hvr hy
      go_wp2_with fail
      repeat (first | (refine seg_skip rfl ?_; simp only [Act.put, List.setIfInBounds_toArray, List.set_cons_succ, List.set_cons_zero]) | (refine seg_run rfl (fun K hK => ?_); go_simp; refine hK _ ?_; clear hK K))
      refine seg_nil ?_
      go_wp2_with fail
      go_ret
      obtain ⟨e1, e2⟩ := Prod.mk.inj HRES.out
      exact ⟨ret_int e1.symm, v1, by rw [e2]; exact HK4.out, HG4.out, HO1.out⟩
    | ok l =>
      rw [hvr] at hres
      obtain ⟨itv, rfl, hits⟩ := hres
      have HOV := Lib.hid (show overW (walkP visit n) l (st.1 ++ [r], mentionP r st.2) = some (x, st') by have := HWQ.out; rw [hvr] at this; exact this)
      obtain ⟨ia, ic, rfl, hil, him, -⟩ := SeqAt.shape hits ItemR.len
      unfold maxLen at him
      have HIN := Lib.hid (show WkIn w B W2.heap.size w3.heap.size base wb eb sb (.func (.func 39) #[cv] #[]) v (.slice ia l.length ic) l w3 v1 (st.1 ++ [r]) (mentionP r st.2) from
        ⟨HK4.out, HG4.out, HO1.out, fun k hk => .inl (HK3.out.row.lt k hk).2, ⟨by omega, by omega, by omega⟩, ⟨by omega, hz4, Nat.le_refl _⟩, ItemsAt.lt hits⟩)
      clear hvr hits HWQ HK3 HK4 HG3 HG4 HBX3
      go_wp2_with fail
      repeat (first | (refine seg_skip rfl ?_; simp only [Act.put, List.setIfInBounds_toArray, List.set_cons_succ, List.set_cons_zero]) | (refine seg_run rfl (fun K hK => ?_); go_simp; refine hK _ ?_; clear hK K))
      refine seg_nil ?_
      go_wp2_with fail
      go_loopw [40] (fun i wr => ∃ (k : Nat) (v2 : Value) (ex2 rs2 : List Ref), k ≤ l.length ∧ i = .int .i64 k ∧ overW (walkP visit n) (l.drop k) (ex2, rs2) = some (x, st') ∧ WkIn w B W2.heap.size w3.heap.size base wb eb sb (.func (.func 39) #[cv] #[]) v (.slice ia l.length ic) l wr v2 ex2 rs2) (fun i _ => l.length - (intOf i).toNat)
      case atStart => exact ⟨0, v1, _, _, Nat.zero_le _, rfl, HOV.out, HIN.out⟩
      case round =>
        obtain ⟨k, v2, ex2, rs2, hk, rfl, hov, hin⟩ := hrel
        have HV2 := Lib.hid hov
        have HN2 := Lib.hid hin
        clear hov hin
        by_cases hlt : k < l.length
        · obtain ⟨it, hr2⟩ : ∃ it, l[k]? = some it := ⟨l[k], by simp [hlt]⟩
          obtain ⟨b, o, ca, cc, rfl, hok, hrf, -, -, hcl⟩ := items_at HN2.out.its (Below.refl _ _) hr2
          have HOV2 := Lib.hid (show overW (walkP visit n) (it :: l.drop (k + 1)) (ex2, rs2) = some (x, st') by
            obtain ⟨hk', rfl⟩ := List.getElem?_eq_some_iff.1 hr2
            rw [← List.drop_eq_getElem_cons hk']; exact HV2.out)
          have hmb := overW_men HOV2.out
          have HOK := Lib.hid hok
          have q0 := hcl 0 (by omega)
          have q1 := hcl 1 (by omega)
          have q2 := hcl 2 (by omega)
          have q3 := hcl 3 (by omega)
          have q4 := hcl 4 (by omega)
          have q5 := hcl 5 (by omega)
          have q6 := hcl 6 (by omega)
          have q7 := hcl 7 (by omega)
          have q8 := hcl 8 (by omega)
          have q9 := hcl 9 (by omega)
          simp only [itemC, List.getElem?_cons_zero, List.getElem?_cons_succ, Nat.add_zero] at q0 q1 q2 q3 q4 q5 q6 q7 q8 q9
          obtain ⟨wo, hwo⟩ : ∃ wo : World, wo = wr := ⟨_, rfl⟩
          subst hwo
          have HAL := Lib.hid ((Below.refl wo.heap.size wo).alloc (Nat.le_refl _) (.cells #[.string it.name, .int .i64 it.kind, .int .i64 it.mode, .int .i64 it.time, .int .i64 it.size, .string it.link, .slice ca it.chunks.length cc, .string it.node.name, .int .i64 it.node.gen, .int .i64 it.node.size] 83))
          have HN3 := Lib.hid (HN2.out.below HAL.out)
          have HRF := Lib.hid (show RefsAt (fun k => W2.heap.size ≤ k ∧ k < w3.heap.size) _ (.slice ca it.chunks.length cc) it.chunks from SeqAt.below hrf (by omega) HAL.out (fun _ _ _ h => h))
          obtain ⟨a', cap', hv', hcl1, hcl2, -⟩ := SeqAt.shape hrf RefR.len
          cases hv'
          unfold maxLen at hcl2
          clear hr2 hok hrf hcl
          have HBX5 := Lib.hid (heap_alloc_new wo (.cells #[.string it.name, .int .i64 it.kind, .int .i64 it.mode, .int .i64 it.time, .int .i64 it.size, .string it.link, .slice ca it.chunks.length cc, .string it.node.name, .int .i64 it.node.gen, .int .i64 it.node.size] 83))
          go_wp2_with fail
          clear q0 q1 q2 q3 q4 q5 q6 q7 q8 q9
          go_loopw [47] (fun i wq => ∃ (j : Nat) (v3 : Value), j ≤ it.chunks.length ∧ i = .int .i64 j ∧ WkIn w B W2.heap.size w3.heap.size base wb eb sb (.func (.func 39) #[cv] #[]) v (.slice (some ⟨b, o, none⟩) l.length ic) l wq v3 ex2 (menAll (it.chunks.take j) rs2) ∧ RefsAt (fun k => W2.heap.size ≤ k ∧ k < w3.heap.size) wq (.slice ca it.chunks.length cc) it.chunks ∧ wq.heap[wo.heap.size]? = some (.cells #[.string it.name, .int .i64 it.kind, .int .i64 it.mode, .int .i64 it.time, .int .i64 it.size, .string it.link, .slice ca it.chunks.length cc, .string it.node.name, .int .i64 it.node.gen, .int .i64 it.node.size] 83 (0, 0))) (fun i _ => it.chunks.length - (intOf i).toNat)
          case atStart => exact ⟨0, v2, Nat.zero_le _, rfl, HN3.out, HRF.out, HBX5.out⟩
          case round =>
            obtain ⟨j, v3, hj, rfl, hin3, hrf3, hbx3⟩ := hrel
            have HN4 := Lib.hid hin3
            have HRF4 := Lib.hid hrf3
            have HBX6 := Lib.hid hbx3
            clear hin3 hrf3 hbx3 HN3 HRF HBX5 HAL
            by_cases hlt2 : j < it.chunks.length
            · obtain ⟨c, hc⟩ : ∃ c, it.chunks[j]? = some c := ⟨it.chunks[j], by simp [hlt2]⟩
              obtain ⟨b2, o2, rfl, hcok, p0, p1, p2⟩ := refs_at HRF4.out (Below.refl _ _) hc
              have HCO := Lib.hid hcok
              have HSN := Lib.hid (show menAll (it.chunks.take (j + 1)) rs2 = mentionP c (menAll (it.chunks.take j) rs2) by rw [take_snoc' hc, menAll_snoc])
              have hjl := menAll_take_le it.chunks rs2 j
              have HAL2 := Lib.hid ((Below.refl wr.heap.size wr).alloc (Nat.le_refl _) (.cells #[.string c.name, .int .i64 c.gen, .int .i64 c.size] 37))
              have HN5 := Lib.hid (HN4.out.below HAL2.out)
              have hbz : base ≤ (wr.alloc (.cells #[.string c.name, .int .i64 c.gen, .int .i64 c.size] 37)).heap.size := Nat.le_trans hbase (Nat.le_trans HN4.out.gr.size HAL2.out.size)
              have HBZ := Lib.hid hbz
              clear hc hcok hbz
              go_wp2_with fail
              refine (mention_any base wb eb sb _ v3 ex2 _ c _ HN5.out.at' HCO.out (by omega) HBZ.out).mono ?_
              rintro e w4 ⟨rfl, hres⟩
              obtain ⟨v4, hin4, hg4⟩ := HN5.out.step hres
              have HN6 := Lib.hid hin4
              have hzz := HAL2.out.size
              have HRF6 := Lib.hid (show RefsAt (fun k => W2.heap.size ≤ k ∧ k < w3.heap.size) w4 (.slice (some ⟨b2, o2, none⟩) it.chunks.length cc) it.chunks from RefsAt.same HRF4.out (fun k hk hS => ⟨hS, (hg4.block k (Nat.lt_of_lt_of_le hk hzz) (HN5.out.notown hS)).trans (HAL2.out.block k hk)⟩))
              have hbk := allocH HBX6.out (.cells #[.string c.name, .int .i64 c.gen, .int .i64 c.size] 37)
              have HBX7 := Lib.hid ((hg4.block wo.heap.size ((Array.getElem?_eq_some_iff.1 hbk).1) (HN5.out.at'.notown hbk (by decide) (by decide))).trans hbk)
              clear hres hin4 hg4 hbk p0 p1 p2
              go_wp2_with fail
              go_roundw
              case rel => exact ⟨j + 1, v4, by omega, by go_num, by rw [HSN.out]; exact HN6.out, HRF6.out, HBX7.out⟩
              case measure => simp [intOf]; omega
            · obtain rfl : j = it.chunks.length := by omega
              rw [List.take_of_length_le (Nat.le_refl _)] at HN4
              have c1 := cellH (k := 1) HBX6.out
              have c7 := cellH (k := 7) HBX6.out
              have c8 := cellH (k := 8) HBX6.out
              have c9 := cellH (k := 9) HBX6.out
              simp only [List.getElem?_toArray, List.getElem?_cons_succ, List.getElem?_cons_zero] at c1 c7 c8 c9
              rcases overW_cons HOV2.out with ⟨hk2, h2⟩ | ⟨hk2, y, st2, h1, h2⟩
              · have e2 : (it.kind != 2) = true := by simp [hk2]
                have H2 := Lib.hid h2
                clear hk2 h2
                go_wp2_with fail
                go_roundw
                case rel => exact ⟨k + 1, v3, _, _, by omega, by go_num, H2.out, HN4.out⟩
                case measure => simp [intOf]; omega
              · have e2 : (it.kind != 2) = false := by simp [hk2]
                have H1 := Lib.hid h1
                have H2 := Lib.hid h2
                have hle2 : st2.2.length ≤ st'.2.length := by
                  rcases h2 with ⟨_, h2⟩ | ⟨_, h2⟩
                  · obtain ⟨_, rfl⟩ := Prod.mk.inj h2
                    exact Nat.le_refl _
                  · exact overW_le (walkP_le visit n) _ _ x st' h2
                have HI4 := Lib.hid (HI.out w wr HIW.out (grows_mono HN4.out.gr (fun k hk => own_ge H.out HB.out hk)))
                have HBZ := Lib.hid (Nat.le_trans hbase HN4.out.gr.size)
                clear hk2 h1 h2
                go_wp2_with fail
                refine (HIH.out it.node (ex2, menAll it.chunks rs2) y st2 base wb eb sb v3 wr H1.out (by omega) HN4.out.at' HOK.out.nd HI4.out HB.out HBZ.out).mono ?_
                rintro e w4 ⟨rfl, hres⟩
                obtain ⟨v4, hin4, -⟩ := HN4.out.step hres
                have HN6 := Lib.hid hin4
                clear hres hin4 c1 c7 c8 c9
                rcases H2.out with ⟨hy, h2⟩ | ⟨hy, h2⟩
                · have e3 : (y != 0) = true := by simp [hy]
                  have HRES := Lib.hid h2
                  clear hy h2
                  go_wp2_with fail
                  go_ret
                  obtain ⟨e1, e2⟩ := Prod.mk.inj HRES.out
                  exact ⟨ret_int e1.symm, v4, by rw [e2]; exact HN6.out.at', HN6.out.gr, HN6.out.own⟩
                · subst hy
                  have H3 := Lib.hid h2
                  clear h2
                  go_wp2_with fail
                  go_roundw
                  case rel => exact ⟨k + 1, v4, st2.1, st2.2, by omega, by go_num, H3.out, HN6.out⟩
                  case measure => simp [intOf]; omega
        · obtain rfl : k = l.length := by omega
          have HRES := Lib.hid (show (x, st') = (0, (ex2, rs2)) by have := HV2.out; rw [List.drop_of_length_le (Nat.le_refl _)] at this; exact (Option.some.inj this).symm)
          go_wp2_with fail
          go_ret
          obtain ⟨e1, e2⟩ := Prod.mk.inj HRES.out
          exact ⟨ret_int e1.symm, v2, by rw [e2]; exact HN2.out.at', HN2.out.gr, HN2.out.own⟩
theorem walkN_any (visit : Ref → Except Int (List Item)) (cv : Value) (I : World → Prop) (B : Nat) (hI : KeepI I B) (hV : VisC visit 39 cv I) : ∀ n, WalkC visit 39 cv I B n
  | 0 => by intro r st x st' base wb eb sb v w hw; simp [walkP] at hw
  | n + 1 => walkN_step visit cv I B n hI hV (walkN_any visit cv I B hI hV n)

end Go.Proofs.YtndgmcggckpgfaaDoor

/- Contracts of package manifest: needs, Refs. -/
namespace Go.Proofs.YtndgmcggckpgfaaDoor
open Go.RowKit

def needP (visit : Ref → Except Int (List Item)) (n : Nat) (root : Ref) : Option (Except Int (List Ref)) :=
  if vRef root = true then (walkP visit n root ([], [])).map fun p => if p.1 = 0 then .ok p.2.2 else .error p.1 else some (.error 1)
def NeedRes (res : Except Int (List Ref)) (w : World) (e : Ending) (w' : World) : Prop := Below w.heap.size w w' ∧ match res with
  | .error x => e = .returned (.tuple #[.slice none 0 0, .int .i64 x]) ∧ x ≠ 0
  | .ok rs => ∃ v, e = .returned (.tuple #[v, .int .i64 0]) ∧ RefsAt (w.heap.size ≤ ·) w' v rs
theorem wk_start {w : World} {B : Nat} {fv : Value} : WkAt (((w.alloc (.map #[] 0)).alloc (.map #[] 0)).alloc (.cells #[fv, .map (some w.heap.size), .map (some (w.heap.size + 1)), .slice none 0 0] 105)) B (w.heap.size + 1 + 1) w.heap.size (w.heap.size + 1) fv (.slice none 0 0) [] [] := by
  have e1 : (w.alloc (.map #[] 0)).heap.size = w.heap.size + 1 := by simp
  have e2 : ((w.alloc (.map #[] 0)).alloc (.map #[] 0)).heap.size = w.heap.size + 1 + 1 := by simp
  have h1 := SetAt.made w
  have h2 := SetAt.made (w.alloc (.map #[] 0))
  rw [e1] at h2
  have h3 := heap_alloc_new ((w.alloc (.map #[] 0)).alloc (.map #[] 0)) (.cells #[fv, .map (some w.heap.size), .map (some (w.heap.size + 1)), .slice none 0 0] 105)
  rw [e2] at h3
  refine ⟨h3, ?_, h2.same (Below.heap_alloc _ _ _ (by rw [e2]; omega)), World.ownsRow_nil _ _ _ _, by omega⟩
  exact h1.same ((Below.heap_alloc _ _ _ (by rw [e2]; omega)).trans (Below.heap_alloc _ _ _ (by rw [e1]; omega)))
set_option maxRecDepth 100000 in
set_option maxHeartbeats 2000000 in
theorem needsN_any (visit : Ref → Except Int (List Item)) (cv : Value) (I : World → Prop) (n : Nat) (root : Ref) (res : Except Int (List Ref)) (w : World) (hI : KeepI I w.heap.size) (hV : VisC visit 39 cv I) (hi : I w) (hr : RefOk root)
    (hn : needP visit n root = some res) (hl : ∀ p, walkP visit n root ([], []) = some p → p.2.2.length < 1099511627775) :
    Calls Tryd.prog 38 #[refV root, .func (.func 39) #[cv] #[]] w (NeedRes res w) := by
  have HI := Lib.hid hI
  have HV := Lib.hid hV
  have HIW := Lib.hid hi
  have HR := Lib.hid hr
  have HL := Lib.hid hl
  have hmm := @run_makeMap Tryd.prog
  have HB0 := Lib.hid ((Below.refl w.heap.size w).alloc (Nat.le_refl _) (.cells #[.string root.name, .int .i64 root.gen, .int .i64 root.size] 37))
  have HBX0 := Lib.hid (heap_alloc_new w (.cells #[.string root.name, .int .i64 root.gen, .int .i64 root.size] 37))
  unfold refV
  clear hI hV hi hr hl
  cases hv : vRef root
  · have HRES := Lib.hid (show res = .error 1 by rw [needP, if_neg (by rw [hv]; simp)] at hn; exact (Option.some.inj hn).symm)
    have HVR := Lib.hid hv
    clear hv hn
    go_enter Tryd.func38, Tryd.ntmps38
    go_wp2_with fail
    refine (validRef_is root false _ HR.out HVR.out).mono ?_
    rintro e w1 ⟨rfl, hb1⟩
    have HB1 := Lib.hid (below_next HB0.out hb1)
    clear hb1
    go_wp2_with fail
    go_ret2
    exact ⟨HB1.out, by rw [HRES.out]; exact ⟨rfl, by decide⟩⟩
  · have HVR := Lib.hid hv
    obtain ⟨⟨x, st⟩, hwp, hres⟩ : ∃ p, walkP visit n root ([], []) = some p ∧ res = (if p.1 = 0 then .ok p.2.2 else .error p.1) := by
      rw [needP, if_pos hv, Option.map_eq_some_iff] at hn
      obtain ⟨p, h1, h2⟩ := hn
      exact ⟨p, h1, h2.symm⟩
    have HWP := Lib.hid hwp
    have HRES := Lib.hid hres
    have HLN := Lib.hid (HL.out _ hwp)
    clear hv hn hwp hres
    go_enter Tryd.func38, Tryd.ntmps38
    go_wp2_with fail
    refine (validRef_is root true _ HR.out HVR.out).mono ?_
    rintro e w1 ⟨rfl, hb1⟩
    have HB1 := Lib.hid (below_next HB0.out hb1)
    have hbx1 := (hb1.block w.heap.size (by simp)).trans HBX0.out
    have HBX1 := Lib.hid hbx1
    have hz1 := lt_of_block hbx1
    clear hb1 hbx1 HBX0
    obtain ⟨W, hW⟩ : ∃ W : World, W = ((w1.alloc (.map #[] 0)).alloc (.map #[] 0)).alloc (.cells #[.func (.func 39) #[cv] #[], .map (some w1.heap.size), .map (some (w1.heap.size + 1)), .slice none 0 0] 105) := ⟨_, rfl⟩
    have HK := Lib.hid (show WkAt W w.heap.size (w1.heap.size + 1 + 1) w1.heap.size (w1.heap.size + 1) (.func (.func 39) #[cv] #[]) (.slice none 0 0) [] [] by rw [hW]; exact wk_start)
    have hbw : Below w1.heap.size w1 W := by rw [hW]; exact (((Below.refl _ _).alloc (Nat.le_refl _) _).alloc (by simp) _).alloc (by simp; omega) _
    have HBW := Lib.hid (below_next HB1.out hbw)
    have HBX2 := Lib.hid ((hbw.block w.heap.size hz1).trans HBX1.out)
    have q0 := cellH (k := 0) HBX2.out
    have q1 := cellH (k := 1) HBX2.out
    have q2 := cellH (k := 2) HBX2.out
    have r0 := cellH (k := 0) HBX1.out
    have r1 := cellH (k := 1) HBX1.out
    have r2 := cellH (k := 2) HBX1.out
    simp only [List.getElem?_toArray, List.getElem?_cons_succ, List.getElem?_cons_zero] at q0 q1 q2 r0 r1 r2
    have HI2 := Lib.hid (HI.out w W HIW.out (Grows.of_below HBW.out))
    clear hbw
    go_upto_region 4 with (fail)
    rw [← hW]
    clear hW
    go_wp2_with fail
    refine (walkN_any visit cv I w.heap.size HI.out HV.out n root ([], []) x st w.heap.size (w1.heap.size + 1 + 1) w1.heap.size (w1.heap.size + 1) (.slice none 0 0) W HWP.out HLN.out HK.out HR.out HI2.out ⟨Nat.le_refl _, by omega, by omega, by omega⟩ HBW.out.size).mono ?_
    rintro e w2 ⟨rfl, v2, hk2, hg2, ho2⟩
    have HK2 := Lib.hid hk2
    have HB2 := Lib.hid (show Below w.heap.size w w2 from HBW.out.trans (hg2.below HBW.out.size (fun k hk => own_ge HK.out ⟨Nat.le_refl _, by omega, by omega, by omega⟩ hk)))
    obtain ⟨a2, c2, rfl⟩ := hk2.shape
    have d3 := cellH (k := 3) hk2.box
    simp only [List.getElem?_toArray, List.getElem?_cons_succ, List.getElem?_cons_zero] at d3
    clear hk2 hg2 ho2 q0 q1 q2 r0 r1 r2
    by_cases hx : x = 0
    · subst hx
      have HRS := Lib.hid (show res = .ok st.2 by rw [HRES.out]; simp)
      go_wp2_with fail
      go_ret2
      exact ⟨HB2.out, by rw [HRS.out]; exact ⟨_, rfl, RefsAt.same (refs_owned HK2.out.row HK2.out.ok) (fun k _ hS => ⟨hS.1, rfl⟩)⟩⟩
    · have e1 : (x != 0) = true := by simp [hx]
      have HRS := Lib.hid (show res = .error x by rw [HRES.out]; simp [hx])
      have HX := Lib.hid hx
      clear hx
      go_wp2_with fail
      go_ret2
      exact ⟨HB2.out, by rw [HRS.out]; exact ⟨rfl, HX.out⟩⟩

/-- What the walk relies on. -/
structure RefsI (B : Nat) (cv : Value) (cs : List (ByteArray × List UInt8)) (w : World) : Prop where
  cont : ContAt (· < B) w cv cs
  env : Env w
  lt : 0 < B ∧ 1 < B ∧ 2 < B
  size : B ≤ w.heap.size
theorem RowAt.lt' {S : Nat → Prop} {w : World} {sz : Nat} {v : Value} {n : Nat} {cells : List Value} (h : RowAt S w sz v n cells) (hs : 0 < sz) : RowAt (· < w.heap.size) w sz v n cells := h.mono (fun _ hk _ => hk) hs
theorem ContAt.lt {S : Nat → Prop} {w : World} {cv : Value} {cs : List (ByteArray × List UInt8)} (h : ContAt S w cv cs) : ContAt (· < w.heap.size) w cv cs := by
  rcases h with h | ⟨b, m, h1, h0, h2, h3⟩
  · exact .inl h
  · refine .inr ⟨b, m, h1, h2.lt, h2, ?_⟩
    clear h1 h2 h0
    induction m generalizing cs with
    | nil => cases cs with
      | nil => trivial
      | cons => exact h3
    | cons p m ih => cases cs with
      | nil => exact h3
      | cons q cs => exact ⟨h3.1, RowAt.lt' h3.2.1 (by omega), ih h3.2.2⟩
theorem RefsI.keep {B : Nat} {cv : Value} {cs : List (ByteArray × List UInt8)} : KeepI (RefsI B cv cs) B := by
  intro w w' h hg
  have hb : Below B w w' := hg.below h.size (fun k hk => hk)
  refine ⟨?_, h.env.belowB hb h.lt.1 h.lt.2.1 h.lt.2.2, h.lt, Nat.le_trans h.size hg.size⟩
  rcases h.cont with h1 | ⟨b, m, h1, h0, h2, h3⟩
  · exact .inl h1
  · exact .inr ⟨b, m, h1, h0, h2.same (hb.block b h0), h3.mono (fun v bs hv => RowAt.same hv (fun k hk => hb.block k hk))⟩
theorem RefsI.visit {B : Nat} {cv : Value} {cs : List (ByteArray × List UInt8)} : VisC (nodeP cs) 39 cv (RefsI B cv cs) := fun W r hI hr => (node_any (· < B) cv cs r W hI.cont hr hI.env).mono fun _ _ h => h
theorem RefsI.start {S : Nat → Prop} {w : World} {cv : Value} {cs : List (ByteArray × List UInt8)} (h : ContAt S w cv cs) (he : Env w) : RefsI w.heap.size cv cs w := ⟨h.lt, he, he.lt, Nat.le_refl _⟩
set_option maxRecDepth 100000 in
set_option maxHeartbeats 1000000 in
theorem refs_any (S : Nat → Prop) (cv : Value) (cs : List (ByteArray × List UInt8)) (n : Nat) (root : Ref) (res : Except Int (List Ref)) (w : World) (hc : ContAt S w cv cs) (henv : Env w) (hr : RefOk root)
    (hn : needP (nodeP cs) n root = some res) (hl : ∀ p, walkP (nodeP cs) n root ([], []) = some p → p.2.2.length < 1099511627775) :
    Calls Tryd.prog 32 #[refV root, cv] w (NeedRes res w) := by
  have hmf : ∀ (fn : Fn) (first cap : Array Value) (w : World), (Instr.makeFunc fn first cap).run Tryd.prog w = .ok (.func fn first cap) w := fun _ _ _ _ => rfl
  have HB0 := Lib.hid ((Below.refl w.heap.size w).alloc (Nat.le_refl _) (.cells #[.string root.name, .int .i64 root.gen, .int .i64 root.size] 37))
  have HI := Lib.hid (RefsI.start (hc.below HB0.out) (henv.below HB0.out))
  have HR := Lib.hid hr
  have HN := Lib.hid hn
  have HL := Lib.hid hl
  unfold refV
  clear hc henv hr hn hl
  go_enter Tryd.func32, Tryd.ntmps32
  go_wp2_with fail
  refine (needsN_any (nodeP cs) cv _ n root res _ RefsI.keep RefsI.visit HI.out HR.out HN.out HL.out).mono ?_
  rintro e w1 ⟨hb1, hres⟩
  have HB1 := Lib.hid (below_next HB0.out hb1)
  clear hb1
  cases res with
  | error x =>
    obtain ⟨rfl, hx⟩ := hres
    have HX := Lib.hid hx
    clear hx
    go_wp2_with fail
    go_ret2
    exact ⟨HB1.out, rfl, HX.out⟩
  | ok rs =>
    obtain ⟨v, rfl, hv⟩ := hres
    have hz := HB0.out.size
    have HV := Lib.hid (show RefsAt (w.heap.size ≤ ·) w1 v rs from RefsAt.same hv (fun k _ hS => ⟨Nat.le_trans hz hS, rfl⟩))
    obtain ⟨a, cap, rfl, -, -, -⟩ := SeqAt.shape hv RefR.len
    clear hv
    go_wp2_with fail
    go_ret2
    exact ⟨HB1.out, _, rfl, HV.out⟩

end Go.Proofs.YtndgmcggckpgfaaDoor

/- Contracts of package liveness: the set of references. -/
namespace Go.Proofs.YtndgmcggckpgfaaDoor
open Go.RowKit


/-- A set at block nb: its references in order. -/
structure StAt (w : World) (base nb mb : Nat) (v : Value) (l : List Ref) : Prop where
  box : w.heap[nb]? = some (.cells #[v, .map (some mb)] 77 (0, 0))
  idx : IdxAt w mb l
  row : w.ownsRow base 37 3 v l.length (l.flatMap refC)
def StOwn (nb mb : Nat) (v : Value) (k : Nat) : Prop := k = nb ∨ k = mb ∨ v.ownBlock = some k
section
variable {w w' : World} {base nb mb : Nat} {v : Value} {l : List Ref}
theorem IdxAt.cells {b : Nat} {l : List Ref} (h : IdxAt w b l) {cs : Array Value} {t : TypeId} {z : Nat × Nat} : w.heap[b]? ≠ some (.cells cs t z) := fun e => by
  obtain ⟨es, clock, hb, _⟩ := h.map
  rw [hb] at e; cases e
theorem StAt.wne (h : StAt w base nb mb v l) : nb ≠ mb := fun e => h.idx.cells (e ▸ h.box)
theorem StAt.own (h : StAt w base nb mb v l) {k : Nat} (hk : v.ownBlock = some k) : k ≠ nb ∧ k ≠ mb := by
  obtain ⟨cs, hc⟩ := owns_block h.row hk
  refine ⟨fun e => ?_, fun e => ?_⟩
  · subst e
    have := hc.symm.trans h.box
    simp at this
  · subst e; exact h.idx.cells hc
theorem StAt.keep (h : StAt w base nb mb v l) (hs : ∀ k, k < w.heap.size → StOwn nb mb v k → w'.heap[k]? = w.heap[k]?) : StAt w' base nb mb v l := by
  refine ⟨(hs nb (lt_of_block h.box) (.inl rfl)).trans h.box, h.idx.same (hs mb h.idx.map.lt (.inr (.inl rfl))), ?_⟩
  obtain ⟨hl, h2⟩ := h.row
  refine ⟨hl, ?_⟩
  rcases h2 with h2 | ⟨g, cap, cur, rfl, hg, hh, h3⟩
  · exact .inl h2
  · exact .inr ⟨g, cap, cur, rfl, hg, (hs g (lt_of_block hh) (.inr (.inr rfl))).trans hh, h3⟩
theorem StAt.below (h : StAt w base nb mb v l) (hb : Below w.heap.size w w') : StAt w' base nb mb v l := h.keep (fun k hk _ => hb.block k hk)
theorem StAt.ok (h : StAt w base nb mb v l) : ∀ r ∈ l, RefOk r := h.idx.ok
theorem StAt.nodup (h : StAt w base nb mb v l) : l.Nodup := h.idx.nodup
theorem StAt.shape (h : StAt w base nb mb v l) : ∃ a cap, v = .slice a l.length cap := by
  obtain ⟨a, cap, h1, _⟩ := owns_shape h.row
  exact ⟨a, cap, h1⟩
theorem StAt.refs (h : StAt w base nb mb v l) : RefsAt (fun k => base ≤ k ∧ v.ownBlock = some k) w v l := refs_owned h.row h.ok
end
def StRes (base nb mb : Nat) (v : Value) (l : List Ref) (w w' : World) : Prop :=
  ∃ v', StAt w' base nb mb v' l ∧ Grows (StOwn nb mb v) w w' ∧ ∀ k, v'.ownBlock = some k → v.ownBlock = some k ∨ w.heap.size ≤ k
theorem newSet_any (w : World) (B : Nat) : Calls Tryd.prog 25 #[] w fun e w' => e = .returned (.pointer (some ⟨w.heap.size + 1, 0, none⟩)) ∧ StAt w' B (w.heap.size + 1) w.heap.size (.slice none 0 0) [] ∧ Below w.heap.size w w' ∧ w.heap.size + 2 ≤ w'.heap.size := by
  have hmm := @run_makeMap Tryd.prog
  go_enter Tryd.func25, Tryd.ntmps25
  go_wp2_with fail
  go_ret
  have e1 : (w.alloc (.map #[] 0)).heap.size = w.heap.size + 1 := by simp
  have h3 := heap_alloc_new (w.alloc (.map #[] 0)) (.cells #[.slice none 0 0, .map (some w.heap.size)] 77)
  rw [e1] at h3
  exact ⟨rfl, ⟨h3, (IdxAt.made w).same (Below.heap_alloc _ _ _ (by rw [e1]; omega)), World.ownsRow_nil _ _ _ _⟩, ((Below.refl _ _).alloc (Nat.le_refl _) _).alloc (by simp) _, by simp⟩
theorem idxOf_mention {r : Ref} {l : List Ref} (h : r ∉ l) : (l ++ [r]).idxOf r = l.length := by
  rw [List.idxOf_append, if_neg h]; simp
set_option maxRecDepth 100000 in
set_option maxHeartbeats 2000000 in
theorem add_any (base nb mb : Nat) (v : Value) (l : List Ref) (r : Ref) (w : World) (h : StAt w base nb mb v l) (hr : RefOk r) (hl : l.length < 1099511627775) (hbase : base ≤ w.heap.size) :
    Calls Tryd.prog 26 #[.pointer (some ⟨nb, 0, none⟩), refV r] w fun e w' => e = .returned (.int .i64 ((mentionP r l).idxOf r : Int)) ∧ StRes base nb mb v (mentionP r l) w w' := by
  obtain ⟨av, cv, rfl⟩ := h.shape
  obtain ⟨W, hW⟩ : ∃ W : World, W = (w.alloc (.cells #[.string r.name, .int .i64 r.gen, .int .i64 r.size] 37)).drew := ⟨_, rfl⟩
  have hbW : Below w.heap.size w W := by rw [hW]; exact ((Below.refl _ _).alloc (Nat.le_refl _) _).drew
  have HBW := Lib.hid hbW
  have HK := Lib.hid (h.below hbW)
  have bx : W.heap[w.heap.size]? = some (.cells #[.string r.name, .int .i64 r.gen, .int .i64 r.size] 37 (0, 0)) := by rw [hW]; exact heap_alloc_new w _
  have HBX := Lib.hid bx
  have HR := Lib.hid hr
  have HW := Lib.hid hW
  have q0 := cellH (k := 0) bx
  have q1 := cellH (k := 1) bx
  have q2 := cellH (k := 2) bx
  have c1 := cellH (k := 1) HK.out.box
  have c0 := cellH (k := 0) HK.out.box
  simp only [List.getElem?_toArray, List.getElem?_cons_succ, List.getElem?_cons_zero] at q0 q1 q2 c1 c0
  have hwb : nb < w.heap.size := lt_of_block h.box
  have H0 := Lib.hid h
  unfold refV
  clear h hr bx hbW
  by_cases hm : r ∈ l
  · have hlk := HK.out.idx.hit HR.out hm
    unfold refV at hlk
    have HM := Lib.hid (show mentionP r l = l by unfold mentionP; rw [if_pos hm])
    clear hm
    go_enter Tryd.func26, Tryd.ntmps26
    go_wp2_with fail
    refine wp_region_segs [some 11] (by kernel_rfl) (by kernel_rfl) (by kernel_rfl) ?_
    simp only [wpSegs, List.take_succ_cons, List.take_zero, List.drop_succ_cons, List.drop_zero]
    rw [← HW.out]
    clear hW
    repeat (first | (refine seg_skip rfl ?_; simp only [Act.put, List.setIfInBounds_toArray, List.set_cons_succ, List.set_cons_zero]) | (refine seg_run rfl (fun K hK => ?_); go_simp; refine hK _ ?_; clear hK K))
    refine seg_nil ?_
    go_wp2_with fail
    go_ret
    exact ⟨ret_int (by rw [HM.out]), .slice av l.length cv, by rw [HM.out]; exact HK.out, Grows.of_below HBW.out, fun k hk => .inl hk⟩
  · have hlk := HK.out.idx.miss HR.out hm
    unfold refV at hlk
    have HM := Lib.hid (show mentionP r l = l ++ [r] by unfold mentionP; rw [if_neg hm])
    have HNM := Lib.hid hm
    clear hm
    go_enter Tryd.func26, Tryd.ntmps26
    go_wp2_with fail
    refine wp_region_segs [some 11] (by kernel_rfl) (by kernel_rfl) (by kernel_rfl) ?_
    simp only [wpSegs, List.take_succ_cons, List.take_zero, List.drop_succ_cons, List.drop_zero]
    rw [← HW.out]
    clear hW
    repeat (first | (refine seg_skip rfl ?_; simp only [Act.put, List.setIfInBounds_toArray, List.set_cons_succ, List.set_cons_zero]) | (refine seg_run rfl (fun K hK => ?_); go_simp; refine hK _ ?_; clear hK K))
    refine seg_nil ?_
    go_wp2_with fail
    refine wp_region_segs [some 6, none] (by kernel_rfl) (by kernel_rfl) (by kernel_rfl) ?_
    simp only [wpSegs, List.take_succ_cons, List.take_zero, List.drop_succ_cons, List.drop_zero]
    have HK1 := Lib.hid (HK.out.below ((Below.refl _ W).drew))
    repeat (first | (refine seg_skip rfl ?_; simp only [Act.put, List.setIfInBounds_toArray, List.set_cons_succ, List.set_cons_zero]) | (refine seg_run rfl (fun K hK => ?_); go_simp; refine hK _ ?_; clear hK K))
    refine seg_nil ?_
    refine bar_run rfl (fun K hK => ?_)
    go_wp2_with (at_mapUpdate; go_must (refine wpList_idxadd rfl _ _ _ rfl mb l HK1.out.idx rfl r HR.out rfl rfl HNM.out ?_); intro w2 hset hg2)
    have hsb : mb < w.heap.size := H0.out.idx.map.lt
    have hbs := HBW.out.size
    obtain ⟨W3, hW3⟩ : ∃ W3 : World, W3 = w2.drew := ⟨_, rfl⟩
    have hg3 : W.grownBy W3 (some mb) := by rw [hW3]; exact grown_trans (b := W.drew) ⟨rfl, rfl, rfl, Nat.le_refl _, fun _ _ _ => rfl⟩ (grown_trans hg2 ⟨rfl, rfl, rfl, Nat.le_refl _, fun _ _ _ => rfl⟩)
    have hz3 := hg3.size
    have HSET := Lib.hid (show IdxAt W3 mb (l ++ [r]) by rw [hW3]; exact hset.same rfl)
    have HROW := Lib.hid (HK.out.row.kept hg3 (.inr (fun e => (HK.out.own e).2 rfl)))
    have HWB := Lib.hid (keepH hg3 HK.out.box HK.out.wne)
    have HRB := Lib.hid (keepH hg3 HBX.out (by omega))
    have HG3 := Lib.hid hg3
    have c3 := cellH (k := 0) HWB.out
    have f3 := frozenH (k := 0) HWB.out
    have r0 := cellH (k := 0) HRB.out
    have r1 := cellH (k := 1) HRB.out
    have r2 := cellH (k := 2) HRB.out
    simp only [List.getElem?_toArray, List.getElem?_cons_succ, List.getElem?_cons_zero] at c3 r0 r1 r2
    clear q0 q1 q2 c1 c0 hlk hset hg2 hg3
    refine hld_begin (fun w' => w'.cell? ⟨nb, 0, none⟩ = some (.slice av l.length cv) ∧ w'.cell? ⟨w.heap.size, 0, none⟩ = some (.string r.name) ∧ w'.cell? ⟨w.heap.size, 1, none⟩ = some (.int .i64 r.gen) ∧ w'.cell? ⟨w.heap.size, 2, none⟩ = some (.int .i64 r.size)) (by kernel_rfl) (by kernel_rfl) ?_
    simp only [List.dropLast_cons_cons, List.dropLast_singleton, List.length_cons, List.length_nil, Nat.reduceAdd, Nat.reduceSub]
    rw [← hW3]
    clear hW3
    refine hld_take 0 rfl (by kernel_rfl) (by kernel_rfl) (by kernel_rfl) (fun _ _ _ h => h) rfl (by go_simp) (by rintro w' ⟨hw1, hw2, hw3, hw4⟩; go_simp; rfl) ?_
    simp only [Act.put, List.setIfInBounds_toArray, List.set_cons_succ, List.set_cons_zero]
    refine hld_take 1 rfl (by kernel_rfl) (by kernel_rfl) (by kernel_rfl) (fun _ _ _ h => h) rfl (by go_simp) (by rintro w' ⟨hw1, hw2, hw3, hw4⟩; go_simp; rfl) ?_
    simp only [Act.put, List.setIfInBounds_toArray, List.set_cons_succ, List.set_cons_zero]
    refine hld_take 2 rfl (by kernel_rfl) (by kernel_rfl) (by kernel_rfl) (fun _ _ _ h => h) rfl (by go_simp) (by rintro w' ⟨hw1, hw2, hw3, hw4⟩; go_simp; rfl) ?_
    simp only [Act.put, List.setIfInBounds_toArray, List.set_cons_succ, List.set_cons_zero]
    refine hld_take 3 rfl (by kernel_rfl) (by kernel_rfl) (by kernel_rfl) (fun _ _ _ h => h) rfl (by go_simp) (by rintro w' ⟨hw1, hw2, hw3, hw4⟩; go_simp; rfl) ?_
    simp only [Act.put, List.setIfInBounds_toArray, List.set_cons_succ, List.set_cons_zero]
    refine hld_take 4 rfl (by kernel_rfl) (by kernel_rfl) (by kernel_rfl) (fun _ _ _ h => h) rfl (by go_simp) (by rintro w' ⟨hw1, hw2, hw3, hw4⟩; go_simp; rfl) ?_
    simp only [Act.put, List.setIfInBounds_toArray, List.set_cons_succ, List.set_cons_zero]
    refine hld_take 5 rfl (by kernel_rfl) (by kernel_rfl) (by kernel_rfl) (fun _ _ _ h => h) rfl (by go_simp) (by rintro w' ⟨hw1, hw2, hw3, hw4⟩; go_simp; rfl) ?_
    simp only [Act.put, List.setIfInBounds_toArray, List.set_cons_succ, List.set_cons_zero]
    have hltw : nb < W3.heap.size := lt_of_block HWB.out
    have hltr : w.heap.size < W3.heap.size := lt_of_block HRB.out
    have HAL := Lib.hid ((Below.refl W3.heap.size W3).alloc (Nat.le_refl _) (.cells #[.string r.name, .int .i64 r.gen, .int .i64 r.size] 37))
    have hS2 := And.intro ((HAL.out.cell (p := ⟨nb, 0, none⟩) hltw).trans c3) (And.intro ((HAL.out.cell (p := ⟨w.heap.size, 0, none⟩) hltr).trans r0) (And.intro ((HAL.out.cell (p := ⟨w.heap.size, 1, none⟩) hltr).trans r1) ((HAL.out.cell (p := ⟨w.heap.size, 2, none⟩) hltr).trans r2)))
    have HS2 := Lib.hid hS2
    clear hS2
    refine hld_bar 6 rfl (by kernel_rfl) rfl (fun K hK => ?_)
    go_wp2_with fail
    (first | (refine ⟨HS2.out, ?_⟩) | skip)
    refine hld_bar 7 rfl (by kernel_rfl) rfl (fun K hK => ?_)
    go_wp2_with (at_builtin; go_must (refine wpList_app1p Tryd.appRefs rfl _ _ rfl base (.slice av l.length cv) l.length (l.flatMap refC) rfl W3 [.string r.name, .int .i64 r.gen, .int .i64 r.size] _ rfl rfl (refC_one (r := r)) HROW.out (by omega) (by omega) ?_); intro v' wc hown' hgrow' _ hpl; obtain ⟨ae, ce, rfl, -, -⟩ := owns_shape hown')
    have hne : ∀ k, (Value.slice av l.length cv).ownBlock = some k → k ≠ nb ∧ k ≠ mb := fun k hk => H0.out.own hk
    have hner : (Value.slice av l.length cv).ownBlock ≠ some w.heap.size := fun e => by have := (H0.out.row.lt _ e).2; omega
    have HWB2 := Lib.hid ((hgrow'.block nb hltw (fun e => (hne nb e.symm).1 rfl)).trans HWB.out)
    have HRB2 := Lib.hid ((hgrow'.block w.heap.size hltr (fun e => hner e.symm)).trans HRB.out)
    have HSET2 := Lib.hid (HSET.out.same (hgrow'.block mb HSET.out.map.lt (fun e => (hne mb e.symm).2 rfl)))
    have HGR := Lib.hid hgrow'
    have HPL := Lib.hid hpl
    have HOW := Lib.hid (show wc.ownsRow base 37 3 (.slice ae (l.length + 1) ce) (l ++ [r]).length ((l ++ [r]).flatMap refC) by rw [List.length_append, List.flatMap_append]; simpa [refC] using hown')
    have c4 := cellH (k := 0) HWB2.out
    have f4 := frozenH (k := 0) HWB2.out
    have s0 := cellH (k := 0) HRB2.out
    have s1 := cellH (k := 1) HRB2.out
    have s2 := cellH (k := 2) HRB2.out
    simp only [List.getElem?_toArray, List.getElem?_cons_succ, List.getElem?_cons_zero] at c4 s0 s1 s2
    clear hown' hgrow' hpl c3 f3 r0 r1 r2 hne hner
    refine ⟨⟨c4, s0, s1, s2⟩, ?_⟩
    refine hld_take 8 rfl (by kernel_rfl) (by kernel_rfl) (by kernel_rfl) (fun _ _ _ h => h) rfl (by go_simp) (by rintro w' ⟨hw1, hw2, hw3, hw4⟩; go_simp; rfl) ?_
    simp only [Act.put, List.setIfInBounds_toArray, List.set_cons_succ, List.set_cons_zero]
    refine hld_take 9 rfl (by kernel_rfl) (by kernel_rfl) (by kernel_rfl) (fun _ _ _ h => h) rfl (by go_simp) (by rintro w' ⟨hw1, hw2, hw3, hw4⟩; go_simp; rfl) ?_
    simp only [Act.put, List.setIfInBounds_toArray, List.set_cons_succ, List.set_cons_zero]
    refine hld_done (by kernel_rfl) ?_
    refine last_run rfl rfl (fun K hK => ?_)
    go_wp2_with fail
    go_ret
    refine ⟨ret_int (by rw [HM.out, idxOf_mention HNM.out]), .slice ae (l.length + 1) ce, ?_, ?_, ?_⟩
    · rw [HM.out]
      have hws := H0.out.wne
      have hx := setH (k := 0) HWB2.out (.slice ae (l.length + 1) ce)
      simp only [List.setIfInBounds_toArray, List.set_cons_succ, List.set_cons_zero] at hx
      refine ⟨hx, HSET2.out.same (Below.heap_setCell _ _ _ _ (Ne.symm hws)), HOW.out.kept (grown_set _ _ _ _) (.inr (fun e => ?_))⟩
      rcases HPL.out nb e with h1 | h1
      · exact (H0.out.own h1).1 rfl
      · omega
    · refine Grows.trans (Grows.of_below HBW.out) (Grows.trans (S := StOwn nb mb (.slice av l.length cv)) (Grows.of_grown HG3.out (fun k hk => by cases hk; exact .inr (.inl rfl))) (Grows.trans (S := StOwn nb mb (.slice av l.length cv)) (Grows.of_grown HGR.out (fun k hk => .inr (.inr hk))) (Grows.of_grown (S := StOwn nb mb (.slice av l.length cv)) (grown_set wc nb 0 _) (fun k hk => by cases hk; exact .inl rfl)) (fun i _ h => h)) (fun i _ h => h)) (fun i _ h => h)
    · intro k hk
      rcases HPL.out k hk with h1 | h1
      · exact .inl h1
      · exact .inr (by omega)
set_option maxRecDepth 100000 in
set_option maxHeartbeats 1000000 in
theorem has_any (base nb mb : Nat) (v : Value) (l : List Ref) (r : Ref) (w : World) (h : StAt w base nb mb v l) (hr : RefOk r) :
    Calls Tryd.prog 33 #[.pointer (some ⟨nb, 0, none⟩), refV r] w fun e w' => e = .returned (.bool (decide (r ∈ l))) ∧ Below w.heap.size w w' := by
  obtain ⟨W, hW⟩ : ∃ W : World, W = (w.alloc (.cells #[.string r.name, .int .i64 r.gen, .int .i64 r.size] 37)).drew := ⟨_, rfl⟩
  have hbW : Below w.heap.size w W := by rw [hW]; exact ((Below.refl _ _).alloc (Nat.le_refl _) _).drew
  have HBW := Lib.hid hbW
  have HK := Lib.hid (h.below hbW)
  have bx : W.heap[w.heap.size]? = some (.cells #[.string r.name, .int .i64 r.gen, .int .i64 r.size] 37 (0, 0)) := by rw [hW]; exact heap_alloc_new w _
  have HR := Lib.hid hr
  have HW := Lib.hid hW
  have q0 := cellH (k := 0) bx
  have q1 := cellH (k := 1) bx
  have q2 := cellH (k := 2) bx
  have c1 := cellH (k := 1) HK.out.box
  simp only [List.getElem?_toArray, List.getElem?_cons_succ, List.getElem?_cons_zero] at q0 q1 q2 c1
  unfold refV
  clear h hr bx hbW
  by_cases hm : r ∈ l
  · have hlk := HK.out.idx.hit HR.out hm
    unfold refV at hlk
    have HM := Lib.hid (show decide (r ∈ l) = true by simp [hm])
    clear hm
    go_enter Tryd.func33, Tryd.ntmps33
    go_wp2_with fail
    refine wp_region_segs [some 11] (by kernel_rfl) (by kernel_rfl) (by kernel_rfl) ?_
    simp only [wpSegs, List.take_succ_cons, List.take_zero, List.drop_succ_cons, List.drop_zero]
    rw [← HW.out]
    clear hW
    repeat (first | (refine seg_skip rfl ?_; simp only [Act.put, List.setIfInBounds_toArray, List.set_cons_succ, List.set_cons_zero]) | (refine seg_run rfl (fun K hK => ?_); go_simp; refine hK _ ?_; clear hK K))
    refine seg_nil ?_
    go_wp2_with fail
    go_ret
    exact ⟨ret_bool (by rw [HM.out]), HBW.out⟩
  · have hlk := HK.out.idx.miss HR.out hm
    unfold refV at hlk
    have HM := Lib.hid (show decide (r ∈ l) = false by simp [hm])
    clear hm
    go_enter Tryd.func33, Tryd.ntmps33
    go_wp2_with fail
    refine wp_region_segs [some 11] (by kernel_rfl) (by kernel_rfl) (by kernel_rfl) ?_
    simp only [wpSegs, List.take_succ_cons, List.take_zero, List.drop_succ_cons, List.drop_zero]
    rw [← HW.out]
    clear hW
    repeat (first | (refine seg_skip rfl ?_; simp only [Act.put, List.setIfInBounds_toArray, List.set_cons_succ, List.set_cons_zero]) | (refine seg_run rfl (fun K hK => ?_); go_simp; refine hK _ ?_; clear hK K))
    refine seg_nil ?_
    go_wp2_with fail
    go_ret
    exact ⟨ret_bool (by rw [HM.out]), HBW.out⟩

end Go.Proofs.YtndgmcggckpgfaaDoor

/- Contracts of package liveness: without, each, needed. -/
namespace Go.Proofs.YtndgmcggckpgfaaDoor
open Go.RowKit

def lessP (rs l : List Ref) : List Ref := rs.filter fun r => !decide (r ∈ l)
theorem lessP_snoc (rs l : List Ref) (r : Ref) : lessP (rs ++ [r]) l = if r ∈ l then lessP rs l else lessP rs l ++ [r] := by
  unfold lessP
  rw [List.filter_append]
  by_cases h : r ∈ l <;> simp [h]
theorem lessP_le (rs l : List Ref) : (lessP rs l).length ≤ rs.length := List.length_filter_le _ _
theorem has_is (base nb mb : Nat) (v : Value) (l : List Ref) (r : Ref) (b : Bool) (w : World) (h : StAt w base nb mb v l) (hr : RefOk r) (hb : decide (r ∈ l) = b) :
    Calls Tryd.prog 33 #[.pointer (some ⟨nb, 0, none⟩), refV r] w fun e w' => e = .returned (.bool b) ∧ Below w.heap.size w w' := by
  rw [← hb]; exact has_any base nb mb v l r w h hr
/-- append(s, x) of one element, which lies in the newest block: the bound in bytes. -/
theorem wpList_app1B {P : Program} {ops : Array Oper} {rest : List Oper} {o : Oper} {a : Act} {Q : Exit → Act → World → Prop} {t e : TypeId} {sz bytes : Nat} (T : AppTy P t e sz bytes) (hgd : o.guard = none) (s x : Operand)
    (ho : o.op = .call { callee := .builtin .append, args := #[s, x], argTypes := #[t, t] }) (base : Nat) (v : Value) (n : Nat) (xs : List Value) (hs : a.eval s = v) (w0 : World) (news : List Value) (e2 : TypeId)
    (hx : a.eval x = .slice (some ⟨w0.heap.size, 0, none⟩) 1 1) (hl : news.length = sz) (h1 : ∀ u ∈ news, u.oneCell' = true) (hown : w0.ownsRow base e sz v n xs) (h63 : n + 1 ≤ maxLen) (hby : (n + 1) * bytes ≤ 140737488355328) (hbase : base ≤ w0.heap.size)
    (h : ∀ v' w', w'.ownsRow base e sz v' (n + 1) (xs ++ news) → w0.grownBy w' v.ownBlock → v' ≠ .slice none 0 0 → wpList P ops Q rest (a.put o.dst v') w') : wpList P ops Q (o :: rest) a (w0.alloc (.cells news.toArray e2)) := by
  obtain ⟨ht, ⟨i, z, h11, h12, h13, h14, h15⟩, hpos, hsm⟩ := T
  have hnews : ∀ (j : Nat) u, news[j]? = some u → (w0.alloc (.cells news.toArray e2)).cell? ((⟨w0.heap.size, 0, none⟩ : Addr).add j) = some u := by
    intro j u hj
    rw [add_lit, Nat.zero_add]
    have hh := heap_alloc_new w0 (.cells news.toArray e2)
    simp only [World.cell?, hh]
    simp [hj]
  have hl1 : news.length = 1 * sz := by rw [hl, Nat.one_mul]
  obtain ⟨v', w', hr, h2, hg, hv⟩ := run_append_own (P := P) (w0.alloc (.cells news.toArray e2)) base t o.type e i z sz bytes ht h11 h12 h13 h14 h15 hpos v n xs (hown.alloc _) ⟨w0.heap.size, 0, none⟩ 1 1 news hl1 hnews h1 h63 hby (by simp; omega)
  refine wpList_plain hgd fun K hK => ?_
  unfold Oper.wp execOp
  simp only [ho, resolve, invoke, builtin, Sem.run_bind, Sem.run_pure, Result.andThen_ok, List.map_toArray, List.map_cons, List.map_nil, hs, hx, hr]
  refine hK _ _ (h v' w' h2 ⟨hg.os, hg.tape, hg.output, by have := hg.size; simp at this; omega, fun k hk hne => ?_⟩ (fun e => by have := (hv.1 e).2; omega))
  rw [hg.block k (by simp; omega) hne]
  exact Below.heap_alloc _ _ _ hk
def RefsRes (rs : List Ref) (w : World) (e : Ending) (w' : World) : Prop := ∃ v, e = .returned v ∧ RefsAt (w.heap.size ≤ ·) w' v rs ∧ Below w.heap.size w w'
set_option maxRecDepth 100000 in
set_option maxHeartbeats 2000000 in
theorem without_big (base nb mb : Nat) (v : Value) (l : List Ref) (S : Nat → Prop) (lv : Value) (rs : List Ref) (w : World) (h : StAt w base nb mb v l) (hv : RefsAt S w lv rs) (hlen : rs.length < 4398046511104) :
    Calls Tryd.prog 27 #[.pointer (some ⟨nb, 0, none⟩), lv] w (RefsRes (lessP rs l) w) := by
  obtain ⟨a, cap, rfl, hc, hm, -⟩ := SeqAt.shape hv RefR.len
  unfold maxLen at hm
  have HV := Lib.hid hv
  have H := Lib.hid h
  clear hv h
  go_enter Tryd.func27, Tryd.ntmps27
  go_wp2_with fail
  go_loopw [4, 9] (fun o i wr => ∃ k : Nat, k ≤ rs.length ∧ i = .int .i64 k ∧ wr.ownsRow w.heap.size 37 3 o (lessP (rs.take k) l).length ((lessP (rs.take k) l).flatMap refC) ∧ Below w.heap.size w wr ∧ ∀ r ∈ lessP (rs.take k) l, RefOk r) (fun _ i _ => rs.length - (intOf i).toNat)
  case atStart => exact ⟨0, Nat.zero_le _, rfl, World.ownsRow_nil _ _ _ _, Below.refl _ _, by simp [lessP]⟩
  case round =>
    obtain ⟨k, hk, rfl, hown, hb, hok⟩ := hrel
    have HO := Lib.hid hown
    have HB := Lib.hid hb
    have HOK := Lib.hid hok
    obtain ⟨ao, co, rfl, hn2, hm2⟩ := owns_shape hown
    have hlk := lessP_le (rs.take k) l
    rw [List.length_take] at hlk
    clear hown hb hok
    by_cases hlt : k < rs.length
    · obtain ⟨r, hr⟩ : ∃ r, rs[k]? = some r := ⟨rs[k], by simp [hlt]⟩
      obtain ⟨b, o, rfl, hrok, q0, q1, q2⟩ := refs_at HV.out HB.out hr
      have HRO := Lib.hid hrok
      have HSN := Lib.hid (show lessP (rs.take (k + 1)) l = if r ∈ l then lessP (rs.take k) l else lessP (rs.take k) l ++ [r] by rw [take_snoc' hr, lessP_snoc])
      have HAL := Lib.hid (HB.out.alloc HB.out.size (.cells #[.string r.name, .int .i64 r.gen, .int .i64 r.size] 37))
      have HST := Lib.hid (H.out.below HAL.out)
      have HBX := Lib.hid (heap_alloc_new wr (.cells #[.string r.name, .int .i64 r.gen, .int .i64 r.size] 37))
      clear hr hrok
      by_cases hm3 : r ∈ l
      · have HM := Lib.hid (show decide (r ∈ l) = true by simp [hm3])
        have HSN2 := Lib.hid (HSN.out.trans (if_pos hm3))
        clear hm3
        go_wp2_with fail
        refine (has_is base nb mb v l r true _ HST.out HRO.out HM.out).mono ?_
        rintro e w1 ⟨rfl, hb1⟩
        have HB1 := Lib.hid (below_next HAL.out hb1)
        have HO1 := Lib.hid (owns_below (HO.out.alloc (.cells #[.string r.name, .int .i64 r.gen, .int .i64 r.size] 37)) hb1)
        clear hb1
        go_wp2_with fail
        go_roundw
        case rel => exact ⟨k + 1, by omega, by go_num, by rw [HSN2.out]; exact HO1.out, HB1.out, by rw [HSN2.out]; exact HOK.out⟩
        case measure => simp [intOf]; omega
      · have HM := Lib.hid (show decide (r ∈ l) = false by simp [hm3])
        have HSN2 := Lib.hid (HSN.out.trans (if_neg hm3))
        clear hm3
        go_wp2_with fail
        refine (has_is base nb mb v l r false _ HST.out HRO.out HM.out).mono ?_
        rintro e w1 ⟨rfl, hb1⟩
        have HB1 := Lib.hid (below_next HAL.out hb1)
        have HO1 := Lib.hid (owns_below (HO.out.alloc (.cells #[.string r.name, .int .i64 r.gen, .int .i64 r.size] 37)) hb1)
        have HBX1 := Lib.hid ((hb1.block wr.heap.size (by simp)).trans HBX.out)
        have p0 := cellH (k := 0) HBX1.out
        have p1 := cellH (k := 1) HBX1.out
        have p2 := cellH (k := 2) HBX1.out
        simp only [List.getElem?_toArray, List.getElem?_cons_succ, List.getElem?_cons_zero] at p0 p1 p2
        have hz1 := HB1.out.size
        clear hb1
        go_wp2_with (at_builtin; go_must (refine wpList_app1B Tryd.appRefs rfl _ _ rfl w.heap.size (.slice ao (lessP (rs.take k) l).length co) (lessP (rs.take k) l).length ((lessP (rs.take k) l).flatMap refC) rfl w1 [.string r.name, .int .i64 r.gen, .int .i64 r.size] _ rfl rfl (refC_one (r := r)) HO1.out (by unfold maxLen; omega) (by omega) hz1 ?_); intro v' wc hown' hgrow' _; have HB2 := Lib.hid (below_grown HB1.out HO1.out hgrow' (Nat.le_refl _) hz1); have HO2 := Lib.hid (show wc.ownsRow w.heap.size 37 3 v' (lessP (rs.take (k + 1)) l).length ((lessP (rs.take (k + 1)) l).flatMap refC) by rw [HSN2.out, List.length_append, List.flatMap_append]; simpa [refC] using hown'); obtain ⟨ae, ce, rfl, -, -⟩ := owns_shape hown'; clear hown' hgrow')
        go_roundw
        case rel =>
          refine ⟨k + 1, by omega, by go_num, HO2.out, HB2.out, ?_⟩
          rw [HSN2.out]
          intro x hx
          rcases List.mem_append.1 hx with hx | hx
          · exact HOK.out x hx
          · simp only [List.mem_singleton] at hx; subst hx; exact HRO.out
        case measure => simp [intOf]; omega
    · obtain rfl : k = rs.length := by omega
      have HTK := Lib.hid (show lessP (rs.take rs.length) l = lessP rs l by rw [List.take_of_length_le (Nat.le_refl _)])
      go_wp2_with fail
      go_ret
      rw [← HTK.out]
      exact ⟨_, rfl, RefsAt.same (refs_owned HO.out HOK.out) (fun k _ hS => ⟨hS.1, rfl⟩), HB.out⟩
theorem without_any (base nb mb : Nat) (v : Value) (l : List Ref) (S : Nat → Prop) (lv : Value) (rs : List Ref) (w : World) (h : StAt w base nb mb v l) (hv : RefsAt S w lv rs) (hlen : rs.length < 1099511627775) :
    Calls Tryd.prog 27 #[.pointer (some ⟨nb, 0, none⟩), lv] w (RefsRes (lessP rs l) w) := without_big base nb mb v l S lv rs w h hv (by omega)
/-- Snapshots: their roots. -/
def SnapR (c : List Value) (r : Ref) : Prop := ∃ (a b d f g : Int) (p : ByteArray) (h : Bool), c = [.int .i64 a, .int .i64 b, .int .i64 d, .string r.name, .int .i64 r.gen, .int .i64 r.size, .int .i64 f, .int .i64 g, .string p, .bool h] ∧ RefOk r
theorem SnapR.len (c : List Value) (r : Ref) (h : SnapR c r) : c.length = 10 := by obtain ⟨a, b, d, f, g, p, h, rfl, _⟩ := h; rfl
def SnapsAt (S : Nat → Prop) (w : World) (v : Value) (rs : List Ref) : Prop := SeqAt S w 10 SnapR v rs
theorem snaps_at {S : Nat → Prop} {w w' : World} {a : Option Addr} {n cap : Nat} {rs : List Ref} (hv : SnapsAt S w (.slice a n cap) rs) (hb : Below w.heap.size w w') {k : Nat} {r : Ref} (hr : rs[k]? = some r) :
    ∃ bl o a1 a2 a3 a4 a5 p h, a = some ⟨bl, o, none⟩ ∧ RefOk r ∧ ∀ j, j < 10 → w'.cell? ⟨bl, o + k * 10 + j, none⟩ = ([.int .i64 a1, .int .i64 a2, .int .i64 a3, .string r.name, .int .i64 r.gen, .int .i64 r.size, .int .i64 a4, .int .i64 a5, .string p, .bool h] : List Value)[j]? := by
  obtain ⟨a', cap', hv', _, _, hx⟩ := SeqAt.shape hv SnapR.len
  cases hv'
  obtain ⟨b, o, c, rfl, hS, ⟨a1, a2, a3, a4, a5, p, h, rfl, hok⟩, _, hcl⟩ := hx k r hr
  have q0 := hcl 0 (by omega)
  have hlt : b < w.heap.size := block_lt (a := ⟨b, o + (k * 10 + 0), none⟩) (v := .int .i64 a1) q0
  refine ⟨b, o, a1, a2, a3, a4, a5, p, h, rfl, hok, fun j hj => ?_⟩
  rw [Nat.add_assoc]
  exact (hb.cell (p := ⟨b, o + (k * 10 + j), none⟩) hlt).trans (hcl j hj)
/-- What a root needs, as a function. -/
def NeedOk (cs : List (ByteArray × List UInt8)) (need : Ref → Except Int (List Ref)) : Prop := ∀ r, RefOk r → ∃ n, needP (nodeP cs) n r = some (need r) ∧ ∀ p, walkP (nodeP cs) n r ([], []) = some p → p.2.2.length ≤ 1000000000
theorem NeedOk.refs {cs : List (ByteArray × List UInt8)} {need : Ref → Except Int (List Ref)} (hn : NeedOk cs need) (S : Nat → Prop) (cv : Value) (root : Ref) (w : World) (hc : ContAt S w cv cs) (henv : Env w) (hr : RefOk root) : Calls Tryd.prog 32 #[refV root, cv] w (NeedRes (need root) w) := by
  obtain ⟨n, h1, h2⟩ := hn root hr
  exact refs_any S cv cs n root (need root) w hc henv hr h1 (fun p hp => by have := h2 p hp; omega)
theorem NeedOk.le {cs : List (ByteArray × List UInt8)} {need : Ref → Except Int (List Ref)} (hn : NeedOk cs need) {r : Ref} {rs : List Ref} (hr : RefOk r) (h : need r = .ok rs) : rs.length ≤ 1000000000 := by
  obtain ⟨n, h1, h2⟩ := hn r hr
  rw [h, needP] at h1
  split at h1
  · rw [Option.map_eq_some_iff] at h1
    obtain ⟨p, h3, h4⟩ := h1
    split at h4
    · simp only [Except.ok.injEq] at h4
      subst h4
      exact h2 p h3
    · simp at h4
  · simp at h1
def eachP (need : Ref → Except Int (List Ref)) : List Ref → Except Int (List (List Ref))
  | [] => .ok []
  | r :: rs => match need r with
    | .error x => .error x
    | .ok l => match eachP need rs with
      | .error x => .error x
      | .ok ls => .ok (l :: ls)
/-- The first k of them are well. -/
theorem eachP_bad {need : Ref → Except Int (List Ref)} {x : Int} : ∀ {rs : List Ref} {k : Nat} {r : Ref} {ls : List (List Ref)}, eachP need (rs.take k) = .ok ls → rs[k]? = some r → need r = .error x → eachP need rs = .error x
  | [], k, r, ls, _, h2, _ => by simp at h2
  | a :: rs, 0, r, ls, _, h2, h3 => by
    simp at h2; subst h2
    simp only [eachP, h3]
  | a :: rs, k + 1, r, ls, h1, h2, h3 => by
    rw [List.take_succ_cons, eachP] at h1
    cases ha : need a with
    | error y => rw [ha] at h1; simp at h1
    | ok l =>
      rw [ha] at h1
      simp only at h1
      cases hk : eachP need (rs.take k) with
      | error y => rw [hk] at h1; simp at h1
      | ok ls' =>
        have := eachP_bad hk (by simpa using h2) h3
        simp only [eachP, ha, this]
theorem eachP_snoc {need : Ref → Except Int (List Ref)} : ∀ {rs : List Ref} {r : Ref} {ls : List (List Ref)} {l : List Ref}, eachP need rs = .ok ls → need r = .ok l → eachP need (rs ++ [r]) = .ok (ls ++ [l])
  | [], r, ls, l, h1, h2 => by
    simp only [eachP, Except.ok.injEq] at h1
    subst h1
    simp [eachP, h2]
  | a :: rs, r, ls, l, h1, h2 => by
    rw [eachP] at h1
    cases ha : need a with
    | error y => rw [ha] at h1; simp at h1
    | ok l0 =>
      rw [ha] at h1
      simp only at h1
      cases hk : eachP need rs with
      | error y => rw [hk] at h1; simp at h1
      | ok ls' =>
        rw [hk] at h1
        simp only [Except.ok.injEq] at h1
        subst h1
        simp only [List.cons_append, eachP, ha, eachP_snoc hk h2]
/-- A list of lists of references. -/
def ListR (S : Nat → Prop) (w : World) (c : List Value) (rs : List Ref) : Prop := ∃ a cap, c = [.slice a rs.length cap] ∧ RefsAt S w (.slice a rs.length cap) rs
theorem ListR.len {S : Nat → Prop} {w : World} (c : List Value) (rs : List Ref) (h : ListR S w c rs) : c.length = 1 := by obtain ⟨a, cap, rfl, _⟩ := h; rfl
def ListsAt (S : Nat → Prop) (w : World) (v : Value) (ls : List (List Ref)) : Prop := SeqAt S w 1 (ListR S w) v ls
theorem ListsAt.below {S : Nat → Prop} {w w' : World} {v : Value} {ls : List (List Ref)} (h : ListsAt S w v ls) (hb : Below w.heap.size w w') : ListsAt S w' v ls :=
  SeqAt.below h (by omega) hb (fun c x _ ⟨a, cap, h1, h2⟩ => ⟨a, cap, h1, SeqAt.below h2 (by omega) hb (fun _ _ _ h => h)⟩)
theorem Tryd.appLists : AppTy Tryd.prog 66 22 1 24 := AppTy.mk' (z := .slice none 0 0) Tryd.underlying66 (by kernel_rfl) rfl (by decide) (by decide)
def EachRes (res : Except Int (List (List Ref))) (w : World) (e : Ending) (w' : World) : Prop := Below w.heap.size w w' ∧ match res with
  | .error x => e = .returned (.tuple #[.slice none 0 0, .int .i64 x]) ∧ x ≠ 0
  | .ok ls => ∃ v, e = .returned (.tuple #[v, .int .i64 0]) ∧ ListsAt (w.heap.size ≤ ·) w' v ls
set_option maxRecDepth 100000 in
set_option maxHeartbeats 2000000 in
theorem each_any (cs : List (ByteArray × List UInt8)) (need : Ref → Except Int (List Ref)) (hn : NeedOk cs need) (S T : Nat → Prop) (sv cv : Value) (roots : List Ref) (w : World) (hs : SnapsAt T w sv roots) (hc : ContAt S w cv cs) (henv : Env w) (hlen : roots.length < 1000000) :
    Calls Tryd.prog 24 #[sv, cv] w (EachRes (eachP need roots) w) := by
  obtain ⟨a, cap, rfl, hcp, hm, -⟩ := SeqAt.shape hs SnapR.len
  unfold maxLen at hm
  have HN := Lib.hid hn
  have HS := Lib.hid hs
  have HC := Lib.hid hc
  have HE := Lib.hid henv
  clear hs hc henv hn
  go_enter Tryd.func24, Tryd.ntmps24
  go_wp2_with fail
  go_loopw [4, 12] (fun o i wr => ∃ (k : Nat) (ls : List (List Ref)) (cells : List Value), k ≤ roots.length ∧ i = .int .i64 k ∧ eachP need (roots.take k) = .ok ls ∧ ls.length = k ∧ wr.ownsRow w.heap.size 22 1 o ls.length cells ∧ RowsIn (ListR (fun k => w.heap.size ≤ k ∧ o.ownBlock ≠ some k) wr) cells ls ∧ Below w.heap.size w wr) (fun _ i _ => roots.length - (intOf i).toNat)
  case atStart => exact ⟨0, [], [], Nat.zero_le _, rfl, rfl, rfl, World.ownsRow_nil _ _ _ _, rfl, Below.refl _ _⟩
  case round =>
    obtain ⟨k, ls, cells, hk, rfl, hep, hlk, hown, hrows, hb⟩ := hrel
    have HEP := Lib.hid hep
    have HLK := Lib.hid hlk
    have HO := Lib.hid hown
    have HRW := Lib.hid hrows
    have HB := Lib.hid hb
    obtain ⟨ao, co, hov, hn2, hm2⟩ := owns_shape hown
    subst hov
    clear hep hlk hown hrows hb
    by_cases hlt : k < roots.length
    · obtain ⟨r, hr⟩ : ∃ r, roots[k]? = some r := ⟨roots[k], by simp [hlt]⟩
      obtain ⟨b, o, a1, a2, a3, a4, a5, p, h, rfl, hrok, hcl⟩ := snaps_at HS.out HB.out hr
      have HR := Lib.hid hr
      have HRO := Lib.hid hrok
      have q0 := hcl 0 (by omega)
      have q1 := hcl 1 (by omega)
      have q2 := hcl 2 (by omega)
      have q3 := hcl 3 (by omega)
      have q4 := hcl 4 (by omega)
      have q5 := hcl 5 (by omega)
      have q6 := hcl 6 (by omega)
      have q7 := hcl 7 (by omega)
      have q8 := hcl 8 (by omega)
      have q9 := hcl 9 (by omega)
      simp only [List.getElem?_cons_zero, List.getElem?_cons_succ, Nat.add_zero] at q0 q1 q2 q3 q4 q5 q6 q7 q8 q9
      have HAL := Lib.hid (HB.out.alloc HB.out.size (.cells #[.int .i64 a1, .int .i64 a2, .int .i64 a3, .string r.name, .int .i64 r.gen, .int .i64 r.size, .int .i64 a4, .int .i64 a5, .string p, .bool h] 55))
      have HC1 := Lib.hid (HC.out.below HAL.out)
      have HE1 := Lib.hid (HE.out.below HAL.out)
      clear hr hrok hcl
      go_wp2_with fail
      refine (HN.out.refs S cv r _ HC1.out HE1.out HRO.out).mono ?_
      rintro e w1 ⟨hb1, hres⟩
      have HB1 := Lib.hid (below_next HAL.out hb1)
      have HBr := Lib.hid (show Below wr.heap.size wr w1 from ((Below.refl _ _).alloc (Nat.le_refl _) _).trans (hb1.mono (by simp)))
      have hzr : wr.heap.size + 1 ≤ w1.heap.size := by have := hb1.size; simpa using this
      clear hb1 q0 q1 q2 q3 q4 q5 q6 q7 q8 q9
      cases hnd : need r with
      | error x =>
        rw [hnd] at hres
        obtain ⟨rfl, hx⟩ := hres
        have e1 : (x != 0) = true := by simp [hx]
        have HX := Lib.hid hx
        have HRES := Lib.hid (eachP_bad HEP.out HR.out hnd)
        clear hnd hx
        go_wp2_with fail
        go_ret2
        exact ⟨HB1.out, by rw [HRES.out]; exact ⟨rfl, HX.out⟩⟩
      | ok rl =>
        rw [hnd] at hres
        obtain ⟨rv, rfl, hrv⟩ := hres
        have HRV := Lib.hid hrv
        obtain ⟨ra, rc, rfl, -, -, -⟩ := SeqAt.shape hrv RefR.len
        have HEP2 := Lib.hid (show eachP need (roots.take (k + 1)) = .ok (ls ++ [rl]) by rw [take_snoc' HR.out]; exact eachP_snoc HEP.out hnd)
        have HO1 := Lib.hid (owns_below HO.out HBr.out)
        have hbz := HB1.out.size
        have hll : ls.length < 1000000 := by have := HLK.out; omega
        clear hnd hrv
        go_wp2_with (at_builtin; go_must (refine wpList_app1p Tryd.appLists rfl _ _ rfl w.heap.size (.slice ao ls.length co) ls.length cells rfl w1 [.slice ra rl.length rc] _ rfl rfl (by simp; rfl) HO1.out (by omega) hbz ?_); intro v' wc hown' hgrow' _ hpl; have HB2 := Lib.hid (below_grown HB1.out HO1.out hgrow' (Nat.le_refl _) hbz); have HGR := Lib.hid hgrow'; have HPL := Lib.hid hpl; have HO2 := Lib.hid (show wc.ownsRow w.heap.size 22 1 v' (ls ++ [rl]).length (cells ++ [.slice ra rl.length rc]) by rw [List.length_append]; exact hown'); obtain ⟨ae, ce, rfl, -, -⟩ := owns_shape hown'; clear hown' hgrow' hpl)
        go_roundw
        case rel =>
          have hbsz := HBr.out.size
          refine ⟨k + 1, ls ++ [rl], cells ++ [.slice ra rl.length rc], by omega, by go_num, HEP2.out, by simp [HLK.out], HO2.out, RowsIn.snoc (HRW.out.mono (fun c x _ ⟨a, cap, h1, h2⟩ => ⟨a, cap, h1, RefsAt.same h2 (fun k hk hS => ⟨⟨hS.1, fun e => ?_⟩, ?_⟩)⟩)) ⟨ra, rc, rfl, RefsAt.same HRV.out (fun k hk hS => ⟨⟨?_, fun e => ?_⟩, ?_⟩)⟩, HB2.out⟩
          · have := HB.out.size; simp at hS; omega
          · simp at hS
            rcases HPL.out k e with e | e
            · have := (HO.out.lt k e).2; omega
            · omega
          · refine HGR.out.block k hk (fun e => ?_)
            simp at hS
            have := (HO.out.lt k e.symm).2
            omega
          · rcases HPL.out k e with e | e
            · exact hS.2 e
            · omega
          · rw [HGR.out.block k (by omega) (fun e => hS.2 e.symm)]
            exact HBr.out.block k hk
        case measure => simp [intOf]; omega
    · obtain rfl : k = roots.length := by omega
      have HEP2 := Lib.hid (show eachP need roots = .ok ls by have := HEP.out; rwa [List.take_of_length_le (Nat.le_refl _)] at this)
      go_wp2_with fail
      go_ret2
      refine ⟨HB.out, by rw [HEP2.out]; exact ⟨_, rfl, cells, (row_of_owns HO.out).weak (fun k hk => hk.1), HRW.out.mono (fun c x _ ⟨a, cap, h1, h2⟩ => ⟨a, cap, h1, RefsAt.same h2 (fun k _ hS => ⟨hS.1, rfl⟩)⟩)⟩⟩

end Go.Proofs.YtndgmcggckpgfaaDoor

/- Contracts of package liveness: needed, Needed, Orphans, Delta. -/
namespace Go.Proofs.YtndgmcggckpgfaaDoor
open Go.RowKit


def unionP (ls : List (List Ref)) : List Ref := ls.foldl (fun acc l => menAll l acc) []
theorem mentionP_len (r : Ref) (rs : List Ref) : (mentionP r rs).length ≤ rs.length + 1 := by unfold mentionP; split <;> simp
theorem menAll_len : ∀ (l acc : List Ref), (menAll l acc).length ≤ acc.length + l.length
  | [], acc => by simp [menAll]
  | r :: l, acc => by
    have h1 := menAll_len l (mentionP r acc)
    have h2 := mentionP_len r acc
    show (menAll l (mentionP r acc)).length ≤ _
    simp only [List.length_cons]; omega
theorem unionP_snoc (ls : List (List Ref)) (l : List Ref) : unionP (ls ++ [l]) = menAll l (unionP ls) := by unfold unionP; rw [List.foldl_append]; rfl
theorem foldl_len : ∀ (ls : List (List Ref)) (acc : List Ref), (∀ l ∈ ls, l.length ≤ 1000000000) → (ls.foldl (fun acc l => menAll l acc) acc).length ≤ acc.length + ls.length * 1000000000
  | [], acc, _ => by simp
  | l :: ls, acc, h => by
    have h1 := foldl_len ls (menAll l acc) (fun x hx => h x (by simp [hx]))
    have h2 := menAll_len l acc
    have h3 := h l (by simp)
    simp only [List.foldl_cons, List.length_cons]; omega
theorem unionP_len {ls : List (List Ref)} (h : ∀ l ∈ ls, l.length ≤ 1000000000) : (unionP ls).length ≤ ls.length * 1000000000 := by
  have := foldl_len ls [] h; simpa [unionP] using this
theorem eachP_mem {need : Ref → Except Int (List Ref)} : ∀ {rs : List Ref} {ls : List (List Ref)}, eachP need rs = .ok ls → ∀ l ∈ ls, ∃ r ∈ rs, need r = .ok l
  | [], ls, h, l, hl => by simp only [eachP, Except.ok.injEq] at h; subst h; simp at hl
  | a :: rs, ls, h, l, hl => by
    rw [eachP] at h
    cases ha : need a with
    | error y => rw [ha] at h; simp at h
    | ok l0 =>
      rw [ha] at h
      simp only at h
      cases hk : eachP need rs with
      | error y => rw [hk] at h; simp at h
      | ok ls' =>
        rw [hk] at h
        simp only [Except.ok.injEq] at h
        subst h
        rcases List.mem_cons.1 hl with rfl | hl
        · exact ⟨a, by simp, ha⟩
        · obtain ⟨r, h1, h2⟩ := eachP_mem hk l hl
          exact ⟨r, by simp [h1], h2⟩
theorem eachP_len {need : Ref → Except Int (List Ref)} : ∀ {rs : List Ref} {ls : List (List Ref)}, eachP need rs = .ok ls → ls.length = rs.length
  | [], ls, h => by simp only [eachP, Except.ok.injEq] at h; subst h; rfl
  | a :: rs, ls, h => by
    rw [eachP] at h
    cases ha : need a with
    | error y => rw [ha] at h; simp at h
    | ok l0 =>
      rw [ha] at h
      simp only at h
      cases hk : eachP need rs with
      | error y => rw [hk] at h; simp at h
      | ok ls' =>
        rw [hk] at h
        simp only [Except.ok.injEq] at h
        subst h
        simp [eachP_len hk]
theorem SnapsAt.ok {S : Nat → Prop} {w : World} {v : Value} {rs : List Ref} (h : SnapsAt S w v rs) : ∀ r ∈ rs, RefOk r := fun r hr => by
  obtain ⟨k, hk, rfl⟩ := List.getElem_of_mem hr
  obtain ⟨a, cap, rfl, _⟩ := SeqAt.shape h SnapR.len
  obtain ⟨_, _, _, _, _, _, _, _, _, _, h1, _⟩ := snaps_at h (Below.refl _ _) (k := k) (r := rs[k]) (by simp)
  exact h1
theorem eachP_le {cs : List (ByteArray × List UInt8)} {need : Ref → Except Int (List Ref)} (hn : NeedOk cs need) {rs : List Ref} {ls : List (List Ref)} (hok : ∀ r ∈ rs, RefOk r) (h : eachP need rs = .ok ls) : ∀ l ∈ ls, l.length ≤ 1000000000 := fun l hl => by
  obtain ⟨r, h1, h2⟩ := eachP_mem h l hl
  exact hn.le (hok r h1) h2
theorem lists_at {S : Nat → Prop} {w w' : World} {a : Option Addr} {n cap : Nat} {ls : List (List Ref)} (hv : ListsAt S w (.slice a n cap) ls) (hb : Below w.heap.size w w') {k : Nat} {l : List Ref} (hl : ls[k]? = some l) :
    ∃ b o ca cc, a = some ⟨b, o, none⟩ ∧ w'.cell? ⟨b, o + k, none⟩ = some (.slice ca l.length cc) ∧ RefsAt S w' (.slice ca l.length cc) l := by
  obtain ⟨a', cap', hv', _, _, hx⟩ := SeqAt.shape hv ListR.len
  cases hv'
  obtain ⟨b, o, c, rfl, hS, ⟨ca, cc, rfl, hrf⟩, _, hcl⟩ := hx k l hl
  have q0 := hcl 0 (by omega)
  simp only [List.getElem?_cons_zero, Nat.mul_one, Nat.add_zero] at q0
  exact ⟨b, o, ca, cc, rfl, (hb.cell (block_lt q0)).trans q0, SeqAt.below hrf (by omega) hb (fun _ _ _ h => h)⟩
def NeededRes (res : Except Int (List (List Ref))) (w : World) (e : Ending) (w' : World) : Prop := Below w.heap.size w w' ∧ match res with
  | .error x => e = .returned (.tuple #[.pointer none, .int .i64 x]) ∧ x ≠ 0
  | .ok ls => ∃ base nb mb v, e = .returned (.tuple #[.pointer (some ⟨nb, 0, none⟩), .int .i64 0]) ∧ StAt w' base nb mb v (unionP ls) ∧ w.heap.size ≤ base
theorem ListsAt.same {S : Nat → Prop} {w w' : World} {v : Value} {ls : List (List Ref)} (h : ListsAt S w v ls) (hs : ∀ k, k < w.heap.size → w'.heap[k]? = w.heap[k]?) : ListsAt S w' v ls := by
  obtain ⟨cells, hr, hin⟩ := h
  have h2 := hr.mono (T := fun k => k < w.heap.size ∧ S k) (fun k hk hS => ⟨hk, hS⟩) (by omega)
  have h3 := h2.same (w' := w') (fun k hk => hs k hk.1)
  exact ⟨cells, h3.weak (fun k hk => hk.2), hin.mono (fun c x _ ⟨a, cap, h1, hx⟩ => ⟨a, cap, h1, RefsAt.same hx (fun k hk hS => ⟨hS, hs k hk⟩)⟩)⟩
theorem ListsAt.lt {S : Nat → Prop} {w : World} {v : Value} {ls : List (List Ref)} (h : ListsAt S w v ls) : ListsAt (· < w.heap.size) w v ls := by
  obtain ⟨cells, hr, hin⟩ := h
  exact ⟨cells, hr.mono (fun _ hk _ => hk) (by omega), hin.mono (fun c x _ ⟨a, cap, h1, hx⟩ => ⟨a, cap, h1, RefsAt.same hx (fun k hk _ => ⟨hk, rfl⟩)⟩)⟩
theorem st_ge {B base nb mb : Nat} {w : World} {v : Value} {l : List Ref} (h : StAt w base nb mb v l) (h1 : B ≤ base) (h2 : B ≤ nb) (h3 : B ≤ mb) {k : Nat} (hk : StOwn nb mb v k) : B ≤ k := by
  rcases hk with e | e | e
  · omega
  · omega
  · have := (h.row.lt k e).1; omega
set_option maxRecDepth 100000 in
set_option maxHeartbeats 4000000 in
theorem needed_any (cs : List (ByteArray × List UInt8)) (need : Ref → Except Int (List Ref)) (hn : NeedOk cs need) (S T : Nat → Prop) (sv cv : Value) (roots : List Ref) (w : World) (hs : SnapsAt T w sv roots) (hc : ContAt S w cv cs) (henv : Env w) (hlen : roots.length ≤ 1000) :
    Calls Tryd.prog 28 #[sv, cv] w (NeededRes (eachP need roots) w) := by
  have hrok := hs.ok
  have HOK := Lib.hid hrok
  have HN := Lib.hid hn
  have HE := Lib.hid (each_any cs need hn S T sv cv roots w hs hc henv (by omega))
  clear hn hs hc henv hrok
  go_enter Tryd.func28, Tryd.ntmps28
  go_wp2_with fail
  refine HE.out.mono ?_
  rintro e w1 ⟨hb1, hres⟩
  have HB1 := Lib.hid hb1
  clear hb1 HE
  cases hep : eachP need roots with
  | error x =>
    rw [hep] at hres
    obtain ⟨rfl, hx⟩ := hres
    have e1 : (x != 0) = true := by simp [hx]
    have HX := Lib.hid hx
    have HEP := Lib.hid hep
    clear hep hx
    go_wp2_with fail
    go_ret2
    exact ⟨HB1.out, by rw [HEP.out]; exact ⟨rfl, HX.out⟩⟩
  | ok ls =>
    rw [hep] at hres
    obtain ⟨lv, rfl, hlv⟩ := hres
    have HLV := Lib.hid hlv.lt
    have HEP := Lib.hid hep
    obtain ⟨la, lc, rfl, hlc, hlm, -⟩ := SeqAt.shape hlv ListR.len
    unfold maxLen at hlm
    have HLE := Lib.hid (eachP_le HN.out HOK.out hep)
    have hll : ls.length ≤ 1000 := by rw [eachP_len hep]; exact hlen
    clear hep hlv
    go_wp2_with fail
    refine (newSet_any w1 w1.heap.size).mono ?_
    rintro e w2 ⟨rfl, hst, hb2, hz2⟩
    have HST := Lib.hid hst
    have HB2 := Lib.hid hb2
    clear hst hb2
    go_wp2_with fail
    go_loopw [23] (fun i wr => ∃ (k : Nat) (v : Value), k ≤ ls.length ∧ i = .int .i64 k ∧ StAt wr w1.heap.size (w1.heap.size + 1) w1.heap.size v (unionP (ls.take k)) ∧ Below w1.heap.size w1 wr) (fun i _ => ls.length - (intOf i).toNat)
    case atStart => exact ⟨0, _, Nat.zero_le _, rfl, HST.out, HB2.out⟩
    case round =>
      obtain ⟨k, v, hk, rfl, hst, hb⟩ := hrel
      have HSR := Lib.hid hst
      have HBR := Lib.hid hb
      clear hst hb
      by_cases hlt : k < ls.length
      · obtain ⟨l, hl⟩ : ∃ l, ls[k]? = some l := ⟨ls[k], by simp [hlt]⟩
        obtain ⟨b, o, ca, cc, rfl, q0, hrf⟩ := lists_at HLV.out HBR.out hl
        have HRF := Lib.hid hrf
        obtain ⟨_, _, hv', hcc, hccm, -⟩ := SeqAt.shape hrf RefR.len
        cases hv'
        unfold maxLen at hccm
        have HSN := Lib.hid (show unionP (ls.take (k + 1)) = menAll l (unionP (ls.take k)) by rw [take_snoc' hl, unionP_snoc])
        have hle : l.length ≤ 1000000000 := HLE.out l (List.mem_of_getElem? hl)
        have hul : (unionP (ls.take k)).length ≤ 999 * 1000000000 := by
          have h1 := unionP_len (ls := ls.take k) (fun x hx => HLE.out x (List.mem_of_mem_take hx))
          rw [List.length_take] at h1
          have h2 : min k ls.length ≤ 999 := by omega
          exact Nat.le_trans h1 (Nat.mul_le_mul_right 1000000000 h2)
        obtain ⟨wo, hwo⟩ : ∃ wo : World, wo = wr := ⟨_, rfl⟩
        subst hwo
        have HLEN := Lib.hid (And.intro hle hul)
        clear hl hrf hle hul
        go_wp2_with fail
        go_loopw [29] (fun i wq => ∃ (j : Nat) (v : Value), j ≤ l.length ∧ i = .int .i64 j ∧ StAt wq w1.heap.size (w1.heap.size + 1) w1.heap.size v (menAll (l.take j) (unionP (ls.take k))) ∧ Below w1.heap.size w1 wq ∧ RefsAt (fun k => k < w1.heap.size) wq (.slice ca l.length cc) l) (fun i _ => l.length - (intOf i).toNat)
        case atStart => exact ⟨0, v, Nat.zero_le _, rfl, HSR.out, HBR.out, HRF.out⟩
        case round =>
          obtain ⟨j, v3, hj, rfl, hst3, hb3, hrf3⟩ := hrel
          have HS3 := Lib.hid hst3
          have HB3 := Lib.hid hb3
          have HR3 := Lib.hid hrf3
          clear hst3 hb3 hrf3
          by_cases hlt2 : j < l.length
          · obtain ⟨c, hc⟩ : ∃ c, l[j]? = some c := ⟨l[j], by simp [hlt2]⟩
            obtain ⟨b2, o2, rfl, hcok, p0, p1, p2⟩ := refs_at HR3.out (Below.refl _ _) hc
            have HCO := Lib.hid hcok
            have HSN2 := Lib.hid (show menAll (l.take (j + 1)) (unionP (ls.take k)) = mentionP c (menAll (l.take j) (unionP (ls.take k))) by rw [take_snoc' hc, menAll_snoc])
            have HML := Lib.hid (show (menAll (l.take j) (unionP (ls.take k))).length < 1099511627775 by
              have h1 := menAll_len (l.take j) (unionP (ls.take k))
              rw [List.length_take] at h1
              obtain ⟨h2, h3⟩ := HLEN.out
              have h4 : (menAll (l.take j) (unionP (ls.take k))).length ≤ 999 * 1000000000 + 1000000000 := Nat.le_trans h1 (Nat.add_le_add h3 (Nat.le_trans (Nat.min_le_right _ _) h2))
              exact Nat.lt_of_le_of_lt h4 (by decide))
            have HAL := Lib.hid ((Below.refl wr.heap.size wr).alloc (Nat.le_refl _) (.cells #[.string c.name, .int .i64 c.gen, .int .i64 c.size] 37))
            have HS4 := Lib.hid (HS3.out.below HAL.out)
            have HB4 := Lib.hid (below_next HB3.out HAL.out)
            clear hc hcok
            go_wp2_with fail
            refine (add_any w1.heap.size (w1.heap.size + 1) w1.heap.size v3 _ c _ HS4.out HCO.out HML.out HB4.out.size).mono ?_
            rintro e w4 ⟨rfl, v4, hst4, hg4, -⟩
            have HB5 := Lib.hid (show Below w1.heap.size w1 w4 from HB4.out.trans (hg4.below HB4.out.size (fun k hk => st_ge HS4.out (Nat.le_refl _) (by omega) (Nat.le_refl _) hk)))
            have HR5 := Lib.hid (show RefsAt (fun k => k < w1.heap.size) w4 (.slice (some ⟨b2, o2, none⟩) l.length cc) l from RefsAt.same HR3.out (fun k hk hS => ⟨hS, (HB5.out.block k hS).trans (HB3.out.block k hS).symm⟩))
            have HS5 := Lib.hid hst4
            clear hst4 hg4 p0 p1 p2
            go_wp2_with fail
            go_roundw
            case rel => exact ⟨j + 1, v4, by omega, by go_num, by rw [HSN2.out]; exact HS5.out, HB5.out, HR5.out⟩
            case measure => simp [intOf]; omega
          · obtain rfl : j = l.length := by omega
            rw [List.take_of_length_le (Nat.le_refl _)] at HS3
            go_wp2_with fail
            go_roundw
            case rel => exact ⟨k + 1, v3, by omega, by go_num, by rw [HSN.out]; exact HS3.out, HB3.out⟩
            case measure => simp [intOf]; omega
      · obtain rfl : k = ls.length := by omega
        rw [List.take_of_length_le (Nat.le_refl _)] at HSR
        go_wp2_with fail
        go_ret2
        exact ⟨below_next HB1.out HBR.out, by rw [HEP.out]; exact ⟨_, _, _, _, rfl, HSR.out, HB1.out.size⟩⟩

end Go.Proofs.YtndgmcggckpgfaaDoor

/- What a root needs exists: the walk over references that are not expanded ends. -/
namespace Go.Proofs.YtndgmcggckpgfaaDoor
open Go.RowKit

theorem nodup_le : ∀ {l U : List Ref}, l.Nodup → (∀ x ∈ l, x ∈ U) → l.length ≤ U.length
  | [], _, _, _ => Nat.zero_le _
  | a :: l, U, hn, hs => by
    obtain ⟨h1, h2⟩ := List.nodup_cons.1 hn
    have ha : a ∈ U := hs a (by simp)
    have h3 := nodup_le (l := l) (U := U.erase a) h2 (fun x hx => (List.mem_erase_of_ne (fun e => by subst e; exact h1 hx)).2 (hs x (by simp [hx])))
    have h4 := List.length_erase_of_mem ha
    have h5 : 0 < U.length := List.length_pos_of_mem ha
    simp only [List.length_cons]
    omega
def itRefs (it : Item) : List Ref := it.chunks ++ [it.node]
def ndRefs (l : List Item) : List Ref := l.flatMap itRefs
def csRefs (cs : List (ByteArray × List UInt8)) : List Ref := cs.flatMap fun p => match itemsP p.2 with
  | some l => ndRefs l
  | none => []
theorem findC_mem {cs : List (ByteArray × List UInt8)} {n : ByteArray} {bs : List UInt8} (h : findC cs n = some bs) : ∃ k, (k, bs) ∈ cs := by
  induction cs with
  | nil => simp [findC] at h
  | cons p cs ih =>
    obtain ⟨k, b⟩ := p
    simp only [findC] at h
    split at h
    · simp only [Option.some.injEq] at h; subst h; exact ⟨k, by simp⟩
    · obtain ⟨k', hk⟩ := ih h
      exact ⟨k', by simp [hk]⟩
theorem nodeP_mem {cs : List (ByteArray × List UInt8)} {r : Ref} {l : List Item} (h : nodeP cs r = .ok l) : ∃ k bs, (k, bs) ∈ cs ∧ itemsP bs = some l := by
  unfold nodeP at h
  cases hc : chunkP cs r with
  | error x => rw [hc] at h; simp at h
  | ok bs =>
    rw [hc] at h
    simp only at h
    cases hi : itemsP bs with
    | none => rw [hi] at h; simp at h
    | some l' =>
      rw [hi] at h
      simp only [Except.ok.injEq] at h
      subst h
      unfold chunkP at hc
      cases hf : findC cs r.name with
      | none => rw [hf] at hc; simp at hc
      | some b =>
        rw [hf] at hc
        simp only at hc
        split at hc
        · simp only [Except.ok.injEq] at hc; subst hc
          obtain ⟨k, hk⟩ := findC_mem hf
          exact ⟨k, b, hk, hi⟩
        · simp at hc
theorem nodeP_refs {cs : List (ByteArray × List UInt8)} {r : Ref} {l : List Item} (h : nodeP cs r = .ok l) {it : Item} (hit : it ∈ l) : ∀ c ∈ itRefs it, c ∈ csRefs cs := fun c hc => by
  obtain ⟨k, bs, h1, h2⟩ := nodeP_mem h
  refine List.mem_flatMap.2 ⟨(k, bs), h1, ?_⟩
  simp only [h2]
  exact List.mem_flatMap.2 ⟨it, hit, hc⟩
/-- Lists of references out of U, each once. -/
structure WInv (U : List Ref) (st : List Ref × List Ref) : Prop where
  e1 : st.1.Nodup
  e2 : ∀ x ∈ st.1, x ∈ U
  l1 : st.2.Nodup
  l2 : ∀ x ∈ st.2, x ∈ U
theorem mentionP_nodup {r : Ref} {rs : List Ref} (h : rs.Nodup) : (mentionP r rs).Nodup := by
  unfold mentionP
  split
  · exact h
  · rename_i hm
    exact List.nodup_append.2 ⟨h, by simp, fun a ha b hb e => by simp only [List.mem_singleton] at hb; subst hb e; exact hm ha⟩
theorem mentionP_mem {r x : Ref} {rs : List Ref} : x ∈ mentionP r rs ↔ x ∈ rs ∨ x = r := by
  unfold mentionP
  split
  · rename_i hm
    exact ⟨.inl, fun h => by rcases h with h | rfl; exact h; exact hm⟩
  · simp
theorem menAll_nodup : ∀ (cs : List Ref) {rs : List Ref}, rs.Nodup → (menAll cs rs).Nodup
  | [], _, h => h
  | c :: cs, _, h => menAll_nodup cs (mentionP_nodup h)
theorem menAll_mem : ∀ (cs : List Ref) {rs : List Ref} {x : Ref}, x ∈ menAll cs rs ↔ x ∈ rs ∨ x ∈ cs
  | [], rs, x => by simp [menAll]
  | c :: cs, rs, x => by
    show x ∈ menAll cs (mentionP c rs) ↔ _
    rw [menAll_mem cs, mentionP_mem, List.mem_cons, or_assoc]
theorem WInv.men {U : List Ref} {st : List Ref × List Ref} (h : WInv U st) {cs : List Ref} (hc : ∀ c ∈ cs, c ∈ U) : WInv U (st.1, menAll cs st.2) :=
  ⟨h.e1, h.e2, menAll_nodup cs h.l1, fun x hx => by
    rcases (menAll_mem cs).1 hx with hx | hx
    · exact h.l2 x hx
    · exact hc x hx⟩
def WEnds (U : List Ref) (f : Ref → List Ref × List Ref → Option (Int × (List Ref × List Ref))) (n : Nat) : Prop := ∀ r st, r ∈ U → WInv U st → U.length < n + st.1.length → ∃ x st', f r st = some (x, st') ∧ WInv U st' ∧ st.1.length ≤ st'.1.length
theorem overW_ends {U : List Ref} {f : Ref → List Ref × List Ref → Option (Int × (List Ref × List Ref))} {n : Nat} (hf : WEnds U f n) :
    ∀ (l : List Item) (st : List Ref × List Ref), (∀ it ∈ l, ∀ c ∈ itRefs it, c ∈ U) → WInv U st → U.length < n + st.1.length → ∃ x st', overW f l st = some (x, st') ∧ WInv U st' ∧ st.1.length ≤ st'.1.length
  | [], st, _, hi, _ => ⟨0, st, rfl, hi, Nat.le_refl _⟩
  | it :: l, st, hl, hi, hn => by
    have hi2 := hi.men (cs := it.chunks) (fun c hc => hl it (by simp) _ (by simp [itRefs, hc]))
    rw [overW]
    split
    · exact overW_ends hf l _ (fun x hx => hl x (by simp [hx])) hi2 hn
    · obtain ⟨x, st2, h1, h2, h3⟩ := hf it.node _ (hl it (by simp) _ (by simp [itRefs])) hi2 hn
      rw [h1, Option.bind_some]
      simp only at h3
      split
      · exact ⟨x, st2, rfl, h2, h3⟩
      · obtain ⟨y, st3, k1, k2, k3⟩ := overW_ends hf l st2 (fun x hx => hl x (by simp [hx])) h2 (by omega)
        exact ⟨y, st3, k1, k2, Nat.le_trans h3 k3⟩
theorem walkP_ends {cs : List (ByteArray × List UInt8)} {U : List Ref} (hU : ∀ c ∈ csRefs cs, c ∈ U) : ∀ n, WEnds U (walkP (nodeP cs) n) n
  | 0 => fun r st hr hi hn => by
    have := nodup_le hi.e1 hi.e2
    omega
  | n + 1 => fun r st hr hi hn => by
    have hm : WInv U (st.1, mentionP r st.2) := ⟨hi.e1, hi.e2, mentionP_nodup hi.l1, fun x hx => by
      rcases mentionP_mem.1 hx with hx | rfl
      · exact hi.l2 x hx
      · exact hr⟩
    rw [walkP]
    split
    · exact ⟨0, _, rfl, hm, Nat.le_refl _⟩
    · rename_i hne
      have he : WInv U (st.1 ++ [r], mentionP r st.2) := ⟨List.nodup_append.2 ⟨hi.e1, by simp, fun a ha b hb e => by simp only [List.mem_singleton] at hb; subst hb e; exact hne ha⟩, fun x hx => by
        rcases List.mem_append.1 hx with hx | hx
        · exact hi.e2 x hx
        · simp only [List.mem_singleton] at hx; subst hx; exact hr, hm.l1, hm.l2⟩
      cases hv : nodeP cs r with
      | error x => exact ⟨x, _, rfl, he, by simp⟩
      | ok l =>
        obtain ⟨x, st', h1, h2, h3⟩ := overW_ends (walkP_ends hU n) l (st.1 ++ [r], mentionP r st.2) (fun it hit c hc => hU c (nodeP_refs hv hit c hc)) he (by simp; omega)
        exact ⟨x, st', h1, h2, by simp at h3; omega⟩
def fuelN (cs : List (ByteArray × List UInt8)) : Nat := (csRefs cs).length + 2
def needF (cs : List (ByteArray × List UInt8)) (r : Ref) : Except Int (List Ref) := (needP (nodeP cs) (fuelN cs) r).getD (.error 0)
theorem walk_ends (cs : List (ByteArray × List UInt8)) (r : Ref) : ∃ x st', walkP (nodeP cs) (fuelN cs) r ([], []) = some (x, st') ∧ WInv (r :: csRefs cs) st' := by
  obtain ⟨x, st', h1, h2, _⟩ := walkP_ends (cs := cs) (U := r :: csRefs cs) (fun c hc => by simp [hc]) (fuelN cs) r ([], []) (by simp) ⟨by simp, by simp, by simp, by simp⟩ (by simp [fuelN])
  exact ⟨x, st', h1, h2⟩
theorem chunks_le {data : List UInt8} {s s1 : RS} {it : Item} (h : itemP data s = some (it, s1)) : it.chunks.length ≤ 963 := by
  unfold itemP itemK at h
  split at h
  · simp only [Option.some.injEq, Prod.mk.injEq] at h
    obtain ⟨rfl, _⟩ := h
    simp only [chunkN_len]
    exact cnP_le _ _ _
  · split at h
    · simp only [Option.some.injEq, Prod.mk.injEq] at h
      obtain ⟨rfl, _⟩ := h
      simp
    · split at h
      · simp only [Option.some.injEq, Prod.mk.injEq] at h
        obtain ⟨rfl, _⟩ := h
        simp
      · simp at h
theorem itemsN_le {data : List UInt8} {s0 : RS} : ∀ {k : Nat} {l : List Item} {s : RS}, itemsN data s0 k = some (l, s) → l.length = k ∧ ∀ it ∈ l, it.chunks.length ≤ 963
  | 0, l, s, h => by
    simp only [itemsN, Option.some.injEq, Prod.mk.injEq] at h
    obtain ⟨rfl, _⟩ := h
    exact ⟨rfl, by simp⟩
  | k + 1, l, s, h => by
    rw [itemsN_succ, Option.bind_eq_some_iff] at h
    obtain ⟨⟨l0, s1⟩, h1, h2⟩ := h
    rw [Option.map_eq_some_iff] at h2
    obtain ⟨⟨it, s2⟩, h3, h4⟩ := h2
    simp only [Prod.mk.injEq] at h4
    obtain ⟨rfl, _⟩ := h4
    obtain ⟨k1, k2⟩ := itemsN_le h1
    refine ⟨by simp [k1], fun x hx => ?_⟩
    rcases List.mem_append.1 hx with hx | hx
    · exact k2 x hx
    · simp only [List.mem_singleton] at hx; subst hx; exact chunks_le h3
theorem itemsP_le {data : List UInt8} {l : List Item} (h : itemsP data = some l) : l.length ≤ 4096 ∧ ∀ it ∈ l, it.chunks.length ≤ 963 := by
  unfold itemsP at h
  split at h
  · simp at h
  · rw [Option.bind_eq_some_iff] at h
    obtain ⟨⟨l0, s1⟩, h1, h2⟩ := h
    split at h2
    · simp only [Option.some.injEq] at h2
      subst h2
      obtain ⟨k1, k2⟩ := itemsN_le h1
      exact ⟨by rw [k1]; exact cnP_le _ _ _, k2⟩
    · simp at h2
theorem flat_len {α β : Type} (f : α → List β) (m : Nat) : ∀ (l : List α), (∀ x ∈ l, (f x).length ≤ m) → (l.flatMap f).length ≤ l.length * m
  | [], _ => by simp
  | a :: l, h => by
    have h1 := flat_len f m l (fun x hx => h x (by simp [hx]))
    have h2 := h a (by simp)
    rw [List.flatMap_cons, List.length_append, List.length_cons, Nat.succ_mul]
    omega
theorem csRefs_le {cs : List (ByteArray × List UInt8)} : (csRefs cs).length ≤ cs.length * 3948544 := flat_len _ _ cs (fun p _ => by
  cases h : itemsP p.2 with
  | none => simp
  | some l =>
    obtain ⟨h1, h2⟩ := itemsP_le h
    simp only
    have h3 := flat_len itRefs 964 l (fun it hit => by have := h2 it hit; simp [itRefs]; omega)
    exact Nat.le_trans h3 (Nat.le_trans (Nat.mul_le_mul_right 964 h1) (by decide)))
theorem needF_ok {cs : List (ByteArray × List UInt8)} (h : cs.length ≤ 80) : NeedOk cs (needF cs) := fun r _ => by
  obtain ⟨x, st', h1, h2⟩ := walk_ends cs r
  refine ⟨fuelN cs, ?_, fun p hp => ?_⟩
  · unfold needF
    have : ∃ y, needP (nodeP cs) (fuelN cs) r = some y := by
      unfold needP
      split
      · rw [h1]; exact ⟨_, rfl⟩
      · exact ⟨_, rfl⟩
    obtain ⟨y, hy⟩ := this
    rw [hy]; rfl
  · rw [h1] at hp
    simp only [Option.some.injEq] at hp
    subst hp
    have h3 := nodup_le h2.l1 h2.l2
    have h4 := csRefs_le (cs := cs)
    have h5 : cs.length * 3948544 ≤ 80 * 3948544 := Nat.mul_le_mul_right _ h
    simp only [List.length_cons] at h3
    simp only
    omega
theorem needF_nodup {cs : List (ByteArray × List UInt8)} {r : Ref} {l : List Ref} (h : needF cs r = .ok l) (hv : vRef r = true) : l.Nodup := by
  obtain ⟨x, st', h1, h2⟩ := walk_ends cs r
  unfold needF needP at h
  rw [if_pos hv, h1] at h
  simp only [Option.map_some, Option.getD_some] at h
  split at h
  · simp only [Except.ok.injEq] at h; subst h; exact h2.l1
  · simp at h
theorem needF_nd {cs : List (ByteArray × List UInt8)} {r : Ref} {l : List Ref} (h : needF cs r = .ok l) : l.Nodup := by
  cases hv : vRef r
  · unfold needF needP at h
    rw [if_neg (by rw [hv]; simp)] at h
    simp at h
  · exact needF_nodup h hv

end Go.Proofs.YtndgmcggckpgfaaDoor

/- The chapter's example. -/
namespace Go.Proofs.YtndgmcggckpgfaaDoor
open Go Go.RowKit Go.Maps


def exA : Ref := ⟨nameB 97, 0, 1⟩
def exB : Ref := ⟨nameB 98, 0, 2⟩
def exIA : Item := ⟨⟨#[97]⟩, 1, 0, 0, 1, ⟨#[]⟩, [exA], noRef⟩
def exIB : Item := ⟨⟨#[98]⟩, 1, 0, 0, 2, ⟨#[]⟩, [exB], noRef⟩
def exOne : List UInt8 := nodeB [exIA]
def exTwo : List UInt8 := nodeB [exIA, exIB]
def exR1 : Ref := ⟨nameB 49, 0, (exOne.length : Int)⟩
def exR2 : Ref := ⟨nameB 50, 0, (exTwo.length : Int)⟩
def exC1 : List (ByteArray × List UInt8) := [(nameB 49, exOne), (nameB 50, exTwo)]
def exC2 : List (ByteArray × List UInt8) := [(nameB 50, exTwo), (nameB 49, exOne)]
theorem exNeed1 : eachP (needF exC1) [exR1, exR2] = .ok [[exR1, exA], [exR2, exA, exB]] := by kernel_rfl
theorem exNeed2 : eachP (needF exC2) [exR1, exR2] = .ok [[exR1, exA], [exR2, exA, exB]] := by kernel_rfl
theorem alloc_at {w : World} {o : Obj} {n : Nat} (h : w.heap.size = n) : (w.alloc o).heap[n]? = some o := h ▸ heap_alloc_new w o
theorem row_lit {W : World} {b n sz : Nat} {cells : List Value} {t : TypeId} (h : W.heap[b]? = some (.cells cells.toArray t (0, 0))) (hl : cells.length = n * sz) (hn : n ≤ maxLen) : RowAt (fun k => k = b) W sz (.slice (some ⟨b, 0, none⟩) n n) n cells :=
  ⟨hl, some ⟨b, 0, none⟩, n, rfl, Nat.le_refl _, hn, .inr ⟨b, 0, rfl, rfl, fun j u hj => by rw [cellH h, Nat.zero_add, List.getElem?_toArray]; exact hj⟩⟩
theorem exA_ok : RefOk exA := ⟨nameB_small _, by decide, by decide⟩
theorem exB_ok : RefOk exB := ⟨nameB_small _, by decide, by decide⟩
theorem exIA_ok : ItemOk exIA := ⟨by decide, by decide, noRef_ok⟩
theorem exIB_ok : ItemOk exIB := ⟨by decide, by decide, noRef_ok⟩
theorem exIA_small : ItSmall exIA := ⟨by decide, by decide, by decide, fun c hc => by simp only [exIA, List.mem_singleton] at hc; subst hc; exact (by decide : (32 : Nat) ≤ 65536)⟩
theorem exIB_small : ItSmall exIB := ⟨by decide, by decide, by decide, fun c hc => by simp only [exIB, List.mem_singleton] at hc; subst hc; exact (by decide : (32 : Nat) ≤ 65536)⟩
theorem exR1_ok : RefOk exR1 := ⟨nameB_small _, by kernel_rfl, by kernel_rfl⟩
theorem exR2_ok : RefOk exR2 := ⟨nameB_small _, by kernel_rfl, by kernel_rfl⟩
def ExRes (w : World) (e : Ending) (w' : World) : Prop := ∃ sv cv cs, (cs = exC1 ∨ cs = exC2) ∧ e = .returned (.tuple #[sv, cv]) ∧ SnapsAt (w.heap.size ≤ ·) w' sv [exR1, exR2] ∧ ContAt (w.heap.size ≤ ·) w' cv cs ∧ Below w.heap.size w w'
set_option maxRecDepth 100000 in
set_option maxHeartbeats 2000000 in
theorem example_any (w : World) : Calls Tryd.prog 19 #[] w (ExRes w) := by
  go_enter Tryd.func19, Tryd.ntmps19
  go_wp2_with (first | (go_at_call 30; refine (name97_any _).mono ?_; rintro e w1 ⟨rfl, hb1⟩; have HB1 := Lib.hid hb1; clear hb1) | (go_at_call 30; refine (name98_any _).mono ?_; rintro e w2 ⟨rfl, hb2⟩; have HB2 := Lib.hid (below_next HB1.out hb2); clear hb2))
  obtain ⟨W1, hW1⟩ : ∃ W1 : World, W1 = (((w2.alloc (.cells #[.string (nameB 97), .int .i64 0, .int .i64 1] 37)).alloc (.cells #[.string (nameB 98), .int .i64 0, .int .i64 2] 37)).alloc (.cells #[.string (nameB 97), .int .i64 0, .int .i64 1] 37)).alloc (.cells #[.string ⟨#[97]⟩, .int .i64 1, .int .i64 0, .int .i64 0, .int .i64 1, .string ⟨#[]⟩, .slice (some ⟨w2.heap.size + 1 + 1, 0, none⟩) 1 1, .string ⟨#[]⟩, .int .i64 0, .int .i64 0] 83) := ⟨_, rfl⟩
  rw [← hW1]
  have HBW1 := Lib.hid (show Below w.heap.size w W1 by rw [hW1]; exact below_next HB2.out ((((Below.refl w2.heap.size w2).alloc (Nat.le_refl _) _).alloc (by simp) _).alloc (by simp; omega) _ |>.alloc (by simp; omega) _))
  have HA1 := Lib.hid (show W1.heap[w2.heap.size]? = some (.cells #[.string (nameB 97), .int .i64 0, .int .i64 1] 37 (0, 0)) by rw [hW1]; exact allocH (allocH (allocH (heap_alloc_new _ _) _) _) _)
  have HA2 := Lib.hid (show W1.heap[w2.heap.size + 1]? = some (.cells #[.string (nameB 98), .int .i64 0, .int .i64 2] 37 (0, 0)) by rw [hW1]; exact allocH (allocH (alloc_at (by simp)) _) _)
  have HA3 := Lib.hid (show W1.heap[w2.heap.size + 1 + 1]? = some (.cells #[.string (nameB 97), .int .i64 0, .int .i64 1] 37 (0, 0)) by rw [hW1]; exact allocH (alloc_at (by simp)) _)
  have HA4 := Lib.hid (show W1.heap[w2.heap.size + 1 + 1 + 1]? = some (.cells #[.string ⟨#[97]⟩, .int .i64 1, .int .i64 0, .int .i64 0, .int .i64 1, .string ⟨#[]⟩, .slice (some ⟨w2.heap.size + 1 + 1, 0, none⟩) 1 1, .string ⟨#[]⟩, .int .i64 0, .int .i64 0] 83 (0, 0)) by rw [hW1]; exact alloc_at (by simp))
  have HI1 := Lib.hid (show ItemsAt (fun _ => True) W1 (.slice (some ⟨w2.heap.size + 1 + 1 + 1, 0, none⟩) 1 1) [exIA] from
    ⟨_, (row_lit (cells := [.string ⟨#[97]⟩, .int .i64 1, .int .i64 0, .int .i64 0, .int .i64 1, .string ⟨#[]⟩, .slice (some ⟨w2.heap.size + 1 + 1, 0, none⟩) 1 1, .string ⟨#[]⟩, .int .i64 0, .int .i64 0]) HA4.out rfl (by decide)).weak (fun _ _ => trivial),
      ⟨_, [], rfl, ⟨.slice (some ⟨w2.heap.size + 1 + 1, 0, none⟩) 1 1, rfl, ⟨refC exA, (row_lit (cells := refC exA) HA3.out rfl (by decide)).weak (fun _ _ => trivial), ⟨refC exA, [], rfl, ⟨rfl, exA_ok⟩, rfl⟩⟩, exIA_ok⟩, rfl⟩⟩)
  have HSZ := Lib.hid (show W1.heap.size = w2.heap.size + 1 + 1 + 1 + 1 by rw [hW1]; simp)
  clear hW1
  refine (node24_any _ _ [exIA] _ HI1.out (fun it h => by simp only [List.mem_singleton] at h; subst h; exact exIA_small) (by decide +kernel) (by decide)).mono ?_
  rintro e w3 ⟨v1, rfl, hv1, hb3⟩
  have HV1 := Lib.hid hv1
  have HBW3 := Lib.hid (below_next HBW1.out hb3)
  have HC1 := Lib.hid ((hb3.block _ (lt_of_block HA1.out)).trans HA1.out)
  have HC2 := Lib.hid ((hb3.block _ (lt_of_block HA2.out)).trans HA2.out)
  have q0 := cellH (k := 0) HC1.out
  have q1 := cellH (k := 1) HC1.out
  have q2 := cellH (k := 2) HC1.out
  have p0 := cellH (k := 0) HC2.out
  have p1 := cellH (k := 1) HC2.out
  have p2 := cellH (k := 2) HC2.out
  simp only [List.getElem?_toArray, List.getElem?_cons_succ, List.getElem?_cons_zero] at q0 q1 q2 p0 p1 p2
  obtain ⟨_, oa, oc, rfl, hoc, hom, -⟩ := hv1
  have hz3 : w2.heap.size + 1 < w3.heap.size := by have := hb3.size; have := HSZ.out; omega
  have hz4 : w2.heap.size < w3.heap.size := by omega
  clear hb3 HI1 HA1 HA2 HA3 HA4
  go_wp2_with fail
  obtain ⟨W4, hW4⟩ : ∃ W4 : World, W4 = ((w3.alloc (.cells #[.string (nameB 97), .int .i64 0, .int .i64 1] 37)).alloc (.cells #[.string (nameB 98), .int .i64 0, .int .i64 2] 37)).alloc (.cells #[.string ⟨#[97]⟩, .int .i64 1, .int .i64 0, .int .i64 0, .int .i64 1, .string ⟨#[]⟩, .slice (some ⟨w3.heap.size, 0, none⟩) 1 1, .string ⟨#[]⟩, .int .i64 0, .int .i64 0, .string ⟨#[98]⟩, .int .i64 1, .int .i64 0, .int .i64 0, .int .i64 2, .string ⟨#[]⟩, .slice (some ⟨w3.heap.size + 1, 0, none⟩) 1 1, .string ⟨#[]⟩, .int .i64 0, .int .i64 0] 83) := ⟨_, rfl⟩
  rw [← hW4]
  have HBA := Lib.hid (show Below w3.heap.size w3 W4 by rw [hW4]; exact (((Below.refl w3.heap.size w3).alloc (Nat.le_refl _) _).alloc (by simp) _).alloc (by simp; omega) _)
  have HBW4 := Lib.hid (below_next HBW3.out HBA.out)
  have HD1 := Lib.hid (show W4.heap[w3.heap.size]? = some (.cells #[.string (nameB 97), .int .i64 0, .int .i64 1] 37 (0, 0)) by rw [hW4]; exact allocH (allocH (heap_alloc_new _ _) _) _)
  have HD2 := Lib.hid (show W4.heap[w3.heap.size + 1]? = some (.cells #[.string (nameB 98), .int .i64 0, .int .i64 2] 37 (0, 0)) by rw [hW4]; exact allocH (alloc_at (by simp)) _)
  have HD3 := Lib.hid (show W4.heap[w3.heap.size + 1 + 1]? = some (.cells #[.string ⟨#[97]⟩, .int .i64 1, .int .i64 0, .int .i64 0, .int .i64 1, .string ⟨#[]⟩, .slice (some ⟨w3.heap.size, 0, none⟩) 1 1, .string ⟨#[]⟩, .int .i64 0, .int .i64 0, .string ⟨#[98]⟩, .int .i64 1, .int .i64 0, .int .i64 0, .int .i64 2, .string ⟨#[]⟩, .slice (some ⟨w3.heap.size + 1, 0, none⟩) 1 1, .string ⟨#[]⟩, .int .i64 0, .int .i64 0] 83 (0, 0)) by rw [hW4]; exact alloc_at (by simp))
  have HI2 := Lib.hid (show ItemsAt (fun _ => True) W4 (.slice (some ⟨w3.heap.size + 1 + 1, 0, none⟩) 2 2) [exIA, exIB] from
    ⟨_, (row_lit (cells := [.string ⟨#[97]⟩, .int .i64 1, .int .i64 0, .int .i64 0, .int .i64 1, .string ⟨#[]⟩, .slice (some ⟨w3.heap.size, 0, none⟩) 1 1, .string ⟨#[]⟩, .int .i64 0, .int .i64 0, .string ⟨#[98]⟩, .int .i64 1, .int .i64 0, .int .i64 0, .int .i64 2, .string ⟨#[]⟩, .slice (some ⟨w3.heap.size + 1, 0, none⟩) 1 1, .string ⟨#[]⟩, .int .i64 0, .int .i64 0]) HD3.out rfl (by decide)).weak (fun _ _ => trivial),
      ⟨[.string ⟨#[97]⟩, .int .i64 1, .int .i64 0, .int .i64 0, .int .i64 1, .string ⟨#[]⟩, .slice (some ⟨w3.heap.size, 0, none⟩) 1 1, .string ⟨#[]⟩, .int .i64 0, .int .i64 0], [.string ⟨#[98]⟩, .int .i64 1, .int .i64 0, .int .i64 0, .int .i64 2, .string ⟨#[]⟩, .slice (some ⟨w3.heap.size + 1, 0, none⟩) 1 1, .string ⟨#[]⟩, .int .i64 0, .int .i64 0], rfl, ⟨.slice (some ⟨w3.heap.size, 0, none⟩) 1 1, rfl, ⟨refC exA, (row_lit (cells := refC exA) HD1.out rfl (by decide)).weak (fun _ _ => trivial), ⟨refC exA, [], rfl, ⟨rfl, exA_ok⟩, rfl⟩⟩, exIA_ok⟩,
        ⟨_, [], rfl, ⟨.slice (some ⟨w3.heap.size + 1, 0, none⟩) 1 1, rfl, ⟨refC exB, (row_lit (cells := refC exB) HD2.out rfl (by decide)).weak (fun _ _ => trivial), ⟨refC exB, [], rfl, ⟨rfl, exB_ok⟩, rfl⟩⟩, exIB_ok⟩, rfl⟩⟩⟩)
  clear hW4 q0 q1 q2 p0 p1 p2
  refine (node24_any _ _ [exIA, exIB] _ HI2.out (fun it h => by simp only [List.mem_cons, List.not_mem_nil, or_false] at h; rcases h with rfl | rfl; exact exIA_small; exact exIB_small) (by decide +kernel) (by decide)).mono ?_
  rintro e w5 ⟨v2, rfl, hv2, hb5⟩
  have HV2 := Lib.hid hv2
  have HBW5 := Lib.hid (below_next HBW4.out hb5)
  have HV1' := Lib.hid (show BytesAt (w.heap.size ≤ ·) w5 (.slice oa (nodeB [exIA]).length oc) (nodeB [exIA]) from RowAt.below (RowAt.below (HV1.out.weak (fun k hk => Nat.le_trans HBW1.out.size hk)) (by omega) HBA.out) (by omega) hb5)
  have HV2' := Lib.hid (hv2.weak (T := (w.heap.size ≤ ·)) (fun k hk => Nat.le_trans HBW4.out.size hk))
  obtain ⟨_, ta, tc, rfl, htc, htm, -⟩ := hv2
  clear hb5 HI2 HD1 HD2 HD3 HC1 HC2
  go_upto_region 4 with (fail)
  refine hld_start (fun _ => True) (by kernel_rfl) ?_
  refine ex_start (w0 := w5) (oa := oa) (ol := (nodeB [exIA]).length) (oc := oc) (ta := ta) (tl := (nodeB [exIA, exIB]).length) (tc := tc) ?hq (fun _ _ d _ _ h => by cases d <;> exact h) (Below.refl _ _).drew
  intro s2 s3 s6 s7 s8 s9 s10 s11 s12 s13 s14 s15 s16 s17 s18 s19 s20 s21 s22 mb sb wr m hm hb hM hS
  have HHM := Lib.hid hm
  have HHB := Lib.hid hb
  have HHM2 := Lib.hid hM
  have HHS := Lib.hid hS
  clear hm hb hM hS
  go_wp2_with fail
  go_ret2
  have hz := HBW5.out.size
  have hb1 := RowAt.below HV1'.out (by omega) HHB.out
  have hb2 := RowAt.below HV2'.out (by omega) HHB.out
  have hsn : SnapsAt (w.heap.size ≤ ·) wr (.slice (some ⟨sb, 0, none⟩) 2 2) [exR1, exR2] := by
    obtain ⟨h1, h2⟩ := HHS.out
    refine ⟨_, (row_lit (n := 2) (cells := (exCells (nodeB [exIA]).length (nodeB [exIA, exIB]).length).toList) h2 rfl (by decide)).weak (fun k hk => by subst hk; exact Nat.le_trans hz h1), ⟨_, _, rfl, ⟨0, 0, 0, 0, 0, ⟨#[]⟩, false, rfl, exR1_ok⟩, ⟨_, [], rfl, ⟨0, 0, 0, 0, 0, ⟨#[]⟩, false, rfl, exR2_ok⟩, rfl⟩⟩⟩
  rcases HHM.out with rfl | rfl
  · exact ⟨_, _, exC1, .inl rfl, rfl, hsn, .inr ⟨mb, _, rfl, Nat.le_trans hz HHM2.out.1, HHM2.out.2, ⟨rfl, hb1, rfl, hb2, trivial⟩⟩, below_next HBW5.out HHB.out⟩
  · exact ⟨_, _, exC2, .inr rfl, rfl, hsn, .inr ⟨mb, _, rfl, Nat.le_trans hz HHM2.out.1, HHM2.out.2, ⟨rfl, hb2, rfl, hb1, trivial⟩⟩, below_next HBW5.out HHB.out⟩

end Go.Proofs.YtndgmcggckpgfaaDoor

/- Contracts of package liveness: Needed, Orphans, Delta. -/
namespace Go.Proofs.YtndgmcggckpgfaaDoor
open Go.RowKit


/-- What a function leaves that returns a list of references or an error. -/
def ListRes (res : Except Int (List Ref)) (w : World) (e : Ending) (w' : World) : Prop := Below w.heap.size w w' ∧ match res with
  | .error x => e = .returned (.tuple #[.slice none 0 0, .int .i64 x]) ∧ x ≠ 0
  | .ok rs => ∃ v, e = .returned (.tuple #[v, .int .i64 0]) ∧ RefsAt (w.heap.size ≤ ·) w' v rs
def mapE {α β : Type} (f : α → β) : Except Int α → Except Int β
  | .error x => .error x
  | .ok a => .ok (f a)
set_option maxRecDepth 100000 in
set_option maxHeartbeats 1000000 in
theorem Needed_any (cs : List (ByteArray × List UInt8)) (need : Ref → Except Int (List Ref)) (hn : NeedOk cs need) (S T : Nat → Prop) (sv cv : Value) (roots : List Ref) (w : World) (hs : SnapsAt T w sv roots) (hc : ContAt S w cv cs) (henv : Env w) (hlen : roots.length ≤ 1000) :
    Calls Tryd.prog 17 #[sv, cv] w (ListRes (mapE unionP (eachP need roots)) w) := by
  have HE := Lib.hid (needed_any cs need hn S T sv cv roots w hs hc henv hlen)
  clear hn hs hc henv
  go_enter Tryd.func17, Tryd.ntmps17
  go_wp2_with fail
  refine HE.out.mono ?_
  rintro e w1 ⟨hb1, hres⟩
  have HB1 := Lib.hid hb1
  clear hb1 HE
  cases hep : eachP need roots with
  | error x =>
    rw [hep] at hres
    obtain ⟨rfl, hx⟩ := hres
    have e1 : (x != 0) = true := by simp [hx]
    have HX := Lib.hid hx
    have HEP := Lib.hid hep
    clear hep hx
    go_wp2_with fail
    go_ret2
    exact ⟨HB1.out, by rw [HEP.out]; exact ⟨rfl, HX.out⟩⟩
  | ok ls =>
    rw [hep] at hres
    obtain ⟨base, nb, mb, v, rfl, hst, hbase⟩ := hres
    have HST := Lib.hid hst
    obtain ⟨av, cap, rfl⟩ := hst.shape
    have c0 := cellH (k := 0) hst.box
    simp only [List.getElem?_toArray, List.getElem?_cons_succ, List.getElem?_cons_zero] at c0
    have HEP := Lib.hid hep
    clear hep hst
    go_wp2_with fail
    go_ret2
    exact ⟨HB1.out, by rw [HEP.out]; exact ⟨_, rfl, RefsAt.same HST.out.refs (fun k _ hS => ⟨Nat.le_trans hbase hS.1, rfl⟩)⟩⟩
theorem unionOf_len {cs : List (ByteArray × List UInt8)} {need : Ref → Except Int (List Ref)} (hn : NeedOk cs need) {rs : List Ref} {ls : List (List Ref)} (hok : ∀ r ∈ rs, RefOk r) (h : eachP need rs = .ok ls) (hl : rs.length ≤ 1000) : (unionP ls).length < 1099511627775 := by
  have h1 := unionP_len (eachP_le hn hok h)
  rw [eachP_len h] at h1
  exact Nat.lt_of_le_of_lt (Nat.le_trans h1 (Nat.mul_le_mul_right 1000000000 hl)) (by decide)
set_option maxRecDepth 100000 in
set_option maxHeartbeats 1000000 in
theorem Orphans_big (cs : List (ByteArray × List UInt8)) (need : Ref → Except Int (List Ref)) (hn : NeedOk cs need) (S T U : Nat → Prop) (rv sv cv : Value) (refs roots : List Ref) (w : World) (hrv : RefsAt U w rv refs) (hs : SnapsAt T w sv roots) (hc : ContAt S w cv cs) (henv : Env w) (hlen : roots.length ≤ 1000) (hrl : refs.length < 4398046511104) :
    Calls Tryd.prog 15 #[rv, sv, cv] w (ListRes (mapE (fun ls => lessP refs (unionP ls)) (eachP need roots)) w) := by
  have HE := Lib.hid (needed_any cs need hn S T sv cv roots w hs hc henv hlen)
  have HRV := Lib.hid hrv
  have HRL := Lib.hid hrl
  clear hn hs hc henv hrv hrl
  go_enter Tryd.func15, Tryd.ntmps15
  go_wp2_with fail
  refine HE.out.mono ?_
  rintro e w1 ⟨hb1, hres⟩
  have HB1 := Lib.hid hb1
  clear hb1 HE
  cases hep : eachP need roots with
  | error x =>
    rw [hep] at hres
    obtain ⟨rfl, hx⟩ := hres
    have e1 : (x != 0) = true := by simp [hx]
    have HX := Lib.hid hx
    have HEP := Lib.hid hep
    clear hep hx
    go_wp2_with fail
    go_ret2
    exact ⟨HB1.out, by rw [HEP.out]; exact ⟨rfl, HX.out⟩⟩
  | ok ls =>
    rw [hep] at hres
    obtain ⟨base, nb, mb, v, rfl, hst, hbase⟩ := hres
    have HST := Lib.hid hst
    have HRV1 := Lib.hid (show RefsAt U w1 rv refs from SeqAt.below HRV.out (by omega) HB1.out (fun _ _ _ h => h))
    have HEP := Lib.hid hep
    clear hep hst
    go_wp2_with fail
    refine (without_big base nb mb v (unionP ls) U rv refs w1 HST.out HRV1.out HRL.out).mono ?_
    rintro e w2 ⟨ov, rfl, hov, hb2⟩
    have HB2 := Lib.hid (below_next HB1.out hb2)
    have hz := HB1.out.size
    have HOV := Lib.hid (show RefsAt (w.heap.size ≤ ·) w2 ov (lessP refs (unionP ls)) from RefsAt.same hov (fun k _ hS => ⟨Nat.le_trans hz hS, rfl⟩))
    obtain ⟨oa, oc, rfl, -, -, -⟩ := SeqAt.shape hov RefR.len
    clear hov hb2
    go_wp2_with fail
    go_ret2
    exact ⟨HB2.out, by rw [HEP.out]; exact ⟨_, rfl, HOV.out⟩⟩
theorem Orphans_any (cs : List (ByteArray × List UInt8)) (need : Ref → Except Int (List Ref)) (hn : NeedOk cs need) (S T U : Nat → Prop) (rv sv cv : Value) (refs roots : List Ref) (w : World) (hrv : RefsAt U w rv refs) (hs : SnapsAt T w sv roots) (hc : ContAt S w cv cs) (henv : Env w) (hlen : roots.length ≤ 1000) (hrl : refs.length < 1099511627775) :
    Calls Tryd.prog 15 #[rv, sv, cv] w (ListRes (mapE (fun ls => lessP refs (unionP ls)) (eachP need roots)) w) :=
  Orphans_big cs need hn S T U rv sv cv refs roots w hrv hs hc henv hlen (by omega)
def deltaE (need : Ref → Except Int (List Ref)) (old new : List Ref) : Except Int (List (List Ref) × List (List Ref)) := match eachP need old with
  | .error x => .error x
  | .ok a => match eachP need new with
    | .error x => .error x
    | .ok b => .ok (a, b)
def DeltaRes (res : Except Int (List (List Ref) × List (List Ref))) (w : World) (e : Ending) (w' : World) : Prop := Below w.heap.size w w' ∧ match res with
  | .error x => e = .returned (.tuple #[.slice none 0 0, .slice none 0 0, .int .i64 x]) ∧ x ≠ 0
  | .ok (a, b) => ∃ gv lv, e = .returned (.tuple #[gv, lv, .int .i64 0]) ∧ RefsAt (w.heap.size ≤ ·) w' gv (lessP (unionP b) (unionP a)) ∧ RefsAt (w.heap.size ≤ ·) w' lv (lessP (unionP a) (unionP b))
set_option maxRecDepth 100000 in
set_option maxHeartbeats 2000000 in
theorem Delta_any (cs : List (ByteArray × List UInt8)) (need : Ref → Except Int (List Ref)) (hn : NeedOk cs need) (S T U : Nat → Prop) (av bv cv : Value) (old new : List Ref) (w : World) (ha : SnapsAt T w av old) (hb : SnapsAt U w bv new) (hc : ContAt S w cv cs) (henv : Env w) (hl1 : old.length ≤ 1000) (hl2 : new.length ≤ 1000) :
    Calls Tryd.prog 12 #[av, bv, cv] w (DeltaRes (deltaE need old new) w) := by
  have HE := Lib.hid (needed_any cs need hn S T av cv old w ha hc henv hl1)
  have HN := Lib.hid hn
  have HA := Lib.hid ha.ok
  have HBV := Lib.hid hb
  have HC := Lib.hid hc
  have HEV := Lib.hid henv
  clear hn ha hb hc henv
  go_enter Tryd.func12, Tryd.ntmps12
  go_wp2_with fail
  refine HE.out.mono ?_
  rintro e w1 ⟨hb1, hres⟩
  have HB1 := Lib.hid hb1
  clear hb1 HE
  cases hep : eachP need old with
  | error x =>
    rw [hep] at hres
    obtain ⟨rfl, hx⟩ := hres
    have e1 : (x != 0) = true := by simp [hx]
    have HX := Lib.hid hx
    have HEP := Lib.hid (show deltaE need old new = .error x by unfold deltaE; rw [hep])
    clear hep hx
    go_wp2_with fail
    go_ret3
    exact ⟨HB1.out, by rw [HEP.out]; exact ⟨rfl, HX.out⟩⟩
  | ok a =>
    rw [hep] at hres
    obtain ⟨base, nb, mb, v, rfl, hst, hbase⟩ := hres
    have HST := Lib.hid hst
    have HUA := Lib.hid (unionOf_len HN.out HA.out hep hl1)
    have HEP := Lib.hid hep
    clear hep hst
    have HE2 := Lib.hid (needed_any cs need HN.out S U bv cv new w1 (SeqAt.below HBV.out (by omega) HB1.out (fun _ _ _ h => h)) (HC.out.below HB1.out) (HEV.out.below HB1.out) hl2)
    go_wp2_with fail
    refine HE2.out.mono ?_
    rintro e w2 ⟨hb2, hres⟩
    have HB2 := Lib.hid (below_next HB1.out hb2)
    have HSA := Lib.hid (HST.out.below hb2)
    clear hb2 HE2 HST
    cases hep2 : eachP need new with
    | error x =>
      rw [hep2] at hres
      obtain ⟨rfl, hx⟩ := hres
      have e1 : (x != 0) = true := by simp [hx]
      have HX := Lib.hid hx
      have HEP3 := Lib.hid (show deltaE need old new = .error x by unfold deltaE; rw [HEP.out]; simp only [hep2])
      clear hep2 hx
      go_wp2_with fail
      go_ret3
      exact ⟨HB2.out, by rw [HEP3.out]; exact ⟨rfl, HX.out⟩⟩
    | ok b =>
      rw [hep2] at hres
      obtain ⟨base2, nb2, mb2, v2, rfl, hst2, hbase2⟩ := hres
      have HSB := Lib.hid hst2
      have HUB := Lib.hid (unionOf_len HN.out (SnapsAt.ok HBV.out) hep2 hl2)
      have HEP3 := Lib.hid (show deltaE need old new = .ok (a, b) by unfold deltaE; rw [HEP.out]; simp only [hep2])
      obtain ⟨xa, xc, rfl⟩ := HSA.out.shape
      obtain ⟨ya, yc, rfl⟩ := HSB.out.shape
      have c0 := cellH (k := 0) HSA.out.box
      have d0 := cellH (k := 0) HSB.out.box
      simp only [List.getElem?_toArray, List.getElem?_cons_succ, List.getElem?_cons_zero] at c0 d0
      clear hep2 hst2
      go_wp2_with fail
      refine hld_start (fun w' => w'.cell? ⟨nb, 0, none⟩ = some (.slice xa (unionP a).length xc) ∧ w'.cell? ⟨nb2, 0, none⟩ = some (.slice ya (unionP b).length yc)) (by kernel_rfl) ?_
      obtain ⟨W2, hW2⟩ : ∃ W2 : World, W2 = w2.drew := ⟨_, rfl⟩
      rw [← hW2]
      have hbw : Below w2.heap.size w2 W2 := by rw [hW2]; exact (Below.refl _ _).drew
      have HB3 := Lib.hid (below_next HB2.out hbw)
      have HSA2 := Lib.hid (HSA.out.below hbw)
      have HSB2 := Lib.hid (HSB.out.below hbw)
      clear hW2 hbw c0 d0 HSA HSB
      have c0 := cellH (k := 0) HSA2.out.box
      have d0 := cellH (k := 0) HSB2.out.box
      simp only [List.getElem?_toArray, List.getElem?_cons_succ, List.getElem?_cons_zero] at c0 d0
      refine hld_take 0 rfl (by kernel_rfl) (by kernel_rfl) (by kernel_rfl) (fun _ _ _ h => h) rfl (by go_simp) (by rintro w' ⟨hw1, hw2⟩; go_simp; rfl) ?_
      simp only [Act.put, List.setIfInBounds_toArray, List.set_cons_succ, List.set_cons_zero]
      refine hld_take 1 rfl (by kernel_rfl) (by kernel_rfl) (by kernel_rfl) (fun _ _ _ h => h) rfl (by go_simp) (by rintro w' ⟨hw1, hw2⟩; go_simp; rfl) ?_
      simp only [Act.put, List.setIfInBounds_toArray, List.set_cons_succ, List.set_cons_zero]
      refine hld_take 2 rfl (by kernel_rfl) (by kernel_rfl) (by kernel_rfl) (fun _ _ _ h => h) rfl (by go_simp) (by rintro w' ⟨hw1, hw2⟩; go_simp; rfl) ?_
      simp only [Act.put, List.setIfInBounds_toArray, List.set_cons_succ, List.set_cons_zero]
      refine hld_take 3 rfl (by kernel_rfl) (by kernel_rfl) (by kernel_rfl) (fun _ _ _ h => h) rfl (by go_simp) (by rintro w' ⟨hw1, hw2⟩; go_simp; rfl) ?_
      simp only [Act.put, List.setIfInBounds_toArray, List.set_cons_succ, List.set_cons_zero]
      refine hld_take 4 rfl (by kernel_rfl) (by kernel_rfl) (by kernel_rfl) (fun _ _ _ h => h) rfl (by go_simp) (by rintro w' ⟨hw1, hw2⟩; go_simp; rfl) ?_
      simp only [Act.put, List.setIfInBounds_toArray, List.set_cons_succ, List.set_cons_zero]
      refine hld_take 6 rfl (by kernel_rfl) (by kernel_rfl) (by kernel_rfl) (fun _ _ _ h => h) rfl (by go_simp) (by rintro w' ⟨hw1, hw2⟩; go_simp; rfl) ?_
      simp only [Act.put, List.setIfInBounds_toArray, List.set_cons_succ, List.set_cons_zero]
      refine hld_take 7 rfl (by kernel_rfl) (by kernel_rfl) (by kernel_rfl) (fun _ _ _ h => h) rfl (by go_simp) (by rintro w' ⟨hw1, hw2⟩; go_simp; rfl) ?_
      simp only [Act.put, List.setIfInBounds_toArray, List.set_cons_succ, List.set_cons_zero]
      refine hld_take 8 rfl (by kernel_rfl) (by kernel_rfl) (by kernel_rfl) (fun _ _ _ h => h) rfl (by go_simp) (by rintro w' ⟨hw1, hw2⟩; go_simp; rfl) ?_
      simp only [Act.put, List.setIfInBounds_toArray, List.set_cons_succ, List.set_cons_zero]
      refine hld_take 9 rfl (by kernel_rfl) (by kernel_rfl) (by kernel_rfl) (fun _ _ _ h => h) rfl (by go_simp) (by rintro w' ⟨hw1, hw2⟩; go_simp; rfl) ?_
      simp only [Act.put, List.setIfInBounds_toArray, List.set_cons_succ, List.set_cons_zero]
      refine hld_take 10 rfl (by kernel_rfl) (by kernel_rfl) (by kernel_rfl) (fun _ _ _ h => h) rfl (by go_simp) (by rintro w' ⟨hw1, hw2⟩; go_simp; rfl) ?_
      simp only [Act.put, List.setIfInBounds_toArray, List.set_cons_succ, List.set_cons_zero]
      refine hld_bar 5 rfl (by kernel_rfl) rfl (fun K hK => ?_)
      go_wp2_with (go_at_call 27; refine (without_any base nb mb _ (unionP a) _ _ (unionP b) _ HSA2.out HSB2.out.refs HUB.out).mono ?_; rintro e w4 ⟨gv, rfl, hgv, hb4⟩)
      have HGV := Lib.hid hgv
      have HB4 := Lib.hid hb4
      have HSA4 := Lib.hid (HSA2.out.below hb4)
      have HSB4 := Lib.hid (HSB2.out.below hb4)
      have c4 := cellH (k := 0) HSA4.out.box
      have d4 := cellH (k := 0) HSB4.out.box
      simp only [List.getElem?_toArray, List.getElem?_cons_succ, List.getElem?_cons_zero] at c4 d4
      obtain ⟨ga, gc, rfl, -, -, -⟩ := SeqAt.shape hgv RefR.len
      clear hgv hb4 c0 d0
      refine ⟨⟨c4, d4⟩, ?_⟩
      refine hld_bar 11 rfl (by kernel_rfl) rfl (fun K hK => ?_)
      go_wp2_with (go_at_call 27; refine (without_any base2 nb2 mb2 _ (unionP b) _ _ (unionP a) _ HSB4.out HSA4.out.refs HUA.out).mono ?_; rintro e w5 ⟨lv, rfl, hlv, hb5⟩)
      have HLV := Lib.hid hlv
      have HB5 := Lib.hid hb5
      have c5 := cellH (k := 0) (HSA4.out.below hb5).box
      have d5 := cellH (k := 0) (HSB4.out.below hb5).box
      simp only [List.getElem?_toArray, List.getElem?_cons_succ, List.getElem?_cons_zero] at c5 d5
      obtain ⟨la, lc, rfl, -, -, -⟩ := SeqAt.shape hlv RefR.len
      clear hlv hb5 c4 d4
      refine ⟨⟨c5, d5⟩, ?_⟩
      refine hld_take 12 rfl (by kernel_rfl) (by kernel_rfl) (by kernel_rfl) (fun _ _ _ h => h) rfl (by go_simp) (by rintro w' ⟨hw1, hw2⟩; go_simp; rfl) ?_
      simp only [Act.put, List.setIfInBounds_toArray, List.set_cons_succ, List.set_cons_zero]
      refine hld_take 13 rfl (by kernel_rfl) (by kernel_rfl) (by kernel_rfl) (fun _ _ _ h => h) rfl (by go_simp) (by rintro w' ⟨hw1, hw2⟩; go_simp; rfl) ?_
      simp only [Act.put, List.setIfInBounds_toArray, List.set_cons_succ, List.set_cons_zero]
      refine hld_take 14 rfl (by kernel_rfl) (by kernel_rfl) (by kernel_rfl) (fun _ _ _ h => h) rfl (by go_simp) (by rintro w' ⟨hw1, hw2⟩; go_simp; rfl) ?_
      simp only [Act.put, List.setIfInBounds_toArray, List.set_cons_succ, List.set_cons_zero]
      refine hld_done (by kernel_rfl) ?_
      go_wp2_with fail
      go_ret3
      have h3 := HB3.out.size
      have h4 := HB4.out.size
      refine ⟨below_next (below_next HB3.out HB4.out) HB5.out, ?_⟩
      rw [HEP3.out]
      exact ⟨_, _, rfl, RefsAt.same (SeqAt.below HGV.out (by omega) HB5.out (fun _ _ _ h => h)) (fun k _ hS => ⟨Nat.le_trans h3 hS, rfl⟩), RefsAt.same HLV.out (fun k _ hS => ⟨Nat.le_trans (Nat.le_trans h3 h4) hS, rfl⟩)⟩

end Go.Proofs.YtndgmcggckpgfaaDoor

/- Contracts of package liveness: Exclusive, Keepers. -/
namespace Go.Proofs.YtndgmcggckpgfaaDoor
open Go.RowKit

/-- What the lists but the one with an index hold, among the first k. -/
def exTo (ls : List (List Ref)) (i k : Nat) : List Ref := unionP ((ls.take k).eraseIdx i)
theorem exTo_same {ls : List (List Ref)} {i : Nat} : exTo ls i (i + 1) = exTo ls i i := by
  unfold exTo
  congr 1
  by_cases h : i < ls.length
  · rw [List.take_succ_eq_append_getElem h, List.eraseIdx_append_of_length_le (by simp; omega)]
    rw [List.eraseIdx_of_length_le (l := ls.take i) (by simp; omega)]
    have : i - (ls.take i).length = 0 := by simp; omega
    rw [this]; simp
  · rw [List.take_of_length_le (by omega), List.take_of_length_le (by omega)]
theorem exTo_step {ls : List (List Ref)} {i k : Nat} {l : List Ref} (h : ls[k]? = some l) (hne : k ≠ i) : exTo ls i (k + 1) = menAll l (exTo ls i k) := by
  obtain ⟨hk, rfl⟩ := List.getElem?_eq_some_iff.1 h
  unfold exTo
  rw [List.take_succ_eq_append_getElem hk]
  rcases Nat.lt_or_ge i (ls.take k).length with h1 | h1
  · rw [List.eraseIdx_append_of_lt_length h1, unionP_snoc]
  · rw [List.eraseIdx_append_of_length_le h1, List.eraseIdx_of_length_le (l := ls.take k) (by omega)]
    have h2 : i - (ls.take k).length ≠ 0 := by simp at h1 ⊢; omega
    obtain ⟨m, hm⟩ : ∃ m, i - (ls.take k).length = m + 1 := ⟨i - (ls.take k).length - 1, by omega⟩
    rw [hm]
    show unionP (ls.take k ++ [ls[k]]) = _
    rw [unionP_snoc]
theorem exTo_len {ls : List (List Ref)} {i k : Nat} (h : ∀ l ∈ ls, l.length ≤ 1000000000) (hk : k ≤ 999) : (exTo ls i k).length ≤ 999 * 1000000000 := by
  have h1 := unionP_len (ls := (ls.take k).eraseIdx i) (fun x hx => h x (List.mem_of_mem_take (List.mem_of_mem_eraseIdx hx)))
  have h2 : ((ls.take k).eraseIdx i).length ≤ 999 := by
    have := List.length_eraseIdx_le (ls.take k) i
    rw [List.length_take] at this
    omega
  exact Nat.le_trans h1 (Nat.mul_le_mul_right 1000000000 h2)
def exclE (need : Ref → Except Int (List Ref)) (roots : List Ref) (index : Int) : Except Int (List Ref) :=
  if index < 0 ∨ (roots.length : Int) ≤ index then .error 1 else mapE (fun ls => lessP (ls.getD index.toNat []) (unionP (ls.eraseIdx index.toNat))) (eachP need roots)
set_option maxRecDepth 100000 in
set_option maxHeartbeats 4000000 in
theorem Exclusive_any (cs : List (ByteArray × List UInt8)) (need : Ref → Except Int (List Ref)) (hn : NeedOk cs need) (S T : Nat → Prop) (sv cv : Value) (roots : List Ref) (index : Int) (w : World) (hs : SnapsAt T w sv roots) (hc : ContAt S w cv cs) (henv : Env w) (hlen : roots.length ≤ 1000) :
    Calls Tryd.prog 11 #[sv, .int .i64 index, cv] w (ListRes (exclE need roots index) w) := by
  have hrok := hs.ok
  have HOK := Lib.hid hrok
  have HN := Lib.hid hn
  have HE := Lib.hid (each_any cs need hn S T sv cv roots w hs hc henv (by omega))
  obtain ⟨sa, sc, rfl, hsc, hsm, -⟩ := SeqAt.shape hs SnapR.len
  unfold maxLen at hsm
  clear hn hs hc henv hrok
  by_cases hi0 : index < 0
  · have HR := Lib.hid (show exclE need roots index = .error 1 by unfold exclE; rw [if_pos (.inl hi0)])
    go_enter Tryd.func11, Tryd.ntmps11
    go_wp2_with fail
    go_ret2
    exact ⟨Below.refl _ _, by rw [HR.out]; exact ⟨rfl, by decide⟩⟩
  · by_cases hi1 : (roots.length : Int) ≤ index
    · have HR := Lib.hid (show exclE need roots index = .error 1 by unfold exclE; rw [if_pos (.inr hi1)])
      go_enter Tryd.func11, Tryd.ntmps11
      go_wp2_with fail
      go_ret2
      exact ⟨Below.refl _ _, by rw [HR.out]; exact ⟨rfl, by decide⟩⟩
    · have HXE := Lib.hid (show exclE need roots index = mapE (fun ls => lessP (ls.getD index.toNat []) (unionP (ls.eraseIdx index.toNat))) (eachP need roots) by unfold exclE; rw [if_neg (by omega)])
      obtain ⟨ix, rfl⟩ : ∃ ix : Nat, index = (ix : Int) := ⟨index.toNat, by omega⟩
      have hix : ix < roots.length := by omega
      rw [Int.toNat_natCast] at HXE
      clear hi0 hi1
      go_enter Tryd.func11, Tryd.ntmps11
      go_wp2_with fail
      refine HE.out.mono ?_
      rintro e w1 ⟨hb1, hres⟩
      have HB1 := Lib.hid hb1
      clear hb1 HE
      cases hep : eachP need roots with
      | error x =>
        rw [hep] at hres
        obtain ⟨rfl, hx⟩ := hres
        have e1 : (x != 0) = true := by simp [hx]
        have HX := Lib.hid hx
        have HR := Lib.hid (show exclE need roots (ix : Int) = .error x by rw [HXE.out, hep]; rfl)
        clear hep hx
        go_wp2_with fail
        go_ret2
        exact ⟨HB1.out, by rw [HR.out]; exact ⟨rfl, HX.out⟩⟩
      | ok ls =>
        rw [hep] at hres
        obtain ⟨lv, rfl, hlv⟩ := hres
        have HLV := Lib.hid hlv.lt
        obtain ⟨la, lc, rfl, hlc, hlm, -⟩ := SeqAt.shape hlv ListR.len
        unfold maxLen at hlm
        have HLE := Lib.hid (eachP_le HN.out HOK.out hep)
        have hll : ls.length = roots.length := eachP_len hep
        have hlx : ls.length ≤ 1000 := by omega
        have hix2 : ix < ls.length := by omega
        obtain ⟨lx, hlx2⟩ : ∃ lx, ls[ix]? = some lx := ⟨ls[ix], by simp [hix2]⟩
        have HLX := Lib.hid hlx2
        have HLXL := Lib.hid (show lx.length < 1099511627775 from Nat.lt_of_le_of_lt (HLE.out lx (List.mem_of_getElem? hlx2)) (by decide))
        have HR := Lib.hid (show exclE need roots (ix : Int) = .ok (lessP lx (unionP (ls.eraseIdx ix))) by
          rw [HXE.out, hep]
          show Except.ok (lessP (ls.getD ix []) _) = _
          rw [List.getD_eq_getElem?_getD, hlx2]; rfl)
        clear hep hlv hlx2 hll hix
        go_wp2_with fail
        refine (newSet_any w1 w1.heap.size).mono ?_
        rintro e w2 ⟨rfl, hst, hb2, hz2⟩
        have HST := Lib.hid hst
        have HB2 := Lib.hid hb2
        clear hst hb2
        go_wp2_with fail
        go_loopw [35] (fun i wr => ∃ (k : Nat) (v : Value), k ≤ ls.length ∧ i = .int .i64 k ∧ StAt wr w1.heap.size (w1.heap.size + 1) w1.heap.size v (exTo ls ix k) ∧ Below w1.heap.size w1 wr) (fun i _ => ls.length - (intOf i).toNat)
        case atStart => exact ⟨0, _, Nat.zero_le _, rfl, by simpa [exTo, unionP] using HST.out, HB2.out⟩
        case round =>
          obtain ⟨k, v, hk, rfl, hst, hb⟩ := hrel
          have HSR := Lib.hid hst
          have HBR := Lib.hid hb
          clear hst hb
          by_cases hlt : k < ls.length
          · obtain ⟨l, hl⟩ : ∃ l, ls[k]? = some l := ⟨ls[k], by simp [hlt]⟩
            obtain ⟨b, o, ca, cc, rfl, q0, hrf⟩ := lists_at HLV.out HBR.out hl
            have HRF := Lib.hid hrf
            obtain ⟨_, _, hv', hcc, hccm, -⟩ := SeqAt.shape hrf RefR.len
            cases hv'
            unfold maxLen at hccm
            have HL := Lib.hid hl
            clear hl hrf
            by_cases hki : k = ix
            · have e5 : ((k : Int) == (ix : Int)) = true := by rw [hki]; simp
              have HSN := Lib.hid (show exTo ls ix (k + 1) = exTo ls ix k by rw [hki]; exact exTo_same)
              clear hki
              go_wp2_with fail
              go_roundw
              case rel => exact ⟨k + 1, v, by omega, by go_num, by rw [HSN.out]; exact HSR.out, HBR.out⟩
              case measure => simp [intOf]; omega
            · have e5 : ((k : Int) == (ix : Int)) = false := by simp; omega
              have HSN := Lib.hid (exTo_step (i := ix) HL.out hki)
              have HLEN := Lib.hid (And.intro (HLE.out l (List.mem_of_getElem? HL.out)) (exTo_len (i := ix) (k := k) HLE.out (by omega)))
              obtain ⟨wo, hwo⟩ : ∃ wo : World, wo = wr := ⟨_, rfl⟩
              subst hwo
              clear hki
              go_wp2_with fail
              go_loopw [45] (fun i wq => ∃ (j : Nat) (v : Value), j ≤ l.length ∧ i = .int .i64 j ∧ StAt wq w1.heap.size (w1.heap.size + 1) w1.heap.size v (menAll (l.take j) (exTo ls ix k)) ∧ Below w1.heap.size w1 wq ∧ RefsAt (fun k => k < w1.heap.size) wq (.slice ca l.length cc) l) (fun i _ => l.length - (intOf i).toNat)
              case atStart => exact ⟨0, v, Nat.zero_le _, rfl, HSR.out, HBR.out, HRF.out⟩
              case round =>
                obtain ⟨j, v3, hj, rfl, hst3, hb3, hrf3⟩ := hrel
                have HS3 := Lib.hid hst3
                have HB3 := Lib.hid hb3
                have HR3 := Lib.hid hrf3
                clear hst3 hb3 hrf3
                by_cases hlt2 : j < l.length
                · obtain ⟨c, hc⟩ : ∃ c, l[j]? = some c := ⟨l[j], by simp [hlt2]⟩
                  obtain ⟨b2, o2, rfl, hcok, p0, p1, p2⟩ := refs_at HR3.out (Below.refl _ _) hc
                  have HCO := Lib.hid hcok
                  have HSN2 := Lib.hid (show menAll (l.take (j + 1)) (exTo ls ix k) = mentionP c (menAll (l.take j) (exTo ls ix k)) by rw [take_snoc' hc, menAll_snoc])
                  have HML := Lib.hid (show (menAll (l.take j) (exTo ls ix k)).length < 1099511627775 by
                    have h1 := menAll_len (l.take j) (exTo ls ix k)
                    rw [List.length_take] at h1
                    obtain ⟨h2, h3⟩ := HLEN.out
                    have h4 : (menAll (l.take j) (exTo ls ix k)).length ≤ 999 * 1000000000 + 1000000000 := Nat.le_trans h1 (Nat.add_le_add h3 (Nat.le_trans (Nat.min_le_right _ _) h2))
                    exact Nat.lt_of_le_of_lt h4 (by decide))
                  have HAL := Lib.hid ((Below.refl wr.heap.size wr).alloc (Nat.le_refl _) (.cells #[.string c.name, .int .i64 c.gen, .int .i64 c.size] 37))
                  have HS4 := Lib.hid (HS3.out.below HAL.out)
                  have HB4 := Lib.hid (below_next HB3.out HAL.out)
                  clear hc hcok
                  go_wp2_with fail
                  refine (add_any w1.heap.size (w1.heap.size + 1) w1.heap.size v3 _ c _ HS4.out HCO.out HML.out HB4.out.size).mono ?_
                  rintro e w4 ⟨rfl, v4, hst4, hg4, -⟩
                  have HB5 := Lib.hid (show Below w1.heap.size w1 w4 from HB4.out.trans (hg4.below HB4.out.size (fun k hk => st_ge HS4.out (Nat.le_refl _) (by omega) (Nat.le_refl _) hk)))
                  have HR5 := Lib.hid (show RefsAt (fun k => k < w1.heap.size) w4 (.slice (some ⟨b2, o2, none⟩) l.length cc) l from RefsAt.same HR3.out (fun k hk hS => ⟨hS, (HB5.out.block k hS).trans (HB3.out.block k hS).symm⟩))
                  have HS5 := Lib.hid hst4
                  clear hst4 hg4 p0 p1 p2
                  go_wp2_with fail
                  go_roundw
                  case rel => exact ⟨j + 1, v4, by omega, by go_num, by rw [HSN2.out]; exact HS5.out, HB5.out, HR5.out⟩
                  case measure => simp [intOf]; omega
                · obtain rfl : j = l.length := by omega
                  rw [List.take_of_length_le (Nat.le_refl _)] at HS3
                  go_wp2_with fail
                  go_roundw
                  case rel => exact ⟨k + 1, v3, by omega, by go_num, by rw [HSN.out]; exact HS3.out, HB3.out⟩
                  case measure => simp [intOf]; omega
          · obtain rfl : k = ls.length := by omega
            have HSF := Lib.hid (show StAt wr w1.heap.size (w1.heap.size + 1) w1.heap.size v (unionP (ls.eraseIdx ix)) by have := HSR.out; rwa [exTo, List.take_of_length_le (Nat.le_refl _)] at this)
            obtain ⟨b, o, ca, cc, rfl, q0, hrf⟩ := lists_at HLV.out HBR.out HLX.out
            have HRF := Lib.hid hrf
            clear hrf HSR
            go_wp2_with fail
            refine (without_any w1.heap.size (w1.heap.size + 1) w1.heap.size v _ _ _ lx wr HSF.out HRF.out HLXL.out).mono ?_
            rintro e w5 ⟨ov, rfl, hov, hb5⟩
            have HB5 := Lib.hid (below_next (below_next HB1.out HBR.out) hb5)
            have hz := Nat.le_trans HB1.out.size HBR.out.size
            have HOV := Lib.hid (show RefsAt (w.heap.size ≤ ·) w5 ov (lessP lx (unionP (ls.eraseIdx ix))) from RefsAt.same hov (fun k _ hS => ⟨Nat.le_trans hz hS, rfl⟩))
            obtain ⟨oa, oc, rfl, -, -, -⟩ := SeqAt.shape hov RefR.len
            clear hov hb5
            go_wp2_with fail
            go_ret2
            exact ⟨HB5.out, by rw [HR.out]; exact ⟨_, rfl, HOV.out⟩⟩

end Go.Proofs.YtndgmcggckpgfaaDoor

/- Contracts of package liveness: Keepers. -/
namespace Go.Proofs.YtndgmcggckpgfaaDoor
open Go.RowKit

def named (l : List Ref) (name : ByteArray) : Bool := l.any fun r => decide (r.name = name)
def keepTo (ls : List (List Ref)) (name : ByteArray) : Nat → List Int
  | 0 => []
  | k + 1 => keepTo ls name k ++ (if named (ls.getD k []) name then [(k : Int)] else [])
theorem keepTo_len (ls : List (List Ref)) (name : ByteArray) : ∀ k, (keepTo ls name k).length ≤ k
  | 0 => Nat.le_refl _
  | k + 1 => by
    have := keepTo_len ls name k
    rw [keepTo, List.length_append]
    split <;> simp <;> omega
def IntsAt (S : Nat → Prop) (w : World) (v : Value) (l : List Int) : Prop := RowAt S w 1 v l.length (l.map (Value.int .i64))
def IntsRes (res : Except Int (List Int)) (w : World) (e : Ending) (w' : World) : Prop := Below w.heap.size w w' ∧ match res with
  | .error x => e = .returned (.tuple #[.slice none 0 0, .int .i64 x]) ∧ x ≠ 0
  | .ok l => ∃ v, e = .returned (.tuple #[v, .int .i64 0]) ∧ IntsAt (w.heap.size ≤ ·) w' v l
theorem Tryd.appInts : AppTy Tryd.prog 56 3 1 8 := AppTy.mk' (z := .int .i64 0) Tryd.underlying56 (by kernel_rfl) rfl (by decide) (by decide)
set_option maxRecDepth 100000 in
set_option maxHeartbeats 4000000 in
theorem Keepers_any (cs : List (ByteArray × List UInt8)) (need : Ref → Except Int (List Ref)) (hn : NeedOk cs need) (S T : Nat → Prop) (sv cv : Value) (roots : List Ref) (name : ByteArray) (w : World) (hs : SnapsAt T w sv roots) (hc : ContAt S w cv cs) (henv : Env w) (hlen : roots.length ≤ 1000) :
    Calls Tryd.prog 21 #[sv, .string name, cv] w (IntsRes (mapE (fun ls => keepTo ls name ls.length) (eachP need roots)) w) := by
  have hrok := hs.ok
  have HOK := Lib.hid hrok
  have HN := Lib.hid hn
  have HE := Lib.hid (each_any cs need hn S T sv cv roots w hs hc henv (by omega))
  clear hn hs hc henv hrok
  go_enter Tryd.func21, Tryd.ntmps21
  go_wp2_with fail
  refine HE.out.mono ?_
  rintro e w1 ⟨hb1, hres⟩
  have HB1 := Lib.hid hb1
  clear hb1 HE
  cases hep : eachP need roots with
  | error x =>
    rw [hep] at hres
    obtain ⟨rfl, hx⟩ := hres
    have e1 : (x != 0) = true := by simp [hx]
    have HX := Lib.hid hx
    have HEP := Lib.hid hep
    clear hep hx
    go_wp2_with fail
    go_ret2
    exact ⟨HB1.out, by rw [HEP.out]; exact ⟨rfl, HX.out⟩⟩
  | ok ls =>
    rw [hep] at hres
    obtain ⟨lv, rfl, hlv⟩ := hres
    have HLV := Lib.hid hlv.lt
    obtain ⟨la, lc, rfl, hlc, hlm, -⟩ := SeqAt.shape hlv ListR.len
    unfold maxLen at hlm
    have HEP := Lib.hid hep
    have hll : ls.length ≤ 1000 := by rw [eachP_len hep]; exact hlen
    clear hep hlv
    go_wp2_with fail
    go_loopw [10, 26] (fun o i wr => ∃ (k : Nat), k ≤ ls.length ∧ i = .int .i64 k ∧ wr.ownsRow w1.heap.size 3 1 o (keepTo ls name k).length ((keepTo ls name k).map (Value.int .i64)) ∧ Below w1.heap.size w1 wr) (fun _ i _ => ls.length - (intOf i).toNat)
    case atStart => exact ⟨0, Nat.zero_le _, rfl, World.ownsRow_nil _ _ _ _, Below.refl _ _⟩
    case round =>
      obtain ⟨k, hk, rfl, hown, hb⟩ := hrel
      have HO := Lib.hid hown
      have HBR := Lib.hid hb
      have hkl := keepTo_len ls name k
      obtain ⟨ao, co, rfl, hn2, hm2⟩ := owns_shape hown
      clear hown hb
      by_cases hlt : k < ls.length
      · obtain ⟨l, hl⟩ : ∃ l, ls[k]? = some l := ⟨ls[k], by simp [hlt]⟩
        obtain ⟨b, o, ca, cc, rfl, q0, hrf⟩ := lists_at HLV.out HBR.out hl
        have HRF := Lib.hid hrf
        obtain ⟨_, _, hv', hcc, hccm, -⟩ := SeqAt.shape hrf RefR.len
        cases hv'
        unfold maxLen at hccm
        have HKT := Lib.hid (show keepTo ls name (k + 1) = keepTo ls name k ++ (if named l name then [(k : Int)] else []) by rw [keepTo, List.getD_eq_getElem?_getD, hl]; rfl)
        obtain ⟨wo, hwo⟩ : ∃ wo : World, wo = wr := ⟨_, rfl⟩
        subst hwo
        clear hl hrf
        go_wp2_with fail
        go_loopw [10, 33] (fun ov i wq => ∃ (j : Nat), j ≤ l.length ∧ i = .int .i64 j ∧ ov = .slice ao (keepTo ls name k).length co ∧ named (l.take j) name = false ∧ Below wo.heap.size wo wq) (fun _ i _ => l.length - (intOf i).toNat)
        case atStart => exact ⟨0, Nat.zero_le _, rfl, rfl, rfl, Below.refl _ _⟩
        case round =>
          obtain ⟨j, hj, rfl, rfl, hnm, hb3⟩ := hrel
          have HNM := Lib.hid hnm
          have HB3 := Lib.hid hb3
          have HO3 := Lib.hid (owns_below HO.out hb3)
          clear hnm hb3
          by_cases hlt2 : j < l.length
          · obtain ⟨c, hc⟩ : ∃ c, l[j]? = some c := ⟨l[j], by simp [hlt2]⟩
            obtain ⟨b2, o2, rfl, hcok, p0, p1, p2⟩ := refs_at HRF.out HB3.out hc
            have HC := Lib.hid hc
            have HAL := Lib.hid (HB3.out.alloc HB3.out.size (.cells #[.string c.name, .int .i64 c.gen, .int .i64 c.size] 37))
            have HO4 := Lib.hid (HO3.out.alloc (.cells #[.string c.name, .int .i64 c.gen, .int .i64 c.size] 37))
            have HBA := Lib.hid (below_next HBR.out HAL.out)
            have hbz := HBA.out.size
            clear hc hcok
            by_cases hcn : c.name = name
            · have e5 : (c.name.toList == name.toList) = true := by rw [hcn]; simp
              have HKT2 := Lib.hid (show keepTo ls name (k + 1) = keepTo ls name k ++ [(k : Int)] by
                rw [HKT.out]
                have : named l name = true := by unfold named; rw [List.any_eq_true]; exact ⟨c, List.mem_of_getElem? HC.out, by simp [hcn]⟩
                rw [this]; rfl)
              clear hcn
              go_upto_region 12 with (fail)
              obtain ⟨W4, hW4⟩ : ∃ W4 : World, W4 = wr.alloc (.cells #[.string c.name, .int .i64 c.gen, .int .i64 c.size] 37) := ⟨_, rfl⟩
              rw [← hW4] at HO4 HBA hbz ⊢
              clear hW4 HAL
              go_wp2_with (at_builtin; go_must (refine wpList_app1 Tryd.appInts rfl _ _ rfl w1.heap.size (.slice ao (keepTo ls name k).length co) (keepTo ls name k).length ((keepTo ls name k).map (Value.int .i64)) rfl W4 [.int .i64 (k : Int)] _ rfl rfl (by simp; rfl) HO4.out (by omega) hbz ?_); intro v' wc hown' hgrow' _; have HB2 := Lib.hid (below_grown HBA.out HO4.out hgrow' (Nat.le_refl _) hbz); have HO2 := Lib.hid (show wc.ownsRow w1.heap.size 3 1 v' (keepTo ls name (k + 1)).length ((keepTo ls name (k + 1)).map (Value.int .i64)) by rw [HKT2.out, List.length_append, List.map_append]; exact hown'); obtain ⟨ae, ce, rfl, -, -⟩ := owns_shape hown'; clear hown' hgrow')
              go_roundw
              case rel => exact ⟨k + 1, by omega, by go_num, HO2.out, HB2.out⟩
              case measure => simp [intOf]; omega
            · have e5 : (c.name.toList == name.toList) = false := by
                rw [toList_bl, toList_bl]; simp only [beq_eq_false_iff_ne]; exact fun e => hcn (bl_inj e)
              have HNM2 := Lib.hid (show named (l.take (j + 1)) name = false by
                have := HNM.out
                unfold named at this ⊢
                rw [take_snoc' HC.out, List.any_append, this]; simp [hcn])
              clear hcn
              go_wp2_with fail
              go_roundw
              case rel => exact ⟨j + 1, by omega, by go_num, rfl, HNM2.out, HAL.out⟩
              case measure => simp [intOf]; omega
          · obtain rfl : j = l.length := by omega
            have HKT2 := Lib.hid (show keepTo ls name (k + 1) = keepTo ls name k by
              have := HNM.out
              rw [List.take_of_length_le (Nat.le_refl _)] at this
              rw [HKT.out, this]; simp)
            go_wp2_with fail
            go_roundw
            case rel => exact ⟨k + 1, by omega, by go_num, by rw [HKT2.out]; exact HO3.out, below_next HBR.out HB3.out⟩
            case measure => simp [intOf]; omega
      · obtain rfl : k = ls.length := by omega
        go_wp2_with fail
        go_ret2
        exact ⟨below_next HB1.out HBR.out, by rw [HEP.out]; exact ⟨_, rfl, (row_of_owns HO.out).weak (fun k hk => Nat.le_trans HB1.out.size hk.1)⟩⟩

end Go.Proofs.YtndgmcggckpgfaaDoor

/- Contracts of package liveness: Counts. -/
namespace Go.Proofs.YtndgmcggckpgfaaDoor
open Go.RowKit

def useC (p : Ref × Int) : List Value := [.string p.1.name, .int .i64 p.1.gen, .int .i64 p.1.size, .int .i64 p.2]
def incP (p : Ref × Int) : Ref × Int := (p.1, wrap64 (p.2 + 1))
def bumpP (r : Ref) (us : List (Ref × Int)) : List (Ref × Int) :=
  if r ∈ us.map Prod.fst then us.modify ((us.map Prod.fst).idxOf r) incP else us ++ [(r, 1)]
def bumpAll (l : List Ref) (us : List (Ref × Int)) : List (Ref × Int) := l.foldl (fun us r => bumpP r us) us
def countP (ls : List (List Ref)) : List (Ref × Int) := ls.foldl (fun us l => bumpAll l us) []
theorem modify_snoc {α : Type} (p : α) (f : α → α) : ∀ (us : List α), (us ++ [p]).modify us.length f = us ++ [f p]
  | [] => rfl
  | a :: us => by rw [List.cons_append, List.length_cons, List.modify_succ_cons, modify_snoc p f us]; rfl
theorem useC_len (p : Ref × Int) : (useC p).length = 4 := rfl
theorem uses_len : ∀ (us : List (Ref × Int)), (us.flatMap useC).length = us.length * 4
  | [] => rfl
  | p :: us => by rw [List.flatMap_cons, List.length_append, useC_len, uses_len us, List.length_cons]; omega
theorem uses_get : ∀ {us : List (Ref × Int)} {i : Nat} {p : Ref × Int}, us[i]? = some p → (us.flatMap useC)[i * 4 + 3]? = some (.int .i64 p.2)
  | [], _, _, h => by simp at h
  | q :: us, 0, p, h => by
    simp at h; subst h
    rfl
  | q :: us, i + 1, p, h => by
    rw [List.flatMap_cons, List.getElem?_append_right (by rw [useC_len]; omega), useC_len]
    have := uses_get (us := us) (i := i) (by simpa using h)
    rw [show (i + 1) * 4 + 3 - 4 = i * 4 + 3 by omega]; exact this
theorem uses_set : ∀ {us : List (Ref × Int)} {i : Nat} {p : Ref × Int} (f : Int), us[i]? = some p → (us.flatMap useC).set (i * 4 + 3) (.int .i64 f) = (us.modify i (fun q => (q.1, f))).flatMap useC
  | [], _, _, _, h => by simp at h
  | q :: us, 0, p, f, h => by
    simp [useC, List.flatMap_cons]
  | q :: us, i + 1, p, f, h => by
    rw [List.flatMap_cons, List.set_append, if_neg (by rw [useC_len]; omega), useC_len, List.modify_succ_cons, List.flatMap_cons]
    rw [show (i + 1) * 4 + 3 - 4 = i * 4 + 3 by omega, uses_set f (by simpa using h)]
theorem modify_at {us : List (Ref × Int)} {i : Nat} {p : Ref × Int} (h : us[i]? = some p) : us.modify i incP = us.modify i (fun q => (q.1, wrap64 (p.2 + 1))) := by
  apply List.ext_getElem?
  intro j
  rw [List.getElem?_modify, List.getElem?_modify]
  by_cases e : i = j
  · subst e; rw [h]; simp [incP]
  · simp [e]
theorem bumpP_keys (r : Ref) (us : List (Ref × Int)) : (bumpP r us).map Prod.fst = mentionP r (us.map Prod.fst) := by
  unfold bumpP mentionP
  split
  · apply List.ext_getElem?
    intro j
    rw [List.getElem?_map, List.getElem?_modify, List.getElem?_map]
    cases us[j]? with
    | none => simp
    | some p => by_cases e : (us.map Prod.fst).idxOf r = j <;> simp [e, incP]
  · simp
theorem bumpAll_snoc (l : List Ref) (r : Ref) (us : List (Ref × Int)) : bumpAll (l ++ [r]) us = bumpP r (bumpAll l us) := by unfold bumpAll; rw [List.foldl_append]; rfl
theorem countP_snoc (ls : List (List Ref)) (l : List Ref) : countP (ls ++ [l]) = bumpAll l (countP ls) := by unfold countP; rw [List.foldl_append]; rfl
theorem bumpAll_keys : ∀ (l : List Ref) (us : List (Ref × Int)), (bumpAll l us).map Prod.fst = menAll l (us.map Prod.fst)
  | [], _ => rfl
  | r :: l, us => by
    show (bumpAll l (bumpP r us)).map Prod.fst = menAll l (mentionP r (us.map Prod.fst))
    rw [bumpAll_keys, bumpP_keys]
theorem foldl_keys : ∀ (ls : List (List Ref)) (us : List (Ref × Int)), (ls.foldl (fun us l => bumpAll l us) us).map Prod.fst = ls.foldl (fun acc l => menAll l acc) (us.map Prod.fst)
  | [], _ => rfl
  | l :: ls, us => by
    rw [List.foldl_cons, List.foldl_cons, foldl_keys, bumpAll_keys]
theorem countP_keys (ls : List (List Ref)) : (countP ls).map Prod.fst = unionP ls := foldl_keys ls []
theorem Tryd.appUses : AppTy Tryd.prog 51 60 4 40 := AppTy.mk' (z := .agg #[.string ⟨#[]⟩, .int .i64 0, .int .i64 0, .int .i64 0]) Tryd.underlying51 (by kernel_rfl) rfl (by decide) (by decide)
theorem useC_one {p : Ref × Int} : ∀ u ∈ useC p, u.oneCell' = true := by
  intro u hu
  simp only [useC, List.mem_cons, List.not_mem_nil, or_false] at hu
  rcases hu with rfl | rfl | rfl | rfl <;> rfl
def UseR (c : List Value) (p : Ref × Int) : Prop := c = useC p ∧ RefOk p.1
theorem UseR.len (c : List Value) (p : Ref × Int) (h : UseR c p) : c.length = 4 := by rw [h.1]; rfl
def UsesAt (S : Nat → Prop) (w : World) (v : Value) (us : List (Ref × Int)) : Prop := SeqAt S w 4 UseR v us
theorem uses_rows : ∀ {us : List (Ref × Int)}, (∀ r ∈ us.map Prod.fst, RefOk r) → RowsIn UseR (us.flatMap useC) us
  | [], _ => rfl
  | p :: us, h => ⟨useC p, us.flatMap useC, rfl, ⟨rfl, h p.1 (by simp)⟩, uses_rows (fun x hx => h x (by simp at hx ⊢; exact .inr hx))⟩
def UsesRes (res : Except Int (List (Ref × Int))) (w : World) (e : Ending) (w' : World) : Prop := Below w.heap.size w w' ∧ match res with
  | .error x => e = .returned (.tuple #[.slice none 0 0, .int .i64 x]) ∧ x ≠ 0
  | .ok us => ∃ v, e = .returned (.tuple #[v, .int .i64 0]) ∧ UsesAt (w.heap.size ≤ ·) w' v us

theorem StAt.notown {w : World} {base nb mb : Nat} {v : Value} {l : List Ref} (h : StAt w base nb mb v l) {k : Nat} {cs : Array Value} {t : TypeId} {z : Nat × Nat} (hb : w.heap[k]? = some (.cells cs t z)) (h1 : t ≠ 77) (h2 : t ≠ 37) : ¬ StOwn nb mb v k := by
  rintro (e | e | e)
  · subst e
    have := hb.symm.trans h.box
    simp at this
    exact h1 this.2.1
  · subst e; exact h.idx.cells hb
  · obtain ⟨cs', hc⟩ := owns_block h.row e
    have := hb.symm.trans hc
    simp at this
    exact h2 this.2.1
theorem owns_grows {S : Nat → Prop} {w w' : World} {base : Nat} {e : TypeId} {sz : Nat} {v : Value} {n : Nat} {xs : List Value} (h : w.ownsRow base e sz v n xs) (hg : Grows S w w') (hS : ∀ k, v.ownBlock = some k → ¬ S k) : w'.ownsRow base e sz v n xs := by
  obtain ⟨hl, h2⟩ := h
  refine ⟨hl, ?_⟩
  rcases h2 with h2 | ⟨g, cap, cur, rfl, hb, hh, h3⟩
  · exact .inl h2
  · exact .inr ⟨g, cap, cur, rfl, hb, (hg.block g (lt_of_block hh) (hS g rfl)).trans hh, h3⟩
/-- The set and the uses lie apart. -/
theorem uses_apart {w : World} {base base2 nb mb : Nat} {v uv : Value} {l : List Ref} {n : Nat} {xs : List Value} (h : StAt w base nb mb v l) (ho : w.ownsRow base2 60 4 uv n xs) {k : Nat} (hk : uv.ownBlock = some k) : ¬ StOwn nb mb v k := by
  obtain ⟨cs, hc⟩ := owns_block ho hk
  exact h.notown hc (by decide) (by decide)
theorem owns_pos {w : World} {base : Nat} {e : TypeId} {sz : Nat} {a : Option Addr} {n cap : Nat} {xs : List Value} (h : w.ownsRow base e sz (.slice a n cap) n xs) (hn : 0 < n) : ∃ g, a = some ⟨g, 0, none⟩ := by
  obtain ⟨_, h2⟩ := h
  rcases h2 with ⟨_, h3⟩ | ⟨g, cap', cur, h3, _⟩
  · omega
  · simp only [Value.slice.injEq] at h3
    exact ⟨g, h3.1⟩
theorem bumpP_len (r : Ref) (us : List (Ref × Int)) : (bumpP r us).length = (mentionP r (us.map Prod.fst)).length := by rw [← bumpP_keys]; simp
theorem keys_len (us : List (Ref × Int)) : us.length = (us.map Prod.fst).length := by simp
set_option maxRecDepth 100000 in
set_option maxHeartbeats 4000000 in
theorem Counts_any (cs : List (ByteArray × List UInt8)) (need : Ref → Except Int (List Ref)) (hn : NeedOk cs need) (S T : Nat → Prop) (sv cv : Value) (roots : List Ref) (w : World) (hs : SnapsAt T w sv roots) (hc : ContAt S w cv cs) (henv : Env w) (hlen : roots.length ≤ 1000) :
    Calls Tryd.prog 20 #[sv, cv] w (UsesRes (mapE countP (eachP need roots)) w) := by
  have hrok := hs.ok
  have HOK := Lib.hid hrok
  have HN := Lib.hid hn
  have HE := Lib.hid (each_any cs need hn S T sv cv roots w hs hc henv (by omega))
  clear hn hs hc henv hrok
  go_enter Tryd.func20, Tryd.ntmps20
  go_wp2_with fail
  refine HE.out.mono ?_
  rintro e w1 ⟨hb1, hres⟩
  have HB1 := Lib.hid hb1
  clear hb1 HE
  cases hep : eachP need roots with
  | error x =>
    rw [hep] at hres
    obtain ⟨rfl, hx⟩ := hres
    have e1 : (x != 0) = true := by simp [hx]
    have HX := Lib.hid hx
    have HEP := Lib.hid hep
    clear hep hx
    go_wp2_with fail
    go_ret2
    exact ⟨HB1.out, by rw [HEP.out]; exact ⟨rfl, HX.out⟩⟩
  | ok ls =>
    rw [hep] at hres
    obtain ⟨lv, rfl, hlv⟩ := hres
    have HLV := Lib.hid hlv.lt
    have HEP := Lib.hid hep
    obtain ⟨la, lc, rfl, hlc, hlm, -⟩ := SeqAt.shape hlv ListR.len
    unfold maxLen at hlm
    have HLE := Lib.hid (eachP_le HN.out HOK.out hep)
    have hll : ls.length ≤ 1000 := by rw [eachP_len hep]; exact hlen
    clear hep hlv
    go_wp2_with fail
    refine (newSet_any w1 w1.heap.size).mono ?_
    rintro e w2 ⟨rfl, hst, hb2, hz2⟩
    have HST := Lib.hid hst
    have HB2 := Lib.hid hb2
    clear hst hb2
    go_wp2_with fail
    go_loopw [9, 27] (fun uv i wr => ∃ (k : Nat) (v : Value), k ≤ ls.length ∧ i = .int .i64 k ∧ StAt wr w1.heap.size (w1.heap.size + 1) w1.heap.size v ((countP (ls.take k)).map Prod.fst) ∧ wr.ownsRow w1.heap.size 60 4 uv (countP (ls.take k)).length ((countP (ls.take k)).flatMap useC) ∧ Below w1.heap.size w1 wr) (fun _ i _ => ls.length - (intOf i).toNat)
    case atStart => exact ⟨0, _, Nat.zero_le _, rfl, HST.out, World.ownsRow_nil _ _ _ _, HB2.out⟩
    case round =>
      obtain ⟨k, v, hk, rfl, hst, hown, hb⟩ := hrel
      have HSR := Lib.hid hst
      have HOR := Lib.hid hown
      have HBR := Lib.hid hb
      obtain ⟨ua, uc, rfl, hun, hum⟩ := owns_shape hown
      clear hst hb hown
      by_cases hlt : k < ls.length
      · obtain ⟨l, hl⟩ : ∃ l, ls[k]? = some l := ⟨ls[k], by simp [hlt]⟩
        obtain ⟨b, o, ca, cc, rfl, q0, hrf⟩ := lists_at HLV.out HBR.out hl
        have HRF := Lib.hid hrf
        obtain ⟨_, _, hv', hcc, hccm, -⟩ := SeqAt.shape hrf RefR.len
        cases hv'
        unfold maxLen at hccm
        have HSN := Lib.hid (show countP (ls.take (k + 1)) = bumpAll l (countP (ls.take k)) by rw [take_snoc' hl, countP_snoc])
        have HLEN := Lib.hid (show l.length ≤ 1000000000 ∧ (unionP (ls.take k)).length ≤ 999 * 1000000000 from ⟨HLE.out l (List.mem_of_getElem? hl), by
          have h1 := unionP_len (ls := ls.take k) (fun x hx => HLE.out x (List.mem_of_mem_take hx))
          rw [List.length_take] at h1
          have h2 : min k ls.length ≤ 999 := by omega
          exact Nat.le_trans h1 (Nat.mul_le_mul_right 1000000000 h2)⟩)
        obtain ⟨wo, hwo⟩ : ∃ wo : World, wo = wr := ⟨_, rfl⟩
        subst hwo
        clear hl hrf
        go_wp2_with fail
        go_loopw [9, 33] (fun uv i wq => ∃ (j : Nat) (v : Value), j ≤ l.length ∧ i = .int .i64 j ∧ StAt wq w1.heap.size (w1.heap.size + 1) w1.heap.size v ((bumpAll (l.take j) (countP (ls.take k))).map Prod.fst) ∧ wq.ownsRow w1.heap.size 60 4 uv (bumpAll (l.take j) (countP (ls.take k))).length ((bumpAll (l.take j) (countP (ls.take k))).flatMap useC) ∧ Below w1.heap.size w1 wq ∧ RefsAt (fun k => k < w1.heap.size) wq (.slice ca l.length cc) l) (fun _ i _ => l.length - (intOf i).toNat)
        case atStart => exact ⟨0, v, Nat.zero_le _, rfl, HSR.out, HOR.out, HBR.out, HRF.out⟩
        case round =>
          obtain ⟨j, v3, hj, rfl, hst3, hown3, hb3, hrf3⟩ := hrel
          have HML0 := Lib.hid (show (bumpAll (l.take j) (countP (ls.take k))).length < 1099511627775 by
            rw [keys_len, bumpAll_keys, countP_keys]
            have h1 := menAll_len (l.take j) (unionP (ls.take k))
            rw [List.length_take] at h1
            obtain ⟨h2, h3⟩ := HLEN.out
            have h4 : (menAll (l.take j) (unionP (ls.take k))).length ≤ 999 * 1000000000 + 1000000000 := Nat.le_trans h1 (Nat.add_le_add h3 (Nat.le_trans (Nat.min_le_right _ _) h2))
            exact Nat.lt_of_le_of_lt h4 (by decide))
          obtain ⟨us, hus⟩ : ∃ us, us = bumpAll (l.take j) (countP (ls.take k)) := ⟨_, rfl⟩
          rw [← hus] at hst3 hown3 HML0
          have HUS := Lib.hid hus
          have HS3 := Lib.hid hst3
          have HO3 := Lib.hid hown3
          have HB3 := Lib.hid hb3
          have HR3 := Lib.hid hrf3
          obtain ⟨xa, xc, hxv, hxn, hxm⟩ := owns_shape hown3
          subst hxv
          clear hst3 hown3 hb3 hrf3 hus
          by_cases hlt2 : j < l.length
          · obtain ⟨c, hc⟩ : ∃ c, l[j]? = some c := ⟨l[j], by simp [hlt2]⟩
            obtain ⟨b2, o2, rfl, hcok, p0, p1, p2⟩ := refs_at HR3.out (Below.refl _ _) hc
            have HCO := Lib.hid hcok
            have HSN2 := Lib.hid (show bumpAll (l.take (j + 1)) (countP (ls.take k)) = bumpP c us by rw [take_snoc' hc, bumpAll_snoc, HUS.out])
            have HML := Lib.hid (show (us.map Prod.fst).length < 1099511627775 by rw [← keys_len]; exact HML0.out)
            have HAL := Lib.hid ((Below.refl wr.heap.size wr).alloc (Nat.le_refl _) (.cells #[.string c.name, .int .i64 c.gen, .int .i64 c.size] 37))
            have HS4 := Lib.hid (HS3.out.below HAL.out)
            have HO4 := Lib.hid (owns_below HO3.out HAL.out)
            have HB4 := Lib.hid (below_next HB3.out HAL.out)
            have HBX4 := Lib.hid (heap_alloc_new wr (.cells #[.string c.name, .int .i64 c.gen, .int .i64 c.size] 37))
            clear hc hcok
            go_wp2_with fail
            refine (add_any w1.heap.size (w1.heap.size + 1) w1.heap.size v3 _ c _ HS4.out HCO.out HML.out HB4.out.size).mono ?_
            rintro e w4 ⟨rfl, v4, hst4, hg4, -⟩
            have HB5 := Lib.hid (show Below w1.heap.size w1 w4 from HB4.out.trans (hg4.below HB4.out.size (fun k hk => st_ge HS4.out (Nat.le_refl _) (by omega) (Nat.le_refl _) hk)))
            have HR5 := Lib.hid (show RefsAt (fun k => k < w1.heap.size) w4 (.slice (some ⟨b2, o2, none⟩) l.length cc) l from RefsAt.same HR3.out (fun k hk hS => ⟨hS, (HB5.out.block k hS).trans (HB3.out.block k hS).symm⟩))
            have HS5 := Lib.hid hst4
            have HO5 := Lib.hid (owns_grows HO4.out hg4 (fun k hk => uses_apart HS4.out HO4.out hk))
            clear p0 p1 p2
            obtain ⟨pl, hpl⟩ : ∃ pl : Nat, pl = (mentionP c (us.map Prod.fst)).idxOf c := ⟨_, rfl⟩
            rw [← hpl]
            by_cases hcm : c ∈ us.map Prod.fst
            · have hmk : mentionP c (us.map Prod.fst) = us.map Prod.fst := by unfold mentionP; rw [if_pos hcm]
              rw [hmk] at hpl HS5
              have hplt : pl < us.length := by rw [hpl, keys_len]; exact List.idxOf_lt_length_iff.2 hcm
              obtain ⟨q, hq⟩ : ∃ q, us[pl]? = some q := ⟨us[pl], by simp [hplt]⟩
              have HQ := Lib.hid hq
              have HBP := Lib.hid (show bumpP c us = us.modify pl (fun p => (p.1, wrap64 (q.2 + 1))) by unfold bumpP; rw [if_pos hcm, ← hpl, modify_at hq])
              have HBK := Lib.hid (show (bumpP c us).map Prod.fst = us.map Prod.fst by rw [bumpP_keys, hmk])
              obtain ⟨g, rfl⟩ := owns_pos HO5.out (by omega)
              have u3 := (HO5.out.cellAt (pl * 4 + 3) (by omega)).trans (uses_get HQ.out)
              have uf := HO5.out.frozenAt (pl * 4 + 3)
              have e6 : ((pl : Int) == (us.length : Int)) = false := by rw [beq_eq_false_iff_ne]; omega
              clear hcm hmk hpl hq hst4 hg4
              go_wp2_with fail
              go_roundw
              case rel =>
                have hst6 := HO5.out.stored (pl * 4 + 3) (.int .i64 (wrap64 (q.2 + 1)))
                rw [uses_set _ HQ.out, ← HBP.out] at hst6
                have hle : us.length = (bumpP c us).length := by rw [HBP.out]; simp
                have hkeep : ∀ k, StOwn (w1.heap.size + 1) w1.heap.size v4 k → k ≠ g := fun k hk e => uses_apart HS5.out HO5.out (k := k) (by rw [e]; rfl) hk
                refine ⟨j + 1, v4, by omega, by go_num, ?_, ?_, ?_, ?_⟩
                · rw [HSN2.out, HBK.out]
                  exact HS5.out.keep (fun k _ hk => Below.heap_setCell _ _ _ _ (hkeep k hk))
                · rw [HSN2.out, ← hle]; exact hst6.1
                · exact HB5.out.trans ((Grows.of_grown (S := fun k => k = g) hst6.2 (fun k hk => by cases hk; rfl)).below HB5.out.size (fun k hk => by subst hk; exact (HO5.out.lt _ rfl).1))
                · exact RefsAt.same HR5.out (fun k hk hS => ⟨hS, Below.heap_setCell _ _ _ _ (by intro e; have e2 : k = g := e; have := (HO5.out.lt g rfl).1; omega)⟩)
              case measure => simp [intOf]; omega
            · have hmk : mentionP c (us.map Prod.fst) = us.map Prod.fst ++ [c] := by unfold mentionP; rw [if_neg hcm]
              rw [hmk] at hpl HS5
              have hpl2 : pl = us.length := by rw [hpl, idxOf_mention hcm, ← keys_len]
              subst hpl2
              have HBP := Lib.hid (show bumpP c us = us ++ [(c, 1)] by unfold bumpP; rw [if_neg hcm])
              have hbx5 : w4.heap[wr.heap.size]? = some (.cells #[.string c.name, .int .i64 c.gen, .int .i64 c.size] 37 (0, 0)) := (hg4.block wr.heap.size (by simp) (fun ho => by
                rcases ho with e | e | e
                · have := lt_of_block HS3.out.box; omega
                · have := HS3.out.idx.map.lt; omega
                · have := (HS3.out.row.lt _ e).2; omega)).trans HBX4.out
              have r0 := cellH (k := 0) hbx5
              have r1 := cellH (k := 1) hbx5
              have r2 := cellH (k := 2) hbx5
              simp only [List.getElem?_toArray, List.getElem?_cons_succ, List.getElem?_cons_zero] at r0 r1 r2
              have hbz := HB5.out.size
              clear hcm hmk hpl hst4 hg4 hbx5
              go_upto_region 15 with ((at_builtin; go_must (refine wpList_app1p Tryd.appUses rfl _ _ rfl w1.heap.size (.slice xa us.length xc) us.length (us.flatMap useC) rfl w4 [.string c.name, .int .i64 c.gen, .int .i64 c.size, .int .i64 0] _ rfl rfl (useC_one (p := (c, 0))) HO5.out HML0.out hbz ?_); intro v' w6 hown' hgrow' _ hpl))
              have HS6 := Lib.hid (HS5.out.keep (w' := w6) (fun k hk ho => hgrow'.block k hk (fun e => uses_apart HS5.out HO5.out e.symm ho)))
              have HO6 := Lib.hid (show w6.ownsRow w1.heap.size 60 4 v' (us.length + 1) ((us ++ [(c, 0)]).flatMap useC) by rw [List.flatMap_append]; simpa [useC] using hown')
              have HB6 := Lib.hid (below_grown HB5.out HO5.out hgrow' (Nat.le_refl _) hbz)
              have HR6 := Lib.hid (show RefsAt (fun k => k < w1.heap.size) w6 (.slice (some ⟨b2, o2, none⟩) l.length cc) l from RefsAt.same HR5.out (fun k hk hS => ⟨hS, (HB6.out.block k hS).trans (HB5.out.block k hS).symm⟩))
              obtain ⟨va, vc, rfl, hvn, hvm⟩ := owns_shape hown'
              obtain ⟨g, rfl⟩ := owns_pos HO6.out (by omega)
              have HQ := Lib.hid (show (us ++ [(c, 0)])[us.length]? = some (c, 0) by simp)
              have u3 := (HO6.out.cellAt (us.length * 4 + 3) (by omega)).trans (uses_get HQ.out)
              have uf := HO6.out.frozenAt (us.length * 4 + 3)
              simp only at u3
              clear hown' hgrow' hpl r0 r1 r2
              go_wp2_with fail
              go_roundw
              case rel =>
                have hst6 := HO6.out.stored (us.length * 4 + 3) (.int .i64 1)
                rw [uses_set _ HQ.out] at hst6
                have hmd : (us ++ [(c, (0 : Int))]).modify us.length (fun q => (q.1, (1 : Int))) = us ++ [(c, 1)] := by
                  rw [modify_snoc]
                rw [hmd, ← HBP.out] at hst6
                have hkeep : ∀ k, StOwn (w1.heap.size + 1) w1.heap.size v4 k → k ≠ g := fun k hk e => uses_apart HS6.out HO6.out (k := k) (by rw [e]; rfl) hk
                have hle : us.length + 1 = (bumpP c us).length := by rw [HBP.out]; simp
                refine ⟨j + 1, v4, by omega, by go_num, ?_, ?_, ?_, ?_⟩
                · rw [HSN2.out, HBP.out, List.map_append]
                  exact HS6.out.keep (fun k _ hk => Below.heap_setCell _ _ _ _ (hkeep k hk))
                · rw [HSN2.out, ← hle]; exact hst6.1
                · exact HB6.out.trans ((Grows.of_grown (S := fun k => k = g) hst6.2 (fun k hk => by cases hk; rfl)).below HB6.out.size (fun k hk => by subst hk; exact (HO6.out.lt _ rfl).1))
                · exact RefsAt.same HR6.out (fun k hk hS => ⟨hS, Below.heap_setCell _ _ _ _ (by intro e; have e2 : k = g := e; have := (HO6.out.lt g rfl).1; omega)⟩)
              case measure => simp [intOf]; omega
          · obtain rfl : j = l.length := by omega
            have HUS2 := Lib.hid (show us = bumpAll l (countP (ls.take k)) by rw [HUS.out, List.take_of_length_le (Nat.le_refl _)])
            go_wp2_with fail
            go_roundw
            case rel => exact ⟨k + 1, v3, by omega, by go_num, by rw [HSN.out, ← HUS2.out]; exact HS3.out, by rw [HSN.out, ← HUS2.out]; exact HO3.out, HB3.out⟩
            case measure => simp [intOf]; omega
      · obtain rfl : k = ls.length := by omega
        have HTK := Lib.hid (show countP (ls.take ls.length) = countP ls by rw [List.take_of_length_le (Nat.le_refl _)])
        go_wp2_with fail
        go_ret2
        refine ⟨below_next HB1.out HBR.out, ?_⟩
        rw [HEP.out]
        show ∃ v, _ ∧ UsesAt _ _ v (countP ls)
        rw [← HTK.out]
        refine ⟨_, rfl, (countP (ls.take ls.length)).flatMap useC, (row_of_owns HOR.out).weak (fun k hk => Nat.le_trans HB1.out.size hk.1), uses_rows HSR.out.ok⟩

end Go.Proofs.YtndgmcggckpgfaaDoor

/- Equality of uses; equality of lists of numbers. -/
namespace Go.Proofs.YtndgmcggckpgfaaDoor
open Go Go.RowKit


def useV (p : Ref × Int) : Value := .agg #[.string p.1.name, .int .i64 p.1.gen, .int .i64 p.1.size, .int .i64 p.2]
theorem eqUse (p p' : Ref × Int) (w : World) : (Op.equalIn 10000 60 (useV p) (useV p')).run Tryd.prog w = .ok (decide (p = p')) w := by
  have u1 := Tryd.underlying9
  have u2 := Tryd.underlying3
  have hS : Tryd.prog.underlying 60 = some (.struct (Tryd.prog.fieldsOf 60)) := by kernel_rfl
  rw [show (10000 : Nat) = 9999 + 1 from rfl]
  unfold useV
  rw [run_equalIn_struct w 9999 60 _ _ hS (by kernel_rfl)]
  simp only [Program.fieldsOf, Tryd.underlying60]
  go_simp
  obtain ⟨⟨n, g, s⟩, c⟩ := p
  obtain ⟨⟨n', g', s'⟩, c'⟩ := p'
  have hn : n.toList = n'.toList ↔ n = n' := ⟨fun h => bl_inj (by rw [← toList_bl, ← toList_bl, h]), fun h => by rw [h]⟩
  simp only [Prod.mk.injEq, Ref.mk.injEq, hn]
  by_cases h1 : n = n' <;> by_cases h2 : g = g' <;> by_cases h3 : s = s' <;> by_cases h4 : c = c' <;> simp [h1, h2, h3, h4]
theorem ints_at {S : Nat → Prop} {w w' : World} {a : Option Addr} {n cap : Nat} {l : List Int} (hv : IntsAt S w (.slice a n cap) l) (hb : Below w.heap.size w w') {k : Nat} {x : Int} (hx : l[k]? = some x) : ∃ b o, a = some ⟨b, o, none⟩ ∧ w'.cell? ⟨b, o + k, none⟩ = some (.int .i64 x) := by
  obtain ⟨hl, a', cap', hv', _, _, h0⟩ := hv
  cases hv'
  rcases h0 with h0 | ⟨b, o, rfl, _, hc⟩
  · simp [List.eq_nil_of_length_eq_zero h0] at hx
  · have h1 := hc k (.int .i64 x) (by simp [hx])
    exact ⟨b, o, rfl, (hb.cell (block_lt h1)).trans h1⟩
set_option maxRecDepth 100000 in
set_option maxHeartbeats 2000000 in
theorem ints04_any (S T : Nat → Prop) (v u : Value) (rs ss : List Int) (w : World) (hv : IntsAt S w v rs) (hu : IntsAt T w u ss) :
    Calls Tryd.prog 22 #[v, u] w fun e w' => e = .returned (.bool (decide (rs = ss))) ∧ Below w.heap.size w w' := by
  have HV := Lib.hid hv
  have HU := Lib.hid hu
  obtain ⟨_, a, cap, rfl, hc, hm, -⟩ := hv
  obtain ⟨_, a2, cap2, rfl, hc2, hm2, -⟩ := hu
  unfold maxLen at hm hm2
  by_cases hl : rs.length = ss.length
  · have HL := Lib.hid hl
    have hl2 : ss.length = rs.length := hl.symm
    rw [hl2] at HU hc2 ⊢
    clear hl hl2
    go_enter Tryd.func22, Tryd.ntmps22
    go_wp2_with fail
    go_loopw [5] (fun i wr => ∃ k : Nat, k ≤ rs.length ∧ i = .int .i64 k ∧ rs.take k = ss.take k ∧ Below w.heap.size w wr) (fun i _ => rs.length - (intOf i).toNat)
    case atStart => exact ⟨0, Nat.zero_le _, rfl, by simp, Below.refl _ _⟩
    case round =>
      obtain ⟨k, hk, rfl, hn, hb⟩ := hrel
      have HN := Lib.hid hn
      have HB := Lib.hid hb
      clear hn hb
      by_cases hlt : k < rs.length
      · obtain ⟨r, hr⟩ : ∃ r, rs[k]? = some r := ⟨rs[k], by simp [hlt]⟩
        obtain ⟨x, hx⟩ : ∃ x, ss[k]? = some x := ⟨ss[k]'(by have := HL.out; omega), by simp⟩
        have HR := Lib.hid hr
        have HX := Lib.hid hx
        obtain ⟨W, hW⟩ : ∃ W : World, W = wr.drew := ⟨_, rfl⟩
        have HBW := Lib.hid (show Below w.heap.size w W by rw [hW]; exact HB.out.drew)
        obtain ⟨b, o, rfl, q0⟩ := ints_at HV.out HBW.out hr
        obtain ⟨b2, o2, rfl, p0⟩ := ints_at (by have := HU.out; rw [HL.out] at this; exact this) HBW.out hx
        clear hr hx
        by_cases hm : r = x
        · have e1 : (r != x) = false := by simp [hm]
          have HT := Lib.hid (show rs.take (k + 1) = ss.take (k + 1) by rw [take_snoc' HR.out, take_snoc' HX.out, HN.out, hm])
          clear hm
          go_wp2_with fail
          refine wp_region_segs [some 9] (by kernel_rfl) (by kernel_rfl) (by kernel_rfl) ?_
          simp only [wpSegs, List.take_succ_cons, List.take_zero, List.drop_succ_cons, List.drop_zero]
          rw [← hW]
          clear hW
          repeat (first | (refine seg_skip rfl ?_; simp only [Act.put, List.setIfInBounds_toArray, List.set_cons_succ, List.set_cons_zero]) | (refine seg_run rfl (fun K hK => ?_); go_simp; refine hK _ ?_; clear hK K))
          refine seg_nil ?_
          go_wp2_with fail
          go_roundw
          case rel => exact ⟨k + 1, by omega, by go_num, HT.out, HBW.out⟩
          case measure => simp [intOf]; omega
        · have e1 : (r != x) = true := by simp [hm]
          have HT := Lib.hid (show decide (rs = ss) = false by
            rw [decide_eq_false_iff_not]
            intro e
            have h1 := HR.out
            rw [e, HX.out] at h1
            exact hm (Option.some.inj h1).symm)
          clear hm
          go_wp2_with fail
          refine wp_region_segs [some 9] (by kernel_rfl) (by kernel_rfl) (by kernel_rfl) ?_
          simp only [wpSegs, List.take_succ_cons, List.take_zero, List.drop_succ_cons, List.drop_zero]
          rw [← hW]
          clear hW
          repeat (first | (refine seg_skip rfl ?_; simp only [Act.put, List.setIfInBounds_toArray, List.set_cons_succ, List.set_cons_zero]) | (refine seg_run rfl (fun K hK => ?_); go_simp; refine hK _ ?_; clear hK K))
          refine seg_nil ?_
          go_wp2_with fail
          go_ret
          exact ⟨ret_bool HT.out.symm, HBW.out⟩
      · obtain rfl : k = rs.length := by omega
        have HT := Lib.hid (show decide (rs = ss) = true by
          have := HN.out
          rw [List.take_of_length_le (Nat.le_refl _), List.take_of_length_le (by rw [HL.out]; exact Nat.le_refl _)] at this
          simp [this])
        go_wp2_with fail
        go_ret
        exact ⟨ret_bool HT.out.symm, HB.out⟩
  · have HT := Lib.hid (show decide (rs = ss) = false by rw [decide_eq_false_iff_not]; intro e; exact hl (by rw [e]))
    have e1 : ((rs.length : Int) != (ss.length : Int)) = true := by simp; omega
    clear hl
    go_enter Tryd.func22, Tryd.ntmps22
    go_wp2_with fail
    go_ret
    exact ⟨ret_bool HT.out.symm, Below.refl _ _⟩

end Go.Proofs.YtndgmcggckpgfaaDoor
