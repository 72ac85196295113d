/- Texts of this proof, one after the other: TdS, TdT, TdU, TdV, ExT, RfC, RefA, RefB, RfD, RfE, RfF, RcT, RfG, RowE, RfS. -/
import Derived.Test.YtdieneaillkbgaaGreatDoorCMergesC
/- Contracts of package treediff: keepAncestors. -/
namespace Go.Proofs.YtdieneaillkbgaaGreatDoor
open Go.RowKit Go.Maps
theorem fldK (p l : ByteArray) (k m t : Int) (v : Value) (w : World) : (Instr.field 48 (.agg #[.string p, .int .i64 k, .int .i64 m, .int .i64 t, v, .string l]) 1).run Tryz.prog w = .ok (.int .i64 k) w := by kernel_rfl
def orK (K0 F : ByteArray → Bool) : ByteArray → Bool := fun q => K0 q || F q
theorem orK_add (K0 F : ByteArray → Bool) (p : ByteArray) : addK (orK K0 F) p = orK K0 (addF F p) := by
  funext q; unfold addK orK addF
  cases K0 q <;> cases F q <;> simp
theorem isDir_kind (o : Option Ent) : isDirO o = decide ((enOr o).kind = 2) := by cases o <;> rfl
def strLen : Value → Nat
  | .string s => s.size
  | _ => 0
theorem bl_back (p : ByteArray) : (⟨(bl p).toArray⟩ : ByteArray) = p := bl_inj (bl_of _)
/-- What keeping the ancestors of an entry leaves. -/
def KeepRes (w0 : World) (zb : Nat) (zo : Obj) (sb xb lb rb qb cb : Nat) (x l r : List Ent) (R0 : Look) (K0 : ByteArray → Bool) (s : List Ent) (e : Ending) (w' : World) : Prop :=
  e = .returned (.tuple #[]) ∧ ∃ F, KInv R0 l s F ∧ MrgI w0 zb zo sb xb lb rb qb cb x l r (fixR R0 l F) (orK K0 F) w'
set_option maxRecDepth 100000 in
set_option maxHeartbeats 4000000 in
theorem keep_any (w0 : World) (zb : Nat) (zo : Obj) (sb xb lb rb qb cb : Nat) (x l r : List Ent) (R0 : Look) (K0 F : ByteArray → Bool) (s : List Ent) (en : Ent) (av : Option Addr) (cv : Nat) (w : World) (hi : MrgI w0 zb zo sb xb lb rb qb cb x l r (fixR R0 l F) (orK K0 F) w) (ha : MrgA w0 zb sb xb lb rb qb cb)
    (hk : KInv R0 l s F) (he : en ∈ l) (hl : TOk l) (henv : Env w0) :
    Calls Tryz.prog 47 #[.pointer (some ⟨sb, 0, none⟩), .agg #[.string en.path, .int .i64 en.kind, .int .i64 en.mode, .int .i64 en.time, .slice av en.data.length cv, .string en.link]] w (KeepRes w0 zb zo sb xb lb rb qb cb x l r R0 K0 (s ++ [en])) := by
  have HI := Lib.hid hi
  have HA := Lib.hid ha
  have HKI := Lib.hid hk
  have HEL := Lib.hid he
  have HTL := Lib.hid hl
  have HE := Lib.hid henv
  have HVP := Lib.hid (vEnt_path (hl.val en he))
  have HP := Lib.hid (show en.path.size ≤ maxLen by rw [size_bl]; have := valid_size (vEnt_path (hl.val en he)); unfold maxLen; omega)
  clear hi ha hk he hl henv
  cases hb : decide (fixR R0 l F en.path = findE l en.path) with
  | false =>
    have HD := Lib.hid hb
    clear hb
    go_enter Tryz.func47, Tryz.ntmps47
    go_upto_region 1 with (fail)
    obtain ⟨W, hW⟩ : ∃ Z : World, Z = w.alloc (.cells #[.string en.path, .int .i64 en.kind, .int .i64 en.mode, .int .i64 en.time, .slice av en.data.length cv, .string en.link] 48) := ⟨_, rfl⟩
    rw [← hW]
    have hbw : Below w.heap.size w W := by rw [hW]; exact (Below.refl _ _).alloc (Nat.le_refl _) _
    have HX := Lib.hid (show W.heap[w.heap.size]? = some (.cells #[.string en.path, .int .i64 en.kind, .int .i64 en.mode, .int .i64 en.time, .slice av en.data.length cv, .string en.link] 48 (0, 0)) by rw [hW]; exact new20 w _)
    have HIW := Lib.hid (HI.out.below hbw)
    clear hW hbw
    obtain ⟨V, hV⟩ : ∃ V : World, V = W.drew := ⟨_, rfl⟩
    have hbv : Below W.heap.size W V := by rw [hV]; exact bel_drew
    have HIV := Lib.hid (HIW.out.below hbv)
    have HXV := Lib.hid ((hbv.block _ (lt20 HX.out)).trans HX.out)
    clear hbv
    refine wp_region_segs [some 10, none, some 1] (by kernel_rfl) (by kernel_rfl) (by kernel_rfl) ?_
    simp only [wpSegs, List.take_succ_cons, List.take_zero, List.drop_succ_cons, List.drop_zero]
    rw [← hV]
    have m0 := cell20 (k := 0) HIV.out.box
    have m1 := cell20 (k := 1) HIV.out.box
    have m2 := cell20 (k := 2) HIV.out.box
    have m3 := cell20 (k := 3) HIV.out.box
    have m4 := cell20 (k := 4) HIV.out.box
    have hltM := lt20 HIV.out.box
    simp only [List.getElem?_toArray, List.getElem?_cons_succ, List.getElem?_cons_zero] at m0 m1 m2 m3 m4
    have p0 := cell20 (k := 0) HXV.out
    have hltP := lt20 HXV.out
    simp only [List.getElem?_toArray, List.getElem?_cons_zero] at p0
    clear hV
    repeat (first | (refine seg_skip rfl ?_; simp only [Act.put, List.setIfInBounds_toArray, List.set_cons_succ, List.set_cons_zero]) | (refine seg_run rfl (fun K hK => ?_); go_simp; refine hK _ ?_; clear hK K))
    refine seg_nil ?_
    refine bar_run rfl (fun K hK => ?_)
    go_wp2_with fail
    refine (equalAt_is (Old w0) (Old w0) qb lb _ _ en.path false _ HIV.out.res HIV.out.left HP.out HD.out).mono ?_
    rintro e w1 ⟨rfl, hb1⟩
    have HI1 := Lib.hid (HIV.out.below hb1)
    have HX1 := Lib.hid ((hb1.block _ (lt20 HXV.out)).trans HXV.out)
    clear hb1 p0 hltP
    clear m0 m1 m2 m3 m4 hltM
    have m0 := cell20 (k := 0) HI1.out.box
    have m1 := cell20 (k := 1) HI1.out.box
    have m2 := cell20 (k := 2) HI1.out.box
    have m3 := cell20 (k := 3) HI1.out.box
    have m4 := cell20 (k := 4) HI1.out.box
    have hltM := lt20 HI1.out.box
    simp only [List.getElem?_toArray, List.getElem?_cons_succ, List.getElem?_cons_zero] at m0 m1 m2 m3 m4
    have p0 := cell20 (k := 0) HX1.out
    have hltP := lt20 HX1.out
    simp only [List.getElem?_toArray, List.getElem?_cons_zero] at p0
    go_wp2_with fail
    repeat (first | (refine seg_skip rfl ?_; simp only [Act.put, List.setIfInBounds_toArray, List.set_cons_succ, List.set_cons_zero]) | (refine seg_run rfl (fun K hK => ?_); go_simp; refine hK _ ?_; clear hK K))
    refine seg_nil ?_
    go_wp2_with fail
    go_end0
    refine ⟨rfl, F, HKI.out.skip HTL.out HEL.out (fun h => ?_), HI1.out⟩
    have := HD.out
    rw [decide_eq_false_iff_not] at this
    exact this (h.trans (findE_mem HTL.out.nodup HEL.out).symm)
  | true =>
    have HD := Lib.hid hb
    clear hb
    have HU0 := Lib.hid (UInv.start HKI.out HEL.out (by have := HD.out; rw [decide_eq_true_eq] at this; exact this.trans (findE_mem HTL.out.nodup HEL.out)))
    go_enter Tryz.func47, Tryz.ntmps47
    go_upto_region 1 with (fail)
    obtain ⟨W, hW⟩ : ∃ Z : World, Z = w.alloc (.cells #[.string en.path, .int .i64 en.kind, .int .i64 en.mode, .int .i64 en.time, .slice av en.data.length cv, .string en.link] 48) := ⟨_, rfl⟩
    rw [← hW]
    have hbw : Below w.heap.size w W := by rw [hW]; exact (Below.refl _ _).alloc (Nat.le_refl _) _
    have HX := Lib.hid (show W.heap[w.heap.size]? = some (.cells #[.string en.path, .int .i64 en.kind, .int .i64 en.mode, .int .i64 en.time, .slice av en.data.length cv, .string en.link] 48 (0, 0)) by rw [hW]; exact new20 w _)
    have HIW := Lib.hid (HI.out.below hbw)
    clear hW hbw
    obtain ⟨V, hV⟩ : ∃ V : World, V = W.drew := ⟨_, rfl⟩
    have hbv : Below W.heap.size W V := by rw [hV]; exact bel_drew
    have HIV := Lib.hid (HIW.out.below hbv)
    have HXV := Lib.hid ((hbv.block _ (lt20 HX.out)).trans HX.out)
    clear hbv
    refine wp_region_segs [some 10, none, some 1] (by kernel_rfl) (by kernel_rfl) (by kernel_rfl) ?_
    simp only [wpSegs, List.take_succ_cons, List.take_zero, List.drop_succ_cons, List.drop_zero]
    rw [← hV]
    have m0 := cell20 (k := 0) HIV.out.box
    have m1 := cell20 (k := 1) HIV.out.box
    have m2 := cell20 (k := 2) HIV.out.box
    have m3 := cell20 (k := 3) HIV.out.box
    have m4 := cell20 (k := 4) HIV.out.box
    have hltM := lt20 HIV.out.box
    simp only [List.getElem?_toArray, List.getElem?_cons_succ, List.getElem?_cons_zero] at m0 m1 m2 m3 m4
    have p0 := cell20 (k := 0) HXV.out
    have hltP := lt20 HXV.out
    simp only [List.getElem?_toArray, List.getElem?_cons_zero] at p0
    clear hV
    repeat (first | (refine seg_skip rfl ?_; simp only [Act.put, List.setIfInBounds_toArray, List.set_cons_succ, List.set_cons_zero]) | (refine seg_run rfl (fun K hK => ?_); go_simp; refine hK _ ?_; clear hK K))
    refine seg_nil ?_
    refine bar_run rfl (fun K hK => ?_)
    go_wp2_with fail
    refine (equalAt_is (Old w0) (Old w0) qb lb _ _ en.path true _ HIV.out.res HIV.out.left HP.out HD.out).mono ?_
    rintro e w1 ⟨rfl, hb1⟩
    have HI1 := Lib.hid (HIV.out.below hb1)
    have HX1 := Lib.hid ((hb1.block _ (lt20 HXV.out)).trans HXV.out)
    clear hb1 p0 hltP
    clear m0 m1 m2 m3 m4 hltM
    have m0 := cell20 (k := 0) HI1.out.box
    have m1 := cell20 (k := 1) HI1.out.box
    have m2 := cell20 (k := 2) HI1.out.box
    have m3 := cell20 (k := 3) HI1.out.box
    have m4 := cell20 (k := 4) HI1.out.box
    have hltM := lt20 HI1.out.box
    simp only [List.getElem?_toArray, List.getElem?_cons_succ, List.getElem?_cons_zero] at m0 m1 m2 m3 m4
    have p0 := cell20 (k := 0) HX1.out
    have hltP := lt20 HX1.out
    simp only [List.getElem?_toArray, List.getElem?_cons_zero] at p0
    go_wp2_with fail
    repeat (first | (refine seg_skip rfl ?_; simp only [Act.put, List.setIfInBounds_toArray, List.set_cons_succ, List.set_cons_zero]) | (refine seg_run rfl (fun K hK => ?_); go_simp; refine hK _ ?_; clear hK K))
    refine seg_nil ?_
    obtain ⟨q0, hq0⟩ : ∃ q, q = (⟨(parentL (bl en.path)).toArray⟩ : ByteArray) := ⟨_, rfl⟩
    have HQ0 := Lib.hid (show bl q0 = parentL (bl en.path) by rw [hq0, bl_of])
    have hpar := parent20 en.path q0 w1 (HE.out.below HI1.out.bel) HVP.out hq0
    clear hq0
    go_wp2_with fail
    refine hpar.mono ?_
    rintro e w2 ⟨rfl, hb2⟩
    have HI2 := Lib.hid (HI1.out.below hb2)
    clear hb2 hpar p0 hltP
    clear m0 m1 m2 m3 m4 hltM
    go_wp2_with fail
    have HU1 := Lib.hid (show UInv R0 l s en F (bl q0) by rw [HQ0.out]; exact HU0.out)
    go_loopw [4] (fun v wr => ∃ (q : ByteArray) (G : ByteArray → Bool), v = .string q ∧ UInv R0 l s en G (bl q) ∧ (bl q = [] ∨ validP (bl q) = true) ∧ MrgI w0 zb zo sb xb lb rb qb cb x l r (fixR R0 l G) (orK K0 G) wr) (fun v _ => strLen v)
    case atStart => exact ⟨q0, F, rfl, HU1.out, by rw [HQ0.out]; by_cases h : parentL (bl en.path) = []; exact Or.inl h; exact Or.inr (parent_valid HVP.out h), HI2.out⟩
    case round =>
      obtain ⟨q, G, rfl, hu, hqv, hi⟩ := hrel
      have HU := Lib.hid hu
      have HI3 := Lib.hid hi
      by_cases hq : bl q = []
      · have e1 : q.toList.isEmpty = true := by rw [str_none, decide_eq_true (show q = ⟨#[]⟩ from bl_inj (hq.trans rfl))]
        have HF := Lib.hid (show KInv R0 l (s ++ [en]) G by have := HU.out; rw [hq] at this; exact this.stop)
        clear hu hi hqv hq
        go_wp2_with fail
        go_end0
        exact ⟨rfl, G, HF.out, HI3.out⟩
      · have e1 : q.toList.isEmpty = false := by rw [str_none, decide_eq_false (show ¬ q = ⟨#[]⟩ from fun h => hq (by rw [h]; rfl))]
        have HQV := Lib.hid (hqv.resolve_left hq)
        have HQN := Lib.hid hq
        have HQP := Lib.hid (show q.size ≤ maxLen by rw [size_bl]; have := valid_size (hqv.resolve_left hq); unfold maxLen; omega)
        have HSHORT := Lib.hid (parent_shorter (hqv.resolve_left hq))
        clear hu hi hqv hq
        obtain ⟨q2, hq2⟩ : ∃ z, z = (⟨(parentL (bl q)).toArray⟩ : ByteArray) := ⟨_, rfl⟩
        have HQ2 := Lib.hid (show bl q2 = parentL (bl q) by rw [hq2, bl_of])
        have HPAR := Lib.hid (fun W (hW : Below w0.heap.size w0 W) => parent20 q q2 W (HE.out.below hW) HQV.out hq2)
        have HPV := Lib.hid (show bl q2 = [] ∨ validP (bl q2) = true by rw [HQ2.out]; by_cases h : parentL (bl q) = []; exact Or.inl h; exact Or.inr (parent_valid HQV.out h))
        clear hq2
        obtain ⟨ao, co, hlk, hdo, hoo, hco⟩ := HI3.out.res.ask1 mapTy (zeroE_run wr) HQP.out
        obtain ⟨g, hg⟩ : ∃ f, f = enOr (fixR R0 l G q) := ⟨_, rfl⟩
        rw [← hg] at hlk
        have HDK := Lib.hid (show isDirO (fixR R0 l G q) = decide (g.kind = 2) by rw [isDir_kind, hg])
        unfold maxLen at hco
        have hfl := fldK
        clear hg hdo hoo
        have m0 := cell20 (k := 0) HI3.out.box
        have m1 := cell20 (k := 1) HI3.out.box
        have m2 := cell20 (k := 2) HI3.out.box
        have m3 := cell20 (k := 3) HI3.out.box
        have m4 := cell20 (k := 4) HI3.out.box
        have hltM := lt20 HI3.out.box
        simp only [List.getElem?_toArray, List.getElem?_cons_succ, List.getElem?_cons_zero] at m0 m1 m2 m3 m4
        by_cases hk2 : g.kind = 2
        · have HU4 := Lib.hid (show UInv R0 l s en G (bl q2) by
            rw [HQ2.out]; exact HU.out.keep HQN.out (by rw [bl_back, HDK.out, decide_eq_true hk2]))
          go_wp2_with fail
          refine (HPAR.out wr HI3.out.bel).mono ?_
          rintro e w4 ⟨rfl, hb4⟩
          have HI4 := Lib.hid (HI3.out.below hb4)
          clear hb4 hlk hfl
          clear m0 m1 m2 m3 m4 hltM
          go_wp2_with fail
          go_roundw
          case rel => exact ⟨q2, G, rfl, HU4.out, HPV.out, HI4.out⟩
          case measure => show q2.size < q.size; rw [size_bl q2, size_bl q, HQ2.out]; exact HSHORT.out
        · have hkn : (g.kind != 2) = true := by simp [hk2]
          obtain ⟨HU4, HR4⟩ : Hid (UInv R0 l s en (addF G q) (bl q2)) ∧ Hid (setL (fixR R0 l G) q (findE l q) = fixR R0 l (addF G q)) := by
            have := HU.out.mend HTL.out HEL.out HQN.out (by rw [bl_back, HDK.out, decide_eq_false hk2])
            rw [bl_back, ← HQ2.out] at this
            exact ⟨Lib.hid this.1, Lib.hid this.2⟩
          clear hk2
          obtain ⟨d, hd⟩ : ∃ d, findE l q = some d := by
            have := left_dir HTL.out HEL.out (HU.out.here HQN.out)
            cases hf : findE l q with
            | none => rw [hf] at this; cases this
            | some d => exact ⟨d, rfl⟩
          have HDE := Lib.hid hd
          clear hd
          go_upto_region 6 with (fail)
          obtain ⟨V, hV⟩ : ∃ V : World, V = wr.drew := ⟨_, rfl⟩
          have hbv : Below wr.heap.size wr V := by rw [hV]; exact bel_drew
          have HIV := Lib.hid (HI3.out.below hbv)
          clear hbv hlk hfl
          clear m0 m1 m2 m3 m4 hltM
          obtain ⟨vd, hlk, hdd, hok⟩ := HIV.out.left.hit mapTy HDE.out false
          have HDP := Lib.hid (HIV.out.left.own HDE.out)
          obtain ⟨w9, hu9, hn9, hg9⟩ := HIV.out.res.put mapTy hdd hok
          rw [HDP.out] at hu9
          have HN9 := Lib.hid hn9
          have HG9 := Lib.hid hg9
          simp only [Bool.false_eq_true, if_false] at hlk
          obtain ⟨ad, cd, rfl, hd1, hd2⟩ := hdd.slice
          unfold entV at hu9 hlk
          rw [HDP.out] at hu9 hlk
          clear hn9 hg9 hdd hok
          refine wp_region_segs [some 11, none] (by kernel_rfl) (by kernel_rfl) (by kernel_rfl) ?_
          simp only [wpSegs, List.take_succ_cons, List.take_zero, List.drop_succ_cons, List.drop_zero]
          rw [← hV]
          have m0 := cell20 (k := 0) HIV.out.box
          have m1 := cell20 (k := 1) HIV.out.box
          have m2 := cell20 (k := 2) HIV.out.box
          have m3 := cell20 (k := 3) HIV.out.box
          have m4 := cell20 (k := 4) HIV.out.box
          have hltM := lt20 HIV.out.box
          simp only [List.getElem?_toArray, List.getElem?_cons_succ, List.getElem?_cons_zero] at m0 m1 m2 m3 m4
          clear hV
          repeat (first | (refine seg_skip rfl ?_; simp only [Act.put, List.setIfInBounds_toArray, List.set_cons_succ, List.set_cons_zero]) | (refine seg_run rfl (fun K hK => ?_); go_simp; refine hK _ ?_; clear hK K))
          refine seg_nil ?_
          refine bar_run rfl (fun K hK => ?_)
          go_upto_region 7 with (fail)
          clear hu9 hlk
          clear m0 m1 m2 m3 m4 hltM
          have HI5 := Lib.hid (show MrgI w0 zb zo sb xb lb rb qb cb x l r (fixR R0 l (addF G q)) (orK K0 G) w9 by
            have := HN9.out
            rw [setL_some HDP.out, ← HDE.out, HR4.out] at this
            exact HIV.out.setR HA.out this HG9.out)
          have m0 := cell20 (k := 0) HI5.out.box
          have m1 := cell20 (k := 1) HI5.out.box
          have m2 := cell20 (k := 2) HI5.out.box
          have m3 := cell20 (k := 3) HI5.out.box
          have m4 := cell20 (k := 4) HI5.out.box
          have hltM := lt20 HI5.out.box
          simp only [List.getElem?_toArray, List.getElem?_cons_succ, List.getElem?_cons_zero] at m0 m1 m2 m3 m4
          have HPUT := Lib.hid (HI5.out.conf.put boolTy HQP.out)
          go_upto_region 4 with (at_mapUpdate; go_must (refine wpList_updRun rfl _ _ _ _ rfl _ _ _ rfl rfl rfl HPUT.out ?_); rintro w6 ⟨hm6, hg6⟩; have HM6 := Lib.hid hm6; have HG6 := Lib.hid hg6; clear hm6 hg6)
          clear m0 m1 m2 m3 m4 hltM
          have HI6 := Lib.hid (HI5.out.setK HA.out HM6.out HG6.out)
          go_wp2_with fail
          refine (HPAR.out w6 HI6.out.bel).mono ?_
          rintro e w4 ⟨rfl, hb4⟩
          have HI7 := Lib.hid ((HI6.out.below hb4).to rfl (orK_add K0 G q))
          clear hb4
          go_wp2_with fail
          go_roundw
          case rel => exact ⟨q2, addF G q, rfl, HU4.out, HPV.out, HI7.out⟩
          case measure => show q2.size < q.size; rw [size_bl q2, size_bl q, HQ2.out]; exact HSHORT.out
end Go.Proofs.YtdieneaillkbgaaGreatDoor

/- Contracts of package treediff: leaveOut. -/
namespace Go.Proofs.YtdieneaillkbgaaGreatDoor
open Go.RowKit Go.Maps
theorem MapR.obj {S : Nat → Prop} {w : World} {mb : Nat} {R : Look} (h : MapR S w mb R) : ∃ o : Obj, w.heap[mb]? = some o ∧ o.isCells = false := by obtain ⟨xs, h, _⟩ := h; exact map_obj h.map
theorem look_in {L : List Ent} {R0 : Look} (hlook : ∀ p, findE L p = R0 p) : ∀ p, p ∈ L.map Ent.path ↔ (R0 p).isSome = true := by
  intro p; rw [← findE_isSome]; unfold hasE; rw [hlook]
def outK2 (K0 : ByteArray → Bool) (R0 : Look) : ByteArray → Bool := fun q => K0 q || ((R0 q).isSome && !allUp R0 q)
set_option maxRecDepth 100000 in
set_option maxHeartbeats 4000000 in
theorem leave_any (w0 : World) (zb : Nat) (zo : Obj) (sb xb lb rb qb cb : Nat) (x l r : List Ent) (R0 : Look) (K0 : ByteArray → Bool) (L : List Ent) (w : World) (hi : MrgI w0 zb zo sb xb lb rb qb cb x l r R0 K0 w) (ha : MrgA w0 zb sb xb lb rb qb cb)
    (hL : SortedE L) (hlook : ∀ p, findE L p = R0 p) (hlen : L.length ≤ 4096) (hv : ∀ e ∈ L, validP (bl e.path) = true) (henv : Env w0) :
    Calls Tryz.prog 48 #[.pointer (some ⟨sb, 0, none⟩)] w fun e w' => e = .returned (.tuple #[]) ∧ MrgI w0 zb zo sb xb lb rb qb cb x l r (outM R0) (outK2 K0 R0) w' := by
  have HI := Lib.hid hi
  have HA := Lib.hid ha
  have HL := Lib.hid hL
  have HLK := Lib.hid hlook
  have HLEN := Lib.hid hlen
  have HV := Lib.hid hv
  have HE := Lib.hid henv
  obtain ⟨ps, hps⟩ : ∃ ps, ps = L.map Ent.path := ⟨_, rfl⟩
  have HPS := Lib.hid (show ps.Pairwise fun a b => cmpL (bl a) (bl b) < 0 by rw [hps]; exact sorted_paths2 hL)
  have HPI := Lib.hid (show ∀ p, p ∈ ps ↔ (R0 p).isSome = true by rw [hps]; exact look_in hlook)
  have HPV := Lib.hid (show ∀ p ∈ ps, validP (bl p) = true by rw [hps]; intro p hp; obtain ⟨e, he, rfl⟩ := List.mem_map.1 hp; exact hv e he)
  have HPE := Lib.hid hps
  clear hi ha hL hlook hlen hv henv hps
  go_enter Tryz.func48, Tryz.ntmps48
  have m0 := cell20 (k := 0) HI.out.box
  have m1 := cell20 (k := 1) HI.out.box
  have m2 := cell20 (k := 2) HI.out.box
  have m3 := cell20 (k := 3) HI.out.box
  have m4 := cell20 (k := 4) HI.out.box
  have hltM := lt20 HI.out.box
  simp only [List.getElem?_toArray, List.getElem?_cons_succ, List.getElem?_cons_zero] at m0 m1 m2 m3 m4
  go_wp2_with fail
  refine (keysE_any (some qb) w).mono ?_
  rintro e w2 ⟨rfl, hc2, hb2, -⟩
  have HC2 := Lib.hid hc2
  have HI2 := Lib.hid (HI.out.below hb2)
  clear hc2 hb2
  clear m0 m1 m2 m3 m4 hltM
  go_wp2_with fail
  obtain ⟨m, ks, hm, hks, hsz, hp⟩ := HI2.out.res.keys HL.out HLK.out
  have hkl : ks.length ≤ 4096 := by have := hp.length_eq; rw [List.length_map] at this; have := HLEN.out; omega
  refine (keysE_sorted m ks ps qb _ w2 hm hks hsz hkl HC2.out (by rw [HPE.out]; exact hp) HPS.out).mono ?_
  rintro e w3 ⟨v3, rfl, ho3, hb3⟩
  clear hm hks hsz hp hkl m ks
  obtain ⟨n, hn⟩ : ∃ n, n = ps.length := ⟨_, rfl⟩
  rw [← hn] at ho3
  have HN := Lib.hid hn
  obtain ⟨a3, c3, rfl, hn3, hm3⟩ := owns_shape ho3
  have HO3 := Lib.hid ho3
  have HI3 := Lib.hid ((HI2.out.below hb3).to (show R0 = outR R0 (ps.take 0) by funext q; unfold outR; rfl) (show K0 = outK K0 R0 (ps.take 0) by funext q; unfold outK hasP; simp))
  unfold maxLen at hm3
  clear ho3 hb3 hn
  go_wp2_with fail
  go_loopw [13] (fun i wr => ∃ k : Nat, k ≤ n ∧ i = .int .i64 k ∧ MrgI w0 zb zo sb xb lb rb qb cb x l r (outR R0 (ps.take k)) (outK K0 R0 (ps.take k)) wr ∧ wr.ownsRow w2.heap.size 9 1 (.slice a3 n c3) n (ps.map Value.string)) (fun i _ => n - (intOf i).toNat)
  case atStart => exact ⟨0, Nat.zero_le _, rfl, HI3.out, HO3.out⟩
  case round =>
    obtain ⟨k, hk, rfl, hi, hrow⟩ := hrel
    have HIR := Lib.hid hi
    have HROW := Lib.hid hrow
    clear hi hrow
    by_cases hlt : k < n
    · obtain ⟨p, hat⟩ : ∃ e, ps[k]? = some e := ⟨ps[k]'(by rw [← HN.out]; exact hlt), by simp⟩
      have HAT := Lib.hid hat
      have hpm := List.mem_of_getElem? hat
      have HVP := Lib.hid (HPV.out p hpm)
      have HSM := Lib.hid ((HPI.out p).1 hpm)
      have HPP := Lib.hid (show p.size ≤ maxLen by rw [size_bl]; have := valid_size (HPV.out p hpm); unfold maxLen; omega)
      have HTK := Lib.hid (show ps.take (k + 1) = ps.take k ++ [p] by rw [List.take_add_one, hat]; rfl)
      obtain ⟨_, a4, c4, he3, _, _, h03⟩ := row_of_owns HROW.out
      simp only [Value.slice.injEq] at he3
      obtain ⟨rfl, -, rfl⟩ := he3
      rcases h03 with h03 | ⟨b, o, rfl, -, hcc⟩
      · omega
      have hcq := hcc k (.string p) (by rw [List.getElem?_map, hat]; rfl)
      clear hat hcc hpm
      obtain ⟨q, hq⟩ : ∃ z, z = (⟨(parentL (bl p)).toArray⟩ : ByteArray) := ⟨_, rfl⟩
      have HQ := Lib.hid (show bl q = parentL (bl p) by rw [hq, bl_of])
      have HQE := Lib.hid hq
      have HPAR := Lib.hid (fun W (hW : Below w0.heap.size w0 W) => parent20 p q W (HE.out.below hW) HVP.out hq)
      clear hq
      go_wp2_with fail
      refine (HPAR.out wr HIR.out.bel).mono ?_
      rintro e w4 ⟨rfl, hb4⟩
      have HI4 := Lib.hid (HIR.out.below hb4)
      have HO4 := Lib.hid (own_below HROW.out hb4)
      clear hb4 hcq
      by_cases hqn : bl q = []
      · have e1 : q.toList.isEmpty = true := by rw [str_none, decide_eq_true (show q = ⟨#[]⟩ from bl_inj (hqn.trans rfl))]
        have HKP := Lib.hid (out_keep (s := ps.take k) K0 HSM.out (by rw [out_step, if_pos (Or.inl (by rw [← HQ.out]; exact hqn))]))
        clear hqn
        go_wp2_with fail
        go_roundw
        case rel => exact ⟨k + 1, by omega, by go_num, HI4.out.to (by rw [HTK.out, HKP.out.1]) (by rw [HTK.out, HKP.out.2]), HO4.out⟩
        case measure => simp [intOf]; omega
      · have e1 : q.toList.isEmpty = false := by rw [str_none, decide_eq_false (show ¬ q = ⟨#[]⟩ from fun h => hqn (by rw [h]; rfl))]
        have hqv : validP (bl q) = true := by rw [HQ.out] at hqn ⊢; exact parent_valid HVP.out hqn
        have HQP := Lib.hid (show q.size ≤ maxLen by rw [size_bl]; have := valid_size hqv; unfold maxLen; omega)
        have hpar := out_par HPS.out HPI.out HAT.out (by rw [← HQ.out]; exact hqn)
        rw [← HQE.out] at hpar
        obtain ⟨ao, co, hlk, hdo, hoo, hco⟩ := HI4.out.res.ask1 mapTy (zeroE_run w4) HQP.out
        obtain ⟨g, hg⟩ : ∃ f, f = enOr (outR R0 (ps.take k) q) := ⟨_, rfl⟩
        rw [← hg] at hlk
        have HDK := Lib.hid (show isDirO (outM R0 q) = decide (g.kind = 2) by rw [← hpar, isDir_kind, hg])
        have HQN := Lib.hid (show ¬ parentL (bl p) = [] by rw [← HQ.out]; exact hqn)
        unfold maxLen at hco
        have hfl := fldK
        clear hg hdo hoo hpar hqn hqv
        have m0 := cell20 (k := 0) HI4.out.box
        have m1 := cell20 (k := 1) HI4.out.box
        have m2 := cell20 (k := 2) HI4.out.box
        have m3 := cell20 (k := 3) HI4.out.box
        have m4 := cell20 (k := 4) HI4.out.box
        have hltM := lt20 HI4.out.box
        simp only [List.getElem?_toArray, List.getElem?_cons_succ, List.getElem?_cons_zero] at m0 m1 m2 m3 m4
        by_cases hk2 : g.kind = 2
        · have HKP := Lib.hid (out_keep (s := ps.take k) K0 HSM.out (by rw [out_step, if_pos (Or.inr (by rw [← HQE.out, HDK.out, decide_eq_true hk2]))]))
          go_wp2_with fail
          go_roundw
          case rel => exact ⟨k + 1, by omega, by go_num, HI4.out.to (by rw [HTK.out, HKP.out.1]) (by rw [HTK.out, HKP.out.2]), HO4.out⟩
          case measure => simp [intOf]; omega
        · have hkn : (g.kind != 2) = true := by simp [hk2]
          have HKD := Lib.hid (out_drop (s := ps.take k) (R0 := R0) (p := p) K0 (by
            rw [out_step, if_neg]
            rintro (h | h)
            · exact HQN.out h
            · rw [← HQE.out, HDK.out, decide_eq_false hk2] at h; cases h))
          clear hk2
          have HDEL := Lib.hid (fun ty => HI4.out.res.del mapTy HPP.out ty)
          go_upto_region 6 with (at_delete; go_must (refine wpList_delRun rfl _ _ _ _ rfl _ _ rfl rfl (HDEL.out _) ?_); rintro w10 ⟨hm3, hg3⟩; have HM3 := Lib.hid hm3; have HG3 := Lib.hid hg3; clear hm3 hg3 hlk hfl)
          clear m0 m1 m2 m3 m4 hltM
          have HI5 := Lib.hid (HI4.out.setR HA.out HM3.out HG3.out)
          have HO5 := Lib.hid (own_turn HO4.out HG3.out (fun r e => by cases e; exact HI4.out.res.obj))
          have HPUT := Lib.hid (HI5.out.conf.put boolTy HPP.out)
          have m0 := cell20 (k := 0) HI5.out.box
          have m1 := cell20 (k := 1) HI5.out.box
          have m2 := cell20 (k := 2) HI5.out.box
          have m3 := cell20 (k := 3) HI5.out.box
          have m4 := cell20 (k := 4) HI5.out.box
          have hltM := lt20 HI5.out.box
          simp only [List.getElem?_toArray, List.getElem?_cons_succ, List.getElem?_cons_zero] at m0 m1 m2 m3 m4
          go_wp2_with (at_mapUpdate; go_must (refine wpList_updRun rfl _ _ _ _ rfl _ _ _ rfl rfl rfl HPUT.out ?_); rintro w6 ⟨hm6, hg6⟩; have HM6 := Lib.hid hm6; have HG6 := Lib.hid hg6; clear hm6 hg6)
          clear m0 m1 m2 m3 m4 hltM
          go_roundw
          case rel =>
            refine ⟨k + 1, by omega, by go_num, (HI5.out.setK HA.out HM6.out HG6.out).to ?_ ?_, own_turn HO5.out HG6.out (fun r e => by cases e; exact HI5.out.conf.obj)⟩
            · rw [HTK.out, HKD.out.1]; rfl
            · rw [HTK.out, HKD.out.2]; rfl
          case measure => simp [intOf]; omega
    · have hk2 : n = k := by omega
      subst hk2
      have HEND := Lib.hid (show MrgI w0 zb zo sb xb lb rb qb cb x l r (outM R0) (outK2 K0 R0) wr by
        have h := HIR.out
        rw [HN.out, List.take_length] at h
        obtain ⟨h1, h2⟩ := out_end HPI.out K0
        exact h.to h1 h2)
      go_wp2_with fail
      go_end0
      exact ⟨rfl, HEND.out⟩
end Go.Proofs.YtdieneaillkbgaaGreatDoor

/- Contracts of package treediff: Merge: what it needs. -/
namespace Go.Proofs.YtdieneaillkbgaaGreatDoor
open Go.RowKit Go.Maps
def mrgChk (x l r : List Ent) : Int := if checkP x ≠ 0 then checkP x else if checkP l ≠ 0 then checkP l else checkP r
/-- What Merge answers. -/
def MergeRes (x l r : List Ent) (w : World) (e : Ending) (w' : World) : Prop :=
  (mrgChk x l r ≠ 0 ∧ e = .returned (.tuple #[.slice none 0 0, .slice none 0 0, .int .i64 (mrgChk x l r)]) ∧ Below w.heap.size w w') ∨
  (mrgChk x l r = 0 ∧ ∃ v vk ys k, e = .returned (.tuple #[v, vk, .int .i64 0]) ∧ IsMerge x l r (ys.map Prod.snd) k ∧ GotE w.heap.size w' v ys ∧ w'.ownsRow w.heap.size 9 1 vk k.length (k.map Value.string) ∧ Below w.heap.size w w')
theorem merge_err {x l r : List Ent} {w w' : World} {n : Int} (h : mrgChk x l r = n) (hn : n ≠ 0) (hb : Below w.heap.size w w') : MergeRes x l r w (.returned (.tuple #[.slice none 0 0, .slice none 0 0, .int .i64 n])) w' :=
  Or.inl ⟨by rw [h]; exact hn, by rw [h], hb⟩
theorem MapR.list {S : Nat → Prop} {w : World} {mb : Nat} {R : Look} (h : MapR S w mb R) : ∃ L, SortedE L ∧ ∀ p, findE L p = R p := by
  obtain ⟨xs, h1, h2⟩ := h
  have hn := h1.nodupE
  exact ⟨sortP (xs.map Prod.snd), sortP_sorted hn, fun p => by rw [← h2]; exact findE_perm (sortP_perm _) (((sortP_perm _).map Ent.path).nodup_iff.2 hn) p⟩
theorem sort_names {ps : List ByteArray} (hn : ps.Nodup) : ∃ M : List ByteArray, ps.Perm M ∧ M.Pairwise fun a b => cmpL (bl a) (bl b) < 0 := by
  have e : (ps.map fun p => ({ noEnt with path := p } : Ent)).map Ent.path = ps := by rw [List.map_map]; exact List.map_id' ps
  have h1 : ((ps.map fun p => ({ noEnt with path := p } : Ent)).map Ent.path).Nodup := by rw [e]; exact hn
  refine ⟨(sortP (ps.map fun p => ({ noEnt with path := p } : Ent))).map Ent.path, ?_, sorted_paths2 (sortP_sorted h1)⟩
  have := (sortP_perm (ps.map fun p => ({ noEnt with path := p } : Ent))).map Ent.path
  rw [e] at this
  exact this.symm
section
variable {x l r : List Ent}
theorem some_in {L : List Ent} {p : ByteArray} (h : findE L p ≠ none) : p ∈ L.map Ent.path := by
  rw [← findE_isSome]; unfold hasE
  cases hf : findE L p with
  | none => exact absurd hf h
  | some f => rfl
theorem mid_in {p : ByteArray} (h : (midM x l r p).isSome = true) : p ∈ (l ++ r).map Ent.path := by
  obtain ⟨e, he⟩ := Option.isSome_iff_exists.1 h
  obtain ⟨h1, h2⟩ := mid_own he
  rw [← h1]
  exact List.mem_map_of_mem (List.mem_append.2 h2)
theorem isK_in (hl : TOk l) {p : ByteArray} (h : isK x l r p = true) : p ∈ (l ++ r).map Ent.path := by
  unfold isK at h
  rw [Bool.or_eq_true, Bool.or_eq_true, Bool.and_eq_true] at h
  rw [List.map_append, List.mem_append]
  rcases h with h | h | h
  · by_cases h1 : findE l p = none
    · right
      refine some_in fun h2 => ?_
      rw [(dec_out (x := x) h1 h2).2] at h; cases h
    · exact Or.inl (some_in h1)
  · unfold fixM needM at h
    rw [Bool.and_eq_true, List.any_eq_true] at h
    obtain ⟨⟨e, he, hx⟩, _⟩ := h
    rw [Bool.and_eq_true] at hx
    have := left_dir hl he hx.2
    exact Or.inl (some_in fun h2 => by rw [h2] at this; cases this)
  · have := mid_in h.1
    rwa [List.map_append, List.mem_append] at this
theorem len_of {L : List Ent} {R : Look} (hL : SortedE L) (hlook : ∀ p, findE L p = R p) {M : List Ent} (hin : ∀ p, (R p).isSome = true → p ∈ M.map Ent.path) : L.length ≤ M.length := by
  have := nodup_length (l := L.map Ent.path) (m := M.map Ent.path) hL.nodup fun p hp => hin p ((look_in hlook p).1 hp)
  simpa using this
theorem is_merge {m : List Ent} {k : List ByteArray} (hm : SortedE m) (hlook : ∀ p, findE m p = outM (midM x l r) p) (hk : k.Pairwise fun a b => cmpL (bl a) (bl b) < 0) (hin : ∀ p, p ∈ k ↔ isK x l r p = true) : IsMerge x l r m k := ⟨hm, hlook, hk, hin⟩
theorem fin_k (x l r : List Ent) : outK2 (orK (confM x l r) (fixM (decM x l r) l)) (midM x l r) = isK x l r := by
  funext q; unfold outK2 orK isK; rw [Bool.or_assoc]
end
/-- The set's names, in some order, each once. -/
theorem SetR.names {w : World} {mb : Nat} {K : ByteArray → Bool} (h : SetR w mb K) : ∃ ps : List ByteArray, MapS Tryz.prog 9 w mb (ps.map boolP) ∧ (∀ p ∈ ps, p.size ≤ maxLen) ∧ (∀ p, p ∈ ps ↔ K p = true) ∧ ps.Nodup := by
  obtain ⟨ps, h1, h2, h3⟩ := h
  have hn := h1.nodup
  rw [List.map_map] at hn
  refine ⟨ps, h1, h2, h3, ?_⟩
  unfold List.Nodup at hn ⊢
  rw [List.pairwise_map] at hn
  exact hn.imp fun h e => h (by rw [e])
end Go.Proofs.YtdieneaillkbgaaGreatDoor

/- Contracts of package treediff: Merge. -/
namespace Go.Proofs.YtdieneaillkbgaaGreatDoor
open Go.RowKit Go.Maps
def ChkUpto (x l r : List Ent) : Nat → Prop
  | 0 => True
  | 1 => checkP x = 0
  | 2 => checkP x = 0 ∧ checkP l = 0
  | _ => checkP x = 0 ∧ checkP l = 0 ∧ checkP r = 0
def seenUp (l r : List Ent) : Nat → List ByteArray
  | 0 => []
  | 1 => [] ++ l.map Ent.path
  | _ => ([] ++ l.map Ent.path) ++ r.map Ent.path
set_option maxRecDepth 100000 in
set_option maxHeartbeats 4000000 in
theorem merge_any (S T U : Nat → Prop) (x l r : List Ent) (vx vl vr : Value) (w : World) (hx : EntsAt S w vx x) (hl : EntsAt T w vl l) (hr : EntsAt U w vr r) (hlen : l.length + r.length ≤ 4096) (henv : Env w) :
  Calls Tryz.prog 19 #[vx, vl, vr] w (MergeRes x l r w) := by
 have HX := Lib.hid (ents_old hx)
 have HL := Lib.hid (ents_old hl)
 have HR := Lib.hid (ents_old hr)
 have HE := Lib.hid henv
 have HLEN := Lib.hid hlen
 obtain ⟨ax, cx, rfl, hcx, hmx, -⟩ := SeqAt.shape hx EntR.len
 obtain ⟨al, cl, rfl, hcl, hml, -⟩ := SeqAt.shape hl EntR.len
 obtain ⟨ar, cr, rfl, hcr, hmr, -⟩ := SeqAt.shape hr EntR.len
 unfold maxLen at hmx hml hmr
 obtain ⟨nx, hnx⟩ : ∃ n, n = x.length := ⟨_, rfl⟩
 obtain ⟨nl, hnl⟩ : ∃ n, n = l.length := ⟨_, rfl⟩
 obtain ⟨nr, hnr⟩ : ∃ n, n = r.length := ⟨_, rfl⟩
 rw [← hnx] at hcx HX hx ⊢
 rw [← hnl] at hcl HL hl ⊢
 rw [← hnr] at hcr HR hr ⊢
 have HNX := Lib.hid hnx
 have HNL := Lib.hid hnl
 have HNR := Lib.hid hnr
 have HCX := Lib.hid (fun W (hW : Below w.heap.size w W) => check_any S x (.slice ax nx cx) W (hx.below hW) (henv.below hW))
 have HCL := Lib.hid (fun W (hW : Below w.heap.size w W) => check_any T l (.slice al nl cl) W (hl.below hW) (henv.below hW))
 have HCR := Lib.hid (fun W (hW : Below w.heap.size w W) => check_any U r (.slice ar nr cr) W (hr.below hW) (henv.below hW))
 clear hx hl hr hlen henv hnx hnl hnr
 go_enter Tryz.func19, Tryz.ntmps19
 go_wp2_with fail
 obtain ⟨w1, hw1⟩ : ∃ Z : World, Z = w.alloc (.cells #[.slice ax nx cx, .slice al nl cl, .slice ar nr cr] 22) := ⟨_, rfl⟩
 rw [← hw1]
 have HB1 := Lib.hid (show Below w.heap.size w w1 by rw [hw1]; exact (Below.refl _ _).alloc (Nat.le_refl _) _)
 have HX1 := Lib.hid (show w1.heap[w.heap.size]? = some (.cells #[.slice ax nx cx, .slice al nl cl, .slice ar nr cr] 22 (0, 0)) by rw [hw1]; exact new20 w _)
 clear hw1
 go_loopw [24] (fun i wr => ∃ k : Nat, k ≤ 3 ∧ i = .int .i64 k ∧ ChkUpto x l r k ∧ wr.heap[w.heap.size]? = some (.cells #[.slice ax nx cx, .slice al nl cl, .slice ar nr cr] 22 (0, 0)) ∧ Below w.heap.size w wr) (fun i _ => 3 - (intOf i).toNat)
 case atStart => exact ⟨0, by omega, rfl, trivial, HX1.out, HB1.out⟩
 case round =>
  obtain ⟨k, hk, rfl, hp, hbx, hbr⟩ := hrel
  have HP := Lib.hid hp
  have HBX := Lib.hid hbx
  have HBR := Lib.hid hbr
  clear hp hbx hbr
  have hk4 : k = 0 ∨ k = 1 ∨ k = 2 ∨ k = 3 := by omega
  rcases hk4 with rfl | rfl | rfl | rfl
  ·skip
   have hcj := (HBX.out.trans rfl : wr.heap[w.heap.size]? = some (.cells #[.slice ax nx cx, .slice al nl cl, .slice ar nr cr] 22 (0, 0)))
   have g0 := cell20 (k := 0) hcj
   have g1 := cell20 (k := 1) hcj
   have g2 := cell20 (k := 2) hcj
   have hltG := lt20 hcj
   simp only [List.getElem?_toArray, List.getElem?_cons_succ, List.getElem?_cons_zero] at g0 g1 g2
   obtain ⟨z, hz⟩ : ∃ z, z = checkP x := ⟨_, rfl⟩
   have hck := HCX.out wr HBR.out
   rw [← hz] at hck
   have HZ := Lib.hid hz
   clear hz hcj
   by_cases hz0 : z = 0
   ·subst hz0
    go_wp2_with fail
    refine hck.mono ?_
    rintro e w2 ⟨rfl, hb2⟩
    have HB2 := Lib.hid (below_next HBR.out hb2)
    have HX2 := Lib.hid ((hb2.block _ (lt20 HBX.out)).trans HBX.out)
    clear hb2 hck g0 g1 g2 hltG
    go_wp2_with fail
    go_roundw
    case rel => exact ⟨0 + 1, by omega, by go_num, HZ.out.symm, HX2.out, HB2.out⟩
    case measure => simp [intOf]
   ·have HM := Lib.hid (show mrgChk x l r = z by
     unfold mrgChk
     have := HP.out
     simp only [ChkUpto] at this
     simp [← HZ.out, hz0])
    have HN0 := Lib.hid hz0
    have e1 : (z != 0) = true := by simp [hz0]
    clear hz0
    go_wp2_with fail
    refine hck.mono ?_
    rintro e w2 ⟨rfl, hb2⟩
    have HB2 := Lib.hid (below_next HBR.out hb2)
    clear hb2 hck g0 g1 g2 hltG
    go_wp2_with fail
    go_ret3
    exact merge_err HM.out HN0.out HB2.out
  ·skip
   have hcj := (HBX.out.trans rfl : wr.heap[w.heap.size]? = some (.cells #[.slice ax nx cx, .slice al nl cl, .slice ar nr cr] 22 (0, 0)))
   have g0 := cell20 (k := 0) hcj
   have g1 := cell20 (k := 1) hcj
   have g2 := cell20 (k := 2) hcj
   have hltG := lt20 hcj
   simp only [List.getElem?_toArray, List.getElem?_cons_succ, List.getElem?_cons_zero] at g0 g1 g2
   obtain ⟨z, hz⟩ : ∃ z, z = checkP l := ⟨_, rfl⟩
   have hck := HCL.out wr HBR.out
   rw [← hz] at hck
   have HZ := Lib.hid hz
   clear hz hcj
   by_cases hz0 : z = 0
   ·subst hz0
    go_wp2_with fail
    refine hck.mono ?_
    rintro e w2 ⟨rfl, hb2⟩
    have HB2 := Lib.hid (below_next HBR.out hb2)
    have HX2 := Lib.hid ((hb2.block _ (lt20 HBX.out)).trans HBX.out)
    clear hb2 hck g0 g1 g2 hltG
    go_wp2_with fail
    go_roundw
    case rel => exact ⟨1 + 1, by omega, by go_num, ⟨HP.out, HZ.out.symm⟩, HX2.out, HB2.out⟩
    case measure => simp [intOf]
   ·have HM := Lib.hid (show mrgChk x l r = z by
     unfold mrgChk
     have := HP.out
     simp only [ChkUpto] at this
     simp [this, ← HZ.out, hz0])
    have HN0 := Lib.hid hz0
    have e1 : (z != 0) = true := by simp [hz0]
    clear hz0
    go_wp2_with fail
    refine hck.mono ?_
    rintro e w2 ⟨rfl, hb2⟩
    have HB2 := Lib.hid (below_next HBR.out hb2)
    clear hb2 hck g0 g1 g2 hltG
    go_wp2_with fail
    go_ret3
    exact merge_err HM.out HN0.out HB2.out
  ·skip
   have hcj := (HBX.out.trans rfl : wr.heap[w.heap.size]? = some (.cells #[.slice ax nx cx, .slice al nl cl, .slice ar nr cr] 22 (0, 0)))
   have g0 := cell20 (k := 0) hcj
   have g1 := cell20 (k := 1) hcj
   have g2 := cell20 (k := 2) hcj
   have hltG := lt20 hcj
   simp only [List.getElem?_toArray, List.getElem?_cons_succ, List.getElem?_cons_zero] at g0 g1 g2
   obtain ⟨z, hz⟩ : ∃ z, z = checkP r := ⟨_, rfl⟩
   have hck := HCR.out wr HBR.out
   rw [← hz] at hck
   have HZ := Lib.hid hz
   clear hz hcj
   by_cases hz0 : z = 0
   ·subst hz0
    go_wp2_with fail
    refine hck.mono ?_
    rintro e w2 ⟨rfl, hb2⟩
    have HB2 := Lib.hid (below_next HBR.out hb2)
    have HX2 := Lib.hid ((hb2.block _ (lt20 HBX.out)).trans HBX.out)
    clear hb2 hck g0 g1 g2 hltG
    go_wp2_with fail
    go_roundw
    case rel => exact ⟨2 + 1, by omega, by go_num, ⟨HP.out.1, HP.out.2, HZ.out.symm⟩, HX2.out, HB2.out⟩
    case measure => simp [intOf]
   ·have HM := Lib.hid (show mrgChk x l r = z by
     unfold mrgChk
     have := HP.out
     simp only [ChkUpto] at this
     simp [this, ← HZ.out])
    have HN0 := Lib.hid hz0
    have e1 : (z != 0) = true := by simp [hz0]
    clear hz0
    go_wp2_with fail
    refine hck.mono ?_
    rintro e w2 ⟨rfl, hb2⟩
    have HB2 := Lib.hid (below_next HBR.out hb2)
    clear hb2 hck g0 g1 g2 hltG
    go_wp2_with fail
    go_ret3
    exact merge_err HM.out HN0.out HB2.out
  ·skip
   have HTX := Lib.hid (checkP_iff.1 HP.out.1)
   have HTL := Lib.hid (checkP_iff.1 HP.out.2.1)
   have HTR := Lib.hid (checkP_iff.1 HP.out.2.2)
   have HM0 := Lib.hid (show mrgChk x l r = 0 by unfold mrgChk; simp [HP.out.1, HP.out.2.1, HP.out.2.2])
   clear hk
   go_wp2_with fail
   refine (byPath_any (Old w) x _ wr (HX.out.below HBR.out) HTX.out.nodup HTX.out.len).mono ?_
   rintro e w2 ⟨rfl, hm2, hb2⟩
   have HM2 := Lib.hid (hm2.mono (S' := Old w) (fun k hk => hk.1) (old_new HBR.out.size))
   have HB2 := Lib.hid (below_next HBR.out hb2)
   have HS2 := Lib.hid hm2.lt
   clear hm2 hb2
   go_wp2_with fail
   refine (byPath_any (Old w) l _ w2 (HL.out.below HB2.out) HTL.out.nodup HTL.out.len).mono ?_
   rintro e w3 ⟨rfl, hm3, hb3⟩
   have HM3 := Lib.hid (hm3.mono (S' := Old w) (fun k hk => hk.1) (old_new HB2.out.size))
   have HB3 := Lib.hid (below_next HB2.out hb3)
   have HM23 := Lib.hid (HM2.out.below hb3)
   have HS3 := Lib.hid hm3.lt
   clear hm3 hb3
   go_wp2_with fail
   refine (byPath_any (Old w) r _ w3 (HR.out.below HB3.out) HTR.out.nodup HTR.out.len).mono ?_
   rintro e w4 ⟨rfl, hm4, hb4⟩
   have HM4 := Lib.hid (hm4.mono (S' := Old w) (fun k hk => hk.1) (old_new HB3.out.size))
   have HB4 := Lib.hid (below_next HB3.out hb4)
   have HM24 := Lib.hid (HM23.out.below hb4)
   have HM34 := Lib.hid (HM3.out.below hb4)
   have HS4 := Lib.hid hm4.lt
   clear hm4 hb4 HM2 HM3 HM23
   have hmk1 := make_mapE0
   have hmk2 := make_set
   go_upto_region 9 with (fail)
   clear hmk1 hmk2
   obtain ⟨xb, hxb⟩ : ∃ b, b = wr.heap.size := ⟨_, rfl⟩
   obtain ⟨lb, hlb⟩ : ∃ b, b = w2.heap.size := ⟨_, rfl⟩
   obtain ⟨rb, hrb⟩ : ∃ b, b = w3.heap.size := ⟨_, rfl⟩
   obtain ⟨qb, hqb⟩ : ∃ b, b = w4.heap.size := ⟨_, rfl⟩
   have HORD := Lib.hid (show w.heap.size ≤ xb ∧ xb < lb ∧ lb < rb ∧ rb < qb by have h1 := HBR.out.size; have h2 := HS2.out; have h3 := HS3.out; have h4 := HS4.out; omega)
   rw [← hxb] at HM24 ⊢
   rw [← hlb] at HM34 ⊢
   rw [← hrb] at HM4 ⊢
   obtain ⟨w5, hw5⟩ : ∃ Z : World, Z = (w4.alloc (.map #[] 0)).alloc (.map #[] 0) := ⟨_, rfl⟩
   have hb5a : Below w4.heap.size w4 (w4.alloc (.map #[] 0)) := (Below.refl _ _).alloc (Nat.le_refl _) _
   have hb5b : Below (w4.alloc (.map #[] 0)).heap.size (w4.alloc (.map #[] 0)) w5 := by rw [hw5]; exact (Below.refl _ _).alloc (Nat.le_refl _) _
   have hb5 := below_next hb5a hb5b
   have hz5 : w5.heap.size = qb + 2 := by rw [hw5, hqb]; simp
   obtain ⟨w6, hw6⟩ : ∃ Z : World, Z = w5.alloc (.cells #[.map (some xb), .map (some lb), .map (some rb), .map (some w4.heap.size), .map (some (w4.heap.size + 1))] 78) := ⟨_, rfl⟩
   have hb6 : Below w5.heap.size w5 w6 := by rw [hw6]; exact (Below.refl _ _).alloc (Nat.le_refl _) _
   have hz6 : w6.heap.size = qb + 3 := by rw [hw6, World.size_alloc, hz5]
   have hbox6 : w6.heap[qb + 2]? = some (.cells #[.map (some xb), .map (some lb), .map (some rb), .map (some qb), .map (some (qb + 1))] 78 (0, 0)) := by rw [hw6, ← hz5, hqb]; exact new20 w5 _
   rw [← hw5, ← hw6]
   have hcb6 : SetR w6 (qb + 1) (fun _ => false) := by
    have h1 := SetR.made (w4.alloc (.map #[] 0))
    rw [show (w4.alloc (.map #[] 0)).heap.size = qb + 1 by rw [hqb]; simp] at h1
    rw [hw6]
    rw [← hw5] at h1
    exact h1.below ((Below.refl _ _).alloc (Nat.le_refl _) _)
   have hqb6 : MapR (Old w) w6 qb (fun _ => none) := by
    have h1 := MapR.made (Old w) w4 (old_new HB4.out.size)
    rw [← hqb] at h1
    exact (h1.below hb5b).below hb6
   have hb46 := below_next hb5 hb6
   obtain ⟨sb, hsb⟩ : ∃ b, b = qb + 2 := ⟨_, rfl⟩
   obtain ⟨cb, hcb⟩ : ∃ b, b = qb + 1 := ⟨_, rfl⟩
   obtain ⟨zb, hzb⟩ : ∃ b, b = qb + 3 := ⟨_, rfl⟩
   obtain ⟨zo, hzo⟩ : ∃ o : Obj, o = .cells #[.slice al nl cl, .slice ar nr cr] 22 (0, 0) := ⟨_, rfl⟩
   rw [← hcb, ← hsb] at hbox6
   rw [← hcb] at hcb6
   have HPRE := Lib.hid (show w6.heap[sb]? = some (.cells #[.map (some xb), .map (some lb), .map (some rb), .map (some qb), .map (some cb)] 78 (0, 0)) ∧ SetR w6 cb (fun _ => false) ∧ MapR (Old w) w6 qb (fun _ => none) ∧ Below w.heap.size w w6 from ⟨hbox6, hcb6, hqb6, below_next HB4.out hb46⟩)
   have HPRM := Lib.hid (show MapR (Old w) w6 xb (findE x) ∧ MapR (Old w) w6 lb (findE l) ∧ MapR (Old w) w6 rb (findE r) from ⟨HM24.out.below hb46, HM34.out.below hb46, HM4.out.below hb46⟩)
   have HA := Lib.hid (show MrgA w zb sb xb lb rb qb cb by
    have h := HORD.out
    exact ⟨by omega, by omega, by omega, by omega, by omega, by omega, by omega, by omega, by omega, by omega, by omega, by omega, by omega⟩)
   rw [show w4.heap.size + 1 + 1 = sb by omega]
   have HZ6 := Lib.hid (show w6.heap.size = zb by omega)
   clear hw5 hb5a hb5b hb5 hz5 hw6 hb6 hz6 hbox6 hcb6 hqb6 hb46 hxb hlb hrb hqb hsb hcb hzb HM24 HM34 HM4 HS2 HS3 HS4 HB2 HB3 HB4
   go_wp2_with fail
   obtain ⟨w7, hw7⟩ : ∃ Z : World, Z = w6.alloc (.cells #[.slice al nl cl, .slice ar nr cr] 22) := ⟨_, rfl⟩
   rw [← hw7]
   have hb7 : Below w6.heap.size w6 w7 := by rw [hw7]; exact (Below.refl _ _).alloc (Nat.le_refl _) _
   have HI7 := Lib.hid (show MrgI w zb zo sb xb lb rb qb cb x l r (seenR x l r (seenUp l r 0)) (seenK x l r (seenUp l r 0)) w7 from
    ⟨(hb7.block _ (lt20 HPRE.out.1)).trans HPRE.out.1, HPRM.out.1.below hb7, HPRM.out.2.1.below hb7, HPRM.out.2.2.below hb7, HPRE.out.2.2.1.below hb7, HPRE.out.2.1.below hb7, (by rw [hw7, hzo, ← HZ6.out]; exact new20 w6 _), below_next HPRE.out.2.2.2 hb7⟩)
   rw [HZ6.out]
   clear hw7 hb7 HPRE HPRM
   subst hzo
   go_loopw [48] (fun i wr => ∃ k : Nat, k ≤ 2 ∧ i = .int .i64 k ∧ MrgI w zb (.cells #[.slice al nl cl, .slice ar nr cr] 22 (0, 0)) sb xb lb rb qb cb x l r (seenR x l r (seenUp l r k)) (seenK x l r (seenUp l r k)) wr) (fun i _ => 2 - (intOf i).toNat)
   case atStart => exact ⟨0, by omega, rfl, HI7.out⟩
   case round =>
    obtain ⟨k, hk, rfl, hi⟩ := hrel
    have HI := Lib.hid hi
    clear hi
    have hk3 : k = 0 ∨ k = 1 ∨ k = 2 := by omega
    rcases hk3 with rfl | rfl | rfl
    ·skip
     rw [show (((0 : Nat) : Int)) = (0 : Int) from rfl]
     have hcj := HI.out.zed
     have g0 := cell20 (k := 0) hcj
     have g1 := cell20 (k := 1) hcj
     have hltG := lt20 hcj
     simp only [List.getElem?_toArray, List.getElem?_cons_succ, List.getElem?_cons_zero] at g0 g1
     clear hcj
     go_wp2_with fail
     clear g0 g1 hltG
     obtain ⟨wo, rfl⟩ : ∃ wo : World, wo = wr := ⟨_, rfl⟩
     have HI0 := Lib.hid (show MrgI w zb (.cells #[.slice al nl cl, .slice ar nr cr] 22 (0, 0)) sb xb lb rb qb cb x l r (seenR x l r ([] ++ (l.take 0).map Ent.path)) (seenK x l r ([] ++ (l.take 0).map Ent.path)) wo by
      rw [List.take_zero, List.map_nil, List.append_nil]; exact HI.out)
     clear HI
     go_loopw [54] (fun i wr => ∃ j : Nat, j ≤ nl ∧ i = .int .i64 j ∧ MrgI w zb (.cells #[.slice al nl cl, .slice ar nr cr] 22 (0, 0)) sb xb lb rb qb cb x l r (seenR x l r ([] ++ (l.take j).map Ent.path)) (seenK x l r ([] ++ (l.take j).map Ent.path)) wr) (fun i _ => nl - (intOf i).toNat)
     case atStart => exact ⟨0, Nat.zero_le _, rfl, HI0.out⟩
     case round =>
      obtain ⟨j, hj, rfl, hi⟩ := hrel
      have HI := Lib.hid hi
      clear hi
      by_cases hlt : j < nl
      ·obtain ⟨e, he⟩ : ∃ e, l[j]? = some e := ⟨l[j]'(by rw [← HNL.out]; exact hlt), by simp⟩
       have HSN := Lib.hid (show [] ++ (l.take (j + 1)).map Ent.path = ([] ++ (l.take j).map Ent.path) ++ [e.path] by rw [List.take_add_one, he, List.map_append, List.append_assoc]; rfl)
       obtain ⟨b0, o0, dv, rfl, -, hb0, hd, hok, -, q0, q1, q2, q3, q4, q5⟩ := ents_at (HL.out.below HI.out.bel) he
       have HAT := Lib.hid he
       have HOK := Lib.hid hok
       obtain ⟨a1, cap1, rfl, hd1, hd2⟩ := hd.slice
       unfold maxLen at hd2
       clear he hd hok
       go_upto_region 15 with (fail)
       obtain ⟨W, hW⟩ : ∃ W : World, W = wr.alloc (.cells #[.string e.path, .int .i64 e.kind, .int .i64 e.mode, .int .i64 e.time, .slice a1 e.data.length cap1, .string e.link] 48) := ⟨_, rfl⟩
       rw [← hW]
       have HW := Lib.hid (show Below wr.heap.size wr W by rw [hW]; exact (Below.refl _ _).alloc (Nat.le_refl _) _)
       have HXW := Lib.hid (show W.heap[wr.heap.size]? = some (.cells #[.string e.path, .int .i64 e.kind, .int .i64 e.mode, .int .i64 e.time, .slice a1 e.data.length cap1, .string e.link] 48 (0, 0)) by rw [hW]; exact new20 wr _)
       clear hW q0 q1 q2 q3 q4 q5
       have c0 := cell20 (k := 0) HXW.out
       have c1 := cell20 (k := 1) HXW.out
       have c2 := cell20 (k := 2) HXW.out
       have c3 := cell20 (k := 3) HXW.out
       have c4 := cell20 (k := 4) HXW.out
       have c5 := cell20 (k := 5) HXW.out
       have hltX := lt20 HXW.out
       simp only [List.getElem?_toArray, List.getElem?_cons_succ, List.getElem?_cons_zero] at c0 c1 c2 c3 c4 c5
       have HIW := Lib.hid (HI.out.below HW.out)
       go_wp2_with fail
       refine (decide_any w zb _ sb xb lb rb qb cb x l r _ _ e.path W HIW.out HA.out HOK.out.pth).mono ?_
       rintro e9 w9 ⟨rfl, hi9⟩
       have HI9 := Lib.hid (hi9.to (seenR_step x l r _ e.path) (show confK _ _ _ = seenK x l r (([] ++ (l.take j).map Ent.path) ++ [e.path]) by funext q; rw [seenK_step]; rfl))
       clear hi9 c0 c1 c2 c3 c4 c5 hltX
       go_wp2_with fail
       go_roundw
       case rel => exact ⟨j + 1, by omega, by go_num, by rw [HSN.out]; exact HI9.out⟩
       case measure => simp [intOf]; omega
      ·have hj2 : nl = j := by omega
       have HEND := Lib.hid (show MrgI w zb (.cells #[.slice al nl cl, .slice ar nr cr] 22 (0, 0)) sb xb lb rb qb cb x l r (seenR x l r (seenUp l r 1)) (seenK x l r (seenUp l r 1)) wr by
        have h := HI.out
        rw [← hj2] at h
        have e : l.take nl = l := by rw [HNL.out, List.take_length]
        rw [e] at h
        exact h)
       go_wp2_with fail
       go_roundw
       case rel => exact ⟨0 + 1, by omega, by go_num, HEND.out⟩
       case measure => simp [intOf]
    ·skip
     rw [show (((1 : Nat) : Int)) = (1 : Int) from rfl]
     have hcj := HI.out.zed
     have g0 := cell20 (k := 0) hcj
     have g1 := cell20 (k := 1) hcj
     have hltG := lt20 hcj
     simp only [List.getElem?_toArray, List.getElem?_cons_succ, List.getElem?_cons_zero] at g0 g1
     clear hcj
     go_wp2_with fail
     clear g0 g1 hltG
     obtain ⟨wo, rfl⟩ : ∃ wo : World, wo = wr := ⟨_, rfl⟩
     have HI0 := Lib.hid (show MrgI w zb (.cells #[.slice al nl cl, .slice ar nr cr] 22 (0, 0)) sb xb lb rb qb cb x l r (seenR x l r ((seenUp l r 1) ++ (r.take 0).map Ent.path)) (seenK x l r ((seenUp l r 1) ++ (r.take 0).map Ent.path)) wo by
      rw [List.take_zero, List.map_nil, List.append_nil]; exact HI.out)
     clear HI
     go_loopw [54] (fun i wr => ∃ j : Nat, j ≤ nr ∧ i = .int .i64 j ∧ MrgI w zb (.cells #[.slice al nl cl, .slice ar nr cr] 22 (0, 0)) sb xb lb rb qb cb x l r (seenR x l r ((seenUp l r 1) ++ (r.take j).map Ent.path)) (seenK x l r ((seenUp l r 1) ++ (r.take j).map Ent.path)) wr) (fun i _ => nr - (intOf i).toNat)
     case atStart => exact ⟨0, Nat.zero_le _, rfl, HI0.out⟩
     case round =>
      obtain ⟨j, hj, rfl, hi⟩ := hrel
      have HI := Lib.hid hi
      clear hi
      by_cases hlt : j < nr
      ·obtain ⟨e, he⟩ : ∃ e, r[j]? = some e := ⟨r[j]'(by rw [← HNR.out]; exact hlt), by simp⟩
       have HSN := Lib.hid (show (seenUp l r 1) ++ (r.take (j + 1)).map Ent.path = ((seenUp l r 1) ++ (r.take j).map Ent.path) ++ [e.path] by rw [List.take_add_one, he, List.map_append, List.append_assoc]; rfl)
       obtain ⟨b0, o0, dv, rfl, -, hb0, hd, hok, -, q0, q1, q2, q3, q4, q5⟩ := ents_at (HR.out.below HI.out.bel) he
       have HAT := Lib.hid he
       have HOK := Lib.hid hok
       obtain ⟨a1, cap1, rfl, hd1, hd2⟩ := hd.slice
       unfold maxLen at hd2
       clear he hd hok
       go_upto_region 15 with (fail)
       obtain ⟨W, hW⟩ : ∃ W : World, W = wr.alloc (.cells #[.string e.path, .int .i64 e.kind, .int .i64 e.mode, .int .i64 e.time, .slice a1 e.data.length cap1, .string e.link] 48) := ⟨_, rfl⟩
       rw [← hW]
       have HW := Lib.hid (show Below wr.heap.size wr W by rw [hW]; exact (Below.refl _ _).alloc (Nat.le_refl _) _)
       have HXW := Lib.hid (show W.heap[wr.heap.size]? = some (.cells #[.string e.path, .int .i64 e.kind, .int .i64 e.mode, .int .i64 e.time, .slice a1 e.data.length cap1, .string e.link] 48 (0, 0)) by rw [hW]; exact new20 wr _)
       clear hW q0 q1 q2 q3 q4 q5
       have c0 := cell20 (k := 0) HXW.out
       have c1 := cell20 (k := 1) HXW.out
       have c2 := cell20 (k := 2) HXW.out
       have c3 := cell20 (k := 3) HXW.out
       have c4 := cell20 (k := 4) HXW.out
       have c5 := cell20 (k := 5) HXW.out
       have hltX := lt20 HXW.out
       simp only [List.getElem?_toArray, List.getElem?_cons_succ, List.getElem?_cons_zero] at c0 c1 c2 c3 c4 c5
       have HIW := Lib.hid (HI.out.below HW.out)
       go_wp2_with fail
       refine (decide_any w zb _ sb xb lb rb qb cb x l r _ _ e.path W HIW.out HA.out HOK.out.pth).mono ?_
       rintro e9 w9 ⟨rfl, hi9⟩
       have HI9 := Lib.hid (hi9.to (seenR_step x l r _ e.path) (show confK _ _ _ = seenK x l r (((seenUp l r 1) ++ (r.take j).map Ent.path) ++ [e.path]) by funext q; rw [seenK_step]; rfl))
       clear hi9 c0 c1 c2 c3 c4 c5 hltX
       go_wp2_with fail
       go_roundw
       case rel => exact ⟨j + 1, by omega, by go_num, by rw [HSN.out]; exact HI9.out⟩
       case measure => simp [intOf]; omega
      ·have hj2 : nr = j := by omega
       have HEND := Lib.hid (show MrgI w zb (.cells #[.slice al nl cl, .slice ar nr cr] 22 (0, 0)) sb xb lb rb qb cb x l r (seenR x l r (seenUp l r 2)) (seenK x l r (seenUp l r 2)) wr by
        have h := HI.out
        rw [← hj2] at h
        have e : r.take nr = r := by rw [HNR.out, List.take_length]
        rw [e] at h
        exact h)
       go_wp2_with fail
       go_roundw
       case rel => exact ⟨1 + 1, by omega, by go_num, HEND.out⟩
       case measure => simp [intOf]
    ·skip
     rw [show (((2 : Nat) : Int)) = (2 : Int) from rfl]
     have HI4 := Lib.hid (HI.out.to (seen_end (x := x) (l := l) (r := r) (s := seenUp l r 2) (fun q hq => List.mem_append.2 hq)).1 (seen_end (x := x) (l := l) (r := r) (s := seenUp l r 2) (fun q hq => List.mem_append.2 hq)).2)
     have HI5 := Lib.hid (HI4.out.to (show decM x l r = fixR (decM x l r) l (fun _ => false) by funext q; unfold fixR; simp) (show confM x l r = orK (confM x l r) (fun _ => false) by funext q; unfold orK; simp))
     clear HI HI4 HI7
     obtain ⟨zo, hzo⟩ : ∃ o : Obj, o = .cells #[.slice al nl cl, .slice ar nr cr] 22 (0, 0) := ⟨_, rfl⟩
     rw [← hzo] at HI5
     clear hzo
     go_wp2_with fail
     obtain ⟨wo, rfl⟩ : ∃ wo : World, wo = wr := ⟨_, rfl⟩
     go_loopw [66] (fun i wr => ∃ (k : Nat) (F : ByteArray → Bool), k ≤ nl ∧ i = .int .i64 k ∧ KInv (decM x l r) l (l.take k) F ∧ MrgI w zb zo sb xb lb rb qb cb x l r (fixR (decM x l r) l F) (orK (confM x l r) F) wr) (fun i _ => nl - (intOf i).toNat)
     case atStart => exact ⟨0, _, Nat.zero_le _, rfl, KInv.nil _ _, HI5.out⟩
     case round =>
      obtain ⟨k, F, hk, rfl, hki, hi⟩ := hrel
      have HK := Lib.hid hki
      have HI := Lib.hid hi
      clear hki hi
      by_cases hlt : k < nl
      ·obtain ⟨e, he⟩ : ∃ e, l[k]? = some e := ⟨l[k]'(by rw [← HNL.out]; exact hlt), by simp⟩
       have HEL := Lib.hid (List.mem_of_getElem? he)
       have HTK := Lib.hid (show l.take (k + 1) = l.take k ++ [e] by rw [List.take_add_one, he]; rfl)
       obtain ⟨b0, o0, dv, rfl, -, hb0, hd, hok, -, q0, q1, q2, q3, q4, q5⟩ := ents_at (HL.out.below HI.out.bel) he
       have HAT := Lib.hid he
       have HOK := Lib.hid hok
       obtain ⟨a1, cap1, rfl, hd1, hd2⟩ := hd.slice
       unfold maxLen at hd2
       clear he hd hok
       go_upto_region 21 with (fail)
       obtain ⟨W, hW⟩ : ∃ W : World, W = wr.alloc (.cells #[.string e.path, .int .i64 e.kind, .int .i64 e.mode, .int .i64 e.time, .slice a1 e.data.length cap1, .string e.link] 48) := ⟨_, rfl⟩
       rw [← hW]
       have HW := Lib.hid (show Below wr.heap.size wr W by rw [hW]; exact (Below.refl _ _).alloc (Nat.le_refl _) _)
       have HXW := Lib.hid (show W.heap[wr.heap.size]? = some (.cells #[.string e.path, .int .i64 e.kind, .int .i64 e.mode, .int .i64 e.time, .slice a1 e.data.length cap1, .string e.link] 48 (0, 0)) by rw [hW]; exact new20 wr _)
       clear hW q0 q1 q2 q3 q4 q5
       have c0 := cell20 (k := 0) HXW.out
       have c1 := cell20 (k := 1) HXW.out
       have c2 := cell20 (k := 2) HXW.out
       have c3 := cell20 (k := 3) HXW.out
       have c4 := cell20 (k := 4) HXW.out
       have c5 := cell20 (k := 5) HXW.out
       have hltX := lt20 HXW.out
       simp only [List.getElem?_toArray, List.getElem?_cons_succ, List.getElem?_cons_zero] at c0 c1 c2 c3 c4 c5
       have HIW := Lib.hid (HI.out.below HW.out)
       go_wp2_with fail
       refine (keep_any w zb zo sb xb lb rb qb cb x l r (decM x l r) (confM x l r) F (l.take k) e a1 cap1 W HIW.out HA.out HK.out HEL.out HTL.out HE.out).mono ?_
       rintro e9 w9 ⟨rfl, F9, hk9, hi9⟩
       have HK9 := Lib.hid hk9
       have HI9 := Lib.hid hi9
       clear hk9 hi9 c0 c1 c2 c3 c4 c5 hltX
       go_wp2_with fail
       go_roundw
       case rel => exact ⟨k + 1, F9, by omega, by go_num, by rw [HTK.out]; exact HK9.out, HI9.out⟩
       case measure => simp [intOf]; omega
      ·have hk2 : nl = k := by omega
       have HKE := Lib.hid (show F = fixM (decM x l r) l by
        have h := HK.out
        rw [← hk2, show l.take nl = l by rw [HNL.out, List.take_length]] at h
        exact h.fin)
       have HI6 := Lib.hid (HI.out.to (show fixR (decM x l r) l F = midM x l r by rw [HKE.out]; rfl) (show orK (confM x l r) F = orK (confM x l r) (fixM (decM x l r) l) by rw [HKE.out]))
       clear hk hlt HI HK HKE
       subst hk2
       obtain ⟨L, hL1, hL2⟩ := HI6.out.res.list
       have hLl := len_of hL1 hL2 (M := l ++ r) (fun p hp => mid_in hp)
       rw [List.length_append] at hLl
       have hLv : ∀ e ∈ L, validP (bl e.path) = true := fun e he => by
        have h1 := findE_mem hL1.nodup he
        rw [hL2] at h1
        rcases (mid_own h1).2 with h | h
        ·exact vEnt_path (HTL.out.val e h)
        ·exact vEnt_path (HTR.out.val e h)
       have HLV := Lib.hid (leave_any w zb zo sb xb lb rb qb cb x l r (midM x l r) (orK (confM x l r) (fixM (decM x l r) l)) L wr HI6.out HA.out hL1 hL2 (by have := HLEN.out; omega) hLv HE.out)
       clear hL1 hL2 hLl hLv
       go_wp2_with fail
       refine HLV.out.mono ?_
       rintro e9 w9 ⟨rfl, hi9⟩
       have HI9 := Lib.hid (hi9.to rfl (fin_k x l r))
       clear hi9
       obtain ⟨nn, hnn, hln⟩ := HI9.out.res.len (ps := (l ++ r).map Ent.path) (fun p hp => mid_in (by
        unfold outM at hp
        split at hp
        ·exact hp
        ·cases hp)) mapTy 3
       rw [List.length_map, List.length_append] at hnn
       have HLN := HLEN.out
       have m0 := cell20 (k := 0) HI9.out.box
       have m1 := cell20 (k := 1) HI9.out.box
       have m2 := cell20 (k := 2) HI9.out.box
       have m3 := cell20 (k := 3) HI9.out.box
       have m4 := cell20 (k := 4) HI9.out.box
       have hltM := lt20 HI9.out.box
       simp only [List.getElem?_toArray, List.getElem?_cons_succ, List.getElem?_cons_zero] at m0 m1 m2 m3 m4
       have hn4 : nn ≤ 4096 := by omega
       go_upto_region 26 with (fail)
       clear hln
       clear m0 m1 m2 m3 m4 hltM
       obtain ⟨M, hM1, hM2⟩ := HI9.out.res.list
       have HMS := Lib.hid hM1
       have HML := Lib.hid hM2
       have hMo : ∀ e ∈ M, e ∈ l ∨ e ∈ r := fun e he => by
        have h1 := findE_mem hM1.nodup he
        rw [hM2] at h1
        unfold outM at h1
        split at h1
        ·exact (mid_own h1).2
        ·cases h1
       have HMN := Lib.hid (show M.length ≤ 4096 by
        have := len_of hM1 hM2 (M := l ++ r) (fun p hp => mid_in (by
         unfold outM at hp
         split at hp
         ·exact hp
         ·cases hp))
        rw [List.length_append] at this
        have := HLEN.out
        omega)
       have HMD := Lib.hid (show ∀ e ∈ M, e.data.length ≤ 140737488355328 from fun e he => (hMo e he).elim (fun h => vEnt_data (HTL.out.val e h)) (fun h => vEnt_data (HTR.out.val e h)))
       clear hM1 hM2 hMo
       refine hld_start (fun w' => w'.cell? ⟨sb, 0, none⟩ = some (.map (some xb)) ∧ w'.cell? ⟨sb, 1, none⟩ = some (.map (some lb)) ∧ w'.cell? ⟨sb, 2, none⟩ = some (.map (some rb)) ∧ w'.cell? ⟨sb, 3, none⟩ = some (.map (some qb)) ∧ w'.cell? ⟨sb, 4, none⟩ = some (.map (some cb))) (by kernel_rfl) ?_
       obtain ⟨V, hV⟩ : ∃ V : World, V = w9.drew := ⟨_, rfl⟩
       rw [← hV]
       have HV := Lib.hid (HI9.out.below (show Below w9.heap.size w9 V by rw [hV]; exact bel_drew))
       clear hV
       have m0 := cell20 (k := 0) HV.out.box
       have m1 := cell20 (k := 1) HV.out.box
       have m2 := cell20 (k := 2) HV.out.box
       have m3 := cell20 (k := 3) HV.out.box
       have m4 := cell20 (k := 4) HV.out.box
       have hltM := lt20 HV.out.box
       simp only [List.getElem?_toArray, List.getElem?_cons_succ, List.getElem?_cons_zero] at m0 m1 m2 m3 m4
       refine hld_take 0 rfl (by kernel_rfl) (by kernel_rfl) (by kernel_rfl) (fun _ _ _ h => h) rfl ⟨m0, m1, m2, m3, m4⟩ (by rintro w' ⟨hw1, hw2, hw3, hw4, hw5⟩; go_simp; try rfl) ?_
       simp only [Act.put, List.setIfInBounds_toArray, List.set_cons_succ, List.set_cons_zero]
       refine hld_take 1 rfl (by kernel_rfl) (by kernel_rfl) (by kernel_rfl) (fun _ _ _ h => h) rfl ⟨m0, m1, m2, m3, m4⟩ (by rintro w' ⟨hw1, hw2, hw3, hw4, hw5⟩; go_simp; try rfl) ?_
       simp only [Act.put, List.setIfInBounds_toArray, List.set_cons_succ, List.set_cons_zero]
       refine hld_take 2 rfl (by kernel_rfl) (by kernel_rfl) (by kernel_rfl) (fun _ _ _ h => h) rfl ⟨m0, m1, m2, m3, m4⟩ (by rintro w' ⟨hw1, hw2, hw3, hw4, hw5⟩; go_simp; try rfl) ?_
       simp only [Act.put, List.setIfInBounds_toArray, List.set_cons_succ, List.set_cons_zero]
       refine hld_take 3 rfl (by kernel_rfl) (by kernel_rfl) (by kernel_rfl) (fun _ _ _ h => h) rfl ⟨m0, m1, m2, m3, m4⟩ (by rintro w' ⟨hw1, hw2, hw3, hw4, hw5⟩; go_simp; try rfl) ?_
       simp only [Act.put, List.setIfInBounds_toArray, List.set_cons_succ, List.set_cons_zero]
       refine hld_take 5 rfl (by kernel_rfl) (by kernel_rfl) (by kernel_rfl) (fun _ _ _ h => h) rfl ⟨m0, m1, m2, m3, m4⟩ (by rintro w' ⟨hw1, hw2, hw3, hw4, hw5⟩; go_simp; try rfl) ?_
       simp only [Act.put, List.setIfInBounds_toArray, List.set_cons_succ, List.set_cons_zero]
       refine hld_take 6 rfl (by kernel_rfl) (by kernel_rfl) (by kernel_rfl) (fun _ _ _ h => h) rfl ⟨m0, m1, m2, m3, m4⟩ (by rintro w' ⟨hw1, hw2, hw3, hw4, hw5⟩; go_simp; try rfl) ?_
       simp only [Act.put, List.setIfInBounds_toArray, List.set_cons_succ, List.set_cons_zero]
       refine hld_take 7 rfl (by kernel_rfl) (by kernel_rfl) (by kernel_rfl) (fun _ _ _ h => h) rfl ⟨m0, m1, m2, m3, m4⟩ (by rintro w' ⟨hw1, hw2, hw3, hw4, hw5⟩; go_simp; try rfl) ?_
       simp only [Act.put, List.setIfInBounds_toArray, List.set_cons_succ, List.set_cons_zero]
       refine hld_take 8 rfl (by kernel_rfl) (by kernel_rfl) (by kernel_rfl) (fun _ _ _ h => h) rfl ⟨m0, m1, m2, m3, m4⟩ (by rintro w' ⟨hw1, hw2, hw3, hw4, hw5⟩; go_simp; try rfl) ?_
       simp only [Act.put, List.setIfInBounds_toArray, List.set_cons_succ, List.set_cons_zero]
       refine hld_bar 4 rfl (by kernel_rfl) rfl (fun K hK => ?_)
       go_wp2_with (go_at_call 49; refine (sortedM_any (Old w) qb _ M _ HV.out.res HMS.out HML.out HMN.out HMD.out).mono ?_; rintro e9 w10 ⟨vs, ys, rfl, hys, hgot, hb10⟩; have HA1 := Lib.hid (HV.out.below hb10); have HG1 := Lib.hid (hgot.le HV.out.bel.size); have HY1 := Lib.hid hys; have HB1 := Lib.hid hb10; clear hys hgot hb10 m0 m1 m2 m3 m4 hltM)
       have m0 := cell20 (k := 0) HA1.out.box
       have m1 := cell20 (k := 1) HA1.out.box
       have m2 := cell20 (k := 2) HA1.out.box
       have m3 := cell20 (k := 3) HA1.out.box
       have m4 := cell20 (k := 4) HA1.out.box
       have hltM := lt20 HA1.out.box
       simp only [List.getElem?_toArray, List.getElem?_cons_succ, List.getElem?_cons_zero] at m0 m1 m2 m3 m4
       refine ⟨⟨m0, m1, m2, m3, m4⟩, ?_⟩
       refine hld_bar 9 rfl (by kernel_rfl) rfl (fun K hK => ?_)
       go_wp2_with (go_at_call 51; refine (keysB_any (some cb) _).mono ?_; rintro e9 w11 ⟨rfl, hc11, hb11, -⟩; have HA2 := Lib.hid (HA1.out.below hb11); have HC2 := Lib.hid hc11; have HB2 := Lib.hid hb11; clear hc11 hb11 m0 m1 m2 m3 m4 hltM)
       have m0 := cell20 (k := 0) HA2.out.box
       have m1 := cell20 (k := 1) HA2.out.box
       have m2 := cell20 (k := 2) HA2.out.box
       have m3 := cell20 (k := 3) HA2.out.box
       have m4 := cell20 (k := 4) HA2.out.box
       have hltM := lt20 HA2.out.box
       simp only [List.getElem?_toArray, List.getElem?_cons_succ, List.getElem?_cons_zero] at m0 m1 m2 m3 m4
       refine ⟨⟨m0, m1, m2, m3, m4⟩, ?_⟩
       refine hld_bar 10 rfl (by kernel_rfl) rfl (fun K hK => ?_)
       obtain ⟨ps, hp1, hp2, hp3, hp4⟩ := HA2.out.conf.names
       obtain ⟨kk, hk1, hk2⟩ := sort_names hp4
       have hkl : ps.length ≤ 4096 := by
        have := nodup_length (m := (l ++ r).map Ent.path) hp4 (fun p hp => isK_in HTL.out ((hp3 p).1 hp))
        rw [List.length_map, List.length_append] at this
        have := HLEN.out
        omega
       have HK3 := Lib.hid (show (kk.Pairwise fun a b => cmpL (bl a) (bl b) < 0) ∧ ∀ p, p ∈ kk ↔ isK x l r p = true from ⟨hk2, fun p => by rw [← hp3]; exact hk1.mem_iff.symm⟩)
       have HSF := Lib.hid (keysB_sorted (ps.map boolP) ps kk cb _ _ hp1 (by rw [List.map_map]; rfl) hp2 hkl HC2.out hk1 hk2)
       clear hp1 hp2 hp3 hp4 hk1 hk2 hkl
       go_wp2_with (go_at_call 50; refine HSF.out.mono ?_; rintro e9 w12 ⟨vk, rfl, ho12, hb12⟩; have HA3 := Lib.hid (HA2.out.below hb12); have HO3 := Lib.hid (owns_le20 ho12 HA2.out.bel.size); have HB3 := Lib.hid hb12; clear ho12 hb12 m0 m1 m2 m3 m4 hltM)
       have m0 := cell20 (k := 0) HA3.out.box
       have m1 := cell20 (k := 1) HA3.out.box
       have m2 := cell20 (k := 2) HA3.out.box
       have m3 := cell20 (k := 3) HA3.out.box
       have m4 := cell20 (k := 4) HA3.out.box
       have hltM := lt20 HA3.out.box
       simp only [List.getElem?_toArray, List.getElem?_cons_succ, List.getElem?_cons_zero] at m0 m1 m2 m3 m4
       refine ⟨⟨m0, m1, m2, m3, m4⟩, ?_⟩
       refine hld_take 11 rfl (by kernel_rfl) (by kernel_rfl) (by kernel_rfl) (fun _ _ _ h => h) rfl ⟨m0, m1, m2, m3, m4⟩ (by rintro w' ⟨hw1, hw2, hw3, hw4, hw5⟩; go_simp; try rfl) ?_
       simp only [Act.put, List.setIfInBounds_toArray, List.set_cons_succ, List.set_cons_zero]
       refine hld_take 12 rfl (by kernel_rfl) (by kernel_rfl) (by kernel_rfl) (fun _ _ _ h => h) rfl ⟨m0, m1, m2, m3, m4⟩ (by rintro w' ⟨hw1, hw2, hw3, hw4, hw5⟩; go_simp; try rfl) ?_
       simp only [Act.put, List.setIfInBounds_toArray, List.set_cons_succ, List.set_cons_zero]
       refine hld_take 13 rfl (by kernel_rfl) (by kernel_rfl) (by kernel_rfl) (fun _ _ _ h => h) rfl ⟨m0, m1, m2, m3, m4⟩ (by rintro w' ⟨hw1, hw2, hw3, hw4, hw5⟩; go_simp; try rfl) ?_
       simp only [Act.put, List.setIfInBounds_toArray, List.set_cons_succ, List.set_cons_zero]
       refine hld_done (by kernel_rfl) ?_
       clear m0 m1 m2 m3 m4 hltM
       go_wp2_with fail
       go_ret3
       exact Or.inr ⟨HM0.out, vs, vk, ys, kk, rfl, by rw [HY1.out]; exact is_merge HMS.out HML.out HK3.out.1 HK3.out.2, ((HG1.out.below HB2.out).below HB3.out), HO3.out, HA3.out.bel⟩
end Go.Proofs.YtdieneaillkbgaaGreatDoor

/- The example of chapter 20. -/
namespace Go.Proofs.YtdieneaillkbgaaGreatDoor
open Go Go.RowKit Go.Maps
def exT1 : Ent := ⟨⟨#[97]⟩, 2, 493, 0, [], ⟨#[]⟩⟩
def exT2 : Ent := ⟨⟨#[97, 47, 120]⟩, 1, 0, 0, [49, 50], ⟨#[]⟩⟩
def exT3 : Ent := ⟨⟨#[98]⟩, 3, 0, 0, [], ⟨#[97]⟩⟩
theorem cell_any {W : World} {b k : Nat} {cs : Array Value} {t : TypeId} {fr : Nat × Nat} (h : W.heap[b]? = some (.cells cs t fr)) : W.cell? ⟨b, k, none⟩ = cs[k]? := by simp [World.cell?, h]
theorem row_new {W : World} {b n sz : Nat} {cells : List Value} {t : TypeId} {fr : Nat × Nat} (h : W.heap[b]? = some (.cells cells.toArray t fr)) (hl : cells.length = n * sz) (hn : n ≤ maxLen) : RowAt (fun k => k = b) W sz (.slice (some ⟨b, 0, none⟩) n n) n cells :=
  ⟨hl, some ⟨b, 0, none⟩, n, rfl, Nat.le_refl _, hn, .inr ⟨b, 0, rfl, rfl, fun j u hj => by rw [cell_any h, Nat.zero_add, List.getElem?_toArray]; exact hj⟩⟩
theorem exOk (e : Ent) (h : e = exT1 ∨ e = exT2 ∨ e = exT3) : EntOk e := by
  rcases h with rfl | rfl | rfl <;> exact ⟨by decide, by decide, by decide, by decide, by decide⟩
end Go.Proofs.YtdieneaillkbgaaGreatDoor

/- Contracts of the specification kinkeepref20: SameAll. -/
namespace Go.Proofs.YtdieneaillkbgaaGreatDoor
open Go.RowKit Go.Maps
theorem r_same20_is (S T : Nat → Prop) (a b : Ent) (va vb : Value) (r : Bool) (w : World) (ha : DataAt S w va a.data) (hb : DataAt T w vb b.data) (hr : decide (a = b) = r) : Calls Tryz.prog 31 #[entV va a, entV vb b] w fun e w' => e = .returned (.bool r) ∧ Below w.heap.size w w' := by
  rw [← hr]; exact r_same20_any S T a b va vb w ha hb
set_option maxRecDepth 100000 in
set_option maxHeartbeats 2000000 in
theorem r_sameall_any (S T : Nat → Prop) (L M : List Ent) (v u : Value) (w : World) (hv : EntsAt S w v L) (hu : EntsAt T w u M) :
    Calls Tryz.prog 21 #[v, u] w fun e w' => e = .returned (.bool (decide (L = M))) ∧ Below w.heap.size w w' := by
  have HV := Lib.hid hv
  have HU := Lib.hid hu
  obtain ⟨a, cap, rfl, hc, hm, -⟩ := SeqAt.shape hv EntR.len
  obtain ⟨a2, cap2, rfl, hc2, hm2, -⟩ := SeqAt.shape hu EntR.len
  unfold maxLen at hm hm2
  clear hv hu
  by_cases hlen : L.length = M.length
  · have e1 : ((L.length : Int) != (M.length : Int)) = false := by simp [hlen]
    obtain ⟨n, hn⟩ : ∃ n, n = L.length := ⟨_, rfl⟩
    have hn2 : n = M.length := by omega
    have HN := Lib.hid hn
    have HN2 := Lib.hid hn2
    rw [← hlen] at HU hc2 e1 ⊢
    rw [← hn] at HV HU hc hc2 e1 ⊢
    clear hn hn2 hlen
    go_enter Tryz.func21, Tryz.ntmps21
    go_wp2_with fail
    go_loopw [5, 13] (fun _ i wr => ∃ k : Nat, k ≤ n ∧ i = .int .i64 k ∧ L.take k = M.take k ∧ Below w.heap.size w wr) (fun _ i _ => n - (intOf i).toNat)
    case atStart => exact ⟨0, Nat.zero_le _, rfl, by simp, Below.refl _ _⟩
    case round =>
      obtain ⟨k, hk, rfl, hfi, hbr⟩ := hrel
      have HFI := Lib.hid hfi
      have HBR := Lib.hid hbr
      by_cases hlt : k < n
      · obtain ⟨e, he⟩ : ∃ e, L[k]? = some e := ⟨L[k]'(by rw [← HN.out]; exact hlt), by simp⟩
        obtain ⟨f, hf⟩ : ∃ f, M[k]? = some f := ⟨M[k]'(by rw [← HN2.out]; exact hlt), by simp⟩
        obtain ⟨b, o, dv, rfl, -, hb, hd, -, -, q0, q1, q2, q3, q4, q5⟩ := ents_at (HV.out.below hbr) he
        obtain ⟨b2, o2, dv2, rfl, -, hb2, hd2, -, -, p0, p1, p2, p3, p4, p5⟩ := ents_at (HU.out.below hbr) hf
        have HD := Lib.hid hd
        have HE := Lib.hid hd2
        obtain ⟨_, ad, cd, rfl, hcd, hmd, -⟩ := hd
        obtain ⟨_, ad2, cd2, rfl, hcd2, hmd2, -⟩ := hd2
        have HAT := Lib.hid (And.intro he hf)
        clear he hf hfi hbr
        cases heq : decide (e = f)
        · have HEQ := Lib.hid heq
          clear heq
          go_upto_region 6 with (fail)
          refine wp_region_segs [some 8, none, some 1] (by kernel_rfl) (by kernel_rfl) (by kernel_rfl) ?_
          simp only [wpSegs, List.take_succ_cons, List.take_zero, List.drop_succ_cons, List.drop_zero]
          obtain ⟨W, hW⟩ : ∃ W : World, W = wr.drew := ⟨_, rfl⟩
          rw [← hW]
          have hbw : Below wr.heap.size wr W := by rw [hW]; exact (Below.refl _ _).drew
          have HBW := Lib.hid hbw
          have z0 := (hbw.cell (block_lt q0)).trans q0
          have z1 := (hbw.cell (block_lt q1)).trans q1
          have z2 := (hbw.cell (block_lt q2)).trans q2
          have z3 := (hbw.cell (block_lt q3)).trans q3
          have z4 := (hbw.cell (block_lt q4)).trans q4
          have z5 := (hbw.cell (block_lt q5)).trans q5
          have x0 := (hbw.cell (block_lt p0)).trans p0
          have x1 := (hbw.cell (block_lt p1)).trans p1
          have x2 := (hbw.cell (block_lt p2)).trans p2
          have x3 := (hbw.cell (block_lt p3)).trans p3
          have x4 := (hbw.cell (block_lt p4)).trans p4
          have x5 := (hbw.cell (block_lt p5)).trans p5
          clear hW hbw q0 q1 q2 q3 q4 q5 p0 p1 p2 p3 p4 p5
          repeat (first | (refine seg_skip rfl ?_; simp only [Act.put, List.setIfInBounds_toArray, List.set_cons_succ, List.set_cons_zero]) | (refine seg_run rfl (fun K hK => ?_); go_simp; refine hK _ ?_; clear hK K))
          refine seg_nil ?_
          refine bar_run rfl (fun K hK => ?_)
          go_wp2_with (go_at_call 31; refine (r_same20_is S T e f _ _ false _ (by exact HD.out.below HBW.out) (by exact HE.out.below HBW.out) HEQ.out).mono ?_; rintro e1 w1 ⟨rfl, hb1⟩; have HB1 := Lib.hid (below_next HBR.out (below_next HBW.out hb1)); clear hb1)
          clear z0 z1 z2 z3 z4 z5 x0 x1 x2 x3 x4 x5
          repeat (first | (refine seg_skip rfl ?_; simp only [Act.put, List.setIfInBounds_toArray, List.set_cons_succ, List.set_cons_zero]) | (refine seg_run rfl (fun K hK => ?_); go_simp; refine hK _ ?_; clear hK K))
          refine seg_nil ?_
          go_wp2_with fail
          go_ret
          refine ⟨ret_bool ?_, HB1.out⟩
          symm
          rw [decide_eq_false_iff_not]
          intro hc
          obtain ⟨h1, h2⟩ := HAT.out
          rw [hc, h2] at h1
          exact (of_decide_eq_false HEQ.out) (Option.some.inj h1).symm
        · have HEQ := Lib.hid heq
          clear heq
          go_upto_region 6 with (fail)
          refine wp_region_segs [some 8, none, some 1] (by kernel_rfl) (by kernel_rfl) (by kernel_rfl) ?_
          simp only [wpSegs, List.take_succ_cons, List.take_zero, List.drop_succ_cons, List.drop_zero]
          obtain ⟨W, hW⟩ : ∃ W : World, W = wr.drew := ⟨_, rfl⟩
          rw [← hW]
          have hbw : Below wr.heap.size wr W := by rw [hW]; exact (Below.refl _ _).drew
          have HBW := Lib.hid hbw
          have z0 := (hbw.cell (block_lt q0)).trans q0
          have z1 := (hbw.cell (block_lt q1)).trans q1
          have z2 := (hbw.cell (block_lt q2)).trans q2
          have z3 := (hbw.cell (block_lt q3)).trans q3
          have z4 := (hbw.cell (block_lt q4)).trans q4
          have z5 := (hbw.cell (block_lt q5)).trans q5
          have x0 := (hbw.cell (block_lt p0)).trans p0
          have x1 := (hbw.cell (block_lt p1)).trans p1
          have x2 := (hbw.cell (block_lt p2)).trans p2
          have x3 := (hbw.cell (block_lt p3)).trans p3
          have x4 := (hbw.cell (block_lt p4)).trans p4
          have x5 := (hbw.cell (block_lt p5)).trans p5
          clear hW hbw q0 q1 q2 q3 q4 q5 p0 p1 p2 p3 p4 p5
          repeat (first | (refine seg_skip rfl ?_; simp only [Act.put, List.setIfInBounds_toArray, List.set_cons_succ, List.set_cons_zero]) | (refine seg_run rfl (fun K hK => ?_); go_simp; refine hK _ ?_; clear hK K))
          refine seg_nil ?_
          refine bar_run rfl (fun K hK => ?_)
          go_wp2_with (go_at_call 31; refine (r_same20_is S T e f _ _ true _ (by exact HD.out.below HBW.out) (by exact HE.out.below HBW.out) HEQ.out).mono ?_; rintro e1 w1 ⟨rfl, hb1⟩; have HB1 := Lib.hid (below_next HBR.out (below_next HBW.out hb1)); clear hb1)
          clear z0 z1 z2 z3 z4 z5 x0 x1 x2 x3 x4 x5
          repeat (first | (refine seg_skip rfl ?_; simp only [Act.put, List.setIfInBounds_toArray, List.set_cons_succ, List.set_cons_zero]) | (refine seg_run rfl (fun K hK => ?_); go_simp; refine hK _ ?_; clear hK K))
          refine seg_nil ?_
          go_wp2_with fail
          go_roundw
          case rel =>
            refine ⟨k + 1, by omega, by go_num, ?_, HB1.out⟩
            rw [List.take_add_one, List.take_add_one, HFI.out, HAT.out.1, HAT.out.2, of_decide_eq_true HEQ.out]
          case measure => simp [intOf]; omega
      · clear hfi hbr
        have hkn : k = n := by omega
        have HR := Lib.hid (show L = M by
          have h1 := HFI.out
          rw [List.take_of_length_le (by rw [← HN.out]; omega), List.take_of_length_le (by rw [← HN2.out]; omega)] at h1
          exact h1)
        clear hkn
        go_wp2_with fail
        go_ret
        exact ⟨ret_bool (decide_eq_true HR.out).symm, HBR.out⟩
  · have HF := Lib.hid (show decide (L = M) = false from decide_eq_false (fun e => hlen (by rw [e])))
    have e1 : ((L.length : Int) != (M.length : Int)) = true := by simp; omega
    clear hlen
    go_enter Tryz.func21, Tryz.ntmps21
    go_wp2_with fail
    go_ret
    exact ⟨ret_bool HF.out.symm, Below.refl _ _⟩
end Go.Proofs.YtdieneaillkbgaaGreatDoor

/- Contracts of the specification of chapter 18: UTF8, plain, Divide, Unite, Component, Valid. -/
namespace Go.Proofs.YtdieneaillkbgaaGreatDoor
open Go.RowKit
theorem reL_len (l : List UInt8) : (reL l).length ≤ 4 * l.length := by
  have h1 := runesL_length l
  have : ∀ rs : List Int, (rs.flatMap Lib.encodeRune).length ≤ 4 * rs.length := by
    intro rs
    induction rs with
    | nil => simp
    | cons r rs ih => rw [List.flatMap_cons, List.length_append, List.length_cons]; have := encodeRune_len r; omega
  have h2 := this (runesL l)
  unfold reL; omega
theorem decode_drop (s : ByteArray) (pos : Nat) : Lib.decodeL ((bl s).drop pos) = Utf8.decode s pos := Lib.decodeL_drop s pos
theorem drop_ne {s : ByteArray} {pos : Nat} (h : pos < s.size) : (bl s).drop pos ≠ [] := by
  intro e; have := List.drop_eq_nil_iff.1 e; rw [← size_bl] at this; omega
theorem utf8_next {s o : ByteArray} {pos : Nat} (hp : pos < s.size) (h : bl o ++ reL ((bl s).drop pos) = reL (bl s)) :
    bl (o ++ Utf8.encode ((Utf8.decode s pos).1 : Int)) ++ reL ((bl s).drop (pos + (Utf8.decode s pos).2)) = reL (bl s) := by
  rw [bl_append, ← h, reL_step _ (drop_ne hp), decode_drop, List.drop_drop, ← encode_lib, data_bl, List.append_assoc]
set_option maxHeartbeats 400000 in
theorem r_utf8_any (s : ByteArray) (w : World) (hs : s.size ≤ 16777216) :
    Calls Tryz.prog 121 #[.string s] w fun e w' => e = .returned (.bool (Lib.validD (bl s))) ∧ Below w.heap.size w w' := by
  go_enter Tryz.func121, Tryz.ntmps121
  go_wp2
  go_loopw [3] (fun v wr => ∃ (pos : Nat) (o : ByteArray), v = .string o ∧ wr = w.iter s pos ∧ o.size ≤ 67108864 ∧ bl o ++ reL ((bl s).drop pos) = reL (bl s)) (fun _ wr => s.size - wr.iterPos w.heap.size)
  case atStart => exact ⟨0, ⟨#[]⟩, rfl, rfl, by simp [ByteArray.size], by simp [bl]⟩
  case round =>
    obtain ⟨pos, o, rfl, rfl, ho, hrel2⟩ := hrel
    have HR := Lib.hid hrel2
    clear hrel2
    by_cases hp : pos < s.size
    · have hnx : ∀ ty, (Instr.next (.pointer (some ⟨w.heap.size, 0, none⟩)) true ty).run Tryz.prog (w.iter s pos) = _ := fun ty => run_next_any w s pos ty hp
      obtain ⟨r, hr⟩ : ∃ r, r = (Utf8.decode s pos).1 := ⟨_, rfl⟩
      obtain ⟨E, hE⟩ : ∃ E, E = Utf8.encode (r : Int) := ⟨_, rfl⟩
      have hcv : ∀ w', (convert 21 9 (.int .i32 (r : Int))).run Tryz.prog w' = .ok (.string E) w' := fun w' => by rw [hE]; exact run_convert_int_string w' _ _ .i32 _ (by rw [Tryz.underlying21]; rfl) Tryz.underlying9
      have hE4 : E.size ≤ 4 := by rw [hE]; exact encode_size_le _
      simp only [← hr] at hnx
      have HE := Lib.hid hE
      have HRR := Lib.hid hr
      clear hE hr
      go_wp2
      go_roundw
      case rel =>
        have hn : bl (o ++ E) ++ reL ((bl s).drop (pos + (Utf8.decode s pos).2)) = reL (bl s) := by rw [HE.out, HRR.out]; exact utf8_next hp HR.out
        refine ⟨pos + (Utf8.decode s pos).2, o ++ E, rfl, rfl, ?_, hn⟩
        have h1 := congrArg List.length hn
        have h2 := reL_len (bl s)
        rw [List.length_append, ← size_bl] at h1
        rw [← size_bl] at h2
        omega
      case measure =>
        rw [World.iterPos_iter, World.iterPos_iter]
        have := Lib.width_pos s pos
        omega
    · have hnx : ∀ ty, (Instr.next (.pointer (some ⟨w.heap.size, 0, none⟩)) true ty).run Tryz.prog (w.iter s pos) = _ := fun ty => run_next_end w s pos ty hp
      go_wp2
      go_ret
      refine ⟨ret_bool ?_, (Below.refl _ _).alloc (Nat.le_refl _) _⟩
      have h1 : bl o = reL (bl s) := by
        rw [← HR.out, List.drop_eq_nil_of_le (by rw [← size_bl]; omega), reL_nil, List.append_nil]
      rw [toList_bl, toList_bl, h1]
      exact reL_valid (bl s)
theorem lowFree_low {s : ByteArray} {j : Nat} (hj : j < s.size) (h : (s[j].toNat : Int) < 32) : lowFree (bl s) = false := by
  refine low_none hj ?_
  rw [get_bl s j hj, ← byte_bl s j hj]; omega
set_option maxHeartbeats 400000 in
theorem r_plain_any (s : ByteArray) (w : World) (hs : s.size ≤ 16777216) :
    Calls Tryz.prog 98 #[.string s] w fun e w' => e = .returned (.bool (textB (bl s))) ∧ Below w.heap.size w w' := by
  go_enter Tryz.func98, Tryz.ntmps98
  go_wp2
  go_loop [3] (fun i => ∃ k : Nat, k ≤ s.size ∧ i = .int .i64 k ∧ ∀ j, j < k → j < s.size → 32 ≤ (s.get! j).toNat) (fun i => s.size - (intOf i).toNat)
  case atStart => exact ⟨0, Nat.zero_le _, rfl, fun j hj => by omega⟩
  case round =>
    obtain ⟨k, hk, rfl, hlow⟩ := hrel
    have HL := Lib.hid hlow
    clear hlow
    by_cases hp : k < s.size
    · go_wp2
      · have hlt : (s[k].toNat : Int) < 32 := by assumption
        go_ret
        exact ⟨ret_bool (by simp [textB, lowFree_low hp hlt]), Below.refl _ _⟩
      · have hge : (32 : Int) ≤ (s[k].toNat : Int) := by assumption
        go_round
        case rel =>
          refine ⟨k + 1, by omega, by go_num, fun j hj hjs => ?_⟩
          rcases Nat.lt_or_ge j k with h | h
          · exact HL.out j h hjs
          · obtain rfl : j = k := by omega
            rw [get_bl s j hp, ← byte_bl s j hp]; omega
        case measure => simp [intOf] <;> omega
    · go_wp2_with (go_at_call 121; refine (r_utf8_any s _ hs).mono ?_; rintro e w' ⟨rfl, hb⟩)
      go_ret
      refine ⟨ret_bool ?_, hb⟩
      simp only [textB, low_all (fun j hj => HL.out j (by omega) hj), Bool.true_and]
/-- What Divide leaves. -/
def DivideOk (c : UInt8) (s : ByteArray) (w : World) (e : Ending) (w' : World) : Prop :=
  ∃ v xs, e = .returned v ∧ xs.map bl = splitL c (bl s) ∧ StrsAt (w.heap.size ≤ ·) w' v xs ∧ Below w.heap.size w w'
theorem divide_take {s : ByteArray} {c : UInt8} {ys : List ByteArray} {f k : Nat} (hk : k < s.size) (hf : f ≤ k) (h : splitL c (bl s) = ys.map bl ++ splitL c ((bl s).drop f)) (hn : ∀ j, f ≤ j → j < k → (s.get! j) ≠ c) (hc : s[k] = c) :
    splitL c (bl s) = (ys ++ [s.extract f k]).map bl ++ splitL c ((bl s).drop (k + 1)) := by
  have hk2 : k < (bl s).length := by rw [← size_bl]; exact hk
  have e : (bl s).drop f = bl (s.extract f k) ++ c :: (bl s).drop (k + 1) := by
    rw [bl_extract, ← hc, byte_bl s k hk, List.getElem_cons_drop, List.drop_take]
    have h2 := List.take_append_drop (k - f) ((bl s).drop f)
    rw [List.drop_drop, show f + (k - f) = k by omega] at h2
    exact h2.symm
  have hm : c ∉ bl (s.extract f k) := by
    intro hm
    obtain ⟨j, hj, ej⟩ := List.getElem_of_mem hm
    simp only [bl_extract] at hj ej
    rw [List.length_drop, List.length_take] at hj
    rw [List.getElem_drop, List.getElem_take] at ej
    exact hn (f + j) (by omega) (by omega) (by rw [get_bl s _ (by omega)]; exact ej)
  rw [h, e, splitL_append _ _ _ hm]; simp
theorem divide_last {s : ByteArray} {c : UInt8} {ys : List ByteArray} {f : Nat} (hf : f ≤ s.size) (h : splitL c (bl s) = ys.map bl ++ splitL c ((bl s).drop f)) (hn : ∀ j, f ≤ j → j < s.size → (s.get! j) ≠ c) :
    splitL c (bl s) = (ys ++ [s.extract f s.size]).map bl := by
  have e : (bl s).drop f = bl (s.extract f s.size) := by rw [bl_extract, size_bl, List.take_length]
  have hm : c ∉ (bl s).drop f := by
    intro hm
    obtain ⟨j, hj, ej⟩ := List.getElem_of_mem hm
    rw [List.length_drop, ← size_bl] at hj
    rw [List.getElem_drop] at ej
    exact hn (f + j) (by omega) (by omega) (by rw [get_bl s _ (by omega)]; exact ej)
  rw [h, splitL_whole _ _ hm, e]; simp
set_option maxHeartbeats 1000000 in
theorem r_divide_any (s : ByteArray) (w : World) (hs : s.size ≤ 16777216) : Calls Tryz.prog 72 #[.string s] w (DivideOk 47 s w) := by
  go_enter Tryz.func72, Tryz.ntmps72
  go_wp2_with fail
  go_loopw [3, 4, 5] (fun v fr i wr => ∃ (k f : Nat) (ys : List ByteArray), k ≤ s.size + 1 ∧ f ≤ k ∧ ys.length ≤ k ∧ i = .int .i64 k ∧ fr = .int .i64 f ∧ wr.ownsRow w.heap.size 9 1 v ys.length (ys.map Value.string) ∧ Below w.heap.size w wr ∧
      (k ≤ s.size → splitL 47 (bl s) = ys.map bl ++ splitL 47 ((bl s).drop f) ∧ ∀ j, f ≤ j → j < k → (s.get! j) ≠ 47) ∧ (k = s.size + 1 → splitL 47 (bl s) = ys.map bl)) (fun _ _ i _ => s.size + 1 - (intOf i).toNat)
  case atStart => exact ⟨0, 0, [], Nat.zero_le _, Nat.le_refl _, Nat.le_refl _, rfl, rfl, World.ownsRow_nil _ _ _ _, Below.refl _ _, fun _ => ⟨by simp, fun j _ hj => by omega⟩, fun h => by omega⟩
  case round =>
    obtain ⟨k, f, ys, hk, hf, hy, rfl, rfl, hown, hb, hr1, hr2⟩ := hrel
    have HO := Lib.hid hown
    have HB := Lib.hid hb
    have HR1 := Lib.hid hr1
    have HR2 := Lib.hid hr2
    have hsz : w.heap.size ≤ wr.heap.size := hb.size
    clear hown hb hr1 hr2
    by_cases hle : k ≤ s.size
    · by_cases hlt : k < s.size
      · have e1 : ((k : Int) == (s.size : Int)) = false := by rw [beq_eq_false_iff_ne]; omega
        by_cases hc : s[k] = 47
        · have e2 : ((s[k].toNat : Int) == (47 : UInt8).toNat) = true := by rw [hc]; rfl
          have e2' : ((s[k].toNat : Int) == 47) = true := e2
          have HCC := Lib.hid hc
          clear hc e2
          go_wp2_with (at_builtin; go_must (refine wpList_app1 Tryz.appStrings rfl _ _ rfl w.heap.size u3 ys.length (ys.map Value.string) rfl wr [.string (s.extract f k)] _ rfl rfl (by simp; rfl) HO.out (by omega) hsz ?_); intro v' w1 hown1 hgrow1 _)
          have HO1 := Lib.hid hown1
          have HG1 := Lib.hid hgrow1
          clear hown1 hgrow1
          go_wp2_with fail
          go_roundw
          case rel =>
            refine ⟨k + 1, k + 1, ys ++ [s.extract f k], by omega, Nat.le_refl _, by simp; omega, by go_num, by go_num, ?_, below_grown HB.out HO.out HG1.out (Nat.le_refl _) hsz, fun _ => ⟨divide_take hlt hf (HR1.out hle).1 (HR1.out hle).2 HCC.out, fun j h1 h2 => by omega⟩, fun h => by omega⟩
            have := HO1.out; simpa using this
          case measure => simp [intOf] <;> omega
        · have e2' : ((s[k].toNat : Int) == 47) = false := by
            rw [beq_eq_false_iff_ne]; intro e; apply hc; apply UInt8.toNat_inj.1; have : s[k].toNat = 47 := by omega
            rw [this]; rfl
          have HCC := Lib.hid hc
          clear hc
          go_wp2_with fail
          go_roundw
          case rel =>
            refine ⟨k + 1, f, ys, by omega, by omega, by omega, by go_num, rfl, HO.out, HB.out, fun _ => ⟨(HR1.out hle).1, fun j h1 h2 => ?_⟩, fun h => by omega⟩
            rcases Nat.lt_or_ge j k with h | h
            · exact (HR1.out hle).2 j h1 h
            · obtain rfl : j = k := by omega
              rw [get_bl s j hlt, ← byte_bl s j hlt]; exact HCC.out
          case measure => simp [intOf] <;> omega
      · obtain rfl : k = s.size := by omega
        have e1 : ((s.size : Int) == (s.size : Int)) = true := by simp
        go_wp2_with (at_builtin; go_must (refine wpList_app1 Tryz.appStrings rfl _ _ rfl w.heap.size u3 ys.length (ys.map Value.string) rfl wr [.string (s.extract f s.size)] _ rfl rfl (by simp; rfl) HO.out (by omega) hsz ?_); intro v' w1 hown1 hgrow1 _)
        have HO1 := Lib.hid hown1
        have HG1 := Lib.hid hgrow1
        clear hown1 hgrow1
        go_wp2_with fail
        go_roundw
        case rel =>
          refine ⟨s.size + 1, s.size + 1, ys ++ [s.extract f s.size], by omega, Nat.le_refl _, by simp; omega, by go_num, by go_num, ?_, below_grown HB.out HO.out HG1.out (Nat.le_refl _) hsz, fun h => by omega, fun _ => divide_last hf (HR1.out hle).1 (HR1.out hle).2⟩
          have := HO1.out; simpa using this
        case measure => simp [intOf] <;> omega
    · obtain ⟨a, cap, rfl, hn, hm⟩ := owns_shape HO.out
      go_wp2_with fail
      go_ret
      exact ⟨_, ys, rfl, (HR2.out (by omega)).symm, (row_of_owns HO.out).weak (fun k hk => hk.1), HB.out⟩
end Go.Proofs.YtdieneaillkbgaaGreatDoor

/- Contracts of the specification of chapter 18: Unite, Component, Valid. -/
namespace Go.Proofs.YtdieneaillkbgaaGreatDoor
open Go.RowKit
theorem take_unite {xs : List ByteArray} {k : Nat} {x : ByteArray} (hx : xs[k]? = some x) : uniteL ((xs.take (k + 1)).map bl) = if k = 0 then bl x else uniteL ((xs.take k).map bl) ++ [47] ++ bl x := by
  have hk := (List.getElem?_eq_some_iff.1 hx).1
  have e : (xs.take (k + 1)).map bl = (xs.take k).map bl ++ [bl x] := by rw [List.take_add_one, hx]; simp
  rw [e, uniteL_snoc]
  by_cases h : k = 0
  · subst h; simp
  · have h2 : (xs.take k).map bl ≠ [] := by
      intro e; have := congrArg List.length e; simp only [List.length_map, List.length_take, List.length_nil] at this; omega
    rw [if_neg h, if_neg h2]
theorem unite_take_len (xs : List ByteArray) (m : Nat) (h : ∀ x ∈ xs, x.size ≤ m) (k : Nat) : (uniteL ((xs.take k).map bl)).length ≤ xs.length * (m + 1) := by
  have h1 := uniteL_len ((xs.take k).map bl) m (fun p hp => by
    obtain ⟨y, hy, rfl⟩ := List.mem_map.1 hp
    have := h y (List.mem_of_mem_take hy)
    rw [← size_bl]; exact this)
  have h2 : ((xs.take k).map bl).length ≤ xs.length := by simp; omega
  exact Nat.le_trans h1 (Nat.mul_le_mul_right _ h2)
set_option maxHeartbeats 400000 in
theorem r_unite_any (xs : List ByteArray) (S : Nat → Prop) (v : Value) (w : World) (hv : StrsAt S w v xs) (hn : xs.length ≤ 65536) (hsz : ∀ x ∈ xs, x.size ≤ 65536) :
    Calls Tryz.prog 73 #[v] w fun e w' => e = .returned (.string ⟨(uniteL (xs.map bl)).toArray⟩) ∧ w = w' := by
  obtain ⟨a, cap, rfl, hc, hcm, hcell⟩ := hv.shape
  have HC := Lib.hid hcell
  have HS := Lib.hid hsz
  clear hv hcell hsz
  unfold maxLen at hcm
  go_enter Tryz.func73, Tryz.ntmps73
  go_wp2_with fail
  go_loop [3, 8] (fun o i => ∃ (k : Nat) (t : ByteArray), k ≤ xs.length ∧ i = .int .i64 k ∧ o = .string t ∧ bl t = uniteL ((xs.take k).map bl)) (fun _ i => xs.length - (intOf i).toNat)
  case atStart => exact ⟨0, ⟨#[]⟩, Nat.zero_le _, rfl, rfl, by simp [bl, uniteL, Lib.join_nil]⟩
  case round =>
    obtain ⟨k, t, hk, rfl, rfl, ht⟩ := hrel
    have hts : t.size ≤ 4295032832 := by
      rw [size_bl, ht]
      have := unite_take_len xs 65536 HS.out k
      have h2 : xs.length * (65536 + 1) ≤ 65536 * (65536 + 1) := Nat.mul_le_mul_right _ hn
      omega
    have HT := Lib.hid ht
    clear ht
    by_cases hlt : k < xs.length
    · obtain ⟨x, hx⟩ : ∃ x, xs[k]? = some x := ⟨xs[k], by simp [hlt]⟩
      obtain ⟨b, o, rfl, _, hcl⟩ := HC.out k x hx
      have hxs := HS.out x (List.mem_of_getElem? hx)
      have HX := Lib.hid hx
      clear hx
      by_cases h0 : k = 0
      · have e0 : decide ((0 : Int) < (k : Int)) = false := by simp [h0]
        have hle : ¬ (0 : Int) < (k : Int) := by omega
        have H0 := Lib.hid h0
        clear h0
        go_wp2_with fail
        go_round
        case rel =>
          refine ⟨k + 1, t ++ x, by omega, by go_num, rfl, ?_⟩
          rw [take_unite HX.out, if_pos H0.out, bl_append, HT.out, H0.out]; simp [uniteL, Lib.join_nil]
        case measure => simp [intOf]; omega
      · have h1 : (0 : Int) < (k : Int) := by omega
        have h1' : 0 < k := by omega
        have H0 := Lib.hid h0
        clear h0
        go_wp2_with fail
        go_round
        case rel =>
          refine ⟨k + 1, (t ++ ⟨#[47]⟩) ++ x, by omega, by go_num, rfl, ?_⟩
          rw [take_unite HX.out, if_neg H0.out, bl_append, bl_append, HT.out]; rfl
        case measure => simp [intOf]; omega
    · go_wp2_with fail
      go_ret
      refine ⟨?_, rfl⟩
      have : uniteL (xs.map bl) = bl t := by rw [HT.out, List.take_of_length_le (by omega)]
      rw [this, mk_bl]; rfl
theorem div_one {xs : List ByteArray} {s : ByteArray} (hx : xs.map bl = splitL 47 (bl s)) : ((xs.length : Int) == 1) = !(bl s).contains 47 := by
  rw [← compB_slash, ← hx, List.length_map, Bool.eq_iff_iff, beq_iff_eq, beq_iff_eq]; omega
set_option maxHeartbeats 1000000 in
theorem r_component_any (s : ByteArray) (w : World) (hs : s.size ≤ 16777216) :
    Calls Tryz.prog 84 #[.string s] w fun e w' => e = .returned (.bool (compB (bl s))) ∧ Below w.heap.size w w' := by
  go_enter Tryz.func84, Tryz.ntmps84
  go_wp2_with (first
    | (go_at_call 98; refine (r_plain_any s _ hs).mono ?_; rintro e w1 ⟨rfl, hb1⟩)
    | (go_at_call 72; refine (r_divide_any s _ hs).mono ?_; rintro e w2 ⟨v2, xs2, rfl, hx2, hv2, hb2⟩; obtain ⟨a2, c2, rfl, -, -, -⟩ := hv2.shape; have HX2 := Lib.hid hx2; clear hx2 hv2))
  all_goals (go_ret; refine ⟨ret_bool ?_, by first | exact Below.refl _ _ | exact below_next hb1 hb2 | exact hb1⟩)
  all_goals (rw [Bool.eq_iff_iff]; simp only [toList_bl] at *)
  all_goals (first | (have hq := div_one HX2.out; simp_all [compB, size_bl]; done) | (simp_all [compB, size_bl]; done) | (simp_all [compB, size_bl]; omega) | (have hq := div_one HX2.out; simp_all [compB, size_bl]; intro _; omega))
set_option maxHeartbeats 1000000 in
theorem r_valid_any (s : ByteArray) (w : World) (hs : s.size ≤ 16777216) :
    Calls Tryz.prog 59 #[.string s] w fun e w' => e = .returned (.bool (validP (bl s))) ∧ Below w.heap.size w w' := by
  go_enter Tryz.func59, Tryz.ntmps59
  go_wp2_with fail
  refine (r_divide_any s w hs).mono ?_
  rintro e w1 ⟨v, xs, rfl, hx, hv, hb1⟩
  obtain ⟨a, cap, rfl, hc, hcm, hcell⟩ := hv.shape
  have hxl : xs.length ≤ 16777217 := by
    have h1 : (splitL 47 (bl s)).length = xs.length := by rw [← hx]; simp
    have h2 := splitL_len_le 47 (bl s)
    rw [← size_bl] at h2
    omega
  have HX := Lib.hid hx
  have HC := Lib.hid hcell
  have HB1 := Lib.hid hb1
  clear hx hcell hb1 hv
  unfold maxLen at hcm
  go_wp2_with fail
  go_loopw [10] (fun i wr => ∃ k : Nat, k ≤ xs.length ∧ i = .int .i64 k ∧ Below w1.heap.size w1 wr ∧ ∀ (j : Nat) x, j < k → xs[j]? = some x → compB (bl x) = true) (fun i _ => xs.length - (intOf i).toNat)
  case atStart => exact ⟨0, Nat.zero_le _, rfl, Below.refl _ _, fun j x hj => by omega⟩
  case round =>
    obtain ⟨k, hk, rfl, hb, hall⟩ := hrel
    have HA := Lib.hid hall
    have HB := Lib.hid hb
    clear hall hb
    by_cases hlt : k < xs.length
    · obtain ⟨x, hx⟩ : ∃ x, xs[k]? = some x := ⟨xs[k], by simp [hlt]⟩
      obtain ⟨b, o, rfl, _, hcl⟩ := HC.out k x hx
      have hcell : wr.cell? ⟨b, o + k, none⟩ = some (.string x) := (HB.out.cell (p := ⟨b, o + k, none⟩) (block_lt hcl)).trans hcl
      have HK := Lib.hid hx
      have hxs : x.size ≤ 16777216 := by have := part_size HX.out hx; omega
      clear hx hcl
      cases hc : compB (bl x)
      · have HCc := Lib.hid hc
        clear hc
        go_wp2_with (go_at_call 84; refine (r_component_any x wr hxs).mono ?_; rintro e w' ⟨rfl, hb2⟩; rw [HCc.out])
        go_ret
        exact ⟨ret_bool (split_not HX.out HK.out HCc.out).symm, below_next (below_next HB1.out HB.out) hb2⟩
      · have HCc := Lib.hid hc
        clear hc
        go_wp2_with (go_at_call 84; refine (r_component_any x wr hxs).mono ?_; rintro e w' ⟨rfl, hb2⟩; rw [HCc.out])
        go_roundw
        case rel =>
          refine ⟨k + 1, by omega, by go_num, below_next HB.out hb2, fun j x' hj hx' => ?_⟩
          rcases Nat.lt_or_ge j k with h | h
          · exact HA.out j x' h hx'
          · obtain rfl : j = k := by omega
            have := HK.out.symm.trans hx'
            cases this
            exact HCc.out
        case measure => simp [intOf]; omega
    · go_wp2_with fail
      all_goals (go_ret; refine ⟨ret_bool ?_, below_next HB1.out HB.out⟩)
      all_goals (
        have ha : (splitL 47 (bl s)).all compB = true := by
          rw [← HX.out, List.all_map, List.all_eq_true]
          intro x hm
          obtain ⟨j, hj, rfl⟩ := List.getElem_of_mem hm
          exact HA.out j _ (by omega) (by simp)
        have hl : (splitL 47 (bl s)).length = xs.length := by rw [← HX.out]; simp
        rw [validP, ha, hl, Bool.and_true, ← size_bl, Bool.eq_iff_iff]
        simp_all <;> omega)
end Go.Proofs.YtdieneaillkbgaaGreatDoor

/- Contracts of the specification kinkeepref20: Parent. -/
namespace Go.Proofs.YtdieneaillkbgaaGreatDoor
open Go.RowKit Go.Maps
theorem strs_front {S : Nat → Prop} {w : World} {a : Option Addr} {n c : Nat} {xs : List ByteArray} (h : StrsAt S w (.slice a n c) xs) : StrsAt S w (.slice a (n - 1) c) xs.dropLast := by
  obtain ⟨hl, a', cap, he, hn, hm, h0⟩ := h
  simp only [Value.slice.injEq] at he
  obtain ⟨rfl, rfl, rfl⟩ := he
  refine ⟨by simp, a, c, by rw [List.length_dropLast], by rw [List.length_dropLast]; omega, hm, ?_⟩
  rcases h0 with h0 | ⟨b, o, ha, hb, hc⟩
  · left; rw [List.length_dropLast]; omega
  · right
    refine ⟨b, o, ha, hb, fun j u hj => hc j u ?_⟩
    rw [List.getElem?_map, List.getElem?_dropLast] at hj
    rw [List.getElem?_map]
    split at hj
    · exact hj
    · simp at hj
set_option maxRecDepth 100000 in
set_option maxHeartbeats 1000000 in
theorem r_parent20_any (s : ByteArray) (w : World) (hs : s.size ≤ 65000) :
    Calls Tryz.prog 41 #[.string s] w fun e w' => e = .returned (.string ⟨(parentL (bl s)).toArray⟩) ∧ Below w.heap.size w w' := by
  go_enter Tryz.func41, Tryz.ntmps41
  go_wp2_with (go_at_call 72; refine (r_divide_any s _ (by omega)).mono ?_; rintro e w1 ⟨v, xs, rfl, hx, hv, hb⟩; have HX := Lib.hid hx; have HB := Lib.hid hb; obtain ⟨a, c, rfl, hc, hm, -⟩ := hv.shape; have HV := Lib.hid hv; have hn1 : 1 ≤ xs.length := (by rw [← List.length_map (f := bl), hx]; exact splitL_pos 47 _); have hn2 : xs.length ≤ 65001 := (by rw [← List.length_map (f := bl), hx]; have := splitL_len_le 47 (bl s); rw [← size_bl] at this; omega); clear hx hv hb; unfold maxLen at hm)
  refine (r_unite_any xs.dropLast _ _ w1 (strs_front HV.out) (by rw [List.length_dropLast]; omega) (fun x hx => ?_)).mono ?_
  · have h1 : bl x ∈ splitL 47 (bl s) := by rw [← HX.out]; exact List.mem_map.2 ⟨x, List.dropLast_subset _ hx, rfl⟩
    have h2 := mem_split_le 47 (bl s) _ h1
    rw [← size_bl, ← size_bl] at h2
    omega
  · rintro e w2 ⟨rfl, rfl⟩
    go_wp2_with fail
    go_ret
    refine ⟨?_, HB.out⟩
    unfold parentL
    rw [← HX.out, ← List.map_dropLast]
    rfl
end Go.Proofs.YtdieneaillkbgaaGreatDoor

/- Contracts of the specification kinkeepref20: Dir. -/
namespace Go.Proofs.YtdieneaillkbgaaGreatDoor
open Go.RowKit Go.Maps
theorem r_find_is (S : Nat → Prop) (L : List Ent) (v : Value) (p : ByteArray) (x : Int) (w : World) (hv : EntsAt S w v L) (hx : findIx L p 0 = x) :
    Calls Tryz.prog 65 #[v, .string p] w fun e w' => e = .returned (.int .i64 x) ∧ Below w.heap.size w w' := by
  rw [← hx]; exact r_find_any S L v p w hv
theorem dirE_bl (L : List Ent) (p : ByteArray) : dirE L (bl p) = if bl p = [] then 0 else match findE L p with
  | none => 4
  | some e => if e.kind = 2 then 0 else 13 := by
  unfold dirE
  rw [mk_bl]
  cases findE L p <;> rfl
set_option maxRecDepth 100000 in
set_option maxHeartbeats 1000000 in
theorem r_dir_any (S : Nat → Prop) (L : List Ent) (v : Value) (p : ByteArray) (w : World) (hv : EntsAt S w v L) :
    Calls Tryz.prog 40 #[v, .string p] w fun e w' => e = .returned (.int .i64 (dirE L (bl p))) ∧ Below w.heap.size w w' := by
  have HV := Lib.hid hv
  by_cases h0 : bl p = []
  · have e1 : p.toList.isEmpty = true := by rw [empty20, decide_eq_true h0]
    have HR := Lib.hid (show dirE L (bl p) = 0 by rw [dirE_bl, if_pos h0])
    clear h0 hv
    go_enter Tryz.func40, Tryz.ntmps40
    go_wp2_with fail
    go_ret
    exact ⟨ret_int HR.out.symm, Below.refl _ _⟩
  · have e1 : p.toList.isEmpty = false := by rw [empty20, decide_eq_false h0]
    rcases findIx_spec (p := p) L 0 with ⟨h1, h2⟩ | ⟨j, f, h1, h2, h3⟩
    · have HR := Lib.hid (show dirE L (bl p) = 4 by rw [dirE_bl, if_neg h0, h1])
      have HI := Lib.hid h2
      clear h0 h1 h2 hv
      go_enter Tryz.func40, Tryz.ntmps40
      go_wp2_with (go_at_call 65; refine (r_find_is S L v p (-1) _ HV.out HI.out).mono ?_; rintro e w1 ⟨rfl, hb1⟩; have HB1 := Lib.hid hb1; clear hb1)
      go_ret
      exact ⟨ret_int HR.out.symm, HB1.out⟩
    · have HI := Lib.hid (show findIx L p 0 = (j : Int) by rw [h3]; simp)
      obtain ⟨a, cap, rfl, hc, hm, -⟩ := SeqAt.shape hv EntR.len
      have hjl : j < L.length := (List.getElem?_eq_some_iff.1 h2).1
      obtain ⟨n, hn⟩ : ∃ n, n = L.length := ⟨_, rfl⟩
      rw [← hn] at HV hc hjl ⊢
      obtain ⟨b, o, dv, rfl, -, hb, -, -, -, q0, q1, q2, q3, q4, q5⟩ := ents_at HV.out h2
      unfold maxLen at hm
      by_cases hk : f.kind = 2
      · have HR := Lib.hid (show dirE L (bl p) = 0 by rw [dirE_bl, if_neg h0, h1]; simp only [if_pos hk])
        have e2 : (f.kind != 2) = false := by simp [hk]
        clear h0 h1 h2 h3 hv hk hn q0 q2 q3 q4 q5
        go_enter Tryz.func40, Tryz.ntmps40
        go_wp2_with (go_at_call 65; refine (r_find_is S L _ p j _ HV.out HI.out).mono ?_; rintro e w1 ⟨rfl, hb1⟩; have q9 := (hb1.cell (block_lt q1)).trans q1; have HB1 := Lib.hid hb1; clear hb1)
        go_ret
        exact ⟨ret_int HR.out.symm, HB1.out⟩
      · have HR := Lib.hid (show dirE L (bl p) = 13 by rw [dirE_bl, if_neg h0, h1]; simp only [if_neg hk])
        have e2 : (f.kind != 2) = true := by simp [hk]
        clear h0 h1 h2 h3 hv hk hn q0 q2 q3 q4 q5
        go_enter Tryz.func40, Tryz.ntmps40
        go_wp2_with (go_at_call 65; refine (r_find_is S L _ p j _ HV.out HI.out).mono ?_; rintro e w1 ⟨rfl, hb1⟩; have q9 := (hb1.cell (block_lt q1)).trans q1; have HB1 := Lib.hid hb1; clear hb1)
        go_ret
        exact ⟨ret_int HR.out.symm, HB1.out⟩
end Go.Proofs.YtdieneaillkbgaaGreatDoor

/- Contracts of the specification kinkeepref20: Valid. -/
namespace Go.Proofs.YtdieneaillkbgaaGreatDoor
open Go.RowKit Go.Maps
theorem r_valid20_is (s : ByteArray) (b : Bool) (w : World) (hs : s.size ≤ 16777216) (h : validP (bl s) = b) : Calls Tryz.prog 59 #[.string s] w fun e w' => e = .returned (.bool b) ∧ Below w.heap.size w w' := by
  rw [← h]; exact r_valid_any s w hs
theorem noZero_iff {l : List UInt8} : l.contains 0 = false ↔ ∀ k : Nat, ∀ b, l[k]? = some b → b ≠ 0 := by
  rw [Bool.eq_false_iff, ne_eq, List.contains_iff_mem, List.mem_iff_getElem?]
  constructor
  · intro h k b hb e; subst e; exact h ⟨k, hb⟩
  · rintro h ⟨k, hk⟩; exact h k 0 hk rfl
theorem vKind_is {en : Ent} (h : (en.kind = 1 ∨ en.kind = 2 ∨ en.kind = 3) ∧ en.data.length ≤ 1048576 ∧ (en.kind = 1 ∨ en.data.length = 0)) (hz : (bl en.link).contains 0 = false) : vKind en = ((decide (en.kind = 3) == decide (en.link.size ≠ 0)) && decide (en.link.size ≤ 512)) := by
  obtain ⟨h1, h2, h3⟩ := h
  unfold vKind vLinkB
  rw [hz, ← size_bl]
  rcases h1 with h1 | h1 | h1
  · rw [if_pos h1, decide_eq_true h2, h1]
    by_cases hs : en.link.size = 0
    · simp [hs]
    · simp [hs]
  · have h4 : en.data.length = 0 := h3.resolve_left (by omega)
    rw [if_neg (by omega), if_pos h1, decide_eq_true h4, h1]
    by_cases hs : en.link.size = 0
    · simp [hs]
    · simp [hs]
  · have h4 : en.data.length = 0 := h3.resolve_left (by omega)
    rw [if_neg (by omega), if_neg (by omega), if_pos h1, decide_eq_true h4, h1]
    by_cases hs : en.link.size = 0
    · simp [hs]
    · rw [decide_eq_true (by omega : 1 ≤ en.link.size)]
      simp [hs]
set_option maxRecDepth 100000 in
set_option maxHeartbeats 4000000 in
theorem r_validE_any (S : Nat → Prop) (en : Ent) (v : Value) (w : World) (hd : DataAt S w v en.data) (hok : EntOk en) (hps : en.path.size ≤ 16777216) : Calls Tryz.prog 38 #[entV v en] w fun e w' => e = .returned (.bool (vEnt en)) ∧ Below w.heap.size w w' := by
  obtain ⟨a, cap, rfl, hc, hm⟩ := hd.slice
  unfold maxLen at hm
  have HPS := Lib.hid hps
  have hlk := hok.lnk
  unfold maxLen at hlk
  clear hok
  unfold entV
  cases hv : validP (bl en.path)
  · have HV := Lib.hid hv
    have HF := Lib.hid (show vEnt en = false by unfold vEnt; rw [hv]; rfl)
    clear hv
    go_enter Tryz.func38, Tryz.ntmps38
    go_wp2_with fail
    obtain ⟨W, hW⟩ : ∃ W, W = w.alloc (.cells #[.string en.path, .int .i64 en.kind, .int .i64 en.mode, .int .i64 en.time, .slice a en.data.length cap, .string en.link] 48) := ⟨_, rfl⟩
    rw [← hW]
    have HBW := Lib.hid (show Below w.heap.size w W by rw [hW]; exact (Below.refl _ _).alloc (Nat.le_refl _) _)
    have HBX := Lib.hid (show W.heap[w.heap.size]? = some (.cells #[.string en.path, .int .i64 en.kind, .int .i64 en.mode, .int .i64 en.time, .slice a en.data.length cap, .string en.link] 48 (0, 0)) by rw [hW]; exact new20 w _)
    clear hW
    refine (r_valid20_is en.path false _ HPS.out HV.out).mono ?_
    rintro e w1 ⟨rfl, hb1⟩
    have HB1 := Lib.hid (below_next HBW.out hb1)
    clear hb1
    go_wp2_with fail
    go_ret
    exact ⟨ret_bool (by rw [HF.out]), HB1.out⟩
  have HV := Lib.hid hv
  by_cases h1 : en.mode < 0
  · have e1 : decide (en.mode < 0) = true := by simp [h1]
    have HF := Lib.hid (show vEnt en = false by unfold vEnt vHeadE; rw [decide_eq_false (by omega : ¬ 0 ≤ en.mode)]; simp)
    clear hv
    go_enter Tryz.func38, Tryz.ntmps38
    go_wp2_with fail
    obtain ⟨W, hW⟩ : ∃ W, W = w.alloc (.cells #[.string en.path, .int .i64 en.kind, .int .i64 en.mode, .int .i64 en.time, .slice a en.data.length cap, .string en.link] 48) := ⟨_, rfl⟩
    rw [← hW]
    have HBW := Lib.hid (show Below w.heap.size w W by rw [hW]; exact (Below.refl _ _).alloc (Nat.le_refl _) _)
    have HBX := Lib.hid (show W.heap[w.heap.size]? = some (.cells #[.string en.path, .int .i64 en.kind, .int .i64 en.mode, .int .i64 en.time, .slice a en.data.length cap, .string en.link] 48 (0, 0)) by rw [hW]; exact new20 w _)
    clear hW
    refine (r_valid20_is en.path true _ HPS.out HV.out).mono ?_
    rintro e w1 ⟨rfl, hb1⟩
    have HB1 := Lib.hid (below_next HBW.out hb1)
    have HX1 := Lib.hid ((hb1.block w.heap.size (lt20 HBX.out)).trans HBX.out)
    clear hb1
    have c0 := cell20 (k := 0) HX1.out
    have c1 := cell20 (k := 1) HX1.out
    have c2 := cell20 (k := 2) HX1.out
    have c3 := cell20 (k := 3) HX1.out
    have c4 := cell20 (k := 4) HX1.out
    have c5 := cell20 (k := 5) HX1.out
    simp only [List.getElem?_toArray, List.getElem?_cons_succ, List.getElem?_cons_zero] at c0 c1 c2 c3 c4 c5
    go_wp2_with fail
    go_ret
    exact ⟨ret_bool (by rw [HF.out]), HB1.out⟩
  have e1 : decide (en.mode < 0) = false := by simp [h1]
  by_cases h2 : 511 < en.mode
  · have e2 : decide (511 < en.mode) = true := by simp [h2]
    have HF := Lib.hid (show vEnt en = false by unfold vEnt vHeadE; rw [decide_eq_false (by omega : ¬ en.mode ≤ 511)]; simp)
    clear hv
    go_enter Tryz.func38, Tryz.ntmps38
    go_wp2_with fail
    obtain ⟨W, hW⟩ : ∃ W, W = w.alloc (.cells #[.string en.path, .int .i64 en.kind, .int .i64 en.mode, .int .i64 en.time, .slice a en.data.length cap, .string en.link] 48) := ⟨_, rfl⟩
    rw [← hW]
    have HBW := Lib.hid (show Below w.heap.size w W by rw [hW]; exact (Below.refl _ _).alloc (Nat.le_refl _) _)
    have HBX := Lib.hid (show W.heap[w.heap.size]? = some (.cells #[.string en.path, .int .i64 en.kind, .int .i64 en.mode, .int .i64 en.time, .slice a en.data.length cap, .string en.link] 48 (0, 0)) by rw [hW]; exact new20 w _)
    clear hW
    refine (r_valid20_is en.path true _ HPS.out HV.out).mono ?_
    rintro e w1 ⟨rfl, hb1⟩
    have HB1 := Lib.hid (below_next HBW.out hb1)
    have HX1 := Lib.hid ((hb1.block w.heap.size (lt20 HBX.out)).trans HBX.out)
    clear hb1
    have c0 := cell20 (k := 0) HX1.out
    have c1 := cell20 (k := 1) HX1.out
    have c2 := cell20 (k := 2) HX1.out
    have c3 := cell20 (k := 3) HX1.out
    have c4 := cell20 (k := 4) HX1.out
    have c5 := cell20 (k := 5) HX1.out
    simp only [List.getElem?_toArray, List.getElem?_cons_succ, List.getElem?_cons_zero] at c0 c1 c2 c3 c4 c5
    go_wp2_with fail
    go_ret
    exact ⟨ret_bool (by rw [HF.out]), HB1.out⟩
  have e2 : decide (511 < en.mode) = false := by simp [h2]
  by_cases h3 : en.time < 0
  · have e3 : decide (en.time < 0) = true := by simp [h3]
    have HF := Lib.hid (show vEnt en = false by unfold vEnt vHeadE; rw [decide_eq_false (by omega : ¬ 0 ≤ en.time)]; simp)
    clear hv
    go_enter Tryz.func38, Tryz.ntmps38
    go_wp2_with fail
    obtain ⟨W, hW⟩ : ∃ W, W = w.alloc (.cells #[.string en.path, .int .i64 en.kind, .int .i64 en.mode, .int .i64 en.time, .slice a en.data.length cap, .string en.link] 48) := ⟨_, rfl⟩
    rw [← hW]
    have HBW := Lib.hid (show Below w.heap.size w W by rw [hW]; exact (Below.refl _ _).alloc (Nat.le_refl _) _)
    have HBX := Lib.hid (show W.heap[w.heap.size]? = some (.cells #[.string en.path, .int .i64 en.kind, .int .i64 en.mode, .int .i64 en.time, .slice a en.data.length cap, .string en.link] 48 (0, 0)) by rw [hW]; exact new20 w _)
    clear hW
    refine (r_valid20_is en.path true _ HPS.out HV.out).mono ?_
    rintro e w1 ⟨rfl, hb1⟩
    have HB1 := Lib.hid (below_next HBW.out hb1)
    have HX1 := Lib.hid ((hb1.block w.heap.size (lt20 HBX.out)).trans HBX.out)
    clear hb1
    have c0 := cell20 (k := 0) HX1.out
    have c1 := cell20 (k := 1) HX1.out
    have c2 := cell20 (k := 2) HX1.out
    have c3 := cell20 (k := 3) HX1.out
    have c4 := cell20 (k := 4) HX1.out
    have c5 := cell20 (k := 5) HX1.out
    simp only [List.getElem?_toArray, List.getElem?_cons_succ, List.getElem?_cons_zero] at c0 c1 c2 c3 c4 c5
    go_wp2_with fail
    go_ret
    exact ⟨ret_bool (by rw [HF.out]), HB1.out⟩
  have e3 : decide (en.time < 0) = false := by simp [h3]
  by_cases h4 : en.kind < 1
  · have e4 : decide (en.kind < 1) = true := by simp [h4]
    have HF := Lib.hid (show vEnt en = false by unfold vEnt vKind; rw [if_neg (by omega), if_neg (by omega), if_neg (by omega)]; simp)
    clear hv
    go_enter Tryz.func38, Tryz.ntmps38
    go_wp2_with fail
    obtain ⟨W, hW⟩ : ∃ W, W = w.alloc (.cells #[.string en.path, .int .i64 en.kind, .int .i64 en.mode, .int .i64 en.time, .slice a en.data.length cap, .string en.link] 48) := ⟨_, rfl⟩
    rw [← hW]
    have HBW := Lib.hid (show Below w.heap.size w W by rw [hW]; exact (Below.refl _ _).alloc (Nat.le_refl _) _)
    have HBX := Lib.hid (show W.heap[w.heap.size]? = some (.cells #[.string en.path, .int .i64 en.kind, .int .i64 en.mode, .int .i64 en.time, .slice a en.data.length cap, .string en.link] 48 (0, 0)) by rw [hW]; exact new20 w _)
    clear hW
    refine (r_valid20_is en.path true _ HPS.out HV.out).mono ?_
    rintro e w1 ⟨rfl, hb1⟩
    have HB1 := Lib.hid (below_next HBW.out hb1)
    have HX1 := Lib.hid ((hb1.block w.heap.size (lt20 HBX.out)).trans HBX.out)
    clear hb1
    have c0 := cell20 (k := 0) HX1.out
    have c1 := cell20 (k := 1) HX1.out
    have c2 := cell20 (k := 2) HX1.out
    have c3 := cell20 (k := 3) HX1.out
    have c4 := cell20 (k := 4) HX1.out
    have c5 := cell20 (k := 5) HX1.out
    simp only [List.getElem?_toArray, List.getElem?_cons_succ, List.getElem?_cons_zero] at c0 c1 c2 c3 c4 c5
    go_wp2_with fail
    go_ret
    exact ⟨ret_bool (by rw [HF.out]), HB1.out⟩
  have e4 : decide (en.kind < 1) = false := by simp [h4]
  by_cases h5 : 3 < en.kind
  · have e5 : decide (3 < en.kind) = true := by simp [h5]
    have HF := Lib.hid (show vEnt en = false by unfold vEnt vKind; rw [if_neg (by omega), if_neg (by omega), if_neg (by omega)]; simp)
    clear hv
    go_enter Tryz.func38, Tryz.ntmps38
    go_wp2_with fail
    obtain ⟨W, hW⟩ : ∃ W, W = w.alloc (.cells #[.string en.path, .int .i64 en.kind, .int .i64 en.mode, .int .i64 en.time, .slice a en.data.length cap, .string en.link] 48) := ⟨_, rfl⟩
    rw [← hW]
    have HBW := Lib.hid (show Below w.heap.size w W by rw [hW]; exact (Below.refl _ _).alloc (Nat.le_refl _) _)
    have HBX := Lib.hid (show W.heap[w.heap.size]? = some (.cells #[.string en.path, .int .i64 en.kind, .int .i64 en.mode, .int .i64 en.time, .slice a en.data.length cap, .string en.link] 48 (0, 0)) by rw [hW]; exact new20 w _)
    clear hW
    refine (r_valid20_is en.path true _ HPS.out HV.out).mono ?_
    rintro e w1 ⟨rfl, hb1⟩
    have HB1 := Lib.hid (below_next HBW.out hb1)
    have HX1 := Lib.hid ((hb1.block w.heap.size (lt20 HBX.out)).trans HBX.out)
    clear hb1
    have c0 := cell20 (k := 0) HX1.out
    have c1 := cell20 (k := 1) HX1.out
    have c2 := cell20 (k := 2) HX1.out
    have c3 := cell20 (k := 3) HX1.out
    have c4 := cell20 (k := 4) HX1.out
    have c5 := cell20 (k := 5) HX1.out
    simp only [List.getElem?_toArray, List.getElem?_cons_succ, List.getElem?_cons_zero] at c0 c1 c2 c3 c4 c5
    go_wp2_with fail
    go_ret
    exact ⟨ret_bool (by rw [HF.out]), HB1.out⟩
  have e5 : decide (3 < en.kind) = false := by simp [h5]
  have HHD := Lib.hid (show vEnt en = vKind en by
    unfold vEnt vHeadE
    rw [hv, decide_eq_true (by omega : 0 ≤ en.mode), decide_eq_true (by omega : en.mode ≤ 511), decide_eq_true (by omega : 0 ≤ en.time)]; simp)
  by_cases h6 : en.kind ≠ 1 ∧ 0 < en.data.length
  · have e6 : (en.kind != 1) = true := by simp [h6.1]
    have e7 : decide (0 < en.data.length) = true := by simp [h6.2]
    have e8 : 0 < en.data.length := h6.2
    have HF := Lib.hid (show vEnt en = false by
      rw [HHD.out]; unfold vKind; rw [if_neg h6.1, decide_eq_false (by omega : ¬ en.data.length = 0)]; simp)
    clear hv h6
    go_enter Tryz.func38, Tryz.ntmps38
    go_wp2_with fail
    obtain ⟨W, hW⟩ : ∃ W, W = w.alloc (.cells #[.string en.path, .int .i64 en.kind, .int .i64 en.mode, .int .i64 en.time, .slice a en.data.length cap, .string en.link] 48) := ⟨_, rfl⟩
    rw [← hW]
    have HBW := Lib.hid (show Below w.heap.size w W by rw [hW]; exact (Below.refl _ _).alloc (Nat.le_refl _) _)
    have HBX := Lib.hid (show W.heap[w.heap.size]? = some (.cells #[.string en.path, .int .i64 en.kind, .int .i64 en.mode, .int .i64 en.time, .slice a en.data.length cap, .string en.link] 48 (0, 0)) by rw [hW]; exact new20 w _)
    clear hW
    refine (r_valid20_is en.path true _ HPS.out HV.out).mono ?_
    rintro e w1 ⟨rfl, hb1⟩
    have HB1 := Lib.hid (below_next HBW.out hb1)
    have HX1 := Lib.hid ((hb1.block w.heap.size (lt20 HBX.out)).trans HBX.out)
    clear hb1
    have c0 := cell20 (k := 0) HX1.out
    have c1 := cell20 (k := 1) HX1.out
    have c2 := cell20 (k := 2) HX1.out
    have c3 := cell20 (k := 3) HX1.out
    have c4 := cell20 (k := 4) HX1.out
    have c5 := cell20 (k := 5) HX1.out
    simp only [List.getElem?_toArray, List.getElem?_cons_succ, List.getElem?_cons_zero] at c0 c1 c2 c3 c4 c5
    go_wp2_with fail
    go_ret
    exact ⟨ret_bool (by rw [HF.out]), HB1.out⟩
  by_cases h7 : 1048576 < en.data.length
  · have hk1 : en.kind = 1 := by
      by_cases hk : en.kind = 1
      · exact hk
      · exact absurd ⟨hk, by omega⟩ h6
    have e6 : (en.kind != 1) = false := by simp [hk1]
    have e7 : decide (1048576 < en.data.length) = true := by simp [h7]
    have HF := Lib.hid (show vEnt en = false by
      rw [HHD.out]; unfold vKind; rw [if_pos hk1, decide_eq_false (by omega : ¬ en.data.length ≤ 1048576)]; simp)
    clear hv h6 hk1
    go_enter Tryz.func38, Tryz.ntmps38
    go_wp2_with fail
    obtain ⟨W, hW⟩ : ∃ W, W = w.alloc (.cells #[.string en.path, .int .i64 en.kind, .int .i64 en.mode, .int .i64 en.time, .slice a en.data.length cap, .string en.link] 48) := ⟨_, rfl⟩
    rw [← hW]
    have HBW := Lib.hid (show Below w.heap.size w W by rw [hW]; exact (Below.refl _ _).alloc (Nat.le_refl _) _)
    have HBX := Lib.hid (show W.heap[w.heap.size]? = some (.cells #[.string en.path, .int .i64 en.kind, .int .i64 en.mode, .int .i64 en.time, .slice a en.data.length cap, .string en.link] 48 (0, 0)) by rw [hW]; exact new20 w _)
    clear hW
    refine (r_valid20_is en.path true _ HPS.out HV.out).mono ?_
    rintro e w1 ⟨rfl, hb1⟩
    have HB1 := Lib.hid (below_next HBW.out hb1)
    have HX1 := Lib.hid ((hb1.block w.heap.size (lt20 HBX.out)).trans HBX.out)
    clear hb1
    have c0 := cell20 (k := 0) HX1.out
    have c1 := cell20 (k := 1) HX1.out
    have c2 := cell20 (k := 2) HX1.out
    have c3 := cell20 (k := 3) HX1.out
    have c4 := cell20 (k := 4) HX1.out
    have c5 := cell20 (k := 5) HX1.out
    simp only [List.getElem?_toArray, List.getElem?_cons_succ, List.getElem?_cons_zero] at c0 c1 c2 c3 c4 c5
    go_wp2_with fail
    go_ret
    exact ⟨ret_bool (by rw [HF.out]), HB1.out⟩
  have e7 : decide (1048576 < en.data.length) = false := by simp; omega
  have HKD := Lib.hid (show (en.kind = 1 ∨ en.kind = 2 ∨ en.kind = 3) ∧ en.data.length ≤ 1048576 ∧ (en.kind = 1 ∨ en.data.length = 0) from ⟨by omega, by omega, by
    by_cases hk : en.kind = 1
    · exact .inl hk
    · exact .inr (by rcases Nat.eq_zero_or_pos en.data.length with h | h; exact h; exact absurd ⟨hk, h⟩ h6)⟩)
  clear hv
  by_cases hk1 : en.kind = 1
  · have e6 : (en.kind != 1) = false := by simp [hk1]
    clear h6 hk1
    go_enter Tryz.func38, Tryz.ntmps38
    go_wp2_with fail
    obtain ⟨W, hW⟩ : ∃ W, W = w.alloc (.cells #[.string en.path, .int .i64 en.kind, .int .i64 en.mode, .int .i64 en.time, .slice a en.data.length cap, .string en.link] 48) := ⟨_, rfl⟩
    rw [← hW]
    have HBW := Lib.hid (show Below w.heap.size w W by rw [hW]; exact (Below.refl _ _).alloc (Nat.le_refl _) _)
    have HBX := Lib.hid (show W.heap[w.heap.size]? = some (.cells #[.string en.path, .int .i64 en.kind, .int .i64 en.mode, .int .i64 en.time, .slice a en.data.length cap, .string en.link] 48 (0, 0)) by rw [hW]; exact new20 w _)
    clear hW
    refine (r_valid20_is en.path true _ HPS.out HV.out).mono ?_
    rintro e w1 ⟨rfl, hb1⟩
    have HB1 := Lib.hid (below_next HBW.out hb1)
    have HX1 := Lib.hid ((hb1.block w.heap.size (lt20 HBX.out)).trans HBX.out)
    clear hb1
    have c0 := cell20 (k := 0) HX1.out
    have c1 := cell20 (k := 1) HX1.out
    have c2 := cell20 (k := 2) HX1.out
    have c3 := cell20 (k := 3) HX1.out
    have c4 := cell20 (k := 4) HX1.out
    have c5 := cell20 (k := 5) HX1.out
    simp only [List.getElem?_toArray, List.getElem?_cons_succ, List.getElem?_cons_zero] at c0 c1 c2 c3 c4 c5
    go_wp2_with fail
    go_loopw [3] (fun i wr => ∃ k : Nat, k ≤ en.link.size ∧ i = .int .i64 k ∧ (∀ j b, j < k → (bl en.link)[j]? = some b → b ≠ 0) ∧ Below w1.heap.size w1 wr) (fun i _ => en.link.size - (intOf i).toNat)
    case atStart => exact ⟨0, Nat.zero_le _, rfl, fun _ _ h => absurd h (Nat.not_lt_zero _), Below.refl _ _⟩
    case round =>
      obtain ⟨k, hk, rfl, hz, hbr⟩ := hrel
      have HZ := Lib.hid hz
      have HBR := Lib.hid hbr
      have HXR := Lib.hid ((hbr.block w.heap.size (lt20 HX1.out)).trans HX1.out)
      clear hz hbr c0 c1 c2 c3 c4 c5
      have c0 := cell20 (k := 0) HXR.out
      have c1 := cell20 (k := 1) HXR.out
      have c2 := cell20 (k := 2) HXR.out
      have c3 := cell20 (k := 3) HXR.out
      have c4 := cell20 (k := 4) HXR.out
      have c5 := cell20 (k := 5) HXR.out
      simp only [List.getElem?_toArray, List.getElem?_cons_succ, List.getElem?_cons_zero] at c0 c1 c2 c3 c4 c5
      by_cases hlt : k < en.link.size
      · have HBY := Lib.hid (show (bl en.link)[k]? = some en.link[k] by rw [List.getElem?_eq_getElem (by rw [← size_bl]; exact hlt)]; rfl)
        by_cases h0 : (en.link[k]'hlt).toNat = 0
        · have HF := Lib.hid (show vEnt en = false by
            rw [HHD.out]
            unfold vKind
            have hne : ¬ en.link.size = 0 := by omega
            have hct : (bl en.link).contains 0 = true := by
              have h9 : en.link[k]'hlt = 0 := UInt8.toNat_inj.1 h0
              have := HBY.out
              rw [h9] at this
              exact List.contains_iff_mem.2 (List.mem_of_getElem? this)
            rw [decide_eq_false hne]
            unfold vLinkB
            rw [hct]
            simp)
          go_wp2_with fail
          go_ret
          exact ⟨ret_bool (by rw [HF.out]), below_next HB1.out HBR.out⟩
        · have HNZ := Lib.hid h0
          go_wp2_with fail
          go_roundw
          case rel =>
            refine ⟨k + 1, by omega, by go_num, fun j b hj hb e => ?_, HBR.out⟩
            by_cases hjk : j = k
            · subst hjk
              rw [HBY.out] at hb
              have := Option.some.inj hb
              subst this
              exact HNZ.out (by rw [e]; rfl)
            · exact HZ.out j b (by omega) hb e
          case measure => simp [intOf]; omega
      · have hk2 : k = en.link.size := by omega
        have HNO := Lib.hid (show (bl en.link).contains 0 = false from noZero_iff.2 (fun j b hj e => by
          have h1 := (List.getElem?_eq_some_iff.1 hj).1
          exact HZ.out j b (by rw [hk2, size_bl]; exact h1) hj e))
        have HVK := Lib.hid (vKind_is HKD.out HNO.out)
        have HEM := Lib.hid (show en.link.toList.isEmpty = !decide (en.link.size ≠ 0) by rw [empty20]; by_cases h : en.link.size = 0 <;> simp [h, size_zero.1, ← size_zero])
        obtain ⟨b3, hb3⟩ : ∃ b, decide (en.kind = 3) = b := ⟨_, rfl⟩
        obtain ⟨be, hbe⟩ : ∃ b, decide (en.link.size ≠ 0) = b := ⟨_, rfl⟩
        obtain ⟨b5, hb5⟩ : ∃ b, decide (en.link.size ≤ 512) = b := ⟨_, rfl⟩
        have f3 : (en.kind == 3) = b3 := by rw [← hb3]; rfl
        have fe := HEM.out
        rw [hbe] at fe
        have HRS := Lib.hid (show vEnt en = ((b3 == be) && b5) by rw [HHD.out, HVK.out, hb3, hbe, hb5])
        have HB5 := Lib.hid hb5
        clear hbe hlt hk hb3 hb5
        cases b3 <;> cases be <;> simp only [Bool.not_true, Bool.not_false] at fe <;> (go_wp2_with fail) <;> (go_ret) <;> exact ⟨ret_bool (by rw [HRS.out, ← HB5.out]; simp [show (((en.link.size : Nat) : Int) ≤ 512 ↔ en.link.size ≤ 512) from by omega]), below_next HB1.out HBR.out⟩
  · have e6 : (en.kind != 1) = true := by simp [hk1]
    have e8 : decide (0 < en.data.length) = false := by rw [decide_eq_false_iff_not]; exact fun h => h6 ⟨hk1, h⟩
    clear h6 hk1
    go_enter Tryz.func38, Tryz.ntmps38
    go_wp2_with fail
    obtain ⟨W, hW⟩ : ∃ W, W = w.alloc (.cells #[.string en.path, .int .i64 en.kind, .int .i64 en.mode, .int .i64 en.time, .slice a en.data.length cap, .string en.link] 48) := ⟨_, rfl⟩
    rw [← hW]
    have HBW := Lib.hid (show Below w.heap.size w W by rw [hW]; exact (Below.refl _ _).alloc (Nat.le_refl _) _)
    have HBX := Lib.hid (show W.heap[w.heap.size]? = some (.cells #[.string en.path, .int .i64 en.kind, .int .i64 en.mode, .int .i64 en.time, .slice a en.data.length cap, .string en.link] 48 (0, 0)) by rw [hW]; exact new20 w _)
    clear hW
    refine (r_valid20_is en.path true _ HPS.out HV.out).mono ?_
    rintro e w1 ⟨rfl, hb1⟩
    have HB1 := Lib.hid (below_next HBW.out hb1)
    have HX1 := Lib.hid ((hb1.block w.heap.size (lt20 HBX.out)).trans HBX.out)
    clear hb1
    have c0 := cell20 (k := 0) HX1.out
    have c1 := cell20 (k := 1) HX1.out
    have c2 := cell20 (k := 2) HX1.out
    have c3 := cell20 (k := 3) HX1.out
    have c4 := cell20 (k := 4) HX1.out
    have c5 := cell20 (k := 5) HX1.out
    simp only [List.getElem?_toArray, List.getElem?_cons_succ, List.getElem?_cons_zero] at c0 c1 c2 c3 c4 c5
    go_wp2_with fail
    go_loopw [3] (fun i wr => ∃ k : Nat, k ≤ en.link.size ∧ i = .int .i64 k ∧ (∀ j b, j < k → (bl en.link)[j]? = some b → b ≠ 0) ∧ Below w1.heap.size w1 wr) (fun i _ => en.link.size - (intOf i).toNat)
    case atStart => exact ⟨0, Nat.zero_le _, rfl, fun _ _ h => absurd h (Nat.not_lt_zero _), Below.refl _ _⟩
    case round =>
      obtain ⟨k, hk, rfl, hz, hbr⟩ := hrel
      have HZ := Lib.hid hz
      have HBR := Lib.hid hbr
      have HXR := Lib.hid ((hbr.block w.heap.size (lt20 HX1.out)).trans HX1.out)
      clear hz hbr c0 c1 c2 c3 c4 c5
      have c0 := cell20 (k := 0) HXR.out
      have c1 := cell20 (k := 1) HXR.out
      have c2 := cell20 (k := 2) HXR.out
      have c3 := cell20 (k := 3) HXR.out
      have c4 := cell20 (k := 4) HXR.out
      have c5 := cell20 (k := 5) HXR.out
      simp only [List.getElem?_toArray, List.getElem?_cons_succ, List.getElem?_cons_zero] at c0 c1 c2 c3 c4 c5
      by_cases hlt : k < en.link.size
      · have HBY := Lib.hid (show (bl en.link)[k]? = some en.link[k] by rw [List.getElem?_eq_getElem (by rw [← size_bl]; exact hlt)]; rfl)
        by_cases h0 : (en.link[k]'hlt).toNat = 0
        · have HF := Lib.hid (show vEnt en = false by
            rw [HHD.out]
            unfold vKind
            have hne : ¬ en.link.size = 0 := by omega
            have hct : (bl en.link).contains 0 = true := by
              have h9 : en.link[k]'hlt = 0 := UInt8.toNat_inj.1 h0
              have := HBY.out
              rw [h9] at this
              exact List.contains_iff_mem.2 (List.mem_of_getElem? this)
            rw [decide_eq_false hne]
            unfold vLinkB
            rw [hct]
            simp)
          go_wp2_with fail
          go_ret
          exact ⟨ret_bool (by rw [HF.out]), below_next HB1.out HBR.out⟩
        · have HNZ := Lib.hid h0
          go_wp2_with fail
          go_roundw
          case rel =>
            refine ⟨k + 1, by omega, by go_num, fun j b hj hb e => ?_, HBR.out⟩
            by_cases hjk : j = k
            · subst hjk
              rw [HBY.out] at hb
              have := Option.some.inj hb
              subst this
              exact HNZ.out (by rw [e]; rfl)
            · exact HZ.out j b (by omega) hb e
          case measure => simp [intOf]; omega
      · have hk2 : k = en.link.size := by omega
        have HNO := Lib.hid (show (bl en.link).contains 0 = false from noZero_iff.2 (fun j b hj e => by
          have h1 := (List.getElem?_eq_some_iff.1 hj).1
          exact HZ.out j b (by rw [hk2, size_bl]; exact h1) hj e))
        have HVK := Lib.hid (vKind_is HKD.out HNO.out)
        have HEM := Lib.hid (show en.link.toList.isEmpty = !decide (en.link.size ≠ 0) by rw [empty20]; by_cases h : en.link.size = 0 <;> simp [h, size_zero.1, ← size_zero])
        obtain ⟨b3, hb3⟩ : ∃ b, decide (en.kind = 3) = b := ⟨_, rfl⟩
        obtain ⟨be, hbe⟩ : ∃ b, decide (en.link.size ≠ 0) = b := ⟨_, rfl⟩
        obtain ⟨b5, hb5⟩ : ∃ b, decide (en.link.size ≤ 512) = b := ⟨_, rfl⟩
        have f3 : (en.kind == 3) = b3 := by rw [← hb3]; rfl
        have fe := HEM.out
        rw [hbe] at fe
        have HRS := Lib.hid (show vEnt en = ((b3 == be) && b5) by rw [HHD.out, HVK.out, hb3, hbe, hb5])
        have HB5 := Lib.hid hb5
        clear hbe hlt hk hb3 hb5
        cases b3 <;> cases be <;> simp only [Bool.not_true, Bool.not_false] at fe <;> (go_wp2_with fail) <;> (go_ret) <;> exact ⟨ret_bool (by rw [HRS.out, ← HB5.out]; simp [show (((en.link.size : Nat) : Int) ≤ 512 ↔ en.link.size ≤ 512) from by omega]), below_next HB1.out HBR.out⟩
end Go.Proofs.YtdieneaillkbgaaGreatDoor

/- Contracts of the specification of chapter 18: rank, Compare, Within (chapter 18's own text, cut). -/
namespace Go.Proofs.YtdieneaillkbgaaGreatDoor
open Go.RowKit
theorem r_rank_any (c : Int) (w : World) (h0 : 0 ≤ c) (h1 : c ≤ 255) : Calls Tryz.prog 71 #[.int .u8 c] w fun e w' => e = .returned (.int .i64 (rankI c)) ∧ w = w' := by
  by_cases h : c = 47
  · subst h
    go_enter Tryz.func71, Tryz.ntmps71
    go_wp2
    go_ret
    exact ⟨rfl, rfl⟩
  · have hr : rankI c = c := if_neg h
    have HR := Lib.hid hr
    clear hr
    have h2 : (c == 47) = false := by simpa using h
    go_enter Tryz.func71, Tryz.ntmps71
    go_wp2
    go_ret
    exact ⟨ret_int HR.out.symm, rfl⟩
set_option maxHeartbeats 1000000 in
theorem r_compare_any (a b : ByteArray) (w : World) (ha : a.size ≤ 65536) :
    Calls Tryz.prog 39 #[.string a, .string b] w fun e w' => e = .returned (.int .i64 (cmpL (bl a) (bl b))) ∧ Below w.heap.size w w' := by
  go_enter Tryz.func39, Tryz.ntmps39
  go_wp2_with fail
  go_loopw [5] (fun i wr => ∃ k : Nat, k ≤ a.size ∧ k ≤ b.size ∧ i = .int .i64 k ∧ Below w.heap.size w wr ∧ cmpL (bl a) (bl b) = cmpL ((bl a).drop k) ((bl b).drop k)) (fun i _ => a.size - (intOf i).toNat)
  case atStart => exact ⟨0, Nat.zero_le _, Nat.zero_le _, rfl, Below.refl _ _, rfl⟩
  case round =>
    obtain ⟨k, hk1, hk2, rfl, hbw, hc⟩ := hrel
    have HC := Lib.hid hc
    have HB := Lib.hid hbw
    clear hc hbw
    by_cases hla : k < a.size
    · by_cases hlb : k < b.size
      · have i1 : (k : Int) < (a.size : Int) := by omega
        have i2 : (k : Int) < (b.size : Int) := by omega
        have hla' : k < (bl a).length := by rw [← size_bl]; exact hla
        have hlb' : k < (bl b).length := by rw [← size_bl]; exact hlb
        have hr1 := (a[k]).toNat_lt
        have hr2 := (b[k]).toNat_lt
        have hxa : rankL (bl a)[k] = rankI (a[k].toNat : Int) := by rw [rank_int]; exact congrArg rankL (byte_bl a k hla).symm
        have hyb : rankL (bl b)[k] = rankI (b[k].toNat : Int) := by rw [rank_int]; exact congrArg rankL (byte_bl b k hlb).symm
        have HXA := Lib.hid hxa
        have HYB := Lib.hid hyb
        clear hxa hyb
        rcases Int.lt_trichotomy (rankI (a[k].toNat : Int)) (rankI (b[k].toNat : Int)) with hxy | hxy | hxy
        · have HXY := Lib.hid hxy
          go_wp2_with fail
          go_quiet ((go_at_call 71; refine quietL (r_rank_any _ _ (by omega) (by omega))))
          go_wp2_with fail
          go_ret
          refine ⟨ret_int ?_, below_draws HB.out _⟩
          have hne : (bl a)[k] ≠ (bl b)[k] := by intro e; have := HXY.out; rw [← HXA.out, ← HYB.out, e] at this; omega
          rw [HC.out, cmp_stop hla' hlb' hne, HXA.out, HYB.out, Lib.compareInt, if_pos HXY.out]
        · have e1 : ¬ rankI (a[k].toNat : Int) < rankI (b[k].toNat : Int) := by omega
          have e2 : ¬ rankI (b[k].toNat : Int) < rankI (a[k].toNat : Int) := by omega
          have HXY := Lib.hid hxy
          clear hxy
          go_wp2_with fail
          go_quiet ((go_at_call 71; refine quietL (r_rank_any _ _ (by omega) (by omega))))
          go_wp2_with fail
          have hW : ∃ W, W = wr.drewN nq ∧ Below w.heap.size w W := ⟨_, rfl, below_draws HB.out nq⟩
          obtain ⟨W, hWe, hWb⟩ := hW
          rw [← hWe]
          have HB2 := Lib.hid hWb
          clear hWe hWb HB
          go_quiet ((go_at_call 71; refine quietL (r_rank_any _ _ (by omega) (by omega))))
          go_wp2_with fail
          go_roundw
          case rel =>
            refine ⟨k + 1, by omega, by omega, by go_num, below_draws HB2.out _, ?_⟩
            rw [HC.out]
            exact cmp_take hla' hlb' (rankL_inj (HXA.out.trans (HXY.out.trans HYB.out.symm)))
          case measure => simp [intOf]; omega
        · have e1 : ¬ rankI (a[k].toNat : Int) < rankI (b[k].toNat : Int) := by omega
          have HXY := Lib.hid hxy
          go_wp2_with fail
          go_quiet ((go_at_call 71; refine quietL (r_rank_any _ _ (by omega) (by omega))))
          go_wp2_with fail
          have hW : ∃ W, W = wr.drewN nq ∧ Below w.heap.size w W := ⟨_, rfl, below_draws HB.out nq⟩
          obtain ⟨W, hWe, hWb⟩ := hW
          rw [← hWe]
          have HB2 := Lib.hid hWb
          clear hWe hWb HB
          go_quiet ((go_at_call 71; refine quietL (r_rank_any _ _ (by omega) (by omega))))
          go_wp2_with fail
          go_ret
          refine ⟨ret_int ?_, below_draws HB2.out _⟩
          have hne : (bl a)[k] ≠ (bl b)[k] := by intro e; have := HXY.out; rw [← HXA.out, ← HYB.out, e] at this; omega
          rw [HC.out, cmp_stop hla' hlb' hne, HXA.out, HYB.out, Lib.compareInt, if_neg (by have := HXY.out; omega), if_pos HXY.out]
      · obtain rfl : k = b.size := by omega
        have i2 : decide ((b.size : Int) < (b.size : Int)) = false := by simp
        have i3 : (b.size : Int) < (a.size : Int) := by omega
        go_wp2_with fail
        go_ret
        refine ⟨ret_int ?_, HB.out⟩
        rw [HC.out, cmp_end (by rw [← size_bl]; omega) (by rw [← size_bl]; exact Nat.le_refl _) (.inr (by rw [← size_bl])), ← size_bl, ← size_bl, Lib.compareInt, if_neg (by omega), if_pos (by omega)]
    · obtain rfl : k = a.size := by omega
      rcases Nat.lt_or_ge a.size b.size with hlb | hlb
      · have i3 : (a.size : Int) < (b.size : Int) := by omega
        go_wp2_with fail
        go_ret
        refine ⟨ret_int ?_, HB.out⟩
        rw [HC.out, cmp_end (by rw [← size_bl]; exact Nat.le_refl _) (by rw [← size_bl]; omega) (.inl (by rw [← size_bl])), ← size_bl, ← size_bl, Lib.compareInt, if_pos (by omega)]
      · obtain heq : a.size = b.size := by omega
        have HEQ := Lib.hid heq
        have i3 : ¬ (a.size : Int) < (b.size : Int) := by omega
        have i4 : ¬ (b.size : Int) < (a.size : Int) := by omega
        clear heq
        go_wp2_with fail
        go_ret
        refine ⟨ret_int ?_, HB.out⟩
        rw [HC.out, cmp_end (by rw [← size_bl]; exact Nat.le_refl _) (by rw [← size_bl]; omega) (.inl (by rw [← size_bl])), ← size_bl, ← size_bl, Lib.compareInt, if_neg (by omega), if_neg (by omega)]
end Go.Proofs.YtdieneaillkbgaaGreatDoor

/- Contracts of the specification kinkeepref20: Check. -/
namespace Go.Proofs.YtdieneaillkbgaaGreatDoor
open Go.RowKit Go.Maps
theorem RowsIn.take {α : Type} {R : List Value → α → Prop} {sz : Nat} (hs : ∀ c x, R c x → c.length = sz) : ∀ {xs : List α} {cells : List Value} (k : Nat), RowsIn R cells xs → k ≤ xs.length → RowsIn R (cells.take (k * sz)) (xs.take k)
  | _, _, 0, _, _ => by simp [RowsIn]
  | [], _, k + 1, _, h => by simp at h
  | x :: xs, cells, k + 1, ⟨c, rest, hc, hx, hr⟩, h => by
    subst hc
    have hl := hs c x hx
    refine ⟨c, rest.take (k * sz), ?_, hx, RowsIn.take hs k hr (by simpa using h)⟩
    rw [List.take_append, hl, List.take_of_length_le (by rw [hl, Nat.succ_mul]; omega), Nat.succ_mul]
    congr 2; omega
theorem SeqAt.takeN {α : Type} {S : Nat → Prop} {w : World} {sz : Nat} {R : List Value → α → Prop} {a : Option Addr} {n cap : Nat} {xs : List α} (hs : ∀ c x, R c x → c.length = sz) (h : SeqAt S w sz R (.slice a n cap) xs) {k : Nat} (hk : k ≤ xs.length) : SeqAt S w sz R (.slice a k cap) (xs.take k) := by
  obtain ⟨cells, ⟨hl, a', cap', hv, hn, hm, h0⟩, hr⟩ := h
  cases hv
  have hlt : (xs.take k).length = k := by rw [List.length_take]; omega
  refine ⟨cells.take (k * sz), ⟨?_, a, cap, by rw [hlt], by omega, hm, ?_⟩, RowsIn.take hs k hr hk⟩
  · rw [List.length_take, hl, hlt]
    exact Nat.min_eq_left (Nat.mul_le_mul_right _ hk)
  · rcases h0 with h0 | ⟨b, o, ha, hb, hc⟩
    · exact .inl (by omega)
    · refine .inr ⟨b, o, ha, hb, fun j u hj => hc j u ?_⟩
      rw [List.getElem?_take] at hj
      split at hj
      · exact hj
      · cases hj
theorem r_validE_is (S : Nat → Prop) (en : Ent) (v : Value) (b : Bool) (w : World) (hd : DataAt S w v en.data) (hok : EntOk en) (hps : en.path.size ≤ 16777216) (h : vEnt en = b) : Calls Tryz.prog 38 #[entV v en] w fun e w' => e = .returned (.bool b) ∧ Below w.heap.size w w' := by
  rw [← h]; exact r_validE_any S en v w hd hok hps
theorem r_compare20 (a b : ByteArray) (o : Int) (w : World) (ha : a.size ≤ 65536) (h : cmpL (bl a) (bl b) = o) : Calls Tryz.prog 39 #[.string a, .string b] w fun e w' => e = .returned (.int .i64 o) ∧ Below w.heap.size w w' := by
  rw [← h]; exact r_compare_any a b w ha
theorem r_parent_is (s q : ByteArray) (w : World) (hs : s.size ≤ 65000) (hq : q = ⟨(parentL (bl s)).toArray⟩) : Calls Tryz.prog 41 #[.string s] w fun e w' => e = .returned (.string q) ∧ Below w.heap.size w w' := by
  rw [hq]; exact r_parent20_any s w hs
theorem r_dir_is (S : Nat → Prop) (L : List Ent) (v : Value) (p : ByteArray) (x : Int) (w : World) (hv : EntsAt S w v L) (hx : dirE L (bl p) = x) : Calls Tryz.prog 40 #[v, .string p] w fun e w' => e = .returned (.int .i64 x) ∧ Below w.heap.size w w' := by
  rw [← hx]; exact r_dir_any S L v p w hv
set_option maxRecDepth 100000 in
set_option maxHeartbeats 4000000 in
theorem r_check_any (S : Nat → Prop) (L : List Ent) (v : Value) (w : World) (hv : EntsAt S w v L) (hps : ∀ e ∈ L, e.path.size ≤ 65000) : Calls Tryz.prog 16 #[v] w fun e w' => e = .returned (.int .i64 (checkP L)) ∧ Below w.heap.size w w' := by
  have HV := Lib.hid hv
  obtain ⟨a, cap, rfl, hc, hm, -⟩ := SeqAt.shape hv EntR.len
  unfold maxLen at hm
  obtain ⟨n, hn⟩ : ∃ n, n = L.length := ⟨_, rfl⟩
  have HN := Lib.hid hn
  rw [← hn] at hc HV ⊢
  clear hv
  by_cases hbig : 4096 < n
  · have hbi : (4096 : Int) < (n : Int) := by omega
    have HC := Lib.hid (check_big (by rw [← hn]; exact hbig))
    clear hbig hn
    go_enter Tryz.func16, Tryz.ntmps16
    go_wp2_with fail
    go_ret
    exact ⟨ret_int (by rw [HC.out]), Below.refl _ _⟩
  · have hbi : (n : Int) ≤ (4096 : Int) := by omega
    have HL4 := Lib.hid (show L.length ≤ 4096 by omega)
    have HPS := Lib.hid hps
    clear hbig hn hps
    go_enter Tryz.func16, Tryz.ntmps16
    go_wp2_with fail
    go_loopw [11] (fun i wr => ∃ k : Nat, k ≤ n ∧ i = .int .i64 k ∧ Tr (L.take k) ∧ Below w.heap.size w wr) (fun i _ => n - (intOf i).toNat)
    case atStart => exact ⟨0, Nat.zero_le _, rfl, ⟨List.Pairwise.nil, by simp, by simp⟩, Below.refl _ _⟩
    case round =>
      obtain ⟨k, hk, rfl, htr, hbr⟩ := hrel
      have HTR := Lib.hid htr
      have HBR := Lib.hid hbr
      clear htr hbr
      by_cases hlt : k < n
      · obtain ⟨e, he⟩ : ∃ e, L[k]? = some e := ⟨L[k]'(by rw [← HN.out]; exact hlt), by simp⟩
        obtain ⟨b, o, dv, rfl, -, hb, hd, hok, -, q0, q1, q2, q3, q4, q5⟩ := ents_at (HV.out.below HBR.out) he
        have HAT := Lib.hid he
        have HD := Lib.hid hd
        have HOK := Lib.hid hok
        have HPP := Lib.hid (HPS.out e (List.mem_of_getElem? he))
        have HPZ := Lib.hid (show e.path.size ≤ 16777216 by have := HPP.out; omega)
        obtain ⟨a1, cap1, rfl, hd1, hd2⟩ := hd.slice
        unfold maxLen at hd2
        have hkc : k ≤ cap := by omega
        have HKN := Lib.hid (show k ≤ L.length by rw [← HN.out]; omega)
        clear he hd hok
        cases hve : vEnt e
        · have HVE := Lib.hid hve
          have HCA := Lib.hid (show checkAt (L.take k) e = 1 by unfold checkAt; rw [hve]; rfl)
          clear hve
          go_wp2_with fail
          refine wp_region_segs [some 1, none, some 13, none, some 3] (by kernel_rfl) (by kernel_rfl) (by kernel_rfl) ?_
          simp only [wpSegs, List.take_succ_cons, List.take_zero, List.drop_succ_cons, List.drop_zero]
          obtain ⟨W, hW⟩ : ∃ W : World, W = (wr.alloc (.cells #[.string e.path, .int .i64 e.kind, .int .i64 e.mode, .int .i64 e.time, .slice a1 e.data.length cap1, .string e.link] 48)).drew := ⟨_, rfl⟩
          rw [← hW]
          have HWL := Lib.hid (show Below wr.heap.size wr W by rw [hW]; exact ((Below.refl _ _).alloc (Nat.le_refl _) _).drew)
          have HX := Lib.hid (show W.heap[wr.heap.size]? = some (.cells #[.string e.path, .int .i64 e.kind, .int .i64 e.mode, .int .i64 e.time, .slice a1 e.data.length cap1, .string e.link] 48 (0, 0)) by rw [hW]; exact new20 wr _)
          have HBW := Lib.hid (below_next HBR.out HWL.out)
          clear hW
          have c0 := cell20 (k := 0) HX.out
          have c1 := cell20 (k := 1) HX.out
          have c2 := cell20 (k := 2) HX.out
          have c3 := cell20 (k := 3) HX.out
          have c4 := cell20 (k := 4) HX.out
          have c5 := cell20 (k := 5) HX.out
          simp only [List.getElem?_toArray, List.getElem?_cons_succ, List.getElem?_cons_zero] at c0 c1 c2 c3 c4 c5
          repeat (first | (refine seg_skip rfl ?_; simp only [Act.put, List.setIfInBounds_toArray, List.set_cons_succ, List.set_cons_zero]) | (refine seg_run rfl (fun K hK => ?_); go_simp; refine hK _ ?_; clear hK K))
          refine seg_nil ?_
          refine bar_run rfl (fun K hK => ?_)
          go_wp2_with (go_at_call 38; refine (r_validE_is S e (.slice a1 e.data.length cap1) false _ (HD.out.below HWL.out) HOK.out HPZ.out HVE.out).mono ?_; rintro e7 w7 ⟨rfl, hb7⟩; have HL7 := Lib.hid (HWL.out.trans (hb7.mono HWL.out.size)); have HX7 := Lib.hid ((hb7.block wr.heap.size (lt20 HX.out)).trans HX.out); clear hb7 c0 c1 c2 c3 c4 c5)
          repeat (first | (refine seg_skip rfl ?_; simp only [Act.put, List.setIfInBounds_toArray, List.set_cons_succ, List.set_cons_zero]) | (refine seg_run rfl (fun K hK => ?_); go_simp; refine hK _ ?_; clear hK K))
          refine seg_nil ?_
          refine bar_skip rfl ?_
          simp only [Act.put, List.setIfInBounds_toArray, List.set_cons_succ, List.set_cons_zero]
          repeat (first | (refine seg_skip rfl ?_; simp only [Act.put, List.setIfInBounds_toArray, List.set_cons_succ, List.set_cons_zero]) | (refine seg_run rfl (fun K hK => ?_); go_simp; refine hK _ ?_; clear hK K))
          refine seg_nil ?_
          have HB9 := Lib.hid (below_next HBR.out HL7.out)
          go_wp2_with fail
          go_ret
          exact ⟨ret_int (by rw [check_stop HL4.out HTR.out HAT.out (x := 1) HCA.out (by decide)]), HB9.out⟩
        · have HVE := Lib.hid hve
          obtain ⟨q, hq⟩ : ∃ q : ByteArray, q = ⟨(parentL (bl e.path)).toArray⟩ := ⟨_, rfl⟩
          have HBQ := Lib.hid (show bl q = parentL (bl e.path) by rw [hq]; exact bl_mk _)
          have HQ := Lib.hid hq
          clear hve hq
          rcases Nat.eq_zero_or_pos k with hk0 | hk0
          · have e9 : decide (0 < k) = false := by simp; omega
            have e8 : (k : Int) ≤ 0 := by omega
            have HCV := Lib.hid (show (vEnt e && afterE (L.take k) e) = true by rw [hk0, HVE.out]; rfl)
            clear hk0
            obtain ⟨x, hx⟩ : ∃ x, dirE (L.take k) (bl q) = x := ⟨_, rfl⟩
            have HDX := Lib.hid hx
            have HCA := Lib.hid (show checkAt (L.take k) e = x by unfold checkAt; rw [if_pos HCV.out, ← HBQ.out, hx])
            clear hx
            go_wp2_with fail
            refine wp_region_segs [some 1, none, some 13, none, some 3] (by kernel_rfl) (by kernel_rfl) (by kernel_rfl) ?_
            simp only [wpSegs, List.take_succ_cons, List.take_zero, List.drop_succ_cons, List.drop_zero]
            obtain ⟨W, hW⟩ : ∃ W : World, W = (wr.alloc (.cells #[.string e.path, .int .i64 e.kind, .int .i64 e.mode, .int .i64 e.time, .slice a1 e.data.length cap1, .string e.link] 48)).drew := ⟨_, rfl⟩
            rw [← hW]
            have HWL := Lib.hid (show Below wr.heap.size wr W by rw [hW]; exact ((Below.refl _ _).alloc (Nat.le_refl _) _).drew)
            have HX := Lib.hid (show W.heap[wr.heap.size]? = some (.cells #[.string e.path, .int .i64 e.kind, .int .i64 e.mode, .int .i64 e.time, .slice a1 e.data.length cap1, .string e.link] 48 (0, 0)) by rw [hW]; exact new20 wr _)
            have HBW := Lib.hid (below_next HBR.out HWL.out)
            clear hW
            have c0 := cell20 (k := 0) HX.out
            have c1 := cell20 (k := 1) HX.out
            have c2 := cell20 (k := 2) HX.out
            have c3 := cell20 (k := 3) HX.out
            have c4 := cell20 (k := 4) HX.out
            have c5 := cell20 (k := 5) HX.out
            simp only [List.getElem?_toArray, List.getElem?_cons_succ, List.getElem?_cons_zero] at c0 c1 c2 c3 c4 c5
            repeat (first | (refine seg_skip rfl ?_; simp only [Act.put, List.setIfInBounds_toArray, List.set_cons_succ, List.set_cons_zero]) | (refine seg_run rfl (fun K hK => ?_); go_simp; refine hK _ ?_; clear hK K))
            refine seg_nil ?_
            refine bar_run rfl (fun K hK => ?_)
            go_wp2_with (go_at_call 38; refine (r_validE_is S e (.slice a1 e.data.length cap1) true _ (HD.out.below HWL.out) HOK.out HPZ.out HVE.out).mono ?_; rintro e7 w7 ⟨rfl, hb7⟩; have HL7 := Lib.hid (HWL.out.trans (hb7.mono HWL.out.size)); have HX7 := Lib.hid ((hb7.block wr.heap.size (lt20 HX.out)).trans HX.out); clear hb7 c0 c1 c2 c3 c4 c5)
            repeat (first | (refine seg_skip rfl ?_; simp only [Act.put, List.setIfInBounds_toArray, List.set_cons_succ, List.set_cons_zero]) | (refine seg_run rfl (fun K hK => ?_); go_simp; refine hK _ ?_; clear hK K))
            refine seg_nil ?_
            refine bar_skip rfl ?_
            simp only [Act.put, List.setIfInBounds_toArray, List.set_cons_succ, List.set_cons_zero]
            repeat (first | (refine seg_skip rfl ?_; simp only [Act.put, List.setIfInBounds_toArray, List.set_cons_succ, List.set_cons_zero]) | (refine seg_run rfl (fun K hK => ?_); go_simp; refine hK _ ?_; clear hK K))
            refine seg_nil ?_
            go_wp2_with fail
            refine hld_start (fun w' => w'.cell? ⟨wr.heap.size, 0, none⟩ = some (.string e.path)) (by kernel_rfl) ?_
            obtain ⟨V, hV⟩ : ∃ V : World, V = (w7).drew := ⟨_, rfl⟩
            rw [← hV]
            have HLV := Lib.hid (show Below wr.heap.size wr V by rw [hV]; exact HL7.out.trans ((Below.refl (w7).heap.size (w7)).drew.mono HL7.out.size))
            have HXV := Lib.hid (show V.heap[wr.heap.size]? = some (.cells #[.string e.path, .int .i64 e.kind, .int .i64 e.mode, .int .i64 e.time, .slice a1 e.data.length cap1, .string e.link] 48 (0, 0)) by rw [hV]; exact HX7.out)
            clear hV
            have hS1 := cell20 (k := 0) HXV.out
            simp only [List.getElem?_toArray, List.getElem?_cons_zero] at hS1
            refine hld_take 0 rfl (by kernel_rfl) (by kernel_rfl) (by kernel_rfl) (fun _ _ _ h => h) rfl hS1 (by intro w' hw1; go_simp; rfl) ?_
            simp only [Act.put, List.setIfInBounds_toArray, List.set_cons_succ, List.set_cons_zero]
            refine hld_take 1 rfl (by kernel_rfl) (by kernel_rfl) (by kernel_rfl) (fun _ _ _ h => h) rfl hS1 (by intro w' hw1; go_simp; rfl) ?_
            simp only [Act.put, List.setIfInBounds_toArray, List.set_cons_succ, List.set_cons_zero]
            refine hld_take 2 rfl (by kernel_rfl) (by kernel_rfl) (by kernel_rfl) (fun _ _ _ h => h) rfl hS1 (by intro w' hw1; go_simp; rfl) ?_
            simp only [Act.put, List.setIfInBounds_toArray, List.set_cons_succ, List.set_cons_zero]
            refine hld_take 3 rfl (by kernel_rfl) (by kernel_rfl) (by kernel_rfl) (fun _ _ _ h => h) rfl hS1 (by intro w' hw1; go_simp; rfl) ?_
            simp only [Act.put, List.setIfInBounds_toArray, List.set_cons_succ, List.set_cons_zero]
            refine hld_take 4 rfl (by kernel_rfl) (by kernel_rfl) (by kernel_rfl) (fun _ _ _ h => h) rfl hS1 (by intro w' hw1; go_simp; rfl) ?_
            simp only [Act.put, List.setIfInBounds_toArray, List.set_cons_succ, List.set_cons_zero]
            refine hld_bar 5 rfl (by kernel_rfl) rfl (fun K hK => ?_)
            go_wp2_with (go_at_call 41; refine (r_parent_is e.path q _ HPP.out HQ.out).mono ?_; rintro e9 w9 ⟨rfl, hb9⟩)
            have HL9 := Lib.hid (HLV.out.trans (hb9.mono HLV.out.size))
            have hS2 := (hb9.cell (block_lt hS1)).trans hS1
            clear hb9
            refine ⟨hS2, ?_⟩
            refine hld_bar 6 rfl (by kernel_rfl) rfl (fun K hK => ?_)
            have HTK := Lib.hid (show EntsAt S w9 (.slice (some ⟨b, o, none⟩) (k) cap) (L.take (k)) from SeqAt.takeN EntR.len (HV.out.below (below_next HBR.out HL9.out)) HKN.out)
            go_wp2_with (go_at_call 40; refine (r_dir_is S (L.take (k)) (.slice (some ⟨b, o, none⟩) (k) cap) q x _ HTK.out HDX.out).mono ?_; rintro ea wa ⟨rfl, hba⟩)
            have HLA := Lib.hid (HL9.out.trans (hba.mono HL9.out.size))
            have hS1 := (hba.cell (block_lt hS2)).trans hS2
            clear hba
            refine ⟨hS1, ?_⟩
            refine hld_take 7 rfl (by kernel_rfl) (by kernel_rfl) (by kernel_rfl) (fun _ _ _ h => h) rfl hS1 (by intro w' hw1; go_simp; rfl) ?_
            simp only [Act.put, List.setIfInBounds_toArray, List.set_cons_succ, List.set_cons_zero]
            refine hld_done (by kernel_rfl) ?_
            have HBA := Lib.hid (below_next HBR.out HLA.out)
            clear hS1 hS2
            by_cases h0 : x = 0
            · subst h0
              have HTN := Lib.hid (check_next HTR.out HAT.out HCA.out)
              go_wp2_with fail
              go_roundw
              case rel => exact ⟨k + 1, by omega, by go_num, HTN.out, HBA.out⟩
              case measure => simp [intOf]; omega
            · have e1 : (x != 0) = true := by simp [h0]
              have HX0 := Lib.hid h0
              clear h0
              go_wp2_with fail
              go_ret
              exact ⟨ret_int (by rw [check_stop HL4.out HTR.out HAT.out (x := x) HCA.out HX0.out]), HBA.out⟩
          · obtain ⟨j, rfl⟩ : ∃ j, k = j + 1 := ⟨k - 1, by omega⟩
            obtain ⟨f, hf⟩ : ∃ f, L[j]? = some f := ⟨L[j]'(by rw [← HN.out]; omega), by simp⟩
            obtain ⟨b', o', dv', he', -, -, -, hokf, -, p0, -⟩ := ents_at (HV.out.below HBR.out) hf
            simp only [Option.some.injEq, Addr.mk.injEq, and_true] at he'
            obtain ⟨rfl, rfl⟩ := he'
            have HPF := Lib.hid (show f.path.size ≤ 65536 by have := HPS.out f (List.mem_of_getElem? hf); omega)
            obtain ⟨c, hc⟩ : ∃ c, cmpL (bl f.path) (bl e.path) = c := ⟨_, rfl⟩
            have HC := Lib.hid hc
            have e9 : decide (0 < j + 1) = true := by simp
            have hjn : j < n := by omega
            have hjn2 : (j : Int) < (n : Int) := by omega
            have hjn3 : decide (j < n) = true := by simp; omega
            have hjc : 0 ≤ (j : Int) + 1 ∧ (j : Int) + 1 ≤ (cap : Int) := by omega
            have hwj : IntKind.i64.wrap (j : Int) = j := by rw [IntKind.wrap_i64]; omega
            have HAF := Lib.hid (show afterE (L.take (j + 1)) e = decide (c < 0) by rw [after_at hf, hc])
            clear hf hokf hc hk0
            by_cases hneg : c < 0
            · have HCV := Lib.hid (show (vEnt e && afterE (L.take (j + 1)) e) = true by rw [HVE.out, HAF.out, decide_eq_true hneg]; rfl)
              have e8 : decide (0 ≤ c) = false := by simp; omega
              obtain ⟨x, hx⟩ : ∃ x, dirE (L.take (j + 1)) (bl q) = x := ⟨_, rfl⟩
              have HDX := Lib.hid hx
              have HCA := Lib.hid (show checkAt (L.take (j + 1)) e = x by unfold checkAt; rw [if_pos HCV.out, ← HBQ.out, hx])
              clear hx
              go_wp2_with fail
              refine wp_region_segs [some 1, none, some 13, none, some 3] (by kernel_rfl) (by kernel_rfl) (by kernel_rfl) ?_
              simp only [wpSegs, List.take_succ_cons, List.take_zero, List.drop_succ_cons, List.drop_zero]
              obtain ⟨W, hW⟩ : ∃ W : World, W = (wr.alloc (.cells #[.string e.path, .int .i64 e.kind, .int .i64 e.mode, .int .i64 e.time, .slice a1 e.data.length cap1, .string e.link] 48)).drew := ⟨_, rfl⟩
              rw [← hW]
              have HWL := Lib.hid (show Below wr.heap.size wr W by rw [hW]; exact ((Below.refl _ _).alloc (Nat.le_refl _) _).drew)
              have HX := Lib.hid (show W.heap[wr.heap.size]? = some (.cells #[.string e.path, .int .i64 e.kind, .int .i64 e.mode, .int .i64 e.time, .slice a1 e.data.length cap1, .string e.link] 48 (0, 0)) by rw [hW]; exact new20 wr _)
              have HBW := Lib.hid (below_next HBR.out HWL.out)
              clear hW
              have c0 := cell20 (k := 0) HX.out
              have c1 := cell20 (k := 1) HX.out
              have c2 := cell20 (k := 2) HX.out
              have c3 := cell20 (k := 3) HX.out
              have c4 := cell20 (k := 4) HX.out
              have c5 := cell20 (k := 5) HX.out
              simp only [List.getElem?_toArray, List.getElem?_cons_succ, List.getElem?_cons_zero] at c0 c1 c2 c3 c4 c5
              repeat (first | (refine seg_skip rfl ?_; simp only [Act.put, List.setIfInBounds_toArray, List.set_cons_succ, List.set_cons_zero]) | (refine seg_run rfl (fun K hK => ?_); go_simp; refine hK _ ?_; clear hK K))
              refine seg_nil ?_
              refine bar_run rfl (fun K hK => ?_)
              go_wp2_with (go_at_call 38; refine (r_validE_is S e (.slice a1 e.data.length cap1) true _ (HD.out.below HWL.out) HOK.out HPZ.out HVE.out).mono ?_; rintro e7 w7 ⟨rfl, hb7⟩; have HL7 := Lib.hid (HWL.out.trans (hb7.mono HWL.out.size)); have HX7 := Lib.hid ((hb7.block wr.heap.size (lt20 HX.out)).trans HX.out); clear hb7 c0 c1 c2 c3 c4 c5)
              have c0 := cell20 (k := 0) HX7.out
              have c1 := cell20 (k := 1) HX7.out
              have c2 := cell20 (k := 2) HX7.out
              have c3 := cell20 (k := 3) HX7.out
              have c4 := cell20 (k := 4) HX7.out
              have c5 := cell20 (k := 5) HX7.out
              simp only [List.getElem?_toArray, List.getElem?_cons_succ, List.getElem?_cons_zero] at c0 c1 c2 c3 c4 c5
              have y0 := (HL7.out.cell (block_lt p0)).trans p0
              repeat (first | (refine seg_skip rfl ?_; simp only [Act.put, List.setIfInBounds_toArray, List.set_cons_succ, List.set_cons_zero]) | (refine seg_run rfl (fun K hK => ?_); go_simp; refine hK _ ?_; clear hK K))
              refine seg_nil ?_
              refine bar_run rfl (fun K hK => ?_)
              go_wp2_with (go_at_call 39; refine (r_compare20 f.path e.path c _ HPF.out HC.out).mono ?_; rintro e8' w8 ⟨rfl, hb8⟩; have HL8 := Lib.hid (HL7.out.trans (hb8.mono HL7.out.size)); have HX8 := Lib.hid ((hb8.block wr.heap.size (lt20 HX7.out)).trans HX7.out); clear hb8 c0 c1 c2 c3 c4 c5 y0)
              repeat (first | (refine seg_skip rfl ?_; simp only [Act.put, List.setIfInBounds_toArray, List.set_cons_succ, List.set_cons_zero]) | (refine seg_run rfl (fun K hK => ?_); go_simp; refine hK _ ?_; clear hK K))
              refine seg_nil ?_
              go_wp2_with fail
              refine hld_start (fun w' => w'.cell? ⟨wr.heap.size, 0, none⟩ = some (.string e.path)) (by kernel_rfl) ?_
              obtain ⟨V, hV⟩ : ∃ V : World, V = (w8).drew := ⟨_, rfl⟩
              rw [← hV]
              have HLV := Lib.hid (show Below wr.heap.size wr V by rw [hV]; exact HL8.out.trans ((Below.refl (w8).heap.size (w8)).drew.mono HL8.out.size))
              have HXV := Lib.hid (show V.heap[wr.heap.size]? = some (.cells #[.string e.path, .int .i64 e.kind, .int .i64 e.mode, .int .i64 e.time, .slice a1 e.data.length cap1, .string e.link] 48 (0, 0)) by rw [hV]; exact HX8.out)
              clear hV
              have hS1 := cell20 (k := 0) HXV.out
              simp only [List.getElem?_toArray, List.getElem?_cons_zero] at hS1
              refine hld_take 0 rfl (by kernel_rfl) (by kernel_rfl) (by kernel_rfl) (fun _ _ _ h => h) rfl hS1 (by intro w' hw1; go_simp; rfl) ?_
              simp only [Act.put, List.setIfInBounds_toArray, List.set_cons_succ, List.set_cons_zero]
              refine hld_take 1 rfl (by kernel_rfl) (by kernel_rfl) (by kernel_rfl) (fun _ _ _ h => h) rfl hS1 (by intro w' hw1; go_simp; rfl) ?_
              simp only [Act.put, List.setIfInBounds_toArray, List.set_cons_succ, List.set_cons_zero]
              refine hld_take 2 rfl (by kernel_rfl) (by kernel_rfl) (by kernel_rfl) (fun _ _ _ h => h) rfl hS1 (by intro w' hw1; go_simp; rfl) ?_
              simp only [Act.put, List.setIfInBounds_toArray, List.set_cons_succ, List.set_cons_zero]
              refine hld_take 3 rfl (by kernel_rfl) (by kernel_rfl) (by kernel_rfl) (fun _ _ _ h => h) rfl hS1 (by intro w' hw1; go_simp; rfl) ?_
              simp only [Act.put, List.setIfInBounds_toArray, List.set_cons_succ, List.set_cons_zero]
              refine hld_take 4 rfl (by kernel_rfl) (by kernel_rfl) (by kernel_rfl) (fun _ _ _ h => h) rfl hS1 (by intro w' hw1; go_simp; rfl) ?_
              simp only [Act.put, List.setIfInBounds_toArray, List.set_cons_succ, List.set_cons_zero]
              refine hld_bar 5 rfl (by kernel_rfl) rfl (fun K hK => ?_)
              go_wp2_with (go_at_call 41; refine (r_parent_is e.path q _ HPP.out HQ.out).mono ?_; rintro e9 w9 ⟨rfl, hb9⟩)
              have HL9 := Lib.hid (HLV.out.trans (hb9.mono HLV.out.size))
              have hS2 := (hb9.cell (block_lt hS1)).trans hS1
              clear hb9
              refine ⟨hS2, ?_⟩
              refine hld_bar 6 rfl (by kernel_rfl) rfl (fun K hK => ?_)
              have HTK := Lib.hid (show EntsAt S w9 (.slice (some ⟨b, o, none⟩) (j + 1) cap) (L.take (j + 1)) from SeqAt.takeN EntR.len (HV.out.below (below_next HBR.out HL9.out)) HKN.out)
              go_wp2_with (go_at_call 40; refine (r_dir_is S (L.take (j + 1)) (.slice (some ⟨b, o, none⟩) (j + 1) cap) q x _ HTK.out HDX.out).mono ?_; rintro ea wa ⟨rfl, hba⟩)
              have HLA := Lib.hid (HL9.out.trans (hba.mono HL9.out.size))
              have hS1 := (hba.cell (block_lt hS2)).trans hS2
              clear hba
              refine ⟨hS1, ?_⟩
              refine hld_take 7 rfl (by kernel_rfl) (by kernel_rfl) (by kernel_rfl) (fun _ _ _ h => h) rfl hS1 (by intro w' hw1; go_simp; rfl) ?_
              simp only [Act.put, List.setIfInBounds_toArray, List.set_cons_succ, List.set_cons_zero]
              refine hld_done (by kernel_rfl) ?_
              have HBA := Lib.hid (below_next HBR.out HLA.out)
              clear hS1 hS2
              by_cases h0 : x = 0
              · subst h0
                have HTN := Lib.hid (check_next HTR.out HAT.out HCA.out)
                go_wp2_with fail
                go_roundw
                case rel => exact ⟨j + 1 + 1, by omega, by go_num, HTN.out, HBA.out⟩
                case measure => simp [intOf]; omega
              · have e1 : (x != 0) = true := by simp [h0]
                have HX0 := Lib.hid h0
                clear h0
                go_wp2_with fail
                go_ret
                exact ⟨ret_int (by rw [check_stop HL4.out HTR.out HAT.out (x := x) HCA.out HX0.out]), HBA.out⟩
            · have HCA := Lib.hid (show checkAt (L.take (j + 1)) e = 1 by unfold checkAt; rw [HAF.out, decide_eq_false hneg]; simp)
              have e8 : decide (0 ≤ c) = true := by simp; omega
              have e7 : 0 ≤ c := by omega
              go_wp2_with fail
              refine wp_region_segs [some 1, none, some 13, none, some 3] (by kernel_rfl) (by kernel_rfl) (by kernel_rfl) ?_
              simp only [wpSegs, List.take_succ_cons, List.take_zero, List.drop_succ_cons, List.drop_zero]
              obtain ⟨W, hW⟩ : ∃ W : World, W = (wr.alloc (.cells #[.string e.path, .int .i64 e.kind, .int .i64 e.mode, .int .i64 e.time, .slice a1 e.data.length cap1, .string e.link] 48)).drew := ⟨_, rfl⟩
              rw [← hW]
              have HWL := Lib.hid (show Below wr.heap.size wr W by rw [hW]; exact ((Below.refl _ _).alloc (Nat.le_refl _) _).drew)
              have HX := Lib.hid (show W.heap[wr.heap.size]? = some (.cells #[.string e.path, .int .i64 e.kind, .int .i64 e.mode, .int .i64 e.time, .slice a1 e.data.length cap1, .string e.link] 48 (0, 0)) by rw [hW]; exact new20 wr _)
              have HBW := Lib.hid (below_next HBR.out HWL.out)
              clear hW
              have c0 := cell20 (k := 0) HX.out
              have c1 := cell20 (k := 1) HX.out
              have c2 := cell20 (k := 2) HX.out
              have c3 := cell20 (k := 3) HX.out
              have c4 := cell20 (k := 4) HX.out
              have c5 := cell20 (k := 5) HX.out
              simp only [List.getElem?_toArray, List.getElem?_cons_succ, List.getElem?_cons_zero] at c0 c1 c2 c3 c4 c5
              repeat (first | (refine seg_skip rfl ?_; simp only [Act.put, List.setIfInBounds_toArray, List.set_cons_succ, List.set_cons_zero]) | (refine seg_run rfl (fun K hK => ?_); go_simp; refine hK _ ?_; clear hK K))
              refine seg_nil ?_
              refine bar_run rfl (fun K hK => ?_)
              go_wp2_with (go_at_call 38; refine (r_validE_is S e (.slice a1 e.data.length cap1) true _ (HD.out.below HWL.out) HOK.out HPZ.out HVE.out).mono ?_; rintro e7 w7 ⟨rfl, hb7⟩; have HL7 := Lib.hid (HWL.out.trans (hb7.mono HWL.out.size)); have HX7 := Lib.hid ((hb7.block wr.heap.size (lt20 HX.out)).trans HX.out); clear hb7 c0 c1 c2 c3 c4 c5)
              have c0 := cell20 (k := 0) HX7.out
              have c1 := cell20 (k := 1) HX7.out
              have c2 := cell20 (k := 2) HX7.out
              have c3 := cell20 (k := 3) HX7.out
              have c4 := cell20 (k := 4) HX7.out
              have c5 := cell20 (k := 5) HX7.out
              simp only [List.getElem?_toArray, List.getElem?_cons_succ, List.getElem?_cons_zero] at c0 c1 c2 c3 c4 c5
              have y0 := (HL7.out.cell (block_lt p0)).trans p0
              repeat (first | (refine seg_skip rfl ?_; simp only [Act.put, List.setIfInBounds_toArray, List.set_cons_succ, List.set_cons_zero]) | (refine seg_run rfl (fun K hK => ?_); go_simp; refine hK _ ?_; clear hK K))
              refine seg_nil ?_
              refine bar_run rfl (fun K hK => ?_)
              go_wp2_with (go_at_call 39; refine (r_compare20 f.path e.path c _ HPF.out HC.out).mono ?_; rintro e8' w8 ⟨rfl, hb8⟩; have HL8 := Lib.hid (HL7.out.trans (hb8.mono HL7.out.size)); clear hb8 c0 c1 c2 c3 c4 c5 y0)
              repeat (first | (refine seg_skip rfl ?_; simp only [Act.put, List.setIfInBounds_toArray, List.set_cons_succ, List.set_cons_zero]) | (refine seg_run rfl (fun K hK => ?_); go_simp; refine hK _ ?_; clear hK K))
              refine seg_nil ?_
              have HB9 := Lib.hid (below_next HBR.out HL8.out)
              go_wp2_with fail
              go_ret
              exact ⟨ret_int (by rw [check_stop HL4.out HTR.out HAT.out (x := 1) HCA.out (by decide)]), HB9.out⟩
      · have hk2 : k = n := by omega
        subst hk2
        go_wp2_with fail
        go_ret
        exact ⟨ret_int (by rw [check_done HL4.out (by rw [← HN.out]; exact HTR.out)]), HBR.out⟩
end Go.Proofs.YtdieneaillkbgaaGreatDoor

/- Rows of entries: their parts, and a list with one more entry in its midst. -/
namespace Go.Proofs.YtdieneaillkbgaaGreatDoor
open Go Go.RowKit Go.Maps
theorem entsC_app (xs ys : List VEnt) : entsC (xs ++ ys) = entsC xs ++ entsC ys := by simp [entsC]
theorem entsC_take : ∀ (ys : List VEnt) (k : Nat), entsC (ys.take k) = (entsC ys).take (k * 6)
  | [], k => by simp [entsC]
  | y :: ys, 0 => by simp [entsC]
  | y :: ys, k + 1 => by
    have := entsC_take ys k
    unfold entsC at this ⊢
    rw [List.take_succ_cons, List.flatMap_cons, List.flatMap_cons, this, show (k + 1) * 6 = (entC y.1 y.2).length + k * 6 by show _ = 6 + _; omega, List.take_length_add_append]
theorem entsC_drop : ∀ (ys : List VEnt) (k : Nat), entsC (ys.drop k) = (entsC ys).drop (k * 6)
  | [], k => by simp [entsC]
  | y :: ys, 0 => by simp [entsC]
  | y :: ys, k + 1 => by
    have := entsC_drop ys k
    unfold entsC at this ⊢
    rw [List.drop_succ_cons, List.flatMap_cons, this, show (k + 1) * 6 = (entC y.1 y.2).length + k * 6 by show _ = 6 + _; omega, List.drop_length_add_append]
/-- A list of entries, as values and entries. -/
structure ListV (S : Nat → Prop) (w : World) (v : Value) (ys : List VEnt) : Prop where
  row : RowAt S w 6 v ys.length (entsC ys)
  dat : ∀ y ∈ ys, DataAt S w y.1 y.2.data ∧ EntOk y.2
theorem rows_list {S : Nat → Prop} {w : World} : ∀ {L : List Ent} {cells : List Value}, RowsIn (EntR S w) cells L → ∃ ys : List VEnt, ys.map Prod.snd = L ∧ cells = entsC ys ∧ ∀ y ∈ ys, DataAt S w y.1 y.2.data ∧ EntOk y.2
  | [], cells, h => ⟨[], rfl, h, by simp⟩
  | e :: L, cells, h => by
    obtain ⟨c, rest, rfl, ⟨v, rfl, hd, hok⟩, hr⟩ := h
    obtain ⟨ys, h1, rfl, h2⟩ := rows_list hr
    refine ⟨(v, e) :: ys, by simp [h1], by simp [entsC], fun y hy => ?_⟩
    rcases List.mem_cons.1 hy with rfl | hy
    · exact ⟨hd, hok⟩
    · exact h2 y hy
theorem EntsAt.listV {S : Nat → Prop} {w : World} {v : Value} {L : List Ent} (h : EntsAt S w v L) : ∃ ys, ys.map Prod.snd = L ∧ ListV S w v ys := by
  obtain ⟨cells, h1, h2⟩ := h
  obtain ⟨ys, rfl, rfl, h3⟩ := rows_list h2
  exact ⟨ys, rfl, by simpa using h1, h3⟩
theorem ListV.ents {S : Nat → Prop} {w : World} {v : Value} {ys : List VEnt} (h : ListV S w v ys) : EntsAt S w v (ys.map Prod.snd) := ⟨entsC ys, by simpa using h.row, entsC_in h.dat⟩
theorem row_take {S : Nat → Prop} {w : World} {sz n c k : Nat} {a : Option Addr} {cells : List Value} (h : RowAt S w sz (.slice a n c) n cells) (hk : k ≤ n) : RowAt S w sz (.slice a k c) k (cells.take (k * sz)) := by
  obtain ⟨hl, a', cap, he, hn, hm, h0⟩ := h
  cases he
  refine ⟨by rw [List.length_take, hl]; exact Nat.min_eq_left (Nat.mul_le_mul_right _ hk), a, c, rfl, by omega, hm, ?_⟩
  rcases h0 with h0 | ⟨b, o, ha, hb, hc⟩
  · exact .inl (by omega)
  · refine .inr ⟨b, o, ha, hb, fun j u hj => hc j u ?_⟩
    rw [List.getElem?_take] at hj
    split at hj
    · exact hj
    · cases hj
theorem row_drop {S : Nat → Prop} {w : World} {sz n c k b o : Nat} {cells : List Value} (h : RowAt S w sz (.slice (some ⟨b, o, none⟩) n c) n cells) (hk : k ≤ n) : RowAt S w sz (.slice (some ⟨b, o + k * sz, none⟩) (n - k) (c - k)) (n - k) (cells.drop (k * sz)) := by
  obtain ⟨hl, a', cap, he, hn, hm, h0⟩ := h
  cases he
  refine ⟨by rw [List.length_drop, hl, Nat.sub_mul], _, _, rfl, by omega, by omega, ?_⟩
  rcases h0 with h0 | ⟨b', o', ha, hb, hc⟩
  · exact .inl (by omega)
  · cases ha
    refine .inr ⟨b, _, rfl, hb, fun j u hj => ?_⟩
    rw [List.getElem?_drop] at hj
    rw [Nat.add_assoc]
    exact hc _ u hj
/-- The empty rest of a row, wherever its value points. -/
theorem row_none {S : Nat → Prop} {w : World} {sz c : Nat} {a : Option Addr} (hc : c ≤ maxLen) : RowAt S w sz (.slice a 0 c) 0 [] := ⟨by simp, a, c, rfl, Nat.zero_le _, hc, .inl rfl⟩
end Go.Proofs.YtdieneaillkbgaaGreatDoor

/- Contracts of the specification kinkeepref20: sorted. -/
namespace Go.Proofs.YtdieneaillkbgaaGreatDoor
open Go Go.RowKit Go.Maps
theorem entsC_oneC {S : Nat → Prop} {w : World} {ys : List VEnt} (h : ∀ y ∈ ys, DataAt S w y.1 y.2.data ∧ EntOk y.2) : ∀ u ∈ entsC ys, u.oneCell' = true := by
  intro u hu
  unfold entsC at hu
  obtain ⟨y, hy, hu⟩ := List.mem_flatMap.1 hu
  obtain ⟨a, c, hv, -, -⟩ := (h y hy).1.slice
  rw [hv] at hu
  exact entC_one u hu
theorem row_one {w : World} {z : Nat} {dv : Value} {e : Ent} (h : w.heap[z]? = some (.cells #[.string e.path, .int .i64 e.kind, .int .i64 e.mode, .int .i64 e.time, dv, .string e.link] 48 (0, 0))) : RowAt (fun k => k = z) w 6 (.slice (some ⟨z, 0, none⟩) 1 1) 1 (entC dv e) :=
  ⟨rfl, _, 1, rfl, Nat.le_refl _, by unfold maxLen; omega, .inr ⟨z, 0, rfl, rfl, fun j u hj => by
    rw [Nat.zero_add, cell20 h]
    simpa [entC, List.getElem?_toArray] using hj⟩⟩
/-- The list with one more entry, where all of it lies. -/
theorem ins_end {S T : Nat → Prop} {w W U : World} {B0 j : Nat} {ys : List VEnt} {y : VEnt} {v : Value} (hb : Below w.heap.size w U) (hd : ∀ x ∈ ys, DataAt T w x.1 x.2.data ∧ EntOk x.2) (hy : DataAt T w y.1 y.2.data ∧ EntOk y.2) (hj : j ≤ ys.length)
    (hown : U.ownsRow W.heap.size 48 6 v (j + 1 + (ys.length - j)) ((entsC (ys.take j) ++ entC y.1 y.2) ++ entsC (ys.drop j))) (hB : B0 ≤ W.heap.size) (hT : ∀ k, T k → S k) (hS : ∀ k, B0 ≤ k → S k) : EntsAt S U v ((ys.map Prod.snd).take j ++ [y.2] ++ (ys.map Prod.snd).drop j) := by
  have h1 := row_of_owns hown
  have hc : (entsC (ys.take j) ++ entC y.1 y.2) ++ entsC (ys.drop j) = entsC (ys.take j ++ [y] ++ ys.drop j) := by rw [entsC_app, entsC_app]; simp [entsC]
  have hn : j + 1 + (ys.length - j) = (ys.take j ++ [y] ++ ys.drop j).length := by simp; omega
  rw [hc, hn] at h1
  have hm : (ys.map Prod.snd).take j ++ [y.2] ++ (ys.map Prod.snd).drop j = (ys.take j ++ [y] ++ ys.drop j).map Prod.snd := by simp [List.map_take, List.map_drop]
  rw [hm]
  refine ListV.ents ⟨h1.weak (fun k hk => hS k (Nat.le_trans hB hk.1)), fun x hx => ?_⟩
  have hx2 : x = y ∨ x ∈ ys := by
    rcases List.mem_append.1 hx with hx | hx
    · rcases List.mem_append.1 hx with hx | hx
      · exact .inr (List.mem_of_mem_take hx)
      · exact .inl (List.mem_singleton.1 hx)
    · exact .inr (List.mem_of_mem_drop hx)
  rcases hx2 with rfl | hx
  · exact ⟨data_mono (hy.1.below hb) hT, hy.2⟩
  · exact ⟨data_mono ((hd x hx).1.below hb) hT, (hd x hx).2⟩
end Go.Proofs.YtdieneaillkbgaaGreatDoor
