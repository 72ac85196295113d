/- Texts of this proof, one after the other: RwL, RwJ, RwM, RwC. -/
import Derived.Test.YtdieneaillkbgaaGreatDoorCAppliesG
/- The reference kinkeepref23: Diff, what its loops keep. -/
namespace Go.Proofs.YtdieneaillkbgaaGreatDoor
open Go Go.RowKit Go.Maps
theorem gone_take {a b : List Ent} {k : Nat} {e : Ent} (h : a[k]? = some e) : goneE (a.take (k + 1)) b = goneE (a.take k) b ++ if (!keptE b e) = true then [e] else [] := by
  unfold goneE
  rw [List.take_add_one, h, List.filter_append]
  congr 1
  cases hp : (!keptE b e)
  · rw [if_neg (by simp)]; simp at hp; simp [hp]
  · rw [if_pos rfl]; simp at hp; simp [hp]
structure LoopH (a b : List Ent) (w : World) (k : Nat) (v : Value) (ys : List VEnt) (wr : World) : Prop where
  out : ys.map Prod.snd = goneE (a.take k) b
  row : wr.ownsRow w.heap.size 48 6 v ys.length (entsC ys)
  dat : ∀ y ∈ ys, DataAt (fun j => j < w.heap.size) w y.1 y.2.data ∧ EntOk y.2
  bel : Below w.heap.size w wr
/-- A row of the specification's changes under way: its data lie in old memory. -/
structure RowC (B0 B : Nat) (w0 w : World) (v : Value) (ys : List VChg) (l : List Chg) : Prop where
  out : ys.map Prod.snd = l
  row : w.ownsRow B 50 9 v ys.length (chgsC ys)
  dat : ∀ y ∈ ys, DataAt (fun j => j < B0) w0 y.1 y.2.en.data ∧ ChgOk y.2
def Apart (v u : Value) : Prop := ∀ k, v.ownBlock = some k → u.ownBlock ≠ some k
theorem Apart.symm {v u : Value} (h : Apart v u) : Apart u v := fun k h1 h2 => h k h2 h1
theorem RowC.below {B0 B : Nat} {w0 w w' : World} {v : Value} {ys : List VChg} {l : List Chg} (h : RowC B0 B w0 w v ys l) (hb : Below w.heap.size w w') : RowC B0 B w0 w' v ys l := ⟨h.out, own_below h.row hb, h.dat⟩
/-- Another row, in another block, has grown. -/
theorem RowC.other {B0 B : Nat} {w0 w w' : World} {v : Value} {r : Option Nat} {ys : List VChg} {l : List Chg} (h : RowC B0 B w0 w v ys l) (hg : w.grownBy w' r) (ha : ∀ k, v.ownBlock = some k → r ≠ some k) : RowC B0 B w0 w' v ys l :=
  ⟨h.out, h.row.kept hg (by
    cases hv : v.ownBlock with
    | none => exact .inl rfl
    | some k => exact .inr fun e => ha k hv e.symm), h.dat⟩
/-- The row that has grown. -/
theorem RowC.push {B0 B : Nat} {w0 w w' : World} {v : Value} {ys : List VChg} {l : List Chg} {dv : Value} {c : Chg} (h : RowC B0 B w0 w v ys l) (hd : DataAt (fun j => j < B0) w0 dv c.en.data) (hok : ChgOk c) {v' : Value}
    (hown : w'.ownsRow B 50 9 v' (ys.length + 1) (chgsC ys ++ chgC dv c)) : RowC B0 B w0 w' v' (ys ++ [(dv, c)]) (l ++ [c]) :=
  ⟨by rw [List.map_append, h.out]; rfl, by rw [List.length_append, List.length_singleton, chgsC_snoc]; exact hown, fun y hy => by
    rcases List.mem_append.1 hy with hy | hy
    · exact h.dat y hy
    · rw [List.mem_singleton] at hy
      subst hy
      exact ⟨hd, hok⟩⟩
/-- A row stays apart from one that has grown. -/
theorem Apart.grown {B : Nat} {w : World} {v u u' : Value} {t : TypeId} {sz n : Nat} {xs : List Value} (h : Apart v u) (hrow : w.ownsRow B t sz v n xs) (hpl : ∀ k, u'.ownBlock = some k → u.ownBlock = some k ∨ w.heap.size ≤ k) : Apart v u' := by
  intro k h1 h2
  rcases hpl k h2 with h3 | h3
  · exact h k h1 h3
  · have := (own_lt hrow h1).2
    omega
theorem Apart.grown2 {B : Nat} {w : World} {v u v' : Value} {t : TypeId} {sz n : Nat} {xs : List Value} (h : Apart v u) (hrow : w.ownsRow B t sz u n xs) (hpl : ∀ k, v'.ownBlock = some k → v.ownBlock = some k ∨ w.heap.size ≤ k) : Apart v' u := (h.symm.grown hrow hpl).symm
/-- The loop over the second tree: three rows under way, and the marks. -/
structure LoopY (w w2 : World) (ub : Nat) (s : RSt) (vm vd vy : Value) (ym yd yy : List VChg) (wr : World) : Prop where
  mo : RowC w.heap.size w2.heap.size w wr vm ym s.mo
  ad : RowC w.heap.size w2.heap.size w wr vd yd s.ad
  md : RowC w.heap.size w2.heap.size w wr vy yy s.md
  a1 : Apart vm vd
  a2 : Apart vm vy
  a3 : Apart vd vy
  us : wr.heap[ub]? = some (.cells (marks s.u) 4 (0, 0))
  ul : ub < w2.heap.size
  bel : Below ub w2 wr
section
variable {w w2 wr w' : World} {ub : Nat} {s : RSt} {vm vd vy : Value} {ym yd yy : List VChg}
theorem LoopY.size (h : LoopY w w2 ub s vm vd vy ym yd yy wr) : w2.heap.size ≤ wr.heap.size := h.bel.size
theorem LoopY.below (h : LoopY w w2 ub s vm vd vy ym yd yy wr) (hb : Below wr.heap.size wr w') : LoopY w w2 ub s vm vd vy ym yd yy w' :=
  ⟨h.mo.below hb, h.ad.below hb, h.md.below hb, h.a1, h.a2, h.a3, (hb.block ub (lt20 h.us)).trans h.us, h.ul, h.bel.trans (hb.mono (Nat.le_of_lt (lt20 h.us)))⟩
theorem LoopY.pushMd (h : LoopY w w2 ub s vm vd vy ym yd yy wr) {dv v' : Value} {c : Chg} (hd : DataAt (fun j => j < w.heap.size) w dv c.en.data) (hok : ChgOk c) (hown : w'.ownsRow w2.heap.size 50 9 v' (yy.length + 1) (chgsC yy ++ chgC dv c)) (hg : wr.grownBy w' vy.ownBlock) (hpl : ∀ k, v'.ownBlock = some k → vy.ownBlock = some k ∨ wr.heap.size ≤ k) :
    LoopY w w2 ub ⟨s.u, s.mo, s.ad, s.md ++ [c]⟩ vm vd v' ym yd (yy ++ [(dv, c)]) w' :=
  ⟨h.mo.other hg h.a2, h.ad.other hg h.a3, h.md.push hd hok hown, h.a1, h.a2.grown h.mo.row hpl, h.a3.grown h.ad.row hpl,
   (hg.block ub (lt20 h.us) (fun e => by have := (own_lt h.md.row e.symm).1; have := h.ul; omega)).trans h.us, h.ul, below_grown h.bel h.md.row hg (Nat.le_of_lt h.ul) (Nat.le_of_lt (lt20 h.us))⟩
theorem LoopY.pushAd (h : LoopY w w2 ub s vm vd vy ym yd yy wr) {dv v' : Value} {c : Chg} (hd : DataAt (fun j => j < w.heap.size) w dv c.en.data) (hok : ChgOk c) (hown : w'.ownsRow w2.heap.size 50 9 v' (yd.length + 1) (chgsC yd ++ chgC dv c)) (hg : wr.grownBy w' vd.ownBlock) (hpl : ∀ k, v'.ownBlock = some k → vd.ownBlock = some k ∨ wr.heap.size ≤ k) :
    LoopY w w2 ub ⟨s.u, s.mo, s.ad ++ [c], s.md⟩ vm v' vy ym (yd ++ [(dv, c)]) yy w' :=
  ⟨h.mo.other hg h.a1, h.ad.push hd hok hown, h.md.other hg h.a3.symm, h.a1.grown h.mo.row hpl, h.a2, h.a3.grown2 h.md.row hpl,
   (hg.block ub (lt20 h.us) (fun e => by have := (own_lt h.ad.row e.symm).1; have := h.ul; omega)).trans h.us, h.ul, below_grown h.bel h.ad.row hg (Nat.le_of_lt h.ul) (Nat.le_of_lt (lt20 h.us))⟩
theorem LoopY.pushMo (h : LoopY w w2 ub s vm vd vy ym yd yy wr) {dv v' : Value} {c : Chg} (hd : DataAt (fun j => j < w.heap.size) w dv c.en.data) (hok : ChgOk c) (hown : w'.ownsRow w2.heap.size 50 9 v' (ym.length + 1) (chgsC ym ++ chgC dv c)) (hg : wr.grownBy w' vm.ownBlock) (hpl : ∀ k, v'.ownBlock = some k → vm.ownBlock = some k ∨ wr.heap.size ≤ k) :
    LoopY w w2 ub ⟨s.u, s.mo ++ [c], s.ad, s.md⟩ v' vd vy (ym ++ [(dv, c)]) yd yy w' :=
  ⟨h.mo.push hd hok hown, h.ad.other hg h.a1.symm, h.md.other hg h.a2.symm, h.a1.grown2 h.ad.row hpl, h.a2.grown2 h.md.row hpl, h.a3,
   (hg.block ub (lt20 h.us) (fun e => by have := (own_lt h.mo.row e.symm).1; have := h.ul; omega)).trans h.us, h.ul, below_grown h.bel h.mo.row hg (Nat.le_of_lt h.ul) (Nat.le_of_lt (lt20 h.us))⟩
theorem LoopY.mark (h : LoopY w w2 ub s vm vd vy ym yd yy wr) (i : Nat) : LoopY w w2 ub ⟨s.u.set i true, s.mo, s.ad, s.md⟩ vm vd vy ym yd yy (wr.setCell ⟨ub, i, none⟩ (.bool true)) :=
  ⟨h.mo.other (grown_set ub i _) (fun k hk e => by cases e; have := (own_lt h.mo.row hk).1; have := h.ul; omega),
   h.ad.other (grown_set ub i _) (fun k hk e => by cases e; have := (own_lt h.ad.row hk).1; have := h.ul; omega),
   h.md.other (grown_set ub i _) (fun k hk e => by cases e; have := (own_lt h.md.row hk).1; have := h.ul; omega),
   h.a1, h.a2, h.a3, by rw [← marks_set]; exact set20 h.us _, h.ul, below_set20 h.bel (Nat.le_refl _)⟩
end
/-- The first of the first k entries that fits. -/
def fromK (y : Ent) (g : List Ent) (u : List Bool) (k : Nat) : Option Nat := (List.range k).find? fun i => match g[i]?, u[i]? with
  | some x, some b => !b && (alikeE x y && (decide (y.kind = 3) || decide (0 < y.data.length)))
  | _, _ => false
def fromV : Option Nat → Int
  | none => -1
  | some i => (i : Int)
theorem from_all (y : Ent) (g : List Ent) (u : List Bool) : fromK y g u g.length = fromIx y g u := rfl
theorem from_some {y : Ent} {g : List Ent} {u : List Bool} {i j : Nat} (h : fromK y g u i = some j) : fromK y g u (i + 1) = some j := by
  unfold fromK at *
  rw [List.range_succ, List.find?_append, h]; rfl
theorem from_none {y x : Ent} {g : List Ent} {u : List Bool} {i : Nat} {b : Bool} (h : fromK y g u i = none) (hx : g[i]? = some x) (hb : u[i]? = some b) : fromK y g u (i + 1) = if (!b && wantY y x) = true then some i else none := by
  unfold fromK wantY at *
  rw [List.range_succ, List.find?_append, h, Option.none_or, List.find?_singleton]
  simp only [hx, hb]
theorem fold_len {a g : List Ent} : ∀ (b : List Ent) (s : RSt), (b.foldl (stepR a g) s).u.length = s.u.length
  | [], _ => rfl
  | y :: b, s => by
    rw [List.foldl_cons, fold_len b]
    unfold stepR
    split
    · split <;> rfl
    · split
      · rfl
      · exact List.length_set
theorem step_small (a g : List Ent) (s : RSt) (y : Ent) : (stepR a g s y).mo.length ≤ s.mo.length + 1 ∧ (stepR a g s y).ad.length ≤ s.ad.length + 1 ∧ (stepR a g s y).md.length ≤ s.md.length + 1 := by
  unfold stepR
  split
  · split <;> simp
  · split <;> simp
theorem fold_small {a g : List Ent} : ∀ (b : List Ent) (s : RSt), (b.foldl (stepR a g) s).mo.length ≤ s.mo.length + b.length ∧ (b.foldl (stepR a g) s).ad.length ≤ s.ad.length + b.length ∧ (b.foldl (stepR a g) s).md.length ≤ s.md.length + b.length
  | [], _ => ⟨Nat.le_refl _, Nat.le_refl _, Nat.le_refl _⟩
  | y :: b, s => by
    have h1 := fold_small (a := a) (g := g) b (stepR a g s y)
    have h2 := step_small a g s y
    rw [List.foldl_cons, List.length_cons]
    omega
theorem RowC.len {B0 B : Nat} {w0 w : World} {v : Value} {ys : List VChg} {l : List Chg} (h : RowC B0 B w0 w v ys l) : ys.length = l.length := by rw [← h.out, List.length_map]
theorem fold_take {a g b : List Ent} {s0 : RSt} {k : Nat} {y : Ent} (h : b[k]? = some y) : (b.take (k + 1)).foldl (stepR a g) s0 = stepR a g ((b.take k).foldl (stepR a g) s0) y := by
  rw [List.take_add_one, h, Option.toList_some, List.foldl_append]; rfl
theorem unused_take : ∀ {G : List Ent} {u : List Bool} {k : Nat} {g : Ent} {b : Bool}, G[k]? = some g → u[k]? = some b → unused (G.take (k + 1)) u = unused (G.take k) u ++ if b then [] else [g]
  | [], _, _, _, _, h, _ => by simp at h
  | _ :: _, [], _, _, _, _, h => by simp at h
  | x :: G, c :: u, 0, g, b, h, h2 => by
    simp only [List.getElem?_cons_zero, Option.some.injEq] at h h2
    subst h h2
    have e (l : List Bool) : unused [] l = [] := by unfold unused; simp
    rw [List.take_succ_cons, List.take_zero, List.take_zero, unused_cons, e, e]
    cases c <;> rfl
  | x :: G, c :: u, k + 1, g, b, h, h2 => by
    rw [List.getElem?_cons_succ] at h h2
    rw [List.take_succ_cons, List.take_succ_cons, unused_cons, unused_cons, unused_take h h2]
    cases c <;> simp
theorem chg_ok {k : Int} (hk : (Lit.int .i64 k).wf = true) {p q : ByteArray} (hp : p.size ≤ maxLen) (hq : q.size ≤ maxLen) {y : Ent} (hy : EntOk y) : ChgOk ⟨k, p, q, y⟩ := ⟨hk, hp, hq, hy⟩
theorem noPath_ok : noPath.size ≤ maxLen := by decide
theorem chgsC_oneC {S : Nat → Prop} {w : World} {ys : List VChg} (h : ∀ y ∈ ys, DataAt S w y.1 y.2.en.data ∧ ChgOk y.2) : ∀ u ∈ chgsC ys, u.oneCell' = true := by
  intro u hu
  unfold chgsC at hu
  obtain ⟨y, hy, hu⟩ := List.mem_flatMap.1 hu
  obtain ⟨a, c, he, -⟩ := (h y hy).1.slice
  unfold encC at hu
  rw [he] at hu
  exact chgC_one u hu
theorem chgsC_app (xs ys : List VChg) : chgsC (xs ++ ys) = chgsC xs ++ chgsC ys := by unfold chgsC; rw [List.flatMap_append]
theorem chgs_shared {B : Nat} {w0 w : World} {v : Value} {ys : List VChg} (h : w.ownsRow B 50 9 v ys.length (chgsC ys)) (hb : Below w0.heap.size w0 w) (hd : ∀ y ∈ ys, DataAt (fun j => j < w0.heap.size) w0 y.1 y.2.en.data ∧ ChgOk y.2) : ChgsAt (fun _ => True) w v (ys.map Prod.snd) := by
  refine ⟨chgsC ys, ?_, chgsC_in (fun y hy => ⟨data_mono ((hd y hy).1.below hb) (fun _ _ => trivial), (hd y hy).2⟩)⟩
  rw [List.length_map]
  exact RowAt.mono (row_of_owns h) (fun k hk hS => trivial) (by omega)
theorem rem_ok {g : Ent} (h : g.path.size ≤ maxLen) : ChgOk (remC g) := ⟨show (Lit.int .i64 1).wf = true by decide, h, noPath_ok, noEnt_ok⟩
/-- The loop over what goes. -/
structure LoopZ (G : List Ent) (u : List Bool) (w w3 : World) (k : Nat) (v : Value) (zs : List VChg) (wr : World) : Prop where
  row : RowC w.heap.size w3.heap.size w wr v zs ((unused (G.take k) u).map remC)
  bel : Below w3.heap.size w3 wr
end Go.Proofs.YtdieneaillkbgaaGreatDoor

/- The reference kinkeepref23: Diff (under way). -/
namespace Go.Proofs.YtdieneaillkbgaaGreatDoor
open Go Go.RowKit Go.Maps
set_option maxRecDepth 100000 in
set_option maxHeartbeats 40000000 in
theorem r_diff_any (S T : Nat → Prop) (a b : List Ent) (va vb : Value) (w : World) (ha : EntsAt S w va a) (hb : EntsAt T w vb b) (hta : TOk a) (htb : TOk b) (hna : a.length ≤ 4096) (hnb : b.length ≤ 4096) :
  Calls Tryz.prog 18 #[va, vb] w fun e w' => ∃ v, e = .returned v ∧ ChgsAt (fun _ => True) w' v (diffP a b) ∧ Below w.heap.size w w' := by
 have HA := Lib.hid (ents_old ha)
 have HB := Lib.hid (ents_old hb)
 have HTA := Lib.hid hta
 have HTB := Lib.hid htb
 obtain ⟨aa, ca, rfl, hca, hma, -⟩ := SeqAt.shape ha EntR.len
 obtain ⟨ab, cb, rfl, hcb, hmb, -⟩ := SeqAt.shape hb EntR.len
 unfold maxLen at hma hmb
 obtain ⟨n, hn⟩ : ∃ n, n = a.length := ⟨_, rfl⟩
 obtain ⟨m, hm⟩ : ∃ m, m = b.length := ⟨_, rfl⟩
 rw [← hn] at hca hna HA ⊢
 rw [← hm] at hcb hnb HB ⊢
 have HN := Lib.hid hn
 have HM := Lib.hid hm
 clear ha hb hta htb hn hm
 go_enter Tryz.func18, Tryz.ntmps18
 go_wp2_with fail
 go_loopw [5, 23] (fun v i wr => ∃ (k : Nat) (ys : List VEnt), k ≤ n ∧ i = .int .i64 k ∧ LoopH a b w k v ys wr) (fun _ i _ => n - (intOf i).toNat)
 case atStart => exact ⟨0, [], Nat.zero_le _, rfl, by simp [goneE], World.ownsRow_nil _ _ _ _, by simp, Below.refl _ _⟩
 case round =>
  obtain ⟨k, ys, hk, rfl, hlp⟩ := hrel
  obtain ⟨av, cv, hsv, hvn, hvm⟩ := owns_shape hlp.row
  subst hsv
  unfold maxLen at hvm
  have hyl : ys.length ≤ 65536 := by
   have := congrArg List.length hlp.out
   have h2 := List.length_filter_le (fun x : Ent => !keptE b x) (a.take k)
   unfold goneE at this
   rw [List.length_map] at this
   rw [List.length_take] at h2
   omega
  have HLP := Lib.hid hlp
  clear hlp
  by_cases hlt : k < n
  ·obtain ⟨e, hcc⟩ : ∃ e, a[k]? = some e := ⟨a[k]'(by rw [← HN.out]; exact hlt), by simp⟩
   obtain ⟨b0, o0, dv, rfl, -, hb0, hd, hok, -, q0, q1, q2, q3, q4, q5⟩ := ents_at HA.out hcc
   replace q0 := (HLP.out.bel.cell hb0).trans q0
   replace q1 := (HLP.out.bel.cell hb0).trans q1
   replace q2 := (HLP.out.bel.cell hb0).trans q2
   replace q3 := (HLP.out.bel.cell hb0).trans q3
   replace q4 := (HLP.out.bel.cell hb0).trans q4
   replace q5 := (HLP.out.bel.cell hb0).trans q5
   have hb01 : b0 < wr.heap.size := Nat.lt_of_lt_of_le hb0 HLP.out.bel.size
   have HD := Lib.hid hd
   have HOK := Lib.hid hok
   have HDT := Lib.hid (gone_take (b := b) hcc)
   have HGA := Lib.hid (gone_at (b := b) (HTA.out.val e (List.mem_of_getElem? hcc)))
   obtain ⟨a1, cap1, rfl, hd1, hd2⟩ := hd.slice
   unfold maxLen at hd2
   clear hcc hd hok
   go_upto_region 5 with (fail)
   obtain ⟨W, hW⟩ : ∃ Z : World, Z = wr.alloc (.cells #[.string e.path, .int .i64 e.kind, .int .i64 e.mode, .int .i64 e.time, .slice a1 e.data.length cap1, .string e.link] 48) := ⟨_, rfl⟩
   rw [← hW]
   have HW := Lib.hid (show Below wr.heap.size wr W by rw [hW]; exact (Below.refl _ _).alloc (Nat.le_refl _) _)
   have HX := Lib.hid (show W.heap[wr.heap.size]? = some (.cells #[.string e.path, .int .i64 e.kind, .int .i64 e.mode, .int .i64 e.time, .slice a1 e.data.length cap1, .string e.link] 48 (0, 0)) by rw [hW]; exact new20 wr _)
   have HBW := Lib.hid (below_next HLP.out.bel HW.out)
   clear hW q0 q1 q2 q3 q4 q5
   refine hld_start (fun w' => w'.cell? ⟨wr.heap.size, 0, none⟩ = some (.string e.path) ∧ w'.cell? ⟨wr.heap.size, 1, none⟩ = some (.int .i64 e.kind)) (by kernel_rfl) ?_
   obtain ⟨V, hV⟩ : ∃ V : World, V = W.drew := ⟨_, rfl⟩
   rw [← hV]
   have HV := Lib.hid (show Below W.heap.size W V by rw [hV]; exact bel_drew)
   clear hV
   have HXV := Lib.hid ((HV.out.block _ (lt20 HX.out)).trans HX.out)
   have HBV := Lib.hid (below_next HBW.out HV.out)
   have hS1 := And.intro (cell20 (k := 0) HXV.out) (cell20 (k := 1) HXV.out)
   simp only [List.getElem?_toArray, List.getElem?_cons_zero, List.getElem?_cons_succ] at hS1
   refine hld_take 0 rfl (by kernel_rfl) (by kernel_rfl) (by kernel_rfl) (fun _ _ _ h => h) rfl hS1 (by rintro w' ⟨hw1, hw2⟩; go_simp; rfl) ?_
   simp only [Act.put, List.setIfInBounds_toArray, List.set_cons_succ, List.set_cons_zero]
   refine hld_take 1 rfl (by kernel_rfl) (by kernel_rfl) (by kernel_rfl) (fun _ _ _ h => h) rfl hS1 (by rintro w' ⟨hw1, hw2⟩; go_simp; rfl) ?_
   simp only [Act.put, List.setIfInBounds_toArray, List.set_cons_succ, List.set_cons_zero]
   refine hld_take 2 rfl (by kernel_rfl) (by kernel_rfl) (by kernel_rfl) (fun _ _ _ h => h) rfl hS1 (by rintro w' ⟨hw1, hw2⟩; go_simp; rfl) ?_
   simp only [Act.put, List.setIfInBounds_toArray, List.set_cons_succ, List.set_cons_zero]
   refine hld_take 5 rfl (by kernel_rfl) (by kernel_rfl) (by kernel_rfl) (fun _ _ _ h => h) rfl hS1 (by rintro w' ⟨hw1, hw2⟩; go_simp; rfl) ?_
   simp only [Act.put, List.setIfInBounds_toArray, List.set_cons_succ, List.set_cons_zero]
   refine hld_take 6 rfl (by kernel_rfl) (by kernel_rfl) (by kernel_rfl) (fun _ _ _ h => h) rfl hS1 (by rintro w' ⟨hw1, hw2⟩; go_simp; rfl) ?_
   simp only [Act.put, List.setIfInBounds_toArray, List.set_cons_succ, List.set_cons_zero]
   refine hld_bar 3 rfl (by kernel_rfl) rfl (fun K hK => ?_)
   go_wp2_with (go_at_call 43; refine (r_at_any _ b (.slice ab m cb) e.path V (HB.out.below HBV.out)).mono ?_; rintro e9 w9 ⟨a9, c9, rfl, -, -, hb9⟩)
   have HB9 := Lib.hid hb9
   have HX9 := Lib.hid ((hb9.block _ (lt20 HXV.out)).trans HXV.out)
   have hS1 := And.intro (cell20 (k := 0) HX9.out) (cell20 (k := 1) HX9.out)
   simp only [List.getElem?_toArray, List.getElem?_cons_zero, List.getElem?_cons_succ] at hS1
   clear hb9
   refine ⟨hS1, ?_⟩
   unfold entV
   have hfl := fldK
   refine hld_take 4 rfl (by kernel_rfl) (by kernel_rfl) (by kernel_rfl) (fun _ _ _ h => h) rfl hS1 (by rintro w' ⟨hw1, hw2⟩; go_simp; rfl) ?_
   simp only [Act.put, List.setIfInBounds_toArray, List.set_cons_succ, List.set_cons_zero]
   clear hfl
   refine hld_take 7 rfl (by kernel_rfl) (by kernel_rfl) (by kernel_rfl) (fun _ _ _ h => h) rfl hS1 (by rintro w' ⟨hw1, hw2⟩; go_simp; rfl) ?_
   simp only [Act.put, List.setIfInBounds_toArray, List.set_cons_succ, List.set_cons_zero]
   refine hld_done (by kernel_rfl) ?_
   clear hS1
   have HX9B := Lib.hid (below_next HBV.out HB9.out)
   have HAT := Lib.hid (show (!keptE b e) = decide ((atE b e.path).kind ≠ e.kind) from HGA.out)
   have r0 := cell20 (k := 0) HX9.out
   have r1 := cell20 (k := 1) HX9.out
   have r2 := cell20 (k := 2) HX9.out
   have r3 := cell20 (k := 3) HX9.out
   have r4 := cell20 (k := 4) HX9.out
   have r5 := cell20 (k := 5) HX9.out
   have hltr := lt20 HX9.out
   simp only [List.getElem?_toArray, List.getElem?_cons_succ, List.getElem?_cons_zero] at r0 r1 r2 r3 r4 r5
   have hrow := own_below (own_below (own_below HLP.out.row HW.out) HV.out) HB9.out
   have hbb : w.heap.size ≤ w9.heap.size := HX9B.out.size
   have HROW := Lib.hid hrow
   have HSZ := Lib.hid hbb
   by_cases hp : (atE b e.path).kind = e.kind
   ·have e1 : ((atE b e.path).kind != e.kind) = false := by simp [hp]
    have HP := Lib.hid (show (!keptE b e) = false by rw [HAT.out]; simp [hp])
    clear hp
    go_wp2_with fail
    go_roundw
    case rel => exact ⟨k + 1, ys, by omega, by go_num, by rw [HDT.out, HP.out]; simp; exact HLP.out.out, HROW.out, HLP.out.dat, HX9B.out⟩
    case measure => simp [intOf]; omega
   ·have e1 : ((atE b e.path).kind != e.kind) = true := by simp [hp]
    have HP := Lib.hid (show (!keptE b e) = true by rw [HAT.out]; simp [hp])
    clear hp
    go_wp2_with (at_builtin; go_must (refine wpList_app1p Tryz.appEnts rfl _ _ rfl w.heap.size (.slice av ys.length cv) ys.length (entsC ys) rfl w9 (entC (.slice a1 e.data.length cap1) e) _ rfl rfl entC_one hrow (by omega) hbb ?_); intro v8 w8 hown8 hg8 _ hpl8; have HOWN8 := Lib.hid hown8; have HG8 := Lib.hid hg8; clear hown8 hg8 hpl8 r0 r1 r2 r3 r4 r5 hltr)
    go_roundw
    case rel =>
     refine ⟨k + 1, ys ++ [(.slice a1 e.data.length cap1, e)], by omega, by go_num, ?_, ?_, ?_, ?_⟩
     ·rw [List.map_append, HLP.out.out, HDT.out, HP.out]; rfl
     ·rw [List.length_append, List.length_singleton, entsC_snoc]; exact HOWN8.out
     ·intro y hy
      rcases List.mem_append.1 hy with hy | hy
      ·exact HLP.out.dat y hy
      ·rw [List.mem_singleton] at hy
       subst hy
       exact ⟨HD.out, HOK.out⟩
     ·exact below_grown HX9B.out HROW.out HG8.out (Nat.le_refl _) HSZ.out
    case measure => simp [intOf]; omega
  ·have hk2 : k = n := by omega
   obtain ⟨G, hG⟩ : ∃ G, G = goneE a b := ⟨_, rfl⟩
   have HG := Lib.hid hG
   have HGY := Lib.hid (show ys.map Prod.snd = G by
    have h1 := HLP.out.out
    rw [hk2, HN.out, List.take_length] at h1
    rw [hG]; exact h1)
   have HROW := Lib.hid HLP.out.row
   have HGO := Lib.hid (show EntsAt (Old wr) wr (.slice av ys.length cv) G from by
    rw [← HGY.out]
    exact ents_old (gotE_shared HLP.out.row HLP.out.bel HLP.out.dat))
   have HDAT := Lib.hid HLP.out.dat
   have HBE := Lib.hid HLP.out.bel
   clear hk2 hk HLP hG
   obtain ⟨w1, hw1⟩ : ∃ Z : World, Z = wr := ⟨_, rfl⟩
   rw [← hw1] at HROW HBE HGO ⊢
   clear hw1
   have hmk := make_marks w1 ys.length hyl
   go_upto_region 10 with (fail)
   obtain ⟨ub, hub⟩ : ∃ z, z = w1.heap.size := ⟨_, rfl⟩
   obtain ⟨w2, hw2⟩ : ∃ Z : World, Z = w1.alloc (.cells (marks (List.replicate ys.length false)) 4) := ⟨_, rfl⟩
   have HU2 := Lib.hid (show w2.heap[ub]? = some (.cells (marks (List.replicate ys.length false)) 4 (0, 0)) by rw [hw2, hub]; exact new20 w1 _)
   have HB2 := Lib.hid (show Below w1.heap.size w1 w2 by rw [hw2]; exact (Below.refl _ _).alloc (Nat.le_refl _) _)
   rw [← hw2, ← hub]
   have HUB := Lib.hid hub
   clear hw2 hub hmk
   go_wp2_with fail
   go_loopw [9, 10, 11, 45] (fun vm vd vy i wr => ∃ (k : Nat) (s : RSt) (ym yd yy : List VChg), k ≤ m ∧ i = .int .i64 k ∧ s = (b.take k).foldl (stepR a G) ⟨List.replicate G.length false, [], [], []⟩ ∧ LoopY w w2 ub s vm vd vy ym yd yy wr) (fun _ _ _ i _ => m - (intOf i).toNat)
   case atStart =>
    refine ⟨0, ⟨List.replicate G.length false, [], [], []⟩, [], [], [], Nat.zero_le _, rfl, rfl, ⟨rfl, World.ownsRow_nil _ _ _ _, by simp⟩, ⟨rfl, World.ownsRow_nil _ _ _ _, by simp⟩, ⟨rfl, World.ownsRow_nil _ _ _ _, by simp⟩, ?_, ?_, ?_, ?_, lt20 HU2.out, Below.refl _ _⟩
    ·intro k h; cases h
    ·intro k h; cases h
    ·intro k h; cases h
    ·rw [show G.length = ys.length by rw [← HGY.out, List.length_map]]; exact HU2.out
   case round =>
    obtain ⟨k, s, ym, yd, yy, hk, rfl, hs, hlp⟩ := hrel
    have HLP := Lib.hid hlp
    have HS := Lib.hid hs
    obtain ⟨am, cm, hsm, -, hvm⟩ := owns_shape hlp.mo.row
    obtain ⟨ad, cd, hsd, -, hvd⟩ := owns_shape hlp.ad.row
    obtain ⟨ay, cy, hsy, -, hvy⟩ := owns_shape hlp.md.row
    subst hsm hsd hsy
    unfold maxLen at hvm hvd hvy
    have HBR := Lib.hid (show Below w.heap.size w wr from (HBE.out.trans (HB2.out.mono HBE.out.size)).trans (HLP.out.bel.mono (by rw [HUB.out]; exact HBE.out.size)))
    have HSL := Lib.hid (show s.u.length = G.length by rw [hs, fold_len, List.length_replicate])
    have HNM := Lib.hid (show ym.length ≤ 4096 ∧ yd.length ≤ 4096 ∧ yy.length ≤ 4096 by
     have h1 := fold_small (a := a) (g := G) (b.take k) ⟨List.replicate G.length false, [], [], []⟩
     rw [← hs, List.length_take] at h1
     rw [hlp.mo.len, hlp.ad.len, hlp.md.len]
     simp only [List.length_nil, Nat.zero_add] at h1
     omega)
    clear hlp hs
    by_cases hlt : k < m
    ·obtain ⟨y, hcc⟩ : ∃ y, b[k]? = some y := ⟨b[k]'(by rw [← HM.out]; exact hlt), by simp⟩
     obtain ⟨b0, o0, dv, rfl, -, hb0, hd, hok, -, q0, q1, q2, q3, q4, q5⟩ := ents_at HB.out hcc
     replace q0 := (HBR.out.cell hb0).trans q0
     replace q1 := (HBR.out.cell hb0).trans q1
     replace q2 := (HBR.out.cell hb0).trans q2
     replace q3 := (HBR.out.cell hb0).trans q3
     replace q4 := (HBR.out.cell hb0).trans q4
     replace q5 := (HBR.out.cell hb0).trans q5
     have hb01 : b0 < wr.heap.size := Nat.lt_of_lt_of_le hb0 HBR.out.size
     have HYD := Lib.hid hd
     have HYOK := Lib.hid hok
     have HYV := Lib.hid (HTB.out.val y (List.mem_of_getElem? hcc))
     have HST := Lib.hid (fold_take (a := a) (g := G) (s0 := ⟨List.replicate G.length false, [], [], []⟩) hcc)
     obtain ⟨a1, cap1, rfl, hd1, hd2⟩ := hd.slice
     unfold maxLen at hd2
     clear hcc hd hok
     go_upto_region 13 with (fail)
     obtain ⟨W, hW⟩ : ∃ Z : World, Z = wr.alloc (.cells #[.string y.path, .int .i64 y.kind, .int .i64 y.mode, .int .i64 y.time, .slice a1 y.data.length cap1, .string y.link] 48) := ⟨_, rfl⟩
     rw [← hW]
     have HW := Lib.hid (show Below wr.heap.size wr W by rw [hW]; exact (Below.refl _ _).alloc (Nat.le_refl _) _)
     have HX := Lib.hid (show W.heap[wr.heap.size]? = some (.cells #[.string y.path, .int .i64 y.kind, .int .i64 y.mode, .int .i64 y.time, .slice a1 y.data.length cap1, .string y.link] 48 (0, 0)) by rw [hW]; exact new20 wr _)
     clear hW q0 q1 q2 q3 q4 q5
     have hat := r_at_any _ a (.slice aa n ca) y.path W (HA.out.below (below_next HBR.out HW.out))
     obtain ⟨x, hxe⟩ : ∃ x, x = atE a y.path := ⟨_, rfl⟩
     unfold AtRes entV at hat
     rw [← hxe] at hat
     have HXE := Lib.hid hxe
     clear hxe
     have c0 := cell20 (k := 0) HX.out
     have c1 := cell20 (k := 1) HX.out
     have c2 := cell20 (k := 2) HX.out
     have c3 := cell20 (k := 3) HX.out
     have c4 := cell20 (k := 4) HX.out
     have c5 := cell20 (k := 5) HX.out
     have hltX := lt20 HX.out
     simp only [List.getElem?_toArray, List.getElem?_cons_succ, List.getElem?_cons_zero] at c0 c1 c2 c3 c4 c5
     go_upto_region 14 with (go_at_call 43; refine hat.mono ?_; rintro e9 w9 ⟨a9, c9, rfl, hd9, hok9, hb9⟩; have HD9 := Lib.hid hd9; have HOK9 := Lib.hid hok9; have HB9 := Lib.hid hb9; have HX9 := Lib.hid ((hb9.block _ (lt20 HX.out)).trans HX.out); clear hd9 hok9 hb9 hat c0 c1 c2 c3 c4 c5 hltX)
     obtain ⟨W3, hW3⟩ : ∃ Z : World, Z = w9.alloc (.cells #[.string x.path, .int .i64 x.kind, .int .i64 x.mode, .int .i64 x.time, .slice a9 x.data.length c9, .string x.link] 48) := ⟨_, rfl⟩
     rw [← hW3]
     have hb93 : Below w9.heap.size w9 W3 := by rw [hW3]; exact (Below.refl _ _).alloc (Nat.le_refl _) _
     have HXX := Lib.hid (show W3.heap[w9.heap.size]? = some (.cells #[.string x.path, .int .i64 x.kind, .int .i64 x.mode, .int .i64 x.time, .slice a9 x.data.length c9, .string x.link] 48 (0, 0)) by rw [hW3]; exact new20 w9 _)
     have HXY := Lib.hid ((hb93.block _ (lt20 HX9.out)).trans HX9.out)
     have HBW := Lib.hid (below_next (below_next HW.out HB9.out) hb93)
     have HDX := Lib.hid (HD9.out.below hb93)
     have HDY := Lib.hid (HYD.out.below (below_next HBR.out HBW.out))
     clear hW3 hb93
     have c0 := cell20 (k := 0) HXY.out
     have c1 := cell20 (k := 1) HXY.out
     have c2 := cell20 (k := 2) HXY.out
     have c3 := cell20 (k := 3) HXY.out
     have c4 := cell20 (k := 4) HXY.out
     have c5 := cell20 (k := 5) HXY.out
     have hltX := lt20 HXY.out
     simp only [List.getElem?_toArray, List.getElem?_cons_succ, List.getElem?_cons_zero] at c0 c1 c2 c3 c4 c5
     have d0 := cell20 (k := 0) HXX.out
     have d1 := cell20 (k := 1) HXX.out
     have d2 := cell20 (k := 2) HXX.out
     have d3 := cell20 (k := 3) HXX.out
     have d4 := cell20 (k := 4) HXX.out
     have d5 := cell20 (k := 5) HXX.out
     have hltD := lt20 HXX.out
     simp only [List.getElem?_toArray, List.getElem?_cons_succ, List.getElem?_cons_zero] at d0 d1 d2 d3 d4 d5
     by_cases hkk : x.kind = y.kind
     ·have e1 : (x.kind == y.kind) = true := by simp [hkk]
      have HKK := Lib.hid hkk
      clear hkk
      by_cases hxy : x = y
      ·have HEQ := Lib.hid (show decide (x = y) = true by simp [hxy])
       have HSE := Lib.hid (show s = stepR a G s y by unfold stepR; rw [← HXE.out, if_pos HKK.out, if_pos hxy])
       clear hxy
       go_wp2_with (go_at_call 31; refine (r_same20_is _ _ x y _ _ true _ HDX.out HDY.out HEQ.out).mono ?_; rintro e5 w5 ⟨rfl, hb5⟩; have HB5 := Lib.hid (below_next HBW.out hb5); clear hb5 c0 c1 c2 c3 c4 c5 hltX d0 d1 d2 d3 d4 d5 hltD)
       go_roundw
       case rel => exact ⟨k + 1, s, ym, yd, yy, by omega, by go_num, by rw [HST.out, ← HS.out]; exact HSE.out, HLP.out.below HB5.out⟩
       case measure => simp [intOf]; omega
      ·have HEQ := Lib.hid (show decide (x = y) = false by simp [hxy])
       have HSE := Lib.hid (show (⟨s.u, s.mo, s.ad, s.md ++ [⟨4, y.path, noPath, y⟩]⟩ : RSt) = stepR a G s y by unfold stepR; rw [← HXE.out, if_pos HKK.out, if_neg hxy])
       clear hxy
       go_upto_region 16 with (go_at_call 31; refine (r_same20_is _ _ x y _ _ false _ HDX.out HDY.out HEQ.out).mono ?_; rintro e5 w5 ⟨rfl, hb5⟩; have HX5 := Lib.hid ((hb5.block _ (lt20 HXY.out)).trans HXY.out); have HB5 := Lib.hid (below_next HBW.out hb5); clear hb5 c0 c1 c2 c3 c4 c5 hltX d0 d1 d2 d3 d4 d5 hltD)
       have c0 := cell20 (k := 0) HX5.out
       have c1 := cell20 (k := 1) HX5.out
       have c2 := cell20 (k := 2) HX5.out
       have c3 := cell20 (k := 3) HX5.out
       have c4 := cell20 (k := 4) HX5.out
       have c5 := cell20 (k := 5) HX5.out
       have hltX := lt20 HX5.out
       simp only [List.getElem?_toArray, List.getElem?_cons_succ, List.getElem?_cons_zero] at c0 c1 c2 c3 c4 c5
       have HL5 := Lib.hid (HLP.out.below HB5.out)
       have hrow := HL5.out.md.row
       have hbb : w2.heap.size ≤ w5.heap.size := HL5.out.size
       have hny := HNM.out.2.2
       go_wp2_with (at_builtin; go_must (refine wpList_app1p Tryz.appRChgs rfl _ _ rfl w2.heap.size (.slice ay yy.length cy) yy.length (chgsC yy) rfl w5 (chgC (.slice a1 y.data.length cap1) ⟨4, y.path, noPath, y⟩) _ rfl rfl chgC_one hrow (by omega) hbb ?_); intro v8 w8 hown8 hg8 _ hpl8; have HP8 := Lib.hid (HL5.out.pushMd (c := ⟨4, y.path, noPath, y⟩) HYD.out (chg_ok (by decide) HYOK.out.pth noPath_ok HYOK.out) hown8 hg8 hpl8); clear hown8 hg8 hpl8 c0 c1 c2 c3 c4 c5 hltX)
       go_roundw
       case rel => exact ⟨k + 1, ⟨s.u, s.mo, s.ad, s.md ++ [⟨4, y.path, noPath, y⟩]⟩, ym, yd, _, by omega, by go_num, by rw [HST.out, ← HS.out]; exact HSE.out, HP8.out⟩
       case measure => simp [intOf]; omega
     ·have e1 : (x.kind == y.kind) = false := by simp [hkk]
      have HKK := Lib.hid hkk
      clear hkk
      go_upto_region 18 with (fail)
      obtain ⟨yb, hyb⟩ : ∃ z, z = wr.heap.size := ⟨_, rfl⟩
      rw [← hyb] at HXY ⊢
      have HNE := Lib.hid (show yb ≠ ub by have := lt20 HLP.out.us; omega)
      have HNY := Lib.hid (show ∀ k, (Value.slice am ym.length cm).ownBlock = some k → k < yb from fun k hk => by have := (own_lt HLP.out.mo.row hk).2; omega)
      have HU3 := Lib.hid (HLP.out.below HBW.out).us
      have HGW := Lib.hid (show Below w1.heap.size w1 W3 from (HB2.out.trans (by rw [← HUB.out]; exact HLP.out.bel)).trans (HBW.out.mono (Nat.le_trans HB2.out.size HLP.out.size)))
      clear hyb c0 c1 c2 c3 c4 c5 hltX d0 d1 d2 d3 d4 d5 hltD
      go_wp2_with fail
      go_loopw [16, 71] (fun fr i w4 => ∃ j : Nat, j ≤ ys.length ∧ i = .int .i64 j ∧ fr = .int .i64 (fromV (fromK y G s.u j)) ∧ Below W3.heap.size W3 w4) (fun _ i _ => ys.length - (intOf i).toNat)
      case atStart => exact ⟨0, Nat.zero_le _, rfl, rfl, Below.refl _ _⟩
      case round =>
       obtain ⟨j, hj, rfl, rfl, hb4⟩ := hrel
       have HB4 := Lib.hid hb4
       clear hb4
       obtain ⟨F, hF⟩ : ∃ F, F = fromK y G s.u j := ⟨_, rfl⟩
       rw [← hF]
       have HF := Lib.hid hF.symm
       clear hF
       by_cases hltj : j < ys.length
       ·obtain ⟨g, hg⟩ : ∃ g, G[j]? = some g := ⟨G[j]'(by rw [← HGY.out, List.length_map]; exact hltj), by simp⟩
        obtain ⟨bu, hbu⟩ : ∃ bu, s.u[j]? = some bu := ⟨s.u[j]'(by rw [HSL.out, ← HGY.out, List.length_map]; exact hltj), by simp⟩
        obtain ⟨b3, o3, dg, rfl, -, hb3, hdg, hokg, -, p0, p1, p2, p3, p4, p5⟩ := ents_at HGO.out hg
        have HG4 := Lib.hid (HGW.out.trans (HB4.out.mono HGW.out.size))
        replace p0 := (HG4.out.cell hb3).trans p0
        replace p1 := (HG4.out.cell hb3).trans p1
        replace p2 := (HG4.out.cell hb3).trans p2
        replace p3 := (HG4.out.cell hb3).trans p3
        replace p4 := (HG4.out.cell hb3).trans p4
        replace p5 := (HG4.out.cell hb3).trans p5
        have hb31 : b3 < wr.heap.size := Nat.lt_of_lt_of_le hb3 HG4.out.size
        have HGD := Lib.hid (hdg.below HG4.out)
        obtain ⟨a3, cap3, rfl, hd3, hd4⟩ := hdg.slice
        unfold maxLen at hd4
        have HNX := Lib.hid (fun (hn : fromK y G s.u j = none) => from_none hn hg hbu)
        have HMK := Lib.hid (marks_get hbu)
        clear hg hbu hdg hokg
        go_upto_region 21 with (fail)
        obtain ⟨W4, hW4⟩ : ∃ Z : World, Z = wr.alloc (.cells #[.string g.path, .int .i64 g.kind, .int .i64 g.mode, .int .i64 g.time, .slice a3 g.data.length cap3, .string g.link] 48) := ⟨_, rfl⟩
        rw [← hW4]
        have hb44 : Below wr.heap.size wr W4 := by rw [hW4]; exact (Below.refl _ _).alloc (Nat.le_refl _) _
        have HXG := Lib.hid (show W4.heap[wr.heap.size]? = some (.cells #[.string g.path, .int .i64 g.kind, .int .i64 g.mode, .int .i64 g.time, .slice a3 g.data.length cap3, .string g.link] 48 (0, 0)) by rw [hW4]; exact new20 wr _)
        have HW4 := Lib.hid (below_next HB4.out hb44)
        have HXY4 := Lib.hid ((HW4.out.block _ (lt20 HXY.out)).trans HXY.out)
        have HU4 := Lib.hid ((HW4.out.block _ (lt20 HU3.out)).trans HU3.out)
        have HGD4 := Lib.hid (HGD.out.below hb44)
        have HDY4 := Lib.hid (HDY.out.below HW4.out)
        clear hW4 p0 p1 p2 p3 p4 p5 hb44
        cases F with
        | some q =>
         have e2 : decide ((q : Int) < 0) = false := by simp
         unfold fromV
         have c0 := cell20 (k := 0) HXY4.out
         have c1 := cell20 (k := 1) HXY4.out
         have c2 := cell20 (k := 2) HXY4.out
         have c3 := cell20 (k := 3) HXY4.out
         have c4 := cell20 (k := 4) HXY4.out
         have c5 := cell20 (k := 5) HXY4.out
         have hltX := lt20 HXY4.out
         simp only [List.getElem?_toArray, List.getElem?_cons_succ, List.getElem?_cons_zero] at c0 c1 c2 c3 c4 c5
         go_wp2_with fail
         go_roundw
         case rel => exact ⟨j + 1, by omega, by go_num, by rw [from_some HF.out]; rfl, HW4.out⟩
         case measure => simp [intOf]; omega
        | none =>
         unfold fromV
         have HN2 := Lib.hid (HNX.out HF.out)
         have hmk : W4.cell? ⟨ub, j, none⟩ = some (.bool bu) := (cell20 (k := j) HU4.out).trans HMK.out
         have hltU := lt20 HU4.out
         cases bu with
         | true =>
          have c0 := cell20 (k := 0) HXY4.out
          have c1 := cell20 (k := 1) HXY4.out
          have c2 := cell20 (k := 2) HXY4.out
          have c3 := cell20 (k := 3) HXY4.out
          have c4 := cell20 (k := 4) HXY4.out
          have c5 := cell20 (k := 5) HXY4.out
          have hltX := lt20 HXY4.out
          simp only [List.getElem?_toArray, List.getElem?_cons_succ, List.getElem?_cons_zero] at c0 c1 c2 c3 c4 c5
          go_wp2_with fail
          go_roundw
          case rel => exact ⟨j + 1, by omega, by go_num, by rw [HN2.out]; rfl, HW4.out⟩
          case measure => simp [intOf]; omega
         | false =>
          have c0 := cell20 (k := 0) HXY4.out
          have c1 := cell20 (k := 1) HXY4.out
          have c2 := cell20 (k := 2) HXY4.out
          have c3 := cell20 (k := 3) HXY4.out
          have c4 := cell20 (k := 4) HXY4.out
          have c5 := cell20 (k := 5) HXY4.out
          have hltX := lt20 HXY4.out
          simp only [List.getElem?_toArray, List.getElem?_cons_succ, List.getElem?_cons_zero] at c0 c1 c2 c3 c4 c5
          have d0 := cell20 (k := 0) HXG.out
          have d1 := cell20 (k := 1) HXG.out
          have d2 := cell20 (k := 2) HXG.out
          have d3 := cell20 (k := 3) HXG.out
          have d4 := cell20 (k := 4) HXG.out
          have d5 := cell20 (k := 5) HXG.out
          have hltD := lt20 HXG.out
          simp only [List.getElem?_toArray, List.getElem?_cons_succ, List.getElem?_cons_zero] at d0 d1 d2 d3 d4 d5
          have hal := r_alike_any _ _ g y (.slice a3 g.data.length cap3) (.slice a1 y.data.length cap1) W4 HGD4.out HDY4.out
          unfold entV at hal
          cases hac : alikeE g y with
          | false =>
           have HWT := Lib.hid (show (!false && wantY y g) = false by unfold wantY; rw [hac]; rfl)
           rw [hac] at hal
           clear hac
           go_wp2_with (go_at_call 44; refine hal.mono ?_; rintro e6 w6 ⟨rfl, hb6⟩; have HB6 := Lib.hid (below_next HW4.out hb6); clear hb6 hal c0 c1 c2 c3 c4 c5 hltX d0 d1 d2 d3 d4 d5 hltD)
           go_roundw
           case rel => exact ⟨j + 1, by omega, by go_num, by rw [HN2.out, HWT.out]; rfl, HB6.out⟩
           case measure => simp [intOf]; omega
          | true =>
           rw [hac] at hal
           by_cases h3 : y.kind = 3
           ·have e3 : (y.kind == 3) = true := by simp [h3]
            have HWT := Lib.hid (show (!false && wantY y g) = true by unfold wantY; rw [hac]; simp [h3])
            clear hac h3
            go_wp2_with (go_at_call 44; refine hal.mono ?_; rintro e6 w6 ⟨rfl, hb6⟩; have HB6 := Lib.hid (below_next HW4.out hb6); replace c1 := (hb6.cell hltX).trans c1; replace c4 := (hb6.cell hltX).trans c4; replace hltX := Nat.lt_of_lt_of_le hltX hb6.size; clear hb6 hal c0 c2 c3 c5 d0 d1 d2 d3 d4 d5 hltD)
            go_roundw
            case rel => exact ⟨j + 1, by omega, by go_num, by rw [HN2.out, HWT.out]; rfl, HB6.out⟩
            case measure => simp [intOf]; omega
           ·have e3 : (y.kind == 3) = false := by simp [h3]
            by_cases hl : 0 < y.data.length
            ·have e4 : decide ((0 : Int) < (y.data.length : Int)) = true := decide_eq_true (by omega)
             have HWT := Lib.hid (show (!false && wantY y g) = true by unfold wantY; rw [hac]; simp [hl])
             clear hac h3
             go_wp2_with (go_at_call 44; refine hal.mono ?_; rintro e6 w6 ⟨rfl, hb6⟩; have HB6 := Lib.hid (below_next HW4.out hb6); replace c1 := (hb6.cell hltX).trans c1; replace c4 := (hb6.cell hltX).trans c4; replace hltX := Nat.lt_of_lt_of_le hltX hb6.size; clear hb6 hal c0 c2 c3 c5 d0 d1 d2 d3 d4 d5 hltD)
             go_roundw
             case rel => exact ⟨j + 1, by omega, by go_num, by rw [HN2.out, HWT.out]; rfl, HB6.out⟩
             case measure => simp [intOf]; omega
            ·have e4 : decide ((0 : Int) < (y.data.length : Int)) = false := decide_eq_false (by omega)
             have HWT := Lib.hid (show (!false && wantY y g) = false by unfold wantY; rw [hac]; simp [hl, h3])
             clear hac h3
             go_wp2_with (go_at_call 44; refine hal.mono ?_; rintro e6 w6 ⟨rfl, hb6⟩; have HB6 := Lib.hid (below_next HW4.out hb6); replace c1 := (hb6.cell hltX).trans c1; replace c4 := (hb6.cell hltX).trans c4; replace hltX := Nat.lt_of_lt_of_le hltX hb6.size; clear hb6 hal c0 c2 c3 c5 d0 d1 d2 d3 d4 d5 hltD)
             go_roundw
             case rel => exact ⟨j + 1, by omega, by go_num, by rw [HN2.out, HWT.out]; rfl, HB6.out⟩
             case measure => simp [intOf]; omega
       ·have hj2 : j = ys.length := by omega
        have HFA := Lib.hid (show fromIx y G s.u = F by rw [← from_all, ← HF.out, hj2, ← HGY.out, List.length_map])
        have hlg : G.length = ys.length := by rw [← HGY.out, List.length_map]
        have HLG := Lib.hid hlg
        have HXY4 := Lib.hid ((HB4.out.block _ (lt20 HXY.out)).trans HXY.out)
        have HBR4 := Lib.hid (below_next HBW.out HB4.out)
        have HL4 := Lib.hid (HLP.out.below HBR4.out)
        clear hj2 hlg HF
        obtain ⟨w5, hw5⟩ : ∃ Z : World, Z = wr := ⟨_, rfl⟩
        rw [← hw5] at HL4 HXY4 HB4 ⊢
        clear hw5
        have c0 := cell20 (k := 0) HXY4.out
        have c1 := cell20 (k := 1) HXY4.out
        have c2 := cell20 (k := 2) HXY4.out
        have c3 := cell20 (k := 3) HXY4.out
        have c4 := cell20 (k := 4) HXY4.out
        have c5 := cell20 (k := 5) HXY4.out
        have hltX := lt20 HXY4.out
        simp only [List.getElem?_toArray, List.getElem?_cons_succ, List.getElem?_cons_zero] at c0 c1 c2 c3 c4 c5
        cases F with
        | none =>
         have HSE := Lib.hid (show (⟨s.u, s.mo, s.ad ++ [⟨3, y.path, noPath, y⟩], s.md⟩ : RSt) = stepR a G s y by unfold stepR; rw [← HXE.out, if_neg HKK.out, HFA.out])
         unfold fromV
         have hrow := HL4.out.ad.row
         have hbb : w2.heap.size ≤ w5.heap.size := HL4.out.size
         have hny := HNM.out.2.1
         go_wp2_with (at_builtin; go_must (refine wpList_app1p Tryz.appRChgs rfl _ _ rfl w2.heap.size (.slice ad yd.length cd) yd.length (chgsC yd) rfl w5 (chgC (.slice a1 y.data.length cap1) ⟨3, y.path, noPath, y⟩) _ rfl rfl chgC_one hrow (by omega) hbb ?_); intro v8 w8 hown8 hg8 _ hpl8; have HP8 := Lib.hid (HL4.out.pushAd (c := ⟨3, y.path, noPath, y⟩) HYD.out (chg_ok (by decide) HYOK.out.pth noPath_ok HYOK.out) hown8 hg8 hpl8); clear hown8 hg8 hpl8 c0 c1 c2 c3 c4 c5 hltX)
         go_roundw
         case rel => exact ⟨k + 1, ⟨s.u, s.mo, s.ad ++ [⟨3, y.path, noPath, y⟩], s.md⟩, ym, _, yy, by omega, by go_num, by rw [HST.out, ← HS.out]; exact HSE.out, HP8.out⟩
         case measure => simp [intOf]; omega
        | some q =>
         have hql : q < G.length := from_lt HSL.out HFA.out
         obtain ⟨g, hg⟩ : ∃ g, G[q]? = some g := ⟨G[q], List.getElem?_eq_getElem hql⟩
         obtain ⟨bu, hbu⟩ : ∃ bu, s.u[q]? = some bu := ⟨s.u[q]'(by rw [HSL.out]; exact hql), List.getElem?_eq_getElem _⟩
         have HSE := Lib.hid (show (⟨s.u.set q true, s.mo ++ [⟨2, y.path, g.path, y⟩], s.ad, s.md⟩ : RSt) = stepR a G s y by unfold stepR; rw [← HXE.out, if_neg HKK.out, HFA.out]; simp only [hg, Option.getD_some])
         obtain ⟨b3, o3, dg, rfl, -, hb3, -, hokg, -, p0, -⟩ := ents_at HGO.out hg
         have HGP := Lib.hid hokg.pth
         have HG5 := Lib.hid (HGW.out.trans (HB4.out.mono HGW.out.size))
         have HP0 := Lib.hid ((HG5.out.cell hb3).trans p0)
         have HB3 := Lib.hid hb3
         have hqy : q < ys.length := by rw [← HLG.out]; exact hql
         have hmk : w5.cell? ⟨ub, q, none⟩ = some (.bool bu) := (cell20 (k := q) HL4.out.us).trans (marks_get hbu)
         have hfz := frozen20 (k := q) HL4.out.us
         have hltU := lt20 HL4.out.us
         have e2 : decide ((q : Int) < 0) = false := by simp
         clear p0 hokg hb3 hg hbu hql
         unfold fromV
         go_upto_region 27 with (fail)
         obtain ⟨w6, hw6⟩ : ∃ Z : World, Z = w5.setCell ⟨ub, q, none⟩ (.bool true) := ⟨_, rfl⟩
         rw [← hw6]
         have HL6 := Lib.hid (show LoopY w w2 ub ⟨s.u.set q true, s.mo, s.ad, s.md⟩ (.slice am ym.length cm) (.slice ad yd.length cd) (.slice ay yy.length cy) ym yd yy w6 by rw [hw6]; exact HL4.out.mark q)
         have HXY6 := Lib.hid (show w6.heap[yb]? = some (.cells #[.string y.path, .int .i64 y.kind, .int .i64 y.mode, .int .i64 y.time, .slice a1 y.data.length cap1, .string y.link] 48 (0, 0)) by rw [hw6]; exact setOther20 HXY4.out HNE.out _)
         have HP6 := Lib.hid (show w6.cell? ⟨b3, o3 + q * 6, none⟩ = some (.string g.path) by rw [hw6]; exact ((below_set20 (B := ub) (Below.refl _ w5) (Nat.le_refl _)).cell (by rw [HUB.out]; exact HB3.out)).trans HP0.out)
         clear hw6 c0 c1 c2 c3 c4 c5 hltX hmk hfz hltU e2
         refine hld_start (fun w' => w'.cell? ⟨yb, 0, none⟩ = some (.string y.path) ∧ w'.cell? ⟨yb, 1, none⟩ = some (.int .i64 y.kind) ∧ w'.cell? ⟨yb, 2, none⟩ = some (.int .i64 y.mode) ∧ w'.cell? ⟨yb, 3, none⟩ = some (.int .i64 y.time) ∧ w'.cell? ⟨yb, 4, none⟩ = some (.slice a1 y.data.length cap1) ∧ w'.cell? ⟨yb, 5, none⟩ = some (.string y.link) ∧ w'.cell? ⟨b3, o3 + q * 6, none⟩ = some (.string g.path)) (by kernel_rfl) ?_
         obtain ⟨V, hV⟩ : ∃ V : World, V = w6.drew := ⟨_, rfl⟩
         rw [← hV]
         have HV := Lib.hid (show Below w6.heap.size w6 V by rw [hV]; exact bel_drew)
         clear hV
         have HLV := Lib.hid (HL6.out.below HV.out)
         have HXV := Lib.hid ((HV.out.block _ (lt20 HXY6.out)).trans HXY6.out)
         have HPV := Lib.hid ((HV.out.cell (by have := HB3.out; have := HL6.out.size; have := HUB.out; have := HL6.out.ul; show b3 < _; omega)).trans HP6.out)
         have c0 := cell20 (k := 0) HXV.out
         have c1 := cell20 (k := 1) HXV.out
         have c2 := cell20 (k := 2) HXV.out
         have c3 := cell20 (k := 3) HXV.out
         have c4 := cell20 (k := 4) HXV.out
         have c5 := cell20 (k := 5) HXV.out
         have hltX := lt20 HXV.out
         simp only [List.getElem?_toArray, List.getElem?_cons_succ, List.getElem?_cons_zero] at c0 c1 c2 c3 c4 c5
         have hS1 := And.intro c0 (And.intro c1 (And.intro c2 (And.intro c3 (And.intro c4 (And.intro c5 HPV.out)))))
         clear c0 c1 c2 c3 c4 c5 hltX
         refine hld_take 0 rfl (by kernel_rfl) (by kernel_rfl) (by kernel_rfl) (fun _ _ _ h => h) rfl hS1 (by rintro w' ⟨hw0, hw1, hw2, hw3, hw4, hw5, hw6⟩; go_simp; rfl) ?_
         simp only [Act.put, List.setIfInBounds_toArray, List.set_cons_succ, List.set_cons_zero]
         refine hld_take 1 rfl (by kernel_rfl) (by kernel_rfl) (by kernel_rfl) (fun _ _ _ h => h) rfl hS1 (by rintro w' ⟨hw0, hw1, hw2, hw3, hw4, hw5, hw6⟩; go_simp; rfl) ?_
         simp only [Act.put, List.setIfInBounds_toArray, List.set_cons_succ, List.set_cons_zero]
         refine hld_take 2 rfl (by kernel_rfl) (by kernel_rfl) (by kernel_rfl) (fun _ _ _ h => h) rfl hS1 (by rintro w' ⟨hw0, hw1, hw2, hw3, hw4, hw5, hw6⟩; go_simp; rfl) ?_
         simp only [Act.put, List.setIfInBounds_toArray, List.set_cons_succ, List.set_cons_zero]
         refine hld_take 3 rfl (by kernel_rfl) (by kernel_rfl) (by kernel_rfl) (fun _ _ _ h => h) rfl hS1 (by rintro w' ⟨hw0, hw1, hw2, hw3, hw4, hw5, hw6⟩; go_simp; rfl) ?_
         simp only [Act.put, List.setIfInBounds_toArray, List.set_cons_succ, List.set_cons_zero]
         refine hld_take 4 rfl (by kernel_rfl) (by kernel_rfl) (by kernel_rfl) (fun _ _ _ h => h) rfl hS1 (by rintro w' ⟨hw0, hw1, hw2, hw3, hw4, hw5, hw6⟩; go_simp; rfl) ?_
         simp only [Act.put, List.setIfInBounds_toArray, List.set_cons_succ, List.set_cons_zero]
         refine hld_take 5 rfl (by kernel_rfl) (by kernel_rfl) (by kernel_rfl) (fun _ _ _ h => h) rfl hS1 (by rintro w' ⟨hw0, hw1, hw2, hw3, hw4, hw5, hw6⟩; go_simp; rfl) ?_
         simp only [Act.put, List.setIfInBounds_toArray, List.set_cons_succ, List.set_cons_zero]
         refine hld_take 6 rfl (by kernel_rfl) (by kernel_rfl) (by kernel_rfl) (fun _ _ _ h => h) rfl hS1 (by rintro w' ⟨hw0, hw1, hw2, hw3, hw4, hw5, hw6⟩; go_simp; rfl) ?_
         simp only [Act.put, List.setIfInBounds_toArray, List.set_cons_succ, List.set_cons_zero]
         refine hld_take 7 rfl (by kernel_rfl) (by kernel_rfl) (by kernel_rfl) (fun _ _ _ h => h) rfl hS1 (by rintro w' ⟨hw0, hw1, hw2, hw3, hw4, hw5, hw6⟩; go_simp; rfl) ?_
         simp only [Act.put, List.setIfInBounds_toArray, List.set_cons_succ, List.set_cons_zero]
         refine hld_take 8 rfl (by kernel_rfl) (by kernel_rfl) (by kernel_rfl) (fun _ _ _ h => h) rfl hS1 (by rintro w' ⟨hw0, hw1, hw2, hw3, hw4, hw5, hw6⟩; go_simp; rfl) ?_
         simp only [Act.put, List.setIfInBounds_toArray, List.set_cons_succ, List.set_cons_zero]
         refine hld_take 9 rfl (by kernel_rfl) (by kernel_rfl) (by kernel_rfl) (fun _ _ _ h => h) rfl hS1 (by rintro w' ⟨hw0, hw1, hw2, hw3, hw4, hw5, hw6⟩; go_simp; rfl) ?_
         simp only [Act.put, List.setIfInBounds_toArray, List.set_cons_succ, List.set_cons_zero]
         refine hld_bar 10 rfl (by kernel_rfl) rfl (fun K hK => ?_)
         go_wp2_with fail
         have hb7 : Below V.heap.size V (V.alloc (.cells (chgC (.slice a1 y.data.length cap1) ⟨2, y.path, g.path, y⟩).toArray 50)) := (Below.refl _ _).alloc (Nat.le_refl _) _
         have hb3v : b3 < V.heap.size := by have := HB3.out; have := HLV.out.size; have := HUB.out; have := HLV.out.ul; omega
         have HX7 := Lib.hid ((hb7.block _ (lt20 HXV.out)).trans HXV.out)
         have HP7 := Lib.hid ((hb7.cell hb3v).trans HPV.out)
         have c0 := cell20 (k := 0) HX7.out
         have c1 := cell20 (k := 1) HX7.out
         have c2 := cell20 (k := 2) HX7.out
         have c3 := cell20 (k := 3) HX7.out
         have c4 := cell20 (k := 4) HX7.out
         have c5 := cell20 (k := 5) HX7.out
         have hltX := lt20 HX7.out
         simp only [List.getElem?_toArray, List.getElem?_cons_succ, List.getElem?_cons_zero] at c0 c1 c2 c3 c4 c5
         refine ⟨⟨c0, c1, c2, c3, c4, c5, HP7.out⟩, ?_⟩
         clear c0 c1 c2 c3 c4 c5 hltX hS1
         refine hld_bar 11 rfl (by kernel_rfl) rfl (fun K hK => ?_)
         have hrow := HLV.out.mo.row
         have hbb : w2.heap.size ≤ V.heap.size := HLV.out.size
         have hny := HNM.out.1
         go_wp2_with (at_builtin; go_must (refine wpList_app1p Tryz.appRChgs rfl _ _ rfl w2.heap.size (.slice am ym.length cm) ym.length (chgsC ym) rfl V (chgC (.slice a1 y.data.length cap1) ⟨2, y.path, g.path, y⟩) _ rfl rfl chgC_one hrow (by omega) hbb ?_); intro v8 w8 hown8 hg8 _ hpl8; have HP8 := Lib.hid (HLV.out.pushMo (c := ⟨2, y.path, g.path, y⟩) HYD.out (chg_ok (by decide) HYOK.out.pth HGP.out HYOK.out) hown8 hg8 hpl8); have HG8 := Lib.hid hg8; clear hown8 hg8 hpl8)
         have HX8 := Lib.hid ((HG8.out.block yb (lt20 HXV.out) (fun e => by have := HNY.out _ e.symm; omega)).trans HXV.out)
         have HPC8 := Lib.hid (HG8.out.cell HPV.out (fun e => by have h1 := (own_lt HLV.out.mo.row e.symm).1; have h2 := HB3.out; have h3 := HUB.out; have h4 := HLV.out.ul; simp only at h1; omega))
         have c0 := cell20 (k := 0) HX8.out
         have c1 := cell20 (k := 1) HX8.out
         have c2 := cell20 (k := 2) HX8.out
         have c3 := cell20 (k := 3) HX8.out
         have c4 := cell20 (k := 4) HX8.out
         have c5 := cell20 (k := 5) HX8.out
         have hltX := lt20 HX8.out
         simp only [List.getElem?_toArray, List.getElem?_cons_succ, List.getElem?_cons_zero] at c0 c1 c2 c3 c4 c5
         refine ⟨⟨c0, c1, c2, c3, c4, c5, HPC8.out⟩, ?_⟩
         have hS1 := And.intro c0 (And.intro c1 (And.intro c2 (And.intro c3 (And.intro c4 (And.intro c5 HPC8.out)))))
         clear c0 c1 c2 c3 c4 c5 hltX
         refine hld_take 12 rfl (by kernel_rfl) (by kernel_rfl) (by kernel_rfl) (fun _ _ _ h => h) rfl hS1 (by rintro w' ⟨hw0, hw1, hw2, hw3, hw4, hw5, hw6⟩; go_simp; rfl) ?_
         simp only [Act.put, List.setIfInBounds_toArray, List.set_cons_succ, List.set_cons_zero]
         refine hld_done (by kernel_rfl) ?_
         clear hS1
         go_wp2_with fail
         go_roundw
         case rel => exact ⟨k + 1, ⟨s.u.set q true, s.mo ++ [⟨2, y.path, g.path, y⟩], s.ad, s.md⟩, _, yd, yy, by omega, by go_num, by rw [HST.out, ← HS.out]; exact HSE.out, HP8.out⟩
         case measure => simp [intOf]; omega
    ·have hk2 : k = m := by omega
     have HSF := Lib.hid (show diffR a b = (unused G s.u).map remC ++ s.mo ++ s.ad ++ s.md by
      have h1 : s = diffRS a b := by rw [HS.out, hk2, HM.out, List.take_length, HG.out]; rfl
      unfold diffR
      rw [← h1, HG.out])
     have HLG := Lib.hid (show G.length = ys.length by rw [← HGY.out, List.length_map])
     obtain ⟨w3, hw3⟩ : ∃ Z : World, Z = wr := ⟨_, rfl⟩
     rw [← hw3] at HLP HBR ⊢
     have HU3 := Lib.hid HLP.out.us
     have HGW := Lib.hid (show Below w1.heap.size w1 w3 from HB2.out.trans (by rw [← HUB.out]; exact HLP.out.bel))
     clear hk2 hw3
     go_wp2_with fail
     go_loopw [12, 130] (fun v i wr => ∃ (k : Nat) (zs : List VChg), k ≤ ys.length ∧ i = .int .i64 k ∧ LoopZ G s.u w w3 k v zs wr) (fun _ i _ => ys.length - (intOf i).toNat)
     case atStart => exact ⟨0, [], Nat.zero_le _, rfl, ⟨⟨by simp [unused], World.ownsRow_nil _ _ _ _, by simp⟩, Below.refl _ _⟩⟩
     case round =>
      obtain ⟨j, zs, hj, rfl, hlz⟩ := hrel
      obtain ⟨az, cz, hsz, -, hvz⟩ := owns_shape hlz.row.row
      subst hsz
      unfold maxLen at hvz
      have HLZ := Lib.hid hlz
      have hzl : zs.length ≤ 65536 := by
       have h1 := hlz.row.len
       have h2 := (unused_sub (G.take j) s.u).length_le
       rw [List.length_map] at h1
       rw [List.length_take] at h2
       omega
      clear hlz
      by_cases hlt3 : j < ys.length
      ·obtain ⟨g, hg⟩ : ∃ g, G[j]? = some g := ⟨G[j]'(by rw [HLG.out]; exact hlt3), List.getElem?_eq_getElem _⟩
       obtain ⟨bu, hbu⟩ : ∃ bu, s.u[j]? = some bu := ⟨s.u[j]'(by rw [HSL.out, HLG.out]; exact hlt3), List.getElem?_eq_getElem _⟩
       obtain ⟨b3, o3, dg, rfl, -, hb3, hdg, hokg, -, p0, p1, p2, p3, p4, p5⟩ := ents_at HGO.out hg
       have HG4 := Lib.hid (HGW.out.trans (HLZ.out.bel.mono HGW.out.size))
       replace p0 := (HG4.out.cell hb3).trans p0
       replace p1 := (HG4.out.cell hb3).trans p1
       replace p2 := (HG4.out.cell hb3).trans p2
       replace p3 := (HG4.out.cell hb3).trans p3
       replace p4 := (HG4.out.cell hb3).trans p4
       replace p5 := (HG4.out.cell hb3).trans p5
       have hb31 : b3 < wr.heap.size := Nat.lt_of_lt_of_le hb3 HG4.out.size
       have HGP := Lib.hid hokg.pth
       have HUT := Lib.hid (unused_take hg hbu)
       have HMK := Lib.hid (marks_get hbu)
       obtain ⟨a3, cap3, rfl, hd3, hd4⟩ := hdg.slice
       unfold maxLen at hd4
       clear hg hbu hdg hokg
       go_upto_region 32 with (fail)
       obtain ⟨W4, hW4⟩ : ∃ Z : World, Z = wr.alloc (.cells #[.string g.path, .int .i64 g.kind, .int .i64 g.mode, .int .i64 g.time, .slice a3 g.data.length cap3, .string g.link] 48) := ⟨_, rfl⟩
       rw [← hW4]
       have HW4 := Lib.hid (show Below wr.heap.size wr W4 by rw [hW4]; exact (Below.refl _ _).alloc (Nat.le_refl _) _)
       have HXG := Lib.hid (show W4.heap[wr.heap.size]? = some (.cells #[.string g.path, .int .i64 g.kind, .int .i64 g.mode, .int .i64 g.time, .slice a3 g.data.length cap3, .string g.link] 48 (0, 0)) by rw [hW4]; exact new20 wr _)
       have HB4 := Lib.hid (below_next HLZ.out.bel HW4.out)
       have HU4 := Lib.hid ((HB4.out.block _ (lt20 HU3.out)).trans HU3.out)
       clear hW4 p0 p1 p2 p3 p4 p5
       have hmk : W4.cell? ⟨ub, j, none⟩ = some (.bool bu) := (cell20 (k := j) HU4.out).trans HMK.out
       have hltU := lt20 HU4.out
       have c0 := cell20 (k := 0) HXG.out
       have c1 := cell20 (k := 1) HXG.out
       have c2 := cell20 (k := 2) HXG.out
       have c3 := cell20 (k := 3) HXG.out
       have c4 := cell20 (k := 4) HXG.out
       have c5 := cell20 (k := 5) HXG.out
       have hltX := lt20 HXG.out
       simp only [List.getElem?_toArray, List.getElem?_cons_succ, List.getElem?_cons_zero] at c0 c1 c2 c3 c4 c5
       cases bu with
       | true =>
        go_wp2_with fail
        go_roundw
        case rel => exact ⟨j + 1, zs, by omega, by go_num, ⟨by rw [HUT.out, if_pos rfl, List.append_nil]; exact HLZ.out.row.below HW4.out, HB4.out⟩⟩
        case measure => simp [intOf]; omega
       | false =>
        have hrow := own_below HLZ.out.row.row HW4.out
        have HROWZ := Lib.hid hrow
        have hbb : w3.heap.size ≤ W4.heap.size := HB4.out.size
        go_wp2_with (at_builtin; go_must (refine wpList_app1p Tryz.appRChgs rfl _ _ rfl w3.heap.size (.slice az zs.length cz) zs.length (chgsC zs) rfl W4 (chgC (.slice none 0 0) (remC g)) _ rfl rfl chgC_one hrow (by omega) hbb ?_); intro v8 w8 hown8 hg8 _ hpl8; have HOWN8 := Lib.hid hown8; have HG8 := Lib.hid hg8; clear hown8 hg8 hpl8 c0 c1 c2 c3 c4 c5 hltX hmk hltU)
        go_roundw
        case rel => exact ⟨j + 1, zs ++ [(.slice none 0 0, remC g)], by omega, by go_num, ⟨by rw [HUT.out, if_neg (by simp), List.map_append]; exact HLZ.out.row.push (DataAt.nil _ _) (rem_ok HGP.out) HOWN8.out, below_grown HB4.out HROWZ.out HG8.out (Nat.le_refl _) HB4.out.size⟩⟩
        case measure => simp [intOf]; omega
      ·have hj2 : j = ys.length := by omega
       have HZ := Lib.hid (show zs.map Prod.snd = (unused G s.u).map remC by
        have h1 := HLZ.out.row.out
        rw [hj2, ← HLG.out, List.take_length] at h1
        exact h1)
       have HZR := Lib.hid HLZ.out.row.row
       have HBZ := Lib.hid HLZ.out.bel
       have hmb := HNM.out
       clear hj2
       go_wp2_with (first | (at_builtin; refine wpList_appn Tryz.appRChgs rfl _ _ rfl w3.heap.size (.slice b2 (zs.length + ym.length + yd.length) j2) (zs.length + ym.length + yd.length) (chgsC zs ++ chgsC ym ++ chgsC yd) rfl HO2.out (.slice ay yy.length cy) yy.length (chgsC yy) rfl (row_of_owns (own_below HLP.out.md.row HC2.out)) (chgsC_oneC HLP.out.md.dat) (by omega) HC2.out.size ?_; intro v3 U3 hown3 hg3; have HO3 := Lib.hid hown3; have HC3 := Lib.hid (below_grown HC2.out HO2.out hg3 (Nat.le_refl _) HC2.out.size); obtain ⟨b3, j3, rfl, -, -⟩ := owns_shape hown3; clear hown3 hg3) | (at_builtin; refine wpList_appn Tryz.appRChgs rfl _ _ rfl w3.heap.size (.slice b1 (zs.length + ym.length) j1) (zs.length + ym.length) (chgsC zs ++ chgsC ym) rfl HO1.out (.slice ad yd.length cd) yd.length (chgsC yd) rfl (row_of_owns (own_below HLP.out.ad.row HC1.out)) (chgsC_oneC HLP.out.ad.dat) (by omega) HC1.out.size ?_; intro v2 U2 hown2 hg2; have HO2 := Lib.hid hown2; have HC2 := Lib.hid (below_grown HC1.out HO1.out hg2 (Nat.le_refl _) HC1.out.size); obtain ⟨b2, j2, rfl, -, -⟩ := owns_shape hown2; clear hown2 hg2) | (at_builtin; refine wpList_appn Tryz.appRChgs rfl _ _ rfl w3.heap.size (.slice az zs.length cz) (zs.length) (chgsC zs) rfl HZR.out (.slice am ym.length cm) ym.length (chgsC ym) rfl (row_of_owns (own_below HLP.out.mo.row HBZ.out)) (chgsC_oneC HLP.out.mo.dat) (by omega) HBZ.out.size ?_; intro v1 U1 hown1 hg1; have HO1 := Lib.hid hown1; have HC1 := Lib.hid (below_grown HBZ.out HZR.out hg1 (Nat.le_refl _) HBZ.out.size); obtain ⟨b1, j1, rfl, -, -⟩ := owns_shape hown1; clear hown1 hg1))
       go_ret
       have HBF := below_next HBR.out HC3.out
       refine ⟨_, rfl, ?_, HBF⟩
       rw [← diff_same HTA.out HTB.out, HSF.out, ← HZ.out, ← HLP.out.mo.out, ← HLP.out.ad.out, ← HLP.out.md.out, ← List.map_append, ← List.map_append, ← List.map_append]
       refine chgs_shared (B := w3.heap.size) ?_ HBF ?_
       ·rw [List.length_append, List.length_append, List.length_append, chgsC_app, chgsC_app, chgsC_app]; exact HO3.out
       ·intro y hy
        simp only [List.mem_append] at hy
        rcases hy with ((hy | hy) | hy) | hy
        ·exact HLZ.out.row.dat y hy
        ·exact HLP.out.mo.dat y hy
        ·exact HLP.out.ad.dat y hy
        ·exact HLP.out.md.dat y hy
end Go.Proofs.YtdieneaillkbgaaGreatDoor

/- The reference kinkeepref23: insert. -/
namespace Go.Proofs.YtdieneaillkbgaaGreatDoor
open Go Go.RowKit Go.Maps
theorem ents_all {S : Nat → Prop} {w : World} {v : Value} {l : List Ent} (h : EntsAt S w v l) : EntsAt (fun _ => True) w v l :=
  SeqAt.mono h (by omega) (fun _ _ _ => trivial) (fun c x _ hr => by
    obtain ⟨v, r1, r2, r3⟩ := hr
    exact ⟨v, r1, RowAt.mono r2 (fun _ _ _ => trivial) (by omega), r3⟩)
theorem insF_at {L : List Ent} {e : Ent} {j : Nat} (h : ∀ f ∈ L.take j, cmpE f e < 0) (hs : L.length ≤ j ∨ ∃ f, L[j]? = some f ∧ ¬ cmpE f e < 0) : insF L e = L.take j ++ [e] ++ L.drop j := by
  unfold insF
  have h1 : (L.drop j).takeWhile (fun x => decide (cmpE x e < 0)) = [] ∧ (L.drop j).dropWhile (fun x => decide (cmpE x e < 0)) = L.drop j := by
    rcases hs with hs | ⟨f, hf, hc⟩
    · rw [List.drop_eq_nil_of_le hs]; exact ⟨rfl, rfl⟩
    · obtain ⟨hl, rfl⟩ := List.getElem?_eq_some_iff.1 hf
      rw [List.drop_eq_getElem_cons hl]
      exact ⟨List.takeWhile_cons_of_neg (by simpa using hc), List.dropWhile_cons_of_neg (by simpa using hc)⟩
  have hp : ∀ x ∈ L.take j, (fun x => decide (cmpE x e < 0)) x = true := fun x hx => by simpa using h x hx
  have e1 : L.takeWhile (fun x => decide (cmpE x e < 0)) = L.take j := by
    rw [← List.take_append_drop j L, List.takeWhile_append_of_pos hp, List.take_append_drop, h1.1, List.append_nil]
  have e2 : L.dropWhile (fun x => decide (cmpE x e < 0)) = L.drop j := by
    rw [← List.take_append_drop j L, List.dropWhile_append_of_pos hp, List.take_append_drop, h1.2]
  rw [e1, e2]; simp
set_option maxRecDepth 100000 in
set_option maxHeartbeats 4000000 in
theorem r_insert_any (S T : Nat → Prop) (L : List Ent) (vl ve : Value) (e : Ent) (w : World) (hl : EntsAt S w vl L) (hsh : Shp vl) (hde : DataAt T w ve e.data) (hok : EntOk e) (hn : L.length ≤ 8200) (hps : ∀ f ∈ L, f.path.size ≤ 65536) :
    Calls Tryz.prog 54 #[vl, entV ve e] w fun en w' => ∃ v, en = .returned v ∧ EntsAt (fun _ => True) w' v (insF L e) ∧ Below w.heap.size w w' ∧ Shp v := by
  have hes : EntsAt (fun _ => True) w vl L := ents_all hl
  have HES := Lib.hid hes
  have HPM := Lib.hid hps
  have HOK := Lib.hid hok
  obtain ⟨m, hm0⟩ : ∃ m, m = L.length := ⟨_, rfl⟩
  obtain ⟨ys, hym, hlv⟩ := hes.listV
  have HML := Lib.hid (show m = ys.length by rw [hm0, ← hym, List.length_map])
  have HM0 := Lib.hid hm0
  have HYM := Lib.hid hym
  obtain ⟨av, cv, rfl, hcv, hmv, -⟩ := SeqAt.shape hes EntR.len
  have HNIL := Lib.hid (show av = none → m = 0 ∧ cv = 0 from fun h => by
    subst h
    rcases hsh with h | ⟨b, o, n, c, h⟩ | ⟨a, c, h⟩
    · simp only [Value.slice.injEq] at h
      exact ⟨hm0.trans h.2.1, h.2.2⟩
    · simp at h
    · simp at h)
  have hva : av = none ∨ (∃ b o, av = some ⟨b, o, none⟩) ∨ (m = 0 ∧ ∃ b o s, av = some ⟨b, o, some s⟩) := by
    rcases hsh with h | ⟨b, o, n, c, h⟩ | ⟨⟨b, o, sp⟩, c, h⟩
    · simp only [Value.slice.injEq] at h; exact .inl h.1
    · simp only [Value.slice.injEq] at h; exact .inr (.inl ⟨b, o, h.1⟩)
    · simp only [Value.slice.injEq] at h
      cases sp with
      | none => exact .inr (.inl ⟨b, o, h.1⟩)
      | some s => exact .inr (.inr ⟨hm0.trans h.2.1, b, o, s, h.1⟩)
  have HRW := Lib.hid (show RowAt (fun _ => True) w 6 (.slice av m cv) m (entsC ys) by have h1 := hlv.row; rw [← HML.out, ← hm0] at h1; exact h1)
  have HDY := Lib.hid hlv.dat
  rw [← hm0] at hcv hn ⊢
  unfold maxLen at hmv
  have HDE := Lib.hid (data_mono (S' := fun _ => True) hde (fun _ _ => trivial))
  obtain ⟨a1, cap1, rfl, hd1, hd2⟩ := hde.slice
  unfold maxLen at hd2
  clear hl hsh hes hm0 hym hlv hps hok hde
  unfold entV
  go_enter Tryz.func54, Tryz.ntmps54
  go_upto_region 1 with (fail)
  obtain ⟨W, hW⟩ : ∃ W, W = w.alloc (.cells #[.string e.path, .int .i64 e.kind, .int .i64 e.mode, .int .i64 e.time, .slice a1 e.data.length cap1, .string e.link] 48) := ⟨_, rfl⟩
  rw [← hW]
  have HXW := Lib.hid (show W.heap[w.heap.size]? = some (.cells #[.string e.path, .int .i64 e.kind, .int .i64 e.mode, .int .i64 e.time, .slice a1 e.data.length cap1, .string e.link] 48 (0, 0)) by rw [hW]; exact new20 w _)
  have HWL := Lib.hid (show Below w.heap.size w W by rw [hW]; exact (Below.refl _ _).alloc (Nat.le_refl _) _)
  clear hW
  go_wp2_with fail
  go_loopw [5] (fun j wq => ∃ j' : Nat, j = .int .i64 j' ∧ j' ≤ m ∧ (∀ f ∈ L.take j', cmpE f e < 0) ∧ Below W.heap.size W wq) (fun j _ => m - (intOf j).toNat)
  case atStart => exact ⟨0, rfl, Nat.zero_le _, by simp, Below.refl _ _⟩
  case round =>
    obtain ⟨j, rfl, hjm, hji, hbq⟩ := hrel
    have HIX := Lib.hid hji
    have HBQ := Lib.hid hbq
    have HXQ := Lib.hid ((hbq.block _ (lt20 HXW.out)).trans HXW.out)
    clear hji hbq
    by_cases hjl : j < m
    case' pos =>
      obtain ⟨f, hf⟩ : ∃ f, L[j]? = some f := ⟨L[j]'(by rw [← HM0.out]; omega), by simp⟩
      have hva2 := hva
      obtain ⟨b1, o1, dv', rfl, -, -, -, -, -, p0, -⟩ := ents_at HES.out hf
      have HPF := Lib.hid (HPM.out f (List.mem_of_getElem? hf))
      obtain ⟨c, hc'⟩ : ∃ c, cmpL (bl f.path) (bl e.path) = c := ⟨_, rfl⟩
      have HC := Lib.hid hc'
      have e9 : decide (j < m) = true := by simp; omega
      have hjn2 : (j : Int) < (m : Int) := by omega
      have HF := Lib.hid hf
      have y0 := ((HWL.out.trans (HBQ.out.mono HWL.out.size)).cell (block_lt p0)).trans p0
      have c0 := cell20 (k := 0) HXQ.out
      simp only [List.getElem?_toArray, List.getElem?_cons_zero] at c0
      clear hf hc' p0
      by_cases hneg : c < 0
      case pos =>
        have e8 : decide (c < 0) = true := by simp [hneg]
        have HIN := Lib.hid (show ∀ f ∈ L.take (j + 1), cmpE f e < 0 from fun x hx => by
          rw [List.take_add_one, HF.out] at hx
          rcases List.mem_append.1 hx with hx | hx
          · exact HIX.out x hx
          · rw [show x = f by simpa using hx]; unfold cmpE; rw [HC.out]; exact hneg)
        go_wp2_with fail
        refine wp_region_segs [some 12, none, some 2] (by kernel_rfl) (by kernel_rfl) (by kernel_rfl) ?_
        simp only [wpSegs, List.take_succ_cons, List.take_zero, List.drop_succ_cons, List.drop_zero]
        repeat (first | (refine seg_skip rfl ?_; simp only [Act.put, List.setIfInBounds_toArray, List.set_cons_succ, List.set_cons_zero]) | (refine seg_run rfl (fun K hK => ?_); go_simp; refine hK _ ?_; clear hK K))
        refine seg_nil ?_
        refine bar_run rfl (fun K hK => ?_)
        go_wp2_with (go_at_call 39; refine (r_compare20 f.path e.path c _ HPF.out HC.out).mono ?_; rintro e8' w8 ⟨rfl, hb8⟩; have HB8 := Lib.hid (HBQ.out.trans (((Below.refl wr.heap.size wr).drew.trans (hb8.mono (Nat.le_refl _))).mono HBQ.out.size)); clear hb8)
        repeat (first | (refine seg_skip rfl ?_; simp only [Act.put, List.setIfInBounds_toArray, List.set_cons_succ, List.set_cons_zero]) | (refine seg_run rfl (fun K hK => ?_); go_simp; refine hK _ ?_; clear hK K))
        refine seg_nil ?_
        go_wp2_with fail
        go_roundw
        case rel => exact ⟨j + 1, by go_num, by omega, HIN.out, HB8.out⟩
        case measure => simp [intOf]; omega
      case' neg =>
        have e8 : decide (c < 0) = false := by simp; omega
        have e7 : 0 ≤ c := by omega
        have HJ := Lib.hid (show insF L e = L.take j ++ [e] ++ L.drop j from insF_at HIX.out (.inr ⟨f, HF.out, by unfold cmpE; rw [HC.out]; exact hneg⟩))
        go_wp2_with fail
        refine wp_region_segs [some 12, none, some 2] (by kernel_rfl) (by kernel_rfl) (by kernel_rfl) ?_
        simp only [wpSegs, List.take_succ_cons, List.take_zero, List.drop_succ_cons, List.drop_zero]
        repeat (first | (refine seg_skip rfl ?_; simp only [Act.put, List.setIfInBounds_toArray, List.set_cons_succ, List.set_cons_zero]) | (refine seg_run rfl (fun K hK => ?_); go_simp; refine hK _ ?_; clear hK K))
        refine seg_nil ?_
        refine bar_run rfl (fun K hK => ?_)
        go_wp2_with (go_at_call 39; refine (r_compare20 f.path e.path c _ HPF.out HC.out).mono ?_; rintro e8' w8 ⟨rfl, hb8⟩; have HB8 := Lib.hid (HBQ.out.trans (((Below.refl wr.heap.size wr).drew.trans (hb8.mono (Nat.le_refl _))).mono HBQ.out.size)); clear hb8)
        repeat (first | (refine seg_skip rfl ?_; simp only [Act.put, List.setIfInBounds_toArray, List.set_cons_succ, List.set_cons_zero]) | (refine seg_run rfl (fun K hK => ?_); go_simp; refine hK _ ?_; clear hK K))
        refine seg_nil ?_
        go_wp2_with fail
        clear e8 e7 y0 c0 hjn2 e9 hva hva2 hneg
        refine hld_start (fun w' => w'.cell? ⟨w.heap.size, 0, none⟩ = some (.string e.path) ∧ w'.cell? ⟨w.heap.size, 1, none⟩ = some (.int .i64 e.kind) ∧ w'.cell? ⟨w.heap.size, 2, none⟩ = some (.int .i64 e.mode) ∧ w'.cell? ⟨w.heap.size, 3, none⟩ = some (.int .i64 e.time) ∧ w'.cell? ⟨w.heap.size, 4, none⟩ = some (.slice a1 e.data.length cap1) ∧ w'.cell? ⟨w.heap.size, 5, none⟩ = some (.string e.link)) (by kernel_rfl) ?_
        obtain ⟨V, hV⟩ : ∃ V : World, V = (w8).drew := ⟨_, rfl⟩
        rw [← hV]
        have HBV := Lib.hid (show Below W.heap.size W V by rw [hV]; exact HB8.out.trans ((Below.refl (w8).heap.size (w8)).drew.mono HB8.out.size))
        clear hV
        have HBX := HBV
        have HXX := Lib.hid ((HBX.out.block _ (lt20 HXW.out)).trans HXW.out)
        have c0 := cell20 (k := 0) HXX.out
        have c1 := cell20 (k := 1) HXX.out
        have c2 := cell20 (k := 2) HXX.out
        have c3 := cell20 (k := 3) HXX.out
        have c4 := cell20 (k := 4) HXX.out
        have c5 := cell20 (k := 5) HXX.out
        simp only [List.getElem?_toArray, List.getElem?_cons_succ, List.getElem?_cons_zero] at c0 c1 c2 c3 c4 c5
        have hrw := HRW.out
        obtain ⟨J, hJJ⟩ : ∃ J, J = j := ⟨_, rfl⟩
        obtain ⟨N, hNN⟩ : ∃ N, N = ys.length - J := ⟨_, rfl⟩
        have HJL := Lib.hid (show J ≤ ys.length by rw [hJJ, ← HML.out]; exact hjm)
        have hJN : J + N ≤ 8200 := by have := HML.out; have := HJL.out; omega
        have HIJ := Lib.hid (show insF L e = L.take J ++ [e] ++ L.drop J by rw [hJJ]; exact HJ.out)
        have HP := Lib.hid (show RowAt (fun _ => True) W 6 _ J (entsC (ys.take J)) from by
          rw [entsC_take, hJJ]; exact (row_take hrw hjm).below (by omega) HWL.out)
        have HDT := Lib.hid (show ∀ y ∈ ys.take J, DataAt (fun _ => True) w y.1 y.2.data ∧ EntOk y.2 from fun y hy => HDY.out y (List.mem_of_mem_take hy))
        have HDD := Lib.hid (show ∀ y ∈ ys.drop J, DataAt (fun _ => True) w y.1 y.2.data ∧ EntOk y.2 from fun y hy => HDY.out y (List.mem_of_mem_drop hy))
        have HQ := Lib.hid (show RowAt (fun _ => True) W 6 (.slice (some ⟨b1, o1 + j * 6, none⟩) (m - j) (cv - j)) N (entsC (ys.drop J)) from by
          rw [entsC_drop, hNN, hJJ, ← HML.out]
          exact (row_drop hrw hjm).below (by omega) HWL.out)
        have hjc2 : j < cv := by omega
        have hjc3 : j ≤ cv := by omega
        have HNN := Lib.hid hNN
        clear hrw hJJ hNN
        refine hld_take 1 rfl (by kernel_rfl) (by kernel_rfl) (by kernel_rfl) (fun _ _ _ h => h) rfl (by go_simp) (by intro w' hw'; go_simp; rfl) ?_
        simp only [Act.put, List.setIfInBounds_toArray, List.set_cons_succ, List.set_cons_zero]
        refine hld_take 2 rfl (by kernel_rfl) (by kernel_rfl) (by kernel_rfl) (fun _ _ _ h => h) rfl (by go_simp) (by intro w' hw'; go_simp; rfl) ?_
        simp only [Act.put, List.setIfInBounds_toArray, List.set_cons_succ, List.set_cons_zero]
        refine hld_take 3 rfl (by kernel_rfl) (by kernel_rfl) (by kernel_rfl) (fun _ _ _ h => h) rfl (by go_simp) (by intro w' hw'; go_simp; rfl) ?_
        simp only [Act.put, List.setIfInBounds_toArray, List.set_cons_succ, List.set_cons_zero]
        refine hld_take 5 rfl (by kernel_rfl) (by kernel_rfl) (by kernel_rfl) (fun _ _ _ h => h) rfl ⟨c0, c1, c2, c3, c4, c5⟩ (by rintro w' ⟨h0, h1, h2, h3, h4, h5⟩; go_simp; rfl) ?_
        simp only [Act.put, List.setIfInBounds_toArray, List.set_cons_succ, List.set_cons_zero]
        refine hld_take 8 rfl (by kernel_rfl) (by kernel_rfl) (by kernel_rfl) (fun _ _ _ h => h) rfl (by go_simp) (by intro w' hw'; go_simp; rfl) ?_
        simp only [Act.put, List.setIfInBounds_toArray, List.set_cons_succ, List.set_cons_zero]
        refine hld_take 9 rfl (by kernel_rfl) (by kernel_rfl) (by kernel_rfl) (fun _ _ _ h => h) rfl (by go_simp) (by intro w' hw'; go_simp; rfl) ?_
        simp only [Act.put, List.setIfInBounds_toArray, List.set_cons_succ, List.set_cons_zero]
        refine hld_take 10 rfl (by kernel_rfl) (by kernel_rfl) (by kernel_rfl) (fun _ _ _ h => h) rfl (by go_simp) (by intro w' hw'; go_simp; rfl) ?_
        simp only [Act.put, List.setIfInBounds_toArray, List.set_cons_succ, List.set_cons_zero]
    case' neg =>
      have hj2 : m = j := by omega
      subst hj2
      have HJ := Lib.hid (show insF L e = L.take m ++ [e] ++ L.drop m from insF_at HIX.out (.inl (by rw [← HM0.out]; exact Nat.le_refl _)))
      go_wp2_with fail
      refine wp_region_segs [some 12, none, some 2] (by kernel_rfl) (by kernel_rfl) (by kernel_rfl) ?_
      simp only [wpSegs, List.take_succ_cons, List.take_zero, List.drop_succ_cons, List.drop_zero]
      obtain ⟨W2, hW2⟩ : ∃ W2 : World, W2 = wr.drew := ⟨_, rfl⟩
      rw [← hW2]
      have HBQ2 := Lib.hid (show Below W.heap.size W W2 by rw [hW2]; exact HBQ.out.trans ((Below.refl wr.heap.size wr).drew.mono HBQ.out.size))
      clear hW2
      repeat (first | (refine seg_skip rfl ?_; simp only [Act.put, List.setIfInBounds_toArray, List.set_cons_succ, List.set_cons_zero]) | (refine seg_run rfl (fun K hK => ?_); go_simp; refine hK _ ?_; clear hK K))
      refine seg_nil ?_
      refine bar_skip rfl ?_
      simp only [Act.put, List.setIfInBounds_toArray, List.set_cons_succ, List.set_cons_zero]
      repeat (first | (refine seg_skip rfl ?_; simp only [Act.put, List.setIfInBounds_toArray, List.set_cons_succ, List.set_cons_zero]) | (refine seg_run rfl (fun K hK => ?_); go_simp; refine hK _ ?_; clear hK K))
      refine seg_nil ?_
      clear hjl
      go_wp2_with fail
      refine hld_start (fun w' => w'.cell? ⟨w.heap.size, 0, none⟩ = some (.string e.path) ∧ w'.cell? ⟨w.heap.size, 1, none⟩ = some (.int .i64 e.kind) ∧ w'.cell? ⟨w.heap.size, 2, none⟩ = some (.int .i64 e.mode) ∧ w'.cell? ⟨w.heap.size, 3, none⟩ = some (.int .i64 e.time) ∧ w'.cell? ⟨w.heap.size, 4, none⟩ = some (.slice a1 e.data.length cap1) ∧ w'.cell? ⟨w.heap.size, 5, none⟩ = some (.string e.link)) (by kernel_rfl) ?_
      obtain ⟨V, hV⟩ : ∃ V : World, V = (W2).drew := ⟨_, rfl⟩
      rw [← hV]
      have HBV := Lib.hid (show Below W.heap.size W V by rw [hV]; exact HBQ2.out.trans ((Below.refl (W2).heap.size (W2)).drew.mono HBQ2.out.size))
      clear hV
      have HBX := HBV
      have HXX := Lib.hid ((HBX.out.block _ (lt20 HXW.out)).trans HXW.out)
      have c0 := cell20 (k := 0) HXX.out
      have c1 := cell20 (k := 1) HXX.out
      have c2 := cell20 (k := 2) HXX.out
      have c3 := cell20 (k := 3) HXX.out
      have c4 := cell20 (k := 4) HXX.out
      have c5 := cell20 (k := 5) HXX.out
      simp only [List.getElem?_toArray, List.getElem?_cons_succ, List.getElem?_cons_zero] at c0 c1 c2 c3 c4 c5
      have hrw := HRW.out
      rcases hva with hva | ⟨b1, o1, hva⟩ | ⟨hm0, b1, o1, sp, hva⟩
      case' inl =>
        subst hva
        obtain ⟨hm0, hc0⟩ := HNIL.out rfl
        subst hm0 hc0
        obtain ⟨J, hJJ⟩ : ∃ J, J = 0 := ⟨_, rfl⟩
        obtain ⟨N, hNN⟩ : ∃ N, N = ys.length - J := ⟨_, rfl⟩
        have HJL := Lib.hid (show J ≤ ys.length by rw [hJJ, ← HML.out]; exact hjm)
        have hJN : J + N ≤ 8200 := by have := HML.out; have := HJL.out; omega
        have HIJ := Lib.hid (show insF L e = L.take J ++ [e] ++ L.drop J by rw [hJJ]; exact HJ.out)
        have HP := Lib.hid (show RowAt (fun _ => True) W 6 _ J (entsC (ys.take J)) from by
          rw [entsC_take, hJJ]; exact (row_take hrw hjm).below (by omega) HWL.out)
        have HDT := Lib.hid (show ∀ y ∈ ys.take J, DataAt (fun _ => True) w y.1 y.2.data ∧ EntOk y.2 from fun y hy => HDY.out y (List.mem_of_mem_take hy))
        have HDD := Lib.hid (show ∀ y ∈ ys.drop J, DataAt (fun _ => True) w y.1 y.2.data ∧ EntOk y.2 from fun y hy => HDY.out y (List.mem_of_mem_drop hy))
        have HQ := Lib.hid (show RowAt (fun _ => True) W 6 (.slice none (0 - 0) (0 - 0)) N (entsC (ys.drop J)) from by
          have h1 : ys.length ≤ J := by have := HML.out; omega
          rw [List.drop_eq_nil_of_le h1, hNN, Nat.sub_eq_zero_of_le h1]
          exact row_none (by unfold maxLen; omega))
        have HNN := Lib.hid hNN
        clear hrw hJJ hNN
        refine hld_take 1 rfl (by kernel_rfl) (by kernel_rfl) (by kernel_rfl) (fun _ _ _ h => h) rfl (by go_simp) (by intro w' hw'; go_simp; rfl) ?_
        simp only [Act.put, List.setIfInBounds_toArray, List.set_cons_succ, List.set_cons_zero]
        refine hld_take 2 rfl (by kernel_rfl) (by kernel_rfl) (by kernel_rfl) (fun _ _ _ h => h) rfl (by go_simp) (by intro w' hw'; go_simp; rfl) ?_
        simp only [Act.put, List.setIfInBounds_toArray, List.set_cons_succ, List.set_cons_zero]
        refine hld_take 3 rfl (by kernel_rfl) (by kernel_rfl) (by kernel_rfl) (fun _ _ _ h => h) rfl (by go_simp) (by intro w' hw'; go_simp; rfl) ?_
        simp only [Act.put, List.setIfInBounds_toArray, List.set_cons_succ, List.set_cons_zero]
        refine hld_take 5 rfl (by kernel_rfl) (by kernel_rfl) (by kernel_rfl) (fun _ _ _ h => h) rfl ⟨c0, c1, c2, c3, c4, c5⟩ (by rintro w' ⟨h0, h1, h2, h3, h4, h5⟩; go_simp; rfl) ?_
        simp only [Act.put, List.setIfInBounds_toArray, List.set_cons_succ, List.set_cons_zero]
        refine hld_take 8 rfl (by kernel_rfl) (by kernel_rfl) (by kernel_rfl) (fun _ _ _ h => h) rfl (by go_simp) (by intro w' hw'; go_simp; rfl) ?_
        simp only [Act.put, List.setIfInBounds_toArray, List.set_cons_succ, List.set_cons_zero]
        refine hld_take 9 rfl (by kernel_rfl) (by kernel_rfl) (by kernel_rfl) (fun _ _ _ h => h) rfl (by go_simp) (by intro w' hw'; go_simp; rfl) ?_
        simp only [Act.put, List.setIfInBounds_toArray, List.set_cons_succ, List.set_cons_zero]
        refine hld_take 10 rfl (by kernel_rfl) (by kernel_rfl) (by kernel_rfl) (fun _ _ _ h => h) rfl (by go_simp) (by intro w' hw'; go_simp; rfl) ?_
        simp only [Act.put, List.setIfInBounds_toArray, List.set_cons_succ, List.set_cons_zero]
      case' inr.inl =>
        subst hva
        by_cases hjc : m = cv
        case' pos =>
          subst hjc
          obtain ⟨J, hJJ⟩ : ∃ J, J = m := ⟨_, rfl⟩
          obtain ⟨N, hNN⟩ : ∃ N, N = ys.length - J := ⟨_, rfl⟩
          have HJL := Lib.hid (show J ≤ ys.length by rw [hJJ, ← HML.out]; exact hjm)
          have hJN : J + N ≤ 8200 := by have := HML.out; have := HJL.out; omega
          have HIJ := Lib.hid (show insF L e = L.take J ++ [e] ++ L.drop J by rw [hJJ]; exact HJ.out)
          have HP := Lib.hid (show RowAt (fun _ => True) W 6 _ J (entsC (ys.take J)) from by
            rw [entsC_take, hJJ]; exact (row_take hrw hjm).below (by omega) HWL.out)
          have HDT := Lib.hid (show ∀ y ∈ ys.take J, DataAt (fun _ => True) w y.1 y.2.data ∧ EntOk y.2 from fun y hy => HDY.out y (List.mem_of_mem_take hy))
          have HDD := Lib.hid (show ∀ y ∈ ys.drop J, DataAt (fun _ => True) w y.1 y.2.data ∧ EntOk y.2 from fun y hy => HDY.out y (List.mem_of_mem_drop hy))
          have HQ := Lib.hid (show RowAt (fun _ => True) W 6 (.slice (some ⟨b1, o1, none⟩) 0 0) N (entsC (ys.drop J)) from by
            have h1 : ys.length ≤ J := by have := HML.out; omega
            rw [List.drop_eq_nil_of_le h1, hNN, Nat.sub_eq_zero_of_le h1]
            exact row_none (by unfold maxLen; omega))
          have HNN := Lib.hid hNN
          clear hrw hJJ hNN
          refine hld_take 1 rfl (by kernel_rfl) (by kernel_rfl) (by kernel_rfl) (fun _ _ _ h => h) rfl (by go_simp) (by intro w' hw'; go_simp; rfl) ?_
          simp only [Act.put, List.setIfInBounds_toArray, List.set_cons_succ, List.set_cons_zero]
          refine hld_take 2 rfl (by kernel_rfl) (by kernel_rfl) (by kernel_rfl) (fun _ _ _ h => h) rfl (by go_simp) (by intro w' hw'; go_simp; rfl) ?_
          simp only [Act.put, List.setIfInBounds_toArray, List.set_cons_succ, List.set_cons_zero]
          refine hld_take 3 rfl (by kernel_rfl) (by kernel_rfl) (by kernel_rfl) (fun _ _ _ h => h) rfl (by go_simp) (by intro w' hw'; go_simp; rfl) ?_
          simp only [Act.put, List.setIfInBounds_toArray, List.set_cons_succ, List.set_cons_zero]
          refine hld_take 5 rfl (by kernel_rfl) (by kernel_rfl) (by kernel_rfl) (fun _ _ _ h => h) rfl ⟨c0, c1, c2, c3, c4, c5⟩ (by rintro w' ⟨h0, h1, h2, h3, h4, h5⟩; go_simp; rfl) ?_
          simp only [Act.put, List.setIfInBounds_toArray, List.set_cons_succ, List.set_cons_zero]
          refine hld_take 8 rfl (by kernel_rfl) (by kernel_rfl) (by kernel_rfl) (fun _ _ _ h => h) rfl (by go_simp) (by intro w' hw'; go_simp; rfl) ?_
          simp only [Act.put, List.setIfInBounds_toArray, List.set_cons_succ, List.set_cons_zero]
          refine hld_take 9 rfl (by kernel_rfl) (by kernel_rfl) (by kernel_rfl) (fun _ _ _ h => h) rfl (by go_simp) (by intro w' hw'; go_simp; rfl) ?_
          simp only [Act.put, List.setIfInBounds_toArray, List.set_cons_succ, List.set_cons_zero]
          refine hld_take 10 rfl (by kernel_rfl) (by kernel_rfl) (by kernel_rfl) (fun _ _ _ h => h) rfl (by go_simp) (by intro w' hw'; go_simp; rfl) ?_
          simp only [Act.put, List.setIfInBounds_toArray, List.set_cons_succ, List.set_cons_zero]
        case' neg =>
          obtain ⟨J, hJJ⟩ : ∃ J, J = m := ⟨_, rfl⟩
          obtain ⟨N, hNN⟩ : ∃ N, N = ys.length - J := ⟨_, rfl⟩
          have HJL := Lib.hid (show J ≤ ys.length by rw [hJJ, ← HML.out]; exact hjm)
          have hJN : J + N ≤ 8200 := by have := HML.out; have := HJL.out; omega
          have HIJ := Lib.hid (show insF L e = L.take J ++ [e] ++ L.drop J by rw [hJJ]; exact HJ.out)
          have HP := Lib.hid (show RowAt (fun _ => True) W 6 _ J (entsC (ys.take J)) from by
            rw [entsC_take, hJJ]; exact (row_take hrw hjm).below (by omega) HWL.out)
          have HDT := Lib.hid (show ∀ y ∈ ys.take J, DataAt (fun _ => True) w y.1 y.2.data ∧ EntOk y.2 from fun y hy => HDY.out y (List.mem_of_mem_take hy))
          have HDD := Lib.hid (show ∀ y ∈ ys.drop J, DataAt (fun _ => True) w y.1 y.2.data ∧ EntOk y.2 from fun y hy => HDY.out y (List.mem_of_mem_drop hy))
          have HQ := Lib.hid (show RowAt (fun _ => True) W 6 (.slice (some ⟨b1, o1 + m * 6, none⟩) 0 (cv - m)) N (entsC (ys.drop J)) from by
            have h1 : ys.length ≤ J := by have := HML.out; omega
            rw [List.drop_eq_nil_of_le h1, hNN, Nat.sub_eq_zero_of_le h1]
            exact row_none (by unfold maxLen; omega))
          have hjc2 : m < cv := by omega
          have hjc3 : m ≤ cv := by omega
          clear hjc
          have HNN := Lib.hid hNN
          clear hrw hJJ hNN
          refine hld_take 1 rfl (by kernel_rfl) (by kernel_rfl) (by kernel_rfl) (fun _ _ _ h => h) rfl (by go_simp) (by intro w' hw'; go_simp; rfl) ?_
          simp only [Act.put, List.setIfInBounds_toArray, List.set_cons_succ, List.set_cons_zero]
          refine hld_take 2 rfl (by kernel_rfl) (by kernel_rfl) (by kernel_rfl) (fun _ _ _ h => h) rfl (by go_simp) (by intro w' hw'; go_simp; rfl) ?_
          simp only [Act.put, List.setIfInBounds_toArray, List.set_cons_succ, List.set_cons_zero]
          refine hld_take 3 rfl (by kernel_rfl) (by kernel_rfl) (by kernel_rfl) (fun _ _ _ h => h) rfl (by go_simp) (by intro w' hw'; go_simp; rfl) ?_
          simp only [Act.put, List.setIfInBounds_toArray, List.set_cons_succ, List.set_cons_zero]
          refine hld_take 5 rfl (by kernel_rfl) (by kernel_rfl) (by kernel_rfl) (fun _ _ _ h => h) rfl ⟨c0, c1, c2, c3, c4, c5⟩ (by rintro w' ⟨h0, h1, h2, h3, h4, h5⟩; go_simp; rfl) ?_
          simp only [Act.put, List.setIfInBounds_toArray, List.set_cons_succ, List.set_cons_zero]
          refine hld_take 8 rfl (by kernel_rfl) (by kernel_rfl) (by kernel_rfl) (fun _ _ _ h => h) rfl (by go_simp) (by intro w' hw'; go_simp; rfl) ?_
          simp only [Act.put, List.setIfInBounds_toArray, List.set_cons_succ, List.set_cons_zero]
          refine hld_take 9 rfl (by kernel_rfl) (by kernel_rfl) (by kernel_rfl) (fun _ _ _ h => h) rfl (by go_simp) (by intro w' hw'; go_simp; rfl) ?_
          simp only [Act.put, List.setIfInBounds_toArray, List.set_cons_succ, List.set_cons_zero]
          refine hld_take 10 rfl (by kernel_rfl) (by kernel_rfl) (by kernel_rfl) (fun _ _ _ h => h) rfl (by go_simp) (by intro w' hw'; go_simp; rfl) ?_
          simp only [Act.put, List.setIfInBounds_toArray, List.set_cons_succ, List.set_cons_zero]
      case' inr.inr =>
        subst hva
        subst hm0
        obtain ⟨J, hJJ⟩ : ∃ J, J = 0 := ⟨_, rfl⟩
        obtain ⟨N, hNN⟩ : ∃ N, N = ys.length - J := ⟨_, rfl⟩
        have HJL := Lib.hid (show J ≤ ys.length by rw [hJJ, ← HML.out]; exact hjm)
        have hJN : J + N ≤ 8200 := by have := HML.out; have := HJL.out; omega
        have HIJ := Lib.hid (show insF L e = L.take J ++ [e] ++ L.drop J by rw [hJJ]; exact HJ.out)
        have HP := Lib.hid (show RowAt (fun _ => True) W 6 _ J (entsC (ys.take J)) from by
          rw [entsC_take, hJJ]; exact (row_take hrw hjm).below (by omega) HWL.out)
        have HDT := Lib.hid (show ∀ y ∈ ys.take J, DataAt (fun _ => True) w y.1 y.2.data ∧ EntOk y.2 from fun y hy => HDY.out y (List.mem_of_mem_take hy))
        have HDD := Lib.hid (show ∀ y ∈ ys.drop J, DataAt (fun _ => True) w y.1 y.2.data ∧ EntOk y.2 from fun y hy => HDY.out y (List.mem_of_mem_drop hy))
        have HQ := Lib.hid (show RowAt (fun _ => True) W 6 (.slice (some ⟨b1, o1, some sp⟩) 0 cv) N (entsC (ys.drop J)) from by
          have h1 : ys.length ≤ J := by have := HML.out; omega
          rw [List.drop_eq_nil_of_le h1, hNN, Nat.sub_eq_zero_of_le h1]
          exact row_none (by unfold maxLen; omega))
        have HNN := Lib.hid hNN
        clear hrw hJJ hNN
        refine hld_take 1 rfl (by kernel_rfl) (by kernel_rfl) (by kernel_rfl) (fun _ _ _ h => h) rfl (by go_simp) (by intro w' hw'; go_simp; rfl) ?_
        simp only [Act.put, List.setIfInBounds_toArray, List.set_cons_succ, List.set_cons_zero]
        refine hld_take 2 rfl (by kernel_rfl) (by kernel_rfl) (by kernel_rfl) (fun _ _ _ h => h) rfl (by go_simp) (by intro w' hw'; go_simp; rfl) ?_
        simp only [Act.put, List.setIfInBounds_toArray, List.set_cons_succ, List.set_cons_zero]
        refine hld_take 3 rfl (by kernel_rfl) (by kernel_rfl) (by kernel_rfl) (fun _ _ _ h => h) rfl (by go_simp) (by intro w' hw'; go_simp; rfl) ?_
        simp only [Act.put, List.setIfInBounds_toArray, List.set_cons_succ, List.set_cons_zero]
        refine hld_take 5 rfl (by kernel_rfl) (by kernel_rfl) (by kernel_rfl) (fun _ _ _ h => h) rfl ⟨c0, c1, c2, c3, c4, c5⟩ (by rintro w' ⟨h0, h1, h2, h3, h4, h5⟩; go_simp; rfl) ?_
        simp only [Act.put, List.setIfInBounds_toArray, List.set_cons_succ, List.set_cons_zero]
        refine hld_take 8 rfl (by kernel_rfl) (by kernel_rfl) (by kernel_rfl) (fun _ _ _ h => h) rfl (by go_simp) (by intro w' hw'; go_simp; rfl) ?_
        simp only [Act.put, List.setIfInBounds_toArray, List.set_cons_succ, List.set_cons_zero]
        refine hld_take 9 rfl (by kernel_rfl) (by kernel_rfl) (by kernel_rfl) (fun _ _ _ h => h) rfl (by go_simp) (by intro w' hw'; go_simp; rfl) ?_
        simp only [Act.put, List.setIfInBounds_toArray, List.set_cons_succ, List.set_cons_zero]
        refine hld_take 10 rfl (by kernel_rfl) (by kernel_rfl) (by kernel_rfl) (fun _ _ _ h => h) rfl (by go_simp) (by intro w' hw'; go_simp; rfl) ?_
        simp only [Act.put, List.setIfInBounds_toArray, List.set_cons_succ, List.set_cons_zero]
    all_goals
      skip
      refine Hld.of (wpAnyH_all (rs := [0, 6]) (by kernel_rfl) (by simp) fun jj hjj => ?_)
      simp only [List.mem_cons, List.not_mem_nil, or_false] at hjj
      rcases hjj with rfl | rfl
      case' inr =>
        refine hld_opr 6 rfl rfl (fun K hK => ?_)
        go_wp2_with fail
        obtain ⟨U1, hU⟩ : ∃ u : World, u = (V).alloc (.cells #[.string e.path, .int .i64 e.kind, .int .i64 e.mode, .int .i64 e.time, .slice a1 e.data.length cap1, .string e.link] 48) := ⟨_, rfl⟩
        rw [← hU]
        have hbu : Below (V).heap.size V U1 := by rw [hU]; exact (Below.refl _ _).alloc (Nat.le_refl _) _
        have HZ1 := Lib.hid (show (U1).heap[(V).heap.size]? = some (.cells #[.string e.path, .int .i64 e.kind, .int .i64 e.mode, .int .i64 e.time, .slice a1 e.data.length cap1, .string e.link] 48 (0, 0)) by rw [hU]; exact new20 _ _)
        have HBU1 := Lib.hid (HBV.out.trans (hbu.mono HBV.out.size))
        clear hU c0 c1 c2 c3 c4 c5
        have HBX := HBU1
        have HXX := Lib.hid ((HBX.out.block _ (lt20 HXW.out)).trans HXW.out)
        have c0 := cell20 (k := 0) HXX.out
        have c1 := cell20 (k := 1) HXX.out
        have c2 := cell20 (k := 2) HXX.out
        have c3 := cell20 (k := 3) HXX.out
        have c4 := cell20 (k := 4) HXX.out
        have c5 := cell20 (k := 5) HXX.out
        simp only [List.getElem?_toArray, List.getElem?_cons_succ, List.getElem?_cons_zero] at c0 c1 c2 c3 c4 c5
        refine ⟨⟨c0, c1, c2, c3, c4, c5⟩, ?_⟩
        clear hbu
        refine hld_bar 0 rfl (by kernel_rfl) rfl (fun K hK => ?_)
        go_wp2_with fail
        obtain ⟨U2, hU⟩ : ∃ u : World, u = (U1).alloc (.cells #[] 48) := ⟨_, rfl⟩
        rw [← hU]
        have hbu : Below (U1).heap.size U1 U2 := by rw [hU]; exact (Below.refl _ _).alloc (Nat.le_refl _) _
        have HO2 := Lib.hid (show (U2).ownsRow W.heap.size 48 6 (.slice (some ⟨(U1).heap.size, 0, none⟩) 0 0) 0 [] by rw [hU]; exact World.ownsRow_lit (base := W.heap.size) U1 #[] 0 HBU1.out.size (Nat.zero_le _) (by simp))
        have HBU2 := Lib.hid (HBU1.out.trans (hbu.mono HBU1.out.size))
        clear hU c0 c1 c2 c3 c4 c5
        have HBX := HBU2
        have HXX := Lib.hid ((HBX.out.block _ (lt20 HXW.out)).trans HXW.out)
        have c0 := cell20 (k := 0) HXX.out
        have c1 := cell20 (k := 1) HXX.out
        have c2 := cell20 (k := 2) HXX.out
        have c3 := cell20 (k := 3) HXX.out
        have c4 := cell20 (k := 4) HXX.out
        have c5 := cell20 (k := 5) HXX.out
        simp only [List.getElem?_toArray, List.getElem?_cons_succ, List.getElem?_cons_zero] at c0 c1 c2 c3 c4 c5
        refine ⟨⟨c0, c1, c2, c3, c4, c5⟩, ?_⟩
        have HZ2 := Lib.hid ((hbu.block _ (lt20 HZ1.out)).trans HZ1.out)
        have HLT := Lib.hid (show V.heap.size < U1.heap.size from lt20 HZ1.out)
        clear hbu
        refine hld_bar 4 rfl (by kernel_rfl) rfl (fun K hK => ?_)
        go_wp2_with (at_builtin; go_must (refine wpList_appn Tryz.appEnts rfl _ _ rfl W.heap.size _ 0 [] rfl HO2.out _ J (entsC (ys.take J)) rfl (HP.out.below (by omega) HBU2.out) (entsC_oneC HDT.out) (by omega) HBU2.out.size ?_); intro v1 U3 hown1 hg1)
        have HBU3 := Lib.hid (below_grown HBU2.out HO2.out hg1 (Nat.le_refl _) HBU2.out.size)
        have HO3 := Lib.hid (show (U3).ownsRow W.heap.size 48 6 v1 J (entsC (ys.take J)) by rw [Nat.zero_add, List.nil_append] at hown1; exact hown1)
        have HG1 := Lib.hid hg1
        obtain ⟨g1, k1, rfl, -, -⟩ := owns_shape HO3.out
        clear hown1 hg1 c0 c1 c2 c3 c4 c5
        have HBX := HBU3
        have HXX := Lib.hid ((HBX.out.block _ (lt20 HXW.out)).trans HXW.out)
        have c0 := cell20 (k := 0) HXX.out
        have c1 := cell20 (k := 1) HXX.out
        have c2 := cell20 (k := 2) HXX.out
        have c3 := cell20 (k := 3) HXX.out
        have c4 := cell20 (k := 4) HXX.out
        have c5 := cell20 (k := 5) HXX.out
        simp only [List.getElem?_toArray, List.getElem?_cons_succ, List.getElem?_cons_zero] at c0 c1 c2 c3 c4 c5
        refine ⟨⟨c0, c1, c2, c3, c4, c5⟩, ?_⟩
        have HZ3 := Lib.hid ((HG1.out.block _ (lt20 HZ2.out) (fun e' => by have h1 : V.heap.size = U1.heap.size := Option.some.inj e'; have h2 := HLT.out; omega)).trans HZ2.out)
      case' inl =>
        refine hld_opr 0 rfl rfl (fun K hK => ?_)
        go_wp2_with fail
        obtain ⟨U1, hU⟩ : ∃ u : World, u = (V).alloc (.cells #[] 48) := ⟨_, rfl⟩
        rw [← hU]
        have hbu : Below (V).heap.size V U1 := by rw [hU]; exact (Below.refl _ _).alloc (Nat.le_refl _) _
        have HO1 := Lib.hid (show (U1).ownsRow W.heap.size 48 6 (.slice (some ⟨(V).heap.size, 0, none⟩) 0 0) 0 [] by rw [hU]; exact World.ownsRow_lit (base := W.heap.size) V #[] 0 HBV.out.size (Nat.zero_le _) (by simp))
        have HBU1 := Lib.hid (HBV.out.trans (hbu.mono HBV.out.size))
        clear hU c0 c1 c2 c3 c4 c5
        have HBX := HBU1
        have HXX := Lib.hid ((HBX.out.block _ (lt20 HXW.out)).trans HXW.out)
        have c0 := cell20 (k := 0) HXX.out
        have c1 := cell20 (k := 1) HXX.out
        have c2 := cell20 (k := 2) HXX.out
        have c3 := cell20 (k := 3) HXX.out
        have c4 := cell20 (k := 4) HXX.out
        have c5 := cell20 (k := 5) HXX.out
        simp only [List.getElem?_toArray, List.getElem?_cons_succ, List.getElem?_cons_zero] at c0 c1 c2 c3 c4 c5
        refine ⟨⟨c0, c1, c2, c3, c4, c5⟩, ?_⟩
        refine Hld.of (wpAnyH_all (rs := [4, 6]) (by kernel_rfl) (by simp) fun jj hjj => ?_)
        simp only [List.mem_cons, List.not_mem_nil, or_false] at hjj
        rcases hjj with rfl | rfl
        case' inr =>
          refine hld_opr 6 rfl rfl (fun K hK => ?_)
          go_wp2_with fail
          obtain ⟨U2, hU⟩ : ∃ u : World, u = (U1).alloc (.cells #[.string e.path, .int .i64 e.kind, .int .i64 e.mode, .int .i64 e.time, .slice a1 e.data.length cap1, .string e.link] 48) := ⟨_, rfl⟩
          rw [← hU]
          have hbu : Below (U1).heap.size U1 U2 := by rw [hU]; exact (Below.refl _ _).alloc (Nat.le_refl _) _
          have HZ2 := Lib.hid (show (U2).heap[(U1).heap.size]? = some (.cells #[.string e.path, .int .i64 e.kind, .int .i64 e.mode, .int .i64 e.time, .slice a1 e.data.length cap1, .string e.link] 48 (0, 0)) by rw [hU]; exact new20 _ _)
          have HBU2 := Lib.hid (HBU1.out.trans (hbu.mono HBU1.out.size))
          clear hU c0 c1 c2 c3 c4 c5
          have HBX := HBU2
          have HXX := Lib.hid ((HBX.out.block _ (lt20 HXW.out)).trans HXW.out)
          have c0 := cell20 (k := 0) HXX.out
          have c1 := cell20 (k := 1) HXX.out
          have c2 := cell20 (k := 2) HXX.out
          have c3 := cell20 (k := 3) HXX.out
          have c4 := cell20 (k := 4) HXX.out
          have c5 := cell20 (k := 5) HXX.out
          simp only [List.getElem?_toArray, List.getElem?_cons_succ, List.getElem?_cons_zero] at c0 c1 c2 c3 c4 c5
          refine ⟨⟨c0, c1, c2, c3, c4, c5⟩, ?_⟩
          have HO2 := Lib.hid (own_below HO1.out hbu)
          have HLT := Lib.hid (show V.heap.size < U1.heap.size from ((own_lt HO1.out rfl).2))
          clear hbu
          refine hld_bar 4 rfl (by kernel_rfl) rfl (fun K hK => ?_)
          go_wp2_with (at_builtin; go_must (refine wpList_appn Tryz.appEnts rfl _ _ rfl W.heap.size _ 0 [] rfl HO2.out _ J (entsC (ys.take J)) rfl (HP.out.below (by omega) HBU2.out) (entsC_oneC HDT.out) (by omega) HBU2.out.size ?_); intro v1 U3 hown1 hg1)
          have HBU3 := Lib.hid (below_grown HBU2.out HO2.out hg1 (Nat.le_refl _) HBU2.out.size)
          have HO3 := Lib.hid (show (U3).ownsRow W.heap.size 48 6 v1 J (entsC (ys.take J)) by rw [Nat.zero_add, List.nil_append] at hown1; exact hown1)
          have HG1 := Lib.hid hg1
          obtain ⟨g1, k1, rfl, -, -⟩ := owns_shape HO3.out
          clear hown1 hg1 c0 c1 c2 c3 c4 c5
          have HBX := HBU3
          have HXX := Lib.hid ((HBX.out.block _ (lt20 HXW.out)).trans HXW.out)
          have c0 := cell20 (k := 0) HXX.out
          have c1 := cell20 (k := 1) HXX.out
          have c2 := cell20 (k := 2) HXX.out
          have c3 := cell20 (k := 3) HXX.out
          have c4 := cell20 (k := 4) HXX.out
          have c5 := cell20 (k := 5) HXX.out
          simp only [List.getElem?_toArray, List.getElem?_cons_succ, List.getElem?_cons_zero] at c0 c1 c2 c3 c4 c5
          refine ⟨⟨c0, c1, c2, c3, c4, c5⟩, ?_⟩
          have HZ3 := Lib.hid ((HG1.out.block _ (lt20 HZ2.out) (fun e' => by have h1 : U1.heap.size = V.heap.size := Option.some.inj e'; have h2 := HLT.out; omega)).trans HZ2.out)
        case' inl =>
          refine hld_opr 4 rfl rfl (fun K hK => ?_)
          go_wp2_with (at_builtin; go_must (refine wpList_appn Tryz.appEnts rfl _ _ rfl W.heap.size _ 0 [] rfl HO1.out _ J (entsC (ys.take J)) rfl (HP.out.below (by omega) HBU1.out) (entsC_oneC HDT.out) (by omega) HBU1.out.size ?_); intro v1 U2 hown1 hg1)
          have HBU2 := Lib.hid (below_grown HBU1.out HO1.out hg1 (Nat.le_refl _) HBU1.out.size)
          have HO2 := Lib.hid (show (U2).ownsRow W.heap.size 48 6 v1 J (entsC (ys.take J)) by rw [Nat.zero_add, List.nil_append] at hown1; exact hown1)
          have HG1 := Lib.hid hg1
          obtain ⟨g1, k1, rfl, -, -⟩ := owns_shape HO2.out
          clear hown1 hg1 c0 c1 c2 c3 c4 c5
          have HBX := HBU2
          have HXX := Lib.hid ((HBX.out.block _ (lt20 HXW.out)).trans HXW.out)
          have c0 := cell20 (k := 0) HXX.out
          have c1 := cell20 (k := 1) HXX.out
          have c2 := cell20 (k := 2) HXX.out
          have c3 := cell20 (k := 3) HXX.out
          have c4 := cell20 (k := 4) HXX.out
          have c5 := cell20 (k := 5) HXX.out
          simp only [List.getElem?_toArray, List.getElem?_cons_succ, List.getElem?_cons_zero] at c0 c1 c2 c3 c4 c5
          refine ⟨⟨c0, c1, c2, c3, c4, c5⟩, ?_⟩
          refine hld_bar 6 rfl (by kernel_rfl) rfl (fun K hK => ?_)
          go_wp2_with fail
          obtain ⟨U3, hU⟩ : ∃ u : World, u = (U2).alloc (.cells #[.string e.path, .int .i64 e.kind, .int .i64 e.mode, .int .i64 e.time, .slice a1 e.data.length cap1, .string e.link] 48) := ⟨_, rfl⟩
          rw [← hU]
          have hbu : Below (U2).heap.size U2 U3 := by rw [hU]; exact (Below.refl _ _).alloc (Nat.le_refl _) _
          have HZ3 := Lib.hid (show (U3).heap[(U2).heap.size]? = some (.cells #[.string e.path, .int .i64 e.kind, .int .i64 e.mode, .int .i64 e.time, .slice a1 e.data.length cap1, .string e.link] 48 (0, 0)) by rw [hU]; exact new20 _ _)
          have HBU3 := Lib.hid (HBU2.out.trans (hbu.mono HBU2.out.size))
          clear hU c0 c1 c2 c3 c4 c5
          have HBX := HBU3
          have HXX := Lib.hid ((HBX.out.block _ (lt20 HXW.out)).trans HXW.out)
          have c0 := cell20 (k := 0) HXX.out
          have c1 := cell20 (k := 1) HXX.out
          have c2 := cell20 (k := 2) HXX.out
          have c3 := cell20 (k := 3) HXX.out
          have c4 := cell20 (k := 4) HXX.out
          have c5 := cell20 (k := 5) HXX.out
          simp only [List.getElem?_toArray, List.getElem?_cons_succ, List.getElem?_cons_zero] at c0 c1 c2 c3 c4 c5
          refine ⟨⟨c0, c1, c2, c3, c4, c5⟩, ?_⟩
          have HO3 := Lib.hid (own_below HO2.out hbu)
          clear hbu
      all_goals
        skip
        refine hld_bar 7 rfl (by kernel_rfl) rfl (fun K hK => ?_)
        go_wp2_with (at_builtin; go_must (refine wpList_appn Tryz.appEnts rfl _ _ rfl W.heap.size _ J (entsC (ys.take J)) rfl HO3.out _ 1 (entC (.slice a1 e.data.length cap1) e) rfl (row_one HZ3.out) entC_one (by omega) HBU3.out.size ?_); intro v2 U8 hown2 hg2)
        have HBU8 := Lib.hid (below_grown HBU3.out HO3.out hg2 (Nat.le_refl _) HBU3.out.size)
        have HO8 := Lib.hid hown2
        obtain ⟨g2, k2, rfl, -, -⟩ := owns_shape HO8.out
        clear hown2 hg2 c0 c1 c2 c3 c4 c5
        have HBX := HBU8
        have HXX := Lib.hid ((HBX.out.block _ (lt20 HXW.out)).trans HXW.out)
        have c0 := cell20 (k := 0) HXX.out
        have c1 := cell20 (k := 1) HXX.out
        have c2 := cell20 (k := 2) HXX.out
        have c3 := cell20 (k := 3) HXX.out
        have c4 := cell20 (k := 4) HXX.out
        have c5 := cell20 (k := 5) HXX.out
        simp only [List.getElem?_toArray, List.getElem?_cons_succ, List.getElem?_cons_zero] at c0 c1 c2 c3 c4 c5
        refine ⟨⟨c0, c1, c2, c3, c4, c5⟩, ?_⟩
        refine hld_bar 11 rfl (by kernel_rfl) rfl (fun K hK => ?_)
        go_wp2_with (at_builtin; go_must (refine wpList_appn Tryz.appEnts rfl _ _ rfl W.heap.size _ (J + 1) (entsC (ys.take J) ++ entC (.slice a1 e.data.length cap1) e) rfl HO8.out _ N (entsC (ys.drop J)) rfl (HQ.out.below (by omega) HBU8.out) (entsC_oneC HDD.out) (by omega) HBU8.out.size ?_); intro v3 U9 hown3 hg3)
        have HBU9 := Lib.hid (below_grown HBU8.out HO8.out hg3 (Nat.le_refl _) HBU8.out.size)
        have HO9 := Lib.hid hown3
        clear hown3 hg3 c0 c1 c2 c3 c4 c5
        have HBX := HBU9
        have HXX := Lib.hid ((HBX.out.block _ (lt20 HXW.out)).trans HXW.out)
        have c0 := cell20 (k := 0) HXX.out
        have c1 := cell20 (k := 1) HXX.out
        have c2 := cell20 (k := 2) HXX.out
        have c3 := cell20 (k := 3) HXX.out
        have c4 := cell20 (k := 4) HXX.out
        have c5 := cell20 (k := 5) HXX.out
        simp only [List.getElem?_toArray, List.getElem?_cons_succ, List.getElem?_cons_zero] at c0 c1 c2 c3 c4 c5
        refine ⟨⟨c0, c1, c2, c3, c4, c5⟩, ?_⟩
        refine hld_take 12 rfl (by kernel_rfl) (by kernel_rfl) (by kernel_rfl) (fun _ _ _ h => h) rfl (by go_simp) (by intro w' hw'; go_simp; rfl) ?_
        simp only [Act.put, List.setIfInBounds_toArray, List.set_cons_succ, List.set_cons_zero]
        refine hld_done (by kernel_rfl) ?_
        go_wp2_with fail
        go_ret
        have hb9 := HWL.out.trans (HBU9.out.mono HWL.out.size)
        have h1 := ins_end (S := fun _ => True) (T := fun _ => True) (B0 := w.heap.size) (j := J) (y := (.slice a1 e.data.length cap1, e)) hb9 HDY.out ⟨HDE.out, HOK.out⟩ HJL.out (by rw [← HNN.out]; exact HO9.out) HWL.out.size (fun _ h => h) (fun _ _ => trivial)
        rw [HYM.out, ← HIJ.out] at h1
        exact ⟨_, rfl, h1, hb9, own_shp HO9.out⟩
end Go.Proofs.YtdieneaillkbgaaGreatDoor

/- The reference kinkeepref23: Valid. -/
namespace Go.Proofs.YtdieneaillkbgaaGreatDoor
open Go Go.RowKit Go.Maps
set_option maxRecDepth 100000 in
set_option maxHeartbeats 2000000 in
theorem rvalid1 (S : Nat → Prop) (p s : ByteArray) (en : Ent) (v : Value) (w : World) (hd : DataAt S w v en.data) (henv : p.size ≤ 16777216 ∧ s.size ≤ 16777216 ∧ en.path.size ≤ 16777216) :
    Calls Tryz.prog 27 #[chgV v ⟨1, p, s, en⟩] w fun e w' => e = .returned (.bool (chgOk ⟨1, p, s, en⟩)) ∧ Below w.heap.size w w' := by
  have HD := Lib.hid hd
  have HE := Lib.hid henv
  obtain ⟨_, a, cap, rfl, hc, hm, -⟩ := hd
  unfold maxLen at hm
  have HR := Lib.hid (show chgOk ⟨1, p, s, en⟩ = (validP (bl p) && (decide (s = noPath) && decide (en = noEnt))) from rfl)
  unfold chgV
  simp only
  clear henv
  go_enter Tryz.func27, Tryz.ntmps27
  go_wp2_with fail
  obtain ⟨W, hW⟩ : ∃ W : World, W = w.alloc (.cells #[.int .i64 1, .string p, .string s, .string en.path, .int .i64 en.kind, .int .i64 en.mode, .int .i64 en.time, .slice a en.data.length cap, .string en.link] 50) := ⟨_, rfl⟩
  rw [← hW]
  have HB0 := Lib.hid (show Below w.heap.size w W by rw [hW]; exact (Below.refl _ _).alloc (Nat.le_refl _) _)
  have HX0 := Lib.hid (show W.heap[w.heap.size]? = some (.cells #[.int .i64 1, .string p, .string s, .string en.path, .int .i64 en.kind, .int .i64 en.mode, .int .i64 en.time, .slice a en.data.length cap, .string en.link] 50 (0, 0)) by rw [hW]; exact new20 w _)
  have hlt0 := lt20 HX0.out
  clear hW
  cases hv : validP (bl p) with
  | false =>
    refine (r_valid20_is p false W HE.out.1 hv).mono ?_
    have HV := Lib.hid hv
    rintro e w1 ⟨rfl, hb1⟩
    have HB1 := Lib.hid (below_next HB0.out hb1)
    have HX1 := Lib.hid ((hb1.block w.heap.size (lt20 HX0.out)).trans HX0.out)
    clear hb1
    have hlt0 := lt20 HX1.out
    have c0 := cell20 (k := 0) HX1.out
    have c1 := cell20 (k := 1) HX1.out
    have c2 := cell20 (k := 2) HX1.out
    have c3 := cell20 (k := 3) HX1.out
    have c4 := cell20 (k := 4) HX1.out
    have c5 := cell20 (k := 5) HX1.out
    have c6 := cell20 (k := 6) HX1.out
    have c7 := cell20 (k := 7) HX1.out
    have c8 := cell20 (k := 8) HX1.out
    simp only [List.getElem?_toArray, List.getElem?_cons_succ, List.getElem?_cons_zero] at c0 c1 c2 c3 c4 c5 c6 c7 c8
    clear hv
    go_wp2_with fail
    go_ret
    exact ⟨ret_bool (by rw [HR.out, HV.out]; rfl), HB1.out⟩
  | true =>
    refine (r_valid20_is p true W HE.out.1 hv).mono ?_
    have HV := Lib.hid hv
    rintro e w1 ⟨rfl, hb1⟩
    have HB1 := Lib.hid (below_next HB0.out hb1)
    have HX1 := Lib.hid ((hb1.block w.heap.size (lt20 HX0.out)).trans HX0.out)
    clear hb1
    have hlt0 := lt20 HX1.out
    have c0 := cell20 (k := 0) HX1.out
    have c1 := cell20 (k := 1) HX1.out
    have c2 := cell20 (k := 2) HX1.out
    have c3 := cell20 (k := 3) HX1.out
    have c4 := cell20 (k := 4) HX1.out
    have c5 := cell20 (k := 5) HX1.out
    have c6 := cell20 (k := 6) HX1.out
    have c7 := cell20 (k := 7) HX1.out
    have c8 := cell20 (k := 8) HX1.out
    simp only [List.getElem?_toArray, List.getElem?_cons_succ, List.getElem?_cons_zero] at c0 c1 c2 c3 c4 c5 c6 c7 c8
    clear hv
    by_cases hs : s = ⟨#[]⟩
    · have e1 : s.toList.isEmpty = true := by rw [str_none, decide_eq_true hs]
      have HS := Lib.hid hs
      clear hs
      go_wp2_with fail
      have hC := r_same20_any S (fun _ => False) en noEnt (.slice a en.data.length cap) (.slice none 0 0) w1 (HD.out.below HB1.out) (DataAt.nil _ _)
      unfold entV noEnt at hC
      simp only at hC
      refine hC.mono ?_
      rintro e w2 ⟨rfl, hb2⟩
      have HB2 := Lib.hid (below_next HB1.out hb2)
      clear hb2 hC c0 c1 c2 c3 c4 c5 c6 c7 c8
      go_wp2_with fail
      go_ret
      exact ⟨ret_bool (by rw [HR.out, HV.out, HS.out]; rfl), HB2.out⟩
    · have e1 : s.toList.isEmpty = false := by rw [str_none, decide_eq_false hs]
      have HS := Lib.hid hs
      clear hs
      go_wp2_with fail
      go_ret
      exact ⟨ret_bool (by rw [HR.out, HV.out, decide_eq_false (show ¬ s = noPath from HS.out)]; rfl), HB1.out⟩
set_option maxRecDepth 100000 in
set_option maxHeartbeats 2000000 in
theorem rvalid2 (S : Nat → Prop) (p s : ByteArray) (en : Ent) (v : Value) (w : World) (hd : DataAt S w v en.data) (hok : EntOk en) (henv : p.size ≤ 16777216 ∧ s.size ≤ 16777216 ∧ en.path.size ≤ 16777216) :
    Calls Tryz.prog 27 #[chgV v ⟨2, p, s, en⟩] w fun e w' => e = .returned (.bool (chgOk ⟨2, p, s, en⟩)) ∧ Below w.heap.size w w' := by
  have HD := Lib.hid hd
  have HE := Lib.hid henv
  have HOK := Lib.hid hok
  obtain ⟨_, a, cap, rfl, hc, hm, -⟩ := hd
  unfold maxLen at hm
  have HR := Lib.hid (show chgOk ⟨2, p, s, en⟩ = (decide (p = en.path) && (validP (bl s) && (vEnt en && decide (en.kind ≠ 2)))) from rfl)
  unfold chgV
  simp only
  clear henv hok
  by_cases hp : p = en.path
  · subst hp
    go_enter Tryz.func27, Tryz.ntmps27
    go_wp2_with fail
    obtain ⟨W, hW⟩ : ∃ W : World, W = w.alloc (.cells #[.int .i64 2, .string en.path, .string s, .string en.path, .int .i64 en.kind, .int .i64 en.mode, .int .i64 en.time, .slice a en.data.length cap, .string en.link] 50) := ⟨_, rfl⟩
    rw [← hW]
    have HB0 := Lib.hid (show Below w.heap.size w W by rw [hW]; exact (Below.refl _ _).alloc (Nat.le_refl _) _)
    have HX0 := Lib.hid (show W.heap[w.heap.size]? = some (.cells #[.int .i64 2, .string en.path, .string s, .string en.path, .int .i64 en.kind, .int .i64 en.mode, .int .i64 en.time, .slice a en.data.length cap, .string en.link] 50 (0, 0)) by rw [hW]; exact new20 w _)
    have hlt0 := lt20 HX0.out
    clear hW
    cases hv : validP (bl s) with
    | false =>
      refine (r_valid20_is s false W HE.out.2.1 hv).mono ?_
      have HV := Lib.hid hv
      rintro e w1 ⟨rfl, hb1⟩
      have HB1 := Lib.hid (below_next HB0.out hb1)
      have HX1 := Lib.hid ((hb1.block w.heap.size (lt20 HX0.out)).trans HX0.out)
      clear hb1
      have hlt0 := lt20 HX1.out
      have c0 := cell20 (k := 0) HX1.out
      have c1 := cell20 (k := 1) HX1.out
      have c2 := cell20 (k := 2) HX1.out
      have c3 := cell20 (k := 3) HX1.out
      have c4 := cell20 (k := 4) HX1.out
      have c5 := cell20 (k := 5) HX1.out
      have c6 := cell20 (k := 6) HX1.out
      have c7 := cell20 (k := 7) HX1.out
      have c8 := cell20 (k := 8) HX1.out
      simp only [List.getElem?_toArray, List.getElem?_cons_succ, List.getElem?_cons_zero] at c0 c1 c2 c3 c4 c5 c6 c7 c8
      clear hv
      go_wp2_with fail
      go_ret
      exact ⟨ret_bool (by rw [HR.out, HV.out, Bool.false_and, Bool.and_false]), HB1.out⟩
    | true =>
      refine (r_valid20_is s true W HE.out.2.1 hv).mono ?_
      have HV := Lib.hid hv
      rintro e w1 ⟨rfl, hb1⟩
      have HB1 := Lib.hid (below_next HB0.out hb1)
      have HX1 := Lib.hid ((hb1.block w.heap.size (lt20 HX0.out)).trans HX0.out)
      clear hb1
      have hlt0 := lt20 HX1.out
      have c0 := cell20 (k := 0) HX1.out
      have c1 := cell20 (k := 1) HX1.out
      have c2 := cell20 (k := 2) HX1.out
      have c3 := cell20 (k := 3) HX1.out
      have c4 := cell20 (k := 4) HX1.out
      have c5 := cell20 (k := 5) HX1.out
      have c6 := cell20 (k := 6) HX1.out
      have c7 := cell20 (k := 7) HX1.out
      have c8 := cell20 (k := 8) HX1.out
      simp only [List.getElem?_toArray, List.getElem?_cons_succ, List.getElem?_cons_zero] at c0 c1 c2 c3 c4 c5 c6 c7 c8
      clear hv
      go_wp2_with fail
      cases hve : vEnt en with
      | false =>
        have hC := r_validE_any S en (.slice a en.data.length cap) w1 (HD.out.below HB1.out) HOK.out HE.out.2.2
        rw [hve] at hC
        unfold entV at hC
        refine hC.mono ?_
        have HVE := Lib.hid hve
        rintro e w2 ⟨rfl, hb2⟩
        have HB2 := Lib.hid (below_next HB1.out hb2)
        clear hb2 hC c0 c1 c2 c3 c4 c5 c6 c7 c8 hve
        go_wp2_with fail
        go_ret
        exact ⟨ret_bool (by rw [HR.out, HV.out, HVE.out]; simp), HB2.out⟩
      | true =>
        have hC := r_validE_any S en (.slice a en.data.length cap) w1 (HD.out.below HB1.out) HOK.out HE.out.2.2
        rw [hve] at hC
        unfold entV at hC
        refine hC.mono ?_
        have HVE := Lib.hid hve
        rintro e w2 ⟨rfl, hb2⟩
        clear c0 c1 c2 c3 c4 c5 c6 c7 c8 hve hC hlt0
        have HB2 := Lib.hid (below_next HB1.out hb2)
        have HX2 := Lib.hid ((hb2.block w.heap.size (lt20 HX1.out)).trans HX1.out)
        clear hb2
        have hlt0 := lt20 HX2.out
        have c0 := cell20 (k := 0) HX2.out
        have c1 := cell20 (k := 1) HX2.out
        have c2 := cell20 (k := 2) HX2.out
        have c3 := cell20 (k := 3) HX2.out
        have c4 := cell20 (k := 4) HX2.out
        have c5 := cell20 (k := 5) HX2.out
        have c6 := cell20 (k := 6) HX2.out
        have c7 := cell20 (k := 7) HX2.out
        have c8 := cell20 (k := 8) HX2.out
        simp only [List.getElem?_toArray, List.getElem?_cons_succ, List.getElem?_cons_zero] at c0 c1 c2 c3 c4 c5 c6 c7 c8
        have HRP := Lib.hid (show chgOk ⟨2, en.path, s, en⟩ = decide (en.kind ≠ 2) by rw [HR.out, HV.out, HVE.out]; simp)
        go_wp2_with fail
        go_ret
        refine ⟨ret_bool ?_, HB2.out⟩
        rw [HRP.out, Bool.eq_iff_iff]; simp
  · have e1 : ¬ p.toList = en.path.toList := fun h => hp (str_eq.1 h)
    have HP := Lib.hid hp
    clear hp
    go_enter Tryz.func27, Tryz.ntmps27
    go_wp2_with fail
    go_ret
    exact ⟨ret_bool (by rw [HR.out, decide_eq_false HP.out]; rfl), (Below.refl _ _).alloc (Nat.le_refl _) _⟩
set_option maxRecDepth 100000 in
set_option maxHeartbeats 2000000 in
theorem rvalid3 (S : Nat → Prop) (p s : ByteArray) (en : Ent) (v : Value) (w : World) (hd : DataAt S w v en.data) (hok : EntOk en) (henv : p.size ≤ 16777216 ∧ s.size ≤ 16777216 ∧ en.path.size ≤ 16777216) :
    Calls Tryz.prog 27 #[chgV v ⟨3, p, s, en⟩] w fun e w' => e = .returned (.bool (chgOk ⟨3, p, s, en⟩)) ∧ Below w.heap.size w w' := by
  have HD := Lib.hid hd
  have HE := Lib.hid henv
  have HOK := Lib.hid hok
  obtain ⟨_, a, cap, rfl, hc, hm, -⟩ := hd
  unfold maxLen at hm
  have HR := Lib.hid (show chgOk ⟨3, p, s, en⟩ = (decide (p = en.path) && (decide (s = noPath) && vEnt en)) from rfl)
  unfold chgV
  simp only
  clear henv hok
  by_cases hp : p = en.path
  · by_cases hs : s = ⟨#[]⟩
    · have e1 : s.toList.isEmpty = true := by rw [str_none, decide_eq_true hs]
      have HS := Lib.hid hs
      clear hs
      subst hp
      go_enter Tryz.func27, Tryz.ntmps27
      go_wp2_with fail
      obtain ⟨W, hW⟩ : ∃ W : World, W = w.alloc (.cells #[.int .i64 3, .string en.path, .string s, .string en.path, .int .i64 en.kind, .int .i64 en.mode, .int .i64 en.time, .slice a en.data.length cap, .string en.link] 50) := ⟨_, rfl⟩
      rw [← hW]
      have HB0 := Lib.hid (show Below w.heap.size w W by rw [hW]; exact (Below.refl _ _).alloc (Nat.le_refl _) _)
      clear hW
      have hC := r_validE_any S en (.slice a en.data.length cap) W (HD.out.below HB0.out) HOK.out HE.out.2.2
      unfold entV at hC
      refine hC.mono ?_
      rintro e w2 ⟨rfl, hb2⟩
      have HB2 := Lib.hid (below_next HB0.out hb2)
      clear hb2 hC
      go_wp2_with fail
      go_ret
      exact ⟨ret_bool (by rw [HR.out, HS.out]; simp [noPath]), HB2.out⟩
    · have e1 : s.toList.isEmpty = false := by rw [str_none, decide_eq_false hs]
      have HS := Lib.hid hs
      clear hs
      subst hp
      go_enter Tryz.func27, Tryz.ntmps27
      go_wp2_with fail
      go_ret
      exact ⟨ret_bool (by rw [HR.out, decide_eq_false (show ¬ s = noPath from HS.out)]; simp), (Below.refl _ _).alloc (Nat.le_refl _) _⟩
  · have e1 : ¬ p.toList = en.path.toList := fun h => hp (str_eq.1 h)
    have HP := Lib.hid hp
    clear hp
    go_enter Tryz.func27, Tryz.ntmps27
    go_wp2_with fail
    go_ret
    exact ⟨ret_bool (by rw [HR.out, decide_eq_false HP.out]; rfl), (Below.refl _ _).alloc (Nat.le_refl _) _⟩
set_option maxRecDepth 100000 in
set_option maxHeartbeats 2000000 in
theorem rvalid4 (S : Nat → Prop) (p s : ByteArray) (en : Ent) (v : Value) (w : World) (hd : DataAt S w v en.data) (hok : EntOk en) (henv : p.size ≤ 16777216 ∧ s.size ≤ 16777216 ∧ en.path.size ≤ 16777216) :
    Calls Tryz.prog 27 #[chgV v ⟨4, p, s, en⟩] w fun e w' => e = .returned (.bool (chgOk ⟨4, p, s, en⟩)) ∧ Below w.heap.size w w' := by
  have HD := Lib.hid hd
  have HE := Lib.hid henv
  have HOK := Lib.hid hok
  obtain ⟨_, a, cap, rfl, hc, hm, -⟩ := hd
  unfold maxLen at hm
  have HR := Lib.hid (show chgOk ⟨4, p, s, en⟩ = (decide (p = en.path) && (decide (s = noPath) && vEnt en)) from rfl)
  unfold chgV
  simp only
  clear henv hok
  by_cases hp : p = en.path
  · by_cases hs : s = ⟨#[]⟩
    · have e1 : s.toList.isEmpty = true := by rw [str_none, decide_eq_true hs]
      have HS := Lib.hid hs
      clear hs
      subst hp
      go_enter Tryz.func27, Tryz.ntmps27
      go_wp2_with fail
      obtain ⟨W, hW⟩ : ∃ W : World, W = w.alloc (.cells #[.int .i64 4, .string en.path, .string s, .string en.path, .int .i64 en.kind, .int .i64 en.mode, .int .i64 en.time, .slice a en.data.length cap, .string en.link] 50) := ⟨_, rfl⟩
      rw [← hW]
      have HB0 := Lib.hid (show Below w.heap.size w W by rw [hW]; exact (Below.refl _ _).alloc (Nat.le_refl _) _)
      clear hW
      have hC := r_validE_any S en (.slice a en.data.length cap) W (HD.out.below HB0.out) HOK.out HE.out.2.2
      unfold entV at hC
      refine hC.mono ?_
      rintro e w2 ⟨rfl, hb2⟩
      have HB2 := Lib.hid (below_next HB0.out hb2)
      clear hb2 hC
      go_wp2_with fail
      go_ret
      exact ⟨ret_bool (by rw [HR.out, HS.out]; simp [noPath]), HB2.out⟩
    · have e1 : s.toList.isEmpty = false := by rw [str_none, decide_eq_false hs]
      have HS := Lib.hid hs
      clear hs
      subst hp
      go_enter Tryz.func27, Tryz.ntmps27
      go_wp2_with fail
      go_ret
      exact ⟨ret_bool (by rw [HR.out, decide_eq_false (show ¬ s = noPath from HS.out)]; simp), (Below.refl _ _).alloc (Nat.le_refl _) _⟩
  · have e1 : ¬ p.toList = en.path.toList := fun h => hp (str_eq.1 h)
    have HP := Lib.hid hp
    clear hp
    go_enter Tryz.func27, Tryz.ntmps27
    go_wp2_with fail
    go_ret
    exact ⟨ret_bool (by rw [HR.out, decide_eq_false HP.out]; rfl), (Below.refl _ _).alloc (Nat.le_refl _) _⟩
set_option maxRecDepth 100000 in
set_option maxHeartbeats 2000000 in
theorem rvalid0 (c : Chg) (h1 : c.kind ≠ 1) (h2 : c.kind ≠ 2) (h3 : c.kind ≠ 3) (h4 : c.kind ≠ 4) (a : Option Addr) (n cap : Nat) (w : World) :
    Calls Tryz.prog 27 #[chgV (.slice a n cap) c] w fun e w' => e = .returned (.bool (chgOk c)) ∧ Below w.heap.size w w' := by
  have HR := Lib.hid (show chgOk c = false by unfold chgOk; rw [if_neg h1, if_neg h2, if_neg (by omega)])
  unfold chgV
  go_enter Tryz.func27, Tryz.ntmps27
  go_wp2_with fail
  go_ret
  exact ⟨ret_bool HR.out.symm, (Below.refl _ _).alloc (Nat.le_refl _) _⟩
theorem r_validC_any (S : Nat → Prop) (c : Chg) (v : Value) (w : World) (hd : DataAt S w v c.en.data) (hok : ChgOk c) (henv : c.path.size ≤ 16777216 ∧ c.src.size ≤ 16777216 ∧ c.en.path.size ≤ 16777216) :
    Calls Tryz.prog 27 #[chgV v c] w fun e w' => e = .returned (.bool (chgOk c)) ∧ Below w.heap.size w w' := by
  by_cases h1 : c.kind = 1
  · obtain ⟨k, p, s, en⟩ := c
    obtain rfl : k = 1 := h1
    exact rvalid1 S p s en v w hd henv
  · by_cases h2 : c.kind = 2
    · obtain ⟨k, p, s, en⟩ := c
      obtain rfl : k = 2 := h2
      exact rvalid2 S p s en v w hd hok.en henv
    · by_cases h3 : c.kind = 3
      · obtain ⟨k, p, s, en⟩ := c
        obtain rfl : k = 3 := h3
        exact rvalid3 S p s en v w hd hok.en henv
      · by_cases h4 : c.kind = 4
        · obtain ⟨k, p, s, en⟩ := c
          obtain rfl : k = 4 := h4
          exact rvalid4 S p s en v w hd hok.en henv
        · obtain ⟨a, cap, rfl, _⟩ := hd.slice
          exact rvalid0 c h1 h2 h3 h4 a _ cap w
end Go.Proofs.YtdieneaillkbgaaGreatDoor
