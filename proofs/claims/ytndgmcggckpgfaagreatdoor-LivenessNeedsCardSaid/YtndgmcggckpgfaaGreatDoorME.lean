/- Texts of this proof, one after the other: RIts, RWkC, PresA, PresB, SetA, SetB, MissM, SetC, NeedP, REach. -/
import Derived.Test.YtndgmcggckpgfaaGreatDoorMD
/- Contracts of the reference of package manifest: Items. -/
namespace Go.Proofs.YtndgmcggckpgfaaGreatDoor
open Go.RowKit


theorem good_is (l : List Item) (b : Bool) (S : Nat → Prop) (v : Value) (w : World) (hv : ItemsAt S w v l) (h : vNode l = b) : Calls Tryz.prog 70 #[v] w fun e w' => e = .returned (.bool b) ∧ Below w.heap.size w w' := by
  rw [← h]; exact good_any item24_any S l v w hv
theorem fld1 (k n m : Int) (u : Int) (b : Bool) (t : ByteArray) (w : World) : (Instr.field 91 (.agg #[.int .i64 k, .int .u64 u, .int .i64 n, .bool b, .string t, .int .i64 m]) 1).run Tryz.prog w = .ok (.int .u64 u) w := by kernel_rfl
theorem fld2 (k n m : Int) (u : Int) (b : Bool) (t : ByteArray) (w : World) : (Instr.field 91 (.agg #[.int .i64 k, .int .u64 u, .int .i64 n, .bool b, .string t, .int .i64 m]) 2).run Tryz.prog w = .ok (.int .i64 n) w := by kernel_rfl
theorem fld4 (k n m : Int) (u : Int) (b : Bool) (t : ByteArray) (w : World) : (Instr.field 91 (.agg #[.int .i64 k, .int .u64 u, .int .i64 n, .bool b, .string t, .int .i64 m]) 4).run Tryz.prog w = .ok (.string t) w := by kernel_rfl
theorem Sim.same (s : RS) : Sim s s := ⟨Iff.rfl, fun _ => rfl⟩
theorem rtP_shape (data : List UInt8) (most : Nat) (s : RS) : (rtP data most s).1 = ⟨5, 0, 0, false, (rtP data most s).1.s, most⟩ ∧ (rtP data most s).1.s.size ≤ most := by
  refine ⟨?_, ?_⟩
  · unfold rtP rr
    split
    · split <;> rfl
    · rfl
  · rw [(sim_t (data := data) (most := most) (Sim.same s)).1]
    exact txP_len data most s
theorem ruP_shape (data : List UInt8) (s : RS) : (ruP data s).1 = ⟨1, (ruP data s).1.u, 0, false, ⟨#[]⟩, 0⟩ := by
  unfold ruP rr
  split
  · split <;> rfl
  · rfl
theorem rcP_shape (data : List UInt8) (most : Nat) (s : RS) : (rcP data most s).1 = ⟨7, 0, ((rcP data most s).1.n.toNat : Int), false, ⟨#[]⟩, most⟩ ∧ (rcP data most s).1.n.toNat ≤ most := by
  refine ⟨?_, ?_⟩
  · unfold rcP rr
    split
    · split
      · simp
      · simp
    · simp
  · rw [(sim_c (data := data) (most := most) (Sim.same s)).1]
    have := cnP_le data most s
    simpa using this
def TxtRes (data : List UInt8) (most : Nat) (s : RS) (rb : Nat) (v : Value) (w : World) (e : Ending) (w' : World) : Prop :=
  ∃ nm s1, (rtP data most s).1.s = nm ∧ (rtP data most s).2 = s1 ∧ nm.size ≤ most ∧ e = .returned (.agg #[.int .i64 5, .int .u64 0, .int .i64 0, .bool false, .string nm, .int .i64 (most : Int)]) ∧ RrAt w' rb v data s1 ∧ w.grownBy w' (some rb)
theorem rt_p (rb : Nat) (v : Value) (data : List UInt8) (s : RS) (most : Nat) (w : World) (hr : RrAt w rb v data s) (hm : most ≤ 32768) :
    Calls Tryz.prog 66 #[.pointer (some ⟨rb, 0, none⟩), .int .i64 5, .int .i64 (most : Int)] w (TxtRes data most s rb v w) :=
  (rt_any rb v data most s w hr hm).mono fun _ _ ⟨h1, h2, h3⟩ => ⟨_, _, rfl, rfl, (rtP_shape data most s).2, by rw [h1, (rtP_shape data most s).1]; rfl, h2, h3⟩
def NumsRes (data : List UInt8) (s : RS) (rb : Nat) (v : Value) (w : World) (e : Ending) (w' : World) : Prop :=
  ∃ u s1, (ruP data s).1.u = u ∧ (ruP data s).2 = s1 ∧ u < 18446744073709551616 ∧ e = .returned (.agg #[.int .i64 1, .int .u64 (u : Int), .int .i64 0, .bool false, .string ⟨#[]⟩, .int .i64 0]) ∧ RrAt w' rb v data s1 ∧ w.grownBy w' (some rb)
theorem ru_p (rb : Nat) (v : Value) (data : List UInt8) (s : RS) (w : World) (hr : RrAt w rb v data s) :
    Calls Tryz.prog 66 #[.pointer (some ⟨rb, 0, none⟩), .int .i64 1, .int .i64 0] w (NumsRes data s rb v w) :=
  (ru_any rb v data s w hr).mono fun _ _ ⟨h1, h2, h3⟩ => ⟨_, _, rfl, rfl, ruP_lt data s, by rw [h1, ruP_shape]; rfl, h2, h3⟩
def CntRes (data : List UInt8) (most : Nat) (s : RS) (rb : Nat) (v : Value) (w : World) (e : Ending) (w' : World) : Prop :=
  ∃ n s1, (rcP data most s).1.n.toNat = n ∧ (rcP data most s).2 = s1 ∧ n ≤ most ∧ e = .returned (.agg #[.int .i64 7, .int .u64 0, .int .i64 (n : Int), .bool false, .string ⟨#[]⟩, .int .i64 (most : Int)]) ∧ RrAt w' rb v data s1 ∧ w.grownBy w' (some rb)
theorem rc_p (rb : Nat) (v : Value) (data : List UInt8) (s : RS) (most : Nat) (w : World) (hr : RrAt w rb v data s) (hm : most ≤ 32768) :
    Calls Tryz.prog 66 #[.pointer (some ⟨rb, 0, none⟩), .int .i64 7, .int .i64 (most : Int)] w (CntRes data most s rb v w) :=
  (rc_any rb v data most s w hr hm).mono fun _ _ ⟨h1, h2, h3⟩ => ⟨_, _, rfl, rfl, (rcP_shape data most s).2, by rw [h1, (rcP_shape data most s).1]; rfl, h2, h3⟩
def IntgRes (data : List UInt8) (s : RS) (rb : Nat) (v : Value) (w : World) (e : Ending) (w' : World) : Prop :=
  ∃ x s1, (inP data s).1 = x ∧ (inP data s).2 = s1 ∧ e = .returned (.int .i64 x) ∧ RrAt w' rb v data s1 ∧ w.grownBy w' (some rb)
theorem in_p (rb : Nat) (v : Value) (data : List UInt8) (s : RS) (w : World) (hr : RrAt w rb v data s) :
    Calls Tryz.prog 67 #[.pointer (some ⟨rb, 0, none⟩)] w (IntgRes data s rb v w) :=
  (integer_any rb v data s w hr).mono fun _ _ ⟨h1, h2, h3⟩ => ⟨_, _, rfl, rfl, h1, h2, h3⟩
theorem intR_wf (n : Nat) : (Lit.int .i64 (intR n)).wf = true := by
  unfold intR
  split
  · decide
  · rename_i h
    have : wrap64 (n : Int) = n := by unfold wrap64; omega
    rw [← this]; exact wrap64_wf _
theorem refR_ok (data : List UInt8) (s : RS) : RefOk (refR data s).1 := ⟨by
  show (rsP data s).1.s.size ≤ _
  rw [(sim_s (data := data) (Sim.same s)).1]
  have := smP_len data s
  show (smP data s).1.length ≤ _
  unfold maxLen
  omega, intR_wf _, intR_wf _⟩
def ReadsRes (data : List UInt8) (s : RS) (rb : Nat) (v : Value) (w : World) (e : Ending) (w' : World) : Prop :=
  ∃ r s1, (refR data s).1 = r ∧ (refR data s).2 = s1 ∧ RefOk r ∧ e = .returned (refV r) ∧ RrAt w' rb v data s1 ∧ w.grownBy w' (some rb)
theorem reads_p (rb : Nat) (v : Value) (data : List UInt8) (s : RS) (w : World) (hr : RrAt w rb v data s) :
    Calls Tryz.prog 68 #[.pointer (some ⟨rb, 0, none⟩)] w (ReadsRes data s rb v w) :=
  (reads_any rb v data s w hr).mono fun _ _ ⟨h1, h2, h3⟩ => ⟨_, _, rfl, rfl, refR_ok data s, h1, h2, h3⟩

/-- A reader of the reference stays where only later blocks turn. -/
theorem RrAt.keep {w1 wc w' : World} {rb : Nat} {v : Value} {data : List UInt8} {s s0 : RS} (h0 : RrAt w1 rb v data s0) (h : RrAt wc rb v data s) (hs : ∀ k, k < w1.heap.size → w'.heap[k]? = wc.heap[k]?) : RrAt w' rb v data s := by
  have h1 := h0.lt
  have hr0 := h0.row.mono (T := fun k => k ≠ rb ∧ k < w1.heap.size) (fun k hk hS => ⟨hS, hk⟩) (by omega)
  obtain ⟨_, a0, cap0, hv0, _, _, h00⟩ := hr0
  obtain ⟨hl, a, cap, hv, hn, hm, h2⟩ := h.row
  refine ⟨(hs rb h1).trans h.box, ⟨hl, a, cap, hv, hn, hm, ?_⟩, h.le, h.small⟩
  rcases h2 with h2 | ⟨bk, o, rfl, hk, hc⟩
  · exact .inl h2
  · rcases h00 with h00 | ⟨bk0, o0, rfl, hk0, _⟩
    · exact .inl h00
    · rw [hv0] at hv
      cases hv
      refine .inr ⟨bk, o, rfl, hk, fun j u hj => ?_⟩
      rw [← hc j u hj]
      exact World.cell?_of_block (hs bk hk0.2)
theorem RrAt.setOther {w w' : World} {rb b k : Nat} {v : Value} {data : List UInt8} {s s0 : RS} (h0 : RrAt w rb v data s0) (h : RrAt w' rb v data s) (hb : w.heap.size ≤ b) (x : Value) : RrAt (w'.setCell ⟨b, k, none⟩ x) rb v data s :=
  RrAt.keep h0 h (fun i hi => Below.heap_setCell _ _ _ _ (by show i ≠ b; omega))
/-- Between the calls of a round of the reference's Items: the reader, and the item's box. -/
structure RmMid (rb ib : Nat) (wr wc : World) (dv : Value) (data : List UInt8) (s : RS) (cs : Array Value) : Prop where
  rd : RrAt wc rb dv data s
  rd0 : ∃ s0, RrAt wr rb dv data s0
  box : wc.heap[ib]? = some (.cells cs 76 (0, 0))
  grown : wr.grownBy wc (some rb)
  ge : wr.heap.size ≤ ib
section
variable {rb ib : Nat} {wr wc w' w2 : World} {dv : Value} {data : List UInt8} {s s' s2 : RS} {cs : Array Value}
theorem RmMid.lt (h : RmMid rb ib wr wc dv data s cs) : rb < wr.heap.size := by
  obtain ⟨s0, h0⟩ := h.rd0
  exact h0.lt
theorem RmMid.call (h : RmMid rb ib wr wc dv data s cs) (h1 : RrAt w' rb dv data s') (h2 : wc.grownBy w' (some rb)) : RmMid rb ib wr w' dv data s' cs :=
  ⟨h1, h.rd0, keepH h2 h.box (by have := h.lt; have := h.ge; omega), grown_trans h.grown h2, h.ge⟩
theorem RmMid.set (h : RmMid rb ib wr wc dv data s cs) (k : Nat) (x : Value) : RmMid rb ib wr (wc.setCell ⟨ib, k, none⟩ x) dv data s (cs.setIfInBounds k x) := by
  obtain ⟨s0, h0⟩ := h.rd0
  exact ⟨RrAt.setOther h0 h.rd h.ge x, h.rd0, setH h.box x, grown_new h.grown h.ge x, h.ge⟩
theorem RmMid.below (h : RmMid rb ib wr wc dv data s cs) (hb : Below wc.heap.size wc w') : RmMid rb ib wr w' dv data s cs :=
  ⟨h.rd.below hb, h.rd0, (hb.block ib ((Array.getElem?_eq_some_iff.1 h.box).1)).trans h.box, grown_trans h.grown (grown_below hb _), h.ge⟩
theorem RmMid.start (h0 : RrAt wr rb dv data s) (h1 : RrAt w2 rb dv data s2) (h2 : wr.grownBy w2 (some rb)) (cs : Array Value) :
    RmMid rb w2.heap.size wr (w2.alloc (.cells cs 76)) dv data s2 cs :=
  ⟨h1.below ((Below.refl _ _).alloc (Nat.le_refl _) _), ⟨s, h0⟩, heap_alloc_new w2 _, grown_trans h2 (grown_below ((Below.refl _ _).alloc (Nat.le_refl _) _) _), h2.size⟩
theorem RmMid.cell (h : RmMid rb ib wr wc dv data s cs) (k : Nat) : wc.cell? ⟨ib, k, none⟩ = cs[k]? := cellH h.box
theorem RmMid.free (h : RmMid rb ib wr wc dv data s cs) (k : Nat) : wc.frozen? ⟨ib, k, none⟩ = false := frozenH h.box
theorem RmMid.app {r : Option Nat} (h : RmMid rb ib wr wc dv data s cs) (h2 : wc.grownBy w' r) (hr : ∀ k, r = some k → ib < k) : RmMid rb ib wr w' dv data s cs := by
  obtain ⟨s0, h0⟩ := h.rd0
  have hg := h.grown.size
  have hge := h.ge
  refine ⟨RrAt.keep h0 h.rd (fun k hk => h2.block k (by omega) (fun e => by have := hr k e.symm; omega)), h.rd0, ?_, ?_, h.ge⟩
  · exact (h2.block ib ((Array.getElem?_eq_some_iff.1 h.box).1) (fun e => by have := hr ib e.symm; omega)).trans h.box
  · refine ⟨h2.os.trans h.grown.os, h2.tape.trans h.grown.tape, h2.output.trans h.grown.output, Nat.le_trans hg h2.size, fun k hk hn => ?_⟩
    rw [h2.block k (by omega) (fun e => by have := hr k e.symm; omega)]
    exact h.grown.block k hk hn
end
/-- At a round's head. -/
structure RtsInv (w1 : World) (rb : Nat) (wr : World) (dv v : Value) (data : List UInt8) (s : RS) (l : List Item) : Prop where
  rd : RrAt wr rb dv data s
  rd1 : ∃ s0, RrAt w1 rb dv data s0
  row : ∃ cells, wr.ownsRow w1.heap.size 76 10 v l.length cells ∧ RowsIn (ItemR (fun k => w1.heap.size ≤ k ∧ v.ownBlock ≠ some k) wr) cells l
  grown : w1.grownBy wr (some rb)
/-- The item's box is read, and appended to the list. -/
theorem RtsInv.added {rb ib : Nat} {w1 wr wc w' : World} {dv v v' : Value} {data : List UInt8} {s s' : RS} {l : List Item} {it : Item} {cv : Value} {cells : List Value} (h : RtsInv w1 rb wr dv v data s l) (hm : RmMid rb ib wr wc dv data s' (itemC cv it).toArray)
    (hcv : RefsAt (wr.heap.size ≤ ·) wc cv it.chunks) (hok : ItemOk it) (hrow : RowsIn (ItemR (fun k => w1.heap.size ≤ k ∧ v.ownBlock ≠ some k) wr) cells l) (hown : wr.ownsRow w1.heap.size 76 10 v l.length cells)
    (h1 : w'.ownsRow w1.heap.size 76 10 v' (l.length + 1) (cells ++ itemC cv it)) (h2 : wc.grownBy w' v.ownBlock) (h3 : ∀ k, v'.ownBlock = some k → v.ownBlock = some k ∨ wc.heap.size ≤ k) : RtsInv w1 rb w' dv v' data s' (l ++ [it]) := by
  have hlt := hm.lt
  have hgs := hm.grown.size
  have hg1 := h.grown.size
  obtain ⟨s0, h0⟩ := h.rd1
  have hlt1 := h0.lt
  have hown0 : ∀ k, v.ownBlock = some k → w1.heap.size ≤ k ∧ k < wr.heap.size := fun k hk => hown.lt k hk
  refine ⟨?_, h.rd1, ⟨cells ++ itemC cv it, by simpa using h1, ?_⟩, ?_⟩
  · exact RrAt.keep h0 hm.rd (fun k hk => h2.block k (by omega) (fun e => by have := hown0 k e.symm; omega))
  · refine RowsIn.snoc (hrow.mono (fun c x _ hx => hx.same (fun k hk hS => ⟨⟨hS.1, fun e => ?_⟩, ?_⟩))) ⟨cv, rfl, hcv.same (fun k hk hS => ⟨⟨by omega, fun e => ?_⟩, ?_⟩), hok⟩
    · rcases h3 k e with e | e
      · have := hown0 k e; omega
      · omega
    · exact h2.block k hk (fun e => by have := hown0 k e.symm; omega)
    · rcases h3 k e with e | e
      · exact hS.2 e
      · omega
    · rw [h2.block k (by omega) (fun e => hS.2 e.symm)]
      exact hm.grown.block k hk (by simp; omega)
  · refine ⟨h2.os.trans (hm.grown.os.trans h.grown.os), h2.tape.trans (hm.grown.tape.trans h.grown.tape), h2.output.trans (hm.grown.output.trans h.grown.output), Nat.le_trans hg1 (Nat.le_trans hgs h2.size), fun k hk hn => ?_⟩
    rw [h2.block k (by omega) (fun e => by have := hown0 k e.symm; omega), hm.grown.block k (by omega) hn]
    exact h.grown.block k hk hn
/- What the loops leave. -/
theorem itemsP_fin {data : List UInt8} (hb : ¬ 32768 < data.length) {n : Nat} {s1 : RS} (h1 : (rcP data 4096 ⟨0, 0, 0⟩).1.n.toNat = n) (h2 : (rcP data 4096 ⟨0, 0, 0⟩).2 = s1) : itemsP data = (itemsR data n [] s1).bind fun p => if endE data p.2 = 0 ∧ vNode p.1 = true then some p.1 else none := by
  rw [← nodeR_eq]; unfold nodeR; rw [if_neg hb, h1, h2]
theorem itemsR_next {data : List UInt8} {n : Nat} {l : List Item} {s : RS} (he : s.err = 0) : itemsR data (n + 1) l s = (itemR data s).bind fun p => itemsR data n (l ++ [p.1]) p.2 := by rw [itemsR, if_pos he]
theorem itemsR_halt {data : List UInt8} {n : Nat} {l : List Item} {s : RS} (he : ¬ s.err = 0) : itemsR data n l s = some (l, s) := by
  cases n with
  | zero => rfl
  | succ n => rw [itemsR, if_neg he]
theorem chunkR_halt {data : List UInt8} {n : Nat} {l : List Ref} {s : RS} (he : ¬ s.err = 0) : chunkR data n l s = (l, s) := by
  cases n with
  | zero => rfl
  | succ n => rw [chunkR, if_neg he]
theorem itemR_of {data : List UInt8} {s s2 s3 s4 s5 : RS} {nm : ByteArray} {kd md : Int} {td : Nat} (a1 : (rtP data 64 s).1.s = nm) (a2 : (rtP data 64 s).2 = s2) (b1 : (inP data s2).1 = kd) (b2 : (inP data s2).2 = s3) (c1 : (inP data s3).1 = md) (c2 : (inP data s3).2 = s4) (d1 : (ruP data s4).1.u = td) (d2 : (ruP data s4).2 = s5) : itemR data s = itemHR data nm kd md td s5 := by
  unfold itemR; rw [a1, a2, b1, b2, c1, c2, d1, d2]
theorem itemKR_file {data : List UInt8} {s s1 s2 : RS} {nm : ByteArray} {kd md td : Int} {n : Nat} {ch : List Ref} (hk : kd = 1) (h1 : (rcP data 32768 s).1.n.toNat = n) (h2 : (rcP data 32768 s).2 = s1) (h3 : chunkR data n [] s1 = (ch, s2)) : itemKR data nm kd md td s = (⟨nm, kd, md, td, totW ch, ⟨#[]⟩, ch, noRef⟩, s2) := by
  unfold itemKR; rw [if_pos hk, h1, h2, h3]
theorem itemKR_dir {data : List UInt8} {s s1 : RS} {nm : ByteArray} {kd md td : Int} {r : Ref} (hk : kd = 2) (h1 : (refR data s).1 = r) (h2 : (refR data s).2 = s1) : itemKR data nm kd md td s = (⟨nm, kd, md, td, 0, ⟨#[]⟩, [], r⟩, s1) := by
  unfold itemKR; rw [if_neg (by omega), if_pos hk, h1, h2]
theorem itemKR_link {data : List UInt8} {s s1 : RS} {nm lk : ByteArray} {kd md td : Int} (hk1 : ¬ kd = 1) (hk2 : ¬ kd = 2) (h1 : (rtP data 512 s).1.s = lk) (h2 : (rtP data 512 s).2 = s1) : itemKR data nm kd md td s = (⟨nm, kd, md, td, 0, lk, [], noRef⟩, s1) := by
  unfold itemKR; rw [if_neg hk1, if_neg hk2, h1, h2]
theorem chunkR_next {data : List UInt8} {n : Nat} {l : List Ref} {s s1 : RS} {r : Ref} (he : s.err = 0) (h1 : (refR data s).1 = r) (h2 : (refR data s).2 = s1) : chunkR data (n + 1) l s = chunkR data n (l ++ [r]) s1 := by rw [chunkR, if_pos he, h1, h2]
theorem snoc_ok {ch : List Ref} {r : Ref} (h : ∀ x ∈ ch, RefOk x) (hr : RefOk r) : ∀ x ∈ ch ++ [r], RefOk x := by
  intro x hx
  rcases List.mem_append.1 hx with hx | hx
  · exact h x hx
  · simp only [List.mem_singleton] at hx; subst hx; exact hr
def Rts24 (data : List UInt8) (w : World) (e : Ending) (w' : World) : Prop := Below w.heap.size w w' ∧ match itemsP data with
  | none => e = .returned (.tuple #[.slice none 0 0, .bool false])
  | some l => ∃ v, e = .returned (.tuple #[v, .bool true]) ∧ ItemsAt (w.heap.size ≤ ·) w' v l
set_option maxRecDepth 100000 in
set_option maxHeartbeats 4000000 in
theorem items24_res (S : Nat → Prop) (data : List UInt8) (v : Value) (w : World) (hv : BytesAt S w v data) : Calls Tryz.prog 56 #[v] w (Rts24 data w) := by
  obtain ⟨_, a, cap, rfl, hn, hm, -⟩ := id hv
  unfold maxLen at hm
  have HV := Lib.hid hv
  clear hv
  by_cases hbig : 32768 < data.length
  · have HP := Lib.hid (show itemsP data = none from itemsP_big hbig)
    go_enter Tryz.func56, Tryz.ntmps56
    go_wp2_with fail
    go_ret2
    exact ⟨Below.refl _ _, by rw [HP.out]; rfl⟩
  · have HBIG := Lib.hid hbig
    have hf1 := fld1
    have hf2 := fld2
    have hf4 := fld4
    obtain ⟨w1, hw1⟩ : ∃ w1 : World, w1 = w.alloc (.cells #[.slice a data.length cap, .int .i64 0, .int .i64 0, .int .i64 0] 123) := ⟨_, rfl⟩
    have hb1 : Below w.heap.size w w1 := by rw [hw1]; exact (Below.refl _ _).alloc (Nat.le_refl _) _
    have HB1 := Lib.hid hb1
    have HRD1 := Lib.hid (show RrAt w1 w.heap.size (.slice a data.length cap) data ⟨0, 0, 0⟩ from ⟨by rw [hw1]; exact heap_alloc_new w _, (RowAt.mono HV.out (T := (· ≠ w.heap.size)) (fun k hk _ => by omega) (by omega)).below (by omega) hb1, Nat.zero_le _, by omega⟩)
    have HO0 := Lib.hid (World.ownsRow_lit (e := 76) (size := 10) (base := w1.heap.size) w1 #[] 0 (Nat.le_refl _) (Nat.zero_le _) (by simp))
    have HW1 := Lib.hid hw1
    clear hb1 hw1
    go_enter Tryz.func56, Tryz.ntmps56
    go_wp2_with fail
    rw [← HW1.out]
    have hsz1 : w.heap.size < w1.heap.size := HRD1.out.lt
    refine (rc_p w.heap.size _ data ⟨0, 0, 0⟩ 4096 _ (HRD1.out.below ((Below.refl _ _).alloc (Nat.le_refl _) _)) (by omega)).mono ?_
    rintro e w2 ⟨n, s1, hn1, hn2, hnm, rfl, h1, h2⟩
    have HFIN := Lib.hid (itemsP_fin hbig hn1 hn2)
    obtain ⟨FIN, hfin⟩ : ∃ FIN, FIN = itemsR data n [] s1 := ⟨_, rfl⟩
    rw [← hfin] at HFIN
    have HINV0 := Lib.hid (show RtsInv w1 w.heap.size w2 (.slice a data.length cap) (.slice (some ⟨w1.heap.size, 0, none⟩) 0 0) data s1 [] from
      ⟨h1, ⟨_, HRD1.out⟩, ⟨[], HO0.out.kept h2 (.inr (fun e => by simp [Value.ownBlock] at e; omega)), rfl⟩, grown_trans (grown_below ((Below.refl _ _).alloc (Nat.le_refl _) _) _) h2⟩)
    have HFI := Lib.hid hfin.symm
    obtain ⟨rb, hrb⟩ : ∃ rb, rb = w.heap.size := ⟨_, rfl⟩
    have HRB := Lib.hid hrb
    have HZ := Lib.hid (show w1.heap.size = rb + 1 by rw [HW1.out, hrb]; simp)
    have hge : w.heap.size ≤ rb := by omega
    have hsz2 : rb < w1.heap.size := by omega
    rw [← hrb] at HINV0 HRD1 ⊢
    clear hn1 hn2 h1 h2 hfin hbig hrb
    go_wp2_with fail
    go_loopw [5, 7] (fun o i wr => ∃ (k : Nat) (l : List Item) (s : RS), k ≤ n ∧ i = .int .i64 k ∧ l.length = k ∧ itemsR data (n - k) l s = FIN ∧ RtsInv w1 rb wr (.slice a data.length cap) o data s l) (fun _ i _ => n - (intOf i).toNat)
    case atStart => exact ⟨0, [], s1, Nat.zero_le _, rfl, rfl, HFI.out, by have h := HINV0.out; rw [HZ.out] at h; exact h⟩
    case round =>
      obtain ⟨k, l, s, hk, rfl, hlk, hit, hinv⟩ := hrel
      have HIT := Lib.hid hit
      have HINV := Lib.hid hinv
      have HLK := Lib.hid hlk
      obtain ⟨cells, hown, hrow⟩ := hinv.row
      have HOWN := Lib.hid hown
      have HROW := Lib.hid hrow
      obtain ⟨av, cv0, hvs, hvn, hvm⟩ := owns_shape hown
      have HRD := Lib.hid hinv.rd
      subst hvs
      have r3 := cellH (k := 3) hinv.rd.box
      simp only [List.getElem?_toArray, List.getElem?_cons_succ, List.getElem?_cons_zero] at r3
      clear hit hinv hlk hown hrow
      by_cases hlt : k < n
      · by_cases he : s.err = 0
        · have HE := Lib.hid he
          rw [he] at r3
          have HIN := Lib.hid (show (itemR data s).bind (fun p => itemsR data (n - (k + 1)) (l ++ [p.1]) p.2) = FIN by rw [← HIT.out, show n - k = n - (k + 1) + 1 by omega, itemsR_next he])
          clear he
          go_wp2_with fail
          refine (rt_p rb _ data s 64 _ HRD.out (by omega)).mono ?_
          rintro e w3 ⟨nm, s2, ha1, ha2, hnms, rfl, h1, h2⟩
          have HA1 := Lib.hid ha1
          have HA2 := Lib.hid ha2
          have HR3 := Lib.hid h1
          have HG3 := Lib.hid h2
          clear ha1 ha2 h1 h2 r3
          go_wp2_with fail
          refine (in_p rb _ data s2 _ HR3.out).mono ?_
          rintro e w4 ⟨kd, s3, hb1, hb2, rfl, h1, h2⟩
          have HB_1 := Lib.hid hb1
          have HB_2 := Lib.hid hb2
          have HR4 := Lib.hid h1
          have HG4 := Lib.hid (grown_trans HG3.out h2)
          clear hb1 hb2 h1 h2 HR3 HG3
          go_wp2_with fail
          refine (in_p rb _ data s3 _ HR4.out).mono ?_
          rintro e w5 ⟨md, s4, hc1, hc2, rfl, h1, h2⟩
          have HC1 := Lib.hid hc1
          have HC2 := Lib.hid hc2
          have HR5 := Lib.hid h1
          have HG5 := Lib.hid (grown_trans HG4.out h2)
          clear hc1 hc2 h1 h2 HR4 HG4
          go_wp2_with fail
          have HM0 := Lib.hid (RmMid.start HRD.out HR5.out HG5.out #[.string nm, .int .i64 kd, .int .i64 md, .int .i64 0, .int .i64 0, .string ⟨#[]⟩, .slice none 0 0, .string ⟨#[]⟩, .int .i64 0, .int .i64 0])
          obtain ⟨ib, hib⟩ : ∃ ib, ib = w5.heap.size := ⟨_, rfl⟩
          rw [← hib] at HM0 ⊢
          have HIB := Lib.hid hib
          clear hib
          have hibr : rb < ib := Nat.lt_of_lt_of_le HM0.out.lt HM0.out.ge
          refine (ru_p rb _ data s4 _ HM0.out.rd).mono ?_
          rintro e w6 ⟨td, s5, hd1, hd2, htd, rfl, h1, h2⟩
          have HM1 := Lib.hid (HM0.out.call h1 h2)
          have HIR := Lib.hid (itemR_of HA1.out HA2.out HB_1.out HB_2.out HC1.out HC2.out hd1 hd2)
          have ck := HM1.out.cell 3
          have fk := HM1.out.free 3
          simp only [List.getElem?_toArray, List.getElem?_cons_succ, List.getElem?_cons_zero] at ck
          clear hd1 hd2 h1 h2 HM0 HR5 HG5
          by_cases hbg : 9223372036854775807 < td
          · have HNO := Lib.hid (show itemsP data = none by
              have h1 := HIN.out
              rw [HIR.out] at h1
              unfold itemHR at h1
              rw [if_pos hbg] at h1
              rw [HFIN.out, ← h1]; rfl)
            go_wp2_with fail
            go_ret2
            have hfb : Below w.heap.size w w6 := HB1.out.trans ((Grows.of_grown (S := fun k => k = rb) (grown_trans HINV.out.grown HM1.out.grown) (fun k hk => by cases hk; rfl)).below HB1.out.size (fun k hk => by subst hk; exact hge))
            exact ⟨hfb, by rw [HNO.out]; rfl⟩
          · have HIR2 := Lib.hid (show itemR data s = some (itemKR data nm kd md td s5) by rw [HIR.out]; unfold itemHR; rw [if_neg hbg])
            have HTV := Lib.hid (show wrap64 (td : Int) = (td : Int) by unfold wrap64; omega)
            go_upto_region 14 with (fail)
            obtain ⟨w7, hw7⟩ : ∃ wx : World, wx = w6.setCell ⟨ib, 3, none⟩ (.int .i64 (td : Int)) := ⟨_, rfl⟩
            rw [← hw7]
            have m7 := HM1.out.set 3 (.int .i64 (td : Int))
            rw [← hw7] at m7
            simp only [List.setIfInBounds_toArray, List.set_cons_succ, List.set_cons_zero] at m7
            have HM2 := Lib.hid m7
            clear m7 hw7 ck fk HM1
            have ck := HM2.out.cell 1
            simp only [List.getElem?_toArray, List.getElem?_cons_succ, List.getElem?_cons_zero] at ck
            by_cases hk1 : kd = 1
            · have e1 : (kd == 1) = true := by simp [hk1]
              have HK1 := Lib.hid hk1
              clear hk1
              go_wp2_with fail
              refine (rc_p rb _ data s5 32768 _ HM2.out.rd (by omega)).mono ?_
              rintro e w8 ⟨n2, s6, hp1, hp2, hn2, rfl, h1, h2⟩
              have HP1 := Lib.hid hp1
              have HP2 := Lib.hid hp2
              have HM3 := Lib.hid (HM2.out.call h1 h2)
              obtain ⟨CF, hcf⟩ : ∃ CF, CF = chunkR data n2 [] s6 := ⟨_, rfl⟩
              have HCF := Lib.hid hcf
              clear hp1 hp2 h1 h2 ck HM2 hcf
              obtain ⟨wo, hwo⟩ : ∃ wo : World, wo = wr := ⟨_, rfl⟩
              subst hwo
              go_wp2_with fail
              go_loopw [11] (fun i wq => ∃ (j : Nat) (ch : List Ref) (s7 : RS) (cv : Value), j ≤ n2 ∧ i = .int .i64 j ∧ ch.length = j ∧ chunkR data (n2 - j) ch s7 = CF ∧ (∀ x ∈ ch, RefOk x) ∧ RmMid rb ib wo wq (.slice a data.length cap) data s7 #[.string nm, .int .i64 kd, .int .i64 md, .int .i64 (td : Int), .int .i64 (totW ch), .string ⟨#[]⟩, cv, .string ⟨#[]⟩, .int .i64 0, .int .i64 0] ∧ wq.ownsRow (ib + 1) 43 3 cv ch.length (ch.flatMap refC)) (fun i _ => n2 - (intOf i).toNat)
              case atStart => exact ⟨0, [], s6, .slice none 0 0, Nat.zero_le _, rfl, rfl, HCF.out.symm, by simp, HM3.out, World.ownsRow_nil _ _ _ _⟩
              case round =>
                obtain ⟨j, ch, s7, cv, hj, rfl, hlj, hch, hcok, hmid, how⟩ := hrel
                have HLJ := Lib.hid hlj
                have HCH := Lib.hid hch
                have HCO := Lib.hid hcok
                have HMQ := Lib.hid hmid
                have HOQ := Lib.hid how
                obtain ⟨a6, c6, hv6, hvn6, hvm6⟩ := owns_shape how
                subst hv6
                have r3 := cellH (k := 3) hmid.rd.box
                simp only [List.getElem?_toArray, List.getElem?_cons_succ, List.getElem?_cons_zero] at r3
                clear hlj hch hcok hmid how
                by_cases hlt2 : j < n2
                · by_cases he7 : s7.err = 0
                  · rw [he7] at r3
                    have HE7 := Lib.hid he7
                    clear he7
                    go_wp2_with fail
                    refine (reads_p rb _ data s7 _ HMQ.out.rd).mono ?_
                    rintro e wb ⟨r, s8, hq1, hq2, hrok, rfl, h1, h2⟩
                    have HRO := Lib.hid hrok
                    have HNC := Lib.hid (show chunkR data (n2 - (j + 1)) (ch ++ [r]) s8 = CF by rw [← HCH.out, show n2 - j = n2 - (j + 1) + 1 by omega, chunkR_next HE7.out hq1 hq2])
                    have HTS := Lib.hid (totW_snoc ch r)
                    have HMB := Lib.hid (HMQ.out.call h1 h2)
                    have HOB := Lib.hid (HOQ.out.kept h2 (.inr (by
                      intro e
                      have := (HOQ.out.lt _ e).1
                      omega)))
                    unfold refV
                    clear hq1 hq2 h1 h2 hrok r3 HMQ
                    go_upto_region 22 with (fail)
                    obtain ⟨wc, hwc⟩ : ∃ wx : World, wx = wb.alloc (.cells #[.string r.name, .int .i64 r.gen, .int .i64 r.size] 43) := ⟨_, rfl⟩
                    rw [← hwc]
                    have hbwc : Below wb.heap.size wb wc := by rw [hwc]; exact (Below.refl _ _).alloc (Nat.le_refl _) _
                    have HXC := Lib.hid (show wc.heap[wb.heap.size]? = some (.cells #[.string r.name, .int .i64 r.gen, .int .i64 r.size] 43 (0, 0)) by rw [hwc]; exact heap_alloc_new wb _)
                    have HMC := Lib.hid (HMB.out.below hbwc)
                    have HOC := Lib.hid (owns_below HOB.out hbwc)
                    have hbz2 : ib + 1 ≤ wc.heap.size := (Array.getElem?_eq_some_iff.1 HMC.out.box).1
                    have hbx3 : wb.heap.size < wc.heap.size := lt_of_block HXC.out
                    have HOL := Lib.hid (show ∀ k, (Value.slice a6 ch.length c6).ownBlock = some k → k < wb.heap.size from fun k hk => (HOB.out.lt k hk).2)
                    have hibw : ib < wb.heap.size := (Array.getElem?_eq_some_iff.1 HMB.out.box).1
                    have y4 := HMC.out.cell 4
                    have y6 := HMC.out.cell 6
                    have f6 := HMC.out.free 6
                    simp only [List.getElem?_toArray, List.getElem?_cons_succ, List.getElem?_cons_zero] at y4 y6
                    have x0 := cellH (k := 0) HXC.out
                    have x1 := cellH (k := 1) HXC.out
                    have x2 := cellH (k := 2) HXC.out
                    simp only [List.getElem?_toArray, List.getElem?_cons_succ, List.getElem?_cons_zero] at x0 x1 x2
                    clear hwc hbwc HMB HOB
                    go_upto_region 23 with (at_builtin; go_must (refine wpList_app1p Tryz.appRefs rfl _ _ rfl (ib + 1) (.slice a6 ch.length c6) ch.length (ch.flatMap refC) rfl wc [.string r.name, .int .i64 r.gen, .int .i64 r.size] _ rfl rfl (refC_one (r := r)) HOC.out (by have := HLJ.out; omega) hbz2 ?_); intro v' wd hown' hgrow' _ hpl; have HOD := Lib.hid hown'; have HGD := Lib.hid hgrow'; have HPD := Lib.hid hpl; have HMD := Lib.hid (HMC.out.app hgrow' (fun k hk => by have := (HOC.out.lt k hk).1; omega)); have k4 := HMD.out.cell 4; have k6 := HMD.out.cell 6; have g6 := HMD.out.free 6; simp only [List.getElem?_toArray, List.getElem?_cons_succ, List.getElem?_cons_zero] at k4 k6; obtain ⟨ae, ce, rfl, -, -⟩ := owns_shape hown'; clear hown' hgrow' hpl)
                    have HXD := Lib.hid ((HGD.out.block wb.heap.size hbx3 (fun e => by have := HOL.out _ e.symm; omega)).trans HXC.out)
                    have HOD2 := Lib.hid (show wd.ownsRow (ib + 1) 43 3 (.slice ae (ch.length + 1) ce) (ch ++ [r]).length ((ch ++ [r]).flatMap refC) by rw [List.length_append, List.flatMap_append]; simpa [refC] using HOD.out)
                    obtain ⟨wf, hwf⟩ : ∃ wx : World, wx = wd.setCell ⟨ib, 6, none⟩ (.slice ae (ch.length + 1) ce) := ⟨_, rfl⟩
                    rw [← hwf]
                    have m6 := HMD.out.set 6 (.slice ae (ch.length + 1) ce)
                    rw [← hwf] at m6
                    simp only [List.setIfInBounds_toArray, List.set_cons_succ, List.set_cons_zero] at m6
                    have HMF := Lib.hid m6
                    have HXF := Lib.hid (show wf.heap[wb.heap.size]? = some _ by rw [hwf]; exact setOtherH HXD.out (by omega) _)
                    have HOF := Lib.hid (show wf.ownsRow (ib + 1) 43 3 (.slice ae (ch.length + 1) ce) (ch ++ [r]).length ((ch ++ [r]).flatMap refC) by rw [hwf]; exact HOD2.out.kept (grown_set _ _ _ _) (.inr (by
                      intro e
                      have := (HOD2.out.lt _ e).1
                      omega)))
                    clear m6 hwf k4 k6 g6 y4 y6 f6 x0 x1 x2
                    have k4 := HMF.out.cell 4
                    have g4 := HMF.out.free 4
                    have x2 := cellH (k := 2) HXF.out
                    simp only [List.getElem?_toArray, List.getElem?_cons_succ, List.getElem?_cons_zero] at k4 x2
                    go_wp2_with fail
                    go_roundw
                    case rel =>
                      have m4 := HMF.out.set 4 (.int .i64 (wrap64 (totW ch + r.size)))
                      simp only [List.setIfInBounds_toArray, List.set_cons_succ, List.set_cons_zero] at m4
                      refine ⟨j + 1, ch ++ [r], s8, .slice ae (ch.length + 1) ce, by omega, by go_num, by simp [HLJ.out], HNC.out, snoc_ok HCO.out HRO.out, by rw [HTS.out]; exact m4, HOF.out.kept (grown_set _ _ _ _) (.inr (by
                        intro e
                        have := (HOF.out.lt _ e).1
                        omega))⟩
                    case measure => simp [intOf]; omega
                  · have e7 : (s7.err == 0) = false := by simp [he7]
                    have HFC := Lib.hid (show chunkR data n2 [] s6 = (ch, s7) by rw [← HCF.out, ← HCH.out]; exact chunkR_halt he7)
                    clear he7
                    have HIT2 := Lib.hid (HIR2.out.trans (congrArg some (itemKR_file HK1.out HP1.out HP2.out HFC.out)))
                    have HNX := Lib.hid (show itemsR data (n - (k + 1)) (l ++ [⟨nm, kd, md, td, totW ch, ⟨#[]⟩, ch, noRef⟩]) s7 = FIN by have h1 := HIN.out; rw [HIT2.out] at h1; exact h1)
                    have HOK := Lib.hid (show ItemOk ⟨nm, kd, md, td, totW ch, ⟨#[]⟩, ch, noRef⟩ from ⟨by show nm.size ≤ _; unfold maxLen; omega, by show ByteArray.size ⟨_⟩ ≤ _; unfold maxLen; simp [ByteArray.size], noRef_ok⟩)
                    have HCV := Lib.hid (show RefsAt (wo.heap.size ≤ ·) wr (.slice a6 ch.length c6) ch from RefsAt.same (refs_owned HOQ.out HCO.out) (fun k hk hS => ⟨by have := HMQ.out.ge; have := hS.1; show wo.heap.size ≤ k; omega, rfl⟩))
                    have d0 := HMQ.out.cell 0
                    have d1 := HMQ.out.cell 1
                    have d2 := HMQ.out.cell 2
                    have d3 := HMQ.out.cell 3
                    have d4 := HMQ.out.cell 4
                    have d5 := HMQ.out.cell 5
                    have d6 := HMQ.out.cell 6
                    have d7 := HMQ.out.cell 7
                    have d8 := HMQ.out.cell 8
                    have d9 := HMQ.out.cell 9
                    simp only [List.getElem?_toArray, List.getElem?_cons_succ, List.getElem?_cons_zero] at d0 d1 d2 d3 d4 d5 d6 d7 d8 d9
                    have HOC := Lib.hid (HOWN.out.kept HMQ.out.grown (.inr (by
                      intro e
                      have := (HOWN.out.lt _ e).1
                      omega)))
                    have hbz : w1.heap.size ≤ wr.heap.size := Nat.le_trans HINV.out.grown.size HMQ.out.grown.size
                    have hlen : l.length < 4096 := by have := HLK.out; omega
                    go_wp2_with (at_builtin; go_must (refine wpList_app1p Tryz.appItems rfl _ _ rfl w1.heap.size (.slice av l.length cv0) l.length cells rfl wr [.string nm, .int .i64 kd, .int .i64 md, .int .i64 (td : Int), .int .i64 (totW ch), .string (⟨#[]⟩), .slice a6 ch.length c6, .string ⟨#[]⟩, .int .i64 0, .int .i64 0] _ rfl rfl (itemC_one (it := ⟨nm, kd, md, td, totW ch, ⟨#[]⟩, ch, noRef⟩)) HOC.out (by omega) hbz ?_); intro v' we hown' hgrow' _ hpl; have HIE := Lib.hid (HINV.out.added (it := ⟨nm, kd, md, td, totW ch, ⟨#[]⟩, ch, noRef⟩) HMQ.out HCV.out HOK.out HROW.out HOWN.out hown' hgrow' hpl); obtain ⟨ae, ce, rfl, -, -⟩ := owns_shape hown'; clear hown' hgrow' hpl)
                    go_roundw
                    case rel => exact ⟨k + 1, l ++ [⟨nm, kd, md, td, totW ch, ⟨#[]⟩, ch, noRef⟩], s7, by omega, by go_num, by simp [HLK.out], HNX.out, HIE.out⟩
                    case measure => simp [intOf]; omega
                · obtain rfl : j = n2 := by omega
                  have HFC := Lib.hid (show chunkR data j [] s6 = (ch, s7) by rw [← HCF.out, ← HCH.out, Nat.sub_self]; rfl)
                  have HIT2 := Lib.hid (HIR2.out.trans (congrArg some (itemKR_file HK1.out HP1.out HP2.out HFC.out)))
                  have HNX := Lib.hid (show itemsR data (n - (k + 1)) (l ++ [⟨nm, kd, md, td, totW ch, ⟨#[]⟩, ch, noRef⟩]) s7 = FIN by have h1 := HIN.out; rw [HIT2.out] at h1; exact h1)
                  have HOK := Lib.hid (show ItemOk ⟨nm, kd, md, td, totW ch, ⟨#[]⟩, ch, noRef⟩ from ⟨by show nm.size ≤ _; unfold maxLen; omega, by show ByteArray.size ⟨_⟩ ≤ _; unfold maxLen; simp [ByteArray.size], noRef_ok⟩)
                  have HCV := Lib.hid (show RefsAt (wo.heap.size ≤ ·) wr (.slice a6 ch.length c6) ch from RefsAt.same (refs_owned HOQ.out HCO.out) (fun k hk hS => ⟨by have := HMQ.out.ge; have := hS.1; show wo.heap.size ≤ k; omega, rfl⟩))
                  have d0 := HMQ.out.cell 0
                  have d1 := HMQ.out.cell 1
                  have d2 := HMQ.out.cell 2
                  have d3 := HMQ.out.cell 3
                  have d4 := HMQ.out.cell 4
                  have d5 := HMQ.out.cell 5
                  have d6 := HMQ.out.cell 6
                  have d7 := HMQ.out.cell 7
                  have d8 := HMQ.out.cell 8
                  have d9 := HMQ.out.cell 9
                  simp only [List.getElem?_toArray, List.getElem?_cons_succ, List.getElem?_cons_zero] at d0 d1 d2 d3 d4 d5 d6 d7 d8 d9
                  have HOC := Lib.hid (HOWN.out.kept HMQ.out.grown (.inr (by
                    intro e
                    have := (HOWN.out.lt _ e).1
                    omega)))
                  have hbz : w1.heap.size ≤ wr.heap.size := Nat.le_trans HINV.out.grown.size HMQ.out.grown.size
                  have hlen : l.length < 4096 := by have := HLK.out; omega
                  go_wp2_with (at_builtin; go_must (refine wpList_app1p Tryz.appItems rfl _ _ rfl w1.heap.size (.slice av l.length cv0) l.length cells rfl wr [.string nm, .int .i64 kd, .int .i64 md, .int .i64 (td : Int), .int .i64 (totW ch), .string (⟨#[]⟩), .slice a6 ch.length c6, .string ⟨#[]⟩, .int .i64 0, .int .i64 0] _ rfl rfl (itemC_one (it := ⟨nm, kd, md, td, totW ch, ⟨#[]⟩, ch, noRef⟩)) HOC.out (by omega) hbz ?_); intro v' we hown' hgrow' _ hpl; have HIE := Lib.hid (HINV.out.added (it := ⟨nm, kd, md, td, totW ch, ⟨#[]⟩, ch, noRef⟩) HMQ.out HCV.out HOK.out HROW.out HOWN.out hown' hgrow' hpl); obtain ⟨ae, ce, rfl, -, -⟩ := owns_shape hown'; clear hown' hgrow' hpl)
                  go_roundw
                  case rel => exact ⟨k + 1, l ++ [⟨nm, kd, md, td, totW ch, ⟨#[]⟩, ch, noRef⟩], s7, by omega, by go_num, by simp [HLK.out], HNX.out, HIE.out⟩
                  case measure => simp [intOf]; omega
            · have e1 : (kd == 1) = false := by simp [hk1]
              by_cases hk2 : kd = 2
              · have e2 : (kd == 2) = true := by simp [hk2]
                have HK2 := Lib.hid hk2
                clear hk1 hk2
                go_wp2_with fail
                refine (reads_p rb _ data s5 _ HM2.out.rd).mono ?_
                rintro e wa ⟨r, s6, hq1, hq2, hrok, rfl, h1, h2⟩
                have HRO := Lib.hid hrok
                have HIT2 := Lib.hid (HIR2.out.trans (congrArg some (itemKR_dir HK2.out hq1 hq2)))
                have HM3 := Lib.hid (HM2.out.call h1 h2)
                have c7 := HM3.out.cell 7
                have c8 := HM3.out.cell 8
                have c9 := HM3.out.cell 9
                have f7 := HM3.out.free 7
                have f8 := HM3.out.free 8
                have f9 := HM3.out.free 9
                simp only [List.getElem?_toArray, List.getElem?_cons_succ, List.getElem?_cons_zero] at c7 c8 c9
                unfold refV
                clear hq1 hq2 h1 h2 hrok ck
                go_upto_region 26 with (fail)
                obtain ⟨wb, hwb⟩ : ∃ wx : World, wx = ((wa.setCell ⟨ib, 7, none⟩ (.string r.name)).setCell ⟨ib, 8, none⟩ (.int .i64 r.gen)).setCell ⟨ib, 9, none⟩ (.int .i64 r.size) := ⟨_, rfl⟩
                rw [← hwb]
                have m4 := ((HM3.out.set 7 (.string r.name)).set 8 (.int .i64 r.gen)).set 9 (.int .i64 r.size)
                rw [← hwb] at m4
                simp only [List.setIfInBounds_toArray, List.set_cons_succ, List.set_cons_zero] at m4
                have HM8 := Lib.hid m4
                have HNX := Lib.hid (show itemsR data (n - (k + 1)) (l ++ [⟨nm, kd, md, td, 0, ⟨#[]⟩, [], r⟩]) s6 = FIN by have h1 := HIN.out; rw [HIT2.out] at h1; exact h1)
                have HOK := Lib.hid (show ItemOk ⟨nm, kd, md, td, 0, ⟨#[]⟩, [], r⟩ from ⟨by show nm.size ≤ _; unfold maxLen; omega, by show ByteArray.size ⟨_⟩ ≤ _; unfold maxLen; simp [ByteArray.size], HRO.out⟩)
                have HCV := Lib.hid (show RefsAt (wr.heap.size ≤ ·) wb (.slice none 0 0) [] from SeqAt.nil)
                clear m4 hwb c7 c8 c9 f7 f8 f9 HM3 HM2
                have d0 := HM8.out.cell 0
                have d1 := HM8.out.cell 1
                have d2 := HM8.out.cell 2
                have d3 := HM8.out.cell 3
                have d4 := HM8.out.cell 4
                have d5 := HM8.out.cell 5
                have d6 := HM8.out.cell 6
                have d7 := HM8.out.cell 7
                have d8 := HM8.out.cell 8
                have d9 := HM8.out.cell 9
                simp only [List.getElem?_toArray, List.getElem?_cons_succ, List.getElem?_cons_zero] at d0 d1 d2 d3 d4 d5 d6 d7 d8 d9
                have HOC := Lib.hid (HOWN.out.kept HM8.out.grown (.inr (by
                  intro e
                  have := (HOWN.out.lt _ e).1
                  omega)))
                have hbz : w1.heap.size ≤ wb.heap.size := Nat.le_trans HINV.out.grown.size HM8.out.grown.size
                have hlen : l.length < 4096 := by have := HLK.out; omega
                go_wp2_with (at_builtin; go_must (refine wpList_app1p Tryz.appItems rfl _ _ rfl w1.heap.size (.slice av l.length cv0) l.length cells rfl wb [.string nm, .int .i64 kd, .int .i64 md, .int .i64 (td : Int), .int .i64 (0), .string (⟨#[]⟩), .slice none 0 0, .string r.name, .int .i64 r.gen, .int .i64 r.size] _ rfl rfl (itemC_one (it := ⟨nm, kd, md, td, 0, ⟨#[]⟩, [], r⟩)) HOC.out (by omega) hbz ?_); intro v' we hown' hgrow' _ hpl; have HIE := Lib.hid (HINV.out.added (it := ⟨nm, kd, md, td, 0, ⟨#[]⟩, [], r⟩) HM8.out HCV.out HOK.out HROW.out HOWN.out hown' hgrow' hpl); obtain ⟨ae, ce, rfl, -, -⟩ := owns_shape hown'; clear hown' hgrow' hpl)
                go_roundw
                case rel => exact ⟨k + 1, l ++ [⟨nm, kd, md, td, 0, ⟨#[]⟩, [], r⟩], s6, by omega, by go_num, by simp [HLK.out], HNX.out, HIE.out⟩
                case measure => simp [intOf]; omega
              · have e2 : (kd == 2) = false := by simp [hk2]
                have HK1 := Lib.hid hk1
                have HK2 := Lib.hid hk2
                clear hk1 hk2
                go_wp2_with fail
                refine (rt_p rb _ data s5 512 _ HM2.out.rd (by omega)).mono ?_
                rintro e wa ⟨lk, s6, hq1, hq2, hlks, rfl, h1, h2⟩
                have HIT2 := Lib.hid (HIR2.out.trans (congrArg some (itemKR_link HK1.out HK2.out hq1 hq2)))
                have HM3 := Lib.hid (HM2.out.call h1 h2)
                have c5 := HM3.out.cell 5
                have f5 := HM3.out.free 5
                simp only [List.getElem?_toArray, List.getElem?_cons_succ, List.getElem?_cons_zero] at c5
                clear hq1 hq2 h1 h2 ck
                go_upto_region 26 with (fail)
                obtain ⟨wb, hwb⟩ : ∃ wx : World, wx = wa.setCell ⟨ib, 5, none⟩ (.string lk) := ⟨_, rfl⟩
                rw [← hwb]
                have m4 := HM3.out.set 5 (.string lk)
                rw [← hwb] at m4
                simp only [List.setIfInBounds_toArray, List.set_cons_succ, List.set_cons_zero] at m4
                have HM8 := Lib.hid m4
                have HNX := Lib.hid (show itemsR data (n - (k + 1)) (l ++ [⟨nm, kd, md, td, 0, lk, [], noRef⟩]) s6 = FIN by have h1 := HIN.out; rw [HIT2.out] at h1; exact h1)
                have HOK := Lib.hid (show ItemOk ⟨nm, kd, md, td, 0, lk, [], noRef⟩ from ⟨by show nm.size ≤ _; unfold maxLen; omega, by show lk.size ≤ _; unfold maxLen; omega, noRef_ok⟩)
                have HCV := Lib.hid (show RefsAt (wr.heap.size ≤ ·) wb (.slice none 0 0) [] from SeqAt.nil)
                clear m4 hwb c5 f5 HM3 HM2
                have d0 := HM8.out.cell 0
                have d1 := HM8.out.cell 1
                have d2 := HM8.out.cell 2
                have d3 := HM8.out.cell 3
                have d4 := HM8.out.cell 4
                have d5 := HM8.out.cell 5
                have d6 := HM8.out.cell 6
                have d7 := HM8.out.cell 7
                have d8 := HM8.out.cell 8
                have d9 := HM8.out.cell 9
                simp only [List.getElem?_toArray, List.getElem?_cons_succ, List.getElem?_cons_zero] at d0 d1 d2 d3 d4 d5 d6 d7 d8 d9
                have HOC := Lib.hid (HOWN.out.kept HM8.out.grown (.inr (by
                  intro e
                  have := (HOWN.out.lt _ e).1
                  omega)))
                have hbz : w1.heap.size ≤ wb.heap.size := Nat.le_trans HINV.out.grown.size HM8.out.grown.size
                have hlen : l.length < 4096 := by have := HLK.out; omega
                go_wp2_with (at_builtin; go_must (refine wpList_app1p Tryz.appItems rfl _ _ rfl w1.heap.size (.slice av l.length cv0) l.length cells rfl wb [.string nm, .int .i64 kd, .int .i64 md, .int .i64 (td : Int), .int .i64 (0), .string (lk), .slice none 0 0, .string ⟨#[]⟩, .int .i64 0, .int .i64 0] _ rfl rfl (itemC_one (it := ⟨nm, kd, md, td, 0, lk, [], noRef⟩)) HOC.out (by omega) hbz ?_); intro v' we hown' hgrow' _ hpl; have HIE := Lib.hid (HINV.out.added (it := ⟨nm, kd, md, td, 0, lk, [], noRef⟩) HM8.out HCV.out HOK.out HROW.out HOWN.out hown' hgrow' hpl); obtain ⟨ae, ce, rfl, -, -⟩ := owns_shape hown'; clear hown' hgrow' hpl)
                go_roundw
                case rel => exact ⟨k + 1, l ++ [⟨nm, kd, md, td, 0, lk, [], noRef⟩], s6, by omega, by go_num, by simp [HLK.out], HNX.out, HIE.out⟩
                case measure => simp [intOf]; omega
        · have e3 : (s.err == 0) = false := by simp [he]
          have HFI2 := Lib.hid (show FIN = some (l, s) by rw [← HIT.out]; exact itemsR_halt he)
          clear he
          have HIS := Lib.hid (show itemsP data = if endE data s = 0 ∧ vNode l = true then some l else none by rw [HFIN.out, HFI2.out]; rfl)
          have HIA := Lib.hid (show ItemsAt (w.heap.size ≤ ·) wr (.slice av l.length cv0) l from by
            have hww := HB1.out.size
            refine ⟨cells, (row_of_owns HOWN.out).weak (fun k hk => by have := hk.1; omega), HROW.out.mono (fun c x _ hx => hx.same (fun k hk hS => ⟨by have := hS.1; omega, rfl⟩))⟩)
          have HFB := Lib.hid (show Below w.heap.size w wr from HB1.out.trans ((Grows.of_grown (S := fun k => k = rb) HINV.out.grown (fun k hk => by cases hk; rfl)).below HB1.out.size (fun k hk => by subst hk; exact hge)))
          go_wp2_with fail
          refine (end01_any rb _ data s _ HRD.out).mono ?_
          rintro e we ⟨⟨pe, rfl⟩, hbe⟩
          have HFE := Lib.hid (below_next HFB.out hbe)
          have HIE := Lib.hid (ItemsAt.below HIA.out hbe)
          obtain ⟨ev, hev⟩ : ∃ ev : Int, ev = endE data s := ⟨_, rfl⟩
          rw [← hev]
          have HEV := Lib.hid hev
          clear hev hbe
          by_cases h0 : ev = 0
          · subst h0
            cases hvn2 : vNode l
            · have HIN := Lib.hid (show itemsP data = none by rw [HIS.out, hvn2]; simp)
              have HVN := Lib.hid hvn2
              clear hvn2
              go_wp2_with fail
              refine (good_is l false _ _ _ HIE.out HVN.out).mono ?_
              rintro e wf ⟨rfl, hbf⟩
              have HBF := Lib.hid (below_next HFE.out hbf)
              clear hbf
              go_wp2_with fail
              go_ret2
              exact ⟨HBF.out, by rw [HIN.out]; rfl⟩
            · have HIN := Lib.hid (show itemsP data = some l by rw [HIS.out, hvn2]; simp [HEV.out.symm])
              have HVN := Lib.hid hvn2
              clear hvn2
              go_wp2_with fail
              refine (good_is l true _ _ _ HIE.out HVN.out).mono ?_
              rintro e wf ⟨rfl, hbf⟩
              have HBF := Lib.hid (below_next HFE.out hbf)
              have HIF := Lib.hid (ItemsAt.below HIE.out hbf)
              clear hbf
              go_wp2_with fail
              go_ret2
              exact ⟨HBF.out, by rw [HIN.out]; exact ⟨_, rfl, HIF.out⟩⟩
          · have HIN := Lib.hid (show itemsP data = none by rw [HIS.out, if_neg (fun h => h0 (HEV.out.trans h.1))])
            have e6 : (ev != 0) = true := by simp [h0]
            clear h0
            go_wp2_with fail
            go_ret2
            exact ⟨HFE.out, by rw [HIN.out]; rfl⟩
      · obtain rfl : k = n := by omega
        have HFI2 := Lib.hid (show FIN = some (l, s) by rw [← HIT.out, Nat.sub_self]; rfl)
        have HIS := Lib.hid (show itemsP data = if endE data s = 0 ∧ vNode l = true then some l else none by rw [HFIN.out, HFI2.out]; rfl)
        have HIA := Lib.hid (show ItemsAt (w.heap.size ≤ ·) wr (.slice av l.length cv0) l from by
          have hww := HB1.out.size
          refine ⟨cells, (row_of_owns HOWN.out).weak (fun k hk => by have := hk.1; omega), HROW.out.mono (fun c x _ hx => hx.same (fun k hk hS => ⟨by have := hS.1; omega, rfl⟩))⟩)
        have HFB := Lib.hid (show Below w.heap.size w wr from HB1.out.trans ((Grows.of_grown (S := fun k => k = rb) HINV.out.grown (fun k hk => by cases hk; rfl)).below HB1.out.size (fun k hk => by subst hk; exact hge)))
        go_wp2_with fail
        refine (end01_any rb _ data s _ HRD.out).mono ?_
        rintro e we ⟨⟨pe, rfl⟩, hbe⟩
        have HFE := Lib.hid (below_next HFB.out hbe)
        have HIE := Lib.hid (ItemsAt.below HIA.out hbe)
        obtain ⟨ev, hev⟩ : ∃ ev : Int, ev = endE data s := ⟨_, rfl⟩
        rw [← hev]
        have HEV := Lib.hid hev
        clear hev hbe
        by_cases h0 : ev = 0
        · subst h0
          cases hvn2 : vNode l
          · have HIN := Lib.hid (show itemsP data = none by rw [HIS.out, hvn2]; simp)
            have HVN := Lib.hid hvn2
            clear hvn2
            go_wp2_with fail
            refine (good_is l false _ _ _ HIE.out HVN.out).mono ?_
            rintro e wf ⟨rfl, hbf⟩
            have HBF := Lib.hid (below_next HFE.out hbf)
            clear hbf
            go_wp2_with fail
            go_ret2
            exact ⟨HBF.out, by rw [HIN.out]; rfl⟩
          · have HIN := Lib.hid (show itemsP data = some l by rw [HIS.out, hvn2]; simp [HEV.out.symm])
            have HVN := Lib.hid hvn2
            clear hvn2
            go_wp2_with fail
            refine (good_is l true _ _ _ HIE.out HVN.out).mono ?_
            rintro e wf ⟨rfl, hbf⟩
            have HBF := Lib.hid (below_next HFE.out hbf)
            have HIF := Lib.hid (ItemsAt.below HIE.out hbf)
            clear hbf
            go_wp2_with fail
            go_ret2
            exact ⟨HBF.out, by rw [HIN.out]; exact ⟨_, rfl, HIF.out⟩⟩
        · have HIN := Lib.hid (show itemsP data = none by rw [HIS.out, if_neg (fun h => h0 (HEV.out.trans h.1))])
          have e6 : (ev != 0) = true := by simp [h0]
          clear h0
          go_wp2_with fail
          go_ret2
          exact ⟨HFE.out, by rw [HIN.out]; rfl⟩

theorem items24_any : ItemsOf := fun S data v w hv => items24_res S data v w hv

end Go.Proofs.YtndgmcggckpgfaaGreatDoor

/- Contracts of the reference of package manifest: (*Walk).visit. -/
namespace Go.Proofs.YtndgmcggckpgfaaGreatDoor
open Go.RowKit


/-- The items that a walk sees at a reference. -/
def visP (cs : List (ByteArray × List UInt8)) (ln : Bool) (r : Ref) : Except Int (List Item) := if ln = true then presP cs r else nodeP cs r
theorem visP_ok {cs : List (ByteArray × List UInt8)} {ln : Bool} {r : Ref} {l : List Item} (h : nodeP cs r = .ok l) : visP cs ln r = .ok l := by
  unfold visP presP; rw [h]; cases ln <;> rfl
theorem visP_bad {cs : List (ByteArray × List UInt8)} {ln : Bool} {r : Ref} {x : Int} (h : nodeP cs r = .error x) (hx : ¬ (x = 10 ∧ ln = true)) : visP cs ln r = .error x := by
  unfold visP presP; rw [h]
  cases ln
  · rfl
  · simp only [if_true]
    rw [if_neg (fun e => hx ⟨e, rfl⟩)]
theorem visP_gone {cs : List (ByteArray × List UInt8)} {r : Ref} (h : nodeP cs r = .error 10) : visP cs true r = .ok [] := by
  unfold visP presP; rw [h]; rfl
def VisitC (cs : List (ByteArray × List UInt8)) (ln : Bool) (cv : Value) (B n : Nat) : Prop := ∀ (r : Ref) (st : List Ref × List Ref) (x : Int) (st' : List Ref × List Ref) (base wb eb sb : Nat) (v : Value) (w : World), walkP (visP cs ln) n r st = some (x, st') → st'.2.length < 1099511627775 →
  RkAt w base wb eb sb ln v st.1 st.2 → RefOk r → RefsI B cv cs w → (B ≤ base ∧ B ≤ wb ∧ B ≤ eb ∧ B ≤ sb) → base ≤ w.heap.size →
  Calls Tryz.prog 40 #[.pointer (some ⟨wb, 0, none⟩), refV r, cv] w fun e w' => e = .returned (.int .i64 x) ∧ RkRes base wb eb sb ln v st'.1 st'.2 w w'
theorem rk_own_ge {B base wb eb sb : Nat} {ln : Bool} {w : World} {v : Value} {ex rs : List Ref} (h : RkAt w base wb eb sb ln v ex rs) (hB : B ≤ base ∧ B ≤ wb ∧ B ≤ eb ∧ B ≤ sb) {k : Nat} (hk : WkOwn wb eb sb v k) : B ≤ k := by
  rcases hk with e | e | e | e
  · omega
  · omega
  · omega
  · have := (h.row.lt k e).1; omega
/-- How far the walk over items has come. -/
def OverAt (cs : List (ByteArray × List UInt8)) (ln : Bool) (n : Nat) (l : List Item) (y : Int) (ex rs : List Ref) (x : Int) (st' : List Ref × List Ref) : Prop :=
  (y ≠ 0 ∧ (x, st') = (y, (ex, rs))) ∨ (y = 0 ∧ overW (walkP (visP cs ln) n) l (ex, rs) = some (x, st'))
set_option maxRecDepth 100000 in
set_option maxHeartbeats 4000000 in
theorem visit_step (cs : List (ByteArray × List UInt8)) (ln : Bool) (cv : Value) (B n : Nat) (IH : VisitC cs ln cv B n) : VisitC cs ln cv B (n + 1) := by
  intro r st x st' base wb eb sb v w hw hlen h hr hi hB hbase
  have HIH := Lib.hid IH
  have HB := Lib.hid hB
  have HR := Lib.hid hr
  have H := Lib.hid h
  have HIW := Lib.hid hi
  have HLEN := Lib.hid hlen
  have HWP := Lib.hid hw
  have hmen : (mentionP r st.2).length ≤ st'.2.length := by
    rw [walkP] at hw
    split at hw
    · simp only [Option.some.injEq, Prod.mk.injEq] at hw
      obtain ⟨_, rfl⟩ := hw
      exact Nat.le_refl _
    · split at hw
      · simp only [Option.some.injEq, Prod.mk.injEq] at hw
        obtain ⟨_, rfl⟩ := hw
        exact Nat.le_refl _
      · exact overW_le (walkP_le (visP cs ln) n) _ _ x st' hw
  have hml := mentionP_le r st.2
  have HB0 := Lib.hid ((Below.refl w.heap.size w).alloc (Nat.le_refl _) (.cells #[.string r.name, .int .i64 r.gen, .int .i64 r.size] 43))
  have HK0 := Lib.hid (h.below HB0.out)
  have HBX0 := Lib.hid (heap_alloc_new w (.cells #[.string r.name, .int .i64 r.gen, .int .i64 r.size] 43))
  have hwb : wb < w.heap.size := lt_of_block h.box
  unfold refV
  clear hw h hr hi IH hB
  go_enter Tryz.func40, Tryz.ntmps40
  go_wp2_with fail
  refine (need24_any base wb eb sb ln v st.1 st.2 r _ HK0.out HR.out (by omega) (by simp; omega)).mono ?_
  rintro e w1 ⟨rfl, v1, hk1, hg1, ho1⟩
  have HK1 := Lib.hid hk1
  have HBX1 := Lib.hid (show w1.heap[w.heap.size]? = some (.cells #[.string r.name, .int .i64 r.gen, .int .i64 r.size] 43 (0, 0)) from (hg1.block w.heap.size (by simp) (fun ho => by
    rcases ho with e | e | e | e
    · omega
    · have := H.out.exs.map.lt; omega
    · have := H.out.see.map.lt; omega
    · have := (H.out.row.lt _ e).2; omega)).trans HBX0.out)
  have hz1 := hg1.size
  simp at hz1
  have HG1 := Lib.hid (show Grows (WkOwn wb eb sb v) w w1 from (Grows.of_below HB0.out (S := WkOwn wb eb sb v)).trans hg1 (fun _ _ h => h))
  have HO1 := Lib.hid (show ∀ k, v1.ownBlock = some k → v.ownBlock = some k ∨ w.heap.size ≤ k from fun k hk => by
    rcases ho1 k hk with e | e
    · exact .inl e
    · simp at e; exact .inr (by omega))
  clear hk1 hg1 ho1 HK0 HBX0
  have c1 := cellH (k := 2) HK1.out.box
  have q0 := cellH (k := 0) HBX1.out
  have q1 := cellH (k := 1) HBX1.out
  have q2 := cellH (k := 2) HBX1.out
  simp only [List.getElem?_toArray, List.getElem?_cons_succ, List.getElem?_cons_zero] at c1 q0 q1 q2
  go_wp2_with fail
  refine wp_region_segs [some 6] (by kernel_rfl) (by kernel_rfl) (by kernel_rfl) ?_
  simp only [wpSegs, List.take_succ_cons, List.take_zero]
  obtain ⟨W1, hW1⟩ : ∃ W1 : World, W1 = w1.drew := ⟨_, rfl⟩
  rw [← hW1]
  have hbw1 : Below w1.heap.size w1 W1 := by rw [hW1]; exact (Below.refl _ _).drew
  have HK2 := Lib.hid (HK1.out.below hbw1)
  have HBX2 := Lib.hid ((hbw1.block w.heap.size (by omega)).trans HBX1.out)
  have HG2 := Lib.hid (HG1.out.trans (Grows.of_below hbw1 (S := fun _ => False)) (fun _ _ h => False.elim h))
  have hz2 := hbw1.size
  clear hbw1 HK1 HBX1 HG1 c1 q0 q1 q2
  have c1 := cellH (k := 2) HK2.out.box
  have q0 := cellH (k := 0) HBX2.out
  have q1 := cellH (k := 1) HBX2.out
  have q2 := cellH (k := 2) HBX2.out
  have hlk := HK2.out.exs.look HR.out
  unfold refV at hlk
  simp only [List.getElem?_toArray, List.getElem?_cons_succ, List.getElem?_cons_zero] at c1 q0 q1 q2
  clear hW1
  by_cases hm : r ∈ st.1
  · have e1 : decide (r ∈ st.1) = true := by simp [hm]
    rw [e1] at hlk
    have HRES := Lib.hid (show (x, st') = (0, (st.1, mentionP r st.2)) by have := HWP.out; rw [walkP, if_pos hm] at this; exact (Option.some.inj this).symm)
    clear e1 hm
    repeat (first | (refine seg_skip rfl ?_; simp only [Act.put, List.setIfInBounds_toArray, List.set_cons_succ, List.set_cons_zero]) | (refine seg_run rfl (fun K hK => ?_); go_simp; refine hK _ ?_; clear hK K))
    refine seg_nil ?_
    go_wp2_with fail
    go_ret
    obtain ⟨e1, e2⟩ := Prod.mk.inj HRES.out
    exact ⟨ret_int e1.symm, v1, by rw [e2]; exact HK2.out, HG2.out, HO1.out⟩
  · have e1 : decide (r ∈ st.1) = false := by simp [hm]
    rw [e1] at hlk
    have HNM := Lib.hid hm
    have HWQ := Lib.hid (show (match visP cs ln r with | .error x => some (x, (st.1 ++ [r], mentionP r st.2)) | .ok l => overW (walkP (visP cs ln) n) l (st.1 ++ [r], mentionP r st.2)) = some (x, st') by have := HWP.out; rw [walkP, if_neg hm] at this; exact this)
    clear e1 hm HWP
    repeat (first | (refine seg_skip rfl ?_; simp only [Act.put, List.setIfInBounds_toArray, List.set_cons_succ, List.set_cons_zero]) | (refine seg_run rfl (fun K hK => ?_); go_simp; refine hK _ ?_; clear hK K))
    refine seg_nil ?_
    go_wp2_with fail
    refine wp_region_segs [some 5, none] (by kernel_rfl) (by kernel_rfl) (by kernel_rfl) ?_
    simp only [wpSegs, List.take_succ_cons, List.take_zero, List.drop_succ_cons, List.drop_zero]
    repeat (first | (refine seg_skip rfl ?_; simp only [Act.put, List.setIfInBounds_toArray, List.set_cons_succ, List.set_cons_zero]) | (refine seg_run rfl (fun K hK => ?_); go_simp; refine hK _ ?_; clear hK K))
    refine seg_nil ?_
    refine bar_run rfl (fun K hK => ?_)
    have HKd := Lib.hid (HK2.out.below ((Below.refl _ W1).drew))
    have heb : eb < w.heap.size := H.out.exs.map.lt
    have hsb : sb < w.heap.size := H.out.see.map.lt
    have HNE1 := Lib.hid H.out.wne
    have HNE2 := Lib.hid H.out.ne
    go_wp2_with (at_mapUpdate; go_must (refine wpList_setadd rfl _ _ _ rfl eb st.1 HKd.out.exs rfl r HR.out rfl rfl HNM.out ?_); intro W2 hset hg2; have HSET3 := Lib.hid hset; have HGW := Lib.hid (show W1.grownBy W2 (some eb) from grown_trans (b := W1.drew) ⟨rfl, rfl, rfl, Nat.le_refl _, fun _ _ _ => rfl⟩ hg2); have HBX3 := Lib.hid (keepH HGW.out HBX2.out (by omega)); have z0 := cellH (k := 0) HBX3.out; have z1 := cellH (k := 1) HBX3.out; have z2 := cellH (k := 2) HBX3.out; simp only [List.getElem?_toArray, List.getElem?_cons_succ, List.getElem?_cons_zero] at z0 z1 z2; clear hset hg2)
    have HK3 := Lib.hid (show RkAt W2 base wb eb sb ln v1 (st.1 ++ [r]) (mentionP r st.2) from ⟨keepH HGW.out HK2.out.box HNE1.out.1, HSET3.out, HK2.out.see.same (HGW.out.block sb HK2.out.see.map.lt (by simp; exact Ne.symm HNE2.out)), HK2.out.row.kept HGW.out (.inr (fun e => (HK2.out.own e).2.1 rfl)), HNE2.out⟩)
    have HG3 := Lib.hid (show Grows (WkOwn wb eb sb v) w W2 from HG2.out.trans (Grows.of_grown (S := fun k => k = eb) HGW.out (fun k hk => by cases hk; rfl)) (fun i _ h => .inr (.inl h)))
    have hz3 := HGW.out.size
    have HI3 := Lib.hid (RefsI.keep w W2 HIW.out (grows_mono HG3.out (fun k hk => rk_own_ge H.out HB.out hk)))
    clear HKd HK2 HBX2 HG2 c1 q0 q1 q2 hlk z0 z1 z2
    refine (nodeR24_any items24_any (· < B) cv cs r W2 HI3.out.cont HR.out).mono ?_
    rintro e w3 ⟨hb3, hres⟩
    have HK4 := Lib.hid (HK3.out.below hb3)
    have HG4 := Lib.hid (HG3.out.trans (Grows.of_below hb3 (S := fun _ => False)) (fun _ _ h => False.elim h))
    have HB3 := Lib.hid hb3
    have hz4 := hb3.size
    have c3 := cellH (k := 3) HK4.out.box
    simp only [List.getElem?_toArray, List.getElem?_cons_succ, List.getElem?_cons_zero] at c3
    clear hb3
    cases hvr : nodeP cs r with
    | error y =>
      rw [hvr] at hres
      obtain ⟨rfl, hy⟩ := hres
      by_cases hyl : y = 10 ∧ ln = true
      · obtain ⟨rfl, rfl⟩ := hyl
        have HRES := Lib.hid (show (x, st') = (0, (st.1 ++ [r], mentionP r st.2)) by have := HWQ.out; rw [visP_gone hvr] at this; exact (Option.some.inj this).symm)
        clear hvr hy
        go_wp2_with fail
        go_ret
        obtain ⟨e1, e2⟩ := Prod.mk.inj HRES.out
        exact ⟨ret_int e1.symm, v1, by rw [e2]; exact HK4.out, HG4.out, HO1.out⟩
      · have HRES := Lib.hid (show (x, st') = (y, (st.1 ++ [r], mentionP r st.2)) by have := HWQ.out; rw [visP_bad hvr hyl] at this; exact (Option.some.inj this).symm)
        have HYL := Lib.hid hyl
        have HY := Lib.hid hy
        clear hvr hyl hy
        by_cases h10 : y = 10
        · subst h10
          obtain rfl : ln = false := by
            cases ln
            · rfl
            · exact absurd ⟨rfl, rfl⟩ HYL.out
          go_wp2_with fail
          go_loopw [8, 9] (fun e i wr => e = .int .i64 10 ∧ i = .int .i64 0 ∧ wr = w3) (fun _ _ _ => 0)
          case atStart => exact ⟨rfl, rfl, rfl⟩
          case round =>
            obtain ⟨rfl, rfl, rfl⟩ := hrel
            go_wp2_with fail
            go_ret
            obtain ⟨e1, e2⟩ := Prod.mk.inj HRES.out
            exact ⟨ret_int e1.symm, v1, by rw [e2]; exact HK4.out, HG4.out, HO1.out⟩
        · have e1 : (y == 10) = false := by simp [h10]
          clear h10
          go_wp2_with fail
          go_loopw [8, 9] (fun e i wr => e = .int .i64 y ∧ i = .int .i64 0 ∧ wr = w3) (fun _ _ _ => 0)
          case atStart => exact ⟨rfl, rfl, rfl⟩
          case round =>
            obtain ⟨rfl, rfl, rfl⟩ := hrel
            go_wp2_with fail
            go_ret
            obtain ⟨e1, e2⟩ := Prod.mk.inj HRES.out
            exact ⟨ret_int e1.symm, v1, by rw [e2]; exact HK4.out, HG4.out, HO1.out⟩
    | ok l =>
      rw [hvr] at hres
      obtain ⟨itv, rfl, hits⟩ := hres
      have HOV := Lib.hid (show overW (walkP (visP cs ln) n) l (st.1 ++ [r], mentionP r st.2) = some (x, st') by have := HWQ.out; rw [visP_ok hvr] at this; exact this)
      obtain ⟨ia, ic, rfl, hil, him, -⟩ := SeqAt.shape hits ItemR.len
      unfold maxLen at him
      have HIN := Lib.hid (show RkIn w B W2.heap.size w3.heap.size base wb eb sb ln v (.slice ia l.length ic) l w3 v1 (st.1 ++ [r]) (mentionP r st.2) from
        ⟨HK4.out, HG4.out, HO1.out, fun k hk => .inl (HK3.out.row.lt k hk).2, ⟨by omega, by omega, by omega⟩, ⟨by omega, hz4, Nat.le_refl _⟩, ItemsAt.lt hits⟩)
      clear hvr hits HWQ HK3 HK4 HG3 HG4 HBX3
      go_wp2_with fail
      go_loopw [8, 9] (fun e i wr => ∃ (k : Nat) (v2 : Value) (ex2 rs2 : List Ref) (y : Int), k ≤ l.length ∧ i = .int .i64 k ∧ e = .int .i64 y ∧ OverAt cs ln n (l.drop k) y ex2 rs2 x st' ∧ RkIn w B W2.heap.size w3.heap.size base wb eb sb ln v (.slice ia l.length ic) l wr v2 ex2 rs2) (fun _ i _ => l.length - (intOf i).toNat)
      case atStart => exact ⟨0, v1, _, _, 0, Nat.zero_le _, rfl, rfl, .inr ⟨rfl, HOV.out⟩, HIN.out⟩
      case round =>
        obtain ⟨k, v2, ex2, rs2, y, hk, rfl, rfl, hov, hin⟩ := hrel
        have HV2 := Lib.hid hov
        have HN2 := Lib.hid hin
        clear hov hin c3
        by_cases hy : y = 0
        · subst hy
          have HV3 := Lib.hid (show overW (walkP (visP cs ln) n) (l.drop k) (ex2, rs2) = some (x, st') by
            rcases HV2.out with ⟨h, _⟩ | ⟨_, h⟩
            · exact absurd rfl h
            · exact h)
          by_cases hlt : k < l.length
          · obtain ⟨it, hr2⟩ : ∃ it, l[k]? = some it := ⟨l[k], by simp [hlt]⟩
            have HR2 := Lib.hid hr2
            have HOV2 := Lib.hid (show overW (walkP (visP cs ln) n) (it :: l.drop (k + 1)) (ex2, rs2) = some (x, st') by
              obtain ⟨hk', rfl⟩ := List.getElem?_eq_some_iff.1 hr2
              rw [← List.drop_eq_getElem_cons hk']; exact HV3.out)
            have hmb := overW_men HOV2.out
            obtain ⟨b, o, ca, cc, rfl, hok, hrf, -, -, -⟩ := items_at HN2.out.its (Below.refl _ _) hr2
            obtain ⟨a', cap', hv', hcl1, hcl2, -⟩ := SeqAt.shape hrf RefR.len
            cases hv'
            unfold maxLen at hcl2
            have HOK := Lib.hid hok
            clear hr2 hok hrf
            go_wp2_with fail
            go_loopw [10] (fun i wq => ∃ (j : Nat) (v3 : Value), j ≤ it.chunks.length ∧ i = .int .i64 j ∧ RkIn w B W2.heap.size w3.heap.size base wb eb sb ln v (.slice (some ⟨b, o, none⟩) l.length ic) l wq v3 ex2 (menAll (it.chunks.take j) rs2)) (fun i _ => it.chunks.length - (intOf i).toNat)
            case atStart => exact ⟨0, v2, Nat.zero_le _, rfl, HN2.out⟩
            case round =>
              obtain ⟨j, v3, hj, rfl, hin3⟩ := hrel
              have HN4 := Lib.hid hin3
              obtain ⟨b', o', ca2, cc2, he', -, hrf, -, -, hcl⟩ := items_at HN4.out.its (Below.refl _ _) HR2.out
              cases he'
              have HRF4 := Lib.hid hrf
              have q0 := hcl 0 (by omega)
              have q1 := hcl 1 (by omega)
              have q6 := hcl 6 (by omega)
              have q7 := hcl 7 (by omega)
              have q8 := hcl 8 (by omega)
              have q9 := hcl 9 (by omega)
              simp only [itemC, List.getElem?_cons_zero, List.getElem?_cons_succ, Nat.add_zero] at q0 q1 q6 q7 q8 q9
              obtain ⟨a'', cap'', hv'', hcl1', hcl2', -⟩ := SeqAt.shape hrf RefR.len
              cases hv''
              unfold maxLen at hcl2'
              clear hin3 hrf hcl
              by_cases hlt2 : j < it.chunks.length
              · obtain ⟨c, hc⟩ : ∃ c, it.chunks[j]? = some c := ⟨it.chunks[j], by simp [hlt2]⟩
                obtain ⟨b2, o2, rfl, hcok, p0, p1, p2⟩ := refs_at HRF4.out (Below.refl _ _) hc
                have HCO := Lib.hid hcok
                have HSN := Lib.hid (show menAll (it.chunks.take (j + 1)) rs2 = mentionP c (menAll (it.chunks.take j) rs2) by rw [take_snoc' hc, menAll_snoc])
                have hjl := menAll_take_le it.chunks rs2 j
                have HBZ := Lib.hid (Nat.le_trans hbase HN4.out.gr.size)
                clear hc hcok
                go_wp2_with fail
                refine (need24_any base wb eb sb ln v3 ex2 _ c _ HN4.out.at' HCO.out (by omega) HBZ.out).mono ?_
                rintro e w4 ⟨rfl, hres⟩
                obtain ⟨v4, hin4, -⟩ := HN4.out.step hres
                have HN6 := Lib.hid hin4
                clear hres hin4 p0 p1 p2 q0 q1 q6 q7 q8 q9
                go_wp2_with fail
                go_roundw
                case rel => exact ⟨j + 1, v4, by omega, by go_num, by rw [HSN.out]; exact HN6.out⟩
                case measure => simp [intOf]; omega
              · obtain rfl : j = it.chunks.length := by omega
                rw [List.take_of_length_le (Nat.le_refl _)] at HN4
                rcases overW_cons HOV2.out with ⟨hk2, h2⟩ | ⟨hk2, y, st2, h1, h2⟩
                · have e2 : (it.kind == 2) = false := by simp [hk2]
                  have H2 := Lib.hid h2
                  clear hk2 h2
                  go_wp2_with fail
                  go_roundw
                  case rel => exact ⟨k + 1, v3, _, _, 0, by omega, by go_num, rfl, .inr ⟨rfl, H2.out⟩, HN4.out⟩
                  case measure => simp [intOf]; omega
                · have e2 : (it.kind == 2) = true := by simp [hk2]
                  have H1 := Lib.hid h1
                  have H2 := Lib.hid h2
                  have hle2 : st2.2.length ≤ st'.2.length := by
                    rcases h2 with ⟨_, h2⟩ | ⟨_, h2⟩
                    · obtain ⟨_, rfl⟩ := Prod.mk.inj h2
                      exact Nat.le_refl _
                    · exact overW_le (walkP_le (visP cs ln) n) _ _ x st' h2
                  have HI4 := Lib.hid (RefsI.keep w wr HIW.out (grows_mono HN4.out.gr (fun k hk => rk_own_ge H.out HB.out hk)))
                  have HBZ := Lib.hid (Nat.le_trans hbase HN4.out.gr.size)
                  clear hk2 h1 h2
                  go_wp2_with fail
                  refine (HIH.out it.node (ex2, menAll it.chunks rs2) y st2 base wb eb sb v3 wr H1.out (by omega) HN4.out.at' HOK.out.nd HI4.out HB.out HBZ.out).mono ?_
                  rintro e w4 ⟨rfl, hres⟩
                  obtain ⟨v4, hin4, -⟩ := HN4.out.step hres
                  have HN6 := Lib.hid hin4
                  clear hres hin4 q0 q1 q6 q7 q8 q9
                  go_wp2_with fail
                  go_roundw
                  case rel => exact ⟨k + 1, v4, st2.1, st2.2, y, by omega, by go_num, rfl, H2.out, HN6.out⟩
                  case measure => simp [intOf]; omega
          · obtain rfl : k = l.length := by omega
            have HRES := Lib.hid (show (x, st') = (0, (ex2, rs2)) by have := HV3.out; rw [List.drop_of_length_le (Nat.le_refl _)] at this; exact (Option.some.inj this).symm)
            go_wp2_with fail
            go_ret
            obtain ⟨e1, e2⟩ := Prod.mk.inj HRES.out
            exact ⟨ret_int e1.symm, v2, by rw [e2]; exact HN2.out.at', HN2.out.gr, HN2.out.own⟩
        · have e1 : (y == 0) = false := by simp [hy]
          have HRES := Lib.hid (show (x, st') = (y, (ex2, rs2)) by
            rcases HV2.out with ⟨_, h⟩ | ⟨h, _⟩
            · exact h
            · exact absurd h hy)
          clear hy
          by_cases hlt : k < l.length
          · go_wp2_with fail
            go_ret
            obtain ⟨e1, e2⟩ := Prod.mk.inj HRES.out
            exact ⟨ret_int e1.symm, v2, by rw [e2]; exact HN2.out.at', HN2.out.gr, HN2.out.own⟩
          · go_wp2_with fail
            go_ret
            obtain ⟨e1, e2⟩ := Prod.mk.inj HRES.out
            exact ⟨ret_int e1.symm, v2, by rw [e2]; exact HN2.out.at', HN2.out.gr, HN2.out.own⟩
theorem visit_any (cs : List (ByteArray × List UInt8)) (ln : Bool) (cv : Value) (B : Nat) : ∀ n, VisitC cs ln cv B n
  | 0 => by intro r st x st' base wb eb sb v w hw; simp [walkP] at hw
  | n + 1 => visit_step cs ln cv B n (visit_any cs ln cv B n)

end Go.Proofs.YtndgmcggckpgfaaGreatDoor

/- Contracts of package manifest: the walk with present. -/
namespace Go.Proofs.YtndgmcggckpgfaaGreatDoor
open Go.RowKit

set_option maxRecDepth 100000 in
set_option maxHeartbeats 4000000 in
theorem walkQ_step (visit : Ref → Except Int (List Item)) (cv : Value) (I : World → Prop) (B n : Nat) (hI : KeepI I B) (hV : VisC visit 42 cv I) (IH : WalkC visit 42 cv I B n) : WalkC visit 42 cv I B (n + 1) := by
  intro r st x st' base wb eb sb v w hw hlen h hr hi hB hbase
  have HI := Lib.hid hI
  have HV := Lib.hid hV
  have HIH := Lib.hid IH
  have HB := Lib.hid hB
  have HR := Lib.hid hr
  have H := Lib.hid h
  have HIW := Lib.hid hi
  have HLEN := Lib.hid hlen
  have HWP := Lib.hid hw
  have hmen : (mentionP r st.2).length ≤ st'.2.length := by
    rw [walkP] at hw
    split at hw
    · simp only [Option.some.injEq, Prod.mk.injEq] at hw
      obtain ⟨_, rfl⟩ := hw
      exact Nat.le_refl _
    · split at hw
      · simp only [Option.some.injEq, Prod.mk.injEq] at hw
        obtain ⟨_, rfl⟩ := hw
        exact Nat.le_refl _
      · exact overW_le (walkP_le visit n) _ _ x st' hw
  have hml := mentionP_le r st.2
  have HB0 := Lib.hid ((Below.refl w.heap.size w).alloc (Nat.le_refl _) (.cells #[.string r.name, .int .i64 r.gen, .int .i64 r.size] 43))
  have HK0 := Lib.hid (h.below HB0.out)
  have HBX0 := Lib.hid (heap_alloc_new w (.cells #[.string r.name, .int .i64 r.gen, .int .i64 r.size] 43))
  have hwb : wb < w.heap.size := lt_of_block h.box
  unfold refV
  clear hw h hr hi hI hV IH hB
  go_enter Tryz.func50, Tryz.ntmps50
  go_wp2_with fail
  refine (mention_any base wb eb sb _ v st.1 st.2 r _ HK0.out HR.out (by omega) (by simp; omega)).mono ?_
  rintro e w1 ⟨rfl, v1, hk1, hg1, ho1⟩
  have HK1 := Lib.hid hk1
  have HBX1 := Lib.hid (show w1.heap[w.heap.size]? = some (.cells #[.string r.name, .int .i64 r.gen, .int .i64 r.size] 43 (0, 0)) from (hg1.block w.heap.size (by simp) (fun ho => by
    rcases ho with e | e | e | e
    · omega
    · have := H.out.exs.map.lt; omega
    · have := H.out.see.map.lt; omega
    · have := (H.out.row.lt _ e).2; omega)).trans HBX0.out)
  have hz1 := hg1.size
  simp at hz1
  have HG1 := Lib.hid (show Grows (WkOwn wb eb sb v) w w1 from (Grows.of_below HB0.out (S := WkOwn wb eb sb v)).trans hg1 (fun _ _ h => h))
  have HO1 := Lib.hid (show ∀ k, v1.ownBlock = some k → v.ownBlock = some k ∨ w.heap.size ≤ k from fun k hk => by
    rcases ho1 k hk with e | e
    · exact .inl e
    · simp at e; exact .inr (by omega))
  clear hk1 hg1 ho1 HK0 HBX0
  have c1 := cellH (k := 1) HK1.out.box
  have q0 := cellH (k := 0) HBX1.out
  have q1 := cellH (k := 1) HBX1.out
  have q2 := cellH (k := 2) HBX1.out
  simp only [List.getElem?_toArray, List.getElem?_cons_succ, List.getElem?_cons_zero] at c1 q0 q1 q2
  go_wp2_with fail
  refine wp_region_segs [some 6] (by kernel_rfl) (by kernel_rfl) (by kernel_rfl) ?_
  simp only [wpSegs, List.take_succ_cons, List.take_zero]
  obtain ⟨W1, hW1⟩ : ∃ W1 : World, W1 = w1.drew := ⟨_, rfl⟩
  rw [← hW1]
  have hbw1 : Below w1.heap.size w1 W1 := by rw [hW1]; exact (Below.refl _ _).drew
  have HK2 := Lib.hid (HK1.out.below hbw1)
  have HBX2 := Lib.hid ((hbw1.block w.heap.size (by omega)).trans HBX1.out)
  have HG2 := Lib.hid (HG1.out.trans (Grows.of_below hbw1 (S := fun _ => False)) (fun _ _ h => False.elim h))
  have hz2 := hbw1.size
  clear hbw1 HK1 HBX1 HG1 c1 q0 q1 q2
  have c1 := cellH (k := 1) HK2.out.box
  have q0 := cellH (k := 0) HBX2.out
  have q1 := cellH (k := 1) HBX2.out
  have q2 := cellH (k := 2) HBX2.out
  have hlk := HK2.out.exs.look HR.out
  unfold refV at hlk
  simp only [List.getElem?_toArray, List.getElem?_cons_succ, List.getElem?_cons_zero] at c1 q0 q1 q2
  clear hW1
  by_cases hm : r ∈ st.1
  · have e1 : decide (r ∈ st.1) = true := by simp [hm]
    rw [e1] at hlk
    have HRES := Lib.hid (show (x, st') = (0, (st.1, mentionP r st.2)) by have := HWP.out; rw [walkP, if_pos hm] at this; exact (Option.some.inj this).symm)
    clear e1 hm
    repeat (first | (refine seg_skip rfl ?_; simp only [Act.put, List.setIfInBounds_toArray, List.set_cons_succ, List.set_cons_zero]) | (refine seg_run rfl (fun K hK => ?_); go_simp; refine hK _ ?_; clear hK K))
    refine seg_nil ?_
    go_wp2_with fail
    go_ret
    obtain ⟨e1, e2⟩ := Prod.mk.inj HRES.out
    exact ⟨ret_int e1.symm, v1, by rw [e2]; exact HK2.out, HG2.out, HO1.out⟩
  · have e1 : decide (r ∈ st.1) = false := by simp [hm]
    rw [e1] at hlk
    have HNM := Lib.hid hm
    have HWQ := Lib.hid (show (match visit r with | .error x => some (x, (st.1 ++ [r], mentionP r st.2)) | .ok l => overW (walkP visit n) l (st.1 ++ [r], mentionP r st.2)) = some (x, st') by have := HWP.out; rw [walkP, if_neg hm] at this; exact this)
    clear e1 hm HWP
    repeat (first | (refine seg_skip rfl ?_; simp only [Act.put, List.setIfInBounds_toArray, List.set_cons_succ, List.set_cons_zero]) | (refine seg_run rfl (fun K hK => ?_); go_simp; refine hK _ ?_; clear hK K))
    refine seg_nil ?_
    go_wp2_with fail
    refine wp_region_segs [some 5, none] (by kernel_rfl) (by kernel_rfl) (by kernel_rfl) ?_
    simp only [wpSegs, List.take_succ_cons, List.take_zero, List.drop_succ_cons, List.drop_zero]
    repeat (first | (refine seg_skip rfl ?_; simp only [Act.put, List.setIfInBounds_toArray, List.set_cons_succ, List.set_cons_zero]) | (refine seg_run rfl (fun K hK => ?_); go_simp; refine hK _ ?_; clear hK K))
    refine seg_nil ?_
    refine bar_run rfl (fun K hK => ?_)
    have HKd := Lib.hid (HK2.out.below ((Below.refl _ W1).drew))
    go_wp2_with (at_mapUpdate; go_must (refine wpList_setadd rfl _ _ _ rfl eb st.1 HKd.out.exs rfl r HR.out rfl rfl HNM.out ?_); intro w2 hset hg2)
    have heb : eb < w.heap.size := H.out.exs.map.lt
    have hsb : sb < w.heap.size := H.out.see.map.lt
    have hne1 := H.out.wne
    have hne2 := H.out.ne
    refine wp_region_segs [some 5, none, some 5] (by kernel_rfl) (by kernel_rfl) (by kernel_rfl) ?_
    simp only [wpSegs, List.take_succ_cons, List.take_zero, List.drop_succ_cons, List.drop_zero]
    obtain ⟨W2, hW2⟩ : ∃ W2 : World, W2 = w2.drew := ⟨_, rfl⟩
    rw [← hW2]
    have hg3 : W1.grownBy W2 (some eb) := by rw [hW2]; exact grown_trans (b := W1.drew) ⟨rfl, rfl, rfl, Nat.le_refl _, fun _ _ _ => rfl⟩ (grown_trans hg2 ⟨rfl, rfl, rfl, Nat.le_refl _, fun _ _ _ => rfl⟩)
    have hset3 : SetAt W2 eb (st.1 ++ [r]) := by rw [hW2]; exact hset.same rfl
    have HK3 := Lib.hid (show WkAt W2 base wb eb sb (.func (.func 42) #[cv] #[]) v1 (st.1 ++ [r]) (mentionP r st.2) from ⟨keepH hg3 HK2.out.box hne1.1, hset3, HK2.out.see.same (hg3.block sb HK2.out.see.map.lt (by simp; exact Ne.symm hne2)), HK2.out.row.kept hg3 (.inr (fun e => (HK2.out.own e).2.1 rfl)), hne2⟩)
    have HBX3 := Lib.hid (keepH hg3 HBX2.out (by omega))
    have HG3 := Lib.hid (show Grows (WkOwn wb eb sb v) w W2 from HG2.out.trans (Grows.of_grown (S := fun k => k = eb) hg3 (fun k hk => by cases hk; rfl)) (fun i _ h => .inr (.inl h)))
    have hz3 := hg3.size
    have HI3 := Lib.hid (HI.out w W2 HIW.out (grows_mono HG3.out (fun k hk => own_ge H.out HB.out hk)))
    clear hW2 hg3 hset3 hset hg2 HKd HK2 HBX2 HG2 c1 q0 q1 q2 hlk
    have c0 := cellH (k := 0) HK3.out.box
    have q0 := cellH (k := 0) HBX3.out
    have q1 := cellH (k := 1) HBX3.out
    have q2 := cellH (k := 2) HBX3.out
    simp only [List.getElem?_toArray, List.getElem?_cons_succ, List.getElem?_cons_zero] at c0 q0 q1 q2
    repeat (first | (refine seg_skip rfl ?_; simp only [Act.put, List.setIfInBounds_toArray, List.set_cons_succ, List.set_cons_zero]) | (refine seg_run rfl (fun K hK => ?_); go_simp; refine hK _ ?_; clear hK K))
    refine seg_nil ?_
    refine bar_run rfl (fun K hK => ?_)
    go_wp2_with fail
    refine (HV.out W2 r HI3.out HR.out).mono ?_
    rintro e w3 ⟨hb3, hres⟩
    have HK4 := Lib.hid (HK3.out.below hb3)
    have HG4 := Lib.hid (HG3.out.trans (Grows.of_below hb3 (S := fun _ => False)) (fun _ _ h => False.elim h))
    have HB3 := Lib.hid hb3
    have hz4 := hb3.size
    clear hb3 c0 q0 q1 q2
    cases hvr : visit r with
    | error y =>
      rw [hvr] at hres
      obtain ⟨rfl, hy⟩ := hres
      have HRES := Lib.hid (show (x, st') = (y, (st.1 ++ [r], mentionP r st.2)) by have := HWQ.out; rw [hvr] at this; exact (Option.some.inj this).symm)
      have e1 : (y != 0) = true := by simp [hy]
      clear hvr hy
      go_wp2_with fail
      repeat (first | (refine seg_skip rfl ?_; simp only [Act.put, List.setIfInBounds_toArray, List.set_cons_succ, List.set_cons_zero]) | (refine seg_run rfl (fun K hK => ?_); go_simp; refine hK _ ?_; clear hK K))
      refine seg_nil ?_
      go_wp2_with fail
      go_ret
      obtain ⟨e1, e2⟩ := Prod.mk.inj HRES.out
      exact ⟨ret_int e1.symm, v1, by rw [e2]; exact HK4.out, HG4.out, HO1.out⟩
    | ok l =>
      rw [hvr] at hres
      obtain ⟨itv, rfl, hits⟩ := hres
      have HOV := Lib.hid (show overW (walkP visit n) l (st.1 ++ [r], mentionP r st.2) = some (x, st') by have := HWQ.out; rw [hvr] at this; exact this)
      obtain ⟨ia, ic, rfl, hil, him, -⟩ := SeqAt.shape hits ItemR.len
      unfold maxLen at him
      have HIN := Lib.hid (show WkIn w B W2.heap.size w3.heap.size base wb eb sb (.func (.func 42) #[cv] #[]) v (.slice ia l.length ic) l w3 v1 (st.1 ++ [r]) (mentionP r st.2) from
        ⟨HK4.out, HG4.out, HO1.out, fun k hk => .inl (HK3.out.row.lt k hk).2, ⟨by omega, by omega, by omega⟩, ⟨by omega, hz4, Nat.le_refl _⟩, ItemsAt.lt hits⟩)
      clear hvr hits HWQ HK3 HK4 HG3 HG4 HBX3
      go_wp2_with fail
      repeat (first | (refine seg_skip rfl ?_; simp only [Act.put, List.setIfInBounds_toArray, List.set_cons_succ, List.set_cons_zero]) | (refine seg_run rfl (fun K hK => ?_); go_simp; refine hK _ ?_; clear hK K))
      refine seg_nil ?_
      go_wp2_with fail
      go_loopw [40] (fun i wr => ∃ (k : Nat) (v2 : Value) (ex2 rs2 : List Ref), k ≤ l.length ∧ i = .int .i64 k ∧ overW (walkP visit n) (l.drop k) (ex2, rs2) = some (x, st') ∧ WkIn w B W2.heap.size w3.heap.size base wb eb sb (.func (.func 42) #[cv] #[]) v (.slice ia l.length ic) l wr v2 ex2 rs2) (fun i _ => l.length - (intOf i).toNat)
      case atStart => exact ⟨0, v1, _, _, Nat.zero_le _, rfl, HOV.out, HIN.out⟩
      case round =>
        obtain ⟨k, v2, ex2, rs2, hk, rfl, hov, hin⟩ := hrel
        have HV2 := Lib.hid hov
        have HN2 := Lib.hid hin
        clear hov hin
        by_cases hlt : k < l.length
        · obtain ⟨it, hr2⟩ : ∃ it, l[k]? = some it := ⟨l[k], by simp [hlt]⟩
          obtain ⟨b, o, ca, cc, rfl, hok, hrf, -, -, hcl⟩ := items_at HN2.out.its (Below.refl _ _) hr2
          have HOV2 := Lib.hid (show overW (walkP visit n) (it :: l.drop (k + 1)) (ex2, rs2) = some (x, st') by
            obtain ⟨hk', rfl⟩ := List.getElem?_eq_some_iff.1 hr2
            rw [← List.drop_eq_getElem_cons hk']; exact HV2.out)
          have hmb := overW_men HOV2.out
          have HOK := Lib.hid hok
          have q0 := hcl 0 (by omega)
          have q1 := hcl 1 (by omega)
          have q2 := hcl 2 (by omega)
          have q3 := hcl 3 (by omega)
          have q4 := hcl 4 (by omega)
          have q5 := hcl 5 (by omega)
          have q6 := hcl 6 (by omega)
          have q7 := hcl 7 (by omega)
          have q8 := hcl 8 (by omega)
          have q9 := hcl 9 (by omega)
          simp only [itemC, List.getElem?_cons_zero, List.getElem?_cons_succ, Nat.add_zero] at q0 q1 q2 q3 q4 q5 q6 q7 q8 q9
          obtain ⟨wo, hwo⟩ : ∃ wo : World, wo = wr := ⟨_, rfl⟩
          subst hwo
          have HAL := Lib.hid ((Below.refl wo.heap.size wo).alloc (Nat.le_refl _) (.cells #[.string it.name, .int .i64 it.kind, .int .i64 it.mode, .int .i64 it.time, .int .i64 it.size, .string it.link, .slice ca it.chunks.length cc, .string it.node.name, .int .i64 it.node.gen, .int .i64 it.node.size] 76))
          have HN3 := Lib.hid (HN2.out.below HAL.out)
          have HRF := Lib.hid (show RefsAt (fun k => W2.heap.size ≤ k ∧ k < w3.heap.size) _ (.slice ca it.chunks.length cc) it.chunks from SeqAt.below hrf (by omega) HAL.out (fun _ _ _ h => h))
          obtain ⟨a', cap', hv', hcl1, hcl2, -⟩ := SeqAt.shape hrf RefR.len
          cases hv'
          unfold maxLen at hcl2
          clear hr2 hok hrf hcl
          have HBX5 := Lib.hid (heap_alloc_new wo (.cells #[.string it.name, .int .i64 it.kind, .int .i64 it.mode, .int .i64 it.time, .int .i64 it.size, .string it.link, .slice ca it.chunks.length cc, .string it.node.name, .int .i64 it.node.gen, .int .i64 it.node.size] 76))
          go_wp2_with fail
          clear q0 q1 q2 q3 q4 q5 q6 q7 q8 q9
          go_loopw [47] (fun i wq => ∃ (j : Nat) (v3 : Value), j ≤ it.chunks.length ∧ i = .int .i64 j ∧ WkIn w B W2.heap.size w3.heap.size base wb eb sb (.func (.func 42) #[cv] #[]) v (.slice (some ⟨b, o, none⟩) l.length ic) l wq v3 ex2 (menAll (it.chunks.take j) rs2) ∧ RefsAt (fun k => W2.heap.size ≤ k ∧ k < w3.heap.size) wq (.slice ca it.chunks.length cc) it.chunks ∧ wq.heap[wo.heap.size]? = some (.cells #[.string it.name, .int .i64 it.kind, .int .i64 it.mode, .int .i64 it.time, .int .i64 it.size, .string it.link, .slice ca it.chunks.length cc, .string it.node.name, .int .i64 it.node.gen, .int .i64 it.node.size] 76 (0, 0))) (fun i _ => it.chunks.length - (intOf i).toNat)
          case atStart => exact ⟨0, v2, Nat.zero_le _, rfl, HN3.out, HRF.out, HBX5.out⟩
          case round =>
            obtain ⟨j, v3, hj, rfl, hin3, hrf3, hbx3⟩ := hrel
            have HN4 := Lib.hid hin3
            have HRF4 := Lib.hid hrf3
            have HBX6 := Lib.hid hbx3
            clear hin3 hrf3 hbx3 HN3 HRF HBX5 HAL
            by_cases hlt2 : j < it.chunks.length
            · obtain ⟨c, hc⟩ : ∃ c, it.chunks[j]? = some c := ⟨it.chunks[j], by simp [hlt2]⟩
              obtain ⟨b2, o2, rfl, hcok, p0, p1, p2⟩ := refs_at HRF4.out (Below.refl _ _) hc
              have HCO := Lib.hid hcok
              have HSN := Lib.hid (show menAll (it.chunks.take (j + 1)) rs2 = mentionP c (menAll (it.chunks.take j) rs2) by rw [take_snoc' hc, menAll_snoc])
              have hjl := menAll_take_le it.chunks rs2 j
              have HAL2 := Lib.hid ((Below.refl wr.heap.size wr).alloc (Nat.le_refl _) (.cells #[.string c.name, .int .i64 c.gen, .int .i64 c.size] 43))
              have HN5 := Lib.hid (HN4.out.below HAL2.out)
              have hbz : base ≤ (wr.alloc (.cells #[.string c.name, .int .i64 c.gen, .int .i64 c.size] 43)).heap.size := Nat.le_trans hbase (Nat.le_trans HN4.out.gr.size HAL2.out.size)
              have HBZ := Lib.hid hbz
              clear hc hcok hbz
              go_wp2_with fail
              refine (mention_any base wb eb sb _ v3 ex2 _ c _ HN5.out.at' HCO.out (by omega) HBZ.out).mono ?_
              rintro e w4 ⟨rfl, hres⟩
              obtain ⟨v4, hin4, hg4⟩ := HN5.out.step hres
              have HN6 := Lib.hid hin4
              have hzz := HAL2.out.size
              have HRF6 := Lib.hid (show RefsAt (fun k => W2.heap.size ≤ k ∧ k < w3.heap.size) w4 (.slice (some ⟨b2, o2, none⟩) it.chunks.length cc) it.chunks from RefsAt.same HRF4.out (fun k hk hS => ⟨hS, (hg4.block k (Nat.lt_of_lt_of_le hk hzz) (HN5.out.notown hS)).trans (HAL2.out.block k hk)⟩))
              have hbk := allocH HBX6.out (.cells #[.string c.name, .int .i64 c.gen, .int .i64 c.size] 43)
              have HBX7 := Lib.hid ((hg4.block wo.heap.size ((Array.getElem?_eq_some_iff.1 hbk).1) (HN5.out.at'.notown hbk (by decide) (by decide))).trans hbk)
              clear hres hin4 hg4 hbk p0 p1 p2
              go_wp2_with fail
              go_roundw
              case rel => exact ⟨j + 1, v4, by omega, by go_num, by rw [HSN.out]; exact HN6.out, HRF6.out, HBX7.out⟩
              case measure => simp [intOf]; omega
            · obtain rfl : j = it.chunks.length := by omega
              rw [List.take_of_length_le (Nat.le_refl _)] at HN4
              have c1 := cellH (k := 1) HBX6.out
              have c7 := cellH (k := 7) HBX6.out
              have c8 := cellH (k := 8) HBX6.out
              have c9 := cellH (k := 9) HBX6.out
              simp only [List.getElem?_toArray, List.getElem?_cons_succ, List.getElem?_cons_zero] at c1 c7 c8 c9
              rcases overW_cons HOV2.out with ⟨hk2, h2⟩ | ⟨hk2, y, st2, h1, h2⟩
              · have e2 : (it.kind != 2) = true := by simp [hk2]
                have H2 := Lib.hid h2
                clear hk2 h2
                go_wp2_with fail
                go_roundw
                case rel => exact ⟨k + 1, v3, _, _, by omega, by go_num, H2.out, HN4.out⟩
                case measure => simp [intOf]; omega
              · have e2 : (it.kind != 2) = false := by simp [hk2]
                have H1 := Lib.hid h1
                have H2 := Lib.hid h2
                have hle2 : st2.2.length ≤ st'.2.length := by
                  rcases h2 with ⟨_, h2⟩ | ⟨_, h2⟩
                  · obtain ⟨_, rfl⟩ := Prod.mk.inj h2
                    exact Nat.le_refl _
                  · exact overW_le (walkP_le visit n) _ _ x st' h2
                have HI4 := Lib.hid (HI.out w wr HIW.out (grows_mono HN4.out.gr (fun k hk => own_ge H.out HB.out hk)))
                have HBZ := Lib.hid (Nat.le_trans hbase HN4.out.gr.size)
                clear hk2 h1 h2
                go_wp2_with fail
                refine (HIH.out it.node (ex2, menAll it.chunks rs2) y st2 base wb eb sb v3 wr H1.out (by omega) HN4.out.at' HOK.out.nd HI4.out HB.out HBZ.out).mono ?_
                rintro e w4 ⟨rfl, hres⟩
                obtain ⟨v4, hin4, -⟩ := HN4.out.step hres
                have HN6 := Lib.hid hin4
                clear hres hin4 c1 c7 c8 c9
                rcases H2.out with ⟨hy, h2⟩ | ⟨hy, h2⟩
                · have e3 : (y != 0) = true := by simp [hy]
                  have HRES := Lib.hid h2
                  clear hy h2
                  go_wp2_with fail
                  go_ret
                  obtain ⟨e1, e2⟩ := Prod.mk.inj HRES.out
                  exact ⟨ret_int e1.symm, v4, by rw [e2]; exact HN6.out.at', HN6.out.gr, HN6.out.own⟩
                · subst hy
                  have H3 := Lib.hid h2
                  clear h2
                  go_wp2_with fail
                  go_roundw
                  case rel => exact ⟨k + 1, v4, st2.1, st2.2, by omega, by go_num, H3.out, HN6.out⟩
                  case measure => simp [intOf]; omega
        · obtain rfl : k = l.length := by omega
          have HRES := Lib.hid (show (x, st') = (0, (ex2, rs2)) by have := HV2.out; rw [List.drop_of_length_le (Nat.le_refl _)] at this; exact (Option.some.inj this).symm)
          go_wp2_with fail
          go_ret
          obtain ⟨e1, e2⟩ := Prod.mk.inj HRES.out
          exact ⟨ret_int e1.symm, v2, by rw [e2]; exact HN2.out.at', HN2.out.gr, HN2.out.own⟩
theorem walkQ_any (visit : Ref → Except Int (List Item)) (cv : Value) (I : World → Prop) (B : Nat) (hI : KeepI I B) (hV : VisC visit 42 cv I) : ∀ n, WalkC visit 42 cv I B n
  | 0 => by intro r st x st' base wb eb sb v w hw; simp [walkP] at hw
  | n + 1 => walkQ_step visit cv I B n hI hV (walkQ_any visit cv I B hI hV n)

end Go.Proofs.YtndgmcggckpgfaaGreatDoor

/- Contracts of package manifest: needs with present; Missing. -/
namespace Go.Proofs.YtndgmcggckpgfaaGreatDoor
open Go Go.RowKit Go.Maps

set_option maxRecDepth 100000 in
set_option maxHeartbeats 2000000 in
theorem needsP_any (visit : Ref → Except Int (List Item)) (cv : Value) (I : World → Prop) (n : Nat) (root : Ref) (res : Except Int (List Ref)) (w : World) (hI : KeepI I w.heap.size) (hV : VisC visit 42 cv I) (hi : I w) (hr : RefOk root)
    (hn : needP visit n root = some res) (hl : ∀ p, walkP visit n root ([], []) = some p → p.2.2.length < 1099511627775) :
    Calls Tryz.prog 41 #[refV root, .func (.func 42) #[cv] #[]] w (NeedRes res w) := by
  have HI := Lib.hid hI
  have HV := Lib.hid hV
  have HIW := Lib.hid hi
  have HR := Lib.hid hr
  have HL := Lib.hid hl
  have hmm := @run_makeMap Tryz.prog
  have HB0 := Lib.hid ((Below.refl w.heap.size w).alloc (Nat.le_refl _) (.cells #[.string root.name, .int .i64 root.gen, .int .i64 root.size] 43))
  have HBX0 := Lib.hid (heap_alloc_new w (.cells #[.string root.name, .int .i64 root.gen, .int .i64 root.size] 43))
  unfold refV
  clear hI hV hi hr hl
  cases hv : vRef root
  · have HRES := Lib.hid (show res = .error 1 by rw [needP, if_neg (by rw [hv]; simp)] at hn; exact (Option.some.inj hn).symm)
    have HVR := Lib.hid hv
    clear hv hn
    go_enter Tryz.func41, Tryz.ntmps41
    go_wp2_with fail
    refine (validRef_is root false _ HR.out HVR.out).mono ?_
    rintro e w1 ⟨rfl, hb1⟩
    have HB1 := Lib.hid (below_next HB0.out hb1)
    clear hb1
    go_wp2_with fail
    go_ret2
    exact ⟨HB1.out, by rw [HRES.out]; exact ⟨rfl, by decide⟩⟩
  · have HVR := Lib.hid hv
    obtain ⟨⟨x, st⟩, hwp, hres⟩ : ∃ p, walkP visit n root ([], []) = some p ∧ res = (if p.1 = 0 then .ok p.2.2 else .error p.1) := by
      rw [needP, if_pos hv, Option.map_eq_some_iff] at hn
      obtain ⟨p, h1, h2⟩ := hn
      exact ⟨p, h1, h2.symm⟩
    have HWP := Lib.hid hwp
    have HRES := Lib.hid hres
    have HLN := Lib.hid (HL.out _ hwp)
    clear hv hn hwp hres
    go_enter Tryz.func41, Tryz.ntmps41
    go_wp2_with fail
    refine (validRef_is root true _ HR.out HVR.out).mono ?_
    rintro e w1 ⟨rfl, hb1⟩
    have HB1 := Lib.hid (below_next HB0.out hb1)
    have hbx1 := (hb1.block w.heap.size (by simp)).trans HBX0.out
    have HBX1 := Lib.hid hbx1
    have hz1 := lt_of_block hbx1
    clear hb1 hbx1 HBX0
    obtain ⟨W, hW⟩ : ∃ W : World, W = ((w1.alloc (.map #[] 0)).alloc (.map #[] 0)).alloc (.cells #[.func (.func 42) #[cv] #[], .map (some w1.heap.size), .map (some (w1.heap.size + 1)), .slice none 0 0] 102) := ⟨_, rfl⟩
    have HK := Lib.hid (show WkAt W w.heap.size (w1.heap.size + 1 + 1) w1.heap.size (w1.heap.size + 1) (.func (.func 42) #[cv] #[]) (.slice none 0 0) [] [] by rw [hW]; exact wk_start)
    have hbw : Below w1.heap.size w1 W := by rw [hW]; exact (((Below.refl _ _).alloc (Nat.le_refl _) _).alloc (by simp) _).alloc (by simp; omega) _
    have HBW := Lib.hid (below_next HB1.out hbw)
    have HBX2 := Lib.hid ((hbw.block w.heap.size hz1).trans HBX1.out)
    have q0 := cellH (k := 0) HBX2.out
    have q1 := cellH (k := 1) HBX2.out
    have q2 := cellH (k := 2) HBX2.out
    have r0 := cellH (k := 0) HBX1.out
    have r1 := cellH (k := 1) HBX1.out
    have r2 := cellH (k := 2) HBX1.out
    simp only [List.getElem?_toArray, List.getElem?_cons_succ, List.getElem?_cons_zero] at q0 q1 q2 r0 r1 r2
    have HI2 := Lib.hid (HI.out w W HIW.out (Grows.of_below HBW.out))
    clear hbw
    go_upto_region 4 with (fail)
    rw [← hW]
    clear hW
    go_wp2_with fail
    refine (walkQ_any visit cv I w.heap.size HI.out HV.out n root ([], []) x st w.heap.size (w1.heap.size + 1 + 1) w1.heap.size (w1.heap.size + 1) (.slice none 0 0) W HWP.out HLN.out HK.out HR.out HI2.out ⟨Nat.le_refl _, by omega, by omega, by omega⟩ HBW.out.size).mono ?_
    rintro e w2 ⟨rfl, v2, hk2, hg2, ho2⟩
    have HK2 := Lib.hid hk2
    have HB2 := Lib.hid (show Below w.heap.size w w2 from HBW.out.trans (hg2.below HBW.out.size (fun k hk => own_ge HK.out ⟨Nat.le_refl _, by omega, by omega, by omega⟩ hk)))
    obtain ⟨a2, c2, rfl⟩ := hk2.shape
    have d3 := cellH (k := 3) hk2.box
    simp only [List.getElem?_toArray, List.getElem?_cons_succ, List.getElem?_cons_zero] at d3
    clear hk2 hg2 ho2 q0 q1 q2 r0 r1 r2
    by_cases hx : x = 0
    · subst hx
      have HRS := Lib.hid (show res = .ok st.2 by rw [HRES.out]; simp)
      go_wp2_with fail
      go_ret2
      exact ⟨HB2.out, by rw [HRS.out]; exact ⟨_, rfl, RefsAt.same (refs_owned HK2.out.row HK2.out.ok) (fun k _ hS => ⟨hS.1, rfl⟩)⟩⟩
    · have e1 : (x != 0) = true := by simp [hx]
      have HRS := Lib.hid (show res = .error x by rw [HRES.out]; simp [hx])
      have HX := Lib.hid hx
      clear hx
      go_wp2_with fail
      go_ret2
      exact ⟨HB2.out, by rw [HRS.out]; exact ⟨rfl, HX.out⟩⟩


theorem RefsI.pres {B : Nat} {cv : Value} {cs : List (ByteArray × List UInt8)} : VisC (presP cs) 42 cv (RefsI B cv cs) := fun W r hI hr => (present_any (· < B) cv cs r W hI.cont hr hI.env).mono fun _ _ h => h
/-- The references that are not among the contents. -/
def goneP (cs : List (ByteArray × List UInt8)) (rs : List Ref) : List Ref := rs.filter fun r => (findC cs r.name).isNone
def missE (cs : List (ByteArray × List UInt8)) (res : Except Int (List Ref)) : Except Int (List Ref) := match res with
  | .error x => .error x
  | .ok rs => .ok (goneP cs rs)

end Go.Proofs.YtndgmcggckpgfaaGreatDoor

/- Contracts of package liveness: the set of references. -/
namespace Go.Proofs.YtndgmcggckpgfaaGreatDoor
open Go.RowKit


/-- A set at block nb: its references in order. -/
structure StAt (w : World) (base nb mb : Nat) (v : Value) (l : List Ref) : Prop where
  box : w.heap[nb]? = some (.cells #[v, .map (some mb)] 72 (0, 0))
  idx : IdxAt w mb l
  row : w.ownsRow base 43 3 v l.length (l.flatMap refC)
def StOwn (nb mb : Nat) (v : Value) (k : Nat) : Prop := k = nb ∨ k = mb ∨ v.ownBlock = some k
section
variable {w w' : World} {base nb mb : Nat} {v : Value} {l : List Ref}
theorem IdxAt.cells {b : Nat} {l : List Ref} (h : IdxAt w b l) {cs : Array Value} {t : TypeId} {z : Nat × Nat} : w.heap[b]? ≠ some (.cells cs t z) := fun e => by
  obtain ⟨es, clock, hb, _⟩ := h.map
  rw [hb] at e; cases e
theorem StAt.wne (h : StAt w base nb mb v l) : nb ≠ mb := fun e => h.idx.cells (e ▸ h.box)
theorem StAt.own (h : StAt w base nb mb v l) {k : Nat} (hk : v.ownBlock = some k) : k ≠ nb ∧ k ≠ mb := by
  obtain ⟨cs, hc⟩ := owns_block h.row hk
  refine ⟨fun e => ?_, fun e => ?_⟩
  · subst e
    have := hc.symm.trans h.box
    simp at this
  · subst e; exact h.idx.cells hc
theorem StAt.keep (h : StAt w base nb mb v l) (hs : ∀ k, k < w.heap.size → StOwn nb mb v k → w'.heap[k]? = w.heap[k]?) : StAt w' base nb mb v l := by
  refine ⟨(hs nb (lt_of_block h.box) (.inl rfl)).trans h.box, h.idx.same (hs mb h.idx.map.lt (.inr (.inl rfl))), ?_⟩
  obtain ⟨hl, h2⟩ := h.row
  refine ⟨hl, ?_⟩
  rcases h2 with h2 | ⟨g, cap, cur, rfl, hg, hh, h3⟩
  · exact .inl h2
  · exact .inr ⟨g, cap, cur, rfl, hg, (hs g (lt_of_block hh) (.inr (.inr rfl))).trans hh, h3⟩
theorem StAt.below (h : StAt w base nb mb v l) (hb : Below w.heap.size w w') : StAt w' base nb mb v l := h.keep (fun k hk _ => hb.block k hk)
theorem StAt.ok (h : StAt w base nb mb v l) : ∀ r ∈ l, RefOk r := h.idx.ok
theorem StAt.nodup (h : StAt w base nb mb v l) : l.Nodup := h.idx.nodup
theorem StAt.shape (h : StAt w base nb mb v l) : ∃ a cap, v = .slice a l.length cap := by
  obtain ⟨a, cap, h1, _⟩ := owns_shape h.row
  exact ⟨a, cap, h1⟩
theorem StAt.refs (h : StAt w base nb mb v l) : RefsAt (fun k => base ≤ k ∧ v.ownBlock = some k) w v l := refs_owned h.row h.ok
end
def StRes (base nb mb : Nat) (v : Value) (l : List Ref) (w w' : World) : Prop :=
  ∃ v', StAt w' base nb mb v' l ∧ Grows (StOwn nb mb v) w w' ∧ ∀ k, v'.ownBlock = some k → v.ownBlock = some k ∨ w.heap.size ≤ k
theorem newSet_any (w : World) (B : Nat) : Calls Tryz.prog 27 #[] w fun e w' => e = .returned (.pointer (some ⟨w.heap.size + 1, 0, none⟩)) ∧ StAt w' B (w.heap.size + 1) w.heap.size (.slice none 0 0) [] ∧ Below w.heap.size w w' ∧ w.heap.size + 2 ≤ w'.heap.size := by
  have hmm := @run_makeMap Tryz.prog
  go_enter Tryz.func27, Tryz.ntmps27
  go_wp2_with fail
  go_ret
  have e1 : (w.alloc (.map #[] 0)).heap.size = w.heap.size + 1 := by simp
  have h3 := heap_alloc_new (w.alloc (.map #[] 0)) (.cells #[.slice none 0 0, .map (some w.heap.size)] 72)
  rw [e1] at h3
  exact ⟨rfl, ⟨h3, (IdxAt.made w).same (Below.heap_alloc _ _ _ (by rw [e1]; omega)), World.ownsRow_nil _ _ _ _⟩, ((Below.refl _ _).alloc (Nat.le_refl _) _).alloc (by simp) _, by simp⟩
theorem idxOf_mention {r : Ref} {l : List Ref} (h : r ∉ l) : (l ++ [r]).idxOf r = l.length := by
  rw [List.idxOf_append, if_neg h]; simp
set_option maxRecDepth 100000 in
set_option maxHeartbeats 2000000 in
theorem add_any (base nb mb : Nat) (v : Value) (l : List Ref) (r : Ref) (w : World) (h : StAt w base nb mb v l) (hr : RefOk r) (hl : l.length < 1099511627775) (hbase : base ≤ w.heap.size) :
    Calls Tryz.prog 28 #[.pointer (some ⟨nb, 0, none⟩), refV r] w fun e w' => e = .returned (.int .i64 ((mentionP r l).idxOf r : Int)) ∧ StRes base nb mb v (mentionP r l) w w' := by
  obtain ⟨av, cv, rfl⟩ := h.shape
  obtain ⟨W, hW⟩ : ∃ W : World, W = (w.alloc (.cells #[.string r.name, .int .i64 r.gen, .int .i64 r.size] 43)).drew := ⟨_, rfl⟩
  have hbW : Below w.heap.size w W := by rw [hW]; exact ((Below.refl _ _).alloc (Nat.le_refl _) _).drew
  have HBW := Lib.hid hbW
  have HK := Lib.hid (h.below hbW)
  have bx : W.heap[w.heap.size]? = some (.cells #[.string r.name, .int .i64 r.gen, .int .i64 r.size] 43 (0, 0)) := by rw [hW]; exact heap_alloc_new w _
  have HBX := Lib.hid bx
  have HR := Lib.hid hr
  have HW := Lib.hid hW
  have q0 := cellH (k := 0) bx
  have q1 := cellH (k := 1) bx
  have q2 := cellH (k := 2) bx
  have c1 := cellH (k := 1) HK.out.box
  have c0 := cellH (k := 0) HK.out.box
  simp only [List.getElem?_toArray, List.getElem?_cons_succ, List.getElem?_cons_zero] at q0 q1 q2 c1 c0
  have hwb : nb < w.heap.size := lt_of_block h.box
  have H0 := Lib.hid h
  unfold refV
  clear h hr bx hbW
  by_cases hm : r ∈ l
  · have hlk := HK.out.idx.hit HR.out hm
    unfold refV at hlk
    have HM := Lib.hid (show mentionP r l = l by unfold mentionP; rw [if_pos hm])
    clear hm
    go_enter Tryz.func28, Tryz.ntmps28
    go_wp2_with fail
    refine wp_region_segs [some 11] (by kernel_rfl) (by kernel_rfl) (by kernel_rfl) ?_
    simp only [wpSegs, List.take_succ_cons, List.take_zero]
    rw [← HW.out]
    clear hW
    repeat (first | (refine seg_skip rfl ?_; simp only [Act.put, List.setIfInBounds_toArray, List.set_cons_succ, List.set_cons_zero]) | (refine seg_run rfl (fun K hK => ?_); go_simp; refine hK _ ?_; clear hK K))
    refine seg_nil ?_
    go_wp2_with fail
    go_ret
    exact ⟨ret_int (by rw [HM.out]), .slice av l.length cv, by rw [HM.out]; exact HK.out, Grows.of_below HBW.out, fun k hk => .inl hk⟩
  · have hlk := HK.out.idx.miss HR.out hm
    unfold refV at hlk
    have HM := Lib.hid (show mentionP r l = l ++ [r] by unfold mentionP; rw [if_neg hm])
    have HNM := Lib.hid hm
    clear hm
    go_enter Tryz.func28, Tryz.ntmps28
    go_wp2_with fail
    refine wp_region_segs [some 11] (by kernel_rfl) (by kernel_rfl) (by kernel_rfl) ?_
    simp only [wpSegs, List.take_succ_cons, List.take_zero]
    rw [← HW.out]
    clear hW
    repeat (first | (refine seg_skip rfl ?_; simp only [Act.put, List.setIfInBounds_toArray, List.set_cons_succ, List.set_cons_zero]) | (refine seg_run rfl (fun K hK => ?_); go_simp; refine hK _ ?_; clear hK K))
    refine seg_nil ?_
    go_wp2_with fail
    refine wp_region_segs [some 6, none] (by kernel_rfl) (by kernel_rfl) (by kernel_rfl) ?_
    simp only [wpSegs, List.take_succ_cons, List.take_zero, List.drop_succ_cons, List.drop_zero]
    have HK1 := Lib.hid (HK.out.below ((Below.refl _ W).drew))
    repeat (first | (refine seg_skip rfl ?_; simp only [Act.put, List.setIfInBounds_toArray, List.set_cons_succ, List.set_cons_zero]) | (refine seg_run rfl (fun K hK => ?_); go_simp; refine hK _ ?_; clear hK K))
    refine seg_nil ?_
    refine bar_run rfl (fun K hK => ?_)
    go_wp2_with (at_mapUpdate; go_must (refine wpList_idxadd rfl _ _ _ rfl mb l HK1.out.idx rfl r HR.out rfl rfl HNM.out ?_); intro w2 hset hg2)
    have hsb : mb < w.heap.size := H0.out.idx.map.lt
    have hbs := HBW.out.size
    obtain ⟨W3, hW3⟩ : ∃ W3 : World, W3 = w2.drew := ⟨_, rfl⟩
    have hg3 : W.grownBy W3 (some mb) := by rw [hW3]; exact grown_trans (b := W.drew) ⟨rfl, rfl, rfl, Nat.le_refl _, fun _ _ _ => rfl⟩ (grown_trans hg2 ⟨rfl, rfl, rfl, Nat.le_refl _, fun _ _ _ => rfl⟩)
    have hz3 := hg3.size
    have HSET := Lib.hid (show IdxAt W3 mb (l ++ [r]) by rw [hW3]; exact hset.same rfl)
    have HROW := Lib.hid (HK.out.row.kept hg3 (.inr (fun e => (HK.out.own e).2 rfl)))
    have HWB := Lib.hid (keepH hg3 HK.out.box HK.out.wne)
    have HRB := Lib.hid (keepH hg3 HBX.out (by omega))
    have HG3 := Lib.hid hg3
    have c3 := cellH (k := 0) HWB.out
    have f3 := frozenH (k := 0) HWB.out
    have r0 := cellH (k := 0) HRB.out
    have r1 := cellH (k := 1) HRB.out
    have r2 := cellH (k := 2) HRB.out
    simp only [List.getElem?_toArray, List.getElem?_cons_succ, List.getElem?_cons_zero] at c3 r0 r1 r2
    clear q0 q1 q2 c1 c0 hlk hset hg2 hg3
    refine hld_begin (fun w' => w'.cell? ⟨nb, 0, none⟩ = some (.slice av l.length cv) ∧ w'.cell? ⟨w.heap.size, 0, none⟩ = some (.string r.name) ∧ w'.cell? ⟨w.heap.size, 1, none⟩ = some (.int .i64 r.gen) ∧ w'.cell? ⟨w.heap.size, 2, none⟩ = some (.int .i64 r.size)) (by kernel_rfl) (by kernel_rfl) ?_
    simp only [List.dropLast_cons_cons, List.dropLast_singleton, List.length_cons, List.length_nil, Nat.reduceAdd, Nat.reduceSub]
    rw [← hW3]
    clear hW3
    refine hld_take 0 rfl (by kernel_rfl) (by kernel_rfl) (by kernel_rfl) (fun _ _ _ h => h) rfl (by go_simp) (by rintro w' ⟨hw1, hw2, hw3, hw4⟩; go_simp; rfl) ?_
    simp only [Act.put, List.setIfInBounds_toArray, List.set_cons_succ, List.set_cons_zero]
    refine hld_take 1 rfl (by kernel_rfl) (by kernel_rfl) (by kernel_rfl) (fun _ _ _ h => h) rfl (by go_simp) (by rintro w' ⟨hw1, hw2, hw3, hw4⟩; go_simp; rfl) ?_
    simp only [Act.put, List.setIfInBounds_toArray, List.set_cons_succ, List.set_cons_zero]
    refine hld_take 2 rfl (by kernel_rfl) (by kernel_rfl) (by kernel_rfl) (fun _ _ _ h => h) rfl (by go_simp) (by rintro w' ⟨hw1, hw2, hw3, hw4⟩; go_simp; rfl) ?_
    simp only [Act.put, List.setIfInBounds_toArray, List.set_cons_succ, List.set_cons_zero]
    refine hld_take 3 rfl (by kernel_rfl) (by kernel_rfl) (by kernel_rfl) (fun _ _ _ h => h) rfl (by go_simp) (by rintro w' ⟨hw1, hw2, hw3, hw4⟩; go_simp; rfl) ?_
    simp only [Act.put, List.setIfInBounds_toArray, List.set_cons_succ, List.set_cons_zero]
    refine hld_take 4 rfl (by kernel_rfl) (by kernel_rfl) (by kernel_rfl) (fun _ _ _ h => h) rfl (by go_simp) (by rintro w' ⟨hw1, hw2, hw3, hw4⟩; go_simp; rfl) ?_
    simp only [Act.put, List.setIfInBounds_toArray, List.set_cons_succ, List.set_cons_zero]
    refine hld_take 5 rfl (by kernel_rfl) (by kernel_rfl) (by kernel_rfl) (fun _ _ _ h => h) rfl (by go_simp) (by rintro w' ⟨hw1, hw2, hw3, hw4⟩; go_simp; rfl) ?_
    simp only [Act.put, List.setIfInBounds_toArray, List.set_cons_succ, List.set_cons_zero]
    have hltw : nb < W3.heap.size := lt_of_block HWB.out
    have hltr : w.heap.size < W3.heap.size := lt_of_block HRB.out
    have HAL := Lib.hid ((Below.refl W3.heap.size W3).alloc (Nat.le_refl _) (.cells #[.string r.name, .int .i64 r.gen, .int .i64 r.size] 43))
    have hS2 := And.intro ((HAL.out.cell (p := ⟨nb, 0, none⟩) hltw).trans c3) (And.intro ((HAL.out.cell (p := ⟨w.heap.size, 0, none⟩) hltr).trans r0) (And.intro ((HAL.out.cell (p := ⟨w.heap.size, 1, none⟩) hltr).trans r1) ((HAL.out.cell (p := ⟨w.heap.size, 2, none⟩) hltr).trans r2)))
    have HS2 := Lib.hid hS2
    clear hS2
    refine hld_bar 6 rfl (by kernel_rfl) rfl (fun K hK => ?_)
    go_wp2_with fail
    (first | (refine ⟨HS2.out, ?_⟩) | skip)
    refine hld_bar 7 rfl (by kernel_rfl) rfl (fun K hK => ?_)
    go_wp2_with (at_builtin; go_must (refine wpList_app1p Tryz.appRefs rfl _ _ rfl base (.slice av l.length cv) l.length (l.flatMap refC) rfl W3 [.string r.name, .int .i64 r.gen, .int .i64 r.size] _ rfl rfl (refC_one (r := r)) HROW.out (by omega) (by omega) ?_); intro v' wc hown' hgrow' _ hpl; obtain ⟨ae, ce, rfl, -, -⟩ := owns_shape hown')
    have hne : ∀ k, (Value.slice av l.length cv).ownBlock = some k → k ≠ nb ∧ k ≠ mb := fun k hk => H0.out.own hk
    have hner : (Value.slice av l.length cv).ownBlock ≠ some w.heap.size := fun e => by have := (H0.out.row.lt _ e).2; omega
    have HWB2 := Lib.hid ((hgrow'.block nb hltw (fun e => (hne nb e.symm).1 rfl)).trans HWB.out)
    have HRB2 := Lib.hid ((hgrow'.block w.heap.size hltr (fun e => hner e.symm)).trans HRB.out)
    have HSET2 := Lib.hid (HSET.out.same (hgrow'.block mb HSET.out.map.lt (fun e => (hne mb e.symm).2 rfl)))
    have HGR := Lib.hid hgrow'
    have HPL := Lib.hid hpl
    have HOW := Lib.hid (show wc.ownsRow base 43 3 (.slice ae (l.length + 1) ce) (l ++ [r]).length ((l ++ [r]).flatMap refC) by rw [List.length_append, List.flatMap_append]; simpa [refC] using hown')
    have c4 := cellH (k := 0) HWB2.out
    have f4 := frozenH (k := 0) HWB2.out
    have s0 := cellH (k := 0) HRB2.out
    have s1 := cellH (k := 1) HRB2.out
    have s2 := cellH (k := 2) HRB2.out
    simp only [List.getElem?_toArray, List.getElem?_cons_succ, List.getElem?_cons_zero] at c4 s0 s1 s2
    clear hown' hgrow' hpl c3 f3 r0 r1 r2 hne hner
    refine ⟨⟨c4, s0, s1, s2⟩, ?_⟩
    refine hld_take 8 rfl (by kernel_rfl) (by kernel_rfl) (by kernel_rfl) (fun _ _ _ h => h) rfl (by go_simp) (by rintro w' ⟨hw1, hw2, hw3, hw4⟩; go_simp; rfl) ?_
    simp only [Act.put, List.setIfInBounds_toArray, List.set_cons_succ, List.set_cons_zero]
    refine hld_take 9 rfl (by kernel_rfl) (by kernel_rfl) (by kernel_rfl) (fun _ _ _ h => h) rfl (by go_simp) (by rintro w' ⟨hw1, hw2, hw3, hw4⟩; go_simp; rfl) ?_
    simp only [Act.put, List.setIfInBounds_toArray, List.set_cons_succ, List.set_cons_zero]
    refine hld_done (by kernel_rfl) ?_
    refine last_run rfl rfl (fun K hK => ?_)
    go_wp2_with fail
    go_ret
    refine ⟨ret_int (by rw [HM.out, idxOf_mention HNM.out]), .slice ae (l.length + 1) ce, ?_, ?_, ?_⟩
    · rw [HM.out]
      have hws := H0.out.wne
      have hx := setH (k := 0) HWB2.out (.slice ae (l.length + 1) ce)
      simp only [List.setIfInBounds_toArray, List.set_cons_zero] at hx
      refine ⟨hx, HSET2.out.same (Below.heap_setCell _ _ _ _ (Ne.symm hws)), HOW.out.kept (grown_set _ _ _ _) (.inr (fun e => ?_))⟩
      rcases HPL.out nb e with h1 | h1
      · exact (H0.out.own h1).1 rfl
      · omega
    · refine Grows.trans (Grows.of_below HBW.out) (Grows.trans (S := StOwn nb mb (.slice av l.length cv)) (Grows.of_grown HG3.out (fun k hk => by cases hk; exact .inr (.inl rfl))) (Grows.trans (S := StOwn nb mb (.slice av l.length cv)) (Grows.of_grown HGR.out (fun k hk => .inr (.inr hk))) (Grows.of_grown (S := StOwn nb mb (.slice av l.length cv)) (grown_set wc nb 0 _) (fun k hk => by cases hk; exact .inl rfl)) (fun i _ h => h)) (fun i _ h => h)) (fun i _ h => h)
    · intro k hk
      rcases HPL.out k hk with h1 | h1
      · exact .inl h1
      · exact .inr (by omega)
set_option maxRecDepth 100000 in
set_option maxHeartbeats 1000000 in
theorem has_any (base nb mb : Nat) (v : Value) (l : List Ref) (r : Ref) (w : World) (h : StAt w base nb mb v l) (hr : RefOk r) :
    Calls Tryz.prog 38 #[.pointer (some ⟨nb, 0, none⟩), refV r] w fun e w' => e = .returned (.bool (decide (r ∈ l))) ∧ Below w.heap.size w w' := by
  obtain ⟨W, hW⟩ : ∃ W : World, W = (w.alloc (.cells #[.string r.name, .int .i64 r.gen, .int .i64 r.size] 43)).drew := ⟨_, rfl⟩
  have hbW : Below w.heap.size w W := by rw [hW]; exact ((Below.refl _ _).alloc (Nat.le_refl _) _).drew
  have HBW := Lib.hid hbW
  have HK := Lib.hid (h.below hbW)
  have bx : W.heap[w.heap.size]? = some (.cells #[.string r.name, .int .i64 r.gen, .int .i64 r.size] 43 (0, 0)) := by rw [hW]; exact heap_alloc_new w _
  have HR := Lib.hid hr
  have HW := Lib.hid hW
  have q0 := cellH (k := 0) bx
  have q1 := cellH (k := 1) bx
  have q2 := cellH (k := 2) bx
  have c1 := cellH (k := 1) HK.out.box
  simp only [List.getElem?_toArray, List.getElem?_cons_succ, List.getElem?_cons_zero] at q0 q1 q2 c1
  unfold refV
  clear h hr bx hbW
  by_cases hm : r ∈ l
  · have hlk := HK.out.idx.hit HR.out hm
    unfold refV at hlk
    have HM := Lib.hid (show decide (r ∈ l) = true by simp [hm])
    clear hm
    go_enter Tryz.func38, Tryz.ntmps38
    go_wp2_with fail
    refine wp_region_segs [some 11] (by kernel_rfl) (by kernel_rfl) (by kernel_rfl) ?_
    simp only [wpSegs, List.take_succ_cons, List.take_zero]
    rw [← HW.out]
    clear hW
    repeat (first | (refine seg_skip rfl ?_; simp only [Act.put, List.setIfInBounds_toArray, List.set_cons_succ, List.set_cons_zero]) | (refine seg_run rfl (fun K hK => ?_); go_simp; refine hK _ ?_; clear hK K))
    refine seg_nil ?_
    go_wp2_with fail
    go_ret
    exact ⟨ret_bool (by rw [HM.out]), HBW.out⟩
  · have hlk := HK.out.idx.miss HR.out hm
    unfold refV at hlk
    have HM := Lib.hid (show decide (r ∈ l) = false by simp [hm])
    clear hm
    go_enter Tryz.func38, Tryz.ntmps38
    go_wp2_with fail
    refine wp_region_segs [some 11] (by kernel_rfl) (by kernel_rfl) (by kernel_rfl) ?_
    simp only [wpSegs, List.take_succ_cons, List.take_zero]
    rw [← HW.out]
    clear hW
    repeat (first | (refine seg_skip rfl ?_; simp only [Act.put, List.setIfInBounds_toArray, List.set_cons_succ, List.set_cons_zero]) | (refine seg_run rfl (fun K hK => ?_); go_simp; refine hK _ ?_; clear hK K))
    refine seg_nil ?_
    go_wp2_with fail
    go_ret
    exact ⟨ret_bool (by rw [HM.out]), HBW.out⟩

end Go.Proofs.YtndgmcggckpgfaaGreatDoor

/- Contracts of package liveness: without, each, needed. -/
namespace Go.Proofs.YtndgmcggckpgfaaGreatDoor
open Go.RowKit

def lessP (rs l : List Ref) : List Ref := rs.filter fun r => !decide (r ∈ l)
theorem lessP_snoc (rs l : List Ref) (r : Ref) : lessP (rs ++ [r]) l = if r ∈ l then lessP rs l else lessP rs l ++ [r] := by
  unfold lessP
  rw [List.filter_append]
  by_cases h : r ∈ l <;> simp [h]
theorem lessP_le (rs l : List Ref) : (lessP rs l).length ≤ rs.length := List.length_filter_le _ _
theorem has_is (base nb mb : Nat) (v : Value) (l : List Ref) (r : Ref) (b : Bool) (w : World) (h : StAt w base nb mb v l) (hr : RefOk r) (hb : decide (r ∈ l) = b) :
    Calls Tryz.prog 38 #[.pointer (some ⟨nb, 0, none⟩), refV r] w fun e w' => e = .returned (.bool b) ∧ Below w.heap.size w w' := by
  rw [← hb]; exact has_any base nb mb v l r w h hr
/-- append(s, x) of one element, which lies in the newest block: the bound in bytes. -/
theorem wpList_app1B {P : Program} {ops : Array Oper} {rest : List Oper} {o : Oper} {a : Act} {Q : Exit → Act → World → Prop} {t e : TypeId} {sz bytes : Nat} (T : AppTy P t e sz bytes) (hgd : o.guard = none) (s x : Operand)
    (ho : o.op = .call { callee := .builtin .append, args := #[s, x], argTypes := #[t, t] }) (base : Nat) (v : Value) (n : Nat) (xs : List Value) (hs : a.eval s = v) (w0 : World) (news : List Value) (e2 : TypeId)
    (hx : a.eval x = .slice (some ⟨w0.heap.size, 0, none⟩) 1 1) (hl : news.length = sz) (h1 : ∀ u ∈ news, u.oneCell' = true) (hown : w0.ownsRow base e sz v n xs) (h63 : n + 1 ≤ maxLen) (hby : (n + 1) * bytes ≤ 140737488355328) (hbase : base ≤ w0.heap.size)
    (h : ∀ v' w', w'.ownsRow base e sz v' (n + 1) (xs ++ news) → w0.grownBy w' v.ownBlock → v' ≠ .slice none 0 0 → wpList P ops Q rest (a.put o.dst v') w') : wpList P ops Q (o :: rest) a (w0.alloc (.cells news.toArray e2)) := by
  obtain ⟨ht, ⟨i, z, h11, h12, h13, h14, h15⟩, hpos, hsm⟩ := T
  have hnews : ∀ (j : Nat) u, news[j]? = some u → (w0.alloc (.cells news.toArray e2)).cell? ((⟨w0.heap.size, 0, none⟩ : Addr).add j) = some u := by
    intro j u hj
    rw [add_lit, Nat.zero_add]
    have hh := heap_alloc_new w0 (.cells news.toArray e2)
    simp only [World.cell?, hh]
    simp [hj]
  have hl1 : news.length = 1 * sz := by rw [hl, Nat.one_mul]
  obtain ⟨v', w', hr, h2, hg, hv⟩ := run_append_own (P := P) (w0.alloc (.cells news.toArray e2)) base t o.type e i z sz bytes ht h11 h12 h13 h14 h15 hpos v n xs (hown.alloc _) ⟨w0.heap.size, 0, none⟩ 1 1 news hl1 hnews h1 h63 hby (by simp; omega)
  refine wpList_plain hgd fun K hK => ?_
  unfold Oper.wp execOp
  simp only [ho, resolve, invoke, builtin, Sem.run_bind, Sem.run_pure, Result.andThen_ok, List.map_toArray, List.map_cons, List.map_nil, hs, hx, hr]
  refine hK _ _ (h v' w' h2 ⟨hg.os, hg.tape, hg.output, by have := hg.size; simp at this; omega, fun k hk hne => ?_⟩ (fun e => by have := (hv.1 e).2; omega))
  rw [hg.block k (by simp; omega) hne]
  exact Below.heap_alloc _ _ _ hk
def RefsRes (rs : List Ref) (w : World) (e : Ending) (w' : World) : Prop := ∃ v, e = .returned v ∧ RefsAt (w.heap.size ≤ ·) w' v rs ∧ Below w.heap.size w w'
set_option maxRecDepth 100000 in
set_option maxHeartbeats 2000000 in
theorem without_big (base nb mb : Nat) (v : Value) (l : List Ref) (S : Nat → Prop) (lv : Value) (rs : List Ref) (w : World) (h : StAt w base nb mb v l) (hv : RefsAt S w lv rs) (hlen : rs.length < 4398046511104) :
    Calls Tryz.prog 29 #[.pointer (some ⟨nb, 0, none⟩), lv] w (RefsRes (lessP rs l) w) := by
  obtain ⟨a, cap, rfl, hc, hm, -⟩ := SeqAt.shape hv RefR.len
  unfold maxLen at hm
  have HV := Lib.hid hv
  have H := Lib.hid h
  clear hv h
  go_enter Tryz.func29, Tryz.ntmps29
  go_wp2_with fail
  go_loopw [4, 9] (fun o i wr => ∃ k : Nat, k ≤ rs.length ∧ i = .int .i64 k ∧ wr.ownsRow w.heap.size 43 3 o (lessP (rs.take k) l).length ((lessP (rs.take k) l).flatMap refC) ∧ Below w.heap.size w wr ∧ ∀ r ∈ lessP (rs.take k) l, RefOk r) (fun _ i _ => rs.length - (intOf i).toNat)
  case atStart => exact ⟨0, Nat.zero_le _, rfl, World.ownsRow_nil _ _ _ _, Below.refl _ _, by simp [lessP]⟩
  case round =>
    obtain ⟨k, hk, rfl, hown, hb, hok⟩ := hrel
    have HO := Lib.hid hown
    have HB := Lib.hid hb
    have HOK := Lib.hid hok
    obtain ⟨ao, co, rfl, hn2, hm2⟩ := owns_shape hown
    have hlk := lessP_le (rs.take k) l
    rw [List.length_take] at hlk
    clear hown hb hok
    by_cases hlt : k < rs.length
    · obtain ⟨r, hr⟩ : ∃ r, rs[k]? = some r := ⟨rs[k], by simp [hlt]⟩
      obtain ⟨b, o, rfl, hrok, q0, q1, q2⟩ := refs_at HV.out HB.out hr
      have HRO := Lib.hid hrok
      have HSN := Lib.hid (show lessP (rs.take (k + 1)) l = if r ∈ l then lessP (rs.take k) l else lessP (rs.take k) l ++ [r] by rw [take_snoc' hr, lessP_snoc])
      have HAL := Lib.hid (HB.out.alloc HB.out.size (.cells #[.string r.name, .int .i64 r.gen, .int .i64 r.size] 43))
      have HST := Lib.hid (H.out.below HAL.out)
      have HBX := Lib.hid (heap_alloc_new wr (.cells #[.string r.name, .int .i64 r.gen, .int .i64 r.size] 43))
      clear hr hrok
      by_cases hm3 : r ∈ l
      · have HM := Lib.hid (show decide (r ∈ l) = true by simp [hm3])
        have HSN2 := Lib.hid (HSN.out.trans (if_pos hm3))
        clear hm3
        go_wp2_with fail
        refine (has_is base nb mb v l r true _ HST.out HRO.out HM.out).mono ?_
        rintro e w1 ⟨rfl, hb1⟩
        have HB1 := Lib.hid (below_next HAL.out hb1)
        have HO1 := Lib.hid (owns_below (HO.out.alloc (.cells #[.string r.name, .int .i64 r.gen, .int .i64 r.size] 43)) hb1)
        clear hb1
        go_wp2_with fail
        go_roundw
        case rel => exact ⟨k + 1, by omega, by go_num, by rw [HSN2.out]; exact HO1.out, HB1.out, by rw [HSN2.out]; exact HOK.out⟩
        case measure => simp [intOf]; omega
      · have HM := Lib.hid (show decide (r ∈ l) = false by simp [hm3])
        have HSN2 := Lib.hid (HSN.out.trans (if_neg hm3))
        clear hm3
        go_wp2_with fail
        refine (has_is base nb mb v l r false _ HST.out HRO.out HM.out).mono ?_
        rintro e w1 ⟨rfl, hb1⟩
        have HB1 := Lib.hid (below_next HAL.out hb1)
        have HO1 := Lib.hid (owns_below (HO.out.alloc (.cells #[.string r.name, .int .i64 r.gen, .int .i64 r.size] 43)) hb1)
        have HBX1 := Lib.hid ((hb1.block wr.heap.size (by simp)).trans HBX.out)
        have p0 := cellH (k := 0) HBX1.out
        have p1 := cellH (k := 1) HBX1.out
        have p2 := cellH (k := 2) HBX1.out
        simp only [List.getElem?_toArray, List.getElem?_cons_succ, List.getElem?_cons_zero] at p0 p1 p2
        have hz1 := HB1.out.size
        clear hb1
        go_wp2_with (at_builtin; go_must (refine wpList_app1B Tryz.appRefs rfl _ _ rfl w.heap.size (.slice ao (lessP (rs.take k) l).length co) (lessP (rs.take k) l).length ((lessP (rs.take k) l).flatMap refC) rfl w1 [.string r.name, .int .i64 r.gen, .int .i64 r.size] _ rfl rfl (refC_one (r := r)) HO1.out (by unfold maxLen; omega) (by omega) hz1 ?_); intro v' wc hown' hgrow' _; have HB2 := Lib.hid (below_grown HB1.out HO1.out hgrow' (Nat.le_refl _) hz1); have HO2 := Lib.hid (show wc.ownsRow w.heap.size 43 3 v' (lessP (rs.take (k + 1)) l).length ((lessP (rs.take (k + 1)) l).flatMap refC) by rw [HSN2.out, List.length_append, List.flatMap_append]; simpa [refC] using hown'); obtain ⟨ae, ce, rfl, -, -⟩ := owns_shape hown'; clear hown' hgrow')
        go_roundw
        case rel =>
          refine ⟨k + 1, by omega, by go_num, HO2.out, HB2.out, ?_⟩
          rw [HSN2.out]
          intro x hx
          rcases List.mem_append.1 hx with hx | hx
          · exact HOK.out x hx
          · simp only [List.mem_singleton] at hx; subst hx; exact HRO.out
        case measure => simp [intOf]; omega
    · obtain rfl : k = rs.length := by omega
      have HTK := Lib.hid (show lessP (rs.take rs.length) l = lessP rs l by rw [List.take_of_length_le (Nat.le_refl _)])
      go_wp2_with fail
      go_ret
      rw [← HTK.out]
      exact ⟨_, rfl, RefsAt.same (refs_owned HO.out HOK.out) (fun k _ hS => ⟨hS.1, rfl⟩), HB.out⟩
theorem without_any (base nb mb : Nat) (v : Value) (l : List Ref) (S : Nat → Prop) (lv : Value) (rs : List Ref) (w : World) (h : StAt w base nb mb v l) (hv : RefsAt S w lv rs) (hlen : rs.length < 1099511627775) :
    Calls Tryz.prog 29 #[.pointer (some ⟨nb, 0, none⟩), lv] w (RefsRes (lessP rs l) w) := without_big base nb mb v l S lv rs w h hv (by omega)
/-- Snapshots: their roots. -/
def SnapR (c : List Value) (r : Ref) : Prop := ∃ (a b d f g : Int) (p : ByteArray) (h : Bool), c = [.int .i64 a, .int .i64 b, .int .i64 d, .string r.name, .int .i64 r.gen, .int .i64 r.size, .int .i64 f, .int .i64 g, .string p, .bool h] ∧ RefOk r
theorem SnapR.len (c : List Value) (r : Ref) (h : SnapR c r) : c.length = 10 := by obtain ⟨a, b, d, f, g, p, h, rfl, _⟩ := h; rfl
def SnapsAt (S : Nat → Prop) (w : World) (v : Value) (rs : List Ref) : Prop := SeqAt S w 10 SnapR v rs
theorem snaps_at {S : Nat → Prop} {w w' : World} {a : Option Addr} {n cap : Nat} {rs : List Ref} (hv : SnapsAt S w (.slice a n cap) rs) (hb : Below w.heap.size w w') {k : Nat} {r : Ref} (hr : rs[k]? = some r) :
    ∃ bl o a1 a2 a3 a4 a5 p h, a = some ⟨bl, o, none⟩ ∧ RefOk r ∧ ∀ j, j < 10 → w'.cell? ⟨bl, o + k * 10 + j, none⟩ = ([.int .i64 a1, .int .i64 a2, .int .i64 a3, .string r.name, .int .i64 r.gen, .int .i64 r.size, .int .i64 a4, .int .i64 a5, .string p, .bool h] : List Value)[j]? := by
  obtain ⟨a', cap', hv', _, _, hx⟩ := SeqAt.shape hv SnapR.len
  cases hv'
  obtain ⟨b, o, c, rfl, hS, ⟨a1, a2, a3, a4, a5, p, h, rfl, hok⟩, _, hcl⟩ := hx k r hr
  have q0 := hcl 0 (by omega)
  have hlt : b < w.heap.size := block_lt (a := ⟨b, o + (k * 10 + 0), none⟩) (v := .int .i64 a1) q0
  refine ⟨b, o, a1, a2, a3, a4, a5, p, h, rfl, hok, fun j hj => ?_⟩
  rw [Nat.add_assoc]
  exact (hb.cell (p := ⟨b, o + (k * 10 + j), none⟩) hlt).trans (hcl j hj)
/-- What a root needs, as a function. -/
def NeedOk (cs : List (ByteArray × List UInt8)) (need : Ref → Except Int (List Ref)) : Prop := ∀ r, RefOk r → ∃ n, needP (nodeP cs) n r = some (need r) ∧ ∀ p, walkP (nodeP cs) n r ([], []) = some p → p.2.2.length ≤ 1000000000
theorem NeedOk.refs {cs : List (ByteArray × List UInt8)} {need : Ref → Except Int (List Ref)} (hn : NeedOk cs need) (S : Nat → Prop) (cv : Value) (root : Ref) (w : World) (hc : ContAt S w cv cs) (henv : Env w) (hr : RefOk root) : Calls Tryz.prog 37 #[refV root, cv] w (NeedRes (need root) w) := by
  obtain ⟨n, h1, h2⟩ := hn root hr
  exact refs_any S cv cs n root (need root) w hc henv hr h1 (fun p hp => by have := h2 p hp; omega)
theorem NeedOk.le {cs : List (ByteArray × List UInt8)} {need : Ref → Except Int (List Ref)} (hn : NeedOk cs need) {r : Ref} {rs : List Ref} (hr : RefOk r) (h : need r = .ok rs) : rs.length ≤ 1000000000 := by
  obtain ⟨n, h1, h2⟩ := hn r hr
  rw [h, needP] at h1
  split at h1
  · rw [Option.map_eq_some_iff] at h1
    obtain ⟨p, h3, h4⟩ := h1
    split at h4
    · simp only [Except.ok.injEq] at h4
      subst h4
      exact h2 p h3
    · simp at h4
  · simp at h1
def eachP (need : Ref → Except Int (List Ref)) : List Ref → Except Int (List (List Ref))
  | [] => .ok []
  | r :: rs => match need r with
    | .error x => .error x
    | .ok l => match eachP need rs with
      | .error x => .error x
      | .ok ls => .ok (l :: ls)
/-- The first k of them are well. -/
theorem eachP_bad {need : Ref → Except Int (List Ref)} {x : Int} : ∀ {rs : List Ref} {k : Nat} {r : Ref} {ls : List (List Ref)}, eachP need (rs.take k) = .ok ls → rs[k]? = some r → need r = .error x → eachP need rs = .error x
  | [], k, r, ls, _, h2, _ => by simp at h2
  | a :: rs, 0, r, ls, _, h2, h3 => by
    simp at h2; subst h2
    simp only [eachP, h3]
  | a :: rs, k + 1, r, ls, h1, h2, h3 => by
    rw [List.take_succ_cons, eachP] at h1
    cases ha : need a with
    | error y => rw [ha] at h1; simp at h1
    | ok l =>
      rw [ha] at h1
      simp only at h1
      cases hk : eachP need (rs.take k) with
      | error y => rw [hk] at h1; simp at h1
      | ok ls' =>
        have := eachP_bad hk (by simpa using h2) h3
        simp only [eachP, ha, this]
theorem eachP_snoc {need : Ref → Except Int (List Ref)} : ∀ {rs : List Ref} {r : Ref} {ls : List (List Ref)} {l : List Ref}, eachP need rs = .ok ls → need r = .ok l → eachP need (rs ++ [r]) = .ok (ls ++ [l])
  | [], r, ls, l, h1, h2 => by
    simp only [eachP, Except.ok.injEq] at h1
    subst h1
    simp [eachP, h2]
  | a :: rs, r, ls, l, h1, h2 => by
    rw [eachP] at h1
    cases ha : need a with
    | error y => rw [ha] at h1; simp at h1
    | ok l0 =>
      rw [ha] at h1
      simp only at h1
      cases hk : eachP need rs with
      | error y => rw [hk] at h1; simp at h1
      | ok ls' =>
        rw [hk] at h1
        simp only [Except.ok.injEq] at h1
        subst h1
        simp only [List.cons_append, eachP, ha, eachP_snoc hk h2]
/-- A list of lists of references. -/
def ListR (S : Nat → Prop) (w : World) (c : List Value) (rs : List Ref) : Prop := ∃ a cap, c = [.slice a rs.length cap] ∧ RefsAt S w (.slice a rs.length cap) rs
theorem ListR.len {S : Nat → Prop} {w : World} (c : List Value) (rs : List Ref) (h : ListR S w c rs) : c.length = 1 := by obtain ⟨a, cap, rfl, _⟩ := h; rfl
def ListsAt (S : Nat → Prop) (w : World) (v : Value) (ls : List (List Ref)) : Prop := SeqAt S w 1 (ListR S w) v ls
theorem ListsAt.below {S : Nat → Prop} {w w' : World} {v : Value} {ls : List (List Ref)} (h : ListsAt S w v ls) (hb : Below w.heap.size w w') : ListsAt S w' v ls :=
  SeqAt.below h (by omega) hb (fun c x _ ⟨a, cap, h1, h2⟩ => ⟨a, cap, h1, SeqAt.below h2 (by omega) hb (fun _ _ _ h => h)⟩)
theorem Tryz.appLists : AppTy Tryz.prog 30 26 1 24 := AppTy.mk' (z := .slice none 0 0) Tryz.underlying30 (by kernel_rfl) rfl (by decide) (by decide)
def EachRes (res : Except Int (List (List Ref))) (w : World) (e : Ending) (w' : World) : Prop := Below w.heap.size w w' ∧ match res with
  | .error x => e = .returned (.tuple #[.slice none 0 0, .int .i64 x]) ∧ x ≠ 0
  | .ok ls => ∃ v, e = .returned (.tuple #[v, .int .i64 0]) ∧ ListsAt (w.heap.size ≤ ·) w' v ls
set_option maxRecDepth 100000 in
set_option maxHeartbeats 2000000 in
theorem each_any (cs : List (ByteArray × List UInt8)) (need : Ref → Except Int (List Ref)) (hn : NeedOk cs need) (S T : Nat → Prop) (sv cv : Value) (roots : List Ref) (w : World) (hs : SnapsAt T w sv roots) (hc : ContAt S w cv cs) (henv : Env w) (hlen : roots.length < 1000000) :
    Calls Tryz.prog 26 #[sv, cv] w (EachRes (eachP need roots) w) := by
  obtain ⟨a, cap, rfl, hcp, hm, -⟩ := SeqAt.shape hs SnapR.len
  unfold maxLen at hm
  have HN := Lib.hid hn
  have HS := Lib.hid hs
  have HC := Lib.hid hc
  have HE := Lib.hid henv
  clear hs hc henv hn
  go_enter Tryz.func26, Tryz.ntmps26
  go_wp2_with fail
  go_loopw [4, 12] (fun o i wr => ∃ (k : Nat) (ls : List (List Ref)) (cells : List Value), k ≤ roots.length ∧ i = .int .i64 k ∧ eachP need (roots.take k) = .ok ls ∧ ls.length = k ∧ wr.ownsRow w.heap.size 26 1 o ls.length cells ∧ RowsIn (ListR (fun k => w.heap.size ≤ k ∧ o.ownBlock ≠ some k) wr) cells ls ∧ Below w.heap.size w wr) (fun _ i _ => roots.length - (intOf i).toNat)
  case atStart => exact ⟨0, [], [], Nat.zero_le _, rfl, rfl, rfl, World.ownsRow_nil _ _ _ _, rfl, Below.refl _ _⟩
  case round =>
    obtain ⟨k, ls, cells, hk, rfl, hep, hlk, hown, hrows, hb⟩ := hrel
    have HEP := Lib.hid hep
    have HLK := Lib.hid hlk
    have HO := Lib.hid hown
    have HRW := Lib.hid hrows
    have HB := Lib.hid hb
    obtain ⟨ao, co, hov, hn2, hm2⟩ := owns_shape hown
    subst hov
    clear hep hlk hown hrows hb
    by_cases hlt : k < roots.length
    · obtain ⟨r, hr⟩ : ∃ r, roots[k]? = some r := ⟨roots[k], by simp [hlt]⟩
      obtain ⟨b, o, a1, a2, a3, a4, a5, p, h, rfl, hrok, hcl⟩ := snaps_at HS.out HB.out hr
      have HR := Lib.hid hr
      have HRO := Lib.hid hrok
      have q0 := hcl 0 (by omega)
      have q1 := hcl 1 (by omega)
      have q2 := hcl 2 (by omega)
      have q3 := hcl 3 (by omega)
      have q4 := hcl 4 (by omega)
      have q5 := hcl 5 (by omega)
      have q6 := hcl 6 (by omega)
      have q7 := hcl 7 (by omega)
      have q8 := hcl 8 (by omega)
      have q9 := hcl 9 (by omega)
      simp only [List.getElem?_cons_zero, List.getElem?_cons_succ, Nat.add_zero] at q0 q1 q2 q3 q4 q5 q6 q7 q8 q9
      have HAL := Lib.hid (HB.out.alloc HB.out.size (.cells #[.int .i64 a1, .int .i64 a2, .int .i64 a3, .string r.name, .int .i64 r.gen, .int .i64 r.size, .int .i64 a4, .int .i64 a5, .string p, .bool h] 62))
      have HC1 := Lib.hid (HC.out.below HAL.out)
      have HE1 := Lib.hid (HE.out.below HAL.out)
      clear hr hrok hcl
      go_wp2_with fail
      refine (HN.out.refs S cv r _ HC1.out HE1.out HRO.out).mono ?_
      rintro e w1 ⟨hb1, hres⟩
      have HB1 := Lib.hid (below_next HAL.out hb1)
      have HBr := Lib.hid (show Below wr.heap.size wr w1 from ((Below.refl _ _).alloc (Nat.le_refl _) _).trans (hb1.mono (by simp)))
      have hzr : wr.heap.size + 1 ≤ w1.heap.size := by have := hb1.size; simpa using this
      clear hb1 q0 q1 q2 q3 q4 q5 q6 q7 q8 q9
      cases hnd : need r with
      | error x =>
        rw [hnd] at hres
        obtain ⟨rfl, hx⟩ := hres
        have e1 : (x != 0) = true := by simp [hx]
        have HX := Lib.hid hx
        have HRES := Lib.hid (eachP_bad HEP.out HR.out hnd)
        clear hnd hx
        go_wp2_with fail
        go_ret2
        exact ⟨HB1.out, by rw [HRES.out]; exact ⟨rfl, HX.out⟩⟩
      | ok rl =>
        rw [hnd] at hres
        obtain ⟨rv, rfl, hrv⟩ := hres
        have HRV := Lib.hid hrv
        obtain ⟨ra, rc, rfl, -, -, -⟩ := SeqAt.shape hrv RefR.len
        have HEP2 := Lib.hid (show eachP need (roots.take (k + 1)) = .ok (ls ++ [rl]) by rw [take_snoc' HR.out]; exact eachP_snoc HEP.out hnd)
        have HO1 := Lib.hid (owns_below HO.out HBr.out)
        have hbz := HB1.out.size
        have hll : ls.length < 1000000 := by have := HLK.out; omega
        clear hnd hrv
        go_wp2_with (at_builtin; go_must (refine wpList_app1p Tryz.appLists rfl _ _ rfl w.heap.size (.slice ao ls.length co) ls.length cells rfl w1 [.slice ra rl.length rc] _ rfl rfl (by simp; rfl) HO1.out (by omega) hbz ?_); intro v' wc hown' hgrow' _ hpl; have HB2 := Lib.hid (below_grown HB1.out HO1.out hgrow' (Nat.le_refl _) hbz); have HGR := Lib.hid hgrow'; have HPL := Lib.hid hpl; have HO2 := Lib.hid (show wc.ownsRow w.heap.size 26 1 v' (ls ++ [rl]).length (cells ++ [.slice ra rl.length rc]) by rw [List.length_append]; exact hown'); obtain ⟨ae, ce, rfl, -, -⟩ := owns_shape hown'; clear hown' hgrow' hpl)
        go_roundw
        case rel =>
          have hbsz := HBr.out.size
          refine ⟨k + 1, ls ++ [rl], cells ++ [.slice ra rl.length rc], by omega, by go_num, HEP2.out, by simp [HLK.out], HO2.out, RowsIn.snoc (HRW.out.mono (fun c x _ ⟨a, cap, h1, h2⟩ => ⟨a, cap, h1, RefsAt.same h2 (fun k hk hS => ⟨⟨hS.1, fun e => ?_⟩, ?_⟩)⟩)) ⟨ra, rc, rfl, RefsAt.same HRV.out (fun k hk hS => ⟨⟨?_, fun e => ?_⟩, ?_⟩)⟩, HB2.out⟩
          · have := HB.out.size; simp at hS; omega
          · simp at hS
            rcases HPL.out k e with e | e
            · have := (HO.out.lt k e).2; omega
            · omega
          · refine HGR.out.block k hk (fun e => ?_)
            simp at hS
            have := (HO.out.lt k e.symm).2
            omega
          · rcases HPL.out k e with e | e
            · exact hS.2 e
            · omega
          · rw [HGR.out.block k (by omega) (fun e => hS.2 e.symm)]
            exact HBr.out.block k hk
        case measure => simp [intOf]; omega
    · obtain rfl : k = roots.length := by omega
      have HEP2 := Lib.hid (show eachP need roots = .ok ls by have := HEP.out; rwa [List.take_of_length_le (Nat.le_refl _)] at this)
      go_wp2_with fail
      go_ret2
      refine ⟨HB.out, by rw [HEP2.out]; exact ⟨_, rfl, cells, (row_of_owns HO.out).weak (fun k hk => hk.1), HRW.out.mono (fun c x _ ⟨a, cap, h1, h2⟩ => ⟨a, cap, h1, RefsAt.same h2 (fun k _ hS => ⟨hS.1, rfl⟩)⟩)⟩⟩

end Go.Proofs.YtndgmcggckpgfaaGreatDoor

/- Contracts of package manifest: Missing. -/
namespace Go.Proofs.YtndgmcggckpgfaaGreatDoor
open Go Go.RowKit Go.Maps


theorem goneP_snoc (cs : List (ByteArray × List UInt8)) (rs : List Ref) (r : Ref) : goneP cs (rs ++ [r]) = if (findC cs r.name).isNone = true then goneP cs rs ++ [r] else goneP cs rs := by
  unfold goneP; rw [List.filter_append]
  by_cases h : (findC cs r.name).isNone = true <;> simp [List.filter, h]
theorem goneP_le (cs : List (ByteArray × List UInt8)) (rs : List Ref) : (goneP cs rs).length ≤ rs.length := List.length_filter_le _ _
set_option maxRecDepth 100000 in
set_option maxHeartbeats 2000000 in
theorem missingM_any (S : Nat → Prop) (cv : Value) (cs : List (ByteArray × List UInt8)) (n : Nat) (root : Ref) (res : Except Int (List Ref)) (w : World) (hc : ContAt S w cv cs) (henv : Env w) (hr : RefOk root)
    (hn : needP (presP cs) n root = some res) (hl : ∀ p, walkP (presP cs) n root ([], []) = some p → p.2.2.length < 1099511627775) (hle : ∀ rs, res = .ok rs → rs.length < 1099511627775) :
    Calls Tryz.prog 33 #[refV root, cv] w (NeedRes (missE cs res) w) := by
  have hmf : ∀ (fn : Fn) (first cap : Array Value) (w : World), (Instr.makeFunc fn first cap).run Tryz.prog w = .ok (.func fn first cap) w := fun _ _ _ _ => rfl
  have HB0 := Lib.hid ((Below.refl w.heap.size w).alloc (Nat.le_refl _) (.cells #[.string root.name, .int .i64 root.gen, .int .i64 root.size] 43))
  have HC := Lib.hid hc
  have HI := Lib.hid (RefsI.start (hc.below HB0.out) (henv.below HB0.out))
  have HR := Lib.hid hr
  have HN := Lib.hid hn
  have HL := Lib.hid hl
  unfold refV
  clear hc henv hr hn hl
  go_enter Tryz.func33, Tryz.ntmps33
  go_wp2_with fail
  refine (needsP_any (presP cs) cv _ n root res _ RefsI.keep RefsI.pres HI.out HR.out HN.out HL.out).mono ?_
  rintro e w1 ⟨hb1, hres⟩
  have HB1 := Lib.hid (below_next HB0.out hb1)
  clear hb1
  cases res with
  | error x =>
    obtain ⟨rfl, hx⟩ := hres
    have HX := Lib.hid hx
    have e1 : (x != 0) = true := by simp [hx]
    clear hx
    go_wp2_with fail
    go_ret2
    exact ⟨HB1.out, rfl, HX.out⟩
  | ok rs =>
    obtain ⟨v, rfl, hv⟩ := hres
    have hrl := hle rs rfl
    obtain ⟨a, cap, rfl, hcp, hm, -⟩ := SeqAt.shape hv RefR.len
    unfold maxLen at hm
    have HV := Lib.hid hv
    clear hv hle
    go_wp2_with fail
    go_loopw [8, 25] (fun o i wr => ∃ k : Nat, k ≤ rs.length ∧ i = .int .i64 k ∧ wr.ownsRow w1.heap.size 43 3 o (goneP cs (rs.take k)).length ((goneP cs (rs.take k)).flatMap refC) ∧ Below w1.heap.size w1 wr ∧ ∀ r ∈ goneP cs (rs.take k), RefOk r) (fun _ i _ => rs.length - (intOf i).toNat)
    case atStart => exact ⟨0, Nat.zero_le _, rfl, World.ownsRow_nil _ _ _ _, Below.refl _ _, by simp [goneP]⟩
    case round =>
      obtain ⟨k, hk, rfl, hown, hb, hok⟩ := hrel
      have HO := Lib.hid hown
      have HB := Lib.hid hb
      have HOK := Lib.hid hok
      obtain ⟨ao, co, rfl, hn2, hm2⟩ := owns_shape hown
      have hlk0 := goneP_le cs (rs.take k)
      rw [List.length_take] at hlk0
      clear hown hb hok
      by_cases hlt : k < rs.length
      · obtain ⟨r, hr⟩ : ∃ r, rs[k]? = some r := ⟨rs[k], by simp [hlt]⟩
        obtain ⟨b, o, rfl, hrok, q0, q1, q2⟩ := refs_at HV.out HB.out hr
        have HRO := Lib.hid hrok
        have HSN := Lib.hid (show goneP cs (rs.take (k + 1)) = if (findC cs r.name).isNone = true then goneP cs (rs.take k) ++ [r] else goneP cs (rs.take k) by rw [take_snoc' hr, goneP_snoc])
        have hnm := hrok.nm
        clear hr hrok
        go_upto_region 8 with (fail)
        obtain ⟨W, hW⟩ : ∃ W : World, W = wr.alloc (.cells #[.string r.name, .int .i64 r.gen, .int .i64 r.size] 43) := ⟨_, rfl⟩
        rw [← hW]
        have hbw : Below wr.heap.size wr W := by rw [hW]; exact (Below.refl _ _).alloc (Nat.le_refl _) _
        have HBX := Lib.hid (show W.heap[wr.heap.size]? = some (.cells #[.string r.name, .int .i64 r.gen, .int .i64 r.size] 43 (0, 0)) by rw [hW]; exact heap_alloc_new wr _)
        have HBW := Lib.hid (below_next HB.out hbw)
        have HOW := Lib.hid (owns_below HO.out hbw)
        have HCW := Lib.hid (HC.out.below (below_next HB1.out HBW.out))
        have hz1 := HBW.out.size
        have p0 := cellH (k := 0) HBX.out
        have p1 := cellH (k := 1) HBX.out
        have p2 := cellH (k := 2) HBX.out
        simp only [List.getElem?_toArray, List.getElem?_cons_succ, List.getElem?_cons_zero] at p0 p1 p2
        clear hW hbw q0 q1 q2
        cases hf : findC cs r.name with
        | none =>
          have hlk := HCW.out.missM hnm hf
          have HSN2 := Lib.hid (HSN.out.trans (if_pos (by rw [hf]; rfl)))
          clear hf hnm
          go_wp2_with (at_builtin; go_must (refine wpList_app1B Tryz.appRefs rfl _ _ rfl w1.heap.size (.slice ao (goneP cs (rs.take k)).length co) (goneP cs (rs.take k)).length ((goneP cs (rs.take k)).flatMap refC) rfl W [.string r.name, .int .i64 r.gen, .int .i64 r.size] _ rfl rfl (refC_one (r := r)) HOW.out (by unfold maxLen; omega) (by omega) hz1 ?_); intro v' wc hown' hgrow' _; have HB2 := Lib.hid (below_grown HBW.out HOW.out hgrow' (Nat.le_refl _) hz1); have HO2 := Lib.hid (show wc.ownsRow w1.heap.size 43 3 v' (goneP cs (rs.take (k + 1))).length ((goneP cs (rs.take (k + 1))).flatMap refC) by rw [HSN2.out, List.length_append, List.flatMap_append]; simpa [refC] using hown'); obtain ⟨ae, ce, rfl, -, -⟩ := owns_shape hown'; clear hown' hgrow')
          go_roundw
          case rel =>
            refine ⟨k + 1, by omega, by go_num, HO2.out, HB2.out, ?_⟩
            rw [HSN2.out]
            intro x hx
            rcases List.mem_append.1 hx with hx | hx
            · exact HOK.out x hx
            · simp only [List.mem_singleton] at hx; subst hx; exact HRO.out
          case measure => simp [intOf]; omega
        | some bs =>
          obtain ⟨v, hlk, -⟩ := HCW.out.hitM hnm hf
          have HSN2 := Lib.hid (HSN.out.trans (if_neg (by rw [hf]; simp)))
          clear hf hnm
          go_wp2_with fail
          go_roundw
          case rel => exact ⟨k + 1, by omega, by go_num, by rw [HSN2.out]; exact HOW.out, HBW.out, by rw [HSN2.out]; exact HOK.out⟩
          case measure => simp [intOf]; omega
      · obtain rfl : k = rs.length := by omega
        have HTK := Lib.hid (show goneP cs (rs.take rs.length) = goneP cs rs by rw [List.take_of_length_le (Nat.le_refl _)])
        have hz := HB1.out.size
        go_wp2_with fail
        go_ret2
        refine ⟨below_next HB1.out HB.out, ?_⟩
        show ∃ v, _ ∧ RefsAt _ _ v (goneP cs rs)
        rw [← HTK.out]
        exact ⟨_, rfl, RefsAt.same (refs_owned HO.out HOK.out) (fun k _ hS => ⟨Nat.le_trans hz hS.1, rfl⟩)⟩

end Go.Proofs.YtndgmcggckpgfaaGreatDoor

/- Contracts of package liveness: needed, Needed, Orphans, Delta. -/
namespace Go.Proofs.YtndgmcggckpgfaaGreatDoor
open Go.RowKit


def unionP (ls : List (List Ref)) : List Ref := ls.foldl (fun acc l => menAll l acc) []
theorem mentionP_len (r : Ref) (rs : List Ref) : (mentionP r rs).length ≤ rs.length + 1 := by unfold mentionP; split <;> simp
theorem menAll_len : ∀ (l acc : List Ref), (menAll l acc).length ≤ acc.length + l.length
  | [], acc => by simp [menAll]
  | r :: l, acc => by
    have h1 := menAll_len l (mentionP r acc)
    have h2 := mentionP_len r acc
    show (menAll l (mentionP r acc)).length ≤ _
    simp only [List.length_cons]; omega
theorem unionP_snoc (ls : List (List Ref)) (l : List Ref) : unionP (ls ++ [l]) = menAll l (unionP ls) := by unfold unionP; rw [List.foldl_append]; rfl
theorem foldl_len : ∀ (ls : List (List Ref)) (acc : List Ref), (∀ l ∈ ls, l.length ≤ 1000000000) → (ls.foldl (fun acc l => menAll l acc) acc).length ≤ acc.length + ls.length * 1000000000
  | [], acc, _ => by simp
  | l :: ls, acc, h => by
    have h1 := foldl_len ls (menAll l acc) (fun x hx => h x (by simp [hx]))
    have h2 := menAll_len l acc
    have h3 := h l (by simp)
    simp only [List.foldl_cons, List.length_cons]; omega
theorem unionP_len {ls : List (List Ref)} (h : ∀ l ∈ ls, l.length ≤ 1000000000) : (unionP ls).length ≤ ls.length * 1000000000 := by
  have := foldl_len ls [] h; simpa [unionP] using this
theorem eachP_mem {need : Ref → Except Int (List Ref)} : ∀ {rs : List Ref} {ls : List (List Ref)}, eachP need rs = .ok ls → ∀ l ∈ ls, ∃ r ∈ rs, need r = .ok l
  | [], ls, h, l, hl => by simp only [eachP, Except.ok.injEq] at h; subst h; simp at hl
  | a :: rs, ls, h, l, hl => by
    rw [eachP] at h
    cases ha : need a with
    | error y => rw [ha] at h; simp at h
    | ok l0 =>
      rw [ha] at h
      simp only at h
      cases hk : eachP need rs with
      | error y => rw [hk] at h; simp at h
      | ok ls' =>
        rw [hk] at h
        simp only [Except.ok.injEq] at h
        subst h
        rcases List.mem_cons.1 hl with rfl | hl
        · exact ⟨a, by simp, ha⟩
        · obtain ⟨r, h1, h2⟩ := eachP_mem hk l hl
          exact ⟨r, by simp [h1], h2⟩
theorem eachP_len {need : Ref → Except Int (List Ref)} : ∀ {rs : List Ref} {ls : List (List Ref)}, eachP need rs = .ok ls → ls.length = rs.length
  | [], ls, h => by simp only [eachP, Except.ok.injEq] at h; subst h; rfl
  | a :: rs, ls, h => by
    rw [eachP] at h
    cases ha : need a with
    | error y => rw [ha] at h; simp at h
    | ok l0 =>
      rw [ha] at h
      simp only at h
      cases hk : eachP need rs with
      | error y => rw [hk] at h; simp at h
      | ok ls' =>
        rw [hk] at h
        simp only [Except.ok.injEq] at h
        subst h
        simp [eachP_len hk]
theorem SnapsAt.ok {S : Nat → Prop} {w : World} {v : Value} {rs : List Ref} (h : SnapsAt S w v rs) : ∀ r ∈ rs, RefOk r := fun r hr => by
  obtain ⟨k, hk, rfl⟩ := List.getElem_of_mem hr
  obtain ⟨a, cap, rfl, _⟩ := SeqAt.shape h SnapR.len
  obtain ⟨_, _, _, _, _, _, _, _, _, _, h1, _⟩ := snaps_at h (Below.refl _ _) (k := k) (r := rs[k]) (by simp)
  exact h1
theorem eachP_le {cs : List (ByteArray × List UInt8)} {need : Ref → Except Int (List Ref)} (hn : NeedOk cs need) {rs : List Ref} {ls : List (List Ref)} (hok : ∀ r ∈ rs, RefOk r) (h : eachP need rs = .ok ls) : ∀ l ∈ ls, l.length ≤ 1000000000 := fun l hl => by
  obtain ⟨r, h1, h2⟩ := eachP_mem h l hl
  exact hn.le (hok r h1) h2
theorem lists_at {S : Nat → Prop} {w w' : World} {a : Option Addr} {n cap : Nat} {ls : List (List Ref)} (hv : ListsAt S w (.slice a n cap) ls) (hb : Below w.heap.size w w') {k : Nat} {l : List Ref} (hl : ls[k]? = some l) :
    ∃ b o ca cc, a = some ⟨b, o, none⟩ ∧ w'.cell? ⟨b, o + k, none⟩ = some (.slice ca l.length cc) ∧ RefsAt S w' (.slice ca l.length cc) l := by
  obtain ⟨a', cap', hv', _, _, hx⟩ := SeqAt.shape hv ListR.len
  cases hv'
  obtain ⟨b, o, c, rfl, hS, ⟨ca, cc, rfl, hrf⟩, _, hcl⟩ := hx k l hl
  have q0 := hcl 0 (by omega)
  simp only [List.getElem?_cons_zero, Nat.mul_one, Nat.add_zero] at q0
  exact ⟨b, o, ca, cc, rfl, (hb.cell (block_lt q0)).trans q0, SeqAt.below hrf (by omega) hb (fun _ _ _ h => h)⟩
def NeededRes (res : Except Int (List (List Ref))) (w : World) (e : Ending) (w' : World) : Prop := Below w.heap.size w w' ∧ match res with
  | .error x => e = .returned (.tuple #[.pointer none, .int .i64 x]) ∧ x ≠ 0
  | .ok ls => ∃ base nb mb v, e = .returned (.tuple #[.pointer (some ⟨nb, 0, none⟩), .int .i64 0]) ∧ StAt w' base nb mb v (unionP ls) ∧ w.heap.size ≤ base
theorem ListsAt.same {S : Nat → Prop} {w w' : World} {v : Value} {ls : List (List Ref)} (h : ListsAt S w v ls) (hs : ∀ k, k < w.heap.size → w'.heap[k]? = w.heap[k]?) : ListsAt S w' v ls := by
  obtain ⟨cells, hr, hin⟩ := h
  have h2 := hr.mono (T := fun k => k < w.heap.size ∧ S k) (fun k hk hS => ⟨hk, hS⟩) (by omega)
  have h3 := h2.same (w' := w') (fun k hk => hs k hk.1)
  exact ⟨cells, h3.weak (fun k hk => hk.2), hin.mono (fun c x _ ⟨a, cap, h1, hx⟩ => ⟨a, cap, h1, RefsAt.same hx (fun k hk hS => ⟨hS, hs k hk⟩)⟩)⟩
theorem ListsAt.lt {S : Nat → Prop} {w : World} {v : Value} {ls : List (List Ref)} (h : ListsAt S w v ls) : ListsAt (· < w.heap.size) w v ls := by
  obtain ⟨cells, hr, hin⟩ := h
  exact ⟨cells, hr.mono (fun _ hk _ => hk) (by omega), hin.mono (fun c x _ ⟨a, cap, h1, hx⟩ => ⟨a, cap, h1, RefsAt.same hx (fun k hk _ => ⟨hk, rfl⟩)⟩)⟩
theorem st_ge {B base nb mb : Nat} {w : World} {v : Value} {l : List Ref} (h : StAt w base nb mb v l) (h1 : B ≤ base) (h2 : B ≤ nb) (h3 : B ≤ mb) {k : Nat} (hk : StOwn nb mb v k) : B ≤ k := by
  rcases hk with e | e | e
  · omega
  · omega
  · have := (h.row.lt k e).1; omega
set_option maxRecDepth 100000 in
set_option maxHeartbeats 4000000 in
theorem needed_any (cs : List (ByteArray × List UInt8)) (need : Ref → Except Int (List Ref)) (hn : NeedOk cs need) (S T : Nat → Prop) (sv cv : Value) (roots : List Ref) (w : World) (hs : SnapsAt T w sv roots) (hc : ContAt S w cv cs) (henv : Env w) (hlen : roots.length ≤ 1000) :
    Calls Tryz.prog 32 #[sv, cv] w (NeededRes (eachP need roots) w) := by
  have hrok := hs.ok
  have HOK := Lib.hid hrok
  have HN := Lib.hid hn
  have HE := Lib.hid (each_any cs need hn S T sv cv roots w hs hc henv (by omega))
  clear hn hs hc henv hrok
  go_enter Tryz.func32, Tryz.ntmps32
  go_wp2_with fail
  refine HE.out.mono ?_
  rintro e w1 ⟨hb1, hres⟩
  have HB1 := Lib.hid hb1
  clear hb1 HE
  cases hep : eachP need roots with
  | error x =>
    rw [hep] at hres
    obtain ⟨rfl, hx⟩ := hres
    have e1 : (x != 0) = true := by simp [hx]
    have HX := Lib.hid hx
    have HEP := Lib.hid hep
    clear hep hx
    go_wp2_with fail
    go_ret2
    exact ⟨HB1.out, by rw [HEP.out]; exact ⟨rfl, HX.out⟩⟩
  | ok ls =>
    rw [hep] at hres
    obtain ⟨lv, rfl, hlv⟩ := hres
    have HLV := Lib.hid hlv.lt
    have HEP := Lib.hid hep
    obtain ⟨la, lc, rfl, hlc, hlm, -⟩ := SeqAt.shape hlv ListR.len
    unfold maxLen at hlm
    have HLE := Lib.hid (eachP_le HN.out HOK.out hep)
    have hll : ls.length ≤ 1000 := by rw [eachP_len hep]; exact hlen
    clear hep hlv
    go_wp2_with fail
    refine (newSet_any w1 w1.heap.size).mono ?_
    rintro e w2 ⟨rfl, hst, hb2, hz2⟩
    have HST := Lib.hid hst
    have HB2 := Lib.hid hb2
    clear hst hb2
    go_wp2_with fail
    go_loopw [23] (fun i wr => ∃ (k : Nat) (v : Value), k ≤ ls.length ∧ i = .int .i64 k ∧ StAt wr w1.heap.size (w1.heap.size + 1) w1.heap.size v (unionP (ls.take k)) ∧ Below w1.heap.size w1 wr) (fun i _ => ls.length - (intOf i).toNat)
    case atStart => exact ⟨0, _, Nat.zero_le _, rfl, HST.out, HB2.out⟩
    case round =>
      obtain ⟨k, v, hk, rfl, hst, hb⟩ := hrel
      have HSR := Lib.hid hst
      have HBR := Lib.hid hb
      clear hst hb
      by_cases hlt : k < ls.length
      · obtain ⟨l, hl⟩ : ∃ l, ls[k]? = some l := ⟨ls[k], by simp [hlt]⟩
        obtain ⟨b, o, ca, cc, rfl, q0, hrf⟩ := lists_at HLV.out HBR.out hl
        have HRF := Lib.hid hrf
        obtain ⟨_, _, hv', hcc, hccm, -⟩ := SeqAt.shape hrf RefR.len
        cases hv'
        unfold maxLen at hccm
        have HSN := Lib.hid (show unionP (ls.take (k + 1)) = menAll l (unionP (ls.take k)) by rw [take_snoc' hl, unionP_snoc])
        have hle : l.length ≤ 1000000000 := HLE.out l (List.mem_of_getElem? hl)
        have hul : (unionP (ls.take k)).length ≤ 999 * 1000000000 := by
          have h1 := unionP_len (ls := ls.take k) (fun x hx => HLE.out x (List.mem_of_mem_take hx))
          rw [List.length_take] at h1
          have h2 : min k ls.length ≤ 999 := by omega
          exact Nat.le_trans h1 (Nat.mul_le_mul_right 1000000000 h2)
        obtain ⟨wo, hwo⟩ : ∃ wo : World, wo = wr := ⟨_, rfl⟩
        subst hwo
        have HLEN := Lib.hid (And.intro hle hul)
        clear hl hrf hle hul
        go_wp2_with fail
        go_loopw [29] (fun i wq => ∃ (j : Nat) (v : Value), j ≤ l.length ∧ i = .int .i64 j ∧ StAt wq w1.heap.size (w1.heap.size + 1) w1.heap.size v (menAll (l.take j) (unionP (ls.take k))) ∧ Below w1.heap.size w1 wq ∧ RefsAt (fun k => k < w1.heap.size) wq (.slice ca l.length cc) l) (fun i _ => l.length - (intOf i).toNat)
        case atStart => exact ⟨0, v, Nat.zero_le _, rfl, HSR.out, HBR.out, HRF.out⟩
        case round =>
          obtain ⟨j, v3, hj, rfl, hst3, hb3, hrf3⟩ := hrel
          have HS3 := Lib.hid hst3
          have HB3 := Lib.hid hb3
          have HR3 := Lib.hid hrf3
          clear hst3 hb3 hrf3
          by_cases hlt2 : j < l.length
          · obtain ⟨c, hc⟩ : ∃ c, l[j]? = some c := ⟨l[j], by simp [hlt2]⟩
            obtain ⟨b2, o2, rfl, hcok, p0, p1, p2⟩ := refs_at HR3.out (Below.refl _ _) hc
            have HCO := Lib.hid hcok
            have HSN2 := Lib.hid (show menAll (l.take (j + 1)) (unionP (ls.take k)) = mentionP c (menAll (l.take j) (unionP (ls.take k))) by rw [take_snoc' hc, menAll_snoc])
            have HML := Lib.hid (show (menAll (l.take j) (unionP (ls.take k))).length < 1099511627775 by
              have h1 := menAll_len (l.take j) (unionP (ls.take k))
              rw [List.length_take] at h1
              obtain ⟨h2, h3⟩ := HLEN.out
              have h4 : (menAll (l.take j) (unionP (ls.take k))).length ≤ 999 * 1000000000 + 1000000000 := Nat.le_trans h1 (Nat.add_le_add h3 (Nat.le_trans (Nat.min_le_right _ _) h2))
              exact Nat.lt_of_le_of_lt h4 (by decide))
            have HAL := Lib.hid ((Below.refl wr.heap.size wr).alloc (Nat.le_refl _) (.cells #[.string c.name, .int .i64 c.gen, .int .i64 c.size] 43))
            have HS4 := Lib.hid (HS3.out.below HAL.out)
            have HB4 := Lib.hid (below_next HB3.out HAL.out)
            clear hc hcok
            go_wp2_with fail
            refine (add_any w1.heap.size (w1.heap.size + 1) w1.heap.size v3 _ c _ HS4.out HCO.out HML.out HB4.out.size).mono ?_
            rintro e w4 ⟨rfl, v4, hst4, hg4, -⟩
            have HB5 := Lib.hid (show Below w1.heap.size w1 w4 from HB4.out.trans (hg4.below HB4.out.size (fun k hk => st_ge HS4.out (Nat.le_refl _) (by omega) (Nat.le_refl _) hk)))
            have HR5 := Lib.hid (show RefsAt (fun k => k < w1.heap.size) w4 (.slice (some ⟨b2, o2, none⟩) l.length cc) l from RefsAt.same HR3.out (fun k hk hS => ⟨hS, (HB5.out.block k hS).trans (HB3.out.block k hS).symm⟩))
            have HS5 := Lib.hid hst4
            clear hst4 hg4 p0 p1 p2
            go_wp2_with fail
            go_roundw
            case rel => exact ⟨j + 1, v4, by omega, by go_num, by rw [HSN2.out]; exact HS5.out, HB5.out, HR5.out⟩
            case measure => simp [intOf]; omega
          · obtain rfl : j = l.length := by omega
            rw [List.take_of_length_le (Nat.le_refl _)] at HS3
            go_wp2_with fail
            go_roundw
            case rel => exact ⟨k + 1, v3, by omega, by go_num, by rw [HSN.out]; exact HS3.out, HB3.out⟩
            case measure => simp [intOf]; omega
      · obtain rfl : k = ls.length := by omega
        rw [List.take_of_length_le (Nat.le_refl _)] at HSR
        go_wp2_with fail
        go_ret2
        exact ⟨below_next HB1.out HBR.out, by rw [HEP.out]; exact ⟨_, _, _, _, rfl, HSR.out, HB1.out.size⟩⟩

end Go.Proofs.YtndgmcggckpgfaaGreatDoor

/- What a root needs exists: the walk over references that are not expanded ends. -/
namespace Go.Proofs.YtndgmcggckpgfaaGreatDoor
open Go.RowKit

theorem nodup_le : ∀ {l U : List Ref}, l.Nodup → (∀ x ∈ l, x ∈ U) → l.length ≤ U.length
  | [], _, _, _ => Nat.zero_le _
  | a :: l, U, hn, hs => by
    obtain ⟨h1, h2⟩ := List.nodup_cons.1 hn
    have ha : a ∈ U := hs a (by simp)
    have h3 := nodup_le (l := l) (U := U.erase a) h2 (fun x hx => (List.mem_erase_of_ne (fun e => by subst e; exact h1 hx)).2 (hs x (by simp [hx])))
    have h4 := List.length_erase_of_mem ha
    have h5 : 0 < U.length := List.length_pos_of_mem ha
    simp only [List.length_cons]
    omega
def itRefs (it : Item) : List Ref := it.chunks ++ [it.node]
def ndRefs (l : List Item) : List Ref := l.flatMap itRefs
def csRefs (cs : List (ByteArray × List UInt8)) : List Ref := cs.flatMap fun p => match itemsP p.2 with
  | some l => ndRefs l
  | none => []
theorem findC_mem {cs : List (ByteArray × List UInt8)} {n : ByteArray} {bs : List UInt8} (h : findC cs n = some bs) : ∃ k, (k, bs) ∈ cs := by
  induction cs with
  | nil => simp [findC] at h
  | cons p cs ih =>
    obtain ⟨k, b⟩ := p
    simp only [findC] at h
    split at h
    · simp only [Option.some.injEq] at h; subst h; exact ⟨k, by simp⟩
    · obtain ⟨k', hk⟩ := ih h
      exact ⟨k', by simp [hk]⟩
theorem nodeP_mem {cs : List (ByteArray × List UInt8)} {r : Ref} {l : List Item} (h : nodeP cs r = .ok l) : ∃ k bs, (k, bs) ∈ cs ∧ itemsP bs = some l := by
  unfold nodeP at h
  cases hc : chunkP cs r with
  | error x => rw [hc] at h; simp at h
  | ok bs =>
    rw [hc] at h
    simp only at h
    cases hi : itemsP bs with
    | none => rw [hi] at h; simp at h
    | some l' =>
      rw [hi] at h
      simp only [Except.ok.injEq] at h
      subst h
      unfold chunkP at hc
      cases hf : findC cs r.name with
      | none => rw [hf] at hc; simp at hc
      | some b =>
        rw [hf] at hc
        simp only at hc
        split at hc
        · simp only [Except.ok.injEq] at hc; subst hc
          obtain ⟨k, hk⟩ := findC_mem hf
          exact ⟨k, b, hk, hi⟩
        · simp at hc
theorem nodeP_refs {cs : List (ByteArray × List UInt8)} {r : Ref} {l : List Item} (h : nodeP cs r = .ok l) {it : Item} (hit : it ∈ l) : ∀ c ∈ itRefs it, c ∈ csRefs cs := fun c hc => by
  obtain ⟨k, bs, h1, h2⟩ := nodeP_mem h
  refine List.mem_flatMap.2 ⟨(k, bs), h1, ?_⟩
  simp only [h2]
  exact List.mem_flatMap.2 ⟨it, hit, hc⟩
/-- Lists of references out of U, each once. -/
structure WInv (U : List Ref) (st : List Ref × List Ref) : Prop where
  e1 : st.1.Nodup
  e2 : ∀ x ∈ st.1, x ∈ U
  l1 : st.2.Nodup
  l2 : ∀ x ∈ st.2, x ∈ U
theorem mentionP_nodup {r : Ref} {rs : List Ref} (h : rs.Nodup) : (mentionP r rs).Nodup := by
  unfold mentionP
  split
  · exact h
  · rename_i hm
    exact List.nodup_append.2 ⟨h, by simp, fun a ha b hb e => by simp only [List.mem_singleton] at hb; subst hb e; exact hm ha⟩
theorem mentionP_mem {r x : Ref} {rs : List Ref} : x ∈ mentionP r rs ↔ x ∈ rs ∨ x = r := by
  unfold mentionP
  split
  · rename_i hm
    exact ⟨.inl, fun h => by rcases h with h | rfl; exact h; exact hm⟩
  · simp
theorem menAll_nodup : ∀ (cs : List Ref) {rs : List Ref}, rs.Nodup → (menAll cs rs).Nodup
  | [], _, h => h
  | _c :: cs, _, h => menAll_nodup cs (mentionP_nodup h)
theorem menAll_mem : ∀ (cs : List Ref) {rs : List Ref} {x : Ref}, x ∈ menAll cs rs ↔ x ∈ rs ∨ x ∈ cs
  | [], rs, x => by simp [menAll]
  | c :: cs, rs, x => by
    show x ∈ menAll cs (mentionP c rs) ↔ _
    rw [menAll_mem cs, mentionP_mem, List.mem_cons, or_assoc]
theorem WInv.men {U : List Ref} {st : List Ref × List Ref} (h : WInv U st) {cs : List Ref} (hc : ∀ c ∈ cs, c ∈ U) : WInv U (st.1, menAll cs st.2) :=
  ⟨h.e1, h.e2, menAll_nodup cs h.l1, fun x hx => by
    rcases (menAll_mem cs).1 hx with hx | hx
    · exact h.l2 x hx
    · exact hc x hx⟩
def WEnds (U : List Ref) (f : Ref → List Ref × List Ref → Option (Int × (List Ref × List Ref))) (n : Nat) : Prop := ∀ r st, r ∈ U → WInv U st → U.length < n + st.1.length → ∃ x st', f r st = some (x, st') ∧ WInv U st' ∧ st.1.length ≤ st'.1.length
theorem overW_ends {U : List Ref} {f : Ref → List Ref × List Ref → Option (Int × (List Ref × List Ref))} {n : Nat} (hf : WEnds U f n) :
    ∀ (l : List Item) (st : List Ref × List Ref), (∀ it ∈ l, ∀ c ∈ itRefs it, c ∈ U) → WInv U st → U.length < n + st.1.length → ∃ x st', overW f l st = some (x, st') ∧ WInv U st' ∧ st.1.length ≤ st'.1.length
  | [], st, _, hi, _ => ⟨0, st, rfl, hi, Nat.le_refl _⟩
  | it :: l, st, hl, hi, hn => by
    have hi2 := hi.men (cs := it.chunks) (fun c hc => hl it (by simp) _ (by simp [itRefs, hc]))
    rw [overW]
    split
    · exact overW_ends hf l _ (fun x hx => hl x (by simp [hx])) hi2 hn
    · obtain ⟨x, st2, h1, h2, h3⟩ := hf it.node _ (hl it (by simp) _ (by simp [itRefs])) hi2 hn
      rw [h1, Option.bind_some]
      simp only at h3
      split
      · exact ⟨x, st2, rfl, h2, h3⟩
      · obtain ⟨y, st3, k1, k2, k3⟩ := overW_ends hf l st2 (fun x hx => hl x (by simp [hx])) h2 (by omega)
        exact ⟨y, st3, k1, k2, Nat.le_trans h3 k3⟩
theorem walkP_ends {cs : List (ByteArray × List UInt8)} {U : List Ref} (hU : ∀ c ∈ csRefs cs, c ∈ U) : ∀ n, WEnds U (walkP (nodeP cs) n) n
  | 0 => fun r st hr hi hn => by
    have := nodup_le hi.e1 hi.e2
    omega
  | n + 1 => fun r st hr hi hn => by
    have hm : WInv U (st.1, mentionP r st.2) := ⟨hi.e1, hi.e2, mentionP_nodup hi.l1, fun x hx => by
      rcases mentionP_mem.1 hx with hx | rfl
      · exact hi.l2 x hx
      · exact hr⟩
    rw [walkP]
    split
    · exact ⟨0, _, rfl, hm, Nat.le_refl _⟩
    · rename_i hne
      have he : WInv U (st.1 ++ [r], mentionP r st.2) := ⟨List.nodup_append.2 ⟨hi.e1, by simp, fun a ha b hb e => by simp only [List.mem_singleton] at hb; subst hb e; exact hne ha⟩, fun x hx => by
        rcases List.mem_append.1 hx with hx | hx
        · exact hi.e2 x hx
        · simp only [List.mem_singleton] at hx; subst hx; exact hr, hm.l1, hm.l2⟩
      cases hv : nodeP cs r with
      | error x => exact ⟨x, _, rfl, he, by simp⟩
      | ok l =>
        obtain ⟨x, st', h1, h2, h3⟩ := overW_ends (walkP_ends hU n) l (st.1 ++ [r], mentionP r st.2) (fun it hit c hc => hU c (nodeP_refs hv hit c hc)) he (by simp; omega)
        exact ⟨x, st', h1, h2, by simp at h3; omega⟩
def fuelN (cs : List (ByteArray × List UInt8)) : Nat := (csRefs cs).length + 2
def needF (cs : List (ByteArray × List UInt8)) (r : Ref) : Except Int (List Ref) := (needP (nodeP cs) (fuelN cs) r).getD (.error 0)
theorem walk_ends (cs : List (ByteArray × List UInt8)) (r : Ref) : ∃ x st', walkP (nodeP cs) (fuelN cs) r ([], []) = some (x, st') ∧ WInv (r :: csRefs cs) st' := by
  obtain ⟨x, st', h1, h2, _⟩ := walkP_ends (cs := cs) (U := r :: csRefs cs) (fun c hc => by simp [hc]) (fuelN cs) r ([], []) (by simp) ⟨by simp, by simp, by simp, by simp⟩ (by simp [fuelN])
  exact ⟨x, st', h1, h2⟩
theorem chunks_le {data : List UInt8} {s s1 : RS} {it : Item} (h : itemP data s = some (it, s1)) : it.chunks.length ≤ 963 := by
  unfold itemP itemK at h
  split at h
  · simp only [Option.some.injEq, Prod.mk.injEq] at h
    obtain ⟨rfl, _⟩ := h
    simp only [chunkN_len]
    exact cnP_le _ _ _
  · split at h
    · simp only [Option.some.injEq, Prod.mk.injEq] at h
      obtain ⟨rfl, _⟩ := h
      simp
    · split at h
      · simp only [Option.some.injEq, Prod.mk.injEq] at h
        obtain ⟨rfl, _⟩ := h
        simp
      · simp at h
theorem itemsN_le {data : List UInt8} {s0 : RS} : ∀ {k : Nat} {l : List Item} {s : RS}, itemsN data s0 k = some (l, s) → l.length = k ∧ ∀ it ∈ l, it.chunks.length ≤ 963
  | 0, l, s, h => by
    simp only [itemsN, Option.some.injEq, Prod.mk.injEq] at h
    obtain ⟨rfl, _⟩ := h
    exact ⟨rfl, by simp⟩
  | k + 1, l, s, h => by
    rw [itemsN_succ, Option.bind_eq_some_iff] at h
    obtain ⟨⟨l0, s1⟩, h1, h2⟩ := h
    rw [Option.map_eq_some_iff] at h2
    obtain ⟨⟨it, s2⟩, h3, h4⟩ := h2
    simp only [Prod.mk.injEq] at h4
    obtain ⟨rfl, _⟩ := h4
    obtain ⟨k1, k2⟩ := itemsN_le h1
    refine ⟨by simp [k1], fun x hx => ?_⟩
    rcases List.mem_append.1 hx with hx | hx
    · exact k2 x hx
    · simp only [List.mem_singleton] at hx; subst hx; exact chunks_le h3
theorem itemsP_le {data : List UInt8} {l : List Item} (h : itemsP data = some l) : l.length ≤ 4096 ∧ ∀ it ∈ l, it.chunks.length ≤ 963 := by
  unfold itemsP at h
  split at h
  · simp at h
  · rw [Option.bind_eq_some_iff] at h
    obtain ⟨⟨l0, s1⟩, h1, h2⟩ := h
    split at h2
    · simp only [Option.some.injEq] at h2
      subst h2
      obtain ⟨k1, k2⟩ := itemsN_le h1
      exact ⟨by rw [k1]; exact cnP_le _ _ _, k2⟩
    · simp at h2
theorem flat_len {α β : Type} (f : α → List β) (m : Nat) : ∀ (l : List α), (∀ x ∈ l, (f x).length ≤ m) → (l.flatMap f).length ≤ l.length * m
  | [], _ => by simp
  | a :: l, h => by
    have h1 := flat_len f m l (fun x hx => h x (by simp [hx]))
    have h2 := h a (by simp)
    rw [List.flatMap_cons, List.length_append, List.length_cons, Nat.succ_mul]
    omega
theorem csRefs_le {cs : List (ByteArray × List UInt8)} : (csRefs cs).length ≤ cs.length * 3948544 := flat_len _ _ cs (fun p _ => by
  cases h : itemsP p.2 with
  | none => simp
  | some l =>
    obtain ⟨h1, h2⟩ := itemsP_le h
    simp only
    have h3 := flat_len itRefs 964 l (fun it hit => by have := h2 it hit; simp [itRefs]; omega)
    exact Nat.le_trans h3 (Nat.le_trans (Nat.mul_le_mul_right 964 h1) (by decide)))
theorem needF_ok {cs : List (ByteArray × List UInt8)} (h : cs.length ≤ 80) : NeedOk cs (needF cs) := fun r _ => by
  obtain ⟨x, st', h1, h2⟩ := walk_ends cs r
  refine ⟨fuelN cs, ?_, fun p hp => ?_⟩
  · unfold needF
    have : ∃ y, needP (nodeP cs) (fuelN cs) r = some y := by
      unfold needP
      split
      · rw [h1]; exact ⟨_, rfl⟩
      · exact ⟨_, rfl⟩
    obtain ⟨y, hy⟩ := this
    rw [hy]; rfl
  · rw [h1] at hp
    simp only [Option.some.injEq] at hp
    subst hp
    have h3 := nodup_le h2.l1 h2.l2
    have h4 := csRefs_le (cs := cs)
    have h5 : cs.length * 3948544 ≤ 80 * 3948544 := Nat.mul_le_mul_right _ h
    simp only [List.length_cons] at h3
    simp only
    omega
theorem needF_nodup {cs : List (ByteArray × List UInt8)} {r : Ref} {l : List Ref} (h : needF cs r = .ok l) (hv : vRef r = true) : l.Nodup := by
  obtain ⟨x, st', h1, h2⟩ := walk_ends cs r
  unfold needF needP at h
  rw [if_pos hv, h1] at h
  simp only [Option.map_some, Option.getD_some] at h
  split at h
  · simp only [Except.ok.injEq] at h; subst h; exact h2.l1
  · simp at h
theorem needF_nd {cs : List (ByteArray × List UInt8)} {r : Ref} {l : List Ref} (h : needF cs r = .ok l) : l.Nodup := by
  cases hv : vRef r
  · unfold needF needP at h
    rw [if_neg (by rw [hv]; simp)] at h
    simp at h
  · exact needF_nodup h hv

end Go.Proofs.YtndgmcggckpgfaaGreatDoor

/- Contracts of the reference of package liveness: Each (what Refs does, given). -/
namespace Go.Proofs.YtndgmcggckpgfaaGreatDoor
open Go.RowKit

/-- What the reference's Refs does, for every root. -/
def RefsOf (cs : List (ByteArray × List UInt8)) (need : Ref → Except Int (List Ref)) : Prop := ∀ (S : Nat → Prop) (cv : Value) (root : Ref) (w : World), ContAt S w cv cs → Env w → RefOk root → Calls Tryz.prog 30 #[refV root, cv] w (NeedRes (need root) w)
set_option maxRecDepth 100000 in
set_option maxHeartbeats 2000000 in
theorem each48_any (cs : List (ByteArray × List UInt8)) (need : Ref → Except Int (List Ref)) (hn : RefsOf cs need) (S T : Nat → Prop) (sv cv : Value) (roots : List Ref) (w : World) (hs : SnapsAt T w sv roots) (hc : ContAt S w cv cs) (henv : Env w) (hlen : roots.length < 1000000) :
    Calls Tryz.prog 11 #[sv, cv] w (EachRes (eachP need roots) w) := by
  obtain ⟨a, cap, rfl, hcp, hm, -⟩ := SeqAt.shape hs SnapR.len
  unfold maxLen at hm
  have HN := Lib.hid hn
  have HS := Lib.hid hs
  have HC := Lib.hid hc
  have HE := Lib.hid henv
  have HO0 := Lib.hid (World.ownsRow_lit (e := 26) (size := 1) (base := w.heap.size) w #[] 0 (Nat.le_refl _) (Nat.zero_le _) (by simp))
  have HB0 := Lib.hid ((Below.refl w.heap.size w).alloc (Nat.le_refl _) (.cells #[] 26))
  clear hs hc henv hn
  go_enter Tryz.func11, Tryz.ntmps11
  go_wp2_with fail
  go_loopw [6, 7] (fun o i wr => ∃ (k : Nat) (ls : List (List Ref)) (cells : List Value), k ≤ roots.length ∧ i = .int .i64 k ∧ eachP need (roots.take k) = .ok ls ∧ ls.length = k ∧ wr.ownsRow w.heap.size 26 1 o ls.length cells ∧ RowsIn (ListR (fun k => w.heap.size ≤ k ∧ o.ownBlock ≠ some k) wr) cells ls ∧ Below w.heap.size w wr) (fun _ i _ => roots.length - (intOf i).toNat)
  case atStart => exact ⟨0, [], [], Nat.zero_le _, rfl, rfl, rfl, HO0.out, rfl, HB0.out⟩
  case round =>
    obtain ⟨k, ls, cells, hk, rfl, hep, hlk, hown, hrows, hb⟩ := hrel
    have HEP := Lib.hid hep
    have HLK := Lib.hid hlk
    have HO := Lib.hid hown
    have HRW := Lib.hid hrows
    have HB := Lib.hid hb
    obtain ⟨ao, co, hov, hn2, hm2⟩ := owns_shape hown
    subst hov
    clear hep hlk hown hrows hb
    by_cases hlt : k < roots.length
    · obtain ⟨r, hr⟩ : ∃ r, roots[k]? = some r := ⟨roots[k], by simp [hlt]⟩
      obtain ⟨b, o, a1, a2, a3, a4, a5, p, h, rfl, hrok, hcl⟩ := snaps_at HS.out HB.out hr
      have HR := Lib.hid hr
      have HRO := Lib.hid hrok
      have q0 := hcl 0 (by omega)
      have q1 := hcl 1 (by omega)
      have q2 := hcl 2 (by omega)
      have q3 := hcl 3 (by omega)
      have q4 := hcl 4 (by omega)
      have q5 := hcl 5 (by omega)
      have q6 := hcl 6 (by omega)
      have q7 := hcl 7 (by omega)
      have q8 := hcl 8 (by omega)
      have q9 := hcl 9 (by omega)
      simp only [List.getElem?_cons_zero, List.getElem?_cons_succ, Nat.add_zero] at q0 q1 q2 q3 q4 q5 q6 q7 q8 q9
      have HC1 := Lib.hid (HC.out.below HB.out)
      have HE1 := Lib.hid (HE.out.below HB.out)
      clear hr hrok hcl
      go_wp2_with fail
      refine (HN.out S cv r _ HC1.out HE1.out HRO.out).mono ?_
      rintro e w1 ⟨hb1, hres⟩
      have HB1 := Lib.hid (below_next HB.out hb1)
      have HBr := Lib.hid (show Below wr.heap.size wr w1 from hb1)
      have hzr : wr.heap.size ≤ w1.heap.size := hb1.size
      clear hb1 q0 q1 q2 q3 q4 q5 q6 q7 q8 q9
      cases hnd : need r with
      | error x =>
        rw [hnd] at hres
        obtain ⟨rfl, hx⟩ := hres
        have e1 : (x != 0) = true := by simp [hx]
        have HX := Lib.hid hx
        have HRES := Lib.hid (eachP_bad HEP.out HR.out hnd)
        clear hnd hx
        go_wp2_with fail
        go_ret2
        exact ⟨HB1.out, by rw [HRES.out]; exact ⟨rfl, HX.out⟩⟩
      | ok rl =>
        rw [hnd] at hres
        obtain ⟨rv, rfl, hrv⟩ := hres
        have HRV := Lib.hid hrv
        obtain ⟨ra, rc, rfl, -, -, -⟩ := SeqAt.shape hrv RefR.len
        have HEP2 := Lib.hid (show eachP need (roots.take (k + 1)) = .ok (ls ++ [rl]) by rw [take_snoc' HR.out]; exact eachP_snoc HEP.out hnd)
        have HO1 := Lib.hid (owns_below HO.out HBr.out)
        have hbz := HB1.out.size
        have hll : ls.length < 1000000 := by have := HLK.out; omega
        clear hnd hrv
        go_wp2_with (at_builtin; go_must (refine wpList_app1p Tryz.appLists rfl _ _ rfl w.heap.size (.slice ao ls.length co) ls.length cells rfl w1 [.slice ra rl.length rc] _ rfl rfl (by simp; rfl) HO1.out (by omega) hbz ?_); intro v' wc hown' hgrow' _ hpl; have HB2 := Lib.hid (below_grown HB1.out HO1.out hgrow' (Nat.le_refl _) hbz); have HGR := Lib.hid hgrow'; have HPL := Lib.hid hpl; have HO2 := Lib.hid (show wc.ownsRow w.heap.size 26 1 v' (ls ++ [rl]).length (cells ++ [.slice ra rl.length rc]) by rw [List.length_append]; exact hown'); obtain ⟨ae, ce, rfl, -, -⟩ := owns_shape hown'; clear hown' hgrow' hpl)
        go_roundw
        case rel =>
          have hbsz := HBr.out.size
          refine ⟨k + 1, ls ++ [rl], cells ++ [.slice ra rl.length rc], by omega, by go_num, HEP2.out, by simp [HLK.out], HO2.out, RowsIn.snoc (HRW.out.mono (fun c x _ ⟨a, cap, h1, h2⟩ => ⟨a, cap, h1, RefsAt.same h2 (fun k hk hS => ⟨⟨hS.1, fun e => ?_⟩, ?_⟩)⟩)) ⟨ra, rc, rfl, RefsAt.same HRV.out (fun k hk hS => ⟨⟨?_, fun e => ?_⟩, ?_⟩)⟩, HB2.out⟩
          · have := HB.out.size; have hS2 : wr.heap.size ≤ k := hS; omega
          · have hS2 : wr.heap.size ≤ k := hS
            rcases HPL.out k e with e | e
            · have := (HO.out.lt k e).2; omega
            · omega
          · refine HGR.out.block k hk (fun e => ?_)
            have hS2 : wr.heap.size ≤ k := hS
            have := (HO.out.lt k e.symm).2
            omega
          · rcases HPL.out k e with e | e
            · exact hS.2 e
            · omega
          · rw [HGR.out.block k (by omega) (fun e => hS.2 e.symm)]
            exact HBr.out.block k hk
        case measure => simp [intOf]; omega
    · obtain rfl : k = roots.length := by omega
      have HEP2 := Lib.hid (show eachP need roots = .ok ls by have := HEP.out; rwa [List.take_of_length_le (Nat.le_refl _)] at this)
      go_wp2_with fail
      go_ret2
      refine ⟨HB.out, by rw [HEP2.out]; exact ⟨_, rfl, cells, (row_of_owns HO.out).weak (fun k hk => hk.1), HRW.out.mono (fun c x _ ⟨a, cap, h1, h2⟩ => ⟨a, cap, h1, RefsAt.same h2 (fun k _ hS => ⟨hS.1, rfl⟩)⟩)⟩⟩

end Go.Proofs.YtndgmcggckpgfaaGreatDoor
