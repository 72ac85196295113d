/- Texts of this proof, one after the other: Map, MapS, Base, Own, Seq, Plain, Glob, PlainB, OrdP, RefP, RejP, Libc, PathA, PathB, TreeP, TreeQ, TreeR, TreeS. -/
import Derived.Maps.OwnSet
import Derived.Maps.OwnOps
import Derived.DeepKeys5
import Derived.WalkKit
import Derived.Maps.RangeWalk
import Derived.Test.YtdieneaillkbgaaGreatDoorRows
import Derived.Test.YtdieneaillkbgaaGreatDoorShelf
import Derived.WalkSpells
import Derived.WalkLawsBesides
import Derived.Lib.Hide
import Derived.WalkSmall
import Derived.Deep.QuietTactic
import Derived.BigQuiet
import Derived.Lib.ValidLaws
import Derived.Lib.TrimUEq
import Derived.Lib.MapLaws
import Derived.Lib.SplitLaws
import Derived.Lib.Join
import Derived.Lib.Small
import Derived.Laws.RangeAny
/- Maps that the call itself makes, by their entries in the order in which they were made. -/
namespace Go.Proofs.YtdieneaillkbgaaGreatDoor
open Go Go.RowKit Go.Maps

/-- Block b holds a map with the entries m, in the order in which they came. -/
def MapIs (P : Program) (k : TypeId) (w : World) (b : Nat) (m : List (Value × Value)) : Prop :=
  ∃ es clock, w.heap[b]? = some (.map es clock) ∧ es.toList.map (fun e => (e.key, e.val)) = m ∧ (m.map Prod.fst).Nodup ∧ ∀ p ∈ m, ∃ l, keyOf P k p.1 = some l

theorem heapSame {w : World} {b : Nat} {x : Obj} (hb : w.heap[b]? = some x) (o : Obj) : (ChangeMaps.setBlock w b o).heap[b]? = some o := by
  have := (Array.getElem?_eq_some_iff.1 hb).1
  simp [ChangeMaps.setBlock, this]
theorem heapOther {w : World} {b : Nat} {x : Obj} (_ : w.heap[b]? = some x) (o : Obj) {i : Nat} (h : i ≠ b) : (ChangeMaps.setBlock w b o).heap[i]? = w.heap[i]? := by
  simp [ChangeMaps.setBlock, Ne.symm h]
section
variable {P : Program} {k t e : TypeId} {w w' : World} {b : Nat} {m : List (Value × Value)} {key val z : Value}
theorem MapIs.lt (h : MapIs P k w b m) : b < w.heap.size := by
  obtain ⟨es, clock, hb, _⟩ := h
  exact (Array.getElem?_eq_some_iff.1 hb).1
theorem MapIs.same (h : MapIs P k w b m) (hs : w'.heap[b]? = w.heap[b]?) : MapIs P k w' b m := by
  obtain ⟨es, clock, hb, h2⟩ := h
  exact ⟨es, clock, hs.trans hb, h2⟩
theorem MapIs.made (w : World) : MapIs P k (w.alloc (.map #[] 0)) w.heap.size [] := ⟨#[], 0, (MapKept.heap_alloc w _).1, rfl, List.nodup_nil, by simp⟩
theorem MapIs.keys {es : Array MapEntry} (h : es.toList.map (fun e => (e.key, e.val)) = m) (hk : ∀ p ∈ m, ∃ l, keyOf P k p.1 = some l) : ∀ x ∈ es.toList, ∃ l, keyOf P k x.key = some l := fun x hx => hk (x.key, x.val) (by rw [← h]; exact List.mem_map.2 ⟨x, hx, rfl⟩)
theorem nodup_val : ∀ {m : List (Value × Value)} {key v v' : Value}, (m.map Prod.fst).Nodup → (key, v) ∈ m → (key, v') ∈ m → v = v'
  | [], _, _, _, _, h, _ => by simp at h
  | (a, x) :: m, key, v, v', hn, h, h' => by
    simp only [List.map_cons, List.nodup_cons] at hn
    rcases List.mem_cons.1 h with h | h <;> rcases List.mem_cons.1 h' with h' | h'
    · cases h; cases h'; rfl
    · cases h
      exact absurd (List.mem_map.2 ⟨_, h', rfl⟩) hn.1
    · cases h'
      exact absurd (List.mem_map.2 ⟨_, h, rfl⟩) hn.1
    · exact nodup_val hn.2 h h'
theorem MapIs.hit (h : MapIs P k w b m) (K : Keyed P k) (ht : P.underlying t = some (.map k e)) (hkey : ∃ l, keyOf P k key = some l) (hm : (key, val) ∈ m) (c : Bool) :
    (Instr.lookup t (.map (some b)) key c).run P w = .ok (if c then .tuple #[val, .bool true] else val) w := by
  obtain ⟨es, clock, hb, he, hn, hk⟩ := h
  obtain ⟨kl, hkl⟩ := hkey
  rcases K.find w hkl es.toList (MapIs.keys he hk) with ⟨h1, h2⟩ | ⟨j, e0, h1, h2, h3⟩
  · rw [← he] at hm
    obtain ⟨x, hx, hxe⟩ := List.mem_map.1 hm
    exact absurd (congrArg Prod.fst hxe) (h2 x hx)
  · have hv : e0.val = val := by
      refine nodup_val hn (key := key) ?_ hm
      rw [← he, ← h3]
      exact List.mem_map.2 ⟨e0, List.mem_of_getElem? h2, rfl⟩
    cases c <;> simp [Instr.lookup, run_underlying ht, MapKept.run_getObj_map hb, K.check w _ hkl, h1, hv, Result.andThen]
theorem MapIs.miss (h : MapIs P k w b m) (K : Keyed P k) (ht : P.underlying t = some (.map k e)) (hz : (zeroValue e).run P w = .ok z w) (hkey : ∃ l, keyOf P k key = some l) (hm : ∀ p ∈ m, p.1 ≠ key) (c : Bool) :
    (Instr.lookup t (.map (some b)) key c).run P w = .ok (if c then .tuple #[z, .bool false] else z) w := by
  obtain ⟨es, clock, hb, he, hn, hk⟩ := h
  obtain ⟨kl, hkl⟩ := hkey
  rcases K.find w hkl es.toList (MapIs.keys he hk) with ⟨h1, h2⟩ | ⟨j, e0, h1, h2, h3⟩
  · cases c <;> simp [Instr.lookup, run_underlying ht, MapKept.run_getObj_map hb, K.check w _ hkl, h1, hz, Result.andThen]
  · exact absurd h3 (hm (e0.key, e0.val) (by rw [← he]; exact List.mem_map.2 ⟨e0, List.mem_of_getElem? h2, rfl⟩))
theorem MapIs.put (h : MapIs P k w b m) (K : Keyed P k) (ht : P.underlying t = some (.map k e)) (hkey : ∃ l, keyOf P k key = some l) (hm : ∀ p ∈ m, p.1 ≠ key) (val : Value) :
    ∃ w', (Instr.mapUpdate t (.map (some b)) key val).run P w = .ok () w' ∧ MapIs P k w' b (m ++ [(key, val)]) ∧ w.grownBy w' (some b) := by
  obtain ⟨es, clock, hb, he, hn, hk⟩ := h
  obtain ⟨kl, hkl⟩ := hkey
  rcases K.find w hkl es.toList (MapIs.keys he hk) with ⟨h1, h2⟩ | ⟨j, e0, h1, h2, h3⟩
  · refine ⟨ChangeMaps.setBlock w b (.map (es.push ⟨key, val, clock⟩) (clock + 1)), ?_, ⟨_, _, heapSame hb _, ?_, ?_, ?_⟩, ⟨rfl, rfl, rfl, by simp [ChangeMaps.setBlock], fun i _ hi => heapOther hb _ (fun e => hi (by rw [e]))⟩⟩
    · simp [Instr.mapUpdate, run_underlying ht, MapKept.run_getObj_map hb, K.check w false hkl, h1, MapKept.run_setObj_map _ hb, Result.andThen, ChangeMaps.setBlock]
    · simp [← he]
    · rw [List.map_append, List.nodup_append]
      refine ⟨hn, by simp, fun a ha b' hb' e => ?_⟩
      obtain ⟨p, hp, rfl⟩ := List.mem_map.1 ha
      simp only [List.map_cons, List.map_nil, List.mem_singleton] at hb'
      exact hm p hp (e.trans hb')
    · intro p hp
      rcases List.mem_append.1 hp with hp | hp
      · exact hk p hp
      · simp only [List.mem_singleton] at hp
        subst hp
        exact ⟨kl, hkl⟩
  · exact absurd h3 (hm (e0.key, e0.val) (by rw [← he]; exact List.mem_map.2 ⟨e0, List.mem_of_getElem? h2, rfl⟩))
end
/-- m[k] = v where k is new, at the operation. -/
theorem wpList_put {P : Program} {w : World} {ops : Array Oper} {rest : List Oper} {o : Oper} {a : Act} {Q : Exit → Act → World → Prop} {k e : TypeId} (K : Keyed P k) (hg : o.guard = none) (mo x v : Operand) (t : TypeId) (hop : o.op = Op.mapUpdate t mo x v)
    (ht : P.underlying t = some (.map k e)) (b : Nat) (m : List (Value × Value)) (h : MapIs P k w b m) (hmo : a.eval mo = .map (some b)) (key val : Value) (hx : a.eval x = key) (hv : a.eval v = val) (hkey : ∃ l, keyOf P k key = some l) (hnew : ∀ p ∈ m, p.1 ≠ key)
    (hK : ∀ w', MapIs P k w' b (m ++ [(key, val)]) → w.grownBy w' (some b) → wpList P ops Q rest (a.put o.dst undef) w') : wpList P ops Q (o :: rest) a w := by
  refine wpList_plain hg fun K' hK' => ?_
  obtain ⟨w', hrun, r1, r2⟩ := h.put K ht hkey hnew val
  unfold Oper.wp
  simp [execOp, hop, hmo, hx, hv, hrun, Result.andThen]
  exact hK' _ _ (hK w' r1 r2)

end Go.Proofs.YtdieneaillkbgaaGreatDoor

/- Maps that a call owns, with their stamps: looked up, laid into, written over, struck out of, ranged over. -/
namespace Go.Proofs.YtdieneaillkbgaaGreatDoor
open Go Go.RowKit Go.Maps Go.MapKept
open Go.ChangeMaps (modify_eq_set map_eraseIdx)

/-- Block b holds a map with the entries m. -/
def MapS (P : Program) (k : TypeId) (w : World) (b : Nat) (m : List (Value × Value)) : Prop :=
  ∃ es clock, w.heap[b]? = some (.map es clock) ∧ es.toList.map (fun e => (e.key, e.val)) = m ∧ Stamped es clock ∧ ∀ p ∈ m, ∃ l, keyOf P k p.1 = some l
section
variable {P : Program} {k t e : TypeId} {w w' : World} {b : Nat} {m : List (Value × Value)} {key val z : Value}
theorem keys_distinct {es : Array MapEntry} {clock : Nat} (h : Stamped es clock) : ((es.toList.map (fun e => (e.key, e.val))).map Prod.fst).Nodup := by
  rw [List.map_map]
  have := ((stamped_iff es clock).1 h).2.2
  unfold List.Nodup
  rw [List.pairwise_map]
  exact this
theorem MapS.is (h : MapS P k w b m) : MapIs P k w b m := by
  obtain ⟨es, clock, hb, he, hs, hk⟩ := h
  exact ⟨es, clock, hb, he, by rw [← he]; exact keys_distinct hs, hk⟩
theorem MapS.lt (h : MapS P k w b m) : b < w.heap.size := h.is.lt
theorem MapS.same (h : MapS P k w b m) (hs : w'.heap[b]? = w.heap[b]?) : MapS P k w' b m := by
  obtain ⟨es, clock, hb, h2⟩ := h
  exact ⟨es, clock, hs.trans hb, h2⟩
theorem MapS.made (w : World) : MapS P k (w.alloc (.map #[] 0)) w.heap.size [] := ⟨#[], 0, (MapKept.heap_alloc w _).1, rfl, stamped_empty 0, by simp⟩
theorem MapS.nodup (h : MapS P k w b m) : (m.map Prod.fst).Nodup := by obtain ⟨_, _, _, _, hn, _⟩ := h.is; exact hn
theorem grown_setBlock {w : World} {b : Nat} {x : Obj} (hb : w.heap[b]? = some x) (o : Obj) : w.grownBy (ChangeMaps.setBlock w b o) (some b) :=
  ⟨rfl, rfl, rfl, by simp [ChangeMaps.setBlock], fun i _ hi => heapOther hb _ (fun e => hi (by rw [e]))⟩
theorem MapS.put (h : MapS P k w b m) (K : Keyed P k) (ht : P.underlying t = some (.map k e)) (hkey : ∃ l, keyOf P k key = some l) (hm : ∀ p ∈ m, p.1 ≠ key) (val : Value) :
    ∃ w', (Instr.mapUpdate t (.map (some b)) key val).run P w = .ok () w' ∧ MapS P k w' b (m ++ [(key, val)]) ∧ w.grownBy w' (some b) := by
  obtain ⟨es, clock, hb, he, hst, hk⟩ := h
  obtain ⟨kl, hkl⟩ := hkey
  rcases K.find w hkl es.toList (MapIs.keys he hk) with ⟨h1, h2⟩ | ⟨j, e0, h1, h2, h3⟩
  · refine ⟨ChangeMaps.setBlock w b (.map (es.push ⟨key, val, clock⟩) (clock + 1)), ?_, ⟨_, _, heapSame hb _, ?_, stamped_push hst h2, ?_⟩, grown_setBlock hb _⟩
    · simp [Instr.mapUpdate, run_underlying ht, MapKept.run_getObj_map hb, K.check w false hkl, h1, MapKept.run_setObj_map _ hb, Result.andThen, ChangeMaps.setBlock]
    · simp [← he]
    · intro p hp
      rcases List.mem_append.1 hp with hp | hp
      · exact hk p hp
      · simp only [List.mem_singleton] at hp
        subst hp
        exact ⟨kl, hkl⟩
  · exact absurd h3 (hm (e0.key, e0.val) (by rw [← he]; exact List.mem_map.2 ⟨e0, List.mem_of_getElem? h2, rfl⟩))
/-- m[k] = v where k is there already. -/
theorem MapS.over {m1 m2 : List (Value × Value)} {old : Value} (h : MapS P k w b (m1 ++ (key, old) :: m2)) (K : Keyed P k) (ht : P.underlying t = some (.map k e)) (val : Value) :
    ∃ w', (Instr.mapUpdate t (.map (some b)) key val).run P w = .ok () w' ∧ MapS P k w' b (m1 ++ (key, val) :: m2) ∧ w.grownBy w' (some b) := by
  have hnd := h.nodup
  obtain ⟨es, clock, hb, he, hst, hk⟩ := h
  obtain ⟨kl, hkl⟩ := hk (key, old) (by simp)
  rcases K.find w hkl es.toList (MapIs.keys he hk) with ⟨h1, h2⟩ | ⟨j, e0, h1, h2, h3⟩
  · exfalso
    have : (key, old) ∈ es.toList.map (fun e => (e.key, e.val)) := by rw [he]; simp
    obtain ⟨x, hx, hxe⟩ := List.mem_map.1 this
    exact h2 x hx (congrArg Prod.fst hxe)
  · have hj : es[j]? = some e0 := by simpa using h2
    have hlist : (es.modify j (fun e' => { e' with key := key, val := val })).toList = es.toList.set j { e0 with key := key, val := val } := by rw [Array.toList_modify, modify_eq_set _ _ _ _ h2]
    have hjm : j = m1.length := by
      have h4 : (m1 ++ (key, old) :: m2)[j]? = some (e0.key, e0.val) := by rw [← he, List.getElem?_map, h2]; rfl
      have h5 : ((m1 ++ (key, old) :: m2).map Prod.fst)[j]? = some key := by rw [List.getElem?_map, h4]; simp [h3]
      have h6 : ((m1 ++ (key, old) :: m2).map Prod.fst)[m1.length]? = some key := by simp
      have hjl := (List.getElem?_eq_some_iff.1 h5).1
      exact (List.getElem?_inj hjl hnd).1 (h5.trans h6.symm)
    refine ⟨ChangeMaps.setBlock w b (.map (es.modify j (fun e' => { e' with key := key, val := val })) clock), ?_, ⟨_, _, heapSame hb _, ?_, ?_, ?_⟩, grown_setBlock hb _⟩
    · simp [Instr.mapUpdate, run_underlying ht, MapKept.run_getObj_map hb, K.check w false hkl, h1, hj, h3, K.stays w hkl, MapKept.run_setObj_map _ hb, Result.andThen, ChangeMaps.setBlock]
    · rw [hlist, List.map_set, he, hjm]
      simp
    · exact stamped_modify hst j _ (fun _ _ => rfl) (fun e' _ he' => by rw [hj] at he'; cases he'; exact h3.symm)
    · intro p hp
      rcases List.mem_append.1 hp with hp | hp
      · exact hk p (by simp [hp])
      · rcases List.mem_cons.1 hp with rfl | hp
        · exact ⟨kl, hkl⟩
        · exact hk p (by simp [hp])
/-- delete(m, k). -/
theorem MapS.del {m1 m2 : List (Value × Value)} {old : Value} (h : MapS P k w b (m1 ++ (key, old) :: m2)) (K : Keyed P k) (ht : P.underlying t = some (.map k e)) (ty : TypeId) :
    ∃ w', (Builtin.delete_ #[t, k] ty #[.map (some b), key]).run P w = .ok (.tuple #[]) w' ∧ MapS P k w' b (m1 ++ m2) ∧ w.grownBy w' (some b) := by
  have hnd := h.nodup
  obtain ⟨es, clock, hb, he, hst, hk⟩ := h
  obtain ⟨kl, hkl⟩ := hk (key, old) (by simp)
  rcases K.find w hkl es.toList (MapIs.keys he hk) with ⟨h1, h2⟩ | ⟨j, e0, h1, h2, h3⟩
  · exfalso
    have : (key, old) ∈ es.toList.map (fun e => (e.key, e.val)) := by rw [he]; simp
    obtain ⟨x, hx, hxe⟩ := List.mem_map.1 this
    exact h2 x hx (congrArg Prod.fst hxe)
  · have hjl : j < es.toList.length := (List.getElem?_eq_some_iff.1 h2).1
    have hjs : j < es.size := by simpa using hjl
    have hsub : (es.eraseIdxIfInBounds j).toList = es.toList.eraseIdx j := by
      unfold Array.eraseIdxIfInBounds
      rw [dif_pos hjs]
      simp
    have hjm : j = m1.length := by
      have h4 : (m1 ++ (key, old) :: m2)[j]? = some (e0.key, e0.val) := by rw [← he, List.getElem?_map, h2]; rfl
      have h5 : ((m1 ++ (key, old) :: m2).map Prod.fst)[j]? = some key := by rw [List.getElem?_map, h4]; simp [h3]
      have h6 : ((m1 ++ (key, old) :: m2).map Prod.fst)[m1.length]? = some key := by simp
      have hjl := (List.getElem?_eq_some_iff.1 h5).1
      exact (List.getElem?_inj hjl hnd).1 (h5.trans h6.symm)
    refine ⟨ChangeMaps.setBlock w b (.map (es.eraseIdxIfInBounds j) clock), ?_, ⟨_, _, heapSame hb _, ?_, stamped_erase hst j, ?_⟩, grown_setBlock hb _⟩
    · simp [Builtin.delete_, run_underlying ht, MapKept.run_getObj_map hb, K.check w _ hkl, h1, MapKept.run_setObj_map _ hb, Result.andThen, ChangeMaps.setBlock]
    · rw [hsub, map_eraseIdx, he, hjm]
      rw [List.eraseIdx_append_of_length_le (Nat.le_refl _)]
      simp
    · intro p hp
      rcases List.mem_append.1 hp with hp | hp
      · exact hk p (by simp [hp])
      · exact hk p (by simp [hp])
theorem MapS.len (h : MapS P k w b m) (ht : P.underlying t = some (.map k e)) (ty : TypeId) : (Builtin.len_ #[t] ty #[.map (some b)]).run P w = .ok (.int .i64 (m.length : Int)) w := by
  obtain ⟨es, clock, hb, he, _⟩ := h
  have : es.size = m.length := by rw [← he]; simp
  simp [Builtin.len_, run_underlying ht, MapKept.run_getObj_map hb, goInt, Result.andThen, this]

/-- Ranging over a map: what has come. -/
def RngS (P : Program) (k : TypeId) (w : World) (b r : Nat) (m vis : List (Value × Value)) : Prop :=
  ∃ es clock since seen c0, w.heap[b]? = some (.map es clock) ∧ es.toList.map (fun e => (e.key, e.val)) = m ∧ Stamped es clock ∧ (∀ p ∈ m, ∃ l, keyOf P k p.1 = some l) ∧
    w.heap[r]? = some (.mapIter (some b) since seen c0) ∧ (∀ x ∈ es.toList, x.born < since) ∧ since ≤ c0 ∧ since ≤ clock ∧ vis.Perm ((es.toList.filter fun x => seen.contains x.born).map (fun e => (e.key, e.val)))
theorem RngS.map {r : Nat} {vis : List (Value × Value)} (h : RngS P k w b r m vis) : MapS P k w b m := by
  obtain ⟨es, clock, _, _, _, hb, he, hs, hk, _⟩ := h
  exact ⟨es, clock, hb, he, hs, hk⟩
theorem RngS.same {r : Nat} {vis : List (Value × Value)} (h : RngS P k w b r m vis) (h1 : w'.heap[b]? = w.heap[b]?) (h2 : w'.heap[r]? = w.heap[r]?) : RngS P k w' b r m vis := by
  obtain ⟨es, clock, since, seen, c0, hb, he, hs, hk, hr, h3⟩ := h
  exact ⟨es, clock, since, seen, c0, h1.trans hb, he, hs, hk, h2.trans hr, h3⟩
theorem RngS.ne {r : Nat} {vis : List (Value × Value)} (h : RngS P k w b r m vis) : r ≠ b := by
  obtain ⟨es, clock, since, seen, c0, hb, _, _, _, hr, _⟩ := h
  intro e1
  subst e1
  rw [hb] at hr
  cases hr
theorem RngS.ltr {r : Nat} {vis : List (Value × Value)} (h : RngS P k w b r m vis) : r < w.heap.size := by
  obtain ⟨_, _, _, _, _, _, _, _, _, hr, _⟩ := h
  exact (Array.getElem?_eq_some_iff.1 hr).1
theorem RngS.sub {r : Nat} {vis : List (Value × Value)} (h : RngS P k w b r m vis) : ∀ p ∈ vis, p ∈ m := by
  obtain ⟨es, clock, since, seen, c0, hb, he, hs, hk, hr, _, _, _, hv⟩ := h
  intro p hp
  obtain ⟨x, hx, rfl⟩ := List.mem_map.1 (hv.subset hp)
  rw [← he]
  exact List.mem_map.2 ⟨x, (List.mem_filter.1 hx).1, rfl⟩
theorem filter_split {α : Type} (p : α → Bool) : ∀ (l : List α), (l.filter p).length + (l.filter fun x => !p x).length = l.length
  | [] => rfl
  | a :: l => by
    have := filter_split p l
    cases h : p a <;> simp [h] <;> omega
theorem RngS.left {r : Nat} {vis : List (Value × Value)} (h : RngS P k w b r m vis) : w.rangeLeft b r + vis.length = m.length := by
  obtain ⟨es, clock, since, seen, c0, hb, he, hs, hk, hr, _, _, _, hv⟩ := h
  have h1 : w.rangeLeft b r = (leftOf es seen).size := by simp only [World.rangeLeft, hb, hr]
  have h2 : (leftOf es seen).size = (es.toList.filter fun x => !seen.contains x.born).length := by
    unfold leftOf
    rw [← Array.toList_filter, Array.length_toList]
  have h3 := filter_split (fun x : MapEntry => seen.contains x.born) es.toList
  rw [h1, h2, hv.length_eq, List.length_map, ← he, List.length_map]
  omega
theorem MapS.range (h : MapS P k w b m) (ht : P.underlying t = some (.map k e)) :
    ∃ w', (Instr.range t (.map (some b))).run P w = .ok (.pointer (some ⟨w.heap.size, 0, none⟩)) w' ∧ RngS P k w' b w.heap.size m [] ∧ Below w.heap.size w w' ∧ w'.heap.size = w.heap.size + 1 := by
  have hlt := h.lt
  obtain ⟨es, clock, hb, he, hs, hk⟩ := h
  refine ⟨_, run_range_map w t k e b es clock ht hb, ⟨es, clock, clock, #[], clock, ((MapKept.heap_alloc w _).2 b hlt).trans hb, he, hs, hk, (MapKept.heap_alloc w _).1, ((stamped_iff es clock).1 hs).1, Nat.le_refl _, Nat.le_refl _, ?_⟩, (Below.refl _ _).alloc (Nat.le_refl _) _, by simp⟩
  simp
theorem born_eq {es : Array MapEntry} {clock : Nat} (hs : Stamped es clock) {x y : MapEntry} (hx : x ∈ es.toList) (hy : y ∈ es.toList) (h : x.born = y.born) : x = y := born_inj ((stamped_iff es clock).1 hs).2.1 hx hy h
theorem perm_push {es : List MapEntry} {seen : Array Nat} {e0 : MapEntry} (hn : es.Nodup) (hinj : ∀ x ∈ es, x.born = e0.born → x = e0) (he : e0 ∈ es) (h0 : seen.contains e0.born = false) :
    ((es.filter fun x => seen.contains x.born) ++ [e0]).Perm (es.filter fun x => (seen.push e0.born).contains x.born) := by
  refine (List.perm_ext_iff_of_nodup ?_ (hn.filter _)).2 (fun x => ?_)
  · rw [List.nodup_append]
    refine ⟨hn.filter _, by simp, fun a ha c hc => ?_⟩
    simp only [List.mem_singleton] at hc
    subst hc
    rintro rfl
    rw [List.mem_filter] at ha
    rw [ha.2] at h0
    cases h0
  · simp only [List.mem_append, List.mem_filter, List.mem_singleton, contains_push, Bool.or_eq_true, beq_iff_eq]
    constructor
    · rintro (⟨h1, h2⟩ | rfl)
      · exact ⟨h1, .inl h2⟩
      · exact ⟨he, .inr rfl⟩
    · rintro ⟨h1, h2 | h2⟩
      · exact .inl ⟨h1, h2⟩
      · exact .inr (hinj x h1 h2)
/-- The step. -/
theorem RngS.next {r : Nat} {vis : List (Value × Value)} (h : RngS P k w b r m vis) (ty : TypeId) :
    (vis.Perm m ∧ (Instr.next (.pointer (some ⟨r, 0, none⟩)) false ty).run P w = .ok (.tuple #[.bool false]) w) ∨
    ∃ key v w', (key, v) ∈ m ∧ (∀ p ∈ vis, p.1 ≠ key) ∧ (Instr.next (.pointer (some ⟨r, 0, none⟩)) false ty).run P w = .ok (.tuple #[.bool true, key, v]) w' ∧
      RngS P k w' b r m (vis ++ [(key, v)]) ∧ w.grownBy w' (some r) ∧ w'.heap.size = w.heap.size ∧ (Instr.entry (.pointer (some ⟨r, 0, none⟩))).run P w' = .ok (.tuple #[key, v]) w' := by
  have hne := h.ne
  obtain ⟨es, clock, since, seen, c0, hb, he, hs, hk, hr, hold, hsc, hsk, hv⟩ := h
  have hsi := (stamped_iff es clock).1 hs
  rcases run_next_at (P := P) w ty r b since c0 seen es clock hr hb hold hsc with ⟨h0, hrun⟩ | ⟨e0, he0, w1, hal, hrun⟩
  · refine Or.inl ⟨?_, hrun⟩
    have : (es.toList.filter fun x => seen.contains x.born) = es.toList := by
      rw [List.filter_eq_self]
      intro x hx
      exact all_seen es seen h0 x hx
    rw [this, he] at hv
    exact hv
  · obtain ⟨hem, hes⟩ := mem_left he0
    have hr1 : w1.heap[r]? = some (.mapIter (some b) since seen c0) := by rcases hal with rfl | rfl <;> exact hr
    have hb1 : w1.heap[b]? = some (.map es clock) := by rcases hal with rfl | rfl <;> exact hb
    have hset := heap_set (o' := .mapIter (some b) since (seen.push e0.born) clock) hr1
    have hb' : (ChangeMaps.setBlock w1 r (.mapIter (some b) since (seen.push e0.born) clock)).heap[b]? = some (.map es clock) := (hset.2 b (fun e1 => hne e1.symm)).trans hb1
    have hnd : es.toList.Nodup := by
      have := hsi.2.1
      unfold List.Nodup at this
      rw [List.pairwise_map] at this
      exact this.imp (fun h e => h (by rw [e]))
    have hinj : ∀ x ∈ es.toList, x.born = e0.born → x = e0 := fun x hx hxb => born_eq hs hx hem hxb
    have hpp := perm_push hnd hinj hem hes
    refine Or.inr ⟨e0.key, e0.val, _, by rw [← he]; exact List.mem_map.2 ⟨e0, hem, rfl⟩, fun p hp hpk => ?_, hrun, ⟨es, clock, since, seen.push e0.born, clock, hb', he, hs, hk, hset.1, hold, hsk, hsk, ?_⟩, ?_, ?_,
      run_entry_at _ r b since seen es clock e0 hset.1 hb' hem hsi.2.1⟩
    · obtain ⟨x, hx, rfl⟩ := List.mem_map.1 (hv.subset hp)
      obtain ⟨hx1, hx2⟩ := List.mem_filter.1 hx
      have : x = e0 := entry_eq_of_key hsi.2.2 hx1 hem hpk
      subst this
      rw [hx2] at hes
      cases hes
    · refine (hv.append_right _).trans ?_
      have := hpp.map (fun e : MapEntry => (e.key, e.val))
      rw [List.map_append] at this
      exact this
    · rcases hal with rfl | rfl <;> exact ⟨rfl, rfl, rfl, by simp [ChangeMaps.setBlock], fun i _ hi => hset.2 i (fun e1 => hi (by rw [e1]))⟩
    · rcases hal with rfl | rfl <;> simp [ChangeMaps.setBlock]
end
section
variable {P : Program} {w : World} {ops : Array Oper} {rest : List Oper} {o : Oper} {a : Act} {Q : Exit → Act → World → Prop} {k e : TypeId}
theorem wpList_rangeS (hg : o.guard = none) (mo : Operand) (t : TypeId) (hop : o.op = Op.range t mo) (ht : P.underlying t = some (.map k e)) (b : Nat) (m : List (Value × Value)) (hm : a.eval mo = .map (some b)) (h : MapS P k w b m)
    (hK : ∀ w', RngS P k w' b w.heap.size m [] → Below w.heap.size w w' → w'.heap.size = w.heap.size + 1 → wpList P ops Q rest (a.put o.dst (.pointer (some ⟨w.heap.size, 0, none⟩))) w') : wpList P ops Q (o :: rest) a w := by
  refine wpList_plain hg fun K' hK' => ?_
  obtain ⟨w', hrun, r1, r2, r3⟩ := h.range ht
  unfold Oper.wp
  simp [execOp, hop, hm, hrun, Result.andThen]
  exact hK' _ _ (hK w' r1 r2 r3)
theorem wpList_nextS (hg : o.guard = none) (it : Operand) (hop : o.op = Op.next it false) (b r : Nat) (m vis : List (Value × Value)) (hit : a.eval it = .pointer (some ⟨r, 0, none⟩)) (h : RngS P k w b r m vis)
    (hDone : vis.Perm m → wpList P ops Q rest (a.put o.dst (.tuple #[.bool false])) w)
    (hMore : ∀ (key v : Value) (w' : World), (key, v) ∈ m → (∀ p ∈ vis, p.1 ≠ key) → RngS P k w' b r m (vis ++ [(key, v)]) → w.grownBy w' (some r) → w'.heap.size = w.heap.size →
      (Instr.entry (.pointer (some ⟨r, 0, none⟩))).run P w' = .ok (.tuple #[key, v]) w' → wpList P ops Q rest (a.put o.dst (.tuple #[.bool true, key, v])) w') : wpList P ops Q (o :: rest) a w := by
  refine wpList_plain hg fun K' hK' => ?_
  unfold Oper.wp
  rcases h.next o.type with ⟨h0, hrun⟩ | ⟨key, v, w', h1, h2, hrun, h3, h4, h5, h6⟩
  · simp [execOp, hop, hit, hrun, Result.andThen]
    exact hK' _ _ (hDone h0)
  · simp [execOp, hop, hit, hrun, Result.andThen]
    exact hK' _ _ (hMore key v w' h1 h2 h3 h4 h5 h6)
theorem wpList_putS (K : Keyed P k) (hg : o.guard = none) (mo x v : Operand) (t : TypeId) (hop : o.op = Op.mapUpdate t mo x v) (ht : P.underlying t = some (.map k e)) (b : Nat) (m : List (Value × Value)) (h : MapS P k w b m) (hmo : a.eval mo = .map (some b)) (key val : Value) (hx : a.eval x = key) (hv : a.eval v = val) (hkey : ∃ l, keyOf P k key = some l) (hnew : ∀ p ∈ m, p.1 ≠ key)
    (hK : ∀ w', MapS P k w' b (m ++ [(key, val)]) → w.grownBy w' (some b) → wpList P ops Q rest (a.put o.dst undef) w') : wpList P ops Q (o :: rest) a w := by
  refine wpList_plain hg fun K' hK' => ?_
  obtain ⟨w', hrun, r1, r2⟩ := h.put K ht hkey hnew val
  unfold Oper.wp
  simp [execOp, hop, hmo, hx, hv, hrun, Result.andThen]
  exact hK' _ _ (hK w' r1 r2)
theorem wpList_overS (K : Keyed P k) (hg : o.guard = none) (mo x v : Operand) (t : TypeId) (hop : o.op = Op.mapUpdate t mo x v) (ht : P.underlying t = some (.map k e)) (b : Nat) (m1 m2 : List (Value × Value)) (key val old : Value) (h : MapS P k w b (m1 ++ (key, old) :: m2)) (hmo : a.eval mo = .map (some b)) (hx : a.eval x = key) (hv : a.eval v = val)
    (hK : ∀ w', MapS P k w' b (m1 ++ (key, val) :: m2) → w.grownBy w' (some b) → wpList P ops Q rest (a.put o.dst undef) w') : wpList P ops Q (o :: rest) a w := by
  refine wpList_plain hg fun K' hK' => ?_
  obtain ⟨w', hrun, r1, r2⟩ := h.over K ht val
  unfold Oper.wp
  simp [execOp, hop, hmo, hx, hv, hrun, Result.andThen]
  exact hK' _ _ (hK w' r1 r2)
theorem wpList_delS (K : Keyed P k) (hg : o.guard = none) (mo x : Operand) (t : TypeId) (hop : o.op = Op.call { callee := Callee.builtin Builtin.delete, args := #[mo, x], argTypes := #[t, k] }) (ht : P.underlying t = some (.map k e)) (b : Nat) (m1 m2 : List (Value × Value)) (key old : Value) (h : MapS P k w b (m1 ++ (key, old) :: m2)) (hmo : a.eval mo = .map (some b)) (hx : a.eval x = key)
    (hK : ∀ w', MapS P k w' b (m1 ++ m2) → w.grownBy w' (some b) → wpList P ops Q rest (a.put o.dst (.tuple #[])) w') : wpList P ops Q (o :: rest) a w := by
  refine wpList_plain hg fun K' hK' => ?_
  obtain ⟨w', hrun, r1, r2⟩ := h.del K ht o.type
  unfold Oper.wp
  simp [execOp, hop, resolve, invoke, builtin, hmo, hx, hrun, Result.andThen]
  exact hK' _ _ (hK w' r1 r2)
end

end Go.Proofs.YtdieneaillkbgaaGreatDoor

/- Generic words about memory: rows of cells behind a slice value, and the environment (the variables of Go's library that the program reads). -/
namespace Go.Proofs.YtdieneaillkbgaaGreatDoor
open Go.RowKit

/-- The bytes of a string. -/
def bl (s : ByteArray) : List UInt8 := s.data.toList
theorem data_bl (s : ByteArray) : s.data.toList = bl s := rfl
theorem toList_bl (s : ByteArray) : s.toList = bl s := by rw [ByteArray.toList_eq]; rfl
theorem bl_mk (l : List UInt8) : bl ⟨l.toArray⟩ = l := by simp [bl]
theorem mk_bl (s : ByteArray) : (⟨(bl s).toArray⟩ : ByteArray) = s := by cases s; simp [bl]
theorem size_bl (s : ByteArray) : s.size = (bl s).length := Lib.size_eq s
theorem bl_append (s t : ByteArray) : bl (s ++ t) = bl s ++ bl t := by simp [bl]
theorem bl_extract (s : ByteArray) (a b : Nat) : bl (s.extract a b) = ((bl s).take b).drop a := by unfold bl; rw [Lib.extract_data]; rw [List.drop_take]
theorem bl_inj {s t : ByteArray} (h : bl s = bl t) : s = t := by rw [← mk_bl s, ← mk_bl t, h]

/-- Blocks in S stand in w' as they stood in w. -/
def SameOn (S : Nat → Prop) (w w' : World) : Prop := ∀ k, S k → w'.heap[k]? = w.heap[k]?
theorem SameOn.refl (S : Nat → Prop) (w : World) : SameOn S w w := fun _ _ => rfl
theorem SameOn.trans {S : Nat → Prop} {a b c : World} (h : SameOn S a b) (k : SameOn S b c) : SameOn S a c := fun i hi => (k i hi).trans (h i hi)
theorem SameOn.cell {S : Nat → Prop} {w w' : World} (h : SameOn S w w') {a : Addr} (ha : S a.block) : w'.cell? a = w.cell? a := World.cell?_of_block (h a.block ha)
theorem SameOn.mono {S T : Nat → Prop} {w w' : World} (h : SameOn S w w') (hT : ∀ k, T k → S k) : SameOn T w w' := fun k hk => h k (hT k hk)
theorem same_of_below {B : Nat} {w w' : World} (h : Below B w w') : SameOn (· < B) w w' := fun k hk => h.block k hk

theorem block_lt {w : World} {a : Addr} {v : Value} (h : w.cell? a = some v) : a.block < w.heap.size := by
  rcases Nat.lt_or_ge a.block w.heap.size with h' | h'
  · exact h'
  · simp [World.cell?, Array.getElem?_eq_none h'] at h

/-- The slice value v holds n elements of sz cells each: the cells are `cells`; they lie in a block of S. -/
def RowAt (S : Nat → Prop) (w : World) (sz : Nat) (v : Value) (n : Nat) (cells : List Value) : Prop :=
  cells.length = n * sz ∧ ∃ a cap, v = .slice a n cap ∧ n ≤ cap ∧ cap ≤ maxLen ∧
    (n = 0 ∨ ∃ b o, a = some ⟨b, o, none⟩ ∧ S b ∧ ∀ (j : Nat) u, cells[j]? = some u → w.cell? ⟨b, o + j, none⟩ = some u)

theorem RowAt.same {S : Nat → Prop} {w w' : World} {sz : Nat} {v : Value} {n : Nat} {cells : List Value} (h : RowAt S w sz v n cells) (hs : SameOn S w w') : RowAt S w' sz v n cells := by
  obtain ⟨hl, a, cap, hv, hn, hm, h0⟩ := h
  refine ⟨hl, a, cap, hv, hn, hm, ?_⟩
  rcases h0 with h0 | ⟨b, o, ha, hb, hc⟩
  · exact .inl h0
  · exact .inr ⟨b, o, ha, hb, fun j u hu => (hs.cell (a := ⟨b, o + j, none⟩) hb).trans (hc j u hu)⟩
theorem RowAt.mono {S T : Nat → Prop} {w : World} {sz : Nat} {v : Value} {n : Nat} {cells : List Value} (h : RowAt S w sz v n cells) (hs : ∀ k, k < w.heap.size → S k → T k) : 0 < sz → RowAt T w sz v n cells := by
  intro hsz
  obtain ⟨hl, a, cap, hv, hn, hm, h0⟩ := h
  refine ⟨hl, a, cap, hv, hn, hm, ?_⟩
  rcases h0 with h0 | ⟨b, o, ha, hb, hc⟩
  · exact .inl h0
  · rcases Nat.eq_zero_or_pos n with h | h
    · exact .inl h
    · refine .inr ⟨b, o, ha, hs b ?_ hb, hc⟩
      have : 0 < cells.length := by rw [hl]; exact Nat.mul_pos h hsz
      exact block_lt (a := ⟨b, o + 0, none⟩) (hc 0 cells[0] (by simp [this]))
/-- Under Below at the heap's own size every row stays. -/
theorem RowAt.below {S : Nat → Prop} {w w' : World} {sz : Nat} {v : Value} {n : Nat} {cells : List Value} (h : RowAt S w sz v n cells) (hsz : 0 < sz) (hb : Below w.heap.size w w') : RowAt S w' sz v n cells := by
  have h2 := h.mono (T := fun k => S k ∧ k < w.heap.size) (fun k hk hS => ⟨hS, hk⟩) hsz
  have h3 := h2.same (w' := w') (fun k hk => hb.block k hk.2)
  obtain ⟨hl, a, cap, hv, hn, hm, h0⟩ := h3
  refine ⟨hl, a, cap, hv, hn, hm, ?_⟩
  rcases h0 with h0 | ⟨b, o, ha, hb, hc⟩
  · exact .inl h0
  · exact .inr ⟨b, o, ha, hb.1, hc⟩
theorem RowAt.nil (S : Nat → Prop) (w : World) (sz : Nat) : RowAt S w sz (.slice none 0 0) 0 [] := ⟨by simp, none, 0, rfl, Nat.le_refl _, by unfold maxLen; omega, .inl rfl⟩

/-- A list of strings behind a slice value. -/
def StrsAt (S : Nat → Prop) (w : World) (v : Value) (xs : List ByteArray) : Prop := RowAt S w 1 v xs.length (xs.map Value.string)

theorem StrsAt.shape {S : Nat → Prop} {w : World} {v : Value} {xs : List ByteArray} (h : StrsAt S w v xs) :
    ∃ a cap, v = .slice a xs.length cap ∧ xs.length ≤ cap ∧ cap ≤ maxLen ∧ ∀ k x, xs[k]? = some x → ∃ b o, a = some ⟨b, o, none⟩ ∧ S b ∧ w.cell? ⟨b, o + k, none⟩ = some (.string x) := by
  obtain ⟨_, a, cap, hv, hn, hm, h0⟩ := h
  refine ⟨a, cap, hv, hn, hm, fun k x hk => ?_⟩
  rcases h0 with h0 | ⟨b, o, ha, hb, hc⟩
  · simp [List.eq_nil_of_length_eq_zero h0] at hk
  · exact ⟨b, o, ha, hb, hc k _ (by simp [hk])⟩

/-- What the program reads of Go's library's variables. -/
structure Env (w : World) : Prop where
  maxLen : ∃ m, w.cell? ⟨0, 0, none⟩ = some (.int .i64 m)
  tabs : Lib.Utf8Tabs 1 2 w
theorem Env.below {w w' : World} (h : Env w) (hb : Below w.heap.size w w') : Env w' := by
  obtain ⟨⟨m, hm⟩, ht⟩ := h
  exact ⟨⟨m, (hb.cell (block_lt hm)).trans hm⟩, Utf8Tabs_below ht hb⟩
theorem Env.lt {w : World} (h : Env w) : 0 < w.heap.size ∧ 1 < w.heap.size ∧ 2 < w.heap.size := by
  obtain ⟨⟨m, hm⟩, ht⟩ := h
  exact ⟨block_lt hm, block_lt (ht.1 0 (by omega)), block_lt (ht.2 0 (by omega)).1⟩
theorem Env.belowB {B : Nat} {w w' : World} (h : Env w) (hb : Below B w w') (h0 : 0 < B) (h1 : 1 < B) (h2 : 2 < B) : Env w' := by
  obtain ⟨⟨m, hm⟩, ht⟩ := h
  exact ⟨⟨m, (hb.cell h0).trans hm⟩, fun c hc => (hb.cell (p := ⟨1, c, none⟩) h1).trans (ht.1 c hc), fun i hi => ⟨(hb.cell (p := ⟨2, 2 * i, none⟩) h2).trans (ht.2 i hi).1, (hb.cell (p := ⟨2, 2 * i + 1, none⟩) h2).trans (ht.2 i hi).2⟩⟩

theorem ret_bool {a b : Bool} (h : a = b) : Ending.returned (.bool a) = .returned (.bool b) := by rw [h]
theorem ret_int {k : IntKind} {a b : Int} (h : a = b) : Ending.returned (.int k a) = .returned (.int k b) := by rw [h]

theorem below_next {w w1 w2 : World} (h : Below w.heap.size w w1) (k : Below w1.heap.size w1 w2) : Below w.heap.size w w2 := h.trans (k.mono h.size)

/-- A contract that leaves the world alone, met inside a region that reads alone. -/
theorem quietL {P : Program} {f : FuncId} {args : Array Value} {w : World} {n : Nat} {v : Value}
    (h : Calls P f args (w.drewN n) fun e w' => e = .returned v ∧ w.drewN n = w') : Calls P f args (w.drewN n) fun e w'' => e = .returned v ∧ ∃ m, w'' = w.drewN m :=
  h.mono fun _ _ ⟨he, hm⟩ => ⟨he, n, hm.symm⟩
theorem below_draws {B : Nat} {a w : World} (h : Below B a w) (n : Nat) : Below B a (w.drewN n) := h.trans ⟨rfl, rfl, rfl, Nat.le_refl _, fun _ _ => rfl⟩

end Go.Proofs.YtdieneaillkbgaaGreatDoor

/- Rows that the call itself owns: appending one element; from an owned row to a row that reads. -/
namespace Go.Proofs.YtdieneaillkbgaaGreatDoor
open Go.RowKit

/-- What the table says of a slice type t of elements e: sz cells, `bytes` bytes each. -/
structure AppTy (P : Program) (t e : TypeId) (sz bytes : Nat) : Prop where
  ht : P.underlying t = some (.slice e)
  hi : ∃ i z, P.info? e = some i ∧ i.zero = some z ∧ i.size = sz ∧ i.bytes = bytes ∧ z.cells.size = sz
  pos : 0 < sz
  small : bytes ≤ 128

theorem AppTy.mk' {P : Program} {t e : TypeId} {sz bytes : Nat} {z : Value} (ht : P.underlying t = some (.slice e)) (hi : (P.info? e).map (fun i => (i.zero, i.size, i.bytes)) = some (some z, sz, bytes)) (hz : z.cells.size = sz) (hp : 0 < sz) (hb : bytes ≤ 128) : AppTy P t e sz bytes := by
  obtain ⟨i, h1, h2, h3, h4⟩ := info_parts hi
  exact ⟨ht, ⟨i, z, h1, h2, h3, h4, hz⟩, hp, hb⟩

/-- Where append's result lies: in the old row or in a new block. -/
theorem run_append_place {P : Program} (w : World) (base : Nat) (t ty e : TypeId) (i : TypeInfo) (z : Value) (size bytes : Nat) (ht : P.underlying t = some (.slice e)) (hi : P.info? e = some i) (hz : i.zero = some z)
    (hsize : i.size = size) (hby : i.bytes = bytes) (hzs : z.cells.size = size)
    (v : Value) (n : Nat) (xs : List Value) (hown : w.ownsRow base e size v n xs)
    (a : Addr) (m c : Nat) (news : List Value) (hl : news.length = m * size) (hm0 : 0 < m) (hnews : ∀ j u, news[j]? = some u → w.cell? (a.add j) = some u) (h1 : ∀ u ∈ news, u.oneCell' = true)
    (h63 : n + m ≤ maxLen) (hbytes : (n + m) * bytes ≤ 140737488355328) {v' : Value} {w' : World}
    (hrun : (Builtin.append_ #[t, t] ty #[v, .slice (some a) m c]).run P w = .ok v' w') : v'.ownBlock = v.ownBlock ∨ v'.ownBlock = some w.heap.size := by
  subst hsize
  subst hby
  have hsmall : n + m ≤ 9223372036854775807 := by simp only [maxLen] at h63; omega
  rcases hown.2 with ⟨rfl, rfl⟩ | ⟨g, cap, cur, rfl, hbg, hg, hnc, hcm, hcs, htake⟩
  · have hx : xs = [] := List.eq_nil_of_length_eq_zero (by simpa using hown.1)
    subst hx
    have hr := run_append_nil (P := P) w t ty e i z ht hi hz a m c news hl hnews (by omega) (by omega) (by have hb := hbytes; simp only [Nat.zero_add] at hb; omega)
    rw [hr] at hrun
    cases hrun
    exact .inr rfl
  · by_cases hroom : n + m ≤ cap
    · have hfit : n * i.size + news.length ≤ cur.size := by rw [hl, hcs, ← Nat.add_mul]; exact Nat.mul_le_mul_right _ hroom
      have hr := run_append_room (P := P) w t ty e i ht hi g n cap cur hg a m c news hl hnews h1 hroom hfit
      rw [hr] at hrun
      cases hrun
      exact .inl rfl
    · have holds : ∀ j u, xs[j]? = some u → w.cell? ((⟨g, 0, none⟩ : Addr).add j) = some u := hown.cells (g := g) rfl
      have hr := run_append_grow (P := P) w t ty e i z ht hi hz ⟨g, 0, none⟩ n cap xs hown.1 holds a m c news hl hnews (by omega) (by omega) (growslice_fits (by omega) hbytes)
      rw [hr] at hrun
      cases hrun
      exact .inr rfl

/-- append(s, x) of one element, which lies in the newest block. -/
theorem wpList_app1p {P : Program} {ops : Array Oper} {rest : List Oper} {o : Oper} {a : Act} {Q : Exit → Act → World → Prop} {t e : TypeId} {sz bytes : Nat} (T : AppTy P t e sz bytes) (hgd : o.guard = none) (s x : Operand)
    (ho : o.op = .call { callee := .builtin .append, args := #[s, x], argTypes := #[t, t] }) (base : Nat) (v : Value) (n : Nat) (xs : List Value) (hs : a.eval s = v) (w0 : World) (news : List Value) (e2 : TypeId)
    (hx : a.eval x = .slice (some ⟨w0.heap.size, 0, none⟩) 1 1) (hl : news.length = sz) (h1 : ∀ u ∈ news, u.oneCell' = true) (hown : w0.ownsRow base e sz v n xs) (hn : n < 1099511627775) (hbase : base ≤ w0.heap.size)
    (h : ∀ v' w', w'.ownsRow base e sz v' (n + 1) (xs ++ news) → w0.grownBy w' v.ownBlock → v' ≠ .slice none 0 0 → (∀ k, v'.ownBlock = some k → v.ownBlock = some k ∨ w0.heap.size ≤ k) → wpList P ops Q rest (a.put o.dst v') w') : wpList P ops Q (o :: rest) a (w0.alloc (.cells news.toArray e2)) := by
  obtain ⟨ht, ⟨i, z, h11, h12, h13, h14, h15⟩, hpos, hsm⟩ := T
  have hnews : ∀ (j : Nat) u, news[j]? = some u → (w0.alloc (.cells news.toArray e2)).cell? ((⟨w0.heap.size, 0, none⟩ : Addr).add j) = some u := by
    intro j u hj
    have hadd : (⟨w0.heap.size, 0, none⟩ : Addr).add j = ⟨w0.heap.size, j, none⟩ := by unfold Addr.add; split <;> simp_all
    rw [hadd]
    have hh := heap_alloc_new w0 (.cells news.toArray e2)
    simp only [World.cell?, hh]
    simp [hj]
  have h63 : n + 1 ≤ maxLen := by unfold maxLen; omega
  have hby : (n + 1) * bytes ≤ 140737488355328 := by
    have : (n + 1) * bytes ≤ 1099511627775 * 128 := Nat.mul_le_mul (by omega) hsm
    omega
  have hl1 : news.length = 1 * sz := by rw [hl, Nat.one_mul]
  obtain ⟨v', w', hr, h2, hg, hv⟩ := run_append_own (P := P) (w0.alloc (.cells news.toArray e2)) base t o.type e i z sz bytes ht h11 h12 h13 h14 h15 hpos v n xs (hown.alloc _) ⟨w0.heap.size, 0, none⟩ 1 1 news hl1 hnews h1 h63 hby (by simp; omega)
  have hpl := run_append_place (P := P) (w0.alloc (.cells news.toArray e2)) base t o.type e i z sz bytes ht h11 h12 h13 h14 h15 v n xs (hown.alloc _) ⟨w0.heap.size, 0, none⟩ 1 1 news hl1 (by omega) hnews h1 h63 hby hr
  refine wpList_plain hgd fun K hK => ?_
  unfold Oper.wp execOp
  simp only [ho, resolve, invoke, builtin, Sem.run_bind, Sem.run_pure, Result.andThen_ok, List.map_toArray, List.map_cons, List.map_nil, hs, hx, hr]
  refine hK _ _ (h v' w' h2 ⟨hg.os, hg.tape, hg.output, by have := hg.size; simp at this; omega, fun k hk hne => ?_⟩ (fun e => by have := (hv.1 e).2; omega) ?_)
  · rw [hg.block k (by simp; omega) hne]
    exact Below.heap_alloc _ _ _ hk
  · intro k hk
    rcases hpl with hp | hp
    · left; rw [← hp]; exact hk
    · right; rw [hp] at hk; cases hk; simp
theorem wpList_app1 {P : Program} {ops : Array Oper} {rest : List Oper} {o : Oper} {a : Act} {Q : Exit → Act → World → Prop} {t e : TypeId} {sz bytes : Nat} (T : AppTy P t e sz bytes) (hgd : o.guard = none) (s x : Operand)
    (ho : o.op = .call { callee := .builtin .append, args := #[s, x], argTypes := #[t, t] }) (base : Nat) (v : Value) (n : Nat) (xs : List Value) (hs : a.eval s = v) (w0 : World) (news : List Value) (e2 : TypeId)
    (hx : a.eval x = .slice (some ⟨w0.heap.size, 0, none⟩) 1 1) (hl : news.length = sz) (h1 : ∀ u ∈ news, u.oneCell' = true) (hown : w0.ownsRow base e sz v n xs) (hn : n < 1099511627775) (hbase : base ≤ w0.heap.size)
    (h : ∀ v' w', w'.ownsRow base e sz v' (n + 1) (xs ++ news) → w0.grownBy w' v.ownBlock → v' ≠ .slice none 0 0 → wpList P ops Q rest (a.put o.dst v') w') : wpList P ops Q (o :: rest) a (w0.alloc (.cells news.toArray e2)) :=
  wpList_app1p T hgd s x ho base v n xs hs w0 news e2 hx hl h1 hown hn hbase fun v' w' h2 h3 h4 _ => h v' w' h2 h3 h4

/-- An owned row reads. -/
theorem row_of_owns {w : World} {base : Nat} {e : TypeId} {sz : Nat} {v : Value} {n : Nat} {xs : List Value} (h : w.ownsRow base e sz v n xs) : RowAt (fun k => base ≤ k ∧ v.ownBlock = some k) w sz v n xs := by
  obtain ⟨hl, h2⟩ := h
  rcases h2 with ⟨rfl, rfl⟩ | ⟨g, cap, cur, rfl, hg, hh, hn, hcap, hsz, htake⟩
  · exact ⟨hl, none, 0, rfl, Nat.le_refl _, by unfold maxLen; omega, .inl rfl⟩
  · refine ⟨hl, _, cap, rfl, hn, hcap, .inr ⟨g, 0, rfl, ⟨hg, rfl⟩, fun j u hj => ?_⟩⟩
    rw [Nat.zero_add, cell_of_row w g j cur e (0, 0) hh]
    rw [← htake, List.getElem?_take] at hj
    split at hj
    · simpa using hj
    · cases hj
theorem RowAt.weak {S T : Nat → Prop} {w : World} {sz : Nat} {v : Value} {n : Nat} {cells : List Value} (h : RowAt S w sz v n cells) (hs : ∀ k, S k → T k) : RowAt T w sz v n cells := by
  obtain ⟨hl, a, cap, hv, hn, hm, h0⟩ := h
  refine ⟨hl, a, cap, hv, hn, hm, ?_⟩
  rcases h0 with h0 | ⟨b, o, ha, hb, hc⟩
  · exact .inl h0
  · exact .inr ⟨b, o, ha, hs b hb, hc⟩
/-- What the round has grown lies from base on. -/
theorem below_grown {B : Nat} {w0 w w' : World} {base : Nat} {e : TypeId} {sz : Nat} {v : Value} {n : Nat} {xs : List Value} (hb : Below B w0 w) (ho : w.ownsRow base e sz v n xs) (hg : w.grownBy w' v.ownBlock) (h1 : B ≤ base) (h2 : B ≤ w.heap.size) : Below B w0 w' :=
  hb.grown hg h2 (fun k hk => by have := (ho.lt k hk).1; omega)
/-- s = s[:len(s)-1] -/
theorem owns_pop {w : World} {base : Nat} {e : TypeId} {sz : Nat} {v : Value} {n : Nat} {xs last : List Value} (hx : xs.length = n * sz) (h : w.ownsRow base e sz v (n + 1) (xs ++ last)) : ∃ g cap, v = .slice (some ⟨g, 0, none⟩) (n + 1) cap ∧ n + 1 ≤ cap ∧ cap ≤ maxLen ∧ w.ownsRow base e sz (.slice (some ⟨g, 0, none⟩) n cap) n xs := by
  have h0 := h
  obtain ⟨_, h2⟩ := h
  rcases h2 with ⟨_, h0⟩ | ⟨g, cap, cur, rfl, hg, hh, hn, hcap, hsz, htake⟩
  · omega
  · exact ⟨g, cap, rfl, hn, hcap, ownsRow_pop hx h0⟩
theorem owns_shape {w : World} {base : Nat} {e : TypeId} {sz : Nat} {v : Value} {n : Nat} {xs : List Value} (h : w.ownsRow base e sz v n xs) : ∃ a cap, v = .slice a n cap ∧ n ≤ cap ∧ cap ≤ maxLen := by
  obtain ⟨_, h2⟩ := h
  rcases h2 with ⟨rfl, rfl⟩ | ⟨g, cap, cur, rfl, hg, hh, hn, hcap, hsz, htake⟩
  · exact ⟨_, _, rfl, Nat.le_refl _, by unfold maxLen; omega⟩
  · exact ⟨_, _, rfl, hn, hcap⟩

theorem Tryz.appStrings : AppTy Tryz.prog 34 9 1 16 := AppTy.mk' (z := .string ByteArray.empty) Tryz.underlying34 (by kernel_rfl) rfl (by decide) (by decide)

end Go.Proofs.YtdieneaillkbgaaGreatDoor

/- Rows of structs: cells that are read as a list of things. -/
namespace Go.Proofs.YtdieneaillkbgaaGreatDoor
open Go.RowKit

def RowsIn {α : Type} (R : List Value → α → Prop) : List Value → List α → Prop
  | cells, [] => cells = []
  | cells, x :: xs => ∃ c rest, cells = c ++ rest ∧ R c x ∧ RowsIn R rest xs

section
variable {α : Type} {R R' : List Value → α → Prop} {sz : Nat}
theorem RowsIn.mono : ∀ {xs : List α} {cells : List Value}, (∀ c x, x ∈ xs → R c x → R' c x) → RowsIn R cells xs → RowsIn R' cells xs
  | [], _, _, h => h
  | x :: xs, cells, hm, h => by
    obtain ⟨c, rest, rfl, hc, hr⟩ := h
    exact ⟨c, rest, rfl, hm c x (by simp) hc, RowsIn.mono (fun c y hy => hm c y (by simp [hy])) hr⟩
theorem RowsIn.snoc : ∀ {xs : List α} {cells c : List Value} {x : α}, RowsIn R cells xs → R c x → RowsIn R (cells ++ c) (xs ++ [x])
  | [], cells, c, x, h, hc => by
    have : cells = [] := h
    subst this
    exact ⟨c, [], by simp, hc, rfl⟩
  | y :: xs, cells, c, x, h, hc => by
    obtain ⟨d, rest, rfl, hd, hr⟩ := h
    exact ⟨d, rest ++ c, by simp, hd, RowsIn.snoc hr hc⟩
theorem RowsIn.len (hs : ∀ c x, R c x → c.length = sz) : ∀ {xs : List α} {cells : List Value}, RowsIn R cells xs → cells.length = xs.length * sz
  | [], cells, h => by have : cells = [] := h; subst this; simp
  | x :: xs, cells, h => by
    obtain ⟨c, rest, rfl, hc, hr⟩ := h
    rw [List.length_append, hs c x hc, RowsIn.len hs hr, List.length_cons, Nat.add_mul]; omega
theorem RowsIn.get (hs : ∀ c x, R c x → c.length = sz) : ∀ {xs : List α} {cells : List Value} {i : Nat} {x : α}, RowsIn R cells xs → xs[i]? = some x → ∃ c, R c x ∧ ∀ j, j < sz → cells[i * sz + j]? = c[j]?
  | [], _, i, _, _, hi => by simp at hi
  | y :: xs, cells, 0, x, h, hi => by
    obtain ⟨c, rest, rfl, hc, hr⟩ := h
    simp at hi; subst hi
    refine ⟨c, hc, fun j hj => ?_⟩
    rw [Nat.zero_mul, Nat.zero_add, List.getElem?_append_left (by rw [hs c y hc]; exact hj)]
  | y :: xs, cells, i + 1, x, h, hi => by
    obtain ⟨c, rest, rfl, hc, hr⟩ := h
    obtain ⟨d, hd, hj⟩ := RowsIn.get hs hr (i := i) (x := x) (by simpa using hi)
    refine ⟨d, hd, fun j hjs => ?_⟩
    have hl := hs c y hc
    rw [List.getElem?_append_right (by rw [hl, Nat.add_mul]; omega), hl, ← hj j hjs]
    congr 1
    rw [Nat.add_mul]; omega
theorem RowsIn.drop (hs : ∀ c x, R c x → c.length = sz) : ∀ {xs : List α} {cells : List Value} (i : Nat), RowsIn R cells xs → i ≤ xs.length → RowsIn R (cells.drop (i * sz)) (xs.drop i)
  | _, _, 0, h, _ => by simpa using h
  | [], _, i + 1, _, hi => by simp at hi
  | y :: xs, cells, i + 1, h, hi => by
    obtain ⟨c, rest, rfl, hc, hr⟩ := h
    have := RowsIn.drop hs i hr (by simpa using hi)
    rw [List.drop_succ_cons, Nat.add_mul, Nat.one_mul, Nat.add_comm, List.drop_append, hs c y hc]
    simp only [Nat.add_sub_cancel_left]
    rw [List.drop_of_length_le (by rw [hs c y hc]; omega)]
    exact this
end

/-- A slice value behind which a list of things lies, sz cells each. -/
def SeqAt {α : Type} (S : Nat → Prop) (w : World) (sz : Nat) (R : List Value → α → Prop) (v : Value) (xs : List α) : Prop :=
  ∃ cells, RowAt S w sz v xs.length cells ∧ RowsIn R cells xs

section
variable {α : Type} {S T : Nat → Prop} {w w' : World} {sz : Nat} {R R' : List Value → α → Prop} {v : Value} {xs : List α}
theorem SeqAt.shape (h : SeqAt S w sz R v xs) (hs : ∀ c x, R c x → c.length = sz) :
    ∃ a cap, v = .slice a xs.length cap ∧ xs.length ≤ cap ∧ cap ≤ maxLen ∧ ∀ (k : Nat) x, xs[k]? = some x → ∃ b o c, a = some ⟨b, o, none⟩ ∧ S b ∧ R c x ∧ c.length = sz ∧ ∀ j, j < sz → w.cell? ⟨b, o + (k * sz + j), none⟩ = c[j]? := by
  obtain ⟨cells, ⟨hl, a, cap, hv, hn, hm, h0⟩, hr⟩ := h
  refine ⟨a, cap, hv, hn, hm, fun k x hk => ?_⟩
  rcases h0 with h0 | ⟨b, o, ha, hb, hc⟩
  · simp [List.eq_nil_of_length_eq_zero h0] at hk
  · obtain ⟨c, hcx, hj⟩ := hr.get hs hk
    refine ⟨b, o, c, ha, hb, hcx, hs c x hcx, fun j hjs => ?_⟩
    have hlt : j < c.length := by rw [hs c x hcx]; exact hjs
    rw [List.getElem?_eq_getElem hlt]
    exact hc _ _ (by rw [hj j hjs, List.getElem?_eq_getElem hlt])
theorem SeqAt.same (h : SeqAt S w sz R v xs) (hs : SameOn S w w') (hR : ∀ c x, x ∈ xs → R c x → R' c x) : SeqAt S w' sz R' v xs := by
  obtain ⟨cells, h1, h2⟩ := h
  exact ⟨cells, h1.same hs, h2.mono hR⟩
theorem SeqAt.below (h : SeqAt S w sz R v xs) (hsz : 0 < sz) (hb : Below w.heap.size w w') (hR : ∀ c x, x ∈ xs → R c x → R' c x) : SeqAt S w' sz R' v xs := by
  obtain ⟨cells, h1, h2⟩ := h
  exact ⟨cells, h1.below hsz hb, h2.mono hR⟩
theorem SeqAt.mono (h : SeqAt S w sz R v xs) (hsz : 0 < sz) (hs : ∀ k, k < w.heap.size → S k → T k) (hR : ∀ c x, x ∈ xs → R c x → R' c x) : SeqAt T w sz R' v xs := by
  obtain ⟨cells, h1, h2⟩ := h
  exact ⟨cells, h1.mono hs hsz, h2.mono hR⟩
theorem SeqAt.nil : SeqAt S w sz R (.slice none 0 0) ([] : List α) := ⟨[], RowAt.nil _ _ _, rfl⟩
end
theorem add_lit (b o n : Nat) : (⟨b, o, none⟩ : Addr).add n = ⟨b, o + n, none⟩ := by unfold Addr.add; split <;> simp_all

end Go.Proofs.YtdieneaillkbgaaGreatDoor

/- Plain words of chapter 18: texts, components, paths. No program in sight. -/
namespace Go.Proofs.YtdieneaillkbgaaGreatDoor

def lowFree (l : List UInt8) : Bool := l.all fun c => decide (32 ≤ c.toNat)
/-- Valid UTF-8 without bytes less than 32. -/
def textB (l : List UInt8) : Bool := lowFree l && Lib.validD l
/-- A component of a path. -/
def compB (l : List UInt8) : Bool := !l.isEmpty && decide (l.length ≤ 64) && (l != [46]) && (l != [46, 46]) && !l.contains 47 && textB l
/-- The parts of a string between the bytes c. -/
def splitL (c : UInt8) : List UInt8 → List (List UInt8)
  | [] => [[]]
  | b :: l => if b = c then [] :: splitL c l else
    match splitL c l with
    | h :: t => (b :: h) :: t
    | [] => [[b]]
def uniteL (ps : List (List UInt8)) : List UInt8 := Lib.join ps [47]
/-- A valid path. -/
def validP (l : List UInt8) : Bool := decide (l.length ≤ 512) && decide ((splitL 47 l).length ≤ 16) && (splitL 47 l).all compB

/-- The place of a byte in the order. -/
def rankL (c : UInt8) : Int := if c = 47 then -1 else c.toNat
/-- The order of paths. -/
def cmpL : List UInt8 → List UInt8 → Int
  | [], [] => 0
  | [], _ :: _ => -1
  | _ :: _, [] => 1
  | a :: l, b :: r => if a = b then cmpL l r else Lib.compareInt (rankL a) (rankL b)
theorem splitL_ne (c : UInt8) (l : List UInt8) : splitL c l ≠ [] := by
  cases l with
  | nil => simp [splitL]
  | cons b l => unfold splitL; split; · simp
                split <;> simp
theorem splitL_pos (c : UInt8) (l : List UInt8) : 1 ≤ (splitL c l).length := by
  have := splitL_ne c l
  cases h : splitL c l with
  | nil => exact absurd h this
  | cons a t => simp
theorem splitL_len_le (c : UInt8) (l : List UInt8) : (splitL c l).length ≤ l.length + 1 := by
  induction l with
  | nil => simp [splitL]
  | cons b l ih =>
    unfold splitL
    split
    · simp; omega
    · split
      · rename_i h t e; rw [e] at ih; simp at ih ⊢; omega
      · simp
theorem splitL_append (c : UInt8) (p q : List UInt8) (hp : c ∉ p) : splitL c (p ++ c :: q) = p :: splitL c q := by
  induction p with
  | nil => simp [splitL]
  | cons b p ih =>
    have hb : b ≠ c := fun e => hp (by simp [e])
    have ih := ih (fun h => hp (List.mem_cons_of_mem _ h))
    simp only [List.cons_append, splitL, if_neg hb, ih]
theorem splitL_whole (c : UInt8) (p : List UInt8) (hp : c ∉ p) : splitL c p = [p] := by
  induction p with
  | nil => rfl
  | cons b p ih =>
    have hb : b ≠ c := fun e => hp (by simp [e])
    have ih := ih (fun h => hp (List.mem_cons_of_mem _ h))
    simp only [splitL, if_neg hb, ih]
theorem splitL_mem (c : UInt8) (l : List UInt8) : ∀ p ∈ splitL c l, c ∉ p := by
  induction l with
  | nil => simp [splitL]
  | cons b l ih =>
    unfold splitL
    split
    · intro p hp; rcases List.mem_cons.1 hp with rfl | hp
      · simp
      · exact ih p hp
    · rename_i hb
      split
      · rename_i h t e
        rw [e] at ih
        intro p hp; rcases List.mem_cons.1 hp with rfl | hp
        · have := ih h (by simp); simp [this, Ne.symm hb]
        · exact ih p (by simp [hp])
      · rename_i e; exact absurd e (splitL_ne c l)
theorem join_splitL (c : UInt8) (l : List UInt8) : Lib.join (splitL c l) [c] = l := by
  induction l with
  | nil => rfl
  | cons b l ih =>
    unfold splitL
    split
    · rename_i hb; subst hb
      cases h : splitL b l with
      | nil => exact absurd h (splitL_ne b l)
      | cons a t => rw [h] at ih; rw [Lib.join_cons] at *; simp [Lib.joinTail] at *; exact ih
    · split
      · rename_i h t e; rw [e] at ih; rw [Lib.join_cons] at *; simp at *; exact ih
      · rename_i e; exact absurd e (splitL_ne c l)
theorem splitL_join (c : UInt8) (ps : List (List UInt8)) (h0 : ps ≠ []) (h : ∀ p ∈ ps, c ∉ p) : splitL c (Lib.join ps [c]) = ps := by
  induction ps with
  | nil => exact absurd rfl h0
  | cons p ps ih =>
    cases ps with
    | nil => rw [Lib.join_one]; exact splitL_whole c p (h p (by simp))
    | cons q ps =>
      have e : Lib.join (p :: q :: ps) [c] = p ++ c :: Lib.join (q :: ps) [c] := by
        rw [Lib.join_cons, Lib.join_cons]; simp [Lib.joinTail]
      rw [e, splitL_append c _ _ (h p (by simp)), ih (by simp) (fun x hx => h x (by simp [hx]))]

/-- strings.Split at one byte is splitL. -/
theorem index_one (l : List UInt8) (c : UInt8) (h : c ∈ l) : ∃ p q, l = p ++ c :: q ∧ c ∉ p := by
  induction l with
  | nil => simp at h
  | cons b l ih =>
    by_cases hb : b = c
    · exact ⟨[], l, by simp [hb], by simp⟩
    · have : c ∈ l := by rcases List.mem_cons.1 h with h | h; · exact absurd h.symm hb
                         exact h
      obtain ⟨p, q, rfl, hp⟩ := ih this
      exact ⟨b :: p, q, rfl, by simp [hp, Ne.symm hb]⟩

theorem index_app (p q : List UInt8) (c : UInt8) (hp : c ∉ p) : Lib.index (p ++ c :: q) [c] = (p.length : Int) := by
  induction p with
  | nil => simp [Lib.index, List.isPrefixOf]
  | cons b p ih =>
    have hb : b ≠ c := fun e => hp (by simp [e])
    have ih := ih (fun h => hp (List.mem_cons_of_mem _ h))
    rw [List.cons_append, Lib.index, ih]
    have h1 : ([c] : List UInt8).isPrefixOf (b :: (p ++ c :: q)) = false := by simp [List.isPrefixOf, Ne.symm hb]
    have h2 : ((p.length : Int) == -1) = false := by rw [beq_eq_false_iff_ne]; omega
    rw [h1, h2]; simp
theorem index_no (l : List UInt8) (c : UInt8) (h : c ∉ l) : Lib.index l [c] = -1 := by
  induction l with
  | nil => simp [Lib.index]
  | cons b l ih =>
    have hb : b ≠ c := fun e => h (by simp [e])
    have ih := ih (fun h' => h (List.mem_cons_of_mem _ h'))
    have h1 : ([c] : List UInt8).isPrefixOf (b :: l) = false := by simp [List.isPrefixOf, Ne.symm hb]
    rw [Lib.index, ih, h1]; simp
theorem splitK_eq (c : UInt8) : ∀ (k : Nat) (s : List UInt8), s.count c = k → Lib.splitK [c] 0 k s = splitL c s
  | 0, s, h => by
    have : c ∉ s := List.count_eq_zero.1 h
    rw [splitL_whole c s this]; rfl
  | k + 1, s, h => by
    have hc : c ∈ s := List.count_pos_iff.1 (by omega)
    obtain ⟨p, q, rfl, hp⟩ := index_one s c hc
    have hq : q.count c = k := by
      have h0 : p.count c = 0 := List.count_eq_zero.2 hp
      rw [List.count_append, h0, List.count_cons_self] at h; omega
    rw [splitL_append c p q hp, Lib.splitK, index_app p q c hp, if_neg (by simp)]
    simp only [Int.toNat_natCast, Nat.add_zero, List.length_cons, List.length_nil, Nat.zero_add]
    rw [List.take_left]
    have e : (p ++ c :: q).drop (p.length + 1) = q := by rw [List.drop_append]; simp
    rw [e, splitK_eq c k q hq]
/-- strings.Split(s, string(c)): what the shelf's contract gives, as lists of bytes. -/
theorem splitB_eq (c : UInt8) (s : ByteArray) : (Lib.splitB ⟨#[c]⟩ 0 (Lib.countB s ⟨#[c]⟩) s).map (·.data.toList) = splitL c s.data.toList := by
  rw [Lib.splitB_data]
  exact splitK_eq c _ _ (by rw [Lib.countB, Lib.count_one])
theorem splitB_len (c : UInt8) (s : ByteArray) : (Lib.splitB ⟨#[c]⟩ 0 (Lib.countB s ⟨#[c]⟩) s).length = Lib.countB s ⟨#[c]⟩ + 1 :=
  Lib.splitB_all ⟨#[c]⟩ (by simp [ByteArray.size]) 0 _ s rfl

theorem indexByte_contains (l : List UInt8) (c : UInt8) : decide (0 ≤ Lib.indexByte l c) = l.contains c := by
  induction l with
  | nil => simp [Lib.indexByte]
  | cons b l ih =>
    have hge := Lib.indexByte_ge l c
    unfold Lib.indexByte
    by_cases hb : b = c
    · subst hb; simp
    · have h1 : (b == c) = false := by simpa using hb
      have h2 : (c == b) = false := by simpa using Ne.symm hb
      rw [h1]
      simp only [Bool.false_eq_true, if_false, List.contains_cons, h2, Bool.false_or, ← ih]
      by_cases hm : Lib.indexByte l c = -1
      · simp [hm]
      · rw [if_neg (by simpa using hm)]; congr 1; apply propext; omega

theorem mem_index (l : List UInt8) (c : UInt8) : c ∈ l ↔ 0 ≤ Lib.indexByte l c := by
  have := indexByte_contains l c
  rw [Bool.eq_iff_iff] at this
  simpa using this.symm

/-- A decoding step over bytes that are no ASCII passes over none that are. -/
theorem decode_span (s : ByteArray) (pos : Nat) (h : pos < s.size) (ha : 128 ≤ (s.get! pos).toNat) :
    pos + (Utf8.decode s pos).2 ≤ s.size ∧ ∀ j, pos ≤ j → j < pos + (Utf8.decode s pos).2 → 128 ≤ (s.get! j).toNat := by
  have hn : ¬ (s.get! (pos + 0)).toNat < 128 := by simpa using ha
  simp only [Utf8.decode, hn, if_false]
  repeat' split
  all_goals simp_all
  all_goals (refine ⟨by omega, fun j h1 h2 => ?_⟩)
  all_goals (rcases Nat.lt_or_ge j (pos + 1) with h3 | h3)
  all_goals (first | (rw [show j = pos by omega]; exact ha) | skip)
  all_goals (rcases Nat.lt_or_ge j (pos + 2) with h4 | h4)
  all_goals (first | (rw [show j = pos + 1 by omega]; omega) | skip)
  all_goals (rcases Nat.lt_or_ge j (pos + 3) with h5 | h5)
  all_goals (first | (rw [show j = pos + 2 by omega]; omega) | skip)
  all_goals (first | (rw [show j = pos + 3 by omega]; omega) | skip)
  all_goals omega
theorem splitL_cat (c : UInt8) (p q : List UInt8) : splitL c (p ++ c :: q) = splitL c p ++ splitL c q := by
  induction p with
  | nil => simp [splitL]
  | cons b p ih =>
    simp only [List.cons_append, splitL]
    by_cases hb : b = c
    · simp [hb, ih]
    · rw [if_neg hb, if_neg hb, ih]
      cases h : splitL c p with
      | nil => exact absurd h (splitL_ne c p)
      | cons a t => simp
/-- The path without its last component. -/
def parentL (l : List UInt8) : List UInt8 := uniteL (splitL 47 l).dropLast
theorem parentL_no (l : List UInt8) (h : 47 ∉ l) : parentL l = [] := by
  unfold parentL; rw [splitL_whole 47 l h]; rfl
theorem parentL_cat (p q : List UInt8) (h : 47 ∉ q) : parentL (p ++ 47 :: q) = p := by
  unfold parentL uniteL
  rw [splitL_cat, splitL_whole 47 q h, List.dropLast_concat, join_splitL]
theorem last_slash (l : List UInt8) (h : 47 ∈ l) : ∃ p q, l = p ++ 47 :: q ∧ 47 ∉ q := by
  induction l with
  | nil => simp at h
  | cons b l ih =>
    by_cases hm : (47 : UInt8) ∈ l
    · obtain ⟨p, q, rfl, hq⟩ := ih hm
      exact ⟨b :: p, q, rfl, hq⟩
    · rcases List.mem_cons.1 h with rfl | h
      · exact ⟨[], l, rfl, hm⟩
      · exact absurd h hm
theorem parentL_take (l : List UInt8) : parentL l = l.take (parentL l).length := by
  by_cases h : (47 : UInt8) ∈ l
  · obtain ⟨p, q, rfl, hq⟩ := last_slash l h
    rw [parentL_cat p q hq]; simp
  · rw [parentL_no l h]; simp

/-- What Clean does with the parts. -/
def cleanParts : List (List UInt8) → List (List UInt8) → Option (List (List UInt8))
  | [], acc => some acc
  | p :: r, acc => if p = [] ∨ p = [46] then cleanParts r acc else if p = [46, 46] then (if acc = [] then none else cleanParts r acc.dropLast) else cleanParts r (acc ++ [p])
/-- Clean: the path, or none. -/
def cleanL (l : List UInt8) : Option (List UInt8) :=
  match cleanParts (splitL 47 l) [] with
  | none => none
  | some ps => if validP (uniteL ps) then some (uniteL ps) else none
/-- Join: the path and the error. -/
def joinL (ps : List (List UInt8)) : List UInt8 × Int :=
  if ps = [] then ([], 1) else if ps.all compB = false then ([], 1) else if 16 < ps.length ∨ 512 < (uniteL ps).length then ([], 2) else (uniteL ps, 0)
theorem uniteL_len (ps : List (List UInt8)) (m : Nat) (h : ∀ p ∈ ps, p.length ≤ m) : (uniteL ps).length ≤ ps.length * (m + 1) := by
  induction ps with
  | nil => simp [uniteL, Lib.join_nil]
  | cons p r ih =>
    have h1 := h p (by simp)
    have h2 := ih (fun x hx => h x (by simp [hx]))
    cases r with
    | nil => rw [uniteL, Lib.join_one]; simp; omega
    | cons q r =>
      have e : uniteL (p :: q :: r) = p ++ 47 :: uniteL (q :: r) := by
        unfold uniteL; rw [Lib.join_cons, Lib.join_cons]; simp [Lib.joinTail]
      rw [e, List.length_append, List.length_cons, List.length_cons (a := p), Nat.add_mul]
      omega

end Go.Proofs.YtdieneaillkbgaaGreatDoor

/- Plain words of chapter 18: patterns. No program in sight. -/
namespace Go.Proofs.YtdieneaillkbgaaGreatDoor

/-- The runes of a string. -/
def runesGo : Nat → List UInt8 → List Int
  | 0, _ => []
  | n + 1, l => if l = [] then [] else ((Lib.decodeL l).1 : Int) :: runesGo n (l.drop (Lib.decodeL l).2)
def runesL (l : List UInt8) : List Int := runesGo l.length l

/-- An item of a pattern component. -/
structure PItem where
  star : Bool
  any : Bool
  neg : Bool
  ranges : List (Int × Int)
/-- A component of a pattern. -/
structure PComp where
  dbl : Bool
  items : List PItem

def starI : PItem := ⟨true, false, false, []⟩
def anyI : PItem := ⟨false, true, false, []⟩
def litI (r : Int) : PItem := ⟨false, false, false, [(r, r)]⟩

/-- The first rune and the rest. -/
def headS : List Int → Option (Int × List Int)
  | [] => none
  | q :: u => some (q, u)
/-- An element of a class. -/
def elemS : List Int → Option (Int × List Int)
  | [] => none
  | r :: t => if r = 92 then headS t else if r = 93 ∨ r = 94 ∨ r = 45 then none else some (r, t)
/-- The ranges of a class up to its closing bracket. -/
def classS : Nat → List Int → List (Int × Int) → Option (List (Int × Int) × List Int)
  | 0, _, _ => none
  | f + 1, l, acc =>
    if l.head? = some 93 then some (acc, l.tail) else
    match elemS l with
    | none => none
    | some (lo, t) =>
      if t.head? = some 45 then
        match elemS t.tail with
        | none => none
        | some (hi, u) => if hi < lo then none else classS f u (acc ++ [(lo, hi)])
      else classS f t (acc ++ [(lo, lo)])
/-- A class behind its opening bracket. -/
def clsS (t : List Int) : Option (PItem × List Int) :=
  let neg := decide (t.head? = some 94)
  let t' := if neg then t.tail else t
  match classS (t'.length + 1) t' [] with
  | none => none
  | some (rs, u) => if rs = [] then none else some (⟨false, false, neg, rs⟩, u)
/-- An item. -/
def itemS : List Int → Option (PItem × List Int)
  | [] => none
  | r :: t =>
    if r = 42 then some (starI, t) else if r = 63 then some (anyI, t) else if r = 91 then clsS t
    else if r = 92 then (headS t).map (fun x => (litI x.1, x.2)) else some (litI r, t)
def itemsS : Nat → List Int → Option (List PItem)
  | 0, _ => none
  | f + 1, l => if l = [] then some [] else
    match itemS l with
    | none => none
    | some (it, t) => match itemsS f t with | none => none | some its => some (it :: its)
def itemsL (l : List Int) : Option (List PItem) := itemsS (l.length + 1) l
def compS (p : List UInt8) : Option PComp :=
  if p = [42, 42] then some ⟨true, []⟩ else
  match itemsL (runesL p) with
  | none => none
  | some its => if its = [] then none else some ⟨false, its⟩
def compsS : List (List UInt8) → Option (List PComp)
  | [] => some []
  | p :: r => match compS p with
    | none => none
    | some c => match compsS r with | none => none | some cs => some (c :: cs)
/-- The components of a pattern, or none. -/
def patS (l : List UInt8) : Option (List PComp) :=
  if 512 < l.length ∨ textB l = false then none else if 16 < (splitL 47 l).length then none else compsS (splitL 47 l)

def anySuf {T : Type} (f : List T → Bool) : List T → Bool
  | [] => f []
  | t :: us => f (t :: us) || anySuf f us
def headM {T : Type} (m : T → Bool) (f : List T → Bool) : List T → Bool
  | [] => false
  | t :: us => m t && f us
/-- Whether parts can be divided among pieces. -/
def dv {P T : Type} (star : P → Bool) (m : P → T → Bool) : List P → List T → Bool
  | [], ts => ts.isEmpty
  | p :: ps, ts => if star p then anySuf (dv star m ps) ts else headM (m p) (dv star m ps) ts
def inR (r : Int) (x : Int × Int) : Bool := decide (x.1 ≤ r) && decide (r ≤ x.2)
def itemM (it : PItem) (r : Int) : Bool := it.any || ((it.ranges.any (inR r)) != it.neg)
def compM (c : PComp) (part : List UInt8) : Bool := dv (·.star) itemM c.items (runesL part)
def matchS (cs : List PComp) (parts : List (List UInt8)) : Bool := dv (·.dbl) compM cs parts

theorem elemS_len {l t : List Int} {r : Int} (h : elemS l = some (r, t)) : t.length < l.length := by
  cases l with
  | nil => simp [elemS] at h
  | cons a l =>
    rw [elemS] at h
    split at h
    · cases l with
      | nil => simp [headS] at h
      | cons q u => simp [headS] at h; obtain ⟨_, rfl⟩ := h; simp; omega
    · split at h
      · simp at h
      · simp at h; obtain ⟨_, rfl⟩ := h; simp
theorem classS_len : ∀ (f : Nat) {l : List Int} {acc : List (Int × Int)} {rs : List (Int × Int)} {u : List Int}, classS f l acc = some (rs, u) → u.length ≤ l.length
  | 0, _, _, _, _, h => by simp [classS] at h
  | f + 1, l, acc, rs, u, h => by
    unfold classS at h
    split at h
    · simp at h; obtain ⟨_, rfl⟩ := h; simp
    · split at h
      · simp at h
      · rename_i lo t e
        have h1 := elemS_len e
        split at h
        · split at h
          · simp at h
          · rename_i hi v e2
            have h2 := elemS_len e2
            rw [List.length_tail] at h2
            split at h
            · simp at h
            · have := classS_len f h; omega
        · have := classS_len f h; omega
theorem classS_fuel : ∀ (f g : Nat) (l : List Int) (acc : List (Int × Int)), l.length < f → l.length < g → classS f l acc = classS g l acc
  | 0, _, _, _, h, _ => by omega
  | _, 0, _, _, _, h => by omega
  | f + 1, g + 1, l, acc, h1, h2 => by
    unfold classS
    split
    · rfl
    · split
      · rfl
      · rename_i lo t e
        have h3 := elemS_len e
        split
        · split
          · rfl
          · rename_i hi v e2
            have h4 := elemS_len e2
            rw [List.length_tail] at h4
            split
            · rfl
            · exact classS_fuel f g _ _ (by omega) (by omega)
        · exact classS_fuel f g _ _ (by omega) (by omega)
theorem clsS_len {t u : List Int} {it : PItem} (h : clsS t = some (it, u)) : u.length ≤ t.length := by
  unfold clsS at h
  simp only at h
  split at h
  · simp at h
  · rename_i rs v e
    have := classS_len _ e
    split at h
    · simp at h
    · simp only [Option.some.injEq, Prod.mk.injEq] at h
      obtain ⟨_, rfl⟩ := h
      split at this
      · rw [List.length_tail] at this; omega
      · exact this
theorem itemS_len {l t : List Int} {it : PItem} (h : itemS l = some (it, t)) : t.length < l.length := by
  cases l with
  | nil => simp [itemS] at h
  | cons a l =>
    rw [itemS] at h
    split at h
    · simp at h; obtain ⟨_, rfl⟩ := h; simp
    · split at h
      · simp at h; obtain ⟨_, rfl⟩ := h; simp
      · split at h
        · have := clsS_len h; simp; omega
        · split at h
          · cases l with
            | nil => simp [headS] at h
            | cons q u => simp [headS] at h; obtain ⟨_, rfl⟩ := h; simp; omega
          · simp at h; obtain ⟨_, rfl⟩ := h; simp
theorem itemsS_fuel : ∀ (f g : Nat) (l : List Int), l.length < f → l.length < g → itemsS f l = itemsS g l
  | 0, _, _, h, _ => by omega
  | _, 0, _, _, h => by omega
  | f + 1, g + 1, l, h1, h2 => by
    unfold itemsS
    split
    · rfl
    · split
      · rfl
      · rename_i it t e
        have := itemS_len e
        rw [itemsS_fuel f g t (by omega) (by omega)]
theorem itemsL_step {l t : List Int} {it : PItem} (hl : l ≠ []) (h : itemS l = some (it, t)) : itemsL l = match itemsL t with | none => none | some its => some (it :: its) := by
  have := itemS_len h
  unfold itemsL
  rw [itemsS, if_neg hl, h]
  simp only
  rw [itemsS_fuel l.length (t.length + 1) t (by omega) (by omega)]
theorem itemsL_bad {l : List Int} (hl : l ≠ []) (h : itemS l = none) : itemsL l = none := by
  unfold itemsL
  rw [itemsS, if_neg hl, h]

theorem decodeL_cons_le (l : List UInt8) (h : l ≠ []) : 1 ≤ (Lib.decodeL l).2 ∧ (Lib.decodeL l).2 ≤ l.length := ⟨Lib.decodeL_width l, Lib.decodeL_le l h⟩
theorem runesGo_fuel : ∀ (n m : Nat) (l : List UInt8), l.length ≤ n → l.length ≤ m → runesGo n l = runesGo m l
  | 0, m, l, h, _ => by
    have : l = [] := List.eq_nil_of_length_eq_zero (by omega)
    subst this; cases m <;> simp [runesGo]
  | n, 0, l, _, h => by
    have : l = [] := List.eq_nil_of_length_eq_zero (by omega)
    subst this; cases n <;> simp [runesGo]
  | n + 1, m + 1, l, h1, h2 => by
    unfold runesGo
    split
    · rfl
    · rename_i hl
      have := decodeL_cons_le l hl
      rw [runesGo_fuel n m (l.drop (Lib.decodeL l).2) (by rw [List.length_drop]; omega) (by rw [List.length_drop]; omega)]
theorem runesL_nil : runesL [] = [] := rfl
theorem runesL_step (l : List UInt8) (h : l ≠ []) : runesL l = ((Lib.decodeL l).1 : Int) :: runesL (l.drop (Lib.decodeL l).2) := by
  have h1 := decodeL_cons_le l h
  have hl : l.length = (l.length - 1) + 1 := by have := List.length_pos_iff.2 h; omega
  unfold runesL
  rw [hl, runesGo, if_neg h, runesGo_fuel _ (l.drop (Lib.decodeL l).2).length (l.drop (Lib.decodeL l).2) (by rw [List.length_drop]; omega) (Nat.le_refl _)]
theorem runesGo_length : ∀ (n : Nat) (l : List UInt8), (runesGo n l).length ≤ n
  | 0, _ => by simp [runesGo]
  | n + 1, l => by
    unfold runesGo
    split
    · simp
    · have := runesGo_length n (l.drop (Lib.decodeL l).2); simp; omega
theorem runesL_length (l : List UInt8) : (runesL l).length ≤ l.length := runesGo_length _ _
/-- What the model's conversion to runes gives. -/
theorem runesFrom_eq (s : ByteArray) : ∀ (n i : Nat) (acc : Array Value), Conv.runesFrom s n i acc = acc ++ ((runesGo n (s.data.toList.drop i)).map (Value.int .i32)).toArray
  | 0, i, acc => by simp [Conv.runesFrom, runesGo]
  | n + 1, i, acc => by
    unfold Conv.runesFrom runesGo
    have hsz : s.size = s.data.toList.length := Lib.size_eq s
    by_cases h : i < s.size
    · rw [if_pos h, if_neg (by intro e; have := List.drop_eq_nil_iff.1 e; omega)]
      simp only
      rw [runesFrom_eq s n, Lib.decodeL_drop, List.drop_drop]
      apply Array.ext'
      simp
    · rw [if_neg h, if_pos (List.drop_eq_nil_iff.2 (by omega))]
      simp
theorem runes_conv (s : ByteArray) : Conv.runesFrom s s.size 0 #[] = ((runesL s.data.toList).map (Value.int .i32)).toArray := by
  rw [runesFrom_eq, Lib.size_eq]
  simp [runesL]

end Go.Proofs.YtdieneaillkbgaaGreatDoor

/- Plain words of chapter 18: sizes of patterns; rules. No program in sight. -/
namespace Go.Proofs.YtdieneaillkbgaaGreatDoor

theorem itemsS_length : ∀ (f : Nat) (l : List Int) (its : List PItem), itemsS f l = some its → its.length ≤ l.length
  | 0, _, _, h => by simp [itemsS] at h
  | f + 1, l, its, h => by
    unfold itemsS at h
    split at h
    · simp at h; subst h; simp
    · split at h
      · simp at h
      · rename_i it t e
        have := itemS_len e
        split at h
        · simp at h
        · rename_i its2 e2
          have h2 := itemsS_length f t its2 e2
          simp at h; subst h; simp; omega
theorem compS_items {p : List UInt8} {c : PComp} (h : compS p = some c) : c.items.length ≤ p.length := by
  unfold compS at h
  split at h
  · simp at h; subst h; simp
  · split at h
    · simp at h
    · rename_i its e
      have h1 := itemsS_length _ _ _ e
      have h2 := runesL_length p
      split at h
      · simp at h
      · simp at h; subst h; simp; omega
theorem compsS_len : ∀ {ps : List (List UInt8)} {cs : List PComp}, compsS ps = some cs → cs.length = ps.length
  | [], cs, h => by simp [compsS] at h; subst h; rfl
  | p :: ps, cs, h => by
    unfold compsS at h
    split at h
    · simp at h
    · split at h
      · simp at h
      · rename_i cs2 e2
        simp at h; subst h
        simp [compsS_len e2]
theorem compsS_items : ∀ {ps : List (List UInt8)} {cs : List PComp} {m : Nat}, compsS ps = some cs → (∀ p ∈ ps, p.length ≤ m) → ∀ c ∈ cs, c.items.length ≤ m
  | [], cs, m, h, _ => by simp [compsS] at h; subst h; simp
  | p :: ps, cs, m, h, hm => by
    unfold compsS at h
    split at h
    · simp at h
    · rename_i c0 e0
      split at h
      · simp at h
      · rename_i cs2 e2
        simp at h; subst h
        intro c hc
        rcases List.mem_cons.1 hc with rfl | hc
        · have := compS_items e0; have := hm p (by simp); omega
        · exact compsS_items e2 (fun q hq => hm q (by simp [hq])) c hc

/-- A rule. -/
structure PRule where
  pat : List UInt8
  keep : Bool
  dir : Bool
  rooted : Bool
/-- The components of a rule's pattern, or none. -/
def compileS (r : PRule) : Option (List PComp) :=
  if Lib.hasPrefix r.pat [33] || Lib.hasPrefix r.pat [35] then none else if r.pat.contains 47 && !r.rooted then none else patS r.pat
/-- Match: the result and the error. -/
def matchE (p l : List UInt8) : Bool × Int :=
  match patS p with
  | none => (false, 1)
  | some cs => if validP l then (matchS cs (splitL 47 l), 0) else (false, 1)
/-- The line of a rule. -/
def lineS (r : PRule) : List UInt8 :=
  (if r.keep then [33] else []) ++ (if r.rooted && !r.pat.contains 47 then [47] else []) ++ r.pat ++ (if r.dir then [47] else [])
/-- The rule of a line. -/
def ruleS (l : List UInt8) : PRule :=
  let l1 := Lib.trimPrefix l [33]
  let l2 := Lib.trimPrefix l1 [47]
  let p := Lib.trimSuffix l2 [47]
  ⟨p, Lib.hasPrefix l [33], Lib.hasSuffix l2 [47], Lib.hasPrefix l1 [47] || p.contains 47⟩
def parseLineS (l : List UInt8) : Option PRule := if (compileS (ruleS l)).isSome then some (ruleS l) else none
/-- Parse over the lines: i is the number of the next line; the result, the line, the error. -/
def parseS : List (List UInt8) → Nat → List PRule → List PRule × Int × Int
  | [], _, acc => (acc, 0, 0)
  | l :: ls, i, acc => if l = [] ∨ Lib.hasPrefix l [35] = true then parseS ls (i + 1) acc else
    match parseLineS l with
    | none => ([], i + 1, 3)
    | some r => if acc.length = 256 then ([], i + 1, 2) else parseS ls (i + 1) (acc ++ [r])
def parseE (l : List UInt8) : List PRule × Int × Int := if 65536 < l.length then ([], 0, 2) else parseS (splitL 10 l) 0 []
/-- Ignored, at one directory of the path: n components of parts. -/
def ruleHits (dir : Bool) (r : PRule) (cs : List PComp) (parts : List (List UInt8)) (n : Nat) : Bool :=
  (dir || decide (n < parts.length) || !r.dir) && matchS cs (if r.rooted then parts.take n else (parts.take n).drop (n - 1))
def ignAt (dir : Bool) (parts : List (List UInt8)) (n : Nat) : List (PRule × List PComp) → Bool → Bool
  | [], b => b
  | (r, cs) :: t, b => ignAt dir parts n t (if ruleHits dir r cs parts n then !r.keep else b)
def ignFrom (dir : Bool) (parts : List (List UInt8)) (rs : List (PRule × List PComp)) : Nat → Nat → Bool
  | 0, _ => false
  | f + 1, n => if ignAt dir parts n rs false then true else ignFrom dir parts rs f (n + 1)
def compileAll : List PRule → Option (List (PRule × List PComp))
  | [] => some []
  | r :: t => match compileS r with
    | none => none
    | some cs => match compileAll t with | none => none | some u => some ((r, cs) :: u)
def ignoredE (rs : List PRule) (path : List UInt8) (dir : Bool) : Bool × Int :=
  if validP path = false ∨ 256 < rs.length then (false, 1) else
  match compileAll rs with
  | none => (false, 1)
  | some u => (ignFrom dir (splitL 47 path) u (splitL 47 path).length 1, 0)
/-- Print: the text and the error. -/
def printE (rs : List PRule) : List UInt8 × Int :=
  if (rs.all fun r => (compileS r).isSome) = false then ([], 1) else if 256 < rs.length then ([], 2) else (rs.flatMap fun r => lineS r ++ [10], 0)

end Go.Proofs.YtdieneaillkbgaaGreatDoor

/- Plain laws of the order of paths. No program in sight. -/
namespace Go.Proofs.YtdieneaillkbgaaGreatDoor

theorem rankL_inj {a b : UInt8} (h : rankL a = rankL b) : a = b := by
  unfold rankL at h
  split at h <;> split at h
  · simp [*]
  · omega
  · omega
  · apply UInt8.toNat_inj.1; omega
theorem rankL_lo (a : UInt8) (h : a ≠ 47) : 0 ≤ rankL a := by unfold rankL; rw [if_neg h]; omega
theorem cmp3 : ∀ (a b : List UInt8), cmpL a b = -1 ∨ cmpL a b = 0 ∨ cmpL a b = 1
  | [], [] => by simp [cmpL]
  | [], _ :: _ => by simp [cmpL]
  | _ :: _, [] => by simp [cmpL]
  | a :: l, b :: r => by
    unfold cmpL
    split
    · exact cmp3 l r
    · unfold Lib.compareInt; split
      · simp
      · split <;> simp
theorem cmp_neg : ∀ (a b : List UInt8), cmpL b a = -cmpL a b
  | [], [] => by simp [cmpL]
  | [], _ :: _ => by simp [cmpL]
  | _ :: _, [] => by simp [cmpL]
  | a :: l, b :: r => by
    unfold cmpL
    by_cases h : a = b
    · rw [if_pos h, if_pos h.symm]; exact cmp_neg l r
    · rw [if_neg h, if_neg (Ne.symm h)]
      have : rankL a ≠ rankL b := fun e => h (rankL_inj e)
      unfold Lib.compareInt
      rcases Int.lt_trichotomy (rankL a) (rankL b) with h1 | h1 | h1
      · rw [if_neg (by omega), if_pos (by omega), if_pos h1]; rfl
      · exact absurd h1 this
      · rw [if_pos (by omega), if_neg (by omega), if_pos (by omega)]
theorem cmp_zero : ∀ (a b : List UInt8), cmpL a b = 0 ↔ a = b
  | [], [] => by simp [cmpL]
  | [], _ :: _ => by simp [cmpL]
  | _ :: _, [] => by simp [cmpL]
  | a :: l, b :: r => by
    unfold cmpL
    by_cases h : a = b
    · rw [if_pos h, cmp_zero l r]; simp [h]
    · rw [if_neg h]
      have : rankL a ≠ rankL b := fun e => h (rankL_inj e)
      unfold Lib.compareInt
      constructor
      · intro e; split at e
        · omega
        · split at e <;> omega
      · intro e; simp at e; exact absurd e.1 h
theorem cmp_trans : ∀ (a b c : List UInt8), cmpL a b ≤ 0 → cmpL b c ≤ 0 → cmpL a c ≤ 0 ∧ (cmpL a c = 0 → cmpL a b = 0 ∧ cmpL b c = 0)
  | [], b, [], h1, h2 => by
    cases b with
    | nil => simp [cmpL]
    | cons x b => simp [cmpL] at h2
  | [], _, _ :: _, _, _ => by simp [cmpL]
  | _ :: _, [], _, h1, _ => by simp [cmpL] at h1
  | x :: a, y :: b, [], _, h2 => by simp [cmpL] at h2
  | x :: a, y :: b, z :: c, h1, h2 => by
    unfold cmpL at h1 h2 ⊢
    by_cases hxy : x = y
    · subst hxy
      rw [if_pos rfl] at h1 ⊢
      by_cases hxz : x = z
      · subst hxz
        rw [if_pos rfl] at h2 ⊢
        rw [if_pos rfl]
        exact cmp_trans a b c h1 h2
      · rw [if_neg hxz] at h2 ⊢
        rw [if_neg hxz]
        refine ⟨h2, fun e => ?_⟩
        exfalso
        have : rankL x ≠ rankL z := fun e => hxz (rankL_inj e)
        unfold Lib.compareInt at e
        split at e
        · omega
        · split at e <;> omega
    · rw [if_neg hxy] at h1 ⊢
      have n1 : rankL x ≠ rankL y := fun e => hxy (rankL_inj e)
      have l1 : rankL x < rankL y := by
        unfold Lib.compareInt at h1
        split at h1
        · assumption
        · split at h1
          · omega
          · omega
      by_cases hyz : y = z
      · subst hyz
        rw [if_neg hxy]
        refine ⟨h1, fun e => ?_⟩
        exfalso
        unfold Lib.compareInt at e
        rw [if_pos l1] at e; omega
      · rw [if_neg hyz] at h2
        have n2 : rankL y ≠ rankL z := fun e => hyz (rankL_inj e)
        have l2 : rankL y < rankL z := by
          unfold Lib.compareInt at h2
          split at h2
          · assumption
          · split at h2 <;> omega
        have n3 : x ≠ z := fun e => by subst e; omega
        rw [if_neg n3]
        unfold Lib.compareInt
        rw [if_pos (by omega)]
        exact ⟨by omega, fun e => by omega⟩
theorem cmp_app : ∀ (p q : List UInt8), cmpL p (p ++ q) ≤ 0
  | [], [] => by simp [cmpL]
  | [], _ :: _ => by simp [cmpL]
  | a :: p, q => by rw [List.cons_append, cmpL, if_pos rfl]; exact cmp_app p q
theorem cmp_between : ∀ (d b r : List UInt8), cmpL d b ≤ 0 → cmpL b (d ++ 47 :: r) ≤ 0 → b = d ∨ ∃ s, b = d ++ 47 :: s
  | [], [], _, _, _ => .inl rfl
  | [], x :: b, r, _, h2 => by
    by_cases hx : x = 47
    · exact .inr ⟨b, by simp [hx]⟩
    · rw [List.nil_append, cmpL, if_neg hx] at h2
      have h3 := rankL_lo x hx
      have h4 : rankL 47 = -1 := rfl
      unfold Lib.compareInt at h2
      rw [h4, if_neg (by omega), if_pos (by omega)] at h2
      omega
  | y :: d, [], _, h1, _ => by simp [cmpL] at h1
  | y :: d, x :: b, r, h1, h2 => by
    rw [List.cons_append] at h2
    unfold cmpL at h1 h2
    by_cases hxy : y = x
    · subst hxy
      rw [if_pos rfl] at h1 h2
      rcases cmp_between d b r h1 h2 with h | ⟨s, h⟩
      · exact .inl (by rw [h])
      · exact .inr ⟨s, by rw [h]; rfl⟩
    · rw [if_neg hxy] at h1
      rw [if_neg (Ne.symm hxy)] at h2
      have n1 : rankL y ≠ rankL x := fun e => hxy (rankL_inj e)
      unfold Lib.compareInt at h1 h2
      split at h1
      · split at h2
        · omega
        · first | omega | (split at h2 <;> omega)
      · first | omega | (split at h1 <;> omega)

end Go.Proofs.YtdieneaillkbgaaGreatDoor

/- Plain words for the specification's side of chapter 18. No program in sight. -/
namespace Go.Proofs.YtdieneaillkbgaaGreatDoor

theorem addOf (k n : Nat) (z : Int) (h : z = ((k + n : Nat) : Int)) : UInt8.ofNat k + UInt8.ofNat n = UInt8.ofNat z.toNat := by
  subst h; rw [Int.toNat_natCast, UInt8.ofNat_add]
theorem encode_lib (r : Nat) : (Utf8.encode (r : Int)).data.toList = Lib.encodeRune (r : Int) := by
  unfold Lib.encodeRune
  by_cases c1 : r < 128
  · have v : Utf8.valid (r : Int) = true := by simp [Utf8.valid]; omega
    rw [Lib.encodeRuneZ_one (by omega) (by omega)]; simp [Utf8.encode, v, c1]
  by_cases c2 : r < 2048
  · have v : Utf8.valid (r : Int) = true := by simp [Utf8.valid]; omega
    rw [Lib.encodeRuneZ_two (by omega) (by omega)]; simp [Utf8.encode, v, c1, c2]; exact ⟨addOf 192 _ _ (by omega), addOf 128 _ _ (by omega)⟩
  by_cases hb : (55296 ≤ r ∧ r ≤ 57343) ∨ 1114111 < r
  · have v : Utf8.valid (r : Int) = false := by simp [Utf8.valid]; omega
    rw [Lib.encodeRuneZ_bad (by omega)]; simp [Utf8.encode, v, Utf8.runeError]
  by_cases c3 : r < 65536
  · have v : Utf8.valid (r : Int) = true := by simp [Utf8.valid]; omega
    rw [Lib.encodeRuneZ_three (by omega)]; simp [Utf8.encode, v, c1, c2, c3]; exact ⟨addOf 224 _ _ (by omega), addOf 128 _ _ (by omega), addOf 128 _ _ (by omega)⟩
  · have v : Utf8.valid (r : Int) = true := by simp [Utf8.valid]; omega
    rw [Lib.encodeRuneZ_four (by omega) (by omega)]; simp [Utf8.encode, v, c1, c2, c3]; exact ⟨addOf 240 _ _ (by omega), addOf 128 _ _ (by omega), addOf 128 _ _ (by omega), addOf 128 _ _ (by omega)⟩

/-- The runes of a string, encoded again. -/
def reL (l : List UInt8) : List UInt8 := (runesL l).flatMap Lib.encodeRune
theorem reL_nil : reL [] = [] := rfl
theorem reL_step (l : List UInt8) (h : l ≠ []) : reL l = Lib.encodeRune ((Lib.decodeL l).1 : Int) ++ reL (l.drop (Lib.decodeL l).2) := by
  unfold reL; rw [runesL_step l h, List.flatMap_cons]
theorem encodeRune_len (r : Int) : (Lib.encodeRune r).length ≤ 4 := by
  have := (Lib.encodeRuneZ_length r).2; simpa [Lib.encodeRune] using this
theorem reL_law : ∀ (n : Nat) (l : List UInt8), l.length ≤ n → l.length ≤ (reL l).length ∧ (reL l = l ↔ Lib.validD l = true)
  | 0, l, h => by
    have : l = [] := List.eq_nil_of_length_eq_zero (by omega)
    subst this
    exact ⟨by simp, by simp [reL_nil, Lib.validD_nil]⟩
  | n + 1, l, h => by
    by_cases hl : l = []
    · subst hl
      exact ⟨by simp, by simp [reL_nil, Lib.validD_nil]⟩
    · have hw := decodeL_cons_le l hl
      obtain ⟨ih1, ih2⟩ := reL_law n (l.drop (Lib.decodeL l).2) (by rw [List.length_drop]; omega)
      rw [List.length_drop] at ih1
      rw [reL_step l hl, Lib.validD_step l hl]
      by_cases hb : (Lib.decodeL l).1 = 65533 ∧ (Lib.decodeL l).2 = 1
      · have e3 : (Lib.encodeRune ((Lib.decodeL l).1 : Int)).length = 3 := by rw [hb.1]; rfl
        rw [if_pos hb]
        refine ⟨by rw [List.length_append, e3]; omega, ⟨fun e => ?_, fun e => by cases e⟩⟩
        have := congrArg List.length e
        rw [List.length_append, e3] at this
        omega
      · rw [if_neg hb, Lib.encode_decode l hl hb]
        refine ⟨by rw [List.length_append, List.length_take]; omega, ?_⟩
        rw [← ih2]
        constructor
        · intro e
          have h2 : l.take (Lib.decodeL l).2 ++ reL (l.drop (Lib.decodeL l).2) = l.take (Lib.decodeL l).2 ++ l.drop (Lib.decodeL l).2 := by rw [List.take_append_drop]; exact e
          exact List.append_cancel_left h2
        · intro e; rw [e, List.take_append_drop]
theorem reL_valid (l : List UInt8) : (reL l == l) = Lib.validD l := by
  rw [Bool.eq_iff_iff, beq_iff_eq]; exact (reL_law l.length l (Nat.le_refl _)).2

theorem compB_slash (l : List UInt8) : ((splitL 47 l).length == 1) = !l.contains 47 := by
  by_cases h : (47 : UInt8) ∈ l
  · obtain ⟨p, q, rfl, hp⟩ := index_one l 47 h
    have := splitL_pos 47 q
    rw [splitL_append 47 p q hp]
    have h2 : ((p :: splitL 47 q).length == 1) = false := by rw [beq_eq_false_iff_ne]; simp; exact splitL_ne 47 q
    rw [h2]; simp
  · rw [splitL_whole 47 l h]; simp [h]
theorem uniteL_snoc (ps : List (List UInt8)) (p : List UInt8) : uniteL (ps ++ [p]) = if ps = [] then p else uniteL ps ++ [47] ++ p := by
  cases ps with
  | nil => simp [uniteL, Lib.join_one]
  | cons q ps =>
    simp only [List.cons_append, uniteL, Lib.join_cons, if_neg (List.cons_ne_nil q ps)]
    have : ∀ (l : List (List UInt8)), Lib.joinTail [47] (l ++ [p]) = Lib.joinTail [47] l ++ 47 :: p := by
      intro l
      induction l with
      | nil => simp [Lib.joinTail]
      | cons a l _ => simp only [List.cons_append, Lib.joinTail]; simp
    rw [this]; simp

end Go.Proofs.YtdieneaillkbgaaGreatDoor

/- Plain laws of cleaned paths, joins and parents. No program in sight. -/
namespace Go.Proofs.YtdieneaillkbgaaGreatDoor

theorem compB_ne {p : List UInt8} (h : compB p = true) : p ≠ [] ∧ p ≠ [46] ∧ p ≠ [46, 46] ∧ 47 ∉ p := by
  simp only [compB, Bool.and_eq_true] at h
  obtain ⟨⟨⟨⟨⟨h1, _⟩, h2⟩, h3⟩, h4⟩, _⟩ := h
  exact ⟨by simpa using h1, by simpa using h2, by simpa using h3, by simpa using h4⟩
theorem valid_comps {l : List UInt8} (h : validP l = true) : ∀ p ∈ splitL 47 l, compB p = true := by
  simp only [validP, Bool.and_eq_true] at h
  exact List.all_eq_true.1 h.2
theorem cleanParts_comps : ∀ (ps acc : List (List UInt8)), (∀ p ∈ ps, compB p = true) → cleanParts ps acc = some (acc ++ ps)
  | [], acc, _ => by simp [cleanParts]
  | p :: ps, acc, h => by
    obtain ⟨h1, h2, h3, _⟩ := compB_ne (h p (by simp))
    rw [cleanParts, if_neg (by simp [h1, h2]), if_neg h3, cleanParts_comps ps _ (fun q hq => h q (by simp [hq]))]
    simp
theorem unite_split (l : List UInt8) : uniteL (splitL 47 l) = l := join_splitL 47 l
/-- Clean changes no path. -/
theorem clean_valid {l : List UInt8} (h : validP l = true) : cleanL l = some l := by
  unfold cleanL
  rw [cleanParts_comps _ _ (valid_comps h), List.nil_append]
  simp only
  rw [unite_split, if_pos h]
theorem clean_some {l p : List UInt8} (h : cleanL l = some p) : validP p = true := by
  unfold cleanL at h
  split at h
  · simp at h
  · split at h
    · simp at h; subst h; assumption
    · simp at h
theorem clean_none {l : List UInt8} (h : cleanL l = none) : validP l = false := by
  cases hv : validP l
  · rfl
  · rw [clean_valid hv] at h; simp at h
theorem clean_same {l p : List UInt8} (h : cleanL l = some p) (hv : validP l = true) : p = l := by
  rw [clean_valid hv] at h; simp at h; exact h.symm
/-- Join inverts Split. -/
theorem join_split {l : List UInt8} (h : validP l = true) : joinL (splitL 47 l) = (l, 0) := by
  have h2 := h
  simp only [validP, Bool.and_eq_true, decide_eq_true_eq] at h2
  unfold joinL
  rw [if_neg (splitL_ne 47 l), if_neg (by rw [h2.2]; simp), unite_split, if_neg (by omega)]
theorem unite_snoc {ps : List (List UInt8)} {p : List UInt8} (h : ps ≠ []) : uniteL (ps ++ [p]) = uniteL ps ++ 47 :: p := by
  rw [uniteL_snoc, if_neg h]; simp
theorem parent_nil {l : List UInt8} (h : validP l = true) : parentL l = [] ↔ (splitL 47 l).length = 1 := by
  have hne := splitL_ne 47 l
  have hc := valid_comps h
  obtain ⟨qs, q, hq⟩ : ∃ qs q, splitL 47 l = qs ++ [q] := ⟨(splitL 47 l).dropLast, (splitL 47 l).getLast hne, (List.dropLast_concat_getLast hne).symm⟩
  unfold parentL
  rw [hq] at hc ⊢
  rw [List.dropLast_concat]
  cases qs with
  | nil => simp [uniteL, Lib.join_nil]
  | cons a qs =>
    have h1 := (compB_ne (hc a (by simp))).1
    constructor
    · intro e
      exfalso
      rw [uniteL, Lib.join_cons] at e
      have := List.append_eq_nil_iff.1 e
      exact h1 this.1
    · intro e; simp at e
theorem parent_last {l : List UInt8} (hn : (splitL 47 l).length ≠ 1) : parentL l ++ 47 :: (splitL 47 l).getLast (splitL_ne 47 l) = l := by
  have hne := splitL_ne 47 l
  have h1 := splitL_pos 47 l
  have h2 : (splitL 47 l).dropLast ≠ [] := by
    intro e
    have := congrArg List.length e
    rw [List.length_dropLast] at this
    simp at this; omega
  unfold parentL
  rw [← unite_snoc h2, List.dropLast_concat_getLast, unite_split]
theorem parent_valid {l : List UInt8} (h : validP l = true) (hn : parentL l ≠ []) : validP (parentL l) = true := by
  have hc := valid_comps h
  have h2 := h
  simp only [validP, Bool.and_eq_true, decide_eq_true_eq] at h2
  have hd : (splitL 47 l).dropLast ≠ [] := by
    intro e; apply hn; unfold parentL; rw [e]; rfl
  have hs : splitL 47 (parentL l) = (splitL 47 l).dropLast := by
    unfold parentL uniteL
    exact splitL_join 47 _ hd (fun p hp => splitL_mem 47 l p ((List.dropLast_sublist _).subset hp))
  have hl : (parentL l).length ≤ l.length := by
    have := congrArg List.length (parentL_take l)
    rw [List.length_take] at this; omega
  unfold validP
  rw [hs]
  simp only [Bool.and_eq_true, decide_eq_true_eq, List.length_dropLast]
  exact ⟨⟨by omega, by omega⟩, List.all_eq_true.2 (fun p hp => hc p ((List.dropLast_sublist _).subset hp))⟩

end Go.Proofs.YtdieneaillkbgaaGreatDoor

/- The shelf's contracts in this proof's own words. -/
namespace Go.Proofs.YtdieneaillkbgaaGreatDoor
open Go.RowKit

theorem contains_one (s : ByteArray) (c : UInt8) (w : World) :
    Calls Tryz.prog 135 #[.string s, .string ⟨#[c]⟩] w fun e w' => e = .returned (.bool ((bl s).contains c)) ∧ w = w' :=
  (Tryz.strings_Contains_one s c w).mono fun _ _ ⟨he, hw⟩ => ⟨by rw [he]; exact congrArg _ (congrArg _ (indexByte_contains (bl s) c)), hw.symm⟩
theorem validString_any (s : ByteArray) (w : World) (he : Env w) (hs : s.size ≤ 9223372036854775807) :
    Calls Tryz.prog 143 #[.string s] w fun e w' => e = .returned (.bool (Lib.validD (bl s))) ∧ Below w.heap.size w w' := Tryz.utf8_ValidString s w hs he.tabs
theorem compareInt_any (x y : Int) (w : World) :
    Calls Tryz.prog 81 #[.int .i64 x, .int .i64 y] w fun e w' => e = .returned (.int .i64 (Lib.compareInt x y)) ∧ w = w' :=
  (Tryz.cmp_Compare_int x y w).mono fun _ _ ⟨he, hw⟩ => ⟨he, hw.symm⟩

/-- strings.Split at one byte: the parts, in a new block. -/
def SplitPost (c : UInt8) (s : ByteArray) (w : World) (e : Ending) (w' : World) : Prop :=
  ∃ xs : List ByteArray, xs.map bl = splitL c (bl s) ∧ e = .returned (.slice (some ⟨w.heap.size, 0, none⟩) xs.length xs.length) ∧ w' = w.alloc (.cells (xs.map Value.string).toArray 9)
theorem split_any (s : ByteArray) (c : UInt8) (w : World) (he : Env w) (hs : s.size < 4294967281) :
    Calls Tryz.prog 122 #[.string s, .string ⟨#[c]⟩] w (SplitPost c s w) := by
  obtain ⟨m, hm⟩ := he.maxLen
  refine (Tryz.strings_Split s ⟨#[c]⟩ m w hs hm (by simp [ByteArray.size])).mono fun e w' ⟨h1, h2⟩ => ?_
  refine ⟨Lib.splitB ⟨#[c]⟩ 0 (Lib.countB s ⟨#[c]⟩) s, splitB_eq c s, ?_, h2⟩
  rw [splitB_len]; exact h1

/-- Where the last slash lies, or -1. -/
def lastSlash (l : List UInt8) : Int := if 47 ∈ l then ((parentL l).length : Int) else -1
theorem byte47 (c : UInt8) (h : (c.toNat : Int) = 47) : c = 47 := by
  apply UInt8.toNat_inj.1
  have : c.toNat = 47 := by omega
  rw [this]; rfl
theorem lastSlash_eq (s : ByteArray) : Lib.lastIndexByte s 47 = lastSlash (bl s) := by
  unfold Lib.lastIndexByte -- function 88
  have get : ∀ j, (hj : j < (bl s).length) → s.data[j]! = (bl s)[j] := fun j hj => by
    have h2 : j < s.data.size := by rw [← size_bl] at hj; exact hj
    rw [getElem!_pos s.data j h2]
    exact (Array.getElem_toList (xs := s.data) h2).symm
  rw [size_bl]
  generalize hl : bl s = l at *
  rcases Lib.lastIdx_spec s 47 l.length with ⟨h1, h2⟩ | ⟨i, h1, h2, h3, h4⟩
  · rw [h1]
    have : 47 ∉ l := by
      intro hm
      obtain ⟨j, hj, e⟩ := List.getElem_of_mem hm
      refine h2 j hj ?_
      rw [get j hj, e]; rfl
    simp [lastSlash, this]
  · have e : l = l.take i ++ 47 :: l.drop (i + 1) := by
      have := byte47 _ h3
      rw [get i h1] at this
      rw [← this]; simp
    have hq : 47 ∉ l.drop (i + 1) := by
      intro hm
      obtain ⟨j, hj, e⟩ := List.getElem_of_mem hm
      rw [List.length_drop] at hj
      refine h4 (i + 1 + j) (by omega) (by omega) ?_
      rw [get _ (by omega)]
      rw [List.getElem_drop] at e
      rw [e]; rfl
    have hp : parentL l = l.take i := by
      have := parentL_cat (l.take i) _ hq
      rw [← e] at this; exact this
    have hm : 47 ∈ l := by rw [e]; simp
    rw [h2, lastSlash, if_pos hm, hp, List.length_take]
    congr 1; omega
theorem lastIndex_any (s : ByteArray) (w : World) (hs : s.size < 4611686018427387904) :
    Calls Tryz.prog 88 #[.string s, .string ⟨#[47]⟩] w fun e w' => e = .returned (.int .i64 (lastSlash (bl s))) ∧ w = w' :=
  (Tryz.strings_LastIndex_one s ⟨#[47]⟩ rfl hs w).mono fun _ _ ⟨he, hw⟩ => ⟨by rw [he]; exact congrArg _ (congrArg _ (lastSlash_eq s)), hw.symm⟩

end Go.Proofs.YtdieneaillkbgaaGreatDoor

/- Contracts of package pathname's functions on paths: isText, isComponent. -/
namespace Go.Proofs.YtdieneaillkbgaaGreatDoor
open Go.RowKit

theorem take_low {s : ByteArray} {p q : Nat} (h : ∀ j, j < p → j < s.size → 32 ≤ (s.get! j).toNat) (h2 : ∀ j, p ≤ j → j < q → 128 ≤ (s.get! j).toNat) : ∀ j, j < q → j < s.size → 32 ≤ (s.get! j).toNat := by
  intro j hj hs
  rcases Nat.lt_or_ge j p with h' | h'
  · exact h j h' hs
  · have := h2 j h' hj; omega
theorem get_bl (s : ByteArray) (j : Nat) (h : j < s.size) : s.get! j = (bl s)[j]'(by rw [← size_bl]; exact h) := by
  have e : s.get! j = s.data[j]! := rfl
  have h2 : j < s.data.size := h
  rw [e, getElem!_pos s.data j h2]
  simp [bl]
theorem low_all {s : ByteArray} (h : ∀ j, j < s.size → 32 ≤ (s.get! j).toNat) : lowFree (bl s) = true := by
  unfold lowFree
  rw [List.all_eq_true]
  intro c hc
  obtain ⟨j, hj, rfl⟩ := List.getElem_of_mem hc
  have hj2 : j < s.size := by rw [size_bl]; exact hj
  have := h j hj2
  rw [get_bl s j hj2] at this
  simpa using this
theorem low_none {s : ByteArray} {j : Nat} (hj : j < s.size) (h : (s.get! j).toNat < 32) : lowFree (bl s) = false := by
  unfold lowFree
  rw [List.all_eq_false]
  rw [get_bl s j hj] at h
  exact ⟨(bl s)[j]'(by rw [← size_bl]; exact hj), List.getElem_mem _, by rw [decide_eq_true_eq]; omega⟩
theorem decode_low (s : ByteArray) (pos : Nat) (h : pos < s.size) :
    ((s.get! pos).toNat < 128 ∧ Utf8.decode s pos = ((s.get! pos).toNat, 1)) ∨ (128 ≤ (s.get! pos).toNat ∧ 128 ≤ (Utf8.decode s pos).1) := by
  have e := get_at s pos h
  rw [Nat.add_zero] at e
  rcases Nat.lt_or_ge (s.get! pos).toNat 128 with h1 | h1
  · exact .inl ⟨h1, by rw [decode_ascii s pos h (by rw [← e]; exact h1), ← e]⟩
  · exact .inr ⟨h1, (decode_high s pos h (by rw [← e]; exact h1)).1⟩

set_option maxHeartbeats 400000 in
theorem isText_any (s : ByteArray) (w : World) (he : Env w) (hs : s.size ≤ 9223372036854775807) :
    Calls Tryz.prog 136 #[.string s] w fun e w' => e = .returned (.bool (textB (bl s))) ∧ Below w.heap.size w w' := by
  have HE := Lib.hid he
  clear he
  go_enter Tryz.func136, Tryz.ntmps136
  go_wp2
  go_loopw [4] (fun _ wr => ∃ pos : Nat, wr = w.iter s pos ∧ ∀ j, j < pos → j < s.size → 32 ≤ (s.get! j).toNat) (fun _ wr => s.size - wr.iterPos w.heap.size)
  case atStart => exact ⟨0, rfl, fun j hj => by omega⟩
  case round =>
    obtain ⟨pos, rfl, hlow⟩ := hrel
    have HL := Lib.hid hlow
    clear hlow
    by_cases hp : pos < s.size
    · have hnx : ∀ ty, (Instr.next (.pointer (some ⟨w.heap.size, 0, none⟩)) true ty).run Tryz.prog (w.iter s pos) = _ := fun ty => run_next_any w s pos ty hp
      go_wp2
      · go_ret
        refine ⟨ret_bool ?_, (Below.refl _ _).alloc (Nat.le_refl _) _⟩
        have hlt : ((Utf8.decode s pos).1 : Int) < 32 := by assumption
        have hd := decode_low s pos hp
        have hd2 : (s.get! pos).toNat < 32 := by
          rcases hd with ⟨_, h2⟩ | ⟨_, h2⟩
          · rw [h2] at hlt; simp only at hlt; omega
          · omega
        simp [textB, low_none hp hd2]
      · go_roundw
        case rel =>
          refine ⟨pos + (Utf8.decode s pos).2, rfl, ?_⟩
          have hge : (32 : Int) ≤ (Utf8.decode s pos).1 := by assumption
          rcases decode_low s pos hp with ⟨h1, h2⟩ | ⟨h1, h2⟩
          · intro j hj hjs
            rw [h2] at hge hj
            rcases Nat.lt_or_ge j pos with h3 | h3
            · exact HL.out j h3 hjs
            · rw [show j = pos by simp at hj; omega]; simp at hge; omega
          · exact take_low HL.out (decode_span s pos hp h1).2
        case measure =>
          rw [World.iterPos_iter, World.iterPos_iter]
          have := Lib.width_pos s pos
          omega
    · have hnx : ∀ ty, (Instr.next (.pointer (some ⟨w.heap.size, 0, none⟩)) true ty).run Tryz.prog (w.iter s pos) = _ := fun ty => run_next_end w s pos ty hp
      go_wp2_with (go_at_call 143; refine (validString_any s _ (HE.out.below ((Below.refl _ _).alloc (Nat.le_refl _) _)) hs).mono ?_; rintro e w' ⟨rfl, hb⟩)
      go_ret
      refine ⟨ret_bool ?_, below_next ((Below.refl _ _).alloc (Nat.le_refl _) _) hb⟩
      simp only [textB, low_all (fun j hj => HL.out j (by omega) hj), Bool.true_and]


set_option maxHeartbeats 400000 in
theorem isComponent_any (s : ByteArray) (w : World) (he : Env w) (hs : s.size ≤ 9223372036854775807) :
    Calls Tryz.prog 123 #[.string s] w fun e w' => e = .returned (.bool (compB (bl s))) ∧ Below w.heap.size w w' := by
  have HE := Lib.hid he
  clear he
  go_enter Tryz.func123, Tryz.ntmps123
  go_wp2_with (first
    | (go_at_call 135; refine (contains_one _ _ _).mono ?_; rintro e w' ⟨rfl, rfl⟩)
    | (go_at_call 136; refine (isText_any _ _ HE.out hs).mono ?_; rintro e w' ⟨rfl, hb⟩))
  all_goals (go_ret; refine ⟨ret_bool ?_, by first | exact Below.refl _ _ | exact hb⟩)
  all_goals (rw [Bool.eq_iff_iff]; simp_all [compB, toList_bl, size_bl])
  all_goals first | omega | (intros; omega)


/-- What Split leaves. -/
def SplitOk (s : ByteArray) (w : World) (e : Ending) (w' : World) : Prop :=
  ∃ v xs, e = .returned (.tuple #[v, .int .i64 0]) ∧ xs.map bl = splitL 47 (bl s) ∧ StrsAt (w.heap.size ≤ ·) w' v xs ∧ Below w.heap.size w w'
def SplitBad (w : World) (e : Ending) (w' : World) : Prop := e = .returned (.tuple #[.slice none 0 0, .int .i64 1]) ∧ Below w.heap.size w w'
def SplitRes (s : ByteArray) (w : World) (e : Ending) (w' : World) : Prop := (validP (bl s) = true ∧ SplitOk s w e w') ∨ (validP (bl s) = false ∧ SplitBad w e w')

theorem row_cell {w : World} {xs : List Value} {e : TypeId} {k : Nat} {x : Value} (hx : xs[k]? = some x) : (w.alloc (.cells xs.toArray e)).cell? ⟨w.heap.size, k, none⟩ = some x := by
  have h := heap_alloc_new w (.cells xs.toArray e)
  simp only [World.cell?, h]
  simp [hx]
theorem map_get {xs : List ByteArray} {k : Nat} {x : ByteArray} (hx : xs[k]? = some x) : (xs.map Value.string)[k]? = some (.string x) := by simp [hx]

theorem split_all {xs : List ByteArray} {s : ByteArray} (hx : xs.map bl = splitL 47 (bl s)) (h1 : (bl s).length ≤ 512) (h2 : xs.length ≤ 16) (h : ∀ (j : Nat) x, j < xs.length → xs[j]? = some x → compB (bl x) = true) : validP (bl s) = true := by
  have hl : (splitL 47 (bl s)).length = xs.length := by rw [← hx]; simp
  have ha : (splitL 47 (bl s)).all compB = true := by
    rw [← hx, List.all_map, List.all_eq_true]
    intro x hm
    obtain ⟨j, hj, rfl⟩ := List.getElem_of_mem hm
    exact h j _ hj (by simp)
  simp [validP, h1, hl, h2, ha]
theorem split_not {xs : List ByteArray} {s : ByteArray} {j : Nat} {x : ByteArray} (hx : xs.map bl = splitL 47 (bl s)) (h : xs[j]? = some x) (hc : compB (bl x) = false) : validP (bl s) = false := by
  have ha : (splitL 47 (bl s)).all compB = false := by
    rw [← hx, List.all_map, List.all_eq_false]
    exact ⟨x, List.mem_of_getElem? h, by simp [hc]⟩
  simp [validP, ha]
theorem split_len {xs : List ByteArray} {s : ByteArray} (hx : xs.map bl = splitL 47 (bl s)) (h : ¬ xs.length ≤ 16) : validP (bl s) = false := by
  have hl : (splitL 47 (bl s)).length = xs.length := by rw [← hx]; simp
  simp [validP, hl, h]
theorem split_long {s : ByteArray} (h : ¬ (bl s).length ≤ 512) : validP (bl s) = false := by simp [validP, h]
theorem mem_split_le (c : UInt8) (l : List UInt8) : ∀ p ∈ splitL c l, p.length ≤ l.length := by
  induction l with
  | nil => simp [splitL]
  | cons b l ih =>
    unfold splitL
    split
    · intro p hp; rcases List.mem_cons.1 hp with rfl | hp
      · simp
      · have := ih p hp; simp; omega
    · split
      · rename_i h t e
        rw [e] at ih
        intro p hp; rcases List.mem_cons.1 hp with rfl | hp
        · have := ih h (by simp); simp; omega
        · have := ih p (by simp [hp]); simp; omega
      · intro p hp; simp at hp; simp [hp]
theorem part_size {xs : List ByteArray} {s : ByteArray} {c : UInt8} {j : Nat} {x : ByteArray} (hx : xs.map bl = splitL c (bl s)) (h : xs[j]? = some x) : x.size ≤ s.size := by
  rw [size_bl, size_bl]
  exact mem_split_le c (bl s) (bl x) (by rw [← hx]; exact List.mem_map.2 ⟨x, List.mem_of_getElem? h, rfl⟩)

theorem strs_new {w w' : World} {xs : List ByteArray} {e : TypeId} (hl : xs.length ≤ maxLen) (hb : Below (w.heap.size + 1) (w.alloc (.cells (xs.map Value.string).toArray e)) w') :
    StrsAt (w.heap.size ≤ ·) w' (.slice (some ⟨w.heap.size, 0, none⟩) xs.length xs.length) xs := by
  refine ⟨by simp, some ⟨w.heap.size, 0, none⟩, xs.length, rfl, Nat.le_refl _, hl, .inr ⟨w.heap.size, 0, rfl, Nat.le_refl _, fun j u hu => ?_⟩⟩
  rw [hb.cell (p := ⟨w.heap.size, 0 + j, none⟩) (by simp), Nat.zero_add]
  exact row_cell hu

set_option maxHeartbeats 400000 in
theorem split_calls (s : ByteArray) (w : World) (he : Env w) : Calls Tryz.prog 99 #[.string s] w (SplitRes s w) := by
  have HE := Lib.hid he
  clear he
  by_cases h5 : s.size ≤ 512
  · go_enter Tryz.func99, Tryz.ntmps99
    go_wp2_with fail
    refine (split_any s 47 w HE.out (by omega)).mono ?_
    rintro e w' ⟨xs, hx, rfl, rfl⟩
    have hxl : xs.length ≤ 513 := by
      have h1 : (splitL 47 (bl s)).length = xs.length := by rw [← hx]; simp
      have h2 := splitL_len_le 47 (bl s)
      rw [← size_bl] at h2
      omega
    have HX := Lib.hid hx
    clear hx
    by_cases h16 : xs.length ≤ 16
    · go_wp2_with fail
      go_loopw [17] (fun i wr => ∃ k : Nat, k ≤ xs.length ∧ i = .int .i64 k ∧ Below (w.heap.size + 1) (w.alloc (.cells (xs.map Value.string).toArray 9)) wr ∧ ∀ (j : Nat) x, j < k → xs[j]? = some x → compB (bl x) = true) (fun i _ => xs.length - (intOf i).toNat)
      case atStart => exact ⟨0, Nat.zero_le _, rfl, Below.refl _ _, fun j x hj => by omega⟩
      case round =>
        obtain ⟨k, hk, rfl, hb, hall⟩ := hrel
        have HA := Lib.hid hall
        clear hall
        by_cases hlt : k < xs.length
        · obtain ⟨x, hx⟩ : ∃ x, xs[k]? = some x := ⟨xs[k], by simp [hlt]⟩
          have hcell : wr.cell? ⟨w.heap.size, k, none⟩ = some (.string x) := (hb.cell (p := ⟨w.heap.size, k, none⟩) (by simp)).trans (row_cell (map_get hx))
          have hxs : x.size ≤ 9223372036854775807 := by have := part_size HX.out hx; omega
          have HK := Lib.hid hx
          have HB := Lib.hid hb
          clear hx hb
          cases hc : compB (bl x)
          · have HC := Lib.hid hc
            clear hc
            go_wp2_with (go_at_call 123; refine (isComponent_any x wr (HE.out.below (below_next ((Below.refl _ _).alloc (Nat.le_refl _) _) (by simpa using HB.out))) hxs).mono ?_; rintro e w' ⟨rfl, hb2⟩; rw [HC.out])
            go_ret2
            refine .inr ⟨split_not HX.out HK.out HC.out, rfl, ?_⟩
            exact below_next (below_next ((Below.refl _ _).alloc (Nat.le_refl _) _) (by simpa using HB.out)) hb2
          · have HC := Lib.hid hc
            clear hc
            go_wp2_with (go_at_call 123; refine (isComponent_any x wr (HE.out.below (below_next ((Below.refl _ _).alloc (Nat.le_refl _) _) (by simpa using HB.out))) hxs).mono ?_; rintro e w' ⟨rfl, hb2⟩; rw [HC.out])
            go_roundw
            case rel =>
              refine ⟨k + 1, by omega, by go_num, HB.out.trans (hb2.mono (by have := HB.out.size; simpa using this)), fun j x' hj hx' => ?_⟩
              rcases Nat.lt_or_ge j k with h | h
              · exact HA.out j x' h hx'
              · obtain rfl : j = k := by omega
                have := HK.out.symm.trans hx'
                cases this
                exact HC.out
            case measure => simp [intOf]; omega
        · have HB := Lib.hid hb
          clear hb
          go_wp2
          go_ret2
          refine .inl ⟨split_all HX.out (by rw [← size_bl]; exact h5) h16 (fun j x hj hx => HA.out j x (by omega) hx), _, xs, rfl, HX.out, strs_new (by unfold maxLen; omega) HB.out, ?_⟩
          exact below_next ((Below.refl _ _).alloc (Nat.le_refl _) _) (by simpa using HB.out)
    · go_wp2_with fail
      go_ret2
      exact .inr ⟨split_len HX.out h16, rfl, (Below.refl _ _).alloc (Nat.le_refl _) _⟩
  · go_enter Tryz.func99, Tryz.ntmps99
    go_wp2_with fail
    go_ret2
    exact .inr ⟨split_long (by rw [← size_bl]; exact h5), rfl, Below.refl _ _⟩

end Go.Proofs.YtdieneaillkbgaaGreatDoor

/- Contracts of package pathname: Valid, Compare. -/
namespace Go.Proofs.YtdieneaillkbgaaGreatDoor
open Go.RowKit

set_option maxHeartbeats 400000 in
theorem valid_any (s : ByteArray) (w : World) (he : Env w) :
    Calls Tryz.prog 86 #[.string s] w fun e w' => e = .returned (.bool (validP (bl s))) ∧ Below w.heap.size w w' := by
  go_enter Tryz.func86, Tryz.ntmps86
  go_wp2_with fail
  refine (split_calls s w he).mono ?_
  rintro e w' (⟨hv, v, xs, rfl, -, -, hb⟩ | ⟨hv, rfl, hb⟩)
  · go_wp2
    go_ret
    exact ⟨ret_bool (by rw [hv]), hb⟩
  · go_wp2
    go_ret
    exact ⟨ret_bool (by rw [hv]), hb⟩

def rankI (c : Int) : Int := if c = 47 then -1 else c
theorem rank_any (c : Int) (w : World) (h0 : 0 ≤ c) (h1 : c ≤ 255) : Calls Tryz.prog 80 #[.int .u8 c] w fun e w' => e = .returned (.int .i64 (rankI c)) ∧ w = w' := by
  by_cases h : c = 47
  · subst h
    go_enter Tryz.func80, Tryz.ntmps80
    go_wp2
    go_ret
    exact ⟨rfl, rfl⟩
  · have hr : rankI c = c := if_neg h
    have HR := Lib.hid hr
    clear hr
    have h2 : (c == 47) = false := by simpa using h
    go_enter Tryz.func80, Tryz.ntmps80
    go_wp2
    go_ret
    exact ⟨ret_int HR.out.symm, rfl⟩

theorem cmp_len (l r : List UInt8) (h : l = [] ∨ r = []) : cmpL l r = Lib.compareInt (l.length : Int) r.length := by
  rcases h with rfl | rfl
  · cases r
    · simp [cmpL, Lib.compareInt]
    · rw [cmpL, Lib.compareInt, if_pos (by simp <;> omega)]
  · cases l
    · simp [cmpL, Lib.compareInt]
    · rw [cmpL, Lib.compareInt, if_neg (by simp <;> omega), if_pos (by simp <;> omega)]
theorem compareInt_sub (x y : Int) (k : Int) : Lib.compareInt (x - k) (y - k) = Lib.compareInt x y := by
  unfold Lib.compareInt
  have h1 : (x - k < y - k) ↔ (x < y) := by omega
  have h2 : (x - k > y - k) ↔ (x > y) := by omega
  simp only [h1, h2]
theorem cmp_end {l r : List UInt8} {k : Nat} (hk1 : k ≤ l.length) (hk2 : k ≤ r.length) (h : k = l.length ∨ k = r.length) : cmpL (l.drop k) (r.drop k) = Lib.compareInt (l.length : Int) r.length := by
  rw [cmp_len _ _ (by rcases h with rfl | rfl <;> simp)]
  rw [List.length_drop, List.length_drop, ← compareInt_sub (l.length : Int) r.length k]
  congr 1 <;> omega
theorem cmp_take {l r : List UInt8} {k : Nat} (hl : k < l.length) (hr : k < r.length) (h : l[k] = r[k]) : cmpL (l.drop k) (r.drop k) = cmpL (l.drop (k + 1)) (r.drop (k + 1)) := by
  rw [List.drop_eq_getElem_cons hl, List.drop_eq_getElem_cons hr, cmpL, if_pos h]
theorem cmp_stop {l r : List UInt8} {k : Nat} (hl : k < l.length) (hr : k < r.length) (h : l[k] ≠ r[k]) : cmpL (l.drop k) (r.drop k) = Lib.compareInt (rankL l[k]) (rankL r[k]) := by
  rw [List.drop_eq_getElem_cons hl, List.drop_eq_getElem_cons hr, cmpL, if_neg h]
theorem byte_bl (s : ByteArray) (k : Nat) (h : k < s.size) : s[k] = (bl s)[k]'(by rw [← size_bl]; exact h) := by
  exact (Array.getElem_toList (xs := s.data) h).symm
theorem rank_int (c : UInt8) : rankI c.toNat = rankL c := by
  unfold rankI rankL
  by_cases h : c = 47
  · subst h; rfl
  · rw [if_neg h, if_neg]
    intro e; apply h; apply UInt8.toNat_inj.1; have : c.toNat = 47 := by omega
    rw [this]; rfl

set_option maxHeartbeats 400000 in
theorem compare_any (a b : ByteArray) (w : World) (ha : a.size ≤ 9223372036854775807) :
    Calls Tryz.prog 52 #[.string a, .string b] w fun e w' => e = .returned (.int .i64 (cmpL (bl a) (bl b))) ∧ Below w.heap.size w w' := by
  go_enter Tryz.func52, Tryz.ntmps52
  go_wp2_with fail
  obtain ⟨m, hm⟩ : ∃ m : Nat, min (a.size : Int) (b.size : Int) = m := ⟨min a.size b.size, by omega⟩
  have hm1 : m ≤ a.size := by omega
  have hm2 : m ≤ b.size := by omega
  have hm3 : m = a.size ∨ m = b.size := by omega
  rw [hm]
  have HM := Lib.hid hm3
  clear hm hm3
  go_loopw [12] (fun i wr => ∃ k : Nat, k ≤ m ∧ i = .int .i64 k ∧ Below w.heap.size w wr ∧ cmpL (bl a) (bl b) = cmpL ((bl a).drop k) ((bl b).drop k)) (fun i _ => m - (intOf i).toNat)
  case atStart => exact ⟨0, Nat.zero_le _, rfl, Below.refl _ _, rfl⟩
  case round =>
    obtain ⟨k, hk, rfl, hbw, hc⟩ := hrel
    have HC := Lib.hid hc
    have HB := Lib.hid hbw
    clear hc hbw
    by_cases hlt : k < m
    · have h1 : (k : Int) < (a.size : Int) := by omega
      have h2 : (k : Int) < (b.size : Int) := by omega
      have h3 : k < a.size := by omega
      have h4 : k < b.size := by omega
      by_cases hq : a[k] = b[k]
      · have hq2 : (((a[k]).toNat : Int) != (b[k]).toNat) = false := by simp [hq]
        have HQ := Lib.hid hq
        clear hq
        go_wp2_with fail
        go_quiet (fail)
        go_wp2_with fail
        go_roundw
        case rel =>
          refine ⟨k + 1, by omega, by go_num, below_draws HB.out nq, ?_⟩
          rw [HC.out]
          refine cmp_take (by rw [← size_bl]; exact h3) (by rw [← size_bl]; exact h4) ?_
          rw [← byte_bl, ← byte_bl]; exact HQ.out
        case measure => simp [intOf]; omega
      · have hq2 : (((a[k]).toNat : Int) != (b[k]).toNat) = true := by
          rw [bne_iff_ne]; intro e; apply hq; exact UInt8.toNat_inj.1 (by omega)
        have HQ := Lib.hid hq
        clear hq
        go_wp2_with fail
        go_quiet (fail)
        go_wp2_with fail
        have hW : ∃ W, W = wr.drewN nq ∧ Below w.heap.size w W := ⟨_, rfl, below_draws HB.out nq⟩
        obtain ⟨W, hWe, hWb⟩ := hW
        rw [← hWe]
        have HB2 := Lib.hid hWb
        clear hWe hWb HB
        have hr1 := (a[k]).toNat_lt
        have hr2 := (b[k]).toNat_lt
        go_quiet ((first | (go_at_call 80; refine quietL (rank_any _ _ (by omega) (by omega))) | (go_at_call 81; refine quietL (compareInt_any _ _ _))))
        go_wp2_with fail
        go_ret
        refine ⟨ret_int ?_, below_draws HB2.out _⟩
        rw [rank_int, rank_int, HC.out, cmp_stop (by rw [← size_bl]; exact h3) (by rw [← size_bl]; exact h4) (by rw [← byte_bl, ← byte_bl]; exact HQ.out), ← byte_bl, ← byte_bl]
    · go_wp2_with (go_at_call 81; refine (compareInt_any _ _ _).mono ?_; rintro e w' ⟨rfl, rfl⟩)
      go_ret
      refine ⟨ret_int ?_, HB.out⟩
      have hM := HM.out
      rw [HC.out, cmp_end (by rw [← size_bl]; omega) (by rw [← size_bl]; omega) (by rw [← size_bl, ← size_bl]; omega), ← size_bl, ← size_bl]


/-- The path is dir or lies below it. -/
def withinB (d p : List UInt8) : Bool := validP p && (d.isEmpty || decide (d = p) || (validP d && Lib.hasPrefix p (d ++ [47])))

set_option maxHeartbeats 400000 in
theorem parent_any (s : ByteArray) (w : World) (he : Env w) (hv : validP (bl s) = true) :
    Calls Tryz.prog 64 #[.string s] w fun e w' => e = .returned (.tuple #[.string ⟨(parentL (bl s)).toArray⟩, .bool true]) ∧ Below w.heap.size w w' := by
  have HV := Lib.hid hv
  have h5 : s.size ≤ 512 := by simp only [validP, Bool.and_eq_true, decide_eq_true_eq] at hv; rw [size_bl]; exact hv.1.1
  have hl : (parentL (bl s)).length ≤ s.size := by rw [parentL_take, List.length_take, size_bl]; omega
  clear hv
  go_enter Tryz.func64, Tryz.ntmps64
  go_wp2_with fail
  refine (valid_any s w he).mono ?_
  rintro e w1 ⟨rfl, hb1⟩
  rw [HV.out]
  have HB1 := Lib.hid hb1
  clear hb1
  go_wp2_with fail
  refine (lastIndex_any s w1 (by omega)).mono ?_
  rintro e w2 ⟨rfl, rfl⟩
  obtain ⟨n, hn⟩ : ∃ n : Nat, n = (parentL (bl s)).length := ⟨_, rfl⟩
  have hmax : max (lastSlash (bl s)) 0 = (n : Int) := by
    unfold lastSlash
    split
    · omega
    · rename_i h; rw [hn, parentL_no _ h]; rfl
  have hle : n ≤ s.size := by omega
  have HN := Lib.hid hn
  clear hn hl
  go_wp2_with fail
  go_ret2
  refine ⟨?_, HB1.out⟩
  have e : s.extract 0 n = ⟨(parentL (bl s)).toArray⟩ := bl_inj (by rw [bl_extract, bl_mk (parentL (bl s)), HN.out, List.drop_zero, ← parentL_take])
  rw [← e]; rfl
theorem parent_bad (s : ByteArray) (w : World) (he : Env w) (hv : validP (bl s) = false) :
    Calls Tryz.prog 64 #[.string s] w fun e w' => e = .returned (.tuple #[.string ⟨#[]⟩, .bool false]) ∧ Below w.heap.size w w' := by
  have HV := Lib.hid hv
  clear hv
  go_enter Tryz.func64, Tryz.ntmps64
  go_wp2_with fail
  refine (valid_any s w he).mono ?_
  rintro e w1 ⟨rfl, hb1⟩
  rw [HV.out]
  go_wp2
  go_ret2
  exact ⟨rfl, hb1⟩

end Go.Proofs.YtdieneaillkbgaaGreatDoor

/- Trees of entries, in plain words: valid entries, order, parents, what lies within a path. -/
namespace Go.Proofs.YtdieneaillkbgaaGreatDoor
open Go.RowKit

structure Ent where
  path : ByteArray
  kind : Int
  mode : Int
  time : Int
  data : List UInt8
  link : ByteArray
deriving DecidableEq
def vLinkB (l : List UInt8) : Bool := decide (1 ≤ l.length) && decide (l.length ≤ 512) && !l.contains 0
def vKind (e : Ent) : Bool :=
  if e.kind = 1 then decide (e.data.length ≤ 1048576) && decide (e.link.size = 0)
  else if e.kind = 2 then decide (e.data.length = 0) && decide (e.link.size = 0)
  else if e.kind = 3 then decide (e.data.length = 0) && vLinkB (bl e.link)
  else false
def vHeadE (e : Ent) : Bool := decide (0 ≤ e.mode) && decide (e.mode ≤ 511) && decide (0 ≤ e.time)
def vEnt (e : Ent) : Bool := validP (bl e.path) && vHeadE e && vKind e
def findE (L : List Ent) (p : ByteArray) : Option Ent := L.find? fun e => decide (e.path = p)
def dirE (L : List Ent) (p : List UInt8) : Int := if p = [] then 0 else match findE L ⟨p.toArray⟩ with
  | none => 4
  | some e => if e.kind = 2 then 0 else 13
def cmpE (a b : Ent) : Int := cmpL (bl a.path) (bl b.path)
def afterE (pre : List Ent) (e : Ent) : Bool := match pre.getLast? with
  | none => true
  | some f => decide (cmpE f e < 0)
def checkAt (pre : List Ent) (e : Ent) : Int := if (vEnt e && afterE pre e) = true then dirE pre (parentL (bl e.path)) else 1
def checkF : List Ent → List Ent → Int
  | _, [] => 0
  | pre, e :: r => if checkAt pre e = 0 then checkF (pre ++ [e]) r else checkAt pre e
def checkP (L : List Ent) : Int := if 4096 < L.length then 2 else checkF [] L
/-- An entry goes behind those that are not after it. -/
def insAt (L : List Ent) (e : Ent) : Nat → Nat
  | 0 => 0
  | k + 1 => match L[k]? with
    | none => insAt L e k
    | some f => if 0 < cmpE f e then insAt L e k else k + 1
def insE (L : List Ent) (e : Ent) : List Ent := L.take (insAt L e L.length) ++ [e] ++ L.drop (insAt L e L.length)
def sortP (L : List Ent) : List Ent := L.foldl insE []
def inB (d : ByteArray) (e : Ent) : Bool := withinB (bl d) (bl e.path)
def atP (L : List Ent) (p : ByteArray) : List Ent := L.filter fun e => inB p e && (decide (p.size = 0) || (findE L p).isSome)
def putP (L : List Ent) (e : Ent) : List Ent × Int :=
  if vEnt e = false then (L, 1)
  else if dirE L (parentL (bl e.path)) ≠ 0 then (L, dirE L (parentL (bl e.path)))
  else match findE L e.path with
    | some f => if f.kind ≠ e.kind then (L, 13) else (sortP (L.filter (fun x => decide (x.path ≠ e.path)) ++ [e]), 0)
    | none => if 4096 ≤ L.length then (L, 7) else (sortP (L ++ [e]), 0)
def removeP (L : List Ent) (p : ByteArray) (below : Bool) : List Ent × Int :=
  if validP (bl p) = false then (L, 1)
  else if (findE L p).isNone = true then (L, 4)
  else if below = false ∧ 1 < (atP L p).length then (L, 6)
  else (L.filter fun e => !inB p e, 0)
def moveE (src dst : ByteArray) (e : Ent) : Ent := if inB src e = true then { e with path := ⟨(bl dst ++ (bl e.path).drop (bl src).length).toArray⟩ } else e
def moveP (L : List Ent) (src dst : ByteArray) : List Ent × Int :=
  if (validP (bl src) && validP (bl dst)) = false then (L, 1)
  else if (findE L src).isNone = true then (L, 4)
  else if withinB (bl src) (bl dst) = true then (L, 13)
  else if (findE L dst).isSome = true then (L, 5)
  else if dirE L (parentL (bl dst)) ≠ 0 then (L, dirE L (parentL (bl dst)))
  else if (L.all fun e => !inB src e || validP (bl (moveE src dst e).path)) = false then (L, 2)
  else (sortP (L.map (moveE src dst)), 0)

/- The order. -/
theorem path_bl {p : ByteArray} {l : List UInt8} (h : bl p = l) : p = ⟨l.toArray⟩ := bl_inj (by rw [h]; simp [bl])
theorem cmpE_neg (a b : Ent) : cmpE b a = -cmpE a b := cmp_neg _ _
theorem cmpE_zero {a b : Ent} : cmpE a b = 0 ↔ a.path = b.path := by
  unfold cmpE; rw [cmp_zero]; exact ⟨bl_inj, fun h => by rw [h]⟩
theorem cmpE_le_trans {a b c : Ent} (h1 : cmpE a b ≤ 0) (h2 : cmpE b c ≤ 0) : cmpE a c ≤ 0 := (cmp_trans _ _ _ h1 h2).1
theorem cmpE_lt_trans {a b c : Ent} (h1 : cmpE a b < 0) (h2 : cmpE b c < 0) : cmpE a c < 0 := by
  obtain ⟨h3, h4⟩ := cmp_trans (bl a.path) (bl b.path) (bl c.path) (by unfold cmpE at h1; omega) (by unfold cmpE at h2; omega)
  rcases Int.lt_or_eq_of_le h3 with h | h
  · exact h
  · have := (h4 h).1; unfold cmpE at h1; omega
def SortedE (L : List Ent) : Prop := L.Pairwise fun a b => cmpE a b < 0
theorem SortedE.nodup {L : List Ent} (h : SortedE L) : (L.map Ent.path).Nodup := by
  unfold List.Nodup
  rw [List.pairwise_map]
  exact List.Pairwise.imp (fun h e => by have := cmpE_zero.2 e; omega) h
theorem SortedE.filter {L : List Ent} (h : SortedE L) (p : Ent → Bool) : SortedE (L.filter p) := List.Pairwise.filter p h
theorem sorted_perm_eq : ∀ {L M : List Ent}, SortedE L → SortedE M → L.Perm M → L = M
  | [], M, _, _, hp => by rw [List.nil_perm.1 hp]
  | a :: L, [], _, _, hp => by exact absurd hp.length_eq (by simp)
  | a :: L, b :: M, hl, hm, hp => by
    obtain ⟨hl1, hl2⟩ := List.pairwise_cons.1 hl
    obtain ⟨hm1, hm2⟩ := List.pairwise_cons.1 hm
    have hab : a = b := by
      have h1 : a ∈ b :: M := hp.subset (by simp)
      have h2 : b ∈ a :: L := hp.symm.subset (by simp)
      rcases List.mem_cons.1 h1 with h1 | h1
      · exact h1
      · rcases List.mem_cons.1 h2 with h2 | h2
        · exact h2.symm
        · have h3 := hm1 a h1
          have h4 := hl1 b h2
          have h5 := cmpE_neg a b
          omega
    subst hab
    rw [sorted_perm_eq hl2 hm2 hp.cons_inv]
theorem insAt_le (L : List Ent) (e : Ent) : ∀ k, insAt L e k ≤ k
  | 0 => Nat.le_refl _
  | k + 1 => by
    rw [insAt]
    have := insAt_le L e k
    split
    · omega
    · split
      · omega
      · exact Nat.le_refl _
theorem insE_perm (L : List Ent) (e : Ent) : (insE L e).Perm (e :: L) := by
  unfold insE
  have h : (List.take (insAt L e L.length) L ++ [e] ++ List.drop (insAt L e L.length) L).Perm (e :: (List.take (insAt L e L.length) L ++ List.drop (insAt L e L.length) L)) := by
    rw [List.append_assoc]
    exact List.perm_middle
  rwa [List.take_append_drop] at h
theorem foldl_ins_perm : ∀ (M acc : List Ent), (M.foldl insE acc).Perm (acc ++ M)
  | [], acc => by simp
  | e :: M, acc => by
    rw [List.foldl_cons]
    refine (foldl_ins_perm M (insE acc e)).trans ?_
    refine ((insE_perm acc e).append_right M).trans ?_
    exact (List.perm_middle (l₁ := acc) (a := e) (l₂ := M)).symm
theorem sortP_perm (L : List Ent) : (sortP L).Perm L := by
  have := foldl_ins_perm L []
  simpa [sortP] using this
theorem insAt_after {L : List Ent} {e : Ent} : ∀ {k : Nat}, k ≤ L.length → (∀ j f, insAt L e k ≤ j → j < k → L[j]? = some f → 0 < cmpE f e) ∧ (∀ f, 0 < insAt L e k → L[insAt L e k - 1]? = some f → cmpE f e ≤ 0)
  | 0, _ => ⟨fun j f _ h => by omega, fun f h => by simp [insAt] at h⟩
  | k + 1, hk => by
    obtain ⟨h1, h2⟩ := insAt_after (L := L) (e := e) (k := k) (by omega)
    have hL : L[k]? = some L[k] := by simp
    have hle := insAt_le L e k
    by_cases hc : 0 < cmpE L[k] e
    · have e1 : insAt L e (k + 1) = insAt L e k := by rw [insAt, hL]; simp only [if_pos hc]
      rw [e1]
      refine ⟨fun j f hj hj2 hf => ?_, h2⟩
      by_cases hjk : j = k
      · subst hjk
        rw [hL] at hf
        cases hf
        exact hc
      · exact h1 j f hj (by omega) hf
    · have e1 : insAt L e (k + 1) = k + 1 := by rw [insAt, hL]; simp only [if_neg hc]
      rw [e1]
      refine ⟨fun j f hj hj2 => by omega, fun f _ hf => ?_⟩
      rw [Nat.add_sub_cancel, hL] at hf
      cases hf
      omega
theorem insE_sorted {L : List Ent} {e : Ent} (h : SortedE L) (hne : ∀ f ∈ L, f.path ≠ e.path) : SortedE (insE L e) := by
  obtain ⟨h1, h2⟩ := insAt_after (L := L) (e := e) (Nat.le_refl _)
  unfold insE
  generalize hk : insAt L e L.length = k at h1 h2 ⊢
  have hkl : k ≤ L.length := by rw [← hk]; exact insAt_le L e _
  have hs : SortedE (L.take k ++ L.drop k) := by rw [List.take_append_drop]; exact h
  obtain ⟨s1, s2, s3⟩ := List.pairwise_append.1 hs
  have ha : ∀ f ∈ L.drop k, cmpE e f < 0 := fun f hf => by
    obtain ⟨j, hj⟩ := List.mem_iff_getElem?.1 hf
    rw [List.getElem?_drop] at hj
    have hjl := (List.getElem?_eq_some_iff.1 hj).1
    have := h1 (k + j) f (by omega) hjl hj
    have := cmpE_neg f e
    omega
  have hb : ∀ f ∈ L.take k, cmpE f e < 0 := fun f hf => by
    have hk0 : 0 < k := by
      rcases Nat.eq_zero_or_pos k with h0 | h0
      · subst h0; simp at hf
      · exact h0
    have hlast : L[k - 1]? = some (L[k - 1]'(by omega)) := by simp
    have h3 := h2 _ hk0 hlast
    have hm : L[k - 1]'(by omega) ∈ L := List.getElem_mem _
    have h4 : cmpE (L[k - 1]'(by omega)) e < 0 := by
      rcases Int.lt_or_eq_of_le h3 with h | h
      · exact h
      · exact absurd (cmpE_zero.1 h) (hne _ hm)
    obtain ⟨j, hj⟩ := List.mem_iff_getElem?.1 hf
    rw [List.getElem?_take] at hj
    split at hj
    · rename_i hjk
      by_cases hjl : j = k - 1
      · subst hjl
        rw [hlast] at hj
        cases hj
        exact h4
      · obtain ⟨hj1, rfl⟩ := List.getElem?_eq_some_iff.1 hj
        have h5 := List.pairwise_iff_getElem.1 h j (k - 1) hj1 (by omega) (by omega)
        exact cmpE_lt_trans h5 h4
    · simp at hj
  rw [List.append_assoc]
  refine List.pairwise_append.2 ⟨s1, List.pairwise_append.2 ⟨by simp, s2, fun a ha' b hb' => ?_⟩, fun a ha' b hb' => ?_⟩
  · simp only [List.mem_singleton] at ha'
    subst ha'
    exact ha b hb'
  · rcases List.mem_append.1 hb' with hb' | hb'
    · simp only [List.mem_singleton] at hb'
      subst hb'
      exact hb a ha'
    · exact s3 a ha' b hb'
theorem foldl_ins_sorted : ∀ {M acc : List Ent}, SortedE acc → ((acc ++ M).map Ent.path).Nodup → SortedE (M.foldl insE acc)
  | [], acc, h, _ => h
  | e :: M, acc, h, hn => by
    rw [List.foldl_cons]
    refine foldl_ins_sorted (insE_sorted h (fun f hf he => ?_)) ?_
    · rw [List.map_append, List.nodup_append] at hn
      exact hn.2.2 f.path (List.mem_map.2 ⟨f, hf, rfl⟩) e.path (by simp) he
    · have hp : (insE acc e ++ M).Perm (acc ++ e :: M) := ((insE_perm acc e).append_right M).trans (List.perm_middle (l₁ := acc) (a := e) (l₂ := M)).symm
      exact (hp.map Ent.path).nodup_iff.2 hn
theorem sortP_sorted {L : List Ent} (h : (L.map Ent.path).Nodup) : SortedE (sortP L) := foldl_ins_sorted List.Pairwise.nil (by simpa using h)
theorem sortP_same {L : List Ent} (h : SortedE L) : sortP L = L := sorted_perm_eq (sortP_sorted h.nodup) h (sortP_perm L)

/- Finding. -/
theorem findE_some {L : List Ent} {p : ByteArray} {e : Ent} (h : findE L p = some e) : e ∈ L ∧ e.path = p := by
  unfold findE at h
  exact ⟨List.mem_of_find?_eq_some h, by have := List.find?_some h; simpa using this⟩
theorem findE_none {L : List Ent} {p : ByteArray} (h : findE L p = none) : ∀ e ∈ L, e.path ≠ p := by
  unfold findE at h
  rw [List.find?_eq_none] at h
  intro e he hp
  exact h e he (by simp [hp])
theorem findE_mem {L : List Ent} (hn : (L.map Ent.path).Nodup) {e : Ent} (he : e ∈ L) : findE L e.path = some e := by
  cases h : findE L e.path with
  | none => exact absurd rfl (findE_none h e he)
  | some f =>
    obtain ⟨h1, h2⟩ := findE_some h
    have : f = e := by
      unfold List.Nodup at hn
      rw [List.pairwise_map, List.pairwise_iff_getElem] at hn
      obtain ⟨i, hi, rfl⟩ := List.getElem_of_mem h1
      obtain ⟨j, hj, rfl⟩ := List.getElem_of_mem he
      by_cases hij : i = j
      · subst hij; rfl
      · exfalso
        rcases Nat.lt_or_gt_of_ne hij with hlt | hlt
        · exact hn i j hi hj hlt h2
        · exact hn j i hj hi hlt h2.symm
    rw [this]
theorem findE_perm {L M : List Ent} (hp : L.Perm M) (hn : (L.map Ent.path).Nodup) (p : ByteArray) : findE L p = findE M p := by
  have hm : (M.map Ent.path).Nodup := (hp.map Ent.path).nodup_iff.1 hn
  cases h : findE L p with
  | none =>
    cases h2 : findE M p with
    | none => rfl
    | some f =>
      obtain ⟨h3, h4⟩ := findE_some h2
      exact absurd h4 (findE_none h f (hp.symm.subset h3))
  | some e =>
    obtain ⟨h3, h4⟩ := findE_some h
    rw [← h4, findE_mem hm (hp.subset h3)]

/- Trees. -/
structure TOk (L : List Ent) : Prop where
  ord : SortedE L
  val : ∀ e ∈ L, vEnt e = true
  up : ∀ e ∈ L, dirE L (parentL (bl e.path)) = 0
  len : L.length ≤ 4096
theorem TOk.nil : TOk [] := ⟨List.Pairwise.nil, by simp, by simp, by simp⟩
theorem TOk.nodup {L : List Ent} (h : TOk L) : (L.map Ent.path).Nodup := h.ord.nodup
theorem vEnt_path {e : Ent} (h : vEnt e = true) : validP (bl e.path) = true := by
  unfold vEnt at h; simp only [Bool.and_eq_true] at h; exact h.1.1
theorem valid_ne {l : List UInt8} (h : validP l = true) : l ≠ [] := by
  intro e; subst e; exact absurd h (by decide)
theorem valid_size {l : List UInt8} (h : validP l = true) : l.length ≤ 512 := by
  simp only [validP, Bool.and_eq_true, decide_eq_true_eq] at h; exact h.1.1
theorem dirE_zero {L : List Ent} {p : List UInt8} (h : dirE L p = 0) (hp : p ≠ []) : ∃ f ∈ L, bl f.path = p ∧ f.kind = 2 := by
  unfold dirE at h
  rw [if_neg hp] at h
  cases hf : findE L ⟨p.toArray⟩ with
  | none => rw [hf] at h; simp at h
  | some f =>
    rw [hf] at h
    simp only at h
    obtain ⟨h1, h2⟩ := findE_some hf
    split at h
    · exact ⟨f, h1, by rw [h2]; simp [bl], by assumption⟩
    · simp at h
theorem dirE_of {L : List Ent} (hn : (L.map Ent.path).Nodup) {p : List UInt8} (h : p = [] ∨ ∃ f ∈ L, bl f.path = p ∧ f.kind = 2) : dirE L p = 0 := by
  unfold dirE
  by_cases hp : p = []
  · rw [if_pos hp]
  · rw [if_neg hp]
    rcases h with h | ⟨f, h1, h2, h3⟩
    · exact absurd h hp
    · have : f.path = ⟨p.toArray⟩ := path_bl h2
      rw [← this, findE_mem hn h1]
      simp only [if_pos h3]
theorem hasPrefix_iff {l p : List UInt8} : Lib.hasPrefix l p = true ↔ ∃ r, l = p ++ r := by
  unfold Lib.hasPrefix
  rw [List.isPrefixOf_iff_prefix]
  exact ⟨fun ⟨r, h⟩ => ⟨r, h.symm⟩, fun ⟨r, h⟩ => ⟨r, h.symm⟩⟩
/-- What lies below a directory has its parent there. -/
theorem below_parent {d q r : List UInt8} (h : q = d ++ 47 :: r) : parentL q = d ∨ ∃ s, parentL q = d ++ 47 :: s := by
  obtain ⟨p, t, hq, ht⟩ := last_slash q (by rw [h]; simp)
  have hpar : parentL q = p := by rw [hq]; exact parentL_cat p t ht
  rw [hpar]
  have he : p ++ 47 :: t = d ++ 47 :: r := by rw [← hq, h]
  rcases List.append_eq_append_iff.1 he with ⟨a, h1, h2⟩ | ⟨a, h1, h2⟩
  · cases a with
    | nil => left; simpa using h1.symm
    | cons x a =>
      exfalso
      rw [List.cons_append, List.cons.injEq] at h2
      apply ht
      rw [h2.2]
      simp
  · cases a with
    | nil => left; simpa using h1
    | cons x a =>
      right
      rw [List.cons_append, List.cons.injEq] at h2
      exact ⟨a, by rw [h1, ← h2.1]⟩
theorem parent_shorter {l : List UInt8} (h : validP l = true) : (parentL l).length < l.length := by
  by_cases hm : (47 : UInt8) ∈ l
  · obtain ⟨p, t, hq, ht⟩ := last_slash l hm
    have : parentL l = p := by rw [hq]; exact parentL_cat p t ht
    rw [this, hq]; simp
  · rw [parentL_no l hm]
    have := valid_ne h
    cases l with
    | nil => exact absurd rfl this
    | cons => simp
/-- In a tree, whatever lies strictly within a path lies within a directory of the tree. -/
theorem TOk.above {L : List Ent} (h : TOk L) {d : List UInt8} (hd : d ≠ []) : ∀ (n : Nat) {e : Ent}, (bl e.path).length ≤ n → e ∈ L → ∀ r, bl e.path = d ++ 47 :: r → ∃ f ∈ L, bl f.path = d ∧ f.kind = 2
  | 0, e, hn, _, r, hr => by rw [hr] at hn; simp at hn
  | n + 1, e, hn, he, r, hr => by
    have hne : parentL (bl e.path) ≠ [] := by
      rcases below_parent hr with h1 | ⟨s, h1⟩
      · rw [h1]; exact hd
      · rw [h1]; simp
    obtain ⟨f, hf, hfp, hfk⟩ := dirE_zero (h.up e he) hne
    rcases below_parent hr with h1 | ⟨s, h1⟩
    · exact ⟨f, hf, by rw [hfp, h1], hfk⟩
    · have := parent_shorter (vEnt_path (h.val e he))
      exact h.above hd n (by rw [hfp]; omega) hf s (by rw [hfp, h1])
theorem inB_self {e : Ent} (h : vEnt e = true) : inB e.path e = true := by
  unfold inB withinB; rw [vEnt_path h]; simp
theorem inB_iff {L : List Ent} (h : TOk L) {p : ByteArray} {e : Ent} (he : e ∈ L) : inB p e = true ↔ bl p = [] ∨ p = e.path ∨ (validP (bl p) = true ∧ ∃ r, bl e.path = bl p ++ 47 :: r) := by
  unfold inB withinB
  rw [vEnt_path (h.val e he), Bool.true_and, Bool.or_eq_true, Bool.or_eq_true, Bool.and_eq_true, hasPrefix_iff, List.isEmpty_iff, decide_eq_true_eq, or_assoc]
  simp only [List.append_assoc, List.singleton_append]
  exact ⟨fun h => by rcases h with h | h | h; exact .inl h; exact .inr (.inl (bl_inj h)); exact .inr (.inr h), fun h => by rcases h with h | h | h; exact .inl h; exact .inr (.inl (by rw [h])); exact .inr (.inr h)⟩
/-- At a file or a link there is nothing below. -/
theorem atP_leaf {L : List Ent} (h : TOk L) {p : ByteArray} {e : Ent} (hf : findE L p = some e) (hk : e.kind ≠ 2) : atP L p = [e] := by
  obtain ⟨he, hp⟩ := findE_some hf
  have hv := vEnt_path (h.val e he)
  have hpe : bl p ≠ [] := by rw [← hp]; exact valid_ne hv
  have hs : L.filter (fun x => decide (x = e)) = [e] := by
    have hc : L.Nodup := by
      have := h.nodup
      unfold List.Nodup at this
      rw [List.pairwise_map] at this
      exact this.imp (fun h e => h (by rw [e]))
    have := hc.filter (fun x => decide (x = e))
    apply List.perm_singleton.1
    exact (List.perm_ext_iff_of_nodup this (by simp)).2 (fun x => by simp; exact fun hx => hx ▸ he)
  rw [← hs]
  unfold atP
  apply List.filter_congr
  intro x hx
  rw [hf]
  simp only [Option.isSome_some, Bool.or_true, Bool.and_true]
  rw [Bool.eq_iff_iff, inB_iff h hx, decide_eq_true_eq]
  constructor
  · rintro (h1 | h1 | ⟨_, r, hr⟩)
    · exact absurd h1 hpe
    · have h2 := findE_mem h.nodup hx
      rw [← h1, hf] at h2
      exact (Option.some.inj h2).symm
    · obtain ⟨f, hfm, hfp, hfk⟩ := h.above hpe _ (Nat.le_refl _) hx r hr
      have h2 := findE_mem h.nodup hfm
      rw [bl_inj hfp, hf] at h2
      cases Option.some.inj h2
      exact absurd hfk hk
  · rintro rfl
    exact .inr (.inl hp.symm)
theorem atP_gone {L : List Ent} {p : ByteArray} (h : findE L p = none) (hp : p.size ≠ 0) : atP L p = [] := by
  unfold atP
  rw [List.filter_eq_nil_iff]
  intro e _ he
  rw [h] at he
  simp [hp] at he

end Go.Proofs.YtdieneaillkbgaaGreatDoor

/- Trees of entries, in plain words: Check says whether it is a tree; what is done to a tree leaves a tree. -/
namespace Go.Proofs.YtdieneaillkbgaaGreatDoor
open Go.RowKit

/-- Parents there, in words. -/
def HasUp (M : List Ent) (x : Ent) : Prop := parentL (bl x.path) = [] ∨ ∃ f ∈ M, bl f.path = parentL (bl x.path) ∧ f.kind = 2
theorem up_has {L : List Ent} {x : Ent} (h : dirE L (parentL (bl x.path)) = 0) : HasUp L x := by
  by_cases hp : parentL (bl x.path) = []
  · exact .inl hp
  · obtain ⟨f, h1, h2, h3⟩ := dirE_zero h hp
    exact .inr ⟨f, h1, h2, h3⟩
theorem tok_of {M : List Ent} (hn : (M.map Ent.path).Nodup) (hv : ∀ e ∈ M, vEnt e = true) (hu : ∀ x ∈ M, HasUp M x) (hl : M.length ≤ 4096) : TOk (sortP M) := by
  have hp := sortP_perm M
  have hn2 : ((sortP M).map Ent.path).Nodup := (hp.map Ent.path).nodup_iff.2 hn
  refine ⟨sortP_sorted hn, fun e he => hv e (hp.subset he), fun e he => dirE_of hn2 ?_, by rw [hp.length_eq]; exact hl⟩
  rcases hu e (hp.subset he) with h | ⟨f, h1, h2, h3⟩
  · exact .inl h
  · exact .inr ⟨f, hp.symm.subset h1, h2, h3⟩
theorem tok_sub {M : List Ent} (hs : SortedE M) (hv : ∀ e ∈ M, vEnt e = true) (hu : ∀ x ∈ M, HasUp M x) (hl : M.length ≤ 4096) : TOk M :=
  ⟨hs, hv, fun e he => dirE_of hs.nodup (hu e he), hl⟩
theorem TOk.has {L : List Ent} (h : TOk L) {e : Ent} (he : e ∈ L) : HasUp L e := up_has (h.up e he)
/-- A path from its parent. -/
theorem parent_back {l : List UInt8} (h : parentL l ≠ []) : ∃ t, l = parentL l ++ 47 :: t := by
  by_cases hm : (47 : UInt8) ∈ l
  · obtain ⟨p, q, rfl, hq⟩ := last_slash l hm
    exact ⟨q, by rw [parentL_cat p q hq]⟩
  · exact absurd (parentL_no l hm) h
theorem up_within {d : List UInt8} {l : List UInt8} (hd : validP d = true) (hl : validP l = true) (hp : parentL l ≠ []) (h : withinB d (parentL l) = true) : withinB d l = true := by
  obtain ⟨t, ht⟩ := parent_back hp
  unfold withinB at h ⊢
  rw [hl, Bool.true_and, Bool.or_eq_true, Bool.or_eq_true, Bool.and_eq_true, hasPrefix_iff]
  rw [Bool.and_eq_true, Bool.or_eq_true, Bool.or_eq_true, Bool.and_eq_true, hasPrefix_iff] at h
  obtain ⟨_, (h1 | h1) | ⟨_, r, hr⟩⟩ := h
  · exact .inl (.inl h1)
  · rw [decide_eq_true_eq] at h1
    refine .inr ⟨hd, t, ?_⟩
    rw [h1]; simpa using ht
  · refine .inr ⟨hd, r ++ 47 :: t, ?_⟩
    rw [ht, hr]; simp

/- Check. -/
theorem dirE_mono {L M : List Ent} (hm : (M.map Ent.path).Nodup) (hs : ∀ x ∈ L, x ∈ M) {p : List UInt8} (h : dirE L p = 0) : dirE M p = 0 := by
  by_cases hp : p = []
  · exact dirE_of hm (.inl hp)
  · obtain ⟨f, h1, h2, h3⟩ := dirE_zero h hp
    exact dirE_of hm (.inr ⟨f, hs f h1, h2, h3⟩)
structure Tr (L : List Ent) : Prop where
  ord : SortedE L
  val : ∀ e ∈ L, vEnt e = true
  up : ∀ e ∈ L, dirE L (parentL (bl e.path)) = 0
theorem parent_before {e f : Ent} (hv : vEnt e = true) (hp : parentL (bl e.path) ≠ []) (hf : bl f.path = parentL (bl e.path)) : cmpE f e < 0 := by
  obtain ⟨t, ht⟩ := parent_back hp
  have h1 : cmpE f e ≤ 0 := by
    unfold cmpE
    rw [hf, ht]
    have := cmp_app (parentL (bl e.path)) (47 :: t)
    have h2 : parentL (parentL (bl e.path) ++ 47 :: t) = parentL (bl e.path) := by rw [← ht]
    rw [h2]; exact this
  rcases Int.lt_or_eq_of_le h1 with h | h
  · exact h
  · have h2 := cmpE_zero.1 h
    have h3 := parent_shorter (vEnt_path hv)
    rw [← hf, h2] at h3
    omega
theorem Tr.pre {L M : List Ent} (h : Tr (L ++ M)) : Tr L := by
  obtain ⟨s1, s2, s3⟩ := List.pairwise_append.1 h.ord
  refine ⟨s1, fun e he => h.val e (by simp [he]), fun e he => ?_⟩
  have hu := up_has (h.up e (by simp [he]))
  refine dirE_of (SortedE.nodup s1) ?_
  rcases hu with hu | ⟨f, h1, h2, h3⟩
  · exact .inl hu
  · by_cases hp : parentL (bl e.path) = []
    · exact .inl hp
    · right
      have hb := parent_before (h.val e (by simp [he])) hp h2
      rcases List.mem_append.1 h1 with h1 | h1
      · exact ⟨f, h1, h2, h3⟩
      · have h4 := s3 e he f h1
        have h5 := cmpE_neg e f
        omega
theorem afterE_iff {pre : List Ent} (hs : SortedE pre) {e : Ent} : afterE pre e = true ↔ SortedE (pre ++ [e]) := by
  unfold afterE
  cases hl : pre.getLast? with
  | none =>
    rw [List.getLast?_eq_none_iff] at hl
    subst hl
    simp [SortedE]
  | some f =>
    obtain ⟨ys, hy⟩ := List.getLast?_eq_some_iff.1 hl
    simp only [decide_eq_true_eq]
    constructor
    · intro h
      refine List.pairwise_append.2 ⟨hs, by simp, fun a ha b hb => ?_⟩
      simp only [List.mem_singleton] at hb
      subst hb
      rw [hy] at ha hs
      rcases List.mem_append.1 ha with ha | ha
      · exact cmpE_lt_trans ((List.pairwise_append.1 hs).2.2 a ha f (by simp)) h
      · simp only [List.mem_singleton] at ha; subst ha; exact h
    · intro h
      exact (List.pairwise_append.1 h).2.2 f (by rw [hy]; simp) e (by simp)
theorem checkAt_iff {pre : List Ent} (h : Tr pre) (e : Ent) : checkAt pre e = 0 ↔ Tr (pre ++ [e]) := by
  unfold checkAt
  constructor
  · intro hc
    split at hc
    · rename_i hva
      rw [Bool.and_eq_true] at hva
      have hs := (afterE_iff h.ord).1 hva.2
      have hm : ∀ x ∈ pre, x ∈ pre ++ [e] := fun x hx => by simp [hx]
      refine ⟨hs, fun x hx => ?_, fun x hx => ?_⟩
      · rcases List.mem_append.1 hx with hx | hx
        · exact h.val x hx
        · simp only [List.mem_singleton] at hx; subst hx; exact hva.1
      · rcases List.mem_append.1 hx with hx | hx
        · exact dirE_mono hs.nodup hm (h.up x hx)
        · simp only [List.mem_singleton] at hx; subst hx; exact dirE_mono hs.nodup hm hc
    · simp at hc
  · intro ht
    have hv := ht.val e (by simp)
    rw [if_pos (by rw [hv, (afterE_iff h.ord).2 ht.ord]; rfl)]
    refine dirE_of h.ord.nodup ?_
    rcases up_has (ht.up e (by simp)) with hu | ⟨f, h1, h2, h3⟩
    · exact .inl hu
    · rcases List.mem_append.1 h1 with h1 | h1
      · exact .inr ⟨f, h1, h2, h3⟩
      · simp only [List.mem_singleton] at h1
        subst h1
        have := parent_shorter (vEnt_path hv)
        rw [← h2] at this; omega
theorem checkF_iff : ∀ {r pre : List Ent}, Tr pre → (checkF pre r = 0 ↔ Tr (pre ++ r))
  | [], pre, h => by simp only [checkF, List.append_nil]; exact ⟨fun _ => h, fun _ => trivial⟩
  | e :: r, pre, h => by
    have h1 := checkAt_iff h e
    rw [checkF]
    split
    · rename_i hc
      have := checkF_iff (r := r) (h1.1 hc)
      rw [this]; simp
    · rename_i hc
      constructor
      · intro h2; exact absurd h2 hc
      · intro h2
        have h3 : Tr (pre ++ [e]) := Tr.pre (M := r) (by simpa using h2)
        exact absurd (h1.2 h3) hc
theorem checkP_iff {L : List Ent} : checkP L = 0 ↔ TOk L := by
  unfold checkP
  split
  · rename_i h
    exact ⟨fun h2 => by simp at h2, fun h2 => by have := h2.len; omega⟩
  · rename_i h
    rw [checkF_iff (r := L) (pre := []) ⟨List.Pairwise.nil, by simp, by simp⟩, List.nil_append]
    exact ⟨fun t => ⟨t.ord, t.val, t.up, by omega⟩, fun t => ⟨t.ord, t.val, t.up⟩⟩

/- Put. -/
theorem filter_ne_mem {L : List Ent} {p : ByteArray} {x : Ent} : x ∈ L.filter (fun y => decide (y.path ≠ p)) ↔ x ∈ L ∧ x.path ≠ p := by simp
theorem nodup_snoc {L : List Ent} (h : (L.map Ent.path).Nodup) {e : Ent} (hne : ∀ x ∈ L, x.path ≠ e.path) : ((L ++ [e]).map Ent.path).Nodup := by
  rw [List.map_append, List.nodup_append]
  refine ⟨h, by simp, fun a ha b hb => ?_⟩
  obtain ⟨x, hx, rfl⟩ := List.mem_map.1 ha
  simp only [List.map_cons, List.map_nil, List.mem_singleton] at hb
  subst hb
  exact hne x hx
theorem filter_nodup {L : List Ent} (h : (L.map Ent.path).Nodup) (p : Ent → Bool) : ((L.filter p).map Ent.path).Nodup := h.sublist (List.filter_sublist.map _)
theorem putP_ok {L : List Ent} (h : TOk L) (e : Ent) : TOk (putP L e).1 := by
  unfold putP
  cases hv : vEnt e
  · rw [if_pos rfl]; exact h
  rw [if_neg (by simp)]
  split
  · exact h
  · rename_i hd
    have hup := up_has (Decidable.not_not.1 hd)
    split
    · rename_i f hf
      obtain ⟨hfm, hfp⟩ := findE_some hf
      split
      · exact h
      · rename_i hk
        have hk := Decidable.not_not.1 hk
        refine tok_of (nodup_snoc (filter_nodup h.nodup _) (fun x hx => (filter_ne_mem.1 hx).2)) (fun x hx => ?_) (fun x hx => ?_) ?_
        · rcases List.mem_append.1 hx with hx | hx
          · exact h.val x (filter_ne_mem.1 hx).1
          · simp only [List.mem_singleton] at hx; subst hx; exact hv
        · have key : ∀ y : Ent, HasUp L y → HasUp (L.filter (fun x => decide (x.path ≠ e.path)) ++ [e]) y := by
            rintro y (hy | ⟨g, h1, h2, h3⟩)
            · exact .inl hy
            · by_cases hg : g.path = e.path
              · have : g = f := by
                  have h4 := findE_mem h.nodup h1
                  rw [hg, hf] at h4
                  exact (Option.some.inj h4).symm
                subst this
                exact .inr ⟨e, by simp, by rw [← hg]; exact h2, by rw [← hk]; exact h3⟩
              · exact .inr ⟨g, List.mem_append_left _ (filter_ne_mem.2 ⟨h1, hg⟩), h2, h3⟩
          rcases List.mem_append.1 hx with hx | hx
          · exact key x (h.has (filter_ne_mem.1 hx).1)
          · simp only [List.mem_singleton] at hx; subst hx; exact key x hup
        · have : (L.filter (fun x => decide (x.path ≠ e.path))).length < L.length := by
            rw [← Nat.not_le]
            intro hle
            have h1 := List.length_filter_le (fun x : Ent => decide (x.path ≠ e.path)) L
            have h2 : (L.filter (fun x => decide (x.path ≠ e.path))).length = L.length := by omega
            rw [List.length_filter_eq_length_iff] at h2
            have := h2 f hfm
            simp [hfp] at this
          have := h.len
          simp only [List.length_append, List.length_singleton]
          omega
    · rename_i hf
      split
      · exact h
      · rename_i hlen
        refine tok_of (nodup_snoc h.nodup (findE_none hf)) (fun x hx => ?_) (fun x hx => ?_) (by simp; omega)
        · rcases List.mem_append.1 hx with hx | hx
          · exact h.val x hx
          · simp only [List.mem_singleton] at hx; subst hx; exact hv
        · have key : ∀ y : Ent, HasUp L y → HasUp (L ++ [e]) y := by
            rintro y (hy | ⟨g, h1, h2, h3⟩)
            · exact .inl hy
            · exact .inr ⟨g, by simp [h1], h2, h3⟩
          rcases List.mem_append.1 hx with hx | hx
          · exact key x (h.has hx)
          · simp only [List.mem_singleton] at hx; subst hx; exact key x hup
/- Remove. -/
theorem removeP_ok {L : List Ent} (h : TOk L) (p : ByteArray) (below : Bool) : TOk (removeP L p below).1 := by
  unfold removeP
  split
  · exact h
  · rename_i hv
    have hv : validP (bl p) = true := by simpa using hv
    split
    · exact h
    · split
      · exact h
      · refine tok_sub (h.ord.filter _) (fun e he => h.val e (List.mem_filter.1 he).1) (fun x hx => ?_) (Nat.le_trans (List.length_filter_le _ _) h.len)
        obtain ⟨hx1, hx2⟩ := List.mem_filter.1 hx
        rcases h.has hx1 with hy | ⟨g, h1, h2, h3⟩
        · exact .inl hy
        · by_cases hp : parentL (bl x.path) = []
          · exact .inl hp
          · refine .inr ⟨g, List.mem_filter.2 ⟨h1, ?_⟩, h2, h3⟩
            rw [Bool.not_eq_true', Bool.eq_false_iff]
            intro hg
            unfold inB at hg hx2
            rw [h2] at hg
            rw [up_within hv (vEnt_path (h.val x hx1)) hp hg] at hx2
            simp at hx2

/- Move. -/
theorem parent_cat (d r : List UInt8) : parentL (d ++ 47 :: r) = if (47 : UInt8) ∈ r then d ++ 47 :: parentL r else d := by
  split
  · rename_i hm
    obtain ⟨p, q, rfl, hq⟩ := last_slash r hm
    rw [parentL_cat p q hq, ← parentL_cat (d ++ 47 :: p) q hq]
    simp
  · rename_i hm
    exact parentL_cat d r hm
/-- How an entry within a path stands to it. -/
theorem inB_form {L : List Ent} (h : TOk L) {p : ByteArray} (hv : validP (bl p) = true) {e : Ent} (he : e ∈ L) : inB p e = true ↔ e.path = p ∨ ∃ r, bl e.path = bl p ++ 47 :: r := by
  rw [inB_iff h he]
  exact ⟨fun h => by rcases h with h | h | h; exact absurd h (valid_ne hv); exact .inl h.symm; exact .inr h.2, fun h => by rcases h with h | h; exact .inr (.inl h.symm); exact .inr (.inr ⟨hv, h⟩)⟩
theorem moveE_no {src dst : ByteArray} {e : Ent} (h : inB src e = false) : moveE src dst e = e := by unfold moveE; rw [h]; rfl
theorem moveE_yes {src dst : ByteArray} {e : Ent} (h : inB src e = true) : bl (moveE src dst e).path = bl dst ++ (bl e.path).drop (bl src).length ∧ (moveE src dst e).kind = e.kind := by
  unfold moveE; rw [if_pos h]; exact ⟨bl_mk _, rfl⟩
theorem moveE_val {src dst : ByteArray} {e : Ent} (h : vEnt e = true) (hp : validP (bl (moveE src dst e).path) = true) : vEnt (moveE src dst e) = true := by
  unfold vEnt at h ⊢
  simp only [Bool.and_eq_true] at h ⊢
  refine ⟨⟨hp, ?_⟩, ?_⟩
  · unfold moveE; split
    · exact h.1.2
    · exact h.1.2
  · unfold moveE; split
    · exact h.2
    · exact h.2
theorem moveP_ok {L : List Ent} (h : TOk L) (src dst : ByteArray) : TOk (moveP L src dst).1 := by
  unfold moveP
  split
  · exact h
  rename_i hv
  have hv : validP (bl src) = true ∧ validP (bl dst) = true := by simpa [Bool.and_eq_true] using hv
  split
  · exact h
  split
  · exact h
  rename_i hw
  split
  · exact h
  rename_i hd
  have hdn : findE L dst = none := by simpa using hd
  split
  · exact h
  rename_i hu
  have hup := Decidable.not_not.1 hu
  split
  · exact h
  rename_i hall
  have hall : ∀ e ∈ L, inB src e = true → validP (bl (moveE src dst e).path) = true := by
    intro e he hi
    have h1 : (L.all fun e => !inB src e || validP (bl (moveE src dst e).path)) = true := by simpa only [Bool.not_eq_false] using hall
    have := List.all_eq_true.1 h1 e he
    rw [hi] at this
    simpa using this
  -- whatever lay within dst would have needed dst
  have hdst : ∀ e ∈ L, ∀ r, bl e.path ≠ bl dst ++ 47 :: r := fun e he r hr => by
    obtain ⟨f, hf, hfp, _⟩ := h.above (valid_ne hv.2) _ (Nat.le_refl _) he r hr
    exact findE_none hdn f hf (bl_inj hfp)
  have hform : ∀ e ∈ L, inB src e = true → ∃ t, bl e.path = bl src ++ t ∧ bl (moveE src dst e).path = bl dst ++ t ∧ (t = [] ∨ ∃ r, t = 47 :: r) := fun e he hi => by
    obtain ⟨m1, _⟩ := moveE_yes (dst := dst) hi
    rcases (inB_form h hv.1 he).1 hi with h1 | ⟨r, h1⟩
    · exact ⟨[], by rw [h1]; simp, by rw [m1, h1]; simp, .inl rfl⟩
    · exact ⟨47 :: r, h1, by rw [m1, h1]; simp, .inr ⟨r, rfl⟩⟩
  have hpl : SortedE L := h.ord
  refine tok_of ?_ (fun x hx => ?_) (fun x hx => ?_) (by rw [List.length_map]; exact h.len)
  · rw [List.map_map]
    unfold List.Nodup
    rw [List.pairwise_map]
    have hnd := h.nodup
    unfold List.Nodup at hnd
    rw [List.pairwise_map] at hnd
    refine List.Pairwise.imp_of_mem (fun {a b} ha hb hab => ?_) hnd
    intro hc
    apply hab
    have hc : (moveE src dst a).path = (moveE src dst b).path := hc
    cases hia : inB src a <;> cases hib : inB src b
    · rw [moveE_no hia, moveE_no hib] at hc; exact hc
    · exfalso
      obtain ⟨t, _, h2, h3⟩ := hform b hb hib
      rw [moveE_no hia] at hc
      rw [← hc] at h2
      rcases h3 with rfl | ⟨r, rfl⟩
      · exact findE_none hdn a ha (bl_inj (by simpa using h2))
      · exact hdst a ha r h2
    · exfalso
      obtain ⟨t, _, h2, h3⟩ := hform a ha hia
      rw [moveE_no hib] at hc
      rw [hc] at h2
      rcases h3 with rfl | ⟨r, rfl⟩
      · exact findE_none hdn b hb (bl_inj (by simpa using h2))
      · exact hdst b hb r h2
    · obtain ⟨t, h1, h2, _⟩ := hform a ha hia
      obtain ⟨u, h3, h4, _⟩ := hform b hb hib
      rw [hc, h4] at h2
      have := List.append_cancel_left h2
      exact bl_inj (by rw [h1, h3, this])
  · obtain ⟨e, he, rfl⟩ := List.mem_map.1 hx
    cases hi : inB src e
    · rw [moveE_no hi]; exact h.val e he
    · exact moveE_val (h.val e he) (hall e he hi)
  · obtain ⟨e, he, rfl⟩ := List.mem_map.1 hx
    have stay : ∀ g ∈ L, inB src g = false → g ∈ L.map (moveE src dst) := fun g hg hi => List.mem_map.2 ⟨g, hg, moveE_no hi⟩
    cases hi : inB src e
    · rw [moveE_no hi]
      rcases h.has he with hy | ⟨g, h1, h2, h3⟩
      · exact .inl hy
      · by_cases hp : parentL (bl e.path) = []
        · exact .inl hp
        · refine .inr ⟨g, stay g h1 ?_, h2, h3⟩
          rw [Bool.eq_false_iff]
          intro hg
          unfold inB at hg hi
          rw [h2] at hg
          rw [up_within hv.1 (vEnt_path (h.val e he)) hp hg] at hi
          simp at hi
    · obtain ⟨t, h1, h2, h3⟩ := hform e he hi
      rcases h3 with rfl | ⟨r, rfl⟩
      · rw [List.append_nil] at h1 h2
        by_cases hp : parentL (bl dst) = []
        · exact .inl (by rw [h2]; exact hp)
        · obtain ⟨g, g1, g2, g3⟩ := dirE_zero hup hp
          refine .inr ⟨g, stay g g1 ?_, by rw [h2]; exact g2, g3⟩
          rw [Bool.eq_false_iff]
          intro hg
          unfold inB at hg
          rw [g2] at hg
          exact hw (up_within hv.1 hv.2 hp hg)
      · right
        have hpe : parentL (bl e.path) = if (47 : UInt8) ∈ r then bl src ++ 47 :: parentL r else bl src := by rw [h1]; exact parent_cat _ _
        have hpn : parentL (bl e.path) ≠ [] := by
          rw [hpe]
          split
          · simp
          · exact valid_ne hv.1
        rcases h.has he with hy | ⟨g, g1, g2, g3⟩
        · exact absurd hy hpn
        · have hig : inB src g = true := by
            rw [inB_form h hv.1 g1]
            rw [hpe] at g2
            split at g2
            · exact .inr ⟨_, g2⟩
            · exact .inl (bl_inj g2)
          obtain ⟨m1, m2⟩ := moveE_yes (dst := dst) hig
          refine ⟨moveE src dst g, List.mem_map.2 ⟨g, g1, rfl⟩, ?_, by rw [m2]; exact g3⟩
          rw [m1, h2, parent_cat, g2, hpe]
          split
          · simp
          · simp

end Go.Proofs.YtdieneaillkbgaaGreatDoor

/- Trees of entries, in plain words: what is listed, counted, removed and moved, whatever order a map has. -/
namespace Go.Proofs.YtdieneaillkbgaaGreatDoor
open Go.RowKit

def listP (L : List Ent) (d : ByteArray) : List Ent × Int :=
  if d.size ≠ 0 ∧ validP (bl d) = false then ([], 1)
  else if dirE L (bl d) ≠ 0 then ([], dirE L (bl d))
  else (L.filter fun e => decide (parentL (bl e.path) = bl d), 0)
/-- Numbers of files, directories, links; bytes. -/
structure Cnt where
  files : Nat
  dirs : Nat
  links : Nat
  bytes : Nat
deriving DecidableEq
def cntE (c : Cnt) (e : Ent) : Cnt := ⟨c.files + (if e.kind = 1 then 1 else 0), c.dirs + (if e.kind = 2 then 1 else 0), c.links + (if e.kind = 3 then 1 else 0), c.bytes + e.data.length⟩
def cntL (l : List Ent) : Cnt := l.foldl cntE ⟨0, 0, 0, 0⟩
theorem cntL_snoc (l : List Ent) (e : Ent) : cntL (l ++ [e]) = cntE (cntL l) e := by unfold cntL; rw [List.foldl_append]; rfl
theorem data_file {e : Ent} (h : vEnt e = true) (hk : e.kind ≠ 1) : e.data.length = 0 := by
  unfold vEnt vKind at h
  simp only [Bool.and_eq_true] at h
  have h2 := h.2
  rw [if_neg hk] at h2
  split at h2
  · simp only [Bool.and_eq_true, decide_eq_true_eq] at h2; exact h2.1
  · split at h2
    · simp only [Bool.and_eq_true, decide_eq_true_eq] at h2; exact h2.1
    · simp at h2
theorem kind_of {e : Ent} (h : vEnt e = true) : e.kind = 1 ∨ e.kind = 2 ∨ e.kind = 3 := by
  unfold vEnt vKind at h
  simp only [Bool.and_eq_true] at h
  have h2 := h.2
  split at h2
  · exact .inl (by assumption)
  · split at h2
    · exact .inr (.inl (by assumption))
    · split at h2
      · exact .inr (.inr (by assumption))
      · simp at h2
theorem size_zero {p : ByteArray} : p.size = 0 ↔ bl p = [] := by rw [size_bl]; exact List.length_eq_zero_iff
theorem atP_root {L : List Ent} (h : TOk L) {p : ByteArray} (hp : p.size = 0) : atP L p = L := by
  unfold atP
  rw [List.filter_eq_self]
  intro e he
  have : inB p e = true := (inB_iff h he).2 (.inl (size_zero.1 hp))
  rw [this, decide_eq_true hp]; rfl
theorem atP_there {L : List Ent} {p : ByteArray} {e : Ent} (h : findE L p = some e) : atP L p = L.filter (inB p) := by
  unfold atP
  apply List.filter_congr
  intro x _
  rw [h]; simp
theorem atP_sub {L : List Ent} {p : ByteArray} : ∀ e ∈ atP L p, e ∈ L := fun _ he => (List.mem_filter.1 he).1
theorem atP_sorted {L : List Ent} (h : TOk L) (p : ByteArray) : SortedE (atP L p) := h.ord.filter _
/-- What lies within a directory of the tree, by the test of the program. -/
theorem inB_dir {L : List Ent} (h : TOk L) {p : ByteArray} {f : Ent} (hf : findE L p = some f) {e : Ent} (he : e ∈ L) : inB p e = (decide (e.path = p) || Lib.hasPrefix (bl e.path) (bl p ++ [47])) := by
  obtain ⟨hfm, hfp⟩ := findE_some hf
  have hv : validP (bl p) = true := by rw [← hfp]; exact vEnt_path (h.val f hfm)
  rw [Bool.eq_iff_iff, inB_form h hv he, Bool.or_eq_true, decide_eq_true_eq, hasPrefix_iff]
  simp only [List.append_assoc, List.singleton_append]
theorem at_kids {L : List Ent} (h : TOk L) {d : ByteArray} (hd : dirE L (bl d) = 0) : (atP L d).filter (fun e => decide (parentL (bl e.path) = bl d) && decide (e.path ≠ d)) = L.filter fun e => decide (parentL (bl e.path) = bl d) := by
  unfold atP
  rw [List.filter_filter]
  apply List.filter_congr
  intro e he
  have hv := vEnt_path (h.val e he)
  by_cases hp : parentL (bl e.path) = bl d
  · have hne : e.path ≠ d := fun hc => by
      have := parent_shorter hv
      rw [hp, ← hc] at this; omega
    have hin : inB d e = true := by
      by_cases h0 : bl d = []
      · exact (inB_iff h he).2 (.inl h0)
      · obtain ⟨f, h1, h2, _⟩ := dirE_zero hd h0
        have hvd : validP (bl d) = true := by rw [← h2]; exact vEnt_path (h.val f h1)
        obtain ⟨t, ht⟩ := parent_back (l := bl e.path) (by rw [hp]; exact h0)
        exact (inB_iff h he).2 (.inr (.inr ⟨hvd, t, by rw [hp] at ht; exact ht⟩))
    have hfd : (decide (d.size = 0) || (findE L d).isSome) = true := by
      by_cases h0 : bl d = []
      · rw [decide_eq_true (size_zero.2 h0)]; rfl
      · obtain ⟨f, h1, h2, _⟩ := dirE_zero hd h0
        have : f.path = d := bl_inj h2
        rw [← this, findE_mem h.nodup h1]; simp
    rw [hin, hfd]; simp [hp, hne]
  · simp [hp]
/- Removing. -/
theorem mem_at {L : List Ent} (h : TOk L) {p : ByteArray} {f : Ent} (hf : findE L p = some f) {e : Ent} (he : e ∈ L) : e.path ∈ (atP L p).map Ent.path ↔ inB p e = true := by
  rw [atP_there hf]
  constructor
  · intro hm
    obtain ⟨x, hx, hxe⟩ := List.mem_map.1 hm
    obtain ⟨hx1, hx2⟩ := List.mem_filter.1 hx
    have h1 := findE_mem h.nodup hx1
    rw [hxe, findE_mem h.nodup he] at h1
    cases Option.some.inj h1
    exact hx2
  · intro hi
    exact List.mem_map.2 ⟨e, List.mem_filter.2 ⟨he, hi⟩, rfl⟩
def hasP (ps : List ByteArray) (p : ByteArray) : Bool := ps.any fun q => decide (q = p)
theorem hasP_iff {ps : List ByteArray} {p : ByteArray} : hasP ps p = true ↔ p ∈ ps := by
  unfold hasP; rw [List.any_eq_true]
  exact ⟨fun ⟨q, h1, h2⟩ => by rw [decide_eq_true_eq] at h2; exact h2 ▸ h1, fun h => ⟨p, h, by simp⟩⟩
theorem perm_removed {m L : List Ent} (h : TOk L) (hm : m.Perm L) {p : ByteArray} {f : Ent} (hf : findE L p = some f) : (m.filter fun e => !hasP ((atP L p).map Ent.path) e.path).Perm (L.filter fun e => !inB p e) := by
  refine (hm.filter _).trans (List.Perm.of_eq ?_)
  apply List.filter_congr
  intro e he
  have := mem_at h hf he
  rw [← hasP_iff] at this
  rw [Bool.eq_iff_iff.2 this]
/-- What has moved stands beside what has stayed. -/
theorem perm_moved {m L : List Ent} (h : TOk L) (hm : m.Perm L) {src : ByteArray} (dst : ByteArray) {f : Ent} (hf : findE L src = some f) : ((m.filter fun e => !hasP ((atP L src).map Ent.path) e.path) ++ (atP L src).map (moveE src dst)).Perm (L.map (moveE src dst)) := by
  refine ((perm_removed h hm hf).append_right _).trans ?_
  rw [atP_there hf]
  have h2 : ∀ x ∈ L.filter (fun e => !inB src e), moveE src dst x = x := fun x hx => moveE_no (by simpa using (List.mem_filter.1 hx).2)
  have h1 : (L.filter fun e => !inB src e) = (L.filter fun e => !inB src e).map (moveE src dst) := by
    rw [List.map_congr_left h2, List.map_id']
  rw [h1, ← List.map_append]
  apply List.Perm.map
  exact List.perm_append_comm.trans (List.filter_append_perm (inB src) L)

end Go.Proofs.YtdieneaillkbgaaGreatDoor

/- Trees of entries, in plain words: what a Put leaves, moving there and back. -/
namespace Go.Proofs.YtdieneaillkbgaaGreatDoor
open Go.RowKit

theorem find_perm_some {L M : List Ent} (hp : L.Perm M) (hn : (L.map Ent.path).Nodup) {e : Ent} (he : e ∈ M) : findE L e.path = some e := findE_mem hn (hp.symm.subset he)
theorem find_none_iff {L : List Ent} {p : ByteArray} : findE L p = none ↔ ∀ e ∈ L, e.path ≠ p := by
  refine ⟨findE_none, fun h => ?_⟩
  cases hf : findE L p with
  | none => rfl
  | some e => exact absurd (findE_some hf).2 (h e (findE_some hf).1)
theorem find_of {L : List Ent} (hn : (L.map Ent.path).Nodup) {p : ByteArray} {e : Ent} (he : e ∈ L) (hp : e.path = p) : findE L p = some e := by rw [← hp]; exact findE_mem hn he

/- Put. -/
theorem put_is {L : List Ent} {e : Ent} (h : (putP L e).2 = 0) : vEnt e = true ∧ dirE L (parentL (bl e.path)) = 0 ∧ (putP L e).1 = sortP (L.filter (fun x => decide (x.path ≠ e.path)) ++ [e]) ∧ ((findE L e.path = none ∧ L.length < 4096) ∨ ∃ f, findE L e.path = some f ∧ f.kind = e.kind) := by
  unfold putP at h ⊢
  split at h
  · simp at h
  rename_i h1
  split at h
  · rename_i h2; exact absurd h h2
  rename_i h2
  rw [if_neg h1, if_neg h2]
  cases hf : findE L e.path with
  | none =>
    rw [hf] at h
    simp only at h ⊢
    split at h
    · simp at h
    rename_i h3
    rw [if_neg h3]
    refine ⟨by simpa using h1, by simpa using h2, ?_, .inl ⟨trivial, by omega⟩⟩
    have : L.filter (fun x => decide (x.path ≠ e.path)) = L := by
      rw [List.filter_eq_self]
      intro x hx
      simpa using findE_none hf x hx
    rw [this]
  | some f =>
    rw [hf] at h
    simp only at h ⊢
    split at h
    · simp at h
    rename_i h3
    rw [if_neg h3]
    exact ⟨by simpa using h1, by simpa using h2, rfl, .inr ⟨f, rfl, Classical.not_not.1 h3⟩⟩
theorem put_nodup {L : List Ent} (h : TOk L) (e : Ent) : ((L.filter (fun x => decide (x.path ≠ e.path)) ++ [e]).map Ent.path).Nodup :=
  nodup_snoc (filter_nodup h.nodup _) (fun _x hx => (filter_ne_mem.1 hx).2)
theorem put_there {L : List Ent} (h : TOk L) {e : Ent} (h0 : (putP L e).2 = 0) : findE (putP L e).1 e.path = some e := by
  rw [(put_is h0).2.2.1]
  refine findE_mem ?_ ((sortP_perm _).symm.subset (by simp))
  exact ((sortP_perm _).map Ent.path).nodup_iff.2 (put_nodup h e)
theorem put_other {L : List Ent} (h : TOk L) {e : Ent} (h0 : (putP L e).2 = 0) {p : ByteArray} (hp : p ≠ e.path) : findE (putP L e).1 p = findE L p := by
  rw [(put_is h0).2.2.1]
  have hn := ((sortP_perm _).map Ent.path).nodup_iff.2 (put_nodup h e)
  cases hf : findE L p with
  | none =>
    refine find_none_iff.2 (fun x hx hxp => ?_)
    rcases List.mem_append.1 ((sortP_perm _).subset hx) with hm | hm
    · exact findE_none hf x (filter_ne_mem.1 hm).1 hxp
    · rw [List.mem_singleton] at hm
      subst hm
      exact hp hxp.symm
  | some f =>
    obtain ⟨h1, h2⟩ := findE_some hf
    exact find_of hn ((sortP_perm _).symm.subset (List.mem_append.2 (.inl (filter_ne_mem.2 ⟨h1, by rw [h2]; exact hp⟩)))) h2
theorem nodup_ent {L : List Ent} (h : (L.map Ent.path).Nodup) : L.Nodup := by
  unfold List.Nodup at h ⊢
  rw [List.pairwise_map] at h
  exact h.imp (fun h e => h (by rw [e]))
theorem put_len {L : List Ent} (h : TOk L) {e : Ent} (h0 : (putP L e).2 = 0) : (putP L e).1.length = L.length + (if (findE L e.path).isSome = true then 0 else 1) := by
  obtain ⟨_, _, h3, h4⟩ := put_is h0
  rw [h3, (sortP_perm _).length_eq, List.length_append, List.length_singleton]
  have hs := filter_split' (fun x : Ent => decide (x.path ≠ e.path)) L
  rcases h4 with ⟨h4, _⟩ | ⟨f, h4, _⟩
  · rw [h4]
    have : L.filter (fun x => !decide (x.path ≠ e.path)) = [] := by
      rw [List.filter_eq_nil_iff]
      intro x hx
      simpa using findE_none h4 x hx
    rw [this, List.length_nil] at hs
    simp only [Option.isSome_none, Bool.false_eq_true, if_false]
    omega
  · rw [h4]
    have : L.filter (fun x => !decide (x.path ≠ e.path)) = [f] := by
      obtain ⟨h5, h6⟩ := findE_some h4
      refine List.perm_singleton.1 ((List.perm_ext_iff_of_nodup ((nodup_ent h.nodup).filter _) (by simp)).2 (fun x => ?_))
      simp only [List.mem_filter, List.mem_singleton, Bool.not_eq_true', decide_eq_false_iff_not, ne_eq, Classical.not_not]
      constructor
      · rintro ⟨h7, h8⟩
        have := findE_mem h.nodup h7
        rw [h8, h4] at this
        exact (Option.some.inj this).symm
      · rintro rfl
        exact ⟨h5, h6⟩
    rw [this, List.length_singleton] at hs
    simp only [Option.isSome_some, if_true]
    omega
where filter_split' {α : Type} (p : α → Bool) : ∀ (l : List α), (l.filter p).length + (l.filter fun x => !p x).length = l.length
  | [] => rfl
  | a :: l => by
    have := filter_split' p l
    cases h : p a <;> simp [h] <;> omega

/- Counting does not look at paths or order. -/
theorem cntE_comm (c : Cnt) (a b : Ent) : cntE (cntE c a) b = cntE (cntE c b) a := by
  unfold cntE
  simp only [Cnt.mk.injEq]
  omega
theorem cnt_perm {l m : List Ent} (h : l.Perm m) : ∀ (c : Cnt), l.foldl cntE c = m.foldl cntE c := by
  induction h with
  | nil => intro c; rfl
  | cons x _ ih => intro c; exact ih _
  | swap x y l => intro c; rw [List.foldl_cons, List.foldl_cons, List.foldl_cons, List.foldl_cons, cntE_comm]
  | trans _ _ ih1 ih2 => intro c; exact (ih1 c).trans (ih2 c)
theorem cntE_move (c : Cnt) (s d : ByteArray) (e : Ent) : cntE c (moveE s d e) = cntE c e := by
  unfold moveE; split <;> rfl
theorem cnt_move (s d : ByteArray) : ∀ (l : List Ent) (c : Cnt), (l.map (moveE s d)).foldl cntE c = l.foldl cntE c
  | [], _ => rfl
  | e :: l, c => by rw [List.map_cons, List.foldl_cons, List.foldl_cons, cntE_move]; exact cnt_move s d l _

/- Move. -/
structure Mv (L : List Ent) (s d : ByteArray) : Prop where
  ok : TOk L
  vs : validP (bl s) = true
  vd : validP (bl d) = true
  is : ∃ f, findE L s = some f
  out : withinB (bl s) (bl d) = false
  no : findE L d = none
  up : dirE L (parentL (bl d)) = 0
  all : ∀ e ∈ L, inB s e = true → validP (bl (moveE s d e).path) = true
theorem move_is {L : List Ent} (h : TOk L) {s d : ByteArray} (h0 : (moveP L s d).2 = 0) : Mv L s d ∧ (moveP L s d).1 = sortP (L.map (moveE s d)) := by
  unfold moveP at h0 ⊢
  split at h0
  · simp at h0
  rename_i h1
  rw [if_neg h1]
  split at h0
  · simp at h0
  rename_i h2
  rw [if_neg h2]
  split at h0
  · simp at h0
  rename_i h3
  rw [if_neg h3]
  split at h0
  · simp at h0
  rename_i h4
  rw [if_neg h4]
  split at h0
  · rename_i h5; exact absurd h0 h5
  rename_i h5
  rw [if_neg h5]
  split at h0
  · simp at h0
  rename_i h6
  rw [if_neg h6]
  simp only [Bool.not_eq_false, Bool.and_eq_true] at h1
  refine ⟨⟨h, h1.1, h1.2, ?_, by simpa using h3, by simpa using h4, by simpa using h5, ?_⟩, rfl⟩
  · cases hf : findE L s with
    | none => rw [hf] at h2; simp at h2
    | some f => exact ⟨f, rfl⟩
  · intro e he hi
    simp only [Bool.not_eq_false, List.all_eq_true] at h6
    have := h6 e he
    rw [hi] at this
    simpa using this
theorem move_by {L : List Ent} {s d : ByteArray} (h : Mv L s d) : moveP L s d = (sortP (L.map (moveE s d)), 0) := by
  unfold moveP
  obtain ⟨f, hf⟩ := h.is
  rw [h.vs, h.vd, hf, h.out, h.no, h.up]
  have : (L.all fun e => !inB s e || validP (bl (moveE s d e).path)) = true := by
    rw [List.all_eq_true]
    intro e he
    cases hi : inB s e
    · rfl
    · rw [h.all e he hi]; rfl
  rw [this]
  simp
/-- What lies within: the path's own rest. -/
theorem within_rest {L : List Ent} (h : TOk L) {s : ByteArray} (hv : validP (bl s) = true) {e : Ent} (he : e ∈ L) (hi : inB s e = true) : ∃ t, bl e.path = bl s ++ t ∧ (t = [] ∨ ∃ r, t = 47 :: r) := by
  rcases (inB_form h hv he).1 hi with h1 | ⟨r, h1⟩
  · exact ⟨[], by rw [h1]; simp, .inl rfl⟩
  · exact ⟨47 :: r, h1, .inr ⟨r, rfl⟩⟩
/-- What has moved. -/
theorem moved_rest {L : List Ent} {s d : ByteArray} (h : Mv L s d) {e : Ent} (he : e ∈ L) (hi : inB s e = true) : ∃ t, bl e.path = bl s ++ t ∧ bl (moveE s d e).path = bl d ++ t ∧ (t = [] ∨ ∃ r, t = 47 :: r) := by
  obtain ⟨t, h1, h2⟩ := within_rest h.ok h.vs he hi
  refine ⟨t, h1, ?_, h2⟩
  rw [(moveE_yes hi).1, h1, List.drop_left]
theorem Mv.no_within {L : List Ent} {s d : ByteArray} (h : Mv L s d) {e : Ent} (he : e ∈ L) {t : List UInt8} (ht : t = [] ∨ ∃ r, t = 47 :: r) : bl e.path ≠ bl d ++ t := by
  intro hc
  rcases ht with rfl | ⟨r, rfl⟩
  · rw [List.append_nil] at hc
    exact findE_none h.no e he (bl_inj hc)
  · obtain ⟨f, h1, h2, _⟩ := h.ok.above (valid_ne h.vd) _ (Nat.le_refl _) he r hc
    exact findE_none h.no f h1 (bl_inj h2)
theorem Mv.perm {L : List Ent} {s d : ByteArray} (_ : Mv L s d) : (sortP (L.map (moveE s d))).Perm (L.map (moveE s d)) := sortP_perm _
theorem Mv.tok {L : List Ent} {s d : ByteArray} (h : Mv L s d) : TOk (sortP (L.map (moveE s d))) := by
  have := moveP_ok h.ok s d
  rw [move_by h] at this
  exact this
theorem Mv.gone {L : List Ent} {s d : ByteArray} (h : Mv L s d) : findE (sortP (L.map (moveE s d))) s = none := by
  refine find_none_iff.2 (fun x hx hxp => ?_)
  obtain ⟨y, hy, rfl⟩ := List.mem_map.1 (h.perm.subset hx)
  obtain ⟨f, hf⟩ := h.is
  obtain ⟨hf1, hf2⟩ := findE_some hf
  cases hi : inB s y
  · rw [moveE_no hi] at hxp
    have := inB_self (h.ok.val y hy)
    rw [hxp, hi] at this
    cases this
  · obtain ⟨t, h1, h2, h3⟩ := moved_rest h hy hi
    rw [hxp, ← hf2] at h2
    exact h.no_within hf1 h3 h2
theorem Mv.there {L : List Ent} {s d : ByteArray} (h : Mv L s d) {f : Ent} (hf : findE L s = some f) : findE (sortP (L.map (moveE s d))) d = some { f with path := d } := by
  obtain ⟨hf1, hf2⟩ := findE_some hf
  have hi : inB s f = true := by rw [← hf2]; exact inB_self (h.ok.val f hf1)
  have hm : moveE s d f = { f with path := d } := by
    unfold moveE
    rw [if_pos hi, hf2, List.drop_length, List.append_nil]
    simp [bl]
  exact find_of h.tok.nodup (h.perm.symm.subset (List.mem_map.2 ⟨f, hf1, hm⟩)) rfl
theorem Mv.inB_iff {L : List Ent} {s d : ByteArray} (h : Mv L s d) {e : Ent} (he : e ∈ L) : inB d (moveE s d e) = inB s e := by
  have hm : moveE s d e ∈ sortP (L.map (moveE s d)) := h.perm.symm.subset (List.mem_map.2 ⟨e, he, rfl⟩)
  cases hi : inB s e
  · rw [moveE_no hi] at hm ⊢
    cases hd : inB d e
    · rfl
    · obtain ⟨t, h1, h2⟩ := within_rest h.tok h.vd hm hd
      exact absurd h1 (h.no_within he h2)
  · obtain ⟨t, h1, h2, h3⟩ := moved_rest h he hi
    refine (inB_form h.tok h.vd hm).2 ?_
    rcases h3 with rfl | ⟨r, rfl⟩
    · rw [List.append_nil] at h2
      exact .inl (bl_inj h2)
    · exact .inr ⟨r, h2⟩
theorem Mv.count {L : List Ent} {s d : ByteArray} (h : Mv L s d) : cntL (atP (sortP (L.map (moveE s d))) d) = cntL (atP L s) := by
  obtain ⟨f, hf⟩ := h.is
  rw [atP_there (h.there hf), atP_there hf]
  unfold cntL
  rw [cnt_perm (h.perm.filter _), List.filter_map]
  have : L.filter (inB d ∘ moveE s d) = L.filter (inB s) := List.filter_congr (fun e he => h.inB_iff he)
  rw [this, cnt_move]
theorem Mv.ne {L : List Ent} {s d : ByteArray} (h : Mv L s d) : L ≠ sortP (L.map (moveE s d)) := by
  intro hc
  have h1 := h.gone
  obtain ⟨f, hf⟩ := h.is
  rw [← hc, hf] at h1
  cases h1
theorem moveE_eq {s d : ByteArray} {e : Ent} (hi : inB s e = true) : moveE s d e = { e with path := ⟨(bl d ++ (bl e.path).drop (bl s).length).toArray⟩ } := by unfold moveE; rw [if_pos hi]
theorem Mv.undo {L : List Ent} {s d : ByteArray} (h : Mv L s d) {e : Ent} (he : e ∈ L) : moveE d s (moveE s d e) = e := by
  have hd := h.inB_iff he
  cases hi : inB s e
  · rw [hi] at hd
    rw [moveE_no hd, moveE_no hi]
  · obtain ⟨t, h1, h2, _⟩ := moved_rest h he hi
    rw [hi] at hd
    rw [moveE_eq hd, h2, List.drop_left, ← h1, moveE_eq hi]
    simp [bl]
theorem Mv.back {L : List Ent} {s d : ByteArray} (h : Mv L s d) : Mv (sortP (L.map (moveE s d))) d s := by
  obtain ⟨f, hf⟩ := h.is
  obtain ⟨hf1, hf2⟩ := findE_some hf
  refine ⟨h.tok, h.vd, h.vs, ⟨_, h.there hf⟩, ?_, h.gone, ?_, ?_⟩
  · cases hw : withinB (bl d) (bl s)
    · rfl
    · unfold withinB at hw
      rw [Bool.and_eq_true, Bool.or_eq_true, Bool.or_eq_true, Bool.and_eq_true, hasPrefix_iff, List.isEmpty_iff, decide_eq_true_eq] at hw
      rcases hw.2 with (h1 | h1) | ⟨_, r, h1⟩
      · exact absurd h1 (valid_ne h.vd)
      · exact absurd (by rw [hf2, h1, List.append_nil]) (h.no_within hf1 (t := []) (.inl rfl))
      · exact absurd (by rw [hf2, h1]; simp) (h.no_within hf1 (t := 47 :: r) (.inr ⟨r, rfl⟩))
  · have hup := h.ok.up f hf1
    rw [hf2] at hup
    by_cases hp : parentL (bl s) = []
    · exact dirE_of h.tok.nodup (.inl hp)
    · obtain ⟨g, h1, h2, h3⟩ := dirE_zero hup hp
      refine dirE_of h.tok.nodup (.inr ⟨g, ?_, h2, h3⟩)
      have hi : inB s g = false := by
        cases hi : inB s g
        · rfl
        · obtain ⟨t, h4, _⟩ := within_rest h.ok h.vs h1 hi
          have h5 := parent_shorter h.vs
          rw [← h2, h4, List.length_append] at h5
          omega
      exact h.perm.symm.subset (List.mem_map.2 ⟨g, h1, moveE_no hi⟩)
  · intro x hx _
    obtain ⟨y, hy, rfl⟩ := List.mem_map.1 (h.perm.subset hx)
    rw [h.undo hy]
    exact vEnt_path (h.ok.val y hy)
theorem Mv.again {L : List Ent} {s d : ByteArray} (h : Mv L s d) : moveP (sortP (L.map (moveE s d))) d s = (L, 0) := by
  rw [move_by h.back]
  refine Prod.ext ?_ rfl
  have hp : ((sortP (L.map (moveE s d))).map (moveE d s)).Perm L := by
    refine (h.perm.map _).trans (List.Perm.of_eq ?_)
    rw [List.map_map]
    exact (List.map_congr_left (fun e he => h.undo he)).trans (List.map_id' L)
  exact sorted_perm_eq h.back.tok.ord h.ok.ord ((sortP_perm _).trans hp)

end Go.Proofs.YtdieneaillkbgaaGreatDoor
