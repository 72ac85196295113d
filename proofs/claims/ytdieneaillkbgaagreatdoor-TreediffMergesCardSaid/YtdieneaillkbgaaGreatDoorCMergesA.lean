/- Texts of this proof, one after the other: Map, MapS, Base, Own, Seq, Plain, Glob, OrdP, RefP, RejP, Libc, PathA, PathB, TreeP, TreeQ, TreeR, TreeS, Ent, TreeM, TreeN, DifP, DifQ, DifR, MrgP, DifS, MapR, Cmp. -/
import Derived.Maps.OwnSet
import Derived.Maps.OwnOps
import Derived.DeepKeys5
import Derived.WalkKit
import Derived.Maps.RangeWalk
import Derived.Test.YtdieneaillkbgaaGreatDoorRows
import Derived.Test.YtdieneaillkbgaaGreatDoorShelf
import Derived.WalkSpells
import Derived.WalkLawsBesides
import Derived.Lib.Hide
import Derived.WalkSmall
import Derived.Deep.QuietTactic
import Derived.BigQuiet
import Derived.Lib.ValidLaws
import Derived.Lib.TrimUEq
import Derived.Lib.MapLaws
import Derived.Lib.SplitLaws
import Derived.Lib.Join
import Derived.Lib.Small
import Derived.Laws.RangeAny
import Derived.Shelf.SlSortCmp.NoneTotal
import Derived.Shelf.Bytes.SlClone
import Derived.Laws.OwnMore
import Derived.Lib.LazyBuf
import Derived.StillTailTactics
import Derived.OrdersHeld
import Derived.Deep.RegionHeld
import Derived.Lib.OwnBridge
import Derived.RangeFuncNested
import Derived.RangeFuncLeaves
import Derived.RangeFuncGives
import Derived.Maps.AppendAt
import Derived.RangeFuncBox
import Derived.Shelf.Abstract
import Derived.OwnWalkIn
import Derived.TacticsInMore
import Derived.LoopNIn
import Derived.LoopIn
import Derived.WideKeyEntry
import Derived.RangeFuncKeeps
import Derived.Sort.Grow
import Derived.Shelf.GgSortFunc.RowK
import Derived.Lib.SlBytesConst
import Derived.Laws.Cover4
import Derived.Shelf.Strings.BuilderK
import Derived.Lib.AppendStr
import Derived.Lib.ConvBytes
import Derived.ProofKit
import Derived.Carry
import Derived.Lay
import Derived.PinnedBridge
import Derived.Lib.LaidU8T
import Derived.SevenTiedAt
import Derived.HandedShaped
import Derived.Shelf.Vars
import Derived.Test.YtdieneaillkbgaaGreatDoorTie
import Derived.Test.YtdieneaillkbgaaGreatDoorCards
/- Maps that the call itself makes, by their entries in the order in which they were made. -/
namespace Go.Proofs.YtdieneaillkbgaaGreatDoor
open Go Go.RowKit Go.Maps
/-- Block b holds a map with the entries m, in the order in which they came. -/
def MapIs (P : Program) (k : TypeId) (w : World) (b : Nat) (m : List (Value × Value)) : Prop :=
  ∃ es clock, w.heap[b]? = some (.map es clock) ∧ es.toList.map (fun e => (e.key, e.val)) = m ∧ (m.map Prod.fst).Nodup ∧ ∀ p ∈ m, ∃ l, keyOf P k p.1 = some l
theorem heapSame {w : World} {b : Nat} {x : Obj} (hb : w.heap[b]? = some x) (o : Obj) : (ChangeMaps.setBlock w b o).heap[b]? = some o := by
  have := (Array.getElem?_eq_some_iff.1 hb).1
  simp [ChangeMaps.setBlock, this]
theorem heapOther {w : World} {b : Nat} {x : Obj} (_ : w.heap[b]? = some x) (o : Obj) {i : Nat} (h : i ≠ b) : (ChangeMaps.setBlock w b o).heap[i]? = w.heap[i]? := by
  simp [ChangeMaps.setBlock, Ne.symm h]
section
variable {P : Program} {k t e : TypeId} {w w' : World} {b : Nat} {m : List (Value × Value)} {key val z : Value}
theorem MapIs.lt (h : MapIs P k w b m) : b < w.heap.size := by
  obtain ⟨es, clock, hb, _⟩ := h
  exact (Array.getElem?_eq_some_iff.1 hb).1
theorem MapIs.same (h : MapIs P k w b m) (hs : w'.heap[b]? = w.heap[b]?) : MapIs P k w' b m := by
  obtain ⟨es, clock, hb, h2⟩ := h
  exact ⟨es, clock, hs.trans hb, h2⟩
theorem MapIs.made (w : World) : MapIs P k (w.alloc (.map #[] 0)) w.heap.size [] := ⟨#[], 0, (MapKept.heap_alloc w _).1, rfl, List.nodup_nil, by simp⟩
theorem MapIs.keys {es : Array MapEntry} (h : es.toList.map (fun e => (e.key, e.val)) = m) (hk : ∀ p ∈ m, ∃ l, keyOf P k p.1 = some l) : ∀ x ∈ es.toList, ∃ l, keyOf P k x.key = some l := fun x hx => hk (x.key, x.val) (by rw [← h]; exact List.mem_map.2 ⟨x, hx, rfl⟩)
theorem nodup_val : ∀ {m : List (Value × Value)} {key v v' : Value}, (m.map Prod.fst).Nodup → (key, v) ∈ m → (key, v') ∈ m → v = v'
  | [], _, _, _, _, h, _ => by simp at h
  | (a, x) :: m, key, v, v', hn, h, h' => by
    simp only [List.map_cons, List.nodup_cons] at hn
    rcases List.mem_cons.1 h with h | h <;> rcases List.mem_cons.1 h' with h' | h'
    · cases h; cases h'; rfl
    · cases h
      exact absurd (List.mem_map.2 ⟨_, h', rfl⟩) hn.1
    · cases h'
      exact absurd (List.mem_map.2 ⟨_, h, rfl⟩) hn.1
    · exact nodup_val hn.2 h h'
theorem MapIs.hit (h : MapIs P k w b m) (K : Keyed P k) (ht : P.underlying t = some (.map k e)) (hkey : ∃ l, keyOf P k key = some l) (hm : (key, val) ∈ m) (c : Bool) :
    (Instr.lookup t (.map (some b)) key c).run P w = .ok (if c then .tuple #[val, .bool true] else val) w := by
  obtain ⟨es, clock, hb, he, hn, hk⟩ := h
  obtain ⟨kl, hkl⟩ := hkey
  rcases K.find w hkl es.toList (MapIs.keys he hk) with ⟨h1, h2⟩ | ⟨j, e0, h1, h2, h3⟩
  · rw [← he] at hm
    obtain ⟨x, hx, hxe⟩ := List.mem_map.1 hm
    exact absurd (congrArg Prod.fst hxe) (h2 x hx)
  · have hv : e0.val = val := by
      refine nodup_val hn (key := key) ?_ hm
      rw [← he, ← h3]
      exact List.mem_map.2 ⟨e0, List.mem_of_getElem? h2, rfl⟩
    cases c <;> simp [Instr.lookup, run_underlying ht, MapKept.run_getObj_map hb, K.check w _ hkl, h1, hv, Result.andThen]
theorem MapIs.miss (h : MapIs P k w b m) (K : Keyed P k) (ht : P.underlying t = some (.map k e)) (hz : (zeroValue e).run P w = .ok z w) (hkey : ∃ l, keyOf P k key = some l) (hm : ∀ p ∈ m, p.1 ≠ key) (c : Bool) :
    (Instr.lookup t (.map (some b)) key c).run P w = .ok (if c then .tuple #[z, .bool false] else z) w := by
  obtain ⟨es, clock, hb, he, hn, hk⟩ := h
  obtain ⟨kl, hkl⟩ := hkey
  rcases K.find w hkl es.toList (MapIs.keys he hk) with ⟨h1, h2⟩ | ⟨j, e0, h1, h2, h3⟩
  · cases c <;> simp [Instr.lookup, run_underlying ht, MapKept.run_getObj_map hb, K.check w _ hkl, h1, hz, Result.andThen]
  · exact absurd h3 (hm (e0.key, e0.val) (by rw [← he]; exact List.mem_map.2 ⟨e0, List.mem_of_getElem? h2, rfl⟩))
theorem MapIs.put (h : MapIs P k w b m) (K : Keyed P k) (ht : P.underlying t = some (.map k e)) (hkey : ∃ l, keyOf P k key = some l) (hm : ∀ p ∈ m, p.1 ≠ key) (val : Value) :
    ∃ w', (Instr.mapUpdate t (.map (some b)) key val).run P w = .ok () w' ∧ MapIs P k w' b (m ++ [(key, val)]) ∧ w.grownBy w' (some b) := by
  obtain ⟨es, clock, hb, he, hn, hk⟩ := h
  obtain ⟨kl, hkl⟩ := hkey
  rcases K.find w hkl es.toList (MapIs.keys he hk) with ⟨h1, h2⟩ | ⟨j, e0, h1, h2, h3⟩
  · refine ⟨ChangeMaps.setBlock w b (.map (es.push ⟨key, val, clock⟩) (clock + 1)), ?_, ⟨_, _, heapSame hb _, ?_, ?_, ?_⟩, ⟨rfl, rfl, rfl, by simp [ChangeMaps.setBlock], fun i _ hi => heapOther hb _ (fun e => hi (by rw [e]))⟩⟩
    · simp [Instr.mapUpdate, run_underlying ht, MapKept.run_getObj_map hb, K.check w false hkl, h1, MapKept.run_setObj_map _ hb, Result.andThen, ChangeMaps.setBlock]
    · simp [← he]
    · rw [List.map_append, List.nodup_append]
      refine ⟨hn, by simp, fun a ha b' hb' e => ?_⟩
      obtain ⟨p, hp, rfl⟩ := List.mem_map.1 ha
      simp only [List.map_cons, List.map_nil, List.mem_singleton] at hb'
      exact hm p hp (e.trans hb')
    · intro p hp
      rcases List.mem_append.1 hp with hp | hp
      · exact hk p hp
      · simp only [List.mem_singleton] at hp
        subst hp
        exact ⟨kl, hkl⟩
  · exact absurd h3 (hm (e0.key, e0.val) (by rw [← he]; exact List.mem_map.2 ⟨e0, List.mem_of_getElem? h2, rfl⟩))
end
end Go.Proofs.YtdieneaillkbgaaGreatDoor

/- Maps that a call owns, with their stamps: looked up, laid into, written over, struck out of, ranged over. -/
namespace Go.Proofs.YtdieneaillkbgaaGreatDoor
open Go Go.RowKit Go.Maps Go.MapKept
open Go.ChangeMaps (modify_eq_set map_eraseIdx)
/-- Block b holds a map with the entries m. -/
def MapS (P : Program) (k : TypeId) (w : World) (b : Nat) (m : List (Value × Value)) : Prop :=
  ∃ es clock, w.heap[b]? = some (.map es clock) ∧ es.toList.map (fun e => (e.key, e.val)) = m ∧ Stamped es clock ∧ ∀ p ∈ m, ∃ l, keyOf P k p.1 = some l
section
variable {P : Program} {k t e : TypeId} {w w' : World} {b : Nat} {m : List (Value × Value)} {key val z : Value}
theorem keys_distinct {es : Array MapEntry} {clock : Nat} (h : Stamped es clock) : ((es.toList.map (fun e => (e.key, e.val))).map Prod.fst).Nodup := by
  rw [List.map_map]
  have := ((stamped_iff es clock).1 h).2.2
  unfold List.Nodup
  rw [List.pairwise_map]
  exact this
theorem MapS.is (h : MapS P k w b m) : MapIs P k w b m := by
  obtain ⟨es, clock, hb, he, hs, hk⟩ := h
  exact ⟨es, clock, hb, he, by rw [← he]; exact keys_distinct hs, hk⟩
theorem MapS.lt (h : MapS P k w b m) : b < w.heap.size := h.is.lt
theorem MapS.same (h : MapS P k w b m) (hs : w'.heap[b]? = w.heap[b]?) : MapS P k w' b m := by
  obtain ⟨es, clock, hb, h2⟩ := h
  exact ⟨es, clock, hs.trans hb, h2⟩
theorem MapS.made (w : World) : MapS P k (w.alloc (.map #[] 0)) w.heap.size [] := ⟨#[], 0, (MapKept.heap_alloc w _).1, rfl, stamped_empty 0, by simp⟩
theorem MapS.nodup (h : MapS P k w b m) : (m.map Prod.fst).Nodup := by obtain ⟨_, _, _, _, hn, _⟩ := h.is; exact hn
theorem grown_setBlock {w : World} {b : Nat} {x : Obj} (hb : w.heap[b]? = some x) (o : Obj) : w.grownBy (ChangeMaps.setBlock w b o) (some b) :=
  ⟨rfl, rfl, rfl, by simp [ChangeMaps.setBlock], fun i _ hi => heapOther hb _ (fun e => hi (by rw [e]))⟩
theorem MapS.put (h : MapS P k w b m) (K : Keyed P k) (ht : P.underlying t = some (.map k e)) (hkey : ∃ l, keyOf P k key = some l) (hm : ∀ p ∈ m, p.1 ≠ key) (val : Value) :
    ∃ w', (Instr.mapUpdate t (.map (some b)) key val).run P w = .ok () w' ∧ MapS P k w' b (m ++ [(key, val)]) ∧ w.grownBy w' (some b) := by
  obtain ⟨es, clock, hb, he, hst, hk⟩ := h
  obtain ⟨kl, hkl⟩ := hkey
  rcases K.find w hkl es.toList (MapIs.keys he hk) with ⟨h1, h2⟩ | ⟨j, e0, h1, h2, h3⟩
  · refine ⟨ChangeMaps.setBlock w b (.map (es.push ⟨key, val, clock⟩) (clock + 1)), ?_, ⟨_, _, heapSame hb _, ?_, stamped_push hst h2, ?_⟩, grown_setBlock hb _⟩
    · simp [Instr.mapUpdate, run_underlying ht, MapKept.run_getObj_map hb, K.check w false hkl, h1, MapKept.run_setObj_map _ hb, Result.andThen, ChangeMaps.setBlock]
    · simp [← he]
    · intro p hp
      rcases List.mem_append.1 hp with hp | hp
      · exact hk p hp
      · simp only [List.mem_singleton] at hp
        subst hp
        exact ⟨kl, hkl⟩
  · exact absurd h3 (hm (e0.key, e0.val) (by rw [← he]; exact List.mem_map.2 ⟨e0, List.mem_of_getElem? h2, rfl⟩))
/-- m[k] = v where k is there already. -/
theorem MapS.over {m1 m2 : List (Value × Value)} {old : Value} (h : MapS P k w b (m1 ++ (key, old) :: m2)) (K : Keyed P k) (ht : P.underlying t = some (.map k e)) (val : Value) :
    ∃ w', (Instr.mapUpdate t (.map (some b)) key val).run P w = .ok () w' ∧ MapS P k w' b (m1 ++ (key, val) :: m2) ∧ w.grownBy w' (some b) := by
  have hnd := h.nodup
  obtain ⟨es, clock, hb, he, hst, hk⟩ := h
  obtain ⟨kl, hkl⟩ := hk (key, old) (by simp)
  rcases K.find w hkl es.toList (MapIs.keys he hk) with ⟨h1, h2⟩ | ⟨j, e0, h1, h2, h3⟩
  · exfalso
    have : (key, old) ∈ es.toList.map (fun e => (e.key, e.val)) := by rw [he]; simp
    obtain ⟨x, hx, hxe⟩ := List.mem_map.1 this
    exact h2 x hx (congrArg Prod.fst hxe)
  · have hj : es[j]? = some e0 := by simpa using h2
    have hlist : (es.modify j (fun e' => { e' with key := key, val := val })).toList = es.toList.set j { e0 with key := key, val := val } := by rw [Array.toList_modify, modify_eq_set _ _ _ _ h2]
    have hjm : j = m1.length := by
      have h4 : (m1 ++ (key, old) :: m2)[j]? = some (e0.key, e0.val) := by rw [← he, List.getElem?_map, h2]; rfl
      have h5 : ((m1 ++ (key, old) :: m2).map Prod.fst)[j]? = some key := by rw [List.getElem?_map, h4]; simp [h3]
      have h6 : ((m1 ++ (key, old) :: m2).map Prod.fst)[m1.length]? = some key := by simp
      have hjl := (List.getElem?_eq_some_iff.1 h5).1
      exact (List.getElem?_inj hjl hnd).1 (h5.trans h6.symm)
    refine ⟨ChangeMaps.setBlock w b (.map (es.modify j (fun e' => { e' with key := key, val := val })) clock), ?_, ⟨_, _, heapSame hb _, ?_, ?_, ?_⟩, grown_setBlock hb _⟩
    · simp [Instr.mapUpdate, run_underlying ht, MapKept.run_getObj_map hb, K.check w false hkl, h1, hj, h3, K.stays w hkl, MapKept.run_setObj_map _ hb, Result.andThen, ChangeMaps.setBlock]
    · rw [hlist, List.map_set, he, hjm]
      simp
    · exact stamped_modify hst j _ (fun _ _ => rfl) (fun e' _ he' => by rw [hj] at he'; cases he'; exact h3.symm)
    · intro p hp
      rcases List.mem_append.1 hp with hp | hp
      · exact hk p (by simp [hp])
      · rcases List.mem_cons.1 hp with rfl | hp
        · exact ⟨kl, hkl⟩
        · exact hk p (by simp [hp])
/-- delete(m, k). -/
theorem MapS.del {m1 m2 : List (Value × Value)} {old : Value} (h : MapS P k w b (m1 ++ (key, old) :: m2)) (K : Keyed P k) (ht : P.underlying t = some (.map k e)) (ty : TypeId) :
    ∃ w', (Builtin.delete_ #[t, k] ty #[.map (some b), key]).run P w = .ok (.tuple #[]) w' ∧ MapS P k w' b (m1 ++ m2) ∧ w.grownBy w' (some b) := by
  have hnd := h.nodup
  obtain ⟨es, clock, hb, he, hst, hk⟩ := h
  obtain ⟨kl, hkl⟩ := hk (key, old) (by simp)
  rcases K.find w hkl es.toList (MapIs.keys he hk) with ⟨h1, h2⟩ | ⟨j, e0, h1, h2, h3⟩
  · exfalso
    have : (key, old) ∈ es.toList.map (fun e => (e.key, e.val)) := by rw [he]; simp
    obtain ⟨x, hx, hxe⟩ := List.mem_map.1 this
    exact h2 x hx (congrArg Prod.fst hxe)
  · have hjl : j < es.toList.length := (List.getElem?_eq_some_iff.1 h2).1
    have hjs : j < es.size := by simpa using hjl
    have hsub : (es.eraseIdxIfInBounds j).toList = es.toList.eraseIdx j := by
      unfold Array.eraseIdxIfInBounds
      rw [dif_pos hjs]
      simp
    have hjm : j = m1.length := by
      have h4 : (m1 ++ (key, old) :: m2)[j]? = some (e0.key, e0.val) := by rw [← he, List.getElem?_map, h2]; rfl
      have h5 : ((m1 ++ (key, old) :: m2).map Prod.fst)[j]? = some key := by rw [List.getElem?_map, h4]; simp [h3]
      have h6 : ((m1 ++ (key, old) :: m2).map Prod.fst)[m1.length]? = some key := by simp
      have hjl := (List.getElem?_eq_some_iff.1 h5).1
      exact (List.getElem?_inj hjl hnd).1 (h5.trans h6.symm)
    refine ⟨ChangeMaps.setBlock w b (.map (es.eraseIdxIfInBounds j) clock), ?_, ⟨_, _, heapSame hb _, ?_, stamped_erase hst j, ?_⟩, grown_setBlock hb _⟩
    · simp [Builtin.delete_, run_underlying ht, MapKept.run_getObj_map hb, K.check w _ hkl, h1, MapKept.run_setObj_map _ hb, Result.andThen, ChangeMaps.setBlock]
    · rw [hsub, map_eraseIdx, he, hjm]
      rw [List.eraseIdx_append_of_length_le (Nat.le_refl _)]
      simp
    · intro p hp
      rcases List.mem_append.1 hp with hp | hp
      · exact hk p (by simp [hp])
      · exact hk p (by simp [hp])
theorem MapS.len (h : MapS P k w b m) (ht : P.underlying t = some (.map k e)) (ty : TypeId) : (Builtin.len_ #[t] ty #[.map (some b)]).run P w = .ok (.int .i64 (m.length : Int)) w := by
  obtain ⟨es, clock, hb, he, _⟩ := h
  have : es.size = m.length := by rw [← he]; simp
  simp [Builtin.len_, run_underlying ht, MapKept.run_getObj_map hb, goInt, Result.andThen, this]
/-- Ranging over a map: what has come. -/
def RngS (P : Program) (k : TypeId) (w : World) (b r : Nat) (m vis : List (Value × Value)) : Prop :=
  ∃ es clock since seen c0, w.heap[b]? = some (.map es clock) ∧ es.toList.map (fun e => (e.key, e.val)) = m ∧ Stamped es clock ∧ (∀ p ∈ m, ∃ l, keyOf P k p.1 = some l) ∧
    w.heap[r]? = some (.mapIter (some b) since seen c0) ∧ (∀ x ∈ es.toList, x.born < since) ∧ since ≤ c0 ∧ since ≤ clock ∧ vis.Perm ((es.toList.filter fun x => seen.contains x.born).map (fun e => (e.key, e.val)))
theorem RngS.map {r : Nat} {vis : List (Value × Value)} (h : RngS P k w b r m vis) : MapS P k w b m := by
  obtain ⟨es, clock, _, _, _, hb, he, hs, hk, _⟩ := h
  exact ⟨es, clock, hb, he, hs, hk⟩
theorem RngS.same {r : Nat} {vis : List (Value × Value)} (h : RngS P k w b r m vis) (h1 : w'.heap[b]? = w.heap[b]?) (h2 : w'.heap[r]? = w.heap[r]?) : RngS P k w' b r m vis := by
  obtain ⟨es, clock, since, seen, c0, hb, he, hs, hk, hr, h3⟩ := h
  exact ⟨es, clock, since, seen, c0, h1.trans hb, he, hs, hk, h2.trans hr, h3⟩
theorem RngS.ne {r : Nat} {vis : List (Value × Value)} (h : RngS P k w b r m vis) : r ≠ b := by
  obtain ⟨es, clock, since, seen, c0, hb, _, _, _, hr, _⟩ := h
  intro e1
  subst e1
  rw [hb] at hr
  cases hr
theorem RngS.ltr {r : Nat} {vis : List (Value × Value)} (h : RngS P k w b r m vis) : r < w.heap.size := by
  obtain ⟨_, _, _, _, _, _, _, _, _, hr, _⟩ := h
  exact (Array.getElem?_eq_some_iff.1 hr).1
theorem RngS.sub {r : Nat} {vis : List (Value × Value)} (h : RngS P k w b r m vis) : ∀ p ∈ vis, p ∈ m := by
  obtain ⟨es, clock, since, seen, c0, hb, he, hs, hk, hr, _, _, _, hv⟩ := h
  intro p hp
  obtain ⟨x, hx, rfl⟩ := List.mem_map.1 (hv.subset hp)
  rw [← he]
  exact List.mem_map.2 ⟨x, (List.mem_filter.1 hx).1, rfl⟩
theorem filter_split {α : Type} (p : α → Bool) : ∀ (l : List α), (l.filter p).length + (l.filter fun x => !p x).length = l.length
  | [] => rfl
  | a :: l => by
    have := filter_split p l
    cases h : p a <;> simp [h] <;> omega
theorem RngS.left {r : Nat} {vis : List (Value × Value)} (h : RngS P k w b r m vis) : w.rangeLeft b r + vis.length = m.length := by
  obtain ⟨es, clock, since, seen, c0, hb, he, hs, hk, hr, _, _, _, hv⟩ := h
  have h1 : w.rangeLeft b r = (leftOf es seen).size := by simp only [World.rangeLeft, hb, hr]
  have h2 : (leftOf es seen).size = (es.toList.filter fun x => !seen.contains x.born).length := by
    unfold leftOf
    rw [← Array.toList_filter, Array.length_toList]
  have h3 := filter_split (fun x : MapEntry => seen.contains x.born) es.toList
  rw [h1, h2, hv.length_eq, List.length_map, ← he, List.length_map]
  omega
theorem MapS.range (h : MapS P k w b m) (ht : P.underlying t = some (.map k e)) :
    ∃ w', (Instr.range t (.map (some b))).run P w = .ok (.pointer (some ⟨w.heap.size, 0, none⟩)) w' ∧ RngS P k w' b w.heap.size m [] ∧ Below w.heap.size w w' ∧ w'.heap.size = w.heap.size + 1 := by
  have hlt := h.lt
  obtain ⟨es, clock, hb, he, hs, hk⟩ := h
  refine ⟨_, run_range_map w t k e b es clock ht hb, ⟨es, clock, clock, #[], clock, ((MapKept.heap_alloc w _).2 b hlt).trans hb, he, hs, hk, (MapKept.heap_alloc w _).1, ((stamped_iff es clock).1 hs).1, Nat.le_refl _, Nat.le_refl _, ?_⟩, (Below.refl _ _).alloc (Nat.le_refl _) _, by simp⟩
  simp
theorem born_eq {es : Array MapEntry} {clock : Nat} (hs : Stamped es clock) {x y : MapEntry} (hx : x ∈ es.toList) (hy : y ∈ es.toList) (h : x.born = y.born) : x = y := born_inj ((stamped_iff es clock).1 hs).2.1 hx hy h
theorem perm_push {es : List MapEntry} {seen : Array Nat} {e0 : MapEntry} (hn : es.Nodup) (hinj : ∀ x ∈ es, x.born = e0.born → x = e0) (he : e0 ∈ es) (h0 : seen.contains e0.born = false) :
    ((es.filter fun x => seen.contains x.born) ++ [e0]).Perm (es.filter fun x => (seen.push e0.born).contains x.born) := by
  refine (List.perm_ext_iff_of_nodup ?_ (hn.filter _)).2 (fun x => ?_)
  · rw [List.nodup_append]
    refine ⟨hn.filter _, by simp, fun a ha c hc => ?_⟩
    simp only [List.mem_singleton] at hc
    subst hc
    rintro rfl
    rw [List.mem_filter] at ha
    rw [ha.2] at h0
    cases h0
  · simp only [List.mem_append, List.mem_filter, List.mem_singleton, contains_push, Bool.or_eq_true, beq_iff_eq]
    constructor
    · rintro (⟨h1, h2⟩ | rfl)
      · exact ⟨h1, .inl h2⟩
      · exact ⟨he, .inr rfl⟩
    · rintro ⟨h1, h2 | h2⟩
      · exact .inl ⟨h1, h2⟩
      · exact .inr (hinj x h1 h2)
/-- The step. -/
theorem RngS.next {r : Nat} {vis : List (Value × Value)} (h : RngS P k w b r m vis) (ty : TypeId) :
    (vis.Perm m ∧ (Instr.next (.pointer (some ⟨r, 0, none⟩)) false ty).run P w = .ok (.tuple #[.bool false]) w) ∨
    ∃ key v w', (key, v) ∈ m ∧ (∀ p ∈ vis, p.1 ≠ key) ∧ (Instr.next (.pointer (some ⟨r, 0, none⟩)) false ty).run P w = .ok (.tuple #[.bool true, key, v]) w' ∧
      RngS P k w' b r m (vis ++ [(key, v)]) ∧ w.grownBy w' (some r) ∧ w'.heap.size = w.heap.size ∧ (Instr.entry (.pointer (some ⟨r, 0, none⟩))).run P w' = .ok (.tuple #[key, v]) w' := by
  have hne := h.ne
  obtain ⟨es, clock, since, seen, c0, hb, he, hs, hk, hr, hold, hsc, hsk, hv⟩ := h
  have hsi := (stamped_iff es clock).1 hs
  rcases run_next_at (P := P) w ty r b since c0 seen es clock hr hb hold hsc with ⟨h0, hrun⟩ | ⟨e0, he0, w1, hal, hrun⟩
  · refine Or.inl ⟨?_, hrun⟩
    have : (es.toList.filter fun x => seen.contains x.born) = es.toList := by
      rw [List.filter_eq_self]
      intro x hx
      exact all_seen es seen h0 x hx
    rw [this, he] at hv
    exact hv
  · obtain ⟨hem, hes⟩ := mem_left he0
    have hr1 : w1.heap[r]? = some (.mapIter (some b) since seen c0) := by rcases hal with rfl | rfl <;> exact hr
    have hb1 : w1.heap[b]? = some (.map es clock) := by rcases hal with rfl | rfl <;> exact hb
    have hset := heap_set (o' := .mapIter (some b) since (seen.push e0.born) clock) hr1
    have hb' : (ChangeMaps.setBlock w1 r (.mapIter (some b) since (seen.push e0.born) clock)).heap[b]? = some (.map es clock) := (hset.2 b (fun e1 => hne e1.symm)).trans hb1
    have hnd : es.toList.Nodup := by
      have := hsi.2.1
      unfold List.Nodup at this
      rw [List.pairwise_map] at this
      exact this.imp (fun h e => h (by rw [e]))
    have hinj : ∀ x ∈ es.toList, x.born = e0.born → x = e0 := fun x hx hxb => born_eq hs hx hem hxb
    have hpp := perm_push hnd hinj hem hes
    refine Or.inr ⟨e0.key, e0.val, _, by rw [← he]; exact List.mem_map.2 ⟨e0, hem, rfl⟩, fun p hp hpk => ?_, hrun, ⟨es, clock, since, seen.push e0.born, clock, hb', he, hs, hk, hset.1, hold, hsk, hsk, ?_⟩, ?_, ?_,
      run_entry_at _ r b since seen es clock e0 hset.1 hb' hem hsi.2.1⟩
    · obtain ⟨x, hx, rfl⟩ := List.mem_map.1 (hv.subset hp)
      obtain ⟨hx1, hx2⟩ := List.mem_filter.1 hx
      have : x = e0 := entry_eq_of_key hsi.2.2 hx1 hem hpk
      subst this
      rw [hx2] at hes
      cases hes
    · refine (hv.append_right _).trans ?_
      have := hpp.map (fun e : MapEntry => (e.key, e.val))
      rw [List.map_append] at this
      exact this
    · rcases hal with rfl | rfl <;> exact ⟨rfl, rfl, rfl, by simp [ChangeMaps.setBlock], fun i _ hi => hset.2 i (fun e1 => hi (by rw [e1]))⟩
    · rcases hal with rfl | rfl <;> simp [ChangeMaps.setBlock]
end
section
variable {P : Program} {w : World} {ops : Array Oper} {rest : List Oper} {o : Oper} {a : Act} {Q : Exit → Act → World → Prop} {k e : TypeId}
theorem wpList_rangeS (hg : o.guard = none) (mo : Operand) (t : TypeId) (hop : o.op = Op.range t mo) (ht : P.underlying t = some (.map k e)) (b : Nat) (m : List (Value × Value)) (hm : a.eval mo = .map (some b)) (h : MapS P k w b m)
    (hK : ∀ w', RngS P k w' b w.heap.size m [] → Below w.heap.size w w' → w'.heap.size = w.heap.size + 1 → wpList P ops Q rest (a.put o.dst (.pointer (some ⟨w.heap.size, 0, none⟩))) w') : wpList P ops Q (o :: rest) a w := by
  refine wpList_plain hg fun K' hK' => ?_
  obtain ⟨w', hrun, r1, r2, r3⟩ := h.range ht
  unfold Oper.wp
  simp [execOp, hop, hm, hrun, Result.andThen]
  exact hK' _ _ (hK w' r1 r2 r3)
theorem wpList_nextS (hg : o.guard = none) (it : Operand) (hop : o.op = Op.next it false) (b r : Nat) (m vis : List (Value × Value)) (hit : a.eval it = .pointer (some ⟨r, 0, none⟩)) (h : RngS P k w b r m vis)
    (hDone : vis.Perm m → wpList P ops Q rest (a.put o.dst (.tuple #[.bool false])) w)
    (hMore : ∀ (key v : Value) (w' : World), (key, v) ∈ m → (∀ p ∈ vis, p.1 ≠ key) → RngS P k w' b r m (vis ++ [(key, v)]) → w.grownBy w' (some r) → w'.heap.size = w.heap.size →
      (Instr.entry (.pointer (some ⟨r, 0, none⟩))).run P w' = .ok (.tuple #[key, v]) w' → wpList P ops Q rest (a.put o.dst (.tuple #[.bool true, key, v])) w') : wpList P ops Q (o :: rest) a w := by
  refine wpList_plain hg fun K' hK' => ?_
  unfold Oper.wp
  rcases h.next o.type with ⟨h0, hrun⟩ | ⟨key, v, w', h1, h2, hrun, h3, h4, h5, h6⟩
  · simp [execOp, hop, hit, hrun, Result.andThen]
    exact hK' _ _ (hDone h0)
  · simp [execOp, hop, hit, hrun, Result.andThen]
    exact hK' _ _ (hMore key v w' h1 h2 h3 h4 h5 h6)
theorem wpList_putS (K : Keyed P k) (hg : o.guard = none) (mo x v : Operand) (t : TypeId) (hop : o.op = Op.mapUpdate t mo x v) (ht : P.underlying t = some (.map k e)) (b : Nat) (m : List (Value × Value)) (h : MapS P k w b m) (hmo : a.eval mo = .map (some b)) (key val : Value) (hx : a.eval x = key) (hv : a.eval v = val) (hkey : ∃ l, keyOf P k key = some l) (hnew : ∀ p ∈ m, p.1 ≠ key)
    (hK : ∀ w', MapS P k w' b (m ++ [(key, val)]) → w.grownBy w' (some b) → wpList P ops Q rest (a.put o.dst undef) w') : wpList P ops Q (o :: rest) a w := by
  refine wpList_plain hg fun K' hK' => ?_
  obtain ⟨w', hrun, r1, r2⟩ := h.put K ht hkey hnew val
  unfold Oper.wp
  simp [execOp, hop, hmo, hx, hv, hrun, Result.andThen]
  exact hK' _ _ (hK w' r1 r2)
end
end Go.Proofs.YtdieneaillkbgaaGreatDoor

/- Generic words about memory: rows of cells behind a slice value, and the environment (the variables of Go's library that the program reads). -/
namespace Go.Proofs.YtdieneaillkbgaaGreatDoor
open Go.RowKit
/-- The bytes of a string. -/
def bl (s : ByteArray) : List UInt8 := s.data.toList
theorem data_bl (s : ByteArray) : s.data.toList = bl s := rfl
theorem toList_bl (s : ByteArray) : s.toList = bl s := by rw [ByteArray.toList_eq]; rfl
theorem bl_mk (l : List UInt8) : bl ⟨l.toArray⟩ = l := by simp [bl]
theorem mk_bl (s : ByteArray) : (⟨(bl s).toArray⟩ : ByteArray) = s := by cases s; simp [bl]
theorem size_bl (s : ByteArray) : s.size = (bl s).length := Lib.size_eq s
theorem bl_append (s t : ByteArray) : bl (s ++ t) = bl s ++ bl t := by simp [bl]
theorem bl_extract (s : ByteArray) (a b : Nat) : bl (s.extract a b) = ((bl s).take b).drop a := by unfold bl; rw [Lib.extract_data]; rw [List.drop_take]
theorem bl_inj {s t : ByteArray} (h : bl s = bl t) : s = t := by rw [← mk_bl s, ← mk_bl t, h]
/-- Blocks in S stand in w' as they stood in w. -/
def SameOn (S : Nat → Prop) (w w' : World) : Prop := ∀ k, S k → w'.heap[k]? = w.heap[k]?
theorem SameOn.refl (S : Nat → Prop) (w : World) : SameOn S w w := fun _ _ => rfl
theorem SameOn.trans {S : Nat → Prop} {a b c : World} (h : SameOn S a b) (k : SameOn S b c) : SameOn S a c := fun i hi => (k i hi).trans (h i hi)
theorem SameOn.cell {S : Nat → Prop} {w w' : World} (h : SameOn S w w') {a : Addr} (ha : S a.block) : w'.cell? a = w.cell? a := World.cell?_of_block (h a.block ha)
theorem SameOn.mono {S T : Nat → Prop} {w w' : World} (h : SameOn S w w') (hT : ∀ k, T k → S k) : SameOn T w w' := fun k hk => h k (hT k hk)
theorem block_lt {w : World} {a : Addr} {v : Value} (h : w.cell? a = some v) : a.block < w.heap.size := by
  rcases Nat.lt_or_ge a.block w.heap.size with h' | h'
  · exact h'
  · simp [World.cell?, Array.getElem?_eq_none h'] at h
/-- The slice value v holds n elements of sz cells each: the cells are `cells`; they lie in a block of S. -/
def RowAt (S : Nat → Prop) (w : World) (sz : Nat) (v : Value) (n : Nat) (cells : List Value) : Prop :=
  cells.length = n * sz ∧ ∃ a cap, v = .slice a n cap ∧ n ≤ cap ∧ cap ≤ maxLen ∧
    (n = 0 ∨ ∃ b o, a = some ⟨b, o, none⟩ ∧ S b ∧ ∀ (j : Nat) u, cells[j]? = some u → w.cell? ⟨b, o + j, none⟩ = some u)
theorem RowAt.same {S : Nat → Prop} {w w' : World} {sz : Nat} {v : Value} {n : Nat} {cells : List Value} (h : RowAt S w sz v n cells) (hs : SameOn S w w') : RowAt S w' sz v n cells := by
  obtain ⟨hl, a, cap, hv, hn, hm, h0⟩ := h
  refine ⟨hl, a, cap, hv, hn, hm, ?_⟩
  rcases h0 with h0 | ⟨b, o, ha, hb, hc⟩
  · exact .inl h0
  · exact .inr ⟨b, o, ha, hb, fun j u hu => (hs.cell (a := ⟨b, o + j, none⟩) hb).trans (hc j u hu)⟩
theorem RowAt.mono {S T : Nat → Prop} {w : World} {sz : Nat} {v : Value} {n : Nat} {cells : List Value} (h : RowAt S w sz v n cells) (hs : ∀ k, k < w.heap.size → S k → T k) : 0 < sz → RowAt T w sz v n cells := by
  intro hsz
  obtain ⟨hl, a, cap, hv, hn, hm, h0⟩ := h
  refine ⟨hl, a, cap, hv, hn, hm, ?_⟩
  rcases h0 with h0 | ⟨b, o, ha, hb, hc⟩
  · exact .inl h0
  · rcases Nat.eq_zero_or_pos n with h | h
    · exact .inl h
    · refine .inr ⟨b, o, ha, hs b ?_ hb, hc⟩
      have : 0 < cells.length := by rw [hl]; exact Nat.mul_pos h hsz
      exact block_lt (a := ⟨b, o + 0, none⟩) (hc 0 cells[0] (by simp [this]))
/-- Under Below at the heap's own size every row stays. -/
theorem RowAt.below {S : Nat → Prop} {w w' : World} {sz : Nat} {v : Value} {n : Nat} {cells : List Value} (h : RowAt S w sz v n cells) (hsz : 0 < sz) (hb : Below w.heap.size w w') : RowAt S w' sz v n cells := by
  have h2 := h.mono (T := fun k => S k ∧ k < w.heap.size) (fun k hk hS => ⟨hS, hk⟩) hsz
  have h3 := h2.same (w' := w') (fun k hk => hb.block k hk.2)
  obtain ⟨hl, a, cap, hv, hn, hm, h0⟩ := h3
  refine ⟨hl, a, cap, hv, hn, hm, ?_⟩
  rcases h0 with h0 | ⟨b, o, ha, hb, hc⟩
  · exact .inl h0
  · exact .inr ⟨b, o, ha, hb.1, hc⟩
theorem RowAt.nil (S : Nat → Prop) (w : World) (sz : Nat) : RowAt S w sz (.slice none 0 0) 0 [] := ⟨by simp, none, 0, rfl, Nat.le_refl _, by unfold maxLen; omega, .inl rfl⟩
/-- A list of strings behind a slice value. -/
def StrsAt (S : Nat → Prop) (w : World) (v : Value) (xs : List ByteArray) : Prop := RowAt S w 1 v xs.length (xs.map Value.string)
theorem StrsAt.shape {S : Nat → Prop} {w : World} {v : Value} {xs : List ByteArray} (h : StrsAt S w v xs) :
    ∃ a cap, v = .slice a xs.length cap ∧ xs.length ≤ cap ∧ cap ≤ maxLen ∧ ∀ k x, xs[k]? = some x → ∃ b o, a = some ⟨b, o, none⟩ ∧ S b ∧ w.cell? ⟨b, o + k, none⟩ = some (.string x) := by
  obtain ⟨_, a, cap, hv, hn, hm, h0⟩ := h
  refine ⟨a, cap, hv, hn, hm, fun k x hk => ?_⟩
  rcases h0 with h0 | ⟨b, o, ha, hb, hc⟩
  · simp [List.eq_nil_of_length_eq_zero h0] at hk
  · exact ⟨b, o, ha, hb, hc k _ (by simp [hk])⟩
/-- What the program reads of Go's library's variables. -/
structure Env (w : World) : Prop where
  maxLen : ∃ m, w.cell? ⟨0, 0, none⟩ = some (.int .i64 m)
  tabs : Lib.Utf8Tabs 1 2 w
theorem Env.below {w w' : World} (h : Env w) (hb : Below w.heap.size w w') : Env w' := by
  obtain ⟨⟨m, hm⟩, ht⟩ := h
  exact ⟨⟨m, (hb.cell (block_lt hm)).trans hm⟩, Utf8Tabs_below ht hb⟩
theorem Env.lt {w : World} (h : Env w) : 0 < w.heap.size ∧ 1 < w.heap.size ∧ 2 < w.heap.size := by
  obtain ⟨⟨m, hm⟩, ht⟩ := h
  exact ⟨block_lt hm, block_lt (ht.1 0 (by omega)), block_lt (ht.2 0 (by omega)).1⟩
theorem ret_bool {a b : Bool} (h : a = b) : Ending.returned (.bool a) = .returned (.bool b) := by rw [h]
theorem ret_int {k : IntKind} {a b : Int} (h : a = b) : Ending.returned (.int k a) = .returned (.int k b) := by rw [h]
theorem below_next {w w1 w2 : World} (h : Below w.heap.size w w1) (k : Below w1.heap.size w1 w2) : Below w.heap.size w w2 := h.trans (k.mono h.size)
/-- A contract that leaves the world alone, met inside a region that reads alone. -/
theorem quietL {P : Program} {f : FuncId} {args : Array Value} {w : World} {n : Nat} {v : Value}
    (h : Calls P f args (w.drewN n) fun e w' => e = .returned v ∧ w.drewN n = w') : Calls P f args (w.drewN n) fun e w'' => e = .returned v ∧ ∃ m, w'' = w.drewN m :=
  h.mono fun _ _ ⟨he, hm⟩ => ⟨he, n, hm.symm⟩
theorem below_draws {B : Nat} {a w : World} (h : Below B a w) (n : Nat) : Below B a (w.drewN n) := h.trans ⟨rfl, rfl, rfl, Nat.le_refl _, fun _ _ => rfl⟩
end Go.Proofs.YtdieneaillkbgaaGreatDoor

/- Rows that the call itself owns: appending one element; from an owned row to a row that reads. -/
namespace Go.Proofs.YtdieneaillkbgaaGreatDoor
open Go.RowKit
/-- What the table says of a slice type t of elements e: sz cells, `bytes` bytes each. -/
structure AppTy (P : Program) (t e : TypeId) (sz bytes : Nat) : Prop where
  ht : P.underlying t = some (.slice e)
  hi : ∃ i z, P.info? e = some i ∧ i.zero = some z ∧ i.size = sz ∧ i.bytes = bytes ∧ z.cells.size = sz
  pos : 0 < sz
  small : bytes ≤ 128
theorem AppTy.mk' {P : Program} {t e : TypeId} {sz bytes : Nat} {z : Value} (ht : P.underlying t = some (.slice e)) (hi : (P.info? e).map (fun i => (i.zero, i.size, i.bytes)) = some (some z, sz, bytes)) (hz : z.cells.size = sz) (hp : 0 < sz) (hb : bytes ≤ 128) : AppTy P t e sz bytes := by
  obtain ⟨i, h1, h2, h3, h4⟩ := info_parts hi
  exact ⟨ht, ⟨i, z, h1, h2, h3, h4, hz⟩, hp, hb⟩
/-- Where append's result lies: in the old row or in a new block. -/
theorem run_append_place {P : Program} (w : World) (base : Nat) (t ty e : TypeId) (i : TypeInfo) (z : Value) (size bytes : Nat) (ht : P.underlying t = some (.slice e)) (hi : P.info? e = some i) (hz : i.zero = some z)
    (hsize : i.size = size) (hby : i.bytes = bytes) (hzs : z.cells.size = size)
    (v : Value) (n : Nat) (xs : List Value) (hown : w.ownsRow base e size v n xs)
    (a : Addr) (m c : Nat) (news : List Value) (hl : news.length = m * size) (hm0 : 0 < m) (hnews : ∀ j u, news[j]? = some u → w.cell? (a.add j) = some u) (h1 : ∀ u ∈ news, u.oneCell' = true)
    (h63 : n + m ≤ maxLen) (hbytes : (n + m) * bytes ≤ 140737488355328) {v' : Value} {w' : World}
    (hrun : (Builtin.append_ #[t, t] ty #[v, .slice (some a) m c]).run P w = .ok v' w') : v'.ownBlock = v.ownBlock ∨ v'.ownBlock = some w.heap.size := by
  subst hsize
  subst hby
  have hsmall : n + m ≤ 9223372036854775807 := by simp only [maxLen] at h63; omega
  rcases hown.2 with ⟨rfl, rfl⟩ | ⟨g, cap, cur, rfl, hbg, hg, hnc, hcm, hcs, htake⟩
  · have hx : xs = [] := List.eq_nil_of_length_eq_zero (by simpa using hown.1)
    subst hx
    have hr := run_append_nil (P := P) w t ty e i z ht hi hz a m c news hl hnews (by omega) (by omega) (by have hb := hbytes; simp only [Nat.zero_add] at hb; omega)
    rw [hr] at hrun
    cases hrun
    exact .inr rfl
  · by_cases hroom : n + m ≤ cap
    · have hfit : n * i.size + news.length ≤ cur.size := by rw [hl, hcs, ← Nat.add_mul]; exact Nat.mul_le_mul_right _ hroom
      have hr := run_append_room (P := P) w t ty e i ht hi g n cap cur hg a m c news hl hnews h1 hroom hfit
      rw [hr] at hrun
      cases hrun
      exact .inl rfl
    · have holds : ∀ j u, xs[j]? = some u → w.cell? ((⟨g, 0, none⟩ : Addr).add j) = some u := hown.cells (g := g) rfl
      have hr := run_append_grow (P := P) w t ty e i z ht hi hz ⟨g, 0, none⟩ n cap xs hown.1 holds a m c news hl hnews (by omega) (by omega) (growslice_fits (by omega) hbytes)
      rw [hr] at hrun
      cases hrun
      exact .inr rfl
/-- append(s, x) of one element, which lies in the newest block. -/
theorem wpList_app1p {P : Program} {ops : Array Oper} {rest : List Oper} {o : Oper} {a : Act} {Q : Exit → Act → World → Prop} {t e : TypeId} {sz bytes : Nat} (T : AppTy P t e sz bytes) (hgd : o.guard = none) (s x : Operand)
    (ho : o.op = .call { callee := .builtin .append, args := #[s, x], argTypes := #[t, t] }) (base : Nat) (v : Value) (n : Nat) (xs : List Value) (hs : a.eval s = v) (w0 : World) (news : List Value) (e2 : TypeId)
    (hx : a.eval x = .slice (some ⟨w0.heap.size, 0, none⟩) 1 1) (hl : news.length = sz) (h1 : ∀ u ∈ news, u.oneCell' = true) (hown : w0.ownsRow base e sz v n xs) (hn : n < 1099511627775) (hbase : base ≤ w0.heap.size)
    (h : ∀ v' w', w'.ownsRow base e sz v' (n + 1) (xs ++ news) → w0.grownBy w' v.ownBlock → v' ≠ .slice none 0 0 → (∀ k, v'.ownBlock = some k → v.ownBlock = some k ∨ w0.heap.size ≤ k) → wpList P ops Q rest (a.put o.dst v') w') : wpList P ops Q (o :: rest) a (w0.alloc (.cells news.toArray e2)) := by
  obtain ⟨ht, ⟨i, z, h11, h12, h13, h14, h15⟩, hpos, hsm⟩ := T
  have hnews : ∀ (j : Nat) u, news[j]? = some u → (w0.alloc (.cells news.toArray e2)).cell? ((⟨w0.heap.size, 0, none⟩ : Addr).add j) = some u := by
    intro j u hj
    have hadd : (⟨w0.heap.size, 0, none⟩ : Addr).add j = ⟨w0.heap.size, j, none⟩ := by unfold Addr.add; split <;> simp_all
    rw [hadd]
    have hh := heap_alloc_new w0 (.cells news.toArray e2)
    simp only [World.cell?, hh]
    simp [hj]
  have h63 : n + 1 ≤ maxLen := by unfold maxLen; omega
  have hby : (n + 1) * bytes ≤ 140737488355328 := by
    have : (n + 1) * bytes ≤ 1099511627775 * 128 := Nat.mul_le_mul (by omega) hsm
    omega
  have hl1 : news.length = 1 * sz := by rw [hl, Nat.one_mul]
  obtain ⟨v', w', hr, h2, hg, hv⟩ := run_append_own (P := P) (w0.alloc (.cells news.toArray e2)) base t o.type e i z sz bytes ht h11 h12 h13 h14 h15 hpos v n xs (hown.alloc _) ⟨w0.heap.size, 0, none⟩ 1 1 news hl1 hnews h1 h63 hby (by simp; omega)
  have hpl := run_append_place (P := P) (w0.alloc (.cells news.toArray e2)) base t o.type e i z sz bytes ht h11 h12 h13 h14 h15 v n xs (hown.alloc _) ⟨w0.heap.size, 0, none⟩ 1 1 news hl1 (by omega) hnews h1 h63 hby hr
  refine wpList_plain hgd fun K hK => ?_
  unfold Oper.wp execOp
  simp only [ho, resolve, invoke, builtin, Sem.run_bind, Sem.run_pure, Result.andThen_ok, List.map_toArray, List.map_cons, List.map_nil, hs, hx, hr]
  refine hK _ _ (h v' w' h2 ⟨hg.os, hg.tape, hg.output, by have := hg.size; simp at this; omega, fun k hk hne => ?_⟩ (fun e => by have := (hv.1 e).2; omega) ?_)
  · rw [hg.block k (by simp; omega) hne]
    exact Below.heap_alloc _ _ _ hk
  · intro k hk
    rcases hpl with hp | hp
    · left; rw [← hp]; exact hk
    · right; rw [hp] at hk; cases hk; simp
theorem wpList_app1 {P : Program} {ops : Array Oper} {rest : List Oper} {o : Oper} {a : Act} {Q : Exit → Act → World → Prop} {t e : TypeId} {sz bytes : Nat} (T : AppTy P t e sz bytes) (hgd : o.guard = none) (s x : Operand)
    (ho : o.op = .call { callee := .builtin .append, args := #[s, x], argTypes := #[t, t] }) (base : Nat) (v : Value) (n : Nat) (xs : List Value) (hs : a.eval s = v) (w0 : World) (news : List Value) (e2 : TypeId)
    (hx : a.eval x = .slice (some ⟨w0.heap.size, 0, none⟩) 1 1) (hl : news.length = sz) (h1 : ∀ u ∈ news, u.oneCell' = true) (hown : w0.ownsRow base e sz v n xs) (hn : n < 1099511627775) (hbase : base ≤ w0.heap.size)
    (h : ∀ v' w', w'.ownsRow base e sz v' (n + 1) (xs ++ news) → w0.grownBy w' v.ownBlock → v' ≠ .slice none 0 0 → wpList P ops Q rest (a.put o.dst v') w') : wpList P ops Q (o :: rest) a (w0.alloc (.cells news.toArray e2)) :=
  wpList_app1p T hgd s x ho base v n xs hs w0 news e2 hx hl h1 hown hn hbase fun v' w' h2 h3 h4 _ => h v' w' h2 h3 h4
/-- An owned row reads. -/
theorem row_of_owns {w : World} {base : Nat} {e : TypeId} {sz : Nat} {v : Value} {n : Nat} {xs : List Value} (h : w.ownsRow base e sz v n xs) : RowAt (fun k => base ≤ k ∧ v.ownBlock = some k) w sz v n xs := by
  obtain ⟨hl, h2⟩ := h
  rcases h2 with ⟨rfl, rfl⟩ | ⟨g, cap, cur, rfl, hg, hh, hn, hcap, hsz, htake⟩
  · exact ⟨hl, none, 0, rfl, Nat.le_refl _, by unfold maxLen; omega, .inl rfl⟩
  · refine ⟨hl, _, cap, rfl, hn, hcap, .inr ⟨g, 0, rfl, ⟨hg, rfl⟩, fun j u hj => ?_⟩⟩
    rw [Nat.zero_add, cell_of_row w g j cur e (0, 0) hh]
    rw [← htake, List.getElem?_take] at hj
    split at hj
    · simpa using hj
    · cases hj
theorem RowAt.weak {S T : Nat → Prop} {w : World} {sz : Nat} {v : Value} {n : Nat} {cells : List Value} (h : RowAt S w sz v n cells) (hs : ∀ k, S k → T k) : RowAt T w sz v n cells := by
  obtain ⟨hl, a, cap, hv, hn, hm, h0⟩ := h
  refine ⟨hl, a, cap, hv, hn, hm, ?_⟩
  rcases h0 with h0 | ⟨b, o, ha, hb, hc⟩
  · exact .inl h0
  · exact .inr ⟨b, o, ha, hs b hb, hc⟩
/-- What the round has grown lies from base on. -/
theorem below_grown {B : Nat} {w0 w w' : World} {base : Nat} {e : TypeId} {sz : Nat} {v : Value} {n : Nat} {xs : List Value} (hb : Below B w0 w) (ho : w.ownsRow base e sz v n xs) (hg : w.grownBy w' v.ownBlock) (h1 : B ≤ base) (h2 : B ≤ w.heap.size) : Below B w0 w' :=
  hb.grown hg h2 (fun k hk => by have := (ho.lt k hk).1; omega)
theorem owns_shape {w : World} {base : Nat} {e : TypeId} {sz : Nat} {v : Value} {n : Nat} {xs : List Value} (h : w.ownsRow base e sz v n xs) : ∃ a cap, v = .slice a n cap ∧ n ≤ cap ∧ cap ≤ maxLen := by
  obtain ⟨_, h2⟩ := h
  rcases h2 with ⟨rfl, rfl⟩ | ⟨g, cap, cur, rfl, hg, hh, hn, hcap, hsz, htake⟩
  · exact ⟨_, _, rfl, Nat.le_refl _, by unfold maxLen; omega⟩
  · exact ⟨_, _, rfl, hn, hcap⟩
theorem Tryz.appStrings : AppTy Tryz.prog 34 9 1 16 := AppTy.mk' (z := .string ByteArray.empty) Tryz.underlying34 (by kernel_rfl) rfl (by decide) (by decide)
end Go.Proofs.YtdieneaillkbgaaGreatDoor

/- Rows of structs: cells that are read as a list of things. -/
namespace Go.Proofs.YtdieneaillkbgaaGreatDoor
open Go.RowKit
def RowsIn {α : Type} (R : List Value → α → Prop) : List Value → List α → Prop
  | cells, [] => cells = []
  | cells, x :: xs => ∃ c rest, cells = c ++ rest ∧ R c x ∧ RowsIn R rest xs
section
variable {α : Type} {R R' : List Value → α → Prop} {sz : Nat}
theorem RowsIn.mono : ∀ {xs : List α} {cells : List Value}, (∀ c x, x ∈ xs → R c x → R' c x) → RowsIn R cells xs → RowsIn R' cells xs
  | [], _, _, h => h
  | x :: xs, cells, hm, h => by
    obtain ⟨c, rest, rfl, hc, hr⟩ := h
    exact ⟨c, rest, rfl, hm c x (by simp) hc, RowsIn.mono (fun c y hy => hm c y (by simp [hy])) hr⟩
theorem RowsIn.snoc : ∀ {xs : List α} {cells c : List Value} {x : α}, RowsIn R cells xs → R c x → RowsIn R (cells ++ c) (xs ++ [x])
  | [], cells, c, x, h, hc => by
    have : cells = [] := h
    subst this
    exact ⟨c, [], by simp, hc, rfl⟩
  | y :: xs, cells, c, x, h, hc => by
    obtain ⟨d, rest, rfl, hd, hr⟩ := h
    exact ⟨d, rest ++ c, by simp, hd, RowsIn.snoc hr hc⟩
theorem RowsIn.len (hs : ∀ c x, R c x → c.length = sz) : ∀ {xs : List α} {cells : List Value}, RowsIn R cells xs → cells.length = xs.length * sz
  | [], cells, h => by have : cells = [] := h; subst this; simp
  | x :: xs, cells, h => by
    obtain ⟨c, rest, rfl, hc, hr⟩ := h
    rw [List.length_append, hs c x hc, RowsIn.len hs hr, List.length_cons, Nat.add_mul]; omega
theorem RowsIn.get (hs : ∀ c x, R c x → c.length = sz) : ∀ {xs : List α} {cells : List Value} {i : Nat} {x : α}, RowsIn R cells xs → xs[i]? = some x → ∃ c, R c x ∧ ∀ j, j < sz → cells[i * sz + j]? = c[j]?
  | [], _, i, _, _, hi => by simp at hi
  | y :: xs, cells, 0, x, h, hi => by
    obtain ⟨c, rest, rfl, hc, hr⟩ := h
    simp at hi; subst hi
    refine ⟨c, hc, fun j hj => ?_⟩
    rw [Nat.zero_mul, Nat.zero_add, List.getElem?_append_left (by rw [hs c y hc]; exact hj)]
  | y :: xs, cells, i + 1, x, h, hi => by
    obtain ⟨c, rest, rfl, hc, hr⟩ := h
    obtain ⟨d, hd, hj⟩ := RowsIn.get hs hr (i := i) (x := x) (by simpa using hi)
    refine ⟨d, hd, fun j hjs => ?_⟩
    have hl := hs c y hc
    rw [List.getElem?_append_right (by rw [hl, Nat.add_mul]; omega), hl, ← hj j hjs]
    congr 1
    rw [Nat.add_mul]; omega
theorem RowsIn.drop (hs : ∀ c x, R c x → c.length = sz) : ∀ {xs : List α} {cells : List Value} (i : Nat), RowsIn R cells xs → i ≤ xs.length → RowsIn R (cells.drop (i * sz)) (xs.drop i)
  | _, _, 0, h, _ => by simpa using h
  | [], _, i + 1, _, hi => by simp at hi
  | y :: xs, cells, i + 1, h, hi => by
    obtain ⟨c, rest, rfl, hc, hr⟩ := h
    have := RowsIn.drop hs i hr (by simpa using hi)
    rw [List.drop_succ_cons, Nat.add_mul, Nat.one_mul, Nat.add_comm, List.drop_append, hs c y hc]
    simp only [Nat.add_sub_cancel_left]
    rw [List.drop_of_length_le (by rw [hs c y hc]; omega)]
    exact this
end
/-- A slice value behind which a list of things lies, sz cells each. -/
def SeqAt {α : Type} (S : Nat → Prop) (w : World) (sz : Nat) (R : List Value → α → Prop) (v : Value) (xs : List α) : Prop :=
  ∃ cells, RowAt S w sz v xs.length cells ∧ RowsIn R cells xs
section
variable {α : Type} {S T : Nat → Prop} {w w' : World} {sz : Nat} {R R' : List Value → α → Prop} {v : Value} {xs : List α}
theorem SeqAt.shape (h : SeqAt S w sz R v xs) (hs : ∀ c x, R c x → c.length = sz) :
    ∃ a cap, v = .slice a xs.length cap ∧ xs.length ≤ cap ∧ cap ≤ maxLen ∧ ∀ (k : Nat) x, xs[k]? = some x → ∃ b o c, a = some ⟨b, o, none⟩ ∧ S b ∧ R c x ∧ c.length = sz ∧ ∀ j, j < sz → w.cell? ⟨b, o + (k * sz + j), none⟩ = c[j]? := by
  obtain ⟨cells, ⟨hl, a, cap, hv, hn, hm, h0⟩, hr⟩ := h
  refine ⟨a, cap, hv, hn, hm, fun k x hk => ?_⟩
  rcases h0 with h0 | ⟨b, o, ha, hb, hc⟩
  · simp [List.eq_nil_of_length_eq_zero h0] at hk
  · obtain ⟨c, hcx, hj⟩ := hr.get hs hk
    refine ⟨b, o, c, ha, hb, hcx, hs c x hcx, fun j hjs => ?_⟩
    have hlt : j < c.length := by rw [hs c x hcx]; exact hjs
    rw [List.getElem?_eq_getElem hlt]
    exact hc _ _ (by rw [hj j hjs, List.getElem?_eq_getElem hlt])
theorem SeqAt.same (h : SeqAt S w sz R v xs) (hs : SameOn S w w') (hR : ∀ c x, x ∈ xs → R c x → R' c x) : SeqAt S w' sz R' v xs := by
  obtain ⟨cells, h1, h2⟩ := h
  exact ⟨cells, h1.same hs, h2.mono hR⟩
theorem SeqAt.below (h : SeqAt S w sz R v xs) (hsz : 0 < sz) (hb : Below w.heap.size w w') (hR : ∀ c x, x ∈ xs → R c x → R' c x) : SeqAt S w' sz R' v xs := by
  obtain ⟨cells, h1, h2⟩ := h
  exact ⟨cells, h1.below hsz hb, h2.mono hR⟩
theorem SeqAt.mono (h : SeqAt S w sz R v xs) (hsz : 0 < sz) (hs : ∀ k, k < w.heap.size → S k → T k) (hR : ∀ c x, x ∈ xs → R c x → R' c x) : SeqAt T w sz R' v xs := by
  obtain ⟨cells, h1, h2⟩ := h
  exact ⟨cells, h1.mono hs hsz, h2.mono hR⟩
theorem SeqAt.nil : SeqAt S w sz R (.slice none 0 0) ([] : List α) := ⟨[], RowAt.nil _ _ _, rfl⟩
end
theorem add_lit (b o n : Nat) : (⟨b, o, none⟩ : Addr).add n = ⟨b, o + n, none⟩ := by unfold Addr.add; split <;> simp_all
end Go.Proofs.YtdieneaillkbgaaGreatDoor

/- Plain words of chapter 18: texts, components, paths. No program in sight. -/
namespace Go.Proofs.YtdieneaillkbgaaGreatDoor
def lowFree (l : List UInt8) : Bool := l.all fun c => decide (32 ≤ c.toNat)
/-- Valid UTF-8 without bytes less than 32. -/
def textB (l : List UInt8) : Bool := lowFree l && Lib.validD l
/-- A component of a path. -/
def compB (l : List UInt8) : Bool := !l.isEmpty && decide (l.length ≤ 64) && (l != [46]) && (l != [46, 46]) && !l.contains 47 && textB l
/-- The parts of a string between the bytes c. -/
def splitL (c : UInt8) : List UInt8 → List (List UInt8)
  | [] => [[]]
  | b :: l => if b = c then [] :: splitL c l else
    match splitL c l with
    | h :: t => (b :: h) :: t
    | [] => [[b]]
def uniteL (ps : List (List UInt8)) : List UInt8 := Lib.join ps [47]
/-- A valid path. -/
def validP (l : List UInt8) : Bool := decide (l.length ≤ 512) && decide ((splitL 47 l).length ≤ 16) && (splitL 47 l).all compB
/-- The place of a byte in the order. -/
def rankL (c : UInt8) : Int := if c = 47 then -1 else c.toNat
/-- The order of paths. -/
def cmpL : List UInt8 → List UInt8 → Int
  | [], [] => 0
  | [], _ :: _ => -1
  | _ :: _, [] => 1
  | a :: l, b :: r => if a = b then cmpL l r else Lib.compareInt (rankL a) (rankL b)
theorem splitL_ne (c : UInt8) (l : List UInt8) : splitL c l ≠ [] := by
  cases l with
  | nil => simp [splitL]
  | cons b l => unfold splitL; split; · simp
                split <;> simp
theorem splitL_pos (c : UInt8) (l : List UInt8) : 1 ≤ (splitL c l).length := by
  have := splitL_ne c l
  cases h : splitL c l with
  | nil => exact absurd h this
  | cons a t => simp
theorem splitL_len_le (c : UInt8) (l : List UInt8) : (splitL c l).length ≤ l.length + 1 := by
  induction l with
  | nil => simp [splitL]
  | cons b l ih =>
    unfold splitL
    split
    · simp; omega
    · split
      · rename_i h t e; rw [e] at ih; simp at ih ⊢; omega
      · simp
theorem splitL_append (c : UInt8) (p q : List UInt8) (hp : c ∉ p) : splitL c (p ++ c :: q) = p :: splitL c q := by
  induction p with
  | nil => simp [splitL]
  | cons b p ih =>
    have hb : b ≠ c := fun e => hp (by simp [e])
    have ih := ih (fun h => hp (List.mem_cons_of_mem _ h))
    simp only [List.cons_append, splitL, if_neg hb, ih]
theorem splitL_whole (c : UInt8) (p : List UInt8) (hp : c ∉ p) : splitL c p = [p] := by
  induction p with
  | nil => rfl
  | cons b p ih =>
    have hb : b ≠ c := fun e => hp (by simp [e])
    have ih := ih (fun h => hp (List.mem_cons_of_mem _ h))
    simp only [splitL, if_neg hb, ih]
theorem splitL_mem (c : UInt8) (l : List UInt8) : ∀ p ∈ splitL c l, c ∉ p := by
  induction l with
  | nil => simp [splitL]
  | cons b l ih =>
    unfold splitL
    split
    · intro p hp; rcases List.mem_cons.1 hp with rfl | hp
      · simp
      · exact ih p hp
    · rename_i hb
      split
      · rename_i h t e
        rw [e] at ih
        intro p hp; rcases List.mem_cons.1 hp with rfl | hp
        · have := ih h (by simp); simp [this, Ne.symm hb]
        · exact ih p (by simp [hp])
      · rename_i e; exact absurd e (splitL_ne c l)
theorem join_splitL (c : UInt8) (l : List UInt8) : Lib.join (splitL c l) [c] = l := by
  induction l with
  | nil => rfl
  | cons b l ih =>
    unfold splitL
    split
    · rename_i hb; subst hb
      cases h : splitL b l with
      | nil => exact absurd h (splitL_ne b l)
      | cons a t => rw [h] at ih; rw [Lib.join_cons] at *; simp [Lib.joinTail] at *; exact ih
    · split
      · rename_i h t e; rw [e] at ih; rw [Lib.join_cons] at *; simp at *; exact ih
      · rename_i e; exact absurd e (splitL_ne c l)
theorem splitL_join (c : UInt8) (ps : List (List UInt8)) (h0 : ps ≠ []) (h : ∀ p ∈ ps, c ∉ p) : splitL c (Lib.join ps [c]) = ps := by
  induction ps with
  | nil => exact absurd rfl h0
  | cons p ps ih =>
    cases ps with
    | nil => rw [Lib.join_one]; exact splitL_whole c p (h p (by simp))
    | cons q ps =>
      have e : Lib.join (p :: q :: ps) [c] = p ++ c :: Lib.join (q :: ps) [c] := by
        rw [Lib.join_cons, Lib.join_cons]; simp [Lib.joinTail]
      rw [e, splitL_append c _ _ (h p (by simp)), ih (by simp) (fun x hx => h x (by simp [hx]))]
/-- strings.Split at one byte is splitL. -/
theorem index_one (l : List UInt8) (c : UInt8) (h : c ∈ l) : ∃ p q, l = p ++ c :: q ∧ c ∉ p := by
  induction l with
  | nil => simp at h
  | cons b l ih =>
    by_cases hb : b = c
    · exact ⟨[], l, by simp [hb], by simp⟩
    · have : c ∈ l := by rcases List.mem_cons.1 h with h | h; · exact absurd h.symm hb
                         exact h
      obtain ⟨p, q, rfl, hp⟩ := ih this
      exact ⟨b :: p, q, rfl, by simp [hp, Ne.symm hb]⟩
theorem index_app (p q : List UInt8) (c : UInt8) (hp : c ∉ p) : Lib.index (p ++ c :: q) [c] = (p.length : Int) := by
  induction p with
  | nil => simp [Lib.index, List.isPrefixOf]
  | cons b p ih =>
    have hb : b ≠ c := fun e => hp (by simp [e])
    have ih := ih (fun h => hp (List.mem_cons_of_mem _ h))
    rw [List.cons_append, Lib.index, ih]
    have h1 : ([c] : List UInt8).isPrefixOf (b :: (p ++ c :: q)) = false := by simp [List.isPrefixOf, Ne.symm hb]
    have h2 : ((p.length : Int) == -1) = false := by rw [beq_eq_false_iff_ne]; omega
    rw [h1, h2]; simp
theorem splitK_eq (c : UInt8) : ∀ (k : Nat) (s : List UInt8), s.count c = k → Lib.splitK [c] 0 k s = splitL c s
  | 0, s, h => by
    have : c ∉ s := List.count_eq_zero.1 h
    rw [splitL_whole c s this]; rfl
  | k + 1, s, h => by
    have hc : c ∈ s := List.count_pos_iff.1 (by omega)
    obtain ⟨p, q, rfl, hp⟩ := index_one s c hc
    have hq : q.count c = k := by
      have h0 : p.count c = 0 := List.count_eq_zero.2 hp
      rw [List.count_append, h0, List.count_cons_self] at h; omega
    rw [splitL_append c p q hp, Lib.splitK, index_app p q c hp, if_neg (by simp)]
    simp only [Int.toNat_natCast, Nat.add_zero, List.length_cons, List.length_nil, Nat.zero_add]
    rw [List.take_left]
    have e : (p ++ c :: q).drop (p.length + 1) = q := by rw [List.drop_append]; simp
    rw [e, splitK_eq c k q hq]
/-- strings.Split(s, string(c)): what the shelf's contract gives, as lists of bytes. -/
theorem splitB_eq (c : UInt8) (s : ByteArray) : (Lib.splitB ⟨#[c]⟩ 0 (Lib.countB s ⟨#[c]⟩) s).map (·.data.toList) = splitL c s.data.toList := by
  rw [Lib.splitB_data]
  exact splitK_eq c _ _ (by rw [Lib.countB, Lib.count_one])
theorem splitB_len (c : UInt8) (s : ByteArray) : (Lib.splitB ⟨#[c]⟩ 0 (Lib.countB s ⟨#[c]⟩) s).length = Lib.countB s ⟨#[c]⟩ + 1 :=
  Lib.splitB_all ⟨#[c]⟩ (by simp [ByteArray.size]) 0 _ s rfl
theorem indexByte_contains (l : List UInt8) (c : UInt8) : decide (0 ≤ Lib.indexByte l c) = l.contains c := by
  induction l with
  | nil => simp [Lib.indexByte]
  | cons b l ih =>
    have hge := Lib.indexByte_ge l c
    unfold Lib.indexByte
    by_cases hb : b = c
    · subst hb; simp
    · have h1 : (b == c) = false := by simpa using hb
      have h2 : (c == b) = false := by simpa using Ne.symm hb
      rw [h1]
      simp only [Bool.false_eq_true, if_false, List.contains_cons, h2, Bool.false_or, ← ih]
      by_cases hm : Lib.indexByte l c = -1
      · simp [hm]
      · rw [if_neg (by simpa using hm)]; congr 1; apply propext; omega
/-- A decoding step over bytes that are no ASCII passes over none that are. -/
theorem decode_span (s : ByteArray) (pos : Nat) (h : pos < s.size) (ha : 128 ≤ (s.get! pos).toNat) :
    pos + (Utf8.decode s pos).2 ≤ s.size ∧ ∀ j, pos ≤ j → j < pos + (Utf8.decode s pos).2 → 128 ≤ (s.get! j).toNat := by
  have hn : ¬ (s.get! (pos + 0)).toNat < 128 := by simpa using ha
  simp only [Utf8.decode, hn, if_false]
  repeat' split
  all_goals simp_all
  all_goals (refine ⟨by omega, fun j h1 h2 => ?_⟩)
  all_goals (rcases Nat.lt_or_ge j (pos + 1) with h3 | h3)
  all_goals (first | (rw [show j = pos by omega]; exact ha) | skip)
  all_goals (rcases Nat.lt_or_ge j (pos + 2) with h4 | h4)
  all_goals (first | (rw [show j = pos + 1 by omega]; omega) | skip)
  all_goals (rcases Nat.lt_or_ge j (pos + 3) with h5 | h5)
  all_goals (first | (rw [show j = pos + 2 by omega]; omega) | skip)
  all_goals (first | (rw [show j = pos + 3 by omega]; omega) | skip)
  all_goals omega
theorem splitL_cat (c : UInt8) (p q : List UInt8) : splitL c (p ++ c :: q) = splitL c p ++ splitL c q := by
  induction p with
  | nil => simp [splitL]
  | cons b p ih =>
    simp only [List.cons_append, splitL]
    by_cases hb : b = c
    · simp [hb, ih]
    · rw [if_neg hb, if_neg hb, ih]
      cases h : splitL c p with
      | nil => exact absurd h (splitL_ne c p)
      | cons a t => simp
/-- The path without its last component. -/
def parentL (l : List UInt8) : List UInt8 := uniteL (splitL 47 l).dropLast
theorem parentL_no (l : List UInt8) (h : 47 ∉ l) : parentL l = [] := by
  unfold parentL; rw [splitL_whole 47 l h]; rfl
theorem parentL_cat (p q : List UInt8) (h : 47 ∉ q) : parentL (p ++ 47 :: q) = p := by
  unfold parentL uniteL
  rw [splitL_cat, splitL_whole 47 q h, List.dropLast_concat, join_splitL]
theorem last_slash (l : List UInt8) (h : 47 ∈ l) : ∃ p q, l = p ++ 47 :: q ∧ 47 ∉ q := by
  induction l with
  | nil => simp at h
  | cons b l ih =>
    by_cases hm : (47 : UInt8) ∈ l
    · obtain ⟨p, q, rfl, hq⟩ := ih hm
      exact ⟨b :: p, q, rfl, hq⟩
    · rcases List.mem_cons.1 h with rfl | h
      · exact ⟨[], l, rfl, hm⟩
      · exact absurd h hm
theorem parentL_take (l : List UInt8) : parentL l = l.take (parentL l).length := by
  by_cases h : (47 : UInt8) ∈ l
  · obtain ⟨p, q, rfl, hq⟩ := last_slash l h
    rw [parentL_cat p q hq]; simp
  · rw [parentL_no l h]; simp
theorem uniteL_len (ps : List (List UInt8)) (m : Nat) (h : ∀ p ∈ ps, p.length ≤ m) : (uniteL ps).length ≤ ps.length * (m + 1) := by
  induction ps with
  | nil => simp [uniteL, Lib.join_nil]
  | cons p r ih =>
    have h1 := h p (by simp)
    have h2 := ih (fun x hx => h x (by simp [hx]))
    cases r with
    | nil => rw [uniteL, Lib.join_one]; simp; omega
    | cons q r =>
      have e : uniteL (p :: q :: r) = p ++ 47 :: uniteL (q :: r) := by
        unfold uniteL; rw [Lib.join_cons, Lib.join_cons]; simp [Lib.joinTail]
      rw [e, List.length_append, List.length_cons, List.length_cons (a := p), Nat.add_mul]
      omega
end Go.Proofs.YtdieneaillkbgaaGreatDoor

/- Plain words of chapter 18: patterns. No program in sight. -/
namespace Go.Proofs.YtdieneaillkbgaaGreatDoor
/-- The runes of a string. -/
def runesGo : Nat → List UInt8 → List Int
  | 0, _ => []
  | n + 1, l => if l = [] then [] else ((Lib.decodeL l).1 : Int) :: runesGo n (l.drop (Lib.decodeL l).2)
def runesL (l : List UInt8) : List Int := runesGo l.length l
def anySuf {T : Type} (f : List T → Bool) : List T → Bool
  | [] => f []
  | t :: us => f (t :: us) || anySuf f us
def headM {T : Type} (m : T → Bool) (f : List T → Bool) : List T → Bool
  | [] => false
  | t :: us => m t && f us
/-- Whether parts can be divided among pieces. -/
def dv {P T : Type} (star : P → Bool) (m : P → T → Bool) : List P → List T → Bool
  | [], ts => ts.isEmpty
  | p :: ps, ts => if star p then anySuf (dv star m ps) ts else headM (m p) (dv star m ps) ts
theorem decodeL_cons_le (l : List UInt8) (h : l ≠ []) : 1 ≤ (Lib.decodeL l).2 ∧ (Lib.decodeL l).2 ≤ l.length := ⟨Lib.decodeL_width l, Lib.decodeL_le l h⟩
theorem runesGo_fuel : ∀ (n m : Nat) (l : List UInt8), l.length ≤ n → l.length ≤ m → runesGo n l = runesGo m l
  | 0, m, l, h, _ => by
    have : l = [] := List.eq_nil_of_length_eq_zero (by omega)
    subst this; cases m <;> simp [runesGo]
  | n, 0, l, _, h => by
    have : l = [] := List.eq_nil_of_length_eq_zero (by omega)
    subst this; cases n <;> simp [runesGo]
  | n + 1, m + 1, l, h1, h2 => by
    unfold runesGo
    split
    · rfl
    · rename_i hl
      have := decodeL_cons_le l hl
      rw [runesGo_fuel n m (l.drop (Lib.decodeL l).2) (by rw [List.length_drop]; omega) (by rw [List.length_drop]; omega)]
theorem runesL_step (l : List UInt8) (h : l ≠ []) : runesL l = ((Lib.decodeL l).1 : Int) :: runesL (l.drop (Lib.decodeL l).2) := by
  have h1 := decodeL_cons_le l h
  have hl : l.length = (l.length - 1) + 1 := by have := List.length_pos_iff.2 h; omega
  unfold runesL
  rw [hl, runesGo, if_neg h, runesGo_fuel _ (l.drop (Lib.decodeL l).2).length (l.drop (Lib.decodeL l).2) (by rw [List.length_drop]; omega) (Nat.le_refl _)]
theorem runesGo_length : ∀ (n : Nat) (l : List UInt8), (runesGo n l).length ≤ n
  | 0, _ => by simp [runesGo]
  | n + 1, l => by
    unfold runesGo
    split
    · simp
    · have := runesGo_length n (l.drop (Lib.decodeL l).2); simp; omega
theorem runesL_length (l : List UInt8) : (runesL l).length ≤ l.length := runesGo_length _ _
end Go.Proofs.YtdieneaillkbgaaGreatDoor

/- Plain laws of the order of paths. No program in sight. -/
namespace Go.Proofs.YtdieneaillkbgaaGreatDoor
theorem rankL_inj {a b : UInt8} (h : rankL a = rankL b) : a = b := by
  unfold rankL at h
  split at h <;> split at h
  · simp [*]
  · omega
  · omega
  · apply UInt8.toNat_inj.1; omega
theorem cmp_neg : ∀ (a b : List UInt8), cmpL b a = -cmpL a b
  | [], [] => by simp [cmpL]
  | [], _ :: _ => by simp [cmpL]
  | _ :: _, [] => by simp [cmpL]
  | a :: l, b :: r => by
    unfold cmpL
    by_cases h : a = b
    · rw [if_pos h, if_pos h.symm]; exact cmp_neg l r
    · rw [if_neg h, if_neg (Ne.symm h)]
      have : rankL a ≠ rankL b := fun e => h (rankL_inj e)
      unfold Lib.compareInt
      rcases Int.lt_trichotomy (rankL a) (rankL b) with h1 | h1 | h1
      · rw [if_neg (by omega), if_pos (by omega), if_pos h1]; rfl
      · exact absurd h1 this
      · rw [if_pos (by omega), if_neg (by omega), if_pos (by omega)]
theorem cmp_zero : ∀ (a b : List UInt8), cmpL a b = 0 ↔ a = b
  | [], [] => by simp [cmpL]
  | [], _ :: _ => by simp [cmpL]
  | _ :: _, [] => by simp [cmpL]
  | a :: l, b :: r => by
    unfold cmpL
    by_cases h : a = b
    · rw [if_pos h, cmp_zero l r]; simp [h]
    · rw [if_neg h]
      have : rankL a ≠ rankL b := fun e => h (rankL_inj e)
      unfold Lib.compareInt
      constructor
      · intro e; split at e
        · omega
        · split at e <;> omega
      · intro e; simp at e; exact absurd e.1 h
theorem cmp_trans : ∀ (a b c : List UInt8), cmpL a b ≤ 0 → cmpL b c ≤ 0 → cmpL a c ≤ 0 ∧ (cmpL a c = 0 → cmpL a b = 0 ∧ cmpL b c = 0)
  | [], b, [], h1, h2 => by
    cases b with
    | nil => simp [cmpL]
    | cons x b => simp [cmpL] at h2
  | [], _, _ :: _, _, _ => by simp [cmpL]
  | _ :: _, [], _, h1, _ => by simp [cmpL] at h1
  | x :: a, y :: b, [], _, h2 => by simp [cmpL] at h2
  | x :: a, y :: b, z :: c, h1, h2 => by
    unfold cmpL at h1 h2 ⊢
    by_cases hxy : x = y
    · subst hxy
      rw [if_pos rfl] at h1 ⊢
      by_cases hxz : x = z
      · subst hxz
        rw [if_pos rfl] at h2 ⊢
        rw [if_pos rfl]
        exact cmp_trans a b c h1 h2
      · rw [if_neg hxz] at h2 ⊢
        rw [if_neg hxz]
        refine ⟨h2, fun e => ?_⟩
        exfalso
        have : rankL x ≠ rankL z := fun e => hxz (rankL_inj e)
        unfold Lib.compareInt at e
        split at e
        · omega
        · split at e <;> omega
    · rw [if_neg hxy] at h1 ⊢
      have n1 : rankL x ≠ rankL y := fun e => hxy (rankL_inj e)
      have l1 : rankL x < rankL y := by
        unfold Lib.compareInt at h1
        split at h1
        · assumption
        · split at h1
          · omega
          · omega
      by_cases hyz : y = z
      · subst hyz
        rw [if_neg hxy]
        refine ⟨h1, fun e => ?_⟩
        exfalso
        unfold Lib.compareInt at e
        rw [if_pos l1] at e; omega
      · rw [if_neg hyz] at h2
        have n2 : rankL y ≠ rankL z := fun e => hyz (rankL_inj e)
        have l2 : rankL y < rankL z := by
          unfold Lib.compareInt at h2
          split at h2
          · assumption
          · split at h2 <;> omega
        have n3 : x ≠ z := fun e => by subst e; omega
        rw [if_neg n3]
        unfold Lib.compareInt
        rw [if_pos (by omega)]
        exact ⟨by omega, fun e => by omega⟩
theorem cmp_app : ∀ (p q : List UInt8), cmpL p (p ++ q) ≤ 0
  | [], [] => by simp [cmpL]
  | [], _ :: _ => by simp [cmpL]
  | a :: p, q => by rw [List.cons_append, cmpL, if_pos rfl]; exact cmp_app p q
end Go.Proofs.YtdieneaillkbgaaGreatDoor

/- Plain words for the specification's side of chapter 18. No program in sight. -/
namespace Go.Proofs.YtdieneaillkbgaaGreatDoor
theorem addOf (k n : Nat) (z : Int) (h : z = ((k + n : Nat) : Int)) : UInt8.ofNat k + UInt8.ofNat n = UInt8.ofNat z.toNat := by
  subst h; rw [Int.toNat_natCast, UInt8.ofNat_add]
theorem encode_lib (r : Nat) : (Utf8.encode (r : Int)).data.toList = Lib.encodeRune (r : Int) := by
  unfold Lib.encodeRune
  by_cases c1 : r < 128
  · have v : Utf8.valid (r : Int) = true := by simp [Utf8.valid]; omega
    rw [Lib.encodeRuneZ_one (by omega) (by omega)]; simp [Utf8.encode, v, c1]
  by_cases c2 : r < 2048
  · have v : Utf8.valid (r : Int) = true := by simp [Utf8.valid]; omega
    rw [Lib.encodeRuneZ_two (by omega) (by omega)]; simp [Utf8.encode, v, c1, c2]; exact ⟨addOf 192 _ _ (by omega), addOf 128 _ _ (by omega)⟩
  by_cases hb : (55296 ≤ r ∧ r ≤ 57343) ∨ 1114111 < r
  · have v : Utf8.valid (r : Int) = false := by simp [Utf8.valid]; omega
    rw [Lib.encodeRuneZ_bad (by omega)]; simp [Utf8.encode, v, Utf8.runeError]
  by_cases c3 : r < 65536
  · have v : Utf8.valid (r : Int) = true := by simp [Utf8.valid]; omega
    rw [Lib.encodeRuneZ_three (by omega)]; simp [Utf8.encode, v, c1, c2, c3]; exact ⟨addOf 224 _ _ (by omega), addOf 128 _ _ (by omega), addOf 128 _ _ (by omega)⟩
  · have v : Utf8.valid (r : Int) = true := by simp [Utf8.valid]; omega
    rw [Lib.encodeRuneZ_four (by omega) (by omega)]; simp [Utf8.encode, v, c1, c2, c3]; exact ⟨addOf 240 _ _ (by omega), addOf 128 _ _ (by omega), addOf 128 _ _ (by omega), addOf 128 _ _ (by omega)⟩
/-- The runes of a string, encoded again. -/
def reL (l : List UInt8) : List UInt8 := (runesL l).flatMap Lib.encodeRune
theorem reL_nil : reL [] = [] := rfl
theorem reL_step (l : List UInt8) (h : l ≠ []) : reL l = Lib.encodeRune ((Lib.decodeL l).1 : Int) ++ reL (l.drop (Lib.decodeL l).2) := by
  unfold reL; rw [runesL_step l h, List.flatMap_cons]
theorem encodeRune_len (r : Int) : (Lib.encodeRune r).length ≤ 4 := by
  have := (Lib.encodeRuneZ_length r).2; simpa [Lib.encodeRune] using this
theorem reL_law : ∀ (n : Nat) (l : List UInt8), l.length ≤ n → l.length ≤ (reL l).length ∧ (reL l = l ↔ Lib.validD l = true)
  | 0, l, h => by
    have : l = [] := List.eq_nil_of_length_eq_zero (by omega)
    subst this
    exact ⟨by simp, by simp [reL_nil, Lib.validD_nil]⟩
  | n + 1, l, h => by
    by_cases hl : l = []
    · subst hl
      exact ⟨by simp, by simp [reL_nil, Lib.validD_nil]⟩
    · have hw := decodeL_cons_le l hl
      obtain ⟨ih1, ih2⟩ := reL_law n (l.drop (Lib.decodeL l).2) (by rw [List.length_drop]; omega)
      rw [List.length_drop] at ih1
      rw [reL_step l hl, Lib.validD_step l hl]
      by_cases hb : (Lib.decodeL l).1 = 65533 ∧ (Lib.decodeL l).2 = 1
      · have e3 : (Lib.encodeRune ((Lib.decodeL l).1 : Int)).length = 3 := by rw [hb.1]; rfl
        rw [if_pos hb]
        refine ⟨by rw [List.length_append, e3]; omega, ⟨fun e => ?_, fun e => by cases e⟩⟩
        have := congrArg List.length e
        rw [List.length_append, e3] at this
        omega
      · rw [if_neg hb, Lib.encode_decode l hl hb]
        refine ⟨by rw [List.length_append, List.length_take]; omega, ?_⟩
        rw [← ih2]
        constructor
        · intro e
          have h2 : l.take (Lib.decodeL l).2 ++ reL (l.drop (Lib.decodeL l).2) = l.take (Lib.decodeL l).2 ++ l.drop (Lib.decodeL l).2 := by rw [List.take_append_drop]; exact e
          exact List.append_cancel_left h2
        · intro e; rw [e, List.take_append_drop]
theorem reL_valid (l : List UInt8) : (reL l == l) = Lib.validD l := by
  rw [Bool.eq_iff_iff, beq_iff_eq]; exact (reL_law l.length l (Nat.le_refl _)).2
theorem compB_slash (l : List UInt8) : ((splitL 47 l).length == 1) = !l.contains 47 := by
  by_cases h : (47 : UInt8) ∈ l
  · obtain ⟨p, q, rfl, hp⟩ := index_one l 47 h
    have := splitL_pos 47 q
    rw [splitL_append 47 p q hp]
    have h2 : ((p :: splitL 47 q).length == 1) = false := by rw [beq_eq_false_iff_ne]; simp; exact splitL_ne 47 q
    rw [h2]; simp
  · rw [splitL_whole 47 l h]; simp [h]
theorem uniteL_snoc (ps : List (List UInt8)) (p : List UInt8) : uniteL (ps ++ [p]) = if ps = [] then p else uniteL ps ++ [47] ++ p := by
  cases ps with
  | nil => simp [uniteL, Lib.join_one]
  | cons q ps =>
    simp only [List.cons_append, uniteL, Lib.join_cons, if_neg (List.cons_ne_nil q ps)]
    have : ∀ (l : List (List UInt8)), Lib.joinTail [47] (l ++ [p]) = Lib.joinTail [47] l ++ 47 :: p := by
      intro l
      induction l with
      | nil => simp [Lib.joinTail]
      | cons a l _ => simp only [List.cons_append, Lib.joinTail]; simp
    rw [this]; simp
end Go.Proofs.YtdieneaillkbgaaGreatDoor

/- Plain laws of cleaned paths, joins and parents. No program in sight. -/
namespace Go.Proofs.YtdieneaillkbgaaGreatDoor
theorem valid_comps {l : List UInt8} (h : validP l = true) : ∀ p ∈ splitL 47 l, compB p = true := by
  simp only [validP, Bool.and_eq_true] at h
  exact List.all_eq_true.1 h.2
theorem parent_valid {l : List UInt8} (h : validP l = true) (hn : parentL l ≠ []) : validP (parentL l) = true := by
  have hc := valid_comps h
  have h2 := h
  simp only [validP, Bool.and_eq_true, decide_eq_true_eq] at h2
  have hd : (splitL 47 l).dropLast ≠ [] := by
    intro e; apply hn; unfold parentL; rw [e]; rfl
  have hs : splitL 47 (parentL l) = (splitL 47 l).dropLast := by
    unfold parentL uniteL
    exact splitL_join 47 _ hd (fun p hp => splitL_mem 47 l p ((List.dropLast_sublist _).subset hp))
  have hl : (parentL l).length ≤ l.length := by
    have := congrArg List.length (parentL_take l)
    rw [List.length_take] at this; omega
  unfold validP
  rw [hs]
  simp only [Bool.and_eq_true, decide_eq_true_eq, List.length_dropLast]
  exact ⟨⟨by omega, by omega⟩, List.all_eq_true.2 (fun p hp => hc p ((List.dropLast_sublist _).subset hp))⟩
end Go.Proofs.YtdieneaillkbgaaGreatDoor

/- The shelf's contracts in this proof's own words. -/
namespace Go.Proofs.YtdieneaillkbgaaGreatDoor
open Go.RowKit
theorem contains_one (s : ByteArray) (c : UInt8) (w : World) :
    Calls Tryz.prog 135 #[.string s, .string ⟨#[c]⟩] w fun e w' => e = .returned (.bool ((bl s).contains c)) ∧ w = w' :=
  (Tryz.strings_Contains_one s c w).mono fun _ _ ⟨he, hw⟩ => ⟨by rw [he]; exact congrArg _ (congrArg _ (indexByte_contains (bl s) c)), hw.symm⟩
theorem validString_any (s : ByteArray) (w : World) (he : Env w) (hs : s.size ≤ 9223372036854775807) :
    Calls Tryz.prog 143 #[.string s] w fun e w' => e = .returned (.bool (Lib.validD (bl s))) ∧ Below w.heap.size w w' := Tryz.utf8_ValidString s w hs he.tabs
theorem compareInt_any (x y : Int) (w : World) :
    Calls Tryz.prog 81 #[.int .i64 x, .int .i64 y] w fun e w' => e = .returned (.int .i64 (Lib.compareInt x y)) ∧ w = w' :=
  (Tryz.cmp_Compare_int x y w).mono fun _ _ ⟨he, hw⟩ => ⟨he, hw.symm⟩
/-- strings.Split at one byte: the parts, in a new block. -/
def SplitPost (c : UInt8) (s : ByteArray) (w : World) (e : Ending) (w' : World) : Prop :=
  ∃ xs : List ByteArray, xs.map bl = splitL c (bl s) ∧ e = .returned (.slice (some ⟨w.heap.size, 0, none⟩) xs.length xs.length) ∧ w' = w.alloc (.cells (xs.map Value.string).toArray 9)
theorem split_any (s : ByteArray) (c : UInt8) (w : World) (he : Env w) (hs : s.size < 4294967281) :
    Calls Tryz.prog 122 #[.string s, .string ⟨#[c]⟩] w (SplitPost c s w) := by
  obtain ⟨m, hm⟩ := he.maxLen
  refine (Tryz.strings_Split s ⟨#[c]⟩ m w hs hm (by simp [ByteArray.size])).mono fun e w' ⟨h1, h2⟩ => ?_
  refine ⟨Lib.splitB ⟨#[c]⟩ 0 (Lib.countB s ⟨#[c]⟩) s, splitB_eq c s, ?_, h2⟩
  rw [splitB_len]; exact h1
/-- Where the last slash lies, or -1. -/
def lastSlash (l : List UInt8) : Int := if 47 ∈ l then ((parentL l).length : Int) else -1
theorem byte47 (c : UInt8) (h : (c.toNat : Int) = 47) : c = 47 := by
  apply UInt8.toNat_inj.1
  have : c.toNat = 47 := by omega
  rw [this]; rfl
theorem lastSlash_eq (s : ByteArray) : Lib.lastIndexByte s 47 = lastSlash (bl s) := by
  unfold Lib.lastIndexByte -- function 88
  have get : ∀ j, (hj : j < (bl s).length) → s.data[j]! = (bl s)[j] := fun j hj => by
    have h2 : j < s.data.size := by rw [← size_bl] at hj; exact hj
    rw [getElem!_pos s.data j h2]
    exact (Array.getElem_toList (xs := s.data) h2).symm
  rw [size_bl]
  generalize hl : bl s = l at *
  rcases Lib.lastIdx_spec s 47 l.length with ⟨h1, h2⟩ | ⟨i, h1, h2, h3, h4⟩
  · rw [h1]
    have : 47 ∉ l := by
      intro hm
      obtain ⟨j, hj, e⟩ := List.getElem_of_mem hm
      refine h2 j hj ?_
      rw [get j hj, e]; rfl
    simp [lastSlash, this]
  · have e : l = l.take i ++ 47 :: l.drop (i + 1) := by
      have := byte47 _ h3
      rw [get i h1] at this
      rw [← this]; simp
    have hq : 47 ∉ l.drop (i + 1) := by
      intro hm
      obtain ⟨j, hj, e⟩ := List.getElem_of_mem hm
      rw [List.length_drop] at hj
      refine h4 (i + 1 + j) (by omega) (by omega) ?_
      rw [get _ (by omega)]
      rw [List.getElem_drop] at e
      rw [e]; rfl
    have hp : parentL l = l.take i := by
      have := parentL_cat (l.take i) _ hq
      rw [← e] at this; exact this
    have hm : 47 ∈ l := by rw [e]; simp
    rw [h2, lastSlash, if_pos hm, hp, List.length_take]
    congr 1; omega
theorem lastIndex_any (s : ByteArray) (w : World) (hs : s.size < 4611686018427387904) :
    Calls Tryz.prog 88 #[.string s, .string ⟨#[47]⟩] w fun e w' => e = .returned (.int .i64 (lastSlash (bl s))) ∧ w = w' :=
  (Tryz.strings_LastIndex_one s ⟨#[47]⟩ rfl hs w).mono fun _ _ ⟨he, hw⟩ => ⟨by rw [he]; exact congrArg _ (congrArg _ (lastSlash_eq s)), hw.symm⟩
end Go.Proofs.YtdieneaillkbgaaGreatDoor

/- Contracts of package pathname's functions on paths: isText, isComponent. -/
namespace Go.Proofs.YtdieneaillkbgaaGreatDoor
open Go.RowKit
theorem take_low {s : ByteArray} {p q : Nat} (h : ∀ j, j < p → j < s.size → 32 ≤ (s.get! j).toNat) (h2 : ∀ j, p ≤ j → j < q → 128 ≤ (s.get! j).toNat) : ∀ j, j < q → j < s.size → 32 ≤ (s.get! j).toNat := by
  intro j hj hs
  rcases Nat.lt_or_ge j p with h' | h'
  · exact h j h' hs
  · have := h2 j h' hj; omega
theorem get_bl (s : ByteArray) (j : Nat) (h : j < s.size) : s.get! j = (bl s)[j]'(by rw [← size_bl]; exact h) := by
  have e : s.get! j = s.data[j]! := rfl
  have h2 : j < s.data.size := h
  rw [e, getElem!_pos s.data j h2]
  simp [bl]
theorem low_all {s : ByteArray} (h : ∀ j, j < s.size → 32 ≤ (s.get! j).toNat) : lowFree (bl s) = true := by
  unfold lowFree
  rw [List.all_eq_true]
  intro c hc
  obtain ⟨j, hj, rfl⟩ := List.getElem_of_mem hc
  have hj2 : j < s.size := by rw [size_bl]; exact hj
  have := h j hj2
  rw [get_bl s j hj2] at this
  simpa using this
theorem low_none {s : ByteArray} {j : Nat} (hj : j < s.size) (h : (s.get! j).toNat < 32) : lowFree (bl s) = false := by
  unfold lowFree
  rw [List.all_eq_false]
  rw [get_bl s j hj] at h
  exact ⟨(bl s)[j]'(by rw [← size_bl]; exact hj), List.getElem_mem _, by rw [decide_eq_true_eq]; omega⟩
theorem decode_low (s : ByteArray) (pos : Nat) (h : pos < s.size) :
    ((s.get! pos).toNat < 128 ∧ Utf8.decode s pos = ((s.get! pos).toNat, 1)) ∨ (128 ≤ (s.get! pos).toNat ∧ 128 ≤ (Utf8.decode s pos).1) := by
  have e := get_at s pos h
  rw [Nat.add_zero] at e
  rcases Nat.lt_or_ge (s.get! pos).toNat 128 with h1 | h1
  · exact .inl ⟨h1, by rw [decode_ascii s pos h (by rw [← e]; exact h1), ← e]⟩
  · exact .inr ⟨h1, (decode_high s pos h (by rw [← e]; exact h1)).1⟩
set_option maxHeartbeats 400000 in
theorem isText_any (s : ByteArray) (w : World) (he : Env w) (hs : s.size ≤ 9223372036854775807) :
    Calls Tryz.prog 136 #[.string s] w fun e w' => e = .returned (.bool (textB (bl s))) ∧ Below w.heap.size w w' := by
  have HE := Lib.hid he
  clear he
  go_enter Tryz.func136, Tryz.ntmps136
  go_wp2
  go_loopw [4] (fun _ wr => ∃ pos : Nat, wr = w.iter s pos ∧ ∀ j, j < pos → j < s.size → 32 ≤ (s.get! j).toNat) (fun _ wr => s.size - wr.iterPos w.heap.size)
  case atStart => exact ⟨0, rfl, fun j hj => by omega⟩
  case round =>
    obtain ⟨pos, rfl, hlow⟩ := hrel
    have HL := Lib.hid hlow
    clear hlow
    by_cases hp : pos < s.size
    · have hnx : ∀ ty, (Instr.next (.pointer (some ⟨w.heap.size, 0, none⟩)) true ty).run Tryz.prog (w.iter s pos) = _ := fun ty => run_next_any w s pos ty hp
      go_wp2
      · go_ret
        refine ⟨ret_bool ?_, (Below.refl _ _).alloc (Nat.le_refl _) _⟩
        have hlt : ((Utf8.decode s pos).1 : Int) < 32 := by assumption
        have hd := decode_low s pos hp
        have hd2 : (s.get! pos).toNat < 32 := by
          rcases hd with ⟨_, h2⟩ | ⟨_, h2⟩
          · rw [h2] at hlt; simp only at hlt; omega
          · omega
        simp [textB, low_none hp hd2]
      · go_roundw
        case rel =>
          refine ⟨pos + (Utf8.decode s pos).2, rfl, ?_⟩
          have hge : (32 : Int) ≤ (Utf8.decode s pos).1 := by assumption
          rcases decode_low s pos hp with ⟨h1, h2⟩ | ⟨h1, h2⟩
          · intro j hj hjs
            rw [h2] at hge hj
            rcases Nat.lt_or_ge j pos with h3 | h3
            · exact HL.out j h3 hjs
            · rw [show j = pos by simp at hj; omega]; simp at hge; omega
          · exact take_low HL.out (decode_span s pos hp h1).2
        case measure =>
          rw [World.iterPos_iter, World.iterPos_iter]
          have := Lib.width_pos s pos
          omega
    · have hnx : ∀ ty, (Instr.next (.pointer (some ⟨w.heap.size, 0, none⟩)) true ty).run Tryz.prog (w.iter s pos) = _ := fun ty => run_next_end w s pos ty hp
      go_wp2_with (go_at_call 143; refine (validString_any s _ (HE.out.below ((Below.refl _ _).alloc (Nat.le_refl _) _)) hs).mono ?_; rintro e w' ⟨rfl, hb⟩)
      go_ret
      refine ⟨ret_bool ?_, below_next ((Below.refl _ _).alloc (Nat.le_refl _) _) hb⟩
      simp only [textB, low_all (fun j hj => HL.out j (by omega) hj), Bool.true_and]
set_option maxHeartbeats 400000 in
theorem isComponent_any (s : ByteArray) (w : World) (he : Env w) (hs : s.size ≤ 9223372036854775807) :
    Calls Tryz.prog 123 #[.string s] w fun e w' => e = .returned (.bool (compB (bl s))) ∧ Below w.heap.size w w' := by
  have HE := Lib.hid he
  clear he
  go_enter Tryz.func123, Tryz.ntmps123
  go_wp2_with (first
    | (go_at_call 135; refine (contains_one _ _ _).mono ?_; rintro e w' ⟨rfl, rfl⟩)
    | (go_at_call 136; refine (isText_any _ _ HE.out hs).mono ?_; rintro e w' ⟨rfl, hb⟩))
  all_goals (go_ret; refine ⟨ret_bool ?_, by first | exact Below.refl _ _ | exact hb⟩)
  all_goals (rw [Bool.eq_iff_iff]; simp_all [compB, toList_bl, size_bl])
  all_goals first | omega | (intros; omega)
/-- What Split leaves. -/
def SplitOk (s : ByteArray) (w : World) (e : Ending) (w' : World) : Prop :=
  ∃ v xs, e = .returned (.tuple #[v, .int .i64 0]) ∧ xs.map bl = splitL 47 (bl s) ∧ StrsAt (w.heap.size ≤ ·) w' v xs ∧ Below w.heap.size w w'
def SplitBad (w : World) (e : Ending) (w' : World) : Prop := e = .returned (.tuple #[.slice none 0 0, .int .i64 1]) ∧ Below w.heap.size w w'
def SplitRes (s : ByteArray) (w : World) (e : Ending) (w' : World) : Prop := (validP (bl s) = true ∧ SplitOk s w e w') ∨ (validP (bl s) = false ∧ SplitBad w e w')
theorem row_cell {w : World} {xs : List Value} {e : TypeId} {k : Nat} {x : Value} (hx : xs[k]? = some x) : (w.alloc (.cells xs.toArray e)).cell? ⟨w.heap.size, k, none⟩ = some x := by
  have h := heap_alloc_new w (.cells xs.toArray e)
  simp only [World.cell?, h]
  simp [hx]
theorem map_get {xs : List ByteArray} {k : Nat} {x : ByteArray} (hx : xs[k]? = some x) : (xs.map Value.string)[k]? = some (.string x) := by simp [hx]
theorem split_all {xs : List ByteArray} {s : ByteArray} (hx : xs.map bl = splitL 47 (bl s)) (h1 : (bl s).length ≤ 512) (h2 : xs.length ≤ 16) (h : ∀ (j : Nat) x, j < xs.length → xs[j]? = some x → compB (bl x) = true) : validP (bl s) = true := by
  have hl : (splitL 47 (bl s)).length = xs.length := by rw [← hx]; simp
  have ha : (splitL 47 (bl s)).all compB = true := by
    rw [← hx, List.all_map, List.all_eq_true]
    intro x hm
    obtain ⟨j, hj, rfl⟩ := List.getElem_of_mem hm
    exact h j _ hj (by simp)
  simp [validP, h1, hl, h2, ha]
theorem split_not {xs : List ByteArray} {s : ByteArray} {j : Nat} {x : ByteArray} (hx : xs.map bl = splitL 47 (bl s)) (h : xs[j]? = some x) (hc : compB (bl x) = false) : validP (bl s) = false := by
  have ha : (splitL 47 (bl s)).all compB = false := by
    rw [← hx, List.all_map, List.all_eq_false]
    exact ⟨x, List.mem_of_getElem? h, by simp [hc]⟩
  simp [validP, ha]
theorem split_len {xs : List ByteArray} {s : ByteArray} (hx : xs.map bl = splitL 47 (bl s)) (h : ¬ xs.length ≤ 16) : validP (bl s) = false := by
  have hl : (splitL 47 (bl s)).length = xs.length := by rw [← hx]; simp
  simp [validP, hl, h]
theorem split_long {s : ByteArray} (h : ¬ (bl s).length ≤ 512) : validP (bl s) = false := by simp [validP, h]
theorem mem_split_le (c : UInt8) (l : List UInt8) : ∀ p ∈ splitL c l, p.length ≤ l.length := by
  induction l with
  | nil => simp [splitL]
  | cons b l ih =>
    unfold splitL
    split
    · intro p hp; rcases List.mem_cons.1 hp with rfl | hp
      · simp
      · have := ih p hp; simp; omega
    · split
      · rename_i h t e
        rw [e] at ih
        intro p hp; rcases List.mem_cons.1 hp with rfl | hp
        · have := ih h (by simp); simp; omega
        · have := ih p (by simp [hp]); simp; omega
      · intro p hp; simp at hp; simp [hp]
theorem part_size {xs : List ByteArray} {s : ByteArray} {c : UInt8} {j : Nat} {x : ByteArray} (hx : xs.map bl = splitL c (bl s)) (h : xs[j]? = some x) : x.size ≤ s.size := by
  rw [size_bl, size_bl]
  exact mem_split_le c (bl s) (bl x) (by rw [← hx]; exact List.mem_map.2 ⟨x, List.mem_of_getElem? h, rfl⟩)
theorem strs_new {w w' : World} {xs : List ByteArray} {e : TypeId} (hl : xs.length ≤ maxLen) (hb : Below (w.heap.size + 1) (w.alloc (.cells (xs.map Value.string).toArray e)) w') :
    StrsAt (w.heap.size ≤ ·) w' (.slice (some ⟨w.heap.size, 0, none⟩) xs.length xs.length) xs := by
  refine ⟨by simp, some ⟨w.heap.size, 0, none⟩, xs.length, rfl, Nat.le_refl _, hl, .inr ⟨w.heap.size, 0, rfl, Nat.le_refl _, fun j u hu => ?_⟩⟩
  rw [hb.cell (p := ⟨w.heap.size, 0 + j, none⟩) (by simp), Nat.zero_add]
  exact row_cell hu
set_option maxHeartbeats 400000 in
theorem split_calls (s : ByteArray) (w : World) (he : Env w) : Calls Tryz.prog 99 #[.string s] w (SplitRes s w) := by
  have HE := Lib.hid he
  clear he
  by_cases h5 : s.size ≤ 512
  · go_enter Tryz.func99, Tryz.ntmps99
    go_wp2_with fail
    refine (split_any s 47 w HE.out (by omega)).mono ?_
    rintro e w' ⟨xs, hx, rfl, rfl⟩
    have hxl : xs.length ≤ 513 := by
      have h1 : (splitL 47 (bl s)).length = xs.length := by rw [← hx]; simp
      have h2 := splitL_len_le 47 (bl s)
      rw [← size_bl] at h2
      omega
    have HX := Lib.hid hx
    clear hx
    by_cases h16 : xs.length ≤ 16
    · go_wp2_with fail
      go_loopw [17] (fun i wr => ∃ k : Nat, k ≤ xs.length ∧ i = .int .i64 k ∧ Below (w.heap.size + 1) (w.alloc (.cells (xs.map Value.string).toArray 9)) wr ∧ ∀ (j : Nat) x, j < k → xs[j]? = some x → compB (bl x) = true) (fun i _ => xs.length - (intOf i).toNat)
      case atStart => exact ⟨0, Nat.zero_le _, rfl, Below.refl _ _, fun j x hj => by omega⟩
      case round =>
        obtain ⟨k, hk, rfl, hb, hall⟩ := hrel
        have HA := Lib.hid hall
        clear hall
        by_cases hlt : k < xs.length
        · obtain ⟨x, hx⟩ : ∃ x, xs[k]? = some x := ⟨xs[k], by simp [hlt]⟩
          have hcell : wr.cell? ⟨w.heap.size, k, none⟩ = some (.string x) := (hb.cell (p := ⟨w.heap.size, k, none⟩) (by simp)).trans (row_cell (map_get hx))
          have hxs : x.size ≤ 9223372036854775807 := by have := part_size HX.out hx; omega
          have HK := Lib.hid hx
          have HB := Lib.hid hb
          clear hx hb
          cases hc : compB (bl x)
          · have HC := Lib.hid hc
            clear hc
            go_wp2_with (go_at_call 123; refine (isComponent_any x wr (HE.out.below (below_next ((Below.refl _ _).alloc (Nat.le_refl _) _) (by simpa using HB.out))) hxs).mono ?_; rintro e w' ⟨rfl, hb2⟩; rw [HC.out])
            go_ret2
            refine .inr ⟨split_not HX.out HK.out HC.out, rfl, ?_⟩
            exact below_next (below_next ((Below.refl _ _).alloc (Nat.le_refl _) _) (by simpa using HB.out)) hb2
          · have HC := Lib.hid hc
            clear hc
            go_wp2_with (go_at_call 123; refine (isComponent_any x wr (HE.out.below (below_next ((Below.refl _ _).alloc (Nat.le_refl _) _) (by simpa using HB.out))) hxs).mono ?_; rintro e w' ⟨rfl, hb2⟩; rw [HC.out])
            go_roundw
            case rel =>
              refine ⟨k + 1, by omega, by go_num, HB.out.trans (hb2.mono (by have := HB.out.size; simpa using this)), fun j x' hj hx' => ?_⟩
              rcases Nat.lt_or_ge j k with h | h
              · exact HA.out j x' h hx'
              · obtain rfl : j = k := by omega
                have := HK.out.symm.trans hx'
                cases this
                exact HC.out
            case measure => simp [intOf]; omega
        · have HB := Lib.hid hb
          clear hb
          go_wp2
          go_ret2
          refine .inl ⟨split_all HX.out (by rw [← size_bl]; exact h5) h16 (fun j x hj hx => HA.out j x (by omega) hx), _, xs, rfl, HX.out, strs_new (by unfold maxLen; omega) HB.out, ?_⟩
          exact below_next ((Below.refl _ _).alloc (Nat.le_refl _) _) (by simpa using HB.out)
    · go_wp2_with fail
      go_ret2
      exact .inr ⟨split_len HX.out h16, rfl, (Below.refl _ _).alloc (Nat.le_refl _) _⟩
  · go_enter Tryz.func99, Tryz.ntmps99
    go_wp2_with fail
    go_ret2
    exact .inr ⟨split_long (by rw [← size_bl]; exact h5), rfl, Below.refl _ _⟩
end Go.Proofs.YtdieneaillkbgaaGreatDoor

/- Contracts of package pathname: Valid, Compare. -/
namespace Go.Proofs.YtdieneaillkbgaaGreatDoor
open Go.RowKit
set_option maxHeartbeats 400000 in
theorem valid_any (s : ByteArray) (w : World) (he : Env w) :
    Calls Tryz.prog 86 #[.string s] w fun e w' => e = .returned (.bool (validP (bl s))) ∧ Below w.heap.size w w' := by
  go_enter Tryz.func86, Tryz.ntmps86
  go_wp2_with fail
  refine (split_calls s w he).mono ?_
  rintro e w' (⟨hv, v, xs, rfl, -, -, hb⟩ | ⟨hv, rfl, hb⟩)
  · go_wp2
    go_ret
    exact ⟨ret_bool (by rw [hv]), hb⟩
  · go_wp2
    go_ret
    exact ⟨ret_bool (by rw [hv]), hb⟩
def rankI (c : Int) : Int := if c = 47 then -1 else c
theorem rank_any (c : Int) (w : World) (h0 : 0 ≤ c) (h1 : c ≤ 255) : Calls Tryz.prog 80 #[.int .u8 c] w fun e w' => e = .returned (.int .i64 (rankI c)) ∧ w = w' := by
  by_cases h : c = 47
  · subst h
    go_enter Tryz.func80, Tryz.ntmps80
    go_wp2
    go_ret
    exact ⟨rfl, rfl⟩
  · have hr : rankI c = c := if_neg h
    have HR := Lib.hid hr
    clear hr
    have h2 : (c == 47) = false := by simpa using h
    go_enter Tryz.func80, Tryz.ntmps80
    go_wp2
    go_ret
    exact ⟨ret_int HR.out.symm, rfl⟩
theorem cmp_len (l r : List UInt8) (h : l = [] ∨ r = []) : cmpL l r = Lib.compareInt (l.length : Int) r.length := by
  rcases h with rfl | rfl
  · cases r
    · simp [cmpL, Lib.compareInt]
    · rw [cmpL, Lib.compareInt, if_pos (by simp <;> omega)]
  · cases l
    · simp [cmpL, Lib.compareInt]
    · rw [cmpL, Lib.compareInt, if_neg (by simp <;> omega), if_pos (by simp <;> omega)]
theorem compareInt_sub (x y : Int) (k : Int) : Lib.compareInt (x - k) (y - k) = Lib.compareInt x y := by
  unfold Lib.compareInt
  have h1 : (x - k < y - k) ↔ (x < y) := by omega
  have h2 : (x - k > y - k) ↔ (x > y) := by omega
  simp only [h1, h2]
theorem cmp_end {l r : List UInt8} {k : Nat} (hk1 : k ≤ l.length) (hk2 : k ≤ r.length) (h : k = l.length ∨ k = r.length) : cmpL (l.drop k) (r.drop k) = Lib.compareInt (l.length : Int) r.length := by
  rw [cmp_len _ _ (by rcases h with rfl | rfl <;> simp)]
  rw [List.length_drop, List.length_drop, ← compareInt_sub (l.length : Int) r.length k]
  congr 1 <;> omega
theorem cmp_take {l r : List UInt8} {k : Nat} (hl : k < l.length) (hr : k < r.length) (h : l[k] = r[k]) : cmpL (l.drop k) (r.drop k) = cmpL (l.drop (k + 1)) (r.drop (k + 1)) := by
  rw [List.drop_eq_getElem_cons hl, List.drop_eq_getElem_cons hr, cmpL, if_pos h]
theorem cmp_stop {l r : List UInt8} {k : Nat} (hl : k < l.length) (hr : k < r.length) (h : l[k] ≠ r[k]) : cmpL (l.drop k) (r.drop k) = Lib.compareInt (rankL l[k]) (rankL r[k]) := by
  rw [List.drop_eq_getElem_cons hl, List.drop_eq_getElem_cons hr, cmpL, if_neg h]
theorem byte_bl (s : ByteArray) (k : Nat) (h : k < s.size) : s[k] = (bl s)[k]'(by rw [← size_bl]; exact h) := by
  exact (Array.getElem_toList (xs := s.data) h).symm
theorem rank_int (c : UInt8) : rankI c.toNat = rankL c := by
  unfold rankI rankL
  by_cases h : c = 47
  · subst h; rfl
  · rw [if_neg h, if_neg]
    intro e; apply h; apply UInt8.toNat_inj.1; have : c.toNat = 47 := by omega
    rw [this]; rfl
set_option maxHeartbeats 400000 in
theorem compare_any (a b : ByteArray) (w : World) (ha : a.size ≤ 9223372036854775807) :
    Calls Tryz.prog 52 #[.string a, .string b] w fun e w' => e = .returned (.int .i64 (cmpL (bl a) (bl b))) ∧ Below w.heap.size w w' := by
  go_enter Tryz.func52, Tryz.ntmps52
  go_wp2_with fail
  obtain ⟨m, hm⟩ : ∃ m : Nat, min (a.size : Int) (b.size : Int) = m := ⟨min a.size b.size, by omega⟩
  have hm1 : m ≤ a.size := by omega
  have hm2 : m ≤ b.size := by omega
  have hm3 : m = a.size ∨ m = b.size := by omega
  rw [hm]
  have HM := Lib.hid hm3
  clear hm hm3
  go_loopw [12] (fun i wr => ∃ k : Nat, k ≤ m ∧ i = .int .i64 k ∧ Below w.heap.size w wr ∧ cmpL (bl a) (bl b) = cmpL ((bl a).drop k) ((bl b).drop k)) (fun i _ => m - (intOf i).toNat)
  case atStart => exact ⟨0, Nat.zero_le _, rfl, Below.refl _ _, rfl⟩
  case round =>
    obtain ⟨k, hk, rfl, hbw, hc⟩ := hrel
    have HC := Lib.hid hc
    have HB := Lib.hid hbw
    clear hc hbw
    by_cases hlt : k < m
    · have h1 : (k : Int) < (a.size : Int) := by omega
      have h2 : (k : Int) < (b.size : Int) := by omega
      have h3 : k < a.size := by omega
      have h4 : k < b.size := by omega
      by_cases hq : a[k] = b[k]
      · have hq2 : (((a[k]).toNat : Int) != (b[k]).toNat) = false := by simp [hq]
        have HQ := Lib.hid hq
        clear hq
        go_wp2_with fail
        go_quiet (fail)
        go_wp2_with fail
        go_roundw
        case rel =>
          refine ⟨k + 1, by omega, by go_num, below_draws HB.out nq, ?_⟩
          rw [HC.out]
          refine cmp_take (by rw [← size_bl]; exact h3) (by rw [← size_bl]; exact h4) ?_
          rw [← byte_bl, ← byte_bl]; exact HQ.out
        case measure => simp [intOf]; omega
      · have hq2 : (((a[k]).toNat : Int) != (b[k]).toNat) = true := by
          rw [bne_iff_ne]; intro e; apply hq; exact UInt8.toNat_inj.1 (by omega)
        have HQ := Lib.hid hq
        clear hq
        go_wp2_with fail
        go_quiet (fail)
        go_wp2_with fail
        have hW : ∃ W, W = wr.drewN nq ∧ Below w.heap.size w W := ⟨_, rfl, below_draws HB.out nq⟩
        obtain ⟨W, hWe, hWb⟩ := hW
        rw [← hWe]
        have HB2 := Lib.hid hWb
        clear hWe hWb HB
        have hr1 := (a[k]).toNat_lt
        have hr2 := (b[k]).toNat_lt
        go_quiet ((first | (go_at_call 80; refine quietL (rank_any _ _ (by omega) (by omega))) | (go_at_call 81; refine quietL (compareInt_any _ _ _))))
        go_wp2_with fail
        go_ret
        refine ⟨ret_int ?_, below_draws HB2.out _⟩
        rw [rank_int, rank_int, HC.out, cmp_stop (by rw [← size_bl]; exact h3) (by rw [← size_bl]; exact h4) (by rw [← byte_bl, ← byte_bl]; exact HQ.out), ← byte_bl, ← byte_bl]
    · go_wp2_with (go_at_call 81; refine (compareInt_any _ _ _).mono ?_; rintro e w' ⟨rfl, rfl⟩)
      go_ret
      refine ⟨ret_int ?_, HB.out⟩
      have hM := HM.out
      rw [HC.out, cmp_end (by rw [← size_bl]; omega) (by rw [← size_bl]; omega) (by rw [← size_bl, ← size_bl]; omega), ← size_bl, ← size_bl]
set_option maxHeartbeats 400000 in
theorem parent_any (s : ByteArray) (w : World) (he : Env w) (hv : validP (bl s) = true) :
    Calls Tryz.prog 64 #[.string s] w fun e w' => e = .returned (.tuple #[.string ⟨(parentL (bl s)).toArray⟩, .bool true]) ∧ Below w.heap.size w w' := by
  have HV := Lib.hid hv
  have h5 : s.size ≤ 512 := by simp only [validP, Bool.and_eq_true, decide_eq_true_eq] at hv; rw [size_bl]; exact hv.1.1
  have hl : (parentL (bl s)).length ≤ s.size := by rw [parentL_take, List.length_take, size_bl]; omega
  clear hv
  go_enter Tryz.func64, Tryz.ntmps64
  go_wp2_with fail
  refine (valid_any s w he).mono ?_
  rintro e w1 ⟨rfl, hb1⟩
  rw [HV.out]
  have HB1 := Lib.hid hb1
  clear hb1
  go_wp2_with fail
  refine (lastIndex_any s w1 (by omega)).mono ?_
  rintro e w2 ⟨rfl, rfl⟩
  obtain ⟨n, hn⟩ : ∃ n : Nat, n = (parentL (bl s)).length := ⟨_, rfl⟩
  have hmax : max (lastSlash (bl s)) 0 = (n : Int) := by
    unfold lastSlash
    split
    · omega
    · rename_i h; rw [hn, parentL_no _ h]; rfl
  have hle : n ≤ s.size := by omega
  have HN := Lib.hid hn
  clear hn hl
  go_wp2_with fail
  go_ret2
  refine ⟨?_, HB1.out⟩
  have e : s.extract 0 n = ⟨(parentL (bl s)).toArray⟩ := bl_inj (by rw [bl_extract, bl_mk (parentL (bl s)), HN.out, List.drop_zero, ← parentL_take])
  rw [← e]; rfl
end Go.Proofs.YtdieneaillkbgaaGreatDoor

/- Trees of entries, in plain words: valid entries, order, parents, what lies within a path. -/
namespace Go.Proofs.YtdieneaillkbgaaGreatDoor
open Go.RowKit
structure Ent where
  path : ByteArray
  kind : Int
  mode : Int
  time : Int
  data : List UInt8
  link : ByteArray
deriving DecidableEq
def vLinkB (l : List UInt8) : Bool := decide (1 ≤ l.length) && decide (l.length ≤ 512) && !l.contains 0
def vKind (e : Ent) : Bool :=
  if e.kind = 1 then decide (e.data.length ≤ 1048576) && decide (e.link.size = 0)
  else if e.kind = 2 then decide (e.data.length = 0) && decide (e.link.size = 0)
  else if e.kind = 3 then decide (e.data.length = 0) && vLinkB (bl e.link)
  else false
def vHeadE (e : Ent) : Bool := decide (0 ≤ e.mode) && decide (e.mode ≤ 511) && decide (0 ≤ e.time)
def vEnt (e : Ent) : Bool := validP (bl e.path) && vHeadE e && vKind e
def findE (L : List Ent) (p : ByteArray) : Option Ent := L.find? fun e => decide (e.path = p)
def dirE (L : List Ent) (p : List UInt8) : Int := if p = [] then 0 else match findE L ⟨p.toArray⟩ with
  | none => 4
  | some e => if e.kind = 2 then 0 else 13
def cmpE (a b : Ent) : Int := cmpL (bl a.path) (bl b.path)
def afterE (pre : List Ent) (e : Ent) : Bool := match pre.getLast? with
  | none => true
  | some f => decide (cmpE f e < 0)
def checkAt (pre : List Ent) (e : Ent) : Int := if (vEnt e && afterE pre e) = true then dirE pre (parentL (bl e.path)) else 1
def checkF : List Ent → List Ent → Int
  | _, [] => 0
  | pre, e :: r => if checkAt pre e = 0 then checkF (pre ++ [e]) r else checkAt pre e
def checkP (L : List Ent) : Int := if 4096 < L.length then 2 else checkF [] L
/-- An entry goes behind those that are not after it. -/
def insAt (L : List Ent) (e : Ent) : Nat → Nat
  | 0 => 0
  | k + 1 => match L[k]? with
    | none => insAt L e k
    | some f => if 0 < cmpE f e then insAt L e k else k + 1
def insE (L : List Ent) (e : Ent) : List Ent := L.take (insAt L e L.length) ++ [e] ++ L.drop (insAt L e L.length)
def sortP (L : List Ent) : List Ent := L.foldl insE []
/- The order. -/
theorem path_bl {p : ByteArray} {l : List UInt8} (h : bl p = l) : p = ⟨l.toArray⟩ := bl_inj (by rw [h]; simp [bl])
theorem cmpE_neg (a b : Ent) : cmpE b a = -cmpE a b := cmp_neg _ _
theorem cmpE_zero {a b : Ent} : cmpE a b = 0 ↔ a.path = b.path := by
  unfold cmpE; rw [cmp_zero]; exact ⟨bl_inj, fun h => by rw [h]⟩
theorem cmpE_lt_trans {a b c : Ent} (h1 : cmpE a b < 0) (h2 : cmpE b c < 0) : cmpE a c < 0 := by
  obtain ⟨h3, h4⟩ := cmp_trans (bl a.path) (bl b.path) (bl c.path) (by unfold cmpE at h1; omega) (by unfold cmpE at h2; omega)
  rcases Int.lt_or_eq_of_le h3 with h | h
  · exact h
  · have := (h4 h).1; unfold cmpE at h1; omega
def SortedE (L : List Ent) : Prop := L.Pairwise fun a b => cmpE a b < 0
theorem SortedE.nodup {L : List Ent} (h : SortedE L) : (L.map Ent.path).Nodup := by
  unfold List.Nodup
  rw [List.pairwise_map]
  exact List.Pairwise.imp (fun h e => by have := cmpE_zero.2 e; omega) h
theorem SortedE.filter {L : List Ent} (h : SortedE L) (p : Ent → Bool) : SortedE (L.filter p) := List.Pairwise.filter p h
theorem insAt_le (L : List Ent) (e : Ent) : ∀ k, insAt L e k ≤ k
  | 0 => Nat.le_refl _
  | k + 1 => by
    rw [insAt]
    have := insAt_le L e k
    split
    · omega
    · split
      · omega
      · exact Nat.le_refl _
theorem insE_perm (L : List Ent) (e : Ent) : (insE L e).Perm (e :: L) := by
  unfold insE
  have h : (List.take (insAt L e L.length) L ++ [e] ++ List.drop (insAt L e L.length) L).Perm (e :: (List.take (insAt L e L.length) L ++ List.drop (insAt L e L.length) L)) := by
    rw [List.append_assoc]
    exact List.perm_middle
  rwa [List.take_append_drop] at h
theorem foldl_ins_perm : ∀ (M acc : List Ent), (M.foldl insE acc).Perm (acc ++ M)
  | [], acc => by simp
  | e :: M, acc => by
    rw [List.foldl_cons]
    refine (foldl_ins_perm M (insE acc e)).trans ?_
    refine ((insE_perm acc e).append_right M).trans ?_
    exact (List.perm_middle (l₁ := acc) (a := e) (l₂ := M)).symm
theorem sortP_perm (L : List Ent) : (sortP L).Perm L := by
  have := foldl_ins_perm L []
  simpa [sortP] using this
theorem insAt_after {L : List Ent} {e : Ent} : ∀ {k : Nat}, k ≤ L.length → (∀ j f, insAt L e k ≤ j → j < k → L[j]? = some f → 0 < cmpE f e) ∧ (∀ f, 0 < insAt L e k → L[insAt L e k - 1]? = some f → cmpE f e ≤ 0)
  | 0, _ => ⟨fun j f _ h => by omega, fun f h => by simp [insAt] at h⟩
  | k + 1, hk => by
    obtain ⟨h1, h2⟩ := insAt_after (L := L) (e := e) (k := k) (by omega)
    have hL : L[k]? = some L[k] := by simp
    have hle := insAt_le L e k
    by_cases hc : 0 < cmpE L[k] e
    · have e1 : insAt L e (k + 1) = insAt L e k := by rw [insAt, hL]; simp only [if_pos hc]
      rw [e1]
      refine ⟨fun j f hj hj2 hf => ?_, h2⟩
      by_cases hjk : j = k
      · subst hjk
        rw [hL] at hf
        cases hf
        exact hc
      · exact h1 j f hj (by omega) hf
    · have e1 : insAt L e (k + 1) = k + 1 := by rw [insAt, hL]; simp only [if_neg hc]
      rw [e1]
      refine ⟨fun j f hj hj2 => by omega, fun f _ hf => ?_⟩
      rw [Nat.add_sub_cancel, hL] at hf
      cases hf
      omega
theorem insE_sorted {L : List Ent} {e : Ent} (h : SortedE L) (hne : ∀ f ∈ L, f.path ≠ e.path) : SortedE (insE L e) := by
  obtain ⟨h1, h2⟩ := insAt_after (L := L) (e := e) (Nat.le_refl _)
  unfold insE
  generalize hk : insAt L e L.length = k at h1 h2 ⊢
  have hkl : k ≤ L.length := by rw [← hk]; exact insAt_le L e _
  have hs : SortedE (L.take k ++ L.drop k) := by rw [List.take_append_drop]; exact h
  obtain ⟨s1, s2, s3⟩ := List.pairwise_append.1 hs
  have ha : ∀ f ∈ L.drop k, cmpE e f < 0 := fun f hf => by
    obtain ⟨j, hj⟩ := List.mem_iff_getElem?.1 hf
    rw [List.getElem?_drop] at hj
    have hjl := (List.getElem?_eq_some_iff.1 hj).1
    have := h1 (k + j) f (by omega) hjl hj
    have := cmpE_neg f e
    omega
  have hb : ∀ f ∈ L.take k, cmpE f e < 0 := fun f hf => by
    have hk0 : 0 < k := by
      rcases Nat.eq_zero_or_pos k with h0 | h0
      · subst h0; simp at hf
      · exact h0
    have hlast : L[k - 1]? = some (L[k - 1]'(by omega)) := by simp
    have h3 := h2 _ hk0 hlast
    have hm : L[k - 1]'(by omega) ∈ L := List.getElem_mem _
    have h4 : cmpE (L[k - 1]'(by omega)) e < 0 := by
      rcases Int.lt_or_eq_of_le h3 with h | h
      · exact h
      · exact absurd (cmpE_zero.1 h) (hne _ hm)
    obtain ⟨j, hj⟩ := List.mem_iff_getElem?.1 hf
    rw [List.getElem?_take] at hj
    split at hj
    · rename_i hjk
      by_cases hjl : j = k - 1
      · subst hjl
        rw [hlast] at hj
        cases hj
        exact h4
      · obtain ⟨hj1, rfl⟩ := List.getElem?_eq_some_iff.1 hj
        have h5 := List.pairwise_iff_getElem.1 h j (k - 1) hj1 (by omega) (by omega)
        exact cmpE_lt_trans h5 h4
    · simp at hj
  rw [List.append_assoc]
  refine List.pairwise_append.2 ⟨s1, List.pairwise_append.2 ⟨by simp, s2, fun a ha' b hb' => ?_⟩, fun a ha' b hb' => ?_⟩
  · simp only [List.mem_singleton] at ha'
    subst ha'
    exact ha b hb'
  · rcases List.mem_append.1 hb' with hb' | hb'
    · simp only [List.mem_singleton] at hb'
      subst hb'
      exact hb a ha'
    · exact s3 a ha' b hb'
theorem foldl_ins_sorted : ∀ {M acc : List Ent}, SortedE acc → ((acc ++ M).map Ent.path).Nodup → SortedE (M.foldl insE acc)
  | [], acc, h, _ => h
  | e :: M, acc, h, hn => by
    rw [List.foldl_cons]
    refine foldl_ins_sorted (insE_sorted h (fun f hf he => ?_)) ?_
    · rw [List.map_append, List.nodup_append] at hn
      exact hn.2.2 f.path (List.mem_map.2 ⟨f, hf, rfl⟩) e.path (by simp) he
    · have hp : (insE acc e ++ M).Perm (acc ++ e :: M) := ((insE_perm acc e).append_right M).trans (List.perm_middle (l₁ := acc) (a := e) (l₂ := M)).symm
      exact (hp.map Ent.path).nodup_iff.2 hn
theorem sortP_sorted {L : List Ent} (h : (L.map Ent.path).Nodup) : SortedE (sortP L) := foldl_ins_sorted List.Pairwise.nil (by simpa using h)
/- Finding. -/
theorem findE_some {L : List Ent} {p : ByteArray} {e : Ent} (h : findE L p = some e) : e ∈ L ∧ e.path = p := by
  unfold findE at h
  exact ⟨List.mem_of_find?_eq_some h, by have := List.find?_some h; simpa using this⟩
theorem findE_none {L : List Ent} {p : ByteArray} (h : findE L p = none) : ∀ e ∈ L, e.path ≠ p := by
  unfold findE at h
  rw [List.find?_eq_none] at h
  intro e he hp
  exact h e he (by simp [hp])
theorem findE_mem {L : List Ent} (hn : (L.map Ent.path).Nodup) {e : Ent} (he : e ∈ L) : findE L e.path = some e := by
  cases h : findE L e.path with
  | none => exact absurd rfl (findE_none h e he)
  | some f =>
    obtain ⟨h1, h2⟩ := findE_some h
    have : f = e := by
      unfold List.Nodup at hn
      rw [List.pairwise_map, List.pairwise_iff_getElem] at hn
      obtain ⟨i, hi, rfl⟩ := List.getElem_of_mem h1
      obtain ⟨j, hj, rfl⟩ := List.getElem_of_mem he
      by_cases hij : i = j
      · subst hij; rfl
      · exfalso
        rcases Nat.lt_or_gt_of_ne hij with hlt | hlt
        · exact hn i j hi hj hlt h2
        · exact hn j i hj hi hlt h2.symm
    rw [this]
theorem findE_perm {L M : List Ent} (hp : L.Perm M) (hn : (L.map Ent.path).Nodup) (p : ByteArray) : findE L p = findE M p := by
  have hm : (M.map Ent.path).Nodup := (hp.map Ent.path).nodup_iff.1 hn
  cases h : findE L p with
  | none =>
    cases h2 : findE M p with
    | none => rfl
    | some f =>
      obtain ⟨h3, h4⟩ := findE_some h2
      exact absurd h4 (findE_none h f (hp.symm.subset h3))
  | some e =>
    obtain ⟨h3, h4⟩ := findE_some h
    rw [← h4, findE_mem hm (hp.subset h3)]
/- Trees. -/
structure TOk (L : List Ent) : Prop where
  ord : SortedE L
  val : ∀ e ∈ L, vEnt e = true
  up : ∀ e ∈ L, dirE L (parentL (bl e.path)) = 0
  len : L.length ≤ 4096
theorem TOk.nil : TOk [] := ⟨List.Pairwise.nil, by simp, by simp, by simp⟩
theorem TOk.nodup {L : List Ent} (h : TOk L) : (L.map Ent.path).Nodup := h.ord.nodup
theorem vEnt_path {e : Ent} (h : vEnt e = true) : validP (bl e.path) = true := by
  unfold vEnt at h; simp only [Bool.and_eq_true] at h; exact h.1.1
theorem valid_ne {l : List UInt8} (h : validP l = true) : l ≠ [] := by
  intro e; subst e; exact absurd h (by decide)
theorem valid_size {l : List UInt8} (h : validP l = true) : l.length ≤ 512 := by
  simp only [validP, Bool.and_eq_true, decide_eq_true_eq] at h; exact h.1.1
theorem dirE_zero {L : List Ent} {p : List UInt8} (h : dirE L p = 0) (hp : p ≠ []) : ∃ f ∈ L, bl f.path = p ∧ f.kind = 2 := by
  unfold dirE at h
  rw [if_neg hp] at h
  cases hf : findE L ⟨p.toArray⟩ with
  | none => rw [hf] at h; simp at h
  | some f =>
    rw [hf] at h
    simp only at h
    obtain ⟨h1, h2⟩ := findE_some hf
    split at h
    · exact ⟨f, h1, by rw [h2]; simp [bl], by assumption⟩
    · simp at h
theorem dirE_of {L : List Ent} (hn : (L.map Ent.path).Nodup) {p : List UInt8} (h : p = [] ∨ ∃ f ∈ L, bl f.path = p ∧ f.kind = 2) : dirE L p = 0 := by
  unfold dirE
  by_cases hp : p = []
  · rw [if_pos hp]
  · rw [if_neg hp]
    rcases h with h | ⟨f, h1, h2, h3⟩
    · exact absurd h hp
    · have : f.path = ⟨p.toArray⟩ := path_bl h2
      rw [← this, findE_mem hn h1]
      simp only [if_pos h3]
theorem hasPrefix_iff {l p : List UInt8} : Lib.hasPrefix l p = true ↔ ∃ r, l = p ++ r := by
  unfold Lib.hasPrefix
  rw [List.isPrefixOf_iff_prefix]
  exact ⟨fun ⟨r, h⟩ => ⟨r, h.symm⟩, fun ⟨r, h⟩ => ⟨r, h.symm⟩⟩
/-- What lies below a directory has its parent there. -/
theorem below_parent {d q r : List UInt8} (h : q = d ++ 47 :: r) : parentL q = d ∨ ∃ s, parentL q = d ++ 47 :: s := by
  obtain ⟨p, t, hq, ht⟩ := last_slash q (by rw [h]; simp)
  have hpar : parentL q = p := by rw [hq]; exact parentL_cat p t ht
  rw [hpar]
  have he : p ++ 47 :: t = d ++ 47 :: r := by rw [← hq, h]
  rcases List.append_eq_append_iff.1 he with ⟨a, h1, h2⟩ | ⟨a, h1, h2⟩
  · cases a with
    | nil => left; simpa using h1.symm
    | cons x a =>
      exfalso
      rw [List.cons_append, List.cons.injEq] at h2
      apply ht
      rw [h2.2]
      simp
  · cases a with
    | nil => left; simpa using h1
    | cons x a =>
      right
      rw [List.cons_append, List.cons.injEq] at h2
      exact ⟨a, by rw [h1, ← h2.1]⟩
theorem parent_shorter {l : List UInt8} (h : validP l = true) : (parentL l).length < l.length := by
  by_cases hm : (47 : UInt8) ∈ l
  · obtain ⟨p, t, hq, ht⟩ := last_slash l hm
    have : parentL l = p := by rw [hq]; exact parentL_cat p t ht
    rw [this, hq]; simp
  · rw [parentL_no l hm]
    have := valid_ne h
    cases l with
    | nil => exact absurd rfl this
    | cons => simp
/-- In a tree, whatever lies strictly within a path lies within a directory of the tree. -/
theorem TOk.above {L : List Ent} (h : TOk L) {d : List UInt8} (hd : d ≠ []) : ∀ (n : Nat) {e : Ent}, (bl e.path).length ≤ n → e ∈ L → ∀ r, bl e.path = d ++ 47 :: r → ∃ f ∈ L, bl f.path = d ∧ f.kind = 2
  | 0, e, hn, _, r, hr => by rw [hr] at hn; simp at hn
  | n + 1, e, hn, he, r, hr => by
    have hne : parentL (bl e.path) ≠ [] := by
      rcases below_parent hr with h1 | ⟨s, h1⟩
      · rw [h1]; exact hd
      · rw [h1]; simp
    obtain ⟨f, hf, hfp, hfk⟩ := dirE_zero (h.up e he) hne
    rcases below_parent hr with h1 | ⟨s, h1⟩
    · exact ⟨f, hf, by rw [hfp, h1], hfk⟩
    · have := parent_shorter (vEnt_path (h.val e he))
      exact h.above hd n (by rw [hfp]; omega) hf s (by rw [hfp, h1])
end Go.Proofs.YtdieneaillkbgaaGreatDoor

/- Trees of entries, in plain words: Check says whether it is a tree; what is done to a tree leaves a tree. -/
namespace Go.Proofs.YtdieneaillkbgaaGreatDoor
open Go.RowKit
/-- Parents there, in words. -/
def HasUp (M : List Ent) (x : Ent) : Prop := parentL (bl x.path) = [] ∨ ∃ f ∈ M, bl f.path = parentL (bl x.path) ∧ f.kind = 2
theorem up_has {L : List Ent} {x : Ent} (h : dirE L (parentL (bl x.path)) = 0) : HasUp L x := by
  by_cases hp : parentL (bl x.path) = []
  · exact .inl hp
  · obtain ⟨f, h1, h2, h3⟩ := dirE_zero h hp
    exact .inr ⟨f, h1, h2, h3⟩
theorem TOk.has {L : List Ent} (h : TOk L) {e : Ent} (he : e ∈ L) : HasUp L e := up_has (h.up e he)
/-- A path from its parent. -/
theorem parent_back {l : List UInt8} (h : parentL l ≠ []) : ∃ t, l = parentL l ++ 47 :: t := by
  by_cases hm : (47 : UInt8) ∈ l
  · obtain ⟨p, q, rfl, hq⟩ := last_slash l hm
    exact ⟨q, by rw [parentL_cat p q hq]⟩
  · exact absurd (parentL_no l hm) h
/- Check. -/
theorem dirE_mono {L M : List Ent} (hm : (M.map Ent.path).Nodup) (hs : ∀ x ∈ L, x ∈ M) {p : List UInt8} (h : dirE L p = 0) : dirE M p = 0 := by
  by_cases hp : p = []
  · exact dirE_of hm (.inl hp)
  · obtain ⟨f, h1, h2, h3⟩ := dirE_zero h hp
    exact dirE_of hm (.inr ⟨f, hs f h1, h2, h3⟩)
structure Tr (L : List Ent) : Prop where
  ord : SortedE L
  val : ∀ e ∈ L, vEnt e = true
  up : ∀ e ∈ L, dirE L (parentL (bl e.path)) = 0
theorem parent_before {e f : Ent} (hv : vEnt e = true) (hp : parentL (bl e.path) ≠ []) (hf : bl f.path = parentL (bl e.path)) : cmpE f e < 0 := by
  obtain ⟨t, ht⟩ := parent_back hp
  have h1 : cmpE f e ≤ 0 := by
    unfold cmpE
    rw [hf, ht]
    have := cmp_app (parentL (bl e.path)) (47 :: t)
    have h2 : parentL (parentL (bl e.path) ++ 47 :: t) = parentL (bl e.path) := by rw [← ht]
    rw [h2]; exact this
  rcases Int.lt_or_eq_of_le h1 with h | h
  · exact h
  · have h2 := cmpE_zero.1 h
    have h3 := parent_shorter (vEnt_path hv)
    rw [← hf, h2] at h3
    omega
theorem Tr.pre {L M : List Ent} (h : Tr (L ++ M)) : Tr L := by
  obtain ⟨s1, s2, s3⟩ := List.pairwise_append.1 h.ord
  refine ⟨s1, fun e he => h.val e (by simp [he]), fun e he => ?_⟩
  have hu := up_has (h.up e (by simp [he]))
  refine dirE_of (SortedE.nodup s1) ?_
  rcases hu with hu | ⟨f, h1, h2, h3⟩
  · exact .inl hu
  · by_cases hp : parentL (bl e.path) = []
    · exact .inl hp
    · right
      have hb := parent_before (h.val e (by simp [he])) hp h2
      rcases List.mem_append.1 h1 with h1 | h1
      · exact ⟨f, h1, h2, h3⟩
      · have h4 := s3 e he f h1
        have h5 := cmpE_neg e f
        omega
theorem afterE_iff {pre : List Ent} (hs : SortedE pre) {e : Ent} : afterE pre e = true ↔ SortedE (pre ++ [e]) := by
  unfold afterE
  cases hl : pre.getLast? with
  | none =>
    rw [List.getLast?_eq_none_iff] at hl
    subst hl
    simp [SortedE]
  | some f =>
    obtain ⟨ys, hy⟩ := List.getLast?_eq_some_iff.1 hl
    simp only [decide_eq_true_eq]
    constructor
    · intro h
      refine List.pairwise_append.2 ⟨hs, by simp, fun a ha b hb => ?_⟩
      simp only [List.mem_singleton] at hb
      subst hb
      rw [hy] at ha hs
      rcases List.mem_append.1 ha with ha | ha
      · exact cmpE_lt_trans ((List.pairwise_append.1 hs).2.2 a ha f (by simp)) h
      · simp only [List.mem_singleton] at ha; subst ha; exact h
    · intro h
      exact (List.pairwise_append.1 h).2.2 f (by rw [hy]; simp) e (by simp)
theorem checkAt_iff {pre : List Ent} (h : Tr pre) (e : Ent) : checkAt pre e = 0 ↔ Tr (pre ++ [e]) := by
  unfold checkAt
  constructor
  · intro hc
    split at hc
    · rename_i hva
      rw [Bool.and_eq_true] at hva
      have hs := (afterE_iff h.ord).1 hva.2
      have hm : ∀ x ∈ pre, x ∈ pre ++ [e] := fun x hx => by simp [hx]
      refine ⟨hs, fun x hx => ?_, fun x hx => ?_⟩
      · rcases List.mem_append.1 hx with hx | hx
        · exact h.val x hx
        · simp only [List.mem_singleton] at hx; subst hx; exact hva.1
      · rcases List.mem_append.1 hx with hx | hx
        · exact dirE_mono hs.nodup hm (h.up x hx)
        · simp only [List.mem_singleton] at hx; subst hx; exact dirE_mono hs.nodup hm hc
    · simp at hc
  · intro ht
    have hv := ht.val e (by simp)
    rw [if_pos (by rw [hv, (afterE_iff h.ord).2 ht.ord]; rfl)]
    refine dirE_of h.ord.nodup ?_
    rcases up_has (ht.up e (by simp)) with hu | ⟨f, h1, h2, h3⟩
    · exact .inl hu
    · rcases List.mem_append.1 h1 with h1 | h1
      · exact .inr ⟨f, h1, h2, h3⟩
      · simp only [List.mem_singleton] at h1
        subst h1
        have := parent_shorter (vEnt_path hv)
        rw [← h2] at this; omega
theorem checkF_iff : ∀ {r pre : List Ent}, Tr pre → (checkF pre r = 0 ↔ Tr (pre ++ r))
  | [], pre, h => by simp only [checkF, List.append_nil]; exact ⟨fun _ => h, fun _ => trivial⟩
  | e :: r, pre, h => by
    have h1 := checkAt_iff h e
    rw [checkF]
    split
    · rename_i hc
      have := checkF_iff (r := r) (h1.1 hc)
      rw [this]; simp
    · rename_i hc
      constructor
      · intro h2; exact absurd h2 hc
      · intro h2
        have h3 : Tr (pre ++ [e]) := Tr.pre (M := r) (by simpa using h2)
        exact absurd (h1.2 h3) hc
theorem checkP_iff {L : List Ent} : checkP L = 0 ↔ TOk L := by
  unfold checkP
  split
  · rename_i h
    exact ⟨fun h2 => by simp at h2, fun h2 => by have := h2.len; omega⟩
  · rename_i h
    rw [checkF_iff (r := L) (pre := []) ⟨List.Pairwise.nil, by simp, by simp⟩, List.nil_append]
    exact ⟨fun t => ⟨t.ord, t.val, t.up, by omega⟩, fun t => ⟨t.ord, t.val, t.up⟩⟩
end Go.Proofs.YtdieneaillkbgaaGreatDoor

/- Trees of entries, in plain words: what is listed, counted, removed and moved, whatever order a map has. -/
namespace Go.Proofs.YtdieneaillkbgaaGreatDoor
open Go.RowKit
theorem data_file {e : Ent} (h : vEnt e = true) (hk : e.kind ≠ 1) : e.data.length = 0 := by
  unfold vEnt vKind at h
  simp only [Bool.and_eq_true] at h
  have h2 := h.2
  rw [if_neg hk] at h2
  split at h2
  · simp only [Bool.and_eq_true, decide_eq_true_eq] at h2; exact h2.1
  · split at h2
    · simp only [Bool.and_eq_true, decide_eq_true_eq] at h2; exact h2.1
    · simp at h2
theorem kind_of {e : Ent} (h : vEnt e = true) : e.kind = 1 ∨ e.kind = 2 ∨ e.kind = 3 := by
  unfold vEnt vKind at h
  simp only [Bool.and_eq_true] at h
  have h2 := h.2
  split at h2
  · exact .inl (by assumption)
  · split at h2
    · exact .inr (.inl (by assumption))
    · split at h2
      · exact .inr (.inr (by assumption))
      · simp at h2
theorem size_zero {p : ByteArray} : p.size = 0 ↔ bl p = [] := by rw [size_bl]; exact List.length_eq_zero_iff
def hasP (ps : List ByteArray) (p : ByteArray) : Bool := ps.any fun q => decide (q = p)
theorem hasP_iff {ps : List ByteArray} {p : ByteArray} : hasP ps p = true ↔ p ∈ ps := by
  unfold hasP; rw [List.any_eq_true]
  exact ⟨fun ⟨q, h1, h2⟩ => by rw [decide_eq_true_eq] at h2; exact h2 ▸ h1, fun h => ⟨p, h, by simp⟩⟩
end Go.Proofs.YtdieneaillkbgaaGreatDoor

/- Trees of entries, in plain words: what a Put leaves, moving there and back. -/
namespace Go.Proofs.YtdieneaillkbgaaGreatDoor
open Go.RowKit
theorem find_none_iff {L : List Ent} {p : ByteArray} : findE L p = none ↔ ∀ e ∈ L, e.path ≠ p := by
  refine ⟨findE_none, fun h => ?_⟩
  cases hf : findE L p with
  | none => rfl
  | some e => exact absurd (findE_some hf).2 (h e (findE_some hf).1)
end Go.Proofs.YtdieneaillkbgaaGreatDoor

/- Entries in memory. -/
namespace Go.Proofs.YtdieneaillkbgaaGreatDoor
open Go.RowKit
def u8V (b : UInt8) : Value := .int .u8 (b.toNat : Int)
def DataAt (S : Nat → Prop) (w : World) (v : Value) (bs : List UInt8) : Prop := RowAt S w 1 v bs.length (bs.map u8V)
theorem DataAt.below {S : Nat → Prop} {w w' : World} {v : Value} {bs : List UInt8} (h : DataAt S w v bs) (hb : Below w.heap.size w w') : DataAt S w' v bs := RowAt.below h (by omega) hb
theorem DataAt.nil (S : Nat → Prop) (w : World) : DataAt S w (.slice none 0 0) [] := RowAt.nil _ _ _
def entV (v : Value) (e : Ent) : Value := .agg #[.string e.path, .int .i64 e.kind, .int .i64 e.mode, .int .i64 e.time, v, .string e.link]
def entC (v : Value) (e : Ent) : List Value := [.string e.path, .int .i64 e.kind, .int .i64 e.mode, .int .i64 e.time, v, .string e.link]
structure EntOk (e : Ent) : Prop where
  pth : e.path.size ≤ maxLen
  lnk : e.link.size ≤ maxLen
  knd : (Lit.int .i64 e.kind).wf = true
  mde : (Lit.int .i64 e.mode).wf = true
  tim : (Lit.int .i64 e.time).wf = true
def EntR (S : Nat → Prop) (w : World) (c : List Value) (e : Ent) : Prop := ∃ v, c = entC v e ∧ DataAt S w v e.data ∧ EntOk e
theorem EntR.len {S : Nat → Prop} {w : World} (c : List Value) (e : Ent) (h : EntR S w c e) : c.length = 6 := by obtain ⟨v, rfl, _⟩ := h; rfl
theorem EntR.below {S : Nat → Prop} {w w' : World} {c : List Value} {e : Ent} (h : EntR S w c e) (hb : Below w.heap.size w w') : EntR S w' c e := by
  obtain ⟨v, h1, h2, h3⟩ := h
  exact ⟨v, h1, h2.below hb, h3⟩
def EntsAt (S : Nat → Prop) (w : World) (v : Value) (l : List Ent) : Prop := SeqAt S w 6 (EntR S w) v l
theorem EntsAt.below {S : Nat → Prop} {w w' : World} {v : Value} {l : List Ent} (h : EntsAt S w v l) (hb : Below w.heap.size w w') : EntsAt S w' v l :=
  SeqAt.below h (by omega) hb (fun _ _ _ hr => hr.below hb)
theorem EntsAt.nil (S : Nat → Prop) (w : World) : EntsAt S w (.slice none 0 0) [] := SeqAt.nil
/-- The six cells of an entry in a row. -/
theorem ents_at {S : Nat → Prop} {w : World} {a : Option Addr} {n cap : Nat} {l : List Ent} (hv : EntsAt S w (.slice a n cap) l) {k : Nat} {e : Ent} (hr : l[k]? = some e) :
    ∃ b o v, a = some ⟨b, o, none⟩ ∧ S b ∧ b < w.heap.size ∧ DataAt S w v e.data ∧ EntOk e ∧ n = l.length ∧ w.cell? ⟨b, o + k * 6, none⟩ = some (.string e.path) ∧ w.cell? ⟨b, o + k * 6 + 1, none⟩ = some (.int .i64 e.kind) ∧ w.cell? ⟨b, o + k * 6 + 2, none⟩ = some (.int .i64 e.mode) ∧ w.cell? ⟨b, o + k * 6 + 3, none⟩ = some (.int .i64 e.time) ∧ w.cell? ⟨b, o + k * 6 + 4, none⟩ = some v ∧ w.cell? ⟨b, o + k * 6 + 5, none⟩ = some (.string e.link) := by
  obtain ⟨a', cap', he, hn, hm, hat⟩ := SeqAt.shape hv EntR.len
  simp only [Value.slice.injEq] at he
  obtain ⟨rfl, rfl, rfl⟩ := he
  obtain ⟨b, o, c, ha, hb, ⟨v, hc, hd, hok⟩, hl, hj⟩ := hat k e hr
  subst hc
  have hc0 := hj 0 (by omega)
  exact ⟨b, o, v, ha, hb, block_lt (hc0.trans rfl), hd, hok, rfl, hc0, by have h := hj 1 (by omega); rwa [← Nat.add_assoc] at h, by have h := hj 2 (by omega); rwa [← Nat.add_assoc] at h, by have h := hj 3 (by omega); rwa [← Nat.add_assoc] at h, by have h := hj 4 (by omega); rwa [← Nat.add_assoc] at h, by have h := hj 5 (by omega); rwa [← Nat.add_assoc] at h⟩
end Go.Proofs.YtdieneaillkbgaaGreatDoor

/- Trees in memory: a map whose values are entries. -/
namespace Go.Proofs.YtdieneaillkbgaaGreatDoor
open Go Go.RowKit Go.Maps
abbrev VEnt := Value × Ent
def pairOf (x : VEnt) : Value × Value := (.string x.2.path, entV x.1 x.2)
theorem lawStr20 : Keyed Tryz.prog 9 := string_keyed Tryz.underlying9
theorem keyStr20 {n : ByteArray} (h : n.size ≤ maxLen) : ∃ l, keyOf Tryz.prog 9 (.string n) = some l := ⟨.string n.data.toList, by simp [keyOf, mapKey, Tryz.underlying9, h]⟩
/-- The map's block holds the entries xs in the order in which they came; their data lie in blocks of S. -/
structure MapE (S : Nat → Prop) (w : World) (mb : Nat) (xs : List VEnt) : Prop where
  map : MapS Tryz.prog 9 w mb (xs.map pairOf)
  dat : ∀ x ∈ xs, DataAt S w x.1 x.2.data ∧ EntOk x.2
  far : ¬ S mb
section
variable {S S' : Nat → Prop} {w w' : World} {mb : Nat} {xs : List VEnt}
theorem map_fst (xs : List VEnt) : (xs.map pairOf).map Prod.fst = (xs.map (fun x => x.2.path)).map Value.string := by
  rw [List.map_map, List.map_map]; rfl
theorem MapE.nodup (h : MapE S w mb xs) : (xs.map (fun x => x.2.path)).Nodup := by
  have := h.map.nodup
  rw [map_fst] at this
  unfold List.Nodup at this ⊢
  rw [List.pairwise_map] at this
  exact this.imp (fun h e => h (by rw [e]))
theorem MapE.nodupE (h : MapE S w mb xs) : ((xs.map Prod.snd).map Ent.path).Nodup := by
  rw [List.map_map]; exact h.nodup
theorem data_grown {v : Value} {bs : List UInt8} (h : DataAt S w v bs) (hf : ¬ S mb) (hg : w.grownBy w' (some mb)) : DataAt S w' v bs := by
  have h2 := RowAt.mono (T := fun k => S k ∧ k < w.heap.size) h (fun k hk hS => ⟨hS, hk⟩) (by omega)
  have h3 := h2.same (w' := w') (fun k hk => hg.block k hk.2 (fun e => hf (by cases e; exact hk.1)))
  obtain ⟨hl, a, cap, hv, hn, hm, h0⟩ := h3
  refine ⟨hl, a, cap, hv, hn, hm, ?_⟩
  rcases h0 with h0 | ⟨b, o, ha, hb, hc⟩
  · exact .inl h0
  · exact .inr ⟨b, o, ha, hb.1, hc⟩
theorem data_mono {v : Value} {bs : List UInt8} (h : DataAt S w v bs) (hs : ∀ k, S k → S' k) : DataAt S' w v bs := RowAt.mono h (fun k _ => hs k) (by omega)
theorem MapE.below (h : MapE S w mb xs) (hb : Below w.heap.size w w') : MapE S w' mb xs :=
  ⟨h.map.same (hb.block mb h.map.lt), fun x hx => ⟨(h.dat x hx).1.below hb, (h.dat x hx).2⟩, h.far⟩
theorem MapE.mono (h : MapE S w mb xs) (hs : ∀ k, S k → S' k) (hf : ¬ S' mb) : MapE S' w mb xs :=
  ⟨h.map, fun x hx => ⟨data_mono (h.dat x hx).1 hs, (h.dat x hx).2⟩, hf⟩
theorem MapE.mem (_ : MapE S w mb xs) {x : VEnt} (hx : x ∈ xs) : (Value.string x.2.path, entV x.1 x.2) ∈ xs.map pairOf := List.mem_map.2 ⟨x, hx, rfl⟩
theorem MapE.new (_ : MapE S w mb xs) {p : ByteArray} (hp : ∀ x ∈ xs, x.2.path ≠ p) : ∀ q ∈ xs.map pairOf, q.1 ≠ Value.string p := by
  intro q hq
  obtain ⟨x, hx, rfl⟩ := List.mem_map.1 hq
  intro e
  simp only [pairOf, Value.string.injEq] at e
  exact hp x hx e
/-- The map grows by an entry. -/
theorem MapE.put (h : MapE S w mb xs) {v : Value} {e : Ent} (hm : MapS Tryz.prog 9 w' mb (xs.map pairOf ++ [(.string e.path, entV v e)])) (hg : w.grownBy w' (some mb)) (hd : DataAt S w v e.data) (he : EntOk e) : MapE S w' mb (xs ++ [(v, e)]) := by
  refine ⟨by rw [List.map_append]; exact hm, fun x hx => ?_, h.far⟩
  rcases List.mem_append.1 hx with hx | hx
  · exact ⟨data_grown (h.dat x hx).1 h.far hg, (h.dat x hx).2⟩
  · rw [List.mem_singleton] at hx
    subst hx
    exact ⟨data_grown hd h.far hg, he⟩
theorem MapE.over {a b : List VEnt} {v0 : Value} {e0 : Ent} (h : MapE S w mb (a ++ (v0, e0) :: b)) {v : Value} {e : Ent} (hm : MapS Tryz.prog 9 w' mb (a.map pairOf ++ (.string e.path, entV v e) :: b.map pairOf)) (hg : w.grownBy w' (some mb)) (hd : DataAt S w v e.data) (he : EntOk e) : MapE S w' mb (a ++ (v, e) :: b) := by
  refine ⟨by rw [List.map_append, List.map_cons]; exact hm, fun x hx => ?_, h.far⟩
  rcases List.mem_append.1 hx with hx | hx
  · have := h.dat x (by simp [hx])
    exact ⟨data_grown this.1 h.far hg, this.2⟩
  · rcases List.mem_cons.1 hx with rfl | hx
    · exact ⟨data_grown hd h.far hg, he⟩
    · have := h.dat x (by simp [hx])
      exact ⟨data_grown this.1 h.far hg, this.2⟩
theorem MapE.del {a b : List VEnt} {x0 : VEnt} (h : MapE S w mb (a ++ x0 :: b)) (hm : MapS Tryz.prog 9 w' mb (a.map pairOf ++ b.map pairOf)) (hg : w.grownBy w' (some mb)) : MapE S w' mb (a ++ b) := by
  refine ⟨by rw [List.map_append]; exact hm, fun x hx => ?_, h.far⟩
  have := h.dat x (by rcases List.mem_append.1 hx with hx | hx <;> simp [hx])
  exact ⟨data_grown this.1 h.far hg, this.2⟩
theorem MapE.made (S : Nat → Prop) (w : World) (hf : ¬ S w.heap.size) : MapE S (w.alloc (.map #[] 0)) w.heap.size [] := ⟨MapS.made w, by simp, hf⟩
end
/-- The entry zero. -/
def zeroE : Value := .agg #[.string ByteArray.empty, .int .i64 0, .int .i64 0, .int .i64 0, .slice none 0 0, .string ByteArray.empty]
section
variable {S S' : Nat → Prop} {w w' : World} {tb mb : Nat} {L : List Ent}
theorem find_vent {xs : List VEnt} {e : Ent} (h : e ∈ xs.map Prod.snd) : ∃ v, (v, e) ∈ xs := by
  obtain ⟨x, hx, rfl⟩ := List.mem_map.1 h
  exact ⟨x.1, hx⟩
theorem MapE.hit {xs : List VEnt} (h : MapE S w mb xs) {t : TypeId} (ht : Tryz.prog.underlying t = some (.map 9 48)) {v : Value} {e : Ent} (hm : (v, e) ∈ xs) (c : Bool) :
    (Instr.lookup t (.map (some mb)) (.string e.path) c).run Tryz.prog w = .ok (if c then .tuple #[entV v e, .bool true] else entV v e) w :=
  h.map.is.hit lawStr20 ht (keyStr20 (h.dat _ hm).2.pth) (h.mem hm) c
theorem MapE.miss {xs : List VEnt} (h : MapE S w mb xs) {t : TypeId} (ht : Tryz.prog.underlying t = some (.map 9 48)) (hz : (zeroValue 48).run Tryz.prog w = .ok zeroE w) {p : ByteArray} (hp : p.size ≤ maxLen) (hm : ∀ x ∈ xs, x.2.path ≠ p) (c : Bool) :
    (Instr.lookup t (.map (some mb)) (.string p) c).run Tryz.prog w = .ok (if c then .tuple #[zeroE, .bool false] else zeroE) w :=
  h.map.is.miss lawStr20 ht hz (keyStr20 hp) (h.new hm) c
end
end Go.Proofs.YtdieneaillkbgaaGreatDoor

/- Trees in memory: putting an entry, striking entries out, at the instruction. -/
namespace Go.Proofs.YtdieneaillkbgaaGreatDoor
open Go Go.RowKit Go.Maps
section
variable {S S' : Nat → Prop} {w w' : World} {tb mb : Nat} {L : List Ent} {xs : List VEnt} {t : TypeId}
theorem split_find {xs : List VEnt} {e : Ent} (h : e ∈ xs.map Prod.snd) : ∃ a v b, xs = a ++ (v, e) :: b := by
  obtain ⟨v, hv⟩ := find_vent h
  obtain ⟨a, b, rfl⟩ := List.append_of_mem hv
  exact ⟨a, v, b, rfl⟩
theorem MapE.putRun (h : MapE S w mb xs) (ht : Tryz.prog.underlying t = some (.map 9 48)) {v : Value} {e : Ent} (hn : ∀ x ∈ xs, x.2.path ≠ e.path) (hd : DataAt S w v e.data) (he : EntOk e) :
    ∃ w', (Instr.mapUpdate t (.map (some mb)) (.string e.path) (entV v e)).run Tryz.prog w = .ok () w' ∧ MapE S w' mb (xs ++ [(v, e)]) ∧ w.grownBy w' (some mb) := by
  obtain ⟨w', h1, h2, h3⟩ := h.map.put lawStr20 ht (keyStr20 he.pth) (h.new hn) (entV v e)
  exact ⟨w', h1, h.put h2 h3 hd he, h3⟩
theorem MapE.overRun {a b : List VEnt} {v0 : Value} {e0 : Ent} (h : MapE S w mb (a ++ (v0, e0) :: b)) (ht : Tryz.prog.underlying t = some (.map 9 48)) {v : Value} {e : Ent} (hp : e0.path = e.path) (hd : DataAt S w v e.data) (he : EntOk e) :
    ∃ w', (Instr.mapUpdate t (.map (some mb)) (.string e.path) (entV v e)).run Tryz.prog w = .ok () w' ∧ MapE S w' mb (a ++ (v, e) :: b) ∧ w.grownBy w' (some mb) := by
  have hm := h.map
  rw [List.map_append, List.map_cons, show pairOf (v0, e0) = (.string e.path, entV v0 e0) by unfold pairOf; rw [show (v0, e0).2.path = e.path from hp]] at hm
  obtain ⟨w', h1, h2, h3⟩ := hm.over lawStr20 ht (entV v e)
  exact ⟨w', h1, h.over h2 h3 hd he, h3⟩
theorem MapE.delRun {a b : List VEnt} {x0 : VEnt} (h : MapE S w mb (a ++ x0 :: b)) (ht : Tryz.prog.underlying t = some (.map 9 48)) (ty : TypeId) :
    ∃ w', (Builtin.delete_ #[t, 9] ty #[.map (some mb), .string x0.2.path]).run Tryz.prog w = .ok (.tuple #[]) w' ∧ MapE S w' mb (a ++ b) ∧ w.grownBy w' (some mb) := by
  have hm := h.map
  rw [List.map_append, List.map_cons] at hm
  obtain ⟨w', h1, h2, h3⟩ := MapS.del (key := .string x0.2.path) (old := entV x0.1 x0.2) hm lawStr20 ht ty
  exact ⟨w', h1, h.del h2 h3, h3⟩
end
section
variable {P : Program} {w : World} {ops : Array Oper} {rest : List Oper} {o : Oper} {a : Act} {Q : Exit → Act → World → Prop}
/-- m[k] = v by its run. -/
theorem wpList_updRun {Φ : World → Prop} (hg : o.guard = none) (mo x v : Operand) (t : TypeId) (hop : o.op = Op.mapUpdate t mo x v) (mv key val : Value) (hmo : a.eval mo = mv) (hx : a.eval x = key) (hv : a.eval v = val) (hrun : ∃ w', (Instr.mapUpdate t mv key val).run P w = .ok () w' ∧ Φ w')
    (hK : ∀ w', Φ w' → wpList P ops Q rest (a.put o.dst undef) w') : wpList P ops Q (o :: rest) a w := by
  refine wpList_plain hg fun K' hK' => ?_
  obtain ⟨w', hr, h2⟩ := hrun
  unfold Oper.wp
  simp [execOp, hop, hmo, hx, hv, hr, Result.andThen]
  exact hK' _ _ (hK w' h2)
theorem wpList_delRun {Φ : World → Prop} (hg : o.guard = none) (mo x : Operand) (t k : TypeId) (hop : o.op = Op.call { callee := Callee.builtin Builtin.delete, args := #[mo, x], argTypes := #[t, k] }) (mv key : Value) (hmo : a.eval mo = mv) (hx : a.eval x = key) (hrun : ∃ w', (Builtin.delete_ #[t, k] o.type #[mv, key]).run P w = .ok (.tuple #[]) w' ∧ Φ w')
    (hK : ∀ w', Φ w' → wpList P ops Q rest (a.put o.dst (.tuple #[])) w') : wpList P ops Q (o :: rest) a w := by
  refine wpList_plain hg fun K' hK' => ?_
  obtain ⟨w', hr, h2⟩ := hrun
  unfold Oper.wp
  simp [execOp, hop, resolve, invoke, builtin, hmo, hx, hr, Result.andThen]
  exact hK' _ _ (hK w' h2)
end
end Go.Proofs.YtdieneaillkbgaaGreatDoor

/- Differences of trees, in plain words: what Diff returns, what Apply returns; applying the difference in whatever order gives the other tree. -/
namespace Go.Proofs.YtdieneaillkbgaaGreatDoor
open Go
structure Chg where
  kind : Int
  path : ByteArray
  src : ByteArray
  en : Ent
deriving DecidableEq
def noPath : ByteArray := ⟨#[]⟩
def noEnt : Ent := ⟨⟨#[]⟩, 0, 0, 0, [], ⟨#[]⟩⟩
def movB (e : Ent) : Bool := (decide (e.kind = 1) && decide (0 < e.data.length)) || decide (e.kind = 3)
def alikeE (x y : Ent) : Bool := decide (x.kind = y.kind) && (decide (x.data = y.data) && decide (x.link = y.link))
/-- Whether there is an entry of the same kind at the same path. -/
def keptE (b : List Ent) (x : Ent) : Bool := match findE b x.path with
  | some f => decide (f.kind = x.kind)
  | none => false
def goneE (a b : List Ent) : List Ent := a.filter fun x => !keptE b x
structure DSt where
  rem : List Ent
  out : List Chg
def mateE (s : List Ent) (y : Ent) : Option Ent := if movB y = true then s.find? (fun g => alikeE g y) else none
def dropE (L : List Ent) (p : ByteArray) : List Ent := L.filter fun x => decide (x.path ≠ p)
def stepD (a : List Ent) (s : DSt) (y : Ent) : DSt :=
  if keptE a y = true then ⟨s.rem, if findE a y.path = some y then s.out else s.out ++ [⟨4, y.path, noPath, y⟩]⟩
  else match mateE s.rem y with
    | some g => ⟨dropE s.rem g.path, s.out ++ [⟨2, y.path, g.path, y⟩]⟩
    | none => ⟨s.rem, s.out ++ [⟨3, y.path, noPath, y⟩]⟩
def remC (g : Ent) : Chg := ⟨1, g.path, noPath, noEnt⟩
def ofK (k : Int) (cs : List Chg) : List Chg := cs.filter fun c => decide (c.kind = k)
def diffS (a b : List Ent) : DSt := b.foldl (stepD a) ⟨goneE a b, []⟩
def diffP (a b : List Ent) : List Chg := (diffS a b).rem.map remC ++ ofK 2 (diffS a b).out ++ ofK 3 (diffS a b).out ++ ofK 4 (diffS a b).out
def hasE (L : List Ent) (p : ByteArray) : Bool := (findE L p).isSome
def alikeAt (a : List Ent) (p : ByteArray) (e : Ent) : Bool := match findE a p with
  | some f => alikeE f e
  | none => false
def takeP (a : List Ent) : List Ent → List Chg → Option (List Ent)
  | left, [] => some left
  | left, c :: cs =>
    if c.kind = 1 then (if hasE left c.path = true then takeP a (dropE left c.path) cs else none)
    else if c.kind = 2 then (if (hasE left c.src && alikeAt a c.src c.en) = true then takeP a (dropE left c.src) cs else none)
    else takeP a left cs
structure PSt where
  added : List Ent
  mods : List Ent
def stepP (left : List Ent) (s : PSt) (c : Chg) : Option PSt :=
  if c.kind = 2 ∨ c.kind = 3 then (if (hasE left c.path || hasE s.added c.path) = true then none else some ⟨s.added ++ [c.en], s.mods⟩)
  else if c.kind = 4 then match findE left c.path with
    | some f => if f.kind ≠ c.en.kind ∨ hasE s.mods c.path = true then none else some ⟨s.added, s.mods ++ [c.en]⟩
    | none => none
  else some s
def putsP (left : List Ent) : PSt → List Chg → Option PSt
  | s, [] => some s
  | s, c :: cs => match stepP left s c with
    | some t => putsP left t cs
    | none => none
def overE (mods : List Ent) (x : Ent) : Ent := match findE mods x.path with
  | some y => y
  | none => x
def resE (left : List Ent) (s : PSt) : List Ent := left.map (overE s.mods) ++ s.added
def applyQ (a : List Ent) (cs : List Chg) : List Ent × Int := match takeP a a cs with
  | none => ([], 13)
  | some left => match putsP left ⟨[], []⟩ cs with
    | none => ([], 13)
    | some s => if checkP (sortP (resE left s)) = 0 then (sortP (resE left s), 0) else ([], 13)
def chgOk (c : Chg) : Bool :=
  if c.kind = 1 then validP (bl c.path) && (decide (c.src = noPath) && decide (c.en = noEnt))
  else if c.kind = 2 then decide (c.path = c.en.path) && (validP (bl c.src) && (vEnt c.en && decide (c.en.kind ≠ 2)))
  else if c.kind = 3 ∨ c.kind = 4 then decide (c.path = c.en.path) && (decide (c.src = noPath) && vEnt c.en)
  else false
/-- What check returns. -/
def chkC (a : List Ent) (cs : List Chg) : Int := if checkP a ≠ 0 then checkP a else if cs.all chgOk = false then 1 else 0
def applyP (a : List Ent) (cs : List Chg) : List Ent × Int := if chkC a cs ≠ 0 then ([], chkC a cs) else applyQ a cs
theorem findE_isSome {L : List Ent} {p : ByteArray} : hasE L p = true ↔ p ∈ L.map Ent.path := by
  unfold hasE
  rw [Option.isSome_iff_exists, List.mem_map]
  constructor
  · rintro ⟨e, he⟩; exact ⟨e, findE_some he⟩
  · rintro ⟨e, he, hp⟩
    cases hf : findE L p with
    | some f => exact ⟨f, rfl⟩
    | none => exact absurd hp (findE_none hf e he)
end Go.Proofs.YtdieneaillkbgaaGreatDoor

/- Differences of trees, in plain words: applying the difference, in whatever order, gives the other tree. -/
namespace Go.Proofs.YtdieneaillkbgaaGreatDoor
open Go
/-- What holds of a change that was found. -/
structure ChgIn (a b : List Ent) (c : Chg) : Prop where
  kind : c.kind = 2 ∨ c.kind = 3 ∨ c.kind = 4
  path : c.path = c.en.path
  mem : c.en ∈ b
  four : c.kind = 4 ↔ keptE a c.en = true
  two : c.kind = 2 → movB c.en = true ∧ ∃ g ∈ goneE a b, c.src = g.path ∧ alikeE g c.en = true
  src : c.kind ≠ 2 → c.src = noPath
structure DInv (a b pre : List Ent) (s : DSt) : Prop where
  sub : s.rem.Sublist (goneE a b)
  ens : s.out.map Chg.en = pre.filter fun y => decide (findE a y.path ≠ some y)
  all : ∀ c ∈ s.out, ChgIn a b c
  perm : (s.rem.map Ent.path ++ (ofK 2 s.out).map Chg.src).Perm ((goneE a b).map Ent.path)
theorem kept_find {a : List Ent} {y : Ent} (h : findE a y.path = some y) : keptE a y = true := by unfold keptE; rw [h]; simp
theorem gone_mem {a b : List Ent} {x : Ent} : x ∈ goneE a b ↔ x ∈ a ∧ keptE b x = false := by simp [goneE]
theorem drop_perm {L : List Ent} (hn : (L.map Ent.path).Nodup) {g : Ent} (hg : g ∈ L) : (g :: dropE L g.path).Perm L := by
  induction L with
  | nil => cases hg
  | cons x L ih =>
    have h1 := List.nodup_cons.1 hn
    unfold dropE
    rcases List.mem_cons.1 hg with rfl | hg'
    · rw [List.filter_cons_of_neg (by simp), List.filter_eq_self.2 (fun y hy => ?_)]
      simp only [decide_eq_true_eq]
      exact fun he => h1.1 (he ▸ List.mem_map_of_mem hy)
    · have hne : x.path ≠ g.path := fun he => h1.1 (he ▸ List.mem_map_of_mem hg')
      rw [List.filter_cons_of_pos (by simpa using hne)]
      exact (List.Perm.swap x g _).trans ((ih h1.2 hg').cons x)
theorem mate_some {s : List Ent} {y g : Ent} (h : mateE s y = some g) : g ∈ s ∧ movB y = true ∧ alikeE g y = true := by
  unfold mateE at h
  split at h
  · exact ⟨List.mem_of_find?_eq_some h, ‹_›, by simpa using List.find?_some h⟩
  · cases h
theorem ofK_app (k : Int) (l : List Chg) (c : Chg) : ofK k (l ++ [c]) = ofK k l ++ (if c.kind = k then [c] else []) := by
  unfold ofK
  rw [List.filter_append]
  congr 1
  by_cases h : c.kind = k <;> simp [h]
theorem DInv.nil (a b : List Ent) : DInv a b [] ⟨goneE a b, []⟩ := ⟨List.Sublist.refl _, by simp, by simp, by simp [ofK]⟩
theorem DInv.rem_nodup {a b pre : List Ent} {s : DSt} (h : DInv a b pre s) (ha : TOk a) : (s.rem.map Ent.path).Nodup :=
  ha.nodup.sublist ((h.sub.trans List.filter_sublist).map _)
theorem DInv.step {a b pre : List Ent} {s : DSt} (h : DInv a b pre s) (ha : TOk a) {y : Ent} (hy : y ∈ b) : DInv a b (pre ++ [y]) (stepD a s y) := by
  have hens : ∀ c : Chg, c.en = y → findE a y.path ≠ some y → (s.out ++ [c]).map Chg.en = (pre ++ [y]).filter fun y => decide (findE a y.path ≠ some y) := by
    intro c hc hne
    rw [List.filter_append, List.map_append, h.ens]
    simp [hc, hne]
  have hall : ∀ c : Chg, ChgIn a b c → ∀ x ∈ s.out ++ [c], ChgIn a b x := by
    intro c hc x hx
    rcases List.mem_append.1 hx with hx | hx
    · exact h.all x hx
    · rw [List.mem_singleton.1 hx]; exact hc
  unfold stepD
  by_cases hk : keptE a y = true
  · rw [if_pos hk]
    by_cases hf : findE a y.path = some y
    · rw [if_pos hf]
      refine ⟨h.sub, ?_, h.all, h.perm⟩
      rw [List.filter_append, h.ens]
      simp [hf]
    · rw [if_neg hf]
      refine ⟨h.sub, hens _ rfl hf, hall _ ⟨by simp, rfl, hy, by simpa using hk, fun he => by simp at he, fun _ => rfl⟩, ?_⟩
      rw [ofK_app]
      simpa using h.perm
  · rw [if_neg hk]
    have hf : findE a y.path ≠ some y := fun he => hk (kept_find he)
    cases hm : mateE s.rem y with
    | none =>
      refine ⟨h.sub, hens _ rfl hf, hall _ ⟨by simp, rfl, hy, by simpa using hk, fun he => by simp at he, fun _ => rfl⟩, ?_⟩
      rw [ofK_app]
      simpa using h.perm
    | some g =>
      obtain ⟨hg, hmv, hal⟩ := mate_some hm
      refine ⟨List.filter_sublist.trans h.sub, hens _ rfl hf, hall _ ⟨by simp, rfl, hy, by simpa using hk, fun _ => ⟨hmv, g, h.sub.subset hg, rfl, hal⟩, fun he => absurd rfl he⟩, ?_⟩
      rw [ofK_app]
      have hp := (drop_perm (h.rem_nodup ha) hg).map Ent.path
      refine List.Perm.trans ?_ h.perm
      simp only [if_true, List.map_append, List.map_cons, List.map_nil]
      rw [← List.append_assoc]
      refine (List.perm_append_singleton _ _).trans ?_
      exact (hp.append_right ((ofK 2 s.out).map Chg.src))
theorem dinv_fold {a b : List Ent} (ha : TOk a) : ∀ {r pre : List Ent} {s : DSt}, DInv a b pre s → (∀ y ∈ r, y ∈ b) → DInv a b (pre ++ r) (r.foldl (stepD a) s)
  | [], pre, s, h, _ => by simpa using h
  | y :: r, pre, s, h, hr => by
    rw [List.foldl_cons]
    have := dinv_fold ha (r := r) (h.step ha (hr y (List.mem_cons_self ..))) (fun z hz => hr z (List.mem_cons_of_mem _ hz))
    simpa using this
theorem dinv {a : List Ent} (ha : TOk a) (b : List Ent) : DInv a b b (diffS a b) := by
  have := dinv_fold ha (r := b) (DInv.nil a b) (fun _ h => h)
  simpa [diffS] using this
theorem ofK_cons (k : Int) (c : Chg) (l : List Chg) : ofK k (c :: l) = if c.kind = k then c :: ofK k l else ofK k l := by
  unfold ofK
  by_cases h : c.kind = k <;> simp [h]
theorem mem_ofK {k : Int} {l : List Chg} {c : Chg} : c ∈ ofK k l ↔ c ∈ l ∧ c.kind = k := by simp [ofK]
theorem ofK_sub (k : Int) (l : List Chg) : (ofK k l).Sublist l := List.filter_sublist
end Go.Proofs.YtdieneaillkbgaaGreatDoor

/- Differences of trees, in plain words: the difference applied in whatever order; the empty difference. -/
namespace Go.Proofs.YtdieneaillkbgaaGreatDoor
open Go
theorem sorted_mem_eq {L M : List Ent} (hL : SortedE L) (hM : SortedE M) (h : ∀ x, x ∈ L ↔ x ∈ M) : L = M := by
  induction L generalizing M with
  | nil =>
    cases M with
    | nil => rfl
    | cons y M => exact absurd ((h y).2 (List.mem_cons_self ..)) (by simp)
  | cons x L ih =>
    cases M with
    | nil => exact absurd ((h x).1 (List.mem_cons_self ..)) (by simp)
    | cons y M =>
      have hL' := List.pairwise_cons.1 hL
      have hM' := List.pairwise_cons.1 hM
      have hxy : x = y := by
        rcases List.mem_cons.1 ((h x).1 (List.mem_cons_self ..)) with he | hx
        · exact he
        · rcases List.mem_cons.1 ((h y).2 (List.mem_cons_self ..)) with he | hy
          · exact he.symm
          · have h1 := hM'.1 x hx
            have h2 := hL'.1 y hy
            have h3 := cmpE_lt_trans h1 h2
            rw [cmpE_zero.2 rfl] at h3
            omega
      subst hxy
      rw [ih hL'.2 hM'.2 fun z => ?_]
      constructor
      · intro hz
        rcases List.mem_cons.1 ((h z).1 (List.mem_cons_of_mem _ hz)) with he | hz'
        · have := hL'.1 z hz; rw [he, cmpE_zero.2 rfl] at this; omega
        · exact hz'
      · intro hz
        rcases List.mem_cons.1 ((h z).2 (List.mem_cons_of_mem _ hz)) with he | hz'
        · have := hM'.1 z hz; rw [he, cmpE_zero.2 rfl] at this; omega
        · exact hz'
theorem mem_diff {a b : List Ent} {c : Chg} (h : c ∈ diffP a b) : (∃ g ∈ (diffS a b).rem, c = remC g) ∨ c ∈ (diffS a b).out := by
  unfold diffP at h
  simp only [List.mem_append, List.mem_map] at h
  rcases h with ((⟨g, hg, rfl⟩ | h) | h) | h
  · exact Or.inl ⟨g, hg, rfl⟩
  · exact Or.inr (mem_ofK.1 h).1
  · exact Or.inr (mem_ofK.1 h).1
  · exact Or.inr (mem_ofK.1 h).1
theorem over_path (M : List Ent) (x : Ent) : (overE M x).path = x.path := by
  unfold overE
  split
  · exact (findE_some ‹_›).2
  · rfl
end Go.Proofs.YtdieneaillkbgaaGreatDoor

/- Merges of three trees, in plain words. -/
namespace Go.Proofs.YtdieneaillkbgaaGreatDoor
open Go
def isDirO : Option Ent → Bool
  | some e => decide (e.kind = 2)
  | none => false
def upB (d l : List UInt8) : Bool := decide (d ≠ []) && Lib.hasPrefix l (d ++ [47])
theorem upB_iff {d l : List UInt8} : upB d l = true ↔ d ≠ [] ∧ ∃ r, l = d ++ 47 :: r := by
  unfold upB
  rw [Bool.and_eq_true, decide_eq_true_eq, hasPrefix_iff]
  constructor
  · rintro ⟨h, r, hr⟩; exact ⟨h, r, by rw [hr]; simp⟩
  · rintro ⟨h, r, hr⟩; exact ⟨h, r, by rw [hr]; simp⟩
theorem up_step {d l : List UInt8} : upB d l = true ↔ parentL l ≠ [] ∧ (d = parentL l ∨ upB d (parentL l) = true) := by
  constructor
  · intro h
    obtain ⟨hd, r, hr⟩ := upB_iff.1 h
    rcases below_parent hr with h1 | ⟨s, h1⟩
    · exact ⟨by rw [h1]; exact hd, Or.inl h1.symm⟩
    · refine ⟨by rw [h1]; simp, Or.inr (upB_iff.2 ⟨hd, s, h1⟩)⟩
  · rintro ⟨hp, h⟩
    obtain ⟨t, ht⟩ := parent_back hp
    rcases h with rfl | h
    · exact upB_iff.2 ⟨hp, t, ht⟩
    · obtain ⟨hd, r, hr⟩ := upB_iff.1 h
      exact upB_iff.2 ⟨hd, r ++ 47 :: t, by rw [ht, hr]; simp⟩
abbrev Look := ByteArray → Option Ent
def decM (x l r : List Ent) : Look := fun p => if findE l p = findE r p then findE l p else if findE l p = findE x p then findE r p else findE l p
def confM (x l r : List Ent) (p : ByteArray) : Bool := decide (findE l p ≠ findE r p) && (decide (findE l p ≠ findE x p) && decide (findE r p ≠ findE x p))
def needM (R : Look) (l : List Ent) (p : ByteArray) : Bool := l.any fun e => decide (R e.path = some e) && upB (bl p) (bl e.path)
def fixM (R : Look) (l : List Ent) (p : ByteArray) : Bool := needM R l p && !isDirO (R p)
def anyM (R : Look) (l : List Ent) : Look := fun p => if fixM R l p = true then findE l p else R p
def allUp (R : Look) (p : ByteArray) : Bool := (List.range (bl p).length).all fun i => !upB ((bl p).take i) (bl p) || isDirO (R ⟨((bl p).take i).toArray⟩)
def outM (R : Look) : Look := fun p => if allUp R p = true then R p else none
def midM (x l r : List Ent) : Look := anyM (decM x l r) l
def resM (x l r : List Ent) : Look := outM (midM x l r)
def isK (x l r : List Ent) (p : ByteArray) : Bool := confM x l r p || (fixM (decM x l r) l p || ((midM x l r p).isSome && !allUp (midM x l r) p))
theorem allUp_iff {R : Look} {p : ByteArray} : allUp R p = true ↔ ∀ q : ByteArray, upB (bl q) (bl p) = true → isDirO (R q) = true := by
  unfold allUp
  rw [List.all_eq_true]
  constructor
  · intro h q hq
    obtain ⟨hd, r, hr⟩ := upB_iff.1 hq
    have := h (bl q).length (List.mem_range.2 (by rw [hr]; simp))
    have ht : (bl p).take (bl q).length = bl q := by rw [hr]; simp
    rw [ht, hq] at this
    rw [path_bl rfl (p := q)]
    simpa using this
  · intro h i _
    cases hu : upB ((bl p).take i) (bl p) with
    | false => rfl
    | true => simpa using h ⟨((bl p).take i).toArray⟩ (by simpa [bl] using hu)
theorem bl_of (l : List UInt8) : bl ⟨l.toArray⟩ = l := by simp [bl]
theorem allUp_step {R : Look} {p : ByteArray} : allUp R p = true ↔ parentL (bl p) = [] ∨ (isDirO (R ⟨(parentL (bl p)).toArray⟩) = true ∧ allUp R ⟨(parentL (bl p)).toArray⟩ = true) := by
  rw [allUp_iff, allUp_iff]
  constructor
  · intro h
    by_cases hp : parentL (bl p) = []
    · exact Or.inl hp
    · refine Or.inr ⟨h _ (up_step.2 ⟨hp, Or.inl (bl_of _)⟩), fun q hq => h q (up_step.2 ⟨hp, Or.inr ?_⟩)⟩
      rwa [bl_of] at hq
  · rintro (hp | ⟨h1, h2⟩) q hq
    · exact absurd hp (up_step.1 hq).1
    · obtain ⟨_, hq | hq⟩ := up_step.1 hq
      · rw [path_bl hq]; exact h1
      · exact h2 q (by rw [bl_of]; exact hq)
theorem out_step {R : Look} {p : ByteArray} : outM R p = if parentL (bl p) = [] ∨ isDirO (outM R ⟨(parentL (bl p)).toArray⟩) = true then R p else none := by
  have key : allUp R p = true ↔ parentL (bl p) = [] ∨ isDirO (outM R ⟨(parentL (bl p)).toArray⟩) = true := by
    rw [allUp_step]
    have : isDirO (outM R ⟨(parentL (bl p)).toArray⟩) = true ↔ isDirO (R ⟨(parentL (bl p)).toArray⟩) = true ∧ allUp R ⟨(parentL (bl p)).toArray⟩ = true := by
      unfold outM
      by_cases h : allUp R ⟨(parentL (bl p)).toArray⟩ = true
      · rw [if_pos h]; exact ⟨fun x => ⟨x, h⟩, fun x => x.1⟩
      · rw [if_neg h]; exact ⟨fun x => (by cases x), fun x => absurd x.2 h⟩
    rw [this]
  show (if allUp R p = true then R p else none) = _
  by_cases h : allUp R p = true
  · rw [if_pos h, if_pos (key.1 h)]
  · rw [if_neg h, if_neg fun hx => h (key.2 hx)]
theorem dec_from {x l r : List Ent} {p : ByteArray} : decM x l r p = findE l p ∨ decM x l r p = findE r p := by
  unfold decM; split
  · exact Or.inl rfl
  · split
    · exact Or.inr rfl
    · exact Or.inl rfl
theorem mid_from {x l r : List Ent} {p : ByteArray} : midM x l r p = findE l p ∨ midM x l r p = findE r p := by
  unfold midM anyM; split
  · exact Or.inl rfl
  · exact dec_from
theorem res_mid {x l r : List Ent} {p : ByteArray} {e : Ent} (h : resM x l r p = some e) : midM x l r p = some e ∧ allUp (midM x l r) p = true := by
  unfold resM outM at h
  split at h
  · exact ⟨h, ‹_›⟩
  · cases h
theorem mid_own {x l r : List Ent} {p : ByteArray} {e : Ent} (h : midM x l r p = some e) : e.path = p ∧ (e ∈ l ∨ e ∈ r) := by
  rcases mid_from (x := x) (l := l) (r := r) (p := p) with h1 | h1
  · rw [h1] at h; have := findE_some h; exact ⟨this.2, Or.inl this.1⟩
  · rw [h1] at h; have := findE_some h; exact ⟨this.2, Or.inr this.1⟩
/-- THE MERGE: m is what is at each path; k are the paths in conflict. -/
structure IsMerge (x l r m : List Ent) (k : List ByteArray) : Prop where
  ord : SortedE m
  look : ∀ p, findE m p = resM x l r p
  kord : k.Pairwise fun a b => cmpL (bl a) (bl b) < 0
  kin : ∀ p, p ∈ k ↔ isK x l r p = true
theorem look_mem {m : List Ent} (h : SortedE m) {e : Ent} : e ∈ m ↔ findE m e.path = some e := ⟨fun he => findE_mem h.nodup he, fun he => (findE_some he).1⟩
theorem same_look {m n : List Ent} (hm : SortedE m) (hn : SortedE n) (h : ∀ p, findE m p = findE n p) : m = n :=
  sorted_mem_eq hm hn fun x => by rw [look_mem hm, look_mem hn, h]
theorem paths_eq {k j : List ByteArray} (hk : k.Pairwise fun a b => cmpL (bl a) (bl b) < 0) (hj : j.Pairwise fun a b => cmpL (bl a) (bl b) < 0) (h : ∀ p, p ∈ k ↔ p ∈ j) : k = j := by
  have h0 : ∀ x : ByteArray, ¬ cmpL (bl x) (bl x) < 0 := fun x => by have := cmp_neg (bl x) (bl x); omega
  have hlt : ∀ {a b c : ByteArray}, cmpL (bl a) (bl b) < 0 → cmpL (bl b) (bl c) < 0 → cmpL (bl a) (bl c) < 0 := fun {a b c} h1 h2 =>
    cmpE_lt_trans (a := ⟨a, 0, 0, 0, [], a⟩) (b := ⟨b, 0, 0, 0, [], b⟩) (c := ⟨c, 0, 0, 0, [], c⟩) h1 h2
  induction k generalizing j with
  | nil =>
    cases j with
    | nil => rfl
    | cons y j => exact absurd ((h y).2 (List.mem_cons_self ..)) (by simp)
  | cons x k ih =>
    cases j with
    | nil => exact absurd ((h x).1 (List.mem_cons_self ..)) (by simp)
    | cons y j =>
      have hk' := List.pairwise_cons.1 hk
      have hj' := List.pairwise_cons.1 hj
      have hxy : x = y := by
        rcases List.mem_cons.1 ((h x).1 (List.mem_cons_self ..)) with he | hx
        · exact he
        · rcases List.mem_cons.1 ((h y).2 (List.mem_cons_self ..)) with he | hy
          · exact he.symm
          · exact absurd (hlt (hj'.1 x hx) (hk'.1 y hy)) (h0 _)
      subst hxy
      rw [ih hk'.2 hj'.2 fun z => ?_]
      constructor
      · intro hz
        rcases List.mem_cons.1 ((h z).1 (List.mem_cons_of_mem _ hz)) with he | hz'
        · exact absurd (hk'.1 z hz) (he ▸ h0 _)
        · exact hz'
      · intro hz
        rcases List.mem_cons.1 ((h z).2 (List.mem_cons_of_mem _ hz)) with he | hz'
        · exact absurd (hj'.1 z hz) (he ▸ h0 _)
        · exact hz'
theorem merge_one {x l r m m' : List Ent} {k k' : List ByteArray} (h : IsMerge x l r m k) (h' : IsMerge x l r m' k') : m = m' ∧ k = k' :=
  ⟨same_look h.ord h'.ord fun p => by rw [h.look, h'.look], paths_eq h.kord h'.kord fun p => by rw [h.kin, h'.kin]⟩
theorem tree_up {r : List Ent} (h : TOk r) : ∀ p, (findE r p).isSome = true → allUp (findE r) p = true := by
  intro p hp
  obtain ⟨e, he⟩ := Option.isSome_iff_exists.1 hp
  obtain ⟨hm, hpe⟩ := findE_some he
  rw [allUp_iff]
  intro q hq
  obtain ⟨hd, t, ht⟩ := upB_iff.1 hq
  obtain ⟨f, hf, hfp, hfk⟩ := TOk.above h hd _ (Nat.le_refl _) hm t (by rw [hpe]; exact ht)
  have : findE r q = some f := by rw [← bl_inj hfp]; exact findE_mem h.nodup hf
  rw [this]
  simp [isDirO, hfk]
theorem nodup_length : ∀ {l m : List ByteArray}, l.Nodup → (∀ x ∈ l, x ∈ m) → l.length ≤ m.length
  | [], _, _, _ => Nat.zero_le _
  | x :: l, m, hn, hs => by
    have h1 := List.nodup_cons.1 hn
    have := nodup_length (l := l) (m := m.filter fun y => decide (y ≠ x)) h1.2 fun y hy => List.mem_filter.2 ⟨hs y (List.mem_cons_of_mem _ hy), by
      simp only [decide_eq_true_eq]; intro e; exact h1.1 (e ▸ hy)⟩
    have hp : (m.filter fun y => decide (y ≠ x)).length < m.length := List.length_filter_lt_length_iff_exists.2 ⟨x, hs x (List.mem_cons_self ..), by simp⟩
    simp only [List.length_cons]
    omega
end Go.Proofs.YtdieneaillkbgaaGreatDoor

/- Differences of trees, in plain words: what the specification's Diff and Apply do, step by step, is the same. -/
namespace Go.Proofs.YtdieneaillkbgaaGreatDoor
open Go
/- Inserting at its place. -/
def insF (L : List Ent) (e : Ent) : List Ent := (L.takeWhile fun x => decide (cmpE x e < 0)) ++ e :: L.dropWhile fun x => decide (cmpE x e < 0)
theorem insF_perm (L : List Ent) (e : Ent) : (insF L e).Perm (e :: L) := by
  unfold insF
  refine List.perm_middle.trans ?_
  rw [List.takeWhile_append_dropWhile]
theorem insF_sorted {L : List Ent} {e : Ent} (h : SortedE L) (hne : ∀ f ∈ L, f.path ≠ e.path) : SortedE (insF L e) := by
  induction L with
  | nil => exact List.pairwise_singleton _ _
  | cons x L ih =>
    have hx := List.pairwise_cons.1 h
    unfold insF
    by_cases hlt : cmpE x e < 0
    · rw [List.takeWhile_cons_of_pos (by simpa using hlt), List.dropWhile_cons_of_pos (by simpa using hlt), List.cons_append]
      have ih := ih hx.2 fun f hf => hne f (List.mem_cons_of_mem _ hf)
      refine List.pairwise_cons.2 ⟨fun y hy => ?_, ih⟩
      rcases List.mem_cons.1 ((insF_perm L e).mem_iff.1 hy) with rfl | hy
      · exact hlt
      · exact hx.1 y hy
    · rw [List.takeWhile_cons_of_neg (by simpa using hlt), List.dropWhile_cons_of_neg (by simpa using hlt), List.nil_append]
      have hgt : cmpE e x < 0 := by
        have h1 := cmpE_neg e x
        have h2 : cmpE x e ≠ 0 := fun h0 => hne x (List.mem_cons_self ..) (cmpE_zero.1 h0)
        omega
      refine List.pairwise_cons.2 ⟨fun y hy => ?_, h⟩
      rcases List.mem_cons.1 hy with rfl | hy
      · exact hgt
      · exact cmpE_lt_trans hgt (hx.1 y hy)
/- Apply, as the specification has it. -/
def atE (L : List Ent) (p : ByteArray) : Ent := (findE L p).getD noEnt
theorem chg_kinds {c : Chg} (h : chgOk c = true) : c.kind = 1 ∨ c.kind = 2 ∨ c.kind = 3 ∨ c.kind = 4 := by
  unfold chgOk at h
  split at h
  · omega
  · split at h
    · omega
    · split at h
      · omega
      · cases h
theorem chg_ent {c : Chg} (h : chgOk c = true) (hk : c.kind ≠ 1) : vEnt c.en = true ∧ c.path = c.en.path := by
  unfold chgOk at h
  rw [if_neg hk] at h
  split at h
  · simp only [Bool.and_eq_true, decide_eq_true_eq] at h; exact ⟨h.2.2.1, h.1⟩
  · split at h
    · simp only [Bool.and_eq_true, decide_eq_true_eq] at h; exact ⟨h.2.2, h.1⟩
    · cases h
theorem vEnt_kind {e : Ent} (h : vEnt e = true) : e.kind ≠ 0 := by rcases kind_of h with h | h | h <;> omega
theorem takeP_sub {a : List Ent} : ∀ {cs : List Chg} {left out : List Ent}, takeP a left cs = some out → out.Sublist left
  | [], left, out, h => by
    simp only [takeP, Option.some.injEq] at h
    subst h
    exact List.Sublist.refl _
  | c :: cs, left, out, h => by
    unfold takeP at h
    split at h
    · split at h
      · exact (takeP_sub h).trans List.filter_sublist
      · cases h
    · split at h
      · split at h
        · exact (takeP_sub h).trans List.filter_sublist
        · cases h
      · exact takeP_sub h
theorem res_paths (left : List Ent) (s : PSt) : (resE left s).map Ent.path = left.map Ent.path ++ s.added.map Ent.path := by
  unfold resE
  rw [List.map_append, List.map_map, show (Ent.path ∘ overE s.mods) = Ent.path from funext (over_path _)]
theorem findE_app_none {L M : List Ent} {p : ByteArray} (h : findE L p = none) : findE (L ++ M) p = findE M p := by
  unfold findE at *; rw [List.find?_append, h]; rfl
theorem findE_app_some {L M : List Ent} {p : ByteArray} {e : Ent} (h : findE L p = some e) : findE (L ++ M) p = some e := by
  unfold findE at *; rw [List.find?_append, h]; rfl
end Go.Proofs.YtdieneaillkbgaaGreatDoor

/- Maps in memory by what is looked up in them: entries by their paths, sets of paths. -/
namespace Go.Proofs.YtdieneaillkbgaaGreatDoor
open Go Go.RowKit Go.Maps Go.MapKept
section
variable {P : Program} {k t e : TypeId} {w w' : World} {b : Nat} {m : List (Value × Value)} {key val z : Value}
theorem MapS.delMiss (h : MapS P k w b m) (K : Keyed P k) (ht : P.underlying t = some (.map k e)) (hkey : ∃ l, keyOf P k key = some l) (hm : ∀ p ∈ m, p.1 ≠ key) (ty : TypeId) :
    ∃ w', (Builtin.delete_ #[t, k] ty #[.map (some b), key]).run P w = .ok (.tuple #[]) w' ∧ MapS P k w' b m ∧ w.grownBy w' (some b) := by
  obtain ⟨es, clock, hb, he, hst, hk⟩ := h
  obtain ⟨kl, hkl⟩ := hkey
  rcases K.find w hkl es.toList (MapIs.keys he hk) with ⟨h1, h2⟩ | ⟨j, e0, h1, h2, h3⟩
  · refine ⟨ChangeMaps.setBlock w b (.map es clock), ?_, ⟨_, _, heapSame hb _, he, hst, hk⟩, grown_setBlock hb _⟩
    simp [Builtin.delete_, run_underlying ht, MapKept.run_getObj_map hb, K.check w _ hkl, h1, MapKept.run_setObj_map _ hb, Result.andThen, ChangeMaps.setBlock]
  · exact absurd h3 (hm (e0.key, e0.val) (by rw [← he]; exact List.mem_map.2 ⟨e0, List.mem_of_getElem? h2, rfl⟩))
end
theorem grown_refl (w : World) (r : Option Nat) : w.grownBy w r := ⟨rfl, rfl, rfl, Nat.le_refl _, fun _ _ _ => rfl⟩
/- Entries by their paths. -/
def MapR (S : Nat → Prop) (w : World) (mb : Nat) (R : Look) : Prop := ∃ xs, MapE S w mb xs ∧ ∀ p, findE (xs.map Prod.snd) p = R p
def putL (R : Look) (e : Ent) : Look := fun q => if q = e.path then some e else R q
def delL (R : Look) (p : ByteArray) : Look := fun q => if q = p then none else R q
theorem findE_cons (x : Ent) (l : List Ent) (q : ByteArray) : findE (x :: l) q = if x.path = q then some x else findE l q := by
  unfold findE
  by_cases h : x.path = q
  · rw [if_pos h, List.find?_cons_of_pos (by simpa using h)]
  · rw [if_neg h, List.find?_cons_of_neg (by simpa using h)]
theorem findE_mid {a b : List Ent} {x y : Ent} (hn : ((a ++ x :: b).map Ent.path).Nodup) (hp : x.path = y.path) (q : ByteArray) : findE (a ++ y :: b) q = if q = y.path then some y else findE (a ++ x :: b) q := by
  have ha : findE a y.path = none := find_none_iff.2 fun f hf he => by
    rw [List.map_append, List.map_cons] at hn
    exact (List.nodup_append.1 hn).2.2 f.path (List.mem_map_of_mem hf) x.path (List.mem_cons_self ..) (by rw [he, hp])
  by_cases hq : q = y.path
  · subst hq
    rw [if_pos rfl, findE_app_none ha, findE_cons, if_pos rfl]
  · rw [if_neg hq]
    cases hf : findE a q with
    | some f => rw [findE_app_some hf, findE_app_some hf]
    | none => rw [findE_app_none hf, findE_app_none hf, findE_cons, findE_cons, if_neg (fun e => hq e.symm), if_neg (fun e => hq (by rw [← e, hp]))]
theorem findE_out {a b : List Ent} {x : Ent} (hn : ((a ++ x :: b).map Ent.path).Nodup) (q : ByteArray) : findE (a ++ b) q = if q = x.path then none else findE (a ++ x :: b) q := by
  by_cases hq : q = x.path
  · subst hq
    rw [if_pos rfl, find_none_iff]
    intro f hf he
    rw [List.map_append, List.map_cons] at hn
    obtain ⟨_, h2, h3⟩ := List.nodup_append.1 hn
    rcases List.mem_append.1 hf with hf | hf
    · exact h3 f.path (List.mem_map_of_mem hf) x.path (List.mem_cons_self ..) he
    · exact (List.nodup_cons.1 h2).1 (he ▸ List.mem_map_of_mem hf)
  · rw [if_neg hq]
    cases hf : findE a q with
    | some f => rw [findE_app_some hf, findE_app_some hf]
    | none => rw [findE_app_none hf, findE_app_none hf, findE_cons, if_neg (fun e => hq e.symm)]
section
variable {S S' : Nat → Prop} {w w' : World} {mb : Nat} {R : Look} {t : TypeId}
theorem MapR.lt (h : MapR S w mb R) : mb < w.heap.size := by obtain ⟨_, h, _⟩ := h; exact h.map.lt
theorem MapR.far (h : MapR S w mb R) : ¬ S mb := by obtain ⟨_, h, _⟩ := h; exact h.far
theorem MapR.below (h : MapR S w mb R) (hb : Below w.heap.size w w') : MapR S w' mb R := by obtain ⟨xs, h1, h2⟩ := h; exact ⟨xs, h1.below hb, h2⟩
theorem MapR.mono (h : MapR S w mb R) (hs : ∀ k, S k → S' k) (hf : ¬ S' mb) : MapR S' w mb R := by obtain ⟨xs, h1, h2⟩ := h; exact ⟨xs, h1.mono hs hf, h2⟩
/-- Another block has grown. -/
theorem MapR.other {nb : Nat} (h : MapR S w mb R) (hg : w.grownBy w' (some nb)) (hne : mb ≠ nb) (hf : ¬ S nb) : MapR S w' mb R := by
  obtain ⟨xs, h1, h2⟩ := h
  exact ⟨xs, ⟨h1.map.same (hg.block mb h1.map.lt fun e => hne (Option.some.inj e)), fun x hx => ⟨data_grown (h1.dat x hx).1 hf hg, (h1.dat x hx).2⟩, h1.far⟩, h2⟩
theorem MapR.own (h : MapR S w mb R) {p : ByteArray} {e : Ent} (he : R p = some e) : e.path = p := by
  obtain ⟨xs, _, h2⟩ := h
  rw [← h2] at he
  exact (findE_some he).2
theorem MapR.ok (h : MapR S w mb R) {p : ByteArray} {e : Ent} (he : R p = some e) : EntOk e := by
  obtain ⟨xs, h1, h2⟩ := h
  rw [← h2] at he
  obtain ⟨v, hv⟩ := find_vent (findE_some he).1
  exact (h1.dat _ hv).2
theorem MapR.hit (h : MapR S w mb R) (ht : Tryz.prog.underlying t = some (.map 9 48)) {p : ByteArray} {e : Ent} (hf : R p = some e) (c : Bool) :
    ∃ v, (Instr.lookup t (.map (some mb)) (.string p) c).run Tryz.prog w = .ok (if c then .tuple #[entV v e, .bool true] else entV v e) w ∧ DataAt S w v e.data ∧ EntOk e := by
  obtain ⟨xs, hm, h2⟩ := h
  rw [← h2] at hf
  obtain ⟨h1, h2⟩ := findE_some hf
  obtain ⟨v, hv⟩ := find_vent h1
  have := hm.hit ht hv c
  rw [h2] at this
  exact ⟨v, this, hm.dat _ hv⟩
theorem MapR.miss (h : MapR S w mb R) (ht : Tryz.prog.underlying t = some (.map 9 48)) (hz : (zeroValue 48).run Tryz.prog w = .ok zeroE w) {p : ByteArray} (hp : p.size ≤ maxLen) (hf : R p = none) (c : Bool) :
    (Instr.lookup t (.map (some mb)) (.string p) c).run Tryz.prog w = .ok (if c then .tuple #[zeroE, .bool false] else zeroE) w := by
  obtain ⟨xs, hm, h2⟩ := h
  rw [← h2] at hf
  exact hm.miss ht hz hp (fun x hx => findE_none hf x.2 (List.mem_map_of_mem hx)) c
theorem MapR.put (h : MapR S w mb R) (ht : Tryz.prog.underlying t = some (.map 9 48)) {v : Value} {e : Ent} (hd : DataAt S w v e.data) (he : EntOk e) :
    ∃ w', (Instr.mapUpdate t (.map (some mb)) (.string e.path) (entV v e)).run Tryz.prog w = .ok () w' ∧ MapR S w' mb (putL R e) ∧ w.grownBy w' (some mb) := by
  obtain ⟨xs, hm, h2⟩ := h
  cases hf : findE (xs.map Prod.snd) e.path with
  | none =>
    obtain ⟨w', h3, h4, h5⟩ := hm.putRun ht (fun x hx => findE_none hf x.2 (List.mem_map_of_mem hx)) hd he
    refine ⟨w', h3, ⟨_, h4, fun q => ?_⟩, h5⟩
    rw [List.map_append]
    unfold putL
    by_cases hq : q = e.path
    · subst hq
      rw [if_pos rfl, findE_app_none hf]
      simp [findE]
    · rw [if_neg hq, ← h2]
      cases hg : findE (xs.map Prod.snd) q with
      | some f => rw [findE_app_some hg]
      | none => rw [findE_app_none hg]; simp [findE, Ne.symm hq]
  | some f =>
    obtain ⟨hfm, hfp⟩ := findE_some hf
    obtain ⟨a, v0, b, rfl⟩ := split_find hfm
    obtain ⟨w', h3, h4, h5⟩ := hm.overRun ht hfp hd he
    refine ⟨w', h3, ⟨_, h4, fun q => ?_⟩, h5⟩
    have hn := hm.nodupE
    rw [List.map_append, List.map_cons] at hn ⊢
    unfold putL
    rw [findE_mid hn hfp, ← h2, List.map_append, List.map_cons]
theorem MapR.del (h : MapR S w mb R) (ht : Tryz.prog.underlying t = some (.map 9 48)) {p : ByteArray} (hp : p.size ≤ maxLen) (ty : TypeId) :
    ∃ w', (Builtin.delete_ #[t, 9] ty #[.map (some mb), .string p]).run Tryz.prog w = .ok (.tuple #[]) w' ∧ MapR S w' mb (delL R p) ∧ w.grownBy w' (some mb) := by
  obtain ⟨xs, hm, h2⟩ := h
  cases hf : findE (xs.map Prod.snd) p with
  | none =>
    obtain ⟨w', h3, h4, h5⟩ := hm.map.delMiss lawStr20 ht (keyStr20 hp) (hm.new fun x hx => findE_none hf x.2 (List.mem_map_of_mem hx)) ty
    refine ⟨w', h3, ⟨xs, ⟨h4, fun x hx => ⟨data_grown (hm.dat x hx).1 hm.far h5, (hm.dat x hx).2⟩, hm.far⟩, fun q => ?_⟩, h5⟩
    unfold delL
    by_cases hq : q = p
    · subst hq; rw [if_pos rfl, hf]
    · rw [if_neg hq, h2]
  | some f =>
    obtain ⟨hfm, hfp⟩ := findE_some hf
    obtain ⟨a, v0, b, rfl⟩ := split_find hfm
    obtain ⟨w', h3, h4, h5⟩ := hm.delRun ht ty
    rw [show (v0, f).2.path = p from hfp] at h3
    refine ⟨w', h3, ⟨_, h4, fun q => ?_⟩, h5⟩
    have hn := hm.nodupE
    rw [List.map_append, List.map_cons] at hn
    rw [List.map_append]
    unfold delL
    rw [findE_out hn, ← h2, List.map_append, List.map_cons, show (v0, f).2.path = p from hfp]
theorem MapR.len (h : MapR S w mb R) {ps : List ByteArray} (hps : ∀ p, (R p).isSome = true → p ∈ ps) (ht : Tryz.prog.underlying t = some (.map 9 48)) (ty : TypeId) :
    ∃ n : Nat, n ≤ ps.length ∧ (Builtin.len_ #[t] ty #[.map (some mb)]).run Tryz.prog w = .ok (.int .i64 (n : Int)) w := by
  obtain ⟨xs, hm, h2⟩ := h
  refine ⟨xs.length, ?_, by have := hm.map.len ht ty; rw [List.length_map] at this; exact this⟩
  have := nodup_length (l := (xs.map Prod.snd).map Ent.path) (m := ps) hm.nodupE fun p hp => hps p (by
    obtain ⟨e, he, rfl⟩ := List.mem_map.1 hp
    rw [← h2, findE_mem hm.nodupE he]; rfl)
  simpa using this
theorem MapR.made (S : Nat → Prop) (w : World) (hf : ¬ S w.heap.size) : MapR S (w.alloc (.map #[] 0)) w.heap.size (fun _ => none) := ⟨[], MapE.made S w hf, fun _ => rfl⟩
end
/-- What a list of entries answers. -/
theorem putL_snoc {L : List Ent} {e : Ent} (h : ∀ f ∈ L, f.path ≠ e.path) : putL (findE L) e = findE (L ++ [e]) := by
  funext q
  unfold putL
  by_cases hq : q = e.path
  · subst hq
    rw [if_pos rfl, findE_app_none (find_none_iff.2 h)]
    simp [findE]
  · rw [if_neg hq]
    cases hg : findE L q with
    | some f => rw [findE_app_some hg]
    | none => rw [findE_app_none hg]; simp [findE, Ne.symm hq]
/- Sets of paths. -/
def boolP (p : ByteArray) : Value × Value := (.string p, .bool true)
def SetR (w : World) (mb : Nat) (K : ByteArray → Bool) : Prop := ∃ ps : List ByteArray, MapS Tryz.prog 9 w mb (ps.map boolP) ∧ (∀ p ∈ ps, p.size ≤ maxLen) ∧ ∀ p, p ∈ ps ↔ K p = true
def addK (K : ByteArray → Bool) (p : ByteArray) : ByteArray → Bool := fun q => decide (q = p) || K q
def delK (K : ByteArray → Bool) (p : ByteArray) : ByteArray → Bool := fun q => decide (q ≠ p) && K q
section
variable {w w' : World} {mb : Nat} {K : ByteArray → Bool} {t : TypeId}
theorem bool_new {ps : List ByteArray} {p : ByteArray} (h : p ∉ ps) : ∀ q ∈ ps.map boolP, q.1 ≠ Value.string p := by
  intro q hq
  obtain ⟨x, hx, rfl⟩ := List.mem_map.1 hq
  intro e
  simp only [boolP, Value.string.injEq] at e
  exact h (e ▸ hx)
theorem SetR.lt (h : SetR w mb K) : mb < w.heap.size := by obtain ⟨_, h, _⟩ := h; exact h.lt
theorem SetR.same (h : SetR w mb K) (hs : w'.heap[mb]? = w.heap[mb]?) : SetR w' mb K := by obtain ⟨ps, h1, h2⟩ := h; exact ⟨ps, h1.same hs, h2⟩
theorem SetR.below (h : SetR w mb K) (hb : Below w.heap.size w w') : SetR w' mb K := h.same (hb.block mb h.lt)
theorem SetR.other {nb : Nat} (h : SetR w mb K) (hg : w.grownBy w' (some nb)) (hne : mb ≠ nb) : SetR w' mb K := h.same (hg.block mb h.lt fun e => hne (Option.some.inj e))
theorem SetR.made (w : World) : SetR (w.alloc (.map #[] 0)) w.heap.size (fun _ => false) := ⟨[], MapS.made w, by simp, by simp⟩
theorem SetR.get (h : SetR w mb K) (ht : Tryz.prog.underlying t = some (.map 9 4)) (hz : (zeroValue 4).run Tryz.prog w = .ok (.bool false) w) {p : ByteArray} (hp : p.size ≤ maxLen) :
    (Instr.lookup t (.map (some mb)) (.string p) false).run Tryz.prog w = .ok (.bool (K p)) w := by
  obtain ⟨ps, hm, h2, h3⟩ := h
  cases hK : K p with
  | true => exact hm.is.hit lawStr20 ht (keyStr20 hp) (List.mem_map.2 ⟨p, (h3 p).2 hK, rfl⟩) false
  | false => exact hm.is.miss lawStr20 ht hz (keyStr20 hp) (bool_new fun hc => by rw [(h3 p).1 hc] at hK; cases hK) false
theorem SetR.put (h : SetR w mb K) (ht : Tryz.prog.underlying t = some (.map 9 4)) {p : ByteArray} (hp : p.size ≤ maxLen) :
    ∃ w', (Instr.mapUpdate t (.map (some mb)) (.string p) (.bool true)).run Tryz.prog w = .ok () w' ∧ SetR w' mb (addK K p) ∧ w.grownBy w' (some mb) := by
  obtain ⟨ps, hm, h2, h3⟩ := h
  cases hK : K p with
  | true =>
    obtain ⟨a, b, rfl⟩ := List.append_of_mem ((h3 p).2 hK)
    rw [List.map_append, List.map_cons] at hm
    obtain ⟨w', h4, h5, h6⟩ := MapS.over (key := .string p) (old := .bool true) hm lawStr20 ht (.bool true)
    refine ⟨w', h4, ⟨a ++ p :: b, by rw [List.map_append, List.map_cons]; exact h5, h2, fun q => ?_⟩, h6⟩
    rw [h3]
    unfold addK
    by_cases hq : q = p
    · subst hq; simp [hK]
    · simp [hq]
  | false =>
    have hn : p ∉ ps := fun hc => by rw [(h3 p).1 hc] at hK; cases hK
    obtain ⟨w', h4, h5, h6⟩ := hm.put lawStr20 ht (keyStr20 hp) (bool_new hn) (.bool true)
    refine ⟨w', h4, ⟨ps ++ [p], by rw [List.map_append]; exact h5, fun q hq => ?_, fun q => ?_⟩, h6⟩
    · rcases List.mem_append.1 hq with hq | hq
      · exact h2 q hq
      · rw [List.mem_singleton.1 hq]; exact hp
    · rw [List.mem_append, h3, List.mem_singleton]
      unfold addK
      rw [Bool.or_eq_true, decide_eq_true_eq]
      exact Or.comm
theorem SetR.del (h : SetR w mb K) (ht : Tryz.prog.underlying t = some (.map 9 4)) {p : ByteArray} (hp : p.size ≤ maxLen) (ty : TypeId) :
    ∃ w', (Builtin.delete_ #[t, 9] ty #[.map (some mb), .string p]).run Tryz.prog w = .ok (.tuple #[]) w' ∧ SetR w' mb (delK K p) ∧ w.grownBy w' (some mb) := by
  obtain ⟨ps, hm, h2, h3⟩ := h
  cases hK : K p with
  | false =>
    have hn : p ∉ ps := fun hc => by rw [(h3 p).1 hc] at hK; cases hK
    obtain ⟨w', h4, h5, h6⟩ := hm.delMiss lawStr20 ht (keyStr20 hp) (bool_new hn) ty
    refine ⟨w', h4, ⟨ps, h5, h2, fun q => ?_⟩, h6⟩
    rw [h3]
    unfold delK
    by_cases hq : q = p
    · subst hq; simp [hK]
    · simp [hq]
  | true =>
    have hnd := hm.nodup
    obtain ⟨a, b, rfl⟩ := List.append_of_mem ((h3 p).2 hK)
    rw [List.map_append, List.map_cons] at hm
    obtain ⟨w', h4, h5, h6⟩ := MapS.del (key := .string p) (old := .bool true) hm lawStr20 ht ty
    refine ⟨w', h4, ⟨a ++ b, by rw [List.map_append]; exact h5, fun q hq => h2 q (by rcases List.mem_append.1 hq with h | h <;> simp [h]), fun q => ?_⟩, h6⟩
    have hn : (a ++ p :: b).Nodup := by
      rw [List.map_map] at hnd
      unfold List.Nodup at hnd ⊢
      rw [List.pairwise_map] at hnd
      exact hnd.imp fun h e => h (by rw [e])
    have hnp : p ∉ a ++ b := by
      intro hc
      obtain ⟨_, n2, n3⟩ := List.nodup_append.1 hn
      rcases List.mem_append.1 hc with hc | hc
      · exact n3 p hc p (List.mem_cons_self ..) rfl
      · exact (List.nodup_cons.1 n2).1 hc
    unfold delK
    rw [Bool.and_eq_true, decide_eq_true_eq, ← h3]
    constructor
    · intro hq
      exact ⟨fun e => hnp (e ▸ hq), by rcases List.mem_append.1 hq with h | h <;> simp [h]⟩
    · rintro ⟨hne, hq⟩
      rcases List.mem_append.1 hq with h | h
      · simp [h]
      · rcases List.mem_cons.1 h with h | h
        · exact absurd h hne
        · simp [h]
end
end Go.Proofs.YtdieneaillkbgaaGreatDoor

/- pathname.Compare draws and lays nothing: the order for a sort. -/
namespace Go.Proofs.YtdieneaillkbgaaGreatDoor
open Go.RowKit Go.Shelf Go.Lib Go.Sort
theorem drew_more {a w : World} (h : ∃ n, w = a.drewN n) (m : Nat) : ∃ n, w.drewN m = a.drewN n := by
  obtain ⟨n, rfl⟩ := h
  exact ⟨n + m, by rw [World.drewN_drewN]⟩
set_option maxHeartbeats 400000 in
theorem compare_drew (a b : ByteArray) (w : World) (ha : a.size ≤ 9223372036854775807) :
    Calls Tryz.prog 52 #[.string a, .string b] w fun e w' => e = .returned (.int .i64 (cmpL (bl a) (bl b))) ∧ ∃ n, w' = w.drewN n := by
  go_enter Tryz.func52, Tryz.ntmps52
  go_wp2_with fail
  obtain ⟨m, hm⟩ : ∃ m : Nat, min (a.size : Int) (b.size : Int) = m := ⟨min a.size b.size, by omega⟩
  have hm1 : m ≤ a.size := by omega
  have hm2 : m ≤ b.size := by omega
  have hm3 : m = a.size ∨ m = b.size := by omega
  rw [hm]
  have HM := Lib.hid hm3
  clear hm hm3
  go_loopw [12] (fun i wr => ∃ k : Nat, k ≤ m ∧ i = .int .i64 k ∧ (∃ n, wr = w.drewN n) ∧ cmpL (bl a) (bl b) = cmpL ((bl a).drop k) ((bl b).drop k)) (fun i _ => m - (intOf i).toNat)
  case atStart => exact ⟨0, Nat.zero_le _, rfl, ⟨0, rfl⟩, rfl⟩
  case round =>
    obtain ⟨k, hk, rfl, hbw, hc⟩ := hrel
    have HC := Lib.hid hc
    have HB := Lib.hid hbw
    clear hc hbw
    by_cases hlt : k < m
    · have h1 : (k : Int) < (a.size : Int) := by omega
      have h2 : (k : Int) < (b.size : Int) := by omega
      have h3 : k < a.size := by omega
      have h4 : k < b.size := by omega
      by_cases hq : a[k] = b[k]
      · have hq2 : (((a[k]).toNat : Int) != (b[k]).toNat) = false := by simp [hq]
        have HQ := Lib.hid hq
        clear hq
        go_wp2_with fail
        go_quiet (fail)
        go_wp2_with fail
        go_roundw
        case rel =>
          refine ⟨k + 1, by omega, by go_num, drew_more HB.out nq, ?_⟩
          rw [HC.out]
          refine cmp_take (by rw [← size_bl]; exact h3) (by rw [← size_bl]; exact h4) ?_
          rw [← byte_bl, ← byte_bl]; exact HQ.out
        case measure => simp [intOf]; omega
      · have hq2 : (((a[k]).toNat : Int) != (b[k]).toNat) = true := by
          rw [bne_iff_ne]; intro e; apply hq; exact UInt8.toNat_inj.1 (by omega)
        have HQ := Lib.hid hq
        clear hq
        go_wp2_with fail
        go_quiet (fail)
        go_wp2_with fail
        have hW : ∃ W, W = wr.drewN nq ∧ (∃ n, W = w.drewN n) := ⟨_, rfl, drew_more HB.out nq⟩
        obtain ⟨W, hWe, hWb⟩ := hW
        rw [← hWe]
        have HB2 := Lib.hid hWb
        clear hWe hWb HB
        have hr1 := (a[k]).toNat_lt
        have hr2 := (b[k]).toNat_lt
        go_quiet ((first | (go_at_call 80; refine quietL (rank_any _ _ (by omega) (by omega))) | (go_at_call 81; refine quietL (compareInt_any _ _ _))))
        go_wp2_with fail
        go_ret
        refine ⟨ret_int ?_, drew_more HB2.out _⟩
        rw [rank_int, rank_int, HC.out, cmp_stop (by rw [← size_bl]; exact h3) (by rw [← size_bl]; exact h4) (by rw [← byte_bl, ← byte_bl]; exact HQ.out), ← byte_bl, ← byte_bl]
    · go_wp2_with (go_at_call 81; refine (compareInt_any _ _ _).mono ?_; rintro e w' ⟨rfl, rfl⟩)
      go_ret
      refine ⟨ret_int ?_, HB.out⟩
      have hM := HM.out
      rw [HC.out, cmp_end (by rw [← size_bl]; omega) (by rw [← size_bl]; omega) (by rw [← size_bl, ← size_bl]; omega), ← size_bl, ← size_bl]
/- Paths as a sort's elements. -/
abbrev SPath := {s : ByteArray // s.size ≤ 9223372036854775807}
instance : Inhabited SPath := ⟨⟨ByteArray.empty, by decide⟩⟩
def encP (s : SPath) : Value := .string s.1
def cmpS (a b : SPath) : Int := cmpL (bl a.1) (bl b.1)
theorem ltS (a b : SPath) : ltOf cmpS a b = decide (cmpS a b < 0) := rfl
theorem ltT (a b : SPath) : ltOf cmpS a b = true ↔ cmpL (bl a.1) (bl b.1) < 0 := by rw [ltS, decide_eq_true_eq]; rfl
theorem ltF (a b : SPath) : ltOf cmpS a b = false ↔ ¬ cmpL (bl a.1) (bl b.1) < 0 := by rw [ltS, decide_eq_false_iff_not]; rfl
theorem swoS : SWO (ltOf cmpS) where
  irrefl x := by
    rw [ltS]
    have := (cmp_zero (bl x.1) (bl x.1)).2 rfl
    simp [cmpS, this]
  trans x y z h1 h2 := by
    rw [ltT] at h1 h2 ⊢
    obtain ⟨h3, h4⟩ := cmp_trans (bl x.1) (bl y.1) (bl z.1) (by omega) (by omega)
    rcases Int.lt_or_eq_of_le h3 with h | h
    · exact h
    · have := (h4 h).1; omega
  ntrans x y z h1 h2 := by
    rw [ltF] at h1 h2 ⊢
    have e1 := cmp_neg (bl x.1) (bl y.1)
    have e2 := cmp_neg (bl y.1) (bl z.1)
    have e3 := cmp_neg (bl x.1) (bl z.1)
    have := (cmp_trans (bl z.1) (bl y.1) (bl x.1) (by omega) (by omega)).1
    omega
theorem totS (x y : SPath) (h1 : ltOf cmpS x y = false) (h2 : ltOf cmpS y x = false) : x = y := by
  rw [ltF] at h1 h2
  have e1 := cmp_neg (bl x.1) (bl y.1)
  exact Subtype.ext (bl_inj ((cmp_zero _ _).1 (by omega)))
theorem cmpReadsS (blk off size : Nat) (w : World) : CmpReads Tryz.prog 52 #[] encP cmpS blk off size w := fun _ _ _ _ x y => compare_drew x.1 y.1 _ x.2
end Go.Proofs.YtdieneaillkbgaaGreatDoor
