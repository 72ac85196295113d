/- Texts of this proof, one after the other: Base, Own, Seq, App, Segs, Held, WireA, WireB, WireC, WireD, Map, RefV, Plain. -/
import Derived.Test.YtndgmcggckpgfaaGreatDoorRows
import Derived.Test.YtndgmcggckpgfaaGreatDoorShelf
import Derived.WalkKit
import Derived.WalkSpells
import Derived.WalkLawsBesides
import Derived.Lib.Hide
import Derived.WalkSmall
import Derived.Deep.QuietTactic
import Derived.BigQuiet
import Derived.Laws.OwnMore
import Derived.StillTailTactics
import Derived.OrdersHeld
import Derived.Deep.RegionHeld
import Derived.Laws.BytesArg
import Derived.Laws.Bits64b
import Derived.Laws.BitsAllLaws
import Derived.Defers
import Derived.Recover
import Derived.Maps.OwnSet
import Derived.Maps.OwnOps
import Derived.DeepKeys5
import Derived.Laws.StructEq
import Derived.Lib.ValidLaws
import Derived.Lib.TrimUEq
import Derived.Lib.MapLaws
import Derived.Lib.SplitLaws
import Derived.Lib.Join
import Derived.Lib.Small
import Derived.Laws.RangeAny
/- Generic words about memory: rows of cells behind a slice value, and the environment (the variables of Go's library that the program reads). -/
namespace Go.Proofs.YtndgmcggckpgfaaGreatDoor
open Go.RowKit

/-- The bytes of a string. -/
def bl (s : ByteArray) : List UInt8 := s.data.toList
theorem data_bl (s : ByteArray) : s.data.toList = bl s := rfl
theorem toList_bl (s : ByteArray) : s.toList = bl s := by rw [ByteArray.toList_eq]; rfl
theorem bl_mk (l : List UInt8) : bl ⟨l.toArray⟩ = l := by simp [bl]
theorem mk_bl (s : ByteArray) : (⟨(bl s).toArray⟩ : ByteArray) = s := by cases s; simp [bl]
theorem size_bl (s : ByteArray) : s.size = (bl s).length := Lib.size_eq s
theorem bl_append (s t : ByteArray) : bl (s ++ t) = bl s ++ bl t := by simp [bl]
theorem bl_extract (s : ByteArray) (a b : Nat) : bl (s.extract a b) = ((bl s).take b).drop a := by unfold bl; rw [Lib.extract_data]; rw [List.drop_take]
theorem bl_inj {s t : ByteArray} (h : bl s = bl t) : s = t := by rw [← mk_bl s, ← mk_bl t, h]

/-- Blocks in S stand in w' as they stood in w. -/
def SameOn (S : Nat → Prop) (w w' : World) : Prop := ∀ k, S k → w'.heap[k]? = w.heap[k]?
theorem SameOn.refl (S : Nat → Prop) (w : World) : SameOn S w w := fun _ _ => rfl
theorem SameOn.trans {S : Nat → Prop} {a b c : World} (h : SameOn S a b) (k : SameOn S b c) : SameOn S a c := fun i hi => (k i hi).trans (h i hi)
theorem SameOn.cell {S : Nat → Prop} {w w' : World} (h : SameOn S w w') {a : Addr} (ha : S a.block) : w'.cell? a = w.cell? a := World.cell?_of_block (h a.block ha)
theorem SameOn.mono {S T : Nat → Prop} {w w' : World} (h : SameOn S w w') (hT : ∀ k, T k → S k) : SameOn T w w' := fun k hk => h k (hT k hk)
theorem same_of_below {B : Nat} {w w' : World} (h : Below B w w') : SameOn (· < B) w w' := fun k hk => h.block k hk

theorem block_lt {w : World} {a : Addr} {v : Value} (h : w.cell? a = some v) : a.block < w.heap.size := by
  rcases Nat.lt_or_ge a.block w.heap.size with h' | h'
  · exact h'
  · simp [World.cell?, Array.getElem?_eq_none h'] at h

/-- The slice value v holds n elements of sz cells each: the cells are `cells`; they lie in a block of S. -/
def RowAt (S : Nat → Prop) (w : World) (sz : Nat) (v : Value) (n : Nat) (cells : List Value) : Prop :=
  cells.length = n * sz ∧ ∃ a cap, v = .slice a n cap ∧ n ≤ cap ∧ cap ≤ maxLen ∧
    (n = 0 ∨ ∃ b o, a = some ⟨b, o, none⟩ ∧ S b ∧ ∀ (j : Nat) u, cells[j]? = some u → w.cell? ⟨b, o + j, none⟩ = some u)

theorem RowAt.same {S : Nat → Prop} {w w' : World} {sz : Nat} {v : Value} {n : Nat} {cells : List Value} (h : RowAt S w sz v n cells) (hs : SameOn S w w') : RowAt S w' sz v n cells := by
  obtain ⟨hl, a, cap, hv, hn, hm, h0⟩ := h
  refine ⟨hl, a, cap, hv, hn, hm, ?_⟩
  rcases h0 with h0 | ⟨b, o, ha, hb, hc⟩
  · exact .inl h0
  · exact .inr ⟨b, o, ha, hb, fun j u hu => (hs.cell (a := ⟨b, o + j, none⟩) hb).trans (hc j u hu)⟩
theorem RowAt.mono {S T : Nat → Prop} {w : World} {sz : Nat} {v : Value} {n : Nat} {cells : List Value} (h : RowAt S w sz v n cells) (hs : ∀ k, k < w.heap.size → S k → T k) : 0 < sz → RowAt T w sz v n cells := by
  intro hsz
  obtain ⟨hl, a, cap, hv, hn, hm, h0⟩ := h
  refine ⟨hl, a, cap, hv, hn, hm, ?_⟩
  rcases h0 with h0 | ⟨b, o, ha, hb, hc⟩
  · exact .inl h0
  · rcases Nat.eq_zero_or_pos n with h | h
    · exact .inl h
    · refine .inr ⟨b, o, ha, hs b ?_ hb, hc⟩
      have : 0 < cells.length := by rw [hl]; exact Nat.mul_pos h hsz
      exact block_lt (a := ⟨b, o + 0, none⟩) (hc 0 cells[0] (by simp [this]))
/-- Under Below at the heap's own size every row stays. -/
theorem RowAt.below {S : Nat → Prop} {w w' : World} {sz : Nat} {v : Value} {n : Nat} {cells : List Value} (h : RowAt S w sz v n cells) (hsz : 0 < sz) (hb : Below w.heap.size w w') : RowAt S w' sz v n cells := by
  have h2 := h.mono (T := fun k => S k ∧ k < w.heap.size) (fun k hk hS => ⟨hS, hk⟩) hsz
  have h3 := h2.same (w' := w') (fun k hk => hb.block k hk.2)
  obtain ⟨hl, a, cap, hv, hn, hm, h0⟩ := h3
  refine ⟨hl, a, cap, hv, hn, hm, ?_⟩
  rcases h0 with h0 | ⟨b, o, ha, hb, hc⟩
  · exact .inl h0
  · exact .inr ⟨b, o, ha, hb.1, hc⟩
theorem RowAt.nil (S : Nat → Prop) (w : World) (sz : Nat) : RowAt S w sz (.slice none 0 0) 0 [] := ⟨by simp, none, 0, rfl, Nat.le_refl _, by unfold maxLen; omega, .inl rfl⟩

/-- A list of strings behind a slice value. -/
def StrsAt (S : Nat → Prop) (w : World) (v : Value) (xs : List ByteArray) : Prop := RowAt S w 1 v xs.length (xs.map Value.string)

theorem StrsAt.shape {S : Nat → Prop} {w : World} {v : Value} {xs : List ByteArray} (h : StrsAt S w v xs) :
    ∃ a cap, v = .slice a xs.length cap ∧ xs.length ≤ cap ∧ cap ≤ maxLen ∧ ∀ k x, xs[k]? = some x → ∃ b o, a = some ⟨b, o, none⟩ ∧ S b ∧ w.cell? ⟨b, o + k, none⟩ = some (.string x) := by
  obtain ⟨_, a, cap, hv, hn, hm, h0⟩ := h
  refine ⟨a, cap, hv, hn, hm, fun k x hk => ?_⟩
  rcases h0 with h0 | ⟨b, o, ha, hb, hc⟩
  · simp [List.eq_nil_of_length_eq_zero h0] at hk
  · exact ⟨b, o, ha, hb, hc k _ (by simp [hk])⟩

/-- What the program reads of Go's library's variables. -/
structure Env (w : World) : Prop where
  maxLen : ∃ m, w.cell? ⟨0, 0, none⟩ = some (.int .i64 m)
  tabs : Lib.Utf8Tabs 1 2 w
theorem Env.below {w w' : World} (h : Env w) (hb : Below w.heap.size w w') : Env w' := by
  obtain ⟨⟨m, hm⟩, ht⟩ := h
  exact ⟨⟨m, (hb.cell (block_lt hm)).trans hm⟩, Utf8Tabs_below ht hb⟩
theorem Env.lt {w : World} (h : Env w) : 0 < w.heap.size ∧ 1 < w.heap.size ∧ 2 < w.heap.size := by
  obtain ⟨⟨m, hm⟩, ht⟩ := h
  exact ⟨block_lt hm, block_lt (ht.1 0 (by omega)), block_lt (ht.2 0 (by omega)).1⟩
theorem Env.belowB {B : Nat} {w w' : World} (h : Env w) (hb : Below B w w') (h0 : 0 < B) (h1 : 1 < B) (h2 : 2 < B) : Env w' := by
  obtain ⟨⟨m, hm⟩, ht⟩ := h
  exact ⟨⟨m, (hb.cell h0).trans hm⟩, fun c hc => (hb.cell (p := ⟨1, c, none⟩) h1).trans (ht.1 c hc), fun i hi => ⟨(hb.cell (p := ⟨2, 2 * i, none⟩) h2).trans (ht.2 i hi).1, (hb.cell (p := ⟨2, 2 * i + 1, none⟩) h2).trans (ht.2 i hi).2⟩⟩

theorem ret_bool {a b : Bool} (h : a = b) : Ending.returned (.bool a) = .returned (.bool b) := by rw [h]
theorem ret_int {k : IntKind} {a b : Int} (h : a = b) : Ending.returned (.int k a) = .returned (.int k b) := by rw [h]

theorem below_next {w w1 w2 : World} (h : Below w.heap.size w w1) (k : Below w1.heap.size w1 w2) : Below w.heap.size w w2 := h.trans (k.mono h.size)

/-- A contract that leaves the world alone, met inside a region that reads alone. -/
theorem quietL {P : Program} {f : FuncId} {args : Array Value} {w : World} {n : Nat} {v : Value}
    (h : Calls P f args (w.drewN n) fun e w' => e = .returned v ∧ w.drewN n = w') : Calls P f args (w.drewN n) fun e w'' => e = .returned v ∧ ∃ m, w'' = w.drewN m :=
  h.mono fun _ _ ⟨he, hm⟩ => ⟨he, n, hm.symm⟩
theorem below_draws {B : Nat} {a w : World} (h : Below B a w) (n : Nat) : Below B a (w.drewN n) := h.trans ⟨rfl, rfl, rfl, Nat.le_refl _, fun _ _ => rfl⟩

end Go.Proofs.YtndgmcggckpgfaaGreatDoor

/- Rows that the call itself owns: appending one element; from an owned row to a row that reads. -/
namespace Go.Proofs.YtndgmcggckpgfaaGreatDoor
open Go.RowKit

/-- What the table says of a slice type t of elements e: sz cells, `bytes` bytes each. -/
structure AppTy (P : Program) (t e : TypeId) (sz bytes : Nat) : Prop where
  ht : P.underlying t = some (.slice e)
  hi : ∃ i z, P.info? e = some i ∧ i.zero = some z ∧ i.size = sz ∧ i.bytes = bytes ∧ z.cells.size = sz
  pos : 0 < sz
  small : bytes ≤ 128

theorem AppTy.mk' {P : Program} {t e : TypeId} {sz bytes : Nat} {z : Value} (ht : P.underlying t = some (.slice e)) (hi : (P.info? e).map (fun i => (i.zero, i.size, i.bytes)) = some (some z, sz, bytes)) (hz : z.cells.size = sz) (hp : 0 < sz) (hb : bytes ≤ 128) : AppTy P t e sz bytes := by
  obtain ⟨i, h1, h2, h3, h4⟩ := info_parts hi
  exact ⟨ht, ⟨i, z, h1, h2, h3, h4, hz⟩, hp, hb⟩

/-- Where append's result lies: in the old row or in a new block. -/
theorem run_append_place {P : Program} (w : World) (base : Nat) (t ty e : TypeId) (i : TypeInfo) (z : Value) (size bytes : Nat) (ht : P.underlying t = some (.slice e)) (hi : P.info? e = some i) (hz : i.zero = some z)
    (hsize : i.size = size) (hby : i.bytes = bytes) (hzs : z.cells.size = size)
    (v : Value) (n : Nat) (xs : List Value) (hown : w.ownsRow base e size v n xs)
    (a : Addr) (m c : Nat) (news : List Value) (hl : news.length = m * size) (hm0 : 0 < m) (hnews : ∀ j u, news[j]? = some u → w.cell? (a.add j) = some u) (h1 : ∀ u ∈ news, u.oneCell' = true)
    (h63 : n + m ≤ maxLen) (hbytes : (n + m) * bytes ≤ 140737488355328) {v' : Value} {w' : World}
    (hrun : (Builtin.append_ #[t, t] ty #[v, .slice (some a) m c]).run P w = .ok v' w') : v'.ownBlock = v.ownBlock ∨ v'.ownBlock = some w.heap.size := by
  subst hsize
  subst hby
  have hsmall : n + m ≤ 9223372036854775807 := by simp only [maxLen] at h63; omega
  rcases hown.2 with ⟨rfl, rfl⟩ | ⟨g, cap, cur, rfl, hbg, hg, hnc, hcm, hcs, htake⟩
  · have hx : xs = [] := List.eq_nil_of_length_eq_zero (by simpa using hown.1)
    subst hx
    have hr := run_append_nil (P := P) w t ty e i z ht hi hz a m c news hl hnews (by omega) (by omega) (by have hb := hbytes; simp only [Nat.zero_add] at hb; omega)
    rw [hr] at hrun
    cases hrun
    exact .inr rfl
  · by_cases hroom : n + m ≤ cap
    · have hfit : n * i.size + news.length ≤ cur.size := by rw [hl, hcs, ← Nat.add_mul]; exact Nat.mul_le_mul_right _ hroom
      have hr := run_append_room (P := P) w t ty e i ht hi g n cap cur hg a m c news hl hnews h1 hroom hfit
      rw [hr] at hrun
      cases hrun
      exact .inl rfl
    · have holds : ∀ j u, xs[j]? = some u → w.cell? ((⟨g, 0, none⟩ : Addr).add j) = some u := hown.cells (g := g) rfl
      have hr := run_append_grow (P := P) w t ty e i z ht hi hz ⟨g, 0, none⟩ n cap xs hown.1 holds a m c news hl hnews (by omega) (by omega) (growslice_fits (by omega) hbytes)
      rw [hr] at hrun
      cases hrun
      exact .inr rfl

/-- append(s, x) of one element, which lies in the newest block. -/
theorem wpList_app1p {P : Program} {ops : Array Oper} {rest : List Oper} {o : Oper} {a : Act} {Q : Exit → Act → World → Prop} {t e : TypeId} {sz bytes : Nat} (T : AppTy P t e sz bytes) (hgd : o.guard = none) (s x : Operand)
    (ho : o.op = .call { callee := .builtin .append, args := #[s, x], argTypes := #[t, t] }) (base : Nat) (v : Value) (n : Nat) (xs : List Value) (hs : a.eval s = v) (w0 : World) (news : List Value) (e2 : TypeId)
    (hx : a.eval x = .slice (some ⟨w0.heap.size, 0, none⟩) 1 1) (hl : news.length = sz) (h1 : ∀ u ∈ news, u.oneCell' = true) (hown : w0.ownsRow base e sz v n xs) (hn : n < 1099511627775) (hbase : base ≤ w0.heap.size)
    (h : ∀ v' w', w'.ownsRow base e sz v' (n + 1) (xs ++ news) → w0.grownBy w' v.ownBlock → v' ≠ .slice none 0 0 → (∀ k, v'.ownBlock = some k → v.ownBlock = some k ∨ w0.heap.size ≤ k) → wpList P ops Q rest (a.put o.dst v') w') : wpList P ops Q (o :: rest) a (w0.alloc (.cells news.toArray e2)) := by
  obtain ⟨ht, ⟨i, z, h11, h12, h13, h14, h15⟩, hpos, hsm⟩ := T
  have hnews : ∀ (j : Nat) u, news[j]? = some u → (w0.alloc (.cells news.toArray e2)).cell? ((⟨w0.heap.size, 0, none⟩ : Addr).add j) = some u := by
    intro j u hj
    have hadd : (⟨w0.heap.size, 0, none⟩ : Addr).add j = ⟨w0.heap.size, j, none⟩ := by unfold Addr.add; split <;> simp_all
    rw [hadd]
    have hh := heap_alloc_new w0 (.cells news.toArray e2)
    simp only [World.cell?, hh]
    simp [hj]
  have h63 : n + 1 ≤ maxLen := by unfold maxLen; omega
  have hby : (n + 1) * bytes ≤ 140737488355328 := by
    have : (n + 1) * bytes ≤ 1099511627775 * 128 := Nat.mul_le_mul (by omega) hsm
    omega
  have hl1 : news.length = 1 * sz := by rw [hl, Nat.one_mul]
  obtain ⟨v', w', hr, h2, hg, hv⟩ := run_append_own (P := P) (w0.alloc (.cells news.toArray e2)) base t o.type e i z sz bytes ht h11 h12 h13 h14 h15 hpos v n xs (hown.alloc _) ⟨w0.heap.size, 0, none⟩ 1 1 news hl1 hnews h1 h63 hby (by simp; omega)
  have hpl := run_append_place (P := P) (w0.alloc (.cells news.toArray e2)) base t o.type e i z sz bytes ht h11 h12 h13 h14 h15 v n xs (hown.alloc _) ⟨w0.heap.size, 0, none⟩ 1 1 news hl1 (by omega) hnews h1 h63 hby hr
  refine wpList_plain hgd fun K hK => ?_
  unfold Oper.wp execOp
  simp only [ho, resolve, invoke, builtin, Sem.run_bind, Sem.run_pure, Result.andThen_ok, List.map_toArray, List.map_cons, List.map_nil, hs, hx, hr]
  refine hK _ _ (h v' w' h2 ⟨hg.os, hg.tape, hg.output, by have := hg.size; simp at this; omega, fun k hk hne => ?_⟩ (fun e => by have := (hv.1 e).2; omega) ?_)
  · rw [hg.block k (by simp; omega) hne]
    exact Below.heap_alloc _ _ _ hk
  · intro k hk
    rcases hpl with hp | hp
    · left; rw [← hp]; exact hk
    · right; rw [hp] at hk; cases hk; simp
theorem wpList_app1 {P : Program} {ops : Array Oper} {rest : List Oper} {o : Oper} {a : Act} {Q : Exit → Act → World → Prop} {t e : TypeId} {sz bytes : Nat} (T : AppTy P t e sz bytes) (hgd : o.guard = none) (s x : Operand)
    (ho : o.op = .call { callee := .builtin .append, args := #[s, x], argTypes := #[t, t] }) (base : Nat) (v : Value) (n : Nat) (xs : List Value) (hs : a.eval s = v) (w0 : World) (news : List Value) (e2 : TypeId)
    (hx : a.eval x = .slice (some ⟨w0.heap.size, 0, none⟩) 1 1) (hl : news.length = sz) (h1 : ∀ u ∈ news, u.oneCell' = true) (hown : w0.ownsRow base e sz v n xs) (hn : n < 1099511627775) (hbase : base ≤ w0.heap.size)
    (h : ∀ v' w', w'.ownsRow base e sz v' (n + 1) (xs ++ news) → w0.grownBy w' v.ownBlock → v' ≠ .slice none 0 0 → wpList P ops Q rest (a.put o.dst v') w') : wpList P ops Q (o :: rest) a (w0.alloc (.cells news.toArray e2)) :=
  wpList_app1p T hgd s x ho base v n xs hs w0 news e2 hx hl h1 hown hn hbase fun v' w' h2 h3 h4 _ => h v' w' h2 h3 h4

/-- An owned row reads. -/
theorem row_of_owns {w : World} {base : Nat} {e : TypeId} {sz : Nat} {v : Value} {n : Nat} {xs : List Value} (h : w.ownsRow base e sz v n xs) : RowAt (fun k => base ≤ k ∧ v.ownBlock = some k) w sz v n xs := by
  obtain ⟨hl, h2⟩ := h
  rcases h2 with ⟨rfl, rfl⟩ | ⟨g, cap, cur, rfl, hg, hh, hn, hcap, hsz, htake⟩
  · exact ⟨hl, none, 0, rfl, Nat.le_refl _, by unfold maxLen; omega, .inl rfl⟩
  · refine ⟨hl, _, cap, rfl, hn, hcap, .inr ⟨g, 0, rfl, ⟨hg, rfl⟩, fun j u hj => ?_⟩⟩
    rw [Nat.zero_add, cell_of_row w g j cur e (0, 0) hh]
    rw [← htake, List.getElem?_take] at hj
    split at hj
    · simpa using hj
    · cases hj
theorem RowAt.weak {S T : Nat → Prop} {w : World} {sz : Nat} {v : Value} {n : Nat} {cells : List Value} (h : RowAt S w sz v n cells) (hs : ∀ k, S k → T k) : RowAt T w sz v n cells := by
  obtain ⟨hl, a, cap, hv, hn, hm, h0⟩ := h
  refine ⟨hl, a, cap, hv, hn, hm, ?_⟩
  rcases h0 with h0 | ⟨b, o, ha, hb, hc⟩
  · exact .inl h0
  · exact .inr ⟨b, o, ha, hs b hb, hc⟩
/-- What the round has grown lies from base on. -/
theorem below_grown {B : Nat} {w0 w w' : World} {base : Nat} {e : TypeId} {sz : Nat} {v : Value} {n : Nat} {xs : List Value} (hb : Below B w0 w) (ho : w.ownsRow base e sz v n xs) (hg : w.grownBy w' v.ownBlock) (h1 : B ≤ base) (h2 : B ≤ w.heap.size) : Below B w0 w' :=
  hb.grown hg h2 (fun k hk => by have := (ho.lt k hk).1; omega)
/-- s = s[:len(s)-1] -/
theorem owns_pop {w : World} {base : Nat} {e : TypeId} {sz : Nat} {v : Value} {n : Nat} {xs last : List Value} (hx : xs.length = n * sz) (h : w.ownsRow base e sz v (n + 1) (xs ++ last)) : ∃ g cap, v = .slice (some ⟨g, 0, none⟩) (n + 1) cap ∧ n + 1 ≤ cap ∧ cap ≤ maxLen ∧ w.ownsRow base e sz (.slice (some ⟨g, 0, none⟩) n cap) n xs := by
  have h0 := h
  obtain ⟨_, h2⟩ := h
  rcases h2 with ⟨_, h0⟩ | ⟨g, cap, cur, rfl, hg, hh, hn, hcap, hsz, htake⟩
  · omega
  · exact ⟨g, cap, rfl, hn, hcap, ownsRow_pop hx h0⟩
theorem owns_shape {w : World} {base : Nat} {e : TypeId} {sz : Nat} {v : Value} {n : Nat} {xs : List Value} (h : w.ownsRow base e sz v n xs) : ∃ a cap, v = .slice a n cap ∧ n ≤ cap ∧ cap ≤ maxLen := by
  obtain ⟨_, h2⟩ := h
  rcases h2 with ⟨rfl, rfl⟩ | ⟨g, cap, cur, rfl, hg, hh, hn, hcap, hsz, htake⟩
  · exact ⟨_, _, rfl, Nat.le_refl _, by unfold maxLen; omega⟩
  · exact ⟨_, _, rfl, hn, hcap⟩

theorem Tryz.appStrings : AppTy Tryz.prog 148 9 1 16 := AppTy.mk' (z := .string ByteArray.empty) Tryz.underlying148 (by kernel_rfl) rfl (by decide) (by decide)

end Go.Proofs.YtndgmcggckpgfaaGreatDoor

/- Rows of structs: cells that are read as a list of things. -/
namespace Go.Proofs.YtndgmcggckpgfaaGreatDoor
open Go.RowKit

def RowsIn {α : Type} (R : List Value → α → Prop) : List Value → List α → Prop
  | cells, [] => cells = []
  | cells, x :: xs => ∃ c rest, cells = c ++ rest ∧ R c x ∧ RowsIn R rest xs

section
variable {α : Type} {R R' : List Value → α → Prop} {sz : Nat}
theorem RowsIn.mono : ∀ {xs : List α} {cells : List Value}, (∀ c x, x ∈ xs → R c x → R' c x) → RowsIn R cells xs → RowsIn R' cells xs
  | [], _, _, h => h
  | x :: xs, cells, hm, h => by
    obtain ⟨c, rest, rfl, hc, hr⟩ := h
    exact ⟨c, rest, rfl, hm c x (by simp) hc, RowsIn.mono (fun c y hy => hm c y (by simp [hy])) hr⟩
theorem RowsIn.snoc : ∀ {xs : List α} {cells c : List Value} {x : α}, RowsIn R cells xs → R c x → RowsIn R (cells ++ c) (xs ++ [x])
  | [], cells, c, x, h, hc => by
    have : cells = [] := h
    subst this
    exact ⟨c, [], by simp, hc, rfl⟩
  | y :: xs, cells, c, x, h, hc => by
    obtain ⟨d, rest, rfl, hd, hr⟩ := h
    exact ⟨d, rest ++ c, by simp, hd, RowsIn.snoc hr hc⟩
theorem RowsIn.len (hs : ∀ c x, R c x → c.length = sz) : ∀ {xs : List α} {cells : List Value}, RowsIn R cells xs → cells.length = xs.length * sz
  | [], cells, h => by have : cells = [] := h; subst this; simp
  | x :: xs, cells, h => by
    obtain ⟨c, rest, rfl, hc, hr⟩ := h
    rw [List.length_append, hs c x hc, RowsIn.len hs hr, List.length_cons, Nat.add_mul]; omega
theorem RowsIn.get (hs : ∀ c x, R c x → c.length = sz) : ∀ {xs : List α} {cells : List Value} {i : Nat} {x : α}, RowsIn R cells xs → xs[i]? = some x → ∃ c, R c x ∧ ∀ j, j < sz → cells[i * sz + j]? = c[j]?
  | [], _, i, _, _, hi => by simp at hi
  | y :: xs, cells, 0, x, h, hi => by
    obtain ⟨c, rest, rfl, hc, hr⟩ := h
    simp at hi; subst hi
    refine ⟨c, hc, fun j hj => ?_⟩
    rw [Nat.zero_mul, Nat.zero_add, List.getElem?_append_left (by rw [hs c y hc]; exact hj)]
  | y :: xs, cells, i + 1, x, h, hi => by
    obtain ⟨c, rest, rfl, hc, hr⟩ := h
    obtain ⟨d, hd, hj⟩ := RowsIn.get hs hr (i := i) (x := x) (by simpa using hi)
    refine ⟨d, hd, fun j hjs => ?_⟩
    have hl := hs c y hc
    rw [List.getElem?_append_right (by rw [hl, Nat.add_mul]; omega), hl, ← hj j hjs]
    congr 1
    rw [Nat.add_mul]; omega
theorem RowsIn.drop (hs : ∀ c x, R c x → c.length = sz) : ∀ {xs : List α} {cells : List Value} (i : Nat), RowsIn R cells xs → i ≤ xs.length → RowsIn R (cells.drop (i * sz)) (xs.drop i)
  | _, _, 0, h, _ => by simpa using h
  | [], _, i + 1, _, hi => by simp at hi
  | y :: xs, cells, i + 1, h, hi => by
    obtain ⟨c, rest, rfl, hc, hr⟩ := h
    have := RowsIn.drop hs i hr (by simpa using hi)
    rw [List.drop_succ_cons, Nat.add_mul, Nat.one_mul, Nat.add_comm, List.drop_append, hs c y hc]
    simp only [Nat.add_sub_cancel_left]
    rw [List.drop_of_length_le (by rw [hs c y hc]; omega)]
    exact this
end

/-- A slice value behind which a list of things lies, sz cells each. -/
def SeqAt {α : Type} (S : Nat → Prop) (w : World) (sz : Nat) (R : List Value → α → Prop) (v : Value) (xs : List α) : Prop :=
  ∃ cells, RowAt S w sz v xs.length cells ∧ RowsIn R cells xs

section
variable {α : Type} {S T : Nat → Prop} {w w' : World} {sz : Nat} {R R' : List Value → α → Prop} {v : Value} {xs : List α}
theorem SeqAt.shape (h : SeqAt S w sz R v xs) (hs : ∀ c x, R c x → c.length = sz) :
    ∃ a cap, v = .slice a xs.length cap ∧ xs.length ≤ cap ∧ cap ≤ maxLen ∧ ∀ (k : Nat) x, xs[k]? = some x → ∃ b o c, a = some ⟨b, o, none⟩ ∧ S b ∧ R c x ∧ c.length = sz ∧ ∀ j, j < sz → w.cell? ⟨b, o + (k * sz + j), none⟩ = c[j]? := by
  obtain ⟨cells, ⟨hl, a, cap, hv, hn, hm, h0⟩, hr⟩ := h
  refine ⟨a, cap, hv, hn, hm, fun k x hk => ?_⟩
  rcases h0 with h0 | ⟨b, o, ha, hb, hc⟩
  · simp [List.eq_nil_of_length_eq_zero h0] at hk
  · obtain ⟨c, hcx, hj⟩ := hr.get hs hk
    refine ⟨b, o, c, ha, hb, hcx, hs c x hcx, fun j hjs => ?_⟩
    have hlt : j < c.length := by rw [hs c x hcx]; exact hjs
    rw [List.getElem?_eq_getElem hlt]
    exact hc _ _ (by rw [hj j hjs, List.getElem?_eq_getElem hlt])
theorem SeqAt.same (h : SeqAt S w sz R v xs) (hs : SameOn S w w') (hR : ∀ c x, x ∈ xs → R c x → R' c x) : SeqAt S w' sz R' v xs := by
  obtain ⟨cells, h1, h2⟩ := h
  exact ⟨cells, h1.same hs, h2.mono hR⟩
theorem SeqAt.below (h : SeqAt S w sz R v xs) (hsz : 0 < sz) (hb : Below w.heap.size w w') (hR : ∀ c x, x ∈ xs → R c x → R' c x) : SeqAt S w' sz R' v xs := by
  obtain ⟨cells, h1, h2⟩ := h
  exact ⟨cells, h1.below hsz hb, h2.mono hR⟩
theorem SeqAt.mono (h : SeqAt S w sz R v xs) (hsz : 0 < sz) (hs : ∀ k, k < w.heap.size → S k → T k) (hR : ∀ c x, x ∈ xs → R c x → R' c x) : SeqAt T w sz R' v xs := by
  obtain ⟨cells, h1, h2⟩ := h
  exact ⟨cells, h1.mono hs hsz, h2.mono hR⟩
theorem SeqAt.nil : SeqAt S w sz R (.slice none 0 0) ([] : List α) := ⟨[], RowAt.nil _ _ _, rfl⟩
end
theorem add_lit (b o n : Nat) : (⟨b, o, none⟩ : Addr).add n = ⟨b, o + n, none⟩ := by unfold Addr.add; split <;> simp_all

end Go.Proofs.YtndgmcggckpgfaaGreatDoor

/- append with a whole slice behind it, onto a row that the call owns. -/
namespace Go.Proofs.YtndgmcggckpgfaaGreatDoor
open Go Go.RowKit

theorem run_append_zero {P : Program} {w : World} (base : Nat) (t ty e : TypeId) (i : TypeInfo) (size : Nat) (ht : P.underlying t = some (.slice e)) (hi : P.info? e = some i)
    (v : Value) (n : Nat) (xs : List Value) (hown : w.ownsRow base e size v n xs) (a : Option Addr) (c : Nat) :
    (Builtin.append_ #[t, t] ty #[v, .slice a 0 c]).run P w = .ok v w := by
  rcases hown.2 with ⟨rfl, rfl⟩ | ⟨g, cap, cur, rfl, _, _, hnc, _⟩
  · cases a <;> simp [Builtin.append_, run_underlying ht, sizeOf, typeInfo, hi, Builtin.lenOf, Builtin.firstCells, loadCells, loadCellsFrom]
  · cases a <;> simp [Builtin.append_, run_underlying ht, sizeOf, typeInfo, hi, Builtin.lenOf, Builtin.firstCells, hnc, storeCells, loadCells, loadCellsFrom]
theorem wpList_appn {P : Program} {ops : Array Oper} {rest : List Oper} {o : Oper} {a : Act} {Q : Exit → Act → World → Prop} {w : World} {t e : TypeId} {sz bytes : Nat} {S : Nat → Prop} (T : AppTy P t e sz bytes) (hgd : o.guard = none) (s x : Operand)
    (ho : o.op = .call { callee := .builtin .append, args := #[s, x], argTypes := #[t, t] }) (base : Nat) (v : Value) (n : Nat) (xs : List Value) (hs : a.eval s = v) (hown : w.ownsRow base e sz v n xs) (vx : Value) (m : Nat) (news : List Value)
    (hx : a.eval x = vx) (hrow : RowAt S w sz vx m news) (h1 : ∀ u ∈ news, u.oneCell' = true) (hn : n + m < 1099511627775) (hbase : base ≤ w.heap.size)
    (h : ∀ v' w', w'.ownsRow base e sz v' (n + m) (xs ++ news) → w.grownBy w' v.ownBlock → wpList P ops Q rest (a.put o.dst v') w') : wpList P ops Q (o :: rest) a w := by
  obtain ⟨ht, ⟨i, z, h11, h12, h13, h14, h15⟩, hpos, hsm⟩ := T
  obtain ⟨hl, ad, cap, rfl, _, _, h0⟩ := hrow
  refine wpList_plain hgd fun K hK => ?_
  have hz : m = 0 → o.wp P a w K Q := by
    rintro rfl
    have hn0 : news = [] := List.eq_nil_of_length_eq_zero (by rw [hl]; simp)
    subst hn0
    have hrun := run_append_zero (P := P) (w := w) base t o.type e i sz ht h11 v n xs hown ad cap
    unfold Oper.wp execOp
    simp only [ho, resolve, invoke, builtin, Sem.run_bind, Sem.run_pure, Result.andThen_ok, List.map_toArray, List.map_cons, List.map_nil, hs, hx, hrun]
    exact hK _ _ (h v w (by simpa using hown) ⟨rfl, rfl, rfl, Nat.le_refl _, fun _ _ _ => rfl⟩)
  rcases h0 with h0 | ⟨b, of, rfl, _, hc⟩
  · exact hz h0
  · have hnews : ∀ (j : Nat) u, news[j]? = some u → w.cell? ((⟨b, of, none⟩ : Addr).add j) = some u := fun j u hj => by rw [add_lit]; exact hc j u hj
    have h63 : n + m ≤ maxLen := by unfold maxLen; omega
    have hby : (n + m) * bytes ≤ 140737488355328 := by
      have : (n + m) * bytes ≤ 1099511627775 * 128 := Nat.mul_le_mul (by omega) hsm
      omega
    obtain ⟨v', w', hr, h2, hg, _⟩ := run_append_own (P := P) w base t o.type e i z sz bytes ht h11 h12 h13 h14 h15 hpos v n xs hown ⟨b, of, none⟩ m cap news hl hnews h1 h63 hby hbase
    unfold Oper.wp execOp
    simp only [ho, resolve, invoke, builtin, Sem.run_bind, Sem.run_pure, Result.andThen_ok, List.map_toArray, List.map_cons, List.map_nil, hs, hx, hr]
    exact hK _ _ (h v' w' h2 hg)

end Go.Proofs.YtndgmcggckpgfaaGreatDoor

/- A region that draws its order, cut into segments: within a segment the operations leave the world alone, and between segments there is one operation for which all earlier ones are waited for. Then the order of the text serves. -/
namespace Go.Proofs.YtndgmcggckpgfaaGreatDoor
open Go

section
variable {P : Program} {ops : Array Oper} {md : Region.Mode} {w : World}

/-- Every operation before m is waited for by a later one up to m; every operation behind m waits for one from m on. -/
def cutB (md : Region.Mode) (ops : Array Oper) (m : Nat) : Bool :=
  ((List.range m).all fun i => decide (ops.size ≤ m) || (List.range (m + 1)).any fun j => decide (i < j) && Region.waitsFor md ops j i) &&
  ((List.range ops.size).all fun t => decide (t ≤ m) || (List.range t).any fun u => decide (m ≤ u) && Region.waitsFor md ops t u)

theorem cut_waits {m : Nat} {listed : Array Bool} (hc : cutB md ops m = true) (inv : HeadInv md ops m listed) :
    ∀ (d i : Nat), m - i = d → i < m → listed.getD i true = false → ∀ t, m ≤ t → t ∉ Region.ready md ops listed := by
  simp only [cutB, Bool.and_eq_true] at hc
  obtain ⟨hs, hch⟩ := hc
  intro d
  induction d using Nat.strongRecOn with
  | _ d ih =>
    intro i hd hi hun t ht hr
    obtain ⟨_, ot, hot, hall⟩ := mem_ready.1 hr
    have htlt : t < ops.size := (Array.getElem?_eq_some_iff.1 hot).1
    rcases Nat.lt_or_ge m t with htm | htm
    · have h1 := List.all_eq_true.1 hch t (List.mem_range.2 htlt)
      simp only [Bool.or_eq_true, decide_eq_true_eq] at h1
      rcases h1 with h1 | h1
      · omega
      · obtain ⟨u, hu, hu2⟩ := List.any_eq_true.1 h1
        simp only [Bool.and_eq_true, decide_eq_true_eq] at hu2
        obtain ⟨o', ho', e, he, hb, hon⟩ := Region.waitsFor_spec hu2.2
        have ho : o' = ot := Option.some.inj (ho'.symm.trans hot)
        subst ho
        have h2 := hall e he hb
        rw [hon, getD_both (inv.tail u hu2.1 (by have := List.mem_range.1 hu; omega))] at h2
        cases h2
    · have htm' : t = m := by omega
      subst htm'
      have h1 := List.all_eq_true.1 hs i (List.mem_range.2 hi)
      simp only [Bool.or_eq_true, decide_eq_true_eq] at h1
      rcases h1 with h1 | h1
      · omega
      · obtain ⟨j, hj, hj2⟩ := List.any_eq_true.1 h1
        simp only [Bool.and_eq_true, decide_eq_true_eq] at hj2
        obtain ⟨oj, hoj, e, he, hb, hon⟩ := Region.waitsFor_spec hj2.2
        have hjle := List.mem_range.1 hj
        rcases Nat.lt_or_ge j t with hjt | hjt
        · cases hl : listed.getD j false with
          | true =>
            have h2 := inv.closed j oj hoj hl e he hb
            rw [hon, getD_both hun] at h2
            cases h2
          | false =>
            exact ih (t - j) (by omega) j rfl hjt (getD_in (by rw [inv.size]; omega) hl) t (Nat.le_refl _) hr
        · have hjt' : j = t := by omega
          subst hjt'
          have ho : oj = ot := Option.some.inj (hoj.symm.trans hot)
          subst ho
          have h2 := hall e he hb
          rw [hon, getD_both hun] at h2
          cases h2

theorem seg_first {m i : Nat} {oi : Oper} {v : Value} {L : Array Bool → Act → Prop} (hi : ops[i]? = some oi) (hsel : ∀ (j : Nat) (o : Oper) cs b, ops[j]? = some o → o.op ≠ .select cs b)
    (hc : cutB md ops m = true) (hin : i < m) (hdone : ∀ listed a, L listed a → ∀ j ∈ Region.ready md ops listed, m ≤ j) :
    ∀ (f : Nat) (listed : Array Bool) (a : Act), HeadInv md ops m listed →
      (∀ j oj, ops[j]? = some oj → j ≠ i → listed.getD j true = false → (∀ e ∈ oj.after, Region.binds md e = true → e.on ≠ i) → oi.apart ops oj = true) →
      i ∈ Region.ready md ops listed → YieldsAt P ops w oi v a →
      wpAnyL P md ops w m L f (listed.setIfInBounds i true) (a.put oi.dst v) → wpAnyL P md ops w m L (f + 1) listed a := by
  intro f
  induction f with
  | zero =>
    intro listed a inv _ hr hy H
    have hun := (mem_ready.1 hr).1
    refine ⟨List.ne_nil_of_mem hr, fun j hj => ?_⟩
    have hjm : j < m := Nat.lt_of_not_le fun h => cut_waits hc inv _ i rfl hin hun j h hj
    refine ⟨hjm, ?_⟩
    by_cases hji : j = i
    · subst hji; exact hy.stOp hi H
    · have := hdone _ _ H j (ready_mono hj hji)
      omega
  | succ f ih =>
    intro listed a inv hfree hr hy H
    have hun := (mem_ready.1 hr).1
    refine ⟨List.ne_nil_of_mem hr, fun j hj => ?_⟩
    have hjm : j < m := Nat.lt_of_not_le fun h => cut_waits hc inv _ i rfl hin hun j h hj
    refine ⟨hjm, ?_⟩
    by_cases hji : j = i
    · subst hji; exact hy.stOp hi H
    · have h1 := (H.2 j (ready_mono hj hji)).2
      obtain ⟨hjun, oj, hoj, hall⟩ := mem_ready.1 hj
      have hnot : ∀ e ∈ oj.after, Region.binds md e = true → e.on ≠ i := fun e he hb heq => by
        have h1 := hall e he hb
        rw [heq, getD_both hun] at h1
        cases h1
      have h2 := stOp_put hoj (hfree j oj hoj hji hjun hnot) (fun cs b => hsel i oi cs b hi) (fun cs b => hsel j oj cs b hoj) hy h1
      refine stOp_mono (fun a' h3 => ih (listed.setIfInBounds j true) a' (inv.set hj hjm) (fun k ok hk hki hunk hno => ?_) (ready_mono hr (Ne.symm hji)) h3.1 ?_) h2
      · refine hfree k ok hk hki ?_ hno
        by_cases hjk : j = k
        · subst hjk; exact hjun
        · rw [getD_set_ne true hjk] at hunk; exact hunk
      · rw [Array.setIfInBounds_comm _ _ hji]
        exact h3.2

/-- The list behind n operations from k on. -/
def behind : Nat → Nat → Array Bool → Array Bool
  | 0, _, listed => listed
  | n + 1, k, listed => behind n (k + 1) (listed.setIfInBounds k true)
/-- The n operations from k on may be taken in the order of the text. -/
def segB (md : Region.Mode) (ops : Array Oper) : Nat → Nat → Array Bool → Bool
  | 0, k, listed => (Region.ready md ops listed).all fun j => decide (k ≤ j)
  | n + 1, k, listed => (Region.ready md ops listed).contains k && Region.free md ops listed k && segB md ops n (k + 1) (listed.setIfInBounds k true)

theorem seg_lex {m : Nat} {Lq : Act → Prop} (hsel : Region.noSelect ops = true) (hc : cutB md ops m = true) (LM : Array Bool) :
    ∀ (l : List Oper) (k : Nat) (listed : Array Bool) (a : Act), (∀ j, j < l.length → l[j]? = ops[k + j]?) → k + l.length = m → HeadInv md ops m listed →
    segB md ops l.length k listed = true → behind l.length k listed = LM → wpStill P ops w Lq l a →
    wpAnyL P md ops w m (fun listed' a' => listed' = LM ∧ Lq a') l.length listed a ∧ ∀ j ∈ Region.ready md ops LM, m ≤ j
  | [], k, listed, a, _, hk, _, hB, hL, h => by
    have hkm : k = m := by simpa using hk
    subst hkm
    have hLM : listed = LM := hL
    subst hLM
    refine ⟨⟨rfl, h⟩, fun j hj => ?_⟩
    have := List.all_eq_true.1 hB j hj
    simpa using this
  | o :: l, k, listed, a, hl, hk, inv, hB, hL, h => by
    have h0 : ops[k]? = some o := by simpa using (hl 0 (by simp)).symm
    simp only [List.length_cons, segB, Bool.and_eq_true] at hB
    obtain ⟨⟨hr, hf⟩, hB'⟩ := hB
    have hkm : k < m := by simp only [List.length_cons] at hk; omega
    have hr' : k ∈ Region.ready md ops listed := by simpa using hr
    have hst : stOp P ops w k (wpStill P ops w Lq l) a := by unfold stOp; simp only [h0]; exact h
    obtain ⟨v, hy, hK⟩ := yieldsAt_of_stOp h0 hst
    have IH := seg_lex hsel hc LM l (k + 1) _ _ (fun j hj => by have := hl (j + 1) (by simp; omega); simpa [Nat.add_assoc, Nat.add_comm 1 j] using this) (by simp only [List.length_cons] at hk; omega) (inv.set hr' hkm) hB' hL hK
    refine ⟨seg_first h0 (Region.noSelect_spec hsel) hc hkm (fun listed' a' hL' => ?_) l.length listed a inv (Region.free_spec h0 hf) hr' hy IH.1, IH.2⟩
    rw [hL'.1]; exact IH.2

/-- The list is closed, and nothing from m on is in it. -/
def headB (md : Region.Mode) (ops : Array Oper) (m : Nat) (listed : Array Bool) : Bool :=
  decide (listed.size = ops.size) &&
  ((List.range ops.size).all fun j => !listed.getD j false || match ops[j]? with | some oj => oj.after.all (fun e => !Region.binds md e || listed.getD e.on false) | none => true) &&
  ((List.range ops.size).all fun t => decide (t < m) || !listed.getD t true)
theorem headB_spec {m : Nat} {listed : Array Bool} (h : headB md ops m listed = true) : HeadInv md ops m listed := by
  simp only [headB, Bool.and_eq_true, decide_eq_true_eq] at h
  obtain ⟨⟨h1, h2⟩, h3⟩ := h
  refine ⟨h1, fun j oj hj hl e he hb => ?_, fun t ht ht2 => ?_⟩
  · have := List.all_eq_true.1 h2 j (List.mem_range.2 (Array.getElem?_eq_some_iff.1 hj).1)
    rw [hl, hj] at this
    simp only [Bool.not_true, Bool.false_or] at this
    have := Array.all_eq_true'.1 this e he
    rw [hb] at this
    simpa using this
  · have := List.all_eq_true.1 h3 t (List.mem_range.2 ht2)
    simp only [Bool.or_eq_true, decide_eq_true_eq] at this
    rcases this with h | h
    · omega
    · simpa using h

/-- The segments: some n: n operations that leave the world alone; none: one operation that all wait for. -/
def segsB (md : Region.Mode) (ops : Array Oper) : List (Option Nat) → Nat → Array Bool → Bool
  | [], k, listed => decide (k = ops.size) && (Region.ready md ops listed).isEmpty
  | some n :: s, k, listed => decide (k + n ≤ ops.size) && cutB md ops (k + n) && headB md ops (k + n) listed && segB md ops n k listed && segsB md ops s (k + n) (behind n k listed)
  | none :: s, k, listed => decide (k < ops.size) && decide (Region.ready md ops listed = [k]) && segsB md ops s (k + 1) (listed.setIfInBounds k true)
/-- A segment, closed to the look of 'whnf'. -/
@[irreducible] def Seg (P : Program) (ops : Array Oper) (w : World) (Q : Act → Prop) (l : List Oper) (a : Act) : Prop := wpStill P ops w Q l a
theorem Seg.out {Q : Act → Prop} {l : List Oper} {a : Act} (h : Seg P ops w Q l a) : wpStill P ops w Q l a := by unfold Seg at h; exact h
theorem Seg.of {Q : Act → Prop} {l : List Oper} {a : Act} (h : wpStill P ops w Q l a) : Seg P ops w Q l a := by unfold Seg; exact h
@[irreducible] def Bar (P : Program) (ops : Array Oper) (next : Act → World → Prop) (Q : Exit → Act → World → Prop) (l : List Oper) (a : Act) (w : World) : Prop := wpList P ops (Exit.then next Q) l a w
theorem Bar.out {next : Act → World → Prop} {Q : Exit → Act → World → Prop} {l : List Oper} {a : Act} (h : Bar P ops next Q l a w) : wpList P ops (Exit.then next Q) l a w := by unfold Bar at h; exact h
theorem Bar.of {next : Act → World → Prop} {Q : Exit → Act → World → Prop} {l : List Oper} {a : Act} (h : wpList P ops (Exit.then next Q) l a w) : Bar P ops next Q l a w := by unfold Bar; exact h
def wpSegs (P : Program) (ops : Array Oper) (Q : Exit → Act → World → Prop) : List (Option Nat) → List Oper → Act → World → Prop
  | [], _, a, w => Q .normal a w
  | some n :: s, l, a, w => Seg P ops w (fun a' => wpSegs P ops Q s (l.drop n) a' w) (l.take n) a
  | none :: s, l, a, w => Bar P ops (fun a' w' => wpSegs P ops Q s (l.drop 1) a' w') Q (l.take 1) a w

theorem wpAny_of_segs {Q : Exit → Act → World → Prop} (hsel : Region.noSelect ops = true) : ∀ (s : List (Option Nat)) (l : List Oper) (k : Nat) (listed : Array Bool) (a : Act) (w : World),
    (∀ j, l[j]? = ops[k + j]?) → segsB md ops s k listed = true → wpSegs P ops Q s l a w → wpAny P md ops Q (ops.size - k) listed a w
  | [], l, k, listed, a, w, hl, hB, h => by
    simp only [segsB, Bool.and_eq_true, decide_eq_true_eq] at hB
    rw [hB.1, Nat.sub_self]
    exact ⟨by simpa using hB.2, h⟩
  | some n :: s, l, k, listed, a, w, hl, hB, h => by
    simp only [segsB, Bool.and_eq_true, decide_eq_true_eq] at hB
    obtain ⟨⟨⟨⟨hn, hc⟩, hh⟩, hs⟩, hB'⟩ := hB
    have hll : l.length = ops.size - k := by
      have h1 : ∀ j, j < l.length ↔ k + j < ops.size := fun j => by
        constructor
        · intro hj; have := hl j; rw [List.getElem?_eq_getElem hj] at this; exact (Array.getElem?_eq_some_iff.1 this.symm).1
        · intro hj; have := hl j; rw [Array.getElem?_eq_getElem hj] at this; exact (List.getElem?_eq_some_iff.1 this).1
      rcases Nat.lt_trichotomy l.length (ops.size - k) with h2 | h2 | h2
      · have := (h1 l.length).2 (by omega); omega
      · exact h2
      · have := (h1 (ops.size - k)).1 h2; omega
    have htl : (l.take n).length = n := by simp; omega
    have H := seg_lex (P := P) (md := md) (w := w) hsel hc (behind n k listed) (l.take n) k listed a (fun j hj => by
      rw [htl] at hj
      rw [List.getElem?_take, if_pos hj]; exact hl j) (by rw [htl]) (headB_spec hh) (by rw [htl]; exact hs) (by rw [htl]) (Seg.out h)
    have := wpAny_of_head (Q' := Q) (g := ops.size - (k + n)) (fun listed' a' hL => by
      rw [hL.1]
      exact wpAny_of_segs hsel s (l.drop n) (k + n) _ a' w (fun j => by rw [List.getElem?_drop, hl, Nat.add_assoc]) hB' hL.2) _ _ _ H.1
    rw [htl, show n + (ops.size - (k + n)) = ops.size - k by omega] at this
    exact this
  | none :: s, l, k, listed, a, w, hl, hB, h => by
    simp only [segsB, Bool.and_eq_true, decide_eq_true_eq] at hB
    obtain ⟨⟨hk, hr⟩, hB'⟩ := hB
    obtain ⟨o, ho⟩ : ∃ o, ops[k]? = some o := ⟨ops[k], by simp [hk]⟩
    have h0 : l[0]? = some o := by rw [hl]; exact ho
    obtain ⟨l', rfl⟩ : ∃ l', l = o :: l' := by
      cases l with
      | nil => simp at h0
      | cons x y => simp at h0; exact ⟨y, by rw [h0]⟩
    rw [show ops.size - k = (ops.size - (k + 1)) + 1 by omega]
    refine ⟨fun h1 => (by rw [hr] at h1; cases h1), fun i hi => ?_⟩
    rw [hr] at hi
    have hik : i = k := by simpa using hi
    subst hik
    have hw : wpOp P ops Q i (fun a' w' => wpSegs P ops Q s l' a' w') a w := by
      unfold wpOp
      simp only [ho]
      exact Bar.out h
    exact wpOp_mono (fun a' w' h' => wpAny_of_segs hsel s l' (i + 1) _ a' w' (fun j => by have := hl (j + 1); simpa [Nat.add_assoc, Nat.add_comm 1 j] using this) hB' h') hw

theorem wp_region_segs {id : Nat} {Q : Exit → Act → World → Prop} {a : Act} {w : World} {l : List Oper} (s : List (Option Nat)) (hm : P.follows .mixedOrders = true) (hsel : Region.noSelect l.toArray = true)
    (hB : segsB .any l.toArray s 0 (Array.replicate l.toArray.size false) = true) (h : wpSegs P l.toArray Q s l a w.drew) : (Code.region id l.toArray true).wp P Q a w := by
  refine wp_region_any hm ?_
  have := wpAny_of_segs (md := .any) (P := P) (Q := Q) hsel s l 0 _ a w.drew (by simp) hB h
  simpa using this

/-- The steps of a segment; the region's operations are laid aside. -/
theorem seg_nil {Q : Act → Prop} {a : Act} (h : Q a) : Seg P ops w Q [] a := Seg.of h
theorem seg_skip {Q : Act → Prop} {a : Act} {o : Oper} {rest : List Oper} (hw : Region.wanted o (yielded ops a.tmps) = false) (h : Seg P ops w Q rest (a.put o.dst undef)) : Seg P ops w Q (o :: rest) a := by
  refine Seg.of ?_
  unfold wpStill; rw [hw]; exact h.out
theorem seg_run {Q : Act → Prop} {a : Act} {dst : Option Tmp} {op : Op} {ty : TypeId} {pos : String} {aft : Array Edge} {g : Option (Nat × Bool)} {rest : List Oper} (hw : Region.wanted ⟨dst, op, ty, pos, aft, g⟩ (yielded ops a.tmps) = true)
    (h : ∀ K : Act → Prop, (∀ a, Seg P ops w Q rest a → K a) → Oper.still P ⟨dst, op, ty, pos, #[], none⟩ a w K) : Seg P ops w Q (⟨dst, op, ty, pos, aft, g⟩ :: rest) a := by
  refine Seg.of ?_
  unfold wpStill; rw [hw]; exact h _ (fun _ h => h.out)
theorem bar_skip {Q : Exit → Act → World → Prop} {next : Act → World → Prop} {a : Act} {o : Oper} (hw : Region.wanted o (yielded ops a.tmps) = false) (h : next (a.put o.dst undef) w) : Bar P ops next Q [o] a w := by
  refine Bar.of ?_
  unfold wpList; rw [hw]; exact h
theorem bar_run {Q : Exit → Act → World → Prop} {next : Act → World → Prop} {a : Act} {dst : Option Tmp} {op : Op} {ty : TypeId} {pos : String} {aft : Array Edge} {g : Option (Nat × Bool)} (hw : Region.wanted ⟨dst, op, ty, pos, aft, g⟩ (yielded ops a.tmps) = true)
    (h : ∀ K : Act → World → Prop, (∀ a w, next a w → K a w) → wpList P #[] (Exit.then K Q) [⟨dst, op, ty, pos, #[], none⟩] a w) : Bar P ops next Q [⟨dst, op, ty, pos, aft, g⟩] a w := by
  refine Bar.of ?_
  have := h _ (fun _ _ h => h)
  unfold wpList at this ⊢
  rw [hw]
  simp only [Region.wanted, if_true] at this
  exact this
end

end Go.Proofs.YtndgmcggckpgfaaGreatDoor

/- A region that draws its order: operations that yield the same in every world that meets S are taken first, in the order of the text; between them single operations that all wait for. -/
namespace Go.Proofs.YtndgmcggckpgfaaGreatDoor
open Go

section
variable {P : Program} {ops : Array Oper} {Q : Exit → Act → World → Prop} {S : World → Prop}
/-- A region on its way, closed to the look of 'whnf'. -/
@[irreducible] def Hld (P : Program) (ops : Array Oper) (Q : Exit → Act → World → Prop) (S : World → Prop) (fuel : Nat) (listed : Array Bool) (a : Act) (w : World) : Prop := wpAnyH P .any ops Q S fuel listed a w
theorem Hld.of {fuel : Nat} {listed : Array Bool} {a : Act} {w : World} (h : wpAnyH P .any ops Q S fuel listed a w) : Hld P ops Q S fuel listed a w := by unfold Hld; exact h
theorem Hld.out {fuel : Nat} {listed : Array Bool} {a : Act} {w : World} (h : Hld P ops Q S fuel listed a w) : wpAnyH P .any ops Q S fuel listed a w := by unfold Hld at h; exact h
theorem hld_start {id : Nat} {a : Act} {w : World} {l : List Oper} (S : World → Prop) (hm : P.follows .mixedOrders = true) (h : Hld P l.toArray Q S l.length (Array.replicate l.length false) a w.drew) : (Code.region id l.toArray true).wp P Q a w := by
  refine wp_region_held (S := S) hm ?_
  have := h.out
  simpa using this
theorem hld_take {dst : Option Tmp} {op : Op} {ty : TypeId} {pos : String} {aft : Array Edge} {g : Option (Nat × Bool)} {v : Value} {fuel : Nat} {listed : Array Bool} {a : Act} {w : World} (i : Nat) (hi : ops[i]? = some ⟨dst, op, ty, pos, aft, g⟩)
    (hs : Region.noSelect ops = true) (hf : Region.free .any ops listed i = true) (hr : (Region.ready .any ops listed).contains i = true)
    (hQ : ∀ c a w, Q (.panic c) (a.put dst v) w → Q (.panic c) a w) (hw : Region.wanted ⟨dst, op, ty, pos, aft, g⟩ (yielded ops a.tmps) = true) (hS : S w)
    (hy : ∀ w', S w' → (execOp a.eval ⟨dst, op, ty, pos, aft, g⟩).run P w' = .ok (.value v) w')
    (h : Hld P ops Q S fuel (listed.setIfInBounds i true) (a.put dst v) w) : Hld P ops Q S (fuel + 1) listed a w :=
  Hld.of (wpAnyH_take (oi := ⟨dst, op, ty, pos, aft, g⟩) hi hs hf hr hQ (.inl ⟨hw, hy⟩) hS h.out)

theorem hld_skip {dst : Option Tmp} {op : Op} {ty : TypeId} {pos : String} {aft : Array Edge} {g : Option (Nat × Bool)} {fuel : Nat} {listed : Array Bool} {a : Act} {w : World} (i : Nat) (hi : ops[i]? = some ⟨dst, op, ty, pos, aft, g⟩)
    (hs : Region.noSelect ops = true) (hf : Region.free .any ops listed i = true) (hr : (Region.ready .any ops listed).contains i = true)
    (hQ : ∀ c a w, Q (.panic c) (a.put dst undef) w → Q (.panic c) a w) (hw : Region.wanted ⟨dst, op, ty, pos, aft, g⟩ (yielded ops a.tmps) = false) (hS : S w)
    (h : Hld P ops Q S fuel (listed.setIfInBounds i true) (a.put dst undef) w) : Hld P ops Q S (fuel + 1) listed a w :=
  Hld.of (wpAnyH_take (oi := ⟨dst, op, ty, pos, aft, g⟩) hi hs hf hr hQ (.inr ⟨hw, rfl⟩) hS h.out)
theorem hld_bar {dst : Option Tmp} {op : Op} {ty : TypeId} {pos : String} {aft : Array Edge} {g : Option (Nat × Bool)} {fuel : Nat} {listed : Array Bool} {a : Act} {w : World} (i : Nat) (hi : ops[i]? = some ⟨dst, op, ty, pos, aft, g⟩) (hr : Region.ready .any ops listed = [i])
    (hw : Region.wanted ⟨dst, op, ty, pos, aft, g⟩ (yielded ops a.tmps) = true)
    (h : ∀ K : Act → World → Prop, (∀ a w, S w ∧ Hld P ops Q S fuel (listed.setIfInBounds i true) a w → K a w) → wpList P #[] (Exit.then K Q) [⟨dst, op, ty, pos, #[], none⟩] a w) : Hld P ops Q S (fuel + 1) listed a w := by
  refine Hld.of (wpAnyH_all hr (by simp) fun j hj => ?_)
  have hji : j = i := by simpa using hj
  subst hji
  have hb : Bar P ops (fun a' w' => S w' ∧ wpAnyH P .any ops Q S fuel (listed.setIfInBounds j true) a' w') Q [⟨dst, op, ty, pos, aft, g⟩] a w :=
    bar_run hw (fun K hK => h K (fun a w hh => hK a w ⟨hh.1, hh.2.out⟩))
  unfold wpOp
  simp only [hi]
  exact Bar.out hb
theorem hld_done {listed : Array Bool} {a : Act} {w : World} {fuel : Nat} (hr : Region.ready .any ops listed = []) (h : Q .normal a w) : Hld P ops Q S fuel listed a w := Hld.of (wpAnyH_done hr h fuel)
end
end Go.Proofs.YtndgmcggckpgfaaGreatDoor

/- Contracts of package wire: the reader's inner methods. -/
namespace Go.Proofs.YtndgmcggckpgfaaGreatDoor
open Go.RowKit

theorem cellH {w : World} {b k : Nat} {cs : Array Value} {t : TypeId} {z : Nat × Nat} (h : w.heap[b]? = some (.cells cs t z)) : w.cell? ⟨b, k, none⟩ = cs[k]? := by simp [World.cell?, h]
theorem frozenH {w : World} {b k : Nat} {cs : Array Value} {t : TypeId} (h : w.heap[b]? = some (.cells cs t (0, 0))) : w.frozen? ⟨b, k, none⟩ = false := by simp [World.frozen?, h]
def byteV (b : UInt8) : Value := .int .u8 (b.toNat : Int)
/-- A reader at block rb: its slice v holds data. -/
structure RdAt (w : World) (rb : Nat) (v : Value) (data : List UInt8) (off last : Nat) (err : Int) : Prop where
  box : w.heap[rb]? = some (.cells #[v, .int .i64 (off : Int), .int .i64 (last : Int), .int .i64 err] 128 (0, 0))
  row : RowAt (· ≠ rb) w 1 v data.length (data.map byteV)
  le : off ≤ data.length
  ls : last ≤ data.length
  small : data.length ≤ 32768
theorem set_at1 {w : World} {b : Nat} {a0 a1 a2 a3 x : Value} {t : TypeId} (h : w.heap[b]? = some (.cells #[a0, a1, a2, a3] t (0, 0))) : (w.setCell ⟨b, 1, none⟩ x).heap[b]? = some (.cells #[a0, x, a2, a3] t (0, 0)) := by
  simp only [World.setCell, Array.getElem?_modify, if_true, h, Option.map_some]; rfl
theorem set_at2 {w : World} {b : Nat} {a0 a1 a2 a3 x : Value} {t : TypeId} (h : w.heap[b]? = some (.cells #[a0, a1, a2, a3] t (0, 0))) : (w.setCell ⟨b, 2, none⟩ x).heap[b]? = some (.cells #[a0, a1, x, a3] t (0, 0)) := by
  simp only [World.setCell, Array.getElem?_modify, if_true, h, Option.map_some]; rfl
theorem set_at3 {w : World} {b : Nat} {a0 a1 a2 a3 x : Value} {t : TypeId} (h : w.heap[b]? = some (.cells #[a0, a1, a2, a3] t (0, 0))) : (w.setCell ⟨b, 3, none⟩ x).heap[b]? = some (.cells #[a0, a1, a2, x] t (0, 0)) := by
  simp only [World.setCell, Array.getElem?_modify, if_true, h, Option.map_some]; rfl
theorem RdAt.c0 {w : World} {rb : Nat} {v : Value} {data : List UInt8} {off last : Nat} {err : Int} (h : RdAt w rb v data off last err) : w.cell? ⟨rb, 0, none⟩ = some v := by rw [cellH h.box]; rfl
theorem RdAt.c1 {w : World} {rb : Nat} {v : Value} {data : List UInt8} {off last : Nat} {err : Int} (h : RdAt w rb v data off last err) : w.cell? ⟨rb, 1, none⟩ = some (.int .i64 (off : Int)) := by rw [cellH h.box]; rfl
theorem RdAt.c2 {w : World} {rb : Nat} {v : Value} {data : List UInt8} {off last : Nat} {err : Int} (h : RdAt w rb v data off last err) : w.cell? ⟨rb, 2, none⟩ = some (.int .i64 (last : Int)) := by rw [cellH h.box]; rfl
theorem RdAt.c3 {w : World} {rb : Nat} {v : Value} {data : List UInt8} {off last : Nat} {err : Int} (h : RdAt w rb v data off last err) : w.cell? ⟨rb, 3, none⟩ = some (.int .i64 err) := by rw [cellH h.box]; rfl
theorem RdAt.free {w : World} {rb : Nat} {v : Value} {data : List UInt8} {off last : Nat} {err : Int} (h : RdAt w rb v data off last err) (k : Nat) : w.frozen? ⟨rb, k, none⟩ = false := frozenH h.box
theorem RdAt.set1 {w : World} {rb : Nat} {v : Value} {data : List UInt8} {off last : Nat} {err : Int} (h : RdAt w rb v data off last err) (o : Nat) (ho : o ≤ data.length) : RdAt (w.setCell ⟨rb, 1, none⟩ (.int .i64 (o : Int))) rb v data o last err :=
  ⟨set_at1 h.box, h.row.same (fun _ hk => Below.heap_setCell _ _ _ _ hk), ho, h.ls, h.small⟩
theorem RdAt.set2 {w : World} {rb : Nat} {v : Value} {data : List UInt8} {off last : Nat} {err : Int} (h : RdAt w rb v data off last err) (o : Nat) (ho : o ≤ data.length) : RdAt (w.setCell ⟨rb, 2, none⟩ (.int .i64 (o : Int))) rb v data off o err :=
  ⟨set_at2 h.box, h.row.same (fun _ hk => Below.heap_setCell _ _ _ _ hk), h.le, ho, h.small⟩
theorem RdAt.set3 {w : World} {rb : Nat} {v : Value} {data : List UInt8} {off last : Nat} {err : Int} (h : RdAt w rb v data off last err) (e : Int) : RdAt (w.setCell ⟨rb, 3, none⟩ (.int .i64 e)) rb v data off last e :=
  ⟨set_at3 h.box, h.row.same (fun _ hk => Below.heap_setCell _ _ _ _ hk), h.le, h.ls, h.small⟩
theorem RdAt.lt {w : World} {rb : Nat} {v : Value} {data : List UInt8} {off last : Nat} {err : Int} (h : RdAt w rb v data off last err) : rb < w.heap.size := lt_of_block h.box
/-- A reader stays where other blocks are made. -/
theorem RdAt.below {w w' : World} {rb : Nat} {v : Value} {data : List UInt8} {off last : Nat} {err : Int} (h : RdAt w rb v data off last err) (hb : Below w.heap.size w w') : RdAt w' rb v data off last err :=
  ⟨by rw [hb.block _ h.lt]; exact h.box, h.row.below (by omega) hb, h.le, h.ls, h.small⟩
theorem grown_set (w : World) (b o : Nat) (x : Value) : w.grownBy (w.setCell ⟨b, o, none⟩ x) (some b) :=
  ⟨rfl, rfl, rfl, by simp [World.setCell], fun k hk hne => Below.heap_setCell _ _ _ _ (fun e => hne (by simpa using e))⟩
theorem grown_trans {a b c : World} {r : Option Nat} (h : a.grownBy b r) (k : b.grownBy c r) : a.grownBy c r :=
  ⟨k.os.trans h.os, k.tape.trans h.tape, k.output.trans h.output, Nat.le_trans h.size k.size, fun i hi hne => (k.block i (Nat.lt_of_lt_of_le hi h.size) hne).trans (h.block i hi hne)⟩
theorem grown_refl (w : World) (r : Option Nat) : w.grownBy w r := ⟨rfl, rfl, rfl, Nat.le_refl _, fun _ _ _ => rfl⟩
theorem RdAt.draws {w : World} {rb : Nat} {v : Value} {data : List UInt8} {off last : Nat} {err : Int} (h : RdAt w rb v data off last err) (n : Nat) : RdAt (w.drewN n) rb v data off last err := h.below (below_draws (Below.refl _ _) n)
theorem grown_draws {a w : World} {r : Option Nat} (h : a.grownBy w r) (n : Nat) : a.grownBy (w.drewN n) r := grown_trans h ⟨rfl, rfl, rfl, Nat.le_refl _, fun _ _ _ => rfl⟩
/-- The slice of a reader. -/
theorem RdAt.shape {w : World} {rb : Nat} {v : Value} {data : List UInt8} {off last : Nat} {err : Int} (h : RdAt w rb v data off last err) : ∃ a cap, v = .slice a data.length cap ∧ data.length ≤ cap ∧ cap ≤ maxLen ∧
    ∀ (k : Nat) b, data[k]? = some b → ∃ bk o, a = some ⟨bk, o, none⟩ ∧ bk ≠ rb ∧ w.cell? ⟨bk, o + k, none⟩ = some (byteV b) := by
  obtain ⟨_, a, cap, hv, hn, hm, h0⟩ := h.row
  refine ⟨a, cap, hv, hn, hm, fun k b hk => ?_⟩
  rcases h0 with h0 | ⟨bk, o, ha, hb, hc⟩
  · simp [List.eq_nil_of_length_eq_zero h0] at hk
  · exact ⟨bk, o, ha, hb, hc k _ (by simp [hk])⟩

/-- One byte of a number. -/
def numN (m : Nat) (b : UInt8) (k : Nat) : Nat := m ||| (b.toNat % 128 * 2 ^ (7 * k) % 18446744073709551616)
theorem numN_lt {m : Nat} (b : UInt8) (k : Nat) (h : m < 18446744073709551616) : numN m b k < 18446744073709551616 := by
  unfold numN
  exact Nat.or_lt_two_pow (n := 64) h (Nat.mod_lt _ (by decide))
theorem numN_bits (m : Nat) (b : UInt8) (k : Nat) (h : m < 18446744073709551616) : bits BinOp.or IntKind.u64 (m : Int) (IntKind.u64.wrap (IntKind.u64.wrap (bits BinOp.and IntKind.u8 (b.toNat : Int) 127) * 2 ^ (7 * k))) = (numN m b k : Int) := by
  have hb := b.toNat_lt
  rw [show (127 : Int) = ((127 : Nat) : Int) from rfl, u8_and_nat _ _ hb (by omega), show (127 : Nat) = 2 ^ 7 - 1 from rfl, Nat.and_two_pow_sub_one_eq_mod, IntKind.wrap_u64, IntKind.wrap_u64,
    show ((2 : Int) ^ (7 * k)) = ((2 ^ (7 * k) : Nat) : Int) by push_cast; rfl]
  have e : ((((b.toNat % 2 ^ 7 : Nat) : Int) % 18446744073709551616) * ((2 ^ (7 * k) : Nat) : Int)) % 18446744073709551616 = ((b.toNat % 128 * 2 ^ (7 * k) % 18446744073709551616 : Nat) : Int) := by
    rw [show (((b.toNat % 2 ^ 7 : Nat) : Int) % 18446744073709551616) = ((b.toNat % 128 : Nat) : Int) by omega]
    show _ % ((18446744073709551616 : Nat) : Int) = _
    rw [← Int.natCast_mul, ← Int.natCast_emod]
  rw [e, bits_or_u64_nat _ _ h (Nat.mod_lt _ (by decide))]; rfl
def numBad (b : UInt8) (k : Nat) : Bool := (decide (0 < k) && decide (b.toNat = 0)) || (decide (k = 9) && decide (1 < b.toNat))
def numG (data : List UInt8) : Nat → Nat → Nat → Nat → Except Int (Nat × Nat)
  | 0, _, _, _ => .error 3
  | f + 1, k, o, m => match data[o]? with
    | none => .error 3
    | some b => if 128 ≤ b.toNat then numG data f (k + 1) (o + 1) (numN m b k) else if numBad b k then .error 3 else .ok (numN m b k, o + 1)
def numE (data : List UInt8) (off : Nat) : Except Int (Nat × Nat) := numG data 10 0 off 0
theorem numG_more {data : List UInt8} {f k o m : Nat} {b : UInt8} (h : data[o]? = some b) (h2 : 128 ≤ b.toNat) : numG data (f + 1) k o m = numG data f (k + 1) (o + 1) (numN m b k) := by
  rw [numG, h]; simp only [if_pos h2]
theorem numG_bad {data : List UInt8} {f k o m : Nat} {b : UInt8} (h : data[o]? = some b) (h2 : ¬ 128 ≤ b.toNat) (h3 : numBad b k = true) : numG data (f + 1) k o m = .error 3 := by
  rw [numG, h]; simp only [if_neg h2, if_pos h3]
theorem numG_ok {data : List UInt8} {f k o m : Nat} {b : UInt8} (h : data[o]? = some b) (h2 : ¬ 128 ≤ b.toNat) (h3 : numBad b k = false) : numG data (f + 1) k o m = .ok (numN m b k, o + 1) := by
  rw [numG, h]; simp only [if_neg h2, h3]; rfl
theorem numG_end {data : List UInt8} {f k o m : Nat} (h : data.length ≤ o) : numG data f k o m = .error 3 := by
  cases f with
  | zero => rfl
  | succ f => rw [numG, List.getElem?_eq_none h]
theorem numG_spec (data : List UInt8) : ∀ (f k o m n o' : Nat), m < 18446744073709551616 → numG data f k o m = .ok (n, o') → n < 18446744073709551616 ∧ o < o' ∧ o' ≤ data.length
  | 0, _, _, _, _, _, _, h => by simp [numG] at h
  | f + 1, k, o, m, n, o', hm, h => by
    rw [numG] at h
    cases hd : data[o]? with
    | none => rw [hd] at h; simp at h
    | some b =>
      have hl := (List.getElem?_eq_some_iff.1 hd).1
      rw [hd] at h
      simp only at h
      split at h
      · obtain ⟨h1, h2, h3⟩ := numG_spec data f (k + 1) (o + 1) _ n o' (numN_lt b k hm) h
        exact ⟨h1, by omega, h3⟩
      · split at h
        · simp at h
        · simp only [Except.ok.injEq, Prod.mk.injEq] at h
          obtain ⟨rfl, rfl⟩ := h
          exact ⟨numN_lt b k hm, by omega, by omega⟩
theorem numE_spec {data : List UInt8} {off n o' : Nat} (h : numE data off = .ok (n, o')) : n < 18446744073709551616 ∧ off < o' ∧ o' ≤ data.length := numG_spec data 10 0 off 0 n o' (by decide) h

theorem numG_err (data : List UInt8) : ∀ (f k o m : Nat) (x : Int), numG data f k o m = .error x → x = 3
  | 0, _, _, _, _, h => by simp only [numG, Except.error.injEq] at h; exact h.symm
  | f + 1, k, o, m, x, h => by
    rw [numG] at h
    split at h
    · simp only [Except.error.injEq] at h; exact h.symm
    · split at h
      · exact numG_err data f _ _ _ x h
      · split at h
        · simp only [Except.error.injEq] at h; exact h.symm
        · simp at h
theorem numE_err {data : List UInt8} {off : Nat} {x : Int} (h : numE data off = .error x) : x = 3 := numG_err data 10 0 off 0 x h
/-- What a decoding method leaves. -/
def DecN (kd : IntKind) (w : World) (rb : Nat) (v : Value) (data : List UInt8) (last : Nat) (err : Int) (r : Except Int (Nat × Nat)) (e : Ending) (w' : World) : Prop :=
  ∃ o', RdAt w' rb v data o' last err ∧ w.grownBy w' (some rb) ∧ match r with
    | .ok (n, o) => e = .returned (.tuple #[.int kd (n : Int), .int .i64 0]) ∧ o' = o
    | .error x => e = .returned (.tuple #[.int kd 0, .int .i64 x])

set_option maxRecDepth 100000 in
set_option maxHeartbeats 2000000 in
theorem number_any (rb : Nat) (v : Value) (data : List UInt8) (off last : Nat) (err : Int) (w : World) (hr : RdAt w rb v data off last err) :
    Calls Tryz.prog 78 #[.pointer (some ⟨rb, 0, none⟩)] w (DecN .u64 w rb v data last err (numE data off)) := by
  obtain ⟨a, cap, rfl, hc, hcm, -⟩ := hr.shape
  unfold maxLen at hcm
  have HR := Lib.hid hr
  clear hr
  go_enter Tryz.func78, Tryz.ntmps78
  go_wp2_with fail
  go_loopw [2, 6] (fun n i wr => ∃ (k o m : Nat), k ≤ 10 ∧ i = .int .i64 k ∧ n = .int .u64 (m : Int) ∧ m < 18446744073709551616 ∧ RdAt wr rb (.slice a data.length cap) data o last err ∧ w.grownBy wr (some rb) ∧ numG data 10 0 off 0 = numG data (10 - k) k o m) (fun _ i _ => 10 - (intOf i).toNat)
  case atStart => exact ⟨0, off, 0, Nat.zero_le _, rfl, rfl, by decide, HR.out, grown_refl _ _, rfl⟩
  case round =>
    obtain ⟨k, o, m, hk, rfl, rfl, hm, hrd, hg, hn⟩ := hrel
    have HRD := Lib.hid hrd
    have HG := Lib.hid hg
    have HN := Lib.hid hn
    have HM := Lib.hid hm
    have hle := hrd.le
    have hsm := hrd.small
    have c0 := hrd.c0
    have c1 := hrd.c1
    have f1 := hrd.free 1
    clear hg hn hm
    by_cases hlt : k < 10
    · obtain ⟨f, hf⟩ : ∃ f, 10 - k = f + 1 := ⟨9 - k, by omega⟩
      by_cases hol : o < data.length
      · obtain ⟨b, hb⟩ : ∃ b, data[o]? = some b := ⟨data[o], by simp [hol]⟩
        have hb8 := b.toNat_lt
        obtain ⟨a2, cap2, hv2, _, _, hcell⟩ := hrd.shape
        cases hv2
        obtain ⟨bk, ok, rfl, hbk, hcl⟩ := hcell o b hb
        have HBB := Lib.hid hb
        clear hrd hcell hb
        rw [hf] at HN
        have hbits := numN_bits m b k HM.out
        by_cases h128 : 128 ≤ b.toNat
        · go_wp2_with fail
          go_quiet (fail)
          go_wp2_with fail
          clear c0 c1 f1
          obtain ⟨W, hWe⟩ : ∃ W, W = wr.drewN nq := ⟨_, rfl⟩
          have hWr := HRD.out.draws nq
          have hWg := grown_draws HG.out nq
          try rw [← hWe]
          rw [← hWe] at hWr hWg
          clear HRD HG hWe
          have HRD := Lib.hid hWr
          have HG := Lib.hid hWg
          have c0 := hWr.c0
          have c1 := hWr.c1
          have f1 := hWr.free 1
          clear hWr hWg
          have hcl2 : W.cell? ⟨bk, ok + o, none⟩ = some (.int .u8 (b.toNat : Int)) := by
            obtain ⟨a2, cap2, hv2, _, _, hcell⟩ := HRD.out.shape
            cases hv2
            obtain ⟨bk, ok, e, hbk, hcl⟩ := hcell o b HBB.out
            cases e
            exact hcl
          clear hcl
          go_quiet (fail)
          go_wp2_with fail
          have h1 := (HRD.out.draws nq).set1 (o + 1) (by omega)
          refine ⟨⟨k + 1, o + 1, numN m b k, by omega, by go_num, rfl, numN_lt b k HM.out, h1, grown_trans (grown_draws HG.out nq) (grown_set _ _ _ _), ?_⟩, by simp [intOf]; omega⟩
          rw [HN.out, numG_more HBB.out h128]
          congr 1; omega
        · cases hbad : numBad b k
          · have HBD := Lib.hid hbad
            simp only [numBad, Bool.or_eq_false_iff, Bool.and_eq_false_iff, decide_eq_false_iff_not] at hbad
            obtain ⟨hb1, hb2⟩ := hbad
            have HD := Lib.hid (show k = 0 ∨ (k = 9 ∧ b.toNat ≤ 1 ∧ b.toNat ≠ 0) ∨ (0 < k ∧ k < 9 ∧ b.toNat ≠ 0) by omega)
            clear hb1 hb2
            go_wp2_with fail
            go_quiet (fail)
            go_wp2_with fail
            clear c0 c1 f1
            obtain ⟨W, hWe⟩ : ∃ W, W = wr.drewN nq := ⟨_, rfl⟩
            have hWr := HRD.out.draws nq
            have hWg := grown_draws HG.out nq
            try rw [← hWe]
            rw [← hWe] at hWr hWg
            clear HRD HG hWe
            have HRD := Lib.hid hWr
            have HG := Lib.hid hWg
            have c0 := hWr.c0
            have c1 := hWr.c1
            have f1 := hWr.free 1
            clear hWr hWg
            have hcl2 : W.cell? ⟨bk, ok + o, none⟩ = some (.int .u8 (b.toNat : Int)) := by
              obtain ⟨a2, cap2, hv2, _, _, hcell⟩ := HRD.out.shape
              cases hv2
              obtain ⟨bk, ok, e, hbk, hcl⟩ := hcell o b HBB.out
              cases e
              exact hcl
            clear hcl
            go_quiet (fail)
            go_wp2_with fail
            all_goals first
              | (exfalso; have hd := HD.out; omega)
              | (exfalso; have hd := HD.out; rename_i hor; rcases hor with hor | hor <;> first | omega | (rw [beq_iff_eq] at hor; omega))
              | (
                go_ret2
                have h1 := (HRD.out.draws nq).set1 (o + 1) (by omega)
                refine ⟨o + 1, h1, grown_trans (grown_draws HG.out nq) (grown_set _ _ _ _), ?_⟩
                rw [numE, HN.out]
                rw [numG_ok HBB.out h128 HBD.out]
                exact ⟨rfl, rfl⟩)
          · have HBD := Lib.hid hbad
            simp only [numBad, Bool.or_eq_true, Bool.and_eq_true, decide_eq_true_eq] at hbad
            rcases hbad with ⟨h0, hz⟩ | ⟨rfl, h1⟩
            · go_wp2_with fail
              go_quiet (fail)
              go_wp2_with fail
              clear c0 c1 f1
              obtain ⟨W, hWe⟩ : ∃ W, W = wr.drewN nq := ⟨_, rfl⟩
              have hWr := HRD.out.draws nq
              have hWg := grown_draws HG.out nq
              try rw [← hWe]
              rw [← hWe] at hWr hWg
              clear HRD HG hWe
              have HRD := Lib.hid hWr
              have HG := Lib.hid hWg
              have c0 := hWr.c0
              have c1 := hWr.c1
              have f1 := hWr.free 1
              clear hWr hWg
              have hcl2 : W.cell? ⟨bk, ok + o, none⟩ = some (.int .u8 (b.toNat : Int)) := by
                obtain ⟨a2, cap2, hv2, _, _, hcell⟩ := HRD.out.shape
                cases hv2
                obtain ⟨bk, ok, e, hbk, hcl⟩ := hcell o b HBB.out
                cases e
                exact hcl
              clear hcl
              go_quiet (fail)
              go_wp2_with fail
              all_goals (
                go_ret2
                have h1 := (HRD.out.draws nq).set1 (o + 1) (by omega)
                refine ⟨o + 1, h1, grown_trans (grown_draws HG.out nq) (grown_set _ _ _ _), ?_⟩
                rw [numE, HN.out]
                rw [numG_bad HBB.out h128 HBD.out]
                try rfl)
            · go_wp2_with fail
              go_quiet (fail)
              go_wp2_with fail
              clear c0 c1 f1
              obtain ⟨W, hWe⟩ : ∃ W, W = wr.drewN nq := ⟨_, rfl⟩
              have hWr := HRD.out.draws nq
              have hWg := grown_draws HG.out nq
              try rw [← hWe]
              rw [← hWe] at hWr hWg
              clear HRD HG hWe
              have HRD := Lib.hid hWr
              have HG := Lib.hid hWg
              have c0 := hWr.c0
              have c1 := hWr.c1
              have f1 := hWr.free 1
              clear hWr hWg
              have hcl2 : W.cell? ⟨bk, ok + o, none⟩ = some (.int .u8 (b.toNat : Int)) := by
                obtain ⟨a2, cap2, hv2, _, _, hcell⟩ := HRD.out.shape
                cases hv2
                obtain ⟨bk, ok, e, hbk, hcl⟩ := hcell o b HBB.out
                cases e
                exact hcl
              clear hcl
              go_quiet (fail)
              go_wp2_with fail
              all_goals (
                go_ret2
                have h1 := (HRD.out.draws nq).set1 (o + 1) (by omega)
                refine ⟨o + 1, h1, grown_trans (grown_draws HG.out nq) (grown_set _ _ _ _), ?_⟩
                rw [numE, HN.out]
                rw [numG_bad HBB.out h128 HBD.out]
                try rfl)
      · obtain rfl : o = data.length := by omega
        go_wp2_with fail
        go_quiet (fail)
        go_wp2_with fail
        go_ret2
        exact ⟨data.length, HRD.out.draws nq, grown_draws HG.out nq, by rw [numE, HN.out, numG_end (Nat.le_refl _)]; rfl⟩
    · obtain rfl : k = 10 := by omega
      go_wp2_with fail
      go_ret2
      exact ⟨o, HRD.out, HG.out, by rw [numE, HN.out]; rfl⟩

/-- A number of at most most. -/
def limE (data : List UInt8) (off most : Nat) : Except Int (Nat × Nat) := match numE data off with
  | .error x => .error x
  | .ok (n, o) => if most < n then .error 2 else .ok (n, o)
theorem limE_spec {data : List UInt8} {off most n o' : Nat} (h : limE data off most = .ok (n, o')) : n ≤ most ∧ off < o' ∧ o' ≤ data.length := by
  unfold limE at h
  cases hn : numE data off with
  | error x => rw [hn] at h; simp at h
  | ok p =>
    obtain ⟨m, o⟩ := p
    rw [hn] at h
    simp only at h
    split at h
    · simp at h
    · simp only [Except.ok.injEq, Prod.mk.injEq] at h
      obtain ⟨rfl, rfl⟩ := h
      have := numE_spec hn
      omega
theorem limE_err {data : List UInt8} {off most : Nat} {x : Int} (h : limE data off most = .error x) : x = 3 ∨ x = 2 := by
  unfold limE at h
  split at h
  · rename_i y hy
    simp only [Except.error.injEq] at h
    exact .inl (h ▸ numE_err hy)
  · split at h
    · simp only [Except.error.injEq] at h; exact .inr h.symm
    · simp at h
set_option maxRecDepth 100000 in
set_option maxHeartbeats 1000000 in
theorem limited_any (rb : Nat) (v : Value) (data : List UInt8) (off last most : Nat) (err : Int) (w : World) (hr : RdAt w rb v data off last err) (hm : most ≤ 1000000) :
    Calls Tryz.prog 73 #[.pointer (some ⟨rb, 0, none⟩), .int .i64 (most : Int)] w (DecN .i64 w rb v data last err (limE data off most)) := by
  have HR := Lib.hid hr
  clear hr
  go_enter Tryz.func73, Tryz.ntmps73
  go_wp2_with fail
  refine (number_any rb v data off last err w HR.out).mono ?_
  rintro e w1 ⟨o', hr1, hg1, hres⟩
  have HR1 := Lib.hid hr1
  have HG1 := Lib.hid hg1
  clear hr1 hg1
  cases hn : numE data off with
  | error x =>
    have hx : x = 3 := numE_err hn
    subst hx
    have HL := Lib.hid (show limE data off most = .error 3 by unfold limE; rw [hn])
    rw [hn] at hres
    simp only at hres
    subst hres
    clear hn
    go_wp2_with fail
    go_ret2
    exact ⟨o', HR1.out, HG1.out, by rw [HL.out]; rfl⟩
  | ok p =>
    obtain ⟨n, o⟩ := p
    have hsp := numE_spec hn
    have HN := Lib.hid hn
    rw [hn] at hres
    simp only at hres
    obtain ⟨rfl, rfl⟩ := hres
    clear hn
    have hmax : max (most : Int) 0 = (most : Int) := by omega
    by_cases hlt : most < n
    · have HL := Lib.hid (show limE data off most = .error 2 by unfold limE; rw [HN.out]; simp only [if_pos hlt])
      go_wp2_with fail
      go_ret2
      exact ⟨o', HR1.out, HG1.out, by rw [HL.out]; rfl⟩
    · have HL := Lib.hid (show limE data off most = .ok (n, o') by unfold limE; rw [HN.out]; simp only [if_neg hlt])
      go_wp2_with fail
      go_ret2
      exact ⟨o', HR1.out, HG1.out, by rw [HL.out]; exact ⟨rfl, rfl⟩⟩

/-- n bytes at the offset. -/
def takeE (data : List UInt8) (off n : Nat) : Except Int (List UInt8 × Nat) := if data.length - off < n then .error 3 else .ok ((data.drop off).take n, off + n)
def blockE (data : List UInt8) (off most : Nat) : Except Int (List UInt8 × Nat) := match limE data off most with
  | .error x => .error x
  | .ok (n, o) => takeE data o n
/-- The bytes behind a slice value. -/
def BytesIn (w : World) (rb : Nat) (v : Value) (bs : List UInt8) : Prop := ∃ bk o c, v = .slice (some ⟨bk, o, none⟩) bs.length c ∧ bs.length ≤ c ∧ bk ≠ rb ∧ ∀ (j : Nat) b, bs[j]? = some b → w.cell? ⟨bk, o + j, none⟩ = some (byteV b)
def DecB (w : World) (rb : Nat) (v : Value) (data : List UInt8) (last : Nat) (err : Int) (r : Except Int (List UInt8 × Nat)) (e : Ending) (w' : World) : Prop :=
  ∃ o', RdAt w' rb v data o' last err ∧ w.grownBy w' (some rb) ∧ match r with
    | .ok (bs, o) => (∃ pv, e = .returned (.tuple #[pv, .int .i64 0]) ∧ BytesIn w' rb pv bs) ∧ o' = o
    | .error x => e = .returned (.tuple #[.slice none 0 0, .int .i64 x])
theorem take_get {data : List UInt8} {off n j : Nat} {b : UInt8} (h : ((data.drop off).take n)[j]? = some b) : data[off + j]? = some b := by
  rw [List.getElem?_take] at h
  split at h
  · rw [List.getElem?_drop] at h; exact h
  · simp at h

set_option maxRecDepth 100000 in
set_option maxHeartbeats 1000000 in
theorem take_any (rb : Nat) (v : Value) (data : List UInt8) (off last n : Nat) (err : Int) (w : World) (hr : RdAt w rb v data off last err) (hn : n ≤ 1000000) (hpos : 0 < data.length ∨ 0 < n) :
    Calls Tryz.prog 85 #[.pointer (some ⟨rb, 0, none⟩), .int .i64 (n : Int)] w (DecB w rb v data last err (takeE data off n)) := by
  have HRD := Lib.hid hr
  have HG := Lib.hid (grown_refl w (some rb))
  obtain ⟨a, cap, rfl, hc, hcm, hcell⟩ := hr.shape
  unfold maxLen at hcm
  have c0 := hr.c0
  have c1 := hr.c1
  have f1 := hr.free 1
  have hle := hr.le
  have hsm := hr.small
  by_cases hlt : data.length - off < n
  · have HT := Lib.hid (show takeE data off n = .error 3 by unfold takeE; rw [if_pos hlt])
    clear hr hcell
    go_enter Tryz.func85, Tryz.ntmps85
    go_wp2_with fail
    go_quiet (fail)
    go_wp2_with fail
    go_ret2
    exact ⟨off, HRD.out.draws nq, grown_draws HG.out nq, by rw [HT.out]; rfl⟩
  · have hdl : 0 < data.length := by omega
    obtain ⟨bk, ok, rfl, hbk, -⟩ := hcell 0 data[0] (by simp)
    have HT := Lib.hid (show takeE data off n = .ok ((data.drop off).take n, off + n) by unfold takeE; rw [if_neg hlt])
    have hlen : ((data.drop off).take n).length = n := by simp; omega
    have HLN := Lib.hid hlen
    clear hr hcell hlen
    by_cases hoc : off < cap
    · go_enter Tryz.func85, Tryz.ntmps85
      go_wp2_with fail
      go_quiet (fail)
      go_wp2_with fail
      clear c0 c1 f1
      obtain ⟨W, hWe⟩ : ∃ W, W = w.drewN nq := ⟨_, rfl⟩
      have hWr := HRD.out.draws nq
      have hWg := grown_draws HG.out nq
      try rw [← hWe]
      rw [← hWe] at hWr hWg
      clear HRD HG hWe
      have HRD := Lib.hid hWr
      have HG := Lib.hid hWg
      have c0 := hWr.c0
      have c1 := hWr.c1
      have f1 := hWr.free 1
      clear hWr hWg
      go_quiet (fail)
      go_wp2_with fail
      go_ret2
      have h1 := (HRD.out.draws nq).set1 (off + n) (by omega)
      rw [Int.natCast_add] at h1
      refine ⟨off + n, h1, grown_trans (grown_draws HG.out nq) (grown_set _ _ _ _), ?_⟩
      rw [HT.out]
      refine ⟨⟨_, rfl, bk, ok + off, cap - off, ?_, ?_, hbk, fun j b hj => ?_⟩, rfl⟩
      · rw [HLN.out]; show Value.slice _ (off + n - off) _ = _; rw [Nat.add_sub_cancel_left]
      · rw [HLN.out]; omega
      · obtain ⟨a2, cap2, hv2, _, _, hcell⟩ := h1.shape
        cases hv2
        obtain ⟨bk2, ok2, e, hbk2, hcl⟩ := hcell (off + j) b (take_get hj)
        cases e
        rw [Nat.add_assoc]; exact hcl
    · obtain rfl : off = cap := by omega
      obtain rfl : n = 0 := by omega
      go_enter Tryz.func85, Tryz.ntmps85
      go_wp2_with fail
      go_quiet (fail)
      go_wp2_with fail
      clear c0 c1 f1
      obtain ⟨W, hWe⟩ : ∃ W, W = w.drewN nq := ⟨_, rfl⟩
      have hWr := HRD.out.draws nq
      have hWg := grown_draws HG.out nq
      try rw [← hWe]
      rw [← hWe] at hWr hWg
      clear HRD HG hWe
      have HRD := Lib.hid hWr
      have HG := Lib.hid hWg
      have c0 := hWr.c0
      have c1 := hWr.c1
      have f1 := hWr.free 1
      clear hWr hWg
      go_quiet (fail)
      go_wp2_with fail
      go_ret2
      have h1 := (HRD.out.draws nq).set1 off (by omega)
      refine ⟨off, h1, grown_trans (grown_draws HG.out nq) (grown_set _ _ _ _), ?_⟩
      rw [HT.out]
      exact ⟨⟨_, rfl, bk, ok, 0, by rw [HLN.out]; rfl, by rw [HLN.out]; exact Nat.le_refl _, hbk, fun j b hj => by simp at hj⟩, rfl⟩

set_option maxRecDepth 100000 in
set_option maxHeartbeats 1000000 in
theorem block_any (rb : Nat) (v : Value) (data : List UInt8) (off last most : Nat) (err : Int) (w : World) (hr : RdAt w rb v data off last err) (hm : most ≤ 1000000) :
    Calls Tryz.prog 76 #[.pointer (some ⟨rb, 0, none⟩), .int .i64 (most : Int)] w (DecB w rb v data last err (blockE data off most)) := by
  have HR := Lib.hid hr
  clear hr
  go_enter Tryz.func76, Tryz.ntmps76
  go_wp2_with fail
  refine (limited_any rb v data off last most err w HR.out hm).mono ?_
  rintro e w1 ⟨o', hr1, hg1, hres⟩
  have HR1 := Lib.hid hr1
  have HG1 := Lib.hid hg1
  clear hr1 hg1
  cases hn : limE data off most with
  | error x =>
    have hx : x = 3 ∨ x = 2 := limE_err hn
    have HL := Lib.hid (show blockE data off most = .error x by unfold blockE; rw [hn])
    rw [hn] at hres
    simp only at hres
    subst hres
    clear hn
    rcases hx with rfl | rfl
    · go_wp2_with fail
      go_ret2
      exact ⟨o', HR1.out, HG1.out, by rw [HL.out]; rfl⟩
    · go_wp2_with fail
      go_ret2
      exact ⟨o', HR1.out, HG1.out, by rw [HL.out]; rfl⟩
  | ok p =>
    obtain ⟨n, o⟩ := p
    have hsp := limE_spec hn
    have HL := Lib.hid (show blockE data off most = takeE data o n by unfold blockE; rw [hn])
    rw [hn] at hres
    simp only at hres
    obtain ⟨rfl, rfl⟩ := hres
    clear hn
    go_wp2_with fail
    refine (take_any rb v data o' last n err w1 HR1.out (by omega) (.inl (by omega))).mono ?_
    rintro e w2 ⟨o2, hr2, hg2, hres⟩
    have HR2 := Lib.hid hr2
    have HG2 := Lib.hid (grown_trans HG1.out hg2)
    clear hr2 hg2
    cases ht : takeE data o' n with
    | error x =>
      have HT := Lib.hid ht
      rw [ht] at hres
      simp only at hres
      subst hres
      clear ht
      go_wp2_with fail
      go_ret2
      exact ⟨o2, HR2.out, HG2.out, by rw [HL.out, HT.out]; rfl⟩
    | ok p =>
      obtain ⟨bs, o3⟩ := p
      have HT := Lib.hid ht
      rw [ht] at hres
      simp only at hres
      obtain ⟨⟨pv, rfl, hpv⟩, rfl⟩ := hres
      have HP := Lib.hid hpv
      obtain ⟨pb, po, pc, rfl, -, -, -⟩ := hpv
      clear ht
      go_wp2_with fail
      go_ret2
      exact ⟨o2, HR2.out, HG2.out, by rw [HL.out, HT.out]; exact ⟨⟨_, rfl, HP.out⟩, rfl⟩⟩

end Go.Proofs.YtndgmcggckpgfaaGreatDoor

/- Contracts of package wire: readValue with its deferred closure, and the reader's exported methods. -/
namespace Go.Proofs.YtndgmcggckpgfaaGreatDoor
open Go.RowKit

/-- Where a reader is. -/
structure RS where
  off : Nat
  last : Nat
  err : Int
deriving DecidableEq
def RdS (w : World) (rb : Nat) (v : Value) (data : List UInt8) (s : RS) : Prop := RdAt w rb v data s.off s.last s.err
/-- readValue: the value (z where there is an error), and where the reader is then. -/
def rv {α : Type} (z : α) (r : Except Int (α × Nat)) (s : RS) : α × RS := if s.err = 0 then match r with
  | .ok (x, o) => (x, ⟨o, s.off, 0⟩)
  | .error y => (z, ⟨s.off, s.off, y⟩) else (z, s)
/-- What a function that decodes leaves. -/
def DecV {α : Type} (zero : Value) (val : α → Value) (w : World) (rb : Nat) (v : Value) (data : List UInt8) (last : Nat) (err : Int) (r : Except Int (α × Nat)) (e : Ending) (w' : World) : Prop :=
  ∃ o', RdAt w' rb v data o' last err ∧ w.grownBy w' (some rb) ∧ match r with
    | .ok (x, o) => e = .returned (.tuple #[val x, .int .i64 0]) ∧ o' = o
    | .error y => e = .returned (.tuple #[zero, .int .i64 y])
theorem DecN.v {kd : IntKind} {w : World} {rb : Nat} {v : Value} {data : List UInt8} {last : Nat} {err : Int} {r : Except Int (Nat × Nat)} {e : Ending} {w' : World} (h : DecN kd w rb v data last err r e w') :
    DecV (.int kd 0) (fun n : Nat => .int kd (n : Int)) w rb v data last err r e w' := by
  obtain ⟨o', h1, h2, h3⟩ := h
  refine ⟨o', h1, h2, ?_⟩
  cases r with
  | error x => exact h3
  | ok p => exact h3
def RvRes {α : Type} (z : α) (val : α → Value) (w : World) (rb : Nat) (v : Value) (data : List UInt8) (r : Except Int (α × Nat)) (s : RS) (e : Ending) (w' : World) : Prop :=
  e = .returned (val (rv z r s).1) ∧ RdS w' rb v data (rv z r s).2 ∧ w.grownBy w' (some rb)

/-- The new variables of readValue. -/
structure RvBox (w W : World) (rb : Nat) (x : Value) (t : TypeId) (start : Nat) : Prop where
  bx : W.heap[w.heap.size]? = some (.cells #[.pointer (some ⟨rb, 0, none⟩)] 111 (0, 0))
  bv : W.heap[w.heap.size + 1]? = some (.cells #[x] t (0, 0))
  bs : W.heap[w.heap.size + 2]? = some (.cells #[.int .i64 (start : Int)] 3 (0, 0))
  grown : w.grownBy W (some rb)
  lt : rb < w.heap.size
theorem RvBox.step {w W W' : World} {rb : Nat} {x : Value} {t : TypeId} {start : Nat} (h : RvBox w W rb x t start) (hg : W.grownBy W' (some rb)) : RvBox w W' rb x t start := by
  have h1 := h.lt
  refine ⟨?_, ?_, ?_, grown_trans h.grown hg, h.lt⟩
  · rw [hg.block _ (lt_of_block h.bx) (by simp; omega)]; exact h.bx
  · rw [hg.block _ (lt_of_block h.bv) (by simp; omega)]; exact h.bv
  · rw [hg.block _ (lt_of_block h.bs) (by simp; omega)]; exact h.bs
theorem RvBox.setv {w W : World} {rb : Nat} {x : Value} {t : TypeId} {start : Nat} (h : RvBox w W rb x t start) (y : Value) : RvBox w (W.setCell ⟨w.heap.size + 1, 0, none⟩ y) rb y t start := by
  refine ⟨?_, one_setCell h.bv, ?_, ?_, h.lt⟩
  · rw [Below.heap_setCell _ _ _ _ (by simp)]; exact h.bx
  · rw [Below.heap_setCell _ _ _ _ (by simp)]; exact h.bs
  · exact ⟨h.grown.os, h.grown.tape, h.grown.output, by have := h.grown.size; simpa [World.setCell] using this, fun k hk hne => by rw [Below.heap_setCell _ _ _ _ (by simp; omega)]; exact h.grown.block k hk hne⟩
theorem RdAt.setOther {w0 w : World} {rb : Nat} {v : Value} {data : List UInt8} {off last off0 last0 : Nat} {err err0 : Int} (h0 : RdAt w0 rb v data off0 last0 err0) (h : RdAt w rb v data off last err) {b k : Nat} (hb : w0.heap.size ≤ b) (y : Value) :
    RdAt (w.setCell ⟨b, k, none⟩ y) rb v data off last err := by
  have h1 := h0.lt
  have hr0 := h0.row.mono (T := fun k => k ≠ rb ∧ k < w0.heap.size) (fun k hk hS => ⟨hS, hk⟩) (by omega)
  obtain ⟨_, a0, cap0, hv0, _, _, h00⟩ := hr0
  obtain ⟨hl, a, cap, hv, hn, hm, h2⟩ := h.row
  refine ⟨by rw [Below.heap_setCell _ _ _ _ (by simp; omega)]; exact h.box, ⟨hl, a, cap, hv, hn, hm, ?_⟩, h.le, h.ls, h.small⟩
  rcases h2 with h2 | ⟨bk, o, rfl, hk, hc⟩
  · exact .inl h2
  · rcases h00 with h00 | ⟨bk0, o0, rfl, hk0, _⟩
    · exact .inl h00
    · rw [hv0] at hv
      cases hv
      refine .inr ⟨bk, o, rfl, hk, fun j u hj => ?_⟩
      rw [← hc j u hj]
      exact World.cell?_of_block (Below.heap_setCell _ _ _ _ (by have := hk0.2; show bk ≠ b; omega))

set_option maxRecDepth 100000 in
theorem count1_any (xb mb rb : Nat) (v : Value) (data : List UInt8) (off last most : Nat) (err : Int) (w : World) (hr : RdAt w rb v data off last err) (hm : most ≤ 1000000)
    (hx : w.cell? ⟨xb, 0, none⟩ = some (.pointer (some ⟨rb, 0, none⟩))) (hmb : w.cell? ⟨mb, 0, none⟩ = some (.int .i64 (most : Int))) :
    Calls Tryz.prog 72 #[.pointer (some ⟨xb, 0, none⟩), .pointer (some ⟨mb, 0, none⟩)] w (DecV (.int .i64 0) (fun n : Nat => .int .i64 (n : Int)) w rb v data last err (limE data off most)) := by
  have HR := Lib.hid hr
  clear hr
  go_enter Tryz.func72, Tryz.ntmps72
  go_wp2_with fail
  refine (limited_any rb v data off last most err w HR.out hm).mono ?_
  intro e w1 hd
  obtain ⟨o', h1, h2, h3⟩ := hd.v
  have H1 := Lib.hid h1
  have H2 := Lib.hid h2
  clear hd h1 h2
  cases hl : limE data off most with
  | error y =>
    rw [hl] at h3; simp only at h3; subst h3
    have HL := Lib.hid hl
    clear hl
    go_wp2_with fail
    go_ret2
    exact ⟨o', H1.out, H2.out, by rw [HL.out]; rfl⟩
  | ok p =>
    obtain ⟨n, o⟩ := p
    rw [hl] at h3; simp only at h3; obtain ⟨rfl, rfl⟩ := h3
    have HL := Lib.hid hl
    clear hl
    go_wp2_with fail
    go_ret2
    exact ⟨o', H1.out, H2.out, by rw [HL.out]; exact ⟨rfl, rfl⟩⟩

theorem grown_below {w w' : World} (h : Below w.heap.size w w') (r : Option Nat) : w.grownBy w' r := ⟨h.os, h.tape, h.output, h.size, fun k hk _ => h.block k hk⟩
/-- A postcondition without panics. -/
def NoP (Q : Exit → Act → World → Prop) (e : Exit) (a : Act) (w : World) : Prop := match e with
  | .panic _ => False
  | e => Q e a w
theorem nop_start {P : Program} {Q : Exit → Act → World → Prop} {c : Code} {a : Act} {w : World} (h : c.wp P (NoP Q) a w) : c.wp P Q a w := wp_mono h (fun e a w hn => by
  cases e <;> first | exact hn | exact False.elim hn)
theorem nop_normal {Q : Exit → Act → World → Prop} {a : Act} {w : World} (h : Q .normal a w) : NoP Q .normal a w := h
theorem RvBox.start {w : World} {rb : Nat} (h : rb < w.heap.size) (x : Value) (t : TypeId) (o : Nat) : RvBox w (((w.alloc (.cells #[.pointer (some ⟨rb, 0, none⟩)] 111)).alloc (.cells #[x] t)).alloc (.cells #[.int .i64 (o : Int)] 3)) rb x t o := by
  refine ⟨?_, ?_, ?_, ?_, h⟩
  · rw [Below.heap_alloc _ _ _ (by simp; omega), Below.heap_alloc _ _ _ (by simp)]; exact heap_alloc_new w _
  · rw [Below.heap_alloc _ _ _ (by simp)]
    have := heap_alloc_new (w.alloc (.cells #[.pointer (some ⟨rb, 0, none⟩)] 111)) (.cells #[x] t)
    simpa using this
  · have := heap_alloc_new ((w.alloc (.cells #[.pointer (some ⟨rb, 0, none⟩)] 111)).alloc (.cells #[x] t)) (.cells #[.int .i64 (o : Int)] 3)
    simpa using this
  · exact grown_below ((((Below.refl _ _).alloc (Nat.le_refl _) _).alloc (by simp) _).alloc (by simp; omega) _) _
theorem RvBox.below0 {w : World} (a b c : Obj) : Below w.heap.size w (((w.alloc a).alloc b).alloc c) := (((Below.refl _ _).alloc (Nat.le_refl _) _).alloc (by simp) _).alloc (by simp; omega) _

theorem limE_ne {data : List UInt8} {off most : Nat} {x : Int} (h : limE data off most = .error x) : ¬ x = 0 := by rcases limE_err h with rfl | rfl <;> decide
theorem numE_ne {data : List UInt8} {off : Nat} {x : Int} (h : numE data off = .error x) : ¬ x = 0 := by rw [numE_err h]; decide
set_option maxRecDepth 100000 in
set_option maxHeartbeats 400000 in
theorem rvInt_ok (sb xb vb rb : Nat) (v : Value) (data : List UInt8) (off last start : Nat) (u : FrameMode) (w : World) (hr : RdAt w rb v data off last 0)
    (hs : w.cell? ⟨sb, 0, none⟩ = some (.int .i64 (start : Int))) (hx : w.cell? ⟨xb, 0, none⟩ = some (.pointer (some ⟨rb, 0, none⟩))) (_ : sb ≠ rb) (_ : xb ≠ rb) :
    CallsD Tryz.prog 83 #[.pointer (some ⟨sb, 0, none⟩), .pointer (some ⟨xb, 0, none⟩), .pointer (some ⟨vb, 0, none⟩)] u w fun e u' w' => u' = u ∧ (e = .returned (.tuple #[]) ∧ w' = w.setCell ⟨rb, 2, none⟩ (.int .i64 (start : Int))) := by
  have c3 := hr.c3
  have c2 := hr.c2
  have f2 := hr.free 2
  clear hr
  go_enter_d Tryz.func83, Tryz.ntmps83
  go_wp2_with fail
  first | go_end0 | refine bodyPost_ret (results_none rfl _ _ _) rfl ?_
  exact ⟨rfl, rfl⟩
set_option maxRecDepth 100000 in
set_option maxHeartbeats 400000 in
theorem rvInt_bad (sb xb vb rb : Nat) (v : Value) (data : List UInt8) (off last start : Nat) (err : Int) (x : Value) (t : TypeId) (u : FrameMode) (w : World) (hr : RdAt w rb v data off last err) (he : ¬ err = 0)
    (hs : w.cell? ⟨sb, 0, none⟩ = some (.int .i64 (start : Int))) (hx : w.cell? ⟨xb, 0, none⟩ = some (.pointer (some ⟨rb, 0, none⟩))) (hv : w.heap[vb]? = some (.cells #[x] t (0, 0))) (hsr : sb ≠ rb) (hxr : xb ≠ rb) (hvr : vb ≠ rb) (hvs : vb ≠ sb) (hvx : vb ≠ xb) :
    CallsD Tryz.prog 83 #[.pointer (some ⟨sb, 0, none⟩), .pointer (some ⟨xb, 0, none⟩), .pointer (some ⟨vb, 0, none⟩)] u w fun e u' w' => u' = u ∧ (e = .returned (.tuple #[]) ∧ w' = ((w.setCell ⟨rb, 2, none⟩ (.int .i64 (start : Int))).setCell ⟨rb, 1, none⟩ (.int .i64 (start : Int))).setCell ⟨vb, 0, none⟩ (.int .i64 0)) := by
  have c3 := hr.c3
  have c2 := hr.c2
  have c1 := hr.c1
  have f2 := hr.free 2
  have f1 := hr.free 1
  have v0 := cell_of_one hv
  have fv := free_of_one hv
  clear hr
  go_enter_d Tryz.func83, Tryz.ntmps83
  go_wp2_with fail
  first | go_end0 | refine bodyPost_ret (results_none rfl _ _ _) rfl ?_
  exact ⟨rfl, rfl⟩
set_option maxRecDepth 100000 in
set_option maxHeartbeats 400000 in
theorem rvStr_ok (sb xb vb rb : Nat) (v : Value) (data : List UInt8) (off last start : Nat) (u : FrameMode) (w : World) (hr : RdAt w rb v data off last 0)
    (hs : w.cell? ⟨sb, 0, none⟩ = some (.int .i64 (start : Int))) (hx : w.cell? ⟨xb, 0, none⟩ = some (.pointer (some ⟨rb, 0, none⟩))) (_ : sb ≠ rb) (_ : xb ≠ rb) :
    CallsD Tryz.prog 84 #[.pointer (some ⟨sb, 0, none⟩), .pointer (some ⟨xb, 0, none⟩), .pointer (some ⟨vb, 0, none⟩)] u w fun e u' w' => u' = u ∧ (e = .returned (.tuple #[]) ∧ w' = w.setCell ⟨rb, 2, none⟩ (.int .i64 (start : Int))) := by
  have c3 := hr.c3
  have c2 := hr.c2
  have f2 := hr.free 2
  clear hr
  go_enter_d Tryz.func84, Tryz.ntmps84
  go_wp2_with fail
  first | go_end0 | refine bodyPost_ret (results_none rfl _ _ _) rfl ?_
  exact ⟨rfl, rfl⟩
set_option maxRecDepth 100000 in
set_option maxHeartbeats 400000 in
theorem rvStr_bad (sb xb vb rb : Nat) (v : Value) (data : List UInt8) (off last start : Nat) (err : Int) (x : Value) (t : TypeId) (u : FrameMode) (w : World) (hr : RdAt w rb v data off last err) (he : ¬ err = 0)
    (hs : w.cell? ⟨sb, 0, none⟩ = some (.int .i64 (start : Int))) (hx : w.cell? ⟨xb, 0, none⟩ = some (.pointer (some ⟨rb, 0, none⟩))) (hv : w.heap[vb]? = some (.cells #[x] t (0, 0))) (hsr : sb ≠ rb) (hxr : xb ≠ rb) (hvr : vb ≠ rb) (hvs : vb ≠ sb) (hvx : vb ≠ xb) :
    CallsD Tryz.prog 84 #[.pointer (some ⟨sb, 0, none⟩), .pointer (some ⟨xb, 0, none⟩), .pointer (some ⟨vb, 0, none⟩)] u w fun e u' w' => u' = u ∧ (e = .returned (.tuple #[]) ∧ w' = ((w.setCell ⟨rb, 2, none⟩ (.int .i64 (start : Int))).setCell ⟨rb, 1, none⟩ (.int .i64 (start : Int))).setCell ⟨vb, 0, none⟩ (.string ⟨#[]⟩)) := by
  have c3 := hr.c3
  have c2 := hr.c2
  have c1 := hr.c1
  have f2 := hr.free 2
  have f1 := hr.free 1
  have v0 := cell_of_one hv
  have fv := free_of_one hv
  clear hr
  go_enter_d Tryz.func84, Tryz.ntmps84
  go_wp2_with fail
  first | go_end0 | refine bodyPost_ret (results_none rfl _ _ _) rfl ?_
  exact ⟨rfl, rfl⟩
set_option maxRecDepth 100000 in
set_option maxHeartbeats 400000 in
theorem rvU64_ok (sb xb vb rb : Nat) (v : Value) (data : List UInt8) (off last start : Nat) (u : FrameMode) (w : World) (hr : RdAt w rb v data off last 0)
    (hs : w.cell? ⟨sb, 0, none⟩ = some (.int .i64 (start : Int))) (hx : w.cell? ⟨xb, 0, none⟩ = some (.pointer (some ⟨rb, 0, none⟩))) (_ : sb ≠ rb) (_ : xb ≠ rb) :
    CallsD Tryz.prog 86 #[.pointer (some ⟨sb, 0, none⟩), .pointer (some ⟨xb, 0, none⟩), .pointer (some ⟨vb, 0, none⟩)] u w fun e u' w' => u' = u ∧ (e = .returned (.tuple #[]) ∧ w' = w.setCell ⟨rb, 2, none⟩ (.int .i64 (start : Int))) := by
  have c3 := hr.c3
  have c2 := hr.c2
  have f2 := hr.free 2
  clear hr
  go_enter_d Tryz.func86, Tryz.ntmps86
  go_wp2_with fail
  first | go_end0 | refine bodyPost_ret (results_none rfl _ _ _) rfl ?_
  exact ⟨rfl, rfl⟩
set_option maxRecDepth 100000 in
set_option maxHeartbeats 400000 in
theorem rvU64_bad (sb xb vb rb : Nat) (v : Value) (data : List UInt8) (off last start : Nat) (err : Int) (x : Value) (t : TypeId) (u : FrameMode) (w : World) (hr : RdAt w rb v data off last err) (he : ¬ err = 0)
    (hs : w.cell? ⟨sb, 0, none⟩ = some (.int .i64 (start : Int))) (hx : w.cell? ⟨xb, 0, none⟩ = some (.pointer (some ⟨rb, 0, none⟩))) (hv : w.heap[vb]? = some (.cells #[x] t (0, 0))) (hsr : sb ≠ rb) (hxr : xb ≠ rb) (hvr : vb ≠ rb) (hvs : vb ≠ sb) (hvx : vb ≠ xb) :
    CallsD Tryz.prog 86 #[.pointer (some ⟨sb, 0, none⟩), .pointer (some ⟨xb, 0, none⟩), .pointer (some ⟨vb, 0, none⟩)] u w fun e u' w' => u' = u ∧ (e = .returned (.tuple #[]) ∧ w' = ((w.setCell ⟨rb, 2, none⟩ (.int .i64 (start : Int))).setCell ⟨rb, 1, none⟩ (.int .i64 (start : Int))).setCell ⟨vb, 0, none⟩ (.int .u64 0)) := by
  have c3 := hr.c3
  have c2 := hr.c2
  have c1 := hr.c1
  have f2 := hr.free 2
  have f1 := hr.free 1
  have v0 := cell_of_one hv
  have fv := free_of_one hv
  clear hr
  go_enter_d Tryz.func86, Tryz.ntmps86
  go_wp2_with fail
  first | go_end0 | refine bodyPost_ret (results_none rfl _ _ _) rfl ?_
  exact ⟨rfl, rfl⟩

set_option maxRecDepth 100000 in
set_option maxHeartbeats 1000000 in
theorem readValue_count (cx cm rb : Nat) (v : Value) (data : List UInt8) (s : RS) (most : Nat) (w : World) (hr : RdS w rb v data s) (hm : most ≤ 1000000)
    (hx : w.cell? ⟨cx, 0, none⟩ = some (.pointer (some ⟨rb, 0, none⟩))) (hmb : w.cell? ⟨cm, 0, none⟩ = some (.int .i64 (most : Int))) :
    Calls Tryz.prog 71 #[.pointer (some ⟨rb, 0, none⟩), .func (.func 72) #[] #[.pointer (some ⟨cx, 0, none⟩), .pointer (some ⟨cm, 0, none⟩)]] w
      (RvRes 0 (fun n : Nat => .int .i64 (n : Int)) w rb v data (limE data s.off most) s) := by
  have HX := Lib.hid hx
  have HM := Lib.hid hmb
  clear hx hmb
  have hmf : ∀ (fn : Fn) (first cap : Array Value) (w : World), (Instr.makeFunc fn first cap).run Tryz.prog w = .ok (.func fn first cap) w := fun _ _ _ _ => rfl
  have hr' : RdAt w rb v data s.off s.last s.err := hr
  have HR := Lib.hid hr'
  have hlt := hr'.lt
  have c1 := hr'.c1
  have c3 := hr'.c3
  clear hr hr'
  go_enter_defers Tryz.func71, Tryz.ntmps71
  by_cases he : s.err = 0
  · rw [he] at c3
    go_wp2_with fail
    obtain ⟨W, hW⟩ : ∃ W, W = ((w.alloc (.cells #[.pointer (some ⟨rb, 0, none⟩)] 111)).alloc (.cells #[.int .i64 0] 3)).alloc (.cells #[.int .i64 (s.off : Int)] 3) := ⟨_, rfl⟩
    rw [← hW]
    have hB : RvBox w W rb (.int .i64 0) 3 s.off := by rw [hW]; exact RvBox.start hlt _ _ _
    have hBel : Below w.heap.size w W := by rw [hW]; exact RvBox.below0 _ _ _
    have hRW : RdAt W rb v data s.off s.last 0 := by have := HR.out.below hBel; rw [he] at this; exact this
    have HB := Lib.hid hB
    have HRW := Lib.hid hRW
    have HBel := Lib.hid hBel
    have HE := Lib.hid he
    have x0 := cell_of_one hB.bx
    have hxr : w.heap.size ≠ rb := by omega
    clear hW hB hRW hBel c1 c3 he
    refine nop_start ?_
    refine hld_start (fun w' => w'.cell? ⟨w.heap.size, 0, none⟩ = some (.pointer (some ⟨rb, 0, none⟩))) (by kernel_rfl) ?_
    refine hld_take 0 rfl (by kernel_rfl) (by kernel_rfl) (by kernel_rfl) (fun _ _ _ h => False.elim h) rfl (by go_simp) (by intro w' hw'; go_simp; rfl) ?_
    simp only [Act.put, List.setIfInBounds_toArray, List.set_cons_succ, List.set_cons_zero]
    refine hld_take 1 rfl (by kernel_rfl) (by kernel_rfl) (by kernel_rfl) (fun _ _ _ h => False.elim h) rfl (by go_simp) (by intro w' hw'; go_simp; rfl) ?_
    simp only [Act.put, List.setIfInBounds_toArray, List.set_cons_succ, List.set_cons_zero]
    refine hld_bar 2 rfl (by kernel_rfl) rfl (fun K hK => ?_)
    have hBel2 : Below w.heap.size w W.drew := HBel.out.trans ⟨rfl, rfl, rfl, Nat.le_refl _, fun _ _ => rfl⟩
    have HRW2 := Lib.hid (show RdAt W.drew rb v data s.off s.last 0 from HRW.out.draws 1)
    have HBel2 := Lib.hid hBel2
    clear hBel2
    go_wp2_with fail
    refine (count1_any cx cm rb v data s.off s.last most 0 _ HRW2.out hm ((HBel2.out.cell (block_lt HX.out)).trans HX.out) ((HBel2.out.cell (block_lt HM.out)).trans HM.out)).mono ?_
    rintro e w1 ⟨o', h1, h2, h3⟩
    have HB1 := Lib.hid (HB.out.step (grown_trans (b := W.drew) ⟨rfl, rfl, rfl, Nat.le_refl _, fun _ _ _ => rfl⟩ h2))
    have x1 := cell_of_one HB1.out.bx
    have v1 := cell_of_one HB1.out.bv
    have fv1 := free_of_one HB1.out.bv
    have HR1 := Lib.hid h1
    have e3 := h1.c3
    have f3 := h1.free 3
    clear h1 h2 x0
    cases hd : limE data s.off most with
    | error y =>
      have hy : ¬ y = 0 := limE_ne hd
      have HD := Lib.hid hd
      rw [hd] at h3
      simp only at h3
      subst h3
      clear hd
      go_wp2_with fail
      refine ⟨x1, ?_⟩
      refine hld_take 3 rfl (by kernel_rfl) (by kernel_rfl) (by kernel_rfl) (fun _ _ _ h => False.elim h) rfl (by go_simp) (by intro w' hw'; go_simp; rfl) ?_
      simp only [Act.put, List.setIfInBounds_toArray, List.set_cons_succ, List.set_cons_zero]
      refine hld_take 4 rfl (by kernel_rfl) (by kernel_rfl) (by kernel_rfl) (fun _ _ _ h => False.elim h) rfl (by go_simp) (by intro w' hw'; go_simp; rfl) ?_
      simp only [Act.put, List.setIfInBounds_toArray, List.set_cons_succ, List.set_cons_zero]
      refine hld_take 5 rfl (by kernel_rfl) (by kernel_rfl) (by kernel_rfl) (fun _ _ _ h => False.elim h) rfl (by go_simp) (by intro w' hw'; go_simp; rfl) ?_
      simp only [Act.put, List.setIfInBounds_toArray, List.set_cons_succ, List.set_cons_zero]
      refine hld_bar 6 rfl (by kernel_rfl) rfl (fun K hK => ?_)
      go_wp2_with fail
      obtain ⟨w2, hw2⟩ : ∃ w2, w2 = w1.setCell ⟨w.heap.size + 1, 0, none⟩ (.int .i64 0) := ⟨_, rfl⟩
      rw [← hw2]
      have HB2 := Lib.hid (show RvBox w w2 rb (.int .i64 0) 3 s.off by rw [hw2]; exact HB1.out.setv _)
      have HR2 := Lib.hid (show RdAt w2 rb v data o' s.last 0 by rw [hw2]; exact HR.out.setOther HR1.out (by omega) _)
      have x2 := cell_of_one HB2.out.bx
      have e4 := HR2.out.c3
      have f4 := HR2.out.free 3
      clear hw2 x1 v1 fv1 e3 f3
      refine ⟨x2, ?_⟩
      refine hld_take 7 rfl (by kernel_rfl) (by kernel_rfl) (by kernel_rfl) (fun _ _ _ h => False.elim h) rfl (by go_simp) (by intro w' hw'; go_simp; rfl) ?_
      simp only [Act.put, List.setIfInBounds_toArray, List.set_cons_succ, List.set_cons_zero]
      refine hld_take 8 rfl (by kernel_rfl) (by kernel_rfl) (by kernel_rfl) (fun _ _ _ h => False.elim h) rfl (by go_simp) (by intro w' hw'; go_simp; rfl) ?_
      simp only [Act.put, List.setIfInBounds_toArray, List.set_cons_succ, List.set_cons_zero]
      refine hld_bar 9 rfl (by kernel_rfl) rfl (fun K hK => ?_)
      go_wp2_with fail
      obtain ⟨w3, hw3⟩ : ∃ w3, w3 = w2.setCell ⟨rb, 3, none⟩ (.int .i64 (y)) := ⟨_, rfl⟩
      rw [← hw3]
      have HB3 := Lib.hid (show RvBox w w3 rb (.int .i64 0) 3 s.off by rw [hw3]; exact HB2.out.step (grown_set _ _ _ _))
      have HR3 := Lib.hid (show RdAt w3 rb v data o' s.last (y) by rw [hw3]; exact HR2.out.set3 _)
      have x3 := cell_of_one HB3.out.bx
      have v3 := cell_of_one HB3.out.bv
      have fv3 := free_of_one HB3.out.bv
      clear hw3 x2 e4 f4
      refine ⟨x3, ?_⟩
      refine hld_done (by kernel_rfl) ?_
      refine nop_normal ?_
      go_wp2_with fail
      obtain ⟨w5, hw5⟩ : ∃ w5, w5 = w3.setCell ⟨w.heap.size + 1, 0, none⟩ (.int .i64 0) := ⟨_, rfl⟩
      rw [← hw5]
      have HB5 := Lib.hid (show RvBox w w5 rb (.int .i64 0) 3 s.off by rw [hw5]; exact HB3.out.setv _)
      have HR5 := Lib.hid (show RdAt w5 rb v data o' s.last (y) by rw [hw5]; exact HR.out.setOther HR3.out (by omega) _)
      clear hw5
      refine leaves_cons (f := 83) (args := #[.pointer (some ⟨w.heap.size + 1 + 1, 0, none⟩), .pointer (some ⟨w.heap.size, 0, none⟩), .pointer (some ⟨w.heap.size + 1, 0, none⟩)]) (by simp) (by simp [go_sem]) ?_
      refine (rvInt_bad (w.heap.size + 1 + 1) w.heap.size (w.heap.size + 1) rb v data o' s.last s.off y _ _ .returning _ HR5.out hy (cell_of_one HB5.out.bs) (cell_of_one HB5.out.bx) HB5.out.bv (by omega) (by omega) (by omega) (by omega) (by omega)).mono ?_
      rintro e u' w'' ⟨rfl, rfl, hw4⟩
      have HB4 := Lib.hid (show RvBox w w'' rb (.int .i64 0) 3 s.off by rw [hw4]; exact (HB5.out.step (grown_trans (grown_set _ _ _ _) (grown_set _ _ _ _))).setv _)
      have HR4 := Lib.hid (show RdAt w'' rb v data s.off s.off y by rw [hw4]; exact HR.out.setOther ((HR5.out.set2 s.off HR.out.le).set1 s.off HR.out.le) (by omega) _)
      have m0 := cell_of_one HB4.out.bv
      simp only [Leaves, settle]
      refine ⟨_, by simp [results, Tryz.results71, go_sem, m0] <;> rfl, ?_⟩
      have hrv : rv ((0 : Nat)) (limE data s.off most) s = ((0 : Nat), ⟨s.off, s.off, y⟩) := by unfold rv; rw [if_pos HE.out, HD.out]
      exact ⟨by rw [hrv] <;> rfl, by rw [hrv]; exact HR4.out, HB4.out.grown⟩
    | ok p =>
      obtain ⟨n, o⟩ := p
      have HD := Lib.hid hd
      rw [hd] at h3
      simp only at h3
      obtain ⟨rfl, rfl⟩ := h3
      clear hd
      go_wp2_with fail
      refine ⟨x1, ?_⟩
      refine hld_take 3 rfl (by kernel_rfl) (by kernel_rfl) (by kernel_rfl) (fun _ _ _ h => False.elim h) rfl (by go_simp) (by intro w' hw'; go_simp; rfl) ?_
      simp only [Act.put, List.setIfInBounds_toArray, List.set_cons_succ, List.set_cons_zero]
      refine hld_take 4 rfl (by kernel_rfl) (by kernel_rfl) (by kernel_rfl) (fun _ _ _ h => False.elim h) rfl (by go_simp) (by intro w' hw'; go_simp; rfl) ?_
      simp only [Act.put, List.setIfInBounds_toArray, List.set_cons_succ, List.set_cons_zero]
      refine hld_take 5 rfl (by kernel_rfl) (by kernel_rfl) (by kernel_rfl) (fun _ _ _ h => False.elim h) rfl (by go_simp) (by intro w' hw'; go_simp; rfl) ?_
      simp only [Act.put, List.setIfInBounds_toArray, List.set_cons_succ, List.set_cons_zero]
      refine hld_bar 6 rfl (by kernel_rfl) rfl (fun K hK => ?_)
      go_wp2_with fail
      obtain ⟨w2, hw2⟩ : ∃ w2, w2 = w1.setCell ⟨w.heap.size + 1, 0, none⟩ (.int .i64 (n : Int)) := ⟨_, rfl⟩
      rw [← hw2]
      have HB2 := Lib.hid (show RvBox w w2 rb (.int .i64 (n : Int)) 3 s.off by rw [hw2]; exact HB1.out.setv _)
      have HR2 := Lib.hid (show RdAt w2 rb v data o' s.last 0 by rw [hw2]; exact HR.out.setOther HR1.out (by omega) _)
      have x2 := cell_of_one HB2.out.bx
      have e4 := HR2.out.c3
      have f4 := HR2.out.free 3
      clear hw2 x1 v1 fv1 e3 f3
      refine ⟨x2, ?_⟩
      refine hld_take 7 rfl (by kernel_rfl) (by kernel_rfl) (by kernel_rfl) (fun _ _ _ h => False.elim h) rfl (by go_simp) (by intro w' hw'; go_simp; rfl) ?_
      simp only [Act.put, List.setIfInBounds_toArray, List.set_cons_succ, List.set_cons_zero]
      refine hld_take 8 rfl (by kernel_rfl) (by kernel_rfl) (by kernel_rfl) (fun _ _ _ h => False.elim h) rfl (by go_simp) (by intro w' hw'; go_simp; rfl) ?_
      simp only [Act.put, List.setIfInBounds_toArray, List.set_cons_succ, List.set_cons_zero]
      refine hld_bar 9 rfl (by kernel_rfl) rfl (fun K hK => ?_)
      go_wp2_with fail
      obtain ⟨w3, hw3⟩ : ∃ w3, w3 = w2.setCell ⟨rb, 3, none⟩ (.int .i64 (0)) := ⟨_, rfl⟩
      rw [← hw3]
      have HB3 := Lib.hid (show RvBox w w3 rb (.int .i64 (n : Int)) 3 s.off by rw [hw3]; exact HB2.out.step (grown_set _ _ _ _))
      have HR3 := Lib.hid (show RdAt w3 rb v data o' s.last (0) by rw [hw3]; exact HR2.out.set3 _)
      have x3 := cell_of_one HB3.out.bx
      have v3 := cell_of_one HB3.out.bv
      have fv3 := free_of_one HB3.out.bv
      clear hw3 x2 e4 f4
      refine ⟨x3, ?_⟩
      refine hld_done (by kernel_rfl) ?_
      refine nop_normal ?_
      go_wp2_with fail
      obtain ⟨w5, hw5⟩ : ∃ w5, w5 = w3.setCell ⟨w.heap.size + 1, 0, none⟩ (.int .i64 (n : Int)) := ⟨_, rfl⟩
      rw [← hw5]
      have HB5 := Lib.hid (show RvBox w w5 rb (.int .i64 (n : Int)) 3 s.off by rw [hw5]; exact HB3.out.setv _)
      have HR5 := Lib.hid (show RdAt w5 rb v data o' s.last (0) by rw [hw5]; exact HR.out.setOther HR3.out (by omega) _)
      clear hw5
      refine leaves_cons (f := 83) (args := #[.pointer (some ⟨w.heap.size + 1 + 1, 0, none⟩), .pointer (some ⟨w.heap.size, 0, none⟩), .pointer (some ⟨w.heap.size + 1, 0, none⟩)]) (by simp) (by simp [go_sem]) ?_
      refine (rvInt_ok (w.heap.size + 1 + 1) w.heap.size (w.heap.size + 1) rb v data o' s.last s.off .returning _ HR5.out (cell_of_one HB5.out.bs) (cell_of_one HB5.out.bx) (by omega) (by omega)).mono ?_
      rintro e u' w'' ⟨rfl, rfl, hw4⟩
      have HB4 := Lib.hid (show RvBox w w'' rb (.int .i64 (n : Int)) 3 s.off by rw [hw4]; exact HB5.out.step (grown_set _ _ _ _))
      have HR4 := Lib.hid (show RdAt w'' rb v data o' s.off 0 by rw [hw4]; exact HR5.out.set2 s.off HR.out.le)
      have m0 := cell_of_one HB4.out.bv
      simp only [Leaves, settle]
      refine ⟨_, by simp [results, Tryz.results71, go_sem, m0] <;> rfl, ?_⟩
      have hrv : rv ((0 : Nat)) (limE data s.off most) s = (n, ⟨o', s.off, 0⟩) := by unfold rv; rw [if_pos HE.out, HD.out]
      exact ⟨by rw [hrv] <;> rfl, by rw [hrv]; exact HR4.out, HB4.out.grown⟩
  · have HE := Lib.hid he
    go_wp2_with fail
    simp only [bodyPostD]
    refine ⟨_, by simp [results, Tryz.results71, go_sem] <;> rfl, ?_⟩
    have hrv : rv ((0 : Nat)) (limE data s.off most) s = ((0 : Nat), s) := by unfold rv; rw [if_neg HE.out]
    refine ⟨by rw [hrv] <;> rfl, by rw [hrv]; exact HR.out.below (((Below.refl _ _).alloc (Nat.le_refl _) _).alloc (by simp) _), grown_below (((Below.refl _ _).alloc (Nat.le_refl _) _).alloc (by simp) _) _⟩
end Go.Proofs.YtndgmcggckpgfaaGreatDoor

/- Contracts of package wire: Uint. -/
namespace Go.Proofs.YtndgmcggckpgfaaGreatDoor
open Go.RowKit

set_option maxRecDepth 100000 in
set_option maxHeartbeats 1000000 in
theorem readValue_uint (rb : Nat) (v : Value) (data : List UInt8) (s : RS) (w : World) (hr : RdS w rb v data s) :
    Calls Tryz.prog 77 #[.pointer (some ⟨rb, 0, none⟩), .func (.func 78) #[.pointer (some ⟨rb, 0, none⟩)] #[]] w
      (RvRes 0 (fun n : Nat => .int .u64 (n : Int)) w rb v data (numE data s.off) s) := by
  have hmf : ∀ (fn : Fn) (first cap : Array Value) (w : World), (Instr.makeFunc fn first cap).run Tryz.prog w = .ok (.func fn first cap) w := fun _ _ _ _ => rfl
  have hr' : RdAt w rb v data s.off s.last s.err := hr
  have HR := Lib.hid hr'
  have hlt := hr'.lt
  have c1 := hr'.c1
  have c3 := hr'.c3
  clear hr hr'
  go_enter_defers Tryz.func77, Tryz.ntmps77
  by_cases he : s.err = 0
  · rw [he] at c3
    go_wp2_with fail
    obtain ⟨W, hW⟩ : ∃ W, W = ((w.alloc (.cells #[.pointer (some ⟨rb, 0, none⟩)] 111)).alloc (.cells #[.int .u64 0] 89)).alloc (.cells #[.int .i64 (s.off : Int)] 3) := ⟨_, rfl⟩
    rw [← hW]
    have hB : RvBox w W rb (.int .u64 0) 89 s.off := by rw [hW]; exact RvBox.start hlt _ _ _
    have hBel : Below w.heap.size w W := by rw [hW]; exact RvBox.below0 _ _ _
    have hRW : RdAt W rb v data s.off s.last 0 := by have := HR.out.below hBel; rw [he] at this; exact this
    have HB := Lib.hid hB
    have HRW := Lib.hid hRW
    have HBel := Lib.hid hBel
    have HE := Lib.hid he
    have x0 := cell_of_one hB.bx
    have hxr : w.heap.size ≠ rb := by omega
    clear hW hB hRW hBel c1 c3 he
    refine nop_start ?_
    refine hld_start (fun w' => w'.cell? ⟨w.heap.size, 0, none⟩ = some (.pointer (some ⟨rb, 0, none⟩))) (by kernel_rfl) ?_
    refine hld_take 0 rfl (by kernel_rfl) (by kernel_rfl) (by kernel_rfl) (fun _ _ _ h => False.elim h) rfl (by go_simp) (by intro w' hw'; go_simp; rfl) ?_
    simp only [Act.put, List.setIfInBounds_toArray, List.set_cons_succ, List.set_cons_zero]
    refine hld_take 1 rfl (by kernel_rfl) (by kernel_rfl) (by kernel_rfl) (fun _ _ _ h => False.elim h) rfl (by go_simp) (by intro w' hw'; go_simp; rfl) ?_
    simp only [Act.put, List.setIfInBounds_toArray, List.set_cons_succ, List.set_cons_zero]
    refine hld_bar 2 rfl (by kernel_rfl) rfl (fun K hK => ?_)
    have hBel2 : Below w.heap.size w W.drew := HBel.out.trans ⟨rfl, rfl, rfl, Nat.le_refl _, fun _ _ => rfl⟩
    have HRW2 := Lib.hid (show RdAt W.drew rb v data s.off s.last 0 from HRW.out.draws 1)
    have HBel2 := Lib.hid hBel2
    clear hBel2
    go_wp2_with fail
    refine ((number_any rb v data s.off s.last 0 _ HRW2.out).mono fun _ _ h => h.v).mono ?_
    rintro e w1 ⟨o', h1, h2, h3⟩
    have HB1 := Lib.hid (HB.out.step (grown_trans (b := W.drew) ⟨rfl, rfl, rfl, Nat.le_refl _, fun _ _ _ => rfl⟩ h2))
    have x1 := cell_of_one HB1.out.bx
    have v1 := cell_of_one HB1.out.bv
    have fv1 := free_of_one HB1.out.bv
    have HR1 := Lib.hid h1
    have e3 := h1.c3
    have f3 := h1.free 3
    clear h1 h2 x0
    cases hd : numE data s.off with
    | error y =>
      have hy : ¬ y = 0 := numE_ne hd
      have HD := Lib.hid hd
      rw [hd] at h3
      simp only at h3
      subst h3
      clear hd
      go_wp2_with fail
      refine ⟨x1, ?_⟩
      refine hld_take 3 rfl (by kernel_rfl) (by kernel_rfl) (by kernel_rfl) (fun _ _ _ h => False.elim h) rfl (by go_simp) (by intro w' hw'; go_simp; rfl) ?_
      simp only [Act.put, List.setIfInBounds_toArray, List.set_cons_succ, List.set_cons_zero]
      refine hld_take 4 rfl (by kernel_rfl) (by kernel_rfl) (by kernel_rfl) (fun _ _ _ h => False.elim h) rfl (by go_simp) (by intro w' hw'; go_simp; rfl) ?_
      simp only [Act.put, List.setIfInBounds_toArray, List.set_cons_succ, List.set_cons_zero]
      refine hld_take 5 rfl (by kernel_rfl) (by kernel_rfl) (by kernel_rfl) (fun _ _ _ h => False.elim h) rfl (by go_simp) (by intro w' hw'; go_simp; rfl) ?_
      simp only [Act.put, List.setIfInBounds_toArray, List.set_cons_succ, List.set_cons_zero]
      refine hld_bar 6 rfl (by kernel_rfl) rfl (fun K hK => ?_)
      go_wp2_with fail
      obtain ⟨w2, hw2⟩ : ∃ w2, w2 = w1.setCell ⟨w.heap.size + 1, 0, none⟩ (.int .u64 0) := ⟨_, rfl⟩
      rw [← hw2]
      have HB2 := Lib.hid (show RvBox w w2 rb (.int .u64 0) 89 s.off by rw [hw2]; exact HB1.out.setv _)
      have HR2 := Lib.hid (show RdAt w2 rb v data o' s.last 0 by rw [hw2]; exact HR.out.setOther HR1.out (by omega) _)
      have x2 := cell_of_one HB2.out.bx
      have e4 := HR2.out.c3
      have f4 := HR2.out.free 3
      clear hw2 x1 v1 fv1 e3 f3
      refine ⟨x2, ?_⟩
      refine hld_take 7 rfl (by kernel_rfl) (by kernel_rfl) (by kernel_rfl) (fun _ _ _ h => False.elim h) rfl (by go_simp) (by intro w' hw'; go_simp; rfl) ?_
      simp only [Act.put, List.setIfInBounds_toArray, List.set_cons_succ, List.set_cons_zero]
      refine hld_take 8 rfl (by kernel_rfl) (by kernel_rfl) (by kernel_rfl) (fun _ _ _ h => False.elim h) rfl (by go_simp) (by intro w' hw'; go_simp; rfl) ?_
      simp only [Act.put, List.setIfInBounds_toArray, List.set_cons_succ, List.set_cons_zero]
      refine hld_bar 9 rfl (by kernel_rfl) rfl (fun K hK => ?_)
      go_wp2_with fail
      obtain ⟨w3, hw3⟩ : ∃ w3, w3 = w2.setCell ⟨rb, 3, none⟩ (.int .i64 (y)) := ⟨_, rfl⟩
      rw [← hw3]
      have HB3 := Lib.hid (show RvBox w w3 rb (.int .u64 0) 89 s.off by rw [hw3]; exact HB2.out.step (grown_set _ _ _ _))
      have HR3 := Lib.hid (show RdAt w3 rb v data o' s.last (y) by rw [hw3]; exact HR2.out.set3 _)
      have x3 := cell_of_one HB3.out.bx
      have v3 := cell_of_one HB3.out.bv
      have fv3 := free_of_one HB3.out.bv
      clear hw3 x2 e4 f4
      refine ⟨x3, ?_⟩
      refine hld_done (by kernel_rfl) ?_
      refine nop_normal ?_
      go_wp2_with fail
      obtain ⟨w5, hw5⟩ : ∃ w5, w5 = w3.setCell ⟨w.heap.size + 1, 0, none⟩ (.int .u64 0) := ⟨_, rfl⟩
      rw [← hw5]
      have HB5 := Lib.hid (show RvBox w w5 rb (.int .u64 0) 89 s.off by rw [hw5]; exact HB3.out.setv _)
      have HR5 := Lib.hid (show RdAt w5 rb v data o' s.last (y) by rw [hw5]; exact HR.out.setOther HR3.out (by omega) _)
      clear hw5
      refine leaves_cons (f := 86) (args := #[.pointer (some ⟨w.heap.size + 1 + 1, 0, none⟩), .pointer (some ⟨w.heap.size, 0, none⟩), .pointer (some ⟨w.heap.size + 1, 0, none⟩)]) (by simp) (by simp [go_sem]) ?_
      refine (rvU64_bad (w.heap.size + 1 + 1) w.heap.size (w.heap.size + 1) rb v data o' s.last s.off y _ _ .returning _ HR5.out hy (cell_of_one HB5.out.bs) (cell_of_one HB5.out.bx) HB5.out.bv (by omega) (by omega) (by omega) (by omega) (by omega)).mono ?_
      rintro e u' w'' ⟨rfl, rfl, hw4⟩
      have HB4 := Lib.hid (show RvBox w w'' rb (.int .u64 0) 89 s.off by rw [hw4]; exact (HB5.out.step (grown_trans (grown_set _ _ _ _) (grown_set _ _ _ _))).setv _)
      have HR4 := Lib.hid (show RdAt w'' rb v data s.off s.off y by rw [hw4]; exact HR.out.setOther ((HR5.out.set2 s.off HR.out.le).set1 s.off HR.out.le) (by omega) _)
      have m0 := cell_of_one HB4.out.bv
      simp only [Leaves, settle]
      refine ⟨_, by simp [results, Tryz.results77, go_sem, m0] <;> rfl, ?_⟩
      have hrv : rv ((0 : Nat)) (numE data s.off) s = ((0 : Nat), ⟨s.off, s.off, y⟩) := by unfold rv; rw [if_pos HE.out, HD.out]
      exact ⟨by rw [hrv] <;> rfl, by rw [hrv]; exact HR4.out, HB4.out.grown⟩
    | ok p =>
      obtain ⟨n, o⟩ := p
      have HD := Lib.hid hd
      rw [hd] at h3
      simp only at h3
      obtain ⟨rfl, rfl⟩ := h3
      clear hd
      go_wp2_with fail
      refine ⟨x1, ?_⟩
      refine hld_take 3 rfl (by kernel_rfl) (by kernel_rfl) (by kernel_rfl) (fun _ _ _ h => False.elim h) rfl (by go_simp) (by intro w' hw'; go_simp; rfl) ?_
      simp only [Act.put, List.setIfInBounds_toArray, List.set_cons_succ, List.set_cons_zero]
      refine hld_take 4 rfl (by kernel_rfl) (by kernel_rfl) (by kernel_rfl) (fun _ _ _ h => False.elim h) rfl (by go_simp) (by intro w' hw'; go_simp; rfl) ?_
      simp only [Act.put, List.setIfInBounds_toArray, List.set_cons_succ, List.set_cons_zero]
      refine hld_take 5 rfl (by kernel_rfl) (by kernel_rfl) (by kernel_rfl) (fun _ _ _ h => False.elim h) rfl (by go_simp) (by intro w' hw'; go_simp; rfl) ?_
      simp only [Act.put, List.setIfInBounds_toArray, List.set_cons_succ, List.set_cons_zero]
      refine hld_bar 6 rfl (by kernel_rfl) rfl (fun K hK => ?_)
      go_wp2_with fail
      obtain ⟨w2, hw2⟩ : ∃ w2, w2 = w1.setCell ⟨w.heap.size + 1, 0, none⟩ (.int .u64 (n : Int)) := ⟨_, rfl⟩
      rw [← hw2]
      have HB2 := Lib.hid (show RvBox w w2 rb (.int .u64 (n : Int)) 89 s.off by rw [hw2]; exact HB1.out.setv _)
      have HR2 := Lib.hid (show RdAt w2 rb v data o' s.last 0 by rw [hw2]; exact HR.out.setOther HR1.out (by omega) _)
      have x2 := cell_of_one HB2.out.bx
      have e4 := HR2.out.c3
      have f4 := HR2.out.free 3
      clear hw2 x1 v1 fv1 e3 f3
      refine ⟨x2, ?_⟩
      refine hld_take 7 rfl (by kernel_rfl) (by kernel_rfl) (by kernel_rfl) (fun _ _ _ h => False.elim h) rfl (by go_simp) (by intro w' hw'; go_simp; rfl) ?_
      simp only [Act.put, List.setIfInBounds_toArray, List.set_cons_succ, List.set_cons_zero]
      refine hld_take 8 rfl (by kernel_rfl) (by kernel_rfl) (by kernel_rfl) (fun _ _ _ h => False.elim h) rfl (by go_simp) (by intro w' hw'; go_simp; rfl) ?_
      simp only [Act.put, List.setIfInBounds_toArray, List.set_cons_succ, List.set_cons_zero]
      refine hld_bar 9 rfl (by kernel_rfl) rfl (fun K hK => ?_)
      go_wp2_with fail
      obtain ⟨w3, hw3⟩ : ∃ w3, w3 = w2.setCell ⟨rb, 3, none⟩ (.int .i64 (0)) := ⟨_, rfl⟩
      rw [← hw3]
      have HB3 := Lib.hid (show RvBox w w3 rb (.int .u64 (n : Int)) 89 s.off by rw [hw3]; exact HB2.out.step (grown_set _ _ _ _))
      have HR3 := Lib.hid (show RdAt w3 rb v data o' s.last (0) by rw [hw3]; exact HR2.out.set3 _)
      have x3 := cell_of_one HB3.out.bx
      have v3 := cell_of_one HB3.out.bv
      have fv3 := free_of_one HB3.out.bv
      clear hw3 x2 e4 f4
      refine ⟨x3, ?_⟩
      refine hld_done (by kernel_rfl) ?_
      refine nop_normal ?_
      go_wp2_with fail
      obtain ⟨w5, hw5⟩ : ∃ w5, w5 = w3.setCell ⟨w.heap.size + 1, 0, none⟩ (.int .u64 (n : Int)) := ⟨_, rfl⟩
      rw [← hw5]
      have HB5 := Lib.hid (show RvBox w w5 rb (.int .u64 (n : Int)) 89 s.off by rw [hw5]; exact HB3.out.setv _)
      have HR5 := Lib.hid (show RdAt w5 rb v data o' s.last (0) by rw [hw5]; exact HR.out.setOther HR3.out (by omega) _)
      clear hw5
      refine leaves_cons (f := 86) (args := #[.pointer (some ⟨w.heap.size + 1 + 1, 0, none⟩), .pointer (some ⟨w.heap.size, 0, none⟩), .pointer (some ⟨w.heap.size + 1, 0, none⟩)]) (by simp) (by simp [go_sem]) ?_
      refine (rvU64_ok (w.heap.size + 1 + 1) w.heap.size (w.heap.size + 1) rb v data o' s.last s.off .returning _ HR5.out (cell_of_one HB5.out.bs) (cell_of_one HB5.out.bx) (by omega) (by omega)).mono ?_
      rintro e u' w'' ⟨rfl, rfl, hw4⟩
      have HB4 := Lib.hid (show RvBox w w'' rb (.int .u64 (n : Int)) 89 s.off by rw [hw4]; exact HB5.out.step (grown_set _ _ _ _))
      have HR4 := Lib.hid (show RdAt w'' rb v data o' s.off 0 by rw [hw4]; exact HR5.out.set2 s.off HR.out.le)
      have m0 := cell_of_one HB4.out.bv
      simp only [Leaves, settle]
      refine ⟨_, by simp [results, Tryz.results77, go_sem, m0] <;> rfl, ?_⟩
      have hrv : rv ((0 : Nat)) (numE data s.off) s = (n, ⟨o', s.off, 0⟩) := by unfold rv; rw [if_pos HE.out, HD.out]
      exact ⟨by rw [hrv] <;> rfl, by rw [hrv]; exact HR4.out, HB4.out.grown⟩
  · have HE := Lib.hid he
    go_wp2_with fail
    simp only [bodyPostD]
    refine ⟨_, by simp [results, Tryz.results77, go_sem] <;> rfl, ?_⟩
    have hrv : rv ((0 : Nat)) (numE data s.off) s = ((0 : Nat), s) := by unfold rv; rw [if_neg HE.out]
    refine ⟨by rw [hrv] <;> rfl, by rw [hrv]; exact HR.out.below (((Below.refl _ _).alloc (Nat.le_refl _) _).alloc (by simp) _), grown_below (((Below.refl _ _).alloc (Nat.le_refl _) _).alloc (by simp) _) _⟩
set_option maxRecDepth 100000 in
theorem uint_any (rb : Nat) (v : Value) (data : List UInt8) (s : RS) (w : World) (hr : RdS w rb v data s) :
    Calls Tryz.prog 61 #[.pointer (some ⟨rb, 0, none⟩)] w (RvRes 0 (fun n : Nat => .int .u64 (n : Int)) w rb v data (numE data s.off) s) := by
  have hmf : ∀ (fn : Fn) (first cap : Array Value) (w : World), (Instr.makeFunc fn first cap).run Tryz.prog w = .ok (.func fn first cap) w := fun _ _ _ _ => rfl
  go_enter Tryz.func61, Tryz.ntmps61
  go_wp2_with fail
  refine (readValue_uint rb v data s w hr).mono ?_
  rintro e w1 ⟨rfl, h1, h2⟩
  have H1 := Lib.hid h1
  have H2 := Lib.hid h2
  clear h1 h2
  go_wp2_with fail
  go_ret
  exact ⟨rfl, H1.out, H2.out⟩

end Go.Proofs.YtndgmcggckpgfaaGreatDoor

/- Contracts of package wire: Count, Text, Sum, NewReader, End. -/
namespace Go.Proofs.YtndgmcggckpgfaaGreatDoor
open Go.RowKit

set_option maxRecDepth 100000 in
set_option maxHeartbeats 400000 in
theorem count_any (rb : Nat) (v : Value) (data : List UInt8) (s : RS) (most : Nat) (w : World) (hr : RdS w rb v data s) (hm : most ≤ 1000000) :
    Calls Tryz.prog 59 #[.pointer (some ⟨rb, 0, none⟩), .int .i64 (most : Int)] w (RvRes 0 (fun n : Nat => .int .i64 (n : Int)) w rb v data (limE data s.off most) s) := by
  have hmf : ∀ (fn : Fn) (first cap : Array Value) (w : World), (Instr.makeFunc fn first cap).run Tryz.prog w = .ok (.func fn first cap) w := fun _ _ _ _ => rfl
  have HR := Lib.hid hr
  clear hr
  go_enter Tryz.func59, Tryz.ntmps59
  go_wp2_with fail
  have hb : Below w.heap.size w ((w.alloc (.cells #[.pointer (some ⟨rb, 0, none⟩)] 111)).alloc (.cells #[.int .i64 (most : Int)] 3)) := ((Below.refl _ _).alloc (Nat.le_refl _) _).alloc (by simp) _
  have HB := Lib.hid hb
  clear hb
  refine (readValue_count w.heap.size (w.heap.size + 1) rb v data s most _ (RdAt.below HR.out HB.out) hm (by simp [go_sem]) (by simp [go_sem])).mono ?_
  rintro e w1 ⟨rfl, h1, h2⟩
  have H1 := Lib.hid h1
  have H2 := Lib.hid (grown_trans (grown_below HB.out (some rb)) h2)
  clear h1 h2
  go_wp2_with fail
  go_ret
  exact ⟨rfl, H1.out, H2.out⟩

theorem str_nums (bs : List UInt8) : strOfNums (bs.map fun b => (b.toNat : Int)) = ⟨bs.toArray⟩ := by
  simp only [strOfNums, List.map_map, Function.comp_def, Int.toNat_natCast]
  simp
theorem conv_in {w : World} {rb : Nat} {pv : Value} {bs : List UInt8} (h : BytesIn w rb pv bs) : (convert 58 9 pv).run Tryz.prog w = .ok (.string ⟨bs.toArray⟩) w := by
  obtain ⟨bk, o, c, rfl, _, _, hc⟩ := h
  have h := run_convert_bytes_arg (P := Tryz.prog) w 58 5 Tryz.underlying58 Tryz.underlying5 bk o bs.length c (bs.map fun b => (b.toNat : Int)) (by simp) (fun i hi => by
    rw [hc i bs[i] (by simp [hi])]
    simp [byteV, List.getD, hi]) 9 Tryz.underlying9
  rw [str_nums] at h
  exact h
theorem conv_nil (w : World) : (convert 58 9 (.slice none 0 0)).run Tryz.prog w = .ok (.string ⟨#[]⟩) w := by kernel_rfl
theorem takeE_ne {data : List UInt8} {off n : Nat} {x : Int} (h : takeE data off n = .error x) : ¬ x = 0 := by
  unfold takeE at h
  split at h
  · simp only [Except.error.injEq] at h; omega
  · simp at h
theorem blockE_ne {data : List UInt8} {off most : Nat} {x : Int} (h : blockE data off most = .error x) : ¬ x = 0 := by
  unfold blockE at h
  split at h
  · rename_i y hy
    simp only [Except.error.injEq] at h
    exact h ▸ limE_ne hy
  · exact takeE_ne h
set_option maxRecDepth 100000 in
set_option maxHeartbeats 400000 in
theorem text1_any (xb mb rb : Nat) (v : Value) (data : List UInt8) (off last most : Nat) (err : Int) (w : World) (hr : RdAt w rb v data off last err) (hm : most ≤ 1000000)
    (hx : w.cell? ⟨xb, 0, none⟩ = some (.pointer (some ⟨rb, 0, none⟩))) (hmb : w.cell? ⟨mb, 0, none⟩ = some (.int .i64 (most : Int))) :
    Calls Tryz.prog 75 #[.pointer (some ⟨xb, 0, none⟩), .pointer (some ⟨mb, 0, none⟩)] w (DecV (.string ⟨#[]⟩) (fun bs : List UInt8 => Value.string ⟨bs.toArray⟩) w rb v data last err (blockE data off most)) := by
  have HR := Lib.hid hr
  clear hr
  go_enter Tryz.func75, Tryz.ntmps75
  go_wp2_with fail
  refine (block_any rb v data off last most err w HR.out hm).mono ?_
  intro e w1 hd
  obtain ⟨o', h1, h2, h3⟩ := hd
  have H1 := Lib.hid h1
  have H2 := Lib.hid h2
  clear h1 h2
  cases hl : blockE data off most with
  | error y =>
    rw [hl] at h3; simp only at h3; subst h3
    have HL := Lib.hid hl
    clear hl
    have hcv := conv_nil
    go_wp2_with fail
    go_ret2
    exact ⟨o', H1.out, H2.out, by rw [HL.out]; rfl⟩
  | ok p =>
    obtain ⟨bs, o⟩ := p
    rw [hl] at h3; simp only at h3
    obtain ⟨⟨pv, rfl, hpv⟩, rfl⟩ := h3
    have HL := Lib.hid hl
    clear hl
    have hcv := conv_in hpv
    clear hpv
    go_wp2_with fail
    go_ret2
    exact ⟨o', H1.out, H2.out, by rw [HL.out]; exact ⟨rfl, rfl⟩⟩
set_option maxRecDepth 100000 in
set_option maxHeartbeats 400000 in
theorem sum1_any (xb rb : Nat) (v : Value) (data : List UInt8) (off last : Nat) (err : Int) (w : World) (hr : RdAt w rb v data off last err)
    (hx : w.cell? ⟨xb, 0, none⟩ = some (.pointer (some ⟨rb, 0, none⟩))) :
    Calls Tryz.prog 87 #[.pointer (some ⟨xb, 0, none⟩)] w (DecV (.string ⟨#[]⟩) (fun bs : List UInt8 => Value.string ⟨bs.toArray⟩) w rb v data last err (takeE data off 32)) := by
  have HR := Lib.hid hr
  clear hr
  go_enter Tryz.func87, Tryz.ntmps87
  go_wp2_with fail
  refine (take_any rb v data off last 32 err w HR.out (by omega) (.inr (by omega))).mono ?_
  intro e w1 hd
  obtain ⟨o', h1, h2, h3⟩ := hd
  have H1 := Lib.hid h1
  have H2 := Lib.hid h2
  clear h1 h2
  cases hl : takeE data off 32 with
  | error y =>
    rw [hl] at h3; simp only at h3; subst h3
    have HL := Lib.hid hl
    clear hl
    have hcv := conv_nil
    go_wp2_with fail
    go_ret2
    exact ⟨o', H1.out, H2.out, by rw [HL.out]; rfl⟩
  | ok p =>
    obtain ⟨bs, o⟩ := p
    rw [hl] at h3; simp only at h3
    obtain ⟨⟨pv, rfl, hpv⟩, rfl⟩ := h3
    have HL := Lib.hid hl
    clear hl
    have hcv := conv_in hpv
    clear hpv
    go_wp2_with fail
    go_ret2
    exact ⟨o', H1.out, H2.out, by rw [HL.out]; exact ⟨rfl, rfl⟩⟩
set_option maxRecDepth 100000 in
set_option maxHeartbeats 1000000 in
theorem readValue_text (cx cm rb : Nat) (v : Value) (data : List UInt8) (s : RS) (most : Nat) (w : World) (hr : RdS w rb v data s) (hm : most ≤ 1000000)
    (hx : w.cell? ⟨cx, 0, none⟩ = some (.pointer (some ⟨rb, 0, none⟩))) (hmb : w.cell? ⟨cm, 0, none⟩ = some (.int .i64 (most : Int))) :
    Calls Tryz.prog 74 #[.pointer (some ⟨rb, 0, none⟩), .func (.func 75) #[] #[.pointer (some ⟨cx, 0, none⟩), .pointer (some ⟨cm, 0, none⟩)]] w
      (RvRes [] (fun bs : List UInt8 => Value.string ⟨bs.toArray⟩) w rb v data (blockE data s.off most) s) := by
  have HX := Lib.hid hx
  have HM := Lib.hid hmb
  clear hx hmb
  have hmf : ∀ (fn : Fn) (first cap : Array Value) (w : World), (Instr.makeFunc fn first cap).run Tryz.prog w = .ok (.func fn first cap) w := fun _ _ _ _ => rfl
  have hr' : RdAt w rb v data s.off s.last s.err := hr
  have HR := Lib.hid hr'
  have hlt := hr'.lt
  have c1 := hr'.c1
  have c3 := hr'.c3
  clear hr hr'
  go_enter_defers Tryz.func74, Tryz.ntmps74
  by_cases he : s.err = 0
  · rw [he] at c3
    go_wp2_with fail
    obtain ⟨W, hW⟩ : ∃ W, W = ((w.alloc (.cells #[.pointer (some ⟨rb, 0, none⟩)] 111)).alloc (.cells #[.string ⟨#[]⟩] 9)).alloc (.cells #[.int .i64 (s.off : Int)] 3) := ⟨_, rfl⟩
    rw [← hW]
    have hB : RvBox w W rb (.string ⟨#[]⟩) 9 s.off := by rw [hW]; exact RvBox.start hlt _ _ _
    have hBel : Below w.heap.size w W := by rw [hW]; exact RvBox.below0 _ _ _
    have hRW : RdAt W rb v data s.off s.last 0 := by have := HR.out.below hBel; rw [he] at this; exact this
    have HB := Lib.hid hB
    have HRW := Lib.hid hRW
    have HBel := Lib.hid hBel
    have HE := Lib.hid he
    have x0 := cell_of_one hB.bx
    have hxr : w.heap.size ≠ rb := by omega
    clear hW hB hRW hBel c1 c3 he
    refine nop_start ?_
    refine hld_start (fun w' => w'.cell? ⟨w.heap.size, 0, none⟩ = some (.pointer (some ⟨rb, 0, none⟩))) (by kernel_rfl) ?_
    refine hld_take 0 rfl (by kernel_rfl) (by kernel_rfl) (by kernel_rfl) (fun _ _ _ h => False.elim h) rfl (by go_simp) (by intro w' hw'; go_simp; rfl) ?_
    simp only [Act.put, List.setIfInBounds_toArray, List.set_cons_succ, List.set_cons_zero]
    refine hld_take 1 rfl (by kernel_rfl) (by kernel_rfl) (by kernel_rfl) (fun _ _ _ h => False.elim h) rfl (by go_simp) (by intro w' hw'; go_simp; rfl) ?_
    simp only [Act.put, List.setIfInBounds_toArray, List.set_cons_succ, List.set_cons_zero]
    refine hld_bar 2 rfl (by kernel_rfl) rfl (fun K hK => ?_)
    have hBel2 : Below w.heap.size w W.drew := HBel.out.trans ⟨rfl, rfl, rfl, Nat.le_refl _, fun _ _ => rfl⟩
    have HRW2 := Lib.hid (show RdAt W.drew rb v data s.off s.last 0 from HRW.out.draws 1)
    have HBel2 := Lib.hid hBel2
    clear hBel2
    go_wp2_with fail
    refine (text1_any cx cm rb v data s.off s.last most 0 _ HRW2.out hm ((HBel2.out.cell (block_lt HX.out)).trans HX.out) ((HBel2.out.cell (block_lt HM.out)).trans HM.out)).mono ?_
    rintro e w1 ⟨o', h1, h2, h3⟩
    have HB1 := Lib.hid (HB.out.step (grown_trans (b := W.drew) ⟨rfl, rfl, rfl, Nat.le_refl _, fun _ _ _ => rfl⟩ h2))
    have x1 := cell_of_one HB1.out.bx
    have v1 := cell_of_one HB1.out.bv
    have fv1 := free_of_one HB1.out.bv
    have HR1 := Lib.hid h1
    have e3 := h1.c3
    have f3 := h1.free 3
    clear h1 h2 x0
    cases hd : blockE data s.off most with
    | error y =>
      have hy : ¬ y = 0 := blockE_ne hd
      have HD := Lib.hid hd
      rw [hd] at h3
      simp only at h3
      subst h3
      clear hd
      go_wp2_with fail
      refine ⟨x1, ?_⟩
      refine hld_take 3 rfl (by kernel_rfl) (by kernel_rfl) (by kernel_rfl) (fun _ _ _ h => False.elim h) rfl (by go_simp) (by intro w' hw'; go_simp; rfl) ?_
      simp only [Act.put, List.setIfInBounds_toArray, List.set_cons_succ, List.set_cons_zero]
      refine hld_take 4 rfl (by kernel_rfl) (by kernel_rfl) (by kernel_rfl) (fun _ _ _ h => False.elim h) rfl (by go_simp) (by intro w' hw'; go_simp; rfl) ?_
      simp only [Act.put, List.setIfInBounds_toArray, List.set_cons_succ, List.set_cons_zero]
      refine hld_take 5 rfl (by kernel_rfl) (by kernel_rfl) (by kernel_rfl) (fun _ _ _ h => False.elim h) rfl (by go_simp) (by intro w' hw'; go_simp; rfl) ?_
      simp only [Act.put, List.setIfInBounds_toArray, List.set_cons_succ, List.set_cons_zero]
      refine hld_bar 6 rfl (by kernel_rfl) rfl (fun K hK => ?_)
      go_wp2_with fail
      obtain ⟨w2, hw2⟩ : ∃ w2, w2 = w1.setCell ⟨w.heap.size + 1, 0, none⟩ (.string ⟨#[]⟩) := ⟨_, rfl⟩
      rw [← hw2]
      have HB2 := Lib.hid (show RvBox w w2 rb (.string ⟨#[]⟩) 9 s.off by rw [hw2]; exact HB1.out.setv _)
      have HR2 := Lib.hid (show RdAt w2 rb v data o' s.last 0 by rw [hw2]; exact HR.out.setOther HR1.out (by omega) _)
      have x2 := cell_of_one HB2.out.bx
      have e4 := HR2.out.c3
      have f4 := HR2.out.free 3
      clear hw2 x1 v1 fv1 e3 f3
      refine ⟨x2, ?_⟩
      refine hld_take 7 rfl (by kernel_rfl) (by kernel_rfl) (by kernel_rfl) (fun _ _ _ h => False.elim h) rfl (by go_simp) (by intro w' hw'; go_simp; rfl) ?_
      simp only [Act.put, List.setIfInBounds_toArray, List.set_cons_succ, List.set_cons_zero]
      refine hld_take 8 rfl (by kernel_rfl) (by kernel_rfl) (by kernel_rfl) (fun _ _ _ h => False.elim h) rfl (by go_simp) (by intro w' hw'; go_simp; rfl) ?_
      simp only [Act.put, List.setIfInBounds_toArray, List.set_cons_succ, List.set_cons_zero]
      refine hld_bar 9 rfl (by kernel_rfl) rfl (fun K hK => ?_)
      go_wp2_with fail
      obtain ⟨w3, hw3⟩ : ∃ w3, w3 = w2.setCell ⟨rb, 3, none⟩ (.int .i64 (y)) := ⟨_, rfl⟩
      rw [← hw3]
      have HB3 := Lib.hid (show RvBox w w3 rb (.string ⟨#[]⟩) 9 s.off by rw [hw3]; exact HB2.out.step (grown_set _ _ _ _))
      have HR3 := Lib.hid (show RdAt w3 rb v data o' s.last (y) by rw [hw3]; exact HR2.out.set3 _)
      have x3 := cell_of_one HB3.out.bx
      have v3 := cell_of_one HB3.out.bv
      have fv3 := free_of_one HB3.out.bv
      clear hw3 x2 e4 f4
      refine ⟨x3, ?_⟩
      refine hld_done (by kernel_rfl) ?_
      refine nop_normal ?_
      go_wp2_with fail
      obtain ⟨w5, hw5⟩ : ∃ w5, w5 = w3.setCell ⟨w.heap.size + 1, 0, none⟩ (.string ⟨#[]⟩) := ⟨_, rfl⟩
      rw [← hw5]
      have HB5 := Lib.hid (show RvBox w w5 rb (.string ⟨#[]⟩) 9 s.off by rw [hw5]; exact HB3.out.setv _)
      have HR5 := Lib.hid (show RdAt w5 rb v data o' s.last (y) by rw [hw5]; exact HR.out.setOther HR3.out (by omega) _)
      clear hw5
      refine leaves_cons (f := 84) (args := #[.pointer (some ⟨w.heap.size + 1 + 1, 0, none⟩), .pointer (some ⟨w.heap.size, 0, none⟩), .pointer (some ⟨w.heap.size + 1, 0, none⟩)]) (by simp) (by simp [go_sem]) ?_
      refine (rvStr_bad (w.heap.size + 1 + 1) w.heap.size (w.heap.size + 1) rb v data o' s.last s.off y _ _ .returning _ HR5.out hy (cell_of_one HB5.out.bs) (cell_of_one HB5.out.bx) HB5.out.bv (by omega) (by omega) (by omega) (by omega) (by omega)).mono ?_
      rintro e u' w'' ⟨rfl, rfl, hw4⟩
      have HB4 := Lib.hid (show RvBox w w'' rb (.string ⟨#[]⟩) 9 s.off by rw [hw4]; exact (HB5.out.step (grown_trans (grown_set _ _ _ _) (grown_set _ _ _ _))).setv _)
      have HR4 := Lib.hid (show RdAt w'' rb v data s.off s.off y by rw [hw4]; exact HR.out.setOther ((HR5.out.set2 s.off HR.out.le).set1 s.off HR.out.le) (by omega) _)
      have m0 := cell_of_one HB4.out.bv
      simp only [Leaves, settle]
      refine ⟨_, by simp [results, Tryz.results74, go_sem, m0] <;> rfl, ?_⟩
      have hrv : rv (([] : List UInt8)) (blockE data s.off most) s = (([] : List UInt8), ⟨s.off, s.off, y⟩) := by unfold rv; rw [if_pos HE.out, HD.out]
      exact ⟨by rw [hrv] <;> rfl, by rw [hrv]; exact HR4.out, HB4.out.grown⟩
    | ok p =>
      obtain ⟨n, o⟩ := p
      have HD := Lib.hid hd
      rw [hd] at h3
      simp only at h3
      obtain ⟨rfl, rfl⟩ := h3
      clear hd
      go_wp2_with fail
      refine ⟨x1, ?_⟩
      refine hld_take 3 rfl (by kernel_rfl) (by kernel_rfl) (by kernel_rfl) (fun _ _ _ h => False.elim h) rfl (by go_simp) (by intro w' hw'; go_simp; rfl) ?_
      simp only [Act.put, List.setIfInBounds_toArray, List.set_cons_succ, List.set_cons_zero]
      refine hld_take 4 rfl (by kernel_rfl) (by kernel_rfl) (by kernel_rfl) (fun _ _ _ h => False.elim h) rfl (by go_simp) (by intro w' hw'; go_simp; rfl) ?_
      simp only [Act.put, List.setIfInBounds_toArray, List.set_cons_succ, List.set_cons_zero]
      refine hld_take 5 rfl (by kernel_rfl) (by kernel_rfl) (by kernel_rfl) (fun _ _ _ h => False.elim h) rfl (by go_simp) (by intro w' hw'; go_simp; rfl) ?_
      simp only [Act.put, List.setIfInBounds_toArray, List.set_cons_succ, List.set_cons_zero]
      refine hld_bar 6 rfl (by kernel_rfl) rfl (fun K hK => ?_)
      go_wp2_with fail
      obtain ⟨w2, hw2⟩ : ∃ w2, w2 = w1.setCell ⟨w.heap.size + 1, 0, none⟩ (.string ⟨n.toArray⟩) := ⟨_, rfl⟩
      rw [← hw2]
      have HB2 := Lib.hid (show RvBox w w2 rb (.string ⟨n.toArray⟩) 9 s.off by rw [hw2]; exact HB1.out.setv _)
      have HR2 := Lib.hid (show RdAt w2 rb v data o' s.last 0 by rw [hw2]; exact HR.out.setOther HR1.out (by omega) _)
      have x2 := cell_of_one HB2.out.bx
      have e4 := HR2.out.c3
      have f4 := HR2.out.free 3
      clear hw2 x1 v1 fv1 e3 f3
      refine ⟨x2, ?_⟩
      refine hld_take 7 rfl (by kernel_rfl) (by kernel_rfl) (by kernel_rfl) (fun _ _ _ h => False.elim h) rfl (by go_simp) (by intro w' hw'; go_simp; rfl) ?_
      simp only [Act.put, List.setIfInBounds_toArray, List.set_cons_succ, List.set_cons_zero]
      refine hld_take 8 rfl (by kernel_rfl) (by kernel_rfl) (by kernel_rfl) (fun _ _ _ h => False.elim h) rfl (by go_simp) (by intro w' hw'; go_simp; rfl) ?_
      simp only [Act.put, List.setIfInBounds_toArray, List.set_cons_succ, List.set_cons_zero]
      refine hld_bar 9 rfl (by kernel_rfl) rfl (fun K hK => ?_)
      go_wp2_with fail
      obtain ⟨w3, hw3⟩ : ∃ w3, w3 = w2.setCell ⟨rb, 3, none⟩ (.int .i64 (0)) := ⟨_, rfl⟩
      rw [← hw3]
      have HB3 := Lib.hid (show RvBox w w3 rb (.string ⟨n.toArray⟩) 9 s.off by rw [hw3]; exact HB2.out.step (grown_set _ _ _ _))
      have HR3 := Lib.hid (show RdAt w3 rb v data o' s.last (0) by rw [hw3]; exact HR2.out.set3 _)
      have x3 := cell_of_one HB3.out.bx
      have v3 := cell_of_one HB3.out.bv
      have fv3 := free_of_one HB3.out.bv
      clear hw3 x2 e4 f4
      refine ⟨x3, ?_⟩
      refine hld_done (by kernel_rfl) ?_
      refine nop_normal ?_
      go_wp2_with fail
      obtain ⟨w5, hw5⟩ : ∃ w5, w5 = w3.setCell ⟨w.heap.size + 1, 0, none⟩ (.string ⟨n.toArray⟩) := ⟨_, rfl⟩
      rw [← hw5]
      have HB5 := Lib.hid (show RvBox w w5 rb (.string ⟨n.toArray⟩) 9 s.off by rw [hw5]; exact HB3.out.setv _)
      have HR5 := Lib.hid (show RdAt w5 rb v data o' s.last (0) by rw [hw5]; exact HR.out.setOther HR3.out (by omega) _)
      clear hw5
      refine leaves_cons (f := 84) (args := #[.pointer (some ⟨w.heap.size + 1 + 1, 0, none⟩), .pointer (some ⟨w.heap.size, 0, none⟩), .pointer (some ⟨w.heap.size + 1, 0, none⟩)]) (by simp) (by simp [go_sem]) ?_
      refine (rvStr_ok (w.heap.size + 1 + 1) w.heap.size (w.heap.size + 1) rb v data o' s.last s.off .returning _ HR5.out (cell_of_one HB5.out.bs) (cell_of_one HB5.out.bx) (by omega) (by omega)).mono ?_
      rintro e u' w'' ⟨rfl, rfl, hw4⟩
      have HB4 := Lib.hid (show RvBox w w'' rb (.string ⟨n.toArray⟩) 9 s.off by rw [hw4]; exact HB5.out.step (grown_set _ _ _ _))
      have HR4 := Lib.hid (show RdAt w'' rb v data o' s.off 0 by rw [hw4]; exact HR5.out.set2 s.off HR.out.le)
      have m0 := cell_of_one HB4.out.bv
      simp only [Leaves, settle]
      refine ⟨_, by simp [results, Tryz.results74, go_sem, m0] <;> rfl, ?_⟩
      have hrv : rv (([] : List UInt8)) (blockE data s.off most) s = (n, ⟨o', s.off, 0⟩) := by unfold rv; rw [if_pos HE.out, HD.out]
      exact ⟨by rw [hrv] <;> rfl, by rw [hrv]; exact HR4.out, HB4.out.grown⟩
  · have HE := Lib.hid he
    go_wp2_with fail
    simp only [bodyPostD]
    refine ⟨_, by simp [results, Tryz.results74, go_sem] <;> rfl, ?_⟩
    have hrv : rv (([] : List UInt8)) (blockE data s.off most) s = (([] : List UInt8), s) := by unfold rv; rw [if_neg HE.out]
    refine ⟨by rw [hrv] <;> rfl, by rw [hrv]; exact HR.out.below (((Below.refl _ _).alloc (Nat.le_refl _) _).alloc (by simp) _), grown_below (((Below.refl _ _).alloc (Nat.le_refl _) _).alloc (by simp) _) _⟩
set_option maxRecDepth 100000 in
set_option maxHeartbeats 1000000 in
theorem readValue_sum (cx rb : Nat) (v : Value) (data : List UInt8) (s : RS) (w : World) (hr : RdS w rb v data s)
    (hx : w.cell? ⟨cx, 0, none⟩ = some (.pointer (some ⟨rb, 0, none⟩))) :
    Calls Tryz.prog 74 #[.pointer (some ⟨rb, 0, none⟩), .func (.func 87) #[] #[.pointer (some ⟨cx, 0, none⟩)]] w
      (RvRes [] (fun bs : List UInt8 => Value.string ⟨bs.toArray⟩) w rb v data (takeE data s.off 32) s) := by
  have HX := Lib.hid hx
  clear hx
  have hmf : ∀ (fn : Fn) (first cap : Array Value) (w : World), (Instr.makeFunc fn first cap).run Tryz.prog w = .ok (.func fn first cap) w := fun _ _ _ _ => rfl
  have hr' : RdAt w rb v data s.off s.last s.err := hr
  have HR := Lib.hid hr'
  have hlt := hr'.lt
  have c1 := hr'.c1
  have c3 := hr'.c3
  clear hr hr'
  go_enter_defers Tryz.func74, Tryz.ntmps74
  by_cases he : s.err = 0
  · rw [he] at c3
    go_wp2_with fail
    obtain ⟨W, hW⟩ : ∃ W, W = ((w.alloc (.cells #[.pointer (some ⟨rb, 0, none⟩)] 111)).alloc (.cells #[.string ⟨#[]⟩] 9)).alloc (.cells #[.int .i64 (s.off : Int)] 3) := ⟨_, rfl⟩
    rw [← hW]
    have hB : RvBox w W rb (.string ⟨#[]⟩) 9 s.off := by rw [hW]; exact RvBox.start hlt _ _ _
    have hBel : Below w.heap.size w W := by rw [hW]; exact RvBox.below0 _ _ _
    have hRW : RdAt W rb v data s.off s.last 0 := by have := HR.out.below hBel; rw [he] at this; exact this
    have HB := Lib.hid hB
    have HRW := Lib.hid hRW
    have HBel := Lib.hid hBel
    have HE := Lib.hid he
    have x0 := cell_of_one hB.bx
    have hxr : w.heap.size ≠ rb := by omega
    clear hW hB hRW hBel c1 c3 he
    refine nop_start ?_
    refine hld_start (fun w' => w'.cell? ⟨w.heap.size, 0, none⟩ = some (.pointer (some ⟨rb, 0, none⟩))) (by kernel_rfl) ?_
    refine hld_take 0 rfl (by kernel_rfl) (by kernel_rfl) (by kernel_rfl) (fun _ _ _ h => False.elim h) rfl (by go_simp) (by intro w' hw'; go_simp; rfl) ?_
    simp only [Act.put, List.setIfInBounds_toArray, List.set_cons_succ, List.set_cons_zero]
    refine hld_take 1 rfl (by kernel_rfl) (by kernel_rfl) (by kernel_rfl) (fun _ _ _ h => False.elim h) rfl (by go_simp) (by intro w' hw'; go_simp; rfl) ?_
    simp only [Act.put, List.setIfInBounds_toArray, List.set_cons_succ, List.set_cons_zero]
    refine hld_bar 2 rfl (by kernel_rfl) rfl (fun K hK => ?_)
    have hBel2 : Below w.heap.size w W.drew := HBel.out.trans ⟨rfl, rfl, rfl, Nat.le_refl _, fun _ _ => rfl⟩
    have HRW2 := Lib.hid (show RdAt W.drew rb v data s.off s.last 0 from HRW.out.draws 1)
    have HBel2 := Lib.hid hBel2
    clear hBel2
    go_wp2_with fail
    refine (sum1_any cx rb v data s.off s.last 0 _ HRW2.out ((HBel2.out.cell (block_lt HX.out)).trans HX.out)).mono ?_
    rintro e w1 ⟨o', h1, h2, h3⟩
    have HB1 := Lib.hid (HB.out.step (grown_trans (b := W.drew) ⟨rfl, rfl, rfl, Nat.le_refl _, fun _ _ _ => rfl⟩ h2))
    have x1 := cell_of_one HB1.out.bx
    have v1 := cell_of_one HB1.out.bv
    have fv1 := free_of_one HB1.out.bv
    have HR1 := Lib.hid h1
    have e3 := h1.c3
    have f3 := h1.free 3
    clear h1 h2 x0
    cases hd : takeE data s.off 32 with
    | error y =>
      have hy : ¬ y = 0 := takeE_ne hd
      have HD := Lib.hid hd
      rw [hd] at h3
      simp only at h3
      subst h3
      clear hd
      go_wp2_with fail
      refine ⟨x1, ?_⟩
      refine hld_take 3 rfl (by kernel_rfl) (by kernel_rfl) (by kernel_rfl) (fun _ _ _ h => False.elim h) rfl (by go_simp) (by intro w' hw'; go_simp; rfl) ?_
      simp only [Act.put, List.setIfInBounds_toArray, List.set_cons_succ, List.set_cons_zero]
      refine hld_take 4 rfl (by kernel_rfl) (by kernel_rfl) (by kernel_rfl) (fun _ _ _ h => False.elim h) rfl (by go_simp) (by intro w' hw'; go_simp; rfl) ?_
      simp only [Act.put, List.setIfInBounds_toArray, List.set_cons_succ, List.set_cons_zero]
      refine hld_take 5 rfl (by kernel_rfl) (by kernel_rfl) (by kernel_rfl) (fun _ _ _ h => False.elim h) rfl (by go_simp) (by intro w' hw'; go_simp; rfl) ?_
      simp only [Act.put, List.setIfInBounds_toArray, List.set_cons_succ, List.set_cons_zero]
      refine hld_bar 6 rfl (by kernel_rfl) rfl (fun K hK => ?_)
      go_wp2_with fail
      obtain ⟨w2, hw2⟩ : ∃ w2, w2 = w1.setCell ⟨w.heap.size + 1, 0, none⟩ (.string ⟨#[]⟩) := ⟨_, rfl⟩
      rw [← hw2]
      have HB2 := Lib.hid (show RvBox w w2 rb (.string ⟨#[]⟩) 9 s.off by rw [hw2]; exact HB1.out.setv _)
      have HR2 := Lib.hid (show RdAt w2 rb v data o' s.last 0 by rw [hw2]; exact HR.out.setOther HR1.out (by omega) _)
      have x2 := cell_of_one HB2.out.bx
      have e4 := HR2.out.c3
      have f4 := HR2.out.free 3
      clear hw2 x1 v1 fv1 e3 f3
      refine ⟨x2, ?_⟩
      refine hld_take 7 rfl (by kernel_rfl) (by kernel_rfl) (by kernel_rfl) (fun _ _ _ h => False.elim h) rfl (by go_simp) (by intro w' hw'; go_simp; rfl) ?_
      simp only [Act.put, List.setIfInBounds_toArray, List.set_cons_succ, List.set_cons_zero]
      refine hld_take 8 rfl (by kernel_rfl) (by kernel_rfl) (by kernel_rfl) (fun _ _ _ h => False.elim h) rfl (by go_simp) (by intro w' hw'; go_simp; rfl) ?_
      simp only [Act.put, List.setIfInBounds_toArray, List.set_cons_succ, List.set_cons_zero]
      refine hld_bar 9 rfl (by kernel_rfl) rfl (fun K hK => ?_)
      go_wp2_with fail
      obtain ⟨w3, hw3⟩ : ∃ w3, w3 = w2.setCell ⟨rb, 3, none⟩ (.int .i64 (y)) := ⟨_, rfl⟩
      rw [← hw3]
      have HB3 := Lib.hid (show RvBox w w3 rb (.string ⟨#[]⟩) 9 s.off by rw [hw3]; exact HB2.out.step (grown_set _ _ _ _))
      have HR3 := Lib.hid (show RdAt w3 rb v data o' s.last (y) by rw [hw3]; exact HR2.out.set3 _)
      have x3 := cell_of_one HB3.out.bx
      have v3 := cell_of_one HB3.out.bv
      have fv3 := free_of_one HB3.out.bv
      clear hw3 x2 e4 f4
      refine ⟨x3, ?_⟩
      refine hld_done (by kernel_rfl) ?_
      refine nop_normal ?_
      go_wp2_with fail
      obtain ⟨w5, hw5⟩ : ∃ w5, w5 = w3.setCell ⟨w.heap.size + 1, 0, none⟩ (.string ⟨#[]⟩) := ⟨_, rfl⟩
      rw [← hw5]
      have HB5 := Lib.hid (show RvBox w w5 rb (.string ⟨#[]⟩) 9 s.off by rw [hw5]; exact HB3.out.setv _)
      have HR5 := Lib.hid (show RdAt w5 rb v data o' s.last (y) by rw [hw5]; exact HR.out.setOther HR3.out (by omega) _)
      clear hw5
      refine leaves_cons (f := 84) (args := #[.pointer (some ⟨w.heap.size + 1 + 1, 0, none⟩), .pointer (some ⟨w.heap.size, 0, none⟩), .pointer (some ⟨w.heap.size + 1, 0, none⟩)]) (by simp) (by simp [go_sem]) ?_
      refine (rvStr_bad (w.heap.size + 1 + 1) w.heap.size (w.heap.size + 1) rb v data o' s.last s.off y _ _ .returning _ HR5.out hy (cell_of_one HB5.out.bs) (cell_of_one HB5.out.bx) HB5.out.bv (by omega) (by omega) (by omega) (by omega) (by omega)).mono ?_
      rintro e u' w'' ⟨rfl, rfl, hw4⟩
      have HB4 := Lib.hid (show RvBox w w'' rb (.string ⟨#[]⟩) 9 s.off by rw [hw4]; exact (HB5.out.step (grown_trans (grown_set _ _ _ _) (grown_set _ _ _ _))).setv _)
      have HR4 := Lib.hid (show RdAt w'' rb v data s.off s.off y by rw [hw4]; exact HR.out.setOther ((HR5.out.set2 s.off HR.out.le).set1 s.off HR.out.le) (by omega) _)
      have m0 := cell_of_one HB4.out.bv
      simp only [Leaves, settle]
      refine ⟨_, by simp [results, Tryz.results74, go_sem, m0] <;> rfl, ?_⟩
      have hrv : rv (([] : List UInt8)) (takeE data s.off 32) s = (([] : List UInt8), ⟨s.off, s.off, y⟩) := by unfold rv; rw [if_pos HE.out, HD.out]
      exact ⟨by rw [hrv] <;> rfl, by rw [hrv]; exact HR4.out, HB4.out.grown⟩
    | ok p =>
      obtain ⟨n, o⟩ := p
      have HD := Lib.hid hd
      rw [hd] at h3
      simp only at h3
      obtain ⟨rfl, rfl⟩ := h3
      clear hd
      go_wp2_with fail
      refine ⟨x1, ?_⟩
      refine hld_take 3 rfl (by kernel_rfl) (by kernel_rfl) (by kernel_rfl) (fun _ _ _ h => False.elim h) rfl (by go_simp) (by intro w' hw'; go_simp; rfl) ?_
      simp only [Act.put, List.setIfInBounds_toArray, List.set_cons_succ, List.set_cons_zero]
      refine hld_take 4 rfl (by kernel_rfl) (by kernel_rfl) (by kernel_rfl) (fun _ _ _ h => False.elim h) rfl (by go_simp) (by intro w' hw'; go_simp; rfl) ?_
      simp only [Act.put, List.setIfInBounds_toArray, List.set_cons_succ, List.set_cons_zero]
      refine hld_take 5 rfl (by kernel_rfl) (by kernel_rfl) (by kernel_rfl) (fun _ _ _ h => False.elim h) rfl (by go_simp) (by intro w' hw'; go_simp; rfl) ?_
      simp only [Act.put, List.setIfInBounds_toArray, List.set_cons_succ, List.set_cons_zero]
      refine hld_bar 6 rfl (by kernel_rfl) rfl (fun K hK => ?_)
      go_wp2_with fail
      obtain ⟨w2, hw2⟩ : ∃ w2, w2 = w1.setCell ⟨w.heap.size + 1, 0, none⟩ (.string ⟨n.toArray⟩) := ⟨_, rfl⟩
      rw [← hw2]
      have HB2 := Lib.hid (show RvBox w w2 rb (.string ⟨n.toArray⟩) 9 s.off by rw [hw2]; exact HB1.out.setv _)
      have HR2 := Lib.hid (show RdAt w2 rb v data o' s.last 0 by rw [hw2]; exact HR.out.setOther HR1.out (by omega) _)
      have x2 := cell_of_one HB2.out.bx
      have e4 := HR2.out.c3
      have f4 := HR2.out.free 3
      clear hw2 x1 v1 fv1 e3 f3
      refine ⟨x2, ?_⟩
      refine hld_take 7 rfl (by kernel_rfl) (by kernel_rfl) (by kernel_rfl) (fun _ _ _ h => False.elim h) rfl (by go_simp) (by intro w' hw'; go_simp; rfl) ?_
      simp only [Act.put, List.setIfInBounds_toArray, List.set_cons_succ, List.set_cons_zero]
      refine hld_take 8 rfl (by kernel_rfl) (by kernel_rfl) (by kernel_rfl) (fun _ _ _ h => False.elim h) rfl (by go_simp) (by intro w' hw'; go_simp; rfl) ?_
      simp only [Act.put, List.setIfInBounds_toArray, List.set_cons_succ, List.set_cons_zero]
      refine hld_bar 9 rfl (by kernel_rfl) rfl (fun K hK => ?_)
      go_wp2_with fail
      obtain ⟨w3, hw3⟩ : ∃ w3, w3 = w2.setCell ⟨rb, 3, none⟩ (.int .i64 (0)) := ⟨_, rfl⟩
      rw [← hw3]
      have HB3 := Lib.hid (show RvBox w w3 rb (.string ⟨n.toArray⟩) 9 s.off by rw [hw3]; exact HB2.out.step (grown_set _ _ _ _))
      have HR3 := Lib.hid (show RdAt w3 rb v data o' s.last (0) by rw [hw3]; exact HR2.out.set3 _)
      have x3 := cell_of_one HB3.out.bx
      have v3 := cell_of_one HB3.out.bv
      have fv3 := free_of_one HB3.out.bv
      clear hw3 x2 e4 f4
      refine ⟨x3, ?_⟩
      refine hld_done (by kernel_rfl) ?_
      refine nop_normal ?_
      go_wp2_with fail
      obtain ⟨w5, hw5⟩ : ∃ w5, w5 = w3.setCell ⟨w.heap.size + 1, 0, none⟩ (.string ⟨n.toArray⟩) := ⟨_, rfl⟩
      rw [← hw5]
      have HB5 := Lib.hid (show RvBox w w5 rb (.string ⟨n.toArray⟩) 9 s.off by rw [hw5]; exact HB3.out.setv _)
      have HR5 := Lib.hid (show RdAt w5 rb v data o' s.last (0) by rw [hw5]; exact HR.out.setOther HR3.out (by omega) _)
      clear hw5
      refine leaves_cons (f := 84) (args := #[.pointer (some ⟨w.heap.size + 1 + 1, 0, none⟩), .pointer (some ⟨w.heap.size, 0, none⟩), .pointer (some ⟨w.heap.size + 1, 0, none⟩)]) (by simp) (by simp [go_sem]) ?_
      refine (rvStr_ok (w.heap.size + 1 + 1) w.heap.size (w.heap.size + 1) rb v data o' s.last s.off .returning _ HR5.out (cell_of_one HB5.out.bs) (cell_of_one HB5.out.bx) (by omega) (by omega)).mono ?_
      rintro e u' w'' ⟨rfl, rfl, hw4⟩
      have HB4 := Lib.hid (show RvBox w w'' rb (.string ⟨n.toArray⟩) 9 s.off by rw [hw4]; exact HB5.out.step (grown_set _ _ _ _))
      have HR4 := Lib.hid (show RdAt w'' rb v data o' s.off 0 by rw [hw4]; exact HR5.out.set2 s.off HR.out.le)
      have m0 := cell_of_one HB4.out.bv
      simp only [Leaves, settle]
      refine ⟨_, by simp [results, Tryz.results74, go_sem, m0] <;> rfl, ?_⟩
      have hrv : rv (([] : List UInt8)) (takeE data s.off 32) s = (n, ⟨o', s.off, 0⟩) := by unfold rv; rw [if_pos HE.out, HD.out]
      exact ⟨by rw [hrv] <;> rfl, by rw [hrv]; exact HR4.out, HB4.out.grown⟩
  · have HE := Lib.hid he
    go_wp2_with fail
    simp only [bodyPostD]
    refine ⟨_, by simp [results, Tryz.results74, go_sem] <;> rfl, ?_⟩
    have hrv : rv (([] : List UInt8)) (takeE data s.off 32) s = (([] : List UInt8), s) := by unfold rv; rw [if_neg HE.out]
    refine ⟨by rw [hrv] <;> rfl, by rw [hrv]; exact HR.out.below (((Below.refl _ _).alloc (Nat.le_refl _) _).alloc (by simp) _), grown_below (((Below.refl _ _).alloc (Nat.le_refl _) _).alloc (by simp) _) _⟩
set_option maxRecDepth 100000 in
set_option maxHeartbeats 400000 in
theorem text_any (rb : Nat) (v : Value) (data : List UInt8) (s : RS) (most : Nat) (w : World) (hr : RdS w rb v data s) (hm : most ≤ 1000000) :
    Calls Tryz.prog 60 #[.pointer (some ⟨rb, 0, none⟩), .int .i64 (most : Int)] w (RvRes [] (fun bs : List UInt8 => Value.string ⟨bs.toArray⟩) w rb v data (blockE data s.off most) s) := by
  have hmf : ∀ (fn : Fn) (first cap : Array Value) (w : World), (Instr.makeFunc fn first cap).run Tryz.prog w = .ok (.func fn first cap) w := fun _ _ _ _ => rfl
  have HR := Lib.hid hr
  clear hr
  go_enter Tryz.func60, Tryz.ntmps60
  go_wp2_with fail
  have hb : Below w.heap.size w ((w.alloc (.cells #[.pointer (some ⟨rb, 0, none⟩)] 111)).alloc (.cells #[.int .i64 (most : Int)] 3)) := ((Below.refl _ _).alloc (Nat.le_refl _) _).alloc (by simp) _
  have HB := Lib.hid hb
  clear hb
  refine (readValue_text w.heap.size (w.heap.size + 1) rb v data s most _ (RdAt.below HR.out HB.out) hm (by simp [go_sem]) (by simp [go_sem])).mono ?_
  rintro e w1 ⟨rfl, h1, h2⟩
  have H1 := Lib.hid h1
  have H2 := Lib.hid (grown_trans (grown_below HB.out (some rb)) h2)
  clear h1 h2
  go_wp2_with fail
  go_ret
  exact ⟨rfl, H1.out, H2.out⟩
set_option maxRecDepth 100000 in
set_option maxHeartbeats 400000 in
theorem sum_any (rb : Nat) (v : Value) (data : List UInt8) (s : RS) (w : World) (hr : RdS w rb v data s) :
    Calls Tryz.prog 79 #[.pointer (some ⟨rb, 0, none⟩)] w (RvRes [] (fun bs : List UInt8 => Value.string ⟨bs.toArray⟩) w rb v data (takeE data s.off 32) s) := by
  have hmf : ∀ (fn : Fn) (first cap : Array Value) (w : World), (Instr.makeFunc fn first cap).run Tryz.prog w = .ok (.func fn first cap) w := fun _ _ _ _ => rfl
  have HR := Lib.hid hr
  clear hr
  go_enter Tryz.func79, Tryz.ntmps79
  go_wp2_with fail
  have hb : Below w.heap.size w (w.alloc (.cells #[.pointer (some ⟨rb, 0, none⟩)] 111)) := (Below.refl _ _).alloc (Nat.le_refl _) _
  have HB := Lib.hid hb
  clear hb
  refine (readValue_sum w.heap.size rb v data s _ (RdAt.below HR.out HB.out) (by simp [go_sem])).mono ?_
  rintro e w1 ⟨rfl, h1, h2⟩
  have H1 := Lib.hid h1
  have H2 := Lib.hid (grown_trans (grown_below HB.out (some rb)) h2)
  clear h1 h2
  go_wp2_with fail
  go_ret
  exact ⟨rfl, H1.out, H2.out⟩

/-- What End says. -/
def endE (data : List UInt8) (s : RS) : Int := if s.err = 0 then (if s.off < data.length then 3 else 0) else s.err
set_option maxRecDepth 100000 in
set_option maxHeartbeats 400000 in
theorem end_any (rb : Nat) (v : Value) (data : List UInt8) (s : RS) (w : World) (hr : RdS w rb v data s) :
    Calls Tryz.prog 64 #[.pointer (some ⟨rb, 0, none⟩)] w fun e w' => e = .returned (.tuple #[.int .i64 (s.off : Int), .int .i64 (endE data s)]) ∧ ∃ n, w' = w.drewN n := by
  obtain ⟨a, cap, rfl, hc, hcm, -⟩ := RdAt.shape hr
  unfold maxLen at hcm
  have c0 := RdAt.c0 hr
  have c1 := RdAt.c1 hr
  have c3 := RdAt.c3 hr
  have hsm := RdAt.small hr
  have hle := RdAt.le hr
  clear hr
  by_cases he : s.err = 0
  · rw [he] at c3
    have HE := Lib.hid he
    clear he
    by_cases hl : s.off < data.length
    · have HR := Lib.hid (show endE data s = 3 by unfold endE; rw [if_pos HE.out, if_pos hl])
      go_enter Tryz.func64, Tryz.ntmps64
      go_wp2_with fail
      go_quiet (fail)
      go_wp2_with fail
      go_ret2
      exact ⟨by rw [HR.out]; rfl, _, rfl⟩
    · have HR := Lib.hid (show endE data s = 0 by unfold endE; rw [if_pos HE.out, if_neg hl])
      go_enter Tryz.func64, Tryz.ntmps64
      go_wp2_with fail
      go_quiet (fail)
      go_wp2_with fail
      go_ret2
      exact ⟨by rw [HR.out]; rfl, _, rfl⟩
  · have HR := Lib.hid (show endE data s = s.err by unfold endE; rw [if_neg he])
    go_enter Tryz.func64, Tryz.ntmps64
    go_wp2_with fail
    go_quiet (fail)
    go_wp2_with fail
    go_ret2
    exact ⟨by rw [HR.out]; rfl, _, rfl⟩

end Go.Proofs.YtndgmcggckpgfaaGreatDoor

/- Maps that the call itself makes, by their entries in the order in which they were made. -/
namespace Go.Proofs.YtndgmcggckpgfaaGreatDoor
open Go Go.RowKit Go.Maps

/-- Block b holds a map with the entries m, in the order in which they came. -/
def MapIs (P : Program) (k : TypeId) (w : World) (b : Nat) (m : List (Value × Value)) : Prop :=
  ∃ es clock, w.heap[b]? = some (.map es clock) ∧ es.toList.map (fun e => (e.key, e.val)) = m ∧ (m.map Prod.fst).Nodup ∧ ∀ p ∈ m, ∃ l, keyOf P k p.1 = some l

theorem heapSame {w : World} {b : Nat} {x : Obj} (hb : w.heap[b]? = some x) (o : Obj) : (ChangeMaps.setBlock w b o).heap[b]? = some o := by
  have := (Array.getElem?_eq_some_iff.1 hb).1
  simp [ChangeMaps.setBlock, this]
theorem heapOther {w : World} {b : Nat} {x : Obj} (_ : w.heap[b]? = some x) (o : Obj) {i : Nat} (h : i ≠ b) : (ChangeMaps.setBlock w b o).heap[i]? = w.heap[i]? := by
  simp [ChangeMaps.setBlock, Ne.symm h]
section
variable {P : Program} {k t e : TypeId} {w w' : World} {b : Nat} {m : List (Value × Value)} {key val z : Value}
theorem MapIs.lt (h : MapIs P k w b m) : b < w.heap.size := by
  obtain ⟨es, clock, hb, _⟩ := h
  exact (Array.getElem?_eq_some_iff.1 hb).1
theorem MapIs.same (h : MapIs P k w b m) (hs : w'.heap[b]? = w.heap[b]?) : MapIs P k w' b m := by
  obtain ⟨es, clock, hb, h2⟩ := h
  exact ⟨es, clock, hs.trans hb, h2⟩
theorem MapIs.made (w : World) : MapIs P k (w.alloc (.map #[] 0)) w.heap.size [] := ⟨#[], 0, (MapKept.heap_alloc w _).1, rfl, List.nodup_nil, by simp⟩
theorem MapIs.keys {es : Array MapEntry} (h : es.toList.map (fun e => (e.key, e.val)) = m) (hk : ∀ p ∈ m, ∃ l, keyOf P k p.1 = some l) : ∀ x ∈ es.toList, ∃ l, keyOf P k x.key = some l := fun x hx => hk (x.key, x.val) (by rw [← h]; exact List.mem_map.2 ⟨x, hx, rfl⟩)
theorem nodup_val : ∀ {m : List (Value × Value)} {key v v' : Value}, (m.map Prod.fst).Nodup → (key, v) ∈ m → (key, v') ∈ m → v = v'
  | [], _, _, _, _, h, _ => by simp at h
  | (a, x) :: m, key, v, v', hn, h, h' => by
    simp only [List.map_cons, List.nodup_cons] at hn
    rcases List.mem_cons.1 h with h | h <;> rcases List.mem_cons.1 h' with h' | h'
    · cases h; cases h'; rfl
    · cases h
      exact absurd (List.mem_map.2 ⟨_, h', rfl⟩) hn.1
    · cases h'
      exact absurd (List.mem_map.2 ⟨_, h, rfl⟩) hn.1
    · exact nodup_val hn.2 h h'
theorem MapIs.hit (h : MapIs P k w b m) (K : Keyed P k) (ht : P.underlying t = some (.map k e)) (hkey : ∃ l, keyOf P k key = some l) (hm : (key, val) ∈ m) (c : Bool) :
    (Instr.lookup t (.map (some b)) key c).run P w = .ok (if c then .tuple #[val, .bool true] else val) w := by
  obtain ⟨es, clock, hb, he, hn, hk⟩ := h
  obtain ⟨kl, hkl⟩ := hkey
  rcases K.find w hkl es.toList (MapIs.keys he hk) with ⟨h1, h2⟩ | ⟨j, e0, h1, h2, h3⟩
  · rw [← he] at hm
    obtain ⟨x, hx, hxe⟩ := List.mem_map.1 hm
    exact absurd (congrArg Prod.fst hxe) (h2 x hx)
  · have hv : e0.val = val := by
      refine nodup_val hn (key := key) ?_ hm
      rw [← he, ← h3]
      exact List.mem_map.2 ⟨e0, List.mem_of_getElem? h2, rfl⟩
    cases c <;> simp [Instr.lookup, run_underlying ht, MapKept.run_getObj_map hb, K.check w _ hkl, h1, hv, Result.andThen]
theorem MapIs.miss (h : MapIs P k w b m) (K : Keyed P k) (ht : P.underlying t = some (.map k e)) (hz : (zeroValue e).run P w = .ok z w) (hkey : ∃ l, keyOf P k key = some l) (hm : ∀ p ∈ m, p.1 ≠ key) (c : Bool) :
    (Instr.lookup t (.map (some b)) key c).run P w = .ok (if c then .tuple #[z, .bool false] else z) w := by
  obtain ⟨es, clock, hb, he, hn, hk⟩ := h
  obtain ⟨kl, hkl⟩ := hkey
  rcases K.find w hkl es.toList (MapIs.keys he hk) with ⟨h1, h2⟩ | ⟨j, e0, h1, h2, h3⟩
  · cases c <;> simp [Instr.lookup, run_underlying ht, MapKept.run_getObj_map hb, K.check w _ hkl, h1, hz, Result.andThen]
  · exact absurd h3 (hm (e0.key, e0.val) (by rw [← he]; exact List.mem_map.2 ⟨e0, List.mem_of_getElem? h2, rfl⟩))
theorem MapIs.put (h : MapIs P k w b m) (K : Keyed P k) (ht : P.underlying t = some (.map k e)) (hkey : ∃ l, keyOf P k key = some l) (hm : ∀ p ∈ m, p.1 ≠ key) (val : Value) :
    ∃ w', (Instr.mapUpdate t (.map (some b)) key val).run P w = .ok () w' ∧ MapIs P k w' b (m ++ [(key, val)]) ∧ w.grownBy w' (some b) := by
  obtain ⟨es, clock, hb, he, hn, hk⟩ := h
  obtain ⟨kl, hkl⟩ := hkey
  rcases K.find w hkl es.toList (MapIs.keys he hk) with ⟨h1, h2⟩ | ⟨j, e0, h1, h2, h3⟩
  · refine ⟨ChangeMaps.setBlock w b (.map (es.push ⟨key, val, clock⟩) (clock + 1)), ?_, ⟨_, _, heapSame hb _, ?_, ?_, ?_⟩, ⟨rfl, rfl, rfl, by simp [ChangeMaps.setBlock], fun i _ hi => heapOther hb _ (fun e => hi (by rw [e]))⟩⟩
    · simp [Instr.mapUpdate, run_underlying ht, MapKept.run_getObj_map hb, K.check w false hkl, h1, MapKept.run_setObj_map _ hb, Result.andThen, ChangeMaps.setBlock]
    · simp [← he]
    · rw [List.map_append, List.nodup_append]
      refine ⟨hn, by simp, fun a ha b' hb' e => ?_⟩
      obtain ⟨p, hp, rfl⟩ := List.mem_map.1 ha
      simp only [List.map_cons, List.map_nil, List.mem_singleton] at hb'
      exact hm p hp (e.trans hb')
    · intro p hp
      rcases List.mem_append.1 hp with hp | hp
      · exact hk p hp
      · simp only [List.mem_singleton] at hp
        subst hp
        exact ⟨kl, hkl⟩
  · exact absurd h3 (hm (e0.key, e0.val) (by rw [← he]; exact List.mem_map.2 ⟨e0, List.mem_of_getElem? h2, rfl⟩))
end
/-- m[k] = v where k is new, at the operation. -/
theorem wpList_put {P : Program} {w : World} {ops : Array Oper} {rest : List Oper} {o : Oper} {a : Act} {Q : Exit → Act → World → Prop} {k e : TypeId} (K : Keyed P k) (hg : o.guard = none) (mo x v : Operand) (t : TypeId) (hop : o.op = Op.mapUpdate t mo x v)
    (ht : P.underlying t = some (.map k e)) (b : Nat) (m : List (Value × Value)) (h : MapIs P k w b m) (hmo : a.eval mo = .map (some b)) (key val : Value) (hx : a.eval x = key) (hv : a.eval v = val) (hkey : ∃ l, keyOf P k key = some l) (hnew : ∀ p ∈ m, p.1 ≠ key)
    (hK : ∀ w', MapIs P k w' b (m ++ [(key, val)]) → w.grownBy w' (some b) → wpList P ops Q rest (a.put o.dst undef) w') : wpList P ops Q (o :: rest) a w := by
  refine wpList_plain hg fun K' hK' => ?_
  obtain ⟨w', hrun, r1, r2⟩ := h.put K ht hkey hnew val
  unfold Oper.wp
  simp [execOp, hop, hmo, hx, hv, hrun, Result.andThen]
  exact hK' _ _ (hK w' r1 r2)

end Go.Proofs.YtndgmcggckpgfaaGreatDoor

/- References as values; maps keyed by references; what has grown. -/
namespace Go.Proofs.YtndgmcggckpgfaaGreatDoor
open Go Go.RowKit Go.Maps

structure Ref where
  name : ByteArray
  gen : Int
  size : Int
deriving DecidableEq
def refV (r : Ref) : Value := .agg #[.string r.name, .int .i64 r.gen, .int .i64 r.size]
def refC (r : Ref) : List Value := [.string r.name, .int .i64 r.gen, .int .i64 r.size]
structure RefOk (r : Ref) : Prop where
  nm : r.name.size ≤ maxLen
  gn : (Lit.int .i64 r.gen).wf = true
  sz : (Lit.int .i64 r.size).wf = true
theorem refV_inj {r r' : Ref} (h : refV r = refV r') : r = r' := by
  cases r; cases r'
  simp only [refV, Value.agg.injEq, Array.mk.injEq, List.cons.injEq, Value.string.injEq, Value.int.injEq, true_and, and_true] at h
  obtain ⟨h1, h2, h3⟩ := h
  rw [h1, h2, h3]
def RefR (c : List Value) (r : Ref) : Prop := c = refC r ∧ RefOk r
theorem RefR.len (c : List Value) (r : Ref) (h : RefR c r) : c.length = 3 := by rw [h.1]; rfl
/-- A list of references behind a slice value. -/
def RefsAt (S : Nat → Prop) (w : World) (v : Value) (rs : List Ref) : Prop := SeqAt S w 3 RefR v rs

theorem laidOut : laidOutB Tryz.prog = true := by kernel_rfl
theorem rowRef : (43 : TypeId) < Tryz.prog.types.size := of_decide_eq_true (by kernel_rfl)
theorem cellsRef : Tryz.prog.cellsOf 43 = 3 := by kernel_rfl
theorem deepRef : Tryz.prog.keyTypeAt 2 43 = true := by kernel_rfl
theorem keyTypeRef : Tryz.prog.keyType 43 = true := by kernel_rfl
theorem lawRef : Keyed Tryz.prog 43 := Keyed.of_law (deep_law_laid laidOut (m := 2) (by omega) rowRef deepRef (by rw [Tryz.underlying43]))
theorem sizeRef : ∃ n, Tryz.prog.types.size + 1 = n + 3 := ⟨Tryz.prog.types.size - 2, by have : 2 ≤ Tryz.prog.types.size := of_decide_eq_true (by kernel_rfl); omega⟩
theorem keyRef {r : Ref} (h : RefOk r) : ∃ l, keyOf Tryz.prog 43 (refV r) = some l := by
  obtain ⟨h1, h2, h3⟩ := h
  have c1 : Tryz.prog.cellsOf 9 = 1 := by kernel_rfl
  have c2 : Tryz.prog.cellsOf 3 = 1 := by kernel_rfl
  have hl : ∃ ls, Tryz.prog.keyLits (Tryz.prog.types.size + 1) 43 (refC r) = some ls := by
    obtain ⟨n, hn⟩ := sizeRef
    rw [hn]
    simp [Program.keyLits, Tryz.underlying43, Tryz.underlying9, Tryz.underlying3, refC, cellsRef, c1, c2, h1, h2, h3]
  obtain ⟨ls, hls⟩ := hl
  refine ⟨.string (keyBytes ls), ?_⟩
  have hf : (refV r).formed Tryz.prog 43 = true := by simp [refV, Value.formed, Tryz.underlying43, cellsRef]
  have hc : (refV r).cells.toList = refC r := rfl
  unfold keyOf
  rw [Tryz.underlying43]
  simp only [keyTypeRef, hf, hc, hls, Bool.and_self, if_true, Option.map_some]
theorem eqRef (r r' : Ref) (w : World) : (Op.equalIn 10000 43 (refV r) (refV r')).run Tryz.prog w = .ok (decide (r = r')) w := by
  have u1 := Tryz.underlying9
  have u2 := Tryz.underlying3
  have hS : Tryz.prog.underlying 43 = some (.struct (Tryz.prog.fieldsOf 43)) := by kernel_rfl
  rw [show (10000 : Nat) = 9999 + 1 from rfl]
  unfold refV
  rw [run_equalIn_struct w 9999 43 _ _ hS (by kernel_rfl)]
  simp only [Program.fieldsOf, Tryz.underlying43]
  go_simp
  obtain ⟨n, g, s⟩ := r
  obtain ⟨n', g', s'⟩ := r'
  have hn : n.toList = n'.toList ↔ n = n' := ⟨fun h => bl_inj (by rw [← toList_bl, ← toList_bl, h]), fun h => by rw [h]⟩
  simp only [Ref.mk.injEq, hn]
  by_cases h1 : n = n' <;> by_cases h2 : g = g' <;> by_cases h3 : s = s' <;> simp [h1, h2, h3]

/-- A set of references: map[api.Ref]bool. -/
structure SetAt (w : World) (b : Nat) (l : List Ref) : Prop where
  map : MapIs Tryz.prog 43 w b (l.map fun r => (refV r, .bool true))
  ok : ∀ r ∈ l, RefOk r
theorem SetAt.same {w w' : World} {b : Nat} {l : List Ref} (h : SetAt w b l) (hs : w'.heap[b]? = w.heap[b]?) : SetAt w' b l := ⟨h.map.same hs, h.ok⟩
theorem SetAt.nodup {w : World} {b : Nat} {l : List Ref} (h : SetAt w b l) : l.Nodup := by
  obtain ⟨es, clock, _, _, hn, _⟩ := h.map
  rw [List.map_map] at hn
  exact (List.pairwise_map.1 hn).imp (fun h e => h (by rw [e]))
theorem SetAt.look {w : World} {b : Nat} {l : List Ref} (h : SetAt w b l) {r : Ref} (hr : RefOk r) : (Instr.lookup 81 (.map (some b)) (refV r) false).run Tryz.prog w = .ok (.bool (decide (r ∈ l))) w := by
  by_cases hm : r ∈ l
  · rw [h.map.hit lawRef Tryz.underlying81 (keyRef hr) (val := .bool true) (List.mem_map.2 ⟨r, hm, rfl⟩) false]
    simp [hm]
  · rw [h.map.miss lawRef Tryz.underlying81 (z := .bool false) (by kernel_rfl) (keyRef hr) (fun p hp e => ?_) false]
    · simp [hm]
    · obtain ⟨x, hx, rfl⟩ := List.mem_map.1 hp
      exact hm (refV_inj e ▸ hx)
theorem wpList_setadd {w : World} {ops : Array Oper} {rest : List Oper} {o : Oper} {a : Act} {Q : Exit → Act → World → Prop} (hg : o.guard = none) (mo x v : Operand) (hop : o.op = Op.mapUpdate 81 mo x v) (b : Nat) (l : List Ref) (h : SetAt w b l) (hmo : a.eval mo = .map (some b)) (r : Ref) (hr : RefOk r) (hx : a.eval x = refV r) (hv : a.eval v = .bool true) (hnew : r ∉ l)
    (hK : ∀ w', SetAt w' b (l ++ [r]) → w.grownBy w' (some b) → wpList Tryz.prog ops Q rest (a.put o.dst undef) w') : wpList Tryz.prog ops Q (o :: rest) a w :=
  wpList_put lawRef hg mo x v _ hop Tryz.underlying81 b _ h.map hmo _ _ hx hv (keyRef hr) (fun p hp e => by
    obtain ⟨y, hy, rfl⟩ := List.mem_map.1 hp
    exact hnew (refV_inj e ▸ hy)) (fun w' h1 h2 => hK w' ⟨by rw [List.map_append]; exact h1, fun y hy => by
      rcases List.mem_append.1 hy with hy | hy
      · exact h.ok y hy
      · simp only [List.mem_singleton] at hy; subst hy; exact hr⟩ h2)
theorem SetAt.made (w : World) : SetAt (w.alloc (.map #[] 0)) w.heap.size [] := ⟨MapIs.made w, by simp⟩
/-- The places of references: map[api.Ref]int. -/
structure IdxAt (w : World) (b : Nat) (l : List Ref) : Prop where
  map : MapIs Tryz.prog 43 w b (l.zipIdx.map fun p => (refV p.1, .int .i64 (p.2 : Int)))
  ok : ∀ r ∈ l, RefOk r
theorem IdxAt.same {w w' : World} {b : Nat} {l : List Ref} (h : IdxAt w b l) (hs : w'.heap[b]? = w.heap[b]?) : IdxAt w' b l := ⟨h.map.same hs, h.ok⟩
theorem IdxAt.made (w : World) : IdxAt (w.alloc (.map #[] 0)) w.heap.size [] := ⟨MapIs.made w, by simp⟩
theorem IdxAt.nodup {w : World} {b : Nat} {l : List Ref} (h : IdxAt w b l) : l.Nodup := by
  obtain ⟨es, clock, _, _, hn, _⟩ := h.map
  rw [List.map_map] at hn
  have e : (l.zipIdx.map (Prod.fst ∘ fun p : Ref × Nat => (refV p.1, Value.int .i64 (p.2 : Int)))) = l.map refV := by
    have e2 : l.map refV = (l.zipIdx.map Prod.fst).map refV := by rw [List.zipIdx_map_fst]
    rw [e2, List.map_map]; rfl
  rw [e] at hn
  exact (List.pairwise_map.1 hn).imp (fun h e => h (by rw [e]))
theorem IdxAt.hit {w : World} {b : Nat} {l : List Ref} (h : IdxAt w b l) {r : Ref} (hr : RefOk r) (hm : r ∈ l) : (Instr.lookup 70 (.map (some b)) (refV r) true).run Tryz.prog w = .ok (.tuple #[.int .i64 (l.idxOf r : Int), .bool true]) w := by
  rw [h.map.hit lawRef Tryz.underlying70 (keyRef hr) (val := .int .i64 (l.idxOf r : Int)) ?_ true]
  · rfl
  · refine List.mem_map.2 ⟨(r, l.idxOf r), ?_, rfl⟩
    rw [List.mem_zipIdx_iff_getElem?]
    exact List.getElem?_eq_some_iff.2 ⟨List.idxOf_lt_length_iff.2 hm, List.getElem_idxOf _⟩
theorem IdxAt.miss {w : World} {b : Nat} {l : List Ref} (h : IdxAt w b l) {r : Ref} (hr : RefOk r) (hm : r ∉ l) : (Instr.lookup 70 (.map (some b)) (refV r) true).run Tryz.prog w = .ok (.tuple #[.int .i64 0, .bool false]) w := by
  rw [h.map.miss lawRef Tryz.underlying70 (z := .int .i64 0) (by kernel_rfl) (keyRef hr) (fun p hp e => ?_) true]
  · rfl
  · obtain ⟨x, hx, rfl⟩ := List.mem_map.1 hp
    have := List.fst_mem_of_mem_zipIdx hx
    exact hm (refV_inj e ▸ this)
theorem wpList_idxadd {w : World} {ops : Array Oper} {rest : List Oper} {o : Oper} {a : Act} {Q : Exit → Act → World → Prop} (hg : o.guard = none) (mo x v : Operand) (hop : o.op = Op.mapUpdate 70 mo x v) (b : Nat) (l : List Ref) (h : IdxAt w b l) (hmo : a.eval mo = .map (some b)) (r : Ref) (hr : RefOk r) (hx : a.eval x = refV r) (hv : a.eval v = .int .i64 (l.length : Int)) (hnew : r ∉ l)
    (hK : ∀ w', IdxAt w' b (l ++ [r]) → w.grownBy w' (some b) → wpList Tryz.prog ops Q rest (a.put o.dst undef) w') : wpList Tryz.prog ops Q (o :: rest) a w :=
  wpList_put lawRef hg mo x v _ hop Tryz.underlying70 b _ h.map hmo _ _ hx hv (keyRef hr) (fun p hp e => by
    obtain ⟨y, hy, rfl⟩ := List.mem_map.1 hp
    exact hnew (refV_inj e ▸ List.fst_mem_of_mem_zipIdx hy)) (fun w' h1 h2 => hK w' ⟨by rw [List.zipIdx_append, List.map_append]; simpa using h1, fun y hy => by
      rcases List.mem_append.1 hy with hy | hy
      · exact h.ok y hy
      · simp only [List.mem_singleton] at hy; subst hy; exact hr⟩ h2)

/-- Blocks outside S stand as they stood; new blocks may have come. -/
structure Grows (S : Nat → Prop) (w w' : World) : Prop where
  os : w'.os = w.os
  tape : w'.tape = w.tape
  output : w'.output = w.output
  size : w.heap.size ≤ w'.heap.size
  block : ∀ k, k < w.heap.size → ¬ S k → w'.heap[k]? = w.heap[k]?
theorem Grows.refl (S : Nat → Prop) (w : World) : Grows S w w := ⟨rfl, rfl, rfl, Nat.le_refl _, fun _ _ _ => rfl⟩
theorem Grows.trans {S T : Nat → Prop} {a b c : World} (h : Grows S a b) (k : Grows T b c) (hT : ∀ i, i < a.heap.size → T i → S i) : Grows S a c :=
  ⟨k.os.trans h.os, k.tape.trans h.tape, k.output.trans h.output, Nat.le_trans h.size k.size, fun i hi hn => (k.block i (Nat.lt_of_lt_of_le hi h.size) (fun ht => hn (hT i hi ht))).trans (h.block i hi hn)⟩
theorem Grows.of_below {S : Nat → Prop} {w w' : World} (h : Below w.heap.size w w') : Grows S w w' := ⟨h.os, h.tape, h.output, h.size, fun k hk _ => h.block k hk⟩
theorem Grows.of_grown {S : Nat → Prop} {w w' : World} {r : Option Nat} (h : w.grownBy w' r) (hr : ∀ k, r = some k → S k) : Grows S w w' := ⟨h.os, h.tape, h.output, h.size, fun k hk hn => h.block k hk (fun e => hn (hr k e.symm))⟩
theorem Grows.below {S : Nat → Prop} {w w' : World} (h : Grows S w w') {B : Nat} (hB : B ≤ w.heap.size) (hS : ∀ k, S k → B ≤ k) : Below B w w' := ⟨h.os, h.tape, h.output, h.size, fun k hk => h.block k (by omega) (fun hs => by have := hS k hs; omega)⟩

end Go.Proofs.YtndgmcggckpgfaaGreatDoor

/- Plain words of chapter 18: texts, components, paths. No program in sight. -/
namespace Go.Proofs.YtndgmcggckpgfaaGreatDoor

def lowFree (l : List UInt8) : Bool := l.all fun c => decide (32 ≤ c.toNat)
/-- Valid UTF-8 without bytes less than 32. -/
def textB (l : List UInt8) : Bool := lowFree l && Lib.validD l
/-- A component of a path. -/
def compB (l : List UInt8) : Bool := !l.isEmpty && decide (l.length ≤ 64) && (l != [46]) && (l != [46, 46]) && !l.contains 47 && textB l
/-- The parts of a string between the bytes c. -/
def splitL (c : UInt8) : List UInt8 → List (List UInt8)
  | [] => [[]]
  | b :: l => if b = c then [] :: splitL c l else
    match splitL c l with
    | h :: t => (b :: h) :: t
    | [] => [[b]]
def uniteL (ps : List (List UInt8)) : List UInt8 := Lib.join ps [47]
/-- A valid path. -/
def validP (l : List UInt8) : Bool := decide (l.length ≤ 512) && decide ((splitL 47 l).length ≤ 16) && (splitL 47 l).all compB

/-- The place of a byte in the order. -/
def rankL (c : UInt8) : Int := if c = 47 then -1 else c.toNat
/-- The order of paths. -/
def cmpL : List UInt8 → List UInt8 → Int
  | [], [] => 0
  | [], _ :: _ => -1
  | _ :: _, [] => 1
  | a :: l, b :: r => if a = b then cmpL l r else Lib.compareInt (rankL a) (rankL b)
theorem splitL_ne (c : UInt8) (l : List UInt8) : splitL c l ≠ [] := by
  cases l with
  | nil => simp [splitL]
  | cons b l => unfold splitL; split; · simp
                split <;> simp
theorem splitL_pos (c : UInt8) (l : List UInt8) : 1 ≤ (splitL c l).length := by
  have := splitL_ne c l
  cases h : splitL c l with
  | nil => exact absurd h this
  | cons a t => simp
theorem splitL_len_le (c : UInt8) (l : List UInt8) : (splitL c l).length ≤ l.length + 1 := by
  induction l with
  | nil => simp [splitL]
  | cons b l ih =>
    unfold splitL
    split
    · simp; omega
    · split
      · rename_i h t e; rw [e] at ih; simp at ih ⊢; omega
      · simp
theorem splitL_append (c : UInt8) (p q : List UInt8) (hp : c ∉ p) : splitL c (p ++ c :: q) = p :: splitL c q := by
  induction p with
  | nil => simp [splitL]
  | cons b p ih =>
    have hb : b ≠ c := fun e => hp (by simp [e])
    have ih := ih (fun h => hp (List.mem_cons_of_mem _ h))
    simp only [List.cons_append, splitL, if_neg hb, ih]
theorem splitL_whole (c : UInt8) (p : List UInt8) (hp : c ∉ p) : splitL c p = [p] := by
  induction p with
  | nil => rfl
  | cons b p ih =>
    have hb : b ≠ c := fun e => hp (by simp [e])
    have ih := ih (fun h => hp (List.mem_cons_of_mem _ h))
    simp only [splitL, if_neg hb, ih]
theorem splitL_mem (c : UInt8) (l : List UInt8) : ∀ p ∈ splitL c l, c ∉ p := by
  induction l with
  | nil => simp [splitL]
  | cons b l ih =>
    unfold splitL
    split
    · intro p hp; rcases List.mem_cons.1 hp with rfl | hp
      · simp
      · exact ih p hp
    · rename_i hb
      split
      · rename_i h t e
        rw [e] at ih
        intro p hp; rcases List.mem_cons.1 hp with rfl | hp
        · have := ih h (by simp); simp [this, Ne.symm hb]
        · exact ih p (by simp [hp])
      · rename_i e; exact absurd e (splitL_ne c l)
theorem join_splitL (c : UInt8) (l : List UInt8) : Lib.join (splitL c l) [c] = l := by
  induction l with
  | nil => rfl
  | cons b l ih =>
    unfold splitL
    split
    · rename_i hb; subst hb
      cases h : splitL b l with
      | nil => exact absurd h (splitL_ne b l)
      | cons a t => rw [h] at ih; rw [Lib.join_cons] at *; simp [Lib.joinTail] at *; exact ih
    · split
      · rename_i h t e; rw [e] at ih; rw [Lib.join_cons] at *; simp at *; exact ih
      · rename_i e; exact absurd e (splitL_ne c l)
theorem splitL_join (c : UInt8) (ps : List (List UInt8)) (h0 : ps ≠ []) (h : ∀ p ∈ ps, c ∉ p) : splitL c (Lib.join ps [c]) = ps := by
  induction ps with
  | nil => exact absurd rfl h0
  | cons p ps ih =>
    cases ps with
    | nil => rw [Lib.join_one]; exact splitL_whole c p (h p (by simp))
    | cons q ps =>
      have e : Lib.join (p :: q :: ps) [c] = p ++ c :: Lib.join (q :: ps) [c] := by
        rw [Lib.join_cons, Lib.join_cons]; simp [Lib.joinTail]
      rw [e, splitL_append c _ _ (h p (by simp)), ih (by simp) (fun x hx => h x (by simp [hx]))]

/-- strings.Split at one byte is splitL. -/
theorem index_one (l : List UInt8) (c : UInt8) (h : c ∈ l) : ∃ p q, l = p ++ c :: q ∧ c ∉ p := by
  induction l with
  | nil => simp at h
  | cons b l ih =>
    by_cases hb : b = c
    · exact ⟨[], l, by simp [hb], by simp⟩
    · have : c ∈ l := by rcases List.mem_cons.1 h with h | h; · exact absurd h.symm hb
                         exact h
      obtain ⟨p, q, rfl, hp⟩ := ih this
      exact ⟨b :: p, q, rfl, by simp [hp, Ne.symm hb]⟩

theorem index_app (p q : List UInt8) (c : UInt8) (hp : c ∉ p) : Lib.index (p ++ c :: q) [c] = (p.length : Int) := by
  induction p with
  | nil => simp [Lib.index, List.isPrefixOf]
  | cons b p ih =>
    have hb : b ≠ c := fun e => hp (by simp [e])
    have ih := ih (fun h => hp (List.mem_cons_of_mem _ h))
    rw [List.cons_append, Lib.index, ih]
    have h1 : ([c] : List UInt8).isPrefixOf (b :: (p ++ c :: q)) = false := by simp [List.isPrefixOf, Ne.symm hb]
    have h2 : ((p.length : Int) == -1) = false := by rw [beq_eq_false_iff_ne]; omega
    rw [h1, h2]; simp
theorem index_no (l : List UInt8) (c : UInt8) (h : c ∉ l) : Lib.index l [c] = -1 := by
  induction l with
  | nil => simp [Lib.index]
  | cons b l ih =>
    have hb : b ≠ c := fun e => h (by simp [e])
    have ih := ih (fun h' => h (List.mem_cons_of_mem _ h'))
    have h1 : ([c] : List UInt8).isPrefixOf (b :: l) = false := by simp [List.isPrefixOf, Ne.symm hb]
    rw [Lib.index, ih, h1]; simp
theorem splitK_eq (c : UInt8) : ∀ (k : Nat) (s : List UInt8), s.count c = k → Lib.splitK [c] 0 k s = splitL c s
  | 0, s, h => by
    have : c ∉ s := List.count_eq_zero.1 h
    rw [splitL_whole c s this]; rfl
  | k + 1, s, h => by
    have hc : c ∈ s := List.count_pos_iff.1 (by omega)
    obtain ⟨p, q, rfl, hp⟩ := index_one s c hc
    have hq : q.count c = k := by
      have h0 : p.count c = 0 := List.count_eq_zero.2 hp
      rw [List.count_append, h0, List.count_cons_self] at h; omega
    rw [splitL_append c p q hp, Lib.splitK, index_app p q c hp, if_neg (by simp)]
    simp only [Int.toNat_natCast, Nat.add_zero, List.length_cons, List.length_nil, Nat.zero_add]
    rw [List.take_left]
    have e : (p ++ c :: q).drop (p.length + 1) = q := by rw [List.drop_append]; simp
    rw [e, splitK_eq c k q hq]
/-- strings.Split(s, string(c)): what the shelf's contract gives, as lists of bytes. -/
theorem splitB_eq (c : UInt8) (s : ByteArray) : (Lib.splitB ⟨#[c]⟩ 0 (Lib.countB s ⟨#[c]⟩) s).map (·.data.toList) = splitL c s.data.toList := by
  rw [Lib.splitB_data]
  exact splitK_eq c _ _ (by rw [Lib.countB, Lib.count_one])
theorem splitB_len (c : UInt8) (s : ByteArray) : (Lib.splitB ⟨#[c]⟩ 0 (Lib.countB s ⟨#[c]⟩) s).length = Lib.countB s ⟨#[c]⟩ + 1 :=
  Lib.splitB_all ⟨#[c]⟩ (by simp [ByteArray.size]) 0 _ s rfl

theorem indexByte_contains (l : List UInt8) (c : UInt8) : decide (0 ≤ Lib.indexByte l c) = l.contains c := by
  induction l with
  | nil => simp [Lib.indexByte]
  | cons b l ih =>
    have hge := Lib.indexByte_ge l c
    unfold Lib.indexByte
    by_cases hb : b = c
    · subst hb; simp
    · have h1 : (b == c) = false := by simpa using hb
      have h2 : (c == b) = false := by simpa using Ne.symm hb
      rw [h1]
      simp only [Bool.false_eq_true, if_false, List.contains_cons, h2, Bool.false_or, ← ih]
      by_cases hm : Lib.indexByte l c = -1
      · simp [hm]
      · rw [if_neg (by simpa using hm)]; congr 1; apply propext; omega

theorem mem_index (l : List UInt8) (c : UInt8) : c ∈ l ↔ 0 ≤ Lib.indexByte l c := by
  have := indexByte_contains l c
  rw [Bool.eq_iff_iff] at this
  simpa using this.symm

/-- A decoding step over bytes that are no ASCII passes over none that are. -/
theorem decode_span (s : ByteArray) (pos : Nat) (h : pos < s.size) (ha : 128 ≤ (s.get! pos).toNat) :
    pos + (Utf8.decode s pos).2 ≤ s.size ∧ ∀ j, pos ≤ j → j < pos + (Utf8.decode s pos).2 → 128 ≤ (s.get! j).toNat := by
  have hn : ¬ (s.get! (pos + 0)).toNat < 128 := by simpa using ha
  simp only [Utf8.decode, hn, if_false]
  repeat' split
  all_goals simp_all
  all_goals (refine ⟨by omega, fun j h1 h2 => ?_⟩)
  all_goals (rcases Nat.lt_or_ge j (pos + 1) with h3 | h3)
  all_goals (first | (rw [show j = pos by omega]; exact ha) | skip)
  all_goals (rcases Nat.lt_or_ge j (pos + 2) with h4 | h4)
  all_goals (first | (rw [show j = pos + 1 by omega]; omega) | skip)
  all_goals (rcases Nat.lt_or_ge j (pos + 3) with h5 | h5)
  all_goals (first | (rw [show j = pos + 2 by omega]; omega) | skip)
  all_goals (first | (rw [show j = pos + 3 by omega]; omega) | skip)
  all_goals omega
theorem splitL_cat (c : UInt8) (p q : List UInt8) : splitL c (p ++ c :: q) = splitL c p ++ splitL c q := by
  induction p with
  | nil => simp [splitL]
  | cons b p ih =>
    simp only [List.cons_append, splitL]
    by_cases hb : b = c
    · simp [hb, ih]
    · rw [if_neg hb, if_neg hb, ih]
      cases h : splitL c p with
      | nil => exact absurd h (splitL_ne c p)
      | cons a t => simp
/-- The path without its last component. -/
def parentL (l : List UInt8) : List UInt8 := uniteL (splitL 47 l).dropLast
theorem parentL_no (l : List UInt8) (h : 47 ∉ l) : parentL l = [] := by
  unfold parentL; rw [splitL_whole 47 l h]; rfl
theorem parentL_cat (p q : List UInt8) (h : 47 ∉ q) : parentL (p ++ 47 :: q) = p := by
  unfold parentL uniteL
  rw [splitL_cat, splitL_whole 47 q h, List.dropLast_concat, join_splitL]
theorem last_slash (l : List UInt8) (h : 47 ∈ l) : ∃ p q, l = p ++ 47 :: q ∧ 47 ∉ q := by
  induction l with
  | nil => simp at h
  | cons b l ih =>
    by_cases hm : (47 : UInt8) ∈ l
    · obtain ⟨p, q, rfl, hq⟩ := ih hm
      exact ⟨b :: p, q, rfl, hq⟩
    · rcases List.mem_cons.1 h with rfl | h
      · exact ⟨[], l, rfl, hm⟩
      · exact absurd h hm
theorem parentL_take (l : List UInt8) : parentL l = l.take (parentL l).length := by
  by_cases h : (47 : UInt8) ∈ l
  · obtain ⟨p, q, rfl, hq⟩ := last_slash l h
    rw [parentL_cat p q hq]; simp
  · rw [parentL_no l h]; simp

/-- What Clean does with the parts. -/
def cleanParts : List (List UInt8) → List (List UInt8) → Option (List (List UInt8))
  | [], acc => some acc
  | p :: r, acc => if p = [] ∨ p = [46] then cleanParts r acc else if p = [46, 46] then (if acc = [] then none else cleanParts r acc.dropLast) else cleanParts r (acc ++ [p])
/-- Clean: the path, or none. -/
def cleanL (l : List UInt8) : Option (List UInt8) :=
  match cleanParts (splitL 47 l) [] with
  | none => none
  | some ps => if validP (uniteL ps) then some (uniteL ps) else none
/-- Join: the path and the error. -/
def joinL (ps : List (List UInt8)) : List UInt8 × Int :=
  if ps = [] then ([], 1) else if ps.all compB = false then ([], 1) else if 16 < ps.length ∨ 512 < (uniteL ps).length then ([], 2) else (uniteL ps, 0)
theorem uniteL_len (ps : List (List UInt8)) (m : Nat) (h : ∀ p ∈ ps, p.length ≤ m) : (uniteL ps).length ≤ ps.length * (m + 1) := by
  induction ps with
  | nil => simp [uniteL, Lib.join_nil]
  | cons p r ih =>
    have h1 := h p (by simp)
    have h2 := ih (fun x hx => h x (by simp [hx]))
    cases r with
    | nil => rw [uniteL, Lib.join_one]; simp; omega
    | cons q r =>
      have e : uniteL (p :: q :: r) = p ++ 47 :: uniteL (q :: r) := by
        unfold uniteL; rw [Lib.join_cons, Lib.join_cons]; simp [Lib.joinTail]
      rw [e, List.length_append, List.length_cons, List.length_cons (a := p), Nat.add_mul]
      omega

end Go.Proofs.YtndgmcggckpgfaaGreatDoor
