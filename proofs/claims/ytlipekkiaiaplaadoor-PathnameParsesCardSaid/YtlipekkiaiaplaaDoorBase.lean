/- Generic words about memory: rows of cells behind a slice value, and the environment (the variables of Go's library that the program reads). -/
import Derived.Test.YtlipekkiaiaplaaDoorRows
import Derived.Test.YtlipekkiaiaplaaDoorShelf
import Derived.WalkKit
import Derived.WalkSpells
import Derived.WalkLawsBesides
import Derived.Lib.Hide
import Derived.WalkSmall
import Derived.Deep.QuietTactic
import Derived.BigQuiet
namespace Go.Proofs.YtlipekkiaiaplaaDoor
open Go.RowKit

/-- The bytes of a string. -/
def bl (s : ByteArray) : List UInt8 := s.data.toList
theorem data_bl (s : ByteArray) : s.data.toList = bl s := rfl
theorem toList_bl (s : ByteArray) : s.toList = bl s := by rw [ByteArray.toList_eq]; rfl
theorem bl_mk (l : List UInt8) : bl ⟨l.toArray⟩ = l := by simp [bl]
theorem mk_bl (s : ByteArray) : (⟨(bl s).toArray⟩ : ByteArray) = s := by cases s; simp [bl]
theorem size_bl (s : ByteArray) : s.size = (bl s).length := Lib.size_eq s
theorem bl_append (s t : ByteArray) : bl (s ++ t) = bl s ++ bl t := by simp [bl]
theorem bl_extract (s : ByteArray) (a b : Nat) : bl (s.extract a b) = ((bl s).take b).drop a := by unfold bl; rw [Lib.extract_data]; rw [List.drop_take]
theorem bl_inj {s t : ByteArray} (h : bl s = bl t) : s = t := by rw [← mk_bl s, ← mk_bl t, h]

/-- Blocks in S stand in w' as they stood in w. -/
def SameOn (S : Nat → Prop) (w w' : World) : Prop := ∀ k, S k → w'.heap[k]? = w.heap[k]?
theorem SameOn.refl (S : Nat → Prop) (w : World) : SameOn S w w := fun _ _ => rfl
theorem SameOn.trans {S : Nat → Prop} {a b c : World} (h : SameOn S a b) (k : SameOn S b c) : SameOn S a c := fun i hi => (k i hi).trans (h i hi)
theorem SameOn.cell {S : Nat → Prop} {w w' : World} (h : SameOn S w w') {a : Addr} (ha : S a.block) : w'.cell? a = w.cell? a := World.cell?_of_block (h a.block ha)
theorem SameOn.mono {S T : Nat → Prop} {w w' : World} (h : SameOn S w w') (hT : ∀ k, T k → S k) : SameOn T w w' := fun k hk => h k (hT k hk)
theorem same_of_below {B : Nat} {w w' : World} (h : Below B w w') : SameOn (· < B) w w' := fun k hk => h.block k hk

theorem block_lt {w : World} {a : Addr} {v : Value} (h : w.cell? a = some v) : a.block < w.heap.size := by
  rcases Nat.lt_or_ge a.block w.heap.size with h' | h'
  · exact h'
  · simp [World.cell?, Array.getElem?_eq_none h'] at h

/-- The slice value v holds n elements of sz cells each: the cells are `cells`; they lie in a block of S. -/
def RowAt (S : Nat → Prop) (w : World) (sz : Nat) (v : Value) (n : Nat) (cells : List Value) : Prop :=
  cells.length = n * sz ∧ ∃ a cap, v = .slice a n cap ∧ n ≤ cap ∧ cap ≤ maxLen ∧
    (n = 0 ∨ ∃ b o, a = some ⟨b, o, none⟩ ∧ S b ∧ ∀ (j : Nat) u, cells[j]? = some u → w.cell? ⟨b, o + j, none⟩ = some u)

theorem RowAt.same {S : Nat → Prop} {w w' : World} {sz : Nat} {v : Value} {n : Nat} {cells : List Value} (h : RowAt S w sz v n cells) (hs : SameOn S w w') : RowAt S w' sz v n cells := by
  obtain ⟨hl, a, cap, hv, hn, hm, h0⟩ := h
  refine ⟨hl, a, cap, hv, hn, hm, ?_⟩
  rcases h0 with h0 | ⟨b, o, ha, hb, hc⟩
  · exact .inl h0
  · exact .inr ⟨b, o, ha, hb, fun j u hu => (hs.cell (a := ⟨b, o + j, none⟩) hb).trans (hc j u hu)⟩
theorem RowAt.mono {S T : Nat → Prop} {w : World} {sz : Nat} {v : Value} {n : Nat} {cells : List Value} (h : RowAt S w sz v n cells) (hs : ∀ k, k < w.heap.size → S k → T k) : 0 < sz → RowAt T w sz v n cells := by
  intro hsz
  obtain ⟨hl, a, cap, hv, hn, hm, h0⟩ := h
  refine ⟨hl, a, cap, hv, hn, hm, ?_⟩
  rcases h0 with h0 | ⟨b, o, ha, hb, hc⟩
  · exact .inl h0
  · rcases Nat.eq_zero_or_pos n with h | h
    · exact .inl h
    · refine .inr ⟨b, o, ha, hs b ?_ hb, hc⟩
      have : 0 < cells.length := by rw [hl]; exact Nat.mul_pos h hsz
      exact block_lt (a := ⟨b, o + 0, none⟩) (hc 0 cells[0] (by simp [this]))
/-- Under Below at the heap's own size every row stays. -/
theorem RowAt.below {S : Nat → Prop} {w w' : World} {sz : Nat} {v : Value} {n : Nat} {cells : List Value} (h : RowAt S w sz v n cells) (hsz : 0 < sz) (hb : Below w.heap.size w w') : RowAt S w' sz v n cells := by
  have h2 := h.mono (T := fun k => S k ∧ k < w.heap.size) (fun k hk hS => ⟨hS, hk⟩) hsz
  have h3 := h2.same (w' := w') (fun k hk => hb.block k hk.2)
  obtain ⟨hl, a, cap, hv, hn, hm, h0⟩ := h3
  refine ⟨hl, a, cap, hv, hn, hm, ?_⟩
  rcases h0 with h0 | ⟨b, o, ha, hb, hc⟩
  · exact .inl h0
  · exact .inr ⟨b, o, ha, hb.1, hc⟩
theorem RowAt.nil (S : Nat → Prop) (w : World) (sz : Nat) : RowAt S w sz (.slice none 0 0) 0 [] := ⟨by simp, none, 0, rfl, Nat.le_refl _, by unfold maxLen; omega, .inl rfl⟩

/-- A list of strings behind a slice value. -/
def StrsAt (S : Nat → Prop) (w : World) (v : Value) (xs : List ByteArray) : Prop := RowAt S w 1 v xs.length (xs.map Value.string)

theorem StrsAt.shape {S : Nat → Prop} {w : World} {v : Value} {xs : List ByteArray} (h : StrsAt S w v xs) :
    ∃ a cap, v = .slice a xs.length cap ∧ xs.length ≤ cap ∧ cap ≤ maxLen ∧ ∀ k x, xs[k]? = some x → ∃ b o, a = some ⟨b, o, none⟩ ∧ S b ∧ w.cell? ⟨b, o + k, none⟩ = some (.string x) := by
  obtain ⟨_, a, cap, hv, hn, hm, h0⟩ := h
  refine ⟨a, cap, hv, hn, hm, fun k x hk => ?_⟩
  rcases h0 with h0 | ⟨b, o, ha, hb, hc⟩
  · simp [List.eq_nil_of_length_eq_zero h0] at hk
  · exact ⟨b, o, ha, hb, hc k _ (by simp [hk])⟩

/-- What the program reads of Go's library's variables. -/
structure Env (w : World) : Prop where
  maxLen : ∃ m, w.cell? ⟨0, 0, none⟩ = some (.int .i64 m)
  tabs : Lib.Utf8Tabs 1 2 w
theorem Env.below {w w' : World} (h : Env w) (hb : Below w.heap.size w w') : Env w' := by
  obtain ⟨⟨m, hm⟩, ht⟩ := h
  exact ⟨⟨m, (hb.cell (block_lt hm)).trans hm⟩, Utf8Tabs_below ht hb⟩
theorem Env.lt {w : World} (h : Env w) : 0 < w.heap.size ∧ 1 < w.heap.size ∧ 2 < w.heap.size := by
  obtain ⟨⟨m, hm⟩, ht⟩ := h
  exact ⟨block_lt hm, block_lt (ht.1 0 (by omega)), block_lt (ht.2 0 (by omega)).1⟩
theorem Env.belowB {B : Nat} {w w' : World} (h : Env w) (hb : Below B w w') (h0 : 0 < B) (h1 : 1 < B) (h2 : 2 < B) : Env w' := by
  obtain ⟨⟨m, hm⟩, ht⟩ := h
  exact ⟨⟨m, (hb.cell h0).trans hm⟩, fun c hc => (hb.cell (p := ⟨1, c, none⟩) h1).trans (ht.1 c hc), fun i hi => ⟨(hb.cell (p := ⟨2, 2 * i, none⟩) h2).trans (ht.2 i hi).1, (hb.cell (p := ⟨2, 2 * i + 1, none⟩) h2).trans (ht.2 i hi).2⟩⟩

theorem ret_bool {a b : Bool} (h : a = b) : Ending.returned (.bool a) = .returned (.bool b) := by rw [h]
theorem ret_int {k : IntKind} {a b : Int} (h : a = b) : Ending.returned (.int k a) = .returned (.int k b) := by rw [h]

theorem below_next {w w1 w2 : World} (h : Below w.heap.size w w1) (k : Below w1.heap.size w1 w2) : Below w.heap.size w w2 := h.trans (k.mono h.size)

/-- A contract that leaves the world alone, met inside a region that reads alone. -/
theorem quietL {P : Program} {f : FuncId} {args : Array Value} {w : World} {n : Nat} {v : Value}
    (h : Calls P f args (w.drewN n) fun e w' => e = .returned v ∧ w.drewN n = w') : Calls P f args (w.drewN n) fun e w'' => e = .returned v ∧ ∃ m, w'' = w.drewN m :=
  h.mono fun _ _ ⟨he, hm⟩ => ⟨he, n, hm.symm⟩
theorem below_draws {B : Nat} {a w : World} (h : Below B a w) (n : Nat) : Below B a (w.drewN n) := h.trans ⟨rfl, rfl, rfl, Nat.le_refl _, fun _ _ => rfl⟩

end Go.Proofs.YtlipekkiaiaplaaDoor
