/- The shelf's contracts in this proof's own words. -/
import Derived.Test.YtlipekkiaiaplaaDoorBase
import Derived.Test.YtlipekkiaiaplaaDoorPlain
namespace Go.Proofs.YtlipekkiaiaplaaDoor
open Go.RowKit

theorem contains_one (s : ByteArray) (c : UInt8) (w : World) :
    Calls Tryd.prog 73 #[.string s, .string ⟨#[c]⟩] w fun e w' => e = .returned (.bool ((bl s).contains c)) ∧ w = w' :=
  (Tryd.strings_Contains_one s c w).mono fun _ _ ⟨he, hw⟩ => ⟨by rw [he]; exact congrArg _ (congrArg _ (indexByte_contains (bl s) c)), hw.symm⟩
theorem validString_any (s : ByteArray) (w : World) (he : Env w) (hs : s.size ≤ 9223372036854775807) :
    Calls Tryd.prog 83 #[.string s] w fun e w' => e = .returned (.bool (Lib.validD (bl s))) ∧ Below w.heap.size w w' := Tryd.utf8_ValidString s w hs he.tabs
theorem hasPrefix_any (s p : ByteArray) (w : World) :
    Calls Tryd.prog 54 #[.string s, .string p] w fun e w' => e = .returned (.bool (Lib.hasPrefix (bl s) (bl p))) ∧ w = w' :=
  (Tryd.strings_HasPrefix s p w).mono fun _ _ ⟨he, hw⟩ => ⟨he, hw.symm⟩
theorem cutPrefix_any (s p : ByteArray) (w : World) :
    Calls Tryd.prog 78 #[.string s, .string p] w fun e w' => e = .returned (.tuple #[.string ⟨(Lib.trimPrefix (bl s) (bl p)).toArray⟩, .bool (Lib.hasPrefix (bl s) (bl p))]) ∧ w = w' :=
  (Tryd.strings_CutPrefix s p w).mono fun _ _ ⟨he, hw⟩ => ⟨he, hw.symm⟩
theorem cutSuffix_any (s p : ByteArray) (w : World) (hs : s.size ≤ 9223372036854775807) :
    Calls Tryd.prog 79 #[.string s, .string p] w fun e w' => e = .returned (.tuple #[.string ⟨(Lib.trimSuffix (bl s) (bl p)).toArray⟩, .bool (Lib.hasSuffix (bl s) (bl p))]) ∧ w = w' :=
  (Tryd.strings_CutSuffix s p w hs).mono fun _ _ ⟨he, hw⟩ => ⟨he, hw.symm⟩
theorem compareInt_any (x y : Int) (w : World) :
    Calls Tryd.prog 52 #[.int .i64 x, .int .i64 y] w fun e w' => e = .returned (.int .i64 (Lib.compareInt x y)) ∧ w = w' :=
  (Tryd.cmp_Compare_int x y w).mono fun _ _ ⟨he, hw⟩ => ⟨he, hw.symm⟩

/-- strings.Split at one byte: the parts, in a new block. -/
def SplitPost (c : UInt8) (s : ByteArray) (w : World) (e : Ending) (w' : World) : Prop :=
  ∃ xs : List ByteArray, xs.map bl = splitL c (bl s) ∧ e = .returned (.slice (some ⟨w.heap.size, 0, none⟩) xs.length xs.length) ∧ w' = w.alloc (.cells (xs.map Value.string).toArray 9)
theorem split_any (s : ByteArray) (c : UInt8) (w : World) (he : Env w) (hs : s.size < 4294967281) :
    Calls Tryd.prog 55 #[.string s, .string ⟨#[c]⟩] w (SplitPost c s w) := by
  obtain ⟨m, hm⟩ := he.maxLen
  refine (Tryd.strings_Split s ⟨#[c]⟩ m w hs hm (by simp [ByteArray.size])).mono fun e w' ⟨h1, h2⟩ => ?_
  refine ⟨Lib.splitB ⟨#[c]⟩ 0 (Lib.countB s ⟨#[c]⟩) s, splitB_eq c s, ?_, h2⟩
  rw [splitB_len]; exact h1

/-- strings.Join of a row of strings. -/
theorem join_any (xs : List ByteArray) (S : Nat → Prop) (v : Value) (sep : ByteArray) (w : World) (hv : StrsAt S w v xs) (hlen : (Lib.join (xs.map bl) (bl sep)).length ≤ 140737488355328) (hN : xs.length ≤ 140737488355328) :
    Calls Tryd.prog 56 #[v, .string sep] w fun e w' => e = .returned (.string ⟨(Lib.join (xs.map bl) (bl sep)).toArray⟩) ∧ Below w.heap.size w w' := by
  obtain ⟨hl, a, cap, rfl, hn, hm, h0⟩ := hv
  rcases h0 with h0 | ⟨b, o, rfl, hb, hc⟩
  · have : xs = [] := List.eq_nil_of_length_eq_zero h0
    subst this
    exact (Tryd.strings_Join_none a cap sep w).mono fun _ _ ⟨h1, h2⟩ => ⟨h1, by rw [h2]; exact Below.refl _ _⟩
  · rcases Nat.eq_zero_or_pos xs.length with h0 | h0
    · have : xs = [] := List.eq_nil_of_length_eq_zero h0
      subst this
      exact (Tryd.strings_Join_none _ cap sep w).mono fun _ _ ⟨h1, h2⟩ => ⟨h1, by rw [h2]; exact Below.refl _ _⟩
    · have hcells : ∀ (j : Nat) x, xs[j]? = some x → w.cell? ⟨b, o + j, none⟩ = some (.string x) := fun j x hx => hc j _ (by simp [hx])
      exact Tryd.strings_Join b o cap xs sep w hcells (block_lt (hcells 0 xs[0] (by simp [h0]))) hN hn hlen

/-- Where the last slash lies, or -1. -/
def lastSlash (l : List UInt8) : Int := if 47 ∈ l then ((parentL l).length : Int) else -1
theorem byte47 (c : UInt8) (h : (c.toNat : Int) = 47) : c = 47 := by
  apply UInt8.toNat_inj.1
  have : c.toNat = 47 := by omega
  rw [this]; rfl
theorem lastSlash_eq (s : ByteArray) : Lib.lastIndexByte s 47 = lastSlash (bl s) := by
  unfold Lib.lastIndexByte
  have get : ∀ j, (hj : j < (bl s).length) → s.data[j]! = (bl s)[j] := fun j hj => by
    have h2 : j < s.data.size := by rw [← size_bl] at hj; exact hj
    rw [getElem!_pos s.data j h2]
    exact (Array.getElem_toList (xs := s.data) h2).symm
  rw [size_bl]
  generalize hl : bl s = l at *
  rcases Lib.lastIdx_spec s 47 l.length with ⟨h1, h2⟩ | ⟨i, h1, h2, h3, h4⟩
  · rw [h1]
    have : 47 ∉ l := by
      intro hm
      obtain ⟨j, hj, e⟩ := List.getElem_of_mem hm
      refine h2 j hj ?_
      rw [get j hj, e]; rfl
    simp [lastSlash, this]
  · have e : l = l.take i ++ 47 :: l.drop (i + 1) := by
      have := byte47 _ h3
      rw [get i h1] at this
      rw [← this]; simp
    have hq : 47 ∉ l.drop (i + 1) := by
      intro hm
      obtain ⟨j, hj, e⟩ := List.getElem_of_mem hm
      rw [List.length_drop] at hj
      refine h4 (i + 1 + j) (by omega) (by omega) ?_
      rw [get _ (by omega)]
      rw [List.getElem_drop] at e
      rw [e]; rfl
    have hp : parentL l = l.take i := by
      have := parentL_cat (l.take i) _ hq
      rw [← e] at this; exact this
    have hm : 47 ∈ l := by rw [e]; simp
    rw [h2, lastSlash, if_pos hm, hp, List.length_take]
    congr 1; omega
theorem lastIndex_any (s : ByteArray) (w : World) (hs : s.size < 4611686018427387904) :
    Calls Tryd.prog 64 #[.string s, .string ⟨#[47]⟩] w fun e w' => e = .returned (.int .i64 (lastSlash (bl s))) ∧ w = w' :=
  (Tryd.strings_LastIndex_one s ⟨#[47]⟩ rfl hs w).mono fun _ _ ⟨he, hw⟩ => ⟨by rw [he]; exact congrArg _ (congrArg _ (lastSlash_eq s)), hw.symm⟩

end Go.Proofs.YtlipekkiaiaplaaDoor
