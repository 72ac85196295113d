/- Plain words of chapter 18: texts, components, paths. No program in sight. -/
import Derived.Lib.ValidLaws
import Derived.Lib.TrimUEq
import Derived.Lib.MapLaws
import Derived.Lib.SplitLaws
import Derived.Lib.Join
import Derived.Lib.Small
import Derived.Laws.RangeAny
namespace Go.Proofs.YtlipekkiaiaplaaDoor

def lowFree (l : List UInt8) : Bool := l.all fun c => decide (32 ≤ c.toNat)
/-- Valid UTF-8 without bytes less than 32. -/
def textB (l : List UInt8) : Bool := lowFree l && Lib.validD l
/-- A component of a path. -/
def compB (l : List UInt8) : Bool := !l.isEmpty && decide (l.length ≤ 64) && (l != [46]) && (l != [46, 46]) && !l.contains 47 && textB l
/-- The parts of a string between the bytes c. -/
def splitL (c : UInt8) : List UInt8 → List (List UInt8)
  | [] => [[]]
  | b :: l => if b = c then [] :: splitL c l else
    match splitL c l with
    | h :: t => (b :: h) :: t
    | [] => [[b]]
def uniteL (ps : List (List UInt8)) : List UInt8 := Lib.join ps [47]
/-- A valid path. -/
def validP (l : List UInt8) : Bool := decide (l.length ≤ 512) && decide ((splitL 47 l).length ≤ 16) && (splitL 47 l).all compB

/-- The place of a byte in the order. -/
def rankL (c : UInt8) : Int := if c = 47 then -1 else c.toNat
/-- The order of paths. -/
def cmpL : List UInt8 → List UInt8 → Int
  | [], [] => 0
  | [], _ :: _ => -1
  | _ :: _, [] => 1
  | a :: l, b :: r => if a = b then cmpL l r else Lib.compareInt (rankL a) (rankL b)
theorem splitL_ne (c : UInt8) (l : List UInt8) : splitL c l ≠ [] := by
  cases l with
  | nil => simp [splitL]
  | cons b l => unfold splitL; split; · simp
                split <;> simp
theorem splitL_pos (c : UInt8) (l : List UInt8) : 1 ≤ (splitL c l).length := by
  have := splitL_ne c l
  cases h : splitL c l with
  | nil => exact absurd h this
  | cons a t => simp
theorem splitL_len_le (c : UInt8) (l : List UInt8) : (splitL c l).length ≤ l.length + 1 := by
  induction l with
  | nil => simp [splitL]
  | cons b l ih =>
    unfold splitL
    split
    · simp; omega
    · split
      · rename_i h t e; rw [e] at ih; simp at ih ⊢; omega
      · simp
theorem splitL_append (c : UInt8) (p q : List UInt8) (hp : c ∉ p) : splitL c (p ++ c :: q) = p :: splitL c q := by
  induction p with
  | nil => simp [splitL]
  | cons b p ih =>
    have hb : b ≠ c := fun e => hp (by simp [e])
    have ih := ih (fun h => hp (List.mem_cons_of_mem _ h))
    simp only [List.cons_append, splitL, if_neg hb, ih]
theorem splitL_whole (c : UInt8) (p : List UInt8) (hp : c ∉ p) : splitL c p = [p] := by
  induction p with
  | nil => rfl
  | cons b p ih =>
    have hb : b ≠ c := fun e => hp (by simp [e])
    have ih := ih (fun h => hp (List.mem_cons_of_mem _ h))
    simp only [splitL, if_neg hb, ih]
theorem splitL_mem (c : UInt8) (l : List UInt8) : ∀ p ∈ splitL c l, c ∉ p := by
  induction l with
  | nil => simp [splitL]
  | cons b l ih =>
    unfold splitL
    split
    · intro p hp; rcases List.mem_cons.1 hp with rfl | hp
      · simp
      · exact ih p hp
    · rename_i hb
      split
      · rename_i h t e
        rw [e] at ih
        intro p hp; rcases List.mem_cons.1 hp with rfl | hp
        · have := ih h (by simp); simp [this, Ne.symm hb]
        · exact ih p (by simp [hp])
      · rename_i e; exact absurd e (splitL_ne c l)
theorem join_splitL (c : UInt8) (l : List UInt8) : Lib.join (splitL c l) [c] = l := by
  induction l with
  | nil => rfl
  | cons b l ih =>
    unfold splitL
    split
    · rename_i hb; subst hb
      cases h : splitL b l with
      | nil => exact absurd h (splitL_ne b l)
      | cons a t => rw [h] at ih; rw [Lib.join_cons] at *; simp [Lib.joinTail] at *; exact ih
    · split
      · rename_i h t e; rw [e] at ih; rw [Lib.join_cons] at *; simp at *; exact ih
      · rename_i e; exact absurd e (splitL_ne c l)
theorem splitL_join (c : UInt8) (ps : List (List UInt8)) (h0 : ps ≠ []) (h : ∀ p ∈ ps, c ∉ p) : splitL c (Lib.join ps [c]) = ps := by
  induction ps with
  | nil => exact absurd rfl h0
  | cons p ps ih =>
    cases ps with
    | nil => rw [Lib.join_one]; exact splitL_whole c p (h p (by simp))
    | cons q ps =>
      have e : Lib.join (p :: q :: ps) [c] = p ++ c :: Lib.join (q :: ps) [c] := by
        rw [Lib.join_cons, Lib.join_cons]; simp [Lib.joinTail]
      rw [e, splitL_append c _ _ (h p (by simp)), ih (by simp) (fun x hx => h x (by simp [hx]))]

/-- strings.Split at one byte is splitL. -/
theorem index_one (l : List UInt8) (c : UInt8) (h : c ∈ l) : ∃ p q, l = p ++ c :: q ∧ c ∉ p := by
  induction l with
  | nil => simp at h
  | cons b l ih =>
    by_cases hb : b = c
    · exact ⟨[], l, by simp [hb], by simp⟩
    · have : c ∈ l := by rcases List.mem_cons.1 h with h | h; · exact absurd h.symm hb
                         exact h
      obtain ⟨p, q, rfl, hp⟩ := ih this
      exact ⟨b :: p, q, rfl, by simp [hp, Ne.symm hb]⟩

theorem index_app (p q : List UInt8) (c : UInt8) (hp : c ∉ p) : Lib.index (p ++ c :: q) [c] = (p.length : Int) := by
  induction p with
  | nil => simp [Lib.index, List.isPrefixOf]
  | cons b p ih =>
    have hb : b ≠ c := fun e => hp (by simp [e])
    have ih := ih (fun h => hp (List.mem_cons_of_mem _ h))
    rw [List.cons_append, Lib.index, ih]
    have h1 : ([c] : List UInt8).isPrefixOf (b :: (p ++ c :: q)) = false := by simp [List.isPrefixOf, Ne.symm hb]
    have h2 : ((p.length : Int) == -1) = false := by rw [beq_eq_false_iff_ne]; omega
    rw [h1, h2]; simp
theorem index_no (l : List UInt8) (c : UInt8) (h : c ∉ l) : Lib.index l [c] = -1 := by
  induction l with
  | nil => simp [Lib.index]
  | cons b l ih =>
    have hb : b ≠ c := fun e => h (by simp [e])
    have ih := ih (fun h' => h (List.mem_cons_of_mem _ h'))
    have h1 : ([c] : List UInt8).isPrefixOf (b :: l) = false := by simp [List.isPrefixOf, Ne.symm hb]
    rw [Lib.index, ih, h1]; simp
theorem splitK_eq (c : UInt8) : ∀ (k : Nat) (s : List UInt8), s.count c = k → Lib.splitK [c] 0 k s = splitL c s
  | 0, s, h => by
    have : c ∉ s := List.count_eq_zero.1 h
    rw [splitL_whole c s this]; rfl
  | k + 1, s, h => by
    have hc : c ∈ s := List.count_pos_iff.1 (by omega)
    obtain ⟨p, q, rfl, hp⟩ := index_one s c hc
    have hq : q.count c = k := by
      have h0 : p.count c = 0 := List.count_eq_zero.2 hp
      rw [List.count_append, h0, List.count_cons_self] at h; omega
    rw [splitL_append c p q hp, Lib.splitK, index_app p q c hp, if_neg (by simp)]
    simp only [Int.toNat_natCast, Nat.add_zero, List.length_cons, List.length_nil, Nat.zero_add]
    rw [List.take_left]
    have e : (p ++ c :: q).drop (p.length + 1) = q := by rw [List.drop_append]; simp
    rw [e, splitK_eq c k q hq]
/-- strings.Split(s, string(c)): what the shelf's contract gives, as lists of bytes. -/
theorem splitB_eq (c : UInt8) (s : ByteArray) : (Lib.splitB ⟨#[c]⟩ 0 (Lib.countB s ⟨#[c]⟩) s).map (·.data.toList) = splitL c s.data.toList := by
  rw [Lib.splitB_data]
  exact splitK_eq c _ _ (by rw [Lib.countB, Lib.count_one])
theorem splitB_len (c : UInt8) (s : ByteArray) : (Lib.splitB ⟨#[c]⟩ 0 (Lib.countB s ⟨#[c]⟩) s).length = Lib.countB s ⟨#[c]⟩ + 1 :=
  Lib.splitB_all ⟨#[c]⟩ (by simp [ByteArray.size]) 0 _ s rfl

theorem indexByte_contains (l : List UInt8) (c : UInt8) : decide (0 ≤ Lib.indexByte l c) = l.contains c := by
  induction l with
  | nil => simp [Lib.indexByte]
  | cons b l ih =>
    have hge := Lib.indexByte_ge l c
    unfold Lib.indexByte
    by_cases hb : b = c
    · subst hb; simp
    · have h1 : (b == c) = false := by simpa using hb
      have h2 : (c == b) = false := by simpa using Ne.symm hb
      rw [h1]
      simp only [Bool.false_eq_true, if_false, List.contains_cons, h2, Bool.false_or, ← ih]
      by_cases hm : Lib.indexByte l c = -1
      · simp [hm]
      · rw [if_neg (by simpa using hm)]; congr 1; apply propext; omega

theorem mem_index (l : List UInt8) (c : UInt8) : c ∈ l ↔ 0 ≤ Lib.indexByte l c := by
  have := indexByte_contains l c
  rw [Bool.eq_iff_iff] at this
  simpa using this.symm

/-- A decoding step over bytes that are no ASCII passes over none that are. -/
theorem decode_span (s : ByteArray) (pos : Nat) (h : pos < s.size) (ha : 128 ≤ (s.get! pos).toNat) :
    pos + (Utf8.decode s pos).2 ≤ s.size ∧ ∀ j, pos ≤ j → j < pos + (Utf8.decode s pos).2 → 128 ≤ (s.get! j).toNat := by
  have hn : ¬ (s.get! (pos + 0)).toNat < 128 := by simpa using ha
  simp only [Utf8.decode, hn, if_false]
  repeat' split
  all_goals simp_all
  all_goals (refine ⟨by omega, fun j h1 h2 => ?_⟩)
  all_goals (rcases Nat.lt_or_ge j (pos + 1) with h3 | h3)
  all_goals (first | (rw [show j = pos by omega]; exact ha) | skip)
  all_goals (rcases Nat.lt_or_ge j (pos + 2) with h4 | h4)
  all_goals (first | (rw [show j = pos + 1 by omega]; omega) | skip)
  all_goals (rcases Nat.lt_or_ge j (pos + 3) with h5 | h5)
  all_goals (first | (rw [show j = pos + 2 by omega]; omega) | skip)
  all_goals (first | (rw [show j = pos + 3 by omega]; omega) | skip)
  all_goals omega
theorem splitL_cat (c : UInt8) (p q : List UInt8) : splitL c (p ++ c :: q) = splitL c p ++ splitL c q := by
  induction p with
  | nil => simp [splitL]
  | cons b p ih =>
    simp only [List.cons_append, splitL]
    by_cases hb : b = c
    · simp [hb, ih]
    · rw [if_neg hb, if_neg hb, ih]
      cases h : splitL c p with
      | nil => exact absurd h (splitL_ne c p)
      | cons a t => simp
/-- The path without its last component. -/
def parentL (l : List UInt8) : List UInt8 := uniteL (splitL 47 l).dropLast
theorem parentL_no (l : List UInt8) (h : 47 ∉ l) : parentL l = [] := by
  unfold parentL; rw [splitL_whole 47 l h]; rfl
theorem parentL_cat (p q : List UInt8) (h : 47 ∉ q) : parentL (p ++ 47 :: q) = p := by
  unfold parentL uniteL
  rw [splitL_cat, splitL_whole 47 q h, List.dropLast_concat, join_splitL]
theorem last_slash (l : List UInt8) (h : 47 ∈ l) : ∃ p q, l = p ++ 47 :: q ∧ 47 ∉ q := by
  induction l with
  | nil => simp at h
  | cons b l ih =>
    by_cases hm : (47 : UInt8) ∈ l
    · obtain ⟨p, q, rfl, hq⟩ := ih hm
      exact ⟨b :: p, q, rfl, hq⟩
    · rcases List.mem_cons.1 h with rfl | h
      · exact ⟨[], l, rfl, hm⟩
      · exact absurd h hm
theorem parentL_take (l : List UInt8) : parentL l = l.take (parentL l).length := by
  by_cases h : (47 : UInt8) ∈ l
  · obtain ⟨p, q, rfl, hq⟩ := last_slash l h
    rw [parentL_cat p q hq]; simp
  · rw [parentL_no l h]; simp

/-- What Clean does with the parts. -/
def cleanParts : List (List UInt8) → List (List UInt8) → Option (List (List UInt8))
  | [], acc => some acc
  | p :: r, acc => if p = [] ∨ p = [46] then cleanParts r acc else if p = [46, 46] then (if acc = [] then none else cleanParts r acc.dropLast) else cleanParts r (acc ++ [p])
/-- Clean: the path, or none. -/
def cleanL (l : List UInt8) : Option (List UInt8) :=
  match cleanParts (splitL 47 l) [] with
  | none => none
  | some ps => if validP (uniteL ps) then some (uniteL ps) else none
/-- Join: the path and the error. -/
def joinL (ps : List (List UInt8)) : List UInt8 × Int :=
  if ps = [] then ([], 1) else if ps.all compB = false then ([], 1) else if 16 < ps.length ∨ 512 < (uniteL ps).length then ([], 2) else (uniteL ps, 0)
theorem uniteL_len (ps : List (List UInt8)) (m : Nat) (h : ∀ p ∈ ps, p.length ≤ m) : (uniteL ps).length ≤ ps.length * (m + 1) := by
  induction ps with
  | nil => simp [uniteL, Lib.join_nil]
  | cons p r ih =>
    have h1 := h p (by simp)
    have h2 := ih (fun x hx => h x (by simp [hx]))
    cases r with
    | nil => rw [uniteL, Lib.join_one]; simp; omega
    | cons q r =>
      have e : uniteL (p :: q :: r) = p ++ 47 :: uniteL (q :: r) := by
        unfold uniteL; rw [Lib.join_cons, Lib.join_cons]; simp [Lib.joinTail]
      rw [e, List.length_append, List.length_cons, List.length_cons (a := p), Nat.add_mul]
      omega

end Go.Proofs.YtlipekkiaiaplaaDoor
