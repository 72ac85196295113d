/- Plain words of chapter 18: patterns. No program in sight. -/
import Derived.Test.YtlipekkiaiaplaaDoorPlain
namespace Go.Proofs.YtlipekkiaiaplaaDoor

/-- The runes of a string. -/
def runesGo : Nat → List UInt8 → List Int
  | 0, _ => []
  | n + 1, l => if l = [] then [] else ((Lib.decodeL l).1 : Int) :: runesGo n (l.drop (Lib.decodeL l).2)
def runesL (l : List UInt8) : List Int := runesGo l.length l

/-- An item of a pattern component. -/
structure PItem where
  star : Bool
  any : Bool
  neg : Bool
  ranges : List (Int × Int)
/-- A component of a pattern. -/
structure PComp where
  dbl : Bool
  items : List PItem

def starI : PItem := ⟨true, false, false, []⟩
def anyI : PItem := ⟨false, true, false, []⟩
def litI (r : Int) : PItem := ⟨false, false, false, [(r, r)]⟩

/-- The first rune and the rest. -/
def headS : List Int → Option (Int × List Int)
  | [] => none
  | q :: u => some (q, u)
/-- An element of a class. -/
def elemS : List Int → Option (Int × List Int)
  | [] => none
  | r :: t => if r = 92 then headS t else if r = 93 ∨ r = 94 ∨ r = 45 then none else some (r, t)
/-- The ranges of a class up to its closing bracket. -/
def classS : Nat → List Int → List (Int × Int) → Option (List (Int × Int) × List Int)
  | 0, _, _ => none
  | f + 1, l, acc =>
    if l.head? = some 93 then some (acc, l.tail) else
    match elemS l with
    | none => none
    | some (lo, t) =>
      if t.head? = some 45 then
        match elemS t.tail with
        | none => none
        | some (hi, u) => if hi < lo then none else classS f u (acc ++ [(lo, hi)])
      else classS f t (acc ++ [(lo, lo)])
/-- A class behind its opening bracket. -/
def clsS (t : List Int) : Option (PItem × List Int) :=
  let neg := decide (t.head? = some 94)
  let t' := if neg then t.tail else t
  match classS (t'.length + 1) t' [] with
  | none => none
  | some (rs, u) => if rs = [] then none else some (⟨false, false, neg, rs⟩, u)
/-- An item. -/
def itemS : List Int → Option (PItem × List Int)
  | [] => none
  | r :: t =>
    if r = 42 then some (starI, t) else if r = 63 then some (anyI, t) else if r = 91 then clsS t
    else if r = 92 then (headS t).map (fun x => (litI x.1, x.2)) else some (litI r, t)
def itemsS : Nat → List Int → Option (List PItem)
  | 0, _ => none
  | f + 1, l => if l = [] then some [] else
    match itemS l with
    | none => none
    | some (it, t) => match itemsS f t with | none => none | some its => some (it :: its)
def itemsL (l : List Int) : Option (List PItem) := itemsS (l.length + 1) l
def compS (p : List UInt8) : Option PComp :=
  if p = [42, 42] then some ⟨true, []⟩ else
  match itemsL (runesL p) with
  | none => none
  | some its => if its = [] then none else some ⟨false, its⟩
def compsS : List (List UInt8) → Option (List PComp)
  | [] => some []
  | p :: r => match compS p with
    | none => none
    | some c => match compsS r with | none => none | some cs => some (c :: cs)
/-- The components of a pattern, or none. -/
def patS (l : List UInt8) : Option (List PComp) :=
  if 512 < l.length ∨ textB l = false then none else if 16 < (splitL 47 l).length then none else compsS (splitL 47 l)

def anySuf {T : Type} (f : List T → Bool) : List T → Bool
  | [] => f []
  | t :: us => f (t :: us) || anySuf f us
def headM {T : Type} (m : T → Bool) (f : List T → Bool) : List T → Bool
  | [] => false
  | t :: us => m t && f us
/-- Whether parts can be divided among pieces. -/
def dv {P T : Type} (star : P → Bool) (m : P → T → Bool) : List P → List T → Bool
  | [], ts => ts.isEmpty
  | p :: ps, ts => if star p then anySuf (dv star m ps) ts else headM (m p) (dv star m ps) ts
def inR (r : Int) (x : Int × Int) : Bool := decide (x.1 ≤ r) && decide (r ≤ x.2)
def itemM (it : PItem) (r : Int) : Bool := it.any || ((it.ranges.any (inR r)) != it.neg)
def compM (c : PComp) (part : List UInt8) : Bool := dv (·.star) itemM c.items (runesL part)
def matchS (cs : List PComp) (parts : List (List UInt8)) : Bool := dv (·.dbl) compM cs parts

theorem elemS_len {l t : List Int} {r : Int} (h : elemS l = some (r, t)) : t.length < l.length := by
  cases l with
  | nil => simp [elemS] at h
  | cons a l =>
    rw [elemS] at h
    split at h
    · cases l with
      | nil => simp [headS] at h
      | cons q u => simp [headS] at h; obtain ⟨_, rfl⟩ := h; simp; omega
    · split at h
      · simp at h
      · simp at h; obtain ⟨_, rfl⟩ := h; simp
theorem classS_len : ∀ (f : Nat) {l : List Int} {acc : List (Int × Int)} {rs : List (Int × Int)} {u : List Int}, classS f l acc = some (rs, u) → u.length ≤ l.length
  | 0, _, _, _, _, h => by simp [classS] at h
  | f + 1, l, acc, rs, u, h => by
    unfold classS at h
    split at h
    · simp at h; obtain ⟨_, rfl⟩ := h; simp
    · split at h
      · simp at h
      · rename_i lo t e
        have h1 := elemS_len e
        split at h
        · split at h
          · simp at h
          · rename_i hi v e2
            have h2 := elemS_len e2
            rw [List.length_tail] at h2
            split at h
            · simp at h
            · have := classS_len f h; omega
        · have := classS_len f h; omega
theorem classS_fuel : ∀ (f g : Nat) (l : List Int) (acc : List (Int × Int)), l.length < f → l.length < g → classS f l acc = classS g l acc
  | 0, _, _, _, h, _ => by omega
  | _, 0, _, _, _, h => by omega
  | f + 1, g + 1, l, acc, h1, h2 => by
    unfold classS
    split
    · rfl
    · split
      · rfl
      · rename_i lo t e
        have h3 := elemS_len e
        split
        · split
          · rfl
          · rename_i hi v e2
            have h4 := elemS_len e2
            rw [List.length_tail] at h4
            split
            · rfl
            · exact classS_fuel f g _ _ (by omega) (by omega)
        · exact classS_fuel f g _ _ (by omega) (by omega)
theorem clsS_len {t u : List Int} {it : PItem} (h : clsS t = some (it, u)) : u.length ≤ t.length := by
  unfold clsS at h
  simp only at h
  split at h
  · simp at h
  · rename_i rs v e
    have := classS_len _ e
    split at h
    · simp at h
    · simp only [Option.some.injEq, Prod.mk.injEq] at h
      obtain ⟨_, rfl⟩ := h
      split at this
      · rw [List.length_tail] at this; omega
      · exact this
theorem itemS_len {l t : List Int} {it : PItem} (h : itemS l = some (it, t)) : t.length < l.length := by
  cases l with
  | nil => simp [itemS] at h
  | cons a l =>
    rw [itemS] at h
    split at h
    · simp at h; obtain ⟨_, rfl⟩ := h; simp
    · split at h
      · simp at h; obtain ⟨_, rfl⟩ := h; simp
      · split at h
        · have := clsS_len h; simp; omega
        · split at h
          · cases l with
            | nil => simp [headS] at h
            | cons q u => simp [headS] at h; obtain ⟨_, rfl⟩ := h; simp; omega
          · simp at h; obtain ⟨_, rfl⟩ := h; simp
theorem itemsS_fuel : ∀ (f g : Nat) (l : List Int), l.length < f → l.length < g → itemsS f l = itemsS g l
  | 0, _, _, h, _ => by omega
  | _, 0, _, _, h => by omega
  | f + 1, g + 1, l, h1, h2 => by
    unfold itemsS
    split
    · rfl
    · split
      · rfl
      · rename_i it t e
        have := itemS_len e
        rw [itemsS_fuel f g t (by omega) (by omega)]
theorem itemsL_step {l t : List Int} {it : PItem} (hl : l ≠ []) (h : itemS l = some (it, t)) : itemsL l = match itemsL t with | none => none | some its => some (it :: its) := by
  have := itemS_len h
  unfold itemsL
  rw [itemsS, if_neg hl, h]
  simp only
  rw [itemsS_fuel l.length (t.length + 1) t (by omega) (by omega)]
theorem itemsL_bad {l : List Int} (hl : l ≠ []) (h : itemS l = none) : itemsL l = none := by
  unfold itemsL
  rw [itemsS, if_neg hl, h]

theorem decodeL_cons_le (l : List UInt8) (h : l ≠ []) : 1 ≤ (Lib.decodeL l).2 ∧ (Lib.decodeL l).2 ≤ l.length := ⟨Lib.decodeL_width l, Lib.decodeL_le l h⟩
theorem runesGo_fuel : ∀ (n m : Nat) (l : List UInt8), l.length ≤ n → l.length ≤ m → runesGo n l = runesGo m l
  | 0, m, l, h, _ => by
    have : l = [] := List.eq_nil_of_length_eq_zero (by omega)
    subst this; cases m <;> simp [runesGo]
  | n, 0, l, _, h => by
    have : l = [] := List.eq_nil_of_length_eq_zero (by omega)
    subst this; cases n <;> simp [runesGo]
  | n + 1, m + 1, l, h1, h2 => by
    unfold runesGo
    split
    · rfl
    · rename_i hl
      have := decodeL_cons_le l hl
      rw [runesGo_fuel n m (l.drop (Lib.decodeL l).2) (by rw [List.length_drop]; omega) (by rw [List.length_drop]; omega)]
theorem runesL_nil : runesL [] = [] := rfl
theorem runesL_step (l : List UInt8) (h : l ≠ []) : runesL l = ((Lib.decodeL l).1 : Int) :: runesL (l.drop (Lib.decodeL l).2) := by
  have h1 := decodeL_cons_le l h
  have hl : l.length = (l.length - 1) + 1 := by have := List.length_pos_iff.2 h; omega
  unfold runesL
  rw [hl, runesGo, if_neg h, runesGo_fuel _ (l.drop (Lib.decodeL l).2).length (l.drop (Lib.decodeL l).2) (by rw [List.length_drop]; omega) (Nat.le_refl _)]
theorem runesGo_length : ∀ (n : Nat) (l : List UInt8), (runesGo n l).length ≤ n
  | 0, _ => by simp [runesGo]
  | n + 1, l => by
    unfold runesGo
    split
    · simp
    · have := runesGo_length n (l.drop (Lib.decodeL l).2); simp; omega
theorem runesL_length (l : List UInt8) : (runesL l).length ≤ l.length := runesGo_length _ _
/-- What the model's conversion to runes gives. -/
theorem runesFrom_eq (s : ByteArray) : ∀ (n i : Nat) (acc : Array Value), Conv.runesFrom s n i acc = acc ++ ((runesGo n (s.data.toList.drop i)).map (Value.int .i32)).toArray
  | 0, i, acc => by simp [Conv.runesFrom, runesGo]
  | n + 1, i, acc => by
    unfold Conv.runesFrom runesGo
    have hsz : s.size = s.data.toList.length := Lib.size_eq s
    by_cases h : i < s.size
    · rw [if_pos h, if_neg (by intro e; have := List.drop_eq_nil_iff.1 e; omega)]
      simp only
      rw [runesFrom_eq s n, Lib.decodeL_drop, List.drop_drop]
      apply Array.ext'
      simp
    · rw [if_neg h, if_pos (List.drop_eq_nil_iff.2 (by omega))]
      simp
theorem runes_conv (s : ByteArray) : Conv.runesFrom s s.size 0 #[] = ((runesL s.data.toList).map (Value.int .i32)).toArray := by
  rw [runesFrom_eq, Lib.size_eq]
  simp [runesL]

end Go.Proofs.YtlipekkiaiaplaaDoor
