/- Plain words of chapter 18: sizes of patterns; rules. No program in sight. -/
import Derived.Test.YtlipekkiaiaplaaDoorGlob
namespace Go.Proofs.YtlipekkiaiaplaaDoor

theorem itemsS_length : ∀ (f : Nat) (l : List Int) (its : List PItem), itemsS f l = some its → its.length ≤ l.length
  | 0, _, _, h => by simp [itemsS] at h
  | f + 1, l, its, h => by
    unfold itemsS at h
    split at h
    · simp at h; subst h; simp
    · split at h
      · simp at h
      · rename_i it t e
        have := itemS_len e
        split at h
        · simp at h
        · rename_i its2 e2
          have h2 := itemsS_length f t its2 e2
          simp at h; subst h; simp; omega
theorem compS_items {p : List UInt8} {c : PComp} (h : compS p = some c) : c.items.length ≤ p.length := by
  unfold compS at h
  split at h
  · simp at h; subst h; simp
  · split at h
    · simp at h
    · rename_i its e
      have h1 := itemsS_length _ _ _ e
      have h2 := runesL_length p
      split at h
      · simp at h
      · simp at h; subst h; simp; omega
theorem compsS_len : ∀ {ps : List (List UInt8)} {cs : List PComp}, compsS ps = some cs → cs.length = ps.length
  | [], cs, h => by simp [compsS] at h; subst h; rfl
  | p :: ps, cs, h => by
    unfold compsS at h
    split at h
    · simp at h
    · split at h
      · simp at h
      · rename_i cs2 e2
        simp at h; subst h
        simp [compsS_len e2]
theorem compsS_items : ∀ {ps : List (List UInt8)} {cs : List PComp} {m : Nat}, compsS ps = some cs → (∀ p ∈ ps, p.length ≤ m) → ∀ c ∈ cs, c.items.length ≤ m
  | [], cs, m, h, _ => by simp [compsS] at h; subst h; simp
  | p :: ps, cs, m, h, hm => by
    unfold compsS at h
    split at h
    · simp at h
    · rename_i c0 e0
      split at h
      · simp at h
      · rename_i cs2 e2
        simp at h; subst h
        intro c hc
        rcases List.mem_cons.1 hc with rfl | hc
        · have := compS_items e0; have := hm p (by simp); omega
        · exact compsS_items e2 (fun q hq => hm q (by simp [hq])) c hc

/-- A rule. -/
structure PRule where
  pat : List UInt8
  keep : Bool
  dir : Bool
  rooted : Bool
/-- The components of a rule's pattern, or none. -/
def compileS (r : PRule) : Option (List PComp) :=
  if Lib.hasPrefix r.pat [33] || Lib.hasPrefix r.pat [35] then none else if r.pat.contains 47 && !r.rooted then none else patS r.pat
/-- Match: the result and the error. -/
def matchE (p l : List UInt8) : Bool × Int :=
  match patS p with
  | none => (false, 1)
  | some cs => if validP l then (matchS cs (splitL 47 l), 0) else (false, 1)
/-- The line of a rule. -/
def lineS (r : PRule) : List UInt8 :=
  (if r.keep then [33] else []) ++ (if r.rooted && !r.pat.contains 47 then [47] else []) ++ r.pat ++ (if r.dir then [47] else [])
/-- The rule of a line. -/
def ruleS (l : List UInt8) : PRule :=
  let l1 := Lib.trimPrefix l [33]
  let l2 := Lib.trimPrefix l1 [47]
  let p := Lib.trimSuffix l2 [47]
  ⟨p, Lib.hasPrefix l [33], Lib.hasSuffix l2 [47], Lib.hasPrefix l1 [47] || p.contains 47⟩
def parseLineS (l : List UInt8) : Option PRule := if (compileS (ruleS l)).isSome then some (ruleS l) else none
/-- Parse over the lines: i is the number of the next line; the result, the line, the error. -/
def parseS : List (List UInt8) → Nat → List PRule → List PRule × Int × Int
  | [], _, acc => (acc, 0, 0)
  | l :: ls, i, acc => if l = [] ∨ Lib.hasPrefix l [35] = true then parseS ls (i + 1) acc else
    match parseLineS l with
    | none => ([], i + 1, 3)
    | some r => if acc.length = 256 then ([], i + 1, 2) else parseS ls (i + 1) (acc ++ [r])
def parseE (l : List UInt8) : List PRule × Int × Int := if 65536 < l.length then ([], 0, 2) else parseS (splitL 10 l) 0 []
/-- Ignored, at one directory of the path: n components of parts. -/
def ruleHits (dir : Bool) (r : PRule) (cs : List PComp) (parts : List (List UInt8)) (n : Nat) : Bool :=
  (dir || decide (n < parts.length) || !r.dir) && matchS cs (if r.rooted then parts.take n else (parts.take n).drop (n - 1))
def ignAt (dir : Bool) (parts : List (List UInt8)) (n : Nat) : List (PRule × List PComp) → Bool → Bool
  | [], b => b
  | (r, cs) :: t, b => ignAt dir parts n t (if ruleHits dir r cs parts n then !r.keep else b)
def ignFrom (dir : Bool) (parts : List (List UInt8)) (rs : List (PRule × List PComp)) : Nat → Nat → Bool
  | 0, _ => false
  | f + 1, n => if ignAt dir parts n rs false then true else ignFrom dir parts rs f (n + 1)
def compileAll : List PRule → Option (List (PRule × List PComp))
  | [] => some []
  | r :: t => match compileS r with
    | none => none
    | some cs => match compileAll t with | none => none | some u => some ((r, cs) :: u)
def ignoredE (rs : List PRule) (path : List UInt8) (dir : Bool) : Bool × Int :=
  if validP path = false ∨ 256 < rs.length then (false, 1) else
  match compileAll rs with
  | none => (false, 1)
  | some u => (ignFrom dir (splitL 47 path) u (splitL 47 path).length 1, 0)
/-- Print: the text and the error. -/
def printE (rs : List PRule) : List UInt8 × Int :=
  if (rs.all fun r => (compileS r).isSome) = false then ([], 1) else if 256 < rs.length then ([], 2) else (rs.flatMap fun r => lineS r ++ [10], 0)

end Go.Proofs.YtlipekkiaiaplaaDoor
