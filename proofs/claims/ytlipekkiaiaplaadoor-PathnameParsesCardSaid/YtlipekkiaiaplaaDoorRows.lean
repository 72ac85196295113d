/-
  NARROWER THAN 'FOR EVERY INPUT', by the rows' own cells (each row's printed sentence says how): PathnameMatches: laid · PathnameIgnores: laid · PathnameGlobs: laid · PathnameCompares: laid · PathnameOrder: laid · PathnameCleans: laid · PathnameParses: laid · PathnameRound: laid · PathnameValid: laid · PathnameBelow: laid · PathnameRejoins: laid.
  DERIVED. THE GIVEN ROWS OF THIS SEAT. 11 by the template 'for every input the law returns true; each argument reads behind the call as it read before'; 0 by the template 'total and deterministic' (their statements: YtlipekkiaiaplaaDoorTotals.lean).
  GIVEN WITH THE SEED: the statements are not yours to turn. If you find one false, say at which input.
  Laid BY PROGRAM, IN A SANDBOX (cutbox-rows.mjs): the forced cells as the released guide's own fill.sh prints them over the translation 4fc4b4bb7aa7aa72… (all of the seat's roots in one cut). By AI agents, Wed Nov 11 2026. No macro, syntax, notation, axiom, sorry.
-/
import Derived.Test.YtlipekkiaiaplaaDoorChecked
import GoSem.PinnedTables
import GoSem.Claim
import GoSem.ClaimJoined
import GoSem.ClaimMapViews
import Derived.JoinedTies
import Derived.KernelRfl
namespace Go.Proofs.YtlipekkiaiaplaaDoor
/- THE CELL 'sum', in the pinned program and in every row, IS THE sha256 OF THE DUMP (.gsa) THAT YtlipekkiaiaplaaDoorProg.lean LOADS. Nothing in Lean hashes anything: it is a label: what it is worth is what the hold of that sum in a sandbox is worth. -/
noncomputable def Tryd.pinned : Pinned := { name := "ytlipekkiaiaplaadoor", sum := "4fc4b4bb7aa7aa72baf58e69e6254642082145bf216023cb80039595430ac4ec", checked := Tryd.checked }
namespace Rows
def none {H : Type} : Left H := { results := [], args := [] }

/- WHAT THE LISTED PACKAGE-LEVEL VARIABLES READ AS WHEN THE CALL BEGINS. Each datum BY PROGRAM (the guide's laid-datum.mjs) off the statement by which the dump's own 'gosem.cut.vars' lays the variable. In a bare row this is a premise. The card (YtlipekkiaiaplaaDoorCards.lean) ties it to the program's text. -/
def laid_unicode_utf8_acceptRanges {H : Type} : DataW H := .agg [.agg [.lit (.int .u8 128), .lit (.int .u8 191)], .agg [.lit (.int .u8 160), .lit (.int .u8 191)], .agg [.lit (.int .u8 128), .lit (.int .u8 159)], .agg [.lit (.int .u8 144), .lit (.int .u8 191)], .agg [.lit (.int .u8 128), .lit (.int .u8 143)], .agg [.lit (.int .u8 0), .lit (.int .u8 0)], .agg [.lit (.int .u8 0), .lit (.int .u8 0)], .agg [.lit (.int .u8 0), .lit (.int .u8 0)], .agg [.lit (.int .u8 0), .lit (.int .u8 0)], .agg [.lit (.int .u8 0), .lit (.int .u8 0)], .agg [.lit (.int .u8 0), .lit (.int .u8 0)], .agg [.lit (.int .u8 0), .lit (.int .u8 0)], .agg [.lit (.int .u8 0), .lit (.int .u8 0)], .agg [.lit (.int .u8 0), .lit (.int .u8 0)], .agg [.lit (.int .u8 0), .lit (.int .u8 0)], .agg [.lit (.int .u8 0), .lit (.int .u8 0)]]
/-- One of Go's own tables, pinned by name: the form's constant. -/
def laid_unicode_utf8_first : DataW Unit := Go.Pinned.utf8First

/-- 'kinkeeplaw18.PathnameMatches': WHATEVER THE INPUT: true; the input reads as it did. -/
def pathnameMatchesSpec : ChangeSpec := { name := "pathnameMatches", fn := fun _ => fun
  | [d1, d2] => { results := [.lit (.bool true)], args := [d1, d2] }
  | _ => none }
def pathnameMatchesRow : OpenClaim := { program := "ytlipekkiaiaplaadoor", sum := "4fc4b4bb7aa7aa72baf58e69e6254642082145bf216023cb80039595430ac4ec", func := "kinkeep/kinkeeplaw18.PathnameMatches", spec := "pathnameMatches", inPlace := ["internal/bytealg.CountString", "internal/bytealg.IndexByteString", "internal/bytealg.IndexString", "internal/abi.NoEscape", "internal/bytealg.MakeNoZero"], unfollowed := true, recurses := true, named := ["unicode/utf8.first", "unicode/utf8.acceptRanges", "internal/bytealg.MaxLen"], apart := false, laid := [("unicode/utf8.acceptRanges", laid_unicode_utf8_acceptRanges), ("unicode/utf8.first", laid_unicode_utf8_first)] }
def PathnameMatchesSaid : Prop := pathnameMatchesRow.holds Tryd.pinned (OpenSpec.ofChange pathnameMatchesSpec)

/-- ITS FALSE NEIGHBOUR: 'it returns false'. Refute it at one input. -/
def pathnameMatchesWrong : ChangeSpec := { name := "pathnameMatches", fn := fun _ => fun
  | [d1, d2] => { results := [.lit (.bool false)], args := [d1, d2] }
  | _ => none }
def PathnameMatchesWrongFalsely : Prop := pathnameMatchesRow.holds Tryd.pinned (OpenSpec.ofChange pathnameMatchesWrong)

/-- 'kinkeeplaw18.PathnameIgnores': WHATEVER THE INPUT: true; the input reads as it did. -/
def pathnameIgnoresSpec : ChangeSpec := { name := "pathnameIgnores", fn := fun _ => fun
  | [d1, d2, d3] => { results := [.lit (.bool true)], args := [d1, d2, d3] }
  | _ => none }
def pathnameIgnoresRow : OpenClaim := { program := "ytlipekkiaiaplaadoor", sum := "4fc4b4bb7aa7aa72baf58e69e6254642082145bf216023cb80039595430ac4ec", func := "kinkeep/kinkeeplaw18.PathnameIgnores", spec := "pathnameIgnores", inPlace := ["internal/bytealg.CountString", "internal/bytealg.IndexByteString", "internal/bytealg.IndexString", "internal/abi.NoEscape", "internal/bytealg.MakeNoZero"], unfollowed := true, recurses := true, named := ["unicode/utf8.first", "unicode/utf8.acceptRanges", "internal/bytealg.MaxLen"], apart := false, laid := [("unicode/utf8.acceptRanges", laid_unicode_utf8_acceptRanges), ("unicode/utf8.first", laid_unicode_utf8_first)] }
def PathnameIgnoresSaid : Prop := pathnameIgnoresRow.holds Tryd.pinned (OpenSpec.ofChange pathnameIgnoresSpec)

/-- ITS FALSE NEIGHBOUR: 'it returns false'. Refute it at one input. -/
def pathnameIgnoresWrong : ChangeSpec := { name := "pathnameIgnores", fn := fun _ => fun
  | [d1, d2, d3] => { results := [.lit (.bool false)], args := [d1, d2, d3] }
  | _ => none }
def PathnameIgnoresWrongFalsely : Prop := pathnameIgnoresRow.holds Tryd.pinned (OpenSpec.ofChange pathnameIgnoresWrong)

/-- 'kinkeeplaw18.PathnameGlobs': WHATEVER THE INPUT: true; the input reads as it did. -/
def pathnameGlobsSpec : ChangeSpec := { name := "pathnameGlobs", fn := fun _ => fun
  | [d1, d2, d3, d4] => { results := [.lit (.bool true)], args := [d1, d2, d3, d4] }
  | _ => none }
def pathnameGlobsRow : OpenClaim := { program := "ytlipekkiaiaplaadoor", sum := "4fc4b4bb7aa7aa72baf58e69e6254642082145bf216023cb80039595430ac4ec", func := "kinkeep/kinkeeplaw18.PathnameGlobs", spec := "pathnameGlobs", inPlace := ["internal/bytealg.CountString", "internal/bytealg.IndexByteString", "internal/bytealg.IndexString", "internal/abi.NoEscape", "internal/bytealg.MakeNoZero"], unfollowed := true, recurses := true, named := ["unicode/utf8.first", "unicode/utf8.acceptRanges", "internal/bytealg.MaxLen"], apart := false, laid := [("unicode/utf8.acceptRanges", laid_unicode_utf8_acceptRanges), ("unicode/utf8.first", laid_unicode_utf8_first)] }
def PathnameGlobsSaid : Prop := pathnameGlobsRow.holds Tryd.pinned (OpenSpec.ofChange pathnameGlobsSpec)

/-- ITS FALSE NEIGHBOUR: 'it returns false'. Refute it at one input. -/
def pathnameGlobsWrong : ChangeSpec := { name := "pathnameGlobs", fn := fun _ => fun
  | [d1, d2, d3, d4] => { results := [.lit (.bool false)], args := [d1, d2, d3, d4] }
  | _ => none }
def PathnameGlobsWrongFalsely : Prop := pathnameGlobsRow.holds Tryd.pinned (OpenSpec.ofChange pathnameGlobsWrong)

/-- 'kinkeeplaw18.PathnameCompares': WHATEVER THE INPUT: true; the input reads as it did. -/
def pathnameComparesSpec : ChangeSpec := { name := "pathnameCompares", fn := fun _ => fun
  | [d1, d2] => { results := [.lit (.bool true)], args := [d1, d2] }
  | _ => none }
def pathnameComparesRow : OpenClaim := { program := "ytlipekkiaiaplaadoor", sum := "4fc4b4bb7aa7aa72baf58e69e6254642082145bf216023cb80039595430ac4ec", func := "kinkeep/kinkeeplaw18.PathnameCompares", spec := "pathnameCompares", inPlace := ["internal/bytealg.CountString", "internal/bytealg.IndexByteString", "internal/bytealg.IndexString", "internal/abi.NoEscape", "internal/bytealg.MakeNoZero"], unfollowed := true, recurses := true, named := ["unicode/utf8.first", "unicode/utf8.acceptRanges", "internal/bytealg.MaxLen"], apart := false, laid := [("unicode/utf8.acceptRanges", laid_unicode_utf8_acceptRanges), ("unicode/utf8.first", laid_unicode_utf8_first)] }
def PathnameComparesSaid : Prop := pathnameComparesRow.holds Tryd.pinned (OpenSpec.ofChange pathnameComparesSpec)

/-- ITS FALSE NEIGHBOUR: 'it returns false'. Refute it at one input. -/
def pathnameComparesWrong : ChangeSpec := { name := "pathnameCompares", fn := fun _ => fun
  | [d1, d2] => { results := [.lit (.bool false)], args := [d1, d2] }
  | _ => none }
def PathnameComparesWrongFalsely : Prop := pathnameComparesRow.holds Tryd.pinned (OpenSpec.ofChange pathnameComparesWrong)

/-- 'kinkeeplaw18.PathnameOrder': WHATEVER THE INPUT: true; the input reads as it did. -/
def pathnameOrderSpec : ChangeSpec := { name := "pathnameOrder", fn := fun _ => fun
  | [d1, d2, d3, d4] => { results := [.lit (.bool true)], args := [d1, d2, d3, d4] }
  | _ => none }
def pathnameOrderRow : OpenClaim := { program := "ytlipekkiaiaplaadoor", sum := "4fc4b4bb7aa7aa72baf58e69e6254642082145bf216023cb80039595430ac4ec", func := "kinkeep/kinkeeplaw18.PathnameOrder", spec := "pathnameOrder", inPlace := ["internal/bytealg.CountString", "internal/bytealg.IndexByteString", "internal/bytealg.IndexString", "internal/abi.NoEscape", "internal/bytealg.MakeNoZero"], unfollowed := true, recurses := true, named := ["unicode/utf8.first", "unicode/utf8.acceptRanges", "internal/bytealg.MaxLen"], apart := false, laid := [("unicode/utf8.acceptRanges", laid_unicode_utf8_acceptRanges), ("unicode/utf8.first", laid_unicode_utf8_first)] }
def PathnameOrderSaid : Prop := pathnameOrderRow.holds Tryd.pinned (OpenSpec.ofChange pathnameOrderSpec)

/-- ITS FALSE NEIGHBOUR: 'it returns false'. Refute it at one input. -/
def pathnameOrderWrong : ChangeSpec := { name := "pathnameOrder", fn := fun _ => fun
  | [d1, d2, d3, d4] => { results := [.lit (.bool false)], args := [d1, d2, d3, d4] }
  | _ => none }
def PathnameOrderWrongFalsely : Prop := pathnameOrderRow.holds Tryd.pinned (OpenSpec.ofChange pathnameOrderWrong)

/-- 'kinkeeplaw18.PathnameCleans': WHATEVER THE INPUT: true; the input reads as it did. -/
def pathnameCleansSpec : ChangeSpec := { name := "pathnameCleans", fn := fun _ => fun
  | [d1, d2] => { results := [.lit (.bool true)], args := [d1, d2] }
  | _ => none }
def pathnameCleansRow : OpenClaim := { program := "ytlipekkiaiaplaadoor", sum := "4fc4b4bb7aa7aa72baf58e69e6254642082145bf216023cb80039595430ac4ec", func := "kinkeep/kinkeeplaw18.PathnameCleans", spec := "pathnameCleans", inPlace := ["internal/bytealg.CountString", "internal/bytealg.IndexByteString", "internal/bytealg.IndexString", "internal/abi.NoEscape", "internal/bytealg.MakeNoZero"], unfollowed := true, recurses := true, named := ["unicode/utf8.first", "unicode/utf8.acceptRanges", "internal/bytealg.MaxLen"], apart := false, laid := [("unicode/utf8.acceptRanges", laid_unicode_utf8_acceptRanges), ("unicode/utf8.first", laid_unicode_utf8_first)] }
def PathnameCleansSaid : Prop := pathnameCleansRow.holds Tryd.pinned (OpenSpec.ofChange pathnameCleansSpec)

/-- ITS FALSE NEIGHBOUR: 'it returns false'. Refute it at one input. -/
def pathnameCleansWrong : ChangeSpec := { name := "pathnameCleans", fn := fun _ => fun
  | [d1, d2] => { results := [.lit (.bool false)], args := [d1, d2] }
  | _ => none }
def PathnameCleansWrongFalsely : Prop := pathnameCleansRow.holds Tryd.pinned (OpenSpec.ofChange pathnameCleansWrong)

/-- 'kinkeeplaw18.PathnameParses': WHATEVER THE INPUT: true; the input reads as it did. -/
def pathnameParsesSpec : ChangeSpec := { name := "pathnameParses", fn := fun _ => fun
  | [d1, d2] => { results := [.lit (.bool true)], args := [d1, d2] }
  | _ => none }
def pathnameParsesRow : OpenClaim := { program := "ytlipekkiaiaplaadoor", sum := "4fc4b4bb7aa7aa72baf58e69e6254642082145bf216023cb80039595430ac4ec", func := "kinkeep/kinkeeplaw18.PathnameParses", spec := "pathnameParses", inPlace := ["internal/bytealg.CountString", "internal/bytealg.IndexByteString", "internal/bytealg.IndexString", "internal/abi.NoEscape", "internal/bytealg.MakeNoZero"], unfollowed := true, recurses := true, named := ["unicode/utf8.first", "unicode/utf8.acceptRanges", "internal/bytealg.MaxLen"], apart := false, laid := [("unicode/utf8.acceptRanges", laid_unicode_utf8_acceptRanges), ("unicode/utf8.first", laid_unicode_utf8_first)] }
def PathnameParsesSaid : Prop := pathnameParsesRow.holds Tryd.pinned (OpenSpec.ofChange pathnameParsesSpec)

/-- ITS FALSE NEIGHBOUR: 'it returns false'. Refute it at one input. -/
def pathnameParsesWrong : ChangeSpec := { name := "pathnameParses", fn := fun _ => fun
  | [d1, d2] => { results := [.lit (.bool false)], args := [d1, d2] }
  | _ => none }
def PathnameParsesWrongFalsely : Prop := pathnameParsesRow.holds Tryd.pinned (OpenSpec.ofChange pathnameParsesWrong)

/-- 'kinkeeplaw18.PathnameRound': WHATEVER THE INPUT: true; the input reads as it did. -/
def pathnameRoundSpec : ChangeSpec := { name := "pathnameRound", fn := fun _ => fun
  | [d] => { results := [.lit (.bool true)], args := [d] }
  | _ => none }
def pathnameRoundRow : OpenClaim := { program := "ytlipekkiaiaplaadoor", sum := "4fc4b4bb7aa7aa72baf58e69e6254642082145bf216023cb80039595430ac4ec", func := "kinkeep/kinkeeplaw18.PathnameRound", spec := "pathnameRound", inPlace := ["internal/bytealg.CountString", "internal/bytealg.IndexByteString", "internal/bytealg.IndexString", "internal/abi.NoEscape", "internal/bytealg.MakeNoZero"], unfollowed := true, recurses := true, named := ["unicode/utf8.first", "unicode/utf8.acceptRanges", "internal/bytealg.MaxLen"], apart := false, laid := [("unicode/utf8.acceptRanges", laid_unicode_utf8_acceptRanges), ("unicode/utf8.first", laid_unicode_utf8_first)] }
def PathnameRoundSaid : Prop := pathnameRoundRow.holds Tryd.pinned (OpenSpec.ofChange pathnameRoundSpec)

/-- ITS FALSE NEIGHBOUR: 'it returns false'. Refute it at one input. -/
def pathnameRoundWrong : ChangeSpec := { name := "pathnameRound", fn := fun _ => fun
  | [d] => { results := [.lit (.bool false)], args := [d] }
  | _ => none }
def PathnameRoundWrongFalsely : Prop := pathnameRoundRow.holds Tryd.pinned (OpenSpec.ofChange pathnameRoundWrong)

/-- 'kinkeeplaw18.PathnameValid': WHATEVER THE INPUT: true; the input reads as it did. -/
def pathnameValidSpec : ChangeSpec := { name := "pathnameValid", fn := fun _ => fun
  | [d] => { results := [.lit (.bool true)], args := [d] }
  | _ => none }
def pathnameValidRow : OpenClaim := { program := "ytlipekkiaiaplaadoor", sum := "4fc4b4bb7aa7aa72baf58e69e6254642082145bf216023cb80039595430ac4ec", func := "kinkeep/kinkeeplaw18.PathnameValid", spec := "pathnameValid", inPlace := ["internal/bytealg.CountString", "internal/bytealg.IndexByteString", "internal/bytealg.IndexString", "internal/abi.NoEscape", "internal/bytealg.MakeNoZero"], unfollowed := true, recurses := true, named := ["unicode/utf8.first", "unicode/utf8.acceptRanges", "internal/bytealg.MaxLen"], apart := false, laid := [("unicode/utf8.acceptRanges", laid_unicode_utf8_acceptRanges), ("unicode/utf8.first", laid_unicode_utf8_first)] }
def PathnameValidSaid : Prop := pathnameValidRow.holds Tryd.pinned (OpenSpec.ofChange pathnameValidSpec)

/-- ITS FALSE NEIGHBOUR: 'it returns false'. Refute it at one input. -/
def pathnameValidWrong : ChangeSpec := { name := "pathnameValid", fn := fun _ => fun
  | [d] => { results := [.lit (.bool false)], args := [d] }
  | _ => none }
def PathnameValidWrongFalsely : Prop := pathnameValidRow.holds Tryd.pinned (OpenSpec.ofChange pathnameValidWrong)

/-- 'kinkeeplaw18.PathnameBelow': WHATEVER THE INPUT: true; the input reads as it did. -/
def pathnameBelowSpec : ChangeSpec := { name := "pathnameBelow", fn := fun _ => fun
  | [d1, d2, d3] => { results := [.lit (.bool true)], args := [d1, d2, d3] }
  | _ => none }
def pathnameBelowRow : OpenClaim := { program := "ytlipekkiaiaplaadoor", sum := "4fc4b4bb7aa7aa72baf58e69e6254642082145bf216023cb80039595430ac4ec", func := "kinkeep/kinkeeplaw18.PathnameBelow", spec := "pathnameBelow", inPlace := ["internal/bytealg.CountString", "internal/bytealg.IndexByteString", "internal/bytealg.IndexString", "internal/abi.NoEscape", "internal/bytealg.MakeNoZero"], unfollowed := true, recurses := true, named := ["unicode/utf8.first", "unicode/utf8.acceptRanges", "internal/bytealg.MaxLen"], apart := false, laid := [("unicode/utf8.acceptRanges", laid_unicode_utf8_acceptRanges), ("unicode/utf8.first", laid_unicode_utf8_first)] }
def PathnameBelowSaid : Prop := pathnameBelowRow.holds Tryd.pinned (OpenSpec.ofChange pathnameBelowSpec)

/-- ITS FALSE NEIGHBOUR: 'it returns false'. Refute it at one input. -/
def pathnameBelowWrong : ChangeSpec := { name := "pathnameBelow", fn := fun _ => fun
  | [d1, d2, d3] => { results := [.lit (.bool false)], args := [d1, d2, d3] }
  | _ => none }
def PathnameBelowWrongFalsely : Prop := pathnameBelowRow.holds Tryd.pinned (OpenSpec.ofChange pathnameBelowWrong)

/-- 'kinkeeplaw18.PathnameRejoins': WHATEVER THE INPUT: true; the input reads as it did. -/
def pathnameRejoinsSpec : ChangeSpec := { name := "pathnameRejoins", fn := fun _ => fun
  | [d] => { results := [.lit (.bool true)], args := [d] }
  | _ => none }
def pathnameRejoinsRow : OpenClaim := { program := "ytlipekkiaiaplaadoor", sum := "4fc4b4bb7aa7aa72baf58e69e6254642082145bf216023cb80039595430ac4ec", func := "kinkeep/kinkeeplaw18.PathnameRejoins", spec := "pathnameRejoins", inPlace := ["internal/bytealg.CountString", "internal/bytealg.IndexByteString", "internal/bytealg.IndexString", "internal/abi.NoEscape", "internal/bytealg.MakeNoZero"], unfollowed := true, recurses := true, named := ["unicode/utf8.first", "unicode/utf8.acceptRanges", "internal/bytealg.MaxLen"], apart := false, laid := [("unicode/utf8.acceptRanges", laid_unicode_utf8_acceptRanges), ("unicode/utf8.first", laid_unicode_utf8_first)] }
def PathnameRejoinsSaid : Prop := pathnameRejoinsRow.holds Tryd.pinned (OpenSpec.ofChange pathnameRejoinsSpec)

/-- ITS FALSE NEIGHBOUR: 'it returns false'. Refute it at one input. -/
def pathnameRejoinsWrong : ChangeSpec := { name := "pathnameRejoins", fn := fun _ => fun
  | [d] => { results := [.lit (.bool false)], args := [d] }
  | _ => none }
def PathnameRejoinsWrongFalsely : Prop := pathnameRejoinsRow.holds Tryd.pinned (OpenSpec.ofChange pathnameRejoinsWrong)

/- THE SECOND FORM. 'bulk': how many values and letters a reading holds, each counted each time it is reached (what is shared counts as often as it is met; a slice's spare places count too). A statement '..UptoSaid' is the law's where the arguments, and the package variables that the reading takes, are together of bulk at most 1048576: NARROWER than '..Said'. Prove '..Said' where nothing that the law and all that it calls make is longer than what came in: it says more and counts as full. Else prove '..UptoSaid'. A law counts once. -/
mutual
def uptoBulk {H : Type} : DataW H → Nat
  | .lit (.string bytes) => bytes.length + 1
  | .lit _ => 1
  | .nil => 1
  | .ptr d => uptoBulk d + 1
  | .slice elems spare => uptoBulkAll elems + uptoBulkAll spare + 1
  | .agg parts => uptoBulkAll parts + 1
  | .iface _ d => uptoBulk d + 1
  | .map entries => uptoBulkEntries entries + 1
  | .held _ => 1
def uptoBulkAll {H : Type} : List (DataW H) → Nat
  | [] => 0
  | d :: r => uptoBulk d + uptoBulkAll r
def uptoBulkEntries {H : Type} : List (Lit × DataW H) → Nat
  | [] => 0
  | x :: r => uptoBulkEntry x + uptoBulkEntries r
def uptoBulkEntry {H : Type} : Lit × DataW H → Nat
  | (.string bytes, d) => bytes.length + uptoBulk d + 1
  | (_, d) => uptoBulk d + 1
 end
def uptoSmall : (H : Type) → List (DataW H) → Bool := fun _ ds => decide (uptoBulkAll ds ≤ 1048576)
def OpenSpec.upto (s : _root_.Go.ChangeSpec) : _root_.Go.OpenSpec := { _root_.Go.OpenSpec.ofChange s with cond := some uptoSmall }

/-- 'kinkeeplaw18.PathnameMatches', WHERE WHAT IT READS IS OF BULK AT MOST 1048576: true; the input reads as it did. -/
def pathnameMatchesUptoRow : OpenClaim := { program := "ytlipekkiaiaplaadoor", sum := "4fc4b4bb7aa7aa72baf58e69e6254642082145bf216023cb80039595430ac4ec", func := "kinkeep/kinkeeplaw18.PathnameMatches", spec := "pathnameMatches", inPlace := ["internal/bytealg.CountString", "internal/bytealg.IndexByteString", "internal/bytealg.IndexString", "internal/abi.NoEscape", "internal/bytealg.MakeNoZero"], unfollowed := true, recurses := true, named := ["unicode/utf8.first", "unicode/utf8.acceptRanges", "internal/bytealg.MaxLen"], apart := false, laid := [("unicode/utf8.acceptRanges", laid_unicode_utf8_acceptRanges), ("unicode/utf8.first", laid_unicode_utf8_first)], narrowed := true }
def PathnameMatchesUptoSaid : Prop := pathnameMatchesUptoRow.holds Tryd.pinned (OpenSpec.upto pathnameMatchesSpec)

/-- 'kinkeeplaw18.PathnameIgnores', WHERE WHAT IT READS IS OF BULK AT MOST 1048576: true; the input reads as it did. -/
def pathnameIgnoresUptoRow : OpenClaim := { program := "ytlipekkiaiaplaadoor", sum := "4fc4b4bb7aa7aa72baf58e69e6254642082145bf216023cb80039595430ac4ec", func := "kinkeep/kinkeeplaw18.PathnameIgnores", spec := "pathnameIgnores", inPlace := ["internal/bytealg.CountString", "internal/bytealg.IndexByteString", "internal/bytealg.IndexString", "internal/abi.NoEscape", "internal/bytealg.MakeNoZero"], unfollowed := true, recurses := true, named := ["unicode/utf8.first", "unicode/utf8.acceptRanges", "internal/bytealg.MaxLen"], apart := false, laid := [("unicode/utf8.acceptRanges", laid_unicode_utf8_acceptRanges), ("unicode/utf8.first", laid_unicode_utf8_first)], narrowed := true }
def PathnameIgnoresUptoSaid : Prop := pathnameIgnoresUptoRow.holds Tryd.pinned (OpenSpec.upto pathnameIgnoresSpec)

/-- 'kinkeeplaw18.PathnameGlobs', WHERE WHAT IT READS IS OF BULK AT MOST 1048576: true; the input reads as it did. -/
def pathnameGlobsUptoRow : OpenClaim := { program := "ytlipekkiaiaplaadoor", sum := "4fc4b4bb7aa7aa72baf58e69e6254642082145bf216023cb80039595430ac4ec", func := "kinkeep/kinkeeplaw18.PathnameGlobs", spec := "pathnameGlobs", inPlace := ["internal/bytealg.CountString", "internal/bytealg.IndexByteString", "internal/bytealg.IndexString", "internal/abi.NoEscape", "internal/bytealg.MakeNoZero"], unfollowed := true, recurses := true, named := ["unicode/utf8.first", "unicode/utf8.acceptRanges", "internal/bytealg.MaxLen"], apart := false, laid := [("unicode/utf8.acceptRanges", laid_unicode_utf8_acceptRanges), ("unicode/utf8.first", laid_unicode_utf8_first)], narrowed := true }
def PathnameGlobsUptoSaid : Prop := pathnameGlobsUptoRow.holds Tryd.pinned (OpenSpec.upto pathnameGlobsSpec)

/-- 'kinkeeplaw18.PathnameCompares', WHERE WHAT IT READS IS OF BULK AT MOST 1048576: true; the input reads as it did. -/
def pathnameComparesUptoRow : OpenClaim := { program := "ytlipekkiaiaplaadoor", sum := "4fc4b4bb7aa7aa72baf58e69e6254642082145bf216023cb80039595430ac4ec", func := "kinkeep/kinkeeplaw18.PathnameCompares", spec := "pathnameCompares", inPlace := ["internal/bytealg.CountString", "internal/bytealg.IndexByteString", "internal/bytealg.IndexString", "internal/abi.NoEscape", "internal/bytealg.MakeNoZero"], unfollowed := true, recurses := true, named := ["unicode/utf8.first", "unicode/utf8.acceptRanges", "internal/bytealg.MaxLen"], apart := false, laid := [("unicode/utf8.acceptRanges", laid_unicode_utf8_acceptRanges), ("unicode/utf8.first", laid_unicode_utf8_first)], narrowed := true }
def PathnameComparesUptoSaid : Prop := pathnameComparesUptoRow.holds Tryd.pinned (OpenSpec.upto pathnameComparesSpec)

/-- 'kinkeeplaw18.PathnameOrder', WHERE WHAT IT READS IS OF BULK AT MOST 1048576: true; the input reads as it did. -/
def pathnameOrderUptoRow : OpenClaim := { program := "ytlipekkiaiaplaadoor", sum := "4fc4b4bb7aa7aa72baf58e69e6254642082145bf216023cb80039595430ac4ec", func := "kinkeep/kinkeeplaw18.PathnameOrder", spec := "pathnameOrder", inPlace := ["internal/bytealg.CountString", "internal/bytealg.IndexByteString", "internal/bytealg.IndexString", "internal/abi.NoEscape", "internal/bytealg.MakeNoZero"], unfollowed := true, recurses := true, named := ["unicode/utf8.first", "unicode/utf8.acceptRanges", "internal/bytealg.MaxLen"], apart := false, laid := [("unicode/utf8.acceptRanges", laid_unicode_utf8_acceptRanges), ("unicode/utf8.first", laid_unicode_utf8_first)], narrowed := true }
def PathnameOrderUptoSaid : Prop := pathnameOrderUptoRow.holds Tryd.pinned (OpenSpec.upto pathnameOrderSpec)

/-- 'kinkeeplaw18.PathnameCleans', WHERE WHAT IT READS IS OF BULK AT MOST 1048576: true; the input reads as it did. -/
def pathnameCleansUptoRow : OpenClaim := { program := "ytlipekkiaiaplaadoor", sum := "4fc4b4bb7aa7aa72baf58e69e6254642082145bf216023cb80039595430ac4ec", func := "kinkeep/kinkeeplaw18.PathnameCleans", spec := "pathnameCleans", inPlace := ["internal/bytealg.CountString", "internal/bytealg.IndexByteString", "internal/bytealg.IndexString", "internal/abi.NoEscape", "internal/bytealg.MakeNoZero"], unfollowed := true, recurses := true, named := ["unicode/utf8.first", "unicode/utf8.acceptRanges", "internal/bytealg.MaxLen"], apart := false, laid := [("unicode/utf8.acceptRanges", laid_unicode_utf8_acceptRanges), ("unicode/utf8.first", laid_unicode_utf8_first)], narrowed := true }
def PathnameCleansUptoSaid : Prop := pathnameCleansUptoRow.holds Tryd.pinned (OpenSpec.upto pathnameCleansSpec)

/-- 'kinkeeplaw18.PathnameParses', WHERE WHAT IT READS IS OF BULK AT MOST 1048576: true; the input reads as it did. -/
def pathnameParsesUptoRow : OpenClaim := { program := "ytlipekkiaiaplaadoor", sum := "4fc4b4bb7aa7aa72baf58e69e6254642082145bf216023cb80039595430ac4ec", func := "kinkeep/kinkeeplaw18.PathnameParses", spec := "pathnameParses", inPlace := ["internal/bytealg.CountString", "internal/bytealg.IndexByteString", "internal/bytealg.IndexString", "internal/abi.NoEscape", "internal/bytealg.MakeNoZero"], unfollowed := true, recurses := true, named := ["unicode/utf8.first", "unicode/utf8.acceptRanges", "internal/bytealg.MaxLen"], apart := false, laid := [("unicode/utf8.acceptRanges", laid_unicode_utf8_acceptRanges), ("unicode/utf8.first", laid_unicode_utf8_first)], narrowed := true }
def PathnameParsesUptoSaid : Prop := pathnameParsesUptoRow.holds Tryd.pinned (OpenSpec.upto pathnameParsesSpec)

/-- 'kinkeeplaw18.PathnameRound', WHERE WHAT IT READS IS OF BULK AT MOST 1048576: true; the input reads as it did. -/
def pathnameRoundUptoRow : OpenClaim := { program := "ytlipekkiaiaplaadoor", sum := "4fc4b4bb7aa7aa72baf58e69e6254642082145bf216023cb80039595430ac4ec", func := "kinkeep/kinkeeplaw18.PathnameRound", spec := "pathnameRound", inPlace := ["internal/bytealg.CountString", "internal/bytealg.IndexByteString", "internal/bytealg.IndexString", "internal/abi.NoEscape", "internal/bytealg.MakeNoZero"], unfollowed := true, recurses := true, named := ["unicode/utf8.first", "unicode/utf8.acceptRanges", "internal/bytealg.MaxLen"], apart := false, laid := [("unicode/utf8.acceptRanges", laid_unicode_utf8_acceptRanges), ("unicode/utf8.first", laid_unicode_utf8_first)], narrowed := true }
def PathnameRoundUptoSaid : Prop := pathnameRoundUptoRow.holds Tryd.pinned (OpenSpec.upto pathnameRoundSpec)

/-- 'kinkeeplaw18.PathnameValid', WHERE WHAT IT READS IS OF BULK AT MOST 1048576: true; the input reads as it did. -/
def pathnameValidUptoRow : OpenClaim := { program := "ytlipekkiaiaplaadoor", sum := "4fc4b4bb7aa7aa72baf58e69e6254642082145bf216023cb80039595430ac4ec", func := "kinkeep/kinkeeplaw18.PathnameValid", spec := "pathnameValid", inPlace := ["internal/bytealg.CountString", "internal/bytealg.IndexByteString", "internal/bytealg.IndexString", "internal/abi.NoEscape", "internal/bytealg.MakeNoZero"], unfollowed := true, recurses := true, named := ["unicode/utf8.first", "unicode/utf8.acceptRanges", "internal/bytealg.MaxLen"], apart := false, laid := [("unicode/utf8.acceptRanges", laid_unicode_utf8_acceptRanges), ("unicode/utf8.first", laid_unicode_utf8_first)], narrowed := true }
def PathnameValidUptoSaid : Prop := pathnameValidUptoRow.holds Tryd.pinned (OpenSpec.upto pathnameValidSpec)

/-- 'kinkeeplaw18.PathnameBelow', WHERE WHAT IT READS IS OF BULK AT MOST 1048576: true; the input reads as it did. -/
def pathnameBelowUptoRow : OpenClaim := { program := "ytlipekkiaiaplaadoor", sum := "4fc4b4bb7aa7aa72baf58e69e6254642082145bf216023cb80039595430ac4ec", func := "kinkeep/kinkeeplaw18.PathnameBelow", spec := "pathnameBelow", inPlace := ["internal/bytealg.CountString", "internal/bytealg.IndexByteString", "internal/bytealg.IndexString", "internal/abi.NoEscape", "internal/bytealg.MakeNoZero"], unfollowed := true, recurses := true, named := ["unicode/utf8.first", "unicode/utf8.acceptRanges", "internal/bytealg.MaxLen"], apart := false, laid := [("unicode/utf8.acceptRanges", laid_unicode_utf8_acceptRanges), ("unicode/utf8.first", laid_unicode_utf8_first)], narrowed := true }
def PathnameBelowUptoSaid : Prop := pathnameBelowUptoRow.holds Tryd.pinned (OpenSpec.upto pathnameBelowSpec)

/-- 'kinkeeplaw18.PathnameRejoins', WHERE WHAT IT READS IS OF BULK AT MOST 1048576: true; the input reads as it did. -/
def pathnameRejoinsUptoRow : OpenClaim := { program := "ytlipekkiaiaplaadoor", sum := "4fc4b4bb7aa7aa72baf58e69e6254642082145bf216023cb80039595430ac4ec", func := "kinkeep/kinkeeplaw18.PathnameRejoins", spec := "pathnameRejoins", inPlace := ["internal/bytealg.CountString", "internal/bytealg.IndexByteString", "internal/bytealg.IndexString", "internal/abi.NoEscape", "internal/bytealg.MakeNoZero"], unfollowed := true, recurses := true, named := ["unicode/utf8.first", "unicode/utf8.acceptRanges", "internal/bytealg.MaxLen"], apart := false, laid := [("unicode/utf8.acceptRanges", laid_unicode_utf8_acceptRanges), ("unicode/utf8.first", laid_unicode_utf8_first)], narrowed := true }
def PathnameRejoinsUptoSaid : Prop := pathnameRejoinsUptoRow.holds Tryd.pinned (OpenSpec.upto pathnameRejoinsSpec)

end Rows
end Go.Proofs.YtlipekkiaiaplaaDoor
