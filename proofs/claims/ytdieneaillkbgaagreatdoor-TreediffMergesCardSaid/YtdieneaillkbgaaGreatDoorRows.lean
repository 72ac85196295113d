/-
  NARROWER THAN 'FOR EVERY INPUT', by the rows' own cells (each row's printed sentence says how): TreediffDiffs: laid · TreediffMerges: laid · TreediffTexts: laid · TreediffRestores: laid · TreediffSparse: laid · TreediffUnordered: laid · TreediffUnites: laid · TreediffInverts: laid · TreediffComposes: laid · TreediffApplies: laid.
  DERIVED. THE GIVEN ROWS OF THIS SEAT. 10 by the template 'for every input the law returns true; each argument reads behind the call as it read before'; 0 by the template 'total and deterministic' (their statements: YtdieneaillkbgaaGreatDoorTotals.lean).
  GIVEN WITH THE SEED: the statements are not yours to turn. If you find one false, say at which input.
  Laid BY PROGRAM, IN A SANDBOX (cutbox-rows.mjs): the forced cells as the released guide's own fill.sh prints them over the translation f03d0f5e2999bbe6… (all of the seat's roots in one cut). By AI agents, Wed Nov 11 2026. No macro, syntax, notation, axiom, sorry.
-/
import Derived.Test.YtdieneaillkbgaaGreatDoorChecked
import GoSem.PinnedTables
import GoSem.Claim
import GoSem.ClaimJoined
import GoSem.ClaimMapViews
import Derived.JoinedTies
import Derived.KernelRfl
namespace Go.Proofs.YtdieneaillkbgaaGreatDoor
/- THE CELL 'sum', in the pinned program and in every row, IS THE sha256 OF THE DUMP (.gsa) THAT YtdieneaillkbgaaGreatDoorProg.lean LOADS. Nothing in Lean hashes anything: it is a label: what it is worth is what the hold of that sum in a sandbox is worth. -/
noncomputable def Tryz.pinned : Pinned := { name := "ytdieneaillkbgaagreatdoor", sum := "f03d0f5e2999bbe68faaf7805c078a969a933a7b26b80f960feb55379deebc20", checked := Tryz.checked }
namespace Rows
def none {H : Type} : Left H := { results := [], args := [] }

/- WHAT THE LISTED PACKAGE-LEVEL VARIABLES READ AS WHEN THE CALL BEGINS. Each datum BY PROGRAM (the guide's laid-datum.mjs) off the statement by which the dump's own 'gosem.cut.vars' lays the variable. In a bare row this is a premise. The card (YtdieneaillkbgaaGreatDoorCards.lean) ties it to the program's text. -/
def laid_unicode_utf8_acceptRanges {H : Type} : DataW H := .agg [.agg [.lit (.int .u8 128), .lit (.int .u8 191)], .agg [.lit (.int .u8 160), .lit (.int .u8 191)], .agg [.lit (.int .u8 128), .lit (.int .u8 159)], .agg [.lit (.int .u8 144), .lit (.int .u8 191)], .agg [.lit (.int .u8 128), .lit (.int .u8 143)], .agg [.lit (.int .u8 0), .lit (.int .u8 0)], .agg [.lit (.int .u8 0), .lit (.int .u8 0)], .agg [.lit (.int .u8 0), .lit (.int .u8 0)], .agg [.lit (.int .u8 0), .lit (.int .u8 0)], .agg [.lit (.int .u8 0), .lit (.int .u8 0)], .agg [.lit (.int .u8 0), .lit (.int .u8 0)], .agg [.lit (.int .u8 0), .lit (.int .u8 0)], .agg [.lit (.int .u8 0), .lit (.int .u8 0)], .agg [.lit (.int .u8 0), .lit (.int .u8 0)], .agg [.lit (.int .u8 0), .lit (.int .u8 0)], .agg [.lit (.int .u8 0), .lit (.int .u8 0)]]
/-- One of Go's own tables, pinned by name: the form's constant. -/
def laid_unicode_utf8_first : DataW Unit := Go.Pinned.utf8First

/-- 'kinkeeplaw23.TreediffDiffs': WHATEVER THE INPUT: true; the input reads as it did. -/
def treediffDiffsSpec : ChangeSpec := { name := "treediffDiffs", fn := fun _ => fun
  | [d1, d2] => { results := [.lit (.bool true)], args := [d1, d2] }
  | _ => none }
def treediffDiffsRow : OpenClaim := { program := "ytdieneaillkbgaagreatdoor", sum := "f03d0f5e2999bbe68faaf7805c078a969a933a7b26b80f960feb55379deebc20", func := "kinkeep/kinkeeplaw23.TreediffDiffs", spec := "treediffDiffs", inPlace := ["internal/bytealg.CountString", "internal/bytealg.IndexByteString", "internal/bytealg.IndexString", "internal/abi.NoEscape"], unfollowed := true, recurses := true, named := ["unicode/utf8.first", "unicode/utf8.acceptRanges", "internal/bytealg.MaxLen"], plainKeys := false, apart := false, laid := [("unicode/utf8.acceptRanges", laid_unicode_utf8_acceptRanges), ("unicode/utf8.first", laid_unicode_utf8_first)] }
def TreediffDiffsSaid : Prop := treediffDiffsRow.holds Tryz.pinned (OpenSpec.ofChange treediffDiffsSpec)

/-- ITS FALSE NEIGHBOUR: 'it returns false'. Refute it at one input. -/
def treediffDiffsWrong : ChangeSpec := { name := "treediffDiffs", fn := fun _ => fun
  | [d1, d2] => { results := [.lit (.bool false)], args := [d1, d2] }
  | _ => none }
def TreediffDiffsWrongFalsely : Prop := treediffDiffsRow.holds Tryz.pinned (OpenSpec.ofChange treediffDiffsWrong)

/-- 'kinkeeplaw23.TreediffMerges': WHATEVER THE INPUT: true; the input reads as it did. -/
def treediffMergesSpec : ChangeSpec := { name := "treediffMerges", fn := fun _ => fun
  | [d1, d2, d3] => { results := [.lit (.bool true)], args := [d1, d2, d3] }
  | _ => none }
def treediffMergesRow : OpenClaim := { program := "ytdieneaillkbgaagreatdoor", sum := "f03d0f5e2999bbe68faaf7805c078a969a933a7b26b80f960feb55379deebc20", func := "kinkeep/kinkeeplaw23.TreediffMerges", spec := "treediffMerges", inPlace := ["internal/bytealg.CountString", "internal/bytealg.IndexByteString", "internal/bytealg.IndexString", "internal/abi.NoEscape"], unfollowed := true, recurses := true, named := ["unicode/utf8.first", "unicode/utf8.acceptRanges", "internal/bytealg.MaxLen"], plainKeys := false, apart := false, laid := [("unicode/utf8.acceptRanges", laid_unicode_utf8_acceptRanges), ("unicode/utf8.first", laid_unicode_utf8_first)] }
def TreediffMergesSaid : Prop := treediffMergesRow.holds Tryz.pinned (OpenSpec.ofChange treediffMergesSpec)

/-- ITS FALSE NEIGHBOUR: 'it returns false'. Refute it at one input. -/
def treediffMergesWrong : ChangeSpec := { name := "treediffMerges", fn := fun _ => fun
  | [d1, d2, d3] => { results := [.lit (.bool false)], args := [d1, d2, d3] }
  | _ => none }
def TreediffMergesWrongFalsely : Prop := treediffMergesRow.holds Tryz.pinned (OpenSpec.ofChange treediffMergesWrong)

/-- 'kinkeeplaw23.TreediffTexts': WHATEVER THE INPUT: true; the input reads as it did. -/
def treediffTextsSpec : ChangeSpec := { name := "treediffTexts", fn := fun _ => fun
  | [d1, d2] => { results := [.lit (.bool true)], args := [d1, d2] }
  | _ => none }
def treediffTextsRow : OpenClaim := { program := "ytdieneaillkbgaagreatdoor", sum := "f03d0f5e2999bbe68faaf7805c078a969a933a7b26b80f960feb55379deebc20", func := "kinkeep/kinkeeplaw23.TreediffTexts", spec := "treediffTexts", inPlace := ["internal/bytealg.CountString", "internal/bytealg.IndexByteString", "internal/bytealg.IndexString", "internal/abi.NoEscape"], unfollowed := true, recurses := true, named := ["unicode/utf8.first", "unicode/utf8.acceptRanges", "internal/bytealg.MaxLen"], plainKeys := false, apart := false, laid := [("unicode/utf8.acceptRanges", laid_unicode_utf8_acceptRanges), ("unicode/utf8.first", laid_unicode_utf8_first)] }
def TreediffTextsSaid : Prop := treediffTextsRow.holds Tryz.pinned (OpenSpec.ofChange treediffTextsSpec)

/-- ITS FALSE NEIGHBOUR: 'it returns false'. Refute it at one input. -/
def treediffTextsWrong : ChangeSpec := { name := "treediffTexts", fn := fun _ => fun
  | [d1, d2] => { results := [.lit (.bool false)], args := [d1, d2] }
  | _ => none }
def TreediffTextsWrongFalsely : Prop := treediffTextsRow.holds Tryz.pinned (OpenSpec.ofChange treediffTextsWrong)

/-- 'kinkeeplaw23.TreediffRestores': WHATEVER THE INPUT: true; the input reads as it did. -/
def treediffRestoresSpec : ChangeSpec := { name := "treediffRestores", fn := fun _ => fun
  | [d1, d2] => { results := [.lit (.bool true)], args := [d1, d2] }
  | _ => none }
def treediffRestoresRow : OpenClaim := { program := "ytdieneaillkbgaagreatdoor", sum := "f03d0f5e2999bbe68faaf7805c078a969a933a7b26b80f960feb55379deebc20", func := "kinkeep/kinkeeplaw23.TreediffRestores", spec := "treediffRestores", inPlace := ["internal/bytealg.CountString", "internal/bytealg.IndexByteString", "internal/bytealg.IndexString", "internal/abi.NoEscape"], unfollowed := true, recurses := true, named := ["unicode/utf8.first", "unicode/utf8.acceptRanges", "internal/bytealg.MaxLen"], plainKeys := false, apart := false, laid := [("unicode/utf8.acceptRanges", laid_unicode_utf8_acceptRanges), ("unicode/utf8.first", laid_unicode_utf8_first)] }
def TreediffRestoresSaid : Prop := treediffRestoresRow.holds Tryz.pinned (OpenSpec.ofChange treediffRestoresSpec)

/-- ITS FALSE NEIGHBOUR: 'it returns false'. Refute it at one input. -/
def treediffRestoresWrong : ChangeSpec := { name := "treediffRestores", fn := fun _ => fun
  | [d1, d2] => { results := [.lit (.bool false)], args := [d1, d2] }
  | _ => none }
def TreediffRestoresWrongFalsely : Prop := treediffRestoresRow.holds Tryz.pinned (OpenSpec.ofChange treediffRestoresWrong)

/-- 'kinkeeplaw23.TreediffSparse': WHATEVER THE INPUT: true; the input reads as it did. -/
def treediffSparseSpec : ChangeSpec := { name := "treediffSparse", fn := fun _ => fun
  | [d1, d2] => { results := [.lit (.bool true)], args := [d1, d2] }
  | _ => none }
def treediffSparseRow : OpenClaim := { program := "ytdieneaillkbgaagreatdoor", sum := "f03d0f5e2999bbe68faaf7805c078a969a933a7b26b80f960feb55379deebc20", func := "kinkeep/kinkeeplaw23.TreediffSparse", spec := "treediffSparse", inPlace := ["internal/bytealg.CountString", "internal/bytealg.IndexByteString", "internal/bytealg.IndexString", "internal/abi.NoEscape"], unfollowed := true, recurses := true, named := ["unicode/utf8.first", "unicode/utf8.acceptRanges", "internal/bytealg.MaxLen"], plainKeys := false, apart := false, laid := [("unicode/utf8.acceptRanges", laid_unicode_utf8_acceptRanges), ("unicode/utf8.first", laid_unicode_utf8_first)] }
def TreediffSparseSaid : Prop := treediffSparseRow.holds Tryz.pinned (OpenSpec.ofChange treediffSparseSpec)

/-- ITS FALSE NEIGHBOUR: 'it returns false'. Refute it at one input. -/
def treediffSparseWrong : ChangeSpec := { name := "treediffSparse", fn := fun _ => fun
  | [d1, d2] => { results := [.lit (.bool false)], args := [d1, d2] }
  | _ => none }
def TreediffSparseWrongFalsely : Prop := treediffSparseRow.holds Tryz.pinned (OpenSpec.ofChange treediffSparseWrong)

/-- 'kinkeeplaw23.TreediffUnordered': WHATEVER THE INPUT: true; the input reads as it did. -/
def treediffUnorderedSpec : ChangeSpec := { name := "treediffUnordered", fn := fun _ => fun
  | [d1, d2, d3] => { results := [.lit (.bool true)], args := [d1, d2, d3] }
  | _ => none }
def treediffUnorderedRow : OpenClaim := { program := "ytdieneaillkbgaagreatdoor", sum := "f03d0f5e2999bbe68faaf7805c078a969a933a7b26b80f960feb55379deebc20", func := "kinkeep/kinkeeplaw23.TreediffUnordered", spec := "treediffUnordered", inPlace := ["internal/bytealg.CountString", "internal/bytealg.IndexByteString", "internal/bytealg.IndexString", "internal/abi.NoEscape"], unfollowed := true, recurses := true, named := ["unicode/utf8.first", "unicode/utf8.acceptRanges", "internal/bytealg.MaxLen"], plainKeys := false, apart := false, laid := [("unicode/utf8.acceptRanges", laid_unicode_utf8_acceptRanges), ("unicode/utf8.first", laid_unicode_utf8_first)] }
def TreediffUnorderedSaid : Prop := treediffUnorderedRow.holds Tryz.pinned (OpenSpec.ofChange treediffUnorderedSpec)

/-- ITS FALSE NEIGHBOUR: 'it returns false'. Refute it at one input. -/
def treediffUnorderedWrong : ChangeSpec := { name := "treediffUnordered", fn := fun _ => fun
  | [d1, d2, d3] => { results := [.lit (.bool false)], args := [d1, d2, d3] }
  | _ => none }
def TreediffUnorderedWrongFalsely : Prop := treediffUnorderedRow.holds Tryz.pinned (OpenSpec.ofChange treediffUnorderedWrong)

/-- 'kinkeeplaw23.TreediffUnites': WHATEVER THE INPUT: true; the input reads as it did. -/
def treediffUnitesSpec : ChangeSpec := { name := "treediffUnites", fn := fun _ => fun
  | [d1, d2, d3] => { results := [.lit (.bool true)], args := [d1, d2, d3] }
  | _ => none }
def treediffUnitesRow : OpenClaim := { program := "ytdieneaillkbgaagreatdoor", sum := "f03d0f5e2999bbe68faaf7805c078a969a933a7b26b80f960feb55379deebc20", func := "kinkeep/kinkeeplaw23.TreediffUnites", spec := "treediffUnites", inPlace := ["internal/bytealg.CountString", "internal/bytealg.IndexByteString", "internal/bytealg.IndexString", "internal/abi.NoEscape"], unfollowed := true, recurses := true, named := ["unicode/utf8.first", "unicode/utf8.acceptRanges", "internal/bytealg.MaxLen"], plainKeys := false, apart := false, laid := [("unicode/utf8.acceptRanges", laid_unicode_utf8_acceptRanges), ("unicode/utf8.first", laid_unicode_utf8_first)] }
def TreediffUnitesSaid : Prop := treediffUnitesRow.holds Tryz.pinned (OpenSpec.ofChange treediffUnitesSpec)

/-- ITS FALSE NEIGHBOUR: 'it returns false'. Refute it at one input. -/
def treediffUnitesWrong : ChangeSpec := { name := "treediffUnites", fn := fun _ => fun
  | [d1, d2, d3] => { results := [.lit (.bool false)], args := [d1, d2, d3] }
  | _ => none }
def TreediffUnitesWrongFalsely : Prop := treediffUnitesRow.holds Tryz.pinned (OpenSpec.ofChange treediffUnitesWrong)

/-- 'kinkeeplaw23.TreediffInverts': WHATEVER THE INPUT: true; the input reads as it did. -/
def treediffInvertsSpec : ChangeSpec := { name := "treediffInverts", fn := fun _ => fun
  | [d1, d2] => { results := [.lit (.bool true)], args := [d1, d2] }
  | _ => none }
def treediffInvertsRow : OpenClaim := { program := "ytdieneaillkbgaagreatdoor", sum := "f03d0f5e2999bbe68faaf7805c078a969a933a7b26b80f960feb55379deebc20", func := "kinkeep/kinkeeplaw23.TreediffInverts", spec := "treediffInverts", inPlace := ["internal/bytealg.CountString", "internal/bytealg.IndexByteString", "internal/bytealg.IndexString", "internal/abi.NoEscape"], unfollowed := true, recurses := true, named := ["unicode/utf8.first", "unicode/utf8.acceptRanges", "internal/bytealg.MaxLen"], plainKeys := false, apart := false, laid := [("unicode/utf8.acceptRanges", laid_unicode_utf8_acceptRanges), ("unicode/utf8.first", laid_unicode_utf8_first)] }
def TreediffInvertsSaid : Prop := treediffInvertsRow.holds Tryz.pinned (OpenSpec.ofChange treediffInvertsSpec)

/-- ITS FALSE NEIGHBOUR: 'it returns false'. Refute it at one input. -/
def treediffInvertsWrong : ChangeSpec := { name := "treediffInverts", fn := fun _ => fun
  | [d1, d2] => { results := [.lit (.bool false)], args := [d1, d2] }
  | _ => none }
def TreediffInvertsWrongFalsely : Prop := treediffInvertsRow.holds Tryz.pinned (OpenSpec.ofChange treediffInvertsWrong)

/-- 'kinkeeplaw23.TreediffComposes': WHATEVER THE INPUT: true; the input reads as it did. -/
def treediffComposesSpec : ChangeSpec := { name := "treediffComposes", fn := fun _ => fun
  | [d1, d2, d3] => { results := [.lit (.bool true)], args := [d1, d2, d3] }
  | _ => none }
def treediffComposesRow : OpenClaim := { program := "ytdieneaillkbgaagreatdoor", sum := "f03d0f5e2999bbe68faaf7805c078a969a933a7b26b80f960feb55379deebc20", func := "kinkeep/kinkeeplaw23.TreediffComposes", spec := "treediffComposes", inPlace := ["internal/bytealg.CountString", "internal/bytealg.IndexByteString", "internal/bytealg.IndexString", "internal/abi.NoEscape"], unfollowed := true, recurses := true, named := ["unicode/utf8.first", "unicode/utf8.acceptRanges", "internal/bytealg.MaxLen"], plainKeys := false, apart := false, laid := [("unicode/utf8.acceptRanges", laid_unicode_utf8_acceptRanges), ("unicode/utf8.first", laid_unicode_utf8_first)] }
def TreediffComposesSaid : Prop := treediffComposesRow.holds Tryz.pinned (OpenSpec.ofChange treediffComposesSpec)

/-- ITS FALSE NEIGHBOUR: 'it returns false'. Refute it at one input. -/
def treediffComposesWrong : ChangeSpec := { name := "treediffComposes", fn := fun _ => fun
  | [d1, d2, d3] => { results := [.lit (.bool false)], args := [d1, d2, d3] }
  | _ => none }
def TreediffComposesWrongFalsely : Prop := treediffComposesRow.holds Tryz.pinned (OpenSpec.ofChange treediffComposesWrong)

/-- 'kinkeeplaw23.TreediffApplies': WHATEVER THE INPUT: true; the input reads as it did. -/
def treediffAppliesSpec : ChangeSpec := { name := "treediffApplies", fn := fun _ => fun
  | [d1, d2, d3] => { results := [.lit (.bool true)], args := [d1, d2, d3] }
  | _ => none }
def treediffAppliesRow : OpenClaim := { program := "ytdieneaillkbgaagreatdoor", sum := "f03d0f5e2999bbe68faaf7805c078a969a933a7b26b80f960feb55379deebc20", func := "kinkeep/kinkeeplaw23.TreediffApplies", spec := "treediffApplies", inPlace := ["internal/bytealg.CountString", "internal/bytealg.IndexByteString", "internal/bytealg.IndexString", "internal/abi.NoEscape"], unfollowed := true, recurses := true, named := ["unicode/utf8.first", "unicode/utf8.acceptRanges", "internal/bytealg.MaxLen"], plainKeys := false, apart := false, laid := [("unicode/utf8.acceptRanges", laid_unicode_utf8_acceptRanges), ("unicode/utf8.first", laid_unicode_utf8_first)] }
def TreediffAppliesSaid : Prop := treediffAppliesRow.holds Tryz.pinned (OpenSpec.ofChange treediffAppliesSpec)

/-- ITS FALSE NEIGHBOUR: 'it returns false'. Refute it at one input. -/
def treediffAppliesWrong : ChangeSpec := { name := "treediffApplies", fn := fun _ => fun
  | [d1, d2, d3] => { results := [.lit (.bool false)], args := [d1, d2, d3] }
  | _ => none }
def TreediffAppliesWrongFalsely : Prop := treediffAppliesRow.holds Tryz.pinned (OpenSpec.ofChange treediffAppliesWrong)

/- THE SECOND FORM. 'bulk': how many values and letters a reading holds, each counted each time it is reached (what is shared counts as often as it is met; a slice's spare places count too). A statement '..UptoSaid' is the law's where the arguments, and the package variables that the reading takes, are together of bulk at most 1048576: NARROWER than '..Said'. Prove '..Said' where nothing that the law and all that it calls make is longer than what came in: it says more and counts as full. Else prove '..UptoSaid'. A law counts once. -/
mutual
def uptoBulk {H : Type} : DataW H → Nat
  | .lit (.string bytes) => bytes.length + 1
  | .lit _ => 1
  | .nil => 1
  | .ptr d => uptoBulk d + 1
  | .slice elems spare => uptoBulkAll elems + uptoBulkAll spare + 1
  | .agg parts => uptoBulkAll parts + 1
  | .iface _ d => uptoBulk d + 1
  | .map entries => uptoBulkEntries entries + 1
  | .held _ => 1
def uptoBulkAll {H : Type} : List (DataW H) → Nat
  | [] => 0
  | d :: r => uptoBulk d + uptoBulkAll r
def uptoBulkEntries {H : Type} : List (Lit × DataW H) → Nat
  | [] => 0
  | x :: r => uptoBulkEntry x + uptoBulkEntries r
def uptoBulkEntry {H : Type} : Lit × DataW H → Nat
  | (.string bytes, d) => bytes.length + uptoBulk d + 1
  | (_, d) => uptoBulk d + 1
 end
def uptoSmall : (H : Type) → List (DataW H) → Bool := fun _ ds => decide (uptoBulkAll ds ≤ 1048576)
def OpenSpec.upto (s : _root_.Go.ChangeSpec) : _root_.Go.OpenSpec := { _root_.Go.OpenSpec.ofChange s with cond := some uptoSmall }

/-- 'kinkeeplaw23.TreediffDiffs', WHERE WHAT IT READS IS OF BULK AT MOST 1048576: true; the input reads as it did. -/
def treediffDiffsUptoRow : OpenClaim := { program := "ytdieneaillkbgaagreatdoor", sum := "f03d0f5e2999bbe68faaf7805c078a969a933a7b26b80f960feb55379deebc20", func := "kinkeep/kinkeeplaw23.TreediffDiffs", spec := "treediffDiffs", inPlace := ["internal/bytealg.CountString", "internal/bytealg.IndexByteString", "internal/bytealg.IndexString", "internal/abi.NoEscape"], unfollowed := true, recurses := true, named := ["unicode/utf8.first", "unicode/utf8.acceptRanges", "internal/bytealg.MaxLen"], plainKeys := false, apart := false, laid := [("unicode/utf8.acceptRanges", laid_unicode_utf8_acceptRanges), ("unicode/utf8.first", laid_unicode_utf8_first)], narrowed := true }
def TreediffDiffsUptoSaid : Prop := treediffDiffsUptoRow.holds Tryz.pinned (OpenSpec.upto treediffDiffsSpec)

/-- 'kinkeeplaw23.TreediffMerges', WHERE WHAT IT READS IS OF BULK AT MOST 1048576: true; the input reads as it did. -/
def treediffMergesUptoRow : OpenClaim := { program := "ytdieneaillkbgaagreatdoor", sum := "f03d0f5e2999bbe68faaf7805c078a969a933a7b26b80f960feb55379deebc20", func := "kinkeep/kinkeeplaw23.TreediffMerges", spec := "treediffMerges", inPlace := ["internal/bytealg.CountString", "internal/bytealg.IndexByteString", "internal/bytealg.IndexString", "internal/abi.NoEscape"], unfollowed := true, recurses := true, named := ["unicode/utf8.first", "unicode/utf8.acceptRanges", "internal/bytealg.MaxLen"], plainKeys := false, apart := false, laid := [("unicode/utf8.acceptRanges", laid_unicode_utf8_acceptRanges), ("unicode/utf8.first", laid_unicode_utf8_first)], narrowed := true }
def TreediffMergesUptoSaid : Prop := treediffMergesUptoRow.holds Tryz.pinned (OpenSpec.upto treediffMergesSpec)

/-- 'kinkeeplaw23.TreediffTexts', WHERE WHAT IT READS IS OF BULK AT MOST 1048576: true; the input reads as it did. -/
def treediffTextsUptoRow : OpenClaim := { program := "ytdieneaillkbgaagreatdoor", sum := "f03d0f5e2999bbe68faaf7805c078a969a933a7b26b80f960feb55379deebc20", func := "kinkeep/kinkeeplaw23.TreediffTexts", spec := "treediffTexts", inPlace := ["internal/bytealg.CountString", "internal/bytealg.IndexByteString", "internal/bytealg.IndexString", "internal/abi.NoEscape"], unfollowed := true, recurses := true, named := ["unicode/utf8.first", "unicode/utf8.acceptRanges", "internal/bytealg.MaxLen"], plainKeys := false, apart := false, laid := [("unicode/utf8.acceptRanges", laid_unicode_utf8_acceptRanges), ("unicode/utf8.first", laid_unicode_utf8_first)], narrowed := true }
def TreediffTextsUptoSaid : Prop := treediffTextsUptoRow.holds Tryz.pinned (OpenSpec.upto treediffTextsSpec)

/-- 'kinkeeplaw23.TreediffRestores', WHERE WHAT IT READS IS OF BULK AT MOST 1048576: true; the input reads as it did. -/
def treediffRestoresUptoRow : OpenClaim := { program := "ytdieneaillkbgaagreatdoor", sum := "f03d0f5e2999bbe68faaf7805c078a969a933a7b26b80f960feb55379deebc20", func := "kinkeep/kinkeeplaw23.TreediffRestores", spec := "treediffRestores", inPlace := ["internal/bytealg.CountString", "internal/bytealg.IndexByteString", "internal/bytealg.IndexString", "internal/abi.NoEscape"], unfollowed := true, recurses := true, named := ["unicode/utf8.first", "unicode/utf8.acceptRanges", "internal/bytealg.MaxLen"], plainKeys := false, apart := false, laid := [("unicode/utf8.acceptRanges", laid_unicode_utf8_acceptRanges), ("unicode/utf8.first", laid_unicode_utf8_first)], narrowed := true }
def TreediffRestoresUptoSaid : Prop := treediffRestoresUptoRow.holds Tryz.pinned (OpenSpec.upto treediffRestoresSpec)

/-- 'kinkeeplaw23.TreediffSparse', WHERE WHAT IT READS IS OF BULK AT MOST 1048576: true; the input reads as it did. -/
def treediffSparseUptoRow : OpenClaim := { program := "ytdieneaillkbgaagreatdoor", sum := "f03d0f5e2999bbe68faaf7805c078a969a933a7b26b80f960feb55379deebc20", func := "kinkeep/kinkeeplaw23.TreediffSparse", spec := "treediffSparse", inPlace := ["internal/bytealg.CountString", "internal/bytealg.IndexByteString", "internal/bytealg.IndexString", "internal/abi.NoEscape"], unfollowed := true, recurses := true, named := ["unicode/utf8.first", "unicode/utf8.acceptRanges", "internal/bytealg.MaxLen"], plainKeys := false, apart := false, laid := [("unicode/utf8.acceptRanges", laid_unicode_utf8_acceptRanges), ("unicode/utf8.first", laid_unicode_utf8_first)], narrowed := true }
def TreediffSparseUptoSaid : Prop := treediffSparseUptoRow.holds Tryz.pinned (OpenSpec.upto treediffSparseSpec)

/-- 'kinkeeplaw23.TreediffUnordered', WHERE WHAT IT READS IS OF BULK AT MOST 1048576: true; the input reads as it did. -/
def treediffUnorderedUptoRow : OpenClaim := { program := "ytdieneaillkbgaagreatdoor", sum := "f03d0f5e2999bbe68faaf7805c078a969a933a7b26b80f960feb55379deebc20", func := "kinkeep/kinkeeplaw23.TreediffUnordered", spec := "treediffUnordered", inPlace := ["internal/bytealg.CountString", "internal/bytealg.IndexByteString", "internal/bytealg.IndexString", "internal/abi.NoEscape"], unfollowed := true, recurses := true, named := ["unicode/utf8.first", "unicode/utf8.acceptRanges", "internal/bytealg.MaxLen"], plainKeys := false, apart := false, laid := [("unicode/utf8.acceptRanges", laid_unicode_utf8_acceptRanges), ("unicode/utf8.first", laid_unicode_utf8_first)], narrowed := true }
def TreediffUnorderedUptoSaid : Prop := treediffUnorderedUptoRow.holds Tryz.pinned (OpenSpec.upto treediffUnorderedSpec)

/-- 'kinkeeplaw23.TreediffUnites', WHERE WHAT IT READS IS OF BULK AT MOST 1048576: true; the input reads as it did. -/
def treediffUnitesUptoRow : OpenClaim := { program := "ytdieneaillkbgaagreatdoor", sum := "f03d0f5e2999bbe68faaf7805c078a969a933a7b26b80f960feb55379deebc20", func := "kinkeep/kinkeeplaw23.TreediffUnites", spec := "treediffUnites", inPlace := ["internal/bytealg.CountString", "internal/bytealg.IndexByteString", "internal/bytealg.IndexString", "internal/abi.NoEscape"], unfollowed := true, recurses := true, named := ["unicode/utf8.first", "unicode/utf8.acceptRanges", "internal/bytealg.MaxLen"], plainKeys := false, apart := false, laid := [("unicode/utf8.acceptRanges", laid_unicode_utf8_acceptRanges), ("unicode/utf8.first", laid_unicode_utf8_first)], narrowed := true }
def TreediffUnitesUptoSaid : Prop := treediffUnitesUptoRow.holds Tryz.pinned (OpenSpec.upto treediffUnitesSpec)

/-- 'kinkeeplaw23.TreediffInverts', WHERE WHAT IT READS IS OF BULK AT MOST 1048576: true; the input reads as it did. -/
def treediffInvertsUptoRow : OpenClaim := { program := "ytdieneaillkbgaagreatdoor", sum := "f03d0f5e2999bbe68faaf7805c078a969a933a7b26b80f960feb55379deebc20", func := "kinkeep/kinkeeplaw23.TreediffInverts", spec := "treediffInverts", inPlace := ["internal/bytealg.CountString", "internal/bytealg.IndexByteString", "internal/bytealg.IndexString", "internal/abi.NoEscape"], unfollowed := true, recurses := true, named := ["unicode/utf8.first", "unicode/utf8.acceptRanges", "internal/bytealg.MaxLen"], plainKeys := false, apart := false, laid := [("unicode/utf8.acceptRanges", laid_unicode_utf8_acceptRanges), ("unicode/utf8.first", laid_unicode_utf8_first)], narrowed := true }
def TreediffInvertsUptoSaid : Prop := treediffInvertsUptoRow.holds Tryz.pinned (OpenSpec.upto treediffInvertsSpec)

/-- 'kinkeeplaw23.TreediffComposes', WHERE WHAT IT READS IS OF BULK AT MOST 1048576: true; the input reads as it did. -/
def treediffComposesUptoRow : OpenClaim := { program := "ytdieneaillkbgaagreatdoor", sum := "f03d0f5e2999bbe68faaf7805c078a969a933a7b26b80f960feb55379deebc20", func := "kinkeep/kinkeeplaw23.TreediffComposes", spec := "treediffComposes", inPlace := ["internal/bytealg.CountString", "internal/bytealg.IndexByteString", "internal/bytealg.IndexString", "internal/abi.NoEscape"], unfollowed := true, recurses := true, named := ["unicode/utf8.first", "unicode/utf8.acceptRanges", "internal/bytealg.MaxLen"], plainKeys := false, apart := false, laid := [("unicode/utf8.acceptRanges", laid_unicode_utf8_acceptRanges), ("unicode/utf8.first", laid_unicode_utf8_first)], narrowed := true }
def TreediffComposesUptoSaid : Prop := treediffComposesUptoRow.holds Tryz.pinned (OpenSpec.upto treediffComposesSpec)

/-- 'kinkeeplaw23.TreediffApplies', WHERE WHAT IT READS IS OF BULK AT MOST 1048576: true; the input reads as it did. -/
def treediffAppliesUptoRow : OpenClaim := { program := "ytdieneaillkbgaagreatdoor", sum := "f03d0f5e2999bbe68faaf7805c078a969a933a7b26b80f960feb55379deebc20", func := "kinkeep/kinkeeplaw23.TreediffApplies", spec := "treediffApplies", inPlace := ["internal/bytealg.CountString", "internal/bytealg.IndexByteString", "internal/bytealg.IndexString", "internal/abi.NoEscape"], unfollowed := true, recurses := true, named := ["unicode/utf8.first", "unicode/utf8.acceptRanges", "internal/bytealg.MaxLen"], plainKeys := false, apart := false, laid := [("unicode/utf8.acceptRanges", laid_unicode_utf8_acceptRanges), ("unicode/utf8.first", laid_unicode_utf8_first)], narrowed := true }
def TreediffAppliesUptoSaid : Prop := treediffAppliesUptoRow.holds Tryz.pinned (OpenSpec.upto treediffAppliesSpec)

end Rows
end Go.Proofs.YtdieneaillkbgaaGreatDoor
