/-
  NARROWER THAN 'FOR EVERY INPUT', by the rows' own cells (each row's printed sentence says how): LivenessExclusive: maps, laid · LivenessNeeds: maps, laid · LivenessOrphans: maps, laid · LivenessDelta: maps, laid · LivenessMissing: maps, laid.
  DERIVED. THE GIVEN ROWS OF THIS SEAT. 5 by the template 'for every input the law returns true; each argument reads behind the call as it read before'; 0 by the template 'total and deterministic' (their statements: YtndgmcggckpgfaaGreatDoorTotals.lean).
  GIVEN WITH THE SEED: the statements are not yours to turn. If you find one false, say at which input.
  Laid BY PROGRAM, IN A SANDBOX (cutbox-rows.mjs): the forced cells as the released guide's own fill.sh prints them over the translation 281356ff6c085f94… (all of the seat's roots in one cut). By AI agents, Wed Nov 11 2026. No macro, syntax, notation, axiom, sorry.
-/
import Derived.Test.YtndgmcggckpgfaaGreatDoorChecked
import GoSem.PinnedTables
import GoSem.Claim
import GoSem.ClaimJoined
import GoSem.ClaimMapViews
import Derived.JoinedTies
import Derived.KernelRfl
namespace Go.Proofs.YtndgmcggckpgfaaGreatDoor
/- THE CELL 'sum', in the pinned program and in every row, IS THE sha256 OF THE DUMP (.gsa) THAT YtndgmcggckpgfaaGreatDoorProg.lean LOADS. Nothing in Lean hashes anything: it is a label: what it is worth is what the hold of that sum in a sandbox is worth. -/
noncomputable def Tryz.pinned : Pinned := { name := "ytndgmcggckpgfaagreatdoor", sum := "281356ff6c085f94f2a0bf682854f3cba950b61f17c1b79c6b3397551649bf7b", checked := Tryz.checked }
namespace Rows
def none {H : Type} : Left H := { results := [], args := [] }

/- WHAT THE LISTED PACKAGE-LEVEL VARIABLES READ AS WHEN THE CALL BEGINS. Each datum BY PROGRAM (the guide's laid-datum.mjs) off the statement by which the dump's own 'gosem.cut.vars' lays the variable. In a bare row this is a premise. The card (YtndgmcggckpgfaaGreatDoorCards.lean) ties it to the program's text. -/
def laid_unicode_utf8_acceptRanges {H : Type} : DataW H := .agg [.agg [.lit (.int .u8 128), .lit (.int .u8 191)], .agg [.lit (.int .u8 160), .lit (.int .u8 191)], .agg [.lit (.int .u8 128), .lit (.int .u8 159)], .agg [.lit (.int .u8 144), .lit (.int .u8 191)], .agg [.lit (.int .u8 128), .lit (.int .u8 143)], .agg [.lit (.int .u8 0), .lit (.int .u8 0)], .agg [.lit (.int .u8 0), .lit (.int .u8 0)], .agg [.lit (.int .u8 0), .lit (.int .u8 0)], .agg [.lit (.int .u8 0), .lit (.int .u8 0)], .agg [.lit (.int .u8 0), .lit (.int .u8 0)], .agg [.lit (.int .u8 0), .lit (.int .u8 0)], .agg [.lit (.int .u8 0), .lit (.int .u8 0)], .agg [.lit (.int .u8 0), .lit (.int .u8 0)], .agg [.lit (.int .u8 0), .lit (.int .u8 0)], .agg [.lit (.int .u8 0), .lit (.int .u8 0)], .agg [.lit (.int .u8 0), .lit (.int .u8 0)]]
/-- One of Go's own tables, pinned by name: the form's constant. -/
def laid_unicode_utf8_first : DataW Unit := Go.Pinned.utf8First

/-- 'kinkeeplaw48.LivenessExclusive': WHATEVER THE INPUT: true; the input reads as it did. -/
def livenessExclusiveSpec : ChangeSpec := { name := "livenessExclusive", fn := fun _ => fun
  | [d1, d2, d3] => { results := [.lit (.bool true)], args := [d1, d2, d3] }
  | _ => none }
def livenessExclusiveRow : OpenClaim := { program := "ytndgmcggckpgfaagreatdoor", sum := "281356ff6c085f94f2a0bf682854f3cba950b61f17c1b79c6b3397551649bf7b", func := "kinkeep/kinkeeplaw48.LivenessExclusive", spec := "livenessExclusive", inPlace := ["internal/bytealg.CountString", "internal/bytealg.IndexByteString", "internal/bytealg.IndexString"], unfollowed := true, recurses := true, named := ["unicode/utf8.first", "unicode/utf8.acceptRanges", "internal/bytealg.MaxLen"], maps := true, plainKeys := false, apart := false, laid := [("unicode/utf8.acceptRanges", laid_unicode_utf8_acceptRanges), ("unicode/utf8.first", laid_unicode_utf8_first)] }
def LivenessExclusiveSaid : Prop := livenessExclusiveRow.holds Tryz.pinned (OpenSpec.ofChange livenessExclusiveSpec)

/-- ITS FALSE NEIGHBOUR: 'it returns false'. Refute it at one input. -/
def livenessExclusiveWrong : ChangeSpec := { name := "livenessExclusive", fn := fun _ => fun
  | [d1, d2, d3] => { results := [.lit (.bool false)], args := [d1, d2, d3] }
  | _ => none }
def LivenessExclusiveWrongFalsely : Prop := livenessExclusiveRow.holds Tryz.pinned (OpenSpec.ofChange livenessExclusiveWrong)

/-- 'kinkeeplaw48.LivenessNeeds': WHATEVER THE INPUT: true; the input reads as it did. -/
def livenessNeedsSpec : ChangeSpec := { name := "livenessNeeds", fn := fun _ => fun
  | [d1, d2] => { results := [.lit (.bool true)], args := [d1, d2] }
  | _ => none }
def livenessNeedsRow : OpenClaim := { program := "ytndgmcggckpgfaagreatdoor", sum := "281356ff6c085f94f2a0bf682854f3cba950b61f17c1b79c6b3397551649bf7b", func := "kinkeep/kinkeeplaw48.LivenessNeeds", spec := "livenessNeeds", inPlace := ["internal/bytealg.CountString", "internal/bytealg.IndexByteString", "internal/bytealg.IndexString"], unfollowed := true, recurses := true, named := ["unicode/utf8.first", "unicode/utf8.acceptRanges", "internal/bytealg.MaxLen"], maps := true, plainKeys := false, apart := false, laid := [("unicode/utf8.acceptRanges", laid_unicode_utf8_acceptRanges), ("unicode/utf8.first", laid_unicode_utf8_first)] }
def LivenessNeedsSaid : Prop := livenessNeedsRow.holds Tryz.pinned (OpenSpec.ofChange livenessNeedsSpec)

/-- ITS FALSE NEIGHBOUR: 'it returns false'. Refute it at one input. -/
def livenessNeedsWrong : ChangeSpec := { name := "livenessNeeds", fn := fun _ => fun
  | [d1, d2] => { results := [.lit (.bool false)], args := [d1, d2] }
  | _ => none }
def LivenessNeedsWrongFalsely : Prop := livenessNeedsRow.holds Tryz.pinned (OpenSpec.ofChange livenessNeedsWrong)

/-- 'kinkeeplaw48.LivenessOrphans': WHATEVER THE INPUT: true; the input reads as it did. -/
def livenessOrphansSpec : ChangeSpec := { name := "livenessOrphans", fn := fun _ => fun
  | [d1, d2, d3, d4] => { results := [.lit (.bool true)], args := [d1, d2, d3, d4] }
  | _ => none }
def livenessOrphansRow : OpenClaim := { program := "ytndgmcggckpgfaagreatdoor", sum := "281356ff6c085f94f2a0bf682854f3cba950b61f17c1b79c6b3397551649bf7b", func := "kinkeep/kinkeeplaw48.LivenessOrphans", spec := "livenessOrphans", inPlace := ["internal/bytealg.CountString", "internal/bytealg.IndexByteString", "internal/bytealg.IndexString"], unfollowed := true, recurses := true, named := ["unicode/utf8.first", "unicode/utf8.acceptRanges", "internal/bytealg.MaxLen"], maps := true, plainKeys := false, apart := false, laid := [("unicode/utf8.acceptRanges", laid_unicode_utf8_acceptRanges), ("unicode/utf8.first", laid_unicode_utf8_first)] }
def LivenessOrphansSaid : Prop := livenessOrphansRow.holds Tryz.pinned (OpenSpec.ofChange livenessOrphansSpec)

/-- ITS FALSE NEIGHBOUR: 'it returns false'. Refute it at one input. -/
def livenessOrphansWrong : ChangeSpec := { name := "livenessOrphans", fn := fun _ => fun
  | [d1, d2, d3, d4] => { results := [.lit (.bool false)], args := [d1, d2, d3, d4] }
  | _ => none }
def LivenessOrphansWrongFalsely : Prop := livenessOrphansRow.holds Tryz.pinned (OpenSpec.ofChange livenessOrphansWrong)

/-- 'kinkeeplaw48.LivenessDelta': WHATEVER THE INPUT: true; the input reads as it did. -/
def livenessDeltaSpec : ChangeSpec := { name := "livenessDelta", fn := fun _ => fun
  | [d1, d2, d3] => { results := [.lit (.bool true)], args := [d1, d2, d3] }
  | _ => none }
def livenessDeltaRow : OpenClaim := { program := "ytndgmcggckpgfaagreatdoor", sum := "281356ff6c085f94f2a0bf682854f3cba950b61f17c1b79c6b3397551649bf7b", func := "kinkeep/kinkeeplaw48.LivenessDelta", spec := "livenessDelta", inPlace := ["internal/bytealg.CountString", "internal/bytealg.IndexByteString", "internal/bytealg.IndexString"], unfollowed := true, recurses := true, named := ["unicode/utf8.first", "unicode/utf8.acceptRanges", "internal/bytealg.MaxLen"], maps := true, plainKeys := false, apart := false, laid := [("unicode/utf8.acceptRanges", laid_unicode_utf8_acceptRanges), ("unicode/utf8.first", laid_unicode_utf8_first)] }
def LivenessDeltaSaid : Prop := livenessDeltaRow.holds Tryz.pinned (OpenSpec.ofChange livenessDeltaSpec)

/-- ITS FALSE NEIGHBOUR: 'it returns false'. Refute it at one input. -/
def livenessDeltaWrong : ChangeSpec := { name := "livenessDelta", fn := fun _ => fun
  | [d1, d2, d3] => { results := [.lit (.bool false)], args := [d1, d2, d3] }
  | _ => none }
def LivenessDeltaWrongFalsely : Prop := livenessDeltaRow.holds Tryz.pinned (OpenSpec.ofChange livenessDeltaWrong)

/-- 'kinkeeplaw48.LivenessMissing': WHATEVER THE INPUT: true; the input reads as it did. -/
def livenessMissingSpec : ChangeSpec := { name := "livenessMissing", fn := fun _ => fun
  | [d1, d2] => { results := [.lit (.bool true)], args := [d1, d2] }
  | _ => none }
def livenessMissingRow : OpenClaim := { program := "ytndgmcggckpgfaagreatdoor", sum := "281356ff6c085f94f2a0bf682854f3cba950b61f17c1b79c6b3397551649bf7b", func := "kinkeep/kinkeeplaw48.LivenessMissing", spec := "livenessMissing", inPlace := ["internal/bytealg.CountString", "internal/bytealg.IndexByteString", "internal/bytealg.IndexString"], unfollowed := true, recurses := true, named := ["unicode/utf8.first", "unicode/utf8.acceptRanges", "internal/bytealg.MaxLen"], maps := true, plainKeys := false, apart := false, laid := [("unicode/utf8.acceptRanges", laid_unicode_utf8_acceptRanges), ("unicode/utf8.first", laid_unicode_utf8_first)] }
def LivenessMissingSaid : Prop := livenessMissingRow.holds Tryz.pinned (OpenSpec.ofChange livenessMissingSpec)

/-- ITS FALSE NEIGHBOUR: 'it returns false'. Refute it at one input. -/
def livenessMissingWrong : ChangeSpec := { name := "livenessMissing", fn := fun _ => fun
  | [d1, d2] => { results := [.lit (.bool false)], args := [d1, d2] }
  | _ => none }
def LivenessMissingWrongFalsely : Prop := livenessMissingRow.holds Tryz.pinned (OpenSpec.ofChange livenessMissingWrong)

/- THE SECOND FORM. 'bulk': how many values and letters a reading holds, each counted each time it is reached (what is shared counts as often as it is met; a slice's spare places count too). A statement '..UptoSaid' is the law's where the arguments, and the package variables that the reading takes, are together of bulk at most 1048576: NARROWER than '..Said'. Prove '..Said' where nothing that the law and all that it calls make is longer than what came in: it says more and counts as full. Else prove '..UptoSaid'. A law counts once. -/
mutual
def uptoBulk {H : Type} : DataW H → Nat
  | .lit (.string bytes) => bytes.length + 1
  | .lit _ => 1
  | .nil => 1
  | .ptr d => uptoBulk d + 1
  | .slice elems spare => uptoBulkAll elems + uptoBulkAll spare + 1
  | .agg parts => uptoBulkAll parts + 1
  | .iface _ d => uptoBulk d + 1
  | .map entries => uptoBulkEntries entries + 1
  | .held _ => 1
def uptoBulkAll {H : Type} : List (DataW H) → Nat
  | [] => 0
  | d :: r => uptoBulk d + uptoBulkAll r
def uptoBulkEntries {H : Type} : List (Lit × DataW H) → Nat
  | [] => 0
  | x :: r => uptoBulkEntry x + uptoBulkEntries r
def uptoBulkEntry {H : Type} : Lit × DataW H → Nat
  | (.string bytes, d) => bytes.length + uptoBulk d + 1
  | (_, d) => uptoBulk d + 1
 end
def uptoSmall : (H : Type) → List (DataW H) → Bool := fun _ ds => decide (uptoBulkAll ds ≤ 1048576)
def OpenSpec.upto (s : _root_.Go.ChangeSpec) : _root_.Go.OpenSpec := { _root_.Go.OpenSpec.ofChange s with cond := some uptoSmall }

/-- 'kinkeeplaw48.LivenessExclusive', WHERE WHAT IT READS IS OF BULK AT MOST 1048576: true; the input reads as it did. -/
def livenessExclusiveUptoRow : OpenClaim := { program := "ytndgmcggckpgfaagreatdoor", sum := "281356ff6c085f94f2a0bf682854f3cba950b61f17c1b79c6b3397551649bf7b", func := "kinkeep/kinkeeplaw48.LivenessExclusive", spec := "livenessExclusive", inPlace := ["internal/bytealg.CountString", "internal/bytealg.IndexByteString", "internal/bytealg.IndexString"], unfollowed := true, recurses := true, named := ["unicode/utf8.first", "unicode/utf8.acceptRanges", "internal/bytealg.MaxLen"], maps := true, plainKeys := false, apart := false, laid := [("unicode/utf8.acceptRanges", laid_unicode_utf8_acceptRanges), ("unicode/utf8.first", laid_unicode_utf8_first)], narrowed := true }
def LivenessExclusiveUptoSaid : Prop := livenessExclusiveUptoRow.holds Tryz.pinned (OpenSpec.upto livenessExclusiveSpec)

/-- 'kinkeeplaw48.LivenessNeeds', WHERE WHAT IT READS IS OF BULK AT MOST 1048576: true; the input reads as it did. -/
def livenessNeedsUptoRow : OpenClaim := { program := "ytndgmcggckpgfaagreatdoor", sum := "281356ff6c085f94f2a0bf682854f3cba950b61f17c1b79c6b3397551649bf7b", func := "kinkeep/kinkeeplaw48.LivenessNeeds", spec := "livenessNeeds", inPlace := ["internal/bytealg.CountString", "internal/bytealg.IndexByteString", "internal/bytealg.IndexString"], unfollowed := true, recurses := true, named := ["unicode/utf8.first", "unicode/utf8.acceptRanges", "internal/bytealg.MaxLen"], maps := true, plainKeys := false, apart := false, laid := [("unicode/utf8.acceptRanges", laid_unicode_utf8_acceptRanges), ("unicode/utf8.first", laid_unicode_utf8_first)], narrowed := true }
def LivenessNeedsUptoSaid : Prop := livenessNeedsUptoRow.holds Tryz.pinned (OpenSpec.upto livenessNeedsSpec)

/-- 'kinkeeplaw48.LivenessOrphans', WHERE WHAT IT READS IS OF BULK AT MOST 1048576: true; the input reads as it did. -/
def livenessOrphansUptoRow : OpenClaim := { program := "ytndgmcggckpgfaagreatdoor", sum := "281356ff6c085f94f2a0bf682854f3cba950b61f17c1b79c6b3397551649bf7b", func := "kinkeep/kinkeeplaw48.LivenessOrphans", spec := "livenessOrphans", inPlace := ["internal/bytealg.CountString", "internal/bytealg.IndexByteString", "internal/bytealg.IndexString"], unfollowed := true, recurses := true, named := ["unicode/utf8.first", "unicode/utf8.acceptRanges", "internal/bytealg.MaxLen"], maps := true, plainKeys := false, apart := false, laid := [("unicode/utf8.acceptRanges", laid_unicode_utf8_acceptRanges), ("unicode/utf8.first", laid_unicode_utf8_first)], narrowed := true }
def LivenessOrphansUptoSaid : Prop := livenessOrphansUptoRow.holds Tryz.pinned (OpenSpec.upto livenessOrphansSpec)

/-- 'kinkeeplaw48.LivenessDelta', WHERE WHAT IT READS IS OF BULK AT MOST 1048576: true; the input reads as it did. -/
def livenessDeltaUptoRow : OpenClaim := { program := "ytndgmcggckpgfaagreatdoor", sum := "281356ff6c085f94f2a0bf682854f3cba950b61f17c1b79c6b3397551649bf7b", func := "kinkeep/kinkeeplaw48.LivenessDelta", spec := "livenessDelta", inPlace := ["internal/bytealg.CountString", "internal/bytealg.IndexByteString", "internal/bytealg.IndexString"], unfollowed := true, recurses := true, named := ["unicode/utf8.first", "unicode/utf8.acceptRanges", "internal/bytealg.MaxLen"], maps := true, plainKeys := false, apart := false, laid := [("unicode/utf8.acceptRanges", laid_unicode_utf8_acceptRanges), ("unicode/utf8.first", laid_unicode_utf8_first)], narrowed := true }
def LivenessDeltaUptoSaid : Prop := livenessDeltaUptoRow.holds Tryz.pinned (OpenSpec.upto livenessDeltaSpec)

/-- 'kinkeeplaw48.LivenessMissing', WHERE WHAT IT READS IS OF BULK AT MOST 1048576: true; the input reads as it did. -/
def livenessMissingUptoRow : OpenClaim := { program := "ytndgmcggckpgfaagreatdoor", sum := "281356ff6c085f94f2a0bf682854f3cba950b61f17c1b79c6b3397551649bf7b", func := "kinkeep/kinkeeplaw48.LivenessMissing", spec := "livenessMissing", inPlace := ["internal/bytealg.CountString", "internal/bytealg.IndexByteString", "internal/bytealg.IndexString"], unfollowed := true, recurses := true, named := ["unicode/utf8.first", "unicode/utf8.acceptRanges", "internal/bytealg.MaxLen"], maps := true, plainKeys := false, apart := false, laid := [("unicode/utf8.acceptRanges", laid_unicode_utf8_acceptRanges), ("unicode/utf8.first", laid_unicode_utf8_first)], narrowed := true }
def LivenessMissingUptoSaid : Prop := livenessMissingUptoRow.holds Tryz.pinned (OpenSpec.upto livenessMissingSpec)

end Rows
end Go.Proofs.YtndgmcggckpgfaaGreatDoor
