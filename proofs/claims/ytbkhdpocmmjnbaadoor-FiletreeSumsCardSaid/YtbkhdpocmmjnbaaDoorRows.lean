/-
  NARROWER THAN 'FOR EVERY INPUT', by the rows' own cells (each row's printed sentence says how): FiletreeChecks: laid · FiletreePuts: laid · FiletreeRemoves: laid · FiletreeSums: laid · FiletreeMoves: laid · FiletreeStays: laid · FiletreeOwns: laid.
  DERIVED. THE GIVEN ROWS OF THIS SEAT. 7 by the template 'for every input the law returns true; each argument reads behind the call as it read before'; 0 by the template 'total and deterministic' (their statements: YtbkhdpocmmjnbaaDoorTotals.lean).
  GIVEN WITH THE SEED: the statements are not yours to turn. If you find one false, say at which input.
  Laid BY PROGRAM, IN A SANDBOX (cutbox-rows.mjs): the forced cells as the released guide's own fill.sh prints them over the translation 38e21dba3b99884d… (all of the seat's roots in one cut). By AI agents, Wed Nov 11 2026. No macro, syntax, notation, axiom, sorry.
-/
import Derived.Test.YtbkhdpocmmjnbaaDoorChecked
import GoSem.PinnedTables
import GoSem.Claim
import GoSem.ClaimJoined
import GoSem.ClaimMapViews
import Derived.JoinedTies
import Derived.KernelRfl
namespace Go.Proofs.YtbkhdpocmmjnbaaDoor
/- THE CELL 'sum', in the pinned program and in every row, IS THE sha256 OF THE DUMP (.gsa) THAT YtbkhdpocmmjnbaaDoorProg.lean LOADS. Nothing in Lean hashes anything: it is a label: what it is worth is what the hold of that sum in a sandbox is worth. -/
noncomputable def Tryd.pinned : Pinned := { name := "ytbkhdpocmmjnbaadoor", sum := "38e21dba3b99884dbb36267012d53fd59a89d63b1f3bc3e968a9265f64f6b6e1", checked := Tryd.checked }
namespace Rows
def none {H : Type} : Left H := { results := [], args := [] }

/- WHAT THE LISTED PACKAGE-LEVEL VARIABLES READ AS WHEN THE CALL BEGINS. Each datum BY PROGRAM (the guide's laid-datum.mjs) off the statement by which the dump's own 'gosem.cut.vars' lays the variable. In a bare row this is a premise. The card (YtbkhdpocmmjnbaaDoorCards.lean) ties it to the program's text. -/
def laid_unicode_utf8_acceptRanges {H : Type} : DataW H := .agg [.agg [.lit (.int .u8 128), .lit (.int .u8 191)], .agg [.lit (.int .u8 160), .lit (.int .u8 191)], .agg [.lit (.int .u8 128), .lit (.int .u8 159)], .agg [.lit (.int .u8 144), .lit (.int .u8 191)], .agg [.lit (.int .u8 128), .lit (.int .u8 143)], .agg [.lit (.int .u8 0), .lit (.int .u8 0)], .agg [.lit (.int .u8 0), .lit (.int .u8 0)], .agg [.lit (.int .u8 0), .lit (.int .u8 0)], .agg [.lit (.int .u8 0), .lit (.int .u8 0)], .agg [.lit (.int .u8 0), .lit (.int .u8 0)], .agg [.lit (.int .u8 0), .lit (.int .u8 0)], .agg [.lit (.int .u8 0), .lit (.int .u8 0)], .agg [.lit (.int .u8 0), .lit (.int .u8 0)], .agg [.lit (.int .u8 0), .lit (.int .u8 0)], .agg [.lit (.int .u8 0), .lit (.int .u8 0)], .agg [.lit (.int .u8 0), .lit (.int .u8 0)]]
/-- One of Go's own tables, pinned by name: the form's constant. -/
def laid_unicode_utf8_first : DataW Unit := Go.Pinned.utf8First

/-- 'kinkeeplaw20.FiletreeChecks': WHATEVER THE INPUT: true; the input reads as it did. -/
def filetreeChecksSpec : ChangeSpec := { name := "filetreeChecks", fn := fun _ => fun
  | [d] => { results := [.lit (.bool true)], args := [d] }
  | _ => none }
def filetreeChecksRow : OpenClaim := { program := "ytbkhdpocmmjnbaadoor", sum := "38e21dba3b99884dbb36267012d53fd59a89d63b1f3bc3e968a9265f64f6b6e1", func := "kinkeep/kinkeeplaw20.FiletreeChecks", spec := "filetreeChecks", inPlace := ["internal/bytealg.CountString", "internal/bytealg.IndexByteString", "internal/bytealg.IndexString"], unfollowed := true, recurses := true, named := ["unicode/utf8.first", "unicode/utf8.acceptRanges", "internal/bytealg.MaxLen"], apart := false, laid := [("unicode/utf8.acceptRanges", laid_unicode_utf8_acceptRanges), ("unicode/utf8.first", laid_unicode_utf8_first)] }
def FiletreeChecksSaid : Prop := filetreeChecksRow.holds Tryd.pinned (OpenSpec.ofChange filetreeChecksSpec)

/-- ITS FALSE NEIGHBOUR: 'it returns false'. Refute it at one input. -/
def filetreeChecksWrong : ChangeSpec := { name := "filetreeChecks", fn := fun _ => fun
  | [d] => { results := [.lit (.bool false)], args := [d] }
  | _ => none }
def FiletreeChecksWrongFalsely : Prop := filetreeChecksRow.holds Tryd.pinned (OpenSpec.ofChange filetreeChecksWrong)

/-- 'kinkeeplaw20.FiletreePuts': WHATEVER THE INPUT: true; the input reads as it did. -/
def filetreePutsSpec : ChangeSpec := { name := "filetreePuts", fn := fun _ => fun
  | [d1, d2, d3] => { results := [.lit (.bool true)], args := [d1, d2, d3] }
  | _ => none }
def filetreePutsRow : OpenClaim := { program := "ytbkhdpocmmjnbaadoor", sum := "38e21dba3b99884dbb36267012d53fd59a89d63b1f3bc3e968a9265f64f6b6e1", func := "kinkeep/kinkeeplaw20.FiletreePuts", spec := "filetreePuts", inPlace := ["internal/bytealg.CountString", "internal/bytealg.IndexByteString", "internal/bytealg.IndexString"], unfollowed := true, recurses := true, named := ["unicode/utf8.first", "unicode/utf8.acceptRanges", "internal/bytealg.MaxLen"], apart := false, laid := [("unicode/utf8.acceptRanges", laid_unicode_utf8_acceptRanges), ("unicode/utf8.first", laid_unicode_utf8_first)] }
def FiletreePutsSaid : Prop := filetreePutsRow.holds Tryd.pinned (OpenSpec.ofChange filetreePutsSpec)

/-- ITS FALSE NEIGHBOUR: 'it returns false'. Refute it at one input. -/
def filetreePutsWrong : ChangeSpec := { name := "filetreePuts", fn := fun _ => fun
  | [d1, d2, d3] => { results := [.lit (.bool false)], args := [d1, d2, d3] }
  | _ => none }
def FiletreePutsWrongFalsely : Prop := filetreePutsRow.holds Tryd.pinned (OpenSpec.ofChange filetreePutsWrong)

/-- 'kinkeeplaw20.FiletreeRemoves': WHATEVER THE INPUT: true; the input reads as it did. -/
def filetreeRemovesSpec : ChangeSpec := { name := "filetreeRemoves", fn := fun _ => fun
  | [d1, d2, d3] => { results := [.lit (.bool true)], args := [d1, d2, d3] }
  | _ => none }
def filetreeRemovesRow : OpenClaim := { program := "ytbkhdpocmmjnbaadoor", sum := "38e21dba3b99884dbb36267012d53fd59a89d63b1f3bc3e968a9265f64f6b6e1", func := "kinkeep/kinkeeplaw20.FiletreeRemoves", spec := "filetreeRemoves", inPlace := ["internal/bytealg.CountString", "internal/bytealg.IndexByteString", "internal/bytealg.IndexString"], unfollowed := true, recurses := true, named := ["unicode/utf8.first", "unicode/utf8.acceptRanges", "internal/bytealg.MaxLen"], apart := false, laid := [("unicode/utf8.acceptRanges", laid_unicode_utf8_acceptRanges), ("unicode/utf8.first", laid_unicode_utf8_first)] }
def FiletreeRemovesSaid : Prop := filetreeRemovesRow.holds Tryd.pinned (OpenSpec.ofChange filetreeRemovesSpec)

/-- ITS FALSE NEIGHBOUR: 'it returns false'. Refute it at one input. -/
def filetreeRemovesWrong : ChangeSpec := { name := "filetreeRemoves", fn := fun _ => fun
  | [d1, d2, d3] => { results := [.lit (.bool false)], args := [d1, d2, d3] }
  | _ => none }
def FiletreeRemovesWrongFalsely : Prop := filetreeRemovesRow.holds Tryd.pinned (OpenSpec.ofChange filetreeRemovesWrong)

/-- 'kinkeeplaw20.FiletreeSums': WHATEVER THE INPUT: true; the input reads as it did. -/
def filetreeSumsSpec : ChangeSpec := { name := "filetreeSums", fn := fun _ => fun
  | [d1, d2] => { results := [.lit (.bool true)], args := [d1, d2] }
  | _ => none }
def filetreeSumsRow : OpenClaim := { program := "ytbkhdpocmmjnbaadoor", sum := "38e21dba3b99884dbb36267012d53fd59a89d63b1f3bc3e968a9265f64f6b6e1", func := "kinkeep/kinkeeplaw20.FiletreeSums", spec := "filetreeSums", inPlace := ["internal/bytealg.CountString", "internal/bytealg.IndexByteString", "internal/bytealg.IndexString"], unfollowed := true, recurses := true, named := ["unicode/utf8.first", "unicode/utf8.acceptRanges", "internal/bytealg.MaxLen"], apart := false, laid := [("unicode/utf8.acceptRanges", laid_unicode_utf8_acceptRanges), ("unicode/utf8.first", laid_unicode_utf8_first)] }
def FiletreeSumsSaid : Prop := filetreeSumsRow.holds Tryd.pinned (OpenSpec.ofChange filetreeSumsSpec)

/-- ITS FALSE NEIGHBOUR: 'it returns false'. Refute it at one input. -/
def filetreeSumsWrong : ChangeSpec := { name := "filetreeSums", fn := fun _ => fun
  | [d1, d2] => { results := [.lit (.bool false)], args := [d1, d2] }
  | _ => none }
def FiletreeSumsWrongFalsely : Prop := filetreeSumsRow.holds Tryd.pinned (OpenSpec.ofChange filetreeSumsWrong)

/-- 'kinkeeplaw20.FiletreeMoves': WHATEVER THE INPUT: true; the input reads as it did. -/
def filetreeMovesSpec : ChangeSpec := { name := "filetreeMoves", fn := fun _ => fun
  | [d1, d2, d3] => { results := [.lit (.bool true)], args := [d1, d2, d3] }
  | _ => none }
def filetreeMovesRow : OpenClaim := { program := "ytbkhdpocmmjnbaadoor", sum := "38e21dba3b99884dbb36267012d53fd59a89d63b1f3bc3e968a9265f64f6b6e1", func := "kinkeep/kinkeeplaw20.FiletreeMoves", spec := "filetreeMoves", inPlace := ["internal/bytealg.CountString", "internal/bytealg.IndexByteString", "internal/bytealg.IndexString"], unfollowed := true, recurses := true, named := ["unicode/utf8.first", "unicode/utf8.acceptRanges", "internal/bytealg.MaxLen"], apart := false, laid := [("unicode/utf8.acceptRanges", laid_unicode_utf8_acceptRanges), ("unicode/utf8.first", laid_unicode_utf8_first)] }
def FiletreeMovesSaid : Prop := filetreeMovesRow.holds Tryd.pinned (OpenSpec.ofChange filetreeMovesSpec)

/-- ITS FALSE NEIGHBOUR: 'it returns false'. Refute it at one input. -/
def filetreeMovesWrong : ChangeSpec := { name := "filetreeMoves", fn := fun _ => fun
  | [d1, d2, d3] => { results := [.lit (.bool false)], args := [d1, d2, d3] }
  | _ => none }
def FiletreeMovesWrongFalsely : Prop := filetreeMovesRow.holds Tryd.pinned (OpenSpec.ofChange filetreeMovesWrong)

/-- 'kinkeeplaw20.FiletreeStays': WHATEVER THE INPUT: true; the input reads as it did. -/
def filetreeStaysSpec : ChangeSpec := { name := "filetreeStays", fn := fun _ => fun
  | [d] => { results := [.lit (.bool true)], args := [d] }
  | _ => none }
def filetreeStaysRow : OpenClaim := { program := "ytbkhdpocmmjnbaadoor", sum := "38e21dba3b99884dbb36267012d53fd59a89d63b1f3bc3e968a9265f64f6b6e1", func := "kinkeep/kinkeeplaw20.FiletreeStays", spec := "filetreeStays", inPlace := ["internal/bytealg.CountString", "internal/bytealg.IndexByteString", "internal/bytealg.IndexString"], unfollowed := true, recurses := true, named := ["unicode/utf8.first", "unicode/utf8.acceptRanges", "internal/bytealg.MaxLen"], apart := false, laid := [("unicode/utf8.acceptRanges", laid_unicode_utf8_acceptRanges), ("unicode/utf8.first", laid_unicode_utf8_first)] }
def FiletreeStaysSaid : Prop := filetreeStaysRow.holds Tryd.pinned (OpenSpec.ofChange filetreeStaysSpec)

/-- ITS FALSE NEIGHBOUR: 'it returns false'. Refute it at one input. -/
def filetreeStaysWrong : ChangeSpec := { name := "filetreeStays", fn := fun _ => fun
  | [d] => { results := [.lit (.bool false)], args := [d] }
  | _ => none }
def FiletreeStaysWrongFalsely : Prop := filetreeStaysRow.holds Tryd.pinned (OpenSpec.ofChange filetreeStaysWrong)

/-- 'kinkeeplaw20.FiletreeOwns': WHATEVER THE INPUT: true; the input reads as it did. -/
def filetreeOwnsSpec : ChangeSpec := { name := "filetreeOwns", fn := fun _ => fun
  | [d1, d2] => { results := [.lit (.bool true)], args := [d1, d2] }
  | _ => none }
def filetreeOwnsRow : OpenClaim := { program := "ytbkhdpocmmjnbaadoor", sum := "38e21dba3b99884dbb36267012d53fd59a89d63b1f3bc3e968a9265f64f6b6e1", func := "kinkeep/kinkeeplaw20.FiletreeOwns", spec := "filetreeOwns", inPlace := ["internal/bytealg.CountString", "internal/bytealg.IndexByteString", "internal/bytealg.IndexString"], unfollowed := true, recurses := true, named := ["unicode/utf8.first", "unicode/utf8.acceptRanges", "internal/bytealg.MaxLen"], apart := false, laid := [("unicode/utf8.acceptRanges", laid_unicode_utf8_acceptRanges), ("unicode/utf8.first", laid_unicode_utf8_first)] }
def FiletreeOwnsSaid : Prop := filetreeOwnsRow.holds Tryd.pinned (OpenSpec.ofChange filetreeOwnsSpec)

/-- ITS FALSE NEIGHBOUR: 'it returns false'. Refute it at one input. -/
def filetreeOwnsWrong : ChangeSpec := { name := "filetreeOwns", fn := fun _ => fun
  | [d1, d2] => { results := [.lit (.bool false)], args := [d1, d2] }
  | _ => none }
def FiletreeOwnsWrongFalsely : Prop := filetreeOwnsRow.holds Tryd.pinned (OpenSpec.ofChange filetreeOwnsWrong)

/- THE SECOND FORM. 'bulk': how many values and letters a reading holds, each counted each time it is reached (what is shared counts as often as it is met; a slice's spare places count too). A statement '..UptoSaid' is the law's where the arguments, and the package variables that the reading takes, are together of bulk at most 1048576: NARROWER than '..Said'. Prove '..Said' where nothing that the law and all that it calls make is longer than what came in: it says more and counts as full. Else prove '..UptoSaid'. A law counts once. -/
mutual
def uptoBulk {H : Type} : DataW H → Nat
  | .lit (.string bytes) => bytes.length + 1
  | .lit _ => 1
  | .nil => 1
  | .ptr d => uptoBulk d + 1
  | .slice elems spare => uptoBulkAll elems + uptoBulkAll spare + 1
  | .agg parts => uptoBulkAll parts + 1
  | .iface _ d => uptoBulk d + 1
  | .map entries => uptoBulkEntries entries + 1
  | .held _ => 1
def uptoBulkAll {H : Type} : List (DataW H) → Nat
  | [] => 0
  | d :: r => uptoBulk d + uptoBulkAll r
def uptoBulkEntries {H : Type} : List (Lit × DataW H) → Nat
  | [] => 0
  | x :: r => uptoBulkEntry x + uptoBulkEntries r
def uptoBulkEntry {H : Type} : Lit × DataW H → Nat
  | (.string bytes, d) => bytes.length + uptoBulk d + 1
  | (_, d) => uptoBulk d + 1
 end
def uptoSmall : (H : Type) → List (DataW H) → Bool := fun _ ds => decide (uptoBulkAll ds ≤ 1048576)
def OpenSpec.upto (s : _root_.Go.ChangeSpec) : _root_.Go.OpenSpec := { _root_.Go.OpenSpec.ofChange s with cond := some uptoSmall }

/-- 'kinkeeplaw20.FiletreeChecks', WHERE WHAT IT READS IS OF BULK AT MOST 1048576: true; the input reads as it did. -/
def filetreeChecksUptoRow : OpenClaim := { program := "ytbkhdpocmmjnbaadoor", sum := "38e21dba3b99884dbb36267012d53fd59a89d63b1f3bc3e968a9265f64f6b6e1", func := "kinkeep/kinkeeplaw20.FiletreeChecks", spec := "filetreeChecks", inPlace := ["internal/bytealg.CountString", "internal/bytealg.IndexByteString", "internal/bytealg.IndexString"], unfollowed := true, recurses := true, named := ["unicode/utf8.first", "unicode/utf8.acceptRanges", "internal/bytealg.MaxLen"], apart := false, laid := [("unicode/utf8.acceptRanges", laid_unicode_utf8_acceptRanges), ("unicode/utf8.first", laid_unicode_utf8_first)], narrowed := true }
def FiletreeChecksUptoSaid : Prop := filetreeChecksUptoRow.holds Tryd.pinned (OpenSpec.upto filetreeChecksSpec)

/-- 'kinkeeplaw20.FiletreePuts', WHERE WHAT IT READS IS OF BULK AT MOST 1048576: true; the input reads as it did. -/
def filetreePutsUptoRow : OpenClaim := { program := "ytbkhdpocmmjnbaadoor", sum := "38e21dba3b99884dbb36267012d53fd59a89d63b1f3bc3e968a9265f64f6b6e1", func := "kinkeep/kinkeeplaw20.FiletreePuts", spec := "filetreePuts", inPlace := ["internal/bytealg.CountString", "internal/bytealg.IndexByteString", "internal/bytealg.IndexString"], unfollowed := true, recurses := true, named := ["unicode/utf8.first", "unicode/utf8.acceptRanges", "internal/bytealg.MaxLen"], apart := false, laid := [("unicode/utf8.acceptRanges", laid_unicode_utf8_acceptRanges), ("unicode/utf8.first", laid_unicode_utf8_first)], narrowed := true }
def FiletreePutsUptoSaid : Prop := filetreePutsUptoRow.holds Tryd.pinned (OpenSpec.upto filetreePutsSpec)

/-- 'kinkeeplaw20.FiletreeRemoves', WHERE WHAT IT READS IS OF BULK AT MOST 1048576: true; the input reads as it did. -/
def filetreeRemovesUptoRow : OpenClaim := { program := "ytbkhdpocmmjnbaadoor", sum := "38e21dba3b99884dbb36267012d53fd59a89d63b1f3bc3e968a9265f64f6b6e1", func := "kinkeep/kinkeeplaw20.FiletreeRemoves", spec := "filetreeRemoves", inPlace := ["internal/bytealg.CountString", "internal/bytealg.IndexByteString", "internal/bytealg.IndexString"], unfollowed := true, recurses := true, named := ["unicode/utf8.first", "unicode/utf8.acceptRanges", "internal/bytealg.MaxLen"], apart := false, laid := [("unicode/utf8.acceptRanges", laid_unicode_utf8_acceptRanges), ("unicode/utf8.first", laid_unicode_utf8_first)], narrowed := true }
def FiletreeRemovesUptoSaid : Prop := filetreeRemovesUptoRow.holds Tryd.pinned (OpenSpec.upto filetreeRemovesSpec)

/-- 'kinkeeplaw20.FiletreeSums', WHERE WHAT IT READS IS OF BULK AT MOST 1048576: true; the input reads as it did. -/
def filetreeSumsUptoRow : OpenClaim := { program := "ytbkhdpocmmjnbaadoor", sum := "38e21dba3b99884dbb36267012d53fd59a89d63b1f3bc3e968a9265f64f6b6e1", func := "kinkeep/kinkeeplaw20.FiletreeSums", spec := "filetreeSums", inPlace := ["internal/bytealg.CountString", "internal/bytealg.IndexByteString", "internal/bytealg.IndexString"], unfollowed := true, recurses := true, named := ["unicode/utf8.first", "unicode/utf8.acceptRanges", "internal/bytealg.MaxLen"], apart := false, laid := [("unicode/utf8.acceptRanges", laid_unicode_utf8_acceptRanges), ("unicode/utf8.first", laid_unicode_utf8_first)], narrowed := true }
def FiletreeSumsUptoSaid : Prop := filetreeSumsUptoRow.holds Tryd.pinned (OpenSpec.upto filetreeSumsSpec)

/-- 'kinkeeplaw20.FiletreeMoves', WHERE WHAT IT READS IS OF BULK AT MOST 1048576: true; the input reads as it did. -/
def filetreeMovesUptoRow : OpenClaim := { program := "ytbkhdpocmmjnbaadoor", sum := "38e21dba3b99884dbb36267012d53fd59a89d63b1f3bc3e968a9265f64f6b6e1", func := "kinkeep/kinkeeplaw20.FiletreeMoves", spec := "filetreeMoves", inPlace := ["internal/bytealg.CountString", "internal/bytealg.IndexByteString", "internal/bytealg.IndexString"], unfollowed := true, recurses := true, named := ["unicode/utf8.first", "unicode/utf8.acceptRanges", "internal/bytealg.MaxLen"], apart := false, laid := [("unicode/utf8.acceptRanges", laid_unicode_utf8_acceptRanges), ("unicode/utf8.first", laid_unicode_utf8_first)], narrowed := true }
def FiletreeMovesUptoSaid : Prop := filetreeMovesUptoRow.holds Tryd.pinned (OpenSpec.upto filetreeMovesSpec)

/-- 'kinkeeplaw20.FiletreeStays', WHERE WHAT IT READS IS OF BULK AT MOST 1048576: true; the input reads as it did. -/
def filetreeStaysUptoRow : OpenClaim := { program := "ytbkhdpocmmjnbaadoor", sum := "38e21dba3b99884dbb36267012d53fd59a89d63b1f3bc3e968a9265f64f6b6e1", func := "kinkeep/kinkeeplaw20.FiletreeStays", spec := "filetreeStays", inPlace := ["internal/bytealg.CountString", "internal/bytealg.IndexByteString", "internal/bytealg.IndexString"], unfollowed := true, recurses := true, named := ["unicode/utf8.first", "unicode/utf8.acceptRanges", "internal/bytealg.MaxLen"], apart := false, laid := [("unicode/utf8.acceptRanges", laid_unicode_utf8_acceptRanges), ("unicode/utf8.first", laid_unicode_utf8_first)], narrowed := true }
def FiletreeStaysUptoSaid : Prop := filetreeStaysUptoRow.holds Tryd.pinned (OpenSpec.upto filetreeStaysSpec)

/-- 'kinkeeplaw20.FiletreeOwns', WHERE WHAT IT READS IS OF BULK AT MOST 1048576: true; the input reads as it did. -/
def filetreeOwnsUptoRow : OpenClaim := { program := "ytbkhdpocmmjnbaadoor", sum := "38e21dba3b99884dbb36267012d53fd59a89d63b1f3bc3e968a9265f64f6b6e1", func := "kinkeep/kinkeeplaw20.FiletreeOwns", spec := "filetreeOwns", inPlace := ["internal/bytealg.CountString", "internal/bytealg.IndexByteString", "internal/bytealg.IndexString"], unfollowed := true, recurses := true, named := ["unicode/utf8.first", "unicode/utf8.acceptRanges", "internal/bytealg.MaxLen"], apart := false, laid := [("unicode/utf8.acceptRanges", laid_unicode_utf8_acceptRanges), ("unicode/utf8.first", laid_unicode_utf8_first)], narrowed := true }
def FiletreeOwnsUptoSaid : Prop := filetreeOwnsUptoRow.holds Tryd.pinned (OpenSpec.upto filetreeOwnsSpec)

end Rows
end Go.Proofs.YtbkhdpocmmjnbaaDoor
