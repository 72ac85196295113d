/-
  NARROWER THAN 'FOR EVERY INPUT', by the rows' own cells (each row's printed sentence says how): ScannerValid: laid · ScannerQuiet: laid · ScannerFresh: laid · ScannerChanges: laid · ScannerDecodes: laid · ScannerEncodes: laid · ScannerContents: laid.
  DERIVED. THE GIVEN ROWS OF THIS SEAT. 7 by the template 'for every input the law returns true; each argument reads behind the call as it read before'; 0 by the template 'total and deterministic' (their statements: YtnjkpcalgoefhaaGreatDoorTotals.lean).
  GIVEN WITH THE SEED: the statements are not yours to turn. If you find one false, say at which input.
  Laid BY PROGRAM, IN A SANDBOX (cutbox-rows.mjs): the forced cells as the released guide's own fill.sh prints them over the translation 90f2fa72763b84da… (all of the seat's roots in one cut). By AI agents, Wed Nov 11 2026. No macro, syntax, notation, axiom, sorry.
-/
import Derived.Test.YtnjkpcalgoefhaaGreatDoorChecked
import GoSem.PinnedTables
import GoSem.Claim
import GoSem.ClaimJoined
import GoSem.ClaimMapViews
import Derived.JoinedTies
import Derived.KernelRfl
namespace Go.Proofs.YtnjkpcalgoefhaaGreatDoor
/- THE CELL 'sum', in the pinned program and in every row, IS THE sha256 OF THE DUMP (.gsa) THAT YtnjkpcalgoefhaaGreatDoorProg.lean LOADS. Nothing in Lean hashes anything: it is a label: what it is worth is what the hold of that sum in a sandbox is worth. -/
noncomputable def Tryz.pinned : Pinned := { name := "ytnjkpcalgoefhaagreatdoor", sum := "90f2fa72763b84da240d9c9b074373108c1af390816cbf6177b9b6b2c9543010", checked := Tryz.checked }
namespace Rows
def none {H : Type} : Left H := { results := [], args := [] }

/- WHAT THE LISTED PACKAGE-LEVEL VARIABLES READ AS WHEN THE CALL BEGINS. Each datum BY PROGRAM (the guide's laid-datum.mjs) off the statement by which the dump's own 'gosem.cut.vars' lays the variable. In a bare row this is a premise. The card (YtnjkpcalgoefhaaGreatDoorCards.lean) ties it to the program's text. -/
def laid_math_bits_deBruijn64tab {H : Type} : DataW H := .agg [.lit (.int .u8 0), .lit (.int .u8 1), .lit (.int .u8 56), .lit (.int .u8 2), .lit (.int .u8 57), .lit (.int .u8 49), .lit (.int .u8 28), .lit (.int .u8 3), .lit (.int .u8 61), .lit (.int .u8 58), .lit (.int .u8 42), .lit (.int .u8 50), .lit (.int .u8 38), .lit (.int .u8 29), .lit (.int .u8 17), .lit (.int .u8 4), .lit (.int .u8 62), .lit (.int .u8 47), .lit (.int .u8 59), .lit (.int .u8 36), .lit (.int .u8 45), .lit (.int .u8 43), .lit (.int .u8 51), .lit (.int .u8 22), .lit (.int .u8 53), .lit (.int .u8 39), .lit (.int .u8 33), .lit (.int .u8 30), .lit (.int .u8 24), .lit (.int .u8 18), .lit (.int .u8 12), .lit (.int .u8 5), .lit (.int .u8 63), .lit (.int .u8 55), .lit (.int .u8 48), .lit (.int .u8 27), .lit (.int .u8 60), .lit (.int .u8 41), .lit (.int .u8 37), .lit (.int .u8 16), .lit (.int .u8 46), .lit (.int .u8 35), .lit (.int .u8 44), .lit (.int .u8 21), .lit (.int .u8 52), .lit (.int .u8 32), .lit (.int .u8 23), .lit (.int .u8 11), .lit (.int .u8 54), .lit (.int .u8 26), .lit (.int .u8 40), .lit (.int .u8 15), .lit (.int .u8 34), .lit (.int .u8 20), .lit (.int .u8 31), .lit (.int .u8 10), .lit (.int .u8 25), .lit (.int .u8 14), .lit (.int .u8 19), .lit (.int .u8 9), .lit (.int .u8 13), .lit (.int .u8 8), .lit (.int .u8 7), .lit (.int .u8 6)]
def laid_kinkeep_sha256_initial {H : Type} : DataW H := .agg [.lit (.int .u32 1779033703), .lit (.int .u32 3144134277), .lit (.int .u32 1013904242), .lit (.int .u32 2773480762), .lit (.int .u32 1359893119), .lit (.int .u32 2600822924), .lit (.int .u32 528734635), .lit (.int .u32 1541459225)]
def laid_kinkeep_sha256_constants {H : Type} : DataW H := .agg [.lit (.int .u32 1116352408), .lit (.int .u32 1899447441), .lit (.int .u32 3049323471), .lit (.int .u32 3921009573), .lit (.int .u32 961987163), .lit (.int .u32 1508970993), .lit (.int .u32 2453635748), .lit (.int .u32 2870763221), .lit (.int .u32 3624381080), .lit (.int .u32 310598401), .lit (.int .u32 607225278), .lit (.int .u32 1426881987), .lit (.int .u32 1925078388), .lit (.int .u32 2162078206), .lit (.int .u32 2614888103), .lit (.int .u32 3248222580), .lit (.int .u32 3835390401), .lit (.int .u32 4022224774), .lit (.int .u32 264347078), .lit (.int .u32 604807628), .lit (.int .u32 770255983), .lit (.int .u32 1249150122), .lit (.int .u32 1555081692), .lit (.int .u32 1996064986), .lit (.int .u32 2554220882), .lit (.int .u32 2821834349), .lit (.int .u32 2952996808), .lit (.int .u32 3210313671), .lit (.int .u32 3336571891), .lit (.int .u32 3584528711), .lit (.int .u32 113926993), .lit (.int .u32 338241895), .lit (.int .u32 666307205), .lit (.int .u32 773529912), .lit (.int .u32 1294757372), .lit (.int .u32 1396182291), .lit (.int .u32 1695183700), .lit (.int .u32 1986661051), .lit (.int .u32 2177026350), .lit (.int .u32 2456956037), .lit (.int .u32 2730485921), .lit (.int .u32 2820302411), .lit (.int .u32 3259730800), .lit (.int .u32 3345764771), .lit (.int .u32 3516065817), .lit (.int .u32 3600352804), .lit (.int .u32 4094571909), .lit (.int .u32 275423344), .lit (.int .u32 430227734), .lit (.int .u32 506948616), .lit (.int .u32 659060556), .lit (.int .u32 883997877), .lit (.int .u32 958139571), .lit (.int .u32 1322822218), .lit (.int .u32 1537002063), .lit (.int .u32 1747873779), .lit (.int .u32 1955562222), .lit (.int .u32 2024104815), .lit (.int .u32 2227730452), .lit (.int .u32 2361852424), .lit (.int .u32 2428436474), .lit (.int .u32 2756734187), .lit (.int .u32 3204031479), .lit (.int .u32 3329325298)]
def laid_unicode_utf8_acceptRanges {H : Type} : DataW H := .agg [.agg [.lit (.int .u8 128), .lit (.int .u8 191)], .agg [.lit (.int .u8 160), .lit (.int .u8 191)], .agg [.lit (.int .u8 128), .lit (.int .u8 159)], .agg [.lit (.int .u8 144), .lit (.int .u8 191)], .agg [.lit (.int .u8 128), .lit (.int .u8 143)], .agg [.lit (.int .u8 0), .lit (.int .u8 0)], .agg [.lit (.int .u8 0), .lit (.int .u8 0)], .agg [.lit (.int .u8 0), .lit (.int .u8 0)], .agg [.lit (.int .u8 0), .lit (.int .u8 0)], .agg [.lit (.int .u8 0), .lit (.int .u8 0)], .agg [.lit (.int .u8 0), .lit (.int .u8 0)], .agg [.lit (.int .u8 0), .lit (.int .u8 0)], .agg [.lit (.int .u8 0), .lit (.int .u8 0)], .agg [.lit (.int .u8 0), .lit (.int .u8 0)], .agg [.lit (.int .u8 0), .lit (.int .u8 0)], .agg [.lit (.int .u8 0), .lit (.int .u8 0)]]
/-- One of Go's own tables, pinned by name: the form's constant. -/
def laid_unicode_utf8_first : DataW Unit := Go.Pinned.utf8First

/-- 'kinkeeplaw22.ScannerValid': WHATEVER THE INPUT: true; the input reads as it did. -/
def scannerValidSpec : ChangeSpec := { name := "scannerValid", fn := fun _ => fun
  | [d1, d2, d3, d4] => { results := [.lit (.bool true)], args := [d1, d2, d3, d4] }
  | _ => none }
def scannerValidRow : OpenClaim := { program := "ytnjkpcalgoefhaagreatdoor", sum := "90f2fa72763b84da240d9c9b074373108c1af390816cbf6177b9b6b2c9543010", func := "kinkeep/kinkeeplaw22.ScannerValid", spec := "scannerValid", inPlace := ["internal/bytealg.CountString", "internal/bytealg.IndexByteString", "internal/bytealg.IndexString"], unfollowed := true, recurses := true, named := ["unicode/utf8.first", "unicode/utf8.acceptRanges", "internal/bytealg.MaxLen", "math/bits.deBruijn64tab", "kinkeep/sha256.initial", "kinkeep/sha256.constants"], apart := false, laid := [("math/bits.deBruijn64tab", laid_math_bits_deBruijn64tab), ("kinkeep/sha256.initial", laid_kinkeep_sha256_initial), ("kinkeep/sha256.constants", laid_kinkeep_sha256_constants), ("unicode/utf8.acceptRanges", laid_unicode_utf8_acceptRanges), ("unicode/utf8.first", laid_unicode_utf8_first)] }
def ScannerValidSaid : Prop := scannerValidRow.holds Tryz.pinned (OpenSpec.ofChange scannerValidSpec)

/-- ITS FALSE NEIGHBOUR: 'it returns false'. Refute it at one input. -/
def scannerValidWrong : ChangeSpec := { name := "scannerValid", fn := fun _ => fun
  | [d1, d2, d3, d4] => { results := [.lit (.bool false)], args := [d1, d2, d3, d4] }
  | _ => none }
def ScannerValidWrongFalsely : Prop := scannerValidRow.holds Tryz.pinned (OpenSpec.ofChange scannerValidWrong)

/-- 'kinkeeplaw22.ScannerQuiet': WHATEVER THE INPUT: true; the input reads as it did. -/
def scannerQuietSpec : ChangeSpec := { name := "scannerQuiet", fn := fun _ => fun
  | [d1, d2, d3, d4, d5, d6] => { results := [.lit (.bool true)], args := [d1, d2, d3, d4, d5, d6] }
  | _ => none }
def scannerQuietRow : OpenClaim := { program := "ytnjkpcalgoefhaagreatdoor", sum := "90f2fa72763b84da240d9c9b074373108c1af390816cbf6177b9b6b2c9543010", func := "kinkeep/kinkeeplaw22.ScannerQuiet", spec := "scannerQuiet", inPlace := ["internal/bytealg.CountString", "internal/bytealg.IndexByteString", "internal/bytealg.IndexString"], unfollowed := true, recurses := true, named := ["unicode/utf8.first", "unicode/utf8.acceptRanges", "internal/bytealg.MaxLen", "math/bits.deBruijn64tab", "kinkeep/sha256.initial", "kinkeep/sha256.constants"], apart := false, laid := [("math/bits.deBruijn64tab", laid_math_bits_deBruijn64tab), ("kinkeep/sha256.initial", laid_kinkeep_sha256_initial), ("kinkeep/sha256.constants", laid_kinkeep_sha256_constants), ("unicode/utf8.acceptRanges", laid_unicode_utf8_acceptRanges), ("unicode/utf8.first", laid_unicode_utf8_first)] }
def ScannerQuietSaid : Prop := scannerQuietRow.holds Tryz.pinned (OpenSpec.ofChange scannerQuietSpec)

/-- ITS FALSE NEIGHBOUR: 'it returns false'. Refute it at one input. -/
def scannerQuietWrong : ChangeSpec := { name := "scannerQuiet", fn := fun _ => fun
  | [d1, d2, d3, d4, d5, d6] => { results := [.lit (.bool false)], args := [d1, d2, d3, d4, d5, d6] }
  | _ => none }
def ScannerQuietWrongFalsely : Prop := scannerQuietRow.holds Tryz.pinned (OpenSpec.ofChange scannerQuietWrong)

/-- 'kinkeeplaw22.ScannerFresh': WHATEVER THE INPUT: true; the input reads as it did. -/
def scannerFreshSpec : ChangeSpec := { name := "scannerFresh", fn := fun _ => fun
  | [d1, d2, d3] => { results := [.lit (.bool true)], args := [d1, d2, d3] }
  | _ => none }
def scannerFreshRow : OpenClaim := { program := "ytnjkpcalgoefhaagreatdoor", sum := "90f2fa72763b84da240d9c9b074373108c1af390816cbf6177b9b6b2c9543010", func := "kinkeep/kinkeeplaw22.ScannerFresh", spec := "scannerFresh", inPlace := ["internal/bytealg.CountString", "internal/bytealg.IndexByteString", "internal/bytealg.IndexString"], unfollowed := true, recurses := true, named := ["unicode/utf8.first", "unicode/utf8.acceptRanges", "internal/bytealg.MaxLen", "math/bits.deBruijn64tab", "kinkeep/sha256.initial", "kinkeep/sha256.constants"], apart := false, laid := [("math/bits.deBruijn64tab", laid_math_bits_deBruijn64tab), ("kinkeep/sha256.initial", laid_kinkeep_sha256_initial), ("kinkeep/sha256.constants", laid_kinkeep_sha256_constants), ("unicode/utf8.acceptRanges", laid_unicode_utf8_acceptRanges), ("unicode/utf8.first", laid_unicode_utf8_first)] }
def ScannerFreshSaid : Prop := scannerFreshRow.holds Tryz.pinned (OpenSpec.ofChange scannerFreshSpec)

/-- ITS FALSE NEIGHBOUR: 'it returns false'. Refute it at one input. -/
def scannerFreshWrong : ChangeSpec := { name := "scannerFresh", fn := fun _ => fun
  | [d1, d2, d3] => { results := [.lit (.bool false)], args := [d1, d2, d3] }
  | _ => none }
def ScannerFreshWrongFalsely : Prop := scannerFreshRow.holds Tryz.pinned (OpenSpec.ofChange scannerFreshWrong)

/-- 'kinkeeplaw22.ScannerChanges': WHATEVER THE INPUT: true; the input reads as it did. -/
def scannerChangesSpec : ChangeSpec := { name := "scannerChanges", fn := fun _ => fun
  | [d1, d2] => { results := [.lit (.bool true)], args := [d1, d2] }
  | _ => none }
def scannerChangesRow : OpenClaim := { program := "ytnjkpcalgoefhaagreatdoor", sum := "90f2fa72763b84da240d9c9b074373108c1af390816cbf6177b9b6b2c9543010", func := "kinkeep/kinkeeplaw22.ScannerChanges", spec := "scannerChanges", inPlace := ["internal/bytealg.CountString", "internal/bytealg.IndexByteString", "internal/bytealg.IndexString"], unfollowed := true, recurses := true, named := ["unicode/utf8.first", "unicode/utf8.acceptRanges", "internal/bytealg.MaxLen", "math/bits.deBruijn64tab", "kinkeep/sha256.initial", "kinkeep/sha256.constants"], apart := false, laid := [("math/bits.deBruijn64tab", laid_math_bits_deBruijn64tab), ("kinkeep/sha256.initial", laid_kinkeep_sha256_initial), ("kinkeep/sha256.constants", laid_kinkeep_sha256_constants), ("unicode/utf8.acceptRanges", laid_unicode_utf8_acceptRanges), ("unicode/utf8.first", laid_unicode_utf8_first)] }
def ScannerChangesSaid : Prop := scannerChangesRow.holds Tryz.pinned (OpenSpec.ofChange scannerChangesSpec)

/-- ITS FALSE NEIGHBOUR: 'it returns false'. Refute it at one input. -/
def scannerChangesWrong : ChangeSpec := { name := "scannerChanges", fn := fun _ => fun
  | [d1, d2] => { results := [.lit (.bool false)], args := [d1, d2] }
  | _ => none }
def ScannerChangesWrongFalsely : Prop := scannerChangesRow.holds Tryz.pinned (OpenSpec.ofChange scannerChangesWrong)

/-- 'kinkeeplaw22.ScannerDecodes': WHATEVER THE INPUT: true; the input reads as it did. -/
def scannerDecodesSpec : ChangeSpec := { name := "scannerDecodes", fn := fun _ => fun
  | [d] => { results := [.lit (.bool true)], args := [d] }
  | _ => none }
def scannerDecodesRow : OpenClaim := { program := "ytnjkpcalgoefhaagreatdoor", sum := "90f2fa72763b84da240d9c9b074373108c1af390816cbf6177b9b6b2c9543010", func := "kinkeep/kinkeeplaw22.ScannerDecodes", spec := "scannerDecodes", inPlace := ["internal/bytealg.CountString", "internal/bytealg.IndexByteString", "internal/bytealg.IndexString"], unfollowed := true, recurses := true, named := ["unicode/utf8.first", "unicode/utf8.acceptRanges", "internal/bytealg.MaxLen", "math/bits.deBruijn64tab", "kinkeep/sha256.initial", "kinkeep/sha256.constants"], apart := false, laid := [("math/bits.deBruijn64tab", laid_math_bits_deBruijn64tab), ("kinkeep/sha256.initial", laid_kinkeep_sha256_initial), ("kinkeep/sha256.constants", laid_kinkeep_sha256_constants), ("unicode/utf8.acceptRanges", laid_unicode_utf8_acceptRanges), ("unicode/utf8.first", laid_unicode_utf8_first)] }
def ScannerDecodesSaid : Prop := scannerDecodesRow.holds Tryz.pinned (OpenSpec.ofChange scannerDecodesSpec)

/-- ITS FALSE NEIGHBOUR: 'it returns false'. Refute it at one input. -/
def scannerDecodesWrong : ChangeSpec := { name := "scannerDecodes", fn := fun _ => fun
  | [d] => { results := [.lit (.bool false)], args := [d] }
  | _ => none }
def ScannerDecodesWrongFalsely : Prop := scannerDecodesRow.holds Tryz.pinned (OpenSpec.ofChange scannerDecodesWrong)

/-- 'kinkeeplaw22.ScannerEncodes': WHATEVER THE INPUT: true; the input reads as it did. -/
def scannerEncodesSpec : ChangeSpec := { name := "scannerEncodes", fn := fun _ => fun
  | [d] => { results := [.lit (.bool true)], args := [d] }
  | _ => none }
def scannerEncodesRow : OpenClaim := { program := "ytnjkpcalgoefhaagreatdoor", sum := "90f2fa72763b84da240d9c9b074373108c1af390816cbf6177b9b6b2c9543010", func := "kinkeep/kinkeeplaw22.ScannerEncodes", spec := "scannerEncodes", inPlace := ["internal/bytealg.CountString", "internal/bytealg.IndexByteString", "internal/bytealg.IndexString"], unfollowed := true, recurses := true, named := ["unicode/utf8.first", "unicode/utf8.acceptRanges", "internal/bytealg.MaxLen", "math/bits.deBruijn64tab", "kinkeep/sha256.initial", "kinkeep/sha256.constants"], apart := false, laid := [("math/bits.deBruijn64tab", laid_math_bits_deBruijn64tab), ("kinkeep/sha256.initial", laid_kinkeep_sha256_initial), ("kinkeep/sha256.constants", laid_kinkeep_sha256_constants), ("unicode/utf8.acceptRanges", laid_unicode_utf8_acceptRanges), ("unicode/utf8.first", laid_unicode_utf8_first)] }
def ScannerEncodesSaid : Prop := scannerEncodesRow.holds Tryz.pinned (OpenSpec.ofChange scannerEncodesSpec)

/-- ITS FALSE NEIGHBOUR: 'it returns false'. Refute it at one input. -/
def scannerEncodesWrong : ChangeSpec := { name := "scannerEncodes", fn := fun _ => fun
  | [d] => { results := [.lit (.bool false)], args := [d] }
  | _ => none }
def ScannerEncodesWrongFalsely : Prop := scannerEncodesRow.holds Tryz.pinned (OpenSpec.ofChange scannerEncodesWrong)

/-- 'kinkeeplaw22.ScannerContents': WHATEVER THE INPUT: true; the input reads as it did. -/
def scannerContentsSpec : ChangeSpec := { name := "scannerContents", fn := fun _ => fun
  | [d] => { results := [.lit (.bool true)], args := [d] }
  | _ => none }
def scannerContentsRow : OpenClaim := { program := "ytnjkpcalgoefhaagreatdoor", sum := "90f2fa72763b84da240d9c9b074373108c1af390816cbf6177b9b6b2c9543010", func := "kinkeep/kinkeeplaw22.ScannerContents", spec := "scannerContents", inPlace := ["internal/bytealg.CountString", "internal/bytealg.IndexByteString", "internal/bytealg.IndexString"], unfollowed := true, recurses := true, named := ["unicode/utf8.first", "unicode/utf8.acceptRanges", "internal/bytealg.MaxLen", "math/bits.deBruijn64tab", "kinkeep/sha256.initial", "kinkeep/sha256.constants"], apart := false, laid := [("math/bits.deBruijn64tab", laid_math_bits_deBruijn64tab), ("kinkeep/sha256.initial", laid_kinkeep_sha256_initial), ("kinkeep/sha256.constants", laid_kinkeep_sha256_constants), ("unicode/utf8.acceptRanges", laid_unicode_utf8_acceptRanges), ("unicode/utf8.first", laid_unicode_utf8_first)] }
def ScannerContentsSaid : Prop := scannerContentsRow.holds Tryz.pinned (OpenSpec.ofChange scannerContentsSpec)

/-- ITS FALSE NEIGHBOUR: 'it returns false'. Refute it at one input. -/
def scannerContentsWrong : ChangeSpec := { name := "scannerContents", fn := fun _ => fun
  | [d] => { results := [.lit (.bool false)], args := [d] }
  | _ => none }
def ScannerContentsWrongFalsely : Prop := scannerContentsRow.holds Tryz.pinned (OpenSpec.ofChange scannerContentsWrong)

/- THE SECOND FORM. 'bulk': how many values and letters a reading holds, each counted each time it is reached (what is shared counts as often as it is met; a slice's spare places count too). A statement '..UptoSaid' is the law's where the arguments, and the package variables that the reading takes, are together of bulk at most 1048576: NARROWER than '..Said'. Prove '..Said' where nothing that the law and all that it calls make is longer than what came in: it says more and counts as full. Else prove '..UptoSaid'. A law counts once. -/
mutual
def uptoBulk {H : Type} : DataW H → Nat
  | .lit (.string bytes) => bytes.length + 1
  | .lit _ => 1
  | .nil => 1
  | .ptr d => uptoBulk d + 1
  | .slice elems spare => uptoBulkAll elems + uptoBulkAll spare + 1
  | .agg parts => uptoBulkAll parts + 1
  | .iface _ d => uptoBulk d + 1
  | .map entries => uptoBulkEntries entries + 1
  | .held _ => 1
def uptoBulkAll {H : Type} : List (DataW H) → Nat
  | [] => 0
  | d :: r => uptoBulk d + uptoBulkAll r
def uptoBulkEntries {H : Type} : List (Lit × DataW H) → Nat
  | [] => 0
  | x :: r => uptoBulkEntry x + uptoBulkEntries r
def uptoBulkEntry {H : Type} : Lit × DataW H → Nat
  | (.string bytes, d) => bytes.length + uptoBulk d + 1
  | (_, d) => uptoBulk d + 1
 end
def uptoSmall : (H : Type) → List (DataW H) → Bool := fun _ ds => decide (uptoBulkAll ds ≤ 1048576)
def OpenSpec.upto (s : _root_.Go.ChangeSpec) : _root_.Go.OpenSpec := { _root_.Go.OpenSpec.ofChange s with cond := some uptoSmall }

/-- 'kinkeeplaw22.ScannerValid', WHERE WHAT IT READS IS OF BULK AT MOST 1048576: true; the input reads as it did. -/
def scannerValidUptoRow : OpenClaim := { program := "ytnjkpcalgoefhaagreatdoor", sum := "90f2fa72763b84da240d9c9b074373108c1af390816cbf6177b9b6b2c9543010", func := "kinkeep/kinkeeplaw22.ScannerValid", spec := "scannerValid", inPlace := ["internal/bytealg.CountString", "internal/bytealg.IndexByteString", "internal/bytealg.IndexString"], unfollowed := true, recurses := true, named := ["unicode/utf8.first", "unicode/utf8.acceptRanges", "internal/bytealg.MaxLen", "math/bits.deBruijn64tab", "kinkeep/sha256.initial", "kinkeep/sha256.constants"], apart := false, laid := [("math/bits.deBruijn64tab", laid_math_bits_deBruijn64tab), ("kinkeep/sha256.initial", laid_kinkeep_sha256_initial), ("kinkeep/sha256.constants", laid_kinkeep_sha256_constants), ("unicode/utf8.acceptRanges", laid_unicode_utf8_acceptRanges), ("unicode/utf8.first", laid_unicode_utf8_first)], narrowed := true }
def ScannerValidUptoSaid : Prop := scannerValidUptoRow.holds Tryz.pinned (OpenSpec.upto scannerValidSpec)

/-- 'kinkeeplaw22.ScannerQuiet', WHERE WHAT IT READS IS OF BULK AT MOST 1048576: true; the input reads as it did. -/
def scannerQuietUptoRow : OpenClaim := { program := "ytnjkpcalgoefhaagreatdoor", sum := "90f2fa72763b84da240d9c9b074373108c1af390816cbf6177b9b6b2c9543010", func := "kinkeep/kinkeeplaw22.ScannerQuiet", spec := "scannerQuiet", inPlace := ["internal/bytealg.CountString", "internal/bytealg.IndexByteString", "internal/bytealg.IndexString"], unfollowed := true, recurses := true, named := ["unicode/utf8.first", "unicode/utf8.acceptRanges", "internal/bytealg.MaxLen", "math/bits.deBruijn64tab", "kinkeep/sha256.initial", "kinkeep/sha256.constants"], apart := false, laid := [("math/bits.deBruijn64tab", laid_math_bits_deBruijn64tab), ("kinkeep/sha256.initial", laid_kinkeep_sha256_initial), ("kinkeep/sha256.constants", laid_kinkeep_sha256_constants), ("unicode/utf8.acceptRanges", laid_unicode_utf8_acceptRanges), ("unicode/utf8.first", laid_unicode_utf8_first)], narrowed := true }
def ScannerQuietUptoSaid : Prop := scannerQuietUptoRow.holds Tryz.pinned (OpenSpec.upto scannerQuietSpec)

/-- 'kinkeeplaw22.ScannerFresh', WHERE WHAT IT READS IS OF BULK AT MOST 1048576: true; the input reads as it did. -/
def scannerFreshUptoRow : OpenClaim := { program := "ytnjkpcalgoefhaagreatdoor", sum := "90f2fa72763b84da240d9c9b074373108c1af390816cbf6177b9b6b2c9543010", func := "kinkeep/kinkeeplaw22.ScannerFresh", spec := "scannerFresh", inPlace := ["internal/bytealg.CountString", "internal/bytealg.IndexByteString", "internal/bytealg.IndexString"], unfollowed := true, recurses := true, named := ["unicode/utf8.first", "unicode/utf8.acceptRanges", "internal/bytealg.MaxLen", "math/bits.deBruijn64tab", "kinkeep/sha256.initial", "kinkeep/sha256.constants"], apart := false, laid := [("math/bits.deBruijn64tab", laid_math_bits_deBruijn64tab), ("kinkeep/sha256.initial", laid_kinkeep_sha256_initial), ("kinkeep/sha256.constants", laid_kinkeep_sha256_constants), ("unicode/utf8.acceptRanges", laid_unicode_utf8_acceptRanges), ("unicode/utf8.first", laid_unicode_utf8_first)], narrowed := true }
def ScannerFreshUptoSaid : Prop := scannerFreshUptoRow.holds Tryz.pinned (OpenSpec.upto scannerFreshSpec)

/-- 'kinkeeplaw22.ScannerChanges', WHERE WHAT IT READS IS OF BULK AT MOST 1048576: true; the input reads as it did. -/
def scannerChangesUptoRow : OpenClaim := { program := "ytnjkpcalgoefhaagreatdoor", sum := "90f2fa72763b84da240d9c9b074373108c1af390816cbf6177b9b6b2c9543010", func := "kinkeep/kinkeeplaw22.ScannerChanges", spec := "scannerChanges", inPlace := ["internal/bytealg.CountString", "internal/bytealg.IndexByteString", "internal/bytealg.IndexString"], unfollowed := true, recurses := true, named := ["unicode/utf8.first", "unicode/utf8.acceptRanges", "internal/bytealg.MaxLen", "math/bits.deBruijn64tab", "kinkeep/sha256.initial", "kinkeep/sha256.constants"], apart := false, laid := [("math/bits.deBruijn64tab", laid_math_bits_deBruijn64tab), ("kinkeep/sha256.initial", laid_kinkeep_sha256_initial), ("kinkeep/sha256.constants", laid_kinkeep_sha256_constants), ("unicode/utf8.acceptRanges", laid_unicode_utf8_acceptRanges), ("unicode/utf8.first", laid_unicode_utf8_first)], narrowed := true }
def ScannerChangesUptoSaid : Prop := scannerChangesUptoRow.holds Tryz.pinned (OpenSpec.upto scannerChangesSpec)

/-- 'kinkeeplaw22.ScannerDecodes', WHERE WHAT IT READS IS OF BULK AT MOST 1048576: true; the input reads as it did. -/
def scannerDecodesUptoRow : OpenClaim := { program := "ytnjkpcalgoefhaagreatdoor", sum := "90f2fa72763b84da240d9c9b074373108c1af390816cbf6177b9b6b2c9543010", func := "kinkeep/kinkeeplaw22.ScannerDecodes", spec := "scannerDecodes", inPlace := ["internal/bytealg.CountString", "internal/bytealg.IndexByteString", "internal/bytealg.IndexString"], unfollowed := true, recurses := true, named := ["unicode/utf8.first", "unicode/utf8.acceptRanges", "internal/bytealg.MaxLen", "math/bits.deBruijn64tab", "kinkeep/sha256.initial", "kinkeep/sha256.constants"], apart := false, laid := [("math/bits.deBruijn64tab", laid_math_bits_deBruijn64tab), ("kinkeep/sha256.initial", laid_kinkeep_sha256_initial), ("kinkeep/sha256.constants", laid_kinkeep_sha256_constants), ("unicode/utf8.acceptRanges", laid_unicode_utf8_acceptRanges), ("unicode/utf8.first", laid_unicode_utf8_first)], narrowed := true }
def ScannerDecodesUptoSaid : Prop := scannerDecodesUptoRow.holds Tryz.pinned (OpenSpec.upto scannerDecodesSpec)

/-- 'kinkeeplaw22.ScannerEncodes', WHERE WHAT IT READS IS OF BULK AT MOST 1048576: true; the input reads as it did. -/
def scannerEncodesUptoRow : OpenClaim := { program := "ytnjkpcalgoefhaagreatdoor", sum := "90f2fa72763b84da240d9c9b074373108c1af390816cbf6177b9b6b2c9543010", func := "kinkeep/kinkeeplaw22.ScannerEncodes", spec := "scannerEncodes", inPlace := ["internal/bytealg.CountString", "internal/bytealg.IndexByteString", "internal/bytealg.IndexString"], unfollowed := true, recurses := true, named := ["unicode/utf8.first", "unicode/utf8.acceptRanges", "internal/bytealg.MaxLen", "math/bits.deBruijn64tab", "kinkeep/sha256.initial", "kinkeep/sha256.constants"], apart := false, laid := [("math/bits.deBruijn64tab", laid_math_bits_deBruijn64tab), ("kinkeep/sha256.initial", laid_kinkeep_sha256_initial), ("kinkeep/sha256.constants", laid_kinkeep_sha256_constants), ("unicode/utf8.acceptRanges", laid_unicode_utf8_acceptRanges), ("unicode/utf8.first", laid_unicode_utf8_first)], narrowed := true }
def ScannerEncodesUptoSaid : Prop := scannerEncodesUptoRow.holds Tryz.pinned (OpenSpec.upto scannerEncodesSpec)

/-- 'kinkeeplaw22.ScannerContents', WHERE WHAT IT READS IS OF BULK AT MOST 1048576: true; the input reads as it did. -/
def scannerContentsUptoRow : OpenClaim := { program := "ytnjkpcalgoefhaagreatdoor", sum := "90f2fa72763b84da240d9c9b074373108c1af390816cbf6177b9b6b2c9543010", func := "kinkeep/kinkeeplaw22.ScannerContents", spec := "scannerContents", inPlace := ["internal/bytealg.CountString", "internal/bytealg.IndexByteString", "internal/bytealg.IndexString"], unfollowed := true, recurses := true, named := ["unicode/utf8.first", "unicode/utf8.acceptRanges", "internal/bytealg.MaxLen", "math/bits.deBruijn64tab", "kinkeep/sha256.initial", "kinkeep/sha256.constants"], apart := false, laid := [("math/bits.deBruijn64tab", laid_math_bits_deBruijn64tab), ("kinkeep/sha256.initial", laid_kinkeep_sha256_initial), ("kinkeep/sha256.constants", laid_kinkeep_sha256_constants), ("unicode/utf8.acceptRanges", laid_unicode_utf8_acceptRanges), ("unicode/utf8.first", laid_unicode_utf8_first)], narrowed := true }
def ScannerContentsUptoSaid : Prop := scannerContentsUptoRow.holds Tryz.pinned (OpenSpec.upto scannerContentsSpec)

end Rows
end Go.Proofs.YtnjkpcalgoefhaaGreatDoor
