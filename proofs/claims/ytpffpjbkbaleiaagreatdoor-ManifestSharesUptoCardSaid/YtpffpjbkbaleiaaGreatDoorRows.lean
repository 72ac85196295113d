/-
  NARROWER THAN 'FOR EVERY INPUT', by the rows' own cells (each row's printed sentence says how): ManifestNodes: laid · ManifestItems: laid · ManifestBuilds: maps, laid · ManifestLoads: maps, laid · ManifestLookups: maps, laid · ManifestCompletes: laid · ManifestBlobs: laid · ManifestReturns: laid · ManifestFiles: maps, laid · ManifestNeeds: maps, laid · ManifestShares: laid.
  DERIVED. THE GIVEN ROWS OF THIS SEAT. 11 by the template 'for every input the law returns true; each argument reads behind the call as it read before'; 0 by the template 'total and deterministic' (their statements: YtpffpjbkbaleiaaGreatDoorTotals.lean).
  GIVEN WITH THE SEED: the statements are not yours to turn. If you find one false, say at which input.
  Laid BY PROGRAM, IN A SANDBOX (cutbox-rows.mjs): the forced cells as the released guide's own fill.sh prints them over the translation a49adc54028944fa… (all of the seat's roots in one cut). By AI agents, Wed Nov 11 2026. No macro, syntax, notation, axiom, sorry.
-/
import Derived.Test.YtpffpjbkbaleiaaGreatDoorChecked
import GoSem.PinnedTables
import GoSem.Claim
import GoSem.ClaimJoined
import GoSem.ClaimMapViews
import Derived.JoinedTies
import Derived.KernelRfl
namespace Go.Proofs.YtpffpjbkbaleiaaGreatDoor
/- THE CELL 'sum', in the pinned program and in every row, IS THE sha256 OF THE DUMP (.gsa) THAT YtpffpjbkbaleiaaGreatDoorProg.lean LOADS. Nothing in Lean hashes anything: it is a label: what it is worth is what the hold of that sum in a sandbox is worth. -/
noncomputable def Tryz.pinned : Pinned := { name := "ytpffpjbkbaleiaagreatdoor", sum := "a49adc54028944fa0e91766533ba68b31410abc90011e47c61689fbb163b06f8", checked := Tryz.checked }
namespace Rows
def none {H : Type} : Left H := { results := [], args := [] }

/- WHAT THE LISTED PACKAGE-LEVEL VARIABLES READ AS WHEN THE CALL BEGINS. Each datum BY PROGRAM (the guide's laid-datum.mjs) off the statement by which the dump's own 'gosem.cut.vars' lays the variable. In a bare row this is a premise. The card (YtpffpjbkbaleiaaGreatDoorCards.lean) ties it to the program's text. -/
def laid_math_bits_deBruijn64tab {H : Type} : DataW H := .agg [.lit (.int .u8 0), .lit (.int .u8 1), .lit (.int .u8 56), .lit (.int .u8 2), .lit (.int .u8 57), .lit (.int .u8 49), .lit (.int .u8 28), .lit (.int .u8 3), .lit (.int .u8 61), .lit (.int .u8 58), .lit (.int .u8 42), .lit (.int .u8 50), .lit (.int .u8 38), .lit (.int .u8 29), .lit (.int .u8 17), .lit (.int .u8 4), .lit (.int .u8 62), .lit (.int .u8 47), .lit (.int .u8 59), .lit (.int .u8 36), .lit (.int .u8 45), .lit (.int .u8 43), .lit (.int .u8 51), .lit (.int .u8 22), .lit (.int .u8 53), .lit (.int .u8 39), .lit (.int .u8 33), .lit (.int .u8 30), .lit (.int .u8 24), .lit (.int .u8 18), .lit (.int .u8 12), .lit (.int .u8 5), .lit (.int .u8 63), .lit (.int .u8 55), .lit (.int .u8 48), .lit (.int .u8 27), .lit (.int .u8 60), .lit (.int .u8 41), .lit (.int .u8 37), .lit (.int .u8 16), .lit (.int .u8 46), .lit (.int .u8 35), .lit (.int .u8 44), .lit (.int .u8 21), .lit (.int .u8 52), .lit (.int .u8 32), .lit (.int .u8 23), .lit (.int .u8 11), .lit (.int .u8 54), .lit (.int .u8 26), .lit (.int .u8 40), .lit (.int .u8 15), .lit (.int .u8 34), .lit (.int .u8 20), .lit (.int .u8 31), .lit (.int .u8 10), .lit (.int .u8 25), .lit (.int .u8 14), .lit (.int .u8 19), .lit (.int .u8 9), .lit (.int .u8 13), .lit (.int .u8 8), .lit (.int .u8 7), .lit (.int .u8 6)]
def laid_kinkeep_sha256_initial {H : Type} : DataW H := .agg [.lit (.int .u32 1779033703), .lit (.int .u32 3144134277), .lit (.int .u32 1013904242), .lit (.int .u32 2773480762), .lit (.int .u32 1359893119), .lit (.int .u32 2600822924), .lit (.int .u32 528734635), .lit (.int .u32 1541459225)]
def laid_kinkeep_sha256_constants {H : Type} : DataW H := .agg [.lit (.int .u32 1116352408), .lit (.int .u32 1899447441), .lit (.int .u32 3049323471), .lit (.int .u32 3921009573), .lit (.int .u32 961987163), .lit (.int .u32 1508970993), .lit (.int .u32 2453635748), .lit (.int .u32 2870763221), .lit (.int .u32 3624381080), .lit (.int .u32 310598401), .lit (.int .u32 607225278), .lit (.int .u32 1426881987), .lit (.int .u32 1925078388), .lit (.int .u32 2162078206), .lit (.int .u32 2614888103), .lit (.int .u32 3248222580), .lit (.int .u32 3835390401), .lit (.int .u32 4022224774), .lit (.int .u32 264347078), .lit (.int .u32 604807628), .lit (.int .u32 770255983), .lit (.int .u32 1249150122), .lit (.int .u32 1555081692), .lit (.int .u32 1996064986), .lit (.int .u32 2554220882), .lit (.int .u32 2821834349), .lit (.int .u32 2952996808), .lit (.int .u32 3210313671), .lit (.int .u32 3336571891), .lit (.int .u32 3584528711), .lit (.int .u32 113926993), .lit (.int .u32 338241895), .lit (.int .u32 666307205), .lit (.int .u32 773529912), .lit (.int .u32 1294757372), .lit (.int .u32 1396182291), .lit (.int .u32 1695183700), .lit (.int .u32 1986661051), .lit (.int .u32 2177026350), .lit (.int .u32 2456956037), .lit (.int .u32 2730485921), .lit (.int .u32 2820302411), .lit (.int .u32 3259730800), .lit (.int .u32 3345764771), .lit (.int .u32 3516065817), .lit (.int .u32 3600352804), .lit (.int .u32 4094571909), .lit (.int .u32 275423344), .lit (.int .u32 430227734), .lit (.int .u32 506948616), .lit (.int .u32 659060556), .lit (.int .u32 883997877), .lit (.int .u32 958139571), .lit (.int .u32 1322822218), .lit (.int .u32 1537002063), .lit (.int .u32 1747873779), .lit (.int .u32 1955562222), .lit (.int .u32 2024104815), .lit (.int .u32 2227730452), .lit (.int .u32 2361852424), .lit (.int .u32 2428436474), .lit (.int .u32 2756734187), .lit (.int .u32 3204031479), .lit (.int .u32 3329325298)]
def laid_kinkeep_hmac_pads {H : Type} : DataW H := .agg [.lit (.int .u8 54), .lit (.int .u8 92)]
def laid_unicode_utf8_acceptRanges {H : Type} : DataW H := .agg [.agg [.lit (.int .u8 128), .lit (.int .u8 191)], .agg [.lit (.int .u8 160), .lit (.int .u8 191)], .agg [.lit (.int .u8 128), .lit (.int .u8 159)], .agg [.lit (.int .u8 144), .lit (.int .u8 191)], .agg [.lit (.int .u8 128), .lit (.int .u8 143)], .agg [.lit (.int .u8 0), .lit (.int .u8 0)], .agg [.lit (.int .u8 0), .lit (.int .u8 0)], .agg [.lit (.int .u8 0), .lit (.int .u8 0)], .agg [.lit (.int .u8 0), .lit (.int .u8 0)], .agg [.lit (.int .u8 0), .lit (.int .u8 0)], .agg [.lit (.int .u8 0), .lit (.int .u8 0)], .agg [.lit (.int .u8 0), .lit (.int .u8 0)], .agg [.lit (.int .u8 0), .lit (.int .u8 0)], .agg [.lit (.int .u8 0), .lit (.int .u8 0)], .agg [.lit (.int .u8 0), .lit (.int .u8 0)], .agg [.lit (.int .u8 0), .lit (.int .u8 0)]]
/-- One of Go's own tables, pinned by name: the form's constant. -/
def laid_unicode_utf8_first : DataW Unit := Go.Pinned.utf8First

/-- 'kinkeeplaw24.ManifestNodes': WHATEVER THE INPUT: true; the input reads as it did. -/
def manifestNodesSpec : ChangeSpec := { name := "manifestNodes", fn := fun _ => fun
  | [d] => { results := [.lit (.bool true)], args := [d] }
  | _ => none }
def manifestNodesRow : OpenClaim := { program := "ytpffpjbkbaleiaagreatdoor", sum := "a49adc54028944fa0e91766533ba68b31410abc90011e47c61689fbb163b06f8", func := "kinkeep/kinkeeplaw24.ManifestNodes", spec := "manifestNodes", inPlace := ["internal/bytealg.CountString", "internal/bytealg.IndexByteString", "internal/bytealg.IndexString"], unfollowed := true, recurses := true, named := ["unicode/utf8.first", "unicode/utf8.acceptRanges", "internal/bytealg.MaxLen", "kinkeep/hmac.pads", "kinkeep/sha256.initial", "kinkeep/sha256.constants", "math/bits.deBruijn64tab"], plainKeys := false, apart := false, laid := [("math/bits.deBruijn64tab", laid_math_bits_deBruijn64tab), ("kinkeep/sha256.initial", laid_kinkeep_sha256_initial), ("kinkeep/sha256.constants", laid_kinkeep_sha256_constants), ("kinkeep/hmac.pads", laid_kinkeep_hmac_pads), ("unicode/utf8.acceptRanges", laid_unicode_utf8_acceptRanges), ("unicode/utf8.first", laid_unicode_utf8_first)] }
def ManifestNodesSaid : Prop := manifestNodesRow.holds Tryz.pinned (OpenSpec.ofChange manifestNodesSpec)

/-- ITS FALSE NEIGHBOUR: 'it returns false'. Refute it at one input. -/
def manifestNodesWrong : ChangeSpec := { name := "manifestNodes", fn := fun _ => fun
  | [d] => { results := [.lit (.bool false)], args := [d] }
  | _ => none }
def ManifestNodesWrongFalsely : Prop := manifestNodesRow.holds Tryz.pinned (OpenSpec.ofChange manifestNodesWrong)

/-- 'kinkeeplaw24.ManifestItems': WHATEVER THE INPUT: true; the input reads as it did. -/
def manifestItemsSpec : ChangeSpec := { name := "manifestItems", fn := fun _ => fun
  | [d] => { results := [.lit (.bool true)], args := [d] }
  | _ => none }
def manifestItemsRow : OpenClaim := { program := "ytpffpjbkbaleiaagreatdoor", sum := "a49adc54028944fa0e91766533ba68b31410abc90011e47c61689fbb163b06f8", func := "kinkeep/kinkeeplaw24.ManifestItems", spec := "manifestItems", inPlace := ["internal/bytealg.CountString", "internal/bytealg.IndexByteString", "internal/bytealg.IndexString"], unfollowed := true, recurses := true, named := ["unicode/utf8.first", "unicode/utf8.acceptRanges", "internal/bytealg.MaxLen", "kinkeep/hmac.pads", "kinkeep/sha256.initial", "kinkeep/sha256.constants", "math/bits.deBruijn64tab"], plainKeys := false, apart := false, laid := [("math/bits.deBruijn64tab", laid_math_bits_deBruijn64tab), ("kinkeep/sha256.initial", laid_kinkeep_sha256_initial), ("kinkeep/sha256.constants", laid_kinkeep_sha256_constants), ("kinkeep/hmac.pads", laid_kinkeep_hmac_pads), ("unicode/utf8.acceptRanges", laid_unicode_utf8_acceptRanges), ("unicode/utf8.first", laid_unicode_utf8_first)] }
def ManifestItemsSaid : Prop := manifestItemsRow.holds Tryz.pinned (OpenSpec.ofChange manifestItemsSpec)

/-- ITS FALSE NEIGHBOUR: 'it returns false'. Refute it at one input. -/
def manifestItemsWrong : ChangeSpec := { name := "manifestItems", fn := fun _ => fun
  | [d] => { results := [.lit (.bool false)], args := [d] }
  | _ => none }
def ManifestItemsWrongFalsely : Prop := manifestItemsRow.holds Tryz.pinned (OpenSpec.ofChange manifestItemsWrong)

/-- 'kinkeeplaw24.ManifestBuilds': WHATEVER THE INPUT: true; the input reads as it did. -/
def manifestBuildsSpec : ChangeSpec := { name := "manifestBuilds", fn := fun _ => fun
  | [d1, d2, d3, d4] => { results := [.lit (.bool true)], args := [d1, d2, d3, d4] }
  | _ => none }
def manifestBuildsRow : OpenClaim := { program := "ytpffpjbkbaleiaagreatdoor", sum := "a49adc54028944fa0e91766533ba68b31410abc90011e47c61689fbb163b06f8", func := "kinkeep/kinkeeplaw24.ManifestBuilds", spec := "manifestBuilds", inPlace := ["internal/bytealg.CountString", "internal/bytealg.IndexByteString", "internal/bytealg.IndexString"], unfollowed := true, recurses := true, named := ["unicode/utf8.first", "unicode/utf8.acceptRanges", "internal/bytealg.MaxLen", "kinkeep/hmac.pads", "kinkeep/sha256.initial", "kinkeep/sha256.constants", "math/bits.deBruijn64tab"], maps := true, plainKeys := false, apart := false, laid := [("math/bits.deBruijn64tab", laid_math_bits_deBruijn64tab), ("kinkeep/sha256.initial", laid_kinkeep_sha256_initial), ("kinkeep/sha256.constants", laid_kinkeep_sha256_constants), ("kinkeep/hmac.pads", laid_kinkeep_hmac_pads), ("unicode/utf8.acceptRanges", laid_unicode_utf8_acceptRanges), ("unicode/utf8.first", laid_unicode_utf8_first)] }
def ManifestBuildsSaid : Prop := manifestBuildsRow.holds Tryz.pinned (OpenSpec.ofChange manifestBuildsSpec)

/-- ITS FALSE NEIGHBOUR: 'it returns false'. Refute it at one input. -/
def manifestBuildsWrong : ChangeSpec := { name := "manifestBuilds", fn := fun _ => fun
  | [d1, d2, d3, d4] => { results := [.lit (.bool false)], args := [d1, d2, d3, d4] }
  | _ => none }
def ManifestBuildsWrongFalsely : Prop := manifestBuildsRow.holds Tryz.pinned (OpenSpec.ofChange manifestBuildsWrong)

/-- 'kinkeeplaw24.ManifestLoads': WHATEVER THE INPUT: true; the input reads as it did. -/
def manifestLoadsSpec : ChangeSpec := { name := "manifestLoads", fn := fun _ => fun
  | [d1, d2] => { results := [.lit (.bool true)], args := [d1, d2] }
  | _ => none }
def manifestLoadsRow : OpenClaim := { program := "ytpffpjbkbaleiaagreatdoor", sum := "a49adc54028944fa0e91766533ba68b31410abc90011e47c61689fbb163b06f8", func := "kinkeep/kinkeeplaw24.ManifestLoads", spec := "manifestLoads", inPlace := ["internal/bytealg.CountString", "internal/bytealg.IndexByteString", "internal/bytealg.IndexString"], unfollowed := true, recurses := true, named := ["unicode/utf8.first", "unicode/utf8.acceptRanges", "internal/bytealg.MaxLen", "kinkeep/hmac.pads", "kinkeep/sha256.initial", "kinkeep/sha256.constants", "math/bits.deBruijn64tab"], maps := true, plainKeys := false, apart := false, laid := [("math/bits.deBruijn64tab", laid_math_bits_deBruijn64tab), ("kinkeep/sha256.initial", laid_kinkeep_sha256_initial), ("kinkeep/sha256.constants", laid_kinkeep_sha256_constants), ("kinkeep/hmac.pads", laid_kinkeep_hmac_pads), ("unicode/utf8.acceptRanges", laid_unicode_utf8_acceptRanges), ("unicode/utf8.first", laid_unicode_utf8_first)] }
def ManifestLoadsSaid : Prop := manifestLoadsRow.holds Tryz.pinned (OpenSpec.ofChange manifestLoadsSpec)

/-- ITS FALSE NEIGHBOUR: 'it returns false'. Refute it at one input. -/
def manifestLoadsWrong : ChangeSpec := { name := "manifestLoads", fn := fun _ => fun
  | [d1, d2] => { results := [.lit (.bool false)], args := [d1, d2] }
  | _ => none }
def ManifestLoadsWrongFalsely : Prop := manifestLoadsRow.holds Tryz.pinned (OpenSpec.ofChange manifestLoadsWrong)

/-- 'kinkeeplaw24.ManifestLookups': WHATEVER THE INPUT: true; the input reads as it did. -/
def manifestLookupsSpec : ChangeSpec := { name := "manifestLookups", fn := fun _ => fun
  | [d1, d2, d3] => { results := [.lit (.bool true)], args := [d1, d2, d3] }
  | _ => none }
def manifestLookupsRow : OpenClaim := { program := "ytpffpjbkbaleiaagreatdoor", sum := "a49adc54028944fa0e91766533ba68b31410abc90011e47c61689fbb163b06f8", func := "kinkeep/kinkeeplaw24.ManifestLookups", spec := "manifestLookups", inPlace := ["internal/bytealg.CountString", "internal/bytealg.IndexByteString", "internal/bytealg.IndexString"], unfollowed := true, recurses := true, named := ["unicode/utf8.first", "unicode/utf8.acceptRanges", "internal/bytealg.MaxLen", "kinkeep/hmac.pads", "kinkeep/sha256.initial", "kinkeep/sha256.constants", "math/bits.deBruijn64tab"], maps := true, plainKeys := false, apart := false, laid := [("math/bits.deBruijn64tab", laid_math_bits_deBruijn64tab), ("kinkeep/sha256.initial", laid_kinkeep_sha256_initial), ("kinkeep/sha256.constants", laid_kinkeep_sha256_constants), ("kinkeep/hmac.pads", laid_kinkeep_hmac_pads), ("unicode/utf8.acceptRanges", laid_unicode_utf8_acceptRanges), ("unicode/utf8.first", laid_unicode_utf8_first)] }
def ManifestLookupsSaid : Prop := manifestLookupsRow.holds Tryz.pinned (OpenSpec.ofChange manifestLookupsSpec)

/-- ITS FALSE NEIGHBOUR: 'it returns false'. Refute it at one input. -/
def manifestLookupsWrong : ChangeSpec := { name := "manifestLookups", fn := fun _ => fun
  | [d1, d2, d3] => { results := [.lit (.bool false)], args := [d1, d2, d3] }
  | _ => none }
def ManifestLookupsWrongFalsely : Prop := manifestLookupsRow.holds Tryz.pinned (OpenSpec.ofChange manifestLookupsWrong)

/-- 'kinkeeplaw24.ManifestCompletes': WHATEVER THE INPUT: true; the input reads as it did. -/
def manifestCompletesSpec : ChangeSpec := { name := "manifestCompletes", fn := fun _ => fun
  | [d1, d2] => { results := [.lit (.bool true)], args := [d1, d2] }
  | _ => none }
def manifestCompletesRow : OpenClaim := { program := "ytpffpjbkbaleiaagreatdoor", sum := "a49adc54028944fa0e91766533ba68b31410abc90011e47c61689fbb163b06f8", func := "kinkeep/kinkeeplaw24.ManifestCompletes", spec := "manifestCompletes", inPlace := ["internal/bytealg.CountString", "internal/bytealg.IndexByteString", "internal/bytealg.IndexString"], unfollowed := true, recurses := true, named := ["unicode/utf8.first", "unicode/utf8.acceptRanges", "internal/bytealg.MaxLen", "kinkeep/hmac.pads", "kinkeep/sha256.initial", "kinkeep/sha256.constants", "math/bits.deBruijn64tab"], plainKeys := false, apart := false, laid := [("math/bits.deBruijn64tab", laid_math_bits_deBruijn64tab), ("kinkeep/sha256.initial", laid_kinkeep_sha256_initial), ("kinkeep/sha256.constants", laid_kinkeep_sha256_constants), ("kinkeep/hmac.pads", laid_kinkeep_hmac_pads), ("unicode/utf8.acceptRanges", laid_unicode_utf8_acceptRanges), ("unicode/utf8.first", laid_unicode_utf8_first)] }
def ManifestCompletesSaid : Prop := manifestCompletesRow.holds Tryz.pinned (OpenSpec.ofChange manifestCompletesSpec)

/-- ITS FALSE NEIGHBOUR: 'it returns false'. Refute it at one input. -/
def manifestCompletesWrong : ChangeSpec := { name := "manifestCompletes", fn := fun _ => fun
  | [d1, d2] => { results := [.lit (.bool false)], args := [d1, d2] }
  | _ => none }
def ManifestCompletesWrongFalsely : Prop := manifestCompletesRow.holds Tryz.pinned (OpenSpec.ofChange manifestCompletesWrong)

/-- 'kinkeeplaw24.ManifestBlobs': WHATEVER THE INPUT: true; the input reads as it did. -/
def manifestBlobsSpec : ChangeSpec := { name := "manifestBlobs", fn := fun _ => fun
  | [d] => { results := [.lit (.bool true)], args := [d] }
  | _ => none }
def manifestBlobsRow : OpenClaim := { program := "ytpffpjbkbaleiaagreatdoor", sum := "a49adc54028944fa0e91766533ba68b31410abc90011e47c61689fbb163b06f8", func := "kinkeep/kinkeeplaw24.ManifestBlobs", spec := "manifestBlobs", inPlace := ["internal/bytealg.CountString", "internal/bytealg.IndexByteString", "internal/bytealg.IndexString"], unfollowed := true, recurses := true, named := ["unicode/utf8.first", "unicode/utf8.acceptRanges", "internal/bytealg.MaxLen", "kinkeep/hmac.pads", "kinkeep/sha256.initial", "kinkeep/sha256.constants", "math/bits.deBruijn64tab"], plainKeys := false, apart := false, laid := [("math/bits.deBruijn64tab", laid_math_bits_deBruijn64tab), ("kinkeep/sha256.initial", laid_kinkeep_sha256_initial), ("kinkeep/sha256.constants", laid_kinkeep_sha256_constants), ("kinkeep/hmac.pads", laid_kinkeep_hmac_pads), ("unicode/utf8.acceptRanges", laid_unicode_utf8_acceptRanges), ("unicode/utf8.first", laid_unicode_utf8_first)] }
def ManifestBlobsSaid : Prop := manifestBlobsRow.holds Tryz.pinned (OpenSpec.ofChange manifestBlobsSpec)

/-- ITS FALSE NEIGHBOUR: 'it returns false'. Refute it at one input. -/
def manifestBlobsWrong : ChangeSpec := { name := "manifestBlobs", fn := fun _ => fun
  | [d] => { results := [.lit (.bool false)], args := [d] }
  | _ => none }
def ManifestBlobsWrongFalsely : Prop := manifestBlobsRow.holds Tryz.pinned (OpenSpec.ofChange manifestBlobsWrong)

/-- 'kinkeeplaw24.ManifestReturns': WHATEVER THE INPUT: true; the input reads as it did. -/
def manifestReturnsSpec : ChangeSpec := { name := "manifestReturns", fn := fun _ => fun
  | [d] => { results := [.lit (.bool true)], args := [d] }
  | _ => none }
def manifestReturnsRow : OpenClaim := { program := "ytpffpjbkbaleiaagreatdoor", sum := "a49adc54028944fa0e91766533ba68b31410abc90011e47c61689fbb163b06f8", func := "kinkeep/kinkeeplaw24.ManifestReturns", spec := "manifestReturns", inPlace := ["internal/bytealg.CountString", "internal/bytealg.IndexByteString", "internal/bytealg.IndexString"], unfollowed := true, recurses := true, named := ["unicode/utf8.first", "unicode/utf8.acceptRanges", "internal/bytealg.MaxLen", "kinkeep/hmac.pads", "kinkeep/sha256.initial", "kinkeep/sha256.constants", "math/bits.deBruijn64tab"], plainKeys := false, apart := false, laid := [("math/bits.deBruijn64tab", laid_math_bits_deBruijn64tab), ("kinkeep/sha256.initial", laid_kinkeep_sha256_initial), ("kinkeep/sha256.constants", laid_kinkeep_sha256_constants), ("kinkeep/hmac.pads", laid_kinkeep_hmac_pads), ("unicode/utf8.acceptRanges", laid_unicode_utf8_acceptRanges), ("unicode/utf8.first", laid_unicode_utf8_first)] }
def ManifestReturnsSaid : Prop := manifestReturnsRow.holds Tryz.pinned (OpenSpec.ofChange manifestReturnsSpec)

/-- ITS FALSE NEIGHBOUR: 'it returns false'. Refute it at one input. -/
def manifestReturnsWrong : ChangeSpec := { name := "manifestReturns", fn := fun _ => fun
  | [d] => { results := [.lit (.bool false)], args := [d] }
  | _ => none }
def ManifestReturnsWrongFalsely : Prop := manifestReturnsRow.holds Tryz.pinned (OpenSpec.ofChange manifestReturnsWrong)

/-- 'kinkeeplaw24.ManifestFiles': WHATEVER THE INPUT: true; the input reads as it did. -/
def manifestFilesSpec : ChangeSpec := { name := "manifestFiles", fn := fun _ => fun
  | [d1, d2] => { results := [.lit (.bool true)], args := [d1, d2] }
  | _ => none }
def manifestFilesRow : OpenClaim := { program := "ytpffpjbkbaleiaagreatdoor", sum := "a49adc54028944fa0e91766533ba68b31410abc90011e47c61689fbb163b06f8", func := "kinkeep/kinkeeplaw24.ManifestFiles", spec := "manifestFiles", inPlace := ["internal/bytealg.CountString", "internal/bytealg.IndexByteString", "internal/bytealg.IndexString"], unfollowed := true, recurses := true, named := ["unicode/utf8.first", "unicode/utf8.acceptRanges", "internal/bytealg.MaxLen", "kinkeep/hmac.pads", "kinkeep/sha256.initial", "kinkeep/sha256.constants", "math/bits.deBruijn64tab"], maps := true, plainKeys := false, apart := false, laid := [("math/bits.deBruijn64tab", laid_math_bits_deBruijn64tab), ("kinkeep/sha256.initial", laid_kinkeep_sha256_initial), ("kinkeep/sha256.constants", laid_kinkeep_sha256_constants), ("kinkeep/hmac.pads", laid_kinkeep_hmac_pads), ("unicode/utf8.acceptRanges", laid_unicode_utf8_acceptRanges), ("unicode/utf8.first", laid_unicode_utf8_first)] }
def ManifestFilesSaid : Prop := manifestFilesRow.holds Tryz.pinned (OpenSpec.ofChange manifestFilesSpec)

/-- ITS FALSE NEIGHBOUR: 'it returns false'. Refute it at one input. -/
def manifestFilesWrong : ChangeSpec := { name := "manifestFiles", fn := fun _ => fun
  | [d1, d2] => { results := [.lit (.bool false)], args := [d1, d2] }
  | _ => none }
def ManifestFilesWrongFalsely : Prop := manifestFilesRow.holds Tryz.pinned (OpenSpec.ofChange manifestFilesWrong)

/-- 'kinkeeplaw24.ManifestNeeds': WHATEVER THE INPUT: true; the input reads as it did. -/
def manifestNeedsSpec : ChangeSpec := { name := "manifestNeeds", fn := fun _ => fun
  | [d1, d2, d3] => { results := [.lit (.bool true)], args := [d1, d2, d3] }
  | _ => none }
def manifestNeedsRow : OpenClaim := { program := "ytpffpjbkbaleiaagreatdoor", sum := "a49adc54028944fa0e91766533ba68b31410abc90011e47c61689fbb163b06f8", func := "kinkeep/kinkeeplaw24.ManifestNeeds", spec := "manifestNeeds", inPlace := ["internal/bytealg.CountString", "internal/bytealg.IndexByteString", "internal/bytealg.IndexString"], unfollowed := true, recurses := true, named := ["unicode/utf8.first", "unicode/utf8.acceptRanges", "internal/bytealg.MaxLen", "kinkeep/hmac.pads", "kinkeep/sha256.initial", "kinkeep/sha256.constants", "math/bits.deBruijn64tab"], maps := true, plainKeys := false, apart := false, laid := [("math/bits.deBruijn64tab", laid_math_bits_deBruijn64tab), ("kinkeep/sha256.initial", laid_kinkeep_sha256_initial), ("kinkeep/sha256.constants", laid_kinkeep_sha256_constants), ("kinkeep/hmac.pads", laid_kinkeep_hmac_pads), ("unicode/utf8.acceptRanges", laid_unicode_utf8_acceptRanges), ("unicode/utf8.first", laid_unicode_utf8_first)] }
def ManifestNeedsSaid : Prop := manifestNeedsRow.holds Tryz.pinned (OpenSpec.ofChange manifestNeedsSpec)

/-- ITS FALSE NEIGHBOUR: 'it returns false'. Refute it at one input. -/
def manifestNeedsWrong : ChangeSpec := { name := "manifestNeeds", fn := fun _ => fun
  | [d1, d2, d3] => { results := [.lit (.bool false)], args := [d1, d2, d3] }
  | _ => none }
def ManifestNeedsWrongFalsely : Prop := manifestNeedsRow.holds Tryz.pinned (OpenSpec.ofChange manifestNeedsWrong)

/-- 'kinkeeplaw24.ManifestShares': WHATEVER THE INPUT: true; the input reads as it did. -/
def manifestSharesSpec : ChangeSpec := { name := "manifestShares", fn := fun _ => fun
  | [d1, d2, d3, d4] => { results := [.lit (.bool true)], args := [d1, d2, d3, d4] }
  | _ => none }
def manifestSharesRow : OpenClaim := { program := "ytpffpjbkbaleiaagreatdoor", sum := "a49adc54028944fa0e91766533ba68b31410abc90011e47c61689fbb163b06f8", func := "kinkeep/kinkeeplaw24.ManifestShares", spec := "manifestShares", inPlace := ["internal/bytealg.CountString", "internal/bytealg.IndexByteString", "internal/bytealg.IndexString"], unfollowed := true, recurses := true, named := ["unicode/utf8.first", "unicode/utf8.acceptRanges", "internal/bytealg.MaxLen", "kinkeep/hmac.pads", "kinkeep/sha256.initial", "kinkeep/sha256.constants", "math/bits.deBruijn64tab"], plainKeys := false, apart := false, laid := [("math/bits.deBruijn64tab", laid_math_bits_deBruijn64tab), ("kinkeep/sha256.initial", laid_kinkeep_sha256_initial), ("kinkeep/sha256.constants", laid_kinkeep_sha256_constants), ("kinkeep/hmac.pads", laid_kinkeep_hmac_pads), ("unicode/utf8.acceptRanges", laid_unicode_utf8_acceptRanges), ("unicode/utf8.first", laid_unicode_utf8_first)] }
def ManifestSharesSaid : Prop := manifestSharesRow.holds Tryz.pinned (OpenSpec.ofChange manifestSharesSpec)

/-- ITS FALSE NEIGHBOUR: 'it returns false'. Refute it at one input. -/
def manifestSharesWrong : ChangeSpec := { name := "manifestShares", fn := fun _ => fun
  | [d1, d2, d3, d4] => { results := [.lit (.bool false)], args := [d1, d2, d3, d4] }
  | _ => none }
def ManifestSharesWrongFalsely : Prop := manifestSharesRow.holds Tryz.pinned (OpenSpec.ofChange manifestSharesWrong)

/- THE SECOND FORM. 'bulk': how many values and letters a reading holds, each counted each time it is reached (what is shared counts as often as it is met; a slice's spare places count too). A statement '..UptoSaid' is the law's where the arguments, and the package variables that the reading takes, are together of bulk at most 1048576: NARROWER than '..Said'. Prove '..Said' where nothing that the law and all that it calls make is longer than what came in: it says more and counts as full. Else prove '..UptoSaid'. A law counts once. -/
mutual
def uptoBulk {H : Type} : DataW H → Nat
  | .lit (.string bytes) => bytes.length + 1
  | .lit _ => 1
  | .nil => 1
  | .ptr d => uptoBulk d + 1
  | .slice elems spare => uptoBulkAll elems + uptoBulkAll spare + 1
  | .agg parts => uptoBulkAll parts + 1
  | .iface _ d => uptoBulk d + 1
  | .map entries => uptoBulkEntries entries + 1
  | .held _ => 1
def uptoBulkAll {H : Type} : List (DataW H) → Nat
  | [] => 0
  | d :: r => uptoBulk d + uptoBulkAll r
def uptoBulkEntries {H : Type} : List (Lit × DataW H) → Nat
  | [] => 0
  | x :: r => uptoBulkEntry x + uptoBulkEntries r
def uptoBulkEntry {H : Type} : Lit × DataW H → Nat
  | (.string bytes, d) => bytes.length + uptoBulk d + 1
  | (_, d) => uptoBulk d + 1
 end
def uptoSmall : (H : Type) → List (DataW H) → Bool := fun _ ds => decide (uptoBulkAll ds ≤ 1048576)
def OpenSpec.upto (s : _root_.Go.ChangeSpec) : _root_.Go.OpenSpec := { _root_.Go.OpenSpec.ofChange s with cond := some uptoSmall }

/-- 'kinkeeplaw24.ManifestNodes', WHERE WHAT IT READS IS OF BULK AT MOST 1048576: true; the input reads as it did. -/
def manifestNodesUptoRow : OpenClaim := { program := "ytpffpjbkbaleiaagreatdoor", sum := "a49adc54028944fa0e91766533ba68b31410abc90011e47c61689fbb163b06f8", func := "kinkeep/kinkeeplaw24.ManifestNodes", spec := "manifestNodes", inPlace := ["internal/bytealg.CountString", "internal/bytealg.IndexByteString", "internal/bytealg.IndexString"], unfollowed := true, recurses := true, named := ["unicode/utf8.first", "unicode/utf8.acceptRanges", "internal/bytealg.MaxLen", "kinkeep/hmac.pads", "kinkeep/sha256.initial", "kinkeep/sha256.constants", "math/bits.deBruijn64tab"], plainKeys := false, apart := false, laid := [("math/bits.deBruijn64tab", laid_math_bits_deBruijn64tab), ("kinkeep/sha256.initial", laid_kinkeep_sha256_initial), ("kinkeep/sha256.constants", laid_kinkeep_sha256_constants), ("kinkeep/hmac.pads", laid_kinkeep_hmac_pads), ("unicode/utf8.acceptRanges", laid_unicode_utf8_acceptRanges), ("unicode/utf8.first", laid_unicode_utf8_first)], narrowed := true }
def ManifestNodesUptoSaid : Prop := manifestNodesUptoRow.holds Tryz.pinned (OpenSpec.upto manifestNodesSpec)

/-- 'kinkeeplaw24.ManifestItems', WHERE WHAT IT READS IS OF BULK AT MOST 1048576: true; the input reads as it did. -/
def manifestItemsUptoRow : OpenClaim := { program := "ytpffpjbkbaleiaagreatdoor", sum := "a49adc54028944fa0e91766533ba68b31410abc90011e47c61689fbb163b06f8", func := "kinkeep/kinkeeplaw24.ManifestItems", spec := "manifestItems", inPlace := ["internal/bytealg.CountString", "internal/bytealg.IndexByteString", "internal/bytealg.IndexString"], unfollowed := true, recurses := true, named := ["unicode/utf8.first", "unicode/utf8.acceptRanges", "internal/bytealg.MaxLen", "kinkeep/hmac.pads", "kinkeep/sha256.initial", "kinkeep/sha256.constants", "math/bits.deBruijn64tab"], plainKeys := false, apart := false, laid := [("math/bits.deBruijn64tab", laid_math_bits_deBruijn64tab), ("kinkeep/sha256.initial", laid_kinkeep_sha256_initial), ("kinkeep/sha256.constants", laid_kinkeep_sha256_constants), ("kinkeep/hmac.pads", laid_kinkeep_hmac_pads), ("unicode/utf8.acceptRanges", laid_unicode_utf8_acceptRanges), ("unicode/utf8.first", laid_unicode_utf8_first)], narrowed := true }
def ManifestItemsUptoSaid : Prop := manifestItemsUptoRow.holds Tryz.pinned (OpenSpec.upto manifestItemsSpec)

/-- 'kinkeeplaw24.ManifestBuilds', WHERE WHAT IT READS IS OF BULK AT MOST 1048576: true; the input reads as it did. -/
def manifestBuildsUptoRow : OpenClaim := { program := "ytpffpjbkbaleiaagreatdoor", sum := "a49adc54028944fa0e91766533ba68b31410abc90011e47c61689fbb163b06f8", func := "kinkeep/kinkeeplaw24.ManifestBuilds", spec := "manifestBuilds", inPlace := ["internal/bytealg.CountString", "internal/bytealg.IndexByteString", "internal/bytealg.IndexString"], unfollowed := true, recurses := true, named := ["unicode/utf8.first", "unicode/utf8.acceptRanges", "internal/bytealg.MaxLen", "kinkeep/hmac.pads", "kinkeep/sha256.initial", "kinkeep/sha256.constants", "math/bits.deBruijn64tab"], maps := true, plainKeys := false, apart := false, laid := [("math/bits.deBruijn64tab", laid_math_bits_deBruijn64tab), ("kinkeep/sha256.initial", laid_kinkeep_sha256_initial), ("kinkeep/sha256.constants", laid_kinkeep_sha256_constants), ("kinkeep/hmac.pads", laid_kinkeep_hmac_pads), ("unicode/utf8.acceptRanges", laid_unicode_utf8_acceptRanges), ("unicode/utf8.first", laid_unicode_utf8_first)], narrowed := true }
def ManifestBuildsUptoSaid : Prop := manifestBuildsUptoRow.holds Tryz.pinned (OpenSpec.upto manifestBuildsSpec)

/-- 'kinkeeplaw24.ManifestLoads', WHERE WHAT IT READS IS OF BULK AT MOST 1048576: true; the input reads as it did. -/
def manifestLoadsUptoRow : OpenClaim := { program := "ytpffpjbkbaleiaagreatdoor", sum := "a49adc54028944fa0e91766533ba68b31410abc90011e47c61689fbb163b06f8", func := "kinkeep/kinkeeplaw24.ManifestLoads", spec := "manifestLoads", inPlace := ["internal/bytealg.CountString", "internal/bytealg.IndexByteString", "internal/bytealg.IndexString"], unfollowed := true, recurses := true, named := ["unicode/utf8.first", "unicode/utf8.acceptRanges", "internal/bytealg.MaxLen", "kinkeep/hmac.pads", "kinkeep/sha256.initial", "kinkeep/sha256.constants", "math/bits.deBruijn64tab"], maps := true, plainKeys := false, apart := false, laid := [("math/bits.deBruijn64tab", laid_math_bits_deBruijn64tab), ("kinkeep/sha256.initial", laid_kinkeep_sha256_initial), ("kinkeep/sha256.constants", laid_kinkeep_sha256_constants), ("kinkeep/hmac.pads", laid_kinkeep_hmac_pads), ("unicode/utf8.acceptRanges", laid_unicode_utf8_acceptRanges), ("unicode/utf8.first", laid_unicode_utf8_first)], narrowed := true }
def ManifestLoadsUptoSaid : Prop := manifestLoadsUptoRow.holds Tryz.pinned (OpenSpec.upto manifestLoadsSpec)

/-- 'kinkeeplaw24.ManifestLookups', WHERE WHAT IT READS IS OF BULK AT MOST 1048576: true; the input reads as it did. -/
def manifestLookupsUptoRow : OpenClaim := { program := "ytpffpjbkbaleiaagreatdoor", sum := "a49adc54028944fa0e91766533ba68b31410abc90011e47c61689fbb163b06f8", func := "kinkeep/kinkeeplaw24.ManifestLookups", spec := "manifestLookups", inPlace := ["internal/bytealg.CountString", "internal/bytealg.IndexByteString", "internal/bytealg.IndexString"], unfollowed := true, recurses := true, named := ["unicode/utf8.first", "unicode/utf8.acceptRanges", "internal/bytealg.MaxLen", "kinkeep/hmac.pads", "kinkeep/sha256.initial", "kinkeep/sha256.constants", "math/bits.deBruijn64tab"], maps := true, plainKeys := false, apart := false, laid := [("math/bits.deBruijn64tab", laid_math_bits_deBruijn64tab), ("kinkeep/sha256.initial", laid_kinkeep_sha256_initial), ("kinkeep/sha256.constants", laid_kinkeep_sha256_constants), ("kinkeep/hmac.pads", laid_kinkeep_hmac_pads), ("unicode/utf8.acceptRanges", laid_unicode_utf8_acceptRanges), ("unicode/utf8.first", laid_unicode_utf8_first)], narrowed := true }
def ManifestLookupsUptoSaid : Prop := manifestLookupsUptoRow.holds Tryz.pinned (OpenSpec.upto manifestLookupsSpec)

/-- 'kinkeeplaw24.ManifestCompletes', WHERE WHAT IT READS IS OF BULK AT MOST 1048576: true; the input reads as it did. -/
def manifestCompletesUptoRow : OpenClaim := { program := "ytpffpjbkbaleiaagreatdoor", sum := "a49adc54028944fa0e91766533ba68b31410abc90011e47c61689fbb163b06f8", func := "kinkeep/kinkeeplaw24.ManifestCompletes", spec := "manifestCompletes", inPlace := ["internal/bytealg.CountString", "internal/bytealg.IndexByteString", "internal/bytealg.IndexString"], unfollowed := true, recurses := true, named := ["unicode/utf8.first", "unicode/utf8.acceptRanges", "internal/bytealg.MaxLen", "kinkeep/hmac.pads", "kinkeep/sha256.initial", "kinkeep/sha256.constants", "math/bits.deBruijn64tab"], plainKeys := false, apart := false, laid := [("math/bits.deBruijn64tab", laid_math_bits_deBruijn64tab), ("kinkeep/sha256.initial", laid_kinkeep_sha256_initial), ("kinkeep/sha256.constants", laid_kinkeep_sha256_constants), ("kinkeep/hmac.pads", laid_kinkeep_hmac_pads), ("unicode/utf8.acceptRanges", laid_unicode_utf8_acceptRanges), ("unicode/utf8.first", laid_unicode_utf8_first)], narrowed := true }
def ManifestCompletesUptoSaid : Prop := manifestCompletesUptoRow.holds Tryz.pinned (OpenSpec.upto manifestCompletesSpec)

/-- 'kinkeeplaw24.ManifestBlobs', WHERE WHAT IT READS IS OF BULK AT MOST 1048576: true; the input reads as it did. -/
def manifestBlobsUptoRow : OpenClaim := { program := "ytpffpjbkbaleiaagreatdoor", sum := "a49adc54028944fa0e91766533ba68b31410abc90011e47c61689fbb163b06f8", func := "kinkeep/kinkeeplaw24.ManifestBlobs", spec := "manifestBlobs", inPlace := ["internal/bytealg.CountString", "internal/bytealg.IndexByteString", "internal/bytealg.IndexString"], unfollowed := true, recurses := true, named := ["unicode/utf8.first", "unicode/utf8.acceptRanges", "internal/bytealg.MaxLen", "kinkeep/hmac.pads", "kinkeep/sha256.initial", "kinkeep/sha256.constants", "math/bits.deBruijn64tab"], plainKeys := false, apart := false, laid := [("math/bits.deBruijn64tab", laid_math_bits_deBruijn64tab), ("kinkeep/sha256.initial", laid_kinkeep_sha256_initial), ("kinkeep/sha256.constants", laid_kinkeep_sha256_constants), ("kinkeep/hmac.pads", laid_kinkeep_hmac_pads), ("unicode/utf8.acceptRanges", laid_unicode_utf8_acceptRanges), ("unicode/utf8.first", laid_unicode_utf8_first)], narrowed := true }
def ManifestBlobsUptoSaid : Prop := manifestBlobsUptoRow.holds Tryz.pinned (OpenSpec.upto manifestBlobsSpec)

/-- 'kinkeeplaw24.ManifestReturns', WHERE WHAT IT READS IS OF BULK AT MOST 1048576: true; the input reads as it did. -/
def manifestReturnsUptoRow : OpenClaim := { program := "ytpffpjbkbaleiaagreatdoor", sum := "a49adc54028944fa0e91766533ba68b31410abc90011e47c61689fbb163b06f8", func := "kinkeep/kinkeeplaw24.ManifestReturns", spec := "manifestReturns", inPlace := ["internal/bytealg.CountString", "internal/bytealg.IndexByteString", "internal/bytealg.IndexString"], unfollowed := true, recurses := true, named := ["unicode/utf8.first", "unicode/utf8.acceptRanges", "internal/bytealg.MaxLen", "kinkeep/hmac.pads", "kinkeep/sha256.initial", "kinkeep/sha256.constants", "math/bits.deBruijn64tab"], plainKeys := false, apart := false, laid := [("math/bits.deBruijn64tab", laid_math_bits_deBruijn64tab), ("kinkeep/sha256.initial", laid_kinkeep_sha256_initial), ("kinkeep/sha256.constants", laid_kinkeep_sha256_constants), ("kinkeep/hmac.pads", laid_kinkeep_hmac_pads), ("unicode/utf8.acceptRanges", laid_unicode_utf8_acceptRanges), ("unicode/utf8.first", laid_unicode_utf8_first)], narrowed := true }
def ManifestReturnsUptoSaid : Prop := manifestReturnsUptoRow.holds Tryz.pinned (OpenSpec.upto manifestReturnsSpec)

/-- 'kinkeeplaw24.ManifestFiles', WHERE WHAT IT READS IS OF BULK AT MOST 1048576: true; the input reads as it did. -/
def manifestFilesUptoRow : OpenClaim := { program := "ytpffpjbkbaleiaagreatdoor", sum := "a49adc54028944fa0e91766533ba68b31410abc90011e47c61689fbb163b06f8", func := "kinkeep/kinkeeplaw24.ManifestFiles", spec := "manifestFiles", inPlace := ["internal/bytealg.CountString", "internal/bytealg.IndexByteString", "internal/bytealg.IndexString"], unfollowed := true, recurses := true, named := ["unicode/utf8.first", "unicode/utf8.acceptRanges", "internal/bytealg.MaxLen", "kinkeep/hmac.pads", "kinkeep/sha256.initial", "kinkeep/sha256.constants", "math/bits.deBruijn64tab"], maps := true, plainKeys := false, apart := false, laid := [("math/bits.deBruijn64tab", laid_math_bits_deBruijn64tab), ("kinkeep/sha256.initial", laid_kinkeep_sha256_initial), ("kinkeep/sha256.constants", laid_kinkeep_sha256_constants), ("kinkeep/hmac.pads", laid_kinkeep_hmac_pads), ("unicode/utf8.acceptRanges", laid_unicode_utf8_acceptRanges), ("unicode/utf8.first", laid_unicode_utf8_first)], narrowed := true }
def ManifestFilesUptoSaid : Prop := manifestFilesUptoRow.holds Tryz.pinned (OpenSpec.upto manifestFilesSpec)

/-- 'kinkeeplaw24.ManifestNeeds', WHERE WHAT IT READS IS OF BULK AT MOST 1048576: true; the input reads as it did. -/
def manifestNeedsUptoRow : OpenClaim := { program := "ytpffpjbkbaleiaagreatdoor", sum := "a49adc54028944fa0e91766533ba68b31410abc90011e47c61689fbb163b06f8", func := "kinkeep/kinkeeplaw24.ManifestNeeds", spec := "manifestNeeds", inPlace := ["internal/bytealg.CountString", "internal/bytealg.IndexByteString", "internal/bytealg.IndexString"], unfollowed := true, recurses := true, named := ["unicode/utf8.first", "unicode/utf8.acceptRanges", "internal/bytealg.MaxLen", "kinkeep/hmac.pads", "kinkeep/sha256.initial", "kinkeep/sha256.constants", "math/bits.deBruijn64tab"], maps := true, plainKeys := false, apart := false, laid := [("math/bits.deBruijn64tab", laid_math_bits_deBruijn64tab), ("kinkeep/sha256.initial", laid_kinkeep_sha256_initial), ("kinkeep/sha256.constants", laid_kinkeep_sha256_constants), ("kinkeep/hmac.pads", laid_kinkeep_hmac_pads), ("unicode/utf8.acceptRanges", laid_unicode_utf8_acceptRanges), ("unicode/utf8.first", laid_unicode_utf8_first)], narrowed := true }
def ManifestNeedsUptoSaid : Prop := manifestNeedsUptoRow.holds Tryz.pinned (OpenSpec.upto manifestNeedsSpec)

/-- 'kinkeeplaw24.ManifestShares', WHERE WHAT IT READS IS OF BULK AT MOST 1048576: true; the input reads as it did. -/
def manifestSharesUptoRow : OpenClaim := { program := "ytpffpjbkbaleiaagreatdoor", sum := "a49adc54028944fa0e91766533ba68b31410abc90011e47c61689fbb163b06f8", func := "kinkeep/kinkeeplaw24.ManifestShares", spec := "manifestShares", inPlace := ["internal/bytealg.CountString", "internal/bytealg.IndexByteString", "internal/bytealg.IndexString"], unfollowed := true, recurses := true, named := ["unicode/utf8.first", "unicode/utf8.acceptRanges", "internal/bytealg.MaxLen", "kinkeep/hmac.pads", "kinkeep/sha256.initial", "kinkeep/sha256.constants", "math/bits.deBruijn64tab"], plainKeys := false, apart := false, laid := [("math/bits.deBruijn64tab", laid_math_bits_deBruijn64tab), ("kinkeep/sha256.initial", laid_kinkeep_sha256_initial), ("kinkeep/sha256.constants", laid_kinkeep_sha256_constants), ("kinkeep/hmac.pads", laid_kinkeep_hmac_pads), ("unicode/utf8.acceptRanges", laid_unicode_utf8_acceptRanges), ("unicode/utf8.first", laid_unicode_utf8_first)], narrowed := true }
def ManifestSharesUptoSaid : Prop := manifestSharesUptoRow.holds Tryz.pinned (OpenSpec.upto manifestSharesSpec)

end Rows
end Go.Proofs.YtpffpjbkbaleiaaGreatDoor
