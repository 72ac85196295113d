/-
  DERIVED. GIVEN WITH THE SEED: THE CARDS: each row of YtbkhdpocmmjnbaaGreatDoorRows.lean that lists a variable, with what it lists TIED to the program's text (the seventh form; the later family's looks); each row that meets fmt, with fmt's text TOLD by the authors' own Lean function (tested against real Go, not proved from fmt's source: count such statements apart). THE CARD IS WHAT COUNTS. Prove the row's statement (the work); the ties are given (YtbkhdpocmmjnbaaGreatDoorTie.lean); close each card by the builder's one call (the guide's Derived/Test/ToyasCard.lean, 'card_holds'). Laid BY PROGRAM, IN A SANDBOX (cutbox-door.mjs). By AI agents, Wed Nov 11 2026. No macro, syntax, notation, axiom, sorry.
-/
import Derived.Test.YtbkhdpocmmjnbaaGreatDoorRows
import GoSem.ClaimSeven
namespace Go.Proofs.YtbkhdpocmmjnbaaGreatDoor
namespace Rows

/-- THE TIED CARD OF 'kinkeeplaw20.FiletreeRuns'. -/
def filetreeRunsCard : Claim7 := { stood := { row := filetreeRunsRow, standIns := [], harness := (true, "2207397a227789d21932012cf5ef2a1caaf28db5b6cb1625a63e75549e1d9883"), looks := false }, kinds := [], alts := [], laidByText := true, laidKinds := [.data, .pinned], laidTests := true, laidLooks := .later }
def FiletreeRunsCardSaid : Prop := Claim7.holds Tryz.pinned (.plain (OpenSpec.ofChange filetreeRunsSpec)) filetreeRunsCard

/-- THE TIED CARD OF 'kinkeeplaw20.FiletreeReads'. -/
def filetreeReadsCard : Claim7 := { stood := { row := filetreeReadsRow, standIns := [], harness := (true, "2207397a227789d21932012cf5ef2a1caaf28db5b6cb1625a63e75549e1d9883"), looks := false }, kinds := [], alts := [], laidByText := true, laidKinds := [.data, .pinned], laidTests := true, laidLooks := .later }
def FiletreeReadsCardSaid : Prop := Claim7.holds Tryz.pinned (.plain (OpenSpec.ofChange filetreeReadsSpec)) filetreeReadsCard

/-- THE SECOND FORM's CARD OF 'kinkeeplaw20.FiletreeRuns'. -/
def filetreeRunsUptoCard : Claim7 := { stood := { row := filetreeRunsUptoRow, standIns := [], harness := (true, "2207397a227789d21932012cf5ef2a1caaf28db5b6cb1625a63e75549e1d9883"), looks := false }, kinds := [], alts := [], laidByText := true, laidKinds := [.data, .pinned], laidTests := true, laidLooks := .later }
def FiletreeRunsUptoCardSaid : Prop := Claim7.holds Tryz.pinned (.plain (OpenSpec.upto filetreeRunsSpec)) filetreeRunsUptoCard

/-- THE SECOND FORM's CARD OF 'kinkeeplaw20.FiletreeReads'. -/
def filetreeReadsUptoCard : Claim7 := { stood := { row := filetreeReadsUptoRow, standIns := [], harness := (true, "2207397a227789d21932012cf5ef2a1caaf28db5b6cb1625a63e75549e1d9883"), looks := false }, kinds := [], alts := [], laidByText := true, laidKinds := [.data, .pinned], laidTests := true, laidLooks := .later }
def FiletreeReadsUptoCardSaid : Prop := Claim7.holds Tryz.pinned (.plain (OpenSpec.upto filetreeReadsSpec)) filetreeReadsUptoCard
end Rows
end Go.Proofs.YtbkhdpocmmjnbaaGreatDoor
