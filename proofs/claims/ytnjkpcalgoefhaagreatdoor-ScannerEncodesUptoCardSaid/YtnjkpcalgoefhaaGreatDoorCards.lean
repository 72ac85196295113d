/-
  DERIVED. GIVEN WITH THE SEED: THE CARDS: each row of YtnjkpcalgoefhaaGreatDoorRows.lean that lists a variable, with what it lists TIED to the program's text (the seventh form; the later family's looks); each row that meets fmt, with fmt's text TOLD by the authors' own Lean function (tested against real Go, not proved from fmt's source: count such statements apart). THE CARD IS WHAT COUNTS. Prove the row's statement (the work); the ties are given (YtnjkpcalgoefhaaGreatDoorTie.lean); close each card by the builder's one call (the guide's Derived/Test/ToyasCard.lean, 'card_holds'). Laid BY PROGRAM, IN A SANDBOX (cutbox-door.mjs). By AI agents, Wed Nov 11 2026. No macro, syntax, notation, axiom, sorry.
-/
import Derived.Test.YtnjkpcalgoefhaaGreatDoorRows
import GoSem.ClaimSeven
namespace Go.Proofs.YtnjkpcalgoefhaaGreatDoor
namespace Rows

/-- THE TIED CARD OF 'kinkeeplaw22.ScannerValid'. -/
def scannerValidCard : Claim7 := { stood := { row := scannerValidRow, standIns := [], harness := (true, "b7e89b7cd8bd577262952bf9cb9c9a46816fa2cc0266a92bfc78537afd9419f4"), looks := false }, kinds := [], alts := [], laidByText := true, laidKinds := [.data, .data, .data, .data, .pinned], laidTests := true, laidLooks := .later }
def ScannerValidCardSaid : Prop := Claim7.holds Tryz.pinned (.plain (OpenSpec.ofChange scannerValidSpec)) scannerValidCard

/-- THE TIED CARD OF 'kinkeeplaw22.ScannerQuiet'. -/
def scannerQuietCard : Claim7 := { stood := { row := scannerQuietRow, standIns := [], harness := (true, "b7e89b7cd8bd577262952bf9cb9c9a46816fa2cc0266a92bfc78537afd9419f4"), looks := false }, kinds := [], alts := [], laidByText := true, laidKinds := [.data, .data, .data, .data, .pinned], laidTests := true, laidLooks := .later }
def ScannerQuietCardSaid : Prop := Claim7.holds Tryz.pinned (.plain (OpenSpec.ofChange scannerQuietSpec)) scannerQuietCard

/-- THE TIED CARD OF 'kinkeeplaw22.ScannerFresh'. -/
def scannerFreshCard : Claim7 := { stood := { row := scannerFreshRow, standIns := [], harness := (true, "b7e89b7cd8bd577262952bf9cb9c9a46816fa2cc0266a92bfc78537afd9419f4"), looks := false }, kinds := [], alts := [], laidByText := true, laidKinds := [.data, .data, .data, .data, .pinned], laidTests := true, laidLooks := .later }
def ScannerFreshCardSaid : Prop := Claim7.holds Tryz.pinned (.plain (OpenSpec.ofChange scannerFreshSpec)) scannerFreshCard

/-- THE TIED CARD OF 'kinkeeplaw22.ScannerChanges'. -/
def scannerChangesCard : Claim7 := { stood := { row := scannerChangesRow, standIns := [], harness := (true, "b7e89b7cd8bd577262952bf9cb9c9a46816fa2cc0266a92bfc78537afd9419f4"), looks := false }, kinds := [], alts := [], laidByText := true, laidKinds := [.data, .data, .data, .data, .pinned], laidTests := true, laidLooks := .later }
def ScannerChangesCardSaid : Prop := Claim7.holds Tryz.pinned (.plain (OpenSpec.ofChange scannerChangesSpec)) scannerChangesCard

/-- THE TIED CARD OF 'kinkeeplaw22.ScannerDecodes'. -/
def scannerDecodesCard : Claim7 := { stood := { row := scannerDecodesRow, standIns := [], harness := (true, "b7e89b7cd8bd577262952bf9cb9c9a46816fa2cc0266a92bfc78537afd9419f4"), looks := false }, kinds := [], alts := [], laidByText := true, laidKinds := [.data, .data, .data, .data, .pinned], laidTests := true, laidLooks := .later }
def ScannerDecodesCardSaid : Prop := Claim7.holds Tryz.pinned (.plain (OpenSpec.ofChange scannerDecodesSpec)) scannerDecodesCard

/-- THE TIED CARD OF 'kinkeeplaw22.ScannerEncodes'. -/
def scannerEncodesCard : Claim7 := { stood := { row := scannerEncodesRow, standIns := [], harness := (true, "b7e89b7cd8bd577262952bf9cb9c9a46816fa2cc0266a92bfc78537afd9419f4"), looks := false }, kinds := [], alts := [], laidByText := true, laidKinds := [.data, .data, .data, .data, .pinned], laidTests := true, laidLooks := .later }
def ScannerEncodesCardSaid : Prop := Claim7.holds Tryz.pinned (.plain (OpenSpec.ofChange scannerEncodesSpec)) scannerEncodesCard

/-- THE TIED CARD OF 'kinkeeplaw22.ScannerContents'. -/
def scannerContentsCard : Claim7 := { stood := { row := scannerContentsRow, standIns := [], harness := (true, "b7e89b7cd8bd577262952bf9cb9c9a46816fa2cc0266a92bfc78537afd9419f4"), looks := false }, kinds := [], alts := [], laidByText := true, laidKinds := [.data, .data, .data, .data, .pinned], laidTests := true, laidLooks := .later }
def ScannerContentsCardSaid : Prop := Claim7.holds Tryz.pinned (.plain (OpenSpec.ofChange scannerContentsSpec)) scannerContentsCard

/-- THE SECOND FORM's CARD OF 'kinkeeplaw22.ScannerValid'. -/
def scannerValidUptoCard : Claim7 := { stood := { row := scannerValidUptoRow, standIns := [], harness := (true, "b7e89b7cd8bd577262952bf9cb9c9a46816fa2cc0266a92bfc78537afd9419f4"), looks := false }, kinds := [], alts := [], laidByText := true, laidKinds := [.data, .data, .data, .data, .pinned], laidTests := true, laidLooks := .later }
def ScannerValidUptoCardSaid : Prop := Claim7.holds Tryz.pinned (.plain (OpenSpec.upto scannerValidSpec)) scannerValidUptoCard

/-- THE SECOND FORM's CARD OF 'kinkeeplaw22.ScannerQuiet'. -/
def scannerQuietUptoCard : Claim7 := { stood := { row := scannerQuietUptoRow, standIns := [], harness := (true, "b7e89b7cd8bd577262952bf9cb9c9a46816fa2cc0266a92bfc78537afd9419f4"), looks := false }, kinds := [], alts := [], laidByText := true, laidKinds := [.data, .data, .data, .data, .pinned], laidTests := true, laidLooks := .later }
def ScannerQuietUptoCardSaid : Prop := Claim7.holds Tryz.pinned (.plain (OpenSpec.upto scannerQuietSpec)) scannerQuietUptoCard

/-- THE SECOND FORM's CARD OF 'kinkeeplaw22.ScannerFresh'. -/
def scannerFreshUptoCard : Claim7 := { stood := { row := scannerFreshUptoRow, standIns := [], harness := (true, "b7e89b7cd8bd577262952bf9cb9c9a46816fa2cc0266a92bfc78537afd9419f4"), looks := false }, kinds := [], alts := [], laidByText := true, laidKinds := [.data, .data, .data, .data, .pinned], laidTests := true, laidLooks := .later }
def ScannerFreshUptoCardSaid : Prop := Claim7.holds Tryz.pinned (.plain (OpenSpec.upto scannerFreshSpec)) scannerFreshUptoCard

/-- THE SECOND FORM's CARD OF 'kinkeeplaw22.ScannerChanges'. -/
def scannerChangesUptoCard : Claim7 := { stood := { row := scannerChangesUptoRow, standIns := [], harness := (true, "b7e89b7cd8bd577262952bf9cb9c9a46816fa2cc0266a92bfc78537afd9419f4"), looks := false }, kinds := [], alts := [], laidByText := true, laidKinds := [.data, .data, .data, .data, .pinned], laidTests := true, laidLooks := .later }
def ScannerChangesUptoCardSaid : Prop := Claim7.holds Tryz.pinned (.plain (OpenSpec.upto scannerChangesSpec)) scannerChangesUptoCard

/-- THE SECOND FORM's CARD OF 'kinkeeplaw22.ScannerDecodes'. -/
def scannerDecodesUptoCard : Claim7 := { stood := { row := scannerDecodesUptoRow, standIns := [], harness := (true, "b7e89b7cd8bd577262952bf9cb9c9a46816fa2cc0266a92bfc78537afd9419f4"), looks := false }, kinds := [], alts := [], laidByText := true, laidKinds := [.data, .data, .data, .data, .pinned], laidTests := true, laidLooks := .later }
def ScannerDecodesUptoCardSaid : Prop := Claim7.holds Tryz.pinned (.plain (OpenSpec.upto scannerDecodesSpec)) scannerDecodesUptoCard

/-- THE SECOND FORM's CARD OF 'kinkeeplaw22.ScannerEncodes'. -/
def scannerEncodesUptoCard : Claim7 := { stood := { row := scannerEncodesUptoRow, standIns := [], harness := (true, "b7e89b7cd8bd577262952bf9cb9c9a46816fa2cc0266a92bfc78537afd9419f4"), looks := false }, kinds := [], alts := [], laidByText := true, laidKinds := [.data, .data, .data, .data, .pinned], laidTests := true, laidLooks := .later }
def ScannerEncodesUptoCardSaid : Prop := Claim7.holds Tryz.pinned (.plain (OpenSpec.upto scannerEncodesSpec)) scannerEncodesUptoCard

/-- THE SECOND FORM's CARD OF 'kinkeeplaw22.ScannerContents'. -/
def scannerContentsUptoCard : Claim7 := { stood := { row := scannerContentsUptoRow, standIns := [], harness := (true, "b7e89b7cd8bd577262952bf9cb9c9a46816fa2cc0266a92bfc78537afd9419f4"), looks := false }, kinds := [], alts := [], laidByText := true, laidKinds := [.data, .data, .data, .data, .pinned], laidTests := true, laidLooks := .later }
def ScannerContentsUptoCardSaid : Prop := Claim7.holds Tryz.pinned (.plain (OpenSpec.upto scannerContentsSpec)) scannerContentsUptoCard
end Rows
end Go.Proofs.YtnjkpcalgoefhaaGreatDoor
