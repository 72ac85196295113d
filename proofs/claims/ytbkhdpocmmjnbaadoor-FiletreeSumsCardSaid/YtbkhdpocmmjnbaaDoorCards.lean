/-
  DERIVED. GIVEN WITH THE SEED: THE CARDS: each row of YtbkhdpocmmjnbaaDoorRows.lean that lists a variable, with what it lists TIED to the program's text (the seventh form; the later family's looks); each row that meets fmt, with fmt's text TOLD by the authors' own Lean function (tested against real Go, not proved from fmt's source: count such statements apart). THE CARD IS WHAT COUNTS. Prove the row's statement (the work); the ties are given (YtbkhdpocmmjnbaaDoorTie.lean); close each card by the builder's one call (the guide's Derived/Test/ToyasCard.lean, 'card_holds'). Laid BY PROGRAM, IN A SANDBOX (cutbox-door.mjs). By AI agents, Wed Nov 11 2026. No macro, syntax, notation, axiom, sorry.
-/
import Derived.Test.YtbkhdpocmmjnbaaDoorRows
import GoSem.ClaimSeven
namespace Go.Proofs.YtbkhdpocmmjnbaaDoor
namespace Rows

/-- THE TIED CARD OF 'kinkeeplaw20.FiletreeChecks'. -/
def filetreeChecksCard : Claim7 := { stood := { row := filetreeChecksRow, standIns := [], harness := (true, "1e330c748a24b17595aadf72b64a83374ff5931bb575de300cc11a52c67695f6"), looks := false }, kinds := [], alts := [], laidByText := true, laidKinds := [.data, .pinned], laidTests := true, laidLooks := .later }
def FiletreeChecksCardSaid : Prop := Claim7.holds Tryd.pinned (.plain (OpenSpec.ofChange filetreeChecksSpec)) filetreeChecksCard

/-- THE TIED CARD OF 'kinkeeplaw20.FiletreePuts'. -/
def filetreePutsCard : Claim7 := { stood := { row := filetreePutsRow, standIns := [], harness := (true, "1e330c748a24b17595aadf72b64a83374ff5931bb575de300cc11a52c67695f6"), looks := false }, kinds := [], alts := [], laidByText := true, laidKinds := [.data, .pinned], laidTests := true, laidLooks := .later }
def FiletreePutsCardSaid : Prop := Claim7.holds Tryd.pinned (.plain (OpenSpec.ofChange filetreePutsSpec)) filetreePutsCard

/-- THE TIED CARD OF 'kinkeeplaw20.FiletreeRemoves'. -/
def filetreeRemovesCard : Claim7 := { stood := { row := filetreeRemovesRow, standIns := [], harness := (true, "1e330c748a24b17595aadf72b64a83374ff5931bb575de300cc11a52c67695f6"), looks := false }, kinds := [], alts := [], laidByText := true, laidKinds := [.data, .pinned], laidTests := true, laidLooks := .later }
def FiletreeRemovesCardSaid : Prop := Claim7.holds Tryd.pinned (.plain (OpenSpec.ofChange filetreeRemovesSpec)) filetreeRemovesCard

/-- THE TIED CARD OF 'kinkeeplaw20.FiletreeSums'. -/
def filetreeSumsCard : Claim7 := { stood := { row := filetreeSumsRow, standIns := [], harness := (true, "1e330c748a24b17595aadf72b64a83374ff5931bb575de300cc11a52c67695f6"), looks := false }, kinds := [], alts := [], laidByText := true, laidKinds := [.data, .pinned], laidTests := true, laidLooks := .later }
def FiletreeSumsCardSaid : Prop := Claim7.holds Tryd.pinned (.plain (OpenSpec.ofChange filetreeSumsSpec)) filetreeSumsCard

/-- THE TIED CARD OF 'kinkeeplaw20.FiletreeMoves'. -/
def filetreeMovesCard : Claim7 := { stood := { row := filetreeMovesRow, standIns := [], harness := (true, "1e330c748a24b17595aadf72b64a83374ff5931bb575de300cc11a52c67695f6"), looks := false }, kinds := [], alts := [], laidByText := true, laidKinds := [.data, .pinned], laidTests := true, laidLooks := .later }
def FiletreeMovesCardSaid : Prop := Claim7.holds Tryd.pinned (.plain (OpenSpec.ofChange filetreeMovesSpec)) filetreeMovesCard

/-- THE TIED CARD OF 'kinkeeplaw20.FiletreeStays'. -/
def filetreeStaysCard : Claim7 := { stood := { row := filetreeStaysRow, standIns := [], harness := (true, "1e330c748a24b17595aadf72b64a83374ff5931bb575de300cc11a52c67695f6"), looks := false }, kinds := [], alts := [], laidByText := true, laidKinds := [.data, .pinned], laidTests := true, laidLooks := .later }
def FiletreeStaysCardSaid : Prop := Claim7.holds Tryd.pinned (.plain (OpenSpec.ofChange filetreeStaysSpec)) filetreeStaysCard

/-- THE TIED CARD OF 'kinkeeplaw20.FiletreeOwns'. -/
def filetreeOwnsCard : Claim7 := { stood := { row := filetreeOwnsRow, standIns := [], harness := (true, "1e330c748a24b17595aadf72b64a83374ff5931bb575de300cc11a52c67695f6"), looks := false }, kinds := [], alts := [], laidByText := true, laidKinds := [.data, .pinned], laidTests := true, laidLooks := .later }
def FiletreeOwnsCardSaid : Prop := Claim7.holds Tryd.pinned (.plain (OpenSpec.ofChange filetreeOwnsSpec)) filetreeOwnsCard

/-- THE SECOND FORM's CARD OF 'kinkeeplaw20.FiletreeChecks'. -/
def filetreeChecksUptoCard : Claim7 := { stood := { row := filetreeChecksUptoRow, standIns := [], harness := (true, "1e330c748a24b17595aadf72b64a83374ff5931bb575de300cc11a52c67695f6"), looks := false }, kinds := [], alts := [], laidByText := true, laidKinds := [.data, .pinned], laidTests := true, laidLooks := .later }
def FiletreeChecksUptoCardSaid : Prop := Claim7.holds Tryd.pinned (.plain (OpenSpec.upto filetreeChecksSpec)) filetreeChecksUptoCard

/-- THE SECOND FORM's CARD OF 'kinkeeplaw20.FiletreePuts'. -/
def filetreePutsUptoCard : Claim7 := { stood := { row := filetreePutsUptoRow, standIns := [], harness := (true, "1e330c748a24b17595aadf72b64a83374ff5931bb575de300cc11a52c67695f6"), looks := false }, kinds := [], alts := [], laidByText := true, laidKinds := [.data, .pinned], laidTests := true, laidLooks := .later }
def FiletreePutsUptoCardSaid : Prop := Claim7.holds Tryd.pinned (.plain (OpenSpec.upto filetreePutsSpec)) filetreePutsUptoCard

/-- THE SECOND FORM's CARD OF 'kinkeeplaw20.FiletreeRemoves'. -/
def filetreeRemovesUptoCard : Claim7 := { stood := { row := filetreeRemovesUptoRow, standIns := [], harness := (true, "1e330c748a24b17595aadf72b64a83374ff5931bb575de300cc11a52c67695f6"), looks := false }, kinds := [], alts := [], laidByText := true, laidKinds := [.data, .pinned], laidTests := true, laidLooks := .later }
def FiletreeRemovesUptoCardSaid : Prop := Claim7.holds Tryd.pinned (.plain (OpenSpec.upto filetreeRemovesSpec)) filetreeRemovesUptoCard

/-- THE SECOND FORM's CARD OF 'kinkeeplaw20.FiletreeSums'. -/
def filetreeSumsUptoCard : Claim7 := { stood := { row := filetreeSumsUptoRow, standIns := [], harness := (true, "1e330c748a24b17595aadf72b64a83374ff5931bb575de300cc11a52c67695f6"), looks := false }, kinds := [], alts := [], laidByText := true, laidKinds := [.data, .pinned], laidTests := true, laidLooks := .later }
def FiletreeSumsUptoCardSaid : Prop := Claim7.holds Tryd.pinned (.plain (OpenSpec.upto filetreeSumsSpec)) filetreeSumsUptoCard

/-- THE SECOND FORM's CARD OF 'kinkeeplaw20.FiletreeMoves'. -/
def filetreeMovesUptoCard : Claim7 := { stood := { row := filetreeMovesUptoRow, standIns := [], harness := (true, "1e330c748a24b17595aadf72b64a83374ff5931bb575de300cc11a52c67695f6"), looks := false }, kinds := [], alts := [], laidByText := true, laidKinds := [.data, .pinned], laidTests := true, laidLooks := .later }
def FiletreeMovesUptoCardSaid : Prop := Claim7.holds Tryd.pinned (.plain (OpenSpec.upto filetreeMovesSpec)) filetreeMovesUptoCard

/-- THE SECOND FORM's CARD OF 'kinkeeplaw20.FiletreeStays'. -/
def filetreeStaysUptoCard : Claim7 := { stood := { row := filetreeStaysUptoRow, standIns := [], harness := (true, "1e330c748a24b17595aadf72b64a83374ff5931bb575de300cc11a52c67695f6"), looks := false }, kinds := [], alts := [], laidByText := true, laidKinds := [.data, .pinned], laidTests := true, laidLooks := .later }
def FiletreeStaysUptoCardSaid : Prop := Claim7.holds Tryd.pinned (.plain (OpenSpec.upto filetreeStaysSpec)) filetreeStaysUptoCard

/-- THE SECOND FORM's CARD OF 'kinkeeplaw20.FiletreeOwns'. -/
def filetreeOwnsUptoCard : Claim7 := { stood := { row := filetreeOwnsUptoRow, standIns := [], harness := (true, "1e330c748a24b17595aadf72b64a83374ff5931bb575de300cc11a52c67695f6"), looks := false }, kinds := [], alts := [], laidByText := true, laidKinds := [.data, .pinned], laidTests := true, laidLooks := .later }
def FiletreeOwnsUptoCardSaid : Prop := Claim7.holds Tryd.pinned (.plain (OpenSpec.upto filetreeOwnsSpec)) filetreeOwnsUptoCard
end Rows
end Go.Proofs.YtbkhdpocmmjnbaaDoor
