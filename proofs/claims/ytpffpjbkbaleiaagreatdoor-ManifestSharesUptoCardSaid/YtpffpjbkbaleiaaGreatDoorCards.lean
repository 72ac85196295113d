/-
  DERIVED. GIVEN WITH THE SEED: THE CARDS: each row of YtpffpjbkbaleiaaGreatDoorRows.lean that lists a variable, with what it lists TIED to the program's text (the seventh form; the later family's looks); each row that meets fmt, with fmt's text TOLD by the authors' own Lean function (tested against real Go, not proved from fmt's source: count such statements apart). THE CARD IS WHAT COUNTS. Prove the row's statement (the work); the ties are given (YtpffpjbkbaleiaaGreatDoorTie.lean); close each card by the builder's one call (the guide's Derived/Test/ToyasCard.lean, 'card_holds'). Laid BY PROGRAM, IN A SANDBOX (cutbox-door.mjs). By AI agents, Wed Nov 11 2026. No macro, syntax, notation, axiom, sorry.
-/
import Derived.Test.YtpffpjbkbaleiaaGreatDoorRows
import GoSem.ClaimSeven
namespace Go.Proofs.YtpffpjbkbaleiaaGreatDoor
namespace Rows

/-- THE TIED CARD OF 'kinkeeplaw24.ManifestNodes'. -/
def manifestNodesCard : Claim7 := { stood := { row := manifestNodesRow, standIns := [], harness := (true, "637747a898cbb1b5043b613c2220e95450f12614b9afa01ffe978641a6dbf1a0"), looks := false }, kinds := [], alts := [], laidByText := true, laidKinds := [.data, .data, .data, .data, .data, .pinned], laidTests := true, laidLooks := .later }
def ManifestNodesCardSaid : Prop := Claim7.holds Tryz.pinned (.plain (OpenSpec.ofChange manifestNodesSpec)) manifestNodesCard

/-- THE TIED CARD OF 'kinkeeplaw24.ManifestItems'. -/
def manifestItemsCard : Claim7 := { stood := { row := manifestItemsRow, standIns := [], harness := (true, "637747a898cbb1b5043b613c2220e95450f12614b9afa01ffe978641a6dbf1a0"), looks := false }, kinds := [], alts := [], laidByText := true, laidKinds := [.data, .data, .data, .data, .data, .pinned], laidTests := true, laidLooks := .later }
def ManifestItemsCardSaid : Prop := Claim7.holds Tryz.pinned (.plain (OpenSpec.ofChange manifestItemsSpec)) manifestItemsCard

/-- THE TIED CARD OF 'kinkeeplaw24.ManifestBuilds'. -/
def manifestBuildsCard : Claim7 := { stood := { row := manifestBuildsRow, standIns := [], harness := (true, "637747a898cbb1b5043b613c2220e95450f12614b9afa01ffe978641a6dbf1a0"), looks := false }, kinds := [], alts := [], laidByText := true, laidKinds := [.data, .data, .data, .data, .data, .pinned], laidTests := true, laidLooks := .later }
def ManifestBuildsCardSaid : Prop := Claim7.holds Tryz.pinned (.plain (OpenSpec.ofChange manifestBuildsSpec)) manifestBuildsCard

/-- THE TIED CARD OF 'kinkeeplaw24.ManifestLoads'. -/
def manifestLoadsCard : Claim7 := { stood := { row := manifestLoadsRow, standIns := [], harness := (true, "637747a898cbb1b5043b613c2220e95450f12614b9afa01ffe978641a6dbf1a0"), looks := false }, kinds := [], alts := [], laidByText := true, laidKinds := [.data, .data, .data, .data, .data, .pinned], laidTests := true, laidLooks := .later }
def ManifestLoadsCardSaid : Prop := Claim7.holds Tryz.pinned (.plain (OpenSpec.ofChange manifestLoadsSpec)) manifestLoadsCard

/-- THE TIED CARD OF 'kinkeeplaw24.ManifestLookups'. -/
def manifestLookupsCard : Claim7 := { stood := { row := manifestLookupsRow, standIns := [], harness := (true, "637747a898cbb1b5043b613c2220e95450f12614b9afa01ffe978641a6dbf1a0"), looks := false }, kinds := [], alts := [], laidByText := true, laidKinds := [.data, .data, .data, .data, .data, .pinned], laidTests := true, laidLooks := .later }
def ManifestLookupsCardSaid : Prop := Claim7.holds Tryz.pinned (.plain (OpenSpec.ofChange manifestLookupsSpec)) manifestLookupsCard

/-- THE TIED CARD OF 'kinkeeplaw24.ManifestCompletes'. -/
def manifestCompletesCard : Claim7 := { stood := { row := manifestCompletesRow, standIns := [], harness := (true, "637747a898cbb1b5043b613c2220e95450f12614b9afa01ffe978641a6dbf1a0"), looks := false }, kinds := [], alts := [], laidByText := true, laidKinds := [.data, .data, .data, .data, .data, .pinned], laidTests := true, laidLooks := .later }
def ManifestCompletesCardSaid : Prop := Claim7.holds Tryz.pinned (.plain (OpenSpec.ofChange manifestCompletesSpec)) manifestCompletesCard

/-- THE TIED CARD OF 'kinkeeplaw24.ManifestBlobs'. -/
def manifestBlobsCard : Claim7 := { stood := { row := manifestBlobsRow, standIns := [], harness := (true, "637747a898cbb1b5043b613c2220e95450f12614b9afa01ffe978641a6dbf1a0"), looks := false }, kinds := [], alts := [], laidByText := true, laidKinds := [.data, .data, .data, .data, .data, .pinned], laidTests := true, laidLooks := .later }
def ManifestBlobsCardSaid : Prop := Claim7.holds Tryz.pinned (.plain (OpenSpec.ofChange manifestBlobsSpec)) manifestBlobsCard

/-- THE TIED CARD OF 'kinkeeplaw24.ManifestReturns'. -/
def manifestReturnsCard : Claim7 := { stood := { row := manifestReturnsRow, standIns := [], harness := (true, "637747a898cbb1b5043b613c2220e95450f12614b9afa01ffe978641a6dbf1a0"), looks := false }, kinds := [], alts := [], laidByText := true, laidKinds := [.data, .data, .data, .data, .data, .pinned], laidTests := true, laidLooks := .later }
def ManifestReturnsCardSaid : Prop := Claim7.holds Tryz.pinned (.plain (OpenSpec.ofChange manifestReturnsSpec)) manifestReturnsCard

/-- THE TIED CARD OF 'kinkeeplaw24.ManifestFiles'. -/
def manifestFilesCard : Claim7 := { stood := { row := manifestFilesRow, standIns := [], harness := (true, "637747a898cbb1b5043b613c2220e95450f12614b9afa01ffe978641a6dbf1a0"), looks := false }, kinds := [], alts := [], laidByText := true, laidKinds := [.data, .data, .data, .data, .data, .pinned], laidTests := true, laidLooks := .later }
def ManifestFilesCardSaid : Prop := Claim7.holds Tryz.pinned (.plain (OpenSpec.ofChange manifestFilesSpec)) manifestFilesCard

/-- THE TIED CARD OF 'kinkeeplaw24.ManifestNeeds'. -/
def manifestNeedsCard : Claim7 := { stood := { row := manifestNeedsRow, standIns := [], harness := (true, "637747a898cbb1b5043b613c2220e95450f12614b9afa01ffe978641a6dbf1a0"), looks := false }, kinds := [], alts := [], laidByText := true, laidKinds := [.data, .data, .data, .data, .data, .pinned], laidTests := true, laidLooks := .later }
def ManifestNeedsCardSaid : Prop := Claim7.holds Tryz.pinned (.plain (OpenSpec.ofChange manifestNeedsSpec)) manifestNeedsCard

/-- THE TIED CARD OF 'kinkeeplaw24.ManifestShares'. -/
def manifestSharesCard : Claim7 := { stood := { row := manifestSharesRow, standIns := [], harness := (true, "637747a898cbb1b5043b613c2220e95450f12614b9afa01ffe978641a6dbf1a0"), looks := false }, kinds := [], alts := [], laidByText := true, laidKinds := [.data, .data, .data, .data, .data, .pinned], laidTests := true, laidLooks := .later }
def ManifestSharesCardSaid : Prop := Claim7.holds Tryz.pinned (.plain (OpenSpec.ofChange manifestSharesSpec)) manifestSharesCard

/-- THE SECOND FORM's CARD OF 'kinkeeplaw24.ManifestNodes'. -/
def manifestNodesUptoCard : Claim7 := { stood := { row := manifestNodesUptoRow, standIns := [], harness := (true, "637747a898cbb1b5043b613c2220e95450f12614b9afa01ffe978641a6dbf1a0"), looks := false }, kinds := [], alts := [], laidByText := true, laidKinds := [.data, .data, .data, .data, .data, .pinned], laidTests := true, laidLooks := .later }
def ManifestNodesUptoCardSaid : Prop := Claim7.holds Tryz.pinned (.plain (OpenSpec.upto manifestNodesSpec)) manifestNodesUptoCard

/-- THE SECOND FORM's CARD OF 'kinkeeplaw24.ManifestItems'. -/
def manifestItemsUptoCard : Claim7 := { stood := { row := manifestItemsUptoRow, standIns := [], harness := (true, "637747a898cbb1b5043b613c2220e95450f12614b9afa01ffe978641a6dbf1a0"), looks := false }, kinds := [], alts := [], laidByText := true, laidKinds := [.data, .data, .data, .data, .data, .pinned], laidTests := true, laidLooks := .later }
def ManifestItemsUptoCardSaid : Prop := Claim7.holds Tryz.pinned (.plain (OpenSpec.upto manifestItemsSpec)) manifestItemsUptoCard

/-- THE SECOND FORM's CARD OF 'kinkeeplaw24.ManifestBuilds'. -/
def manifestBuildsUptoCard : Claim7 := { stood := { row := manifestBuildsUptoRow, standIns := [], harness := (true, "637747a898cbb1b5043b613c2220e95450f12614b9afa01ffe978641a6dbf1a0"), looks := false }, kinds := [], alts := [], laidByText := true, laidKinds := [.data, .data, .data, .data, .data, .pinned], laidTests := true, laidLooks := .later }
def ManifestBuildsUptoCardSaid : Prop := Claim7.holds Tryz.pinned (.plain (OpenSpec.upto manifestBuildsSpec)) manifestBuildsUptoCard

/-- THE SECOND FORM's CARD OF 'kinkeeplaw24.ManifestLoads'. -/
def manifestLoadsUptoCard : Claim7 := { stood := { row := manifestLoadsUptoRow, standIns := [], harness := (true, "637747a898cbb1b5043b613c2220e95450f12614b9afa01ffe978641a6dbf1a0"), looks := false }, kinds := [], alts := [], laidByText := true, laidKinds := [.data, .data, .data, .data, .data, .pinned], laidTests := true, laidLooks := .later }
def ManifestLoadsUptoCardSaid : Prop := Claim7.holds Tryz.pinned (.plain (OpenSpec.upto manifestLoadsSpec)) manifestLoadsUptoCard

/-- THE SECOND FORM's CARD OF 'kinkeeplaw24.ManifestLookups'. -/
def manifestLookupsUptoCard : Claim7 := { stood := { row := manifestLookupsUptoRow, standIns := [], harness := (true, "637747a898cbb1b5043b613c2220e95450f12614b9afa01ffe978641a6dbf1a0"), looks := false }, kinds := [], alts := [], laidByText := true, laidKinds := [.data, .data, .data, .data, .data, .pinned], laidTests := true, laidLooks := .later }
def ManifestLookupsUptoCardSaid : Prop := Claim7.holds Tryz.pinned (.plain (OpenSpec.upto manifestLookupsSpec)) manifestLookupsUptoCard

/-- THE SECOND FORM's CARD OF 'kinkeeplaw24.ManifestCompletes'. -/
def manifestCompletesUptoCard : Claim7 := { stood := { row := manifestCompletesUptoRow, standIns := [], harness := (true, "637747a898cbb1b5043b613c2220e95450f12614b9afa01ffe978641a6dbf1a0"), looks := false }, kinds := [], alts := [], laidByText := true, laidKinds := [.data, .data, .data, .data, .data, .pinned], laidTests := true, laidLooks := .later }
def ManifestCompletesUptoCardSaid : Prop := Claim7.holds Tryz.pinned (.plain (OpenSpec.upto manifestCompletesSpec)) manifestCompletesUptoCard

/-- THE SECOND FORM's CARD OF 'kinkeeplaw24.ManifestBlobs'. -/
def manifestBlobsUptoCard : Claim7 := { stood := { row := manifestBlobsUptoRow, standIns := [], harness := (true, "637747a898cbb1b5043b613c2220e95450f12614b9afa01ffe978641a6dbf1a0"), looks := false }, kinds := [], alts := [], laidByText := true, laidKinds := [.data, .data, .data, .data, .data, .pinned], laidTests := true, laidLooks := .later }
def ManifestBlobsUptoCardSaid : Prop := Claim7.holds Tryz.pinned (.plain (OpenSpec.upto manifestBlobsSpec)) manifestBlobsUptoCard

/-- THE SECOND FORM's CARD OF 'kinkeeplaw24.ManifestReturns'. -/
def manifestReturnsUptoCard : Claim7 := { stood := { row := manifestReturnsUptoRow, standIns := [], harness := (true, "637747a898cbb1b5043b613c2220e95450f12614b9afa01ffe978641a6dbf1a0"), looks := false }, kinds := [], alts := [], laidByText := true, laidKinds := [.data, .data, .data, .data, .data, .pinned], laidTests := true, laidLooks := .later }
def ManifestReturnsUptoCardSaid : Prop := Claim7.holds Tryz.pinned (.plain (OpenSpec.upto manifestReturnsSpec)) manifestReturnsUptoCard

/-- THE SECOND FORM's CARD OF 'kinkeeplaw24.ManifestFiles'. -/
def manifestFilesUptoCard : Claim7 := { stood := { row := manifestFilesUptoRow, standIns := [], harness := (true, "637747a898cbb1b5043b613c2220e95450f12614b9afa01ffe978641a6dbf1a0"), looks := false }, kinds := [], alts := [], laidByText := true, laidKinds := [.data, .data, .data, .data, .data, .pinned], laidTests := true, laidLooks := .later }
def ManifestFilesUptoCardSaid : Prop := Claim7.holds Tryz.pinned (.plain (OpenSpec.upto manifestFilesSpec)) manifestFilesUptoCard

/-- THE SECOND FORM's CARD OF 'kinkeeplaw24.ManifestNeeds'. -/
def manifestNeedsUptoCard : Claim7 := { stood := { row := manifestNeedsUptoRow, standIns := [], harness := (true, "637747a898cbb1b5043b613c2220e95450f12614b9afa01ffe978641a6dbf1a0"), looks := false }, kinds := [], alts := [], laidByText := true, laidKinds := [.data, .data, .data, .data, .data, .pinned], laidTests := true, laidLooks := .later }
def ManifestNeedsUptoCardSaid : Prop := Claim7.holds Tryz.pinned (.plain (OpenSpec.upto manifestNeedsSpec)) manifestNeedsUptoCard

/-- THE SECOND FORM's CARD OF 'kinkeeplaw24.ManifestShares'. -/
def manifestSharesUptoCard : Claim7 := { stood := { row := manifestSharesUptoRow, standIns := [], harness := (true, "637747a898cbb1b5043b613c2220e95450f12614b9afa01ffe978641a6dbf1a0"), looks := false }, kinds := [], alts := [], laidByText := true, laidKinds := [.data, .data, .data, .data, .data, .pinned], laidTests := true, laidLooks := .later }
def ManifestSharesUptoCardSaid : Prop := Claim7.holds Tryz.pinned (.plain (OpenSpec.upto manifestSharesSpec)) manifestSharesUptoCard
end Rows
end Go.Proofs.YtpffpjbkbaleiaaGreatDoor
