/-
  DERIVED. GIVEN WITH THE SEED: THE CARDS: each row of YtdieneaillkbgaaGreatDoorRows.lean that lists a variable, with what it lists TIED to the program's text (the seventh form; the later family's looks); each row that meets fmt, with fmt's text TOLD by the authors' own Lean function (tested against real Go, not proved from fmt's source: count such statements apart). THE CARD IS WHAT COUNTS. Prove the row's statement (the work); the ties are given (YtdieneaillkbgaaGreatDoorTie.lean); close each card by the builder's one call (the guide's Derived/Test/ToyasCard.lean, 'card_holds'). Laid BY PROGRAM, IN A SANDBOX (cutbox-door.mjs). By AI agents, Wed Nov 11 2026. No macro, syntax, notation, axiom, sorry.
-/
import Derived.Test.YtdieneaillkbgaaGreatDoorRows
import GoSem.ClaimSeven
namespace Go.Proofs.YtdieneaillkbgaaGreatDoor
namespace Rows

/-- THE TIED CARD OF 'kinkeeplaw23.TreediffDiffs'. -/
def treediffDiffsCard : Claim7 := { stood := { row := treediffDiffsRow, standIns := [], harness := (true, "26f308a74d533cd0a72c14b9da7e68f4e1e057f8caa1e49e6438d7b0ff3c70c4"), looks := false }, kinds := [], alts := [], laidByText := true, laidKinds := [.data, .pinned], laidTests := true, laidLooks := .later }
def TreediffDiffsCardSaid : Prop := Claim7.holds Tryz.pinned (.plain (OpenSpec.ofChange treediffDiffsSpec)) treediffDiffsCard

/-- THE TIED CARD OF 'kinkeeplaw23.TreediffMerges'. -/
def treediffMergesCard : Claim7 := { stood := { row := treediffMergesRow, standIns := [], harness := (true, "26f308a74d533cd0a72c14b9da7e68f4e1e057f8caa1e49e6438d7b0ff3c70c4"), looks := false }, kinds := [], alts := [], laidByText := true, laidKinds := [.data, .pinned], laidTests := true, laidLooks := .later }
def TreediffMergesCardSaid : Prop := Claim7.holds Tryz.pinned (.plain (OpenSpec.ofChange treediffMergesSpec)) treediffMergesCard

/-- THE TIED CARD OF 'kinkeeplaw23.TreediffTexts'. -/
def treediffTextsCard : Claim7 := { stood := { row := treediffTextsRow, standIns := [], harness := (true, "26f308a74d533cd0a72c14b9da7e68f4e1e057f8caa1e49e6438d7b0ff3c70c4"), looks := false }, kinds := [], alts := [], laidByText := true, laidKinds := [.data, .pinned], laidTests := true, laidLooks := .later }
def TreediffTextsCardSaid : Prop := Claim7.holds Tryz.pinned (.plain (OpenSpec.ofChange treediffTextsSpec)) treediffTextsCard

/-- THE TIED CARD OF 'kinkeeplaw23.TreediffRestores'. -/
def treediffRestoresCard : Claim7 := { stood := { row := treediffRestoresRow, standIns := [], harness := (true, "26f308a74d533cd0a72c14b9da7e68f4e1e057f8caa1e49e6438d7b0ff3c70c4"), looks := false }, kinds := [], alts := [], laidByText := true, laidKinds := [.data, .pinned], laidTests := true, laidLooks := .later }
def TreediffRestoresCardSaid : Prop := Claim7.holds Tryz.pinned (.plain (OpenSpec.ofChange treediffRestoresSpec)) treediffRestoresCard

/-- THE TIED CARD OF 'kinkeeplaw23.TreediffSparse'. -/
def treediffSparseCard : Claim7 := { stood := { row := treediffSparseRow, standIns := [], harness := (true, "26f308a74d533cd0a72c14b9da7e68f4e1e057f8caa1e49e6438d7b0ff3c70c4"), looks := false }, kinds := [], alts := [], laidByText := true, laidKinds := [.data, .pinned], laidTests := true, laidLooks := .later }
def TreediffSparseCardSaid : Prop := Claim7.holds Tryz.pinned (.plain (OpenSpec.ofChange treediffSparseSpec)) treediffSparseCard

/-- THE TIED CARD OF 'kinkeeplaw23.TreediffUnordered'. -/
def treediffUnorderedCard : Claim7 := { stood := { row := treediffUnorderedRow, standIns := [], harness := (true, "26f308a74d533cd0a72c14b9da7e68f4e1e057f8caa1e49e6438d7b0ff3c70c4"), looks := false }, kinds := [], alts := [], laidByText := true, laidKinds := [.data, .pinned], laidTests := true, laidLooks := .later }
def TreediffUnorderedCardSaid : Prop := Claim7.holds Tryz.pinned (.plain (OpenSpec.ofChange treediffUnorderedSpec)) treediffUnorderedCard

/-- THE TIED CARD OF 'kinkeeplaw23.TreediffUnites'. -/
def treediffUnitesCard : Claim7 := { stood := { row := treediffUnitesRow, standIns := [], harness := (true, "26f308a74d533cd0a72c14b9da7e68f4e1e057f8caa1e49e6438d7b0ff3c70c4"), looks := false }, kinds := [], alts := [], laidByText := true, laidKinds := [.data, .pinned], laidTests := true, laidLooks := .later }
def TreediffUnitesCardSaid : Prop := Claim7.holds Tryz.pinned (.plain (OpenSpec.ofChange treediffUnitesSpec)) treediffUnitesCard

/-- THE TIED CARD OF 'kinkeeplaw23.TreediffInverts'. -/
def treediffInvertsCard : Claim7 := { stood := { row := treediffInvertsRow, standIns := [], harness := (true, "26f308a74d533cd0a72c14b9da7e68f4e1e057f8caa1e49e6438d7b0ff3c70c4"), looks := false }, kinds := [], alts := [], laidByText := true, laidKinds := [.data, .pinned], laidTests := true, laidLooks := .later }
def TreediffInvertsCardSaid : Prop := Claim7.holds Tryz.pinned (.plain (OpenSpec.ofChange treediffInvertsSpec)) treediffInvertsCard

/-- THE TIED CARD OF 'kinkeeplaw23.TreediffComposes'. -/
def treediffComposesCard : Claim7 := { stood := { row := treediffComposesRow, standIns := [], harness := (true, "26f308a74d533cd0a72c14b9da7e68f4e1e057f8caa1e49e6438d7b0ff3c70c4"), looks := false }, kinds := [], alts := [], laidByText := true, laidKinds := [.data, .pinned], laidTests := true, laidLooks := .later }
def TreediffComposesCardSaid : Prop := Claim7.holds Tryz.pinned (.plain (OpenSpec.ofChange treediffComposesSpec)) treediffComposesCard

/-- THE TIED CARD OF 'kinkeeplaw23.TreediffApplies'. -/
def treediffAppliesCard : Claim7 := { stood := { row := treediffAppliesRow, standIns := [], harness := (true, "26f308a74d533cd0a72c14b9da7e68f4e1e057f8caa1e49e6438d7b0ff3c70c4"), looks := false }, kinds := [], alts := [], laidByText := true, laidKinds := [.data, .pinned], laidTests := true, laidLooks := .later }
def TreediffAppliesCardSaid : Prop := Claim7.holds Tryz.pinned (.plain (OpenSpec.ofChange treediffAppliesSpec)) treediffAppliesCard

/-- THE SECOND FORM's CARD OF 'kinkeeplaw23.TreediffDiffs'. -/
def treediffDiffsUptoCard : Claim7 := { stood := { row := treediffDiffsUptoRow, standIns := [], harness := (true, "26f308a74d533cd0a72c14b9da7e68f4e1e057f8caa1e49e6438d7b0ff3c70c4"), looks := false }, kinds := [], alts := [], laidByText := true, laidKinds := [.data, .pinned], laidTests := true, laidLooks := .later }
def TreediffDiffsUptoCardSaid : Prop := Claim7.holds Tryz.pinned (.plain (OpenSpec.upto treediffDiffsSpec)) treediffDiffsUptoCard

/-- THE SECOND FORM's CARD OF 'kinkeeplaw23.TreediffMerges'. -/
def treediffMergesUptoCard : Claim7 := { stood := { row := treediffMergesUptoRow, standIns := [], harness := (true, "26f308a74d533cd0a72c14b9da7e68f4e1e057f8caa1e49e6438d7b0ff3c70c4"), looks := false }, kinds := [], alts := [], laidByText := true, laidKinds := [.data, .pinned], laidTests := true, laidLooks := .later }
def TreediffMergesUptoCardSaid : Prop := Claim7.holds Tryz.pinned (.plain (OpenSpec.upto treediffMergesSpec)) treediffMergesUptoCard

/-- THE SECOND FORM's CARD OF 'kinkeeplaw23.TreediffTexts'. -/
def treediffTextsUptoCard : Claim7 := { stood := { row := treediffTextsUptoRow, standIns := [], harness := (true, "26f308a74d533cd0a72c14b9da7e68f4e1e057f8caa1e49e6438d7b0ff3c70c4"), looks := false }, kinds := [], alts := [], laidByText := true, laidKinds := [.data, .pinned], laidTests := true, laidLooks := .later }
def TreediffTextsUptoCardSaid : Prop := Claim7.holds Tryz.pinned (.plain (OpenSpec.upto treediffTextsSpec)) treediffTextsUptoCard

/-- THE SECOND FORM's CARD OF 'kinkeeplaw23.TreediffRestores'. -/
def treediffRestoresUptoCard : Claim7 := { stood := { row := treediffRestoresUptoRow, standIns := [], harness := (true, "26f308a74d533cd0a72c14b9da7e68f4e1e057f8caa1e49e6438d7b0ff3c70c4"), looks := false }, kinds := [], alts := [], laidByText := true, laidKinds := [.data, .pinned], laidTests := true, laidLooks := .later }
def TreediffRestoresUptoCardSaid : Prop := Claim7.holds Tryz.pinned (.plain (OpenSpec.upto treediffRestoresSpec)) treediffRestoresUptoCard

/-- THE SECOND FORM's CARD OF 'kinkeeplaw23.TreediffSparse'. -/
def treediffSparseUptoCard : Claim7 := { stood := { row := treediffSparseUptoRow, standIns := [], harness := (true, "26f308a74d533cd0a72c14b9da7e68f4e1e057f8caa1e49e6438d7b0ff3c70c4"), looks := false }, kinds := [], alts := [], laidByText := true, laidKinds := [.data, .pinned], laidTests := true, laidLooks := .later }
def TreediffSparseUptoCardSaid : Prop := Claim7.holds Tryz.pinned (.plain (OpenSpec.upto treediffSparseSpec)) treediffSparseUptoCard

/-- THE SECOND FORM's CARD OF 'kinkeeplaw23.TreediffUnordered'. -/
def treediffUnorderedUptoCard : Claim7 := { stood := { row := treediffUnorderedUptoRow, standIns := [], harness := (true, "26f308a74d533cd0a72c14b9da7e68f4e1e057f8caa1e49e6438d7b0ff3c70c4"), looks := false }, kinds := [], alts := [], laidByText := true, laidKinds := [.data, .pinned], laidTests := true, laidLooks := .later }
def TreediffUnorderedUptoCardSaid : Prop := Claim7.holds Tryz.pinned (.plain (OpenSpec.upto treediffUnorderedSpec)) treediffUnorderedUptoCard

/-- THE SECOND FORM's CARD OF 'kinkeeplaw23.TreediffUnites'. -/
def treediffUnitesUptoCard : Claim7 := { stood := { row := treediffUnitesUptoRow, standIns := [], harness := (true, "26f308a74d533cd0a72c14b9da7e68f4e1e057f8caa1e49e6438d7b0ff3c70c4"), looks := false }, kinds := [], alts := [], laidByText := true, laidKinds := [.data, .pinned], laidTests := true, laidLooks := .later }
def TreediffUnitesUptoCardSaid : Prop := Claim7.holds Tryz.pinned (.plain (OpenSpec.upto treediffUnitesSpec)) treediffUnitesUptoCard

/-- THE SECOND FORM's CARD OF 'kinkeeplaw23.TreediffInverts'. -/
def treediffInvertsUptoCard : Claim7 := { stood := { row := treediffInvertsUptoRow, standIns := [], harness := (true, "26f308a74d533cd0a72c14b9da7e68f4e1e057f8caa1e49e6438d7b0ff3c70c4"), looks := false }, kinds := [], alts := [], laidByText := true, laidKinds := [.data, .pinned], laidTests := true, laidLooks := .later }
def TreediffInvertsUptoCardSaid : Prop := Claim7.holds Tryz.pinned (.plain (OpenSpec.upto treediffInvertsSpec)) treediffInvertsUptoCard

/-- THE SECOND FORM's CARD OF 'kinkeeplaw23.TreediffComposes'. -/
def treediffComposesUptoCard : Claim7 := { stood := { row := treediffComposesUptoRow, standIns := [], harness := (true, "26f308a74d533cd0a72c14b9da7e68f4e1e057f8caa1e49e6438d7b0ff3c70c4"), looks := false }, kinds := [], alts := [], laidByText := true, laidKinds := [.data, .pinned], laidTests := true, laidLooks := .later }
def TreediffComposesUptoCardSaid : Prop := Claim7.holds Tryz.pinned (.plain (OpenSpec.upto treediffComposesSpec)) treediffComposesUptoCard

/-- THE SECOND FORM's CARD OF 'kinkeeplaw23.TreediffApplies'. -/
def treediffAppliesUptoCard : Claim7 := { stood := { row := treediffAppliesUptoRow, standIns := [], harness := (true, "26f308a74d533cd0a72c14b9da7e68f4e1e057f8caa1e49e6438d7b0ff3c70c4"), looks := false }, kinds := [], alts := [], laidByText := true, laidKinds := [.data, .pinned], laidTests := true, laidLooks := .later }
def TreediffAppliesUptoCardSaid : Prop := Claim7.holds Tryz.pinned (.plain (OpenSpec.upto treediffAppliesSpec)) treediffAppliesUptoCard
end Rows
end Go.Proofs.YtdieneaillkbgaaGreatDoor
