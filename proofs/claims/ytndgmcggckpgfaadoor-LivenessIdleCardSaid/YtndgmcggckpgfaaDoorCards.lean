/-
  DERIVED. GIVEN WITH THE SEED: THE CARDS: each row of YtndgmcggckpgfaaDoorRows.lean that lists a variable, with what it lists TIED to the program's text (the seventh form; the later family's looks); each row that meets fmt, with fmt's text TOLD by the authors' own Lean function (tested against real Go, not proved from fmt's source: count such statements apart). THE CARD IS WHAT COUNTS. Prove the row's statement (the work); the ties are given (YtndgmcggckpgfaaDoorTie.lean); close each card by the builder's one call (the guide's Derived/Test/ToyasCard.lean, 'card_holds'). Laid BY PROGRAM, IN A SANDBOX (cutbox-door.mjs). By AI agents, Wed Nov 11 2026. No macro, syntax, notation, axiom, sorry.
-/
import Derived.Test.YtndgmcggckpgfaaDoorRows
import GoSem.ClaimSeven
namespace Go.Proofs.YtndgmcggckpgfaaDoor
namespace Rows

/-- THE TIED CARD OF 'kinkeeplaw48.LivenessBytes'. -/
def livenessBytesCard : Claim7 := { stood := { row := livenessBytesRow, standIns := [], harness := (true, "ff2cba2c439d558082da2d7ed5d675c4d6d17ccae7d1fb128fdb3451a48726d3"), looks := false }, kinds := [], alts := [], laidByText := true, laidKinds := [.data, .pinned], laidTests := true, laidLooks := .later }
def LivenessBytesCardSaid : Prop := Claim7.holds Tryd.pinned (.plain (OpenSpec.ofChange livenessBytesSpec)) livenessBytesCard

/-- THE TIED CARD OF 'kinkeeplaw48.LivenessDrops'. -/
def livenessDropsCard : Claim7 := { stood := { row := livenessDropsRow, standIns := [], harness := (true, "ff2cba2c439d558082da2d7ed5d675c4d6d17ccae7d1fb128fdb3451a48726d3"), looks := false }, kinds := [], alts := [], laidByText := true, laidKinds := [.data, .pinned], laidTests := true, laidLooks := .later }
def LivenessDropsCardSaid : Prop := Claim7.holds Tryd.pinned (.plain (OpenSpec.ofChange livenessDropsSpec)) livenessDropsCard

/-- THE TIED CARD OF 'kinkeeplaw48.LivenessUnion'. -/
def livenessUnionCard : Claim7 := { stood := { row := livenessUnionRow, standIns := [], harness := (true, "ff2cba2c439d558082da2d7ed5d675c4d6d17ccae7d1fb128fdb3451a48726d3"), looks := false }, kinds := [], alts := [], laidByText := true, laidKinds := [.data, .pinned], laidTests := true, laidLooks := .later }
def LivenessUnionCardSaid : Prop := Claim7.holds Tryd.pinned (.plain (OpenSpec.ofChange livenessUnionSpec)) livenessUnionCard

/-- THE TIED CARD OF 'kinkeeplaw48.LivenessIdle'. -/
def livenessIdleCard : Claim7 := { stood := { row := livenessIdleRow, standIns := [], harness := (true, "ff2cba2c439d558082da2d7ed5d675c4d6d17ccae7d1fb128fdb3451a48726d3"), looks := false }, kinds := [], alts := [], laidByText := true, laidKinds := [.data, .pinned], laidTests := true, laidLooks := .later }
def LivenessIdleCardSaid : Prop := Claim7.holds Tryd.pinned (.plain (OpenSpec.ofChange livenessIdleSpec)) livenessIdleCard

/-- THE SECOND FORM's CARD OF 'kinkeeplaw48.LivenessBytes'. -/
def livenessBytesUptoCard : Claim7 := { stood := { row := livenessBytesUptoRow, standIns := [], harness := (true, "ff2cba2c439d558082da2d7ed5d675c4d6d17ccae7d1fb128fdb3451a48726d3"), looks := false }, kinds := [], alts := [], laidByText := true, laidKinds := [.data, .pinned], laidTests := true, laidLooks := .later }
def LivenessBytesUptoCardSaid : Prop := Claim7.holds Tryd.pinned (.plain (OpenSpec.upto livenessBytesSpec)) livenessBytesUptoCard

/-- THE SECOND FORM's CARD OF 'kinkeeplaw48.LivenessDrops'. -/
def livenessDropsUptoCard : Claim7 := { stood := { row := livenessDropsUptoRow, standIns := [], harness := (true, "ff2cba2c439d558082da2d7ed5d675c4d6d17ccae7d1fb128fdb3451a48726d3"), looks := false }, kinds := [], alts := [], laidByText := true, laidKinds := [.data, .pinned], laidTests := true, laidLooks := .later }
def LivenessDropsUptoCardSaid : Prop := Claim7.holds Tryd.pinned (.plain (OpenSpec.upto livenessDropsSpec)) livenessDropsUptoCard

/-- THE SECOND FORM's CARD OF 'kinkeeplaw48.LivenessUnion'. -/
def livenessUnionUptoCard : Claim7 := { stood := { row := livenessUnionUptoRow, standIns := [], harness := (true, "ff2cba2c439d558082da2d7ed5d675c4d6d17ccae7d1fb128fdb3451a48726d3"), looks := false }, kinds := [], alts := [], laidByText := true, laidKinds := [.data, .pinned], laidTests := true, laidLooks := .later }
def LivenessUnionUptoCardSaid : Prop := Claim7.holds Tryd.pinned (.plain (OpenSpec.upto livenessUnionSpec)) livenessUnionUptoCard

/-- THE SECOND FORM's CARD OF 'kinkeeplaw48.LivenessIdle'. -/
def livenessIdleUptoCard : Claim7 := { stood := { row := livenessIdleUptoRow, standIns := [], harness := (true, "ff2cba2c439d558082da2d7ed5d675c4d6d17ccae7d1fb128fdb3451a48726d3"), looks := false }, kinds := [], alts := [], laidByText := true, laidKinds := [.data, .pinned], laidTests := true, laidLooks := .later }
def LivenessIdleUptoCardSaid : Prop := Claim7.holds Tryd.pinned (.plain (OpenSpec.upto livenessIdleSpec)) livenessIdleUptoCard
end Rows
end Go.Proofs.YtndgmcggckpgfaaDoor
