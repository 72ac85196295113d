/-
  DERIVED. GIVEN WITH THE SEED: THE CARDS: each row of YtndgmcggckpgfaaGreatDoorRows.lean that lists a variable, with what it lists TIED to the program's text (the seventh form; the later family's looks); each row that meets fmt, with fmt's text TOLD by the authors' own Lean function (tested against real Go, not proved from fmt's source: count such statements apart). THE CARD IS WHAT COUNTS. Prove the row's statement (the work); the ties are given (YtndgmcggckpgfaaGreatDoorTie.lean); close each card by the builder's one call (the guide's Derived/Test/ToyasCard.lean, 'card_holds'). Laid BY PROGRAM, IN A SANDBOX (cutbox-door.mjs). By AI agents, Wed Nov 11 2026. No macro, syntax, notation, axiom, sorry.
-/
import Derived.Test.YtndgmcggckpgfaaGreatDoorRows
import GoSem.ClaimSeven
namespace Go.Proofs.YtndgmcggckpgfaaGreatDoor
namespace Rows

/-- THE TIED CARD OF 'kinkeeplaw48.LivenessExclusive'. -/
def livenessExclusiveCard : Claim7 := { stood := { row := livenessExclusiveRow, standIns := [], harness := (true, "8763d9110891523682653750762d1a7552683129e318fb1c4c0f53c8f9932086"), looks := false }, kinds := [], alts := [], laidByText := true, laidKinds := [.data, .pinned], laidTests := true, laidLooks := .later }
def LivenessExclusiveCardSaid : Prop := Claim7.holds Tryz.pinned (.plain (OpenSpec.ofChange livenessExclusiveSpec)) livenessExclusiveCard

/-- THE TIED CARD OF 'kinkeeplaw48.LivenessNeeds'. -/
def livenessNeedsCard : Claim7 := { stood := { row := livenessNeedsRow, standIns := [], harness := (true, "8763d9110891523682653750762d1a7552683129e318fb1c4c0f53c8f9932086"), looks := false }, kinds := [], alts := [], laidByText := true, laidKinds := [.data, .pinned], laidTests := true, laidLooks := .later }
def LivenessNeedsCardSaid : Prop := Claim7.holds Tryz.pinned (.plain (OpenSpec.ofChange livenessNeedsSpec)) livenessNeedsCard

/-- THE TIED CARD OF 'kinkeeplaw48.LivenessOrphans'. -/
def livenessOrphansCard : Claim7 := { stood := { row := livenessOrphansRow, standIns := [], harness := (true, "8763d9110891523682653750762d1a7552683129e318fb1c4c0f53c8f9932086"), looks := false }, kinds := [], alts := [], laidByText := true, laidKinds := [.data, .pinned], laidTests := true, laidLooks := .later }
def LivenessOrphansCardSaid : Prop := Claim7.holds Tryz.pinned (.plain (OpenSpec.ofChange livenessOrphansSpec)) livenessOrphansCard

/-- THE TIED CARD OF 'kinkeeplaw48.LivenessDelta'. -/
def livenessDeltaCard : Claim7 := { stood := { row := livenessDeltaRow, standIns := [], harness := (true, "8763d9110891523682653750762d1a7552683129e318fb1c4c0f53c8f9932086"), looks := false }, kinds := [], alts := [], laidByText := true, laidKinds := [.data, .pinned], laidTests := true, laidLooks := .later }
def LivenessDeltaCardSaid : Prop := Claim7.holds Tryz.pinned (.plain (OpenSpec.ofChange livenessDeltaSpec)) livenessDeltaCard

/-- THE TIED CARD OF 'kinkeeplaw48.LivenessMissing'. -/
def livenessMissingCard : Claim7 := { stood := { row := livenessMissingRow, standIns := [], harness := (true, "8763d9110891523682653750762d1a7552683129e318fb1c4c0f53c8f9932086"), looks := false }, kinds := [], alts := [], laidByText := true, laidKinds := [.data, .pinned], laidTests := true, laidLooks := .later }
def LivenessMissingCardSaid : Prop := Claim7.holds Tryz.pinned (.plain (OpenSpec.ofChange livenessMissingSpec)) livenessMissingCard

/-- THE SECOND FORM's CARD OF 'kinkeeplaw48.LivenessExclusive'. -/
def livenessExclusiveUptoCard : Claim7 := { stood := { row := livenessExclusiveUptoRow, standIns := [], harness := (true, "8763d9110891523682653750762d1a7552683129e318fb1c4c0f53c8f9932086"), looks := false }, kinds := [], alts := [], laidByText := true, laidKinds := [.data, .pinned], laidTests := true, laidLooks := .later }
def LivenessExclusiveUptoCardSaid : Prop := Claim7.holds Tryz.pinned (.plain (OpenSpec.upto livenessExclusiveSpec)) livenessExclusiveUptoCard

/-- THE SECOND FORM's CARD OF 'kinkeeplaw48.LivenessNeeds'. -/
def livenessNeedsUptoCard : Claim7 := { stood := { row := livenessNeedsUptoRow, standIns := [], harness := (true, "8763d9110891523682653750762d1a7552683129e318fb1c4c0f53c8f9932086"), looks := false }, kinds := [], alts := [], laidByText := true, laidKinds := [.data, .pinned], laidTests := true, laidLooks := .later }
def LivenessNeedsUptoCardSaid : Prop := Claim7.holds Tryz.pinned (.plain (OpenSpec.upto livenessNeedsSpec)) livenessNeedsUptoCard

/-- THE SECOND FORM's CARD OF 'kinkeeplaw48.LivenessOrphans'. -/
def livenessOrphansUptoCard : Claim7 := { stood := { row := livenessOrphansUptoRow, standIns := [], harness := (true, "8763d9110891523682653750762d1a7552683129e318fb1c4c0f53c8f9932086"), looks := false }, kinds := [], alts := [], laidByText := true, laidKinds := [.data, .pinned], laidTests := true, laidLooks := .later }
def LivenessOrphansUptoCardSaid : Prop := Claim7.holds Tryz.pinned (.plain (OpenSpec.upto livenessOrphansSpec)) livenessOrphansUptoCard

/-- THE SECOND FORM's CARD OF 'kinkeeplaw48.LivenessDelta'. -/
def livenessDeltaUptoCard : Claim7 := { stood := { row := livenessDeltaUptoRow, standIns := [], harness := (true, "8763d9110891523682653750762d1a7552683129e318fb1c4c0f53c8f9932086"), looks := false }, kinds := [], alts := [], laidByText := true, laidKinds := [.data, .pinned], laidTests := true, laidLooks := .later }
def LivenessDeltaUptoCardSaid : Prop := Claim7.holds Tryz.pinned (.plain (OpenSpec.upto livenessDeltaSpec)) livenessDeltaUptoCard

/-- THE SECOND FORM's CARD OF 'kinkeeplaw48.LivenessMissing'. -/
def livenessMissingUptoCard : Claim7 := { stood := { row := livenessMissingUptoRow, standIns := [], harness := (true, "8763d9110891523682653750762d1a7552683129e318fb1c4c0f53c8f9932086"), looks := false }, kinds := [], alts := [], laidByText := true, laidKinds := [.data, .pinned], laidTests := true, laidLooks := .later }
def LivenessMissingUptoCardSaid : Prop := Claim7.holds Tryz.pinned (.plain (OpenSpec.upto livenessMissingSpec)) livenessMissingUptoCard
end Rows
end Go.Proofs.YtndgmcggckpgfaaGreatDoor
