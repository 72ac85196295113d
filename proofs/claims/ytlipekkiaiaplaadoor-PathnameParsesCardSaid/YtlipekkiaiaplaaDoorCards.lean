/-
  DERIVED. GIVEN WITH THE SEED: THE CARDS: each row of YtlipekkiaiaplaaDoorRows.lean that lists a variable, with what it lists TIED to the program's text (the seventh form; the later family's looks); each row that meets fmt, with fmt's text TOLD by the authors' own Lean function (tested against real Go, not proved from fmt's source: count such statements apart). THE CARD IS WHAT COUNTS. Prove the row's statement (the work); the ties are given (YtlipekkiaiaplaaDoorTie.lean); close each card by the builder's one call (the guide's Derived/Test/ToyasCard.lean, 'card_holds'). Laid BY PROGRAM, IN A SANDBOX (cutbox-door.mjs). By AI agents, Wed Nov 11 2026. No macro, syntax, notation, axiom, sorry.
-/
import Derived.Test.YtlipekkiaiaplaaDoorRows
import GoSem.ClaimSeven
namespace Go.Proofs.YtlipekkiaiaplaaDoor
namespace Rows

/-- THE TIED CARD OF 'kinkeeplaw18.PathnameMatches'. -/
def pathnameMatchesCard : Claim7 := { stood := { row := pathnameMatchesRow, standIns := [], harness := (true, "04073c74e027ea7601c368dfc52987bbf6ca53a045af3de0ae91476a6a4805c2"), looks := false }, kinds := [], alts := [], laidByText := true, laidKinds := [.data, .pinned], laidTests := true, laidLooks := .later }
def PathnameMatchesCardSaid : Prop := Claim7.holds Tryd.pinned (.plain (OpenSpec.ofChange pathnameMatchesSpec)) pathnameMatchesCard

/-- THE TIED CARD OF 'kinkeeplaw18.PathnameIgnores'. -/
def pathnameIgnoresCard : Claim7 := { stood := { row := pathnameIgnoresRow, standIns := [], harness := (true, "04073c74e027ea7601c368dfc52987bbf6ca53a045af3de0ae91476a6a4805c2"), looks := false }, kinds := [], alts := [], laidByText := true, laidKinds := [.data, .pinned], laidTests := true, laidLooks := .later }
def PathnameIgnoresCardSaid : Prop := Claim7.holds Tryd.pinned (.plain (OpenSpec.ofChange pathnameIgnoresSpec)) pathnameIgnoresCard

/-- THE TIED CARD OF 'kinkeeplaw18.PathnameGlobs'. -/
def pathnameGlobsCard : Claim7 := { stood := { row := pathnameGlobsRow, standIns := [], harness := (true, "04073c74e027ea7601c368dfc52987bbf6ca53a045af3de0ae91476a6a4805c2"), looks := false }, kinds := [], alts := [], laidByText := true, laidKinds := [.data, .pinned], laidTests := true, laidLooks := .later }
def PathnameGlobsCardSaid : Prop := Claim7.holds Tryd.pinned (.plain (OpenSpec.ofChange pathnameGlobsSpec)) pathnameGlobsCard

/-- THE TIED CARD OF 'kinkeeplaw18.PathnameCompares'. -/
def pathnameComparesCard : Claim7 := { stood := { row := pathnameComparesRow, standIns := [], harness := (true, "04073c74e027ea7601c368dfc52987bbf6ca53a045af3de0ae91476a6a4805c2"), looks := false }, kinds := [], alts := [], laidByText := true, laidKinds := [.data, .pinned], laidTests := true, laidLooks := .later }
def PathnameComparesCardSaid : Prop := Claim7.holds Tryd.pinned (.plain (OpenSpec.ofChange pathnameComparesSpec)) pathnameComparesCard

/-- THE TIED CARD OF 'kinkeeplaw18.PathnameOrder'. -/
def pathnameOrderCard : Claim7 := { stood := { row := pathnameOrderRow, standIns := [], harness := (true, "04073c74e027ea7601c368dfc52987bbf6ca53a045af3de0ae91476a6a4805c2"), looks := false }, kinds := [], alts := [], laidByText := true, laidKinds := [.data, .pinned], laidTests := true, laidLooks := .later }
def PathnameOrderCardSaid : Prop := Claim7.holds Tryd.pinned (.plain (OpenSpec.ofChange pathnameOrderSpec)) pathnameOrderCard

/-- THE TIED CARD OF 'kinkeeplaw18.PathnameCleans'. -/
def pathnameCleansCard : Claim7 := { stood := { row := pathnameCleansRow, standIns := [], harness := (true, "04073c74e027ea7601c368dfc52987bbf6ca53a045af3de0ae91476a6a4805c2"), looks := false }, kinds := [], alts := [], laidByText := true, laidKinds := [.data, .pinned], laidTests := true, laidLooks := .later }
def PathnameCleansCardSaid : Prop := Claim7.holds Tryd.pinned (.plain (OpenSpec.ofChange pathnameCleansSpec)) pathnameCleansCard

/-- THE TIED CARD OF 'kinkeeplaw18.PathnameParses'. -/
def pathnameParsesCard : Claim7 := { stood := { row := pathnameParsesRow, standIns := [], harness := (true, "04073c74e027ea7601c368dfc52987bbf6ca53a045af3de0ae91476a6a4805c2"), looks := false }, kinds := [], alts := [], laidByText := true, laidKinds := [.data, .pinned], laidTests := true, laidLooks := .later }
def PathnameParsesCardSaid : Prop := Claim7.holds Tryd.pinned (.plain (OpenSpec.ofChange pathnameParsesSpec)) pathnameParsesCard

/-- THE TIED CARD OF 'kinkeeplaw18.PathnameRound'. -/
def pathnameRoundCard : Claim7 := { stood := { row := pathnameRoundRow, standIns := [], harness := (true, "04073c74e027ea7601c368dfc52987bbf6ca53a045af3de0ae91476a6a4805c2"), looks := false }, kinds := [], alts := [], laidByText := true, laidKinds := [.data, .pinned], laidTests := true, laidLooks := .later }
def PathnameRoundCardSaid : Prop := Claim7.holds Tryd.pinned (.plain (OpenSpec.ofChange pathnameRoundSpec)) pathnameRoundCard

/-- THE TIED CARD OF 'kinkeeplaw18.PathnameValid'. -/
def pathnameValidCard : Claim7 := { stood := { row := pathnameValidRow, standIns := [], harness := (true, "04073c74e027ea7601c368dfc52987bbf6ca53a045af3de0ae91476a6a4805c2"), looks := false }, kinds := [], alts := [], laidByText := true, laidKinds := [.data, .pinned], laidTests := true, laidLooks := .later }
def PathnameValidCardSaid : Prop := Claim7.holds Tryd.pinned (.plain (OpenSpec.ofChange pathnameValidSpec)) pathnameValidCard

/-- THE TIED CARD OF 'kinkeeplaw18.PathnameBelow'. -/
def pathnameBelowCard : Claim7 := { stood := { row := pathnameBelowRow, standIns := [], harness := (true, "04073c74e027ea7601c368dfc52987bbf6ca53a045af3de0ae91476a6a4805c2"), looks := false }, kinds := [], alts := [], laidByText := true, laidKinds := [.data, .pinned], laidTests := true, laidLooks := .later }
def PathnameBelowCardSaid : Prop := Claim7.holds Tryd.pinned (.plain (OpenSpec.ofChange pathnameBelowSpec)) pathnameBelowCard

/-- THE TIED CARD OF 'kinkeeplaw18.PathnameRejoins'. -/
def pathnameRejoinsCard : Claim7 := { stood := { row := pathnameRejoinsRow, standIns := [], harness := (true, "04073c74e027ea7601c368dfc52987bbf6ca53a045af3de0ae91476a6a4805c2"), looks := false }, kinds := [], alts := [], laidByText := true, laidKinds := [.data, .pinned], laidTests := true, laidLooks := .later }
def PathnameRejoinsCardSaid : Prop := Claim7.holds Tryd.pinned (.plain (OpenSpec.ofChange pathnameRejoinsSpec)) pathnameRejoinsCard

/-- THE SECOND FORM's CARD OF 'kinkeeplaw18.PathnameMatches'. -/
def pathnameMatchesUptoCard : Claim7 := { stood := { row := pathnameMatchesUptoRow, standIns := [], harness := (true, "04073c74e027ea7601c368dfc52987bbf6ca53a045af3de0ae91476a6a4805c2"), looks := false }, kinds := [], alts := [], laidByText := true, laidKinds := [.data, .pinned], laidTests := true, laidLooks := .later }
def PathnameMatchesUptoCardSaid : Prop := Claim7.holds Tryd.pinned (.plain (OpenSpec.upto pathnameMatchesSpec)) pathnameMatchesUptoCard

/-- THE SECOND FORM's CARD OF 'kinkeeplaw18.PathnameIgnores'. -/
def pathnameIgnoresUptoCard : Claim7 := { stood := { row := pathnameIgnoresUptoRow, standIns := [], harness := (true, "04073c74e027ea7601c368dfc52987bbf6ca53a045af3de0ae91476a6a4805c2"), looks := false }, kinds := [], alts := [], laidByText := true, laidKinds := [.data, .pinned], laidTests := true, laidLooks := .later }
def PathnameIgnoresUptoCardSaid : Prop := Claim7.holds Tryd.pinned (.plain (OpenSpec.upto pathnameIgnoresSpec)) pathnameIgnoresUptoCard

/-- THE SECOND FORM's CARD OF 'kinkeeplaw18.PathnameGlobs'. -/
def pathnameGlobsUptoCard : Claim7 := { stood := { row := pathnameGlobsUptoRow, standIns := [], harness := (true, "04073c74e027ea7601c368dfc52987bbf6ca53a045af3de0ae91476a6a4805c2"), looks := false }, kinds := [], alts := [], laidByText := true, laidKinds := [.data, .pinned], laidTests := true, laidLooks := .later }
def PathnameGlobsUptoCardSaid : Prop := Claim7.holds Tryd.pinned (.plain (OpenSpec.upto pathnameGlobsSpec)) pathnameGlobsUptoCard

/-- THE SECOND FORM's CARD OF 'kinkeeplaw18.PathnameCompares'. -/
def pathnameComparesUptoCard : Claim7 := { stood := { row := pathnameComparesUptoRow, standIns := [], harness := (true, "04073c74e027ea7601c368dfc52987bbf6ca53a045af3de0ae91476a6a4805c2"), looks := false }, kinds := [], alts := [], laidByText := true, laidKinds := [.data, .pinned], laidTests := true, laidLooks := .later }
def PathnameComparesUptoCardSaid : Prop := Claim7.holds Tryd.pinned (.plain (OpenSpec.upto pathnameComparesSpec)) pathnameComparesUptoCard

/-- THE SECOND FORM's CARD OF 'kinkeeplaw18.PathnameOrder'. -/
def pathnameOrderUptoCard : Claim7 := { stood := { row := pathnameOrderUptoRow, standIns := [], harness := (true, "04073c74e027ea7601c368dfc52987bbf6ca53a045af3de0ae91476a6a4805c2"), looks := false }, kinds := [], alts := [], laidByText := true, laidKinds := [.data, .pinned], laidTests := true, laidLooks := .later }
def PathnameOrderUptoCardSaid : Prop := Claim7.holds Tryd.pinned (.plain (OpenSpec.upto pathnameOrderSpec)) pathnameOrderUptoCard

/-- THE SECOND FORM's CARD OF 'kinkeeplaw18.PathnameCleans'. -/
def pathnameCleansUptoCard : Claim7 := { stood := { row := pathnameCleansUptoRow, standIns := [], harness := (true, "04073c74e027ea7601c368dfc52987bbf6ca53a045af3de0ae91476a6a4805c2"), looks := false }, kinds := [], alts := [], laidByText := true, laidKinds := [.data, .pinned], laidTests := true, laidLooks := .later }
def PathnameCleansUptoCardSaid : Prop := Claim7.holds Tryd.pinned (.plain (OpenSpec.upto pathnameCleansSpec)) pathnameCleansUptoCard

/-- THE SECOND FORM's CARD OF 'kinkeeplaw18.PathnameParses'. -/
def pathnameParsesUptoCard : Claim7 := { stood := { row := pathnameParsesUptoRow, standIns := [], harness := (true, "04073c74e027ea7601c368dfc52987bbf6ca53a045af3de0ae91476a6a4805c2"), looks := false }, kinds := [], alts := [], laidByText := true, laidKinds := [.data, .pinned], laidTests := true, laidLooks := .later }
def PathnameParsesUptoCardSaid : Prop := Claim7.holds Tryd.pinned (.plain (OpenSpec.upto pathnameParsesSpec)) pathnameParsesUptoCard

/-- THE SECOND FORM's CARD OF 'kinkeeplaw18.PathnameRound'. -/
def pathnameRoundUptoCard : Claim7 := { stood := { row := pathnameRoundUptoRow, standIns := [], harness := (true, "04073c74e027ea7601c368dfc52987bbf6ca53a045af3de0ae91476a6a4805c2"), looks := false }, kinds := [], alts := [], laidByText := true, laidKinds := [.data, .pinned], laidTests := true, laidLooks := .later }
def PathnameRoundUptoCardSaid : Prop := Claim7.holds Tryd.pinned (.plain (OpenSpec.upto pathnameRoundSpec)) pathnameRoundUptoCard

/-- THE SECOND FORM's CARD OF 'kinkeeplaw18.PathnameValid'. -/
def pathnameValidUptoCard : Claim7 := { stood := { row := pathnameValidUptoRow, standIns := [], harness := (true, "04073c74e027ea7601c368dfc52987bbf6ca53a045af3de0ae91476a6a4805c2"), looks := false }, kinds := [], alts := [], laidByText := true, laidKinds := [.data, .pinned], laidTests := true, laidLooks := .later }
def PathnameValidUptoCardSaid : Prop := Claim7.holds Tryd.pinned (.plain (OpenSpec.upto pathnameValidSpec)) pathnameValidUptoCard

/-- THE SECOND FORM's CARD OF 'kinkeeplaw18.PathnameBelow'. -/
def pathnameBelowUptoCard : Claim7 := { stood := { row := pathnameBelowUptoRow, standIns := [], harness := (true, "04073c74e027ea7601c368dfc52987bbf6ca53a045af3de0ae91476a6a4805c2"), looks := false }, kinds := [], alts := [], laidByText := true, laidKinds := [.data, .pinned], laidTests := true, laidLooks := .later }
def PathnameBelowUptoCardSaid : Prop := Claim7.holds Tryd.pinned (.plain (OpenSpec.upto pathnameBelowSpec)) pathnameBelowUptoCard

/-- THE SECOND FORM's CARD OF 'kinkeeplaw18.PathnameRejoins'. -/
def pathnameRejoinsUptoCard : Claim7 := { stood := { row := pathnameRejoinsUptoRow, standIns := [], harness := (true, "04073c74e027ea7601c368dfc52987bbf6ca53a045af3de0ae91476a6a4805c2"), looks := false }, kinds := [], alts := [], laidByText := true, laidKinds := [.data, .pinned], laidTests := true, laidLooks := .later }
def PathnameRejoinsUptoCardSaid : Prop := Claim7.holds Tryd.pinned (.plain (OpenSpec.upto pathnameRejoinsSpec)) pathnameRejoinsUptoCard
end Rows
end Go.Proofs.YtlipekkiaiaplaaDoor
