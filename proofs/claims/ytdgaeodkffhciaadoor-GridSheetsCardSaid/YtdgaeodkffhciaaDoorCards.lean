/-
  DERIVED. GIVEN WITH THE SEED: THE CARDS: each row of YtdgaeodkffhciaaDoorRows.lean that lists a variable, with what it lists TIED to the program's text (the seventh form; the later family's looks); each row that meets fmt, with fmt's text TOLD by the authors' own Lean function (tested against real Go, not proved from fmt's source: count such statements apart). THE CARD IS WHAT COUNTS. Prove the row's statement (the work); the ties are given (YtdgaeodkffhciaaDoorTie.lean); close each card by the builder's one call (the guide's Derived/Test/ToyasCard.lean, 'card_holds'). Laid BY PROGRAM, IN A SANDBOX (cutbox-door.mjs). By AI agents, Wed Nov 11 2026. No macro, syntax, notation, axiom, sorry.
-/
import Derived.Test.YtdgaeodkffhciaaDoorRows
import GoSem.ClaimSeven
namespace Go.Proofs.YtdgaeodkffhciaaDoor
namespace Rows

/-- THE TIED CARD OF 'mercatorlaw2.GridLines'. -/
def gridLinesCard : Claim7 := { stood := { row := gridLinesRow, standIns := [], harness := (true, "6884e727da6de7556f6540a7c6b0a828395d8c4958e3cb914d4ef7fd4811377a"), looks := true }, kinds := [], alts := [], laidByText := true, laidKinds := [.handle, .sentinel, .sentinel, .sentinel, .sentinel, .sentinel, .sentinel, .sentinel, .sentinel], laidTests := true, laidLooks := .later }
def GridLinesCardSaid : Prop := Claim7.holds Tryd.pinned (.plain (OpenSpec.ofChange gridLinesSpec)) gridLinesCard

/-- THE TIED CARD OF 'mercatorlaw2.GridSheets'. -/
def gridSheetsCard : Claim7 := { stood := { row := gridSheetsRow, standIns := [], harness := (true, "6884e727da6de7556f6540a7c6b0a828395d8c4958e3cb914d4ef7fd4811377a"), looks := true }, kinds := [], alts := [], laidByText := true, laidKinds := [.handle, .sentinel, .sentinel, .sentinel, .sentinel, .sentinel, .sentinel, .sentinel, .sentinel], laidTests := true, laidLooks := .later }
def GridSheetsCardSaid : Prop := Claim7.holds Tryd.pinned (.plain (OpenSpec.ofChange gridSheetsSpec)) gridSheetsCard

/-- THE TIED CARD OF 'mercatorlaw2.GlobeKnown'. -/
def globeKnownCard : Claim7 := { stood := { row := globeKnownRow, standIns := [], harness := (true, "6884e727da6de7556f6540a7c6b0a828395d8c4958e3cb914d4ef7fd4811377a"), looks := true }, kinds := [], alts := [], laidByText := true, laidKinds := [.handle, .sentinel, .sentinel, .sentinel, .sentinel, .sentinel, .sentinel, .sentinel, .sentinel], laidTests := true, laidLooks := .later }
def GlobeKnownCardSaid : Prop := Claim7.holds Tryd.pinned (.plain (OpenSpec.ofChange globeKnownSpec)) globeKnownCard

/-- THE TIED CARD OF 'mercatorlaw2.GlobePlaces'. -/
def globePlacesCard : Claim7 := { stood := { row := globePlacesRow, standIns := [], harness := (true, "6884e727da6de7556f6540a7c6b0a828395d8c4958e3cb914d4ef7fd4811377a"), looks := true }, kinds := [], alts := [], laidByText := true, laidKinds := [.handle, .sentinel, .sentinel, .sentinel, .sentinel, .sentinel, .sentinel, .sentinel, .sentinel], laidTests := true, laidLooks := .later }
def GlobePlacesCardSaid : Prop := Claim7.holds Tryd.pinned (.plain (OpenSpec.ofChange globePlacesSpec)) globePlacesCard

/-- THE TIED CARD OF 'mercatorlaw2.PathBetween'. -/
def pathBetweenCard : Claim7 := { stood := { row := pathBetweenRow, standIns := [], harness := (true, "6884e727da6de7556f6540a7c6b0a828395d8c4958e3cb914d4ef7fd4811377a"), looks := true }, kinds := [], alts := [], laidByText := true, laidKinds := [.handle, .sentinel, .sentinel, .sentinel, .sentinel, .sentinel, .sentinel, .sentinel, .sentinel], laidTests := true, laidLooks := .later }
def PathBetweenCardSaid : Prop := Claim7.holds Tryd.pinned (.plain (OpenSpec.ofChange pathBetweenSpec)) pathBetweenCard

/-- THE TIED CARD OF 'mercatorlaw2.PathReach'. -/
def pathReachCard : Claim7 := { stood := { row := pathReachRow, standIns := [], harness := (true, "6884e727da6de7556f6540a7c6b0a828395d8c4958e3cb914d4ef7fd4811377a"), looks := true }, kinds := [], alts := [], laidByText := true, laidKinds := [.handle, .sentinel, .sentinel, .sentinel, .sentinel, .sentinel, .sentinel, .sentinel, .sentinel], laidTests := true, laidLooks := .later }
def PathReachCardSaid : Prop := Claim7.holds Tryd.pinned (.plain (OpenSpec.ofChange pathReachSpec)) pathReachCard

/-- THE SECOND FORM's CARD OF 'mercatorlaw2.GridLines'. -/
def gridLinesUptoCard : Claim7 := { stood := { row := gridLinesUptoRow, standIns := [], harness := (true, "6884e727da6de7556f6540a7c6b0a828395d8c4958e3cb914d4ef7fd4811377a"), looks := true }, kinds := [], alts := [], laidByText := true, laidKinds := [.handle, .sentinel, .sentinel, .sentinel, .sentinel, .sentinel, .sentinel, .sentinel, .sentinel], laidTests := true, laidLooks := .later }
def GridLinesUptoCardSaid : Prop := Claim7.holds Tryd.pinned (.plain (OpenSpec.upto gridLinesSpec)) gridLinesUptoCard

/-- THE SECOND FORM's CARD OF 'mercatorlaw2.GridSheets'. -/
def gridSheetsUptoCard : Claim7 := { stood := { row := gridSheetsUptoRow, standIns := [], harness := (true, "6884e727da6de7556f6540a7c6b0a828395d8c4958e3cb914d4ef7fd4811377a"), looks := true }, kinds := [], alts := [], laidByText := true, laidKinds := [.handle, .sentinel, .sentinel, .sentinel, .sentinel, .sentinel, .sentinel, .sentinel, .sentinel], laidTests := true, laidLooks := .later }
def GridSheetsUptoCardSaid : Prop := Claim7.holds Tryd.pinned (.plain (OpenSpec.upto gridSheetsSpec)) gridSheetsUptoCard

/-- THE SECOND FORM's CARD OF 'mercatorlaw2.GlobeKnown'. -/
def globeKnownUptoCard : Claim7 := { stood := { row := globeKnownUptoRow, standIns := [], harness := (true, "6884e727da6de7556f6540a7c6b0a828395d8c4958e3cb914d4ef7fd4811377a"), looks := true }, kinds := [], alts := [], laidByText := true, laidKinds := [.handle, .sentinel, .sentinel, .sentinel, .sentinel, .sentinel, .sentinel, .sentinel, .sentinel], laidTests := true, laidLooks := .later }
def GlobeKnownUptoCardSaid : Prop := Claim7.holds Tryd.pinned (.plain (OpenSpec.upto globeKnownSpec)) globeKnownUptoCard

/-- THE SECOND FORM's CARD OF 'mercatorlaw2.GlobePlaces'. -/
def globePlacesUptoCard : Claim7 := { stood := { row := globePlacesUptoRow, standIns := [], harness := (true, "6884e727da6de7556f6540a7c6b0a828395d8c4958e3cb914d4ef7fd4811377a"), looks := true }, kinds := [], alts := [], laidByText := true, laidKinds := [.handle, .sentinel, .sentinel, .sentinel, .sentinel, .sentinel, .sentinel, .sentinel, .sentinel], laidTests := true, laidLooks := .later }
def GlobePlacesUptoCardSaid : Prop := Claim7.holds Tryd.pinned (.plain (OpenSpec.upto globePlacesSpec)) globePlacesUptoCard

/-- THE SECOND FORM's CARD OF 'mercatorlaw2.PathBetween'. -/
def pathBetweenUptoCard : Claim7 := { stood := { row := pathBetweenUptoRow, standIns := [], harness := (true, "6884e727da6de7556f6540a7c6b0a828395d8c4958e3cb914d4ef7fd4811377a"), looks := true }, kinds := [], alts := [], laidByText := true, laidKinds := [.handle, .sentinel, .sentinel, .sentinel, .sentinel, .sentinel, .sentinel, .sentinel, .sentinel], laidTests := true, laidLooks := .later }
def PathBetweenUptoCardSaid : Prop := Claim7.holds Tryd.pinned (.plain (OpenSpec.upto pathBetweenSpec)) pathBetweenUptoCard

/-- THE SECOND FORM's CARD OF 'mercatorlaw2.PathReach'. -/
def pathReachUptoCard : Claim7 := { stood := { row := pathReachUptoRow, standIns := [], harness := (true, "6884e727da6de7556f6540a7c6b0a828395d8c4958e3cb914d4ef7fd4811377a"), looks := true }, kinds := [], alts := [], laidByText := true, laidKinds := [.handle, .sentinel, .sentinel, .sentinel, .sentinel, .sentinel, .sentinel, .sentinel, .sentinel], laidTests := true, laidLooks := .later }
def PathReachUptoCardSaid : Prop := Claim7.holds Tryd.pinned (.plain (OpenSpec.upto pathReachSpec)) pathReachUptoCard
end Rows
end Go.Proofs.YtdgaeodkffhciaaDoor
