/-
  DERIVED. GIVEN WITH THE SEED: THE CARDS: each row of YtcppgbhjbmfldaaGreatDoorRows.lean that lists a variable, with what it lists TIED to the program's text (the seventh form; the later family's looks); each row that meets fmt, with fmt's text TOLD by the authors' own Lean function (tested against real Go, not proved from fmt's source: count such statements apart). THE CARD IS WHAT COUNTS. Prove the row's statement (the work); the ties are given (YtcppgbhjbmfldaaGreatDoorTie.lean); close each card by the builder's one call (the guide's Derived/Test/ToyasCard.lean, 'card_holds'). Laid BY PROGRAM, IN A SANDBOX (cutbox-door.mjs). By AI agents, Wed Nov 11 2026. No macro, syntax, notation, axiom, sorry.
-/
import Derived.Test.YtcppgbhjbmfldaaGreatDoorRows
import GoSem.ClaimSeven
namespace Go.Proofs.YtcppgbhjbmfldaaGreatDoor
namespace Rows

/-- THE TIED CARD OF 'mercatorlaw2.GridPlaces'. -/
def gridPlacesCard : Claim7 := { stood := { row := gridPlacesRow, standIns := [], harness := (true, "be25c4440b51ffaacad932b55c7d35e568b5179a578f7741fa4b3aa4cac09635"), looks := true }, kinds := [], alts := [], laidByText := true, laidKinds := [.handle, .sentinel, .sentinel, .sentinel, .sentinel, .sentinel, .sentinel, .sentinel, .sentinel], laidTests := true, laidLooks := .later }
def GridPlacesCardSaid : Prop := Claim7.holds Tryz.pinned (.plain (OpenSpec.ofChange gridPlacesSpec)) gridPlacesCard

/-- THE SECOND FORM's CARD OF 'mercatorlaw2.GridPlaces'. -/
def gridPlacesUptoCard : Claim7 := { stood := { row := gridPlacesUptoRow, standIns := [], harness := (true, "be25c4440b51ffaacad932b55c7d35e568b5179a578f7741fa4b3aa4cac09635"), looks := true }, kinds := [], alts := [], laidByText := true, laidKinds := [.handle, .sentinel, .sentinel, .sentinel, .sentinel, .sentinel, .sentinel, .sentinel, .sentinel], laidTests := true, laidLooks := .later }
def GridPlacesUptoCardSaid : Prop := Claim7.holds Tryz.pinned (.plain (OpenSpec.upto gridPlacesSpec)) gridPlacesUptoCard
end Rows
end Go.Proofs.YtcppgbhjbmfldaaGreatDoor
