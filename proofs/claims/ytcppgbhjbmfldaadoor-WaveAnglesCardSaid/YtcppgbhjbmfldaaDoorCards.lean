/-
  DERIVED. GIVEN WITH THE SEED: THE CARDS: each row of YtcppgbhjbmfldaaDoorRows.lean that lists a variable, with what it lists TIED to the program's text (the seventh form; the later family's looks); each row that meets fmt, with fmt's text TOLD by the authors' own Lean function (tested against real Go, not proved from fmt's source: count such statements apart). THE CARD IS WHAT COUNTS. Prove the row's statement (the work); the ties are given (YtcppgbhjbmfldaaDoorTie.lean); close each card by the builder's one call (the guide's Derived/Test/ToyasCard.lean, 'card_holds'). Laid BY PROGRAM, IN A SANDBOX (cutbox-door.mjs). By AI agents, Wed Nov 11 2026. No macro, syntax, notation, axiom, sorry.
-/
import Derived.Test.YtcppgbhjbmfldaaDoorRows
import GoSem.ClaimSeven
namespace Go.Proofs.YtcppgbhjbmfldaaDoor
namespace Rows

/-- THE TIED CARD OF 'mercatorlaw2.PathBack'. -/
def pathBackCard : Claim7 := { stood := { row := pathBackRow, standIns := [], harness := (true, "f54f31baf6ab45c54682231a145c1c4de91d3963dc33a043876c296af1f122a3"), looks := false }, kinds := [], alts := [], laidByText := true, laidKinds := [.sentinel, .sentinel, .sentinel], laidTests := true, laidLooks := .later }
def PathBackCardSaid : Prop := Claim7.holds Tryd.pinned (.plain (OpenSpec.ofChange pathBackSpec)) pathBackCard

/-- THE TIED CARD OF 'mercatorlaw2.WaveAngles'. -/
def waveAnglesCard : Claim7 := { stood := { row := waveAnglesRow, standIns := [], harness := (true, "f54f31baf6ab45c54682231a145c1c4de91d3963dc33a043876c296af1f122a3"), looks := false }, kinds := [], alts := [], laidByText := true, laidKinds := [.sentinel, .sentinel], laidTests := true, laidLooks := .later }
def WaveAnglesCardSaid : Prop := Claim7.holds Tryd.pinned (.plain (OpenSpec.ofChange waveAnglesSpec)) waveAnglesCard

/-- THE SECOND FORM's CARD OF 'mercatorlaw2.PathBack'. -/
def pathBackUptoCard : Claim7 := { stood := { row := pathBackUptoRow, standIns := [], harness := (true, "f54f31baf6ab45c54682231a145c1c4de91d3963dc33a043876c296af1f122a3"), looks := false }, kinds := [], alts := [], laidByText := true, laidKinds := [.sentinel, .sentinel, .sentinel], laidTests := true, laidLooks := .later }
def PathBackUptoCardSaid : Prop := Claim7.holds Tryd.pinned (.plain (OpenSpec.upto pathBackSpec)) pathBackUptoCard

/-- THE SECOND FORM's CARD OF 'mercatorlaw2.WaveAngles'. -/
def waveAnglesUptoCard : Claim7 := { stood := { row := waveAnglesUptoRow, standIns := [], harness := (true, "f54f31baf6ab45c54682231a145c1c4de91d3963dc33a043876c296af1f122a3"), looks := false }, kinds := [], alts := [], laidByText := true, laidKinds := [.sentinel, .sentinel], laidTests := true, laidLooks := .later }
def WaveAnglesUptoCardSaid : Prop := Claim7.holds Tryd.pinned (.plain (OpenSpec.upto waveAnglesSpec)) waveAnglesUptoCard
end Rows
end Go.Proofs.YtcppgbhjbmfldaaDoor
