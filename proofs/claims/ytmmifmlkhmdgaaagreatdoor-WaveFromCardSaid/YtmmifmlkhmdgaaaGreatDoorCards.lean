/-
  DERIVED. GIVEN WITH THE SEED: THE CARDS: each row of YtmmifmlkhmdgaaaGreatDoorRows.lean that lists a variable, with what it lists TIED to the program's text (the seventh form; the later family's looks); each row that meets fmt, with fmt's text TOLD by the authors' own Lean function (tested against real Go, not proved from fmt's source: count such statements apart). THE CARD IS WHAT COUNTS. Prove the row's statement (the work); the ties are given (YtmmifmlkhmdgaaaGreatDoorTie.lean); close each card by the builder's one call (the guide's Derived/Test/ToyasCard.lean, 'card_holds'). Laid BY PROGRAM, IN A SANDBOX (cutbox-door.mjs). By AI agents, Wed Nov 11 2026. No macro, syntax, notation, axiom, sorry.
-/
import Derived.Test.YtmmifmlkhmdgaaaGreatDoorRows
import GoSem.ClaimSeven
namespace Go.Proofs.YtmmifmlkhmdgaaaGreatDoor
namespace Rows

/-- THE TIED CARD OF 'mercatorlaw2.WaveFrom'. -/
def waveFromCard : Claim7 := { stood := { row := waveFromRow, standIns := [], harness := (true, "625afde43d531b98151839d0c49f5cf7cbaa6932cb0a3d954e16645bafdae6f0"), looks := true }, kinds := [], alts := [], laidByText := true, laidKinds := [.handle, .sentinel, .sentinel, .sentinel, .sentinel, .sentinel, .sentinel, .sentinel, .sentinel], laidTests := true, laidLooks := .later }
def WaveFromCardSaid : Prop := Claim7.holds Tryz.pinned (.plain (OpenSpec.ofChange waveFromSpec)) waveFromCard

/-- THE TIED CARD OF 'mercatorlaw2.WaveTo'. -/
def waveToCard : Claim7 := { stood := { row := waveToRow, standIns := [], harness := (true, "625afde43d531b98151839d0c49f5cf7cbaa6932cb0a3d954e16645bafdae6f0"), looks := true }, kinds := [], alts := [], laidByText := true, laidKinds := [.handle, .sentinel, .sentinel, .sentinel, .sentinel, .sentinel, .sentinel, .sentinel, .sentinel], laidTests := true, laidLooks := .later }
def WaveToCardSaid : Prop := Claim7.holds Tryz.pinned (.plain (OpenSpec.ofChange waveToSpec)) waveToCard

/-- THE SECOND FORM's CARD OF 'mercatorlaw2.WaveFrom'. -/
def waveFromUptoCard : Claim7 := { stood := { row := waveFromUptoRow, standIns := [], harness := (true, "625afde43d531b98151839d0c49f5cf7cbaa6932cb0a3d954e16645bafdae6f0"), looks := true }, kinds := [], alts := [], laidByText := true, laidKinds := [.handle, .sentinel, .sentinel, .sentinel, .sentinel, .sentinel, .sentinel, .sentinel, .sentinel], laidTests := true, laidLooks := .later }
def WaveFromUptoCardSaid : Prop := Claim7.holds Tryz.pinned (.plain (OpenSpec.upto waveFromSpec)) waveFromUptoCard

/-- THE SECOND FORM's CARD OF 'mercatorlaw2.WaveTo'. -/
def waveToUptoCard : Claim7 := { stood := { row := waveToUptoRow, standIns := [], harness := (true, "625afde43d531b98151839d0c49f5cf7cbaa6932cb0a3d954e16645bafdae6f0"), looks := true }, kinds := [], alts := [], laidByText := true, laidKinds := [.handle, .sentinel, .sentinel, .sentinel, .sentinel, .sentinel, .sentinel, .sentinel, .sentinel], laidTests := true, laidLooks := .later }
def WaveToUptoCardSaid : Prop := Claim7.holds Tryz.pinned (.plain (OpenSpec.upto waveToSpec)) waveToUptoCard
end Rows
end Go.Proofs.YtmmifmlkhmdgaaaGreatDoor
