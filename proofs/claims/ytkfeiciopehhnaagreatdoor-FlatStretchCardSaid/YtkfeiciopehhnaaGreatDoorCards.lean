/-
  DERIVED. GIVEN WITH THE SEED: THE CARDS: each row of YtkfeiciopehhnaaGreatDoorRows.lean that lists a variable, with what it lists TIED to the program's text (the seventh form; the later family's looks); each row that meets fmt, with fmt's text TOLD by the authors' own Lean function (tested against real Go, not proved from fmt's source: count such statements apart). THE CARD IS WHAT COUNTS. Prove the row's statement (the work); the ties are given (YtkfeiciopehhnaaGreatDoorTie.lean); close each card by the builder's one call (the guide's Derived/Test/ToyasCard.lean, 'card_holds'). Laid BY PROGRAM, IN A SANDBOX (cutbox-door.mjs). By AI agents, Wed Nov 11 2026. No macro, syntax, notation, axiom, sorry.
-/
import Derived.Test.YtkfeiciopehhnaaGreatDoorRows
import GoSem.ClaimSeven
namespace Go.Proofs.YtkfeiciopehhnaaGreatDoor
namespace Rows

/-- THE TIED CARD OF 'mercatorlaw2.WaveFrom'. -/
def waveFromCard : Claim7 := { stood := { row := waveFromRow, standIns := [], harness := (true, "43d1c1fc1e5a9fc6ac8d1b43cba6b4a8d7648a2b57f17bd3dbb63a6dfcc15a3c"), looks := true }, kinds := [], alts := [], laidByText := true, laidKinds := [.handle, .sentinel, .sentinel, .sentinel, .sentinel, .sentinel, .sentinel, .sentinel, .sentinel], laidTests := true, laidLooks := .later }
def WaveFromCardSaid : Prop := Claim7.holds Tryz.pinned (.plain (OpenSpec.ofChange waveFromSpec)) waveFromCard

/-- THE TIED CARD OF 'mercatorlaw2.FlatTo'. -/
def flatToCard : Claim7 := { stood := { row := flatToRow, standIns := [], harness := (true, "43d1c1fc1e5a9fc6ac8d1b43cba6b4a8d7648a2b57f17bd3dbb63a6dfcc15a3c"), looks := true }, kinds := [], alts := [], laidByText := true, laidKinds := [.handle, .sentinel, .sentinel, .sentinel, .sentinel, .sentinel, .sentinel, .sentinel, .sentinel], laidTests := true, laidLooks := .later }
def FlatToCardSaid : Prop := Claim7.holds Tryz.pinned (.plain (OpenSpec.ofChange flatToSpec)) flatToCard

/-- THE TIED CARD OF 'mercatorlaw2.FlatStretch'. -/
def flatStretchCard : Claim7 := { stood := { row := flatStretchRow, standIns := [], harness := (true, "43d1c1fc1e5a9fc6ac8d1b43cba6b4a8d7648a2b57f17bd3dbb63a6dfcc15a3c"), looks := true }, kinds := [], alts := [], laidByText := true, laidKinds := [.handle, .sentinel, .sentinel, .sentinel, .sentinel, .sentinel, .sentinel, .sentinel, .sentinel], laidTests := true, laidLooks := .later }
def FlatStretchCardSaid : Prop := Claim7.holds Tryz.pinned (.plain (OpenSpec.ofChange flatStretchSpec)) flatStretchCard

/-- THE TIED CARD OF 'mercatorlaw2.WaveTo'. -/
def waveToCard : Claim7 := { stood := { row := waveToRow, standIns := [], harness := (true, "43d1c1fc1e5a9fc6ac8d1b43cba6b4a8d7648a2b57f17bd3dbb63a6dfcc15a3c"), looks := true }, kinds := [], alts := [], laidByText := true, laidKinds := [.handle, .sentinel, .sentinel, .sentinel, .sentinel, .sentinel, .sentinel, .sentinel, .sentinel], laidTests := true, laidLooks := .later }
def WaveToCardSaid : Prop := Claim7.holds Tryz.pinned (.plain (OpenSpec.ofChange waveToSpec)) waveToCard

/-- THE TIED CARD OF 'mercatorlaw2.FlatFrom'. -/
def flatFromCard : Claim7 := { stood := { row := flatFromRow, standIns := [], harness := (true, "43d1c1fc1e5a9fc6ac8d1b43cba6b4a8d7648a2b57f17bd3dbb63a6dfcc15a3c"), looks := true }, kinds := [], alts := [], laidByText := true, laidKinds := [.handle, .sentinel, .sentinel, .sentinel, .sentinel, .sentinel, .sentinel, .sentinel, .sentinel], laidTests := true, laidLooks := .later }
def FlatFromCardSaid : Prop := Claim7.holds Tryz.pinned (.plain (OpenSpec.ofChange flatFromSpec)) flatFromCard

/-- THE SECOND FORM's CARD OF 'mercatorlaw2.WaveFrom'. -/
def waveFromUptoCard : Claim7 := { stood := { row := waveFromUptoRow, standIns := [], harness := (true, "43d1c1fc1e5a9fc6ac8d1b43cba6b4a8d7648a2b57f17bd3dbb63a6dfcc15a3c"), looks := true }, kinds := [], alts := [], laidByText := true, laidKinds := [.handle, .sentinel, .sentinel, .sentinel, .sentinel, .sentinel, .sentinel, .sentinel, .sentinel], laidTests := true, laidLooks := .later }
def WaveFromUptoCardSaid : Prop := Claim7.holds Tryz.pinned (.plain (OpenSpec.upto waveFromSpec)) waveFromUptoCard

/-- THE SECOND FORM's CARD OF 'mercatorlaw2.FlatTo'. -/
def flatToUptoCard : Claim7 := { stood := { row := flatToUptoRow, standIns := [], harness := (true, "43d1c1fc1e5a9fc6ac8d1b43cba6b4a8d7648a2b57f17bd3dbb63a6dfcc15a3c"), looks := true }, kinds := [], alts := [], laidByText := true, laidKinds := [.handle, .sentinel, .sentinel, .sentinel, .sentinel, .sentinel, .sentinel, .sentinel, .sentinel], laidTests := true, laidLooks := .later }
def FlatToUptoCardSaid : Prop := Claim7.holds Tryz.pinned (.plain (OpenSpec.upto flatToSpec)) flatToUptoCard

/-- THE SECOND FORM's CARD OF 'mercatorlaw2.FlatStretch'. -/
def flatStretchUptoCard : Claim7 := { stood := { row := flatStretchUptoRow, standIns := [], harness := (true, "43d1c1fc1e5a9fc6ac8d1b43cba6b4a8d7648a2b57f17bd3dbb63a6dfcc15a3c"), looks := true }, kinds := [], alts := [], laidByText := true, laidKinds := [.handle, .sentinel, .sentinel, .sentinel, .sentinel, .sentinel, .sentinel, .sentinel, .sentinel], laidTests := true, laidLooks := .later }
def FlatStretchUptoCardSaid : Prop := Claim7.holds Tryz.pinned (.plain (OpenSpec.upto flatStretchSpec)) flatStretchUptoCard

/-- THE SECOND FORM's CARD OF 'mercatorlaw2.WaveTo'. -/
def waveToUptoCard : Claim7 := { stood := { row := waveToUptoRow, standIns := [], harness := (true, "43d1c1fc1e5a9fc6ac8d1b43cba6b4a8d7648a2b57f17bd3dbb63a6dfcc15a3c"), looks := true }, kinds := [], alts := [], laidByText := true, laidKinds := [.handle, .sentinel, .sentinel, .sentinel, .sentinel, .sentinel, .sentinel, .sentinel, .sentinel], laidTests := true, laidLooks := .later }
def WaveToUptoCardSaid : Prop := Claim7.holds Tryz.pinned (.plain (OpenSpec.upto waveToSpec)) waveToUptoCard

/-- THE SECOND FORM's CARD OF 'mercatorlaw2.FlatFrom'. -/
def flatFromUptoCard : Claim7 := { stood := { row := flatFromUptoRow, standIns := [], harness := (true, "43d1c1fc1e5a9fc6ac8d1b43cba6b4a8d7648a2b57f17bd3dbb63a6dfcc15a3c"), looks := true }, kinds := [], alts := [], laidByText := true, laidKinds := [.handle, .sentinel, .sentinel, .sentinel, .sentinel, .sentinel, .sentinel, .sentinel, .sentinel], laidTests := true, laidLooks := .later }
def FlatFromUptoCardSaid : Prop := Claim7.holds Tryz.pinned (.plain (OpenSpec.upto flatFromSpec)) flatFromUptoCard
end Rows
end Go.Proofs.YtkfeiciopehhnaaGreatDoor
