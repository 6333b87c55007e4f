/-
  DERIVED. GIVEN WITH THE SEED: THE CARDS: each row of YtopedblojfnlnaaDoorRows.lean that lists a variable, with what it lists TIED to the program's text (the seventh form; the later family's looks); each row that meets fmt, with fmt's text TOLD by the authors' own Lean function (tested against real Go, not proved from fmt's source: count such statements apart). THE CARD IS WHAT COUNTS. Prove the row's statement (the work); the ties are given (YtopedblojfnlnaaDoorTie.lean); close each card by the builder's one call (the guide's Derived/Test/ToyasCard.lean, 'card_holds'). Laid BY PROGRAM, IN A SANDBOX (cutbox-door.mjs). By AI agents, Wed Nov 11 2026. No macro, syntax, notation, axiom, sorry.
-/
import Derived.Test.YtopedblojfnlnaaDoorRows
import GoSem.ClaimSeven
namespace Go.Proofs.YtopedblojfnlnaaDoor
namespace Rows

/-- THE TIED CARD OF 'mercatorlaw2.GridSquares'. -/
def gridSquaresCard : Claim7 := { stood := { row := gridSquaresRow, standIns := [], harness := (true, "5065069971e924e8d75cd4bc2f3e545b43279c674e938cd203b565e243e085ec"), looks := true }, kinds := [], alts := [], laidByText := true, laidKinds := [.data, .data, .data, .sentinel, .sentinel], laidTests := true, laidLooks := .later }
def GridSquaresCardSaid : Prop := Claim7.holds Tryd.pinned (.plain (OpenSpec.ofChange gridSquaresSpec)) gridSquaresCard

/-- THE TIED CARD OF 'mercatorlaw2.WaveSeries'. -/
def waveSeriesCard : Claim7 := { stood := { row := waveSeriesRow, standIns := [], harness := (true, "5065069971e924e8d75cd4bc2f3e545b43279c674e938cd203b565e243e085ec"), looks := true }, kinds := [], alts := [], laidByText := true, laidKinds := [.handle, .sentinel, .sentinel, .sentinel, .sentinel, .sentinel, .sentinel, .sentinel, .sentinel], laidTests := true, laidLooks := .later }
def WaveSeriesCardSaid : Prop := Claim7.holds Tryd.pinned (.plain (OpenSpec.ofChange waveSeriesSpec)) waveSeriesCard

/-- THE TIED CARD OF 'mercatorlaw2.GridRefs'. -/
def gridRefsCard : Claim7 := { stood := { row := gridRefsRow, standIns := [], harness := (true, "5065069971e924e8d75cd4bc2f3e545b43279c674e938cd203b565e243e085ec"), looks := true }, kinds := [], alts := [], laidByText := true, laidKinds := [.data, .data, .data, .handle, .sentinel, .sentinel, .sentinel, .sentinel, .sentinel, .sentinel, .sentinel, .sentinel], laidTests := true, laidLooks := .later }
def GridRefsCardSaid : Prop := Claim7.holds Tryd.pinned (.plain (OpenSpec.ofChange gridRefsSpec)) gridRefsCard

/-- THE SECOND FORM's CARD OF 'mercatorlaw2.GridSquares'. -/
def gridSquaresUptoCard : Claim7 := { stood := { row := gridSquaresUptoRow, standIns := [], harness := (true, "5065069971e924e8d75cd4bc2f3e545b43279c674e938cd203b565e243e085ec"), looks := true }, kinds := [], alts := [], laidByText := true, laidKinds := [.data, .data, .data, .sentinel, .sentinel], laidTests := true, laidLooks := .later }
def GridSquaresUptoCardSaid : Prop := Claim7.holds Tryd.pinned (.plain (OpenSpec.upto gridSquaresSpec)) gridSquaresUptoCard

/-- THE SECOND FORM's CARD OF 'mercatorlaw2.WaveSeries'. -/
def waveSeriesUptoCard : Claim7 := { stood := { row := waveSeriesUptoRow, standIns := [], harness := (true, "5065069971e924e8d75cd4bc2f3e545b43279c674e938cd203b565e243e085ec"), looks := true }, kinds := [], alts := [], laidByText := true, laidKinds := [.handle, .sentinel, .sentinel, .sentinel, .sentinel, .sentinel, .sentinel, .sentinel, .sentinel], laidTests := true, laidLooks := .later }
def WaveSeriesUptoCardSaid : Prop := Claim7.holds Tryd.pinned (.plain (OpenSpec.upto waveSeriesSpec)) waveSeriesUptoCard

/-- THE SECOND FORM's CARD OF 'mercatorlaw2.GridRefs'. -/
def gridRefsUptoCard : Claim7 := { stood := { row := gridRefsUptoRow, standIns := [], harness := (true, "5065069971e924e8d75cd4bc2f3e545b43279c674e938cd203b565e243e085ec"), looks := true }, kinds := [], alts := [], laidByText := true, laidKinds := [.data, .data, .data, .handle, .sentinel, .sentinel, .sentinel, .sentinel, .sentinel, .sentinel, .sentinel, .sentinel], laidTests := true, laidLooks := .later }
def GridRefsUptoCardSaid : Prop := Claim7.holds Tryd.pinned (.plain (OpenSpec.upto gridRefsSpec)) gridRefsUptoCard
end Rows
end Go.Proofs.YtopedblojfnlnaaDoor
