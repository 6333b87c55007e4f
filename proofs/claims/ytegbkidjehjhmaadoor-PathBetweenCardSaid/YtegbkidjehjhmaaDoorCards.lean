/-
  DERIVED. GIVEN WITH THE SEED: THE CARDS: each row of YtegbkidjehjhmaaDoorRows.lean that lists a variable, with what it lists TIED to the program's text (the seventh form; the later family's looks); each row that meets fmt, with fmt's text TOLD by the authors' own Lean function (tested against real Go, not proved from fmt's source: count such statements apart). THE CARD IS WHAT COUNTS. Prove the row's statement (the work); the ties are given (YtegbkidjehjhmaaDoorTie.lean); close each card by the builder's one call (the guide's Derived/Test/ToyasCard.lean, 'card_holds'). Laid BY PROGRAM, IN A SANDBOX (cutbox-door.mjs). By AI agents, Wed Nov 11 2026. No macro, syntax, notation, axiom, sorry.
-/
import Derived.Test.YtegbkidjehjhmaaDoorRows
import GoSem.ClaimSeven
namespace Go.Proofs.YtegbkidjehjhmaaDoor
namespace Rows

/-- THE TIED CARD OF 'mercatorlaw2.GridSquares'. -/
def gridSquaresCard : Claim7 := { stood := { row := gridSquaresRow, standIns := [], harness := (true, "7c82157dfbe2dcc82ef319efb3f71b3ee6450f6c2b8a6138154e201ec24f935f"), looks := true }, kinds := [], alts := [], laidByText := true, laidKinds := [.data, .data, .data, .sentinel, .sentinel], laidTests := true, laidLooks := .later }
def GridSquaresCardSaid : Prop := Claim7.holds Tryd.pinned (.plain (OpenSpec.ofChange gridSquaresSpec)) gridSquaresCard

/-- THE TIED CARD OF 'mercatorlaw2.PathBetween'. -/
def pathBetweenCard : Claim7 := { stood := { row := pathBetweenRow, standIns := [], harness := (true, "7c82157dfbe2dcc82ef319efb3f71b3ee6450f6c2b8a6138154e201ec24f935f"), looks := true }, kinds := [], alts := [], laidByText := true, laidKinds := [.handle, .sentinel, .sentinel, .sentinel, .sentinel, .sentinel, .sentinel, .sentinel, .sentinel], laidTests := true, laidLooks := .later }
def PathBetweenCardSaid : Prop := Claim7.holds Tryd.pinned (.plain (OpenSpec.ofChange pathBetweenSpec)) pathBetweenCard

/-- THE TIED CARD OF 'mercatorlaw2.PathReach'. -/
def pathReachCard : Claim7 := { stood := { row := pathReachRow, standIns := [], harness := (true, "7c82157dfbe2dcc82ef319efb3f71b3ee6450f6c2b8a6138154e201ec24f935f"), looks := true }, kinds := [], alts := [], laidByText := true, laidKinds := [.handle, .sentinel, .sentinel, .sentinel, .sentinel, .sentinel, .sentinel, .sentinel, .sentinel], laidTests := true, laidLooks := .later }
def PathReachCardSaid : Prop := Claim7.holds Tryd.pinned (.plain (OpenSpec.ofChange pathReachSpec)) pathReachCard

/-- THE TIED CARD OF 'mercatorlaw2.WaveSeries'. -/
def waveSeriesCard : Claim7 := { stood := { row := waveSeriesRow, standIns := [], harness := (true, "7c82157dfbe2dcc82ef319efb3f71b3ee6450f6c2b8a6138154e201ec24f935f"), looks := true }, kinds := [], alts := [], laidByText := true, laidKinds := [.handle, .sentinel, .sentinel, .sentinel, .sentinel, .sentinel, .sentinel, .sentinel, .sentinel], laidTests := true, laidLooks := .later }
def WaveSeriesCardSaid : Prop := Claim7.holds Tryd.pinned (.plain (OpenSpec.ofChange waveSeriesSpec)) waveSeriesCard

/-- THE TIED CARD OF 'mercatorlaw2.GridRefs'. -/
def gridRefsCard : Claim7 := { stood := { row := gridRefsRow, standIns := [], harness := (true, "7c82157dfbe2dcc82ef319efb3f71b3ee6450f6c2b8a6138154e201ec24f935f"), looks := true }, kinds := [], alts := [], laidByText := true, laidKinds := [.data, .data, .data, .handle, .sentinel, .sentinel, .sentinel, .sentinel, .sentinel, .sentinel, .sentinel, .sentinel], laidTests := true, laidLooks := .later }
def GridRefsCardSaid : Prop := Claim7.holds Tryd.pinned (.plain (OpenSpec.ofChange gridRefsSpec)) gridRefsCard

/-- THE SECOND FORM's CARD OF 'mercatorlaw2.GridSquares'. -/
def gridSquaresUptoCard : Claim7 := { stood := { row := gridSquaresUptoRow, standIns := [], harness := (true, "7c82157dfbe2dcc82ef319efb3f71b3ee6450f6c2b8a6138154e201ec24f935f"), looks := true }, kinds := [], alts := [], laidByText := true, laidKinds := [.data, .data, .data, .sentinel, .sentinel], laidTests := true, laidLooks := .later }
def GridSquaresUptoCardSaid : Prop := Claim7.holds Tryd.pinned (.plain (OpenSpec.upto gridSquaresSpec)) gridSquaresUptoCard

/-- THE SECOND FORM's CARD OF 'mercatorlaw2.PathBetween'. -/
def pathBetweenUptoCard : Claim7 := { stood := { row := pathBetweenUptoRow, standIns := [], harness := (true, "7c82157dfbe2dcc82ef319efb3f71b3ee6450f6c2b8a6138154e201ec24f935f"), looks := true }, kinds := [], alts := [], laidByText := true, laidKinds := [.handle, .sentinel, .sentinel, .sentinel, .sentinel, .sentinel, .sentinel, .sentinel, .sentinel], laidTests := true, laidLooks := .later }
def PathBetweenUptoCardSaid : Prop := Claim7.holds Tryd.pinned (.plain (OpenSpec.upto pathBetweenSpec)) pathBetweenUptoCard

/-- THE SECOND FORM's CARD OF 'mercatorlaw2.PathReach'. -/
def pathReachUptoCard : Claim7 := { stood := { row := pathReachUptoRow, standIns := [], harness := (true, "7c82157dfbe2dcc82ef319efb3f71b3ee6450f6c2b8a6138154e201ec24f935f"), looks := true }, kinds := [], alts := [], laidByText := true, laidKinds := [.handle, .sentinel, .sentinel, .sentinel, .sentinel, .sentinel, .sentinel, .sentinel, .sentinel], laidTests := true, laidLooks := .later }
def PathReachUptoCardSaid : Prop := Claim7.holds Tryd.pinned (.plain (OpenSpec.upto pathReachSpec)) pathReachUptoCard

/-- THE SECOND FORM's CARD OF 'mercatorlaw2.WaveSeries'. -/
def waveSeriesUptoCard : Claim7 := { stood := { row := waveSeriesUptoRow, standIns := [], harness := (true, "7c82157dfbe2dcc82ef319efb3f71b3ee6450f6c2b8a6138154e201ec24f935f"), looks := true }, kinds := [], alts := [], laidByText := true, laidKinds := [.handle, .sentinel, .sentinel, .sentinel, .sentinel, .sentinel, .sentinel, .sentinel, .sentinel], laidTests := true, laidLooks := .later }
def WaveSeriesUptoCardSaid : Prop := Claim7.holds Tryd.pinned (.plain (OpenSpec.upto waveSeriesSpec)) waveSeriesUptoCard

/-- THE SECOND FORM's CARD OF 'mercatorlaw2.GridRefs'. -/
def gridRefsUptoCard : Claim7 := { stood := { row := gridRefsUptoRow, standIns := [], harness := (true, "7c82157dfbe2dcc82ef319efb3f71b3ee6450f6c2b8a6138154e201ec24f935f"), looks := true }, kinds := [], alts := [], laidByText := true, laidKinds := [.data, .data, .data, .handle, .sentinel, .sentinel, .sentinel, .sentinel, .sentinel, .sentinel, .sentinel, .sentinel], laidTests := true, laidLooks := .later }
def GridRefsUptoCardSaid : Prop := Claim7.holds Tryd.pinned (.plain (OpenSpec.upto gridRefsSpec)) gridRefsUptoCard
end Rows
end Go.Proofs.YtegbkidjehjhmaaDoor
