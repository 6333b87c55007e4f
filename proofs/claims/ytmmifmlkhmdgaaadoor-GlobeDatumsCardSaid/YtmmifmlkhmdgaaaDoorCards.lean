/-
  DERIVED. GIVEN WITH THE SEED: THE CARDS: each row of YtmmifmlkhmdgaaaDoorRows.lean that lists a variable, with what it lists TIED to the program's text (the seventh form; the later family's looks); each row that meets fmt, with fmt's text TOLD by the authors' own Lean function (tested against real Go, not proved from fmt's source: count such statements apart). THE CARD IS WHAT COUNTS. Prove the row's statement (the work); the ties are given (YtmmifmlkhmdgaaaDoorTie.lean); close each card by the builder's one call (the guide's Derived/Test/ToyasCard.lean, 'card_holds'). Laid BY PROGRAM, IN A SANDBOX (cutbox-door.mjs). By AI agents, Wed Nov 11 2026. No macro, syntax, notation, axiom, sorry.
-/
import Derived.Test.YtmmifmlkhmdgaaaDoorRows
import GoSem.ClaimSeven
namespace Go.Proofs.YtmmifmlkhmdgaaaDoor
namespace Rows

/-- THE TIED CARD OF 'mercatorlaw2.GlobeBack'. -/
def globeBackCard : Claim7 := { stood := { row := globeBackRow, standIns := [], harness := (true, "dd316fe0cfa561af01c2d02d017567f7086d978082e49e14137dc0f25f5e6d60"), looks := true }, kinds := [], alts := [], laidByText := true, laidKinds := [.sentinel, .sentinel], laidTests := true, laidLooks := .later }
def GlobeBackCardSaid : Prop := Claim7.holds Tryd.pinned (.plain (OpenSpec.ofChange globeBackSpec)) globeBackCard

/-- THE TIED CARD OF 'mercatorlaw2.GlobeDatums'. -/
def globeDatumsCard : Claim7 := { stood := { row := globeDatumsRow, standIns := [], harness := (true, "dd316fe0cfa561af01c2d02d017567f7086d978082e49e14137dc0f25f5e6d60"), looks := true }, kinds := [], alts := [], laidByText := true, laidKinds := [.handle, .sentinel, .sentinel, .sentinel, .sentinel, .sentinel, .sentinel, .sentinel, .sentinel], laidTests := true, laidLooks := .later }
def GlobeDatumsCardSaid : Prop := Claim7.holds Tryd.pinned (.plain (OpenSpec.ofChange globeDatumsSpec)) globeDatumsCard

/-- THE TIED CARD OF 'mercatorlaw2.WaveSeries'. -/
def waveSeriesCard : Claim7 := { stood := { row := waveSeriesRow, standIns := [], harness := (true, "dd316fe0cfa561af01c2d02d017567f7086d978082e49e14137dc0f25f5e6d60"), looks := true }, kinds := [], alts := [], laidByText := true, laidKinds := [.handle, .sentinel, .sentinel, .sentinel, .sentinel, .sentinel, .sentinel, .sentinel, .sentinel], laidTests := true, laidLooks := .later }
def WaveSeriesCardSaid : Prop := Claim7.holds Tryd.pinned (.plain (OpenSpec.ofChange waveSeriesSpec)) waveSeriesCard

/-- THE TIED CARD OF 'mercatorlaw2.GridRefs'. -/
def gridRefsCard : Claim7 := { stood := { row := gridRefsRow, standIns := [], harness := (true, "dd316fe0cfa561af01c2d02d017567f7086d978082e49e14137dc0f25f5e6d60"), looks := true }, kinds := [], alts := [], laidByText := true, laidKinds := [.data, .data, .data, .handle, .sentinel, .sentinel, .sentinel, .sentinel, .sentinel, .sentinel, .sentinel, .sentinel], laidTests := true, laidLooks := .later }
def GridRefsCardSaid : Prop := Claim7.holds Tryd.pinned (.plain (OpenSpec.ofChange gridRefsSpec)) gridRefsCard

/-- THE SECOND FORM's CARD OF 'mercatorlaw2.GlobeBack'. -/
def globeBackUptoCard : Claim7 := { stood := { row := globeBackUptoRow, standIns := [], harness := (true, "dd316fe0cfa561af01c2d02d017567f7086d978082e49e14137dc0f25f5e6d60"), looks := true }, kinds := [], alts := [], laidByText := true, laidKinds := [.sentinel, .sentinel], laidTests := true, laidLooks := .later }
def GlobeBackUptoCardSaid : Prop := Claim7.holds Tryd.pinned (.plain (OpenSpec.upto globeBackSpec)) globeBackUptoCard

/-- THE SECOND FORM's CARD OF 'mercatorlaw2.GlobeDatums'. -/
def globeDatumsUptoCard : Claim7 := { stood := { row := globeDatumsUptoRow, standIns := [], harness := (true, "dd316fe0cfa561af01c2d02d017567f7086d978082e49e14137dc0f25f5e6d60"), looks := true }, kinds := [], alts := [], laidByText := true, laidKinds := [.handle, .sentinel, .sentinel, .sentinel, .sentinel, .sentinel, .sentinel, .sentinel, .sentinel], laidTests := true, laidLooks := .later }
def GlobeDatumsUptoCardSaid : Prop := Claim7.holds Tryd.pinned (.plain (OpenSpec.upto globeDatumsSpec)) globeDatumsUptoCard

/-- THE SECOND FORM's CARD OF 'mercatorlaw2.WaveSeries'. -/
def waveSeriesUptoCard : Claim7 := { stood := { row := waveSeriesUptoRow, standIns := [], harness := (true, "dd316fe0cfa561af01c2d02d017567f7086d978082e49e14137dc0f25f5e6d60"), looks := true }, kinds := [], alts := [], laidByText := true, laidKinds := [.handle, .sentinel, .sentinel, .sentinel, .sentinel, .sentinel, .sentinel, .sentinel, .sentinel], laidTests := true, laidLooks := .later }
def WaveSeriesUptoCardSaid : Prop := Claim7.holds Tryd.pinned (.plain (OpenSpec.upto waveSeriesSpec)) waveSeriesUptoCard

/-- THE SECOND FORM's CARD OF 'mercatorlaw2.GridRefs'. -/
def gridRefsUptoCard : Claim7 := { stood := { row := gridRefsUptoRow, standIns := [], harness := (true, "dd316fe0cfa561af01c2d02d017567f7086d978082e49e14137dc0f25f5e6d60"), looks := true }, kinds := [], alts := [], laidByText := true, laidKinds := [.data, .data, .data, .handle, .sentinel, .sentinel, .sentinel, .sentinel, .sentinel, .sentinel, .sentinel, .sentinel], laidTests := true, laidLooks := .later }
def GridRefsUptoCardSaid : Prop := Claim7.holds Tryd.pinned (.plain (OpenSpec.upto gridRefsSpec)) gridRefsUptoCard
end Rows
end Go.Proofs.YtmmifmlkhmdgaaaDoor
