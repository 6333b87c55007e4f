/-
  DERIVED. GIVEN WITH THE SEED: THE CARDS: each row of YteebbcdbkkliaaaDoorRows.lean that lists a variable, with what it lists TIED to the program's text (the seventh form; the later family's looks); each row that meets fmt, with fmt's text TOLD by the authors' own Lean function (tested against real Go, not proved from fmt's source: count such statements apart). THE CARD IS WHAT COUNTS. Prove the row's statement (the work); the ties are given (YteebbcdbkkliaaaDoorTie.lean); close each card by the builder's one call (the guide's Derived/Test/ToyasCard.lean, 'card_holds'). Laid BY PROGRAM, IN A SANDBOX (cutbox-door.mjs). By AI agents, Wed Nov 11 2026. No macro, syntax, notation, axiom, sorry.
-/
import Derived.Test.YteebbcdbkkliaaaDoorRows
import GoSem.ClaimSeven
namespace Go.Proofs.YteebbcdbkkliaaaDoor
namespace Rows

/-- THE TIED CARD OF 'mercatorlaw2.GlobeBack'. -/
def globeBackCard : Claim7 := { stood := { row := globeBackRow, standIns := [], harness := (true, "89c4d1032b1d26eed98ed9e9cea40e108c5efc9fe9b06bb47fb3033c1ade0d72"), looks := true }, kinds := [], alts := [], laidByText := true, laidKinds := [.sentinel, .sentinel], laidTests := true, laidLooks := .later }
def GlobeBackCardSaid : Prop := Claim7.holds Tryd.pinned (.plain (OpenSpec.ofChange globeBackSpec)) globeBackCard

/-- THE TIED CARD OF 'mercatorlaw2.GridRefs'. -/
def gridRefsCard : Claim7 := { stood := { row := gridRefsRow, standIns := [], harness := (true, "89c4d1032b1d26eed98ed9e9cea40e108c5efc9fe9b06bb47fb3033c1ade0d72"), looks := true }, kinds := [], alts := [], laidByText := true, laidKinds := [.data, .data, .data, .handle, .sentinel, .sentinel, .sentinel, .sentinel, .sentinel, .sentinel, .sentinel, .sentinel], laidTests := true, laidLooks := .later }
def GridRefsCardSaid : Prop := Claim7.holds Tryd.pinned (.plain (OpenSpec.ofChange gridRefsSpec)) gridRefsCard

/-- THE SECOND FORM's CARD OF 'mercatorlaw2.GlobeBack'. -/
def globeBackUptoCard : Claim7 := { stood := { row := globeBackUptoRow, standIns := [], harness := (true, "89c4d1032b1d26eed98ed9e9cea40e108c5efc9fe9b06bb47fb3033c1ade0d72"), looks := true }, kinds := [], alts := [], laidByText := true, laidKinds := [.sentinel, .sentinel], laidTests := true, laidLooks := .later }
def GlobeBackUptoCardSaid : Prop := Claim7.holds Tryd.pinned (.plain (OpenSpec.upto globeBackSpec)) globeBackUptoCard

/-- THE SECOND FORM's CARD OF 'mercatorlaw2.GridRefs'. -/
def gridRefsUptoCard : Claim7 := { stood := { row := gridRefsUptoRow, standIns := [], harness := (true, "89c4d1032b1d26eed98ed9e9cea40e108c5efc9fe9b06bb47fb3033c1ade0d72"), looks := true }, kinds := [], alts := [], laidByText := true, laidKinds := [.data, .data, .data, .handle, .sentinel, .sentinel, .sentinel, .sentinel, .sentinel, .sentinel, .sentinel, .sentinel], laidTests := true, laidLooks := .later }
def GridRefsUptoCardSaid : Prop := Claim7.holds Tryd.pinned (.plain (OpenSpec.upto gridRefsSpec)) gridRefsUptoCard
end Rows
end Go.Proofs.YteebbcdbkkliaaaDoor
