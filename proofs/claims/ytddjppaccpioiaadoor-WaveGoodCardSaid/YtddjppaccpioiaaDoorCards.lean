/-
  DERIVED. GIVEN WITH THE SEED: THE CARDS: each row of YtddjppaccpioiaaDoorRows.lean that lists a variable, with what it lists TIED to the program's text (the seventh form; the later family's looks); each row that meets fmt, with fmt's text TOLD by the authors' own Lean function (tested against real Go, not proved from fmt's source: count such statements apart). THE CARD IS WHAT COUNTS. Prove the row's statement (the work); the ties are given (YtddjppaccpioiaaDoorTie.lean); close each card by the builder's one call (the guide's Derived/Test/ToyasCard.lean, 'card_holds'). Laid BY PROGRAM, IN A SANDBOX (cutbox-door.mjs). By AI agents, Wed Nov 11 2026. No macro, syntax, notation, axiom, sorry.
-/
import Derived.Test.YtddjppaccpioiaaDoorRows
import GoSem.ClaimSeven
namespace Go.Proofs.YtddjppaccpioiaaDoor
namespace Rows

/-- THE TIED CARD OF 'mercatorlaw2.PathBack'. -/
def pathBackCard : Claim7 := { stood := { row := pathBackRow, standIns := [], harness := (true, "2526bc384de3654d4467144850992b212ec7b7fc5d45872222b8dff4700172a7"), looks := false }, kinds := [], alts := [], laidByText := true, laidKinds := [.sentinel, .sentinel, .sentinel], laidTests := true, laidLooks := .later }
def PathBackCardSaid : Prop := Claim7.holds Tryd.pinned (.plain (OpenSpec.ofChange pathBackSpec)) pathBackCard

/-- THE TIED CARD OF 'mercatorlaw2.WaveAngles'. -/
def waveAnglesCard : Claim7 := { stood := { row := waveAnglesRow, standIns := [], harness := (true, "2526bc384de3654d4467144850992b212ec7b7fc5d45872222b8dff4700172a7"), looks := false }, kinds := [], alts := [], laidByText := true, laidKinds := [.sentinel, .sentinel], laidTests := true, laidLooks := .later }
def WaveAnglesCardSaid : Prop := Claim7.holds Tryd.pinned (.plain (OpenSpec.ofChange waveAnglesSpec)) waveAnglesCard

/-- THE TIED CARD OF 'mercatorlaw2.WaveGood'. -/
def waveGoodCard : Claim7 := { stood := { row := waveGoodRow, standIns := [], harness := (true, "2526bc384de3654d4467144850992b212ec7b7fc5d45872222b8dff4700172a7"), looks := false }, kinds := [], alts := [], laidByText := true, laidKinds := [.sentinel, .sentinel], laidTests := true, laidLooks := .later }
def WaveGoodCardSaid : Prop := Claim7.holds Tryd.pinned (.plain (OpenSpec.ofChange waveGoodSpec)) waveGoodCard

/-- THE TIED CARD OF 'mercatorlaw2.FlatGood'. -/
def flatGoodCard : Claim7 := { stood := { row := flatGoodRow, standIns := [], harness := (true, "2526bc384de3654d4467144850992b212ec7b7fc5d45872222b8dff4700172a7"), looks := false }, kinds := [], alts := [], laidByText := true, laidKinds := [.sentinel, .sentinel, .sentinel], laidTests := true, laidLooks := .later }
def FlatGoodCardSaid : Prop := Claim7.holds Tryd.pinned (.plain (OpenSpec.ofChange flatGoodSpec)) flatGoodCard

/-- THE SECOND FORM's CARD OF 'mercatorlaw2.PathBack'. -/
def pathBackUptoCard : Claim7 := { stood := { row := pathBackUptoRow, standIns := [], harness := (true, "2526bc384de3654d4467144850992b212ec7b7fc5d45872222b8dff4700172a7"), looks := false }, kinds := [], alts := [], laidByText := true, laidKinds := [.sentinel, .sentinel, .sentinel], laidTests := true, laidLooks := .later }
def PathBackUptoCardSaid : Prop := Claim7.holds Tryd.pinned (.plain (OpenSpec.upto pathBackSpec)) pathBackUptoCard

/-- THE SECOND FORM's CARD OF 'mercatorlaw2.WaveAngles'. -/
def waveAnglesUptoCard : Claim7 := { stood := { row := waveAnglesUptoRow, standIns := [], harness := (true, "2526bc384de3654d4467144850992b212ec7b7fc5d45872222b8dff4700172a7"), looks := false }, kinds := [], alts := [], laidByText := true, laidKinds := [.sentinel, .sentinel], laidTests := true, laidLooks := .later }
def WaveAnglesUptoCardSaid : Prop := Claim7.holds Tryd.pinned (.plain (OpenSpec.upto waveAnglesSpec)) waveAnglesUptoCard

/-- THE SECOND FORM's CARD OF 'mercatorlaw2.WaveGood'. -/
def waveGoodUptoCard : Claim7 := { stood := { row := waveGoodUptoRow, standIns := [], harness := (true, "2526bc384de3654d4467144850992b212ec7b7fc5d45872222b8dff4700172a7"), looks := false }, kinds := [], alts := [], laidByText := true, laidKinds := [.sentinel, .sentinel], laidTests := true, laidLooks := .later }
def WaveGoodUptoCardSaid : Prop := Claim7.holds Tryd.pinned (.plain (OpenSpec.upto waveGoodSpec)) waveGoodUptoCard

/-- THE SECOND FORM's CARD OF 'mercatorlaw2.FlatGood'. -/
def flatGoodUptoCard : Claim7 := { stood := { row := flatGoodUptoRow, standIns := [], harness := (true, "2526bc384de3654d4467144850992b212ec7b7fc5d45872222b8dff4700172a7"), looks := false }, kinds := [], alts := [], laidByText := true, laidKinds := [.sentinel, .sentinel, .sentinel], laidTests := true, laidLooks := .later }
def FlatGoodUptoCardSaid : Prop := Claim7.holds Tryd.pinned (.plain (OpenSpec.upto flatGoodSpec)) flatGoodUptoCard
end Rows
end Go.Proofs.YtddjppaccpioiaaDoor
