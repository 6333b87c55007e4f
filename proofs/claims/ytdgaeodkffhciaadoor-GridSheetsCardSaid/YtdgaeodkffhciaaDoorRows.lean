/-
  NARROWER THAN 'FOR EVERY INPUT', by the rows' own cells (each row's printed sentence says how): GridLines: laid · GridSheets: laid · GlobeKnown: laid · GlobePlaces: laid · PathBetween: laid · PathReach: laid.
  DERIVED. THE GIVEN ROWS OF THIS SEAT. 6 by the template 'for every input the law returns true; each argument reads behind the call as it read before'; 0 by the template 'total and deterministic' (their statements: YtdgaeodkffhciaaDoorTotals.lean).
  GIVEN WITH THE SEED: the statements are not yours to turn. If you find one false, say at which input.
  Laid BY PROGRAM, IN A SANDBOX (cutbox-rows.mjs): the forced cells as the released guide's own fill.sh prints them over the translation 126c3ccf060778b4… (all of the seat's roots in one cut). By AI agents, Wed Nov 11 2026. No macro, syntax, notation, axiom, sorry.
-/
import Derived.Test.YtdgaeodkffhciaaDoorChecked
import GoSem.Claim
import GoSem.ClaimJoined
import GoSem.ClaimMapViews
import Derived.JoinedTies
import Derived.KernelRfl
namespace Go.Proofs.YtdgaeodkffhciaaDoor
/- THE CELL 'sum', in the pinned program and in every row, IS THE sha256 OF THE DUMP (.gsa) THAT YtdgaeodkffhciaaDoorProg.lean LOADS. Nothing in Lean hashes anything: it is a label: what it is worth is what the hold of that sum in a sandbox is worth. -/
noncomputable def Tryd.pinned : Pinned := { name := "ytdgaeodkffhciaadoor", sum := "126c3ccf060778b410519180fb046aebe9498dbb10d4ae5d8c8dfd21ea091499", checked := Tryd.checked }
namespace Rows
def none {H : Type} : Left H := { results := [], args := [] }

/- WHAT THE LISTED PACKAGE-LEVEL VARIABLES READ AS WHEN THE CALL BEGINS. Each datum BY PROGRAM (the guide's laid-datum.mjs) off the statement by which the dump's own 'gosem.cut.vars' lays the variable. In a bare row this is a premise. The card (YtdgaeodkffhciaaDoorCards.lean) ties it to the program's text. -/
def laid_errors_errorType {H : Type} : DataW H := .iface "internal/reflectlite.rtype" (.agg [.ptr (.lit (.string [101, 114, 114, 111, 114]))])
def laid_mercator_api_ErrText {H : Type} : DataW H := .iface "*errors.errorString" (.ptr (.agg [.lit (.string [109, 101, 114, 99, 97, 116, 111, 114, 58, 32, 116, 101, 120, 116])]))
def laid_mercator_api_ErrBound {H : Type} : DataW H := .iface "*errors.errorString" (.ptr (.agg [.lit (.string [109, 101, 114, 99, 97, 116, 111, 114, 58, 32, 98, 111, 117, 110, 100])]))
def laid_mercator_api_ErrShape {H : Type} : DataW H := .iface "*errors.errorString" (.ptr (.agg [.lit (.string [109, 101, 114, 99, 97, 116, 111, 114, 58, 32, 115, 104, 97, 112, 101])]))
def laid_mercator_api_ErrRange {H : Type} : DataW H := .iface "*errors.errorString" (.ptr (.agg [.lit (.string [109, 101, 114, 99, 97, 116, 111, 114, 58, 32, 114, 97, 110, 103, 101])]))
def laid_mercator_api_ErrName {H : Type} : DataW H := .iface "*errors.errorString" (.ptr (.agg [.lit (.string [109, 101, 114, 99, 97, 116, 111, 114, 58, 32, 110, 97, 109, 101])]))
def laid_mercator_api_ErrNone {H : Type} : DataW H := .iface "*errors.errorString" (.ptr (.agg [.lit (.string [109, 101, 114, 99, 97, 116, 111, 114, 58, 32, 110, 111, 110, 101])]))
def laid_mercator_api_ErrOrder {H : Type} : DataW H := .iface "*errors.errorString" (.ptr (.agg [.lit (.string [109, 101, 114, 99, 97, 116, 111, 114, 58, 32, 111, 114, 100, 101, 114])]))
def laid_mercator_api_ErrFile {H : Type} : DataW H := .iface "*errors.errorString" (.ptr (.agg [.lit (.string [109, 101, 114, 99, 97, 116, 111, 114, 58, 32, 102, 105, 108, 101])]))

/-- 'mercatorlaw2.GridLines': WHATEVER THE INPUT: true; the input reads as it did. -/
def gridLinesSpec : ChangeSpec := { name := "gridLines", fn := fun _ => fun
  | [d1, d2] => { results := [.lit (.bool true)], args := [d1, d2] }
  | _ => none }
def gridLinesRow : OpenClaim := { program := "ytdgaeodkffhciaadoor", sum := "126c3ccf060778b410519180fb046aebe9498dbb10d4ae5d8c8dfd21ea091499", func := "mercator/mercatorlaw2.GridLines", spec := "gridLines", inPlace := ["internal/reflectlite.ValueOf", "(internal/reflectlite.Value).Type", "(internal/reflectlite.Value).IsNil", "internal/reflectlite.TypeOf", "(internal/reflectlite.Value).Elem", "(internal/reflectlite.Value).Set"], unfollowed := true, recurses := true, named := ["mercator/api.ErrShape", "mercator/api.ErrBound", "mercator/api.ErrText", "mercator/api.ErrRange", "mercator/api.ErrName", "mercator/api.ErrNone", "mercator/api.ErrOrder", "mercator/api.ErrFile", "errors.errorType"], apart := false, laid := [("errors.errorType", laid_errors_errorType), ("mercator/api.ErrText", laid_mercator_api_ErrText), ("mercator/api.ErrBound", laid_mercator_api_ErrBound), ("mercator/api.ErrShape", laid_mercator_api_ErrShape), ("mercator/api.ErrRange", laid_mercator_api_ErrRange), ("mercator/api.ErrName", laid_mercator_api_ErrName), ("mercator/api.ErrNone", laid_mercator_api_ErrNone), ("mercator/api.ErrOrder", laid_mercator_api_ErrOrder), ("mercator/api.ErrFile", laid_mercator_api_ErrFile)] }
def GridLinesSaid : Prop := gridLinesRow.holds Tryd.pinned (OpenSpec.ofChange gridLinesSpec)

/-- ITS FALSE NEIGHBOUR: 'it returns false'. Refute it at one input. -/
def gridLinesWrong : ChangeSpec := { name := "gridLines", fn := fun _ => fun
  | [d1, d2] => { results := [.lit (.bool false)], args := [d1, d2] }
  | _ => none }
def GridLinesWrongFalsely : Prop := gridLinesRow.holds Tryd.pinned (OpenSpec.ofChange gridLinesWrong)

/-- 'mercatorlaw2.GridSheets': WHATEVER THE INPUT: true; the input reads as it did. -/
def gridSheetsSpec : ChangeSpec := { name := "gridSheets", fn := fun _ => fun
  | [d1, d2, d3, d4, d5] => { results := [.lit (.bool true)], args := [d1, d2, d3, d4, d5] }
  | _ => none }
def gridSheetsRow : OpenClaim := { program := "ytdgaeodkffhciaadoor", sum := "126c3ccf060778b410519180fb046aebe9498dbb10d4ae5d8c8dfd21ea091499", func := "mercator/mercatorlaw2.GridSheets", spec := "gridSheets", inPlace := ["internal/reflectlite.ValueOf", "(internal/reflectlite.Value).Type", "(internal/reflectlite.Value).IsNil", "internal/reflectlite.TypeOf", "(internal/reflectlite.Value).Elem", "(internal/reflectlite.Value).Set"], unfollowed := true, recurses := true, named := ["mercator/api.ErrRange", "mercator/api.ErrShape", "mercator/api.ErrBound", "mercator/api.ErrText", "mercator/api.ErrName", "mercator/api.ErrNone", "mercator/api.ErrOrder", "mercator/api.ErrFile", "errors.errorType"], apart := false, laid := [("errors.errorType", laid_errors_errorType), ("mercator/api.ErrText", laid_mercator_api_ErrText), ("mercator/api.ErrBound", laid_mercator_api_ErrBound), ("mercator/api.ErrShape", laid_mercator_api_ErrShape), ("mercator/api.ErrRange", laid_mercator_api_ErrRange), ("mercator/api.ErrName", laid_mercator_api_ErrName), ("mercator/api.ErrNone", laid_mercator_api_ErrNone), ("mercator/api.ErrOrder", laid_mercator_api_ErrOrder), ("mercator/api.ErrFile", laid_mercator_api_ErrFile)] }
def GridSheetsSaid : Prop := gridSheetsRow.holds Tryd.pinned (OpenSpec.ofChange gridSheetsSpec)

/-- ITS FALSE NEIGHBOUR: 'it returns false'. Refute it at one input. -/
def gridSheetsWrong : ChangeSpec := { name := "gridSheets", fn := fun _ => fun
  | [d1, d2, d3, d4, d5] => { results := [.lit (.bool false)], args := [d1, d2, d3, d4, d5] }
  | _ => none }
def GridSheetsWrongFalsely : Prop := gridSheetsRow.holds Tryd.pinned (OpenSpec.ofChange gridSheetsWrong)

/-- 'mercatorlaw2.GlobeKnown': WHATEVER THE INPUT: true; the input reads as it did. -/
def globeKnownSpec : ChangeSpec := { name := "globeKnown", fn := fun _ => fun
  | [d1, d2, d3] => { results := [.lit (.bool true)], args := [d1, d2, d3] }
  | _ => none }
def globeKnownRow : OpenClaim := { program := "ytdgaeodkffhciaadoor", sum := "126c3ccf060778b410519180fb046aebe9498dbb10d4ae5d8c8dfd21ea091499", func := "mercator/mercatorlaw2.GlobeKnown", spec := "globeKnown", inPlace := ["internal/reflectlite.ValueOf", "(internal/reflectlite.Value).Type", "(internal/reflectlite.Value).IsNil", "internal/reflectlite.TypeOf", "(internal/reflectlite.Value).Elem", "(internal/reflectlite.Value).Set", "math.sqrt"], unfollowed := true, recurses := true, named := ["mercator/api.ErrName", "mercator/api.ErrText", "mercator/api.ErrBound", "mercator/api.ErrShape", "mercator/api.ErrRange", "mercator/api.ErrNone", "mercator/api.ErrOrder", "mercator/api.ErrFile", "errors.errorType"], apart := false, laid := [("errors.errorType", laid_errors_errorType), ("mercator/api.ErrText", laid_mercator_api_ErrText), ("mercator/api.ErrBound", laid_mercator_api_ErrBound), ("mercator/api.ErrShape", laid_mercator_api_ErrShape), ("mercator/api.ErrRange", laid_mercator_api_ErrRange), ("mercator/api.ErrName", laid_mercator_api_ErrName), ("mercator/api.ErrNone", laid_mercator_api_ErrNone), ("mercator/api.ErrOrder", laid_mercator_api_ErrOrder), ("mercator/api.ErrFile", laid_mercator_api_ErrFile)] }
def GlobeKnownSaid : Prop := globeKnownRow.holds Tryd.pinned (OpenSpec.ofChange globeKnownSpec)

/-- ITS FALSE NEIGHBOUR: 'it returns false'. Refute it at one input. -/
def globeKnownWrong : ChangeSpec := { name := "globeKnown", fn := fun _ => fun
  | [d1, d2, d3] => { results := [.lit (.bool false)], args := [d1, d2, d3] }
  | _ => none }
def GlobeKnownWrongFalsely : Prop := globeKnownRow.holds Tryd.pinned (OpenSpec.ofChange globeKnownWrong)

/-- 'mercatorlaw2.GlobePlaces': WHATEVER THE INPUT: true; the input reads as it did. -/
def globePlacesSpec : ChangeSpec := { name := "globePlaces", fn := fun _ => fun
  | [d1, d2, d3, d4] => { results := [.lit (.bool true)], args := [d1, d2, d3, d4] }
  | _ => none }
def globePlacesRow : OpenClaim := { program := "ytdgaeodkffhciaadoor", sum := "126c3ccf060778b410519180fb046aebe9498dbb10d4ae5d8c8dfd21ea091499", func := "mercator/mercatorlaw2.GlobePlaces", spec := "globePlaces", inPlace := ["math.sqrt", "internal/reflectlite.ValueOf", "(internal/reflectlite.Value).Type", "(internal/reflectlite.Value).IsNil", "internal/reflectlite.TypeOf", "(internal/reflectlite.Value).Elem", "(internal/reflectlite.Value).Set", "math.Float64bits", "math.Float64frombits"], unfollowed := true, recurses := true, named := ["mercator/api.ErrRange", "mercator/api.ErrShape", "mercator/api.ErrText", "mercator/api.ErrBound", "mercator/api.ErrName", "mercator/api.ErrNone", "mercator/api.ErrOrder", "mercator/api.ErrFile", "errors.errorType"], apart := false, laid := [("errors.errorType", laid_errors_errorType), ("mercator/api.ErrText", laid_mercator_api_ErrText), ("mercator/api.ErrBound", laid_mercator_api_ErrBound), ("mercator/api.ErrShape", laid_mercator_api_ErrShape), ("mercator/api.ErrRange", laid_mercator_api_ErrRange), ("mercator/api.ErrName", laid_mercator_api_ErrName), ("mercator/api.ErrNone", laid_mercator_api_ErrNone), ("mercator/api.ErrOrder", laid_mercator_api_ErrOrder), ("mercator/api.ErrFile", laid_mercator_api_ErrFile)] }
def GlobePlacesSaid : Prop := globePlacesRow.holds Tryd.pinned (OpenSpec.ofChange globePlacesSpec)

/-- ITS FALSE NEIGHBOUR: 'it returns false'. Refute it at one input. -/
def globePlacesWrong : ChangeSpec := { name := "globePlaces", fn := fun _ => fun
  | [d1, d2, d3, d4] => { results := [.lit (.bool false)], args := [d1, d2, d3, d4] }
  | _ => none }
def GlobePlacesWrongFalsely : Prop := globePlacesRow.holds Tryd.pinned (OpenSpec.ofChange globePlacesWrong)

/-- 'mercatorlaw2.PathBetween': WHATEVER THE INPUT: true; the input reads as it did. -/
def pathBetweenSpec : ChangeSpec := { name := "pathBetween", fn := fun _ => fun
  | [d1, d2, d3] => { results := [.lit (.bool true)], args := [d1, d2, d3] }
  | _ => none }
def pathBetweenRow : OpenClaim := { program := "ytdgaeodkffhciaadoor", sum := "126c3ccf060778b410519180fb046aebe9498dbb10d4ae5d8c8dfd21ea091499", func := "mercator/mercatorlaw2.PathBetween", spec := "pathBetween", inPlace := ["math.sqrt", "math.RoundToEven", "math.Float64bits", "math.Float64frombits", "math.archFloor", "math.archTrunc", "internal/reflectlite.ValueOf", "(internal/reflectlite.Value).Type", "(internal/reflectlite.Value).IsNil", "internal/reflectlite.TypeOf", "(internal/reflectlite.Value).Elem", "(internal/reflectlite.Value).Set"], unfollowed := true, recurses := true, named := ["mercator/api.ErrRange", "mercator/api.ErrNone", "mercator/api.ErrShape", "mercator/api.ErrText", "mercator/api.ErrBound", "mercator/api.ErrName", "mercator/api.ErrOrder", "mercator/api.ErrFile", "errors.errorType"], apart := false, laid := [("errors.errorType", laid_errors_errorType), ("mercator/api.ErrText", laid_mercator_api_ErrText), ("mercator/api.ErrBound", laid_mercator_api_ErrBound), ("mercator/api.ErrShape", laid_mercator_api_ErrShape), ("mercator/api.ErrRange", laid_mercator_api_ErrRange), ("mercator/api.ErrName", laid_mercator_api_ErrName), ("mercator/api.ErrNone", laid_mercator_api_ErrNone), ("mercator/api.ErrOrder", laid_mercator_api_ErrOrder), ("mercator/api.ErrFile", laid_mercator_api_ErrFile)] }
def PathBetweenSaid : Prop := pathBetweenRow.holds Tryd.pinned (OpenSpec.ofChange pathBetweenSpec)

/-- ITS FALSE NEIGHBOUR: 'it returns false'. Refute it at one input. -/
def pathBetweenWrong : ChangeSpec := { name := "pathBetween", fn := fun _ => fun
  | [d1, d2, d3] => { results := [.lit (.bool false)], args := [d1, d2, d3] }
  | _ => none }
def PathBetweenWrongFalsely : Prop := pathBetweenRow.holds Tryd.pinned (OpenSpec.ofChange pathBetweenWrong)

/-- 'mercatorlaw2.PathReach': WHATEVER THE INPUT: true; the input reads as it did. -/
def pathReachSpec : ChangeSpec := { name := "pathReach", fn := fun _ => fun
  | [d1, d2, d3, d4] => { results := [.lit (.bool true)], args := [d1, d2, d3, d4] }
  | _ => none }
def pathReachRow : OpenClaim := { program := "ytdgaeodkffhciaadoor", sum := "126c3ccf060778b410519180fb046aebe9498dbb10d4ae5d8c8dfd21ea091499", func := "mercator/mercatorlaw2.PathReach", spec := "pathReach", inPlace := ["math.sqrt", "math.RoundToEven", "math.Float64bits", "math.Float64frombits", "math.archFloor", "math.archTrunc", "internal/reflectlite.ValueOf", "(internal/reflectlite.Value).Type", "(internal/reflectlite.Value).IsNil", "internal/reflectlite.TypeOf", "(internal/reflectlite.Value).Elem", "(internal/reflectlite.Value).Set"], unfollowed := true, recurses := true, named := ["mercator/api.ErrRange", "mercator/api.ErrNone", "mercator/api.ErrShape", "mercator/api.ErrText", "mercator/api.ErrBound", "mercator/api.ErrName", "mercator/api.ErrOrder", "mercator/api.ErrFile", "errors.errorType"], apart := false, laid := [("errors.errorType", laid_errors_errorType), ("mercator/api.ErrText", laid_mercator_api_ErrText), ("mercator/api.ErrBound", laid_mercator_api_ErrBound), ("mercator/api.ErrShape", laid_mercator_api_ErrShape), ("mercator/api.ErrRange", laid_mercator_api_ErrRange), ("mercator/api.ErrName", laid_mercator_api_ErrName), ("mercator/api.ErrNone", laid_mercator_api_ErrNone), ("mercator/api.ErrOrder", laid_mercator_api_ErrOrder), ("mercator/api.ErrFile", laid_mercator_api_ErrFile)] }
def PathReachSaid : Prop := pathReachRow.holds Tryd.pinned (OpenSpec.ofChange pathReachSpec)

/-- ITS FALSE NEIGHBOUR: 'it returns false'. Refute it at one input. -/
def pathReachWrong : ChangeSpec := { name := "pathReach", fn := fun _ => fun
  | [d1, d2, d3, d4] => { results := [.lit (.bool false)], args := [d1, d2, d3, d4] }
  | _ => none }
def PathReachWrongFalsely : Prop := pathReachRow.holds Tryd.pinned (OpenSpec.ofChange pathReachWrong)

/- THE SECOND FORM. 'bulk': how many values and letters a reading holds, each counted each time it is reached (what is shared counts as often as it is met; a slice's spare places count too). A statement '..UptoSaid' is the law's where the arguments, and the package variables that the reading takes, are together of bulk at most 1048576: NARROWER than '..Said'. Prove '..Said' where nothing that the law and all that it calls make is longer than what came in: it says more and counts as full. Else prove '..UptoSaid'. A law counts once. -/
mutual
def uptoBulk {H : Type} : DataW H → Nat
  | .lit (.string bytes) => bytes.length + 1
  | .lit _ => 1
  | .nil => 1
  | .ptr d => uptoBulk d + 1
  | .slice elems spare => uptoBulkAll elems + uptoBulkAll spare + 1
  | .agg parts => uptoBulkAll parts + 1
  | .iface _ d => uptoBulk d + 1
  | .map entries => uptoBulkEntries entries + 1
  | .held _ => 1
def uptoBulkAll {H : Type} : List (DataW H) → Nat
  | [] => 0
  | d :: r => uptoBulk d + uptoBulkAll r
def uptoBulkEntries {H : Type} : List (Lit × DataW H) → Nat
  | [] => 0
  | x :: r => uptoBulkEntry x + uptoBulkEntries r
def uptoBulkEntry {H : Type} : Lit × DataW H → Nat
  | (.string bytes, d) => bytes.length + uptoBulk d + 1
  | (_, d) => uptoBulk d + 1
 end
def uptoSmall : (H : Type) → List (DataW H) → Bool := fun _ ds => decide (uptoBulkAll ds ≤ 1048576)
def OpenSpec.upto (s : _root_.Go.ChangeSpec) : _root_.Go.OpenSpec := { _root_.Go.OpenSpec.ofChange s with cond := some uptoSmall }

/-- 'mercatorlaw2.GridLines', WHERE WHAT IT READS IS OF BULK AT MOST 1048576: true; the input reads as it did. -/
def gridLinesUptoRow : OpenClaim := { program := "ytdgaeodkffhciaadoor", sum := "126c3ccf060778b410519180fb046aebe9498dbb10d4ae5d8c8dfd21ea091499", func := "mercator/mercatorlaw2.GridLines", spec := "gridLines", inPlace := ["internal/reflectlite.ValueOf", "(internal/reflectlite.Value).Type", "(internal/reflectlite.Value).IsNil", "internal/reflectlite.TypeOf", "(internal/reflectlite.Value).Elem", "(internal/reflectlite.Value).Set"], unfollowed := true, recurses := true, named := ["mercator/api.ErrShape", "mercator/api.ErrBound", "mercator/api.ErrText", "mercator/api.ErrRange", "mercator/api.ErrName", "mercator/api.ErrNone", "mercator/api.ErrOrder", "mercator/api.ErrFile", "errors.errorType"], apart := false, laid := [("errors.errorType", laid_errors_errorType), ("mercator/api.ErrText", laid_mercator_api_ErrText), ("mercator/api.ErrBound", laid_mercator_api_ErrBound), ("mercator/api.ErrShape", laid_mercator_api_ErrShape), ("mercator/api.ErrRange", laid_mercator_api_ErrRange), ("mercator/api.ErrName", laid_mercator_api_ErrName), ("mercator/api.ErrNone", laid_mercator_api_ErrNone), ("mercator/api.ErrOrder", laid_mercator_api_ErrOrder), ("mercator/api.ErrFile", laid_mercator_api_ErrFile)], narrowed := true }
def GridLinesUptoSaid : Prop := gridLinesUptoRow.holds Tryd.pinned (OpenSpec.upto gridLinesSpec)

/-- 'mercatorlaw2.GridSheets', WHERE WHAT IT READS IS OF BULK AT MOST 1048576: true; the input reads as it did. -/
def gridSheetsUptoRow : OpenClaim := { program := "ytdgaeodkffhciaadoor", sum := "126c3ccf060778b410519180fb046aebe9498dbb10d4ae5d8c8dfd21ea091499", func := "mercator/mercatorlaw2.GridSheets", spec := "gridSheets", inPlace := ["internal/reflectlite.ValueOf", "(internal/reflectlite.Value).Type", "(internal/reflectlite.Value).IsNil", "internal/reflectlite.TypeOf", "(internal/reflectlite.Value).Elem", "(internal/reflectlite.Value).Set"], unfollowed := true, recurses := true, named := ["mercator/api.ErrRange", "mercator/api.ErrShape", "mercator/api.ErrBound", "mercator/api.ErrText", "mercator/api.ErrName", "mercator/api.ErrNone", "mercator/api.ErrOrder", "mercator/api.ErrFile", "errors.errorType"], apart := false, laid := [("errors.errorType", laid_errors_errorType), ("mercator/api.ErrText", laid_mercator_api_ErrText), ("mercator/api.ErrBound", laid_mercator_api_ErrBound), ("mercator/api.ErrShape", laid_mercator_api_ErrShape), ("mercator/api.ErrRange", laid_mercator_api_ErrRange), ("mercator/api.ErrName", laid_mercator_api_ErrName), ("mercator/api.ErrNone", laid_mercator_api_ErrNone), ("mercator/api.ErrOrder", laid_mercator_api_ErrOrder), ("mercator/api.ErrFile", laid_mercator_api_ErrFile)], narrowed := true }
def GridSheetsUptoSaid : Prop := gridSheetsUptoRow.holds Tryd.pinned (OpenSpec.upto gridSheetsSpec)

/-- 'mercatorlaw2.GlobeKnown', WHERE WHAT IT READS IS OF BULK AT MOST 1048576: true; the input reads as it did. -/
def globeKnownUptoRow : OpenClaim := { program := "ytdgaeodkffhciaadoor", sum := "126c3ccf060778b410519180fb046aebe9498dbb10d4ae5d8c8dfd21ea091499", func := "mercator/mercatorlaw2.GlobeKnown", spec := "globeKnown", inPlace := ["internal/reflectlite.ValueOf", "(internal/reflectlite.Value).Type", "(internal/reflectlite.Value).IsNil", "internal/reflectlite.TypeOf", "(internal/reflectlite.Value).Elem", "(internal/reflectlite.Value).Set", "math.sqrt"], unfollowed := true, recurses := true, named := ["mercator/api.ErrName", "mercator/api.ErrText", "mercator/api.ErrBound", "mercator/api.ErrShape", "mercator/api.ErrRange", "mercator/api.ErrNone", "mercator/api.ErrOrder", "mercator/api.ErrFile", "errors.errorType"], apart := false, laid := [("errors.errorType", laid_errors_errorType), ("mercator/api.ErrText", laid_mercator_api_ErrText), ("mercator/api.ErrBound", laid_mercator_api_ErrBound), ("mercator/api.ErrShape", laid_mercator_api_ErrShape), ("mercator/api.ErrRange", laid_mercator_api_ErrRange), ("mercator/api.ErrName", laid_mercator_api_ErrName), ("mercator/api.ErrNone", laid_mercator_api_ErrNone), ("mercator/api.ErrOrder", laid_mercator_api_ErrOrder), ("mercator/api.ErrFile", laid_mercator_api_ErrFile)], narrowed := true }
def GlobeKnownUptoSaid : Prop := globeKnownUptoRow.holds Tryd.pinned (OpenSpec.upto globeKnownSpec)

/-- 'mercatorlaw2.GlobePlaces', WHERE WHAT IT READS IS OF BULK AT MOST 1048576: true; the input reads as it did. -/
def globePlacesUptoRow : OpenClaim := { program := "ytdgaeodkffhciaadoor", sum := "126c3ccf060778b410519180fb046aebe9498dbb10d4ae5d8c8dfd21ea091499", func := "mercator/mercatorlaw2.GlobePlaces", spec := "globePlaces", inPlace := ["math.sqrt", "internal/reflectlite.ValueOf", "(internal/reflectlite.Value).Type", "(internal/reflectlite.Value).IsNil", "internal/reflectlite.TypeOf", "(internal/reflectlite.Value).Elem", "(internal/reflectlite.Value).Set", "math.Float64bits", "math.Float64frombits"], unfollowed := true, recurses := true, named := ["mercator/api.ErrRange", "mercator/api.ErrShape", "mercator/api.ErrText", "mercator/api.ErrBound", "mercator/api.ErrName", "mercator/api.ErrNone", "mercator/api.ErrOrder", "mercator/api.ErrFile", "errors.errorType"], apart := false, laid := [("errors.errorType", laid_errors_errorType), ("mercator/api.ErrText", laid_mercator_api_ErrText), ("mercator/api.ErrBound", laid_mercator_api_ErrBound), ("mercator/api.ErrShape", laid_mercator_api_ErrShape), ("mercator/api.ErrRange", laid_mercator_api_ErrRange), ("mercator/api.ErrName", laid_mercator_api_ErrName), ("mercator/api.ErrNone", laid_mercator_api_ErrNone), ("mercator/api.ErrOrder", laid_mercator_api_ErrOrder), ("mercator/api.ErrFile", laid_mercator_api_ErrFile)], narrowed := true }
def GlobePlacesUptoSaid : Prop := globePlacesUptoRow.holds Tryd.pinned (OpenSpec.upto globePlacesSpec)

/-- 'mercatorlaw2.PathBetween', WHERE WHAT IT READS IS OF BULK AT MOST 1048576: true; the input reads as it did. -/
def pathBetweenUptoRow : OpenClaim := { program := "ytdgaeodkffhciaadoor", sum := "126c3ccf060778b410519180fb046aebe9498dbb10d4ae5d8c8dfd21ea091499", func := "mercator/mercatorlaw2.PathBetween", spec := "pathBetween", inPlace := ["math.sqrt", "math.RoundToEven", "math.Float64bits", "math.Float64frombits", "math.archFloor", "math.archTrunc", "internal/reflectlite.ValueOf", "(internal/reflectlite.Value).Type", "(internal/reflectlite.Value).IsNil", "internal/reflectlite.TypeOf", "(internal/reflectlite.Value).Elem", "(internal/reflectlite.Value).Set"], unfollowed := true, recurses := true, named := ["mercator/api.ErrRange", "mercator/api.ErrNone", "mercator/api.ErrShape", "mercator/api.ErrText", "mercator/api.ErrBound", "mercator/api.ErrName", "mercator/api.ErrOrder", "mercator/api.ErrFile", "errors.errorType"], apart := false, laid := [("errors.errorType", laid_errors_errorType), ("mercator/api.ErrText", laid_mercator_api_ErrText), ("mercator/api.ErrBound", laid_mercator_api_ErrBound), ("mercator/api.ErrShape", laid_mercator_api_ErrShape), ("mercator/api.ErrRange", laid_mercator_api_ErrRange), ("mercator/api.ErrName", laid_mercator_api_ErrName), ("mercator/api.ErrNone", laid_mercator_api_ErrNone), ("mercator/api.ErrOrder", laid_mercator_api_ErrOrder), ("mercator/api.ErrFile", laid_mercator_api_ErrFile)], narrowed := true }
def PathBetweenUptoSaid : Prop := pathBetweenUptoRow.holds Tryd.pinned (OpenSpec.upto pathBetweenSpec)

/-- 'mercatorlaw2.PathReach', WHERE WHAT IT READS IS OF BULK AT MOST 1048576: true; the input reads as it did. -/
def pathReachUptoRow : OpenClaim := { program := "ytdgaeodkffhciaadoor", sum := "126c3ccf060778b410519180fb046aebe9498dbb10d4ae5d8c8dfd21ea091499", func := "mercator/mercatorlaw2.PathReach", spec := "pathReach", inPlace := ["math.sqrt", "math.RoundToEven", "math.Float64bits", "math.Float64frombits", "math.archFloor", "math.archTrunc", "internal/reflectlite.ValueOf", "(internal/reflectlite.Value).Type", "(internal/reflectlite.Value).IsNil", "internal/reflectlite.TypeOf", "(internal/reflectlite.Value).Elem", "(internal/reflectlite.Value).Set"], unfollowed := true, recurses := true, named := ["mercator/api.ErrRange", "mercator/api.ErrNone", "mercator/api.ErrShape", "mercator/api.ErrText", "mercator/api.ErrBound", "mercator/api.ErrName", "mercator/api.ErrOrder", "mercator/api.ErrFile", "errors.errorType"], apart := false, laid := [("errors.errorType", laid_errors_errorType), ("mercator/api.ErrText", laid_mercator_api_ErrText), ("mercator/api.ErrBound", laid_mercator_api_ErrBound), ("mercator/api.ErrShape", laid_mercator_api_ErrShape), ("mercator/api.ErrRange", laid_mercator_api_ErrRange), ("mercator/api.ErrName", laid_mercator_api_ErrName), ("mercator/api.ErrNone", laid_mercator_api_ErrNone), ("mercator/api.ErrOrder", laid_mercator_api_ErrOrder), ("mercator/api.ErrFile", laid_mercator_api_ErrFile)], narrowed := true }
def PathReachUptoSaid : Prop := pathReachUptoRow.holds Tryd.pinned (OpenSpec.upto pathReachSpec)

end Rows
end Go.Proofs.YtdgaeodkffhciaaDoor
