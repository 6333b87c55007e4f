/- The list of GlobeBack; a start that meets it. -/
import Derived.Test.YteebbcdbkkliaaaDoorZB
import Derived.Test.YteebbcdbkkliaaaDoorZB
namespace Go.Proofs.YteebbcdbkkliaaaDoor
open Go.ChangeShapes Go.WideShapes Go.ChangeAt Go.RowKit Go.Joins Go.Rel
set_option maxRecDepth 20000

/-- the list, as the row has it -/
abbrev laid2 : List (String × DataW Unit) := [("mercator/api.ErrShape", Rows.laid_mercator_api_ErrShape), ("mercator/api.ErrRange", Rows.laid_mercator_api_ErrRange)]
/-- The door's own heap meets the list. -/
theorem door2 (os : Os) (args : Array Value) : laidMetH Tryd.prog laid2 ((World.doorLaid Tryd.prog 400 os).forCall (fun _ _ => 0) ⟨#[], args, []⟩).memory :=
  show laidMet Tryd.prog laid2 _ from laidMet_of_run' 8 (by kernel_rfl) (by kernel_rfl)
end Go.Proofs.YteebbcdbkkliaaaDoor
