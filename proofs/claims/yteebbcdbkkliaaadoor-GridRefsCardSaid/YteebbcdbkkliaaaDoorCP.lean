/- What the list of GridRefs gives a walk; a start that meets it. -/
import Derived.Test.YteebbcdbkkliaaaDoorZB
import Derived.Test.YteebbcdbkkliaaaDoorDK
import Derived.Test.YteebbcdbkkliaaaDoorCH
namespace Go.Proofs.YteebbcdbkkliaaaDoor
open Go.ChangeShapes Go.WideShapes Go.ChangeAt Go.RowKit Go.Joins Go.Rel
set_option maxRecDepth 20000

/-- the list, as the row has it -/
abbrev laid12 : List (String × DataW Unit) := [("math/bits.deBruijn32tab", Rows.laid_math_bits_deBruijn32tab), ("math/bits.deBruijn64tab", Rows.laid_math_bits_deBruijn64tab), ("internal/strconv.uint64pow10", Rows.laid_internal_strconv_uint64pow10), ("errors.errorType", Rows.laid_errors_errorType), ("mercator/api.ErrText", Rows.laid_mercator_api_ErrText), ("mercator/api.ErrBound", Rows.laid_mercator_api_ErrBound), ("mercator/api.ErrShape", Rows.laid_mercator_api_ErrShape), ("mercator/api.ErrRange", Rows.laid_mercator_api_ErrRange), ("mercator/api.ErrName", Rows.laid_mercator_api_ErrName), ("mercator/api.ErrNone", Rows.laid_mercator_api_ErrNone), ("mercator/api.ErrOrder", Rows.laid_mercator_api_ErrOrder), ("mercator/api.ErrFile", Rows.laid_mercator_api_ErrFile)]
theorem parts_of_laid {W : World} (h : laidMetH Tryd.prog laid12 W) : World8 (sentAt W) W ∧ WorldG (sentAt W) W ∧ TextG (sentAt W) W := by
  have h' : laidMet Tryd.prog (("math/bits.deBruijn32tab", Rows.laid_math_bits_deBruijn32tab) :: ("math/bits.deBruijn64tab", Rows.laid_math_bits_deBruijn64tab) :: ("internal/strconv.uint64pow10", Rows.laid_internal_strconv_uint64pow10) :: sents L8) W ∧ handlesMet Tryd.prog [("errors.errorType", Rows.laid_errors_errorType)] W := h
  have h3 := laid_tail (laid_tail h'.1)
  have he := errs_of_laid L8 glob8 (laid_tail h3)
  exact ⟨⟨he, errT_of_laid h'.2⟩, ⟨he.cell _ (by decide), he.cell _ (by decide), tab_of_laid h3⟩, he.cell _ (by decide)⟩
theorem worldR8 {W : World} (h : laidMetH Tryd.prog laid12 W) : World8 (sentAt W) W := (parts_of_laid h).1
theorem worldRG {W : World} (h : laidMetH Tryd.prog laid12 W) : WorldG (sentAt W) W := (parts_of_laid h).2.1
theorem worldRT {W : World} (h : laidMetH Tryd.prog laid12 W) : TextG (sentAt W) W := (parts_of_laid h).2.2
/-- The door's own heap meets the list. -/
theorem door12 (os : Os) (args : Array Value) : laidMetH Tryd.prog laid12 ((World.doorLaid Tryd.prog 400 os).forCall (fun _ _ => 0) ⟨#[], args, []⟩).memory :=
  laidMetH_of_parts3 (fuel := 8) (laidMet_of_run' 8 (by kernel_rfl) (by kernel_rfl)) (by kernel_rfl) (by kernel_rfl)
end Go.Proofs.YteebbcdbkkliaaaDoor
