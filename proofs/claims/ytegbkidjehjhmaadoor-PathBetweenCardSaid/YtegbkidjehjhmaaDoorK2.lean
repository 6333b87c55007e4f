/- The list that most rows of this seat bear: errors' own variable and the eight sentinels; a start that meets it. -/
import Derived.Test.YtegbkidjehjhmaaDoorK1
import Derived.Test.YtegbkidjehjhmaaDoorE4
namespace Go.Proofs.YtegbkidjehjhmaaDoor
open Go.RowKit Go.ChangeShapes Go.Rel
set_option maxRecDepth 20000

/-- the list, as the rows have it -/
abbrev laid9 : List (String × DataW Unit) := [("errors.errorType", Rows.laid_errors_errorType), ("mercator/api.ErrText", Rows.laid_mercator_api_ErrText), ("mercator/api.ErrBound", Rows.laid_mercator_api_ErrBound), ("mercator/api.ErrShape", Rows.laid_mercator_api_ErrShape), ("mercator/api.ErrRange", Rows.laid_mercator_api_ErrRange), ("mercator/api.ErrName", Rows.laid_mercator_api_ErrName), ("mercator/api.ErrNone", Rows.laid_mercator_api_ErrNone), ("mercator/api.ErrOrder", Rows.laid_mercator_api_ErrOrder), ("mercator/api.ErrFile", Rows.laid_mercator_api_ErrFile)]
abbrev L8 : List (Nat × String × List UInt8) := [(2, "mercator/api.ErrText", [109, 101, 114, 99, 97, 116, 111, 114, 58, 32, 116, 101, 120, 116]), (5, "mercator/api.ErrBound", [109, 101, 114, 99, 97, 116, 111, 114, 58, 32, 98, 111, 117, 110, 100]), (3, "mercator/api.ErrShape", [109, 101, 114, 99, 97, 116, 111, 114, 58, 32, 115, 104, 97, 112, 101]), (0, "mercator/api.ErrRange", [109, 101, 114, 99, 97, 116, 111, 114, 58, 32, 114, 97, 110, 103, 101]), (6, "mercator/api.ErrName", [109, 101, 114, 99, 97, 116, 111, 114, 58, 32, 110, 97, 109, 101]), (1, "mercator/api.ErrNone", [109, 101, 114, 99, 97, 116, 111, 114, 58, 32, 110, 111, 110, 101]), (7, "mercator/api.ErrOrder", [109, 101, 114, 99, 97, 116, 111, 114, 58, 32, 111, 114, 100, 101, 114]), (8, "mercator/api.ErrFile", [109, 101, 114, 99, 97, 116, 111, 114, 58, 32, 102, 105, 108, 101])]
theorem glob8 : ∀ x ∈ L8, Glob x := by
  intro x hx
  simp only [L8, List.mem_cons, List.not_mem_nil, or_false] at hx
  rcases hx with rfl | rfl | rfl | rfl | rfl | rfl | rfl | rfl <;> exact ⟨by kernel_rfl, by kernel_rfl⟩

theorem gType : Tryd.prog.globalNamed "errors.errorType" = some 9 := by kernel_rfl
theorem rtRow : (Tryd.prog.cutTypes.find? (·.1 == "internal/reflectlite.rtype")).map (·.2) = some 179 := by kernel_rfl
theorem oneRow : ((List.range 252).filter fun t => Tryd.prog.rowNamed t [101, 114, 114, 111, 114]) = [39] := by kernel_rfl
theorem typesSize : Tryd.prog.types.size = 252 := by kernel_rfl

theorem errT_of_laid {W : World} (h : handlesMet Tryd.prog [("errors.errorType", Rows.laid_errors_errorType)] W) : ErrT W := by
  obtain ⟨name, u, ty, e1, e2, e3, e4, e5⟩ := h _ (List.mem_singleton.2 rfl)
  have en : name = [101, 114, 114, 111, 114] := (Option.some.inj e1).symm
  subst en
  obtain rfl := Option.some.inj (rtRow.symm.trans e2)
  have hm : ty ∈ (List.range 252).filter fun t => Tryd.prog.rowNamed t [101, 114, 114, 111, 114] := List.mem_filter.2 ⟨List.mem_range.2 (by rw [← typesSize]; exact e3), e4⟩
  rw [oneRow] at hm
  obtain rfl := List.mem_singleton.1 hm
  have hh : typeHandle Tryd.prog 39 = .pointer (some ⟨14, 39, none⟩) := by kernel_rfl
  rw [hh] at e5
  simpa [ErrT] using World.var?_cell gType e5 0

theorem world8_of_laid {W : World} (h : laidMetH Tryd.prog laid9 W) : World8 (sentAt W) W := by
  have h' : laidMet Tryd.prog (sents L8) W ∧ handlesMet Tryd.prog [("errors.errorType", Rows.laid_errors_errorType)] W := h
  exact ⟨errs_of_laid L8 glob8 h'.1, errT_of_laid h'.2⟩

/-- The door's own heap meets the list. -/
theorem door9 (os : Os) (args : Array Value) : laidMetH Tryd.prog laid9 ((World.doorLaid Tryd.prog 400 os).forCall (fun _ _ => 0) ⟨#[], args, []⟩).memory :=
  laidMetH_of_parts3 (fuel := 8) (laidMet_of_run' 8 (by kernel_rfl) (by kernel_rfl)) (by kernel_rfl) (by kernel_rfl)
end Go.Proofs.YtegbkidjehjhmaaDoor
