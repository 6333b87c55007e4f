/- Walks of package grain: Norm, parts, Sin, Cos. -/
import Derived.Test.YtegbkidjehjhmaaDoorProg
import Derived.Test.YtegbkidjehjhmaaDoorW
namespace Go.Proofs.YtegbkidjehjhmaaDoor
open Go.RowKit Go.Fp Go.Rel

theorem ret_int {k : IntKind} {a b : Int} (h : a = b) : Ending.returned (.int k a) = .returned (.int k b) := by rw [h]

theorem norm_neg {a : Int} (h : a.tmod 360000000000 < 0) : wrap64 (a.tmod 360000000000 + 360000000000) = normP a := by
  unfold normP
  have h1 : a.tmod 360000000000 = -((-a) % 360000000000) := by
    rcases Int.le_total 0 a with h0 | h0
    · have := Int.tmod_nonneg 360000000000 h0; omega
    · rw [← Int.neg_neg a, Int.neg_tmod, Int.tmod_eq_emod_of_nonneg (by omega)]; simp
  rw [IntWalk.wrap64_in _ (by omega)]
  omega
theorem norm_pos {a : Int} (h : 0 ≤ a.tmod 360000000000) : a.tmod 360000000000 = normP a := by
  unfold normP
  rcases Int.le_total 0 a with h0 | h0
  · exact Int.tmod_eq_emod_of_nonneg h0
  · have h1 : a.tmod 360000000000 = -((-a) % 360000000000) := by
      rw [← Int.neg_neg a, Int.neg_tmod, Int.tmod_eq_emod_of_nonneg (by omega)]; simp
    omega

set_option maxHeartbeats 400000 in
theorem norm_c (a : Int) (w : World) : Calls Tryd.prog 43 #[.int .i64 a] w fun e w' => e = .returned (.int .i64 (normP a)) ∧ w = w' := by
  go_enter Tryd.func43, Tryd.ntmps43
  go_wp2
  · go_ret; exact ⟨ret_int (norm_neg (by assumption)), rfl⟩
  · go_ret; exact ⟨ret_int (norm_pos (by assumption)), rfl⟩
end Go.Proofs.YtegbkidjehjhmaaDoor
