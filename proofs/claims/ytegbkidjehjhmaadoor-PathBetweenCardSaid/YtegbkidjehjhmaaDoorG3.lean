/- Walks of package grain: Sin, Cos. -/
import Derived.Test.YtegbkidjehjhmaaDoorG2
namespace Go.Proofs.YtegbkidjehjhmaaDoor
open Go.RowKit Go.Fp Go.Rel

set_option maxHeartbeats 1000000 in
theorem sin_c (a : Int) (w : World) : Calls Tryd.prog 45 #[.int .i64 a] w (ExR (.float .f64 (sinP a)) w) := by
  unfold sinP sinN
  have HP := parts_c a
  unfold partsV at HP
  have h4 := quart4 (normP a)
  generalize quart (normP a) % 4 = q at *
  generalize sOf (normP a) = s at *
  generalize cOf (normP a) = c at *
  have HP' := Lib.hid HP
  clear HP
  rcases h4 with rfl | rfl | rfl | rfl
  all_goals
    go_enter Tryd.func45, Tryd.ntmps45
    go_wp2_with (first | (go_at_call 79; refine (HP'.out _).mono ?_; rintro e w' ⟨rfl, hx⟩))
    go_ret
    exact ⟨rfl, hx⟩
set_option maxHeartbeats 1000000 in
theorem cos_c (a : Int) (w : World) : Calls Tryd.prog 46 #[.int .i64 a] w (ExR (.float .f64 (cosP a)) w) := by
  unfold cosP cosN
  have HP := parts_c a
  unfold partsV at HP
  have h4 := quart4 (normP a)
  generalize quart (normP a) % 4 = q at *
  generalize sOf (normP a) = s at *
  generalize cOf (normP a) = c at *
  have HP' := Lib.hid HP
  clear HP
  rcases h4 with rfl | rfl | rfl | rfl
  all_goals
    go_enter Tryd.func46, Tryd.ntmps46
    go_wp2_with (first | (go_at_call 79; refine (HP'.out _).mono ?_; rintro e w' ⟨rfl, hx⟩))
    go_ret
    exact ⟨rfl, hx⟩
end Go.Proofs.YtegbkidjehjhmaaDoor
