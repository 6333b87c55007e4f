/- Walks: signed angles, the angle of a point as an integer, the same vector. -/
import Derived.Test.YtegbkidjehjhmaaDoorV2
import Derived.Test.YtegbkidjehjhmaaDoorG1
import Derived.Test.YtegbkidjehjhmaaDoorG7
import Derived.Test.YtegbkidjehjhmaaDoorR1
import Derived.Test.YtegbkidjehjhmaaDoorR4
namespace Go.Proofs.YtegbkidjehjhmaaDoor
open Go.RowKit Go.Fp Go.Rel
set_option maxRecDepth 20000

/-- an angle between half a turn back and half a turn -/
def signP (a : Int) : Int := if 180000000000 < normP a then normP a - 360000000000 else normP a
theorem norm_range (a : Int) : 0 ≤ normP a ∧ normP a < 360000000000 := by
  unfold normP
  omega

theorem signed_c (a : Int) (w : World) : Calls Tryd.prog 42 #[.int .i64 a] w (ExR (.int .i64 (signP a)) w) := by
  obtain ⟨n1, n2⟩ := norm_range a
  have HN := Lib.hid (norm_c a)
  unfold signP
  generalize normP a = n at *
  by_cases h : 180000000000 < n
  · rw [if_pos h]
    go_enter Tryd.func42, Tryd.ntmps42
    go_wp2_with (first | (go_at_call 43; refine (HN.out _).mono ?_; rintro e w' ⟨rfl, rfl⟩))
    go_ret
    exact ⟨rfl, Ext.refl _⟩
  · rw [if_neg h]
    go_enter Tryd.func42, Tryd.ntmps42
    go_wp2_with (first | (go_at_call 43; refine (HN.out _).mono ?_; rintro e w' ⟨rfl, rfl⟩))
    go_ret
    exact ⟨rfl, Ext.refl _⟩
theorem signedAngle_c (a : Int) (w : World) : Calls Tryd.prog 55 #[.int .i64 a] w (ExR (.int .i64 (signP a)) w) := by
  obtain ⟨n1, n2⟩ := norm_range a
  have HN := Lib.hid (normOf_c a)
  unfold signP
  generalize normP a = n at *
  by_cases h : 180000000000 < n
  · rw [if_pos h]
    have h2 : 360000000000 < 2 * n := by omega
    go_enter Tryd.func55, Tryd.ntmps55
    go_wp2_with (first | (go_at_call 56; refine (HN.out _).mono ?_; rintro e w' ⟨rfl, rfl⟩))
    go_ret
    exact ⟨rfl, Ext.refl _⟩
  · rw [if_neg h]
    have h2 : ¬ 360000000000 < 2 * n := by omega
    go_enter Tryd.func55, Tryd.ntmps55
    go_wp2_with (first | (go_at_call 56; refine (HN.out _).mono ?_; rintro e w' ⟨rfl, rfl⟩))
    go_ret
    exact ⟨rfl, Ext.refl _⟩

/-- the angle of a point, signed -/
def angS (Y X : Nat) : Int := signP (angleP Y X).1
theorem refAngle_c (y x : Nat) (w : World) : Calls Tryd.prog 61 #[.float .f64 y, .float .f64 x] w (ExR (.int .i64 (angleP (can y) (can x)).1) w) := by
  have HA := Lib.hid (angleOf_c y x)
  generalize angleP (can y) (can x) = p at *
  go_enter Tryd.func61, Tryd.ntmps61
  go_wp2_with (first | (go_at_call 68; refine (HA.out _).mono ?_; rintro e w' ⟨rfl, hx⟩))
  go_ret
  exact ⟨rfl, hx⟩

abbrev vecV (x y z : Nat) : Value := .agg #[.float .f64 x, .float .f64 y, .float .f64 z]
end Go.Proofs.YtegbkidjehjhmaaDoor
