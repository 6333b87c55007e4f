/- Walks: signed angles, the angle of a point as an integer, the same vector. -/
import Derived.Test.YtdgaeodkffhciaaDoorV2
import Derived.Test.YtdgaeodkffhciaaDoorG1
import Derived.Test.YtdgaeodkffhciaaDoorG7
import Derived.Test.YtdgaeodkffhciaaDoorR1
import Derived.Test.YtdgaeodkffhciaaDoorR4
namespace Go.Proofs.YtdgaeodkffhciaaDoor
open Go.RowKit Go.Fp Go.Rel
set_option maxRecDepth 20000

/-- an angle between half a turn back and half a turn -/
def signP (a : Int) : Int := if 180000000000 < normP a then normP a - 360000000000 else normP a
theorem norm_range (a : Int) : 0 ≤ normP a ∧ normP a < 360000000000 := by
  unfold normP
  omega

theorem signed_c (a : Int) (w : World) : Calls Tryd.prog 53 #[.int .i64 a] w (ExR (.int .i64 (signP a)) w) := by
  obtain ⟨n1, n2⟩ := norm_range a
  have HN := Lib.hid (norm_c a)
  unfold signP
  generalize normP a = n at *
  by_cases h : 180000000000 < n
  · rw [if_pos h]
    go_enter Tryd.func53, Tryd.ntmps53
    go_wp2_with (first | (go_at_call 60; refine (HN.out _).mono ?_; rintro e w' ⟨rfl, rfl⟩))
    go_ret
    exact ⟨rfl, Ext.refl _⟩
  · rw [if_neg h]
    go_enter Tryd.func53, Tryd.ntmps53
    go_wp2_with (first | (go_at_call 60; refine (HN.out _).mono ?_; rintro e w' ⟨rfl, rfl⟩))
    go_ret
    exact ⟨rfl, Ext.refl _⟩
theorem signedAngle_c (a : Int) (w : World) : Calls Tryd.prog 56 #[.int .i64 a] w (ExR (.int .i64 (signP a)) w) := by
  obtain ⟨n1, n2⟩ := norm_range a
  have HN := Lib.hid (normOf_c a)
  unfold signP
  generalize normP a = n at *
  by_cases h : 180000000000 < n
  · rw [if_pos h]
    have h2 : 360000000000 < 2 * n := by omega
    go_enter Tryd.func56, Tryd.ntmps56
    go_wp2_with (first | (go_at_call 68; refine (HN.out _).mono ?_; rintro e w' ⟨rfl, rfl⟩))
    go_ret
    exact ⟨rfl, Ext.refl _⟩
  · rw [if_neg h]
    have h2 : ¬ 360000000000 < 2 * n := by omega
    go_enter Tryd.func56, Tryd.ntmps56
    go_wp2_with (first | (go_at_call 68; refine (HN.out _).mono ?_; rintro e w' ⟨rfl, rfl⟩))
    go_ret
    exact ⟨rfl, Ext.refl _⟩

/-- the angle of a point, signed -/
def angS (Y X : Nat) : Int := signP (angleP Y X).1
theorem place1_c (y x : Nat) (w : World) : Calls Tryd.prog 51 #[.float .f64 y, .float .f64 x] w (ExR (.int .i64 (angS (can y) (can x))) w) := by
  have HA := Lib.hid (angle_c y x)
  unfold angS
  generalize angleP (can y) (can x) = p at *
  go_enter Tryd.func51, Tryd.ntmps51
  go_wp2_with (first
    | (go_at_call 52; refine (HA.out _).mono ?_; rintro e w1 ⟨rfl, hx1⟩)
    | (go_at_call 53; refine (signed_c _ _).mono ?_; rintro e w2 ⟨rfl, hx2⟩))
  go_ret
  exact ⟨rfl, hx1.trans hx2⟩
theorem refAngle_c (y x : Nat) (w : World) : Calls Tryd.prog 57 #[.float .f64 y, .float .f64 x] w (ExR (.int .i64 (angleP (can y) (can x)).1) w) := by
  have HA := Lib.hid (angleOf_c y x)
  generalize angleP (can y) (can x) = p at *
  go_enter Tryd.func57, Tryd.ntmps57
  go_wp2_with (first | (go_at_call 74; refine (HA.out _).mono ?_; rintro e w' ⟨rfl, hx⟩))
  go_ret
  exact ⟨rfl, hx⟩

abbrev vecV (x y z : Nat) : Value := .agg #[.float .f64 x, .float .f64 y, .float .f64 z]
set_option maxHeartbeats 1000000 in
theorem sameVec_c (x y z x' y' z' : Nat) (w : World) (hx : can x = can x') (hy : can y = can y') (hz : can z = can z') :
    Calls Tryd.prog 29 #[vecV x y z, vecV x' y' z'] w (ExR (.bool true) w) := by
  have t1 : Hid True := trivial
  have t2 : Hid True := trivial
  have HX := Lib.hid hx
  have HY := Lib.hid hy
  have HZ := Lib.hid hz
  clear hx hy hz
  go_enter Tryd.func29, Tryd.ntmps29
  go_wp2_with (first
    | (go_at_call 23; clear t1; refine (sameBits_c _ _ _ HX.out).mono ?_; rintro e w1 ⟨rfl, hx1⟩; obtain ⟨hb1, hb2, hw1⟩ := ext2 hx1;
       have c1 := hb1.cell; have c2 := hb2.cell; have g1 := hb1.lt; have g2 := hb2.lt)
    | (go_at_call 23; clear t2; refine (sameBits_c _ _ _ HY.out).mono ?_; rintro e w2 ⟨rfl, hx2⟩; have hw2 := hw1.trans hx2; clear c1 c2 g1 g2; replace hb1 := hb1.ext hx2; replace hb2 := hb2.ext hx2;
       have c1 := hb1.cell; have c2 := hb2.cell; have g1 := hb1.lt; have g2 := hb2.lt)
    | (go_at_call 23; refine (sameBits_c _ _ _ HZ.out).mono ?_; rintro e w3 ⟨rfl, hx3⟩; have hw3 := hw2.trans hx3))
  go_ret
  exact ⟨rfl, hw3⟩
end Go.Proofs.YtdgaeodkffhciaaDoor
