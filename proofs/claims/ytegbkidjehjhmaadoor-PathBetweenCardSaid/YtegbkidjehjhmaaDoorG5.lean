/- Walks of package grain: Angle. -/
import Derived.Test.YtegbkidjehjhmaaDoorG4
namespace Go.Proofs.YtegbkidjehjhmaaDoor
set_option maxRecDepth 20000
open Go.RowKit Go.Fp Go.Rel

theorem fin_num {x : Nat} (h : finP (can x) = true) : can x = x := by
  cases hn : isNan x
  · exact can_of_not hn
  · rw [can_of_nan hn] at h
    exact absurd h (by decide +kernel)

/-- a call hands back an int and a bool -/
def AnR (p : Int × Bool) (w : World) (e : Ending) (w' : World) : Prop := e = .returned (.tuple #[.int .i64 p.1, .bool p.2]) ∧ Ext w w'

def TrueB (b : Bool) : Prop := b = true

set_option maxHeartbeats 1000000 in
theorem angle_no1 (y x : Nat) (w : World) (hx : finP (can x) = false) : Calls Tryd.prog 48 #[.float .f64 y, .float .f64 x] w (AnR (0, false) w) := by
  have HF := fin_c x
  rw [hx] at HF
  have HF' := Lib.hid HF
  clear HF hx
  go_enter Tryd.func48, Tryd.ntmps48
  go_wp2_with (first | (go_at_call 81; refine (HF'.out _).mono ?_; rintro e w' ⟨rfl, hx⟩))
  go_ret2
  exact ⟨rfl, hx⟩
set_option maxHeartbeats 1000000 in
theorem angle_no2 (y x : Nat) (w : World) (hx : finP (can x) = true) (hy : finP (can y) = false) : Calls Tryd.prog 48 #[.float .f64 y, .float .f64 x] w (AnR (0, false) w) := by
  have HF := fin_c x
  rw [hx] at HF
  have HF' := Lib.hid HF
  have HG := fin_c y
  rw [hy] at HG
  have HG' := Lib.hid HG
  clear HF hx HG hy
  go_enter Tryd.func48, Tryd.ntmps48
  go_wp2_with fail
  refine (HF'.out _).mono ?_
  rintro e w' ⟨rfl, hx⟩
  go_wp2_with fail
  refine (HG'.out _).mono ?_
  rintro e w'' ⟨rfl, hx'⟩
  go_wp2_with fail
  go_ret2
  exact ⟨rfl, hx.trans hx'⟩
set_option maxHeartbeats 1000000 in
theorem angle_no3 (y x : Nat) (w : World) (hx : finP (can x) = true) (hy : finP (can y) = true) (hx0 : (D.order x 0 == some .eq) = true) (hy0 : (D.order y 0 == some .eq) = true) :
    Calls Tryd.prog 48 #[.float .f64 y, .float .f64 x] w (AnR (0, false) w) := by
  have HF := fin_c x
  rw [hx] at HF
  have HF' := Lib.hid HF
  have HG := fin_c y
  rw [hy] at HG
  have HG' := Lib.hid HG
  clear HF hx HG hy
  have hx0' : (FloatKind.f64.format.order x 0 == some .eq) = true := hx0
  have hy0' : (FloatKind.f64.format.order y 0 == some .eq) = true := hy0
  clear hx0 hy0
  go_enter Tryd.func48, Tryd.ntmps48
  go_wp2_with fail
  refine (HF'.out _).mono ?_
  rintro e w' ⟨rfl, hx⟩
  go_wp2_with fail
  refine (HG'.out _).mono ?_
  rintro e w'' ⟨rfl, hx'⟩
  go_wp2_with fail
  go_ret2
  exact ⟨rfl, hx.trans hx'⟩
end Go.Proofs.YtegbkidjehjhmaaDoor
