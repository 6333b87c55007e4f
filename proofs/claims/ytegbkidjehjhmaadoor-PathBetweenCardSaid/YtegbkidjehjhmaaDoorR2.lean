/- Walks of package mercatorref1: SinCos, Finite, Plus, Less, LengthOf. -/
import Derived.Test.YtegbkidjehjhmaaDoorR1
import Derived.Test.YtegbkidjehjhmaaDoorG4
namespace Go.Proofs.YtegbkidjehjhmaaDoor
set_option maxRecDepth 20000
open Go.RowKit Go.Fp Go.Rel

/-- a call hands back two floats -/
def TwoR (a b : Nat) (w : World) (e : Ending) (w' : World) : Prop := e = .returned (.tuple #[.float .f64 a, .float .f64 b]) ∧ w = w'

set_option maxHeartbeats 2000000 in
theorem sincos_c (a : Int) (w : World) : Calls Tryd.prog 57 #[.int .i64 a] w (TwoR (sinP a) (cosP a) w) := by
  unfold sinP cosP sinN cosN
  have hlo := normP_lo a
  have hhi := normP_hi a
  have HN := normOf_c a
  generalize normP a = b at *
  have hx := (tp_x hlo hhi).1
  have hz := (tp_z hlo hhi).1
  have hz7 := (tp_z hlo hhi).2
  obtain ⟨⟨_, _, hs3⟩, _⟩ := tp_s hlo hhi
  have HS1 := Lib.hid (series_sin (zOf b) hz7)
  have HS0 := Lib.hid (series_cos (zOf b) hz7)
  have hc0 : fadd one (fmul (zOf b) (hor (zOf b) DD)) = cOf b := rfl
  rw [hc0] at HS0
  clear hc0
  have h4 := quart4 b
  have hq0 := quart_lo hlo
  have hq1 := quart_hi hhi
  have hopx : ∀ t w, (binOp .mul t (.float .f64 (floatOfInt .f64 (b - quart b * 90000000000))) (.float .f64 4445950764994258515)).run Tryd.prog w = .ok (.float .f64 (xOf b)) w := fun t w => run_float_arith w .mul t .f64 _ _ _ hx
  have hopz : ∀ t w, (binOp .mul t (.float .f64 (xOf b)) (.float .f64 (xOf b))).run Tryd.prog w = .ok (.float .f64 (zOf b)) w := fun t w => run_float_arith w .mul t .f64 _ _ _ hz
  have hops : ∀ t w, (binOp .mul t (.float .f64 (xOf b)) (.float .f64 (fadd one (fmul (zOf b) (hor (zOf b) KK))))).run Tryd.prog w = .ok (.float .f64 (sOf b)) w := fun t w => run_float_arith w .mul t .f64 _ _ _ hs3
  have HQ : Hid (quart b = (b + 45000000000) / 90000000000) := rfl
  have HN' := Lib.hid HN
  clear HN hx hz hz7 hs3
  generalize fadd one (fmul (zOf b) (hor (zOf b) KK)) = sr at *
  generalize zOf b = z at *
  generalize xOf b = x at *
  generalize sOf b = s at *
  generalize cOf b = c at *
  generalize quart b = q at *
  generalize hR1 : (if q % 4 = 0 then s else if q % 4 = 1 then c else if q % 4 = 2 then Op.negFloat FloatKind.f64 s else Op.negFloat FloatKind.f64 c) = R1 at *
  generalize hR2 : (if q % 4 = 0 then c else if q % 4 = 1 then Op.negFloat FloatKind.f64 s else if q % 4 = 2 then Op.negFloat FloatKind.f64 c else s) = R2 at *
  have HR1 := Lib.hid hR1
  have HR2 := Lib.hid hR2
  clear hR1 hR2
  go_enter Tryd.func57, Tryd.ntmps57
  go_wp2_with (first | (go_at_call 56; refine (HN'.out _).mono ?_; rintro e w' ⟨rfl, rfl⟩))
  go_loop [0, 4] (fun v k => ∃ j : Int, 0 ≤ j ∧ j ≤ q ∧ k = .int .i64 j ∧ v = .int .i64 (b - j * 90000000000)) (fun v _ => (intOf v + 45000000000).toNat)
  case atStart => exact ⟨0, by omega, hq0, rfl, by rw [Int.zero_mul, Int.sub_zero]⟩
  case round =>
    obtain ⟨j, hj0, hj1, rfl, rfl⟩ := hrel
    have hq := HQ.out
    by_cases hj : 45000000000 ≤ b - j * 90000000000
    · have hjq : j + 1 ≤ q := by omega
      clear hq
      go_wp2_with fail
      go_round
      case rel => exact ⟨j + 1, by omega, hjq, rfl, by go_num⟩
      case measure => simp only [intOf]; omega
    · have hjq : j = q := by omega
      clear hq
      subst hjq
      clear hj1
      rcases h4 with h4 | h4 | h4 | h4
      all_goals
        go_wp2_with fail
        refine (HS1.out _).mono ?_
        rintro e w' ⟨rfl, rfl⟩
        go_wp2_with fail
        refine (HS0.out _).mono ?_
        rintro e w' ⟨rfl, rfl⟩
        go_wp2_with fail
        go_ret2
        refine ⟨?_, rfl⟩
        rw [← HR1.out, ← HR2.out]
        simp only [h4]
        rfl
end Go.Proofs.YtegbkidjehjhmaaDoor
