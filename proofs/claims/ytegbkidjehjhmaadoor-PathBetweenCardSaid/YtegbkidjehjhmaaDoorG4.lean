/- Walks of package grain: finite, Length, Angle; of package math: Sqrt, Abs. -/
import Derived.Test.YtegbkidjehjhmaaDoorG3
namespace Go.Proofs.YtegbkidjehjhmaaDoor
set_option maxRecDepth 20000
open Go.RowKit Go.Fp Go.Rel

set_option maxHeartbeats 1000000 in
theorem fin_c (x : Nat) (w : World) : Calls Tryd.prog 81 #[.float .f64 x] w (ExR (.bool (finP (can x))) w) := by
  go_enter Tryd.func81, Tryd.ntmps81
  go_wp2_with (first | (with_reducible refine upon_fl rfl ?_; intro r n hr))
  go_ret
  refine ⟨?_, (Ext.refl _).drewN _⟩
  rw [fin_of hr]
  rfl

theorem sqrt_entry : Entry Tryd.prog 80 Extern.MathSqrt.sqrt := fun args w => run_callFunc_extern Tryd.func80 (by kernel_rfl) (by kernel_rfl) (by kernel_rfl) (by kernel_rfl) args w

set_option maxHeartbeats 1000000 in
theorem sqrt_c (x : Nat) (w : World) : Calls Tryd.prog 47 #[.float .f64 x] w (FlR (fsqrt (can x)) w) := by
  go_enter Tryd.func47, Tryd.ntmps47
  go_wp2_with (first | (refine upon_sqrt sqrt_entry ?_; intro r n hr))
  go_ret
  exact ⟨_, rfl, hr, (Ext.refl _).drewN _⟩

theorem bits_entry : Entry Tryd.prog 101 Extern.MathFloatBits.float64bits := fun args w => run_callFunc_extern Tryd.func101 (by kernel_rfl) (by kernel_rfl) (by kernel_rfl) (by kernel_rfl) args w
theorem frombits_entry : Entry Tryd.prog 100 Extern.MathFloatBits.float64frombits := fun args w => run_callFunc_extern Tryd.func100 (by kernel_rfl) (by kernel_rfl) (by kernel_rfl) (by kernel_rfl) args w

set_option maxHeartbeats 1000000 in
theorem abs_c (x : Nat) (w : World) : Calls Tryd.prog 82 #[.float .f64 x] w fun e w' => e = .returned (.float .f64 (absW x)) ∧ w = w' := by
  have h1 : ∀ (x : Nat) (w : World), (callFunc 101 #[.float .f64 x]).run Tryd.prog w = .ok (.value (.int .u64 x)) w := fun x w => bits_entry _ w
  have h2 : ∀ (n : Int) (w : World), (callFunc 100 #[.int .u64 n]).run Tryd.prog w = .ok (.value (.float .f64 n.toNat)) w := fun n w => frombits_entry _ w
  go_enter Tryd.func82, Tryd.ntmps82
  go_wp2
  go_ret
  refine ⟨?_, rfl⟩
  have := abs_bits x
  unfold absW
  rw [← this]
  rfl
end Go.Proofs.YtegbkidjehjhmaaDoor
