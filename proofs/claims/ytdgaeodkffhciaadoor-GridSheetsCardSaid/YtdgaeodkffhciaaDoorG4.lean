/- Walks of package grain: finite, Length, Angle; of package math: Sqrt, Abs. -/
import Derived.Test.YtdgaeodkffhciaaDoorG3
namespace Go.Proofs.YtdgaeodkffhciaaDoor
set_option maxRecDepth 20000
open Go.RowKit Go.Fp Go.Rel

set_option maxHeartbeats 1000000 in
theorem fin_c (x : Nat) (w : World) : Calls Tryd.prog 80 #[.float .f64 x] w (ExR (.bool (finP (can x))) w) := by
  go_enter Tryd.func80, Tryd.ntmps80
  go_wp2_with (first | (with_reducible refine upon_fl rfl ?_; intro r n hr))
  go_ret
  refine ⟨?_, (Ext.refl _).drewN _⟩
  rw [fin_of hr]
  rfl

theorem sqrt_entry : Entry Tryd.prog 78 Extern.MathSqrt.sqrt := fun args w => run_callFunc_extern Tryd.func78 (by kernel_rfl) (by kernel_rfl) (by kernel_rfl) (by kernel_rfl) args w

set_option maxHeartbeats 1000000 in
theorem sqrt_c (x : Nat) (w : World) : Calls Tryd.prog 44 #[.float .f64 x] w (FlR (fsqrt (can x)) w) := by
  go_enter Tryd.func44, Tryd.ntmps44
  go_wp2_with (first | (refine upon_sqrt sqrt_entry ?_; intro r n hr))
  go_ret
  exact ⟨_, rfl, hr, (Ext.refl _).drewN _⟩

theorem bits_entry : Entry Tryd.prog 95 Extern.MathFloatBits.float64bits := fun args w => run_callFunc_extern Tryd.func95 (by kernel_rfl) (by kernel_rfl) (by kernel_rfl) (by kernel_rfl) args w
theorem frombits_entry : Entry Tryd.prog 94 Extern.MathFloatBits.float64frombits := fun args w => run_callFunc_extern Tryd.func94 (by kernel_rfl) (by kernel_rfl) (by kernel_rfl) (by kernel_rfl) args w

set_option maxHeartbeats 1000000 in
theorem abs_c (x : Nat) (w : World) : Calls Tryd.prog 81 #[.float .f64 x] w fun e w' => e = .returned (.float .f64 (absW x)) ∧ w = w' := by
  have h1 : ∀ (x : Nat) (w : World), (callFunc 95 #[.float .f64 x]).run Tryd.prog w = .ok (.value (.int .u64 x)) w := fun x w => bits_entry _ w
  have h2 : ∀ (n : Int) (w : World), (callFunc 94 #[.int .u64 n]).run Tryd.prog w = .ok (.value (.float .f64 n.toNat)) w := fun n w => frombits_entry _ w
  go_enter Tryd.func81, Tryd.ntmps81
  go_wp2
  go_ret
  refine ⟨?_, rfl⟩
  have := abs_bits x
  unfold absW
  rw [← this]
  rfl
end Go.Proofs.YtdgaeodkffhciaaDoor
