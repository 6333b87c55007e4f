/- Walks of package grain: finite, Length, Angle; of package math: Sqrt, Abs. -/
import Derived.Test.YtaipecabiepooaaG3
namespace Go.Proofs.Ytaipecabiepooaa
open Go.RowKit Go.Fp Go.Rel

set_option maxHeartbeats 1000000 in
theorem fin_c (x : Nat) (w : World) : Calls Try.prog 16 #[.float .f64 x] w (ExR (.bool (finP (can x))) w) := by
  go_enter Try.func16, Try.ntmps16
  go_wp2_with (first | (with_reducible refine upon_fl rfl ?_; intro r n hr))
  go_ret
  refine ⟨?_, (Ext.refl _).drewN _⟩
  rw [fin_of hr]
  rfl

theorem sqrt_entry : Entry Try.prog 25 Extern.MathSqrt.sqrt := fun args w => run_callFunc_extern Try.func25 (by kernel_rfl) (by kernel_rfl) (by kernel_rfl) (by kernel_rfl) args w

set_option maxHeartbeats 1000000 in
theorem sqrt_c (x : Nat) (w : World) : Calls Try.prog 19 #[.float .f64 x] w (FlR (fsqrt (can x)) w) := by
  go_enter Try.func19, Try.ntmps19
  go_wp2_with (first | (refine upon_sqrt sqrt_entry ?_; intro r n hr))
  go_ret
  exact ⟨_, rfl, hr, (Ext.refl _).drewN _⟩

theorem bits_entry : Entry Try.prog 24 Extern.MathFloatBits.float64bits := fun args w => run_callFunc_extern Try.func24 (by kernel_rfl) (by kernel_rfl) (by kernel_rfl) (by kernel_rfl) args w
theorem frombits_entry : Entry Try.prog 23 Extern.MathFloatBits.float64frombits := fun args w => run_callFunc_extern Try.func23 (by kernel_rfl) (by kernel_rfl) (by kernel_rfl) (by kernel_rfl) args w

set_option maxHeartbeats 1000000 in
theorem abs_c (x : Nat) (w : World) : Calls Try.prog 17 #[.float .f64 x] w fun e w' => e = .returned (.float .f64 (absW x)) ∧ w = w' := by
  have h1 : ∀ (x : Nat) (w : World), (callFunc 24 #[.float .f64 x]).run Try.prog w = .ok (.value (.int .u64 x)) w := fun x w => bits_entry _ w
  have h2 : ∀ (n : Int) (w : World), (callFunc 23 #[.int .u64 n]).run Try.prog w = .ok (.value (.float .f64 n.toNat)) w := fun n w => frombits_entry _ w
  go_enter Try.func17, Try.ntmps17
  go_wp2
  go_ret
  refine ⟨?_, rfl⟩
  have := abs_bits x
  unfold absW
  rw [← this]
  rfl
end Go.Proofs.Ytaipecabiepooaa
