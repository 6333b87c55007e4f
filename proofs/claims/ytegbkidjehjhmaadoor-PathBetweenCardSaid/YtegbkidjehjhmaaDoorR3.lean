/- Walks of package mercatorref1: Finite, Plus, Less, LengthOf. -/
import Derived.Test.YtegbkidjehjhmaaDoorR2
import Derived.Test.YtegbkidjehjhmaaDoorG7
namespace Go.Proofs.YtegbkidjehjhmaaDoor
set_option maxRecDepth 20000
open Go.RowKit Go.Fp Go.Rel

set_option maxHeartbeats 1000000 in
theorem finR_c (x : Nat) (w : World) : Calls Tryd.prog 92 #[.float .f64 x] w (ExR (.bool (finP (can x))) w) := by
  go_enter Tryd.func92, Tryd.ntmps92
  go_wp2_with (first | (with_reducible refine upon_fl rfl ?_; intro r n hr))
  go_ret
  refine ⟨?_, (Ext.refl _).drewN _⟩
  rw [fin_of hr]
  rfl
set_option maxHeartbeats 1000000 in
theorem plus_c (x y z : Nat) (w : World) : Calls Tryd.prog 60 #[.float .f64 x, .float .f64 y, .float .f64 z] w (FlR (fadd (can x) (fmul (can y) (can z))) w) := by
  go_enter Tryd.func60, Tryd.ntmps60
  go_wp2_with (first | (with_reducible refine upon_fl rfl ?_; intro r n hr))
  go_ret
  refine ⟨_, rfl, by simp only [*, fbin], ?_⟩
  exact (Ext.refl _).drewN _
set_option maxHeartbeats 1000000 in
theorem less_c (x y z : Nat) (w : World) : Calls Tryd.prog 59 #[.float .f64 x, .float .f64 y, .float .f64 z] w (FlR (fsub (can x) (fmul (can y) (can z))) w) := by
  go_enter Tryd.func59, Tryd.ntmps59
  go_wp2_with (first | (with_reducible refine upon_fl rfl ?_; intro r n hr))
  go_ret
  refine ⟨_, rfl, by simp only [*, fbin], ?_⟩
  exact (Ext.refl _).drewN _

end Go.Proofs.YtegbkidjehjhmaaDoor
