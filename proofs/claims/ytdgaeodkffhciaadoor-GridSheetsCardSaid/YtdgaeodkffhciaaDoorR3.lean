/- Walks of package mercatorref1: Finite, Plus, Less, LengthOf. -/
import Derived.Test.YtdgaeodkffhciaaDoorR2
import Derived.Test.YtdgaeodkffhciaaDoorG7
namespace Go.Proofs.YtdgaeodkffhciaaDoor
set_option maxRecDepth 20000
open Go.RowKit Go.Fp Go.Rel

set_option maxHeartbeats 1000000 in
theorem finR_c (x : Nat) (w : World) : Calls Tryd.prog 87 #[.float .f64 x] w (ExR (.bool (finP (can x))) w) := by
  go_enter Tryd.func87, Tryd.ntmps87
  go_wp2_with (first | (with_reducible refine upon_fl rfl ?_; intro r n hr))
  go_ret
  refine ⟨?_, (Ext.refl _).drewN _⟩
  rw [fin_of hr]
  rfl
set_option maxHeartbeats 1000000 in
theorem plus_c (x y z : Nat) (w : World) : Calls Tryd.prog 55 #[.float .f64 x, .float .f64 y, .float .f64 z] w (FlR (fadd (can x) (fmul (can y) (can z))) w) := by
  go_enter Tryd.func55, Tryd.ntmps55
  go_wp2_with (first | (with_reducible refine upon_fl rfl ?_; intro r n hr))
  go_ret
  refine ⟨_, rfl, by simp only [*, fbin], ?_⟩
  exact (Ext.refl _).drewN _
set_option maxHeartbeats 1000000 in
theorem less_c (x y z : Nat) (w : World) : Calls Tryd.prog 48 #[.float .f64 x, .float .f64 y, .float .f64 z] w (FlR (fsub (can x) (fmul (can y) (can z))) w) := by
  go_enter Tryd.func48, Tryd.ntmps48
  go_wp2_with (first | (with_reducible refine upon_fl rfl ?_; intro r n hr))
  go_ret
  refine ⟨_, rfl, by simp only [*, fbin], ?_⟩
  exact (Ext.refl _).drewN _

set_option maxHeartbeats 4000000 in
theorem lengthOf_c (x y z : Nat) (w : World) : Calls Tryd.prog 54 #[.agg #[.float .f64 x, .float .f64 y, .float .f64 z]] w (FlR (lenP (can x) (can y) (can z)) w) := by
  unfold lenP
  go_enter Tryd.func54, Tryd.ntmps54
  go_wp2_with fail
  refine wp_region_all (fun f args v => (f = 55 ∧ SpTri (fun x y z => fadd x (fmul y z)) args v) ∨ (f = 44 ∧ SpOne fsqrt args v)) (by kernel_rfl) (by kernel_rfl) ?_
  repeat (first
    | (refine wpR_op rfl (fun w1 hw K hK => ?_); have hc := hw.cell; go_simp; refine hK _ ?_; clear hK K hc hw w1)
    | (refine wpR_op rfl (fun w1 hw K hK => ?_); go_simp; refine rel_fl rfl ?_; intro r hr; refine hK _ ?_; clear hK K hw w1)
    | (refine wpR_op rfl (fun w1 hw K hK => ?_); go_simp; refine rel_call (FlR.call (plus_c _ _ _ _)) (fun v => ?_) (fun v hv => ?_); (simp [spTri_iff]); obtain ⟨r, rfl, hr⟩ := hv; refine hK _ ?_; clear hK K hw w1)
    | (refine wpR_op rfl (fun w1 hw K hK => ?_); go_simp; refine rel_call (FlR.call (sqrt_c _ _)) (fun v => ?_) (fun v hv => ?_); (simp [spOne_iff]); obtain ⟨r, rfl, hr⟩ := hv; refine hK _ ?_; clear hK K hw w1))
  refine wpR_nil ?_
  intro w1 hx _
  go_wp2_with fail
  go_ret
  refine ⟨_, rfl, by simp only [*, fbin], ?_⟩
  repeat (first | exact Ext.refl _ | refine Ext.drew ?_ | refine Ext.alloc ?_ _ | refine Ext.trans ?_ (by assumption))
end Go.Proofs.YtdgaeodkffhciaaDoor
