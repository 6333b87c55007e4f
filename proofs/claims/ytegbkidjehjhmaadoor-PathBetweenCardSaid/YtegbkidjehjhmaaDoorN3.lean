/- Walks: what is taken off the arc: package path's off, the reference's. -/
import Derived.Test.YtegbkidjehjhmaaDoorN2
namespace Go.Proofs.YtegbkidjehjhmaaDoor
open Go.RowKit Go.Fp Go.Rel
set_option maxRecDepth 20000

abbrev c6 : Nat := 4618441417868443648
def offP (q ss cs cm : Nat) : Nat :=
  fmul (fmul q ss) (fadd cm (fmul (fdiv q (can c4)) (fsub (fmul cs (twiceP cm))
    (fmul (fmul (fdiv q (can c6)) cm) (fmul (fsub (fmul (can c4) (fmul ss ss)) (can c3)) (fsub (fmul (can c4) (fmul cm cm)) (can c3)))))))

set_option maxHeartbeats 8000000 in
theorem off_c (p q ss cs cm : Nat) (w : World) : Calls Tryd.prog 50 #[.agg #[.float .f64 p, .float .f64 q], .float .f64 ss, .float .f64 cs, .float .f64 cm] w (FlR (offP (can q) (can ss) (can cs) (can cm)) w) := by
  unfold offP
  go_enter Tryd.func50, Tryd.ntmps50
  go_wp2_with (first | (with_reducible refine upon_fl rfl ?_; intro r n hr))
  have hb1 := Blk.new w #[.float .f64 p, .float .f64 q] 98
  have hw1 : Ext w (w.alloc (.cells #[.float .f64 p, .float .f64 q] 98)) := (Ext.refl w).alloc _
  refine wp_region_all (fun g args v => g = 84 ∧ SpOne twiceP args v) (by kernel_rfl) (by kernel_rfl) ?_
  repeat (first
    | (refine wpR_op rfl (fun w1 hw K hK => ?_); have k1 := (hb1.ext (bareN hw rfl rfl rfl rfl)).cell; go_simp; refine hK _ ?_; clear hK K k1 hw w1)
    | (refine wpR_op rfl (fun w1 hw K hK => ?_); go_simp; refine rel_fl rfl ?_; intro r hr; refine hK _ ?_; clear hK K hw w1)
    | (refine wpR_op rfl (fun w1 hw K hK => ?_); go_simp; refine rel_call (FlR.call (twice_c _ _)) (fun v => ?_) (fun v hv => ?_); (simp [spOne_iff]); obtain ⟨rt, rfl, hrt⟩ := hv; refine hK _ ?_; clear hK K hw w1))
  refine wpR_nil ?_
  intro w2 hx2 _
  have hw2 := hw1.trans (bareN hx2 rfl rfl rfl rfl)
  go_wp2_with fail
  go_ret
  exact ⟨_, rfl, by simp only [*, fbin], hw2⟩

set_option maxHeartbeats 8000000 in
theorem offOf_c (q ss cs cm : Nat) (w : World) : Calls Tryd.prog 63 #[.float .f64 q, .float .f64 ss, .float .f64 cs, .float .f64 cm] w (FlR (offP (can q) (can ss) (can cs) (can cm)) w) := by
  unfold offP
  go_enter Tryd.func63, Tryd.ntmps63
  go_wp2_with (first
    | (go_at_call 88; refine (double_c _ _).mono ?_; rintro e w3 ⟨rt, rfl, hrt, hx3⟩; have hw3 : Ext w w3 := bareN hx3 rfl rfl rfl rfl)
    | (with_reducible refine upon_fl rfl ?_; intro r n hr))
  go_ret
  refine ⟨_, rfl, by simp only [*, fbin], ?_⟩
  repeat (first | exact hw3 | refine Ext.drewN ?_ _)
end Go.Proofs.YtegbkidjehjhmaaDoor
