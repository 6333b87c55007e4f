/- Walks: the reference's third, reduced; package path's off, the reference's off. -/
import Derived.Test.YtegbkidjehjhmaaDoorN1
namespace Go.Proofs.YtegbkidjehjhmaaDoor
open Go.RowKit Go.Fp Go.Rel
set_option maxRecDepth 20000

set_option maxHeartbeats 2000000 in
theorem thirdOf_c (a f ca : Nat) (w : World) : Calls Tryd.prog 89 #[globeV a f, .float .f64 ca] w (FlR (thirdP (can f) (can ca)) w) := by
  unfold thirdP
  go_enter Tryd.func89, Tryd.ntmps89
  have hb1 := Blk.new w #[.float .f64 a, .float .f64 f] 33
  have hw1 : Ext w (w.alloc (.cells #[.float .f64 a, .float .f64 f] 33)) := (Ext.refl w).alloc _
  go_wp2_with (first
    | (go_at_call 59; refine (less_c _ _ _ _).mono ?_; rintro e w2 ⟨rl, rfl, hrl, hx2⟩; have k2 := (hb1.ext (bareN hx2 rfl rfl rfl rfl)).cell; have hw2 := hw1.trans (bareN hx2 rfl rfl rfl rfl))
    | (go_at_call 60; refine (plus_c _ _ _ _).mono ?_; rintro e w3 ⟨rp, rfl, hrp, hx3⟩; have hw3 := hw2.trans (bareN hx3 rfl rfl rfl rfl))
    | (with_reducible refine upon_fl rfl ?_; intro r n hr))
  go_ret
  refine ⟨_, rfl, by simp only [*, fbin], ?_⟩
  repeat (first | exact hw3 | refine Ext.drewN ?_ _)

set_option maxHeartbeats 4000000 in
theorem reducedOf_c (a f : Nat) (lat : Int) (w : World) : Calls Tryd.prog 54 #[globeV a f, .int .i64 lat] w (RedR f lat w) := by
  go_enter Tryd.func54, Tryd.ntmps54
  have hw1 : Ext w (w.alloc (.cells #[.float .f64 a, .float .f64 f] 33)) := (Ext.refl w).alloc _
  go_wp2_with (first
    | (go_at_call 57; refine (sincos_c _ _).mono ?_; rintro e w' ⟨rfl, rfl⟩)
    | (go_at_call 60; refine (plus_c _ _ _ _).mono ?_; rintro e w3 ⟨rp, rfl, hrp, hx3⟩; have hw3 := hw1.trans (bareN hx3 rfl rfl rfl rfl))
    | (go_at_call 47; refine (sqrt_c _ _).mono ?_; rintro e w4 ⟨rd, rfl, hrd, hx4⟩; have hw4 := hw3.trans (bareN hx4 rfl rfl rfl rfl))
    | (with_reducible refine upon_fl rfl ?_; intro r n hr))
  go_ret2
  refine ⟨_, _, rfl, by simp only [redX, redY, redD, *, fbin], by simp only [redX, redY, redD, *, fbin], ?_⟩
  repeat (first | exact hw4 | refine Ext.drewN ?_ _)
end Go.Proofs.YtegbkidjehjhmaaDoor
