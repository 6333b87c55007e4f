/- Walks: the difference of longitudes on a globe: package path's, the reference's. -/
import Derived.Test.YtegbkidjehjhmaaDoorN4
namespace Go.Proofs.YtegbkidjehjhmaaDoor
open Go.RowKit Go.Fp Go.Rel
set_option maxRecDepth 20000

def longerP (f c sa o ss cs cm : Nat) : Nat := fmul (fmul (fmul (fsub (can c1) c) f) sa) (fadd o (fmul (fmul c ss) (fadd cm (fmul (fmul c cs) (twiceP cm)))))

set_option maxHeartbeats 8000000 in
theorem longer_c (a f c sa o ss cs cm : Nat) (w : World) : Calls Tryd.prog 52 #[globeV a f, .float .f64 c, .float .f64 sa, .float .f64 o, .float .f64 ss, .float .f64 cs, .float .f64 cm] w
    (FlR (longerP (can f) (can c) (can sa) (can o) (can ss) (can cs) (can cm)) w) := by
  unfold longerP
  go_enter Tryd.func52, Tryd.ntmps52
  go_wp2_with fail
  have hb1 := Blk.new w #[.float .f64 a, .float .f64 f] 42
  have hw1 : Ext w (w.alloc (.cells #[.float .f64 a, .float .f64 f] 42)) := (Ext.refl w).alloc _
  refine wp_region_all (fun g args v => g = 84 ∧ SpOne twiceP args v) (by kernel_rfl) (by kernel_rfl) ?_
  repeat (first
    | (refine wpR_op rfl (fun w1 hw K hK => ?_); have k1 := (hb1.ext (bareN hw rfl rfl rfl rfl)).cell; go_simp; refine hK _ ?_; clear hK K k1 hw w1)
    | (refine wpR_op rfl (fun w1 hw K hK => ?_); go_simp; refine rel_fl rfl ?_; intro r hr; refine hK _ ?_; clear hK K hw w1)
    | (refine wpR_op rfl (fun w1 hw K hK => ?_); go_simp; refine rel_call (FlR.call (twice_c _ _)) (fun v => ?_) (fun v hv => ?_); (simp [spOne_iff]); obtain ⟨rt, rfl, hrt⟩ := hv; refine hK _ ?_; clear hK K hw w1))
  refine wpR_nil ?_
  intro w2 hx2 _
  have hw2 := hw1.trans (bareN hx2 rfl rfl rfl rfl)
  go_wp2_with fail
  go_ret
  exact ⟨_, rfl, by simp only [c1, *, fbin], hw2⟩

set_option maxHeartbeats 8000000 in
theorem longerOf_c (a f ca sa o ss cs cm : Nat) (w : World) : Calls Tryd.prog 64 #[globeV a f, .float .f64 ca, .float .f64 sa, .float .f64 o, .float .f64 ss, .float .f64 cs, .float .f64 cm] w
    (FlR (longerP (can f) (thirdP (can f) (can ca)) (can sa) (can o) (can ss) (can cs) (can cm)) w) := by
  unfold longerP
  have HT := Lib.hid (thirdOf_c a f ca)
  generalize thirdP (can f) (can ca) = T at *
  go_enter Tryd.func64, Tryd.ntmps64
  go_wp2_with (first
    | (go_at_call 89; refine (HT.out _).mono ?_; rintro e w1 ⟨rc, rfl, hrc, hx⟩; obtain ⟨hb1, hw⟩ := ext1 hx; clear hx; have k1 := hb1.cell)
    | (go_at_call 88; refine (double_c _ _).mono ?_; rintro e w1 ⟨rt, rfl, hrt, hx⟩; clear k1; replace hb1 := hb1.ext (bareN hx rfl rfl rfl rfl); replace hw := hw.trans (bareN hx rfl rfl rfl rfl); clear hx)
    | (go_at_call 60; refine (plus_c _ _ _ _).mono ?_; rintro e w1 ⟨rp, rfl, hrp, hx⟩; replace hw := hw.trans (bareN hx rfl rfl rfl rfl); clear hx)
    | (with_reducible refine upon_fl rfl ?_; intro r n hr))
  go_ret
  refine ⟨_, rfl, by simp only [c1, *, fbin], ?_⟩
  repeat (first | exact hw | refine Ext.drewN ?_ _)
end Go.Proofs.YtegbkidjehjhmaaDoor
