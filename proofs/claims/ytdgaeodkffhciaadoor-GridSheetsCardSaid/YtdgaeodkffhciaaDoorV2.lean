/- Walks: globes: the radius across the meridian, the program's and the reference's. -/
import Derived.Test.YtdgaeodkffhciaaDoorV1
import Derived.Test.YtdgaeodkffhciaaDoorG3
import Derived.Test.YtdgaeodkffhciaaDoorR2
namespace Go.Proofs.YtdgaeodkffhciaaDoor
open Go.RowKit Go.Fp Go.Rel
set_option maxRecDepth 20000

def crossP (a f : Nat) (lat : Int) : Nat := fdiv (can a) (fsqrt (fsub (can 4607182418800017408) (fmul (fmul (eccP f) (can (sinP lat))) (can (sinP lat)))))

/-- of a call with a globe: a number that comes of it -/
def SpGl (g : Nat → Nat → Nat) (args : Array Value) (v : Value) : Prop := ∃ a f : Nat, args = #[globeV a f] ∧ isFl (g a f) v
theorem spGl_iff (g : Nat → Nat → Nat) (a f : Nat) (v : Value) : SpGl g #[globeV a f] v ↔ isFl (g a f) v := by
  unfold SpGl
  exact ⟨fun ⟨_, _, h, k⟩ => by simp at h; obtain ⟨rfl, rfl⟩ := h; exact k, fun h => ⟨_, _, rfl, h⟩⟩
theorem spGl_iff' (g : Nat → Nat → Nat) (a f : Nat) (v : Value) : SpGl g #[.agg #[.float .f64 a, .float .f64 f]] v ↔ isFl (g a f) v := spGl_iff g a f v

set_option maxHeartbeats 4000000 in
theorem cross_c (a f : Nat) (lat : Int) (w : World) : Calls Tryd.prog 24 #[globeV a f, .int .i64 lat] w (FlR (crossP a f lat) w) := by
  unfold crossP
  go_enter Tryd.func24, Tryd.ntmps24
  go_wp2_with (first | (go_at_call 43; refine (sin_c _ _).mono ?_; rintro e w' ⟨rfl, hx⟩))
  obtain ⟨hb1, hw0⟩ := ext1 hx
  clear hx
  refine wp_region_all (fun g args v => (g = 45 ∧ SpGl (fun _ f => eccP f) args v) ∨ (g = 44 ∧ SpOne fsqrt args v)) (by kernel_rfl) (by kernel_rfl) ?_
  repeat (first
    | (refine wpR_op rfl (fun w1 hw K hK => ?_); have c1 := (hb1.ext hw.of_drew).cell; go_simp; refine hK _ ?_; clear hK K c1 hw w1)
    | (refine wpR_op rfl (fun w1 hw K hK => ?_); go_simp; refine rel_fl rfl ?_; intro r hr; refine hK _ ?_; clear hK K hw w1)
    | (refine wpR_op rfl (fun w1 hw K hK => ?_); go_simp; refine rel_call (FlR.call (ecc_c a f _)) (fun v => ?_) (fun v hv => ?_); (simp [spGl_iff']); obtain ⟨r, rfl, hr⟩ := hv; refine hK _ ?_; clear hK K hw w1)
    | (refine wpR_op rfl (fun w1 hw K hK => ?_); go_simp; refine rel_call (FlR.call (sqrt_c _ _)) (fun v => ?_) (fun v hv => ?_); (simp [spOne_iff]); obtain ⟨r, rfl, hr⟩ := hv; refine hK _ ?_; clear hK K hw w1))
  refine wpR_nil ?_
  intro w1 hx1 _
  replace hw0 := hw0.trans hx1.of_drew
  go_wp2_with fail
  go_ret
  exact ⟨_, rfl, by simp only [*, fbin], hw0⟩

set_option maxHeartbeats 4000000 in
theorem crossOf_c (a f : Nat) (lat : Int) (w : World) : Calls Tryd.prog 25 #[globeV a f, .int .i64 lat] w (FlR (crossP a f lat) w) := by
  unfold crossP
  go_enter Tryd.func25, Tryd.ntmps25
  go_wp2_with (first
    | (go_at_call 46; refine (sincos_c _ _).mono ?_; rintro e w' ⟨rfl, rfl⟩)
    | (go_at_call 47; refine (squareOf_c a f _).mono ?_; rintro e w2 ⟨r2, rfl, hr2, hx⟩; obtain ⟨hb1, hw0⟩ := ext1 hx)
    | (with_reducible refine upon_fl rfl ?_; intro r n hr))
  refine wp_region_all (fun g args v => (g = 48 ∧ SpTri (fun x y z => fsub x (fmul y z)) args v) ∨ (g = 44 ∧ SpOne fsqrt args v)) (by kernel_rfl) (by kernel_rfl) ?_
  repeat (first
    | (refine wpR_op rfl (fun w1 hw K hK => ?_); have c1 := ((hb1.drewN _).ext hw.of_drew).cell; go_simp; refine hK _ ?_; clear hK K c1 hw w1)
    | (refine wpR_op rfl (fun w1 hw K hK => ?_); go_simp; refine rel_fl rfl ?_; intro r hr; refine hK _ ?_; clear hK K hw w1)
    | (refine wpR_op rfl (fun w1 hw K hK => ?_); go_simp; refine rel_call (FlR.call (less_c _ _ _ _)) (fun v => ?_) (fun v hv => ?_); (simp [spTri_iff]); obtain ⟨r, rfl, hr⟩ := hv; refine hK _ ?_; clear hK K hw w1)
    | (refine wpR_op rfl (fun w1 hw K hK => ?_); go_simp; refine rel_call (FlR.call (sqrt_c _ _)) (fun v => ?_) (fun v hv => ?_); (simp [spOne_iff]); obtain ⟨r, rfl, hr⟩ := hv; refine hK _ ?_; clear hK K hw w1))
  refine wpR_nil ?_
  intro w1 hx1 _
  replace hw0 := (hw0.drewN _).trans hx1.of_drew
  go_wp2_with fail
  go_ret
  exact ⟨_, rfl, by simp only [*, fbin], hw0⟩
end Go.Proofs.YtdgaeodkffhciaaDoor
