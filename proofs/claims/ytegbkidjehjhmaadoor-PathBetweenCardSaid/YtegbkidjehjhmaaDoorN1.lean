/- Walks of package path, and of the reference beside it: third, twice, reduced. -/
import Derived.Test.YtegbkidjehjhmaaDoorV2
namespace Go.Proofs.YtegbkidjehjhmaaDoor
open Go.RowKit Go.Fp Go.Rel
set_option maxRecDepth 20000

abbrev c16 : Nat := 4625196817309499392
abbrev c4 : Nat := 4616189618054758400
abbrev c3 : Nat := 4613937818241073152
abbrev c2 : Nat := 4611686018427387904
abbrev c1 : Nat := 4607182418800017408
def thirdP (f ca : Nat) : Nat := fmul (fmul (fdiv f (can c16)) ca) (fadd (can c4) (fmul f (fsub (can c4) (fmul (can c3) ca))))
def twiceP (x : Nat) : Nat := fsub (fmul (can c2) (fmul x x)) (can c1)

set_option maxHeartbeats 1000000 in
theorem twice_c (x : Nat) (w : World) : Calls Tryd.prog 84 #[.float .f64 x] w (FlR (twiceP (can x)) w) := by
  unfold twiceP
  go_enter Tryd.func84, Tryd.ntmps84
  go_wp2_with (first | (with_reducible refine upon_fl rfl ?_; intro r n hr))
  go_ret
  refine ⟨_, rfl, by simp only [*, fbin], ?_⟩
  repeat (first | exact Ext.refl _ | refine Ext.drewN ?_ _ | refine Ext.alloc ?_ _)
set_option maxHeartbeats 1000000 in
theorem double_c (x : Nat) (w : World) : Calls Tryd.prog 88 #[.float .f64 x] w (FlR (twiceP (can x)) w) := by
  unfold twiceP
  go_enter Tryd.func88, Tryd.ntmps88
  go_wp2_with (first | (with_reducible refine upon_fl rfl ?_; intro r n hr))
  go_ret
  refine ⟨_, rfl, by simp only [*, fbin], ?_⟩
  repeat (first | exact Ext.refl _ | refine Ext.drewN ?_ _ | refine Ext.alloc ?_ _)
set_option maxHeartbeats 2000000 in
theorem third_c (a f ca : Nat) (w : World) : Calls Tryd.prog 53 #[globeV a f, .float .f64 ca] w (FlR (thirdP (can f) (can ca)) w) := by
  unfold thirdP
  go_enter Tryd.func53, Tryd.ntmps53
  go_wp2_with (first | (with_reducible refine upon_fl rfl ?_; intro r n hr))
  go_ret
  refine ⟨_, rfl, by simp only [*, fbin], ?_⟩
  repeat (first | exact Ext.refl _ | refine Ext.drewN ?_ _ | refine Ext.alloc ?_ _)

/-- reduced latitude: cosine and sine -/
def redX (lat : Int) : Nat := can (cosP lat)
def redY (f : Nat) (lat : Int) : Nat := fmul (fsub (can c1) (can f)) (can (sinP lat))
def redD (f : Nat) (lat : Int) : Nat := fsqrt (fadd (fmul (redX lat) (redX lat)) (fmul (redY f lat) (redY f lat)))
def RedR (f : Nat) (lat : Int) (w : World) (e : Ending) (w' : World) : Prop := ∃ c s, e = .returned (.tuple #[.float .f64 c, .float .f64 s]) ∧ can c = fdiv (redX lat) (redD f lat) ∧ can s = fdiv (redY f lat) (redD f lat) ∧ Ext w w'
def SpIntN (f : Int → Value) (args : Array Value) (v : Value) : Prop := ∃ a : Int, args = #[.int .i64 a] ∧ v = f a
theorem spIntN_iff (f : Int → Value) (a : Int) (v : Value) : SpIntN f #[.int .i64 a] v ↔ v = f a := by
  unfold SpIntN
  exact ⟨fun ⟨_, h, k⟩ => by simp at h; obtain rfl := h; exact k, fun h => ⟨_, rfl, h⟩⟩
theorem bareN {w w' v : World} (h : Ext w' v) (ho : w'.os = w.os) (ht : w'.tape = w.tape) (hp : w'.output = w.output) (hh : w'.heap = w.heap) : Ext w v :=
  ⟨h.os.trans ho, h.tape.trans ht, h.output.trans hp, by rw [← hh]; exact h.size, fun k hk => by rw [← hh]; exact h.block k (by rw [hh]; exact hk)⟩

set_option maxHeartbeats 4000000 in
theorem reduced_c (a f : Nat) (lat : Int) (w : World) : Calls Tryd.prog 41 #[globeV a f, .int .i64 lat] w (RedR f lat w) := by
  go_enter Tryd.func41, Tryd.ntmps41
  go_wp2_with fail
  have hb1 := Blk.new w #[.float .f64 a, .float .f64 f] 42
  have hw1 : Ext w (w.alloc (.cells #[.float .f64 a, .float .f64 f] 42)) := (Ext.refl w).alloc _
  refine wp_region_all (fun g args v => (g = 46 ∧ SpIntN (fun a => .float .f64 (cosP a)) args v) ∨ (g = 45 ∧ SpIntN (fun a => .float .f64 (sinP a)) args v)) (by kernel_rfl) (by kernel_rfl) ?_
  repeat (first
    | (refine wpR_op rfl (fun w1 hw K hK => ?_); have k1 := (hb1.ext hw.of_drew).cell; go_simp; refine hK _ ?_; clear hK K k1 hw w1)
    | (refine wpR_op rfl (fun w1 hw K hK => ?_); go_simp; refine rel_fl rfl ?_; intro r hr; refine hK _ ?_; clear hK K hw w1)
    | (refine wpR_op rfl (fun w1 hw K hK => ?_); go_simp; refine rel_call (ExR.call (cos_c _ _)) (fun v => ?_) (fun v hv => ?_); (simp [spIntN_iff]); subst hv; refine hK _ ?_; clear hK K hw w1)
    | (refine wpR_op rfl (fun w1 hw K hK => ?_); go_simp; refine rel_call (ExR.call (sin_c _ _)) (fun v => ?_) (fun v hv => ?_); (simp [spIntN_iff]); subst hv; refine hK _ ?_; clear hK K hw w1))
  refine wpR_nil ?_
  intro w2 hx2 _
  have hw2 := hw1.trans hx2.of_drew
  go_wp2_with (first
    | (with_reducible refine upon_fl rfl ?_; intro r n hr)
    | (go_at_call 47; refine (sqrt_c _ _).mono ?_; rintro e w3 ⟨rd, rfl, hrd, hx3⟩; have hw3 := hw2.trans (bareN hx3 rfl rfl rfl rfl)))
  go_ret2
  refine ⟨_, _, rfl, by simp only [redX, redY, redD, *, fbin], by simp only [redX, redY, redD, *, fbin], ?_⟩
  repeat (first | exact hw3 | refine Ext.drewN ?_ _)
end Go.Proofs.YtegbkidjehjhmaaDoor
