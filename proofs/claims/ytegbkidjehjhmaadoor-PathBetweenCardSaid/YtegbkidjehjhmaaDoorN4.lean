/- Walks: the two series of a geodesic; the difference of longitudes: package path's, the reference's. -/
import Derived.Test.YtegbkidjehjhmaaDoorN3
namespace Go.Proofs.YtegbkidjehjhmaaDoor
open Go.RowKit Go.Fp Go.Rel
set_option maxRecDepth 20000

def uP (f ca : Nat) : Nat := fdiv (fmul ca (eccP f)) (fsub (can c1) (eccP f))
def ofP (u : Nat) : Nat := fadd (can c1) (fmul (fdiv u (can 4670232813583204352)) (fadd (can 4661225614328463360) (fmul u (fsub (fmul u (fsub (can 4644337115725824000) (fmul (can 4640361281679785984) u))) (can 4649966615260037120)))))
def ofQ (u : Nat) : Nat := fmul (fdiv u (can 4652218415073722368)) (fadd (can 4643211215818981376) (fmul u (fsub (fmul u (fsub (can 4634907704006017024) (fmul (can 4631811479262199808) u))) (can 4638707616191610880))))
def OfR (f ca : Nat) (w : World) (e : Ending) (w' : World) : Prop := ∃ p q, e = .returned (.agg #[.float .f64 p, .float .f64 q]) ∧ can p = ofP (uP f ca) ∧ can q = ofQ (uP f ca) ∧ Ext w w'
def OfS (f ca : Nat) (w : World) (e : Ending) (w' : World) : Prop := ∃ p q, e = .returned (.tuple #[.float .f64 p, .float .f64 q]) ∧ can p = ofP (uP f ca) ∧ can q = ofQ (uP f ca) ∧ Ext w w'

set_option maxHeartbeats 8000000 in
theorem of_c (a f ca : Nat) (w : World) : Calls Tryd.prog 49 #[globeV a f, .float .f64 ca] w (OfR f (can ca) w) := by
  go_enter Tryd.func49, Tryd.ntmps49
  go_wp2_with fail
  obtain ⟨hb1, hb2, hw1⟩ := ext2 (Ext.refl ((w.alloc (.cells #[.float .f64 a, .float .f64 f] 42)).alloc (.cells #[.float .f64 0, .float .f64 0] 98)))
  have hu : uP f (can ca) = fdiv (fmul (can ca) (eccP f)) (fsub (can c1) (eccP f)) := rfl
  have hsz : ((w.alloc (.cells #[.float .f64 a, .float .f64 f] 42)).alloc (.cells #[.float .f64 0, .float .f64 0] 98)).heap.size = w.heap.size + 1 + 1 := by rw [alloc_size, alloc_size]
  refine wp_region_all (fun g args v => g = 83 ∧ SpGl (fun _ f => eccP f) args v) (by kernel_rfl) (by kernel_rfl) ?_
  repeat (first
    | (refine wpR_op rfl (fun w1 hw K hK => ?_); have k1 := (hb1.ext (bareN hw rfl rfl rfl rfl)).cell; go_simp; refine hK _ ?_; clear hK K k1 hw w1)
    | (refine wpR_op rfl (fun w1 hw K hK => ?_); go_simp; refine rel_fl rfl ?_; intro r hr; refine hK _ ?_; clear hK K hw w1)
    | (refine wpR_op rfl (fun w1 hw K hK => ?_); go_simp; refine rel_call (FlR.call (ecc_c a f _)) (fun v => ?_) (fun v hv => ?_); (simp [spGl_iff']); obtain ⟨rt, rfl, hrt⟩ := hv; refine hK _ ?_; clear hK K hw w1))
  refine wpR_nil ?_
  intro w2 hx2 _
  replace hb2 := hb2.ext (bareN hx2 rfl rfl rfl rfl)
  have hw2 := hw1.trans (bareN hx2 rfl rfl rfl rfl)
  clear hb1 hx2 hsz
  go_wp2_with (first
    | (with_reducible refine upon_fl rfl ?_; intro r n hr)
    | (refine wpList_own rfl 98 _ _ rfl _ _ rfl rfl _ _ (show Blk _ _ _ _ from hb2) (by kernel_rfl) rfl (by simp [Value.oneCell']) ?_; intro w5 hb4 hk5 _; have hw5 : Ext w w5 := hk5 _ (by repeat (first | exact hw2 | refine Ext.drewN ?_ _)) (by omega); have k4 := hb4.cell; clear hb2 hk5))
  refine bodyPost_ret (v := .agg #[.float .f64 _, .float .f64 _]) (by simp [results, Tryd.results49, go_sem, k4]; exact ⟨rfl, rfl⟩) rfl ⟨_, _, rfl, ?_, ?_, hw5⟩
  all_goals simp only [ofP, ofQ, hu, c1, *, fbin]

set_option maxHeartbeats 8000000 in
theorem firstSecond_c (a f ca : Nat) (w : World) : Calls Tryd.prog 62 #[globeV a f, .float .f64 ca] w (OfS f (can ca) w) := by
  go_enter Tryd.func62, Tryd.ntmps62
  have hu : uP f (can ca) = fdiv (fmul (can ca) (eccP f)) (fsub (can c1) (eccP f)) := rfl
  have HU := Lib.hid hu
  clear hu
  have hw0 : Ext w (w.alloc (.cells #[.float .f64 a, .float .f64 f] 33)) := (Ext.refl w).alloc _
  go_wp2_with (first
    | (go_at_call 87; refine (squareOf_c a f _).mono ?_; rintro e w1 ⟨rs, rfl, hrs, hx⟩; have hw := hw0.trans (bareN hx rfl rfl rfl rfl); clear hx)
    | (go_at_call 59; refine (less_c _ _ _ _).mono ?_; rintro e w1 ⟨rl, rfl, hrl, hx⟩; replace hw := hw.trans (bareN hx rfl rfl rfl rfl); clear hx)
    | (go_at_call 60; refine (plus_c _ _ _ _).mono ?_; rintro e w1 ⟨rp, rfl, hrp, hx⟩; replace hw := hw.trans (bareN hx rfl rfl rfl rfl); clear hx)
    | (with_reducible refine upon_fl rfl ?_; intro r n hr))
  go_ret2
  refine ⟨_, _, rfl, by simp only [ofP, ofQ, HU.out, c1, *, fbin], by simp only [ofP, ofQ, HU.out, c1, *, fbin], ?_⟩
  repeat (first | exact hw | refine Ext.drewN ?_ _)
end Go.Proofs.YtegbkidjehjhmaaDoor
