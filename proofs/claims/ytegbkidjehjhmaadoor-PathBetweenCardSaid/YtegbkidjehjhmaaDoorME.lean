/- Walk: the geodesic that the statements ask for by its numbers. -/
import Derived.Test.YtegbkidjehjhmaaDoorMB
namespace Go.Proofs.YtegbkidjehjhmaaDoor
open Go.RowKit Go.Fp Go.Rel
set_option maxRecDepth 20000

/-- the line that the statements ask for by its numbers -/
theorem lined_line : ∃ x, LineIs lined0 (lined0.far x) (lined0.outA x) (lined0.inA x) 0 ∧ D.order (lined0.far x) 4654619748468785152 = some .gt ∧ D.order (lined0.far x) 4654624146515296256 = some .lt := by
  have h := lined_true
  unfold linedB at h
  cases hg : lined0.go 60 lined0.all with
  | none => rw [hg] at h; cases h
  | some x =>
    rw [hg] at h
    simp only [Bool.and_eq_true, beq_iff_eq] at h
    exact ⟨x, .ok lined_ok (by decide) (by decide) (by decide) (by decide) x hg, h.1, h.2⟩

set_option maxHeartbeats 4000000 in
theorem lined_c {A : Nat → Addr} (w : World) (h8 : World8 A w) : Calls Tryd.prog 12 #[] w (ExR (.bool true) w) := by
  obtain ⟨x, hI, ho1, ho2⟩ := lined_line
  have HB : Hid (∀ w, World8 A w → Calls Tryd.prog 13 #[globeV 4652007308841189376 0, placeV 0 0, placeV 90000000000 0] w (LineR A (lined0.far x) (lined0.outA x) (lined0.inA x) 0 w)) := fun w h' => between_c' hI w h'
  clear hI
  generalize lined0.far x = FAR at *
  generalize lined0.outA x = O at *
  generalize lined0.inA x = I at *
  go_enter Tryd.func12, Tryd.ntmps12
  go_wp2_with (first
    | (go_at_call 13; go_must (refine (HB.out _ h8).mono ?_; rintro e w1 ⟨fr, ev, rfl, hfr, he, hw⟩; cases he; have q1 : FloatKind.f64.format.order fr 4654619748468785152 = some .gt := ((order_canL fr (c := 4654619748468785152) (by decide +kernel)).symm.trans (by rw [hfr]; exact ho1)); have q2 : FloatKind.f64.format.order fr 4654624146515296256 = some .lt := ((order_canL fr (c := 4654624146515296256) (by decide +kernel)).symm.trans (by rw [hfr]; exact ho2)); clear ho1 ho2))
    | (refine wpList_own rfl 37 _ _ rfl _ _ rfl rfl _ _ (Blk.new _ _ _) (by kernel_rfl) rfl (by simp [Value.oneCell']) ?_; go_must (intro u bn en sn; replace hw := en _ (hw.alloc _) hw.size; have kc := bn.cell; clear bn en sn)))
  go_ret
  exact ⟨rfl, hw⟩
end Go.Proofs.YtegbkidjehjhmaaDoor
