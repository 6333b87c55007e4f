/- Walks: the law's waved, strip. -/
import Derived.Test.YtddjppaccpioiaaDoorU5
namespace Go.Proofs.YtddjppaccpioiaaDoor
open Go.RowKit Go.Fp Go.Rel
set_option maxRecDepth 20000

abbrev wA : Nat := 4617315517961601024
abbrev w1S : Nat := 4607182418800017408
theorem order_canU (x : Nat) {c : Nat} (hc : isNan c = false) : D.order (can x) c = D.order x c := by
  have := order_can x c
  rwa [can_of_not hc] at this
theorem waved_num : strP (okG wA 0) w1S = 0 ∧ lookK 0 45000000000 (signP (dS 0 0)) = 0 ∧
    D.order (stripX wA 0 w1S (uS 0 45000000000 (dS 0 0)) (vS 0 45000000000 (dS 0 0))) 0 = some .eq ∧
    D.order (stripY wA 0 w1S (uS 0 45000000000 (dS 0 0)) (vS 0 45000000000 (dS 0 0))) 4616009474069663580 = some .gt ∧
    D.order (stripY wA 0 w1S (uS 0 45000000000 (dS 0 0)) (vS 0 45000000000 (dS 0 0))) 4616031992067800433 = some .lt := by decide +kernel
set_option maxHeartbeats 4000000 in
theorem waved_c {A : Nat → Addr} (w : World) (h8 : World8 A w) : Calls Tryd.prog 14 #[] w (ExR (.bool true) w) := by
  obtain ⟨hk, hl, ho0, ho1, ho2⟩ := waved_num
  have HT0 := fun w h8 => sto_ok (A := A) wA 0 0 w1S 0 45000000000 w h8 hk hl
  clear hk hl
  generalize stripX wA 0 w1S (uS 0 45000000000 (dS 0 0)) (vS 0 45000000000 (dS 0 0)) = X at *
  generalize stripY wA 0 w1S (uS 0 45000000000 (dS 0 0)) (vS 0 45000000000 (dS 0 0)) = Y at *
  have HT := Lib.hid HT0
  clear HT0
  go_enter Tryd.func14, Tryd.ntmps14
  go_wp2_with (first
    | (go_at_call 20; go_must (refine (HT.out _ (h8.ext (by repeat (first | exact Ext.refl _ | refine Ext.alloc ?_ _)))).mono ?_; rintro e w1 ⟨x, y, rfl, hx, hy, hw⟩; have q0 : FloatKind.f64.format.order x 0 = some .eq := ((order_canU x (c := 0) (by decide +kernel)).symm.trans (by rw [hx]; exact ho0)); have q1 : FloatKind.f64.format.order y 4616009474069663580 = some .gt := ((order_canU y (c := 4616009474069663580) (by decide +kernel)).symm.trans (by rw [hy]; exact ho1)); have q2 : FloatKind.f64.format.order y 4616031992067800433 = some .lt := ((order_canU y (c := 4616031992067800433) (by decide +kernel)).symm.trans (by rw [hy]; exact ho2)); clear ho0 ho1 ho2)))
  go_ret
  exact ⟨rfl, hw.alloc _⟩
end Go.Proofs.YtddjppaccpioiaaDoor
