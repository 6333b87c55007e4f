/- Walks: the paper of the statements, the place that they ask for by its numbers. -/
import Derived.Test.YtmmifmlkhmdgaaaGreatDoorY5
namespace Go.Proofs.YtmmifmlkhmdgaaaGreatDoor
open Go.RowKit Go.Fp Go.Rel
set_option maxRecDepth 20000

theorem ballX_c (a f : Nat) (w : World) : Calls Tryz.prog 19 #[globeV a f] w (ExR (globeV a f) w) := by
  go_enter Tryz.func19, Tryz.ntmps19
  go_wp2
  exact bodyPost_ret (v := globeV a f) (by simp [results, Tryz.results19, go_sem]) rfl ⟨rfl, by repeat (first | exact Ext.refl _ | refine Ext.drew ?_ | refine Ext.alloc ?_ _ | refine Ext.setCell ?_ (by simp) _)⟩

set_option maxHeartbeats 4000000 in
theorem sameFlat_c (x y x' y' : Nat) (hx : can x = can x') (hy : can y = can y') (w : World) : Calls Tryz.prog 15 #[flatV x y, flatV x' y'] w (ExR (.bool true) w) := by
  have HX := Lib.hid (fun w => sameBits_c x x' w hx)
  have HY := Lib.hid (fun w => sameBits_c y y' w hy)
  have tk : Hid True := trivial
  clear hx hy
  go_enter Tryz.func15, Tryz.ntmps15
  go_wp2_with (first
    | (go_at_call 18; clear tk; go_must (refine (HX.out _).mono ?_; rintro e w1 ⟨rfl, hx⟩; obtain ⟨hb1, hb2, hw⟩ := ext2 hx; have c1 := hb1.cell; have c2 := hb2.cell; clear hx))
    | (go_at_call 18; go_must (refine (HY.out _).mono ?_; rintro e w1 ⟨rfl, hx⟩; replace hw := hw.trans hx; clear hx c1 c2)))
  all_goals go_ret
  all_goals exact ⟨rfl, hw⟩

theorem order_canL (x : Nat) {c : Nat} (hc : isNan c = false) : D.order (can x) c = D.order x c := by
  have := order_can x c
  rwa [can_of_not hc] at this
theorem drawn_num : chkP (papP (okG 4617315517961601024 0) 0 4607182418800017408) 0 0 = 0 ∧ D.order (flatX 0 4617315517961601024 0 4607182418800017408 0 90000000000 0) 4620524332696102502 = some .gt ∧ D.order (flatX 0 4617315517961601024 0 4607182418800017408 0 90000000000 0) 4620535591695170929 = some .lt := by decide +kernel
end Go.Proofs.YtmmifmlkhmdgaaaGreatDoor
