/- Walks: To and From where the datum or the vector is none. Printed by gen_datumlaw.py. -/
import Derived.Test.YtmmifmlkhmdgaaaDoorBM
namespace Go.Proofs.YtmmifmlkhmdgaaaDoor
open Go.RowKit Go.Fp Go.Rel
set_option maxRecDepth 20000

set_option maxHeartbeats 4000000 in
theorem dto_bad3 {A0 : Nat → Addr} (X Y Z A B C S x y z : Nat) (hk : dvK (okD X Y Z A B C S) (okV x y z) = 3) (w : World) (h8 : World8 A0 w) :
    Calls Tryd.prog 14 #[datV X Y Z A B C S, vecU x y z] w (ExR (.tuple #[vecU 0 0 0, errV (A0 1)]) w) := by
  have HC0 := fun w h8 => check_c (A0 := A0) X Y Z A B C S x y z w h8
  rw [hk] at HC0
  have HC := Lib.hid HC0
  clear HC0 hk
  go_enter Tryd.func14, Tryd.ntmps14
  go_wp2_with (first
    | (go_at_call 59; go_must (refine (HC.out _ (h8.ext (by repeat (first | exact Ext.refl _ | refine Ext.alloc ?_ _)))).mono ?_; rintro e w1 ⟨v, rfl, hv, hx⟩; cases hv; obtain ⟨hb1, hb2, hb3, hw⟩ := ext3 hx; clear hx))
    | (refine wpList_own rfl 29 _ _ rfl _ _ rfl rfl _ _ hb3 (by kernel_rfl) rfl (by simp [Value.oneCell']) ?_; go_must (intro u bn en sn; replace hw := en w (by repeat (first | exact hw | refine Ext.drewN ?_ _)) (by omega); have kc := bn.cell; clear sn en hb3)))
  exact bodyPost_ret (v := .tuple #[vecU 0 0 0, errV (A0 1)]) (by simp [results, Tryd.results14, go_sem, kc]) rfl ⟨rfl, hw⟩

set_option maxHeartbeats 4000000 in
theorem dto_bad4 {A0 : Nat → Addr} (X Y Z A B C S x y z : Nat) (hk : dvK (okD X Y Z A B C S) (okV x y z) = 4) (w : World) (h8 : World8 A0 w) :
    Calls Tryd.prog 14 #[datV X Y Z A B C S, vecU x y z] w (ExR (.tuple #[vecU 0 0 0, errV (A0 0)]) w) := by
  have HC0 := fun w h8 => check_c (A0 := A0) X Y Z A B C S x y z w h8
  rw [hk] at HC0
  have HC := Lib.hid HC0
  clear HC0 hk
  go_enter Tryd.func14, Tryd.ntmps14
  go_wp2_with (first
    | (go_at_call 59; go_must (refine (HC.out _ (h8.ext (by repeat (first | exact Ext.refl _ | refine Ext.alloc ?_ _)))).mono ?_; rintro e w1 ⟨v, rfl, hv, hx⟩; cases hv; obtain ⟨hb1, hb2, hb3, hw⟩ := ext3 hx; clear hx))
    | (refine wpList_own rfl 29 _ _ rfl _ _ rfl rfl _ _ hb3 (by kernel_rfl) rfl (by simp [Value.oneCell']) ?_; go_must (intro u bn en sn; replace hw := en w (by repeat (first | exact hw | refine Ext.drewN ?_ _)) (by omega); have kc := bn.cell; clear sn en hb3)))
  exact bodyPost_ret (v := .tuple #[vecU 0 0 0, errV (A0 0)]) (by simp [results, Tryd.results14, go_sem, kc]) rfl ⟨rfl, hw⟩

set_option maxHeartbeats 4000000 in
theorem dfrom_bad3 {A0 : Nat → Addr} (X Y Z A B C S x y z : Nat) (hk : dvK (okD X Y Z A B C S) (okV x y z) = 3) (w : World) (h8 : World8 A0 w) :
    Calls Tryd.prog 16 #[datV X Y Z A B C S, vecU x y z] w (ExR (.tuple #[vecU 0 0 0, errV (A0 1)]) w) := by
  have HC0 := fun w h8 => check_c (A0 := A0) X Y Z A B C S x y z w h8
  rw [hk] at HC0
  have HC := Lib.hid HC0
  clear HC0 hk
  go_enter Tryd.func16, Tryd.ntmps16
  go_wp2_with (first
    | (go_at_call 59; go_must (refine (HC.out _ (h8.ext (by repeat (first | exact Ext.refl _ | refine Ext.alloc ?_ _)))).mono ?_; rintro e w1 ⟨v, rfl, hv, hx⟩; cases hv; obtain ⟨hb1, hb2, hb3, hw⟩ := ext3 hx; clear hx))
    | (refine wpList_own rfl 29 _ _ rfl _ _ rfl rfl _ _ hb3 (by kernel_rfl) rfl (by simp [Value.oneCell']) ?_; go_must (intro u bn en sn; replace hw := en w (by repeat (first | exact hw | refine Ext.drewN ?_ _)) (by omega); have kc := bn.cell; clear sn en hb3)))
  exact bodyPost_ret (v := .tuple #[vecU 0 0 0, errV (A0 1)]) (by simp [results, Tryd.results16, go_sem, kc]) rfl ⟨rfl, hw⟩

set_option maxHeartbeats 4000000 in
theorem dfrom_bad4 {A0 : Nat → Addr} (X Y Z A B C S x y z : Nat) (hk : dvK (okD X Y Z A B C S) (okV x y z) = 4) (w : World) (h8 : World8 A0 w) :
    Calls Tryd.prog 16 #[datV X Y Z A B C S, vecU x y z] w (ExR (.tuple #[vecU 0 0 0, errV (A0 0)]) w) := by
  have HC0 := fun w h8 => check_c (A0 := A0) X Y Z A B C S x y z w h8
  rw [hk] at HC0
  have HC := Lib.hid HC0
  clear HC0 hk
  go_enter Tryd.func16, Tryd.ntmps16
  go_wp2_with (first
    | (go_at_call 59; go_must (refine (HC.out _ (h8.ext (by repeat (first | exact Ext.refl _ | refine Ext.alloc ?_ _)))).mono ?_; rintro e w1 ⟨v, rfl, hv, hx⟩; cases hv; obtain ⟨hb1, hb2, hb3, hw⟩ := ext3 hx; clear hx))
    | (refine wpList_own rfl 29 _ _ rfl _ _ rfl rfl _ _ hb3 (by kernel_rfl) rfl (by simp [Value.oneCell']) ?_; go_must (intro u bn en sn; replace hw := en w (by repeat (first | exact hw | refine Ext.drewN ?_ _)) (by omega); have kc := bn.cell; clear sn en hb3)))
  exact bodyPost_ret (v := .tuple #[vecU 0 0 0, errV (A0 0)]) (by simp [results, Tryd.results16, go_sem, kc]) rfl ⟨rfl, hw⟩

theorem dvK_cases (g v : Bool) : dvK g v = 0 ∧ g = true ∧ v = true ∨ dvK g v = 3 ∧ g = false ∨ dvK g v = 4 ∧ g = true ∧ v = false := by
  cases g <;> cases v <;> decide
end Go.Proofs.YtmmifmlkhmdgaaaDoor
