/- Walks: the paper of the statements, the place that they ask for by its numbers. -/
import Derived.Test.YtopedblojfnlnaaGreatDoorY5
namespace Go.Proofs.YtopedblojfnlnaaGreatDoor
open Go.RowKit Go.Fp Go.Rel
set_option maxRecDepth 20000

theorem ballX_c (a f : Nat) (w : World) : Calls Tryz.prog 26 #[globeV a f] w (ExR (globeV a f) w) := by
  go_enter Tryz.func26, Tryz.ntmps26
  go_wp2
  exact bodyPost_ret (v := globeV a f) (by simp [results, Tryz.results26, go_sem]) rfl ⟨rfl, by repeat (first | exact Ext.refl _ | refine Ext.drew ?_ | refine Ext.alloc ?_ _ | refine Ext.setCell ?_ (by simp) _)⟩

set_option maxHeartbeats 4000000 in
theorem paper_c (a f : Nat) (s : ByteArray) (mid : Int) (sc : Nat) (w : World) : Calls Tryz.prog 21 #[paperV a f s mid sc] w (ExR (paperV a f s mid sc) w) := by
  go_enter Tryz.func21, Tryz.ntmps21
  go_wp2_with fail
  rename_i KK hKK
  obtain ⟨hb1, hb2, hw⟩ := ext2 (Ext.refl ((w.alloc (.cells #[.float .f64 a, .float .f64 f, .string s, .int .i64 mid, .float .f64 sc] 61)).alloc (.cells #[.float .f64 0, .float .f64 0, .string ByteArray.empty, .int .i64 0, .float .f64 0] 63)))
  refine wp_region_head 10 (fun g args v => g = 26 ∧ args = #[globeV a f] ∧ v = globeV a f) (by kernel_rfl) (by kernel_rfl) ?_
  simp only [List.take_succ_cons, List.take_zero, List.drop_succ_cons, List.drop_zero]
  repeat (first
    | (refine wpR_op rfl (fun w9 hw9 K hK => ?_); have k1 := (hb1.ext (bareN hw9 rfl rfl rfl rfl)).cell; go_simp; refine hK _ ?_; clear hK K k1 hw9 w9)
    | (refine wpR_op rfl (fun w9 hw9 K hK => ?_); go_simp; refine rel_call (ExR.call (ballX_c a f _)) (fun v => ?_) (fun v hv => ?_); (simp); subst hv; refine hK _ ?_; clear hK K hw9 w9))
  refine wpR_nil ?_
  intro w8 hx8 _
  replace hw := hw.trans (bareN hx8 rfl rfl rfl rfl)
  replace hb2 := hb2.ext (bareN hx8 rfl rfl rfl rfl)
  clear hx8 hb1
  refine wpList_own rfl 63 _ _ rfl _ _ rfl rfl _ _ hb2 (by kernel_rfl) rfl (by simp [Value.oneCell']) ?_
  intro u bn en sn
  replace hw := en w hw (by omega)
  have kc := bn.cell
  clear sn en hb2
  go_wp2_with fail
  exact bodyPost_ret (v := paperV a f s mid sc) (by simp [results, Tryz.results21, go_sem, kc]) rfl ⟨rfl, hw⟩

set_option maxHeartbeats 4000000 in
theorem sameFlat_c (x y x' y' : Nat) (hx : can x = can x') (hy : can y = can y') (w : World) : Calls Tryz.prog 16 #[flatV x y, flatV x' y'] w (ExR (.bool true) w) := by
  have HX := Lib.hid (fun w => sameBits_c x x' w hx)
  have HY := Lib.hid (fun w => sameBits_c y y' w hy)
  have tk : Hid True := trivial
  clear hx hy
  go_enter Tryz.func16, Tryz.ntmps16
  go_wp2_with (first
    | (go_at_call 19; clear tk; go_must (refine (HX.out _).mono ?_; rintro e w1 ⟨rfl, hx⟩; obtain ⟨hb1, hb2, hw⟩ := ext2 hx; have c1 := hb1.cell; have c2 := hb2.cell; clear hx))
    | (go_at_call 19; go_must (refine (HY.out _).mono ?_; rintro e w1 ⟨rfl, hx⟩; replace hw := hw.trans hx; clear hx c1 c2)))
  all_goals go_ret
  all_goals exact ⟨rfl, hw⟩

theorem order_canL (x : Nat) {c : Nat} (hc : isNan c = false) : D.order (can x) c = D.order x c := by
  have := order_can x c
  rwa [can_of_not hc] at this
theorem drawn_num : chkP (papP (okG 4617315517961601024 0) 0 4607182418800017408) 0 0 = 0 ∧ D.order (flatX 0 4617315517961601024 0 4607182418800017408 0 90000000000 0) 4620524332696102502 = some .gt ∧ D.order (flatX 0 4617315517961601024 0 4607182418800017408 0 90000000000 0) 4620535591695170929 = some .lt := by decide +kernel
set_option maxHeartbeats 4000000 in
theorem drawn_c {A : Nat → Addr} (w : World) (h8 : World8 A w) : Calls Tryz.prog 20 #[] w (ExR (.bool true) w) := by
  obtain ⟨hk, ho1, ho2⟩ := drawn_num
  have HT0 : ∀ w, World8 A w → Calls Tryz.prog 60 #[paperV 4617315517961601024 0 sMer 0 4607182418800017408, placeW 90000000000 0] w (FlatR A 0 (flatX 0 4617315517961601024 0 4607182418800017408 0 90000000000 0) (flatY 0 4617315517961601024 0 4607182418800017408 0 90000000000 0) w) :=
    fun w h8 => to_ok .mer _ _ _ _ _ _ w h8 hk (by decide)
  clear hk
  generalize flatX 0 4617315517961601024 0 4607182418800017408 0 90000000000 0 = X at *
  generalize flatY 0 4617315517961601024 0 4607182418800017408 0 90000000000 0 = Y at *
  have HT := Lib.hid HT0
  clear HT0
  go_enter Tryz.func20, Tryz.ntmps20
  go_wp2_with (first
    | (go_at_call 60; go_must (refine (HT.out _ (h8.ext (by repeat (first | exact Ext.refl _ | refine Ext.alloc ?_ _)))).mono ?_; rintro e w1 ⟨x, y, v, rfl, he, hx, hy, hw⟩; cases he; have q1 : FloatKind.f64.format.order x 4620524332696102502 = some .gt := ((order_canL x (c := 4620524332696102502) (by decide +kernel)).symm.trans (by rw [hx]; exact ho1)); have q2 : FloatKind.f64.format.order x 4620535591695170929 = some .lt := ((order_canL x (c := 4620535591695170929) (by decide +kernel)).symm.trans (by rw [hx]; exact ho2)); clear ho1 ho2)))
  go_ret
  exact ⟨rfl, hw.alloc _⟩
end Go.Proofs.YtopedblojfnlnaaGreatDoor
