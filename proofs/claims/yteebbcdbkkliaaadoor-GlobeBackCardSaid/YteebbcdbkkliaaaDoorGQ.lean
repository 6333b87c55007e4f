/- The walk of the statement GlobeBack. -/
import Derived.Test.YteebbcdbkkliaaaDoorBN
namespace Go.Proofs.YteebbcdbkkliaaaDoor
open Go.RowKit Go.Fp Go.Fp.Tri Go.Rel
set_option maxRecDepth 20000

abbrev c1e6 : Nat := 4696837146684686336
abbrev c1e7 : Nat := 4711630319722168320
abbrev c01 : Nat := 4576918229304087675
abbrev m01 : Nat := 13800290266158863483
abbrev m1e4 : Nat := 13890095209322119168
theorem v_1e6 : Fp.Fin c1e6 ∧ vl c1e6 = 1000000 := vl_const (s := false) (m := 8589934592000000) (k := 33) (by decide +kernel) (by decide +kernel)
theorem v_1e7 : Fp.Fin c1e7 ∧ vl c1e7 = 10000000 := vl_const (s := false) (m := 5368709120000000) (k := 29) (by decide +kernel) (by decide +kernel)
theorem v_01 : Fp.Fin c01 ∧ vl c01 = 5764607523034235 / 576460752303423488 := vl_const (s := false) (m := 5764607523034235) (k := 59) (by decide +kernel) (by decide +kernel)
theorem v_m01 : Fp.Fin m01 ∧ vl m01 = -5764607523034235 / 576460752303423488 := vl_const (s := true) (m := 5764607523034235) (k := 59) (by decide +kernel) (by decide +kernel)
theorem v_m1e4 : Fp.Fin m1e4 ∧ vl m1e4 = -10000 := vl_const (s := true) (m := 5497558138880000) (k := 39) (by decide +kernel) (by decide +kernel)
theorem v_five : Fp.Fin five ∧ vl five = 5 := vl_const (s := false) (m := 5629499534213120) (k := 50) (by decide +kernel) (by decide +kernel)
theorem snd_of {a f high : Nat} (b1 : fge a c1e6 = true) (b2 : fle a c1e7 = true) (b3 : fge f 0 = true) (b4 : fle f c01 = true) (b5 : fge high m1e4 = true) (b6 : fle high c1e6 = true) : Snd a f high := by
  obtain ⟨x1, x2, x3⟩ := btw_vl v_1e6.1 v_1e7.1 b1 b2
  obtain ⟨y1, y2, y3⟩ := btw_vl v_0.1 v_01.1 b3 b4
  obtain ⟨z1, z2, z3⟩ := btw_vl v_m1e4.1 v_1e6.1 b5 b6
  rw [v_1e6.2] at x2
  rw [v_1e7.2] at x3
  rw [v_0.2] at y2
  rw [v_01.2] at y3
  rw [v_m1e4.2] at z2
  rw [v_1e6.2] at z3
  exact ⟨x1, x2, x3, y1, y2, by grind, z1, z2, z3⟩
theorem eq_of_can {x c : Nat} (hc : Fp.Fin c) (h : can x = c) : x = c := can_num h (by
  obtain ⟨s, m, i, hr⟩ := hc
  unfold isNan
  rw [hr]; rfl)
set_option maxHeartbeats 4000000 in
theorem apart_c (p q : Int) (w : World) : Calls Tryd.prog 9 #[.int .i64 p, .int .i64 q] w (ExR (.int .i64 (if apartP p q < 0 then -apartP p q else apartP p q)) w) := by
  obtain ⟨p0, p1⟩ := norm_range p
  obtain ⟨q0, q1⟩ := norm_range q
  have HA : Hid (signP (normP p - normP q) = apartP p q) := Lib.hid rfl
  have HN := Lib.hid (fun w => normOf_c p w)
  have HM := Lib.hid (fun w => normOf_c q w)
  have HS := Lib.hid (signedAngle_c (normP p - normP q))
  rw [HA.out] at HS
  have hr : -360000000000 ≤ apartP p q ∧ apartP p q ≤ 360000000000 := by
    unfold apartP signP
    have := norm_range (normP p - normP q)
    split <;> omega
  clear HA
  generalize apartP p q = d at *
  generalize normP p = x at *
  generalize normP q = y at *
  obtain ⟨r0, r1⟩ := hr
  have tk : Hid True := trivial
  by_cases hd : d < 0
  · rw [if_pos hd]
    go_enter Tryd.func9, Tryd.ntmps9
    go_wp2_with (first
      | (go_at_call 38; clear tk; go_must (refine (HN.out _).mono ?_; rintro e w1 ⟨rfl, rfl⟩))
      | (go_at_call 38; go_must (refine (HM.out _).mono ?_; rintro e w1 ⟨rfl, rfl⟩))
      | (go_at_call 37; go_must (refine (HS.out _).mono ?_; rintro e w2 ⟨rfl, hx⟩)))
    go_ret
    exact ⟨rfl, hx⟩
  · rw [if_neg hd]
    go_enter Tryd.func9, Tryd.ntmps9
    go_wp2_with (first
      | (go_at_call 38; clear tk; go_must (refine (HN.out _).mono ?_; rintro e w1 ⟨rfl, rfl⟩))
      | (go_at_call 38; go_must (refine (HM.out _).mono ?_; rintro e w1 ⟨rfl, rfl⟩))
      | (go_at_call 37; go_must (refine (HS.out _).mono ?_; rintro e w2 ⟨rfl, hx⟩)))
    go_ret
    exact ⟨rfl, hx⟩
theorem cosine_c (a : Int) (w : World) : Calls Tryd.prog 10 #[.int .i64 a] w (ExR (.float .f64 (cosP a)) w) := by
  go_enter Tryd.func10, Tryd.ntmps10
  go_wp2_with (first
    | (go_at_call 39; go_must (refine (sincos_c _ _).mono ?_; rintro e w1 ⟨rfl, rfl⟩)))
  go_ret
  exact ⟨rfl, Ext.refl _⟩
set_option maxHeartbeats 4000000 in
theorem within0_c (x : Nat) (h2 : fle x c01 = true) (h1 : fge x m01 = true) (w : World) : Calls Tryd.prog 11 #[.float .f64 x, .float .f64 c01] w (ExR (.bool true) w) := by
  have G2 : (FloatKind.f64.format.order x c01 == some .lt || FloatKind.f64.format.order x c01 == some .eq) = true := h2
  have G1 : (FloatKind.f64.format.order x m01 == some .gt || FloatKind.f64.format.order x m01 == some .eq) = true := h1
  have hn : Op.negFloat .f64 c01 = m01 := by kernel_rfl
  clear h1 h2
  go_enter Tryd.func11, Tryd.ntmps11
  go_wp2_with fail
  all_goals go_ret
  all_goals exact ⟨rfl, Ext.refl _⟩
/-- the cells of a globe and of a place -/
theorem cells2 {w' : World} {n a f : Nat} {p q : Int} {tG tP : TypeId} (h : Bks w' [(n, tG, #[Value.float .f64 a, Value.float .f64 f]), (n + 1, tP, #[Value.int .i64 p, Value.int .i64 q])]) :
    w'.cell? ⟨n, 0, none⟩ = some (.float .f64 a) ∧ w'.cell? ⟨n, 1, none⟩ = some (.float .f64 f) ∧ w'.cell? ⟨n + 1, 0, none⟩ = some (.int .i64 p) ∧ w'.cell? ⟨n + 1, 1, none⟩ = some (.int .i64 q) :=
  ⟨h.1.cell 0, h.1.cell 1, h.2.1.cell 0, h.2.1.cell 1⟩
/-- the cells of a globe and of a vector -/
theorem cellsV {w' : World} {n nb a f x y z : Nat} {p q : Int} {tG tP tV : TypeId} (h : Bks w' [(n, tG, #[Value.float .f64 a, Value.float .f64 f]), (n + 1, tP, #[Value.int .i64 p, Value.int .i64 q]), (nb, tV, #[Value.float .f64 x, Value.float .f64 y, Value.float .f64 z])]) :
    w'.cell? ⟨n, 0, none⟩ = some (.float .f64 a) ∧ w'.cell? ⟨n, 1, none⟩ = some (.float .f64 f) ∧ w'.cell? ⟨nb, 0, none⟩ = some (.float .f64 x) ∧ w'.cell? ⟨nb, 1, none⟩ = some (.float .f64 y) ∧ w'.cell? ⟨nb, 2, none⟩ = some (.float .f64 z) :=
  ⟨h.1.cell 0, h.1.cell 1, h.2.2.1.cell 0, h.2.2.1.cell 1, h.2.2.1.cell 2⟩
end Go.Proofs.YteebbcdbkkliaaaDoor
