/- Contracts: within, apart; floats that are finite run to a value. Printed by gen_waveangles.py. -/
import Derived.Test.YtcppgbhjbmfldaaDoorWR
import Derived.Test.YtcppgbhjbmfldaaDoorYW
import Derived.Test.YtcppgbhjbmfldaaDoorZV
import Derived.Test.YtcppgbhjbmfldaaDoorZM
namespace Go.Proofs.YtcppgbhjbmfldaaDoor
open Go.RowKit Go.Fp Go.Fp.Tri Go.Rel Ieee
set_option maxRecDepth 20000
set_option maxHeartbeats 4000000 in
theorem within_c (x y : Nat) (w : World) : Calls Tryd.prog 20 #[.float .f64 x, .float .f64 y] w (ExR (.bool (fle x y && fge x (Op.negFloat .f64 y))) w) := by
  cases h1 : fle x y with
  | false =>
    have G2 : (FloatKind.f64.format.order x y == some .lt || FloatKind.f64.format.order x y == some .eq) = false := h1
    clear h1
    rw [Bool.false_and]
    go_enter Tryd.func20, Tryd.ntmps20
    go_wp2_with fail
    all_goals go_ret
    all_goals exact ⟨rfl, Ext.refl _⟩
  | true =>
    have G2 : (FloatKind.f64.format.order x y == some .lt || FloatKind.f64.format.order x y == some .eq) = true := h1
    clear h1
    rw [Bool.true_and]
    cases h2 : fge x (Op.negFloat .f64 y) with
    | false =>
      have G1 : (FloatKind.f64.format.order x (Op.negFloat .f64 y) == some .gt || FloatKind.f64.format.order x (Op.negFloat .f64 y) == some .eq) = false := h2
      clear h2
      go_enter Tryd.func20, Tryd.ntmps20
      go_wp2_with fail
      all_goals go_ret
      all_goals exact ⟨rfl, Ext.refl _⟩
    | true =>
      have G1 : (FloatKind.f64.format.order x (Op.negFloat .f64 y) == some .gt || FloatKind.f64.format.order x (Op.negFloat .f64 y) == some .eq) = true := h2
      clear h2
      go_enter Tryd.func20, Tryd.ntmps20
      go_wp2_with fail
      all_goals go_ret
      all_goals exact ⟨rfl, Ext.refl _⟩
set_option maxHeartbeats 4000000 in
theorem apart_c (p q : Int) (w : World) : Calls Tryd.prog 14 #[.int .i64 p, .int .i64 q] w (ExR (.int .i64 (if apartP p q < 0 then -apartP p q else apartP p q)) w) := by
  obtain ⟨p0, p1⟩ := norm_range p
  obtain ⟨q0, q1⟩ := norm_range q
  have HA : Hid (signP (normP p - normP q) = apartP p q) := Lib.hid rfl
  have HN := Lib.hid (fun w => normOf_c p w)
  have HM := Lib.hid (fun w => normOf_c q w)
  have HS := Lib.hid (signedAngle_c (normP p - normP q))
  rw [HA.out] at HS
  have hr : -360000000000 ≤ apartP p q ∧ apartP p q ≤ 360000000000 := by
    unfold apartP signP
    have := norm_range (normP p - normP q)
    split <;> omega
  clear HA
  generalize apartP p q = d at *
  generalize normP p = x at *
  generalize normP q = y at *
  obtain ⟨r0, r1⟩ := hr
  have tk : Hid True := trivial
  by_cases hd : d < 0
  · rw [if_pos hd]
    go_enter Tryd.func14, Tryd.ntmps14
    go_wp2_with (first
      | (go_at_call 19; clear tk; go_must (refine (HN.out _).mono ?_; rintro e w1 ⟨rfl, rfl⟩))
      | (go_at_call 19; go_must (refine (HM.out _).mono ?_; rintro e w1 ⟨rfl, rfl⟩))
      | (go_at_call 45; go_must (refine (HS.out _).mono ?_; rintro e w2 ⟨rfl, hx⟩)))
    go_ret
    exact ⟨rfl, hx⟩
  · rw [if_neg hd]
    go_enter Tryd.func14, Tryd.ntmps14
    go_wp2_with (first
      | (go_at_call 19; clear tk; go_must (refine (HN.out _).mono ?_; rintro e w1 ⟨rfl, rfl⟩))
      | (go_at_call 19; go_must (refine (HM.out _).mono ?_; rintro e w1 ⟨rfl, rfl⟩))
      | (go_at_call 45; go_must (refine (HS.out _).mono ?_; rintro e w2 ⟨rfl, hx⟩)))
    go_ret
    exact ⟨rfl, hx⟩
theorem fin_plus {x y : Nat} (hx : Fp.Fin x) (hy : Fp.Fin y) : D.add x y = some (fadd x y) := by
  obtain ⟨s, m, i, hx⟩ := hx
  obtain ⟨t, n, j, hy⟩ := hy
  have e : ∃ r, D.add x y = some r := by unfold Ieee.Format.add; rw [hx, hy]; exact ⟨_, rfl⟩
  obtain ⟨r, e⟩ := e
  unfold fadd; rw [e]; rfl
theorem plus_run {x y : Nat} (hx : Fp.Fin x) (hy : Fp.Fin y) : ∀ t w, (binOp .add t (.float .f64 x) (.float .f64 y)).run Tryd.prog w = .ok (.float .f64 (fadd x y)) w := fun t w => run_float_arith w .add t .f64 _ _ _ (fin_plus hx hy)
theorem real_fin {x : Nat} (h : Fp.Fin x) : isNan x = false := by
  obtain ⟨s, m, i, hr⟩ := h
  unfold isNan
  rw [hr]; rfl
theorem real_eq {x X : Nat} (h : can x = X) (hX : Fp.Fin X) : x = X := by
  have := can_fix (r := x) (X := X) (by rw [h, hX.can]) (real_fin hX)
  exact this
theorem fin_div {x y : Nat} (hx : Fp.Fin x) (hy : Fp.Fin y) (h0 : vl y ≠ 0) : D.div x y = some (fdiv x y) := by
  obtain ⟨s, m, i, hx⟩ := hx
  obtain ⟨t, n, j, hy⟩ := hy
  have hn : n ≠ 0 := by
    rintro rfl
    exact h0 (by rw [vl_of hy]; unfold vd; simp)
  have e : ∃ r, D.div x y = some r := by
    unfold Format.div Datum.quotient
    rw [hx, hy]
    simp [hn]
  obtain ⟨r, e⟩ := e
  unfold fdiv; rw [e]; rfl
theorem fin_minus {x y : Nat} (hx : Fp.Fin x) (hy : Fp.Fin y) : D.sub x y = some (fsub x y) := by
  obtain ⟨s, m, i, hx⟩ := hx
  obtain ⟨t, n, j, hy⟩ := hy
  have e : ∃ r, D.sub x y = some r := by unfold Ieee.Format.sub; rw [hx, hy]; exact ⟨_, rfl⟩
  obtain ⟨r, e⟩ := e
  unfold fsub; rw [e]; rfl
theorem fin_times {x y : Nat} (hx : Fp.Fin x) (hy : Fp.Fin y) : D.mul x y = some (fmul x y) := by
  obtain ⟨s, m, i, hx⟩ := hx
  obtain ⟨t, n, j, hy⟩ := hy
  have e : ∃ r, D.mul x y = some r := by unfold Ieee.Format.mul; rw [hx, hy]; exact ⟨_, rfl⟩
  obtain ⟨r, e⟩ := e
  unfold fmul; rw [e]; rfl
theorem minus_run {x y : Nat} (hx : Fp.Fin x) (hy : Fp.Fin y) : ∀ t w, (binOp .sub t (.float .f64 x) (.float .f64 y)).run Tryd.prog w = .ok (.float .f64 (fsub x y)) w := fun t w => run_float_arith w .sub t .f64 _ _ _ (fin_minus hx hy)
theorem times_run {x y : Nat} (hx : Fp.Fin x) (hy : Fp.Fin y) : ∀ t w, (binOp .mul t (.float .f64 x) (.float .f64 y)).run Tryd.prog w = .ok (.float .f64 (fmul x y)) w := fun t w => run_float_arith w .mul t .f64 _ _ _ (fin_times hx hy)
theorem over_run {x y : Nat} (hx : Fp.Fin x) (hy : Fp.Fin y) (h0 : vl y ≠ 0) : ∀ t w, (binOp .quo t (.float .f64 x) (.float .f64 y)).run Tryd.prog w = .ok (.float .f64 (fdiv x y)) w := fun t w => run_float_arith w .quo t .f64 _ _ _ (fin_div hx hy h0)
theorem within_true {x y : Nat} (hx : Fp.Fin x) (hy : Fp.Fin y) (h : rabs (vl x) ≤ vl y) (w : World) : Calls Tryd.prog 20 #[.float .f64 x, .float .f64 y] w (ExR (.bool true) w) := by
  have r := wn_rabs (vl x)
  obtain ⟨fn, en⟩ := vl_neg y hy
  have a : fle x y = true := (fle_vl hx hy).2 (by have := r.2; grind)
  have b : fge x (Op.negFloat .f64 y) = true := (fge_vl hx fn).2 (by rw [en]; have := r.1; grind)
  have := within_c x y w
  rw [a, b] at this
  exact this
theorem conv_run' (w : World) {x : Nat} {n : Int} (h : floatToIntVal .f64 x .i64 = some n) : (convert 22 3 (.float .f64 x)).run Tryd.prog w = .ok (.int .i64 n) w := conv_run w h
end Go.Proofs.YtcppgbhjbmfldaaDoor
