/- The angle of a point whose sides are a little off. -/
import Derived.Test.YteebbcdbkkliaaaDoorGF
import Derived.Test.YteebbcdbkkliaaaDoorGH
import Derived.Test.YteebbcdbkkliaaaDoorZD
namespace Go.Fp.Tri
open Go.Fp Ieee
set_option maxRecDepth 20000

theorem le_of_scaled {R a b : Rat} (hR : 0 < R) (h : R * a ≤ R * b) : a ≤ b := Rat.le_of_mul_le_mul_left h hR
theorem nonneg_of_wn {R E x : Rat} (hR : 0 < R) (h : Wn x (R * E)) : 0 ≤ E := by
  have := h.nonneg
  refine le_of_scaled hR ?_
  rw [Rat.mul_zero]; exact this
/-- how far the angle is off, that is found by halves -/
theorem quad_near {t : Int} (ht : 0 ≤ t) (ht2 : t ≤ 90000000000) {u w : Nat} {R Eu Ew : Rat} (hu : Fin u) (hw : Fin w)
    (hR : 1 ≤ R) (hR2 : R ≤ 100000000) (eu : Wn (vl u - R * cI t) (R * Eu)) (ew : Wn (vl w - R * sI t) (R * Ew)) (hEu : Eu ≤ 1 / 2) (hEw : Ew ≤ 1 / 2) :
    0 ≤ quad u w ∧ quad u w ≤ 90000000000 ∧ 58 / 100 * (((quad u w : Rat) - t) * rho) ≤ 1001 / 1000 * (Eu + Ew) + 13 / 10000000000000 ∧
      -(1001 / 1000 * (Eu + Ew) + 13 / 10000000000000) ≤ 58 / 100 * (((quad u w : Rat) + 1 - t) * rho) := by
  obtain ⟨q0, q1, q2, q3⟩ := quad_ok u w
  have hRp : 0 < R := by grind
  have n1 := nonneg_of_wn hRp eu
  have n2 := nonneg_of_wn hRp ew
  have K0 : 0 ≤ 1001 / 1000 * (Eu + Ew) + 13 / 10000000000000 := by grind
  have r0 := rho_pos
  have tt : (0 : Rat) ≤ (t : Rat) := castle ht
  have tt2 : (t : Rat) ≤ 90000000000 := castle ht2
  have top : (90000000000 : Rat) * rho ≤ 1571 / 1000 := by unfold rho; grind
  have T := fun (m : Int) (h0 : 0 ≤ m) (h1 : m ≤ 90000000000) (G : Bool) (hG : fle (fmul (sinP m) u) (fmul (cosP m) w) = G) => side_true h0 h1 ht ht2 hu hw hR hR2 eu ew hEu hEw G hG
  generalize quad u w = q at *
  generalize 1001 / 1000 * (Eu + Ew) + 13 / 10000000000000 = K at *
  have qq : (0 : Rat) ≤ (q : Rat) := castle q0
  have qq2 : (q : Rat) ≤ 90000000000 := castle q1
  refine ⟨q0, q1, ?_, ?_⟩
  · rcases Int.lt_or_le q t with h | h
    · have h' : (q : Rat) ≤ (t : Rat) := castle (Int.le_of_lt h)
      have := Rat.mul_nonneg (show (0 : Rat) ≤ (t : Rat) - q by grind) (Rat.le_of_lt r0)
      grind
    · rcases q2 with q2 | q2
      · have h' : (t : Rat) ≤ (q : Rat) := castle h
        have hz0 := Rat.mul_nonneg (show (0 : Rat) ≤ (q : Rat) - t by grind) (Rat.le_of_lt r0)
        have hz1 : ((q : Rat) - t) * rho ≤ 1571 / 1000 := Rat.le_trans (Rat.mul_le_mul_of_nonneg_right (show (q : Rat) - t ≤ 90000000000 by grind) (Rat.le_of_lt r0)) top
        exact Rat.le_trans (S_low hz0 hz1) ((T q q0 q1 true q2).1 rfl)
      · have h1 : q = t := by omega
        subst h1
        rw [show ((q : Rat) - q) * rho = 0 by grind]
        grind
  · rcases Int.lt_or_le q 90000000000 with hq | hq
    · rcases q3 with q3 | q3
      · have h2 := (T (q + 1) (by omega) (by omega) false q3).2 rfl
        have e1 : (((q + 1 : Int) : Rat) - t) = (q : Rat) + 1 - t := by push_cast; rfl
        rw [e1] at h2
        rcases Int.lt_or_le q t with h | h
        · have h' : ((q + 1 : Int) : Rat) ≤ (t : Rat) := castle (by omega)
          have h'' : (q : Rat) + 1 ≤ t := by have e : ((q + 1 : Int) : Rat) = (q : Rat) + 1 := by push_cast; rfl
                                             rw [e] at h'; exact h'
          have hz0 := Rat.mul_nonneg (show (0 : Rat) ≤ t - ((q : Rat) + 1) by grind) (Rat.le_of_lt r0)
          have hz1 : ((t : Rat) - ((q : Rat) + 1)) * rho ≤ 1571 / 1000 := Rat.le_trans (Rat.mul_le_mul_of_nonneg_right (show (t : Rat) - ((q : Rat) + 1) ≤ 90000000000 by grind) (Rat.le_of_lt r0)) top
          have h3 := S_low hz0 hz1
          have e2 : ((q : Rat) + 1 - t) * rho = -(((t : Rat) - ((q : Rat) + 1)) * rho) := by grind
          rw [e2, S_odd] at h2
          rw [e2]
          grind
        · have h' : (t : Rat) ≤ (q : Rat) := castle h
          have := Rat.mul_nonneg (show (0 : Rat) ≤ (q : Rat) + 1 - t by grind) (Rat.le_of_lt r0)
          grind
      · omega
    · have h' : (90000000000 : Rat) ≤ (q : Rat) := castle hq
      have := Rat.mul_nonneg (show (0 : Rat) ≤ (q : Rat) + 1 - t by grind) (Rat.le_of_lt r0)
      grind
/-! sizes, and the angle with its sign -/
theorem abs_read {x : Nat} {s : Bool} {m : Nat} {i : Int} (h : D.read x = .number s m i) : D.read (absW x) = .number false m i := by
  obtain ⟨h1, h2⟩ := abs_parts x
  unfold Format.read at *
  simp only [D_sign, D_inf, D_bin, D_least] at *
  rw [h1, h2]
  split at h
  · rename_i hc
    rw [if_pos hc]
    cases h; rfl
  · rename_i hc
    rw [if_neg hc]
    split at h
    · rename_i hc2
      rw [if_pos hc2]
      cases h; rfl
    · split at h <;> cases h
theorem vl_abs {x : Nat} (hx : Fin x) : Fin (absW x) ∧ vl (absW x) = rabs (vl x) := by
  obtain ⟨s, m, i, h⟩ := hx
  have h' := abs_read h
  refine ⟨⟨_, _, _, h'⟩, ?_⟩
  rw [vl_of h, vl_of h', vd_sign s]
  have := vd_nonneg m i
  unfold rabs
  cases s
  · simp only [Bool.false_eq_true, if_false]
    split <;> grind
  · simp only [if_true]
    split <;> grind
theorem v_0 : Fin 0 ∧ vl 0 = 0 := by
  have h : D.read 0 = .number false 0 (-1074) := by decide +kernel
  refine ⟨⟨_, _, _, h⟩, ?_⟩
  rw [vl_of h]
  unfold vd
  simp
theorem fin_fin {x : Nat} (hx : Fin x) : finP x = true := by
  obtain ⟨s, m, i, h⟩ := hx
  have e : D.sub x x = some 0 := by
    have h2 : (Datum.number s m i).sum (Datum.number s m i).opposite = some (.number false 0 i) := by
      cases s <;> simp [Datum.sum, Datum.opposite, signed] <;> omega
    unfold Format.sub
    rw [h, h2]
    show some (D.nearest false 0 i) = some 0
    unfold Format.nearest
    simp [Format.word]
  have e2 : fsub x x = 0 := by unfold fsub; rw [e]; rfl
  unfold finP
  rw [e2]
  decide +kernel
theorem near_abs {x b E : Rat} (hb : 0 ≤ b) (h : Wn (x - b) E ∨ Wn (-x - b) E) : Wn (rabs x - b) E := by
  unfold rabs
  rcases h with ⟨h1, h2⟩ | ⟨h1, h2⟩ <;> split <;> constructor <;> grind
theorem quad_range (u w : Nat) : 0 ≤ quad u w ∧ quad u w ≤ 90000000000 := ⟨(quad_ok u w).1, (quad_ok u w).2.1⟩
theorem fge_0 {x : Nat} (hx : Fin x) : fge x 0 = true ↔ 0 ≤ vl x := by rw [fge_vl hx v_0.1, v_0.2]
theorem flt_0 {x : Nat} (hx : Fin x) : flt x 0 = true ↔ vl x < 0 := by
  unfold flt
  simp only [beq_iff_eq]
  rw [order_lt hx v_0.1, v_0.2]
theorem feq_0 {x : Nat} (hx : Fin x) : feq x 0 = true ↔ vl x = 0 := by
  unfold feq
  simp only [beq_iff_eq]
  rw [order_eq hx v_0.1, v_0.2]
/-- the angle of a point, by the signs of its sides -/
theorem angle_pp {y x : Nat} (hy : Fin y) (hx : Fin x) (h : vl x ≠ 0 ∨ vl y ≠ 0) (h1 : 0 ≤ vl x) (h2 : 0 ≤ vl y) : (angleP y x).1 = quad (absW x) (absW y) := by
  have e : (!finP x || !finP y || (feq x 0 && feq y 0)) = false := by
    rw [fin_fin hx, fin_fin hy]
    cases h3 : feq x 0 <;> cases h4 : feq y 0 <;> first | rfl | skip
    have a := (feq_0 hx).1 h3
    have b := (feq_0 hy).1 h4
    rcases h with h | h <;> contradiction
  unfold angleP
  rw [e]
  have a := (fge_0 hx).2 h1
  have b := (fge_0 hy).2 h2
  simp [a, b]
theorem angle_np {y x : Nat} (hy : Fin y) (hx : Fin x) (h1 : vl x < 0) (h2 : 0 ≤ vl y) : (angleP y x).1 = 180000000000 - quad (absW x) (absW y) := by
  have e : (!finP x || !finP y || (feq x 0 && feq y 0)) = false := by
    rw [fin_fin hx, fin_fin hy]
    cases h3 : feq x 0 <;> cases h4 : feq y 0 <;> first | rfl | skip
    have a := (feq_0 hx).1 h3
    grind
  unfold angleP
  rw [e]
  have a : fge x 0 = false := by
    cases h3 : fge x 0
    · rfl
    · have := (fge_0 hx).1 h3; grind
  have b := (fge_0 hy).2 h2
  simp [a, b]
theorem angle_nn {y x : Nat} (hy : Fin y) (hx : Fin x) (h1 : vl x < 0) (h2 : vl y < 0) : (angleP y x).1 = 180000000000 + quad (absW x) (absW y) := by
  have e : (!finP x || !finP y || (feq x 0 && feq y 0)) = false := by
    rw [fin_fin hx, fin_fin hy]
    cases h3 : feq x 0 <;> cases h4 : feq y 0 <;> first | rfl | skip
    have a := (feq_0 hx).1 h3
    grind
  unfold angleP
  rw [e]
  have a : fge x 0 = false := by
    cases h3 : fge x 0
    · rfl
    · have := (fge_0 hx).1 h3; grind
  have b : fge y 0 = false := by
    cases h3 : fge y 0
    · rfl
    · have := (fge_0 hy).1 h3; grind
  have c := (flt_0 hx).2 h1
  simp [a, b, c]
theorem angle_pn {y x : Nat} (hy : Fin y) (hx : Fin x) (h1 : 0 ≤ vl x) (h2 : vl y < 0) : (angleP y x).1 = normP (360000000000 - quad (absW x) (absW y)) := by
  have e : (!finP x || !finP y || (feq x 0 && feq y 0)) = false := by
    rw [fin_fin hx, fin_fin hy]
    cases h3 : feq x 0 <;> cases h4 : feq y 0 <;> first | rfl | skip
    have a := (feq_0 hy).1 h4
    grind
  unfold angleP
  rw [e]
  have b : fge y 0 = false := by
    cases h3 : fge y 0
    · rfl
    · have := (fge_0 hy).1 h3; grind
  have c : flt x 0 = false := by
    cases h3 : flt x 0
    · rfl
    · have := (flt_0 hx).1 h3; grind
  simp [b, c]
end Go.Fp.Tri
namespace Go.Proofs.YteebbcdbkkliaaaDoor
open Go.Fp Go.Fp.Tri
theorem angS_pp {y x : Nat} (hy : Fp.Fin y) (hx : Fp.Fin x) (h1 : 0 < vl x) (h2 : 0 ≤ vl y) : angS y x = quad (absW x) (absW y) := by
  obtain ⟨q0, q1⟩ := quad_range (absW x) (absW y)
  unfold angS
  rw [angle_pp hy hx (.inl (by grind)) (by grind) h2]
  unfold signP normP
  split <;> omega
theorem angS_pn {y x : Nat} (hy : Fp.Fin y) (hx : Fp.Fin x) (h1 : 0 < vl x) (h2 : vl y < 0) : angS y x = -quad (absW x) (absW y) := by
  obtain ⟨q0, q1⟩ := quad_range (absW x) (absW y)
  unfold angS
  rw [angle_pn hy hx (by grind) h2]
  unfold signP normP
  split <;> omega
end Go.Proofs.YteebbcdbkkliaaaDoor
