/- How much farther up the isometric latitude is a hundredth of a degree farther north. -/
import Derived.Test.YtcppgbhjbmfldaaDoorZX
namespace Go.Fp.Tri
open Go.Fp
set_option maxRecDepth 20000
/-- a hundredth of a degree -/
def gS2 : Rat := ((10000000 : Int) : Rat) * rho
theorem gS2_bd : 17453292 / 100000000000 ≤ gS2 ∧ gS2 ≤ 17453293 / 100000000000 := by
  have : 17453292 / 100000000000 ≤ gS2 ∧ gS2 ≤ 17453293 / 100000000000 := by decide +kernel
  exact this
theorem gS2_sc : Wn (S gS2 - gS2) (9 / 10000000000000) ∧ Wn (C gS2 - 1 + gS2 * gS2 / 2) (1 / 10000000000000000) := by
  constructor
  · have : -(9 / 10000000000000 : Rat) ≤ S gS2 - gS2 ∧ S gS2 - gS2 ≤ 9 / 10000000000000 := by decide +kernel
    exact this
  · have : -(1 / 10000000000000000 : Rat) ≤ C gS2 - 1 + gS2 * gS2 / 2 ∧ C gS2 - 1 + gS2 * gS2 / 2 ≤ 1 / 10000000000000000 := by decide +kernel
    exact this
theorem C_20 : C (((-20000000000 : Int) : Rat) * rho) ≤ 939693 / 1000000 := by decide +kernel
theorem sI_in70 {m : Int} (h0 : 0 ≤ m) (h1 : m ≤ 70000000000) : sI m ≤ 939693 / 1000000 := by
  rcases Int.lt_or_le m 45000000000 with h | h
  · rw [sI_lo h0 h]
    have := (wn_S (arg_bd (r := m) (by omega) (by omega))).2
    grind
  · rw [sI_hi h]
    have r0 := rho_pos
    have a := castle (show m - 90000000000 ≤ -20000000000 by omega)
    have k := Rat.mul_le_mul_of_nonneg_right a (Rat.le_of_lt r0)
    have k2 : ((-20000000000 : Int) : Rat) * rho ≤ 0 := by unfold rho; decide +kernel
    have g := C_grow (arg_bd (r := m - 90000000000) (by omega) (by omega)) k k2
    have q : 0 ≤ (((-20000000000 : Int) : Rat) * rho - ((m - 90000000000 : Int) : Rat) * rho) * (-(((m - 90000000000 : Int) : Rat) * rho) - ((-20000000000 : Int) : Rat) * rho) := Rat.mul_nonneg (by grind) (by grind)
    have := C_20
    grind
theorem sin_in70 {m : Int} (h0 : -70000000000 ≤ m) (h1 : m ≤ 70000000000) : Wn (vl (sinP m)) (939694 / 1000000) := by
  obtain ⟨⟨f, e⟩, _⟩ := trig_lat (a := m) (by omega) (by omega)
  obtain ⟨e1, e2⟩ := e
  rcases Int.lt_or_le m 0 with h | h
  · have a := sI_in70 (m := -m) (by omega) (by omega)
    have b := sI_nonneg (m := -m) (by omega) (by omega)
    have o := (sI_odd (m := -m) (by omega) (by omega)).1
    rw [Int.neg_neg] at o
    obtain ⟨_, _⟩ := o
    unfold tol at *
    constructor <;> grind
  · have a := sI_in70 h h1
    have b := sI_nonneg h (by omega)
    unfold tol at *
    constructor <;> grind
/-- a number whose exponential is near one is small -/
theorem EX_one' {y z : Rat} (hy : Wn y 7) (h : Wn (EX y - 1) z) (hz : z ≤ 1 / 500) : Wn y (1004 / 1000 * z + 1 / 100000000000) := by
  have z0 := h.nonneg
  obtain ⟨h1, h2⟩ := h
  rcases Rat.le_total (a := 0) (b := y) with k | k
  · have := EX_ge k
    constructor <;> grind
  · have g := EX_ge (y := -y) (by grind)
    have n := EX_neg hy
    obtain ⟨n1, n2⟩ := n
    have m := Rat.mul_le_mul_of_nonneg_right (show 1 - z ≤ EX y by grind) (show 0 ≤ EX (-y) by grind)
    generalize EX y * EX (-y) = p at *
    generalize EX (-y) = e at *
    have zz := Rat.mul_le_mul_of_nonneg_right hz z0
    have m2 : e * (1 - z) ≤ (1 + 1004 / 1000 * z + 9 / 1000000000000) * (1 - z) := by grind
    have m3 : e ≤ 1 + 1004 / 1000 * z + 9 / 1000000000000 := by
      refine le_of_scaled (R := 1 - z) (by grind) ?_
      grind
    constructor <;> grind
/-- the exponential's polynomial of a small number -/
def PEr : List Rat := [0, 0, 0, inv 3, inv 4, inv 5, inv 6, inv 7, inv 8, inv 9, inv 10, inv 11, inv 12, inv 13, inv 14]
theorem Ex_two {y : Rat} (h : Wn y (12 / 10000)) : Wn (Ex y - (1 + y + y * y / 2)) (3 / 10000000000) := by
  have b := (wn_pev PEr h).mono (show pbd PEr (12 / 10000) ≤ 3 / 10000000000 by decide +kernel)
  have e : Ex y - (1 + y + y * y / 2) = pev PEr y := by
    have i0 : inv 0 = 1 := by decide +kernel
    have i1 : inv 1 = 1 := by decide +kernel
    have i2 : inv 2 = 1 / 2 := by decide +kernel
    simp only [Ex, PE, PEr, pev, i0, i1, i2]; grind
  rw [e]; exact b
/-- the logarithm's series from the fifth power on -/
def PA4 : List Rat := [0, 0, 0, 0, 0, 2 / 5, 0, 2 / 7, 0, 2 / 9, 0, 2 / 11, 0, 2 / 13, 0, 2 / 15, 0, 2 / 17, 0, 2 / 19, 0, 2 / 21, 0, 2 / 23]
theorem AA_mid {a b D : Rat} (ha : Wn a (9 / 100)) (hb : Wn b (9 / 100)) (hd : Wn (b - a) D) (hD : D ≤ 2 / 100000) : Wn (AA b - AA a - 2 * (b - a) * (1 + a * a)) (D * (15 / 100000)) := by
  have l := (wn_lip PA4 hb ha hd).mono (Rat.mul_le_mul_of_nonneg_left (show plip PA4 (9 / 100) ≤ 1345 / 10000000 by decide +kernel) hd.nonneg)
  have e : AA b - AA a - 2 * (b - a) * (1 + a * a) = (pev PA4 b - pev PA4 a) + 2 / 3 * ((b - a) * ((b - a) * (b + 2 * a))) := by
    simp only [AA, PA, PA4, pev]; grind
  rw [e]
  have w := wn_mul hd (wn_mul (hd.mono hD) (wn_add hb (wn_mul (show Wn (2 : Rat) 2 from ⟨by grind, by grind⟩) ha)))
  have w2 := wn_mul (show Wn (2 / 3 : Rat) (2 / 3) from ⟨by grind, by grind⟩) w
  have D0 := hd.nonneg
  exact (wn_add l w2).mono (by grind)
set_option maxHeartbeats 4000000 in
/-- in rational numbers -/
theorem iso_core {s κ g D M q Y x E w : Rat} (k0 : 34199 / 100000 ≤ κ) (k1 : κ ≤ 10001 / 10000) (bs : Wn s (939694 / 1000000)) (hn : Wn (κ * κ + s * s - 1) (1 / 10000000000000)) (g0 : 17453292 / 100000000000 ≤ g) (g1 : g ≤ 17453293 / 100000000000)
    (hD : Wn (D - (κ * g - s * g * g / 2)) (4 / 1000000000000)) (hM : Wn (M - (κ * κ - s * D)) (2 / 10000000000000)) (hq : Wn q (4 / 10000000000)) (hY : Y * M = D + q) (E0 : 0 ≤ E) (E1 : E ≤ 801 / 100000) (hw : w = 1 - E * (s * s))
    (hx : Wn (x - (Y - E * D * (1 + E * (s * s)))) (8 / 100000 * (E * D) + 5 / 100000000000000)) : Wn (x * w * κ - g * (1 - E)) (26 / 100000 * (g * (1 - E))) ∧ 0 < D ∧ Wn (g - x * κ) (9 / 1000 * g) := by
  have gp : 0 < g := by grind
  have kp : 0 < κ := by grind
  have kg : 0 < κ * g := Rat.mul_pos kp gp
  have kg1 : 5968 / 100000000 ≤ κ * g := by
    have := mul_mono (show (0 : Rat) ≤ 34199 / 100000 by grind) k0 (show (0 : Rat) ≤ 17453292 / 100000000000 by grind) g0
    grind
  -- t
  obtain ⟨t, ht⟩ : ∃ t, s * g = t * κ := ⟨s * g / κ, (div_mul_c (ne_of_pos kp) rfl).symm⟩
  have bt : Wn t (4796 / 10000000) := by
    refine wn_scaled kp ?_
    rw [show κ * t = s * g by grind]
    refine (wn_mul bs (wn_pos (Rat.le_of_lt gp))).mono ?_
    have := mul_mono (show (0 : Rat) ≤ 939694 / 1000000 by grind) Rat.le_refl (Rat.le_of_lt gp) g1
    grind
  obtain ⟨a, ha⟩ : ∃ a, D = κ * g * a := ⟨D / (κ * g), by have := div_mul_c (a := D) (ne_of_pos kg) rfl; grind⟩
  have ba : Wn (a - (1 - t / 2)) (7 / 100000000) := by
    refine wn_scaled kg ?_
    have e : κ * g * (a - (1 - t / 2)) = D - (κ * g - s * g * g / 2) := by
      have : s * g * g = t * κ * g := by rw [ht]
      rw [ha, this]; grind
    rw [e]
    exact hD.mono (by grind)
  have kk : 0 < κ * κ := Rat.mul_pos kp kp
  have kk1 : 11695 / 100000 ≤ κ * κ := by
    have := mul_mono (show (0 : Rat) ≤ 34199 / 100000 by grind) k0 (show (0 : Rat) ≤ 34199 / 100000 by grind) k0
    grind
  have kk2 : κ * κ ≤ 1 + 1 / 10000000000000 := by
    have := rsq_nonneg s
    have := hn.2
    grind
  obtain ⟨b, hb⟩ : ∃ b, M = κ * κ * b := ⟨M / (κ * κ), by have := div_mul_c (a := M) (ne_of_pos kk) rfl; grind⟩
  have bb : Wn (b - (1 - t * a)) (2 / 1000000000000) := by
    refine wn_scaled kk ?_
    have e : κ * κ * (b - (1 - t * a)) = M - (κ * κ - s * D) := by
      have : s * D = t * κ * κ * a := by rw [ha]; rw [show s * (κ * g * a) = s * g * κ * a by grind, ht]
      rw [hb, this]; grind
    rw [e]
    exact hM.mono (by grind)
  obtain ⟨q', hq'⟩ : ∃ q', q = κ * g * q' := ⟨q / (κ * g), by have := div_mul_c (a := q) (ne_of_pos kg) rfl; grind⟩
  have bq : Wn q' (68 / 10000000) := by
    refine wn_scaled kg ?_
    rw [← hq']
    exact hq.mono (by grind)
  have a1 : Wn (a - 1) (2399 / 10000000) := by obtain ⟨_, _⟩ := ba; obtain ⟨_, _⟩ := bt; constructor <;> grind
  have ta := wn_mul bt a1
  have b1 : Wn (b - 1) (4799 / 10000000) := by obtain ⟨_, _⟩ := bb; obtain ⟨_, _⟩ := bt; obtain ⟨_, _⟩ := ta; constructor <;> grind
  -- r
  obtain ⟨r, hr⟩ : ∃ r, Y * κ = g * r := ⟨Y * κ / g, by have := div_mul_c (a := Y * κ) (ne_of_pos gp) rfl; grind⟩
  have rb : r * b = a + q' := by
    have e1 : Y * M * κ = (D + q) * κ := by rw [hY]
    rw [hb, ha, hq'] at e1
    have e2 : (κ * κ * g) * (r * b) = (κ * κ * g) * (a + q') := by
      have : Y * (κ * κ * b) * κ = (Y * κ) * (κ * κ * b) := by grind
      rw [this, hr] at e1
      grind
    have pk : 0 < κ * κ * g := Rat.mul_pos kk gp
    have l1 := le_of_scaled pk (show κ * κ * g * (r * b) ≤ κ * κ * g * (a + q') by rw [e2]; exact Rat.le_refl)
    have l2 := le_of_scaled pk (show κ * κ * g * (a + q') ≤ κ * κ * g * (r * b) by rw [e2]; exact Rat.le_refl)
    grind
  have b0 : 0 < b := by have := b1.1; grind
  have br : Wn (r - 1) (2475 / 10000000) := by
    refine wn_scaled b0 ?_
    have e : b * (r - 1) = a + q' - b := by grind
    rw [e]
    have bw : Wn (t / 2) (2398 / 10000000) := by obtain ⟨_, _⟩ := bt; constructor <;> grind
    refine (wn_add (wn_add (wn_sub ba bb) (wn_add bw ta)) bq).of (by grind) ?_
    have := b1.1
    grind
  -- put together
  have Dp : 0 < D := by rw [ha]; exact Rat.mul_pos kg (by have := a1.1; grind)
  have Es : 0 ≤ E * (s * s) := Rat.mul_nonneg E0 (rsq_nonneg s)
  have ss : s * s ≤ 884 / 1000 := by
    have := (wn_mul bs bs).2
    grind
  have Es1 : E * (s * s) ≤ 709 / 100000 := by
    have := mul_mono E0 E1 (rsq_nonneg s) ss
    grind
  obtain ⟨ξ, hξ⟩ : ∃ ξ, x * κ = g * ξ := ⟨x * κ / g, by have := div_mul_c (a := x * κ) (ne_of_pos gp) rfl; grind⟩
  have Ek0 : 0 ≤ E * (κ * κ) := Rat.mul_nonneg E0 (Rat.le_of_lt kk)
  have Ek1 : E * (κ * κ) ≤ 8011 / 1000000 := by
    have := mul_mono E0 E1 (Rat.le_of_lt kk) kk2
    grind
  have bξ : Wn (ξ - (r - E * (κ * κ) * a * (1 + E * (s * s)))) (1 / 1000000) := by
    refine wn_scaled gp ?_
    have e : g * (ξ - (r - E * (κ * κ) * a * (1 + E * (s * s)))) = (x - (Y - E * D * (1 + E * (s * s)))) * κ := by
      have : (x - (Y - E * D * (1 + E * (s * s)))) * κ = x * κ - Y * κ + E * D * (1 + E * (s * s)) * κ := by grind
      rw [this, hξ, hr, ha]; grind
    rw [e]
    refine (wn_mul hx (wn_pos (Rat.le_of_lt kp))).mono ?_
    have e2 : E * D * κ = E * (κ * κ) * (g * a) := by rw [ha]; grind
    have ga : 0 ≤ g * a := Rat.mul_nonneg (Rat.le_of_lt gp) (by have := a1.1; grind)
    have ga1 : g * a ≤ g * (1001 / 1000) := Rat.mul_le_mul_of_nonneg_left (by have := a1.2; grind) (Rat.le_of_lt gp)
    have m := mul_mono Ek0 Ek1 ga ga1
    have e3 : (8 / 100000 * (E * D) + 5 / 100000000000000) * κ = 8 / 100000 * (E * D * κ) + 5 / 100000000000000 * κ := by grind
    rw [e3, e2]
    grind
  -- the bracket
  obtain ⟨W, hW⟩ : ∃ W, W = a * ((1 + E * (s * s)) * w) := ⟨_, rfl⟩
  have EE : 0 ≤ E * (s * s) * (E * (s * s)) ∧ E * (s * s) * (E * (s * s)) ≤ 51 / 1000000 := by
    have := mul_mono Es Es1 Es Es1
    exact ⟨Rat.mul_nonneg Es Es, by grind⟩
  have bW : Wn (1 - W) (3 / 10000) := by
    have e : 1 - W = (1 - a) + a * (E * (s * s) * (E * (s * s))) := by rw [hW, hw]; grind
    rw [e]
    have m := wn_mul (show Wn a (1001 / 1000) from by obtain ⟨_, _⟩ := a1; constructor <;> grind) (show Wn (E * (s * s) * (E * (s * s))) (51 / 1000000) from ⟨by have := EE.1; grind, EE.2⟩)
    exact (wn_sub m a1).of (by grind) (by grind)
  have bw : Wn w 1 := by rw [hw]; constructor <;> grind
  have br2 := wn_mul br bw
  have m1 := wn_mul (show Wn (E * (κ * κ)) (8011 / 1000000) from ⟨by grind, Ek1⟩) bW
  have m2 := wn_mul bξ bw
  have m3 := wn_mul (show Wn E (801 / 100000) from ⟨by grind, E1⟩) hn
  have fin : Wn (ξ * w - (1 - E)) (2525 / 10000000) := by
    refine (wn_add (wn_add m2 br2) (wn_sub m1 m3)).of ?_ (by grind)
    have e : (E * (κ * κ)) * (1 - W) = E * (κ * κ) - E * (κ * κ) * a * (1 + E * (s * s)) * w := by rw [hW]; grind
    rw [e]
    have e2 : w = 1 - E * (s * s) := hw
    have e3 : E * (κ * κ + s * s - 1) = E * (κ * κ) + E * (s * s) - E := by grind
    rw [e3]
    have e4 : (ξ - (r - E * (κ * κ) * a * (1 + E * (s * s)))) * w = ξ * w - r * w + E * (κ * κ) * a * (1 + E * (s * s)) * w := by grind
    rw [e4]
    have e5 : (r - 1) * w = r * w - w := by grind
    rw [e5]
    generalize E * (κ * κ) * a * (1 + E * (s * s)) * w = z1
    generalize r * w = z2
    generalize ξ * w = z3
    rw [hw]
    grind
  refine ⟨?_, Dp, ?_⟩
  · have e : x * w * κ - g * (1 - E) = g * (ξ * w - (1 - E)) := by
      have : x * w * κ = x * κ * w := by grind
      rw [this, hξ]; grind
    rw [e]
    refine (wn_mul (wn_pos (Rat.le_of_lt gp)) fin).mono ?_
    have := Rat.mul_le_mul_of_nonneg_left E1 (Rat.le_of_lt gp)
    grind
  · have e : g - x * κ = g * (1 - ξ) := by rw [hξ]; grind
    rw [e]
    have b2 : Wn (1 - ξ) (9 / 1000) := by
      have m4 := wn_mul (show Wn (E * (κ * κ)) (8011 / 1000000) from ⟨by grind, Ek1⟩) (show Wn (a * (1 + E * (s * s))) (1008 / 1000) from by
        have := mul_mono (show 0 ≤ a by have := a1.1; grind) (show a ≤ 1000240 / 1000000 by have := a1.2; grind) (show 0 ≤ 1 + E * (s * s) by grind) (show 1 + E * (s * s) ≤ 100709 / 100000 by grind)
        exact ⟨by have := Rat.mul_nonneg (show 0 ≤ a by have := a1.1; grind) (show 0 ≤ 1 + E * (s * s) by grind); grind, by grind⟩)
      refine (wn_sub (wn_sub m4 br) bξ).of (by grind) (by grind)
    exact (wn_mul (wn_pos (Rat.le_of_lt gp)) b2).mono (by grind)
end Go.Fp.Tri

/- How much farther up the isometric latitude is a hundredth of a degree farther north: the floats. -/
namespace Go.Fp.Tri
open Go.Fp
set_option maxRecDepth 20000
theorem ln_core {y D M : Rat} (hy : Wn y 7) (h : Wn (EX y * (M - D) - (M + D)) (24 / 100000000000 * (M + D))) (D0 : 0 < D) (D1 : D ≤ 176 / 1000000) (D2 : D ≤ 514 / 1000000 * M) (M1 : M ≤ 101 / 100) : Wn (y / 2 * M - D) (4 / 10000000000) ∧ Wn y (12 / 10000) := by
  have Mp : 0 < M := by grind
  have MD : 0 < M - D := by grind
  have one : Wn (EX y - 1) (1030 / 1000000) := by
    refine wn_scaled MD ?_
    obtain ⟨h1, h2⟩ := h
    have e : (M - D) * (EX y - 1) = EX y * (M - D) - (M - D) := by grind
    rw [e]
    generalize EX y * (M - D) = z at *
    constructor <;> grind
  have by1 : Wn y (12 / 10000) := (EX_one' hy one (by grind)).mono (by grind)
  refine ⟨?_, by1⟩
  have sm := EX_small (r := y) (by1.mono (by grind))
  have bs := Ex_bd4 (x := y) (by1.mono (by grind))
  have tw := Ex_two by1
  have tw2 : Wn (EX y - (1 + y + y * y / 2)) (33 / 100000000000) := (wn_add (sm.2.mono (B := 28 / 1000000000000) (by grind)) tw).of (by grind) (by grind)
  obtain ⟨Y, hY⟩ : ∃ Y, Y = y / 2 := ⟨_, rfl⟩
  have ey : y = 2 * Y := by rw [hY]; grind
  have bY : Wn Y (6 / 10000) := by rw [hY]; obtain ⟨_, _⟩ := by1; constructor <;> grind
  rw [← hY]
  obtain ⟨q, hq⟩ : ∃ q, q = Y * M - D := ⟨_, rfl⟩
  rw [← hq]
  have m := wn_mul tw2 (wn_pos (Rat.le_of_lt MD))
  have YYD := wn_mul (wn_mul bY bY) (show Wn D (176 / 1000000) from ⟨by grind, D1⟩)
  have key : Wn (q * (1 + Y)) (398 / 1000000000000) := by
    have t := (wn_add (wn_sub h m) (wn_mul (show Wn (2 : Rat) 2 from ⟨by grind, by grind⟩) YYD))
    have t2 : Wn (2 * (q * (1 + Y))) (2 * (398 / 1000000000000)) := t.of (by rw [hq, ey]; grind) (by grind)
    exact wn_scaled (by grind) t2
  have yp : 0 < 1 + Y := by have := bY.1; grind
  refine wn_scaled yp ?_
  refine (key.of (by grind) Rat.le_refl).mono ?_
  have := bY.1
  grind
theorem EX_349 : 327 / 10 ≤ EX (349 / 100) := by decide +kernel
end Go.Fp.Tri
namespace Go.Proofs.YtcppgbhjbmfldaaDoor
open Go.Fp Go.Fp.Tri
set_option maxRecDepth 20000
theorem ln_wn {s : Nat} (fs : Fp.Fin s) (bs : Wn (vl s) (9399 / 10000)) : Wn (vl (lnP (ratW s))) (349 / 100) := by
  obtain ⟨fr, r1, r2, r3⟩ := rat_84 fs (bs.mono (by grind))
  obtain ⟨l1, l2, l3⟩ := ln_EX fr (by grind) (by grind)
  have n := EX_neg l2
  have g := EX_349
  have x0 := EX_pos l2
  have y0 := EX_pos (wn_negy l2)
  obtain ⟨b1, b2⟩ := bs
  obtain ⟨w1, w2⟩ := r3
  obtain ⟨_, e1, e2⟩ := l3
  have c : Wn (349 / 100 : Rat) 7 := ⟨by grind, by grind⟩
  have d0 : 0 < 1 - vl s := by grind
  have up : vl (ratW s) ≤ 323 / 10 := by
    refine le_of_scaled d0 ?_
    rw [show (1 - vl s) * vl (ratW s) = vl (ratW s) * (1 - vl s) by grind]
    grind
  have lo : 1 / 323 * 10 ≤ vl (ratW s) := by
    refine le_of_scaled d0 ?_
    rw [show (1 - vl s) * vl (ratW s) = vl (ratW s) * (1 - vl s) by grind]
    grind
  constructor
  · rcases Rat.le_total (a := -(349 / 100)) (b := vl (lnP (ratW s))) with k | k
    · exact k
    · exfalso
      have m := EX_mono c (wn_negy l2) (by grind) (by have := l2.1; grind)
      have lo2 : 1 / 323 * 10 * (1 - 1 / 1000000000) ≤ EX (vl (lnP (ratW s))) := by grind
      have x := Rat.mul_le_mul_of_nonneg_right lo2 (Rat.le_of_lt y0)
      obtain ⟨n1, n2⟩ := n
      generalize EX (vl (lnP (ratW s))) * EX (-vl (lnP (ratW s))) = z at *
      grind
  · rcases Rat.le_total (a := vl (lnP (ratW s))) (b := 349 / 100) with k | k
    · exact k
    · exfalso
      have m := EX_mono c l2 (by grind) (by have := l2.2; grind)
      grind
set_option maxHeartbeats 4000000 in
/-- what is to be known of a latitude up to 70 degrees and of the one a hundredth of a degree north of it -/
theorem iso_hundredth {e : Nat} (h : EccOk e) (hE : vl e * vl e ≤ 801 / 100000) {lat : Int} (h0 : -70000000000 ≤ lat) (h1 : lat ≤ 70000000000) :
    34199 / 100000 ≤ vl (cosP lat) ∧ vl (cosP lat) ≤ 10001 / 10000 ∧ Wn (vl (sinP lat)) (939694 / 1000000) ∧ Wn (vl (cosP lat) * vl (cosP lat) + vl (sinP lat) * vl (sinP lat) - 1) (1 / 10000000000000) ∧
    Wn ((vl (isoW e (sinP (lat + 10000000))) - vl (isoW e (sinP lat))) * (1 - vl e * vl e * (vl (sinP lat) * vl (sinP lat))) * vl (cosP lat) - gS2 * (1 - vl e * vl e)) (26 / 100000 * (gS2 * (1 - vl e * vl e))) ∧
    Wn (gS2 - (vl (isoW e (sinP (lat + 10000000))) - vl (isoW e (sinP lat))) * vl (cosP lat)) (9 / 1000 * gS2) ∧ Wn (vl (sinP (lat + 10000000))) (9399 / 10000) := by
  obtain ⟨fc, c0, c1, hn⟩ := cos_84 (m := lat) (by omega) (by omega)
  have bs := sin_in70 h0 h1
  obtain ⟨g0, g1⟩ := gS2_bd
  obtain ⟨sg, cg⟩ := gS2_sc
  have k0 : 34199 / 100000 ≤ vl (cosP lat) := by
    refine le_of_sq (by grind) ?_
    have := (wn_mul bs bs).2
    have := hn.1
    grind
  obtain ⟨⟨_, n1⟩, ⟨fs, n2⟩⟩ := cis_near lat
  obtain ⟨_, ⟨fs1, n3⟩⟩ := cis_near (lat + 10000000)
  have a1 := (cis_add lat 10000000).im
  rw [cis_small (a := 10000000) (by omega) (by omega)] at a1
  change Wn ((cis (lat + 10000000)).im - ((cis lat).re * S gS2 + (cis lat).im * C gS2)) _ at a1
  have bC := (cis_bd lat).re
  have bS := (cis_bd lat).im
  have bk : Wn (vl (cosP lat)) (10001 / 10000) := ⟨by grind, c1⟩
  have bgg : Wn (gS2 * gS2 / 2) (2 / 100000000) := by
    have := mul_mono (show 0 ≤ gS2 by grind) g1 (show 0 ≤ gS2 by grind) g1
    have := rsq_nonneg gS2
    constructor <;> grind
  have bg : Wn gS2 (2 / 10000) := ⟨by grind, by grind⟩
  have hD : Wn (vl (sinP (lat + 10000000)) - vl (sinP lat) - (vl (cosP lat) * gS2 - vl (sinP lat) * gS2 * gS2 / 2)) (4 / 1000000000000) := by
    have m1 := wn_mul bC sg
    have m2 := wn_mul bS cg
    have m3 := wn_mul n1 bg
    have m4 := wn_mul n2 bgg
    have t := wn_add (wn_add (wn_sub n3 n2) a1) (wn_add (wn_add m1 m2) (wn_sub m4 m3))
    refine t.of ?_ (by unfold tol; grind)
    grind
  have bs1 : Wn (vl (sinP (lat + 10000000))) (9399 / 10000) := by
    have m5 := wn_mul bk bg
    have m6 := wn_mul bs bgg
    refine (wn_add (wn_add hD bs) (wn_sub m5 m6)).of (by grind) (by grind)
  obtain ⟨fi0, q0, _, l0, lx0⟩ := iso_by h fs (bs.mono (by grind))
  obtain ⟨fi1, q1, _, l1, lx1⟩ := iso_by h fs1 (bs1.mono (by grind))
  obtain ⟨_, _, _, rt0⟩ := rat_84 fs (bs.mono (by grind))
  obtain ⟨_, _, _, rt1⟩ := rat_84 fs1 (bs1.mono (by grind))
  have w0 := ln_wn fs (bs.mono (by grind))
  have w1 := ln_wn fs1 (bs1.mono (by grind))
  have e0 := h.e0
  have be : Wn (vl e) (895 / 10000) := ⟨by grind, le_of_sq (by grind) (by grind)⟩
  generalize vl (sinP (lat + 10000000)) = s1 at *
  generalize vl (sinP lat) = s at *
  generalize vl (cosP lat) = κ at *
  generalize vl (isoW e (sinP (lat + 10000000))) = i1 at *
  generalize vl (isoW e (sinP lat)) = i0 at *
  generalize vl (lnP (ratW (sinP (lat + 10000000)))) = L1 at *
  generalize vl (lnP (ratW (sinP lat))) = L0 at *
  generalize vl (ratW (sinP (lat + 10000000))) = r1 at *
  generalize vl (ratW (sinP lat)) = r0 at *
  obtain ⟨b1, b2⟩ := bs
  obtain ⟨b3, b4⟩ := bs1
  have s0 : 0 < 1 - s := by grind
  have s0' : 0 < 1 + s := by grind
  have s2 : 0 < 1 - s1 := by grind
  have s2' : 0 < 1 + s1 := by grind
  obtain ⟨D, hDe⟩ : ∃ D, D = s1 - s := ⟨_, rfl⟩
  obtain ⟨M, hMe⟩ : ∃ M, M = 1 - s * s1 := ⟨_, rfl⟩
  rw [← hDe] at hD
  -- the logarithms
  have key : Wn (EX (L1 - L0) * (M - D) - (M + D)) (24 / 100000000000 * (M + D)) := by
    have ea := EX_add (a := L1 - L0) (b := L0) ((wn_sub w1 w0).mono (by grind)) (w0.mono (by grind)) (by rw [show L1 - L0 + L0 = L1 by grind]; exact w1.mono (by grind))
    rw [show L1 - L0 + L0 = L1 by grind] at ea
    have yp := EX_pos ((wn_sub w1 w0).mono (show (349 / 100 + 349 / 100 : Rat) ≤ 7 by grind))
    have c1 := ea.trans lx1 (by grind)
    have c2 := (Rn.refl yp).mul (lx0.symm (by grind)) (by grind)
    have c3 := c2.trans c1 (by grind)
    have c4 : Rn (r0 * (1 - s)) (1 + s) (1 / 100000000000000) := ⟨s0', rt0⟩
    have c5 : Rn (r1 * (1 - s1)) (1 + s1) (1 / 100000000000000) := ⟨s2', rt1⟩
    have c6 := (c3.mul (Rn.refl s0) (by grind)).mul (Rn.refl s2) (by grind)
    have c7 := (Rn.refl yp).mul ((c4.symm (by grind)).mul (Rn.refl s2) (by grind)) (by grind)
    have c8 := (c5.mul (Rn.refl s0) (by grind))
    have c9 := (c7.trans (c6.cast (x' := EX (L1 - L0) * (r0 * (1 - s) * (1 - s1))) (y' := r1 * (1 - s1) * (1 - s)) (by grind) (by grind)) (by grind)).trans c8 (by grind)
    have e1 : (1 + s) * (1 - s1) = M - D := by rw [hMe, hDe]; grind
    have e2 : (1 + s1) * (1 - s) = M + D := by rw [hMe, hDe]; grind
    rw [e1, e2] at c9
    exact c9.2.mono (Rat.mul_le_mul_of_nonneg_right (by grind) (Rat.le_of_lt c9.1))
  have kp : 0 < κ := by grind
  have kg := Rat.mul_pos kp (show 0 < gS2 by grind)
  have sg2 : Wn (s * gS2 * gS2 / 2) (κ * gS2 * (241 / 1000000)) := by
    have m := wn_mul (wn_mul (show Wn s (939694 / 1000000) from ⟨b1, b2⟩) (wn_pos (show 0 ≤ gS2 by grind))) (show Wn (gS2 / 2) (8727 / 100000000) from ⟨by grind, by grind⟩)
    refine m.of (by grind) ?_
    have := Rat.mul_le_mul_of_nonneg_right k0 (show 0 ≤ gS2 by grind)
    grind
  have kg1 : 5968 / 100000000 ≤ κ * gS2 := by
    have := mul_mono (show (0 : Rat) ≤ 34199 / 100000 by grind) k0 (show (0 : Rat) ≤ 17453292 / 100000000000 by grind) g0
    grind
  have D0 : 0 < D := by
    obtain ⟨_, _⟩ := sg2
    obtain ⟨_, _⟩ := hD
    grind
  have D3 : D ≤ κ * gS2 * (10003 / 10000) := by
    obtain ⟨_, _⟩ := sg2
    obtain ⟨_, _⟩ := hD
    grind
  have D1 : D ≤ 176 / 1000000 := by
    have := mul_mono (Rat.le_of_lt kp) c1 (show 0 ≤ gS2 by grind) g1
    grind
  have hMk : Wn (M - (κ * κ - s * D)) (2 / 10000000000000) := by
    have t := (wn_negy hn).mono (show (1 / 10000000000000 : Rat) ≤ 2 / 10000000000000 by grind)
    exact t.of (by rw [hMe, hDe]; grind) Rat.le_refl
  have D2 : D ≤ 514 / 1000000 * M := by
    have sD := wn_mul (show Wn s (939694 / 1000000) from ⟨b1, b2⟩) (wn_pos (Rat.le_of_lt D0))
    have kk := Rat.mul_le_mul_of_nonneg_left k0 (Rat.le_of_lt kp)
    have kk2 := Rat.mul_le_mul_of_nonneg_left g1 (Rat.le_of_lt kp)
    have kk3 := Rat.mul_le_mul_of_nonneg_left k0 (Rat.le_of_lt kp)
    obtain ⟨_, _⟩ := hMk
    obtain ⟨_, _⟩ := sD
    -- M at least kappa squared less a little, D at most kappa g
    have m2 : κ * κ - 940 / 1000 * D - 1 / 1000000000000 ≤ M := by grind
    grind
  have M1 : M ≤ 101 / 100 := by
    have sD := wn_mul (show Wn s (939694 / 1000000) from ⟨b1, b2⟩) (wn_pos (Rat.le_of_lt D0))
    have := mul_mono (Rat.le_of_lt kp) c1 (Rat.le_of_lt kp) c1
    obtain ⟨_, _⟩ := hMk
    obtain ⟨_, _⟩ := sD
    grind
  obtain ⟨hq, _⟩ := ln_core ((wn_sub w1 w0).mono (by grind)) key D0 D1 D2 M1
  -- the ellipsoid's part
  have eD : Wn (vl e * s1 - vl e * s) (vl e * D) := (wn_pos (Rat.mul_nonneg e0 (Rat.le_of_lt D0))).of (by rw [hDe]; grind) Rat.le_refl
  have am := AA_mid (a := vl e * s) (b := vl e * s1) ((wn_mul be (show Wn s (939694 / 1000000) from ⟨b1, b2⟩)).mono (by grind)) ((wn_mul be (show Wn s1 (9399 / 10000) from ⟨b3, b4⟩)).mono (by grind)) eD (by
    have := mul_mono e0 be.2 (Rat.le_of_lt D0) D1
    grind)
  have ee := wn_mul (wn_pos e0) am
  obtain ⟨E, hEe⟩ : ∃ E, E = vl e * vl e := ⟨_, rfl⟩
  have E0 : 0 ≤ E := by rw [hEe]; exact rsq_nonneg _
  rw [← hEe] at hE ⊢
  have hx : Wn (i1 - i0 - ((L1 - L0) / 2 - E * D * (1 + E * (s * s)))) (8 / 100000 * (E * D) + 5 / 100000000000000) := by
    have t := wn_sub (wn_sub q1 q0) ee
    have t2 : Wn (2 * (i1 - i0 - ((L1 - L0) / 2 - E * D * (1 + E * (s * s))))) (2 * (8 / 100000 * (E * D) + 5 / 100000000000000)) := by
      refine t.of ?_ ?_
      · rw [hEe, hDe]
        generalize AA (vl e * s) = A0
        generalize AA (vl e * s1) = A1
        grind
      · have : vl e * (vl e * D * (15 / 100000)) = 15 / 100000 * (E * D) := by rw [hEe]; grind
        rw [this]
        have := Rat.mul_nonneg E0 (Rat.le_of_lt D0)
        grind
    exact wn_scaled (by grind) t2
  obtain ⟨r1', r2', r3'⟩ := iso_core (Y := (L1 - L0) / 2) (q := (L1 - L0) / 2 * M - D) k0 c1 ⟨b1, b2⟩ hn g0 g1 hD hMk hq (by grind) E0 hE rfl hx
  exact ⟨k0, c1, ⟨b1, b2⟩, hn, r1', r3', ⟨b3, b4⟩⟩
end Go.Proofs.YtcppgbhjbmfldaaDoor

/- The hyperbolic sine and cosine of an isometric latitude: how large they are, how they grow. -/
namespace Go.Fp.Tri
open Go.Fp
set_option maxRecDepth 20000
theorem pos_mul_r {a b : Rat} (ha : 0 < a) (h : 0 < a * b) : 0 < b := by
  rcases Rat.le_total (a := b) (b := 0) with k | k
  · exfalso
    have := Rat.mul_nonneg (Rat.le_of_lt ha) (show 0 ≤ -b by grind)
    grind
  · rcases Rat.le_total (a := b) (b := 0) with k2 | k2
    · exfalso
      have e : b = 0 := by grind
      rw [e] at h
      grind
    · by_cases e : b = 0
      · rw [e] at h; grind
      · grind
theorem Tlo_core {T τ P N s q ε : Rat} (hP : P = τ + T) (hN : N = T - τ) (pn : Wn (P * N - 1) (1 / 1000000000)) (s0 : 0 < 1 - s) (s1 : 0 < 1 + s) (q0 : 966 / 1000 ≤ q) (q1 : q ≤ 1034 / 1000) (hε : Wn ε (1 / 100000000)) (hz : P * P * (1 - s) = q * (1 + ε) * (1 + s)) : 965 / 1000 ≤ T * T * (1 - s * s) := by
  have T2 : 2 * T = P + N := by rw [hP, hN]; grind
  obtain ⟨k, hk⟩ : ∃ k, k = q * (1 + ε) := ⟨_, rfl⟩
  rw [← hk] at hz
  have e2 := wn_mul (show Wn q (1034 / 1000) from ⟨by grind, q1⟩) hε
  have k0 : 9659 / 10000 ≤ k := by rw [hk]; have := e2.1; grind
  have k1 : k ≤ 10341 / 10000 := by rw [hk]; have := e2.2; grind
  obtain ⟨r, hr⟩ : ∃ r, r = k * (1 + s) + P * N * (1 - s) := ⟨_, rfl⟩
  have sq : 4 * (T * T * (1 - s * s)) * k * (1 + s) = r * r * (1 + s) := by
    have e : 4 * (T * T) * (P * P) = (P * P + P * N) * (P * P + P * N) := by
      have : 4 * (T * T) = (2 * T) * (2 * T) := by grind
      rw [this, T2]; grind
    have e3 : r = (P * P + P * N) * (1 - s) := by rw [hr, ← hz]; grind
    have e4 : 4 * (T * T * (1 - s * s)) * k * (1 + s) = 4 * (T * T) * (k * (1 + s)) * (1 - s) * (1 + s) := by grind
    rw [e4, ← hz, e3]
    have e5 : 4 * (T * T) * (P * P * (1 - s)) * (1 - s) * (1 + s) = 4 * (T * T) * (P * P) * ((1 - s) * (1 - s) * (1 + s)) := by grind
    rw [e5, e]; grind
  have sq2 : 4 * (T * T * (1 - s * s)) * k = r * r := by
    have l1 : (1 + s) * (4 * (T * T * (1 - s * s)) * k) ≤ (1 + s) * (r * r) := by
      have : (1 + s) * (4 * (T * T * (1 - s * s)) * k) = (1 + s) * (r * r) := by grind
      rw [this]; exact Rat.le_refl
    have l2 : (1 + s) * (r * r) ≤ (1 + s) * (4 * (T * T * (1 - s * s)) * k) := by
      have : (1 + s) * (4 * (T * T * (1 - s * s)) * k) = (1 + s) * (r * r) := by grind
      rw [this]; exact Rat.le_refl
    have := le_of_scaled s1 l1
    have := le_of_scaled s1 l2
    grind
  generalize T * T * (1 - s * s) = W at *
  obtain ⟨p1, p2⟩ := pn
  have pc := Rat.mul_le_mul_of_nonneg_right (show 1 - 1 / 1000000000 ≤ P * N by grind) (Rat.le_of_lt s0)
  rcases Rat.le_total (a := k) (b := 1) with c | c
  · have r1 : 2 * k - 1 / 100000000 ≤ r := by
      have := Rat.mul_le_mul_of_nonneg_right c (Rat.le_of_lt s0)
      rw [hr]; grind
    have rr := sq_le_sq (show 0 ≤ 2 * k - 1 / 100000000 by grind) r1
    refine le_of_scaled (R := 4 * k) (by grind) ?_
    have kk := Rat.mul_le_mul_of_nonneg_left k0 (show 0 ≤ k by grind)
    grind
  · have r1 : 2 - 1 / 100000000 ≤ r := by
      have := Rat.mul_le_mul_of_nonneg_right c (Rat.le_of_lt s1)
      rw [hr]; grind
    have rr := sq_le_sq (show (0 : Rat) ≤ 2 - 1 / 100000000 by grind) r1
    refine le_of_scaled (R := 4 * k) (by grind) ?_
    grind
/-- how the hyperbolic sine grows -/
theorem grow_core {τ T τ1 T1 x X : Rat} (hT : Wn (T * T - (1 + τ * τ)) (1 / 1000000000000 * (T * T))) (hT1 : Wn (T1 * T1 - (1 + τ1 * τ1)) (1 / 1000000000000 * (T1 * T1))) (t0 : 99 / 100 ≤ T) (t1 : T ≤ 31 / 10) (u0 : 99 / 100 ≤ T1) (u1 : T1 ≤ 31 / 10) (tp : 0 < τ + T) (up : 0 < τ1 + T1)
    (hX : Wn (X - (1 + x + x * x / 2)) (34 / 100000000000)) (bx : Wn x (6 / 10000)) (hP : Rn (τ1 + T1) ((τ + T) * X) (42 / 100000000000)) : Wn (τ1 - τ - (x * T + x * x * τ / 2)) (2 / 1000000000 * T) := by
  obtain ⟨P, hPe⟩ : ∃ P, P = τ + T := ⟨_, rfl⟩
  obtain ⟨N, hNe⟩ : ∃ N, N = T - τ := ⟨_, rfl⟩
  obtain ⟨P1, hP1e⟩ : ∃ P1, P1 = τ1 + T1 := ⟨_, rfl⟩
  obtain ⟨N1, hN1e⟩ : ∃ N1, N1 = T1 - τ1 := ⟨_, rfl⟩
  have TT := mul_mono (show 0 ≤ T by grind) t1 (show 0 ≤ T by grind) t1
  have UU := mul_mono (show 0 ≤ T1 by grind) u1 (show 0 ≤ T1 by grind) u1
  have pn : Wn (P * N - 1) (1 / 100000000000) := by
    have : P * N - 1 = T * T - (1 + τ * τ) := by rw [hPe, hNe]; grind
    rw [this]; exact hT.mono (by grind)
  have pn1 : Wn (P1 * N1 - 1) (1 / 100000000000) := by
    have : P1 * N1 - 1 = T1 * T1 - (1 + τ1 * τ1) := by rw [hP1e, hN1e]; grind
    rw [this]; exact hT1.mono (by grind)
  rw [← hPe, ← hP1e] at hP
  rw [← hPe] at tp
  rw [← hP1e] at up
  have N0 : 0 < N := by
    have : 0 < P * N := by have := pn.1; grind
    exact (pos_mul_r tp this)
  have N10 : 0 < N1 := by
    have : 0 < P1 * N1 := by have := pn1.1; grind
    exact (pos_mul_r up this)
  have T2 : 2 * T = P + N := by rw [hPe, hNe]; grind
  have τ2 : 2 * τ = P - N := by rw [hPe, hNe]; grind
  have τ12 : 2 * τ1 = P1 - N1 := by rw [hP1e, hN1e]; grind
  have xx := wn_mul bx bx
  have bX : Wn (X - 1) (7 / 10000) := by obtain ⟨_, _⟩ := hX; obtain ⟨_, _⟩ := xx; obtain ⟨_, _⟩ := bx; constructor <;> grind
  -- N1 X is nearly N
  have nx : Wn (N1 * X - N) (46 / 100000000000 * N) := by
    have a := wn_mul hP.2 (wn_pos (Rat.le_of_lt N10))
    -- P N1 X = 1
    have b : Wn (P * (N1 * X) - 1) (44 / 100000000000) := by
      have z1 : 0 ≤ P * X * N1 := Rat.mul_nonneg (Rat.le_of_lt hP.1) (Rat.le_of_lt N10)
      have up2 : P * X * N1 ≤ 1 + 1 / 1000000 := by
        obtain ⟨a1, a2⟩ := a
        obtain ⟨b1, b2⟩ := pn1
        grind
      refine (wn_sub pn1 a).of (by grind) ?_
      have e : 42 / 100000000000 * (P * X) * N1 = 42 / 100000000000 * (P * X * N1) := by grind
      rw [e]; grind
    refine wn_scaled tp ?_
    refine (wn_sub b pn).of (by grind) ?_
    have := pn.1
    grind
  have pb : Wn P (2 * T) := ⟨by grind, by grind⟩
  have nb : Wn N (2 * T) := ⟨by grind, by grind⟩
  have Pp := Rat.mul_nonneg (Rat.le_of_lt tp) (show (0 : Rat) ≤ 1 by grind)
  -- the differences
  have d1 : Wn (P1 - P - P * (x + x * x / 2)) (77 / 100000000000 * P) := by
    have m := wn_mul (wn_pos (Rat.le_of_lt tp)) hX
    have px := Rat.mul_le_mul_of_nonneg_left (show X ≤ 1001 / 1000 by have := bX.2; grind) (Rat.le_of_lt tp)
    refine (wn_add hP.2 m).of (by grind) (by grind)
  have d2 : Wn (N - N1 - N * (x - x * x / 2)) (140 / 100000000000 * N) := by
    -- N1 (1 + y) = N (1 + small), y = X - 1
    obtain ⟨y, hy⟩ : ∃ y, X = 1 + y := ⟨X - 1, by grind⟩
    have by1 : Wn y (7 / 10000) := by rw [hy] at bX; exact bX.of (by grind) Rat.le_refl
    have X0 : 0 < X := by rw [hy]; have := by1.1; grind
    refine wn_scaled X0 ?_
    -- X (N - N1 - N z) = N X - N - (N1 X - N) - N X z ; z = x - xx/2
    have hy2 : Wn (y - (x + x * x / 2)) (34 / 100000000000) := by rw [hy] at hX; exact hX.of (by grind) Rat.le_refl
    have c : Wn (y - (1 + y) * (x - x * x / 2)) (90 / 100000000000) := by
      have x3 := wn_mul xx bx
      have x4 := wn_mul xx xx
      have z := wn_mul hy2 (show Wn (1 - (x - x * x / 2)) (1001 / 1000) from by obtain ⟨_, _⟩ := xx; obtain ⟨_, _⟩ := bx; constructor <;> grind)
      refine (wn_add z (show Wn (x * x * x * (0 : Rat) + x * x * (x * x) / 4) (4 / 100000000000) from by obtain ⟨_, _⟩ := x4; constructor <;> grind)).of ?_ (by grind)
      grind
    have m := wn_mul (wn_pos (Rat.le_of_lt N0)) c
    refine (wn_sub m nx).of ?_ ?_
    · rw [hy]; grind
    · have := Rat.mul_le_mul_of_nonneg_right (show 9993 / 10000 ≤ X by have := bX.1; grind) (Rat.le_of_lt N0)
      grind
  have fin : Wn (2 * (τ1 - τ - (x * T + x * x * τ / 2))) (2 * (2 / 1000000000 * T)) := by
    refine (wn_add d1 d2).of ?_ ?_
    · have e : 2 * (τ1 - τ - (x * T + x * x * τ / 2)) = (2 * τ1 - 2 * τ) - (x * (2 * T) + x * x * (2 * τ) / 2) := by grind
      rw [e, T2, τ2, τ12]; grind
    · grind
  exact wn_scaled (by grind) fin
end Go.Fp.Tri
namespace Go.Proofs.YtcppgbhjbmfldaaDoor
open Go.Fp Go.Fp.Tri
set_option maxRecDepth 20000
theorem T_lo {e s ψ : Nat} {T τ : Rat} (h : EccOk e) (hE : vl e * vl e ≤ 801 / 100000) (fs : Fp.Fin s) (bs : Wn (vl s) (9399 / 10000)) (hψ : ψ = isoW e s) (hT : Wn (T * T - (1 + τ * τ)) (1 / 1000000000000 * (T * T))) (T1 : 99 / 100 ≤ T) (T2 : T ≤ 103 / 10) (ex : Rn (EX (vl ψ)) (τ + T) (2 / 10000000000)) :
    965 / 1000 ≤ T * T * (1 - vl s * vl s) := by
  obtain ⟨_, k, _, l, lx⟩ := iso_by h fs (bs.mono (by grind))
  have b3 := iso_84 h fs (bs.mono (by grind))
  rw [← hψ] at k b3
  obtain ⟨_, _, _, rat⟩ := rat_84 fs (bs.mono (by grind))
  have l2 := ln_wn fs bs
  have e0 := h.e0
  have bes : Wn (vl e * vl s) (172 / 1000) := (wn_mul (show Wn (vl e) (1416 / 10000) from ⟨by grind, h.e1⟩) bs).mono (by grind)
  have T0 : 0 ≤ T := by grind
  have TT := sq_le_sq T0 T2
  have bA : Wn (vl e * AA (vl e * vl s)) (166 / 10000) := by
    have a := wn_mul (wn_pos e0) (AA_small bes)
    refine a.mono ?_
    have r : rabs (vl e * vl s) ≤ vl e := by
      have m := wn_mul (wn_pos e0) bs
      unfold rabs
      obtain ⟨_, _⟩ := m
      split <;> grind
    have := Rat.mul_le_mul_of_nonneg_left r e0
    grind
  have ba := bA
  have b7 := b3.mono (show (3 : Rat) ≤ 7 by grind)
  have d7 : Wn (2 * vl ψ) 7 := by obtain ⟨_, _⟩ := b3; constructor <;> grind
  have c7 : Wn (vl (lnP (ratW s)) + -(vl e * AA (vl e * vl s))) 7 := (wn_add l2 (wn_negy bA)).mono (by grind)
  have a1 := EX_lip d7 c7 ((k.mono (show (4 / 100000000000000 : Rat) ≤ 1 / 10000000000000 by grind)).of (by grind) Rat.le_refl)
  have a2 := EX_add (l.mono (show (59 : Rat) / 10 ≤ 7 by grind)) ((wn_negy bA).mono (show (166 / 10000 : Rat) ≤ 7 by grind)) c7
  have a3 := EX_add b7 b7 (by rw [show vl ψ + vl ψ = 2 * vl ψ by grind]; exact d7)
  rw [show vl ψ + vl ψ = 2 * vl ψ by grind] at a3
  have q0 := EX_small (r := -(vl e * AA (vl e * vl s))) ((wn_negy bA).mono (by grind))
  have lp := (wn_lip PE (x := -(vl e * AA (vl e * vl s))) (y := 0) (X := 4375 / 10000) (D := 166 / 10000) ((wn_negy bA).mono (by grind)) ⟨by grind, by grind⟩ ((wn_negy bA).of (by grind) Rat.le_refl)).mono (B := 332 / 10000) (by have := lipE4; grind)
  change Wn (Ex _ - Ex 0) _ at lp
  rw [Ex_zero] at lp
  have qb : 966 / 1000 ≤ EX (-(vl e * AA (vl e * vl s))) ∧ EX (-(vl e * AA (vl e * vl s))) ≤ 1034 / 1000 := by
    obtain ⟨_, _, _⟩ := q0
    obtain ⟨_, _⟩ := lp
    constructor <;> grind
  have s0 : 0 < 1 - vl s := by have := bs.2; grind
  have s1 : 0 < 1 + vl s := by have := bs.1; grind
  have qp := EX_pos ((wn_negy bA).mono (show (166 / 10000 : Rat) ≤ 7 by grind))
  generalize EX (-(vl e * AA (vl e * vl s))) = q at *
  have rt : Rn (vl (ratW s) * (1 - vl s)) (1 + vl s) (1 / 100000000000000) := ⟨s1, rat⟩
  have px := ex.symm (by grind)
  have c1 := ((px.mul px (by grind)).trans (a3.trans (a1.trans (a2.symm (by grind)) (by grind)) (by grind)) (by grind))
  have c2 := c1.trans (lx.mul (Rn.refl qp) (by grind)) (by grind)
  have c3 := (c2.mul (Rn.refl s0) (by grind)).trans (((rt.mul (Rn.refl qp) (by grind)).cast (x' := vl (ratW s) * q * (1 - vl s)) (y' := q * (1 + vl s)) (by grind) (by grind))) (by grind)
  have qd := c3.1
  obtain ⟨ε, hε⟩ : ∃ ε, (τ + T) * (τ + T) * (1 - vl s) = q * (1 + ε) * (1 + vl s) := ⟨(τ + T) * (τ + T) * (1 - vl s) / (q * (1 + vl s)) - 1, by
    have := div_mul_c (a := (τ + T) * (τ + T) * (1 - vl s)) (ne_of_pos qd) rfl
    generalize (τ + T) * (τ + T) * (1 - vl s) / (q * (1 + vl s)) = z at *
    grind⟩
  have bε : Wn ε (1 / 100000000) := by
    refine wn_scaled qd ?_
    exact c3.2.of (by grind) (by have := Rat.mul_le_mul_of_nonneg_right (show (1 : Rat) / 100000000 - 1 / 1000000000 ≤ 1 / 100000000 by grind) (Rat.le_of_lt qd); grind)
  refine Tlo_core rfl rfl ?_ s0 s1 qb.1 qb.2 bε hε
  have e1 : (τ + T) * (T - τ) - 1 = T * T - (1 + τ * τ) := by grind
  rw [e1]
  exact hT.mono (by grind)
end Go.Proofs.YtcppgbhjbmfldaaDoor
