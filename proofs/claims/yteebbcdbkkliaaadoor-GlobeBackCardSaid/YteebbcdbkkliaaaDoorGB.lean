/- The polynomials of sine and cosine: a quarter of a turn on; how fast they grow; how small they are. -/
import Derived.Test.YteebbcdbkkliaaaDoorGA
namespace Go.Fp.Tri
open Go.Fp
set_option maxRecDepth 20000
/-- a nanodegree, as the program has it; an eighth of a turn -/
def rho : Rat := 5401532406949459 / 309485009821345068724781056
def oct : Rat := 45000000000 * rho
theorem rho_pos : 0 < rho := by unfold rho; grind
theorem rho_lo : 17453 / 1000000000000000 ≤ rho := by unfold rho; grind
theorem rho_hi : rho ≤ 17454 / 1000000000000000 := by unfold rho; grind
/-- a quarter of a turn on: cosine and sine -/
def RemH : List (List Rat) := qadd (qcomp PC [[-oct, 1]]) (qneg (qcomp PS [[oct, 1]]))
theorem remH_bd : qbd RemH 0 (7855 / 10000) ≤ 6 / 10000000000000 := by decide +kernel
theorem half_turn {u : Rat} (hu : Wn u (7855 / 10000)) : Wn (C (u - oct) - S (u + oct)) (6 / 10000000000000) := by
  have h := (wn_qev RemH (x := 0) (X := 0) ⟨by grind, by grind⟩ hu).mono remH_bd
  have e : qev RemH 0 u = C (u - oct) - S (u + oct) := by
    simp only [RemH, qev_add, qev_neg, qev_comp, S, C]
    have e1 : qev [[-oct, 1]] 0 u = u - oct := by simp only [qev, pev]; grind
    have e2 : qev [[oct, 1]] 0 u = u + oct := by simp only [qev, pev]; grind
    rw [e1, e2]
    grind
  rw [← e]; exact h
/-- how fast a polynomial grows -/
def plip : List Rat → Rat → Rat
  | [], _ => 0
  | _ :: r, X => pbd r X + X * plip r X
theorem pbd_nonneg : ∀ (p : List Rat) {X : Rat}, 0 ≤ X → 0 ≤ pbd p X
  | [], X, _ => by simp [pbd]
  | c :: r, X, h => by
    have := pbd_nonneg r h
    have h2 := (wn_rabs c).nonneg
    have h3 := Rat.mul_nonneg h this
    simp only [pbd]
    grind
theorem wn_lip : ∀ (p : List Rat) {x y X D : Rat}, Wn x X → Wn y X → Wn (x - y) D → Wn (pev p x - pev p y) (D * plip p X)
  | [], x, y, X, D, _, _, hd => by
    have := hd.nonneg
    constructor <;> simp [pev, plip] <;> grind
  | c :: r, x, y, X, D, hx, hy, hd => by
    have h1 := wn_mul hd (wn_pev r hx)
    have h2 := wn_mul hy (wn_lip r hx hy hd)
    have h := wn_add h1 h2
    have e : (x - y) * pev r x + y * (pev r x - pev r y) = pev (c :: r) x - pev (c :: r) y := by simp only [pev]; grind
    rw [e] at h
    exact h.mono (by simp only [plip]; grind)
theorem lipS_bd : plip PS (7855 / 10000) ≤ 1325 / 1000 := by decide +kernel
theorem lipC_bd : plip PC (7855 / 10000) ≤ 870 / 1000 := by decide +kernel
theorem lip_S {x y D : Rat} (hx : Wn x (7855 / 10000)) (hy : Wn y (7855 / 10000)) (hd : Wn (x - y) D) : Wn (S x - S y) (D * (1325 / 1000)) :=
  (wn_lip PS hx hy hd).mono (Rat.mul_le_mul_of_nonneg_left lipS_bd hd.nonneg)
theorem lip_C {x y D : Rat} (hx : Wn x (7855 / 10000)) (hy : Wn y (7855 / 10000)) (hd : Wn (x - y) D) : Wn (C x - C y) (D * (870 / 1000)) :=
  (wn_lip PC hx hy hd).mono (Rat.mul_le_mul_of_nonneg_left lipC_bd hd.nonneg)
/-- sizes -/
def T2 : List Rat := [inv 5, 0, -inv 7, 0, inv 9, 0, -inv 11, 0, inv 13, 0, -inv 15, 0, inv 17]
def T3 : List Rat := [-inv 7, 0, inv 9, 0, -inv 11, 0, inv 13, 0, -inv 15, 0, inv 17]
theorem t3_bd : pbd T3 (1571 / 1000) ≤ 1 / 1000 := by decide +kernel
theorem S_low {z : Rat} (h0 : 0 ≤ z) (h1 : z ≤ 1571 / 1000) : 58 / 100 * z ≤ S z := by
  have hz : Wn z (1571 / 1000) := ⟨by grind, h1⟩
  have h3 := (wn_pev T3 hz).mono t3_bd
  have hzz := wn_mul hz hz
  have h4 := wn_mul hzz h3
  have e2 : pev T2 z = inv 5 + z * z * pev T3 z := by simp only [T2, T3, pev]; grind
  have i5 : inv 5 = 1 / 120 := by decide +kernel
  have p2 : 0 ≤ pev T2 z := by rw [e2, i5]; have := h4.1; grind
  have e : S z = z * (1 - inv 3 * (z * z) + z * z * (z * z) * pev T2 z) := by simp only [S, PS, T2, pev]; grind
  have i3 : inv 3 = 1 / 6 := by decide +kernel
  have q1 : 0 ≤ z * z := Rat.mul_nonneg h0 h0
  have q2 : 0 ≤ z * z * (z * z) * pev T2 z := Rat.mul_nonneg (Rat.mul_nonneg q1 q1) p2
  have q3 : 58 / 100 ≤ 1 - inv 3 * (z * z) + z * z * (z * z) * pev T2 z := by rw [i3]; have := hzz.2; grind
  have := Rat.mul_le_mul_of_nonneg_left q3 h0
  rw [e]
  grind
theorem S_odd (z : Rat) : S (-z) = - S z := by simp only [S, PS, pev]; grind
theorem C_even (z : Rat) : C (-z) = C z := by simp only [C, PC, pev]; grind
theorem C_zero : C 0 = 1 := by simp only [C, PC, pev]; grind
def TC : List Rat := [-inv 2, 0, inv 4, 0, -inv 6, 0, inv 8, 0, -inv 10, 0, inv 12, 0, -inv 14, 0, inv 16]
theorem tc_bd : pbd TC (7855 / 10000) ≤ 527 / 1000 := by decide +kernel
theorem C_low {x : Rat} (hx : Wn x (7855 / 10000)) : 67 / 100 ≤ C x := by
  have h := (wn_pev TC hx).mono tc_bd
  have hh := wn_mul (wn_mul hx hx) h
  have e : C x = 1 + x * x * pev TC x := by simp only [C, PC, TC, pev]; grind
  rw [e]
  have := hh.1
  grind
def OneP : List Rat := padd (padd (pmul PC PC) (pmul PS PS)) [-1]
theorem one_bd : pbd OneP (7855 / 10000) ≤ 1 / 1000000000000000 := by decide +kernel
theorem one_SC {x : Rat} (hx : Wn x (7855 / 10000)) : Wn (C x * C x + S x * S x - 1) (1 / 1000000000000000) := by
  have h := (wn_pev OneP hx).mono one_bd
  have e : pev OneP x = C x * C x + S x * S x - 1 := by
    simp only [OneP, pev_add, pev_mul, pev, C, S]
    grind
  rw [← e]; exact h
theorem bdS : pbd PS (7855 / 10000) ≤ 88 / 100 := by decide +kernel
theorem bdC : pbd PC (7855 / 10000) ≤ 133 / 100 := by decide +kernel
theorem wn_S {x : Rat} (hx : Wn x (7855 / 10000)) : Wn (S x) (88 / 100) := (wn_pev PS hx).mono bdS
theorem wn_C {x : Rat} (hx : Wn x (7855 / 10000)) : Wn (C x) (133 / 100) := (wn_pev PC hx).mono bdC
end Go.Fp.Tri
