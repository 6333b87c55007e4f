/- Radii across the meridian of two latitudes, and how near they are; roots. -/
import Derived.Test.YteebbcdbkkliaaaDoorGC
namespace Go.Fp.Tri
open Go.Fp
set_option maxRecDepth 20000
theorem wn_quot {x c c0 y : Rat} (hc0 : 0 < c0) (h : c0 ≤ c) (hx : Wn (x * c) (c0 * y)) : Wn x y := by
  have hy : 0 ≤ y := by
    have := hx.nonneg
    rcases Rat.le_total (a := 0) (b := y) with hh | hh
    · exact hh
    · have h2 := Rat.mul_le_mul_of_nonneg_left hh (Rat.le_of_lt hc0)
      have h3 : c0 * y = 0 := by grind
      rcases Rat.mul_eq_zero.1 h3 with h4 | h4 <;> grind
  constructor
  · rcases Rat.le_total (a := -y) (b := x) with hh | hh
    · exact hh
    · have h1 := Rat.mul_le_mul_of_nonneg_left (show c0 ≤ c from h) (show 0 ≤ -x by grind)
      have h2 := hx.1
      have h3 : c0 * -x ≤ c0 * y := by grind
      have := Rat.le_of_mul_le_mul_left h3 hc0
      grind
  · rcases Rat.le_total (a := x) (b := y) with hh | hh
    · exact hh
    · have h1 := Rat.mul_le_mul_of_nonneg_left (show c0 ≤ c from h) (show 0 ≤ x by grind)
      have h2 := hx.2
      have h3 : c0 * x ≤ c0 * y := by grind
      exact Rat.le_of_mul_le_mul_left h3 hc0
theorem sq_near {p d ε : Rat} (hp : 0 ≤ p) (hd : 0 < d) (h : Wn (p * p - d * d) (ε * (d * d))) : Wn (p - d) (ε * d) := by
  refine wn_quot (c := p + d) (c0 := d) hd (by grind) ?_
  refine h.of (by grind) (by grind)
/-- the radius across the meridian: of two latitudes -/
theorem n_diff {e n1 n0 s1 s0 δ κ : Rat} (he : 0 ≤ e) (he2 : e ≤ 1 / 50) (b1 : Wn s1 (1001 / 1000)) (b0 : Wn s0 (1001 / 1000)) (hn1 : 99 / 100 ≤ n1) (hn1' : n1 ≤ 103 / 100) (hn0 : 99 / 100 ≤ n0) (hn0' : n0 ≤ 103 / 100)
    (h1 : Wn (n1 * n1 * (1 - e * (s1 * s1)) - 1) κ) (h0 : Wn (n0 * n0 * (1 - e * (s0 * s0)) - 1) κ) (hd : Wn (s1 - s0) δ) :
    Wn (n1 - n0) (22 / 1000 * δ + 104 / 100 * κ) ∧ Wn (n1 * s1 - n0 * s0) (1053 / 1000 * δ + 105 / 100 * κ) := by
  have hδ := hd.nonneg
  have hκ := h1.nonneg
  have be : Wn e (1 / 50) := ⟨by grind, he2⟩
  have bss := wn_mul b1 b1
  have bes := wn_mul be bss
  have g1 : 97 / 100 ≤ 1 - e * (s1 * s1) := by have := bes.2; grind
  have bn0 : Wn n0 (103 / 100) := ⟨by grind, hn0'⟩
  have bn1 : Wn n1 (103 / 100) := ⟨by grind, hn1'⟩
  have hc : 192 / 100 ≤ (n1 + n0) * (1 - e * (s1 * s1)) := by
    have := Rat.mul_le_mul_of_nonneg_left g1 (show 0 ≤ n1 + n0 by grind)
    grind
  have hsum : Wn (s1 + s0) (2002 / 1000) := (wn_add b1 b0).mono (by grind)
  have hg := wn_mul (wn_mul bn0 bn0) (wn_mul be (wn_mul hd hsum))
  have hq : Wn ((n1 - n0) * ((n1 + n0) * (1 - e * (s1 * s1)))) (192 / 100 * (23 / 1000 * δ + 105 / 100 * κ)) := by
    have h := wn_add (wn_sub h1 h0) hg
    exact h.of (by grind) (by grind)
  have hq' : Wn ((n1 - n0) * ((n1 + n0) * (1 - e * (s1 * s1)))) (1 / 1 * (4249 / 100000 * δ + 2 * κ)) := by
    have h := wn_add (wn_sub h1 h0) hg
    exact h.of (by grind) (by grind)
  have hc2 : 194 / 100 ≤ (n1 + n0) * (1 - e * (s1 * s1)) := by
    have g2 : 97995 / 100000 ≤ 1 - e * (s1 * s1) := by have := bes.2; grind
    have := Rat.mul_le_mul_of_nonneg_left g2 (show 0 ≤ n1 + n0 by grind)
    grind
  have d1 : Wn (n1 - n0) (22 / 1000 * δ + 104 / 100 * κ) := wn_quot (c0 := 194 / 100) (by grind) hc2 (hq'.mono (by grind))
  refine ⟨d1, ?_⟩
  have h := wn_add (wn_mul bn1 hd) (wn_mul d1 b0)
  exact h.of (by grind) (by grind)
/-- so near a whole number that it is told -/
theorem whole_le {d k : Int} {x : Rat} (h : (d : Rat) ≤ x) (hx : x < (k : Rat) + 1) : d ≤ k := by
  have h1 : (d : Rat) < ((k + 1 : Int) : Rat) := by push_cast; grind
  have := Rat.intCast_lt_intCast.1 h1
  omega
end Go.Fp.Tri
