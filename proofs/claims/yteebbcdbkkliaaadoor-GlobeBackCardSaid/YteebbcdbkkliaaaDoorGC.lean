/- Sine and cosine of so many nanodegrees, by the polynomials: their addition law, how fast they grow, how small they are. -/
import Derived.Test.YteebbcdbkkliaaaDoorGB
namespace Go.Fp.Tri
open Go.Fp
set_option maxRecDepth 20000
theorem castle {a b : Int} (h : a ≤ b) : (a : Rat) ≤ (b : Rat) := Rat.intCast_le_intCast.2 h
theorem _root_.Go.Fp.Wn.of {a b A B : Rat} (h : Wn a A) (e : a = b) (hab : A ≤ B) : Wn b B := e ▸ h.mono hab
/-- the sine and the cosine of so many nanodegrees, from minus a quarter to a quarter of a turn -/
def sI (m : Int) : Rat := if m < -45000000000 then -C (((m + 90000000000 : Int) : Rat) * rho) else if m < 45000000000 then S ((m : Rat) * rho) else C (((m - 90000000000 : Int) : Rat) * rho)
def cI (m : Int) : Rat := if m < -45000000000 then S (((m + 90000000000 : Int) : Rat) * rho) else if m < 45000000000 then C ((m : Rat) * rho) else -S (((m - 90000000000 : Int) : Rat) * rho)
theorem arg_bd {r : Int} (h1 : -45000000000 ≤ r) (h2 : r ≤ 45000000000) : Wn ((r : Rat) * rho) (7855 / 10000) := by
  have a1 : (-45000000000 : Rat) ≤ (r : Rat) := castle h1
  have a2 : (r : Rat) ≤ 45000000000 := castle h2
  refine (wn_mul (A := 45000000000) ⟨by grind, a2⟩ (show Wn rho (17454 / 1000000000000000) from ⟨by have := rho_pos; grind, rho_hi⟩)).mono (by grind)
theorem sI_lo {m : Int} (h0 : 0 ≤ m) (h : m < 45000000000) : sI m = S ((m : Rat) * rho) := by unfold sI; rw [if_neg (by omega), if_pos h]
theorem sI_hi {m : Int} (h : 45000000000 ≤ m) : sI m = C (((m - 90000000000 : Int) : Rat) * rho) := by unfold sI; rw [if_neg (by omega), if_neg (by omega)]
theorem cI_lo {m : Int} (h0 : 0 ≤ m) (h : m < 45000000000) : cI m = C ((m : Rat) * rho) := by unfold cI; rw [if_neg (by omega), if_pos h]
theorem cI_hi {m : Int} (h : 45000000000 ≤ m) : cI m = -S (((m - 90000000000 : Int) : Rat) * rho) := by unfold cI; rw [if_neg (by omega), if_neg (by omega)]
theorem oct_bd {d : Int} (h1 : 0 ≤ d) (h2 : d ≤ 90000000000) : Wn ((d : Rat) * rho - oct) (7855 / 10000) := by
  have h := arg_bd (r := d - 45000000000) (by omega) (by omega)
  have e : ((d - 45000000000 : Int) : Rat) * rho = (d : Rat) * rho - oct := by unfold oct; push_cast; grind
  rw [e] at h; exact h
/-- the mixed case of the addition law -/
theorem cross_mix {m t : Int} (hm : 45000000000 ≤ m) (hm2 : m ≤ 90000000000) (ht : 0 ≤ t) (ht2 : t < 45000000000) :
    Wn (sI m * cI t - cI m * sI t - S (((m : Rat) - t) * rho)) (12 / 10000000000000) := by
  rw [sI_hi hm, cI_hi hm, sI_lo ht ht2, cI_lo ht ht2]
  have h1 := add_C (arg_bd (r := m - 90000000000) (by omega) (by omega)) (arg_bd (r := t) (by omega) (by omega))
  have h2 := half_turn (oct_bd (d := m - t) (by omega) (by omega))
  have e1 : ((m - t : Int) : Rat) * rho - oct - oct = ((m - 90000000000 : Int) : Rat) * rho - (t : Rat) * rho := by unfold oct; push_cast; grind
  have e2 : ((m - t : Int) : Rat) * rho - oct + oct = ((m : Rat) - t) * rho := by push_cast; grind
  rw [e1, e2] at h2
  exact (wn_add h1 h2).of (by grind) (by grind)
theorem cross {m t : Int} (hm : 0 ≤ m) (hm2 : m ≤ 90000000000) (ht : 0 ≤ t) (ht2 : t ≤ 90000000000) :
    Wn (sI m * cI t - cI m * sI t - S (((m : Rat) - t) * rho)) (12 / 10000000000000) := by
  rcases Int.lt_or_le m 45000000000 with h1 | h1
  · rcases Int.lt_or_le t 45000000000 with h2 | h2
    · rw [sI_lo hm h1, cI_lo hm h1, sI_lo ht h2, cI_lo ht h2]
      have h := (add_S (arg_bd (r := m) (by omega) (by omega)) (arg_bd (r := t) (by omega) (by omega))).mono (show _ ≤ (12 : Rat) / 10000000000000 by grind)
      rw [show (m : Rat) * rho - (t : Rat) * rho = ((m : Rat) - t) * rho by grind] at h
      exact h
    · have h := cross_mix h2 ht2 hm h1
      rw [show ((t : Rat) - m) * rho = -(((m : Rat) - t) * rho) by grind, S_odd] at h
      obtain ⟨a, b⟩ := h
      constructor <;> grind
  · rcases Int.lt_or_le t 45000000000 with h2 | h2
    · exact cross_mix h1 hm2 ht h2
    · rw [sI_hi h1, cI_hi h1, sI_hi h2, cI_hi h2]
      have h := (add_S (arg_bd (r := m - 90000000000) (by omega) (by omega)) (arg_bd (r := t - 90000000000) (by omega) (by omega))).mono (show _ ≤ (12 : Rat) / 10000000000000 by grind)
      rw [show ((m - 90000000000 : Int) : Rat) * rho - ((t - 90000000000 : Int) : Rat) * rho = ((m : Rat) - t) * rho by push_cast; grind] at h
      obtain ⟨a, b⟩ := h
      constructor <;> grind
/-- no faster than 1.325 -/
theorem wn_oct : Wn oct (7855 / 10000) := by
  have h := arg_bd (r := 45000000000) (by omega) (by omega)
  exact h
theorem at_oct' : -(1 / 1000000000000000 : Rat) ≤ C oct - S oct ∧ C oct - S oct ≤ 1 / 1000000000000000 := by decide +kernel
theorem at_oct : Wn (C oct - S oct) (1 / 1000000000000000) := at_oct'
theorem lip_mix {m t : Int} {D : Rat} (hm : 45000000000 ≤ m) (hm2 : m ≤ 90000000000) (ht : 0 ≤ t) (ht2 : t < 45000000000) (hD : Wn ((m : Rat) - t) D) :
    Wn (sI m - sI t) (D * rho * (1325 / 1000) + 1 / 1000000000000000) ∧ Wn (cI m - cI t) (D * rho * (1325 / 1000) + 1 / 1000000000000000) := by
  rw [sI_hi hm, cI_hi hm, sI_lo ht ht2, cI_lo ht ht2]
  have r0 := rho_pos
  have am : (45000000000 : Rat) ≤ (m : Rat) := castle hm
  have at' : (t : Rat) ≤ 45000000000 := castle (Int.le_of_lt ht2)
  have b1 := arg_bd (r := m - 90000000000) (by omega) (by omega)
  have b2 := arg_bd (r := t) (by omega) (by omega)
  have q1 : (0 : Rat) ≤ ((m : Rat) - 45000000000) * rho := Rat.mul_nonneg (by grind) (Rat.le_of_lt r0)
  have q2 : (0 : Rat) ≤ (45000000000 - (t : Rat)) * rho := Rat.mul_nonneg (by grind) (Rat.le_of_lt r0)
  have q3 : ((m : Rat) - t) * rho ≤ D * rho := Rat.mul_le_mul_of_nonneg_right hD.2 (Rat.le_of_lt r0)
  have no : Wn (-oct) (7855 / 10000) := ⟨by have := wn_oct.2; grind, by have := wn_oct.1; grind⟩
  have e1 : ((m - 90000000000 : Int) : Rat) * rho - -oct = ((m : Rat) - 45000000000) * rho := by unfold oct; push_cast; grind
  have e2 : oct - (t : Rat) * rho = (45000000000 - (t : Rat)) * rho := by unfold oct; grind
  have d1 : Wn (((m - 90000000000 : Int) : Rat) * rho - -oct) (((m : Rat) - 45000000000) * rho) := by rw [e1]; exact ⟨by grind, by grind⟩
  have d2 : Wn (oct - (t : Rat) * rho) ((45000000000 - (t : Rat)) * rho) := by rw [e2]; exact ⟨by grind, by grind⟩
  have s1 := lip_S b1 no d1
  have c1 := lip_C b1 no d1
  have s2 := lip_S wn_oct b2 d2
  have c2 := lip_C wn_oct b2 d2
  rw [S_odd] at s1
  rw [C_even] at c1
  have j := at_oct
  generalize C (((m - 90000000000 : Int) : Rat) * rho) = cm at *
  generalize S (((m - 90000000000 : Int) : Rat) * rho) = sm at *
  generalize C ((t : Rat) * rho) = ct at *
  generalize S ((t : Rat) * rho) = st at *
  generalize S oct = so at *
  generalize C oct = co at *
  obtain ⟨_, _⟩ := s1
  obtain ⟨_, _⟩ := c1
  obtain ⟨_, _⟩ := s2
  obtain ⟨_, _⟩ := c2
  obtain ⟨_, _⟩ := j
  refine ⟨⟨?_, ?_⟩, ⟨?_, ?_⟩⟩ <;> grind
theorem lipI {m t : Int} {D : Rat} (hm : 0 ≤ m) (hm2 : m ≤ 90000000000) (ht : 0 ≤ t) (ht2 : t ≤ 90000000000) (hD : Wn ((m : Rat) - t) D) :
    Wn (sI m - sI t) (D * rho * (1325 / 1000) + 1 / 1000000000000000) ∧ Wn (cI m - cI t) (D * rho * (1325 / 1000) + 1 / 1000000000000000) := by
  have r0 := rho_pos
  have hD0 := hD.nonneg
  have q0 : 0 ≤ D * rho := Rat.mul_nonneg hD0 (Rat.le_of_lt r0)
  have hd : Wn (((m : Rat) - t) * rho) (D * rho) := wn_mul hD ⟨by grind, Rat.le_refl⟩
  rcases Int.lt_or_le m 45000000000 with h1 | h1
  · rcases Int.lt_or_le t 45000000000 with h2 | h2
    · rw [sI_lo hm h1, cI_lo hm h1, sI_lo ht h2, cI_lo ht h2]
      have b1 := arg_bd (r := m) (by omega) (by omega)
      have b2 := arg_bd (r := t) (by omega) (by omega)
      rw [show ((m : Rat) - t) * rho = (m : Rat) * rho - (t : Rat) * rho by grind] at hd
      exact ⟨(lip_S b1 b2 hd).mono (by grind), (lip_C b1 b2 hd).mono (by grind)⟩
    · have h := lip_mix h2 ht2 hm h1 (D := D) ⟨by have := hD.2; grind, by have := hD.1; grind⟩
      obtain ⟨⟨a, b⟩, ⟨c, d⟩⟩ := h
      refine ⟨⟨?_, ?_⟩, ⟨?_, ?_⟩⟩ <;> grind
  · rcases Int.lt_or_le t 45000000000 with h2 | h2
    · exact lip_mix h1 hm2 ht h2 hD
    · rw [sI_hi h1, cI_hi h1, sI_hi h2, cI_hi h2]
      have b1 := arg_bd (r := m - 90000000000) (by omega) (by omega)
      have b2 := arg_bd (r := t - 90000000000) (by omega) (by omega)
      rw [show ((m : Rat) - t) * rho = ((m - 90000000000 : Int) : Rat) * rho - ((t - 90000000000 : Int) : Rat) * rho by push_cast; grind] at hd
      have c1 := (lip_C b1 b2 hd).mono (B := D * rho * (1325 / 1000) + 1 / 1000000000000000) (by grind)
      have s1 := (lip_S b1 b2 hd).mono (B := D * rho * (1325 / 1000) + 1 / 1000000000000000) (by grind)
      exact ⟨c1, ⟨by have := s1.2; grind, by have := s1.1; grind⟩⟩
/-- sizes -/
theorem one_I {m : Int} (hm : -90000000000 ≤ m) (hm2 : m ≤ 90000000000) : Wn (cI m * cI m + sI m * sI m - 1) (1 / 1000000000000000) := by
  unfold cI sI
  split
  · have h := one_SC (arg_bd (r := m + 90000000000) (by omega) (by omega))
    obtain ⟨a, b⟩ := h
    constructor <;> grind
  · split
    · exact one_SC (arg_bd (r := m) (by omega) (by omega))
    · have h := one_SC (arg_bd (r := m - 90000000000) (by omega) (by omega))
      obtain ⟨a, b⟩ := h
      constructor <;> grind
theorem sq_le {s c : Rat} (h : Wn (c * c + s * s - 1) (1 / 1000000000000000)) : Wn s (1001 / 1000) := by
  have h2 : s * s ≤ 1 + 1 / 1000000000000000 := by
    have := h.2
    have hc : 0 ≤ c * c := by
      rcases Rat.le_total (a := 0) (b := c) with hh | hh
      · exact Rat.mul_nonneg hh hh
      · have := Rat.mul_nonneg (show 0 ≤ -c by grind) (show 0 ≤ -c by grind)
        grind
    grind
  constructor
  · rcases Rat.le_total (a := -(1001 / 1000)) (b := s) with hh | hh
    · exact hh
    · exfalso
      have := Rat.mul_nonneg (show 0 ≤ -(1001 / 1000) - s by grind) (show 0 ≤ -(1001 / 1000) - s by grind)
      grind
  · rcases Rat.le_total (a := s) (b := 1001 / 1000) with hh | hh
    · exact hh
    · exfalso
      have := Rat.mul_nonneg (show 0 ≤ s - 1001 / 1000 by grind) (show 0 ≤ s - 1001 / 1000 by grind)
      grind
theorem wn_sI {m : Int} (hm : -90000000000 ≤ m) (hm2 : m ≤ 90000000000) : Wn (sI m) (1001 / 1000) := sq_le (one_I hm hm2)
theorem wn_cI {m : Int} (hm : -90000000000 ≤ m) (hm2 : m ≤ 90000000000) : Wn (cI m) (1001 / 1000) := sq_le (c := sI m) ((show cI m * cI m + sI m * sI m - 1 = sI m * sI m + cI m * cI m - 1 by grind) ▸ one_I hm hm2)
theorem sI_ge {m : Int} (hm : 0 ≤ m) (hm2 : m ≤ 90000000000) : 58 / 100 * ((m : Rat) * rho) ≤ sI m ∨ 67 / 100 ≤ sI m := by
  rcases Int.lt_or_le m 45000000000 with h1 | h1
  · left
    rw [sI_lo hm h1]
    have a : (0 : Rat) ≤ (m : Rat) := by exact_mod_cast hm
    exact S_low (Rat.mul_nonneg a (Rat.le_of_lt rho_pos)) (by have := (arg_bd (r := m) (by omega) (by omega)).2; grind)
  · right
    rw [sI_hi h1]
    exact C_low (arg_bd (r := m - 90000000000) (by omega) (by omega))
theorem sI_nonneg {m : Int} (hm : 0 ≤ m) (hm2 : m ≤ 90000000000) : 0 ≤ sI m := by
  have a : (0 : Rat) ≤ (m : Rat) := by exact_mod_cast hm
  have := Rat.mul_nonneg a (Rat.le_of_lt rho_pos)
  rcases sI_ge hm hm2 with h | h <;> grind
theorem cI_ge {m : Int} (hm : 0 ≤ m) (hm2 : m ≤ 90000000000) : 67 / 100 ≤ cI m ∨ 58 / 100 * ((90000000000 - (m : Rat)) * rho) ≤ cI m := by
  rcases Int.lt_or_le m 45000000000 with h1 | h1
  · left
    rw [cI_lo hm h1]
    exact C_low (arg_bd (r := m) (by omega) (by omega))
  · right
    rw [cI_hi h1, ← S_odd]
    have a : (m : Rat) ≤ 90000000000 := castle hm2
    have e : -(((m - 90000000000 : Int) : Rat) * rho) = (90000000000 - (m : Rat)) * rho := by push_cast; grind
    have b := arg_bd (r := m - 90000000000) (by omega) (by omega)
    rw [e]
    refine S_low (Rat.mul_nonneg (by grind) (Rat.le_of_lt rho_pos)) ?_
    rw [← e]
    have := b.1
    grind
theorem cI_nonneg {m : Int} (hm : 0 ≤ m) (hm2 : m ≤ 90000000000) : 0 ≤ cI m := by
  have a : (m : Rat) ≤ 90000000000 := castle hm2
  have := Rat.mul_nonneg (show (0 : Rat) ≤ 90000000000 - (m : Rat) by grind) (Rat.le_of_lt rho_pos)
  rcases cI_ge hm hm2 with h | h <;> grind
/-- from the other side -/
theorem sI_odd {m : Int} (hm : 0 ≤ m) (hm2 : m ≤ 90000000000) : Wn (sI (-m) + sI m) (1 / 1000000000000000) ∧ Wn (cI (-m) - cI m) (1 / 1000000000000000) := by
  have z : Wn 0 (1 / 1000000000000000) := ⟨by grind, by grind⟩
  rcases Int.lt_trichotomy m 45000000000 with h1 | h1 | h1
  · have e1 : sI (-m) = - sI m := by
      rw [sI_lo hm h1]; unfold sI; rw [if_neg (by omega), if_pos (by omega), ← S_odd]; congr 1; push_cast; grind
    have e2 : cI (-m) = cI m := by
      rw [cI_lo hm h1]; unfold cI; rw [if_neg (by omega), if_pos (by omega), ← C_even]; congr 1; push_cast; grind
    rw [e1, e2]
    constructor
    · rw [show -sI m + sI m = 0 by grind]; exact z
    · rw [show cI m - cI m = 0 by grind]; exact z
  · subst h1
    have j := at_oct
    have e1 : sI (-45000000000) = - S oct := by unfold sI; rw [if_neg (by omega), if_pos (by omega), ← S_odd]; congr 1; unfold oct; push_cast; grind
    have e2 : cI (-45000000000) = C oct := by unfold cI; rw [if_neg (by omega), if_pos (by omega), ← C_even]; congr 1; unfold oct; push_cast; grind
    have e3 : sI 45000000000 = C oct := by rw [sI_hi (by omega), ← C_even]; congr 1; unfold oct; push_cast; grind
    have e4 : cI 45000000000 = S oct := by rw [cI_hi (by omega), ← S_odd]; congr 1; unfold oct; push_cast; grind
    rw [e1, e2, e3, e4]
    obtain ⟨a, b⟩ := j
    refine ⟨⟨?_, ?_⟩, ⟨?_, ?_⟩⟩ <;> grind
  · have e1 : sI (-m) = - sI m := by
      rw [sI_hi (m := m) (by omega)]; unfold sI; rw [if_pos (by omega), ← C_even]; congr 2; push_cast; grind
    have e2 : cI (-m) = cI m := by
      rw [cI_hi (m := m) (by omega)]; unfold cI; rw [if_pos (by omega), ← S_odd]; congr 1; push_cast; grind
    rw [e1, e2]
    constructor
    · rw [show -sI m + sI m = 0 by grind]; exact z
    · rw [show cI m - cI m = 0 by grind]; exact z
end Go.Fp.Tri
