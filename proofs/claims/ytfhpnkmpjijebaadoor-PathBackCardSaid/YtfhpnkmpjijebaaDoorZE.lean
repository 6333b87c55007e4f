/- Sine and cosine of so many nanodegrees, by the polynomials: their addition law, how fast they grow, how small they are. -/
import Derived.Test.YtfhpnkmpjijebaaDoorZD
namespace Go.Fp.Tri
open Go.Fp
set_option maxRecDepth 20000
theorem castle {a b : Int} (h : a ≤ b) : (a : Rat) ≤ (b : Rat) := Rat.intCast_le_intCast.2 h
theorem _root_.Go.Fp.Wn.of {a b A B : Rat} (h : Wn a A) (e : a = b) (hab : A ≤ B) : Wn b B := e ▸ h.mono hab
/-- the sine and the cosine of so many nanodegrees, from minus a quarter to a quarter of a turn -/
def sI (m : Int) : Rat := if m < -45000000000 then -C (((m + 90000000000 : Int) : Rat) * rho) else if m < 45000000000 then S ((m : Rat) * rho) else C (((m - 90000000000 : Int) : Rat) * rho)
def cI (m : Int) : Rat := if m < -45000000000 then S (((m + 90000000000 : Int) : Rat) * rho) else if m < 45000000000 then C ((m : Rat) * rho) else -S (((m - 90000000000 : Int) : Rat) * rho)
theorem arg_bd {r : Int} (h1 : -45000000000 ≤ r) (h2 : r ≤ 45000000000) : Wn ((r : Rat) * rho) (7855 / 10000) := by
  have a1 : (-45000000000 : Rat) ≤ (r : Rat) := castle h1
  have a2 : (r : Rat) ≤ 45000000000 := castle h2
  refine (wn_mul (A := 45000000000) ⟨by grind, a2⟩ (show Wn rho (17454 / 1000000000000000) from ⟨by have := rho_pos; grind, rho_hi⟩)).mono (by grind)
theorem sI_lo {m : Int} (h0 : 0 ≤ m) (h : m < 45000000000) : sI m = S ((m : Rat) * rho) := by unfold sI; rw [if_neg (by omega), if_pos h]
theorem sI_hi {m : Int} (h : 45000000000 ≤ m) : sI m = C (((m - 90000000000 : Int) : Rat) * rho) := by unfold sI; rw [if_neg (by omega), if_neg (by omega)]
theorem cI_lo {m : Int} (h0 : 0 ≤ m) (h : m < 45000000000) : cI m = C ((m : Rat) * rho) := by unfold cI; rw [if_neg (by omega), if_pos h]
theorem cI_hi {m : Int} (h : 45000000000 ≤ m) : cI m = -S (((m - 90000000000 : Int) : Rat) * rho) := by unfold cI; rw [if_neg (by omega), if_neg (by omega)]
theorem at_oct' : -(1 / 1000000000000000 : Rat) ≤ C oct - S oct ∧ C oct - S oct ≤ 1 / 1000000000000000 := by decide +kernel
theorem at_oct : Wn (C oct - S oct) (1 / 1000000000000000) := at_oct'
/-- sizes -/
theorem one_I {m : Int} (hm : -90000000000 ≤ m) (hm2 : m ≤ 90000000000) : Wn (cI m * cI m + sI m * sI m - 1) (1 / 1000000000000000) := by
  unfold cI sI
  split
  · have h := one_SC (arg_bd (r := m + 90000000000) (by omega) (by omega))
    obtain ⟨a, b⟩ := h
    constructor <;> grind
  · split
    · exact one_SC (arg_bd (r := m) (by omega) (by omega))
    · have h := one_SC (arg_bd (r := m - 90000000000) (by omega) (by omega))
      obtain ⟨a, b⟩ := h
      constructor <;> grind
theorem sq_le {s c : Rat} (h : Wn (c * c + s * s - 1) (1 / 1000000000000000)) : Wn s (1001 / 1000) := by
  have h2 : s * s ≤ 1 + 1 / 1000000000000000 := by
    have := h.2
    have hc : 0 ≤ c * c := by
      rcases Rat.le_total (a := 0) (b := c) with hh | hh
      · exact Rat.mul_nonneg hh hh
      · have := Rat.mul_nonneg (show 0 ≤ -c by grind) (show 0 ≤ -c by grind)
        grind
    grind
  constructor
  · rcases Rat.le_total (a := -(1001 / 1000)) (b := s) with hh | hh
    · exact hh
    · exfalso
      have := Rat.mul_nonneg (show 0 ≤ -(1001 / 1000) - s by grind) (show 0 ≤ -(1001 / 1000) - s by grind)
      grind
  · rcases Rat.le_total (a := s) (b := 1001 / 1000) with hh | hh
    · exact hh
    · exfalso
      have := Rat.mul_nonneg (show 0 ≤ s - 1001 / 1000 by grind) (show 0 ≤ s - 1001 / 1000 by grind)
      grind
theorem wn_sI {m : Int} (hm : -90000000000 ≤ m) (hm2 : m ≤ 90000000000) : Wn (sI m) (1001 / 1000) := sq_le (one_I hm hm2)
theorem wn_cI {m : Int} (hm : -90000000000 ≤ m) (hm2 : m ≤ 90000000000) : Wn (cI m) (1001 / 1000) := sq_le (c := sI m) ((show cI m * cI m + sI m * sI m - 1 = sI m * sI m + cI m * cI m - 1 by grind) ▸ one_I hm hm2)
theorem sI_ge {m : Int} (hm : 0 ≤ m) (hm2 : m ≤ 90000000000) : 58 / 100 * ((m : Rat) * rho) ≤ sI m ∨ 67 / 100 ≤ sI m := by
  rcases Int.lt_or_le m 45000000000 with h1 | h1
  · left
    rw [sI_lo hm h1]
    have a : (0 : Rat) ≤ (m : Rat) := by exact_mod_cast hm
    exact S_low (Rat.mul_nonneg a (Rat.le_of_lt rho_pos)) (by have := (arg_bd (r := m) (by omega) (by omega)).2; grind)
  · right
    rw [sI_hi h1]
    exact C_low (arg_bd (r := m - 90000000000) (by omega) (by omega))
theorem sI_nonneg {m : Int} (hm : 0 ≤ m) (hm2 : m ≤ 90000000000) : 0 ≤ sI m := by
  have a : (0 : Rat) ≤ (m : Rat) := by exact_mod_cast hm
  have := Rat.mul_nonneg a (Rat.le_of_lt rho_pos)
  rcases sI_ge hm hm2 with h | h <;> grind
theorem cI_ge {m : Int} (hm : 0 ≤ m) (hm2 : m ≤ 90000000000) : 67 / 100 ≤ cI m ∨ 58 / 100 * ((90000000000 - (m : Rat)) * rho) ≤ cI m := by
  rcases Int.lt_or_le m 45000000000 with h1 | h1
  · left
    rw [cI_lo hm h1]
    exact C_low (arg_bd (r := m) (by omega) (by omega))
  · right
    rw [cI_hi h1, ← S_odd]
    have a : (m : Rat) ≤ 90000000000 := castle hm2
    have e : -(((m - 90000000000 : Int) : Rat) * rho) = (90000000000 - (m : Rat)) * rho := by push_cast; grind
    have b := arg_bd (r := m - 90000000000) (by omega) (by omega)
    rw [e]
    refine S_low (Rat.mul_nonneg (by grind) (Rat.le_of_lt rho_pos)) ?_
    rw [← e]
    have := b.1
    grind
theorem cI_nonneg {m : Int} (hm : 0 ≤ m) (hm2 : m ≤ 90000000000) : 0 ≤ cI m := by
  have a : (m : Rat) ≤ 90000000000 := castle hm2
  have := Rat.mul_nonneg (show (0 : Rat) ≤ 90000000000 - (m : Rat) by grind) (Rat.le_of_lt rho_pos)
  rcases cI_ge hm hm2 with h | h <;> grind
/-- from the other side -/
theorem sI_odd {m : Int} (hm : 0 ≤ m) (hm2 : m ≤ 90000000000) : Wn (sI (-m) + sI m) (1 / 1000000000000000) ∧ Wn (cI (-m) - cI m) (1 / 1000000000000000) := by
  have z : Wn 0 (1 / 1000000000000000) := ⟨by grind, by grind⟩
  rcases Int.lt_trichotomy m 45000000000 with h1 | h1 | h1
  · have e1 : sI (-m) = - sI m := by
      rw [sI_lo hm h1]; unfold sI; rw [if_neg (by omega), if_pos (by omega), ← S_odd]; congr 1; push_cast; grind
    have e2 : cI (-m) = cI m := by
      rw [cI_lo hm h1]; unfold cI; rw [if_neg (by omega), if_pos (by omega), ← C_even]; congr 1; push_cast; grind
    rw [e1, e2]
    constructor
    · rw [show -sI m + sI m = 0 by grind]; exact z
    · rw [show cI m - cI m = 0 by grind]; exact z
  · subst h1
    have j := at_oct
    have e1 : sI (-45000000000) = - S oct := by unfold sI; rw [if_neg (by omega), if_pos (by omega), ← S_odd]; congr 1; unfold oct; push_cast; grind
    have e2 : cI (-45000000000) = C oct := by unfold cI; rw [if_neg (by omega), if_pos (by omega), ← C_even]; congr 1; unfold oct; push_cast; grind
    have e3 : sI 45000000000 = C oct := by rw [sI_hi (by omega), ← C_even]; congr 1; unfold oct; push_cast; grind
    have e4 : cI 45000000000 = S oct := by rw [cI_hi (by omega), ← S_odd]; congr 1; unfold oct; push_cast; grind
    rw [e1, e2, e3, e4]
    obtain ⟨a, b⟩ := j
    refine ⟨⟨?_, ?_⟩, ⟨?_, ?_⟩⟩ <;> grind
  · have e1 : sI (-m) = - sI m := by
      rw [sI_hi (m := m) (by omega)]; unfold sI; rw [if_pos (by omega), ← C_even]; congr 2; push_cast; grind
    have e2 : cI (-m) = cI m := by
      rw [cI_hi (m := m) (by omega)]; unfold cI; rw [if_pos (by omega), ← S_odd]; congr 1; push_cast; grind
    rw [e1, e2]
    constructor
    · rw [show -sI m + sI m = 0 by grind]; exact z
    · rw [show cI m - cI m = 0 by grind]; exact z
end Go.Fp.Tri

/- Floats as what they stand for: signs, whole numbers, square roots. -/
namespace Go.Fp
open Ieee
set_option maxRecDepth 20000

theorem near_sign (s : Bool) (M : Nat) (base : Int) (hb : M = 0 ∨ base + (M.log2 : Int) ≤ 1022) (h : 0 ≤ vd s M base) : 0 ≤ vl (D.nearest s M base) := by
  by_cases hM : M = 0
  · subst hM
    have e : D.nearest s 0 base = D.word s 0 := by unfold Format.nearest; rw [if_pos rfl]
    rw [e]
    obtain ⟨m, p, hr, _⟩ := near_err s 0 base (.inl rfl)
    rw [e] at hr
    have hr2 := read_word2 s (r := 0) (by omega)
    rw [if_pos (by omega)] at hr2
    rw [vl_of hr2, vd_sign]
    unfold vd
    cases s <;> simp
  · obtain ⟨m, p, hr, hp, _⟩ := near_err s M base hb
    rw [vl_of hr]
    cases s
    · exact vd_nonneg m p
    · exfalso
      rw [vd_sign, if_pos rfl, vd_false] at h
      have h1 : (0 : Rat) < (M : Rat) := cast_pos hM
      have h2 := pw_pos base
      have := Rat.mul_pos h1 h2
      grind
theorem fmul_nonneg {x y : Nat} (hx : Fin x) (hy : Fin y) (B : Rat) (hB : Wn (vl x * vl y) B) (hB2 : B ≤ pw 1022) (h : 0 ≤ vl x * vl y) : 0 ≤ vl (fmul x y) := by
  obtain ⟨s, m, i, hx⟩ := hx
  obtain ⟨t, n, j, hy⟩ := hy
  rw [vl_of hx, vl_of hy] at *
  have e : fmul x y = D.nearest (s ^^ t) (m * n) (i + j) := by
    unfold fmul Format.mul
    rw [hx, hy]; rfl
  rw [e]
  rw [← vd_mul] at hB h
  exact near_sign _ _ _ (vd_bound (Rat.le_trans (abs_vd _ _ _ B hB) hB2)) h
theorem vl_neg (x : Nat) (hx : Fin x) : Fin (Op.negFloat .f64 x) ∧ vl (Op.negFloat .f64 x) = - vl x := by
  obtain ⟨s, m, i, hx⟩ := hx
  have h : D.read (Op.negFloat .f64 x) = .number (!s) m i := by
    have : D.read (Op.negFloat .f64 x) = (D.read x).opposite := by
      obtain ⟨h1, h2⟩ := neg_parts x
      have hb : ((Op.negFloat .f64 x) / 2 ^ 63 % 2 == 1) = !(x / 2 ^ 63 % 2 == 1) := by
        rw [h2]
        rcases Nat.mod_two_eq_zero_or_one (x / 2 ^ 63) with h | h <;> rw [h] <;> rfl
      unfold Format.read
      simp only [D_sign, D_inf, D_bin, D_least]
      rw [h1, hb]
      split
      · rfl
      · split
        · rfl
        · split <;> rfl
    rw [this, hx]; rfl
  exact ⟨⟨_, _, _, h⟩, by rw [vl_of h, vl_of hx, vd_not]⟩
/-- a whole number below 2 ^ 53 is told as it is -/
theorem vl_int (n : Int) (h : n.natAbs < 2 ^ 53) : Fin (floatOfInt .f64 n) ∧ vl (floatOfInt .f64 n) = (n : Rat) := by
  have e : floatOfInt .f64 n = D.nearest (decide (n < 0)) (n.natAbs <<< 0) 0 := by rw [Nat.shiftLeft_zero]; rfl
  obtain ⟨m, p, hr, hp, hk⟩ := read_exact (decide (n < 0)) n.natAbs 0 0 h (by omega) (by omega)
  rw [← e] at hr
  refine ⟨⟨_, _, _, hr⟩, ?_⟩
  rw [vl_of hr, vd_sign, vd_shift false hp (j := 0) (by omega) hk, ← vd_sign]
  have ht := vd_total n false 0
  rw [pw_zero] at ht
  by_cases h0 : n = 0
  · subst h0; unfold vd; simp
  · rw [if_neg h0] at ht
    rw [ht]; grind

/-! square roots -/
theorem rootFrom_ok (n : Nat) : ∀ (k r : Nat), r * r ≤ n → n < (r + 2 ^ k) * (r + 2 ^ k) → Datum.rootFrom n k r * Datum.rootFrom n k r ≤ n ∧ n < (Datum.rootFrom n k r + 1) * (Datum.rootFrom n k r + 1)
  | 0, r, h1, h2 => ⟨h1, by simpa [Datum.rootFrom] using h2⟩
  | k + 1, r, h1, h2 => by
    have hp : 2 ^ (k + 1) = 2 ^ k + 2 ^ k := by rw [Nat.pow_succ]; omega
    rw [hp] at h2
    have hs : (1 <<< k : Nat) = 2 ^ k := by rw [Nat.shiftLeft_eq, Nat.one_mul]
    unfold Datum.rootFrom
    simp only [hs]
    by_cases h : (r + 2 ^ k) * (r + 2 ^ k) ≤ n
    · rw [if_pos h]
      exact rootFrom_ok n k (r + 2 ^ k) h (by rw [Nat.add_assoc]; exact h2)
    · rw [if_neg h]
      exact rootFrom_ok n k r h1 (by omega)
theorem sq_lt {a b : Nat} (h : a * a < b * b) : a < b := by
  rcases Nat.lt_or_ge a b with h' | h'
  · exact h'
  · have := Nat.mul_le_mul h' h'; omega
theorem root_parts (n : Nat) (h : 2 ^ 108 ≤ n) : ∃ W b : Nat, Datum.rootFrom n (n.log2 / 2 + 1) 0 = W ∧ (W * W != n).toNat = b ∧ 2 ^ 54 ≤ W ∧ W * W ≤ n ∧ Wn (((W : Rat) + (b : Rat) / 2) * ((W : Rat) + (b : Rat) / 2) - (n : Rat)) ((W : Rat) + 1 / 4) := by
  have hp : n < (0 + 2 ^ (n.log2 / 2 + 1)) * (0 + 2 ^ (n.log2 / 2 + 1)) := by
    rw [Nat.zero_add, ← Nat.pow_add]
    exact Nat.lt_of_lt_of_le Nat.lt_log2_self (Nat.pow_le_pow_right (by decide) (by omega))
  obtain ⟨h1, h2⟩ := rootFrom_ok n (n.log2 / 2 + 1) 0 (by omega) hp
  generalize Datum.rootFrom n (n.log2 / 2 + 1) 0 = W at *
  refine ⟨W, _, rfl, rfl, ?_, h1, ?_⟩
  · have : 2 ^ 54 < W + 1 := sq_lt (Nat.lt_of_le_of_lt (by rw [← Nat.pow_add]; exact h) h2)
    omega
  · have h3 : n ≤ W * W + 2 * W := by
      have : (W + 1) * (W + 1) = W * W + 2 * W + 1 := by grind
      omega
    by_cases he : W * W = n
    · have hb : (W * W != n).toNat = 0 := by simp [he]
      rw [hb]
      have e : (W : Rat) * (W : Rat) = (n : Rat) := by exact_mod_cast he
      have h0 : (0 : Rat) ≤ (W : Rat) := by exact_mod_cast Nat.zero_le W
      constructor
      · simp; grind
      · simp; grind
    · have hb : (W * W != n).toNat = 1 := by simp [he]
      rw [hb]
      have h4 : W * W + 1 ≤ n := by omega
      have e1 : (W : Rat) * (W : Rat) + 1 ≤ (n : Rat) := by exact_mod_cast h4
      have e2 : (n : Rat) ≤ (W : Rat) * (W : Rat) + 2 * (W : Rat) := by exact_mod_cast h3
      generalize (W : Rat) = x at *
      generalize (n : Rat) = y at *
      constructor
      · push_cast; grind
      · push_cast; grind
theorem fsqrt_err {x : Nat} (hx : Fin x) (h1 : 1 / 4 ≤ vl x) (h2 : vl x ≤ pw 1000) : Fin (fsqrt x) ∧ 0 ≤ vl (fsqrt x) ∧ Wn (vl (fsqrt x) * vl (fsqrt x) - vl x) (8 * uu * vl x) := by
  obtain ⟨s, m, i, hx⟩ := hx
  rw [vl_of hx] at *
  have hs : s = false := by
    cases s
    · rfl
    · exfalso
      rw [vd_sign, if_pos rfl] at h1
      have := vd_nonneg m i
      grind
  subst hs
  have hm : m ≠ 0 := by
    rintro rfl
    rw [vd_false] at h1
    simp at h1
    grind
  obtain ⟨mo, hmo⟩ : ∃ k, k = 2 * 54 - m.log2 + ((i - ((2 * 54 - m.log2 : Nat) : Int)) % 2).toNat := ⟨_, rfl⟩
  have hev : (i - (mo : Int)) / 2 + (i - (mo : Int)) / 2 = i - (mo : Int) := by omega
  have hn : 2 ^ 108 ≤ m <<< mo := by
    have hne : m <<< mo ≠ 0 := by rw [Nat.shiftLeft_eq]; exact Nat.mul_ne_zero hm (by have := Nat.two_pow_pos mo; omega)
    rw [← Nat.le_log2 hne, log2_shift_le m mo hm]
    omega
  obtain ⟨W, b, hW, hb, hW54, hWn, hQ⟩ := root_parts (m <<< mo) hn
  obtain ⟨h, hh⟩ : ∃ h, h = (i - (mo : Int)) / 2 := ⟨_, rfl⟩
  have e : fsqrt x = D.nearest false (2 * W + b) (h - 1) := by
    unfold fsqrt Format.sqrt
    rw [hx]
    unfold Datum.root
    dsimp only
    rw [if_neg hm, if_neg (by decide)]
    have hD : 2 * (D.fractionBits + 2) = 2 * 54 := rfl
    rw [hD, ← hmo, hW, hb, ← hh]
    rfl
  rw [e]
  have hv : vd false m i = ((m <<< mo : Nat) : Rat) * pw h * pw h := by
    rw [vd_false, Nat.shiftLeft_eq, show i = (mo : Int) + (h + h) by omega, pw_add, pw_nat, pw_add]
    push_cast
    grind
  have hw0 := cast_pos (show W ≠ 0 by omega)
  have hb0 : (0 : Rat) ≤ (b : Rat) := by exact_mod_cast Nat.zero_le b
  have hq : vd false (2 * W + b) (h - 1) = ((W : Rat) + (b : Rat) / 2) * pw h := by
    rw [vd_false, show h - 1 = (-1) + h by omega, pw_add, pw_neg1]
    push_cast
    grind
  have hWs : (W : Rat) * 18014398509481984 ≤ ((m <<< mo : Nat) : Rat) := by
    have : W * 18014398509481984 ≤ W * W := Nat.mul_le_mul_left W hW54
    have h' : W * 18014398509481984 ≤ m <<< mo := Nat.le_trans this hWn
    exact_mod_cast h'
  have hN1 : (1 : Rat) * 18014398509481984 ≤ ((m <<< mo : Nat) : Rat) := by
    have h' : 1 * 18014398509481984 ≤ m <<< mo := Nat.le_trans (by decide) hn
    exact_mod_cast h'
  rw [hv] at h1 h2 ⊢
  have hph := pw_pos h
  generalize ((m <<< mo : Nat) : Rat) = N at *
  obtain ⟨Q, hQe⟩ : ∃ Q, Q = (W : Rat) + (b : Rat) / 2 := ⟨_, rfl⟩
  rw [← hQe] at hQ hq
  have hQ0 : 0 < Q := by rw [hQe]; grind
  obtain ⟨q, hqe⟩ : ∃ q, q = Q * pw h := ⟨_, rfl⟩
  rw [← hqe] at hq
  have hq0 : 0 < q := by rw [hqe]; exact Rat.mul_pos hQ0 hph
  obtain ⟨v, hve⟩ : ∃ v, v = N * pw h * pw h := ⟨_, rfl⟩
  rw [← hve] at h1 h2 ⊢
  -- the root's square is near
  have hqq : Wn (q * q - v) (uu * v) := by
    have hpp := Rat.mul_pos hph hph
    have e1 : q * q - v = (Q * Q - N) * (pw h * pw h) := by rw [hqe, hve]; grind
    have e2 : uu * v = (uu * N) * (pw h * pw h) := by rw [hve]; grind
    have hQ' : Wn (Q * Q - N) (uu * N) := hQ.mono (by rw [uu_eq]; grind)
    rw [e1, e2]
    obtain ⟨a1, a2⟩ := hQ'
    have m1 := Rat.mul_le_mul_of_nonneg_right a1 (Rat.le_of_lt hpp)
    have m2 := Rat.mul_le_mul_of_nonneg_right a2 (Rat.le_of_lt hpp)
    constructor <;> grind
  have huv : uu * v ≤ v / 1000 := by rw [uu_eq]; grind
  have hqlo : 49 / 100 ≤ q := by
    rcases Rat.le_total (a := 49 / 100) (b := q) with h' | h'
    · exact h'
    · exfalso
      have := Rat.mul_nonneg (show 0 ≤ 49 / 100 - q by grind) (show 0 ≤ 49 / 100 + q by grind)
      have := hqq.1
      grind
  have hqhi : q ≤ pw 1001 := by
    have h1001 : pw 1001 = pw 1000 * 2 := by rw [show (1001 : Int) = 1000 + 1 by decide, pw_add, pw_one]
    have h1000 : 1 ≤ pw 1000 := by have := pw_mono (show (0 : Int) ≤ 1000 by decide); rw [pw_zero] at this; exact this
    rcases Rat.le_total (a := q) (b := 1) with h' | h'
    · rw [h1001]; generalize pw 1000 = z at *; grind
    · have := Rat.mul_le_mul_of_nonneg_left h' (Rat.le_of_lt hq0)
      have := hqq.2
      rw [h1001]; generalize pw 1000 = z at *; grind
  obtain ⟨m', p', hr, hp', hw⟩ := near_err false (2 * W + b) (h - 1) (vd_bound (by rw [hq]; exact Rat.le_trans hqhi (pw_mono (by decide))))
  rw [hq, ← vl_of hr] at hw
  have het : eta ≤ uu * q := by
    have h1 : eta ≤ pw (-60) := pw_mono (by decide)
    have h2 : pw (-60) = 1 / 1152921504606846976 := by
      have h := pw_add (-60) 60
      rw [show (-60 + 60 : Int) = 0 by decide, pw_zero] at h
      have h2 : pw 60 = 1152921504606846976 := by have := pw_nat 60; exact this
      rw [h2] at h
      generalize pw (-60) = z at *
      grind
    rw [h2] at h1
    rw [uu_eq]
    grind
  refine ⟨⟨_, _, _, hr⟩, ?_, ?_⟩
  · have := hw.1
    rw [uu_eq] at *
    grind
  · generalize vl (D.nearest false (2 * W + b) (h - 1)) = r at *
    have hrq : Wn (r - q) (2 * uu * q) := hw.mono (by grind)
    have hrq2 : Wn (r + q) (3 * q) := by
      obtain ⟨a1, a2⟩ := hrq
      rw [uu_eq] at *
      constructor <;> grind
    have hm' := wn_mul hrq hrq2
    have e1 : (r - q) * (r + q) = r * r - q * q := by grind
    rw [e1] at hm'
    have e2 : 2 * uu * q * (3 * q) = 6 * (uu * (q * q)) := by grind
    rw [e2] at hm'
    have hu2 : uu * (q * q) ≤ uu * (v + v / 1000) := Rat.mul_le_mul_of_nonneg_left (by have := hqq.2; grind) (Rat.le_of_lt uu_pos)
    have e3 : uu * (v + v / 1000) = uu * v + uu * v / 1000 := by grind
    rw [e3] at hu2
    have huv0 : 0 ≤ uu * v := Rat.mul_nonneg (Rat.le_of_lt uu_pos) (by grind)
    have e4 : 8 * uu * v = 8 * (uu * v) := by grind
    rw [e4]
    obtain ⟨a1, a2⟩ := hqq
    obtain ⟨b1, b2⟩ := hm'
    generalize uu * v = y at *
    constructor <;> grind
end Go.Fp

/- Sine and cosine as floats: how far they are off the polynomials'. -/
namespace Go.Fp.Tri
open Go.Fp Ieee
set_option maxRecDepth 20000

theorem v_k0 : Fin 13818544856648471893 ∧ vl 13818544856648471893 = -6004799503160661 / 36028797018963968 := vl_const (s := true) (m := 6004799503160661) (k := 55) (by decide +kernel) (by decide +kernel)
theorem v_k1 : Fin 4575957461383581969 ∧ vl 4575957461383581969 = 4803839602528529 / 576460752303423488 := vl_const (s := false) (m := 4803839602528529) (k := 59) (by decide +kernel) (by decide +kernel)
theorem v_k2 : Fin 13774824197408792602 ∧ vl 13774824197408792602 = -3660068268593165 / 18446744073709551616 := vl_const (s := true) (m := 7320136537186330) (k := 65) (by decide +kernel) (by decide +kernel)
theorem v_k3 : Fin 4523617214285662004 ∧ vl 4523617214285662004 = 1626697008263629 / 590295810358705651712 := vl_const (s := false) (m := 6506788033054516) (k := 71) (by decide +kernel) (by decide +kernel)
theorem v_k4 : Fin 13716528800881525988 ∧ vl 13716528800881525988 = -1892883791434041 / 75557863725914323419136 := vl_const (s := true) (m := 7571535165736164) (k := 78) (by decide +kernel) (by decide +kernel)
theorem v_k5 : Fin 4460272573143870729 ∧ vl 4460272573143870729 = 6212541674450185 / 38685626227668133590597632 := vl_const (s := false) (m := 6212541674450185) (k := 85) (by decide +kernel) (by decide +kernel)
theorem v_k6 : Fin 13648976655441704991 ∧ vl 13648976655441704991 = -7573384136472607 / 9903520314283042199192993792 := vl_const (s := true) (m := 7573384136472607) (k := 93) (by decide +kernel) (by decide +kernel)
theorem v_k7 : Fin 4389130328383466826 ∧ vl 4389130328383466826 = 3563945475987109 / 1267650600228229401496703205376 := vl_const (s := false) (m := 7127890951974218) (k := 101) (by decide +kernel) (by decide +kernel)
theorem v_d0 : Fin 13826050856027422720 ∧ vl 13826050856027422720 = -1 / 2 := vl_const (s := true) (m := 4503599627370496) (k := 53) (by decide +kernel) (by decide +kernel)
theorem v_d1 : Fin 4586165620538955093 ∧ vl 4586165620538955093 = 6004799503160661 / 144115188075855872 := vl_const (s := false) (m := 6004799503160661) (k := 57) (by decide +kernel) (by decide +kernel)
theorem v_d2 : Fin 13787419979223755799 ∧ vl 13787419979223755799 = -6405119470038039 / 4611686018427387904 := vl_const (s := true) (m := 6405119470038039) (k := 62) (by decide +kernel) (by decide +kernel)
theorem v_d3 : Fin 4537941361671905306 ∧ vl 4537941361671905306 = 3660068268593165 / 147573952589676412928 := vl_const (s := false) (m := 7320136537186330) (k := 68) (by decide +kernel) (by decide +kernel)
theorem v_d4 : Fin 13732177094651715420 ∧ vl 13732177094651715420 = -1301357606610903 / 4722366482869645213696 := vl_const (s := true) (m := 5205430426443612) (k := 74) (by decide +kernel) (by decide +kernel)
theorem v_d5 : Fin 4477122120089393304 ∧ vl 4477122120089393304 = 630961263811347 / 302231454903657293676544 := vl_const (s := false) (m := 5047690110490776) (k := 81) (by decide +kernel) (by decide +kernel)
theorem v_d6 : Fin 13666517717442657437 ∧ vl 13666517717442657437 = -7100047627943069 / 618970019642690137449562112 := vl_const (s := true) (m := 7100047627943069) (k := 89) (by decide +kernel) (by decide +kernel)
theorem v_d7 : Fin 4407590220077447199 ∧ vl 4407590220077447199 = 7573384136472607 / 158456325028528675187087900672 := vl_const (s := false) (m := 7573384136472607) (k := 97) (by decide +kernel) (by decide +kernel)
theorem v_rad : Fin RAD ∧ vl RAD = rho := vl_const (s := false) (m := 5401532406949459) (k := 88) (by decide +kernel) (by decide +kernel)
theorem v_1 : Fin one ∧ vl one = 1 := vl_const (s := false) (m := 4503599627370496) (k := 52) (by decide +kernel) (by decide +kernel)
/-- the coefficients as the program rounds them, and what they ought to be -/
def kV : List Rat := [-6004799503160661 / 36028797018963968, 4803839602528529 / 576460752303423488, -3660068268593165 / 18446744073709551616, 1626697008263629 / 590295810358705651712, -1892883791434041 / 75557863725914323419136, 6212541674450185 / 38685626227668133590597632, -7573384136472607 / 9903520314283042199192993792, 3563945475987109 / 1267650600228229401496703205376]
def dV : List Rat := [-1 / 2, 6004799503160661 / 144115188075855872, -6405119470038039 / 4611686018427387904, 3660068268593165 / 147573952589676412928, -1301357606610903 / 4722366482869645213696, 630961263811347 / 302231454903657293676544, -7100047627943069 / 618970019642690137449562112, 7573384136472607 / 158456325028528675187087900672]
def kE : List Rat := [-inv 3, inv 5, -inv 7, inv 9, -inv 11, inv 13, -inv 15, inv 17]
def dE : List Rat := [-inv 2, inv 4, -inv 6, inv 8, -inv 10, inv 12, -inv 14, inv 16]
theorem kk_V : KK.map vl = kV := by
  unfold KK kV
  simp only [List.map_cons, List.map_nil, v_k0.2, v_k1.2, v_k2.2, v_k3.2, v_k4.2, v_k5.2, v_k6.2, v_k7.2]
theorem dd_V : DD.map vl = dV := by
  unfold DD dV
  simp only [List.map_cons, List.map_nil, v_d0.2, v_d1.2, v_d2.2, v_d3.2, v_d4.2, v_d5.2, v_d6.2, v_d7.2]
theorem kk_fin : ∀ c ∈ KK, Fin c ∧ Wn (vl c) (1 / 2) := by
  intro c hc
  unfold KK at hc
  simp only [List.mem_cons, List.not_mem_nil, or_false] at hc
  rcases hc with rfl | rfl | rfl | rfl | rfl | rfl | rfl | rfl
  · exact ⟨v_k0.1, by rw [v_k0.2]; constructor <;> grind⟩
  · exact ⟨v_k1.1, by rw [v_k1.2]; constructor <;> grind⟩
  · exact ⟨v_k2.1, by rw [v_k2.2]; constructor <;> grind⟩
  · exact ⟨v_k3.1, by rw [v_k3.2]; constructor <;> grind⟩
  · exact ⟨v_k4.1, by rw [v_k4.2]; constructor <;> grind⟩
  · exact ⟨v_k5.1, by rw [v_k5.2]; constructor <;> grind⟩
  · exact ⟨v_k6.1, by rw [v_k6.2]; constructor <;> grind⟩
  · exact ⟨v_k7.1, by rw [v_k7.2]; constructor <;> grind⟩
theorem dd_fin : ∀ c ∈ DD, Fin c ∧ Wn (vl c) (1 / 2) := by
  intro c hc
  unfold DD at hc
  simp only [List.mem_cons, List.not_mem_nil, or_false] at hc
  rcases hc with rfl | rfl | rfl | rfl | rfl | rfl | rfl | rfl
  · exact ⟨v_d0.1, by rw [v_d0.2]; constructor <;> grind⟩
  · exact ⟨v_d1.1, by rw [v_d1.2]; constructor <;> grind⟩
  · exact ⟨v_d2.1, by rw [v_d2.2]; constructor <;> grind⟩
  · exact ⟨v_d3.1, by rw [v_d3.2]; constructor <;> grind⟩
  · exact ⟨v_d4.1, by rw [v_d4.2]; constructor <;> grind⟩
  · exact ⟨v_d5.1, by rw [v_d5.2]; constructor <;> grind⟩
  · exact ⟨v_d6.1, by rw [v_d6.2]; constructor <;> grind⟩
  · exact ⟨v_d7.1, by rw [v_d7.2]; constructor <;> grind⟩
theorem k_diff : pbd (padd kV (pneg kE)) (62 / 100) ≤ 1 / 10000000000000000 := by decide +kernel
theorem d_diff : pbd (padd dV (pneg dE)) (62 / 100) ≤ 1 / 10000000000000000 := by decide +kernel
theorem k_lip : plip kE (62 / 100) ≤ 1 / 10 := by decide +kernel
theorem d_lip : plip dE (62 / 100) ≤ 1 / 10 := by decide +kernel
theorem k_bd : pbd kE (62 / 100) ≤ 2 / 10 := by decide +kernel
theorem d_bd : pbd dE (62 / 100) ≤ 6 / 10 := by decide +kernel
theorem pev_neg (p : List Rat) (y : Rat) : pev (pneg p) y = - pev p y := by unfold pneg; rw [pev_scale]; grind
/-- the walk down the coefficients -/
theorem hor_err {z : Nat} (hz : Fin z) (bz : Wn (vl z) (62 / 100)) : ∀ l : List Nat, l ≠ [] → (∀ c ∈ l, Fin c ∧ Wn (vl c) (1 / 2)) →
    Fin (hor z l) ∧ Wn (vl (hor z l) - pev (l.map vl) (vl z)) (14 * uu) ∧ Wn (pev (l.map vl) (vl z)) (132 / 100)
  | [], h, _ => absurd rfl h
  | [c], _, hl => by
    obtain ⟨h1, h2⟩ := hl c (by simp)
    have e : pev ([c].map vl) (vl z) = vl c := by simp only [List.map_cons, List.map_nil, pev]; grind
    rw [e]
    refine ⟨h1, ?_, h2.mono (by grind)⟩
    have := uu_pos
    show Wn (vl c - vl c) _
    constructor <;> grind
  | c :: d :: r, _, hl => by
    obtain ⟨i1, i2, i3⟩ := hor_err hz bz (d :: r) (by simp) (fun x hx => hl x (List.mem_cons_of_mem _ hx))
    obtain ⟨h1, h2⟩ := hl c (by simp)
    have e : pev ((c :: d :: r).map vl) (vl z) = vl c + vl z * pev ((d :: r).map vl) (vl z) := rfl
    rw [e]
    show Fin (fadd c (fmul z (hor z (d :: r)))) ∧ Wn (vl (fadd c (fmul z (hor z (d :: r)))) - _) _ ∧ _
    generalize hor z (d :: r) = H at *
    generalize pev ((d :: r).map vl) (vl z) = P at *
    have u1 : uu ≤ 1 / 1000000 := by rw [uu_eq]; grind
    have u0 := uu_pos
    have bH : Wn (vl H) (133 / 100) := (wn_add i2 i3).of (by grind) (by grind)
    have b1 : Wn (vl z * vl H) (83 / 100) := (wn_mul bz bH).mono (by grind)
    obtain ⟨f1, e1⟩ := mulE hz i1 _ b1 (by grind)
    have b2 : Wn (vl (fmul z H)) (84 / 100) := (wn_add e1 b1).of (by grind) (by grind)
    have b3 : Wn (vl c + vl (fmul z H)) (134 / 100) := (wn_add h2 b2).mono (by grind)
    obtain ⟨f2, e2⟩ := addE h1 f1 _ b3 (by grind)
    have e3 := wn_mul bz i2
    have b4 := wn_mul bz i3
    refine ⟨f2, ?_, ?_⟩
    · obtain ⟨_, _⟩ := e1
      obtain ⟨_, _⟩ := e2
      obtain ⟨_, _⟩ := e3
      constructor <;> grind
    · exact (wn_add h2 b4).mono (by grind)
theorem S_hor (x : Rat) : S x = x * (1 + x * x * pev kE (x * x)) := by simp only [S, PS, kE, pev]; grind
theorem C_hor (x : Rat) : C x = 1 + x * x * pev dE (x * x) := by simp only [C, PC, dE, pev]; grind
theorem poly_err {v e : List Rat} {z y D : Rat} (hz : Wn z (62 / 100)) (hy : Wn y (62 / 100)) (hd : Wn (z - y) D) (h1 : pbd (padd v (pneg e)) (62 / 100) ≤ 1 / 10000000000000000) (h2 : plip e (62 / 100) ≤ 1 / 10) :
    Wn (pev v z - pev e y) (1 / 10000000000000000 + D * (1 / 10)) := by
  have a1 := (wn_pev (padd v (pneg e)) hz).mono h1
  rw [pev_add, pev_neg] at a1
  have a2 := (wn_lip e hz hy hd).mono (Rat.mul_le_mul_of_nonneg_left h2 hd.nonneg)
  exact (wn_add a1 a2).of (by grind) (by grind)
/-- sine and cosine of what is left over of a quarter -/
theorem sc_err {r : Int} (h1 : -45000000000 ≤ r) (h2 : r ≤ 45000000000) (x z s c : Nat) (hx : x = fmul (floatOfInt .f64 r) RAD) (hz : z = fmul x x)
    (hs : s = fmul x (fadd one (fmul z (hor z KK)))) (hc : c = fadd one (fmul z (hor z DD))) :
    (Fin s ∧ Wn (vl s - S ((r : Rat) * rho)) (1 / 100000000000000)) ∧ (Fin c ∧ Wn (vl c - C ((r : Rat) * rho)) (1 / 100000000000000)) := by
  obtain ⟨i1, i2⟩ := vl_int r (by omega)
  have hb := arg_bd h1 h2
  have u1 : uu = 1 / 9007199254740992 := uu_eq
  obtain ⟨fx, ex⟩ := mulE i1 v_rad.1 (7855 / 10000) (by rw [i2, v_rad.2]; exact hb) (by grind)
  rw [i2, v_rad.2, ← hx] at ex
  rw [← hx] at fx
  have S0 := S_hor ((r : Rat) * rho)
  have C0 := C_hor ((r : Rat) * rho)
  generalize S ((r : Rat) * rho) = Sv at *
  generalize C ((r : Rat) * rho) = Cv at *
  generalize (r : Rat) * rho = y at *
  have bx : Wn (vl x) (78551 / 100000) := (wn_add ex hb).of (by grind) (by (try rw [u1]); grind)
  have bxx : Wn (vl x * vl x) (61703 / 100000) := (wn_mul bx bx).mono (by grind)
  obtain ⟨fz, ez⟩ := mulE fx fx _ bxx (by grind)
  rw [← hz] at fz ez
  have bz : Wn (vl z) (62 / 100) := (wn_add ez bxx).of (by grind) (by (try rw [u1]); grind)
  have byy : Wn (y * y) (62 / 100) := (wn_mul hb hb).mono (by grind)
  have edd := wn_mul ex (show Wn (vl x + y) (1572 / 1000) from (wn_add bx hb).mono (by grind))
  have eD : Wn (vl z - y * y) (5 * uu) := (wn_add ez edd).of (by grind) (by (try rw [u1]); grind)
  obtain ⟨k1, k2, k3⟩ := hor_err fz bz KK (by decide) kk_fin
  obtain ⟨d1, d2, d3⟩ := hor_err fz bz DD (by decide) dd_fin
  rw [kk_V] at k2 k3
  rw [dd_V] at d2 d3
  have kp := poly_err bz byy eD k_diff k_lip
  have dp := poly_err bz byy eD d_diff d_lip
  have kb := (wn_pev kE byy).mono k_bd
  have db := (wn_pev dE byy).mono d_bd
  generalize hor z KK = hk at *
  generalize hor z DD = hd at *
  generalize pev kV (vl z) = kv at *
  generalize pev dV (vl z) = dv at *
  generalize pev kE (y * y) = ke at *
  generalize pev dE (y * y) = de at *
  have ek : Wn (vl hk - ke) (1 / 400000000000000) := (wn_add k2 kp).of (by grind) (by (try rw [u1]); grind)
  have ed : Wn (vl hd - de) (1 / 400000000000000) := (wn_add d2 dp).of (by grind) (by (try rw [u1]); grind)
  have bk : Wn (vl hk) (21 / 100) := (wn_add ek kb).of (by grind) (by (try rw [u1]); grind)
  have bd : Wn (vl hd) (61 / 100) := (wn_add ed db).of (by grind) (by (try rw [u1]); grind)
  generalize y * y = yy at *
  -- z times that
  obtain ⟨f1, e1⟩ := mulE fz k1 _ (wn_mul bz bk) (by grind)
  obtain ⟨g1, l1⟩ := mulE fz d1 _ (wn_mul bz bd) (by grind)
  have m1 : Wn (vl z * vl hk - yy * ke) (1 / 500000000000000) := (wn_add (wn_mul bz ek) (wn_mul eD kb)).of (by grind) (by (try rw [u1]); grind)
  have m2 : Wn (vl z * vl hd - yy * de) (1 / 500000000000000) := (wn_add (wn_mul bz ed) (wn_mul eD db)).of (by grind) (by (try rw [u1]); grind)
  have q1 : Wn (vl (fmul z hk) - yy * ke) (1 / 400000000000000) := (wn_add e1 m1).of (by grind) (by (try rw [u1]); grind)
  have q2 : Wn (vl (fmul z hd) - yy * de) (1 / 400000000000000) := (wn_add l1 m2).of (by grind) (by (try rw [u1]); grind)
  have p1 := (wn_mul byy kb)
  have p2 := (wn_mul byy db)
  have bq1 : Wn (vl (fmul z hk)) (13 / 100) := (wn_add q1 p1).of (by grind) (by (try rw [u1]); grind)
  have bq2 : Wn (vl (fmul z hd)) (38 / 100) := (wn_add q2 p2).of (by grind) (by (try rw [u1]); grind)
  have b1 : Wn (vl one) 1 := by rw [v_1.2]; constructor <;> grind
  obtain ⟨f2, e2⟩ := addE v_1.1 f1 _ (wn_add b1 bq1) (by grind)
  obtain ⟨g2, l2⟩ := addE v_1.1 g1 _ (wn_add b1 bq2) (by grind)
  rw [v_1.2] at e2 l2
  have r1 : Wn (vl (fadd one (fmul z hk)) - (1 + yy * ke)) (1 / 300000000000000) := (wn_add e2 q1).of (by grind) (by (try rw [u1]); grind)
  have r2 : Wn (vl (fadd one (fmul z hd)) - (1 + yy * de)) (1 / 300000000000000) := (wn_add l2 q2).of (by grind) (by (try rw [u1]); grind)
  have br : Wn (1 + yy * ke) (113 / 100) := (wn_add (show Wn (1 : Rat) 1 from ⟨by grind, by grind⟩) p1).mono (by grind)
  have br2 : Wn (vl (fadd one (fmul z hk))) (114 / 100) := (wn_add r1 br).of (by grind) (by (try rw [u1]); grind)
  obtain ⟨f3, e3⟩ := mulE fx f2 _ (wn_mul bx br2) (by grind)
  rw [← hs] at f3 e3
  rw [← hc] at g2 r2
  refine ⟨⟨f3, ?_⟩, ⟨g2, ?_⟩⟩
  · have t1 := wn_add (wn_mul bx r1) (wn_mul ex br)
    rw [S0]
    exact (wn_add e3 t1).of (by grind) (by (try rw [u1]); grind)
  · rw [C0]
    exact r2.mono (by grind)
end Go.Fp.Tri

/- The program's sine and cosine of any angle against the polynomials. -/
namespace Go.Fp.Tri
open Go.Fp Ieee
set_option maxRecDepth 20000

theorem rem_in (b : Int) : -45000000000 ≤ b - quart b * 90000000000 ∧ b - quart b * 90000000000 ≤ 45000000000 := by unfold quart; omega
abbrev tol : Rat := 1 / 100000000000000
def Near (x : Nat) (v : Rat) : Prop := Fin x ∧ Wn (vl x - v) tol
theorem Near.neg {x : Nat} {v : Rat} (h : Near x v) : Near (Op.negFloat .f64 x) (-v) := by
  obtain ⟨h1, h2⟩ := h
  obtain ⟨k1, k2⟩ := vl_neg x h1
  refine ⟨k1, ?_⟩
  rw [k2]
  obtain ⟨a, b⟩ := h2
  constructor <;> grind
/-- what is left over of the quarter -/
def lef (a : Int) : Rat := ((normP a - quart (normP a) * 90000000000 : Int) : Rat) * rho
theorem sOf_near (a : Int) : Near (sOf (normP a)) (S (lef a)) ∧ Near (cOf (normP a)) (C (lef a)) := by
  obtain ⟨h1, h2⟩ := rem_in (normP a)
  exact sc_err h1 h2 (xOf (normP a)) (zOf (normP a)) _ _ rfl rfl rfl rfl
theorem trig0 {a : Int} (h : quart (normP a) % 4 = 0) : Near (sinP a) (S (lef a)) ∧ Near (cosP a) (C (lef a)) := by
  obtain ⟨h1, h2⟩ := sOf_near a
  unfold sinP cosP sinN cosN
  rw [if_pos h, if_pos h]
  exact ⟨h1, h2⟩
theorem trig1 {a : Int} (h : quart (normP a) % 4 = 1) : Near (sinP a) (C (lef a)) ∧ Near (cosP a) (-S (lef a)) := by
  obtain ⟨h1, h2⟩ := sOf_near a
  unfold sinP cosP sinN cosN
  rw [if_neg (by omega), if_pos h, if_neg (by omega), if_pos h]
  exact ⟨h2, h1.neg⟩
theorem trig2 {a : Int} (h : quart (normP a) % 4 = 2) : Near (sinP a) (-S (lef a)) ∧ Near (cosP a) (-C (lef a)) := by
  obtain ⟨h1, h2⟩ := sOf_near a
  unfold sinP cosP sinN cosN
  rw [if_neg (by omega), if_neg (by omega), if_pos h, if_neg (by omega), if_neg (by omega), if_pos h]
  exact ⟨h1.neg, h2.neg⟩
theorem trig3 {a : Int} (h : quart (normP a) % 4 = 3) : Near (sinP a) (-C (lef a)) ∧ Near (cosP a) (S (lef a)) := by
  obtain ⟨h1, h2⟩ := sOf_near a
  unfold sinP cosP sinN cosN
  rw [if_neg (by omega), if_neg (by omega), if_neg (by omega), if_neg (by omega), if_neg (by omega), if_neg (by omega)]
  exact ⟨h2.neg, h1⟩
theorem lef_eq {a r : Int} (h : normP a - quart (normP a) * 90000000000 = r) : lef a = (r : Rat) * rho := by unfold lef; rw [h]
/-- from minus a quarter of a turn to a quarter -/
theorem trig_lat {a : Int} (h1 : -90000000000 ≤ a) (h2 : a ≤ 90000000000) : Near (sinP a) (sI a) ∧ Near (cosP a) (cI a) := by
  rcases Int.lt_or_le a (-45000000000) with c1 | c1
  · have hq : quart (normP a) % 4 = 3 := by unfold quart normP; omega
    have e := lef_eq (a := a) (r := a + 90000000000) (by unfold quart normP; omega)
    have := trig3 hq
    unfold sI cI
    rw [if_pos c1, if_pos c1, ← e]; exact this
  · rcases Int.lt_or_le a 45000000000 with c2 | c2
    · have hq : quart (normP a) % 4 = 0 := by unfold quart normP; omega
      have e := lef_eq (a := a) (r := a) (by unfold quart normP; omega)
      have := trig0 hq
      unfold sI cI
      rw [if_neg (by omega), if_pos c2, if_neg (by omega), if_pos c2, ← e]; exact this
    · have hq : quart (normP a) % 4 = 1 := by unfold quart normP; omega
      have e := lef_eq (a := a) (r := a - 90000000000) (by unfold quart normP; omega)
      have := trig1 hq
      unfold sI cI
      rw [if_neg (by omega), if_neg (by omega), if_neg (by omega), if_neg (by omega), ← e]; exact this
/-- half a turn on, both change their signs -/
theorem trig_half {a : Int} (h1 : 90000000000 ≤ a) (h2 : a ≤ 270000000000) : Near (sinP a) (-sI (a - 180000000000)) ∧ Near (cosP a) (-cI (a - 180000000000)) := by
  rcases Int.lt_or_le a 135000000000 with c1 | c1
  · have hq : quart (normP a) % 4 = 1 := by unfold quart normP; omega
    have e := lef_eq (a := a) (r := a - 180000000000 + 90000000000) (by unfold quart normP; omega)
    have := trig1 hq
    unfold sI cI
    rw [if_pos (by omega), if_pos (by omega), ← e, show - -C (lef a) = C (lef a) by grind]; exact this
  · rcases Int.lt_or_le a 225000000000 with c2 | c2
    · have hq : quart (normP a) % 4 = 2 := by unfold quart normP; omega
      have e := lef_eq (a := a) (r := a - 180000000000) (by unfold quart normP; omega)
      have := trig2 hq
      unfold sI cI
      rw [if_neg (by omega), if_pos (by omega), if_neg (by omega), if_pos (by omega), ← e]; exact this
    · have hq : quart (normP a) % 4 = 3 := by unfold quart normP; omega
      have e := lef_eq (a := a) (r := a - 180000000000 - 90000000000) (by unfold quart normP; omega)
      have := trig3 hq
      unfold sI cI
      rw [if_neg (by omega), if_neg (by omega), if_neg (by omega), if_neg (by omega), ← e, show - -S (lef a) = S (lef a) by grind]; exact this

/-! the bisection -/
theorem bis_ok (p : Int → Bool) : ∀ (n : Nat) (lo hi l0 h0 : Int), lo < hi → (hi - lo).toNat ≤ n → (p lo = true ∨ lo = l0) → (p hi = false ∨ hi = h0) →
    lo ≤ bis p n lo hi ∧ bis p n lo hi < hi ∧ (p (bis p n lo hi) = true ∨ bis p n lo hi = l0) ∧ (p (bis p n lo hi + 1) = false ∨ bis p n lo hi + 1 = h0)
  | 0, lo, hi, l0, h0, h, hn, _, _ => by omega
  | n + 1, lo, hi, l0, h0, h, hn, hl, hh => by
    unfold bis
    split
    · split
      · rename_i h1 h2
        obtain ⟨a, b, c, d⟩ := bis_ok p n ((lo + hi) / 2) hi l0 h0 (by omega) (by omega) (.inl h2) hh
        exact ⟨by omega, b, c, d⟩
      · rename_i h1 h2
        obtain ⟨a, b, c, d⟩ := bis_ok p n lo ((lo + hi) / 2) l0 h0 (by omega) (by omega) hl (.inl (by simpa using h2))
        exact ⟨a, by omega, c, d⟩
    · have e : lo + 1 = hi := by omega
      rw [e]
      exact ⟨by omega, by omega, hl, hh⟩
theorem quad_ok (u w : Nat) : 0 ≤ quad u w ∧ quad u w ≤ 90000000000 ∧ (fle (fmul (sinP (quad u w)) u) (fmul (cosP (quad u w)) w) = true ∨ quad u w = 0) ∧ (fle (fmul (sinP (quad u w + 1)) u) (fmul (cosP (quad u w + 1)) w) = false ∨ quad u w = 90000000000) := by
  obtain ⟨a, b, c, d⟩ := bis_ok (fun m => fle (fmul (sinP m) u) (fmul (cosP m) w)) (90000000001 - 0 : Int).toNat 0 90000000001 0 90000000001 (by omega) (by omega) (.inr rfl) (.inr rfl)
  have e : quad u w = bis (fun m => fle (fmul (sinP m) u) (fmul (cosP m) w)) (90000000001 - 0 : Int).toNat 0 90000000001 := by unfold quad bisect; rfl
  rw [e]
  generalize bis (fun m => fle (fmul (sinP m) u) (fmul (cosP m) w)) (90000000001 - 0 : Int).toNat 0 90000000001 = q at *
  refine ⟨a, by omega, c, ?_⟩
  rcases d with d | d
  · exact .inl d
  · exact .inr (by omega)

end Go.Fp.Tri

/- The unit circle by polynomials, at any angle: the addition law. -/
namespace Go.Fp.Tri
open Go.Fp
set_option maxRecDepth 20000

/-- turned by so many quarters -/
def rot (q : Int) (z : Cx) : Cx := if q % 4 = 0 then z else if q % 4 = 1 then ⟨-z.im, z.re⟩ else if q % 4 = 2 then ⟨-z.re, -z.im⟩ else ⟨z.im, -z.re⟩
theorem mod4 (q : Int) : q % 4 = 0 ∨ q % 4 = 1 ∨ q % 4 = 2 ∨ q % 4 = 3 := by omega
theorem rot0 {q : Int} (h : q % 4 = 0) (z : Cx) : rot q z = z := by unfold rot; rw [if_pos h]
theorem rot1 {q : Int} (h : q % 4 = 1) (z : Cx) : rot q z = ⟨-z.im, z.re⟩ := by unfold rot; rw [if_neg (by omega), if_pos h]
theorem rot2 {q : Int} (h : q % 4 = 2) (z : Cx) : rot q z = ⟨-z.re, -z.im⟩ := by unfold rot; rw [if_neg (by omega), if_neg (by omega), if_pos h]
theorem rot3 {q : Int} (h : q % 4 = 3) (z : Cx) : rot q z = ⟨z.im, -z.re⟩ := by unfold rot; rw [if_neg (by omega), if_neg (by omega), if_neg (by omega)]
theorem rot_add (p q : Int) (z : Cx) : rot (p + q) z = rot p (rot q z) := by
  rcases mod4 p with hp | hp | hp | hp <;> rcases mod4 q with hq | hq | hq | hq <;>
    first
      | (rw [rot0 (q := p + q) (by omega)]; first | rw [rot0 hp, rot0 hq] | (rw [rot1 hp, rot3 hq]; exact Cx.ext' (by simp) (by simp)) | (rw [rot2 hp, rot2 hq]; exact Cx.ext' (by simp) (by simp)) | (rw [rot3 hp, rot1 hq]; exact Cx.ext' (by simp) (by simp)))
      | (rw [rot1 (q := p + q) (by omega)]; first | (rw [rot0 hp, rot1 hq]) | (rw [rot1 hp, rot0 hq]) | (rw [rot2 hp, rot3 hq]; exact Cx.ext' (by simp) (by simp)) | (rw [rot3 hp, rot2 hq]; exact Cx.ext' (by simp) (by simp)))
      | (rw [rot2 (q := p + q) (by omega)]; first | (rw [rot0 hp, rot2 hq]) | (rw [rot2 hp, rot0 hq]) | (rw [rot1 hp, rot1 hq]; done) | (rw [rot3 hp, rot3 hq]; done))
      | (rw [rot3 (q := p + q) (by omega)]; first | (rw [rot0 hp, rot3 hq]) | (rw [rot3 hp, rot0 hq]) | (rw [rot1 hp, rot2 hq]; exact Cx.ext' (by simp) (by simp)) | (rw [rot2 hp, rot1 hq]; exact Cx.ext' (by simp) (by simp)))
theorem rot_mul (q : Int) (z w : Cx) : rot q (z.mul w) = (rot q z).mul w := by
  rcases mod4 q with h | h | h | h
  · rw [rot0 h, rot0 h]
  · rw [rot1 h, rot1 h]; exact Cx.ext' (by simp; grind) (by simp; grind)
  · rw [rot2 h, rot2 h]; exact Cx.ext' (by simp; grind) (by simp; grind)
  · rw [rot3 h, rot3 h]; exact Cx.ext' (by simp; grind) (by simp; grind)
theorem rot_sub (q : Int) (z w : Cx) : rot q (z.sub w) = (rot q z).sub (rot q w) := by
  rcases mod4 q with h | h | h | h
  · rw [rot0 h, rot0 h, rot0 h]
  · rw [rot1 h, rot1 h, rot1 h]; exact Cx.ext' (by simp; grind) (by simp)
  · rw [rot2 h, rot2 h, rot2 h]; exact Cx.ext' (by simp; grind) (by simp; grind)
  · rw [rot3 h, rot3 h, rot3 h]; exact Cx.ext' (by simp) (by simp; grind)
theorem MB.rot {z : Cx} {r : Rat} (h : MB z r) (q : Int) : MB (Tri.rot q z) r := by
  refine ⟨h.1, ?_⟩
  have h2 := h.2
  rcases mod4 q with k | k | k | k
  · rw [rot0 k]; exact h2
  · rw [rot1 k]; show -z.im * -z.im + z.re * z.re ≤ _; grind
  · rw [rot2 k]; show -z.re * -z.re + -z.im * -z.im ≤ _; grind
  · rw [rot3 k]; show z.im * z.im + -z.re * -z.re ≤ _; grind
/-- cosine and sine of an angle within an eighth of a turn -/
def cs (x : Rat) : Cx := ⟨C x, S x⟩
def cis (a : Int) : Cx := rot (quart (normP a)) (cs (lef a))
theorem cis_near (a : Int) : Near (cosP a) (cis a).re ∧ Near (sinP a) (cis a).im := by
  unfold cis
  rcases mod4 (quart (normP a)) with h | h | h | h
  · rw [rot0 h]; exact ⟨(trig0 h).2, (trig0 h).1⟩
  · rw [rot1 h]; exact ⟨(trig1 h).2, (trig1 h).1⟩
  · rw [rot2 h]; exact ⟨(trig2 h).2, (trig2 h).1⟩
  · rw [rot3 h]; exact ⟨(trig3 h).2, (trig3 h).1⟩
theorem add_S' {x y : Rat} (hx : Wn x (7855 / 10000)) (hy : Wn y (7855 / 10000)) : Wn (S (x + y) - (C x * S y + S x * C y)) (1 / 10000000000000) := by
  have h := add_S hx (y := -y) ⟨by have := hy.2; grind, by have := hy.1; grind⟩
  rw [S_odd, C_even, show x - -y = x + y by grind] at h
  obtain ⟨_, _⟩ := h
  constructor <;> grind
theorem add_C' {x y : Rat} (hx : Wn x (7855 / 10000)) (hy : Wn y (7855 / 10000)) : Wn (C (x + y) - (C x * C y - S x * S y)) (6 / 10000000000000) := by
  have h := add_C hx (y := -y) ⟨by have := hy.2; grind, by have := hy.1; grind⟩
  rw [S_odd, C_even, show x - -y = x + y by grind] at h
  obtain ⟨_, _⟩ := h
  constructor <;> grind
theorem half_turn' {u : Rat} (hu : Wn u (7855 / 10000)) : Wn (-S (u - oct) - C (u + oct)) (6 / 10000000000000) := by
  have h := half_turn (u := -u) ⟨by have := hu.2; grind, by have := hu.1; grind⟩
  rw [show -u - oct = -(u + oct) by grind, show -u + oct = -(u - oct) by grind, C_even, S_odd] at h
  obtain ⟨_, _⟩ := h
  constructor <;> grind
theorem oct_wn : Wn oct (7855 / 10000) ∧ 7853 / 10000 ≤ oct := by
  have h : oct = 45000000000 * rho := rfl
  have a := rho_lo
  have b := rho_hi
  rw [h]
  exact ⟨⟨by grind, by grind⟩, by grind⟩
/-- two angles within an eighth of a turn put together -/
theorem cs_add {x y z : Rat} {k : Int} (gx : Wn x oct) (gy : Wn y oct) (gz : Wn z oct) (hk : k = 0 ∨ k = 1 ∨ k = -1) (h : z = x + y - (k : Rat) * (2 * oct)) :
    MB ((rot k (cs z)).sub ((cs x).mul (cs y))) (2 / 1000000000000) := by
  have ho := oct_wn.1.2
  have hx : Wn x (7855 / 10000) := gx.mono ho
  have hy : Wn y (7855 / 10000) := gy.mono ho
  have s := add_S' hx hy
  have c := add_C' hx hy
  rcases hk with rfl | rfl | rfl
  · have e : z = x + y := by
      rw [h]
      have : ((0 : Int) : Rat) = 0 := rfl
      grind
    rw [rot0 (by decide), e]
    exact MB.of (x := 6 / 10000000000000) (y := 1 / 10000000000000) c (s.of (by show S (x + y) - (C x * S y + S x * C y) = _; rfl) Rat.le_refl) (by grind) (by grind)
  · have e : z + oct - oct = z := by grind
    have e1 : ((1 : Int) : Rat) = 1 := rfl
    have e2 : z + oct + oct = x + y := by rw [h, e1]; grind
    have bz : Wn (z + oct) (7855 / 10000) := by
      obtain ⟨o1, o2⟩ := oct_wn
      obtain ⟨_, _⟩ := gx
      obtain ⟨_, _⟩ := gy
      obtain ⟨_, _⟩ := gz
      obtain ⟨_, _⟩ := o1
      constructor
      · grind
      · have : z + oct = x + y - oct := by rw [h, e1]; grind
        grind
    have t1 := half_turn bz
    have t2 := half_turn' bz
    rw [e, e2] at t1 t2
    rw [rot1 (by decide)]
    refine MB.of (x := 12 / 10000000000000) (y := 7 / 10000000000000) ((wn_add t2 c).of ?_ (by grind)) ((wn_add t1 s).of ?_ (by grind)) (by grind) (by grind)
    · show -S z - C (x + y) + (C (x + y) - (C x * C y - S x * S y)) = -S z - (C x * C y - S x * S y)
      grind
    · show C z - S (x + y) + (S (x + y) - (C x * S y + S x * C y)) = C z - (C x * S y + S x * C y)
      grind
  · have e1 : ((-1 : Int) : Rat) = -1 := rfl
    have e : -z + oct - oct = -z := by grind
    have e2 : -z + oct + oct = -(x + y) := by rw [h, e1]; grind
    have bz : Wn (-z + oct) (7855 / 10000) := by
      obtain ⟨o1, o2⟩ := oct_wn
      obtain ⟨_, _⟩ := gx
      obtain ⟨_, _⟩ := gy
      obtain ⟨_, _⟩ := gz
      obtain ⟨_, _⟩ := o1
      constructor
      · grind
      · have : -z + oct = -(x + y) - oct := by rw [h, e1]; grind
        grind
    have t1 := half_turn bz
    have t2 := half_turn' bz
    rw [e, e2, S_odd, C_even] at t1
    rw [e, e2, S_odd, C_even] at t2
    rw [rot3 (by decide)]
    refine MB.of (x := 12 / 10000000000000) (y := 7 / 10000000000000) ((wn_add t2 c).of ?_ (by grind)) ((wn_sub s t1).of ?_ (by grind)) (by grind) (by grind)
    · show - -S z - C (x + y) + (C (x + y) - (C x * C y - S x * S y)) = S z - (C x * C y - S x * S y)
      grind
    · show S (x + y) - (C x * S y + S x * C y) - (C z - -S (x + y)) = -C z - (C x * S y + S x * C y)
      grind
theorem lef_oct (a : Int) : Wn (lef a) oct := by
  obtain ⟨h1, h2⟩ := rem_in (normP a)
  unfold lef oct
  have a1 := Rat.mul_le_mul_of_nonneg_right (castle h1) (Rat.le_of_lt rho_pos)
  have a2 := Rat.mul_le_mul_of_nonneg_right (castle h2) (Rat.le_of_lt rho_pos)
  have e1 : ((-45000000000 : Int) : Rat) = -45000000000 := rfl
  have e2 : ((45000000000 : Int) : Rat) = 45000000000 := rfl
  rw [e1] at a1
  rw [e2] at a2
  exact ⟨by grind, a2⟩
theorem lef_wn (a : Int) : Wn (lef a) (7855 / 10000) := (lef_oct a).mono oct_wn.1.2
theorem cis_add (a b : Int) : MB ((cis (a + b)).sub ((cis a).mul (cis b))) (2 / 1000000000000) := by
  obtain ⟨k, hk, hq, hr⟩ : ∃ k : Int, (k = 0 ∨ k = 1 ∨ k = -1) ∧ (quart (normP (a + b)) - (quart (normP a) + quart (normP b) + k)) % 4 = 0 ∧
      normP (a + b) - quart (normP (a + b)) * 90000000000 = (normP a - quart (normP a) * 90000000000) + (normP b - quart (normP b) * 90000000000) - k * 90000000000 := by
    refine ⟨((normP a - quart (normP a) * 90000000000) + (normP b - quart (normP b) * 90000000000) - (normP (a + b) - quart (normP (a + b)) * 90000000000)) / 90000000000, ?_, ?_, ?_⟩
    all_goals
      unfold quart normP
      omega
  have hz : lef (a + b) = lef a + lef b - (k : Rat) * (2 * oct) := by
    unfold lef
    rw [hr]
    unfold oct
    push_cast
    grind
  have key := cs_add (lef_oct a) (lef_oct b) (lef_oct (a + b)) hk hz
  have r := key.rot (quart (normP a) + quart (normP b))
  refine r.cast ?_
  unfold cis
  rw [rot_sub, ← rot_add, rot_add (quart (normP a)) (quart (normP b)) ((cs (lef a)).mul (cs (lef b)))]
  have e1 : rot (quart (normP a) + quart (normP b) + k) (cs (lef (a + b))) = rot (quart (normP (a + b))) (cs (lef (a + b))) := by
    have e : quart (normP a) + quart (normP b) + k = -(quart (normP (a + b)) - (quart (normP a) + quart (normP b) + k)) + quart (normP (a + b)) := by omega
    rw [e, rot_add, rot0 (by omega)]
  rw [e1, Cx.mul_comm (cs (lef a)) (cs (lef b)), rot_mul, Cx.mul_comm _ (cs (lef a)), rot_mul]
theorem cis_zero : cis 0 = Cx.one := by
  unfold cis
  rw [rot0 (by decide)]
  have e : lef 0 = 0 := by decide +kernel
  unfold cs
  rw [e, C_zero]
  exact Cx.ext' rfl (by show S 0 = 0; decide +kernel)
theorem cis_bd (a : Int) : MB (cis a) (1000001 / 1000000) := by
  have h := one_SC (lef_wn a)
  refine MB.rot (z := cs (lef a)) ⟨by grind, ?_⟩ _
  show C (lef a) * C (lef a) + S (lef a) * S (lef a) ≤ _
  have := h.2
  grind
theorem cis_small {a : Int} (h1 : -45000000000 < a) (h2 : a < 45000000000) : cis a = cs ((a : Rat) * rho) := by
  have e := lef_eq (a := a) (r := a) (by unfold quart normP; omega)
  unfold cis
  rw [rot0 (by unfold quart normP; omega), e]
/-- half a turn on -/
theorem cis_one (a : Int) : Wn ((cis a).re * (cis a).re + (cis a).im * (cis a).im - 1) (1 / 1000000000000000) := by
  have h := one_SC (lef_wn a)
  unfold cis
  have r : ∀ q z, (rot q z).re * (rot q z).re + (rot q z).im * (rot q z).im = z.re * z.re + z.im * z.im := by
    intro q z
    rcases mod4 q with k | k | k | k
    · rw [rot0 k]
    · rw [rot1 k]; show -z.im * -z.im + z.re * z.re = _; grind
    · rw [rot2 k]; show -z.re * -z.re + -z.im * -z.im = _; grind
    · rw [rot3 k]; show z.im * z.im + -z.re * -z.re = _; grind
  rw [r]
  exact h
end Go.Fp.Tri
