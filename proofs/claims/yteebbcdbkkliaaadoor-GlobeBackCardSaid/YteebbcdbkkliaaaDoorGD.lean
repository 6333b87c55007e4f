/- Floats as what they stand for: signs, whole numbers, square roots. -/
import Derived.Test.YteebbcdbkkliaaaDoorJE
import Derived.Test.YteebbcdbkkliaaaDoorGC
namespace Go.Fp
open Ieee
set_option maxRecDepth 20000

theorem near_sign (s : Bool) (M : Nat) (base : Int) (hb : M = 0 ∨ base + (M.log2 : Int) ≤ 1022) (h : 0 ≤ vd s M base) : 0 ≤ vl (D.nearest s M base) := by
  by_cases hM : M = 0
  · subst hM
    have e : D.nearest s 0 base = D.word s 0 := by unfold Format.nearest; rw [if_pos rfl]
    rw [e]
    obtain ⟨m, p, hr, _⟩ := near_err s 0 base (.inl rfl)
    rw [e] at hr
    have hr2 := read_word2 s (r := 0) (by omega)
    rw [if_pos (by omega)] at hr2
    rw [vl_of hr2, vd_sign]
    unfold vd
    cases s <;> simp
  · obtain ⟨m, p, hr, hp, _⟩ := near_err s M base hb
    rw [vl_of hr]
    cases s
    · exact vd_nonneg m p
    · exfalso
      rw [vd_sign, if_pos rfl, vd_false] at h
      have h1 : (0 : Rat) < (M : Rat) := cast_pos hM
      have h2 := pw_pos base
      have := Rat.mul_pos h1 h2
      grind
theorem fmul_nonneg {x y : Nat} (hx : Fin x) (hy : Fin y) (B : Rat) (hB : Wn (vl x * vl y) B) (hB2 : B ≤ pw 1022) (h : 0 ≤ vl x * vl y) : 0 ≤ vl (fmul x y) := by
  obtain ⟨s, m, i, hx⟩ := hx
  obtain ⟨t, n, j, hy⟩ := hy
  rw [vl_of hx, vl_of hy] at *
  have e : fmul x y = D.nearest (s ^^ t) (m * n) (i + j) := by
    unfold fmul Format.mul
    rw [hx, hy]; rfl
  rw [e]
  rw [← vd_mul] at hB h
  exact near_sign _ _ _ (vd_bound (Rat.le_trans (abs_vd _ _ _ B hB) hB2)) h
theorem vl_neg (x : Nat) (hx : Fin x) : Fin (Op.negFloat .f64 x) ∧ vl (Op.negFloat .f64 x) = - vl x := by
  obtain ⟨s, m, i, hx⟩ := hx
  have h : D.read (Op.negFloat .f64 x) = .number (!s) m i := by
    have : D.read (Op.negFloat .f64 x) = (D.read x).opposite := by
      obtain ⟨h1, h2⟩ := neg_parts x
      have hb : ((Op.negFloat .f64 x) / 2 ^ 63 % 2 == 1) = !(x / 2 ^ 63 % 2 == 1) := by
        rw [h2]
        rcases Nat.mod_two_eq_zero_or_one (x / 2 ^ 63) with h | h <;> rw [h] <;> rfl
      unfold Format.read
      simp only [D_sign, D_inf, D_bin, D_least]
      rw [h1, hb]
      split
      · rfl
      · split
        · rfl
        · split <;> rfl
    rw [this, hx]; rfl
  exact ⟨⟨_, _, _, h⟩, by rw [vl_of h, vl_of hx, vd_not]⟩
/-- a whole number below 2 ^ 53 is told as it is -/
theorem vl_int (n : Int) (h : n.natAbs < 2 ^ 53) : Fin (floatOfInt .f64 n) ∧ vl (floatOfInt .f64 n) = (n : Rat) := by
  have e : floatOfInt .f64 n = D.nearest (decide (n < 0)) (n.natAbs <<< 0) 0 := by rw [Nat.shiftLeft_zero]; rfl
  obtain ⟨m, p, hr, hp, hk⟩ := read_exact (decide (n < 0)) n.natAbs 0 0 h (by omega) (by omega)
  rw [← e] at hr
  refine ⟨⟨_, _, _, hr⟩, ?_⟩
  rw [vl_of hr, vd_sign, vd_shift false hp (j := 0) (by omega) hk, ← vd_sign]
  have ht := vd_total n false 0
  rw [pw_zero] at ht
  by_cases h0 : n = 0
  · subst h0; unfold vd; simp
  · rw [if_neg h0] at ht
    rw [ht]; grind

/-! square roots -/
theorem rootFrom_ok (n : Nat) : ∀ (k r : Nat), r * r ≤ n → n < (r + 2 ^ k) * (r + 2 ^ k) → Datum.rootFrom n k r * Datum.rootFrom n k r ≤ n ∧ n < (Datum.rootFrom n k r + 1) * (Datum.rootFrom n k r + 1)
  | 0, r, h1, h2 => ⟨h1, by simpa [Datum.rootFrom] using h2⟩
  | k + 1, r, h1, h2 => by
    have hp : 2 ^ (k + 1) = 2 ^ k + 2 ^ k := by rw [Nat.pow_succ]; omega
    rw [hp] at h2
    have hs : (1 <<< k : Nat) = 2 ^ k := by rw [Nat.shiftLeft_eq, Nat.one_mul]
    unfold Datum.rootFrom
    simp only [hs]
    by_cases h : (r + 2 ^ k) * (r + 2 ^ k) ≤ n
    · rw [if_pos h]
      exact rootFrom_ok n k (r + 2 ^ k) h (by rw [Nat.add_assoc]; exact h2)
    · rw [if_neg h]
      exact rootFrom_ok n k r h1 (by omega)
theorem sq_lt {a b : Nat} (h : a * a < b * b) : a < b := by
  rcases Nat.lt_or_ge a b with h' | h'
  · exact h'
  · have := Nat.mul_le_mul h' h'; omega
theorem root_parts (n : Nat) (h : 2 ^ 108 ≤ n) : ∃ W b : Nat, Datum.rootFrom n (n.log2 / 2 + 1) 0 = W ∧ (W * W != n).toNat = b ∧ 2 ^ 54 ≤ W ∧ W * W ≤ n ∧ Wn (((W : Rat) + (b : Rat) / 2) * ((W : Rat) + (b : Rat) / 2) - (n : Rat)) ((W : Rat) + 1 / 4) := by
  have hp : n < (0 + 2 ^ (n.log2 / 2 + 1)) * (0 + 2 ^ (n.log2 / 2 + 1)) := by
    rw [Nat.zero_add, ← Nat.pow_add]
    exact Nat.lt_of_lt_of_le Nat.lt_log2_self (Nat.pow_le_pow_right (by decide) (by omega))
  obtain ⟨h1, h2⟩ := rootFrom_ok n (n.log2 / 2 + 1) 0 (by omega) hp
  generalize Datum.rootFrom n (n.log2 / 2 + 1) 0 = W at *
  refine ⟨W, _, rfl, rfl, ?_, h1, ?_⟩
  · have : 2 ^ 54 < W + 1 := sq_lt (Nat.lt_of_le_of_lt (by rw [← Nat.pow_add]; exact h) h2)
    omega
  · have h3 : n ≤ W * W + 2 * W := by
      have : (W + 1) * (W + 1) = W * W + 2 * W + 1 := by grind
      omega
    by_cases he : W * W = n
    · have hb : (W * W != n).toNat = 0 := by simp [he]
      rw [hb]
      have e : (W : Rat) * (W : Rat) = (n : Rat) := by exact_mod_cast he
      have h0 : (0 : Rat) ≤ (W : Rat) := by exact_mod_cast Nat.zero_le W
      constructor
      · simp; grind
      · simp; grind
    · have hb : (W * W != n).toNat = 1 := by simp [he]
      rw [hb]
      have h4 : W * W + 1 ≤ n := by omega
      have e1 : (W : Rat) * (W : Rat) + 1 ≤ (n : Rat) := by exact_mod_cast h4
      have e2 : (n : Rat) ≤ (W : Rat) * (W : Rat) + 2 * (W : Rat) := by exact_mod_cast h3
      generalize (W : Rat) = x at *
      generalize (n : Rat) = y at *
      constructor
      · push_cast; grind
      · push_cast; grind
theorem fsqrt_err {x : Nat} (hx : Fin x) (h1 : 1 / 4 ≤ vl x) (h2 : vl x ≤ pw 1000) : Fin (fsqrt x) ∧ 0 ≤ vl (fsqrt x) ∧ Wn (vl (fsqrt x) * vl (fsqrt x) - vl x) (8 * uu * vl x) := by
  obtain ⟨s, m, i, hx⟩ := hx
  rw [vl_of hx] at *
  have hs : s = false := by
    cases s
    · rfl
    · exfalso
      rw [vd_sign, if_pos rfl] at h1
      have := vd_nonneg m i
      grind
  subst hs
  have hm : m ≠ 0 := by
    rintro rfl
    rw [vd_false] at h1
    simp at h1
    grind
  obtain ⟨mo, hmo⟩ : ∃ k, k = 2 * 54 - m.log2 + ((i - ((2 * 54 - m.log2 : Nat) : Int)) % 2).toNat := ⟨_, rfl⟩
  have hev : (i - (mo : Int)) / 2 + (i - (mo : Int)) / 2 = i - (mo : Int) := by omega
  have hn : 2 ^ 108 ≤ m <<< mo := by
    have hne : m <<< mo ≠ 0 := by rw [Nat.shiftLeft_eq]; exact Nat.mul_ne_zero hm (by have := Nat.two_pow_pos mo; omega)
    rw [← Nat.le_log2 hne, log2_shift_le m mo hm]
    omega
  obtain ⟨W, b, hW, hb, hW54, hWn, hQ⟩ := root_parts (m <<< mo) hn
  obtain ⟨h, hh⟩ : ∃ h, h = (i - (mo : Int)) / 2 := ⟨_, rfl⟩
  have e : fsqrt x = D.nearest false (2 * W + b) (h - 1) := by
    unfold fsqrt Format.sqrt
    rw [hx]
    unfold Datum.root
    dsimp only
    rw [if_neg hm, if_neg (by decide)]
    have hD : 2 * (D.fractionBits + 2) = 2 * 54 := rfl
    rw [hD, ← hmo, hW, hb, ← hh]
    rfl
  rw [e]
  have hv : vd false m i = ((m <<< mo : Nat) : Rat) * pw h * pw h := by
    rw [vd_false, Nat.shiftLeft_eq, show i = (mo : Int) + (h + h) by omega, pw_add, pw_nat, pw_add]
    push_cast
    grind
  have hw0 := cast_pos (show W ≠ 0 by omega)
  have hb0 : (0 : Rat) ≤ (b : Rat) := by exact_mod_cast Nat.zero_le b
  have hq : vd false (2 * W + b) (h - 1) = ((W : Rat) + (b : Rat) / 2) * pw h := by
    rw [vd_false, show h - 1 = (-1) + h by omega, pw_add, pw_neg1]
    push_cast
    grind
  have hWs : (W : Rat) * 18014398509481984 ≤ ((m <<< mo : Nat) : Rat) := by
    have : W * 18014398509481984 ≤ W * W := Nat.mul_le_mul_left W hW54
    have h' : W * 18014398509481984 ≤ m <<< mo := Nat.le_trans this hWn
    exact_mod_cast h'
  have hN1 : (1 : Rat) * 18014398509481984 ≤ ((m <<< mo : Nat) : Rat) := by
    have h' : 1 * 18014398509481984 ≤ m <<< mo := Nat.le_trans (by decide) hn
    exact_mod_cast h'
  rw [hv] at h1 h2 ⊢
  have hph := pw_pos h
  generalize ((m <<< mo : Nat) : Rat) = N at *
  obtain ⟨Q, hQe⟩ : ∃ Q, Q = (W : Rat) + (b : Rat) / 2 := ⟨_, rfl⟩
  rw [← hQe] at hQ hq
  have hQ0 : 0 < Q := by rw [hQe]; grind
  obtain ⟨q, hqe⟩ : ∃ q, q = Q * pw h := ⟨_, rfl⟩
  rw [← hqe] at hq
  have hq0 : 0 < q := by rw [hqe]; exact Rat.mul_pos hQ0 hph
  obtain ⟨v, hve⟩ : ∃ v, v = N * pw h * pw h := ⟨_, rfl⟩
  rw [← hve] at h1 h2 ⊢
  -- the root's square is near
  have hqq : Wn (q * q - v) (uu * v) := by
    have hpp := Rat.mul_pos hph hph
    have e1 : q * q - v = (Q * Q - N) * (pw h * pw h) := by rw [hqe, hve]; grind
    have e2 : uu * v = (uu * N) * (pw h * pw h) := by rw [hve]; grind
    have hQ' : Wn (Q * Q - N) (uu * N) := hQ.mono (by rw [uu_eq]; grind)
    rw [e1, e2]
    obtain ⟨a1, a2⟩ := hQ'
    have m1 := Rat.mul_le_mul_of_nonneg_right a1 (Rat.le_of_lt hpp)
    have m2 := Rat.mul_le_mul_of_nonneg_right a2 (Rat.le_of_lt hpp)
    constructor <;> grind
  have huv : uu * v ≤ v / 1000 := by rw [uu_eq]; grind
  have hqlo : 49 / 100 ≤ q := by
    rcases Rat.le_total (a := 49 / 100) (b := q) with h' | h'
    · exact h'
    · exfalso
      have := Rat.mul_nonneg (show 0 ≤ 49 / 100 - q by grind) (show 0 ≤ 49 / 100 + q by grind)
      have := hqq.1
      grind
  have hqhi : q ≤ pw 1001 := by
    have h1001 : pw 1001 = pw 1000 * 2 := by rw [show (1001 : Int) = 1000 + 1 by decide, pw_add, pw_one]
    have h1000 : 1 ≤ pw 1000 := by have := pw_mono (show (0 : Int) ≤ 1000 by decide); rw [pw_zero] at this; exact this
    rcases Rat.le_total (a := q) (b := 1) with h' | h'
    · rw [h1001]; generalize pw 1000 = z at *; grind
    · have := Rat.mul_le_mul_of_nonneg_left h' (Rat.le_of_lt hq0)
      have := hqq.2
      rw [h1001]; generalize pw 1000 = z at *; grind
  obtain ⟨m', p', hr, hp', hw⟩ := near_err false (2 * W + b) (h - 1) (vd_bound (by rw [hq]; exact Rat.le_trans hqhi (pw_mono (by decide))))
  rw [hq, ← vl_of hr] at hw
  have het : eta ≤ uu * q := by
    have h1 : eta ≤ pw (-60) := pw_mono (by decide)
    have h2 : pw (-60) = 1 / 1152921504606846976 := by
      have h := pw_add (-60) 60
      rw [show (-60 + 60 : Int) = 0 by decide, pw_zero] at h
      have h2 : pw 60 = 1152921504606846976 := by have := pw_nat 60; exact this
      rw [h2] at h
      generalize pw (-60) = z at *
      grind
    rw [h2] at h1
    rw [uu_eq]
    grind
  refine ⟨⟨_, _, _, hr⟩, ?_, ?_⟩
  · have := hw.1
    rw [uu_eq] at *
    grind
  · generalize vl (D.nearest false (2 * W + b) (h - 1)) = r at *
    have hrq : Wn (r - q) (2 * uu * q) := hw.mono (by grind)
    have hrq2 : Wn (r + q) (3 * q) := by
      obtain ⟨a1, a2⟩ := hrq
      rw [uu_eq] at *
      constructor <;> grind
    have hm' := wn_mul hrq hrq2
    have e1 : (r - q) * (r + q) = r * r - q * q := by grind
    rw [e1] at hm'
    have e2 : 2 * uu * q * (3 * q) = 6 * (uu * (q * q)) := by grind
    rw [e2] at hm'
    have hu2 : uu * (q * q) ≤ uu * (v + v / 1000) := Rat.mul_le_mul_of_nonneg_left (by have := hqq.2; grind) (Rat.le_of_lt uu_pos)
    have e3 : uu * (v + v / 1000) = uu * v + uu * v / 1000 := by grind
    rw [e3] at hu2
    have huv0 : 0 ≤ uu * v := Rat.mul_nonneg (Rat.le_of_lt uu_pos) (by grind)
    have e4 : 8 * uu * v = 8 * (uu * v) := by grind
    rw [e4]
    obtain ⟨a1, a2⟩ := hqq
    obtain ⟨b1, b2⟩ := hm'
    generalize uu * v = y at *
    constructor <;> grind
end Go.Fp
