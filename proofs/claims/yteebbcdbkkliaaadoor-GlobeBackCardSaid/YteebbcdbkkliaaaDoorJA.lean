/- Numbers as what they stand for: rationals; how far a rounded number is off. -/
import Derived.Test.YteebbcdbkkliaaaDoorZE
namespace Go.Fp
open Ieee

/-- a power of two -/
def pw (j : Int) : Rat := (2 : Rat) ^ j
theorem pw_add (i j : Int) : pw (i + j) = pw i * pw j := Rat.zpow_add (by decide) i j
theorem pw_nat (k : Nat) : pw (k : Int) = ((2 ^ k : Nat) : Rat) := by
  unfold pw
  rw [Rat.zpow_natCast]
  exact (Rat.natCast_pow 2 k).symm
theorem pw_pos (j : Int) : 0 < pw j := Rat.zpow_pos (by decide)
theorem pw_one : pw 1 = 2 := by unfold pw; rfl
theorem pw_zero : pw 0 = 1 := by unfold pw; rfl
theorem pw_neg1 : pw (-1) = 1 / 2 := by
  have h := pw_add (-1) 1
  rw [show (-1 + 1 : Int) = 0 by decide, pw_zero, pw_one] at h
  grind
theorem pw_mono {i j : Int} (h : i ≤ j) : pw i ≤ pw j := by
  obtain ⟨k, rfl⟩ : ∃ k : Nat, j = i + k := ⟨(j - i).toNat, by omega⟩
  rw [pw_add, pw_nat]
  have h1 : (1 : Rat) ≤ ((2 ^ k : Nat) : Rat) := by
    have := Nat.two_pow_pos k
    exact_mod_cast this
  have h2 := Rat.mul_le_mul_of_nonneg_left h1 (Rat.le_of_lt (pw_pos i))
  grind
/-- half the least number; half the last place of one -/
def eta : Rat := pw (-1075)
theorem eta_pos : 0 < eta := pw_pos _
def uu : Rat := pw (-53)
theorem uu_eq : uu = 1 / 9007199254740992 := by
  have h := pw_add (-53) 53
  rw [show (-53 + 53 : Int) = 0 by decide, pw_zero] at h
  have h2 : pw 53 = 9007199254740992 := by
    have := pw_nat 53
    exact this
  unfold uu
  rw [h2] at h
  grind

/-- what a sign, digits and a place stand for -/
def vd (s : Bool) (m : Nat) (j : Int) : Rat := ((sg s : Int) : Rat) * (m : Rat) * pw j
def Wn (x e : Rat) : Prop := -e ≤ x ∧ x ≤ e

theorem half_of (n k : Nat) : Wn (((n / 2 ^ k + (if 2 ^ k < 2 * (n % 2 ^ k) ∨ 2 ^ k = 2 * (n % 2 ^ k) ∧ n / 2 ^ k % 2 = 1 then 1 else 0) : Nat) : Rat) * pw k - (n : Rat)) (pw k / 2) := by
  rw [pw_nat]
  have h := Nat.div_add_mod n (2 ^ k)
  have hp := Nat.two_pow_pos k
  have hm := Nat.mod_lt n hp
  generalize 2 ^ k = P at *
  generalize n / P = q at *
  generalize n % P = r at *
  subst h
  have hr : (0 : Rat) ≤ (r : Rat) := by exact_mod_cast Nat.zero_le r
  split
  · rename_i hc
    have h1 : P ≤ 2 * r := by rcases hc with h | ⟨h, _⟩ <;> omega
    have h1' : (P : Rat) ≤ 2 * (r : Rat) := by exact_mod_cast h1
    have h2' : (r : Rat) ≤ (P : Rat) := by exact_mod_cast Nat.le_of_lt hm
    constructor
    · push_cast; grind
    · push_cast; grind
  · rename_i hc
    have h1 : 2 * r ≤ P := by omega
    have h1' : 2 * (r : Rat) ≤ (P : Rat) := by exact_mod_cast h1
    constructor
    · push_cast; grind
    · push_cast; grind
theorem cut_ge' (s : Bool) (n drop j : Nat) (h : 2 ^ (j + drop) ≤ n) : 2 ^ j ≤ Toward.even.cut s n drop := by
  rw [cut_even]
  have h1 : 2 ^ j ≤ n / 2 ^ drop := by
    rw [Nat.le_div_iff_mul_le (Nat.two_pow_pos _), ← Nat.pow_add]; exact h
  omega
theorem vd_shift (s : Bool) {m n : Nat} {i j : Int} (hi : -1074 ≤ i) (hj : -1074 ≤ j) (h : m <<< (i + 1074).toNat = n <<< (j + 1074).toNat) : vd s m i = vd s n j := by
  unfold vd
  rw [Nat.shiftLeft_eq, Nat.shiftLeft_eq] at h
  have e : ∀ (k : Int), -1074 ≤ k → pw k = ((2 ^ (k + 1074).toNat : Nat) : Rat) * pw (-1074) := by
    intro k hk
    rw [← pw_nat, ← pw_add]
    congr 1; omega
  rw [e i hi, e j hj]
  clear e
  generalize 2 ^ (i + 1074).toNat = P at *
  generalize 2 ^ (j + 1074).toNat = Q at *
  have h2 : (m : Rat) * (P : Rat) = (n : Rat) * (Q : Rat) := by exact_mod_cast h
  grind
theorem vd_false (m : Nat) (j : Int) : vd false m j = (m : Rat) * pw j := by
  unfold vd sg
  simp
theorem vd_sign (s : Bool) (m : Nat) (j : Int) : vd s m j = if s then - vd false m j else vd false m j := by
  unfold vd sg
  cases s
  · simp
  · have h : (((if true = true then -1 else 1 : Int)) : Rat) = -1 := rfl
    have h' : (((if false = true then -1 else 1 : Int)) : Rat) = 1 := rfl
    rw [h, h', if_pos rfl]
    grind
/-- a rounded number: how far it is off -/
theorem near_err (s : Bool) (M : Nat) (base : Int) (hb : M = 0 ∨ base + (M.log2 : Int) ≤ 1022) :
    ∃ m p, D.read (D.nearest s M base) = .number s m p ∧ -1074 ≤ p ∧ Wn (vd false m p - vd false M base) (uu * vd false M base + eta) := by
  by_cases hM : M = 0
  · subst hM
    unfold Format.nearest
    rw [if_pos rfl, read_word2 s (by omega), if_pos (by omega)]
    refine ⟨_, _, rfl, by omega, ?_⟩
    have := eta_pos
    unfold vd Wn
    simp
    grind
  · have hb' : base + (M.log2 : Int) ≤ 1022 := by rcases hb with h | h <;> first | exact absurd h hM | exact h
    unfold Format.nearest
    rw [if_neg hM]
    simp only [D_least, D_frac, D_bin]
    generalize hlast : max (base + (M.log2 : Int) - 52) (-1074) = last
    have h2 : -1074 ≤ last := by omega
    have h3 : last = -1074 ∨ last = base + (M.log2 : Int) - 52 := by omega
    have h4 : base + (M.log2 : Int) - 52 ≤ last := by omega
    obtain ⟨a, ha⟩ : ∃ a, a = (base - last).toNat := ⟨_, rfl⟩
    obtain ⟨k, hk⟩ : ∃ k, k = (last - base).toNat := ⟨_, rfl⟩
    have hak : a = 0 ∨ k = 0 := by omega
    have hbl : base + k = last + a := by omega
    rw [← ha, ← hk]
    have hl := log2_shift_le M a hM
    have hlt := lt_log2 (M <<< a)
    have hne : M <<< a ≠ 0 := by rw [Nat.shiftLeft_eq]; exact Nat.mul_ne_zero hM (by have := Nat.two_pow_pos a; omega)
    have hc53 : Toward.even.cut s (M <<< a) k ≤ 2 ^ 53 := cut_le s _ _ _ (Nat.lt_of_lt_of_le hlt (Nat.pow_le_pow_right (by decide) (by rw [hl]; omega)))
    have hc52 : (last - -1074).toNat = 0 ∨ 2 ^ 52 ≤ Toward.even.cut s (M <<< a) k := by
      rcases h3 with h3 | h3
      · left; omega
      · right
        refine cut_ge' s _ _ _ ?_
        rw [← Nat.le_log2 hne, hl]; omega
    have hH := half_of (M <<< a) k
    rw [← cut_even s] at hH
    generalize Toward.even.cut s (M <<< a) k = kept at *
    obtain ⟨m, p, hr, hp1, hp2⟩ := read_kept s (last - -1074).toNat kept hc53 hc52 (by omega)
    refine ⟨m, p, hr, hp1, ?_⟩
    have hv : vd false m p = vd false kept last := by
      refine vd_shift false hp1 h2 ?_
      rw [hp2]
      congr 1
    have hM2 : vd false M base = ((M <<< a : Nat) : Rat) * pw (last - k) := by
      rw [vd_false, Nat.shiftLeft_eq, show base = (a : Int) + (last - k) by omega, pw_add, pw_nat]
      push_cast
      grind
    rw [hv, hM2, vd_false]
    have hlk : pw last = pw k * pw (last - k) := by rw [← pw_add]; congr 1; omega
    rw [hlk]
    have hq := pw_pos (last - k)
    generalize ((M <<< a : Nat) : Rat) = n at *
    -- half a last place
    have hh : pw k / 2 * pw (last - k) ≤ uu * (n * pw (last - k)) + eta := by
      have e1 : pw k / 2 * pw (last - k) = pw (last - 1) := by
        rw [show last - 1 = (-1) + ((k : Int) + (last - k)) by omega, pw_add (-1), pw_add, pw_neg1]
        grind
      rw [e1, ← hM2]
      rcases h3 with h3 | h3
      · have e2 : pw (last - 1) = eta := by unfold eta; congr 1; omega
        rw [e2]
        have : 0 ≤ uu * vd false M base := by
          rw [vd_false]
          exact Rat.mul_nonneg (Rat.le_of_lt (pw_pos _)) (Rat.mul_nonneg (by exact_mod_cast Nat.zero_le M) (Rat.le_of_lt (pw_pos _)))
        grind
      · have e2 : pw (last - 1) ≤ uu * vd false M base := by
          rw [vd_false]
          have hlo : ((2 ^ M.log2 : Nat) : Rat) ≤ (M : Rat) := by exact_mod_cast Nat.log2_self_le hM
          rw [← pw_nat] at hlo
          have := Rat.mul_le_mul_of_nonneg_left hlo (Rat.le_of_lt (Rat.mul_pos (pw_pos (-53)) (pw_pos base)))
          have e3 : pw (last - 1) = pw (-53) * pw base * pw (M.log2 : Int) := by
            rw [← pw_add, ← pw_add]; congr 1; omega
          rw [e3]
          unfold uu
          grind
        have := eta_pos
        grind
    generalize pw (last - k) = z at *
    generalize pw k = y at *
    obtain ⟨g1, g2⟩ := hH
    have m1 := Rat.mul_le_mul_of_nonneg_left g1 (Rat.le_of_lt hq)
    have m2 := Rat.mul_le_mul_of_nonneg_left g2 (Rat.le_of_lt hq)
    constructor <;> grind
end Go.Fp
