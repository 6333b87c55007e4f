/- Numbers as what they stand for: rationals; how far a rounded number is off. -/
import Derived.Test.YtcppgbhjbmfldaaDoorZG
namespace Go.Fp
open Ieee

/-- a power of two -/
def pw (j : Int) : Rat := (2 : Rat) ^ j
theorem pw_add (i j : Int) : pw (i + j) = pw i * pw j := Rat.zpow_add (by decide) i j
theorem pw_nat (k : Nat) : pw (k : Int) = ((2 ^ k : Nat) : Rat) := by
  unfold pw
  rw [Rat.zpow_natCast]
  exact (Rat.natCast_pow 2 k).symm
theorem pw_pos (j : Int) : 0 < pw j := Rat.zpow_pos (by decide)
theorem pw_one : pw 1 = 2 := by unfold pw; rfl
theorem pw_zero : pw 0 = 1 := by unfold pw; rfl
theorem pw_neg1 : pw (-1) = 1 / 2 := by
  have h := pw_add (-1) 1
  rw [show (-1 + 1 : Int) = 0 by decide, pw_zero, pw_one] at h
  grind
theorem pw_mono {i j : Int} (h : i ≤ j) : pw i ≤ pw j := by
  obtain ⟨k, rfl⟩ : ∃ k : Nat, j = i + k := ⟨(j - i).toNat, by omega⟩
  rw [pw_add, pw_nat]
  have h1 : (1 : Rat) ≤ ((2 ^ k : Nat) : Rat) := by
    have := Nat.two_pow_pos k
    exact_mod_cast this
  have h2 := Rat.mul_le_mul_of_nonneg_left h1 (Rat.le_of_lt (pw_pos i))
  grind
/-- half the least number; half the last place of one -/
def eta : Rat := pw (-1075)
theorem eta_pos : 0 < eta := pw_pos _
def uu : Rat := pw (-53)
theorem uu_eq : uu = 1 / 9007199254740992 := by
  have h := pw_add (-53) 53
  rw [show (-53 + 53 : Int) = 0 by decide, pw_zero] at h
  have h2 : pw 53 = 9007199254740992 := by
    have := pw_nat 53
    exact this
  unfold uu
  rw [h2] at h
  grind

/-- what a sign, digits and a place stand for -/
def vd (s : Bool) (m : Nat) (j : Int) : Rat := ((sg s : Int) : Rat) * (m : Rat) * pw j
def Wn (x e : Rat) : Prop := -e ≤ x ∧ x ≤ e

theorem half_of (n k : Nat) : Wn (((n / 2 ^ k + (if 2 ^ k < 2 * (n % 2 ^ k) ∨ 2 ^ k = 2 * (n % 2 ^ k) ∧ n / 2 ^ k % 2 = 1 then 1 else 0) : Nat) : Rat) * pw k - (n : Rat)) (pw k / 2) := by
  rw [pw_nat]
  have h := Nat.div_add_mod n (2 ^ k)
  have hp := Nat.two_pow_pos k
  have hm := Nat.mod_lt n hp
  generalize 2 ^ k = P at *
  generalize n / P = q at *
  generalize n % P = r at *
  subst h
  have hr : (0 : Rat) ≤ (r : Rat) := by exact_mod_cast Nat.zero_le r
  split
  · rename_i hc
    have h1 : P ≤ 2 * r := by rcases hc with h | ⟨h, _⟩ <;> omega
    have h1' : (P : Rat) ≤ 2 * (r : Rat) := by exact_mod_cast h1
    have h2' : (r : Rat) ≤ (P : Rat) := by exact_mod_cast Nat.le_of_lt hm
    constructor
    · push_cast; grind
    · push_cast; grind
  · rename_i hc
    have h1 : 2 * r ≤ P := by omega
    have h1' : 2 * (r : Rat) ≤ (P : Rat) := by exact_mod_cast h1
    constructor
    · push_cast; grind
    · push_cast; grind
theorem cut_ge' (s : Bool) (n drop j : Nat) (h : 2 ^ (j + drop) ≤ n) : 2 ^ j ≤ Toward.even.cut s n drop := by
  rw [cut_even]
  have h1 : 2 ^ j ≤ n / 2 ^ drop := by
    rw [Nat.le_div_iff_mul_le (Nat.two_pow_pos _), ← Nat.pow_add]; exact h
  omega
theorem vd_shift (s : Bool) {m n : Nat} {i j : Int} (hi : -1074 ≤ i) (hj : -1074 ≤ j) (h : m <<< (i + 1074).toNat = n <<< (j + 1074).toNat) : vd s m i = vd s n j := by
  unfold vd
  rw [Nat.shiftLeft_eq, Nat.shiftLeft_eq] at h
  have e : ∀ (k : Int), -1074 ≤ k → pw k = ((2 ^ (k + 1074).toNat : Nat) : Rat) * pw (-1074) := by
    intro k hk
    rw [← pw_nat, ← pw_add]
    congr 1; omega
  rw [e i hi, e j hj]
  clear e
  generalize 2 ^ (i + 1074).toNat = P at *
  generalize 2 ^ (j + 1074).toNat = Q at *
  have h2 : (m : Rat) * (P : Rat) = (n : Rat) * (Q : Rat) := by exact_mod_cast h
  grind
theorem vd_false (m : Nat) (j : Int) : vd false m j = (m : Rat) * pw j := by
  unfold vd sg
  simp
theorem vd_sign (s : Bool) (m : Nat) (j : Int) : vd s m j = if s then - vd false m j else vd false m j := by
  unfold vd sg
  cases s
  · simp
  · have h : (((if true = true then -1 else 1 : Int)) : Rat) = -1 := rfl
    have h' : (((if false = true then -1 else 1 : Int)) : Rat) = 1 := rfl
    rw [h, h', if_pos rfl]
    grind
/-- a rounded number: how far it is off -/
theorem near_err (s : Bool) (M : Nat) (base : Int) (hb : M = 0 ∨ base + (M.log2 : Int) ≤ 1022) :
    ∃ m p, D.read (D.nearest s M base) = .number s m p ∧ -1074 ≤ p ∧ Wn (vd false m p - vd false M base) (uu * vd false M base + eta) := by
  by_cases hM : M = 0
  · subst hM
    unfold Format.nearest
    rw [if_pos rfl, read_word2 s (by omega), if_pos (by omega)]
    refine ⟨_, _, rfl, by omega, ?_⟩
    have := eta_pos
    unfold vd Wn
    simp
    grind
  · have hb' : base + (M.log2 : Int) ≤ 1022 := by rcases hb with h | h <;> first | exact absurd h hM | exact h
    unfold Format.nearest
    rw [if_neg hM]
    simp only [D_least, D_frac, D_bin]
    generalize hlast : max (base + (M.log2 : Int) - 52) (-1074) = last
    have h2 : -1074 ≤ last := by omega
    have h3 : last = -1074 ∨ last = base + (M.log2 : Int) - 52 := by omega
    have h4 : base + (M.log2 : Int) - 52 ≤ last := by omega
    obtain ⟨a, ha⟩ : ∃ a, a = (base - last).toNat := ⟨_, rfl⟩
    obtain ⟨k, hk⟩ : ∃ k, k = (last - base).toNat := ⟨_, rfl⟩
    have hak : a = 0 ∨ k = 0 := by omega
    have hbl : base + k = last + a := by omega
    rw [← ha, ← hk]
    have hl := log2_shift_le M a hM
    have hlt := lt_log2 (M <<< a)
    have hne : M <<< a ≠ 0 := by rw [Nat.shiftLeft_eq]; exact Nat.mul_ne_zero hM (by have := Nat.two_pow_pos a; omega)
    have hc53 : Toward.even.cut s (M <<< a) k ≤ 2 ^ 53 := cut_le s _ _ _ (Nat.lt_of_lt_of_le hlt (Nat.pow_le_pow_right (by decide) (by rw [hl]; omega)))
    have hc52 : (last - -1074).toNat = 0 ∨ 2 ^ 52 ≤ Toward.even.cut s (M <<< a) k := by
      rcases h3 with h3 | h3
      · left; omega
      · right
        refine cut_ge' s _ _ _ ?_
        rw [← Nat.le_log2 hne, hl]; omega
    have hH := half_of (M <<< a) k
    rw [← cut_even s] at hH
    generalize Toward.even.cut s (M <<< a) k = kept at *
    obtain ⟨m, p, hr, hp1, hp2⟩ := read_kept s (last - -1074).toNat kept hc53 hc52 (by omega)
    refine ⟨m, p, hr, hp1, ?_⟩
    have hv : vd false m p = vd false kept last := by
      refine vd_shift false hp1 h2 ?_
      rw [hp2]
      congr 1
    have hM2 : vd false M base = ((M <<< a : Nat) : Rat) * pw (last - k) := by
      rw [vd_false, Nat.shiftLeft_eq, show base = (a : Int) + (last - k) by omega, pw_add, pw_nat]
      push_cast
      grind
    rw [hv, hM2, vd_false]
    have hlk : pw last = pw k * pw (last - k) := by rw [← pw_add]; congr 1; omega
    rw [hlk]
    have hq := pw_pos (last - k)
    generalize ((M <<< a : Nat) : Rat) = n at *
    -- half a last place
    have hh : pw k / 2 * pw (last - k) ≤ uu * (n * pw (last - k)) + eta := by
      have e1 : pw k / 2 * pw (last - k) = pw (last - 1) := by
        rw [show last - 1 = (-1) + ((k : Int) + (last - k)) by omega, pw_add (-1), pw_add, pw_neg1]
        grind
      rw [e1, ← hM2]
      rcases h3 with h3 | h3
      · have e2 : pw (last - 1) = eta := by unfold eta; congr 1; omega
        rw [e2]
        have : 0 ≤ uu * vd false M base := by
          rw [vd_false]
          exact Rat.mul_nonneg (Rat.le_of_lt (pw_pos _)) (Rat.mul_nonneg (by exact_mod_cast Nat.zero_le M) (Rat.le_of_lt (pw_pos _)))
        grind
      · have e2 : pw (last - 1) ≤ uu * vd false M base := by
          rw [vd_false]
          have hlo : ((2 ^ M.log2 : Nat) : Rat) ≤ (M : Rat) := by exact_mod_cast Nat.log2_self_le hM
          rw [← pw_nat] at hlo
          have := Rat.mul_le_mul_of_nonneg_left hlo (Rat.le_of_lt (Rat.mul_pos (pw_pos (-53)) (pw_pos base)))
          have e3 : pw (last - 1) = pw (-53) * pw base * pw (M.log2 : Int) := by
            rw [← pw_add, ← pw_add]; congr 1; omega
          rw [e3]
          unfold uu
          grind
        have := eta_pos
        grind
    generalize pw (last - k) = z at *
    generalize pw k = y at *
    obtain ⟨g1, g2⟩ := hH
    have m1 := Rat.mul_le_mul_of_nonneg_left g1 (Rat.le_of_lt hq)
    have m2 := Rat.mul_le_mul_of_nonneg_left g2 (Rat.le_of_lt hq)
    constructor <;> grind
end Go.Fp

/- Float operations as what they stand for, and how far each is off. -/
namespace Go.Fp
open Ieee

/-- a word that stands for a number, and for which -/
def Fin (x : Nat) : Prop := ∃ s m j, D.read x = .number s m j
def vl (x : Nat) : Rat := match D.read x with
  | .number s m j => vd s m j
  | _ => 0
theorem vl_of {x : Nat} {s : Bool} {m : Nat} {j : Int} (h : D.read x = .number s m j) : vl x = vd s m j := by unfold vl; rw [h]
theorem Fin.can {x : Nat} (h : Fin x) : can x = x := by
  obtain ⟨s, m, j, h⟩ := h
  exact can_of_not (by unfold isNan; rw [h]; rfl)
theorem vd_bound {M : Nat} {base : Int} (h : vd false M base ≤ pw 1022) : M = 0 ∨ base + (M.log2 : Int) ≤ 1022 := by
  by_cases hM : M = 0
  · exact .inl hM
  · right
    rcases Int.lt_or_le 1022 (base + (M.log2 : Int)) with hgt | hle
    · exfalso
      have h1 : pw 1023 ≤ pw (base + (M.log2 : Int)) := pw_mono (by omega)
      have h2 : ((2 ^ M.log2 : Nat) : Rat) ≤ (M : Rat) := by exact_mod_cast Nat.log2_self_le hM
      rw [← pw_nat] at h2
      have h3 := Rat.mul_le_mul_of_nonneg_left h2 (Rat.le_of_lt (pw_pos base))
      rw [← pw_add] at h3
      rw [vd_false] at h
      have h4 : pw 1023 = pw 1022 * 2 := by rw [show (1023 : Int) = 1022 + 1 by decide, pw_add, pw_one]
      have h5 := pw_pos 1022
      generalize pw 1022 = z at *
      grind
    · exact hle
theorem vd_nonneg (M : Nat) (j : Int) : 0 ≤ vd false M j := by
  rw [vd_false]
  exact Rat.mul_nonneg (by exact_mod_cast Nat.zero_le M) (Rat.le_of_lt (pw_pos _))
/-- a rounded number -/
theorem rnd (s : Bool) (M : Nat) (base : Int) (B : Rat) (h1 : vd false M base ≤ B) (h2 : B ≤ pw 1022) : Fin (D.nearest s M base) ∧ Wn (vl (D.nearest s M base) - vd s M base) (uu * B + eta) := by
  obtain ⟨m, p, hr, hp, hw⟩ := near_err s M base (vd_bound (Rat.le_trans h1 h2))
  refine ⟨⟨_, _, _, hr⟩, ?_⟩
  rw [vl_of hr, vd_sign s m, vd_sign s M]
  have hu : uu * vd false M base ≤ uu * B := Rat.mul_le_mul_of_nonneg_left h1 (Rat.le_of_lt (pw_pos _))
  obtain ⟨a, b⟩ := hw
  cases s
  · simp only [Bool.false_eq_true, if_false]
    constructor <;> grind
  · simp only [if_true]
    constructor <;> grind

theorem signed_vd (s : Bool) (m : Nat) (i base : Int) (h : base ≤ i) : ((signed s m (i - base).toNat : Int) : Rat) * pw base = vd s m i := by
  rw [signed_eq]
  unfold vd
  have e : pw i = pw ((i - base).toNat : Int) * pw base := by rw [← pw_add]; congr 1; omega
  rw [e, pw_nat]
  push_cast
  grind
theorem vd_total (t : Int) (z : Bool) (base : Int) : vd (if t = 0 then z else t < 0) t.natAbs base = (t : Rat) * pw base := by
  unfold vd sg
  by_cases h0 : t = 0
  · subst h0
    simp
  · by_cases h1 : t < 0
    · simp only [if_neg h0, h1, decide_true, if_true]
      have : (t.natAbs : Int) = -t := by omega
      have h2 : ((t.natAbs : Nat) : Rat) = -(t : Rat) := by exact_mod_cast congrArg (fun z : Int => (z : Rat)) this
      rw [h2]
      push_cast
      grind
    · simp only [if_neg h0, h1, decide_false, Bool.false_eq_true, if_false]
      have : (t.natAbs : Int) = t := by omega
      have h2 : ((t.natAbs : Nat) : Rat) = (t : Rat) := by exact_mod_cast congrArg (fun z : Int => (z : Rat)) this
      rw [h2]
      push_cast
      grind
theorem abs_vd (s : Bool) (M : Nat) (base : Int) (B : Rat) (h : Wn (vd s M base) B) : vd false M base ≤ B := by
  rw [vd_sign] at h
  obtain ⟨a, b⟩ := h
  cases s
  · simp only [Bool.false_eq_true, if_false] at *; exact b
  · simp only [if_true] at *; grind
/-- a sum of data -/
theorem sum_err {d1 d2 : Datum} {s t : Bool} {m n : Nat} {i j : Int} (h1 : d1 = .number s m i) (h2 : d2 = .number t n j) (B : Rat) (hB : Wn (vd s m i + vd t n j) B) (hB2 : B ≤ pw 1022) :
    ∃ r, (d1.sum d2).map D.write = some r ∧ Fin r ∧ Wn (vl r - (vd s m i + vd t n j)) (uu * B + eta) := by
  subst h1 h2
  refine ⟨_, rfl, ?_⟩
  have e1 := signed_vd s m i (min i j) (by omega)
  have e2 := signed_vd t n j (min i j) (by omega)
  have ht := vd_total (signed s m (i - min i j).toNat + signed t n (j - min i j).toNat) (s && t) (min i j)
  have hs : vd s m i + vd t n j = ((signed s m (i - min i j).toNat + signed t n (j - min i j).toNat : Int) : Rat) * pw (min i j) := by
    rw [← e1, ← e2]
    push_cast
    grind
  rw [hs, ← ht] at hB
  rw [hs, ← ht]
  exact rnd _ _ _ B (abs_vd _ _ _ B hB) hB2
theorem fadd_err {x y : Nat} (hx : Fin x) (hy : Fin y) (B : Rat) (hB : Wn (vl x + vl y) B) (hB2 : B ≤ pw 1022) : Fin (fadd x y) ∧ Wn (vl (fadd x y) - (vl x + vl y)) (uu * B + eta) := by
  obtain ⟨s, m, i, hx⟩ := hx
  obtain ⟨t, n, j, hy⟩ := hy
  rw [vl_of hx, vl_of hy] at *
  obtain ⟨r, hr, h1, h2⟩ := sum_err hx hy B hB hB2
  have e : fadd x y = r := by
    unfold fadd Format.add
    rw [hr]; rfl
  rw [e]
  exact ⟨h1, h2⟩
theorem vd_not (s : Bool) (m : Nat) (j : Int) : vd (!s) m j = - vd s m j := by
  rw [vd_sign, vd_sign s]
  cases s <;> simp
theorem fsub_err {x y : Nat} (hx : Fin x) (hy : Fin y) (B : Rat) (hB : Wn (vl x - vl y) B) (hB2 : B ≤ pw 1022) : Fin (fsub x y) ∧ Wn (vl (fsub x y) - (vl x - vl y)) (uu * B + eta) := by
  obtain ⟨s, m, i, hx⟩ := hx
  obtain ⟨t, n, j, hy⟩ := hy
  rw [vl_of hx, vl_of hy] at *
  have ho : (D.read y).opposite = .number (!t) n j := by rw [hy]; rfl
  obtain ⟨r, hr, h1, h2⟩ := sum_err hx ho B (by rw [vd_not]; exact (show vd s m i - vd t n j = vd s m i + -vd t n j by grind) ▸ hB) hB2
  have e : fsub x y = r := by
    unfold fsub Format.sub
    rw [hr]; rfl
  rw [e]
  refine ⟨h1, ?_⟩
  rw [vd_not] at h2
  exact (show vl r - (vd s m i + -vd t n j) = vl r - (vd s m i - vd t n j) by grind) ▸ h2
theorem vd_mul (s t : Bool) (m n : Nat) (i j : Int) : vd (s ^^ t) (m * n) (i + j) = vd s m i * vd t n j := by
  have h : vd false (m * n) (i + j) = vd false m i * vd false n j := by
    rw [vd_false, vd_false, vd_false, pw_add]
    push_cast
    grind
  rw [vd_sign, h, vd_sign s, vd_sign t]
  cases s <;> cases t <;> simp <;> grind
theorem fmul_err {x y : Nat} (hx : Fin x) (hy : Fin y) (B : Rat) (hB : Wn (vl x * vl y) B) (hB2 : B ≤ pw 1022) : Fin (fmul x y) ∧ Wn (vl (fmul x y) - vl x * vl y) (uu * B + eta) := by
  obtain ⟨s, m, i, hx⟩ := hx
  obtain ⟨t, n, j, hy⟩ := hy
  rw [vl_of hx, vl_of hy] at *
  have e : fmul x y = D.nearest (s ^^ t) (m * n) (i + j) := by
    unfold fmul Format.mul
    rw [hx, hy]; rfl
  rw [e, ← vd_mul]
  rw [← vd_mul] at hB
  exact rnd _ _ _ B (abs_vd _ _ _ B hB) hB2
end Go.Fp

/- Quotients and orders of floats as what they stand for. -/
namespace Go.Fp
open Ieee

theorem uu_pos : 0 < uu := pw_pos _
theorem uu_le : uu ≤ 1 := by rw [uu_eq]; grind
theorem cast_pos {n : Nat} (h : n ≠ 0) : (0 : Rat) < (n : Rat) := by exact_mod_cast Nat.pos_of_ne_zero h
/-- the digits of a quotient, with what is left over -/
theorem quot_digits (N n : Nat) (hn : n ≠ 0) : Wn (((2 * (N / n) + (N % n != 0).toNat : Nat) : Rat) * (n : Rat) - 2 * (N : Rat)) (n : Rat) := by
  have h := Nat.div_add_mod N n
  have hm := Nat.mod_lt N (Nat.pos_of_ne_zero hn)
  generalize N / n = q at *
  generalize N % n = r at *
  subst h
  have hr : (0 : Rat) ≤ (r : Rat) := by exact_mod_cast Nat.zero_le r
  have hm' : (r : Rat) ≤ (n : Rat) := by exact_mod_cast Nat.le_of_lt hm
  by_cases h0 : r = 0
  · subst h0
    constructor
    · simp; grind
    · simp; grind
  · have : (r != 0).toNat = 1 := by simp [h0]
    rw [this]
    constructor
    · push_cast; grind
    · push_cast; grind
theorem wn_div {a b c : Rat} (hb : 0 < b) (h : Wn (a * b) (c * b)) : Wn a c := by
  obtain ⟨h1, h2⟩ := h
  constructor
  · exact Rat.le_of_mul_le_mul_right (by grind) hb
  · exact Rat.le_of_mul_le_mul_right h2 hb
theorem fdiv_err {x y : Nat} (hx : Fin x) (hy : Fin y) (hy0 : vl y ≠ 0) (B : Rat) (hB : Wn (vl x / vl y) B) (hB2 : B ≤ pw 1000) : Fin (fdiv x y) ∧ Wn (vl (fdiv x y) - vl x / vl y) (2 * uu * B + eta) := by
  obtain ⟨s, m, i, hx⟩ := hx
  obtain ⟨t, n, j, hy⟩ := hy
  rw [vl_of hx, vl_of hy] at *
  have hn : n ≠ 0 := by
    rintro rfl
    exact hy0 (by unfold vd; simp)
  rw [div_read hx hy hn]
  have hm53 := (read_fields hx).1
  generalize hk : 54 + n.log2 - m.log2 = k
  have hsx : m.log2 ≤ 52 := by
    by_cases h : m = 0
    · subst h; decide
    · exact log2_of h hm53
  -- the quotient's digits
  have hD := quot_digits (m <<< k) n hn
  generalize hQ : 2 * (m <<< k / n) + ((m <<< k) % n != 0).toNat = Q at *
  have hn' := cast_pos hn
  have hQ0 : (0 : Rat) ≤ (Q : Rat) := by exact_mod_cast Nat.zero_le Q
  obtain ⟨e, he⟩ : ∃ e, e = i - j - (k : Int) - 1 := ⟨_, rfl⟩
  have he' : i - j - ((k : Nat) : Int) - 1 = e := he.symm
  rw [he']
  have hpe := pw_pos e
  -- what the quotient is, without its sign
  obtain ⟨E, hE⟩ : ∃ E : Rat, E = 2 * ((m <<< k : Nat) : Rat) / (n : Rat) := ⟨_, rfl⟩
  have hEn : E * (n : Rat) = 2 * ((m <<< k : Nat) : Rat) := by rw [hE]; grind
  have hval : vd false m i = E * pw e * vd false n j := by
    rw [vd_false, vd_false]
    have e1 : pw i = 2 * ((2 ^ k : Nat) : Rat) * pw e * pw j := by
      have e2 : pw i = pw 1 * pw k * pw e * pw j := by
        have hi : i = 1 + (k : Int) + e + j := by omega
        rw [hi, pw_add, pw_add, pw_add]
      rw [e2, pw_one, pw_nat]
    rw [e1]
    have : E * (n : Rat) = 2 * ((m : Rat) * ((2 ^ k : Nat) : Rat)) := by rw [hEn, Nat.shiftLeft_eq]; push_cast; rfl
    grind
  have hnj : 0 < vd false n j := by rw [vd_false]; exact Rat.mul_pos hn' (pw_pos _)
  have hEnn : 0 ≤ E := by
    have : 0 ≤ E * (n : Rat) := by rw [hEn]; have : (0 : Rat) ≤ ((m <<< k : Nat) : Rat) := by exact_mod_cast Nat.zero_le _
                                   grind
    exact Rat.le_of_mul_le_mul_right (by grind) hn'
  have hdiff : Wn ((Q : Rat) - E) (uu / 2 * E) := by
    by_cases hm0 : m = 0
    · subst hm0
      have q0 : Q = 0 := by rw [← hQ]; simp
      have e0 : E = 0 := by rw [hE]; simp; grind
      rw [q0, e0]
      constructor <;> simp <;> grind
    · have hN : 2 ^ 53 * n ≤ m <<< k := by
        have a1 : 2 ^ (m.log2 + k) ≤ m <<< k := by rw [Nat.shiftLeft_eq, Nat.pow_add]; exact Nat.mul_le_mul_right _ (Nat.log2_self_le hm0)
        have a2 := lt_log2 n
        have a3 : m.log2 + k = 53 + (n.log2 + 1) := by omega
        rw [a3, Nat.pow_add] at a1
        exact Nat.le_trans (Nat.mul_le_mul_left _ (Nat.le_of_lt a2)) a1
      have hN' : (9007199254740992 : Rat) * (n : Rat) ≤ ((m <<< k : Nat) : Rat) := by exact_mod_cast hN
      have hE1 : 1 ≤ uu / 2 * E := by
        rw [uu_eq]
        have : (18014398509481984 : Rat) * (n : Rat) ≤ E * (n : Rat) := by rw [hEn]; grind
        have := Rat.le_of_mul_le_mul_right this hn'
        grind
      have : Wn ((Q : Rat) - E) 1 := by
        refine wn_div hn' ?_
        rw [← hEn] at hD
        obtain ⟨d1, d2⟩ := hD
        constructor <;> grind
      obtain ⟨d1, d2⟩ := this
      constructor <;> grind
  have hXY : vd s m i / vd t n j = (if (s ^^ t) then - (E * pw e) else E * pw e) := by
    have hne : vd false n j ≠ 0 := by grind
    rw [vd_sign s, vd_sign t, hval]
    cases s <;> cases t <;> simp <;> grind
  have hEB : E * pw e ≤ B := by
    rw [hXY] at hB
    obtain ⟨b1, b2⟩ := hB
    cases h : (s ^^ t) <;> rw [h] at b1 b2 <;> simp at b1 b2 <;> grind
  have hB0 : 0 ≤ B := Rat.le_trans (Rat.mul_nonneg hEnn (Rat.le_of_lt hpe)) hEB
  obtain ⟨d1, d2⟩ := hdiff
  have m1 := Rat.mul_le_mul_of_nonneg_left d1 (Rat.le_of_lt hpe)
  have m2 := Rat.mul_le_mul_of_nonneg_left d2 (Rat.le_of_lt hpe)
  have hu := uu_pos
  have hu1 := uu_le
  have mu := Rat.mul_le_mul_of_nonneg_left hEB (Rat.le_of_lt hu)
  have mB := Rat.mul_le_mul_of_nonneg_left hu1 hB0
  have hbig : B + uu * B ≤ pw 1022 := by
    have e1 : pw 1001 = pw 1000 * 2 := by rw [show (1001 : Int) = 1000 + 1 by decide, pw_add, pw_one]
    have e2 : pw 1001 ≤ pw 1022 := pw_mono (by decide)
    generalize pw 1000 = z at *
    generalize pw 1001 = z1 at *
    generalize pw 1022 = z2 at *
    grind
  have hv : vd false Q e ≤ B + uu * B := by rw [vd_false]; grind
  obtain ⟨r1, r2⟩ := rnd (s ^^ t) Q e (B + uu * B) hv hbig
  refine ⟨r1, ?_⟩
  rw [hXY]
  rw [vd_sign (s ^^ t) Q e, vd_false] at r2
  generalize vl (D.nearest (s ^^ t) Q e) = R at *
  have mm : uu * (uu * B) ≤ uu * B * (1 / 9007199254740992) := by rw [uu_eq]; grind
  obtain ⟨c1, c2⟩ := r2
  cases hst : (s ^^ t)
  · rw [hst] at c1 c2
    simp only [Bool.false_eq_true, if_false] at *
    constructor <;> grind
  · rw [hst] at c1 c2
    simp only [if_true] at *
    constructor <;> grind
theorem order_vl {x y : Nat} (hx : Fin x) (hy : Fin y) : ∃ a b : Int, D.order x y = some (compare a b) ∧ vl x = (a : Rat) * pw (-1074) ∧ vl y = (b : Rat) * pw (-1074) := by
  obtain ⟨s, m, i, hx⟩ := hx
  obtain ⟨t, n, j, hy⟩ := hy
  have hi := (read_fields hx).2.1
  have hj := (read_fields hy).2.1
  refine ⟨_, _, order_sv hx hy hi hj, ?_, ?_⟩
  · rw [vl_of hx]; exact (signed_vd s m i (-1074) hi).symm
  · rw [vl_of hy]; exact (signed_vd t n j (-1074) hj).symm
theorem mul_lt_iff {a b : Int} {c : Rat} (hc : 0 < c) : (a : Rat) * c < (b : Rat) * c ↔ a < b := by
  rw [Rat.mul_lt_mul_right hc, Rat.intCast_lt_intCast]
theorem mul_eq_iff {a b : Int} {c : Rat} (hc : 0 < c) : (a : Rat) * c = (b : Rat) * c ↔ a = b := by
  constructor
  · intro h
    rcases Int.lt_trichotomy a b with h1 | h1 | h1
    · have := (mul_lt_iff hc).2 h1; grind
    · exact h1
    · have := (mul_lt_iff hc).2 h1; grind
  · rintro rfl; rfl
theorem order_lt {x y : Nat} (hx : Fin x) (hy : Fin y) : D.order x y = some .lt ↔ vl x < vl y := by
  obtain ⟨a, b, h, ha, hb⟩ := order_vl hx hy
  rw [h, ha, hb, mul_lt_iff (pw_pos _), Option.some.injEq, compare_lt]
theorem order_gt {x y : Nat} (hx : Fin x) (hy : Fin y) : D.order x y = some .gt ↔ vl y < vl x := by
  obtain ⟨a, b, h, ha, hb⟩ := order_vl hx hy
  rw [h, ha, hb, mul_lt_iff (pw_pos _), Option.some.injEq, compare_gt]
theorem order_eq {x y : Nat} (hx : Fin x) (hy : Fin y) : D.order x y = some .eq ↔ vl x = vl y := by
  obtain ⟨a, b, h, ha, hb⟩ := order_vl hx hy
  rw [h, ha, hb, mul_eq_iff (pw_pos _), Option.some.injEq, compare_eq]
end Go.Fp

/- From frame to frame and back: how far off the rounded answer is. -/
namespace Go.Fp
open Ieee

theorem Wn.mono {a A B : Rat} (h : Wn a A) (hab : A ≤ B) : Wn a B := ⟨by have := h.1; grind, by have := h.2; grind⟩
theorem Wn.nonneg {a A : Rat} (h : Wn a A) : 0 ≤ A := by have := h.1; have := h.2; grind
theorem wn_add {a b A B : Rat} (h : Wn a A) (k : Wn b B) : Wn (a + b) (A + B) := ⟨by have := h.1; have := k.1; grind, by have := h.2; have := k.2; grind⟩
theorem wn_sub {a b A B : Rat} (h : Wn a A) (k : Wn b B) : Wn (a - b) (A + B) := ⟨by have := h.1; have := k.2; grind, by have := h.2; have := k.1; grind⟩
theorem wn_mul {a b A B : Rat} (h : Wn a A) (k : Wn b B) : Wn (a * b) (A * B) := by
  obtain ⟨h1, h2⟩ := h
  obtain ⟨k1, k2⟩ := k
  have p1 : 0 ≤ (A - a) * (B - b) := Rat.mul_nonneg (by grind) (by grind)
  have p2 : 0 ≤ (A + a) * (B + b) := Rat.mul_nonneg (by grind) (by grind)
  have p3 : 0 ≤ (A - a) * (B + b) := Rat.mul_nonneg (by grind) (by grind)
  have p4 : 0 ≤ (A + a) * (B - b) := Rat.mul_nonneg (by grind) (by grind)
  constructor <;> grind
theorem eta_le : eta ≤ uu := pw_mono (by decide)
theorem big_le {B : Rat} (h : B ≤ 1000000000000) : B ≤ pw 1000 := by
  have h1 : pw 40 ≤ pw 1000 := pw_mono (by decide)
  have h2 : pw 40 = 1099511627776 := by have := pw_nat 40; exact this
  rw [h2] at h1
  generalize pw 1000 = z at *
  grind
theorem big_le' {B : Rat} (h : B ≤ 1000000000000) : B ≤ pw 1022 := Rat.le_trans (big_le h) (pw_mono (by decide))
theorem addE {x y : Nat} (hx : Fin x) (hy : Fin y) (B : Rat) (hB : Wn (vl x + vl y) B) (hB2 : B ≤ 1000000000000) : Fin (fadd x y) ∧ Wn (vl (fadd x y) - (vl x + vl y)) (uu * (B + 1)) := by
  obtain ⟨h1, h2⟩ := fadd_err hx hy B hB (big_le' hB2)
  exact ⟨h1, h2.mono (by have := eta_le; grind)⟩
theorem subE {x y : Nat} (hx : Fin x) (hy : Fin y) (B : Rat) (hB : Wn (vl x - vl y) B) (hB2 : B ≤ 1000000000000) : Fin (fsub x y) ∧ Wn (vl (fsub x y) - (vl x - vl y)) (uu * (B + 1)) := by
  obtain ⟨h1, h2⟩ := fsub_err hx hy B hB (big_le' hB2)
  exact ⟨h1, h2.mono (by have := eta_le; grind)⟩
theorem mulE {x y : Nat} (hx : Fin x) (hy : Fin y) (B : Rat) (hB : Wn (vl x * vl y) B) (hB2 : B ≤ 1000000000000) : Fin (fmul x y) ∧ Wn (vl (fmul x y) - vl x * vl y) (uu * (B + 1)) := by
  obtain ⟨h1, h2⟩ := fmul_err hx hy B hB (big_le' hB2)
  exact ⟨h1, h2.mono (by have := eta_le; grind)⟩
theorem divE {x y : Nat} (hx : Fin x) (hy : Fin y) (hy0 : vl y ≠ 0) (B : Rat) (hB : Wn (vl x / vl y) B) (hB2 : B ≤ 1000000000000) : Fin (fdiv x y) ∧ Wn (vl (fdiv x y) - vl x / vl y) (uu * (2 * B + 1)) := by
  obtain ⟨h1, h2⟩ := fdiv_err hx hy hy0 B hB (big_le hB2)
  exact ⟨h1, h2.mono (by have := eta_le; grind)⟩
end Go.Fp

/- Polynomials over the rationals, in one and two variables, and their sizes; the addition law of the sine's and the cosine's polynomials, by reckoning on their coefficients. -/
namespace Go.Fp.Tri
open Go.Fp
set_option maxRecDepth 20000
/-! polynomials over the rationals, in one and in two variables -/
/-- a polynomial's value -/
def pev : List Rat → Rat → Rat
  | [], _ => 0
  | c :: r, y => c + y * pev r y
def padd : List Rat → List Rat → List Rat
  | [], q => q
  | p, [] => p
  | a :: p, b :: q => (a + b) :: padd p q
def pscale (c : Rat) (p : List Rat) : List Rat := p.map (c * ·)
def pmul : List Rat → List Rat → List Rat
  | [], _ => []
  | c :: r, q => padd (pscale c q) (0 :: pmul r q)
theorem pev_add : ∀ (p q : List Rat) (y : Rat), pev (padd p q) y = pev p y + pev q y
  | [], q, y => by simp only [padd, pev]; grind
  | a :: p, [], y => by simp only [padd, pev]; grind
  | a :: p, b :: q, y => by
    simp only [padd, pev, pev_add p q y]
    grind
theorem pev_scale (c : Rat) : ∀ (p : List Rat) (y : Rat), pev (pscale c p) y = c * pev p y
  | [], y => by simp [pscale, pev]
  | a :: p, y => by
    have h := pev_scale c p y
    simp only [pscale, List.map_cons, pev] at *
    rw [h]
    grind
theorem pev_mul : ∀ (p q : List Rat) (y : Rat), pev (pmul p q) y = pev p y * pev q y
  | [], q, y => by simp [pmul, pev]
  | a :: p, q, y => by
    simp only [pmul, pev_add, pev_scale, pev, pev_mul p q y]
    grind
/-- in two variables: the coefficients are polynomials in the second -/
def qev : List (List Rat) → Rat → Rat → Rat
  | [], _, _ => 0
  | p :: r, x, y => pev p y + x * qev r x y
def qadd : List (List Rat) → List (List Rat) → List (List Rat)
  | [], q => q
  | p, [] => p
  | a :: p, b :: q => padd a b :: qadd p q
def qscale (c : List Rat) (p : List (List Rat)) : List (List Rat) := p.map (pmul c)
def qmul : List (List Rat) → List (List Rat) → List (List Rat)
  | [], _ => []
  | c :: r, q => qadd (qscale c q) ([] :: qmul r q)
theorem qev_add : ∀ (p q : List (List Rat)) (x y : Rat), qev (qadd p q) x y = qev p x y + qev q x y
  | [], q, x, y => by simp only [qadd, qev]; grind
  | a :: p, [], x, y => by simp only [qadd, qev]; grind
  | a :: p, b :: q, x, y => by
    simp only [qadd, qev, pev_add, qev_add p q x y]
    grind
theorem qev_scale (c : List Rat) : ∀ (p : List (List Rat)) (x y : Rat), qev (qscale c p) x y = pev c y * qev p x y
  | [], x, y => by simp [qscale, qev]
  | a :: p, x, y => by
    have h := qev_scale c p x y
    simp only [qscale, List.map_cons, qev, pev_mul] at *
    rw [h]
    grind
theorem qev_mul : ∀ (p q : List (List Rat)) (x y : Rat), qev (qmul p q) x y = qev p x y * qev q x y
  | [], q, x, y => by simp [qmul, qev]
  | a :: p, q, x, y => by
    simp only [qmul, qev_add, qev_scale, qev, pev, qev_mul p q x y]
    grind
/-- a polynomial in the first, in the second variable alone; one polynomial in another -/
def inX (p : List Rat) : List (List Rat) := p.map fun c => [c]
def inY (p : List Rat) : List (List Rat) := [p]
theorem qev_inX : ∀ (p : List Rat) (x y : Rat), qev (inX p) x y = pev p x
  | [], x, y => by simp [inX, qev, pev]
  | a :: p, x, y => by
    have h := qev_inX p x y
    simp only [inX, List.map_cons, qev, pev] at *
    rw [h]
    grind
theorem qev_inY (p : List Rat) (x y : Rat) : qev (inY p) x y = pev p y := by
  simp only [inY, qev]
  grind
def qcomp : List Rat → List (List Rat) → List (List Rat)
  | [], _ => []
  | c :: r, q => qadd [[c]] (qmul q (qcomp r q))
theorem qev_comp : ∀ (p : List Rat) (q : List (List Rat)) (x y : Rat), qev (qcomp p q) x y = pev p (qev q x y)
  | [], q, x, y => by simp [qcomp, qev, pev]
  | a :: p, q, x, y => by
    simp only [qcomp, qev_add, qev_mul, qev_comp p q x y, qev, pev]
    grind
def pneg (p : List Rat) : List Rat := pscale (-1) p
def qneg (p : List (List Rat)) : List (List Rat) := qscale [-1] p
theorem qev_neg (p : List (List Rat)) (x y : Rat) : qev (qneg p) x y = - qev p x y := by
  unfold qneg
  rw [qev_scale]
  simp only [pev]
  grind
/-! bounds -/
def rabs (c : Rat) : Rat := if c < 0 then -c else c
theorem wn_rabs (c : Rat) : Wn c (rabs c) := by
  unfold rabs Wn
  split <;> constructor <;> grind
def pbd : List Rat → Rat → Rat
  | [], _ => 0
  | c :: r, Y => rabs c + Y * pbd r Y
theorem wn_pev : ∀ (p : List Rat) {y Y : Rat}, Wn y Y → Wn (pev p y) (pbd p Y)
  | [], y, Y, h => by constructor <;> simp [pev, pbd]
  | c :: r, y, Y, h => wn_add (wn_rabs c) (wn_mul h (wn_pev r h))
def qbd : List (List Rat) → Rat → Rat → Rat
  | [], _, _ => 0
  | p :: r, X, Y => pbd p Y + X * qbd r X Y
theorem wn_qev : ∀ (p : List (List Rat)) {x y X Y : Rat}, Wn x X → Wn y Y → Wn (qev p x y) (qbd p X Y)
  | [], x, y, X, Y, h, k => by constructor <;> simp [qev, qbd]
  | c :: r, x, y, X, Y, h, k => wn_add (wn_pev c k) (wn_mul h (wn_qev r h k))

def fact : Nat → Nat
  | 0 => 1
  | n + 1 => (n + 1) * fact n
def inv (n : Nat) : Rat := 1 / (fact n : Nat)
/-- the sine's and the cosine's polynomial -/
def PS : List Rat := [0, 1, 0, -inv 3, 0, inv 5, 0, -inv 7, 0, inv 9, 0, -inv 11, 0, inv 13, 0, -inv 15, 0, inv 17]
def PC : List Rat := [1, 0, -inv 2, 0, inv 4, 0, -inv 6, 0, inv 8, 0, -inv 10, 0, inv 12, 0, -inv 14, 0, inv 16]
def XmY : List (List Rat) := [[0, -1], [1]]
/-- what the addition law lacks -/
def RemS : List (List Rat) := qadd (qadd (qmul (inX PS) (inY PC)) (qneg (qmul (inX PC) (inY PS)))) (qneg (qcomp PS XmY))
def RemC : List (List Rat) := qadd (qadd (qmul (inX PC) (inY PC)) (qmul (inX PS) (inY PS))) (qneg (qcomp PC XmY))
theorem remS_bd : qbd RemS (7855 / 10000) (7855 / 10000) ≤ 1 / 10000000000000 := by decide +kernel
theorem remC_bd : qbd RemC (7855 / 10000) (7855 / 10000) ≤ 6 / 10000000000000 := by decide +kernel
def S (x : Rat) : Rat := pev PS x
def C (x : Rat) : Rat := pev PC x
theorem add_S {x y : Rat} (hx : Wn x (7855 / 10000)) (hy : Wn y (7855 / 10000)) : Wn (S x * C y - C x * S y - S (x - y)) (1 / 10000000000000) := by
  have h := (wn_qev RemS hx hy).mono remS_bd
  have e : qev RemS x y = S x * C y - C x * S y - S (x - y) := by
    simp only [RemS, qev_add, qev_neg, qev_mul, qev_inX, qev_inY, qev_comp, S, C]
    have e2 : qev XmY x y = x - y := by simp only [XmY, qev, pev]; grind
    rw [e2]
    grind
  rw [← e]; exact h
theorem add_C {x y : Rat} (hx : Wn x (7855 / 10000)) (hy : Wn y (7855 / 10000)) : Wn (C x * C y + S x * S y - C (x - y)) (6 / 10000000000000) := by
  have h := (wn_qev RemC hx hy).mono remC_bd
  have e : qev RemC x y = C x * C y + S x * S y - C (x - y) := by
    simp only [RemC, qev_add, qev_neg, qev_mul, qev_inX, qev_inY, qev_comp, S, C]
    have e2 : qev XmY x y = x - y := by simp only [XmY, qev, pev]; grind
    rw [e2]
    grind
  rw [← e]; exact h
end Go.Fp.Tri

/- The polynomials of sine and cosine: a quarter of a turn on; how fast they grow; how small they are. -/
namespace Go.Fp.Tri
open Go.Fp
set_option maxRecDepth 20000
/-- a nanodegree, as the program has it; an eighth of a turn -/
def rho : Rat := 5401532406949459 / 309485009821345068724781056
def oct : Rat := 45000000000 * rho
theorem rho_pos : 0 < rho := by unfold rho; grind
theorem rho_lo : 17453 / 1000000000000000 ≤ rho := by unfold rho; grind
theorem rho_hi : rho ≤ 17454 / 1000000000000000 := by unfold rho; grind
/-- a quarter of a turn on: cosine and sine -/
def RemH : List (List Rat) := qadd (qcomp PC [[-oct, 1]]) (qneg (qcomp PS [[oct, 1]]))
theorem remH_bd : qbd RemH 0 (7855 / 10000) ≤ 6 / 10000000000000 := by decide +kernel
theorem half_turn {u : Rat} (hu : Wn u (7855 / 10000)) : Wn (C (u - oct) - S (u + oct)) (6 / 10000000000000) := by
  have h := (wn_qev RemH (x := 0) (X := 0) ⟨by grind, by grind⟩ hu).mono remH_bd
  have e : qev RemH 0 u = C (u - oct) - S (u + oct) := by
    simp only [RemH, qev_add, qev_neg, qev_comp, S, C]
    have e1 : qev [[-oct, 1]] 0 u = u - oct := by simp only [qev, pev]; grind
    have e2 : qev [[oct, 1]] 0 u = u + oct := by simp only [qev, pev]; grind
    rw [e1, e2]
    grind
  rw [← e]; exact h
/-- how fast a polynomial grows -/
def plip : List Rat → Rat → Rat
  | [], _ => 0
  | _ :: r, X => pbd r X + X * plip r X
theorem wn_lip : ∀ (p : List Rat) {x y X D : Rat}, Wn x X → Wn y X → Wn (x - y) D → Wn (pev p x - pev p y) (D * plip p X)
  | [], x, y, X, D, _, _, hd => by
    have := hd.nonneg
    constructor <;> simp [pev, plip] <;> grind
  | c :: r, x, y, X, D, hx, hy, hd => by
    have h1 := wn_mul hd (wn_pev r hx)
    have h2 := wn_mul hy (wn_lip r hx hy hd)
    have h := wn_add h1 h2
    have e : (x - y) * pev r x + y * (pev r x - pev r y) = pev (c :: r) x - pev (c :: r) y := by simp only [pev]; grind
    rw [e] at h
    exact h.mono (by simp only [plip]; grind)
/-- sizes -/
def T2 : List Rat := [inv 5, 0, -inv 7, 0, inv 9, 0, -inv 11, 0, inv 13, 0, -inv 15, 0, inv 17]
def T3 : List Rat := [-inv 7, 0, inv 9, 0, -inv 11, 0, inv 13, 0, -inv 15, 0, inv 17]
theorem t3_bd : pbd T3 (1571 / 1000) ≤ 1 / 1000 := by decide +kernel
theorem S_low {z : Rat} (h0 : 0 ≤ z) (h1 : z ≤ 1571 / 1000) : 58 / 100 * z ≤ S z := by
  have hz : Wn z (1571 / 1000) := ⟨by grind, h1⟩
  have h3 := (wn_pev T3 hz).mono t3_bd
  have hzz := wn_mul hz hz
  have h4 := wn_mul hzz h3
  have e2 : pev T2 z = inv 5 + z * z * pev T3 z := by simp only [T2, T3, pev]; grind
  have i5 : inv 5 = 1 / 120 := by decide +kernel
  have p2 : 0 ≤ pev T2 z := by rw [e2, i5]; have := h4.1; grind
  have e : S z = z * (1 - inv 3 * (z * z) + z * z * (z * z) * pev T2 z) := by simp only [S, PS, T2, pev]; grind
  have i3 : inv 3 = 1 / 6 := by decide +kernel
  have q1 : 0 ≤ z * z := Rat.mul_nonneg h0 h0
  have q2 : 0 ≤ z * z * (z * z) * pev T2 z := Rat.mul_nonneg (Rat.mul_nonneg q1 q1) p2
  have q3 : 58 / 100 ≤ 1 - inv 3 * (z * z) + z * z * (z * z) * pev T2 z := by rw [i3]; have := hzz.2; grind
  have := Rat.mul_le_mul_of_nonneg_left q3 h0
  rw [e]
  grind
theorem S_odd (z : Rat) : S (-z) = - S z := by simp only [S, PS, pev]; grind
theorem C_even (z : Rat) : C (-z) = C z := by simp only [C, PC, pev]; grind
theorem C_zero : C 0 = 1 := by simp only [C, PC, pev]; grind
def TC : List Rat := [-inv 2, 0, inv 4, 0, -inv 6, 0, inv 8, 0, -inv 10, 0, inv 12, 0, -inv 14, 0, inv 16]
theorem tc_bd : pbd TC (7855 / 10000) ≤ 527 / 1000 := by decide +kernel
theorem C_low {x : Rat} (hx : Wn x (7855 / 10000)) : 67 / 100 ≤ C x := by
  have h := (wn_pev TC hx).mono tc_bd
  have hh := wn_mul (wn_mul hx hx) h
  have e : C x = 1 + x * x * pev TC x := by simp only [C, PC, TC, pev]; grind
  rw [e]
  have := hh.1
  grind
def OneP : List Rat := padd (padd (pmul PC PC) (pmul PS PS)) [-1]
theorem one_bd : pbd OneP (7855 / 10000) ≤ 1 / 1000000000000000 := by decide +kernel
theorem one_SC {x : Rat} (hx : Wn x (7855 / 10000)) : Wn (C x * C x + S x * S x - 1) (1 / 1000000000000000) := by
  have h := (wn_pev OneP hx).mono one_bd
  have e : pev OneP x = C x * C x + S x * S x - 1 := by
    simp only [OneP, pev_add, pev_mul, pev, C, S]
    grind
  rw [← e]; exact h
theorem bdS : pbd PS (7855 / 10000) ≤ 88 / 100 := by decide +kernel
theorem wn_S {x : Rat} (hx : Wn x (7855 / 10000)) : Wn (S x) (88 / 100) := (wn_pev PS hx).mono bdS
end Go.Fp.Tri

/- Sine and cosine of so many nanodegrees, by the polynomials: their addition law, how fast they grow, how small they are. -/
namespace Go.Fp.Tri
open Go.Fp
set_option maxRecDepth 20000
theorem castle {a b : Int} (h : a ≤ b) : (a : Rat) ≤ (b : Rat) := Rat.intCast_le_intCast.2 h
theorem _root_.Go.Fp.Wn.of {a b A B : Rat} (h : Wn a A) (e : a = b) (hab : A ≤ B) : Wn b B := e ▸ h.mono hab
/-- the sine and the cosine of so many nanodegrees, from minus a quarter to a quarter of a turn -/
def sI (m : Int) : Rat := if m < -45000000000 then -C (((m + 90000000000 : Int) : Rat) * rho) else if m < 45000000000 then S ((m : Rat) * rho) else C (((m - 90000000000 : Int) : Rat) * rho)
def cI (m : Int) : Rat := if m < -45000000000 then S (((m + 90000000000 : Int) : Rat) * rho) else if m < 45000000000 then C ((m : Rat) * rho) else -S (((m - 90000000000 : Int) : Rat) * rho)
theorem arg_bd {r : Int} (h1 : -45000000000 ≤ r) (h2 : r ≤ 45000000000) : Wn ((r : Rat) * rho) (7855 / 10000) := by
  have a1 : (-45000000000 : Rat) ≤ (r : Rat) := castle h1
  have a2 : (r : Rat) ≤ 45000000000 := castle h2
  refine (wn_mul (A := 45000000000) ⟨by grind, a2⟩ (show Wn rho (17454 / 1000000000000000) from ⟨by have := rho_pos; grind, rho_hi⟩)).mono (by grind)
theorem sI_lo {m : Int} (h0 : 0 ≤ m) (h : m < 45000000000) : sI m = S ((m : Rat) * rho) := by unfold sI; rw [if_neg (by omega), if_pos h]
theorem sI_hi {m : Int} (h : 45000000000 ≤ m) : sI m = C (((m - 90000000000 : Int) : Rat) * rho) := by unfold sI; rw [if_neg (by omega), if_neg (by omega)]
theorem cI_lo {m : Int} (h0 : 0 ≤ m) (h : m < 45000000000) : cI m = C ((m : Rat) * rho) := by unfold cI; rw [if_neg (by omega), if_pos h]
theorem cI_hi {m : Int} (h : 45000000000 ≤ m) : cI m = -S (((m - 90000000000 : Int) : Rat) * rho) := by unfold cI; rw [if_neg (by omega), if_neg (by omega)]
/-- no faster than 1.325 -/
theorem wn_oct : Wn oct (7855 / 10000) := by
  have h := arg_bd (r := 45000000000) (by omega) (by omega)
  exact h
theorem at_oct' : -(1 / 1000000000000000 : Rat) ≤ C oct - S oct ∧ C oct - S oct ≤ 1 / 1000000000000000 := by decide +kernel
theorem at_oct : Wn (C oct - S oct) (1 / 1000000000000000) := at_oct'
/-- sizes -/
theorem one_I {m : Int} (hm : -90000000000 ≤ m) (hm2 : m ≤ 90000000000) : Wn (cI m * cI m + sI m * sI m - 1) (1 / 1000000000000000) := by
  unfold cI sI
  split
  · have h := one_SC (arg_bd (r := m + 90000000000) (by omega) (by omega))
    obtain ⟨a, b⟩ := h
    constructor <;> grind
  · split
    · exact one_SC (arg_bd (r := m) (by omega) (by omega))
    · have h := one_SC (arg_bd (r := m - 90000000000) (by omega) (by omega))
      obtain ⟨a, b⟩ := h
      constructor <;> grind
theorem sq_le {s c : Rat} (h : Wn (c * c + s * s - 1) (1 / 1000000000000000)) : Wn s (1001 / 1000) := by
  have h2 : s * s ≤ 1 + 1 / 1000000000000000 := by
    have := h.2
    have hc : 0 ≤ c * c := by
      rcases Rat.le_total (a := 0) (b := c) with hh | hh
      · exact Rat.mul_nonneg hh hh
      · have := Rat.mul_nonneg (show 0 ≤ -c by grind) (show 0 ≤ -c by grind)
        grind
    grind
  constructor
  · rcases Rat.le_total (a := -(1001 / 1000)) (b := s) with hh | hh
    · exact hh
    · exfalso
      have := Rat.mul_nonneg (show 0 ≤ -(1001 / 1000) - s by grind) (show 0 ≤ -(1001 / 1000) - s by grind)
      grind
  · rcases Rat.le_total (a := s) (b := 1001 / 1000) with hh | hh
    · exact hh
    · exfalso
      have := Rat.mul_nonneg (show 0 ≤ s - 1001 / 1000 by grind) (show 0 ≤ s - 1001 / 1000 by grind)
      grind
theorem wn_sI {m : Int} (hm : -90000000000 ≤ m) (hm2 : m ≤ 90000000000) : Wn (sI m) (1001 / 1000) := sq_le (one_I hm hm2)
theorem wn_cI {m : Int} (hm : -90000000000 ≤ m) (hm2 : m ≤ 90000000000) : Wn (cI m) (1001 / 1000) := sq_le (c := sI m) ((show cI m * cI m + sI m * sI m - 1 = sI m * sI m + cI m * cI m - 1 by grind) ▸ one_I hm hm2)
theorem sI_ge {m : Int} (hm : 0 ≤ m) (hm2 : m ≤ 90000000000) : 58 / 100 * ((m : Rat) * rho) ≤ sI m ∨ 67 / 100 ≤ sI m := by
  rcases Int.lt_or_le m 45000000000 with h1 | h1
  · left
    rw [sI_lo hm h1]
    have a : (0 : Rat) ≤ (m : Rat) := by exact_mod_cast hm
    exact S_low (Rat.mul_nonneg a (Rat.le_of_lt rho_pos)) (by have := (arg_bd (r := m) (by omega) (by omega)).2; grind)
  · right
    rw [sI_hi h1]
    exact C_low (arg_bd (r := m - 90000000000) (by omega) (by omega))
theorem sI_nonneg {m : Int} (hm : 0 ≤ m) (hm2 : m ≤ 90000000000) : 0 ≤ sI m := by
  have a : (0 : Rat) ≤ (m : Rat) := by exact_mod_cast hm
  have := Rat.mul_nonneg a (Rat.le_of_lt rho_pos)
  rcases sI_ge hm hm2 with h | h <;> grind
theorem cI_ge {m : Int} (hm : 0 ≤ m) (hm2 : m ≤ 90000000000) : 67 / 100 ≤ cI m ∨ 58 / 100 * ((90000000000 - (m : Rat)) * rho) ≤ cI m := by
  rcases Int.lt_or_le m 45000000000 with h1 | h1
  · left
    rw [cI_lo hm h1]
    exact C_low (arg_bd (r := m) (by omega) (by omega))
  · right
    rw [cI_hi h1, ← S_odd]
    have a : (m : Rat) ≤ 90000000000 := castle hm2
    have e : -(((m - 90000000000 : Int) : Rat) * rho) = (90000000000 - (m : Rat)) * rho := by push_cast; grind
    have b := arg_bd (r := m - 90000000000) (by omega) (by omega)
    rw [e]
    refine S_low (Rat.mul_nonneg (by grind) (Rat.le_of_lt rho_pos)) ?_
    rw [← e]
    have := b.1
    grind
theorem cI_nonneg {m : Int} (hm : 0 ≤ m) (hm2 : m ≤ 90000000000) : 0 ≤ cI m := by
  have a : (m : Rat) ≤ 90000000000 := castle hm2
  have := Rat.mul_nonneg (show (0 : Rat) ≤ 90000000000 - (m : Rat) by grind) (Rat.le_of_lt rho_pos)
  rcases cI_ge hm hm2 with h | h <;> grind
/-- from the other side -/
theorem sI_odd {m : Int} (hm : 0 ≤ m) (hm2 : m ≤ 90000000000) : Wn (sI (-m) + sI m) (1 / 1000000000000000) ∧ Wn (cI (-m) - cI m) (1 / 1000000000000000) := by
  have z : Wn 0 (1 / 1000000000000000) := ⟨by grind, by grind⟩
  rcases Int.lt_trichotomy m 45000000000 with h1 | h1 | h1
  · have e1 : sI (-m) = - sI m := by
      rw [sI_lo hm h1]; unfold sI; rw [if_neg (by omega), if_pos (by omega), ← S_odd]; congr 1; push_cast; grind
    have e2 : cI (-m) = cI m := by
      rw [cI_lo hm h1]; unfold cI; rw [if_neg (by omega), if_pos (by omega), ← C_even]; congr 1; push_cast; grind
    rw [e1, e2]
    constructor
    · rw [show -sI m + sI m = 0 by grind]; exact z
    · rw [show cI m - cI m = 0 by grind]; exact z
  · subst h1
    have j := at_oct
    have e1 : sI (-45000000000) = - S oct := by unfold sI; rw [if_neg (by omega), if_pos (by omega), ← S_odd]; congr 1; unfold oct; push_cast; grind
    have e2 : cI (-45000000000) = C oct := by unfold cI; rw [if_neg (by omega), if_pos (by omega), ← C_even]; congr 1; unfold oct; push_cast; grind
    have e3 : sI 45000000000 = C oct := by rw [sI_hi (by omega), ← C_even]; congr 1; unfold oct; push_cast; grind
    have e4 : cI 45000000000 = S oct := by rw [cI_hi (by omega), ← S_odd]; congr 1; unfold oct; push_cast; grind
    rw [e1, e2, e3, e4]
    obtain ⟨a, b⟩ := j
    refine ⟨⟨?_, ?_⟩, ⟨?_, ?_⟩⟩ <;> grind
  · have e1 : sI (-m) = - sI m := by
      rw [sI_hi (m := m) (by omega)]; unfold sI; rw [if_pos (by omega), ← C_even]; congr 2; push_cast; grind
    have e2 : cI (-m) = cI m := by
      rw [cI_hi (m := m) (by omega)]; unfold cI; rw [if_pos (by omega), ← S_odd]; congr 1; push_cast; grind
    rw [e1, e2]
    constructor
    · rw [show -sI m + sI m = 0 by grind]; exact z
    · rw [show cI m - cI m = 0 by grind]; exact z
end Go.Fp.Tri

/- Radii across the meridian of two latitudes, and how near they are; roots. -/
namespace Go.Fp.Tri
open Go.Fp
set_option maxRecDepth 20000
theorem wn_quot {x c c0 y : Rat} (hc0 : 0 < c0) (h : c0 ≤ c) (hx : Wn (x * c) (c0 * y)) : Wn x y := by
  have hy : 0 ≤ y := by
    have := hx.nonneg
    rcases Rat.le_total (a := 0) (b := y) with hh | hh
    · exact hh
    · have h2 := Rat.mul_le_mul_of_nonneg_left hh (Rat.le_of_lt hc0)
      have h3 : c0 * y = 0 := by grind
      rcases Rat.mul_eq_zero.1 h3 with h4 | h4 <;> grind
  constructor
  · rcases Rat.le_total (a := -y) (b := x) with hh | hh
    · exact hh
    · have h1 := Rat.mul_le_mul_of_nonneg_left (show c0 ≤ c from h) (show 0 ≤ -x by grind)
      have h2 := hx.1
      have h3 : c0 * -x ≤ c0 * y := by grind
      have := Rat.le_of_mul_le_mul_left h3 hc0
      grind
  · rcases Rat.le_total (a := x) (b := y) with hh | hh
    · exact hh
    · have h1 := Rat.mul_le_mul_of_nonneg_left (show c0 ≤ c from h) (show 0 ≤ x by grind)
      have h2 := hx.2
      have h3 : c0 * x ≤ c0 * y := by grind
      exact Rat.le_of_mul_le_mul_left h3 hc0
/-- so near a whole number that it is told -/
theorem whole_le {d k : Int} {x : Rat} (h : (d : Rat) ≤ x) (hx : x < (k : Rat) + 1) : d ≤ k := by
  have h1 : (d : Rat) < ((k + 1 : Int) : Rat) := by push_cast; grind
  have := Rat.intCast_lt_intCast.1 h1
  omega
end Go.Fp.Tri

/- From frame to frame and back: the law in plain words. -/
namespace Go.Fp
open Ieee

theorem pw_inv (k : Nat) : pw (-(k : Int)) * ((2 ^ k : Nat) : Rat) = 1 := by
  rw [← pw_nat, ← pw_add, Int.add_left_neg, pw_zero]
theorem vl_const {x : Nat} {s : Bool} {m k : Nat} (h : D.read x = .number s m (-(k : Int))) {q : Rat} (hq : q * ((2 ^ k : Nat) : Rat) = ((sg s : Int) : Rat) * (m : Rat)) : Fin x ∧ vl x = q := by
  refine ⟨⟨_, _, _, h⟩, ?_⟩
  rw [vl_of h]
  unfold vd
  have := pw_inv k
  rw [← hq]
  generalize pw (-(k : Int)) = z at *
  generalize ((2 ^ k : Nat) : Rat) = y at *
  grind
theorem btw_vl {x lo hi : Nat} (hlo : Fin lo) (hhi : Fin hi) (h1 : fge x lo = true) (h2 : fle x hi = true) : Fin x ∧ vl lo ≤ vl x ∧ vl x ≤ vl hi := by
  have hx : Fin x := by
    unfold fge at h1
    unfold fle at h2
    obtain ⟨s, m, i, hlo⟩ := hlo
    obtain ⟨t, n, j, hhi⟩ := hhi
    unfold Format.order at h1 h2
    rw [hlo] at h1
    rw [hhi] at h2
    cases hr : D.read x with
    | nan a b => rw [hr] at h1; simp [Datum.order] at h1
    | infinity s => rw [hr] at h1 h2; cases s <;> simp [Datum.order] at h1 h2
    | number s m i => exact ⟨_, _, _, hr⟩
  refine ⟨hx, ?_, ?_⟩
  · unfold fge at h1
    simp only [Bool.or_eq_true, beq_iff_eq] at h1
    rcases h1 with h | h
    · exact Rat.le_of_lt ((order_gt hx hlo).1 h)
    · have := (order_eq hx hlo).1 h; grind
  · unfold fle at h2
    simp only [Bool.or_eq_true, beq_iff_eq] at h2
    rcases h2 with h | h
    · exact Rat.le_of_lt ((order_lt hx hhi).1 h)
    · have := (order_eq hx hhi).1 h; grind
theorem fle_vl {x y : Nat} (hx : Fin x) (hy : Fin y) : fle x y = true ↔ vl x ≤ vl y := by
  unfold fle
  simp only [Bool.or_eq_true, beq_iff_eq]
  rw [order_lt hx hy, order_eq hx hy]
  grind
theorem fge_vl {x y : Nat} (hx : Fin x) (hy : Fin y) : fge x y = true ↔ vl y ≤ vl x := by
  unfold fge
  simp only [Bool.or_eq_true, beq_iff_eq]
  rw [order_gt hx hy, order_eq hx hy]
  grind

abbrev c1e5 : Nat := 4681608360884174848
abbrev m1e5 : Nat := 13904980397738950656
abbrev c1m3 : Nat := 4562254508917369340
abbrev m1m3 : Nat := 13785626545772145148
abbrev c1e3 : Nat := 4652007308841189376
abbrev m1e3 : Nat := 13875379345695965184
abbrev c1e8 : Nat := 4726483295884279808
abbrev m1e8 : Nat := 13949855332739055616
abbrev c1e10 : Nat := 4756540486875873280
abbrev m1e10 : Nat := 13979912523730649088
abbrev c1m5 : Nat := 4532020583610935537
abbrev m1m5 : Nat := 13755392620465711345
abbrev c1m6 : Nat := 4517329193108106637
abbrev cOne : Nat := 4607182418800017408
theorem v_one : Fin cOne ∧ vl cOne = 1 := vl_const (s := false) (m := 4503599627370496) (k := 52) (by decide +kernel) (by decide +kernel)
end Go.Fp

/- Floats as what they stand for: signs, whole numbers, square roots. -/
namespace Go.Fp
open Ieee
set_option maxRecDepth 20000

theorem near_sign (s : Bool) (M : Nat) (base : Int) (hb : M = 0 ∨ base + (M.log2 : Int) ≤ 1022) (h : 0 ≤ vd s M base) : 0 ≤ vl (D.nearest s M base) := by
  by_cases hM : M = 0
  · subst hM
    have e : D.nearest s 0 base = D.word s 0 := by unfold Format.nearest; rw [if_pos rfl]
    rw [e]
    obtain ⟨m, p, hr, _⟩ := near_err s 0 base (.inl rfl)
    rw [e] at hr
    have hr2 := read_word2 s (r := 0) (by omega)
    rw [if_pos (by omega)] at hr2
    rw [vl_of hr2, vd_sign]
    unfold vd
    cases s <;> simp
  · obtain ⟨m, p, hr, hp, _⟩ := near_err s M base hb
    rw [vl_of hr]
    cases s
    · exact vd_nonneg m p
    · exfalso
      rw [vd_sign, if_pos rfl, vd_false] at h
      have h1 : (0 : Rat) < (M : Rat) := cast_pos hM
      have h2 := pw_pos base
      have := Rat.mul_pos h1 h2
      grind
theorem fmul_nonneg {x y : Nat} (hx : Fin x) (hy : Fin y) (B : Rat) (hB : Wn (vl x * vl y) B) (hB2 : B ≤ pw 1022) (h : 0 ≤ vl x * vl y) : 0 ≤ vl (fmul x y) := by
  obtain ⟨s, m, i, hx⟩ := hx
  obtain ⟨t, n, j, hy⟩ := hy
  rw [vl_of hx, vl_of hy] at *
  have e : fmul x y = D.nearest (s ^^ t) (m * n) (i + j) := by
    unfold fmul Format.mul
    rw [hx, hy]; rfl
  rw [e]
  rw [← vd_mul] at hB h
  exact near_sign _ _ _ (vd_bound (Rat.le_trans (abs_vd _ _ _ B hB) hB2)) h
theorem vl_neg (x : Nat) (hx : Fin x) : Fin (Op.negFloat .f64 x) ∧ vl (Op.negFloat .f64 x) = - vl x := by
  obtain ⟨s, m, i, hx⟩ := hx
  have h : D.read (Op.negFloat .f64 x) = .number (!s) m i := by
    have : D.read (Op.negFloat .f64 x) = (D.read x).opposite := by
      obtain ⟨h1, h2⟩ := neg_parts x
      have hb : ((Op.negFloat .f64 x) / 2 ^ 63 % 2 == 1) = !(x / 2 ^ 63 % 2 == 1) := by
        rw [h2]
        rcases Nat.mod_two_eq_zero_or_one (x / 2 ^ 63) with h | h <;> rw [h] <;> rfl
      unfold Format.read
      simp only [D_sign, D_inf, D_bin, D_least]
      rw [h1, hb]
      split
      · rfl
      · split
        · rfl
        · split <;> rfl
    rw [this, hx]; rfl
  exact ⟨⟨_, _, _, h⟩, by rw [vl_of h, vl_of hx, vd_not]⟩
/-- a whole number below 2 ^ 53 is told as it is -/
theorem vl_int (n : Int) (h : n.natAbs < 2 ^ 53) : Fin (floatOfInt .f64 n) ∧ vl (floatOfInt .f64 n) = (n : Rat) := by
  have e : floatOfInt .f64 n = D.nearest (decide (n < 0)) (n.natAbs <<< 0) 0 := by rw [Nat.shiftLeft_zero]; rfl
  obtain ⟨m, p, hr, hp, hk⟩ := read_exact (decide (n < 0)) n.natAbs 0 0 h (by omega) (by omega)
  rw [← e] at hr
  refine ⟨⟨_, _, _, hr⟩, ?_⟩
  rw [vl_of hr, vd_sign, vd_shift false hp (j := 0) (by omega) hk, ← vd_sign]
  have ht := vd_total n false 0
  rw [pw_zero] at ht
  by_cases h0 : n = 0
  · subst h0; unfold vd; simp
  · rw [if_neg h0] at ht
    rw [ht]; grind

/-! square roots -/
theorem rootFrom_ok (n : Nat) : ∀ (k r : Nat), r * r ≤ n → n < (r + 2 ^ k) * (r + 2 ^ k) → Datum.rootFrom n k r * Datum.rootFrom n k r ≤ n ∧ n < (Datum.rootFrom n k r + 1) * (Datum.rootFrom n k r + 1)
  | 0, r, h1, h2 => ⟨h1, by simpa [Datum.rootFrom] using h2⟩
  | k + 1, r, h1, h2 => by
    have hp : 2 ^ (k + 1) = 2 ^ k + 2 ^ k := by rw [Nat.pow_succ]; omega
    rw [hp] at h2
    have hs : (1 <<< k : Nat) = 2 ^ k := by rw [Nat.shiftLeft_eq, Nat.one_mul]
    unfold Datum.rootFrom
    simp only [hs]
    by_cases h : (r + 2 ^ k) * (r + 2 ^ k) ≤ n
    · rw [if_pos h]
      exact rootFrom_ok n k (r + 2 ^ k) h (by rw [Nat.add_assoc]; exact h2)
    · rw [if_neg h]
      exact rootFrom_ok n k r h1 (by omega)
theorem sq_lt {a b : Nat} (h : a * a < b * b) : a < b := by
  rcases Nat.lt_or_ge a b with h' | h'
  · exact h'
  · have := Nat.mul_le_mul h' h'; omega
theorem root_parts (n : Nat) (h : 2 ^ 108 ≤ n) : ∃ W b : Nat, Datum.rootFrom n (n.log2 / 2 + 1) 0 = W ∧ (W * W != n).toNat = b ∧ 2 ^ 54 ≤ W ∧ W * W ≤ n ∧ Wn (((W : Rat) + (b : Rat) / 2) * ((W : Rat) + (b : Rat) / 2) - (n : Rat)) ((W : Rat) + 1 / 4) := by
  have hp : n < (0 + 2 ^ (n.log2 / 2 + 1)) * (0 + 2 ^ (n.log2 / 2 + 1)) := by
    rw [Nat.zero_add, ← Nat.pow_add]
    exact Nat.lt_of_lt_of_le Nat.lt_log2_self (Nat.pow_le_pow_right (by decide) (by omega))
  obtain ⟨h1, h2⟩ := rootFrom_ok n (n.log2 / 2 + 1) 0 (by omega) hp
  generalize Datum.rootFrom n (n.log2 / 2 + 1) 0 = W at *
  refine ⟨W, _, rfl, rfl, ?_, h1, ?_⟩
  · have : 2 ^ 54 < W + 1 := sq_lt (Nat.lt_of_le_of_lt (by rw [← Nat.pow_add]; exact h) h2)
    omega
  · have h3 : n ≤ W * W + 2 * W := by
      have : (W + 1) * (W + 1) = W * W + 2 * W + 1 := by grind
      omega
    by_cases he : W * W = n
    · have hb : (W * W != n).toNat = 0 := by simp [he]
      rw [hb]
      have e : (W : Rat) * (W : Rat) = (n : Rat) := by exact_mod_cast he
      have h0 : (0 : Rat) ≤ (W : Rat) := by exact_mod_cast Nat.zero_le W
      constructor
      · simp; grind
      · simp; grind
    · have hb : (W * W != n).toNat = 1 := by simp [he]
      rw [hb]
      have h4 : W * W + 1 ≤ n := by omega
      have e1 : (W : Rat) * (W : Rat) + 1 ≤ (n : Rat) := by exact_mod_cast h4
      have e2 : (n : Rat) ≤ (W : Rat) * (W : Rat) + 2 * (W : Rat) := by exact_mod_cast h3
      generalize (W : Rat) = x at *
      generalize (n : Rat) = y at *
      constructor
      · push_cast; grind
      · push_cast; grind
theorem fsqrt_err {x : Nat} (hx : Fin x) (h1 : 1 / 4 ≤ vl x) (h2 : vl x ≤ pw 1000) : Fin (fsqrt x) ∧ 0 ≤ vl (fsqrt x) ∧ Wn (vl (fsqrt x) * vl (fsqrt x) - vl x) (8 * uu * vl x) := by
  obtain ⟨s, m, i, hx⟩ := hx
  rw [vl_of hx] at *
  have hs : s = false := by
    cases s
    · rfl
    · exfalso
      rw [vd_sign, if_pos rfl] at h1
      have := vd_nonneg m i
      grind
  subst hs
  have hm : m ≠ 0 := by
    rintro rfl
    rw [vd_false] at h1
    simp at h1
    grind
  obtain ⟨mo, hmo⟩ : ∃ k, k = 2 * 54 - m.log2 + ((i - ((2 * 54 - m.log2 : Nat) : Int)) % 2).toNat := ⟨_, rfl⟩
  have hev : (i - (mo : Int)) / 2 + (i - (mo : Int)) / 2 = i - (mo : Int) := by omega
  have hn : 2 ^ 108 ≤ m <<< mo := by
    have hne : m <<< mo ≠ 0 := by rw [Nat.shiftLeft_eq]; exact Nat.mul_ne_zero hm (by have := Nat.two_pow_pos mo; omega)
    rw [← Nat.le_log2 hne, log2_shift_le m mo hm]
    omega
  obtain ⟨W, b, hW, hb, hW54, hWn, hQ⟩ := root_parts (m <<< mo) hn
  obtain ⟨h, hh⟩ : ∃ h, h = (i - (mo : Int)) / 2 := ⟨_, rfl⟩
  have e : fsqrt x = D.nearest false (2 * W + b) (h - 1) := by
    unfold fsqrt Format.sqrt
    rw [hx]
    unfold Datum.root
    dsimp only
    rw [if_neg hm, if_neg (by decide)]
    have hD : 2 * (D.fractionBits + 2) = 2 * 54 := rfl
    rw [hD, ← hmo, hW, hb, ← hh]
    rfl
  rw [e]
  have hv : vd false m i = ((m <<< mo : Nat) : Rat) * pw h * pw h := by
    rw [vd_false, Nat.shiftLeft_eq, show i = (mo : Int) + (h + h) by omega, pw_add, pw_nat, pw_add]
    push_cast
    grind
  have hw0 := cast_pos (show W ≠ 0 by omega)
  have hb0 : (0 : Rat) ≤ (b : Rat) := by exact_mod_cast Nat.zero_le b
  have hq : vd false (2 * W + b) (h - 1) = ((W : Rat) + (b : Rat) / 2) * pw h := by
    rw [vd_false, show h - 1 = (-1) + h by omega, pw_add, pw_neg1]
    push_cast
    grind
  have hWs : (W : Rat) * 18014398509481984 ≤ ((m <<< mo : Nat) : Rat) := by
    have : W * 18014398509481984 ≤ W * W := Nat.mul_le_mul_left W hW54
    have h' : W * 18014398509481984 ≤ m <<< mo := Nat.le_trans this hWn
    exact_mod_cast h'
  have hN1 : (1 : Rat) * 18014398509481984 ≤ ((m <<< mo : Nat) : Rat) := by
    have h' : 1 * 18014398509481984 ≤ m <<< mo := Nat.le_trans (by decide) hn
    exact_mod_cast h'
  rw [hv] at h1 h2 ⊢
  have hph := pw_pos h
  generalize ((m <<< mo : Nat) : Rat) = N at *
  obtain ⟨Q, hQe⟩ : ∃ Q, Q = (W : Rat) + (b : Rat) / 2 := ⟨_, rfl⟩
  rw [← hQe] at hQ hq
  have hQ0 : 0 < Q := by rw [hQe]; grind
  obtain ⟨q, hqe⟩ : ∃ q, q = Q * pw h := ⟨_, rfl⟩
  rw [← hqe] at hq
  have hq0 : 0 < q := by rw [hqe]; exact Rat.mul_pos hQ0 hph
  obtain ⟨v, hve⟩ : ∃ v, v = N * pw h * pw h := ⟨_, rfl⟩
  rw [← hve] at h1 h2 ⊢
  -- the root's square is near
  have hqq : Wn (q * q - v) (uu * v) := by
    have hpp := Rat.mul_pos hph hph
    have e1 : q * q - v = (Q * Q - N) * (pw h * pw h) := by rw [hqe, hve]; grind
    have e2 : uu * v = (uu * N) * (pw h * pw h) := by rw [hve]; grind
    have hQ' : Wn (Q * Q - N) (uu * N) := hQ.mono (by rw [uu_eq]; grind)
    rw [e1, e2]
    obtain ⟨a1, a2⟩ := hQ'
    have m1 := Rat.mul_le_mul_of_nonneg_right a1 (Rat.le_of_lt hpp)
    have m2 := Rat.mul_le_mul_of_nonneg_right a2 (Rat.le_of_lt hpp)
    constructor <;> grind
  have huv : uu * v ≤ v / 1000 := by rw [uu_eq]; grind
  have hqlo : 49 / 100 ≤ q := by
    rcases Rat.le_total (a := 49 / 100) (b := q) with h' | h'
    · exact h'
    · exfalso
      have := Rat.mul_nonneg (show 0 ≤ 49 / 100 - q by grind) (show 0 ≤ 49 / 100 + q by grind)
      have := hqq.1
      grind
  have hqhi : q ≤ pw 1001 := by
    have h1001 : pw 1001 = pw 1000 * 2 := by rw [show (1001 : Int) = 1000 + 1 by decide, pw_add, pw_one]
    have h1000 : 1 ≤ pw 1000 := by have := pw_mono (show (0 : Int) ≤ 1000 by decide); rw [pw_zero] at this; exact this
    rcases Rat.le_total (a := q) (b := 1) with h' | h'
    · rw [h1001]; generalize pw 1000 = z at *; grind
    · have := Rat.mul_le_mul_of_nonneg_left h' (Rat.le_of_lt hq0)
      have := hqq.2
      rw [h1001]; generalize pw 1000 = z at *; grind
  obtain ⟨m', p', hr, hp', hw⟩ := near_err false (2 * W + b) (h - 1) (vd_bound (by rw [hq]; exact Rat.le_trans hqhi (pw_mono (by decide))))
  rw [hq, ← vl_of hr] at hw
  have het : eta ≤ uu * q := by
    have h1 : eta ≤ pw (-60) := pw_mono (by decide)
    have h2 : pw (-60) = 1 / 1152921504606846976 := by
      have h := pw_add (-60) 60
      rw [show (-60 + 60 : Int) = 0 by decide, pw_zero] at h
      have h2 : pw 60 = 1152921504606846976 := by have := pw_nat 60; exact this
      rw [h2] at h
      generalize pw (-60) = z at *
      grind
    rw [h2] at h1
    rw [uu_eq]
    grind
  refine ⟨⟨_, _, _, hr⟩, ?_, ?_⟩
  · have := hw.1
    rw [uu_eq] at *
    grind
  · generalize vl (D.nearest false (2 * W + b) (h - 1)) = r at *
    have hrq : Wn (r - q) (2 * uu * q) := hw.mono (by grind)
    have hrq2 : Wn (r + q) (3 * q) := by
      obtain ⟨a1, a2⟩ := hrq
      rw [uu_eq] at *
      constructor <;> grind
    have hm' := wn_mul hrq hrq2
    have e1 : (r - q) * (r + q) = r * r - q * q := by grind
    rw [e1] at hm'
    have e2 : 2 * uu * q * (3 * q) = 6 * (uu * (q * q)) := by grind
    rw [e2] at hm'
    have hu2 : uu * (q * q) ≤ uu * (v + v / 1000) := Rat.mul_le_mul_of_nonneg_left (by have := hqq.2; grind) (Rat.le_of_lt uu_pos)
    have e3 : uu * (v + v / 1000) = uu * v + uu * v / 1000 := by grind
    rw [e3] at hu2
    have huv0 : 0 ≤ uu * v := Rat.mul_nonneg (Rat.le_of_lt uu_pos) (by grind)
    have e4 : 8 * uu * v = 8 * (uu * v) := by grind
    rw [e4]
    obtain ⟨a1, a2⟩ := hqq
    obtain ⟨b1, b2⟩ := hm'
    generalize uu * v = y at *
    constructor <;> grind
end Go.Fp

/- Sine and cosine as floats: how far they are off the polynomials'. -/
namespace Go.Fp.Tri
open Go.Fp Ieee
set_option maxRecDepth 20000

theorem v_k0 : Fin 13818544856648471893 ∧ vl 13818544856648471893 = -6004799503160661 / 36028797018963968 := vl_const (s := true) (m := 6004799503160661) (k := 55) (by decide +kernel) (by decide +kernel)
theorem v_k1 : Fin 4575957461383581969 ∧ vl 4575957461383581969 = 4803839602528529 / 576460752303423488 := vl_const (s := false) (m := 4803839602528529) (k := 59) (by decide +kernel) (by decide +kernel)
theorem v_k2 : Fin 13774824197408792602 ∧ vl 13774824197408792602 = -3660068268593165 / 18446744073709551616 := vl_const (s := true) (m := 7320136537186330) (k := 65) (by decide +kernel) (by decide +kernel)
theorem v_k3 : Fin 4523617214285662004 ∧ vl 4523617214285662004 = 1626697008263629 / 590295810358705651712 := vl_const (s := false) (m := 6506788033054516) (k := 71) (by decide +kernel) (by decide +kernel)
theorem v_k4 : Fin 13716528800881525988 ∧ vl 13716528800881525988 = -1892883791434041 / 75557863725914323419136 := vl_const (s := true) (m := 7571535165736164) (k := 78) (by decide +kernel) (by decide +kernel)
theorem v_k5 : Fin 4460272573143870729 ∧ vl 4460272573143870729 = 6212541674450185 / 38685626227668133590597632 := vl_const (s := false) (m := 6212541674450185) (k := 85) (by decide +kernel) (by decide +kernel)
theorem v_k6 : Fin 13648976655441704991 ∧ vl 13648976655441704991 = -7573384136472607 / 9903520314283042199192993792 := vl_const (s := true) (m := 7573384136472607) (k := 93) (by decide +kernel) (by decide +kernel)
theorem v_k7 : Fin 4389130328383466826 ∧ vl 4389130328383466826 = 3563945475987109 / 1267650600228229401496703205376 := vl_const (s := false) (m := 7127890951974218) (k := 101) (by decide +kernel) (by decide +kernel)
theorem v_d0 : Fin 13826050856027422720 ∧ vl 13826050856027422720 = -1 / 2 := vl_const (s := true) (m := 4503599627370496) (k := 53) (by decide +kernel) (by decide +kernel)
theorem v_d1 : Fin 4586165620538955093 ∧ vl 4586165620538955093 = 6004799503160661 / 144115188075855872 := vl_const (s := false) (m := 6004799503160661) (k := 57) (by decide +kernel) (by decide +kernel)
theorem v_d2 : Fin 13787419979223755799 ∧ vl 13787419979223755799 = -6405119470038039 / 4611686018427387904 := vl_const (s := true) (m := 6405119470038039) (k := 62) (by decide +kernel) (by decide +kernel)
theorem v_d3 : Fin 4537941361671905306 ∧ vl 4537941361671905306 = 3660068268593165 / 147573952589676412928 := vl_const (s := false) (m := 7320136537186330) (k := 68) (by decide +kernel) (by decide +kernel)
theorem v_d4 : Fin 13732177094651715420 ∧ vl 13732177094651715420 = -1301357606610903 / 4722366482869645213696 := vl_const (s := true) (m := 5205430426443612) (k := 74) (by decide +kernel) (by decide +kernel)
theorem v_d5 : Fin 4477122120089393304 ∧ vl 4477122120089393304 = 630961263811347 / 302231454903657293676544 := vl_const (s := false) (m := 5047690110490776) (k := 81) (by decide +kernel) (by decide +kernel)
theorem v_d6 : Fin 13666517717442657437 ∧ vl 13666517717442657437 = -7100047627943069 / 618970019642690137449562112 := vl_const (s := true) (m := 7100047627943069) (k := 89) (by decide +kernel) (by decide +kernel)
theorem v_d7 : Fin 4407590220077447199 ∧ vl 4407590220077447199 = 7573384136472607 / 158456325028528675187087900672 := vl_const (s := false) (m := 7573384136472607) (k := 97) (by decide +kernel) (by decide +kernel)
theorem v_rad : Fin RAD ∧ vl RAD = rho := vl_const (s := false) (m := 5401532406949459) (k := 88) (by decide +kernel) (by decide +kernel)
theorem v_1 : Fin one ∧ vl one = 1 := vl_const (s := false) (m := 4503599627370496) (k := 52) (by decide +kernel) (by decide +kernel)
/-- the coefficients as the program rounds them, and what they ought to be -/
def kV : List Rat := [-6004799503160661 / 36028797018963968, 4803839602528529 / 576460752303423488, -3660068268593165 / 18446744073709551616, 1626697008263629 / 590295810358705651712, -1892883791434041 / 75557863725914323419136, 6212541674450185 / 38685626227668133590597632, -7573384136472607 / 9903520314283042199192993792, 3563945475987109 / 1267650600228229401496703205376]
def dV : List Rat := [-1 / 2, 6004799503160661 / 144115188075855872, -6405119470038039 / 4611686018427387904, 3660068268593165 / 147573952589676412928, -1301357606610903 / 4722366482869645213696, 630961263811347 / 302231454903657293676544, -7100047627943069 / 618970019642690137449562112, 7573384136472607 / 158456325028528675187087900672]
def kE : List Rat := [-inv 3, inv 5, -inv 7, inv 9, -inv 11, inv 13, -inv 15, inv 17]
def dE : List Rat := [-inv 2, inv 4, -inv 6, inv 8, -inv 10, inv 12, -inv 14, inv 16]
theorem kk_V : KK.map vl = kV := by
  unfold KK kV
  simp only [List.map_cons, List.map_nil, v_k0.2, v_k1.2, v_k2.2, v_k3.2, v_k4.2, v_k5.2, v_k6.2, v_k7.2]
theorem dd_V : DD.map vl = dV := by
  unfold DD dV
  simp only [List.map_cons, List.map_nil, v_d0.2, v_d1.2, v_d2.2, v_d3.2, v_d4.2, v_d5.2, v_d6.2, v_d7.2]
theorem kk_fin : ∀ c ∈ KK, Fin c ∧ Wn (vl c) (1 / 2) := by
  intro c hc
  unfold KK at hc
  simp only [List.mem_cons, List.not_mem_nil, or_false] at hc
  rcases hc with rfl | rfl | rfl | rfl | rfl | rfl | rfl | rfl
  · exact ⟨v_k0.1, by rw [v_k0.2]; constructor <;> grind⟩
  · exact ⟨v_k1.1, by rw [v_k1.2]; constructor <;> grind⟩
  · exact ⟨v_k2.1, by rw [v_k2.2]; constructor <;> grind⟩
  · exact ⟨v_k3.1, by rw [v_k3.2]; constructor <;> grind⟩
  · exact ⟨v_k4.1, by rw [v_k4.2]; constructor <;> grind⟩
  · exact ⟨v_k5.1, by rw [v_k5.2]; constructor <;> grind⟩
  · exact ⟨v_k6.1, by rw [v_k6.2]; constructor <;> grind⟩
  · exact ⟨v_k7.1, by rw [v_k7.2]; constructor <;> grind⟩
theorem dd_fin : ∀ c ∈ DD, Fin c ∧ Wn (vl c) (1 / 2) := by
  intro c hc
  unfold DD at hc
  simp only [List.mem_cons, List.not_mem_nil, or_false] at hc
  rcases hc with rfl | rfl | rfl | rfl | rfl | rfl | rfl | rfl
  · exact ⟨v_d0.1, by rw [v_d0.2]; constructor <;> grind⟩
  · exact ⟨v_d1.1, by rw [v_d1.2]; constructor <;> grind⟩
  · exact ⟨v_d2.1, by rw [v_d2.2]; constructor <;> grind⟩
  · exact ⟨v_d3.1, by rw [v_d3.2]; constructor <;> grind⟩
  · exact ⟨v_d4.1, by rw [v_d4.2]; constructor <;> grind⟩
  · exact ⟨v_d5.1, by rw [v_d5.2]; constructor <;> grind⟩
  · exact ⟨v_d6.1, by rw [v_d6.2]; constructor <;> grind⟩
  · exact ⟨v_d7.1, by rw [v_d7.2]; constructor <;> grind⟩
theorem k_diff : pbd (padd kV (pneg kE)) (62 / 100) ≤ 1 / 10000000000000000 := by decide +kernel
theorem d_diff : pbd (padd dV (pneg dE)) (62 / 100) ≤ 1 / 10000000000000000 := by decide +kernel
theorem k_lip : plip kE (62 / 100) ≤ 1 / 10 := by decide +kernel
theorem d_lip : plip dE (62 / 100) ≤ 1 / 10 := by decide +kernel
theorem k_bd : pbd kE (62 / 100) ≤ 2 / 10 := by decide +kernel
theorem d_bd : pbd dE (62 / 100) ≤ 6 / 10 := by decide +kernel
theorem pev_neg (p : List Rat) (y : Rat) : pev (pneg p) y = - pev p y := by unfold pneg; rw [pev_scale]; grind
/-- the walk down the coefficients -/
theorem hor_err {z : Nat} (hz : Fin z) (bz : Wn (vl z) (62 / 100)) : ∀ l : List Nat, l ≠ [] → (∀ c ∈ l, Fin c ∧ Wn (vl c) (1 / 2)) →
    Fin (hor z l) ∧ Wn (vl (hor z l) - pev (l.map vl) (vl z)) (14 * uu) ∧ Wn (pev (l.map vl) (vl z)) (132 / 100)
  | [], h, _ => absurd rfl h
  | [c], _, hl => by
    obtain ⟨h1, h2⟩ := hl c (by simp)
    have e : pev ([c].map vl) (vl z) = vl c := by simp only [List.map_cons, List.map_nil, pev]; grind
    rw [e]
    refine ⟨h1, ?_, h2.mono (by grind)⟩
    have := uu_pos
    show Wn (vl c - vl c) _
    constructor <;> grind
  | c :: d :: r, _, hl => by
    obtain ⟨i1, i2, i3⟩ := hor_err hz bz (d :: r) (by simp) (fun x hx => hl x (List.mem_cons_of_mem _ hx))
    obtain ⟨h1, h2⟩ := hl c (by simp)
    have e : pev ((c :: d :: r).map vl) (vl z) = vl c + vl z * pev ((d :: r).map vl) (vl z) := rfl
    rw [e]
    show Fin (fadd c (fmul z (hor z (d :: r)))) ∧ Wn (vl (fadd c (fmul z (hor z (d :: r)))) - _) _ ∧ _
    generalize hor z (d :: r) = H at *
    generalize pev ((d :: r).map vl) (vl z) = P at *
    have u1 : uu ≤ 1 / 1000000 := by rw [uu_eq]; grind
    have u0 := uu_pos
    have bH : Wn (vl H) (133 / 100) := (wn_add i2 i3).of (by grind) (by grind)
    have b1 : Wn (vl z * vl H) (83 / 100) := (wn_mul bz bH).mono (by grind)
    obtain ⟨f1, e1⟩ := mulE hz i1 _ b1 (by grind)
    have b2 : Wn (vl (fmul z H)) (84 / 100) := (wn_add e1 b1).of (by grind) (by grind)
    have b3 : Wn (vl c + vl (fmul z H)) (134 / 100) := (wn_add h2 b2).mono (by grind)
    obtain ⟨f2, e2⟩ := addE h1 f1 _ b3 (by grind)
    have e3 := wn_mul bz i2
    have b4 := wn_mul bz i3
    refine ⟨f2, ?_, ?_⟩
    · obtain ⟨_, _⟩ := e1
      obtain ⟨_, _⟩ := e2
      obtain ⟨_, _⟩ := e3
      constructor <;> grind
    · exact (wn_add h2 b4).mono (by grind)
theorem S_hor (x : Rat) : S x = x * (1 + x * x * pev kE (x * x)) := by simp only [S, PS, kE, pev]; grind
theorem C_hor (x : Rat) : C x = 1 + x * x * pev dE (x * x) := by simp only [C, PC, dE, pev]; grind
theorem poly_err {v e : List Rat} {z y D : Rat} (hz : Wn z (62 / 100)) (hy : Wn y (62 / 100)) (hd : Wn (z - y) D) (h1 : pbd (padd v (pneg e)) (62 / 100) ≤ 1 / 10000000000000000) (h2 : plip e (62 / 100) ≤ 1 / 10) :
    Wn (pev v z - pev e y) (1 / 10000000000000000 + D * (1 / 10)) := by
  have a1 := (wn_pev (padd v (pneg e)) hz).mono h1
  rw [pev_add, pev_neg] at a1
  have a2 := (wn_lip e hz hy hd).mono (Rat.mul_le_mul_of_nonneg_left h2 hd.nonneg)
  exact (wn_add a1 a2).of (by grind) (by grind)
/-- sine and cosine of what is left over of a quarter -/
theorem sc_err {r : Int} (h1 : -45000000000 ≤ r) (h2 : r ≤ 45000000000) (x z s c : Nat) (hx : x = fmul (floatOfInt .f64 r) RAD) (hz : z = fmul x x)
    (hs : s = fmul x (fadd one (fmul z (hor z KK)))) (hc : c = fadd one (fmul z (hor z DD))) :
    (Fin s ∧ Wn (vl s - S ((r : Rat) * rho)) (1 / 100000000000000)) ∧ (Fin c ∧ Wn (vl c - C ((r : Rat) * rho)) (1 / 100000000000000)) := by
  obtain ⟨i1, i2⟩ := vl_int r (by omega)
  have hb := arg_bd h1 h2
  have u1 : uu = 1 / 9007199254740992 := uu_eq
  obtain ⟨fx, ex⟩ := mulE i1 v_rad.1 (7855 / 10000) (by rw [i2, v_rad.2]; exact hb) (by grind)
  rw [i2, v_rad.2, ← hx] at ex
  rw [← hx] at fx
  have S0 := S_hor ((r : Rat) * rho)
  have C0 := C_hor ((r : Rat) * rho)
  generalize S ((r : Rat) * rho) = Sv at *
  generalize C ((r : Rat) * rho) = Cv at *
  generalize (r : Rat) * rho = y at *
  have bx : Wn (vl x) (78551 / 100000) := (wn_add ex hb).of (by grind) (by (try rw [u1]); grind)
  have bxx : Wn (vl x * vl x) (61703 / 100000) := (wn_mul bx bx).mono (by grind)
  obtain ⟨fz, ez⟩ := mulE fx fx _ bxx (by grind)
  rw [← hz] at fz ez
  have bz : Wn (vl z) (62 / 100) := (wn_add ez bxx).of (by grind) (by (try rw [u1]); grind)
  have byy : Wn (y * y) (62 / 100) := (wn_mul hb hb).mono (by grind)
  have edd := wn_mul ex (show Wn (vl x + y) (1572 / 1000) from (wn_add bx hb).mono (by grind))
  have eD : Wn (vl z - y * y) (5 * uu) := (wn_add ez edd).of (by grind) (by (try rw [u1]); grind)
  obtain ⟨k1, k2, k3⟩ := hor_err fz bz KK (by decide) kk_fin
  obtain ⟨d1, d2, d3⟩ := hor_err fz bz DD (by decide) dd_fin
  rw [kk_V] at k2 k3
  rw [dd_V] at d2 d3
  have kp := poly_err bz byy eD k_diff k_lip
  have dp := poly_err bz byy eD d_diff d_lip
  have kb := (wn_pev kE byy).mono k_bd
  have db := (wn_pev dE byy).mono d_bd
  generalize hor z KK = hk at *
  generalize hor z DD = hd at *
  generalize pev kV (vl z) = kv at *
  generalize pev dV (vl z) = dv at *
  generalize pev kE (y * y) = ke at *
  generalize pev dE (y * y) = de at *
  have ek : Wn (vl hk - ke) (1 / 400000000000000) := (wn_add k2 kp).of (by grind) (by (try rw [u1]); grind)
  have ed : Wn (vl hd - de) (1 / 400000000000000) := (wn_add d2 dp).of (by grind) (by (try rw [u1]); grind)
  have bk : Wn (vl hk) (21 / 100) := (wn_add ek kb).of (by grind) (by (try rw [u1]); grind)
  have bd : Wn (vl hd) (61 / 100) := (wn_add ed db).of (by grind) (by (try rw [u1]); grind)
  generalize y * y = yy at *
  -- z times that
  obtain ⟨f1, e1⟩ := mulE fz k1 _ (wn_mul bz bk) (by grind)
  obtain ⟨g1, l1⟩ := mulE fz d1 _ (wn_mul bz bd) (by grind)
  have m1 : Wn (vl z * vl hk - yy * ke) (1 / 500000000000000) := (wn_add (wn_mul bz ek) (wn_mul eD kb)).of (by grind) (by (try rw [u1]); grind)
  have m2 : Wn (vl z * vl hd - yy * de) (1 / 500000000000000) := (wn_add (wn_mul bz ed) (wn_mul eD db)).of (by grind) (by (try rw [u1]); grind)
  have q1 : Wn (vl (fmul z hk) - yy * ke) (1 / 400000000000000) := (wn_add e1 m1).of (by grind) (by (try rw [u1]); grind)
  have q2 : Wn (vl (fmul z hd) - yy * de) (1 / 400000000000000) := (wn_add l1 m2).of (by grind) (by (try rw [u1]); grind)
  have p1 := (wn_mul byy kb)
  have p2 := (wn_mul byy db)
  have bq1 : Wn (vl (fmul z hk)) (13 / 100) := (wn_add q1 p1).of (by grind) (by (try rw [u1]); grind)
  have bq2 : Wn (vl (fmul z hd)) (38 / 100) := (wn_add q2 p2).of (by grind) (by (try rw [u1]); grind)
  have b1 : Wn (vl one) 1 := by rw [v_1.2]; constructor <;> grind
  obtain ⟨f2, e2⟩ := addE v_1.1 f1 _ (wn_add b1 bq1) (by grind)
  obtain ⟨g2, l2⟩ := addE v_1.1 g1 _ (wn_add b1 bq2) (by grind)
  rw [v_1.2] at e2 l2
  have r1 : Wn (vl (fadd one (fmul z hk)) - (1 + yy * ke)) (1 / 300000000000000) := (wn_add e2 q1).of (by grind) (by (try rw [u1]); grind)
  have r2 : Wn (vl (fadd one (fmul z hd)) - (1 + yy * de)) (1 / 300000000000000) := (wn_add l2 q2).of (by grind) (by (try rw [u1]); grind)
  have br : Wn (1 + yy * ke) (113 / 100) := (wn_add (show Wn (1 : Rat) 1 from ⟨by grind, by grind⟩) p1).mono (by grind)
  have br2 : Wn (vl (fadd one (fmul z hk))) (114 / 100) := (wn_add r1 br).of (by grind) (by (try rw [u1]); grind)
  obtain ⟨f3, e3⟩ := mulE fx f2 _ (wn_mul bx br2) (by grind)
  rw [← hs] at f3 e3
  rw [← hc] at g2 r2
  refine ⟨⟨f3, ?_⟩, ⟨g2, ?_⟩⟩
  · have t1 := wn_add (wn_mul bx r1) (wn_mul ex br)
    rw [S0]
    exact (wn_add e3 t1).of (by grind) (by (try rw [u1]); grind)
  · rw [C0]
    exact r2.mono (by grind)
end Go.Fp.Tri

/- The program's sine and cosine of any angle against the polynomials. -/
namespace Go.Fp.Tri
open Go.Fp Ieee
set_option maxRecDepth 20000

theorem rem_in (b : Int) : -45000000000 ≤ b - quart b * 90000000000 ∧ b - quart b * 90000000000 ≤ 45000000000 := by unfold quart; omega
abbrev tol : Rat := 1 / 100000000000000
def Near (x : Nat) (v : Rat) : Prop := Fin x ∧ Wn (vl x - v) tol
theorem Near.neg {x : Nat} {v : Rat} (h : Near x v) : Near (Op.negFloat .f64 x) (-v) := by
  obtain ⟨h1, h2⟩ := h
  obtain ⟨k1, k2⟩ := vl_neg x h1
  refine ⟨k1, ?_⟩
  rw [k2]
  obtain ⟨a, b⟩ := h2
  constructor <;> grind
/-- what is left over of the quarter -/
def lef (a : Int) : Rat := ((normP a - quart (normP a) * 90000000000 : Int) : Rat) * rho
theorem sOf_near (a : Int) : Near (sOf (normP a)) (S (lef a)) ∧ Near (cOf (normP a)) (C (lef a)) := by
  obtain ⟨h1, h2⟩ := rem_in (normP a)
  exact sc_err h1 h2 (xOf (normP a)) (zOf (normP a)) _ _ rfl rfl rfl rfl
theorem trig0 {a : Int} (h : quart (normP a) % 4 = 0) : Near (sinP a) (S (lef a)) ∧ Near (cosP a) (C (lef a)) := by
  obtain ⟨h1, h2⟩ := sOf_near a
  unfold sinP cosP sinN cosN
  rw [if_pos h, if_pos h]
  exact ⟨h1, h2⟩
theorem trig1 {a : Int} (h : quart (normP a) % 4 = 1) : Near (sinP a) (C (lef a)) ∧ Near (cosP a) (-S (lef a)) := by
  obtain ⟨h1, h2⟩ := sOf_near a
  unfold sinP cosP sinN cosN
  rw [if_neg (by omega), if_pos h, if_neg (by omega), if_pos h]
  exact ⟨h2, h1.neg⟩
theorem trig2 {a : Int} (h : quart (normP a) % 4 = 2) : Near (sinP a) (-S (lef a)) ∧ Near (cosP a) (-C (lef a)) := by
  obtain ⟨h1, h2⟩ := sOf_near a
  unfold sinP cosP sinN cosN
  rw [if_neg (by omega), if_neg (by omega), if_pos h, if_neg (by omega), if_neg (by omega), if_pos h]
  exact ⟨h1.neg, h2.neg⟩
theorem trig3 {a : Int} (h : quart (normP a) % 4 = 3) : Near (sinP a) (-C (lef a)) ∧ Near (cosP a) (S (lef a)) := by
  obtain ⟨h1, h2⟩ := sOf_near a
  unfold sinP cosP sinN cosN
  rw [if_neg (by omega), if_neg (by omega), if_neg (by omega), if_neg (by omega), if_neg (by omega), if_neg (by omega)]
  exact ⟨h2.neg, h1⟩
theorem lef_eq {a r : Int} (h : normP a - quart (normP a) * 90000000000 = r) : lef a = (r : Rat) * rho := by unfold lef; rw [h]
/-- from minus a quarter of a turn to a quarter -/
theorem trig_lat {a : Int} (h1 : -90000000000 ≤ a) (h2 : a ≤ 90000000000) : Near (sinP a) (sI a) ∧ Near (cosP a) (cI a) := by
  rcases Int.lt_or_le a (-45000000000) with c1 | c1
  · have hq : quart (normP a) % 4 = 3 := by unfold quart normP; omega
    have e := lef_eq (a := a) (r := a + 90000000000) (by unfold quart normP; omega)
    have := trig3 hq
    unfold sI cI
    rw [if_pos c1, if_pos c1, ← e]; exact this
  · rcases Int.lt_or_le a 45000000000 with c2 | c2
    · have hq : quart (normP a) % 4 = 0 := by unfold quart normP; omega
      have e := lef_eq (a := a) (r := a) (by unfold quart normP; omega)
      have := trig0 hq
      unfold sI cI
      rw [if_neg (by omega), if_pos c2, if_neg (by omega), if_pos c2, ← e]; exact this
    · have hq : quart (normP a) % 4 = 1 := by unfold quart normP; omega
      have e := lef_eq (a := a) (r := a - 90000000000) (by unfold quart normP; omega)
      have := trig1 hq
      unfold sI cI
      rw [if_neg (by omega), if_neg (by omega), if_neg (by omega), if_neg (by omega), ← e]; exact this
theorem sinP_norm (a b : Int) (h : normP a = normP b) : sinP a = sinP b ∧ cosP a = cosP b := by
  unfold sinP cosP
  rw [h]; exact ⟨rfl, rfl⟩
/-- half a turn on, both change their signs -/
theorem trig_half {a : Int} (h1 : 90000000000 ≤ a) (h2 : a ≤ 270000000000) : Near (sinP a) (-sI (a - 180000000000)) ∧ Near (cosP a) (-cI (a - 180000000000)) := by
  rcases Int.lt_or_le a 135000000000 with c1 | c1
  · have hq : quart (normP a) % 4 = 1 := by unfold quart normP; omega
    have e := lef_eq (a := a) (r := a - 180000000000 + 90000000000) (by unfold quart normP; omega)
    have := trig1 hq
    unfold sI cI
    rw [if_pos (by omega), if_pos (by omega), ← e, show - -C (lef a) = C (lef a) by grind]; exact this
  · rcases Int.lt_or_le a 225000000000 with c2 | c2
    · have hq : quart (normP a) % 4 = 2 := by unfold quart normP; omega
      have e := lef_eq (a := a) (r := a - 180000000000) (by unfold quart normP; omega)
      have := trig2 hq
      unfold sI cI
      rw [if_neg (by omega), if_pos (by omega), if_neg (by omega), if_pos (by omega), ← e]; exact this
    · have hq : quart (normP a) % 4 = 3 := by unfold quart normP; omega
      have e := lef_eq (a := a) (r := a - 180000000000 - 90000000000) (by unfold quart normP; omega)
      have := trig3 hq
      unfold sI cI
      rw [if_neg (by omega), if_neg (by omega), if_neg (by omega), if_neg (by omega), ← e, show - -S (lef a) = S (lef a) by grind]; exact this

/-! the bisection -/
theorem bis_ok (p : Int → Bool) : ∀ (n : Nat) (lo hi l0 h0 : Int), lo < hi → (hi - lo).toNat ≤ n → (p lo = true ∨ lo = l0) → (p hi = false ∨ hi = h0) →
    lo ≤ bis p n lo hi ∧ bis p n lo hi < hi ∧ (p (bis p n lo hi) = true ∨ bis p n lo hi = l0) ∧ (p (bis p n lo hi + 1) = false ∨ bis p n lo hi + 1 = h0)
  | 0, lo, hi, l0, h0, h, hn, _, _ => by omega
  | n + 1, lo, hi, l0, h0, h, hn, hl, hh => by
    unfold bis
    split
    · split
      · rename_i h1 h2
        obtain ⟨a, b, c, d⟩ := bis_ok p n ((lo + hi) / 2) hi l0 h0 (by omega) (by omega) (.inl h2) hh
        exact ⟨by omega, b, c, d⟩
      · rename_i h1 h2
        obtain ⟨a, b, c, d⟩ := bis_ok p n lo ((lo + hi) / 2) l0 h0 (by omega) (by omega) hl (.inl (by simpa using h2))
        exact ⟨a, by omega, c, d⟩
    · have e : lo + 1 = hi := by omega
      rw [e]
      exact ⟨by omega, by omega, hl, hh⟩
theorem quad_ok (u w : Nat) : 0 ≤ quad u w ∧ quad u w ≤ 90000000000 ∧ (fle (fmul (sinP (quad u w)) u) (fmul (cosP (quad u w)) w) = true ∨ quad u w = 0) ∧ (fle (fmul (sinP (quad u w + 1)) u) (fmul (cosP (quad u w + 1)) w) = false ∨ quad u w = 90000000000) := by
  obtain ⟨a, b, c, d⟩ := bis_ok (fun m => fle (fmul (sinP m) u) (fmul (cosP m) w)) (90000000001 - 0 : Int).toNat 0 90000000001 0 90000000001 (by omega) (by omega) (.inr rfl) (.inr rfl)
  have e : quad u w = bis (fun m => fle (fmul (sinP m) u) (fmul (cosP m) w)) (90000000001 - 0 : Int).toNat 0 90000000001 := by unfold quad bisect; rfl
  rw [e]
  generalize bis (fun m => fle (fmul (sinP m) u) (fmul (cosP m) w)) (90000000001 - 0 : Int).toNat 0 90000000001 = q at *
  refine ⟨a, by omega, c, ?_⟩
  rcases d with d | d
  · exact .inl d
  · exact .inr (by omega)

end Go.Fp.Tri

/- The angle of a point whose sides are a little off. -/
namespace Go.Fp.Tri
open Go.Fp Ieee
set_option maxRecDepth 20000

theorem le_of_scaled {R a b : Rat} (hR : 0 < R) (h : R * a ≤ R * b) : a ≤ b := Rat.le_of_mul_le_mul_left h hR
/-! sizes, and the angle with its sign -/
theorem abs_read {x : Nat} {s : Bool} {m : Nat} {i : Int} (h : D.read x = .number s m i) : D.read (absW x) = .number false m i := by
  obtain ⟨h1, h2⟩ := abs_parts x
  unfold Format.read at *
  simp only [D_sign, D_inf, D_bin, D_least] at *
  rw [h1, h2]
  split at h
  · rename_i hc
    rw [if_pos hc]
    cases h; rfl
  · rename_i hc
    rw [if_neg hc]
    split at h
    · rename_i hc2
      rw [if_pos hc2]
      cases h; rfl
    · split at h <;> cases h
theorem vl_abs {x : Nat} (hx : Fin x) : Fin (absW x) ∧ vl (absW x) = rabs (vl x) := by
  obtain ⟨s, m, i, h⟩ := hx
  have h' := abs_read h
  refine ⟨⟨_, _, _, h'⟩, ?_⟩
  rw [vl_of h, vl_of h', vd_sign s]
  have := vd_nonneg m i
  unfold rabs
  cases s
  · simp only [Bool.false_eq_true, if_false]
    split <;> grind
  · simp only [if_true]
    split <;> grind
theorem v_0 : Fin 0 ∧ vl 0 = 0 := by
  have h : D.read 0 = .number false 0 (-1074) := by decide +kernel
  refine ⟨⟨_, _, _, h⟩, ?_⟩
  rw [vl_of h]
  unfold vd
  simp
theorem fin_fin {x : Nat} (hx : Fin x) : finP x = true := by
  obtain ⟨s, m, i, h⟩ := hx
  have e : D.sub x x = some 0 := by
    have h2 : (Datum.number s m i).sum (Datum.number s m i).opposite = some (.number false 0 i) := by
      cases s <;> simp [Datum.sum, Datum.opposite, signed] <;> omega
    unfold Format.sub
    rw [h, h2]
    show some (D.nearest false 0 i) = some 0
    unfold Format.nearest
    simp [Format.word]
  have e2 : fsub x x = 0 := by unfold fsub; rw [e]; rfl
  unfold finP
  rw [e2]
  decide +kernel
theorem quad_range (u w : Nat) : 0 ≤ quad u w ∧ quad u w ≤ 90000000000 := ⟨(quad_ok u w).1, (quad_ok u w).2.1⟩
theorem fge_0 {x : Nat} (hx : Fin x) : fge x 0 = true ↔ 0 ≤ vl x := by rw [fge_vl hx v_0.1, v_0.2]
theorem flt_0 {x : Nat} (hx : Fin x) : flt x 0 = true ↔ vl x < 0 := by
  unfold flt
  simp only [beq_iff_eq]
  rw [order_lt hx v_0.1, v_0.2]
theorem feq_0 {x : Nat} (hx : Fin x) : feq x 0 = true ↔ vl x = 0 := by
  unfold feq
  simp only [beq_iff_eq]
  rw [order_eq hx v_0.1, v_0.2]
/-- the angle of a point, by the signs of its sides -/
theorem angle_pp {y x : Nat} (hy : Fin y) (hx : Fin x) (h : vl x ≠ 0 ∨ vl y ≠ 0) (h1 : 0 ≤ vl x) (h2 : 0 ≤ vl y) : (angleP y x).1 = quad (absW x) (absW y) := by
  have e : (!finP x || !finP y || (feq x 0 && feq y 0)) = false := by
    rw [fin_fin hx, fin_fin hy]
    cases h3 : feq x 0 <;> cases h4 : feq y 0 <;> first | rfl | skip
    have a := (feq_0 hx).1 h3
    have b := (feq_0 hy).1 h4
    rcases h with h | h <;> contradiction
  unfold angleP
  rw [e]
  have a := (fge_0 hx).2 h1
  have b := (fge_0 hy).2 h2
  simp [a, b]
theorem angle_pn {y x : Nat} (hy : Fin y) (hx : Fin x) (h1 : 0 ≤ vl x) (h2 : vl y < 0) : (angleP y x).1 = normP (360000000000 - quad (absW x) (absW y)) := by
  have e : (!finP x || !finP y || (feq x 0 && feq y 0)) = false := by
    rw [fin_fin hx, fin_fin hy]
    cases h3 : feq x 0 <;> cases h4 : feq y 0 <;> first | rfl | skip
    have a := (feq_0 hy).1 h4
    grind
  unfold angleP
  rw [e]
  have b : fge y 0 = false := by
    cases h3 : fge y 0
    · rfl
    · have := (fge_0 hy).1 h3; grind
  have c : flt x 0 = false := by
    cases h3 : flt x 0
    · rfl
    · have := (flt_0 hx).1 h3; grind
  simp [b, c]
end Go.Fp.Tri
namespace Go.Proofs.YtcppgbhjbmfldaaDoor
open Go.Fp Go.Fp.Tri
theorem angS_pp {y x : Nat} (hy : Fp.Fin y) (hx : Fp.Fin x) (h1 : 0 < vl x) (h2 : 0 ≤ vl y) : angS y x = quad (absW x) (absW y) := by
  obtain ⟨q0, q1⟩ := quad_range (absW x) (absW y)
  unfold angS
  rw [angle_pp hy hx (.inl (by grind)) (by grind) h2]
  unfold signP normP
  split <;> omega
theorem angS_pn {y x : Nat} (hy : Fp.Fin y) (hx : Fp.Fin x) (h1 : 0 < vl x) (h2 : vl y < 0) : angS y x = -quad (absW x) (absW y) := by
  obtain ⟨q0, q1⟩ := quad_range (absW x) (absW y)
  unfold angS
  rw [angle_pn hy hx (by grind) h2]
  unfold signP normP
  split <;> omega
end Go.Proofs.YtcppgbhjbmfldaaDoor

/- The radius across the meridian, as a float, against what it ought to be. -/
namespace Go.Fp.Tri
open Go.Fp Ieee
set_option maxRecDepth 20000

theorem wn_scaled {A x y : Rat} (hA : 0 < A) (h : Wn (A * x) (A * y)) : Wn x y := wn_quot (c := A) (c0 := A) hA Rat.le_refl (h.of (by grind) (by grind))
theorem v_two : Fin 4611686018427387904 ∧ vl 4611686018427387904 = 2 := vl_const (s := false) (m := 4503599627370496) (k := 51) (by decide +kernel) (by decide +kernel)

/-- an angle and its size, and its sign -/
def Sgn (t m : Int) (g : Rat) : Prop := (t = m ∧ g = 1) ∨ (t = -m ∧ g = -1)
theorem Sgn.sq {t m : Int} {g : Rat} (h : Sgn t m g) : g * g = 1 := by rcases h with ⟨_, rfl⟩ | ⟨_, rfl⟩ <;> grind
theorem Sgn.wn' {t m : Int} {g : Rat} (h : Sgn t m g) {x E : Rat} (hx : Wn (g * x) E) : Wn x E := by
  obtain ⟨a, b⟩ := hx
  rcases h with ⟨_, rfl⟩ | ⟨_, rfl⟩ <;> constructor <;> grind
theorem sc_sgn {t m : Int} {g : Rat} (h : Sgn t m g) (h0 : 0 ≤ m) (h1 : m ≤ 90000000000) :
    (Fin (sinP t) ∧ Wn (g * vl (sinP t) - sI m) (11 / 1000000000000000)) ∧ (Fin (cosP t) ∧ Wn (vl (cosP t) - cI m) (11 / 1000000000000000)) := by
  rcases h with ⟨rfl, rfl⟩ | ⟨rfl, rfl⟩
  · obtain ⟨⟨a, b⟩, ⟨c, d⟩⟩ := trig_lat (a := t) (by omega) h1
    exact ⟨⟨a, b.of (by grind) (by grind)⟩, ⟨c, d.mono (by grind)⟩⟩
  · obtain ⟨⟨a, b⟩, ⟨c, d⟩⟩ := trig_lat (a := -m) (by omega) (by omega)
    obtain ⟨o1, o2⟩ := sI_odd h0 h1
    obtain ⟨_, _⟩ := b
    obtain ⟨_, _⟩ := d
    obtain ⟨_, _⟩ := o1
    obtain ⟨_, _⟩ := o2
    refine ⟨⟨a, ?_⟩, ⟨c, ?_⟩⟩ <;> constructor <;> grind
end Go.Fp.Tri
namespace Go.Proofs.YtcppgbhjbmfldaaDoor
open Go.Fp Go.Fp.Tri
set_option maxRecDepth 20000
/-- a globe and a height for which the law promises something -/
structure Snd (a f high : Nat) : Prop where
  fa : Fp.Fin a
  a1 : 1000000 ≤ vl a
  a2 : vl a ≤ 10000000
  ff : Fp.Fin f
  f1 : 0 ≤ vl f
  f2 : vl f ≤ 10001 / 1000000
  fh : Fp.Fin high
  h1 : -10000 ≤ vl high
  h2 : vl high ≤ 1000000
variable {a f high : Nat}
theorem ecc_ok (s : Snd a f high) : Fp.Fin (eccP f) ∧ 0 ≤ vl (eccP f) ∧ vl (eccP f) ≤ 1 / 50 := by
  have f1 := s.f1
  have f2 := s.f2
  have u1 : uu = 1 / 9007199254740992 := uu_eq
  unfold eccP
  rw [s.ff.can, v_two.1.can]
  obtain ⟨g1, e1⟩ := subE v_two.1 s.ff 2 (by rw [v_two.2]; constructor <;> grind) (by grind)
  rw [v_two.2] at e1
  generalize fsub 4611686018427387904 f = y at *
  have p := Rat.mul_nonneg (show 0 ≤ 10001 / 1000000 - vl f by grind) (show 0 ≤ 2 - 10001 / 1000000 - vl f by grind)
  have p0 := Rat.mul_nonneg f1 (show 0 ≤ 2 - vl f by grind)
  have bf : Wn (vl f) (10001 / 1000000) := ⟨by grind, f2⟩
  have q := wn_mul bf e1
  have hy : 0 ≤ vl y := by have := e1.1; rw [u1] at this; grind
  have hB : Wn (vl f * vl y) (19903 / 1000000) := by
    rw [u1] at q
    obtain ⟨_, _⟩ := q
    constructor <;> grind
  obtain ⟨g2, e2⟩ := mulE s.ff g1 _ hB (by grind)
  refine ⟨g2, fmul_nonneg s.ff g1 _ hB (big_le' (by grind)) (Rat.mul_nonneg f1 hy), ?_⟩
  rw [u1] at e2
  have := e2.2
  have := hB.2
  grind
set_option maxHeartbeats 1000000 in
theorem cross_near (s : Snd a f high) {t m : Int} {g : Rat} (hs : Sgn t m g) (h0 : 0 ≤ m) (h1 : m ≤ 90000000000) :
    Fp.Fin (crossP a f t) ∧ ∃ n, vl (crossP a f t) = vl a * n ∧ 99 / 100 ≤ n ∧ n ≤ 103 / 100 ∧ Wn (n * n * (1 - vl (eccP f) * (sI m * sI m)) - 1) (1 / 100000000000000) := by
  obtain ⟨ge, e0, e50⟩ := ecc_ok s
  obtain ⟨⟨gx, ex⟩, _⟩ := sc_sgn hs h0 h1
  have bs := wn_sI (m := m) (by omega) h1
  have s0 := sI_nonneg h0 h1
  have hg := hs.sq
  have u1 : uu = 1 / 9007199254740992 := uu_eq
  unfold crossP
  rw [s.fa.can, gx.can, v_one.1.can]
  have bgx : Wn (g * vl (sinP t)) (1002 / 1000) := (wn_add ex bs).of (by grind) (by grind)
  have bx : Wn (vl (sinP t)) (1002 / 1000) := hs.wn' bgx
  generalize sinP t = x at *
  generalize eccP f = E at *
  have be : Wn (vl E) (1 / 50) := ⟨by grind, e50⟩
  obtain ⟨f1, e1⟩ := mulE ge gx (21 / 1000) ((wn_mul be bx).mono (by grind)) (by grind)
  have b1 : Wn (vl (fmul E x)) (22 / 1000) := (wn_add e1 (wn_mul be bx)).of (by grind) (by rw [u1]; grind)
  obtain ⟨f2, e2⟩ := mulE f1 gx (23 / 1000) ((wn_mul b1 bx).mono (by grind)) (by grind)
  generalize fmul E x = q1 at *
  have d1 := wn_mul e1 bx
  have hxx := wn_mul ex (show Wn (g * vl x + sI m) (2003 / 1000) from (wn_add bgx bs).mono (by grind))
  have exx : (g * vl x - sI m) * (g * vl x + sI m) = vl x * vl x - sI m * sI m := by grind
  rw [exx] at hxx
  have d2 := wn_mul be hxx
  have d3 : Wn (vl (fmul q1 x) - vl E * (sI m * sI m)) (1 / 1000000000000000) := (wn_add (wn_add e2 d1) d2).of (by grind) (by rw [u1]; grind)
  have bss := wn_mul bs bs
  have bess := wn_mul be bss
  have ess0 : 0 ≤ vl E * (sI m * sI m) := Rat.mul_nonneg e0 (Rat.mul_nonneg s0 s0)
  generalize fmul q1 x = q2 at *
  generalize hG : 1 - vl E * (sI m * sI m) = G at *
  obtain ⟨f3, e3⟩ := subE v_one.1 f2 (103 / 100) (by rw [v_one.2]; obtain ⟨_, _⟩ := d3; obtain ⟨_, _⟩ := bess; constructor <;> grind) (by grind)
  rw [v_one.2] at e3
  have d4 : Wn (vl (fsub cOne q2) - G) (13 / 10000000000000000) := (wn_sub e3 d3).of (by grind) (by rw [u1]; grind)
  generalize fsub cOne q2 = q3 at *
  have lo3 : 979 / 1000 ≤ vl q3 := by have := d4.1; have := bess.2; grind
  have hi3 : vl q3 ≤ 1001 / 1000 := by have := d4.2; grind
  obtain ⟨f4, r0, e4⟩ := fsqrt_err f3 (by grind) (big_le (by grind))
  generalize fsqrt q3 = r at *
  have e4' : Wn (vl r * vl r - vl q3) (9 / 10000000000000000) := e4.mono (by rw [u1]; grind)
  have lor : 98 / 100 ≤ vl r := by
    rcases Rat.le_total (a := 98 / 100) (b := vl r) with h | h
    · exact h
    · exfalso
      have := Rat.mul_nonneg (show 0 ≤ 98 / 100 - vl r by grind) (show 0 ≤ 98 / 100 + vl r by grind)
      have := e4'.1
      grind
  have hir : vl r ≤ 1002 / 1000 := by
    rcases Rat.le_total (a := vl r) (b := 1002 / 1000) with h | h
    · exact h
    · exfalso
      have := Rat.mul_nonneg (show 0 ≤ vl r - 1002 / 1000 by grind) (show 0 ≤ vl r + 1002 / 1000 by grind)
      have := e4'.2
      grind
  have a1 := s.a1
  have a2 := s.a2
  have hA : 0 < vl a := by grind
  have hr0 : vl r ≠ 0 := by grind
  have hq : Wn (vl a / vl r) (vl a * (103 / 100)) := by
    refine wn_quot (c := vl r) (c0 := 98 / 100) (by grind) lor ?_
    have e : vl a / vl r * vl r = vl a := by grind
    rw [e]
    constructor <;> grind
  obtain ⟨f5, e5⟩ := divE s.fa f4 hr0 _ hq (by grind)
  refine ⟨f5, ?_⟩
  generalize fdiv a r = N at *
  obtain ⟨n, hn⟩ : ∃ n, n = vl N / vl a := ⟨_, rfl⟩
  have hN : vl N = vl a * n := by rw [hn]; grind
  have br : Wn (vl r) (1002 / 1000) := ⟨by grind, hir⟩
  have hnr : Wn (n * vl r - 1) (4 * uu) := by
    refine wn_scaled hA ?_
    have h := wn_mul e5 br
    refine h.of ?_ (by rw [u1]; grind)
    rw [hN]
    have e : vl a / vl r * vl r = vl a := by grind
    grind
  have nlo : 99 / 100 ≤ n := by
    rcases Rat.le_total (a := 99 / 100) (b := n) with h | h
    · exact h
    · exfalso
      have := Rat.mul_le_mul_of_nonneg_right h r0
      have := hnr.1
      rw [u1] at this
      grind
  have nhi : n ≤ 103 / 100 := by
    rcases Rat.le_total (a := n) (b := 103 / 100) with h | h
    · exact h
    · exfalso
      have := Rat.mul_le_mul_of_nonneg_right h r0
      have := hnr.2
      rw [u1] at this
      grind
  refine ⟨n, hN, nlo, nhi, ?_⟩
  have bnr : Wn (n * vl r + 1) (2001 / 1000) := (wn_add hnr (show Wn (2 : Rat) 2 from ⟨by grind, by grind⟩)).of (by grind) (by rw [u1]; grind)
  have h2 := wn_mul hnr bnr
  have bn : Wn n (103 / 100) := ⟨by grind, nhi⟩
  have h3 := wn_mul (wn_mul bn bn) (wn_add e4' d4)
  exact (wn_sub h2 h3).of (by grind) (by rw [u1]; grind)
end Go.Proofs.YtcppgbhjbmfldaaDoor
