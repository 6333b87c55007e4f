/- Quotients and orders of floats as what they stand for. -/
import Derived.Test.YteebbcdbkkliaaaDoorJB
import Derived.Test.YteebbcdbkkliaaaDoorZE
namespace Go.Fp
open Ieee

theorem uu_pos : 0 < uu := pw_pos _
theorem uu_le : uu ≤ 1 := by rw [uu_eq]; grind
theorem cast_pos {n : Nat} (h : n ≠ 0) : (0 : Rat) < (n : Rat) := by exact_mod_cast Nat.pos_of_ne_zero h
/-- the digits of a quotient, with what is left over -/
theorem quot_digits (N n : Nat) (hn : n ≠ 0) : Wn (((2 * (N / n) + (N % n != 0).toNat : Nat) : Rat) * (n : Rat) - 2 * (N : Rat)) (n : Rat) := by
  have h := Nat.div_add_mod N n
  have hm := Nat.mod_lt N (Nat.pos_of_ne_zero hn)
  generalize N / n = q at *
  generalize N % n = r at *
  subst h
  have hr : (0 : Rat) ≤ (r : Rat) := by exact_mod_cast Nat.zero_le r
  have hm' : (r : Rat) ≤ (n : Rat) := by exact_mod_cast Nat.le_of_lt hm
  by_cases h0 : r = 0
  · subst h0
    constructor
    · simp; grind
    · simp; grind
  · have : (r != 0).toNat = 1 := by simp [h0]
    rw [this]
    constructor
    · push_cast; grind
    · push_cast; grind
theorem wn_div {a b c : Rat} (hb : 0 < b) (h : Wn (a * b) (c * b)) : Wn a c := by
  obtain ⟨h1, h2⟩ := h
  constructor
  · exact Rat.le_of_mul_le_mul_right (by grind) hb
  · exact Rat.le_of_mul_le_mul_right h2 hb
theorem fdiv_err {x y : Nat} (hx : Fin x) (hy : Fin y) (hy0 : vl y ≠ 0) (B : Rat) (hB : Wn (vl x / vl y) B) (hB2 : B ≤ pw 1000) : Fin (fdiv x y) ∧ Wn (vl (fdiv x y) - vl x / vl y) (2 * uu * B + eta) := by
  obtain ⟨s, m, i, hx⟩ := hx
  obtain ⟨t, n, j, hy⟩ := hy
  rw [vl_of hx, vl_of hy] at *
  have hn : n ≠ 0 := by
    rintro rfl
    exact hy0 (by unfold vd; simp)
  rw [div_read hx hy hn]
  have hm53 := (read_fields hx).1
  generalize hk : 54 + n.log2 - m.log2 = k
  have hsx : m.log2 ≤ 52 := by
    by_cases h : m = 0
    · subst h; decide
    · exact log2_of h hm53
  -- the quotient's digits
  have hD := quot_digits (m <<< k) n hn
  generalize hQ : 2 * (m <<< k / n) + ((m <<< k) % n != 0).toNat = Q at *
  have hn' := cast_pos hn
  have hQ0 : (0 : Rat) ≤ (Q : Rat) := by exact_mod_cast Nat.zero_le Q
  obtain ⟨e, he⟩ : ∃ e, e = i - j - (k : Int) - 1 := ⟨_, rfl⟩
  have he' : i - j - ((k : Nat) : Int) - 1 = e := he.symm
  rw [he']
  have hpe := pw_pos e
  -- what the quotient is, without its sign
  obtain ⟨E, hE⟩ : ∃ E : Rat, E = 2 * ((m <<< k : Nat) : Rat) / (n : Rat) := ⟨_, rfl⟩
  have hEn : E * (n : Rat) = 2 * ((m <<< k : Nat) : Rat) := by rw [hE]; grind
  have hval : vd false m i = E * pw e * vd false n j := by
    rw [vd_false, vd_false]
    have e1 : pw i = 2 * ((2 ^ k : Nat) : Rat) * pw e * pw j := by
      have e2 : pw i = pw 1 * pw k * pw e * pw j := by
        have hi : i = 1 + (k : Int) + e + j := by omega
        rw [hi, pw_add, pw_add, pw_add]
      rw [e2, pw_one, pw_nat]
    rw [e1]
    have : E * (n : Rat) = 2 * ((m : Rat) * ((2 ^ k : Nat) : Rat)) := by rw [hEn, Nat.shiftLeft_eq]; push_cast; rfl
    grind
  have hnj : 0 < vd false n j := by rw [vd_false]; exact Rat.mul_pos hn' (pw_pos _)
  have hEnn : 0 ≤ E := by
    have : 0 ≤ E * (n : Rat) := by rw [hEn]; have : (0 : Rat) ≤ ((m <<< k : Nat) : Rat) := by exact_mod_cast Nat.zero_le _
                                   grind
    exact Rat.le_of_mul_le_mul_right (by grind) hn'
  have hdiff : Wn ((Q : Rat) - E) (uu / 2 * E) := by
    by_cases hm0 : m = 0
    · subst hm0
      have q0 : Q = 0 := by rw [← hQ]; simp
      have e0 : E = 0 := by rw [hE]; simp; grind
      rw [q0, e0]
      constructor <;> simp <;> grind
    · have hN : 2 ^ 53 * n ≤ m <<< k := by
        have a1 : 2 ^ (m.log2 + k) ≤ m <<< k := by rw [Nat.shiftLeft_eq, Nat.pow_add]; exact Nat.mul_le_mul_right _ (Nat.log2_self_le hm0)
        have a2 := lt_log2 n
        have a3 : m.log2 + k = 53 + (n.log2 + 1) := by omega
        rw [a3, Nat.pow_add] at a1
        exact Nat.le_trans (Nat.mul_le_mul_left _ (Nat.le_of_lt a2)) a1
      have hN' : (9007199254740992 : Rat) * (n : Rat) ≤ ((m <<< k : Nat) : Rat) := by exact_mod_cast hN
      have hE1 : 1 ≤ uu / 2 * E := by
        rw [uu_eq]
        have : (18014398509481984 : Rat) * (n : Rat) ≤ E * (n : Rat) := by rw [hEn]; grind
        have := Rat.le_of_mul_le_mul_right this hn'
        grind
      have : Wn ((Q : Rat) - E) 1 := by
        refine wn_div hn' ?_
        rw [← hEn] at hD
        obtain ⟨d1, d2⟩ := hD
        constructor <;> grind
      obtain ⟨d1, d2⟩ := this
      constructor <;> grind
  have hXY : vd s m i / vd t n j = (if (s ^^ t) then - (E * pw e) else E * pw e) := by
    have hne : vd false n j ≠ 0 := by grind
    rw [vd_sign s, vd_sign t, hval]
    cases s <;> cases t <;> simp <;> grind
  have hEB : E * pw e ≤ B := by
    rw [hXY] at hB
    obtain ⟨b1, b2⟩ := hB
    cases h : (s ^^ t) <;> rw [h] at b1 b2 <;> simp at b1 b2 <;> grind
  have hB0 : 0 ≤ B := Rat.le_trans (Rat.mul_nonneg hEnn (Rat.le_of_lt hpe)) hEB
  obtain ⟨d1, d2⟩ := hdiff
  have m1 := Rat.mul_le_mul_of_nonneg_left d1 (Rat.le_of_lt hpe)
  have m2 := Rat.mul_le_mul_of_nonneg_left d2 (Rat.le_of_lt hpe)
  have hu := uu_pos
  have hu1 := uu_le
  have mu := Rat.mul_le_mul_of_nonneg_left hEB (Rat.le_of_lt hu)
  have mB := Rat.mul_le_mul_of_nonneg_left hu1 hB0
  have hbig : B + uu * B ≤ pw 1022 := by
    have e1 : pw 1001 = pw 1000 * 2 := by rw [show (1001 : Int) = 1000 + 1 by decide, pw_add, pw_one]
    have e2 : pw 1001 ≤ pw 1022 := pw_mono (by decide)
    generalize pw 1000 = z at *
    generalize pw 1001 = z1 at *
    generalize pw 1022 = z2 at *
    grind
  have hv : vd false Q e ≤ B + uu * B := by rw [vd_false]; grind
  obtain ⟨r1, r2⟩ := rnd (s ^^ t) Q e (B + uu * B) hv hbig
  refine ⟨r1, ?_⟩
  rw [hXY]
  rw [vd_sign (s ^^ t) Q e, vd_false] at r2
  generalize vl (D.nearest (s ^^ t) Q e) = R at *
  have mm : uu * (uu * B) ≤ uu * B * (1 / 9007199254740992) := by rw [uu_eq]; grind
  obtain ⟨c1, c2⟩ := r2
  cases hst : (s ^^ t)
  · rw [hst] at c1 c2
    simp only [Bool.false_eq_true, if_false] at *
    constructor <;> grind
  · rw [hst] at c1 c2
    simp only [if_true] at *
    constructor <;> grind
theorem order_vl {x y : Nat} (hx : Fin x) (hy : Fin y) : ∃ a b : Int, D.order x y = some (compare a b) ∧ vl x = (a : Rat) * pw (-1074) ∧ vl y = (b : Rat) * pw (-1074) := by
  obtain ⟨s, m, i, hx⟩ := hx
  obtain ⟨t, n, j, hy⟩ := hy
  have hi := (read_fields hx).2.1
  have hj := (read_fields hy).2.1
  refine ⟨_, _, order_sv hx hy hi hj, ?_, ?_⟩
  · rw [vl_of hx]; exact (signed_vd s m i (-1074) hi).symm
  · rw [vl_of hy]; exact (signed_vd t n j (-1074) hj).symm
theorem mul_lt_iff {a b : Int} {c : Rat} (hc : 0 < c) : (a : Rat) * c < (b : Rat) * c ↔ a < b := by
  rw [Rat.mul_lt_mul_right hc, Rat.intCast_lt_intCast]
theorem mul_eq_iff {a b : Int} {c : Rat} (hc : 0 < c) : (a : Rat) * c = (b : Rat) * c ↔ a = b := by
  constructor
  · intro h
    rcases Int.lt_trichotomy a b with h1 | h1 | h1
    · have := (mul_lt_iff hc).2 h1; grind
    · exact h1
    · have := (mul_lt_iff hc).2 h1; grind
  · rintro rfl; rfl
theorem order_lt {x y : Nat} (hx : Fin x) (hy : Fin y) : D.order x y = some .lt ↔ vl x < vl y := by
  obtain ⟨a, b, h, ha, hb⟩ := order_vl hx hy
  rw [h, ha, hb, mul_lt_iff (pw_pos _), Option.some.injEq, compare_lt]
theorem order_gt {x y : Nat} (hx : Fin x) (hy : Fin y) : D.order x y = some .gt ↔ vl y < vl x := by
  obtain ⟨a, b, h, ha, hb⟩ := order_vl hx hy
  rw [h, ha, hb, mul_lt_iff (pw_pos _), Option.some.injEq, compare_gt]
theorem order_eq {x y : Nat} (hx : Fin x) (hy : Fin y) : D.order x y = some .eq ↔ vl x = vl y := by
  obtain ⟨a, b, h, ha, hb⟩ := order_vl hx hy
  rw [h, ha, hb, mul_eq_iff (pw_pos _), Option.some.injEq, compare_eq]
end Go.Fp
