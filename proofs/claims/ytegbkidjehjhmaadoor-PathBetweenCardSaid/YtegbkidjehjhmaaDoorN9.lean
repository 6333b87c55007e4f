/- The even one of two whole numbers, by what is left over the floor. -/
import Derived.Test.YtegbkidjehjhmaaDoorN8
namespace Go.Fp
open Ieee

abbrev half : Nat := 4602678819172646912
theorem half_read : D.read half = .number false (2 ^ 52) (-53) := by decide +kernel

/-- a number from one half up to one is written as no less than one half -/
theorem half_le {N : Nat} {base : Int} (hN : N ≠ 0) (hb : -1074 ≤ base) (h : base + N.log2 + 1 = 0) :
    ∃ o, D.order (D.nearest false N base) half = some o ∧ o ≠ .lt := by
  unfold Format.nearest
  rw [if_neg hN]
  simp only [D_least, D_frac, D_bin]
  have hl : max (base + (N.log2 : Int) - 52) (-1074) = -53 := by omega
  rw [hl]
  have hk2 : Toward.even.cut false (N <<< (base - -53).toNat) (-53 - base).toNat ≤ 2 ^ 53 := by
    refine cut_le _ _ _ _ ?_
    have hb := lt_log2 (N <<< (base - -53).toNat)
    rw [log2_shift_le _ _ hN] at hb
    exact Nat.lt_of_lt_of_le hb (Nat.pow_le_pow_right (by decide) (by omega))
  have hk1 : 2 ^ 52 ≤ Toward.even.cut false (N <<< (base - -53).toNat) (-53 - base).toNat := by
    rw [cut_even]
    refine Nat.le_trans ?_ (Nat.le_add_right _ _)
    rw [Nat.le_div_iff_mul_le (Nat.two_pow_pos _), ← Nat.pow_add]
    have hne : N <<< (base - -53).toNat ≠ 0 := by rw [Nat.shiftLeft_eq]; exact Nat.mul_ne_zero hN (by have := Nat.two_pow_pos (base - -53).toNat; omega)
    rw [← Nat.le_log2 hne, log2_shift_le _ _ hN]
    omega
  generalize Toward.even.cut false (N <<< (base - -53).toNat) (-53 - base).toNat = kept at *
  have e0 : ((-53 : Int) - -1074).toNat = 1021 := by decide
  rw [e0]
  obtain ⟨m, p, hr, hp1, hp2⟩ := read_kept false 1021 kept hk2 (.inr hk1) (by omega)
  refine ⟨_, order_sv hr half_read hp1 (by decide), ?_⟩
  have e3 := signed_shift false m (p + 1074).toNat 0
  rw [Nat.add_zero, hp2, signed_shift] at e3
  rw [← e3]
  have e4 : ((-53 : Int) + 1074).toNat = 1021 + 0 := by decide
  rw [e4, Ne, compare_lt, signed_eq, signed_eq]
  have hp : (0 : Int) < ((2 ^ (1021 + 0) : Nat) : Int) := by have := Nat.two_pow_pos (1021 + 0); omega
  have : ¬ (sg false * (kept : Int) < sg false * ((2 ^ 52 : Nat) : Int)) := by simp only [sg, Bool.false_eq_true, if_false]; omega
  exact fun hlt => this (Int.lt_of_mul_lt_mul_right hlt (Int.le_of_lt hp))

theorem signed_not (t : Bool) (n k : Nat) : signed (!t) n k = - signed t n k := by
  unfold signed; cases t <;> simp
/-- what is left of a number over a whole one -/
theorem diff_T {x f : Nat} {s : Bool} {m : Nat} {i V : Int} {T : Nat} (hx : D.read x = .number s m i) (hi : i < 0) (hf : IsI f V) (hT : sg s * m - V * ((2 ^ (-i).toNat : Nat) : Int) = T) :
    ∃ (u : Bool) (c : Nat) (base : Int), fsub x f = D.nearest u (T <<< c) base ∧ base + c = i ∧ -1074 ≤ base ∧ (T ≠ 0 → u = false) := by
  obtain ⟨hm, hi1, hi2⟩ := read_fields hx
  obtain ⟨t, n, j, k1, k2, k3⟩ := hf
  have e : ∃ u, D.sub x f = some (D.nearest u (signed s m (i - min i j).toNat + signed (!t) n (j - min i j).toNat).natAbs (min i j)) ∧
      ((signed s m (i - min i j).toNat + signed (!t) n (j - min i j).toNat) > 0 → u = false) := by
    unfold Format.sub; rw [hx, k1]
    refine ⟨_, rfl, ?_⟩
    intro h
    rw [if_neg (by omega)]
    simp; omega
  obtain ⟨u, e, hu⟩ := e
  have hp : (0 : Int) < ((2 ^ (min i j + 1074).toNat : Nat) : Int) := by have := Nat.two_pow_pos (min i j + 1074).toNat; omega
  have ht : signed s m (i - min i j).toNat + signed (!t) n (j - min i j).toNat = ((T <<< (i - min i j).toNat : Nat) : Int) := by
    refine Int.eq_of_mul_eq_mul_right (Int.ne_of_gt hp) ?_
    rw [Int.add_mul, signed_scale, signed_scale, signed_not]
    have e1 : (i - min i j).toNat + (min i j + 1074).toNat = (i + 1074).toNat := by omega
    have e2 : (j - min i j).toNat + (min i j + 1074).toNat = (j + 1074).toNat := by omega
    have e3 : (-i).toNat + (i + 1074).toNat = 1074 := by omega
    rw [e1, e2, k3, signed_eq, Nat.shiftLeft_eq, Int.natCast_mul, ← hT, ← e3, Nat.pow_add, ← e1, Nat.pow_add]
    simp only [Int.natCast_mul, Int.sub_eq_add_neg, Int.add_mul, Int.neg_mul]
    ac_rfl
  rw [ht] at e hu
  refine ⟨u, _, _, by unfold fsub opt; rw [e]; rfl, by omega, by omega, fun h0 => hu ?_⟩
  have := Nat.two_pow_pos (i - min i j).toNat
  rw [Nat.shiftLeft_eq]
  have := Nat.mul_pos (Nat.pos_of_ne_zero h0) this
  omega
theorem diff_order {x f : Nat} {s : Bool} {m : Nat} {i V : Int} {T : Nat} (hx : D.read x = .number s m i) (hi : i < 0) (hf : IsI f V) (hT : sg s * m - V * ((2 ^ (-i).toNat : Nat) : Int) = T) (h53 : T < 2 ^ 53) :
    D.order (fsub x f) half = some (compare (2 * (T : Int)) ((2 ^ (-i).toNat : Nat) : Int)) := by
  obtain ⟨hm, hi1, hi2⟩ := read_fields hx
  obtain ⟨u, c, base, hsub, hbc, hb, hu⟩ := diff_T hx hi hf hT
  obtain ⟨m', p, hr, hp1, hp2⟩ := read_exact u T c base h53 hb (by omega)
  rw [hsub, order_sv hr half_read hp1 (by decide)]
  have e3 := signed_shift u m' (p + 1074).toNat 0
  rw [Nat.add_zero, hp2, signed_shift, hbc, Nat.add_zero] at e3
  rw [← e3]
  have h1 : signed u T (i + 1074).toNat = (T : Int) * ((2 ^ (i + 1074).toNat : Nat) : Int) := by
    rw [signed_eq]
    by_cases h0 : T = 0
    · subst h0; simp
    · rw [hu h0]; simp [sg]
  have e4 : ((-53 : Int) + 1074).toNat = 1021 := by decide
  rw [h1, e4, signed_eq]
  refine congrArg some ?_
  rw [← compare_scale _ _ 2 (by decide)]
  have e5 : (-i).toNat + (i + 1074).toNat = 1074 := by omega
  have h2 : sg false * ((2 ^ 52 : Nat) : Int) * ((2 ^ 1021 : Nat) : Int) * 2 = ((2 ^ (-i).toNat : Nat) : Int) * ((2 ^ (i + 1074).toNat : Nat) : Int) := by
    rw [← Int.natCast_mul, ← Nat.pow_add, e5]
    decide +kernel
  have hp : (0 : Int) < ((2 ^ (i + 1074).toNat : Nat) : Int) := by have := Nat.two_pow_pos (i + 1074).toNat; omega
  rw [h2, show (T : Int) * ((2 ^ (i + 1074).toNat : Nat) : Int) * 2 = 2 * (T : Int) * ((2 ^ (i + 1074).toNat : Nat) : Int) by ac_rfl, compare_scale _ _ _ hp]

theorem tmod2 (V : Int) : V.tmod 2 ≠ 0 ↔ V % 2 ≠ 0 := by
  cases V with
  | ofNat n => show ((n % 2 : Nat) : Int) ≠ 0 ↔ (n : Int) % 2 ≠ 0; omega
  | negSucc n => show -(((n + 1) % 2 : Nat) : Int) ≠ 0 ↔ (Int.negSucc n) % 2 ≠ 0; rw [Int.negSucc_eq]; omega

theorem diff_law {x f : Nat} {s : Bool} {m : Nat} {i : Int} (hx : D.read x = .number s m i) (hi : i < 0) (hf : IsI f (signed s (Toward.down.cut s m (-i).toNat) 0)) :
    ∃ o, D.order (fsub x f) half = some o ∧
      (if o = .gt ∨ o = .eq ∧ (signed s (Toward.down.cut s m (-i).toNat) 0).tmod 2 ≠ 0 then signed s (Toward.down.cut s m (-i).toNat) 0 + 1 else signed s (Toward.down.cut s m (-i).toNat) 0)
        = signed s (Toward.even.cut s m (-i).toNat) 0 := by
  obtain ⟨hm, hi1, hi2⟩ := read_fields hx
  have hP := Nat.two_pow_pos (-i).toNat
  have hdm := Nat.div_add_mod m (2 ^ (-i).toNat)
  have hr := Nat.mod_lt m hP
  rw [signed0] at hf
  rw [signed0, signed0]
  simp only [tmod2]
  have hdo := fun T hT h53 => diff_order (T := T) hx hi hf hT h53
  have hdt := fun T hT => diff_T (T := T) hx hi hf hT
  rw [cut_down] at hdo hdt ⊢
  rw [cut_even]
  have hbig : (-i).toNat < 54 ∨ 2 ^ 53 ≤ 2 ^ (-i).toNat / 2 := by
    by_cases h : (-i).toNat < 54
    · exact .inl h
    · have : 2 ^ 54 ≤ 2 ^ (-i).toNat := Nat.pow_le_pow_right (by decide) (by omega)
      right; omega
  have hlog : ∀ T, 2 ^ (-i).toNat / 2 ≤ T → T < 2 ^ (-i).toNat → 1 ≤ (-i).toNat → T.log2 + 1 = (-i).toNat := by
    intro T h1 h2 h3
    have e : 2 ^ (-i).toNat = 2 * 2 ^ ((-i).toNat - 1) := by rw [← Nat.pow_succ']; congr 1; omega
    have hp2 := Nat.two_pow_pos ((-i).toNat - 1)
    have h0 : T ≠ 0 := by omega
    have h5 := (Nat.log2_lt h0 (k := (-i).toNat)).2 h2
    have h6 := (Nat.le_log2 h0 (k := (-i).toNat - 1)).2 (by omega)
    omega
  have h53s : (-i).toNat < 54 → 2 ^ (-i).toNat ≤ 2 ^ 53 := fun h => Nat.pow_le_pow_right (by decide) (by omega)
  generalize hPe : 2 ^ (-i).toNat = P at *
  generalize m / P = q at *
  generalize m % P = r at *
  have hqP : ((P * q : Nat) : Int) = (q : Int) * P := by rw [Int.natCast_mul, Int.mul_comm]
  have hmc : (m : Int) = (q : Int) * P + r := by omega
  cases s with
  | false =>
    simp only [Bool.false_eq_true, false_and, if_false, Nat.add_zero] at hdo hdt ⊢
    have hT : sg false * (m : Int) - sg false * (q : Int) * (P : Int) = (r : Int) := by simp only [sg, Bool.false_eq_true, if_false, Int.one_mul]; omega
    refine ⟨_, hdo r hT (by omega), ?_⟩
    simp only [compare_gt, compare_eq]
    simp only [sg, Bool.false_eq_true, if_false, Int.one_mul]
    split <;> split <;> omega
  | true =>
    by_cases h0 : r = 0
    · subst h0
      simp only [ne_eq, not_true, and_false, if_false, Nat.add_zero] at hdo hdt ⊢
      have hT : sg true * (m : Int) - sg true * (q : Int) * (P : Int) = ((0 : Nat) : Int) := by
        simp only [sg, if_true]
        rw [Int.mul_assoc, hmc]; omega
      refine ⟨_, hdo 0 hT (by decide), ?_⟩
      simp only [compare_gt, compare_eq]
      rw [if_neg (by omega), if_neg (by omega)]
      simp
    · simp only [ne_eq, h0, not_false_eq_true, and_true, if_true] at hdo hdt ⊢
      have hT : sg true * (m : Int) - sg true * ((q + 1 : Nat) : Int) * (P : Int) = ((P - r : Nat) : Int) := by
        simp only [sg, if_true]
        rw [Int.mul_assoc, hmc, Int.natCast_add, Int.add_mul]; omega
      by_cases h53 : P - r < 2 ^ 53
      · refine ⟨_, hdo _ hT h53, ?_⟩
        simp only [compare_gt, compare_eq]
        simp only [sg, if_true]
        split <;> split <;> omega
      · obtain ⟨u, c, base, hsub, hbc, hb, hu⟩ := hdt _ hT
        have hq : q = 0 := by
          rcases Nat.eq_zero_or_pos q with h | h
          · exact h
          · have : P * 1 ≤ P * q := Nat.mul_le_mul_left _ h
            omega
        have hne : P - r ≠ 0 := by omega
        rw [hu hne] at hsub
        have hlg := hlog (P - r) (by subst hq; simp at hdm; omega) (by omega) (by omega)
        have hne2 : (P - r) <<< c ≠ 0 := by rw [Nat.shiftLeft_eq]; exact Nat.mul_ne_zero hne (by have := Nat.two_pow_pos c; omega)
        obtain ⟨o, ho, hol⟩ := half_le (N := (P - r) <<< c) (base := base) hne2 hb (by rw [log2_shift_le _ _ hne]; omega)
        rw [← hsub] at ho
        refine ⟨o, ho, ?_⟩
        subst hq
        simp only [sg, if_true]
        simp at hdm
        rw [if_pos (by cases o <;> simp at hol ⊢), if_neg (by omega)]
        simp

/-- what is left of a whole number over itself -/
theorem diff_zero {x f : Nat} {V : Int} (hx : IsI x V) (hf : IsI f V) : D.order (fsub x f) half = some .lt := by
  obtain ⟨s, m, i, h1, h2, h3⟩ := hx
  obtain ⟨t, n, j, k1, k2, k3⟩ := hf
  have e : ∃ u, D.sub x f = some (D.nearest u (signed s m (i - min i j).toNat + signed (!t) n (j - min i j).toNat).natAbs (min i j)) := by
    unfold Format.sub; rw [h1, k1]
    exact ⟨_, rfl⟩
  obtain ⟨u, e⟩ := e
  have hp : (0 : Int) < ((2 ^ (min i j + 1074).toNat : Nat) : Int) := by have := Nat.two_pow_pos (min i j + 1074).toNat; omega
  have ht : signed s m (i - min i j).toNat + signed (!t) n (j - min i j).toNat = 0 := by
    refine Int.eq_of_mul_eq_mul_right (Int.ne_of_gt hp) ?_
    rw [Int.add_mul, signed_scale, signed_scale, signed_not]
    have e1 : (i - min i j).toNat + (min i j + 1074).toNat = (i + 1074).toNat := by omega
    have e2 : (j - min i j).toNat + (min i j + 1074).toNat = (j + 1074).toNat := by omega
    rw [e1, e2, k3, h3]; omega
  rw [ht] at e
  have e2 : fsub x f = D.word u 0 := by unfold fsub opt; rw [e]; rfl
  rw [e2]
  cases u <;> decide +kernel

abbrev c9 : Nat := 4890691058569617664
abbrev m9 : Nat := 14114063095424393472
end Go.Fp
