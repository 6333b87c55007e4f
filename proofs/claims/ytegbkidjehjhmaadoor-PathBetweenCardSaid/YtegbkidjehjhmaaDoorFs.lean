/- Numbers whose size is below a power of two: no operation on them is invalid. -/
import Derived.Test.YtegbkidjehjhmaaDoorFp
namespace Go.Fp
open Ieee

/-- a number, in size below 2 ^ k -/
def Tp (k : Int) (x : Nat) : Prop := ∃ s m p, D.read x = .number s m p ∧ (m = 0 ∨ p + (m.log2 : Int) + 1 ≤ k)

theorem Tp.mono {a b : Int} {x : Nat} (h : Tp a x) (hab : a ≤ b) : Tp b x := by
  obtain ⟨s, m, p, hr, h⟩ := h
  refine ⟨s, m, p, hr, ?_⟩
  rcases h with h | h
  · exact .inl h
  · exact .inr (by omega)

theorem D_sign : D.signWeight = 2 ^ 63 := by decide +kernel
theorem D_inf : D.infRung = 2047 * 2 ^ 52 := by decide +kernel
theorem D_bin : D.binade = 2 ^ 52 := by decide +kernel
theorem D_least : D.leastPlace = -1074 := by decide +kernel
theorem D_frac : (D.fractionBits : Int) = 52 := by decide +kernel

/-- the word of a sign and a rung -/
theorem word_mod (s : Bool) {r : Nat} (h : r < 2 ^ 63) : D.word s r % 2 ^ 63 = r := by
  unfold Format.word
  rw [D_sign]
  cases s <;> simp <;> omega

theorem read_word (s : Bool) {r : Nat} (h : r < 2047 * 2 ^ 52) : ∃ s', D.read (D.word s r) = if r < 2 ^ 52 then .number s' r (-1074) else .number s' (2 ^ 52 + r % 2 ^ 52) (-1074 + (r / 2 ^ 52 - 1 : Nat)) := by
  refine ⟨D.word s r / 2 ^ 63 % 2 == 1, ?_⟩
  unfold Format.read
  simp only [D_sign, D_inf, D_bin, D_least]
  rw [word_mod s (by omega)]
  by_cases h1 : r < 2 ^ 52
  · rw [if_pos h1, if_pos h1]
  · rw [if_neg h1, if_neg h1, if_pos h]

theorem log2_of {m k : Nat} (h0 : m ≠ 0) (h : m < 2 ^ (k + 1)) : m.log2 ≤ k := by
  have := (Nat.log2_lt h0 (k := k + 1)).2 h
  omega

theorem tp_word (s : Bool) {r : Nat} {k : Int} (hr : (r : Int) ≤ (k + 1023) * 2 ^ 52) (h0 : 0 ≤ k + 1022) (hk : k < 1023) : Tp (k + 1) (D.word s r) := by
  have hlt : r < 2047 * 2 ^ 52 := by omega
  obtain ⟨s', e⟩ := read_word s hlt
  split at e
  · rename_i h1
    refine ⟨s', r, -1074, e, ?_⟩
    by_cases hz : r = 0
    · exact .inl hz
    · have := log2_of (k := 51) hz h1
      exact .inr (by omega)
  · rename_i h1
    refine ⟨s', _, _, e, .inr ?_⟩
    have : (2 ^ 52 + r % 2 ^ 52).log2 ≤ 52 := log2_of (by omega) (by omega)
    omega

theorem lt_log2 (m : Nat) : m < 2 ^ (m.log2 + 1) := Nat.lt_log2_self

theorem log2_shift_le (m i : Nat) (h : m ≠ 0) : (m <<< i).log2 = m.log2 + i := by
  apply Nat.le_antisymm
  · have hne : m <<< i ≠ 0 := by rw [Nat.shiftLeft_eq]; exact Nat.mul_ne_zero h (by have := Nat.two_pow_pos i; omega)
    refine log2_of hne ?_
    rw [Nat.shiftLeft_eq, show m.log2 + i + 1 = (m.log2 + 1) + i by omega, Nat.pow_add]
    exact Nat.mul_lt_mul_of_pos_right (lt_log2 m) (Nat.two_pow_pos _)
  · have hne : m <<< i ≠ 0 := by rw [Nat.shiftLeft_eq]; exact Nat.mul_ne_zero h (by have := Nat.two_pow_pos i; omega)
    rw [Nat.le_log2 hne, Nat.shiftLeft_eq, Nat.pow_add]
    exact Nat.mul_le_mul_right _ (Nat.log2_self_le h)

/-- what is kept of a number has at most 53 digits, or is 2 ^ 53 -/
theorem cut_le (s : Bool) (n drop j : Nat) (h : n < 2 ^ (j + drop)) : Toward.even.cut s n drop ≤ 2 ^ j := by
  unfold Toward.cut
  by_cases hd : drop ≤ n.log2 + 2
  · rw [Nat.min_eq_left hd]
    have hg : (1 <<< drop : Nat) = 2 ^ drop := by rw [Nat.shiftLeft_eq, Nat.one_mul]
    simp only [hg]
    have h1 : n / 2 ^ drop < 2 ^ j := by
      rw [Nat.div_lt_iff_lt_mul (Nat.two_pow_pos _), ← Nat.pow_add]
      exact h
    have h2 : ∀ b : Bool, b.toNat ≤ 1 := fun b => by cases b <;> simp
    have := h2 ((decide (2 ^ drop < 2 * (n % 2 ^ drop)) || 2 ^ drop == 2 * (n % 2 ^ drop) && n / 2 ^ drop % 2 == 1))
    omega
  · have hd' : min drop (n.log2 + 2) = n.log2 + 2 := Nat.min_eq_right (by omega)
    rw [hd']
    have hg : (1 <<< (n.log2 + 2) : Nat) = 2 ^ (n.log2 + 2) := by rw [Nat.shiftLeft_eq, Nat.one_mul]
    simp only [hg]
    have hn := lt_log2 n
    have h4 : 2 ^ (n.log2 + 2) = 2 * 2 ^ (n.log2 + 1) := by rw [Nat.pow_succ, Nat.mul_comm]
    have h1 : n / 2 ^ (n.log2 + 2) = 0 := Nat.div_eq_of_lt (by omega)
    have h2 : n % 2 ^ (n.log2 + 2) = n := Nat.mod_eq_of_lt (by omega)
    rw [h1, h2]
    have h3 : (2 ^ (n.log2 + 2) < 2 * n) = False := by simp; omega
    have h5 : (2 ^ (n.log2 + 2) == 2 * n) = false := by simp; omega
    simp [h3, h5]

theorem tp_nearest (s : Bool) (m : Nat) (p k : Int) (h : m = 0 ∨ p + (m.log2 : Int) + 1 ≤ k) (h0 : -1000 ≤ k) (hk : k < 1023) : Tp (k + 1) (D.nearest s m p) := by
  unfold Format.nearest
  by_cases hm : m = 0
  · rw [if_pos hm]
    exact tp_word s (r := 0) (by omega) (by omega) hk
  · rw [if_neg hm]
    have h : p + (m.log2 : Int) + 1 ≤ k := by exact h.resolve_left hm
    simp only [D_least, D_frac, D_bin, D_inf]
    generalize hl : max (p + (m.log2 : Int) - 52) (-1074) = last
    have hl1 : p + (m.log2 : Int) - 52 ≤ last := by omega
    have hl2 : -1074 ≤ last := by omega
    have hl3 : last = p + (m.log2 : Int) - 52 ∨ last = -1074 := by omega
    have hc : Toward.even.cut s (m <<< (p - last).toNat) (last - p).toNat ≤ 2 ^ 53 := by
      refine cut_le _ _ _ _ ?_
      have hb := lt_log2 (m <<< (p - last).toNat)
      rw [log2_shift_le _ _ hm] at hb
      refine Nat.lt_of_lt_of_le hb (Nat.pow_le_pow_right (by decide) ?_)
      omega
    refine tp_word s ?_ (by omega) hk
    have h3 : (2 : Nat) ^ 53 = 2 * 2 ^ 52 := by decide
    generalize Toward.even.cut s (m <<< (p - last).toNat) (last - p).toNat = c at hc
    have h4 : (min ((last - -1074).toNat * 2 ^ 52 + c) (2047 * 2 ^ 52) : Nat) ≤ (last - -1074).toNat * 2 ^ 52 + c := Nat.min_le_left _ _
    omega

theorem tp_read {k : Int} {x : Nat} {s : Bool} {m : Nat} {p : Int} (h : Tp k x) (hr : D.read x = .number s m p) : m = 0 ∨ p + (m.log2 : Int) + 1 ≤ k := by
  obtain ⟨s', m', p', hr', h⟩ := h
  rw [hr] at hr'
  cases hr'
  exact h

theorem log2_mul_le (m n : Nat) (hm : m ≠ 0) (hn : n ≠ 0) : (m * n).log2 ≤ m.log2 + n.log2 + 1 := by
  refine log2_of (Nat.mul_ne_zero hm hn) ?_
  have h1 := lt_log2 m
  have h2 := lt_log2 n
  rw [show m.log2 + n.log2 + 1 + 1 = (m.log2 + 1) + (n.log2 + 1) by omega, Nat.pow_add]
  exact Nat.mul_lt_mul_of_lt_of_lt h1 h2

theorem tp_mul {a b : Int} {x y : Nat} (hx : Tp a x) (hy : Tp b y) (h0 : -1000 ≤ a + b) (h1 : a + b < 1023) : D.mul x y = some (fmul x y) ∧ Tp (a + b + 1) (fmul x y) := by
  obtain ⟨s, m, i, hr, h⟩ := hx
  obtain ⟨t, n, j, hr', h'⟩ := hy
  have e : D.mul x y = some (D.nearest (s ^^ t) (m * n) (i + j)) := by
    unfold Format.mul; rw [hr, hr']; rfl
  have e2 : fmul x y = D.nearest (s ^^ t) (m * n) (i + j) := by unfold fmul opt; rw [e]; rfl
  refine ⟨by rw [e, e2], ?_⟩
  rw [e2]
  refine tp_nearest _ _ _ _ ?_ h0 h1
  by_cases hm : m = 0
  · exact .inl (by rw [hm, Nat.zero_mul])
  · by_cases hn : n = 0
    · exact .inl (by rw [hn, Nat.mul_zero])
    · have := log2_mul_le m n hm hn
      exact .inr (by omega)

theorem natAbs_signed (s : Bool) (m i : Nat) : (signed s m i).natAbs = m <<< i := by
  unfold signed; cases s
  · simp only [Bool.false_eq_true, if_false]; exact Int.natAbs_natCast _
  · simp only [if_true]; rw [Int.natAbs_neg]; exact Int.natAbs_natCast _

theorem tp_sum {a : Int} {s t : Bool} {m n : Nat} {i j : Int} (h : m = 0 ∨ i + (m.log2 : Int) + 1 ≤ a) (h' : n = 0 ∨ j + (n.log2 : Int) + 1 ≤ a) :
    (signed s m (i - min i j).toNat + signed t n (j - min i j).toNat).natAbs = 0 ∨
      min i j + ((signed s m (i - min i j).toNat + signed t n (j - min i j).toNat).natAbs.log2 : Int) + 1 ≤ a + 1 := by
  by_cases hz : (signed s m (i - min i j).toNat + signed t n (j - min i j).toNat).natAbs = 0
  · exact .inl hz
  · refine .inr ?_
    have ht : (signed s m (i - min i j).toNat + signed t n (j - min i j).toNat).natAbs ≤ m <<< (i - min i j).toNat + n <<< (j - min i j).toNat := by
      rw [← natAbs_signed s, ← natAbs_signed t]; exact Int.natAbs_add_le _ _
    -- both below 2 ^ (a - base), unless one is nought
    have hb : ∀ (m : Nat) (i' : Int), (m = 0 ∨ i' + (m.log2 : Int) + 1 ≤ a) → min i j ≤ i' → m <<< (i' - min i j).toNat < 2 ^ (a - min i j).toNat ∨ m = 0 := by
      intro m i' hm hi'
      by_cases h0 : m = 0
      · exact .inr h0
      · refine .inl ?_
        have hm : i' + (m.log2 : Int) + 1 ≤ a := by exact hm.resolve_left h0
        have := lt_log2 (m <<< (i' - min i j).toNat)
        rw [log2_shift_le _ _ h0] at this
        exact Nat.lt_of_lt_of_le this (Nat.pow_le_pow_right (by decide) (by omega))
    have hm := hb m i h (Int.min_le_left _ _)
    have hn := hb n j h' (Int.min_le_right _ _)
    have hp : 0 < 2 ^ (a - min i j).toNat := Nat.two_pow_pos _
    have hm' : m <<< (i - min i j).toNat < 2 ^ (a - min i j).toNat := by
      rcases hm with hm | hm
      · exact hm
      · rw [hm, Nat.zero_shiftLeft]; exact hp
    have hn' : n <<< (j - min i j).toNat < 2 ^ (a - min i j).toNat := by
      rcases hn with hn | hn
      · exact hn
      · rw [hn, Nat.zero_shiftLeft]; exact hp
    have hlt : (signed s m (i - min i j).toNat + signed t n (j - min i j).toNat).natAbs < 2 ^ ((a - min i j).toNat + 1) := by
      rw [Nat.pow_succ]; omega
    have hl := log2_of hz hlt
    -- one of the two is not nought, so a is not below the base
    have hne : min i j ≤ a := by
      rcases h with h | h
      · rcases h' with h' | h'
        · exfalso; apply hz; rw [h, h']; cases s <;> cases t <;> simp [signed]
        · have := Int.min_le_right i j; omega
      · have := Int.min_le_left i j; omega
    omega

theorem tp_add {a : Int} {x y : Nat} (hx : Tp a x) (hy : Tp a y) (h0 : -1000 ≤ a) (h1 : a < 1022) : D.add x y = some (fadd x y) ∧ Tp (a + 2) (fadd x y) := by
  obtain ⟨s, m, i, hr, h⟩ := hx
  obtain ⟨t, n, j, hr', h'⟩ := hy
  have e : ∃ u, D.add x y = some (D.nearest u (signed s m (i - min i j).toNat + signed t n (j - min i j).toNat).natAbs (min i j)) := by
    unfold Format.add; rw [hr, hr']; exact ⟨_, rfl⟩
  obtain ⟨u, e⟩ := e
  have e2 : fadd x y = D.nearest u (signed s m (i - min i j).toNat + signed t n (j - min i j).toNat).natAbs (min i j) := by unfold fadd opt; rw [e]; rfl
  refine ⟨by rw [e, e2], ?_⟩
  rw [e2, show a + 2 = (a + 1) + 1 by omega]
  exact tp_nearest _ _ _ _ (tp_sum h h') (by omega) (by omega)

theorem tp_sub {a : Int} {x y : Nat} (hx : Tp a x) (hy : Tp a y) (h0 : -1000 ≤ a) (h1 : a < 1022) : D.sub x y = some (fsub x y) ∧ Tp (a + 2) (fsub x y) := by
  obtain ⟨s, m, i, hr, h⟩ := hx
  obtain ⟨t, n, j, hr', h'⟩ := hy
  have e : ∃ u, D.sub x y = some (D.nearest u (signed s m (i - min i j).toNat + signed (!t) n (j - min i j).toNat).natAbs (min i j)) := by
    unfold Format.sub; rw [hr, hr']; exact ⟨_, rfl⟩
  obtain ⟨u, e⟩ := e
  have e2 : fsub x y = D.nearest u (signed s m (i - min i j).toNat + signed (!t) n (j - min i j).toNat).natAbs (min i j) := by unfold fsub opt; rw [e]; rfl
  refine ⟨by rw [e, e2], ?_⟩
  rw [e2, show a + 2 = (a + 1) + 1 by omega]
  exact tp_nearest _ _ _ _ (tp_sum h h') (by omega) (by omega)

theorem tp_ofInt (n : Int) (k : Nat) (h : n.natAbs < 2 ^ k) (hk : k < 1000) : Tp (k + 1) (floatOfInt .f64 n) := by
  show Tp (k + 1) (D.nearest _ n.natAbs 0)
  refine tp_nearest _ _ _ _ ?_ (by omega) (by omega)
  by_cases hz : n.natAbs = 0
  · exact .inl hz
  · have hk0 : k ≠ 0 := by rintro rfl; simp at h; omega
    have := log2_of (k := k - 1) hz (by rwa [show k - 1 + 1 = k by omega])
    exact .inr (by omega)

theorem Tp.fin {k : Int} {x : Nat} (h : Tp k x) : isNan x = false := by
  obtain ⟨s, m, p, hr, _⟩ := h
  unfold isNan; rw [hr]; rfl
theorem Tp.can {k : Int} {x : Nat} (h : Tp k x) : can x = x := can_of_not h.fin
end Go.Fp
