/- A number made whole: its floor and what is left over, against the even one of two. -/
import Derived.Test.YtegbkidjehjhmaaDoorFs
namespace Go.Fp
open Ieee

theorem compare_scale (a b c : Int) (hc : 0 < c) : compare (a * c) (b * c) = compare a b := by
  show compareOfLessAndEq _ _ = compareOfLessAndEq _ _
  unfold compareOfLessAndEq
  have h1 : a * c < b * c ↔ a < b := Int.mul_lt_mul_right hc
  have h2 : a * c = b * c ↔ a = b := ⟨Int.eq_of_mul_eq_mul_right (by omega), fun h => by rw [h]⟩
  simp only [h1, h2]
theorem compare_gt (a b : Int) : compare a b = .gt ↔ b < a := by
  show compareOfLessAndEq _ _ = _ ↔ _
  unfold compareOfLessAndEq
  by_cases h : a < b
  · simp [h]; omega
  · by_cases h2 : a = b
    · simp [h2]
    · simp [h, h2]; omega
theorem compare_eq (a b : Int) : compare a b = .eq ↔ a = b := by
  show compareOfLessAndEq _ _ = _ ↔ _
  unfold compareOfLessAndEq
  by_cases h : a < b
  · simp [h]; omega
  · by_cases h2 : a = b
    · simp [h2]
    · simp [h, h2]
theorem compare_lt (a b : Int) : compare a b = .lt ↔ a < b := by
  show compareOfLessAndEq _ _ = _ ↔ _
  unfold compareOfLessAndEq
  by_cases h : a < b
  · simp [h]
  · by_cases h2 : a = b
    · simp [h2]
    · simp [h, h2]

def sg (s : Bool) : Int := if s then -1 else 1
theorem signed_eq (s : Bool) (m k : Nat) : signed s m k = sg s * (m : Int) * ((2 ^ k : Nat) : Int) := by
  unfold signed sg
  rw [Nat.shiftLeft_eq]
  cases s <;> simp [Int.neg_mul, Int.natCast_mul]
theorem signed_scale (s : Bool) (m a b : Nat) : signed s m a * ((2 ^ b : Nat) : Int) = signed s m (a + b) := by
  rw [signed_eq, signed_eq, Nat.pow_add, Int.natCast_mul, Int.mul_assoc]
theorem signed_shift (s : Bool) (m a b : Nat) : signed s (m <<< a) b = signed s m (a + b) := by
  rw [signed_eq, signed_eq, Nat.shiftLeft_eq, Nat.pow_add, Int.natCast_mul, Int.natCast_mul]
  ac_rfl

theorem order_sv {x y : Nat} {s t : Bool} {m n : Nat} {i j : Int} (hx : D.read x = .number s m i) (hy : D.read y = .number t n j) (hi : -1074 ≤ i) (hj : -1074 ≤ j) :
    D.order x y = some (compare (signed s m (i + 1074).toNat) (signed t n (j + 1074).toNat)) := by
  unfold Format.order
  rw [hx, hy]
  show some (compare (signed s m (i - min i j).toNat) (signed t n (j - min i j).toNat)) = _
  have hp : (0 : Int) < ((2 ^ (min i j + 1074).toNat : Nat) : Int) := by
    have := Nat.two_pow_pos (min i j + 1074).toNat
    omega
  rw [← compare_scale _ _ _ hp, signed_scale, signed_scale]
  have e1 : (i - min i j).toNat + (min i j + 1074).toNat = (i + 1074).toNat := by omega
  have e2 : (j - min i j).toNat + (min i j + 1074).toNat = (j + 1074).toNat := by omega
  rw [e1, e2]

theorem read_word2 (s : Bool) {r : Nat} (h : r < 2047 * 2 ^ 52) : D.read (D.word s r) = if r < 2 ^ 52 then .number s r (-1074) else .number s (2 ^ 52 + r % 2 ^ 52) (-1074 + (r / 2 ^ 52 - 1 : Nat)) := by
  have hs : (D.word s r / 2 ^ 63 % 2 == 1) = s := by
    unfold Format.word
    rw [D_sign]
    cases s
    · simp only [Bool.false_eq_true, if_false]
      have : r / 2 ^ 63 = 0 := Nat.div_eq_of_lt (by omega)
      rw [this]; rfl
    · simp only [if_true]
      have : (2 ^ 63 + r) / 2 ^ 63 = 1 := by omega
      rw [this]; rfl
  unfold Format.read
  simp only [D_sign, D_inf, D_bin, D_least]
  rw [word_mod s (by omega), hs]
  by_cases h1 : r < 2 ^ 52
  · rw [if_pos h1, if_pos h1]
  · rw [if_neg h1, if_neg h1, if_pos h]

/-- what a word of a place and of kept digits stands for -/
theorem read_kept (s : Bool) (L kept : Nat) (hk : kept ≤ 2 ^ 53) (hc : L = 0 ∨ 2 ^ 52 ≤ kept) (hL : L * 2 ^ 52 + kept < 2047 * 2 ^ 52) :
    ∃ m p, D.read (D.word s (min (L * 2 ^ 52 + kept) D.infRung)) = .number s m p ∧ -1074 ≤ p ∧ m <<< (p + 1074).toNat = kept <<< L := by
  rw [D_inf, Nat.min_eq_left (by omega), read_word2 s hL]
  by_cases h1 : L * 2 ^ 52 + kept < 2 ^ 52
  · rw [if_pos h1]
    have : L = 0 := by omega
    subst this
    exact ⟨_, _, rfl, by omega, by simp⟩
  · rw [if_neg h1]
    have hk2 : 2 ^ 52 ≤ kept := by rcases hc with h | h <;> omega
    by_cases h2 : kept = 2 ^ 53
    · subst h2
      have e1 : (L * 2 ^ 52 + 2 ^ 53) % 2 ^ 52 = 0 := by omega
      have e2 : (L * 2 ^ 52 + 2 ^ 53) / 2 ^ 52 = L + 2 := by omega
      rw [e1, e2]
      refine ⟨_, _, rfl, by omega, ?_⟩
      have e3 : (-1074 + ((L + 2 - 1 : Nat) : Int) + 1074).toNat = L + 1 := by omega
      rw [e3, Nat.shiftLeft_eq, Nat.shiftLeft_eq, Nat.pow_succ (m := L), show (2 : Nat) ^ 53 = 2 ^ 52 * 2 by decide]
      ac_rfl
    · have e1 : 2 ^ 52 + (L * 2 ^ 52 + kept) % 2 ^ 52 = kept := by omega
      have e2 : (L * 2 ^ 52 + kept) / 2 ^ 52 = L + 1 := by omega
      rw [e1, e2]
      refine ⟨_, _, rfl, by omega, ?_⟩
      have e3 : (-1074 + ((L + 1 - 1 : Nat) : Int) + 1074).toNat = L := by omega
      rw [e3]

theorem gap_big {n k : Nat} (h : ¬ k ≤ n.log2 + 2) : 2 * n < 2 ^ k := by
  have h1 := lt_log2 n
  have h2 : 2 ^ (n.log2 + 1 + 1) ≤ 2 ^ k := Nat.pow_le_pow_right (by decide) (by omega)
  rw [Nat.pow_succ] at h2
  omega
theorem cut_even (s : Bool) (n k : Nat) : Toward.even.cut s n k = n / 2 ^ k + (if 2 ^ k < 2 * (n % 2 ^ k) ∨ 2 ^ k = 2 * (n % 2 ^ k) ∧ n / 2 ^ k % 2 = 1 then 1 else 0) := by
  unfold Toward.cut
  by_cases hd : k ≤ n.log2 + 2
  · rw [Nat.min_eq_left hd]
    have hg : (1 <<< k : Nat) = 2 ^ k := by rw [Nat.shiftLeft_eq, Nat.one_mul]
    simp only [hg]
    congr 1
    by_cases h1 : 2 ^ k < 2 * (n % 2 ^ k)
    · simp [h1]
    · by_cases h2 : 2 ^ k = 2 * (n % 2 ^ k)
      · by_cases h3 : n / 2 ^ k % 2 = 1
        · simp [← h2, h3]
        · simp [← h2, h3]
      · simp [h1, h2]
  · have hd' : min k (n.log2 + 2) = n.log2 + 2 := Nat.min_eq_right (by omega)
    rw [hd']
    have hg : (1 <<< (n.log2 + 2) : Nat) = 2 ^ (n.log2 + 2) := by rw [Nat.shiftLeft_eq, Nat.one_mul]
    simp only [hg]
    have hn := lt_log2 n
    have h4 : 2 ^ (n.log2 + 2) = 2 * 2 ^ (n.log2 + 1) := by rw [Nat.pow_succ, Nat.mul_comm]
    have h1 : n / 2 ^ (n.log2 + 2) = 0 := Nat.div_eq_of_lt (by omega)
    have h2 : n % 2 ^ (n.log2 + 2) = n := Nat.mod_eq_of_lt (by omega)
    have hb := gap_big hd
    have h6 : n / 2 ^ k = 0 := Nat.div_eq_of_lt (by omega)
    have h7 : n % 2 ^ k = n := Nat.mod_eq_of_lt (by omega)
    rw [h1, h2, h6, h7]
    have h3 : ¬ (2 ^ (n.log2 + 2) < 2 * n) := by omega
    have h8 : ¬ (2 ^ k < 2 * n) := by omega
    simp [h3, h8]
theorem cut_down (s : Bool) (n k : Nat) : Toward.down.cut s n k = n / 2 ^ k + (if s = true ∧ n % 2 ^ k ≠ 0 then 1 else 0) := by
  unfold Toward.cut
  by_cases hd : k ≤ n.log2 + 2
  · rw [Nat.min_eq_left hd]
    have hg : (1 <<< k : Nat) = 2 ^ k := by rw [Nat.shiftLeft_eq, Nat.one_mul]
    simp only [hg]
    congr 1
    cases s
    · simp
    · by_cases h : n % 2 ^ k = 0
      · simp [h]
      · simp [h]
  · have hd' : min k (n.log2 + 2) = n.log2 + 2 := Nat.min_eq_right (by omega)
    rw [hd']
    have hg : (1 <<< (n.log2 + 2) : Nat) = 2 ^ (n.log2 + 2) := by rw [Nat.shiftLeft_eq, Nat.one_mul]
    simp only [hg]
    have hn := lt_log2 n
    have h4 : 2 ^ (n.log2 + 2) = 2 * 2 ^ (n.log2 + 1) := by rw [Nat.pow_succ, Nat.mul_comm]
    have h1 : n / 2 ^ (n.log2 + 2) = 0 := Nat.div_eq_of_lt (by omega)
    have h2 : n % 2 ^ (n.log2 + 2) = n := Nat.mod_eq_of_lt (by omega)
    have hb := gap_big hd
    have h6 : n / 2 ^ k = 0 := Nat.div_eq_of_lt (by omega)
    have h7 : n % 2 ^ k = n := Nat.mod_eq_of_lt (by omega)
    rw [h1, h2, h6, h7]
    congr 1
    cases s
    · simp
    · by_cases h : n = 0
      · simp [h]
      · simp [h]
theorem cut_none (s : Bool) (n c d : Nat) (hd : d ≤ c) : Toward.even.cut s (n <<< c) d = n <<< (c - d) := by
  rw [cut_even]
  have h : n <<< c = n <<< (c - d) * 2 ^ d := by
    rw [Nat.shiftLeft_eq, Nat.shiftLeft_eq, Nat.mul_assoc, ← Nat.pow_add]
    congr 2; omega
  have hp := Nat.two_pow_pos d
  rw [h, Nat.mul_mod_left, Nat.mul_div_cancel _ hp]
  rw [if_neg (by omega)]
  rfl

/-- a number that the format has, however it is told -/
theorem read_exact (s : Bool) (M c : Nat) (base : Int) (hM : M < 2 ^ 53) (hb : -1074 ≤ base) (hp : base + c ≤ 971) :
    ∃ m p, D.read (D.nearest s (M <<< c) base) = .number s m p ∧ -1074 ≤ p ∧ m <<< (p + 1074).toNat = M <<< (base + c + 1074).toNat := by
  unfold Format.nearest
  by_cases hz : M = 0
  · subst hz
    rw [Nat.zero_shiftLeft, if_pos rfl, read_word2 s (by omega), if_pos (by omega)]
    exact ⟨_, _, rfl, by omega, by simp⟩
  · have hne : M <<< c ≠ 0 := by rw [Nat.shiftLeft_eq]; exact Nat.mul_ne_zero hz (by have := Nat.two_pow_pos c; omega)
    rw [if_neg hne]
    have hl := log2_shift_le M c hz
    have hl52 : M.log2 ≤ 52 := log2_of hz hM
    simp only [D_least, D_frac, D_bin, hl]
    generalize hlast : max (base + ((M.log2 + c : Nat) : Int) - 52) (-1074) = last
    have h1 : last ≤ base + c := by omega
    have h2 : -1074 ≤ last := by omega
    have h3 : last = -1074 ∨ last = base + M.log2 + c - 52 := by omega
    have hk : Toward.even.cut s ((M <<< c) <<< (base - last).toNat) (last - base).toNat = M <<< (base + c - last).toNat := by
      rw [← Nat.shiftLeft_add, cut_none s M _ _ (by omega)]
      congr 1; omega
    rw [hk]
    have hkl : (M <<< (base + c - last).toNat).log2 = M.log2 + (base + c - last).toNat := log2_shift_le _ _ hz
    have hkne : M <<< (base + c - last).toNat ≠ 0 := by rw [Nat.shiftLeft_eq]; exact Nat.mul_ne_zero hz (by have := Nat.two_pow_pos (base + c - last).toNat; omega)
    have hlt : M <<< (base + c - last).toNat < 2 ^ 53 := by
      have := lt_log2 (M <<< (base + c - last).toNat)
      rw [hkl] at this
      exact Nat.lt_of_lt_of_le this (Nat.pow_le_pow_right (by decide) (by omega))
    have hcan : (last - -1074).toNat = 0 ∨ 2 ^ 52 ≤ M <<< (base + c - last).toNat := by
      rcases h3 with h3 | h3
      · left; omega
      · right
        rw [← Nat.le_log2 hkne, hkl]; omega
    generalize hkept : M <<< (base + c - last).toNat = kept at *
    obtain ⟨m, p, hr, hp1, hp2⟩ := read_kept s (last - -1074).toNat kept (by omega) hcan (by omega)
    refine ⟨m, p, hr, hp1, ?_⟩
    rw [hp2, ← hkept, ← Nat.shiftLeft_add]
    congr 1; omega

theorem read_fields {x : Nat} {s : Bool} {m : Nat} {i : Int} (h : D.read x = .number s m i) : m < 2 ^ 53 ∧ -1074 ≤ i ∧ i ≤ 971 := by
  unfold Format.read at h
  simp only [D_sign, D_inf, D_bin, D_least] at h
  split at h
  · cases h; omega
  · split at h
    · cases h; omega
    · split at h <;> cases h

/-- a word that stands for a whole number -/
def IsI (x : Nat) (V : Int) : Prop := ∃ s m i, D.read x = .number s m i ∧ -1074 ≤ i ∧ signed s m (i + 1074).toNat = V * ((2 ^ 1074 : Nat) : Int)
theorem natpow_pos (k : Nat) : (0 : Int) < ((2 ^ k : Nat) : Int) := Int.natCast_pos.2 (Nat.two_pow_pos k)
theorem two_pow_le (a b : Nat) (h : a ≤ b) : 2 ^ a ≤ 2 ^ b := Nat.pow_le_pow_right (by decide) h
theorem pow1074 : (0 : Int) < ((2 ^ 1074 : Nat) : Int) := natpow_pos 1074
theorem IsI.order {x y : Nat} {V W : Int} (hx : IsI x V) (hy : IsI y W) : D.order x y = some (compare V W) := by
  obtain ⟨s, m, i, h1, h2, h3⟩ := hx
  obtain ⟨t, n, j, k1, k2, k3⟩ := hy
  rw [order_sv h1 k1 h2 k2, h3, k3, compare_scale _ _ _ pow1074]
theorem IsI.fin {x : Nat} {V : Int} (hx : IsI x V) : isNan x = false := by
  obtain ⟨s, m, i, h1, _⟩ := hx
  unfold isNan; rw [h1]; rfl

theorem cut_zero (s : Bool) (n k : Nat) : Toward.zero.cut s n k = n / 2 ^ k := by
  unfold Toward.cut
  by_cases hd : k ≤ n.log2 + 2
  · rw [Nat.min_eq_left hd]
    have hg : (1 <<< k : Nat) = 2 ^ k := by rw [Nat.shiftLeft_eq, Nat.one_mul]
    simp [hg]
  · have hd' : min k (n.log2 + 2) = n.log2 + 2 := Nat.min_eq_right (by omega)
    rw [hd']
    have hg : (1 <<< (n.log2 + 2) : Nat) = 2 ^ (n.log2 + 2) := by rw [Nat.shiftLeft_eq, Nat.one_mul]
    have hn := lt_log2 n
    have h4 : 2 ^ (n.log2 + 2) = 2 * 2 ^ (n.log2 + 1) := by rw [Nat.pow_succ, Nat.mul_comm]
    have h1 : n / 2 ^ (n.log2 + 2) = 0 := Nat.div_eq_of_lt (by omega)
    have hb := gap_big hd
    have h6 : n / 2 ^ k = 0 := Nat.div_eq_of_lt (by omega)
    simp [hg, h1, h6]
theorem signed0 (s : Bool) (m : Nat) : signed s m 0 = sg s * m := by
  rw [signed_eq]; simp
theorem IsI.toInt {x : Nat} {V : Int} (hx : IsI x V) : (D.read x).toInt .zero = some V := by
  obtain ⟨s, m, i, h1, h2, h3⟩ := hx
  rw [h1]
  show some (signed s (Toward.zero.cut s (m <<< i.toNat) (-i).toNat) 0) = _
  congr 1
  rw [cut_zero, signed0]
  by_cases hi : 0 ≤ i
  · have e : (-i).toNat = 0 := by omega
    rw [e, Nat.pow_zero, Nat.div_one]
    refine Int.eq_of_mul_eq_mul_right (Int.ne_of_gt pow1074) ?_
    rw [← h3, ← signed0, signed_scale _ _ _ 1074, signed_shift]
    congr 1; omega
  · have e : i.toNat = 0 := by omega
    rw [e, Nat.shiftLeft_zero]
    -- m is V times 2 ^ -i
    have hk : (i + 1074).toNat + (-i).toNat = 1074 := by omega
    have hm : (sg s) * m = V * ((2 ^ (-i).toNat : Nat) : Int) := by
      rw [signed_eq, ← hk, Nat.pow_add, Int.natCast_mul] at h3
      have hp : (0 : Int) < ((2 ^ (i + 1074).toNat : Nat) : Int) := by have := Nat.two_pow_pos (i + 1074).toNat; omega
      refine Int.eq_of_mul_eq_mul_right (Int.ne_of_gt hp) ?_
      rw [h3]; ac_rfl
    have hp := Nat.two_pow_pos (-i).toNat
    generalize 2 ^ (-i).toNat = K at *
    have hm2 : m = V.natAbs * K := by
      have := congrArg Int.natAbs hm
      rw [Int.natAbs_mul, Int.natAbs_mul, Int.natAbs_natCast, Int.natAbs_natCast] at this
      rw [← this]; unfold sg; cases s <;> simp
    rw [hm2, Nat.mul_div_cancel _ hp]
    rw [hm2, Int.natCast_mul, ← Int.mul_assoc] at hm
    exact Int.eq_of_mul_eq_mul_right (by omega) hm

theorem way_cut {way : Toward} (hw : way = .even ∨ way = .down) (s : Bool) (n k : Nat) : ∃ b, b ≤ 1 ∧ way.cut s n k = n / 2 ^ k + b ∧ (n % 2 ^ k = 0 → b = 0) := by
  rcases hw with rfl | rfl
  · rw [cut_even]
    refine ⟨_, ?_, rfl, ?_⟩
    · split <;> omega
    · intro h
      have := Nat.two_pow_pos k
      rw [if_neg (by omega)]
  · rw [cut_down]
    refine ⟨_, ?_, rfl, ?_⟩
    · split <;> omega
    · intro h
      rw [if_neg (fun ⟨_, h2⟩ => h2 h)]
/-- what a number is, made whole -/
theorem isI_int {way : Toward} (hw : way = .even ∨ way = .down) {x : Nat} {s : Bool} {m : Nat} {i : Int} (h : D.read x = .number s m i) :
    IsI (D.write ((D.read x).integral way)) (signed s (way.cut s (m <<< i.toNat) (-i).toNat) 0) := by
  obtain ⟨hm, hi1, hi2⟩ := read_fields h
  rw [h]
  show IsI (D.nearest s (way.cut s (m <<< i.toNat) (-i).toNat) 0) _
  obtain ⟨b, hb1, hb2, hb3⟩ := way_cut hw s (m <<< i.toNat) (-i).toNat
  by_cases hi : 0 ≤ i
  · have e : (-i).toNat = 0 := by omega
    have e2 : way.cut s (m <<< i.toNat) (-i).toNat = m <<< i.toNat := by
      rw [hb2, hb3 (by rw [e, Nat.pow_zero, Nat.mod_one]), e, Nat.pow_zero, Nat.div_one, Nat.add_zero]
    rw [e2]
    obtain ⟨m', p, hr, hp1, hp2⟩ := read_exact s m i.toNat 0 hm (by omega) (by omega)
    refine ⟨s, m', p, hr, hp1, ?_⟩
    rw [signed_scale _ _ _ 1074, signed_shift, ← Nat.zero_add ((p + 1074).toNat), ← signed_shift]
    have e3 := signed_shift s m' (p + 1074).toNat 0
    rw [Nat.add_zero, hp2] at e3
    rw [Nat.zero_add]
    show signed s (m' <<< 0) _ = _
    rw [Nat.shiftLeft_zero, ← e3, signed_shift]
    congr 1; omega
  · have e : i.toNat = 0 := by omega
    rw [e, Nat.shiftLeft_zero] at hb2 hb3 ⊢
    generalize hC : way.cut s m (-i).toNat = C at *
    have hk : (-i).toNat ≠ 0 := by omega
    have hle : m / 2 ^ (-i).toNat ≤ m / 2 := Nat.div_le_div_left (by
      have := Nat.pow_le_pow_right (n := 2) (by decide) (show 1 ≤ (-i).toNat by omega)
      omega) (by decide)
    obtain ⟨m', p, hr, hp1, hp2⟩ := read_exact s C 0 0 (by omega) (by omega) (by omega)
    rw [Nat.shiftLeft_zero] at hr
    refine ⟨s, m', p, hr, hp1, ?_⟩
    have e3 := signed_shift s m' (p + 1074).toNat 0
    rw [Nat.add_zero, hp2, signed_shift] at e3
    rw [← e3, signed_scale _ _ _ 1074]
    congr 1
end Go.Fp
