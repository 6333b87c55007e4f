/- A number made whole: its floor and what is left over, against the even one of two. -/
import Derived.Test.YtfhpnkmpjijebaaDoorZB
namespace Go.Fp
open Ieee

theorem compare_scale (a b c : Int) (hc : 0 < c) : compare (a * c) (b * c) = compare a b := by
  show compareOfLessAndEq _ _ = compareOfLessAndEq _ _
  unfold compareOfLessAndEq
  have h1 : a * c < b * c ↔ a < b := Int.mul_lt_mul_right hc
  have h2 : a * c = b * c ↔ a = b := ⟨Int.eq_of_mul_eq_mul_right (by omega), fun h => by rw [h]⟩
  simp only [h1, h2]
theorem compare_gt (a b : Int) : compare a b = .gt ↔ b < a := by
  show compareOfLessAndEq _ _ = _ ↔ _
  unfold compareOfLessAndEq
  by_cases h : a < b
  · simp [h]; omega
  · by_cases h2 : a = b
    · simp [h2]
    · simp [h, h2]; omega
theorem compare_eq (a b : Int) : compare a b = .eq ↔ a = b := by
  show compareOfLessAndEq _ _ = _ ↔ _
  unfold compareOfLessAndEq
  by_cases h : a < b
  · simp [h]; omega
  · by_cases h2 : a = b
    · simp [h2]
    · simp [h, h2]
theorem compare_lt (a b : Int) : compare a b = .lt ↔ a < b := by
  show compareOfLessAndEq _ _ = _ ↔ _
  unfold compareOfLessAndEq
  by_cases h : a < b
  · simp [h]
  · by_cases h2 : a = b
    · simp [h2]
    · simp [h, h2]

def sg (s : Bool) : Int := if s then -1 else 1
theorem signed_eq (s : Bool) (m k : Nat) : signed s m k = sg s * (m : Int) * ((2 ^ k : Nat) : Int) := by
  unfold signed sg
  rw [Nat.shiftLeft_eq]
  cases s <;> simp [Int.neg_mul, Int.natCast_mul]
theorem signed_scale (s : Bool) (m a b : Nat) : signed s m a * ((2 ^ b : Nat) : Int) = signed s m (a + b) := by
  rw [signed_eq, signed_eq, Nat.pow_add, Int.natCast_mul, Int.mul_assoc]
theorem signed_shift (s : Bool) (m a b : Nat) : signed s (m <<< a) b = signed s m (a + b) := by
  rw [signed_eq, signed_eq, Nat.shiftLeft_eq, Nat.pow_add, Int.natCast_mul, Int.natCast_mul]
  ac_rfl

theorem order_sv {x y : Nat} {s t : Bool} {m n : Nat} {i j : Int} (hx : D.read x = .number s m i) (hy : D.read y = .number t n j) (hi : -1074 ≤ i) (hj : -1074 ≤ j) :
    D.order x y = some (compare (signed s m (i + 1074).toNat) (signed t n (j + 1074).toNat)) := by
  unfold Format.order
  rw [hx, hy]
  show some (compare (signed s m (i - min i j).toNat) (signed t n (j - min i j).toNat)) = _
  have hp : (0 : Int) < ((2 ^ (min i j + 1074).toNat : Nat) : Int) := by
    have := Nat.two_pow_pos (min i j + 1074).toNat
    omega
  rw [← compare_scale _ _ _ hp, signed_scale, signed_scale]
  have e1 : (i - min i j).toNat + (min i j + 1074).toNat = (i + 1074).toNat := by omega
  have e2 : (j - min i j).toNat + (min i j + 1074).toNat = (j + 1074).toNat := by omega
  rw [e1, e2]

theorem read_word2 (s : Bool) {r : Nat} (h : r < 2047 * 2 ^ 52) : D.read (D.word s r) = if r < 2 ^ 52 then .number s r (-1074) else .number s (2 ^ 52 + r % 2 ^ 52) (-1074 + (r / 2 ^ 52 - 1 : Nat)) := by
  have hs : (D.word s r / 2 ^ 63 % 2 == 1) = s := by
    unfold Format.word
    rw [D_sign]
    cases s
    · simp only [Bool.false_eq_true, if_false]
      have : r / 2 ^ 63 = 0 := Nat.div_eq_of_lt (by omega)
      rw [this]; rfl
    · simp only [if_true]
      have : (2 ^ 63 + r) / 2 ^ 63 = 1 := by omega
      rw [this]; rfl
  unfold Format.read
  simp only [D_sign, D_inf, D_bin, D_least]
  rw [word_mod s (by omega), hs]
  by_cases h1 : r < 2 ^ 52
  · rw [if_pos h1, if_pos h1]
  · rw [if_neg h1, if_neg h1, if_pos h]

/-- what a word of a place and of kept digits stands for -/
theorem read_kept (s : Bool) (L kept : Nat) (hk : kept ≤ 2 ^ 53) (hc : L = 0 ∨ 2 ^ 52 ≤ kept) (hL : L * 2 ^ 52 + kept < 2047 * 2 ^ 52) :
    ∃ m p, D.read (D.word s (min (L * 2 ^ 52 + kept) D.infRung)) = .number s m p ∧ -1074 ≤ p ∧ m <<< (p + 1074).toNat = kept <<< L := by
  rw [D_inf, Nat.min_eq_left (by omega), read_word2 s hL]
  by_cases h1 : L * 2 ^ 52 + kept < 2 ^ 52
  · rw [if_pos h1]
    have : L = 0 := by omega
    subst this
    exact ⟨_, _, rfl, by omega, by simp⟩
  · rw [if_neg h1]
    have hk2 : 2 ^ 52 ≤ kept := by rcases hc with h | h <;> omega
    by_cases h2 : kept = 2 ^ 53
    · subst h2
      have e1 : (L * 2 ^ 52 + 2 ^ 53) % 2 ^ 52 = 0 := by omega
      have e2 : (L * 2 ^ 52 + 2 ^ 53) / 2 ^ 52 = L + 2 := by omega
      rw [e1, e2]
      refine ⟨_, _, rfl, by omega, ?_⟩
      have e3 : (-1074 + ((L + 2 - 1 : Nat) : Int) + 1074).toNat = L + 1 := by omega
      rw [e3, Nat.shiftLeft_eq, Nat.shiftLeft_eq, Nat.pow_succ (m := L), show (2 : Nat) ^ 53 = 2 ^ 52 * 2 by decide]
      ac_rfl
    · have e1 : 2 ^ 52 + (L * 2 ^ 52 + kept) % 2 ^ 52 = kept := by omega
      have e2 : (L * 2 ^ 52 + kept) / 2 ^ 52 = L + 1 := by omega
      rw [e1, e2]
      refine ⟨_, _, rfl, by omega, ?_⟩
      have e3 : (-1074 + ((L + 1 - 1 : Nat) : Int) + 1074).toNat = L := by omega
      rw [e3]

theorem gap_big {n k : Nat} (h : ¬ k ≤ n.log2 + 2) : 2 * n < 2 ^ k := by
  have h1 := lt_log2 n
  have h2 : 2 ^ (n.log2 + 1 + 1) ≤ 2 ^ k := Nat.pow_le_pow_right (by decide) (by omega)
  rw [Nat.pow_succ] at h2
  omega
theorem cut_even (s : Bool) (n k : Nat) : Toward.even.cut s n k = n / 2 ^ k + (if 2 ^ k < 2 * (n % 2 ^ k) ∨ 2 ^ k = 2 * (n % 2 ^ k) ∧ n / 2 ^ k % 2 = 1 then 1 else 0) := by
  unfold Toward.cut
  by_cases hd : k ≤ n.log2 + 2
  · rw [Nat.min_eq_left hd]
    have hg : (1 <<< k : Nat) = 2 ^ k := by rw [Nat.shiftLeft_eq, Nat.one_mul]
    simp only [hg]
    congr 1
    by_cases h1 : 2 ^ k < 2 * (n % 2 ^ k)
    · simp [h1]
    · by_cases h2 : 2 ^ k = 2 * (n % 2 ^ k)
      · by_cases h3 : n / 2 ^ k % 2 = 1
        · simp [← h2, h3]
        · simp [← h2, h3]
      · simp [h1, h2]
  · have hd' : min k (n.log2 + 2) = n.log2 + 2 := Nat.min_eq_right (by omega)
    rw [hd']
    have hg : (1 <<< (n.log2 + 2) : Nat) = 2 ^ (n.log2 + 2) := by rw [Nat.shiftLeft_eq, Nat.one_mul]
    simp only [hg]
    have hn := lt_log2 n
    have h4 : 2 ^ (n.log2 + 2) = 2 * 2 ^ (n.log2 + 1) := by rw [Nat.pow_succ, Nat.mul_comm]
    have h1 : n / 2 ^ (n.log2 + 2) = 0 := Nat.div_eq_of_lt (by omega)
    have h2 : n % 2 ^ (n.log2 + 2) = n := Nat.mod_eq_of_lt (by omega)
    have hb := gap_big hd
    have h6 : n / 2 ^ k = 0 := Nat.div_eq_of_lt (by omega)
    have h7 : n % 2 ^ k = n := Nat.mod_eq_of_lt (by omega)
    rw [h1, h2, h6, h7]
    have h3 : ¬ (2 ^ (n.log2 + 2) < 2 * n) := by omega
    have h8 : ¬ (2 ^ k < 2 * n) := by omega
    simp [h3, h8]
theorem cut_down (s : Bool) (n k : Nat) : Toward.down.cut s n k = n / 2 ^ k + (if s = true ∧ n % 2 ^ k ≠ 0 then 1 else 0) := by
  unfold Toward.cut
  by_cases hd : k ≤ n.log2 + 2
  · rw [Nat.min_eq_left hd]
    have hg : (1 <<< k : Nat) = 2 ^ k := by rw [Nat.shiftLeft_eq, Nat.one_mul]
    simp only [hg]
    congr 1
    cases s
    · simp
    · by_cases h : n % 2 ^ k = 0
      · simp [h]
      · simp [h]
  · have hd' : min k (n.log2 + 2) = n.log2 + 2 := Nat.min_eq_right (by omega)
    rw [hd']
    have hg : (1 <<< (n.log2 + 2) : Nat) = 2 ^ (n.log2 + 2) := by rw [Nat.shiftLeft_eq, Nat.one_mul]
    simp only [hg]
    have hn := lt_log2 n
    have h4 : 2 ^ (n.log2 + 2) = 2 * 2 ^ (n.log2 + 1) := by rw [Nat.pow_succ, Nat.mul_comm]
    have h1 : n / 2 ^ (n.log2 + 2) = 0 := Nat.div_eq_of_lt (by omega)
    have h2 : n % 2 ^ (n.log2 + 2) = n := Nat.mod_eq_of_lt (by omega)
    have hb := gap_big hd
    have h6 : n / 2 ^ k = 0 := Nat.div_eq_of_lt (by omega)
    have h7 : n % 2 ^ k = n := Nat.mod_eq_of_lt (by omega)
    rw [h1, h2, h6, h7]
    congr 1
    cases s
    · simp
    · by_cases h : n = 0
      · simp [h]
      · simp [h]
theorem cut_none (s : Bool) (n c d : Nat) (hd : d ≤ c) : Toward.even.cut s (n <<< c) d = n <<< (c - d) := by
  rw [cut_even]
  have h : n <<< c = n <<< (c - d) * 2 ^ d := by
    rw [Nat.shiftLeft_eq, Nat.shiftLeft_eq, Nat.mul_assoc, ← Nat.pow_add]
    congr 2; omega
  have hp := Nat.two_pow_pos d
  rw [h, Nat.mul_mod_left, Nat.mul_div_cancel _ hp]
  rw [if_neg (by omega)]
  rfl

/-- a number that the format has, however it is told -/
theorem read_exact (s : Bool) (M c : Nat) (base : Int) (hM : M < 2 ^ 53) (hb : -1074 ≤ base) (hp : base + c ≤ 971) :
    ∃ m p, D.read (D.nearest s (M <<< c) base) = .number s m p ∧ -1074 ≤ p ∧ m <<< (p + 1074).toNat = M <<< (base + c + 1074).toNat := by
  unfold Format.nearest
  by_cases hz : M = 0
  · subst hz
    rw [Nat.zero_shiftLeft, if_pos rfl, read_word2 s (by omega), if_pos (by omega)]
    exact ⟨_, _, rfl, by omega, by simp⟩
  · have hne : M <<< c ≠ 0 := by rw [Nat.shiftLeft_eq]; exact Nat.mul_ne_zero hz (by have := Nat.two_pow_pos c; omega)
    rw [if_neg hne]
    have hl := log2_shift_le M c hz
    have hl52 : M.log2 ≤ 52 := log2_of hz hM
    simp only [D_least, D_frac, D_bin, hl]
    generalize hlast : max (base + ((M.log2 + c : Nat) : Int) - 52) (-1074) = last
    have h1 : last ≤ base + c := by omega
    have h2 : -1074 ≤ last := by omega
    have h3 : last = -1074 ∨ last = base + M.log2 + c - 52 := by omega
    have hk : Toward.even.cut s ((M <<< c) <<< (base - last).toNat) (last - base).toNat = M <<< (base + c - last).toNat := by
      rw [← Nat.shiftLeft_add, cut_none s M _ _ (by omega)]
      congr 1; omega
    rw [hk]
    have hkl : (M <<< (base + c - last).toNat).log2 = M.log2 + (base + c - last).toNat := log2_shift_le _ _ hz
    have hkne : M <<< (base + c - last).toNat ≠ 0 := by rw [Nat.shiftLeft_eq]; exact Nat.mul_ne_zero hz (by have := Nat.two_pow_pos (base + c - last).toNat; omega)
    have hlt : M <<< (base + c - last).toNat < 2 ^ 53 := by
      have := lt_log2 (M <<< (base + c - last).toNat)
      rw [hkl] at this
      exact Nat.lt_of_lt_of_le this (Nat.pow_le_pow_right (by decide) (by omega))
    have hcan : (last - -1074).toNat = 0 ∨ 2 ^ 52 ≤ M <<< (base + c - last).toNat := by
      rcases h3 with h3 | h3
      · left; omega
      · right
        rw [← Nat.le_log2 hkne, hkl]; omega
    generalize hkept : M <<< (base + c - last).toNat = kept at *
    obtain ⟨m, p, hr, hp1, hp2⟩ := read_kept s (last - -1074).toNat kept (by omega) hcan (by omega)
    refine ⟨m, p, hr, hp1, ?_⟩
    rw [hp2, ← hkept, ← Nat.shiftLeft_add]
    congr 1; omega

theorem read_fields {x : Nat} {s : Bool} {m : Nat} {i : Int} (h : D.read x = .number s m i) : m < 2 ^ 53 ∧ -1074 ≤ i ∧ i ≤ 971 := by
  unfold Format.read at h
  simp only [D_sign, D_inf, D_bin, D_least] at h
  split at h
  · cases h; omega
  · split at h
    · cases h; omega
    · split at h <;> cases h

/-- a word that stands for a whole number -/
def IsI (x : Nat) (V : Int) : Prop := ∃ s m i, D.read x = .number s m i ∧ -1074 ≤ i ∧ signed s m (i + 1074).toNat = V * ((2 ^ 1074 : Nat) : Int)
theorem natpow_pos (k : Nat) : (0 : Int) < ((2 ^ k : Nat) : Int) := Int.natCast_pos.2 (Nat.two_pow_pos k)
theorem pow1074 : (0 : Int) < ((2 ^ 1074 : Nat) : Int) := natpow_pos 1074
theorem IsI.order {x y : Nat} {V W : Int} (hx : IsI x V) (hy : IsI y W) : D.order x y = some (compare V W) := by
  obtain ⟨s, m, i, h1, h2, h3⟩ := hx
  obtain ⟨t, n, j, k1, k2, k3⟩ := hy
  rw [order_sv h1 k1 h2 k2, h3, k3, compare_scale _ _ _ pow1074]
theorem IsI.fin {x : Nat} {V : Int} (hx : IsI x V) : isNan x = false := by
  obtain ⟨s, m, i, h1, _⟩ := hx
  unfold isNan; rw [h1]; rfl

theorem cut_zero (s : Bool) (n k : Nat) : Toward.zero.cut s n k = n / 2 ^ k := by
  unfold Toward.cut
  by_cases hd : k ≤ n.log2 + 2
  · rw [Nat.min_eq_left hd]
    have hg : (1 <<< k : Nat) = 2 ^ k := by rw [Nat.shiftLeft_eq, Nat.one_mul]
    simp [hg]
  · have hd' : min k (n.log2 + 2) = n.log2 + 2 := Nat.min_eq_right (by omega)
    rw [hd']
    have hg : (1 <<< (n.log2 + 2) : Nat) = 2 ^ (n.log2 + 2) := by rw [Nat.shiftLeft_eq, Nat.one_mul]
    have hn := lt_log2 n
    have h4 : 2 ^ (n.log2 + 2) = 2 * 2 ^ (n.log2 + 1) := by rw [Nat.pow_succ, Nat.mul_comm]
    have h1 : n / 2 ^ (n.log2 + 2) = 0 := Nat.div_eq_of_lt (by omega)
    have hb := gap_big hd
    have h6 : n / 2 ^ k = 0 := Nat.div_eq_of_lt (by omega)
    simp [hg, h1, h6]
theorem signed0 (s : Bool) (m : Nat) : signed s m 0 = sg s * m := by
  rw [signed_eq]; simp
theorem IsI.toInt {x : Nat} {V : Int} (hx : IsI x V) : (D.read x).toInt .zero = some V := by
  obtain ⟨s, m, i, h1, h2, h3⟩ := hx
  rw [h1]
  show some (signed s (Toward.zero.cut s (m <<< i.toNat) (-i).toNat) 0) = _
  congr 1
  rw [cut_zero, signed0]
  by_cases hi : 0 ≤ i
  · have e : (-i).toNat = 0 := by omega
    rw [e, Nat.pow_zero, Nat.div_one]
    refine Int.eq_of_mul_eq_mul_right (Int.ne_of_gt pow1074) ?_
    rw [← h3, ← signed0, signed_scale _ _ _ 1074, signed_shift]
    congr 1; omega
  · have e : i.toNat = 0 := by omega
    rw [e, Nat.shiftLeft_zero]
    -- m is V times 2 ^ -i
    have hk : (i + 1074).toNat + (-i).toNat = 1074 := by omega
    have hm : (sg s) * m = V * ((2 ^ (-i).toNat : Nat) : Int) := by
      rw [signed_eq, ← hk, Nat.pow_add, Int.natCast_mul] at h3
      have hp : (0 : Int) < ((2 ^ (i + 1074).toNat : Nat) : Int) := by have := Nat.two_pow_pos (i + 1074).toNat; omega
      refine Int.eq_of_mul_eq_mul_right (Int.ne_of_gt hp) ?_
      rw [h3]; ac_rfl
    have hp := Nat.two_pow_pos (-i).toNat
    generalize 2 ^ (-i).toNat = K at *
    have hm2 : m = V.natAbs * K := by
      have := congrArg Int.natAbs hm
      rw [Int.natAbs_mul, Int.natAbs_mul, Int.natAbs_natCast, Int.natAbs_natCast] at this
      rw [← this]; unfold sg; cases s <;> simp
    rw [hm2, Nat.mul_div_cancel _ hp]
    rw [hm2, Int.natCast_mul, ← Int.mul_assoc] at hm
    exact Int.eq_of_mul_eq_mul_right (by omega) hm

theorem way_cut {way : Toward} (hw : way = .even ∨ way = .down) (s : Bool) (n k : Nat) : ∃ b, b ≤ 1 ∧ way.cut s n k = n / 2 ^ k + b ∧ (n % 2 ^ k = 0 → b = 0) := by
  rcases hw with rfl | rfl
  · rw [cut_even]
    refine ⟨_, ?_, rfl, ?_⟩
    · split <;> omega
    · intro h
      have := Nat.two_pow_pos k
      rw [if_neg (by omega)]
  · rw [cut_down]
    refine ⟨_, ?_, rfl, ?_⟩
    · split <;> omega
    · intro h
      rw [if_neg (fun ⟨_, h2⟩ => h2 h)]
/-- what a number is, made whole -/
theorem isI_int {way : Toward} (hw : way = .even ∨ way = .down) {x : Nat} {s : Bool} {m : Nat} {i : Int} (h : D.read x = .number s m i) :
    IsI (D.write ((D.read x).integral way)) (signed s (way.cut s (m <<< i.toNat) (-i).toNat) 0) := by
  obtain ⟨hm, hi1, hi2⟩ := read_fields h
  rw [h]
  show IsI (D.nearest s (way.cut s (m <<< i.toNat) (-i).toNat) 0) _
  obtain ⟨b, hb1, hb2, hb3⟩ := way_cut hw s (m <<< i.toNat) (-i).toNat
  by_cases hi : 0 ≤ i
  · have e : (-i).toNat = 0 := by omega
    have e2 : way.cut s (m <<< i.toNat) (-i).toNat = m <<< i.toNat := by
      rw [hb2, hb3 (by rw [e, Nat.pow_zero, Nat.mod_one]), e, Nat.pow_zero, Nat.div_one, Nat.add_zero]
    rw [e2]
    obtain ⟨m', p, hr, hp1, hp2⟩ := read_exact s m i.toNat 0 hm (by omega) (by omega)
    refine ⟨s, m', p, hr, hp1, ?_⟩
    rw [signed_scale _ _ _ 1074, signed_shift, ← Nat.zero_add ((p + 1074).toNat), ← signed_shift]
    have e3 := signed_shift s m' (p + 1074).toNat 0
    rw [Nat.add_zero, hp2] at e3
    rw [Nat.zero_add]
    show signed s (m' <<< 0) _ = _
    rw [Nat.shiftLeft_zero, ← e3, signed_shift]
    congr 1; omega
  · have e : i.toNat = 0 := by omega
    rw [e, Nat.shiftLeft_zero] at hb2 hb3 ⊢
    generalize hC : way.cut s m (-i).toNat = C at *
    have hk : (-i).toNat ≠ 0 := by omega
    have hle : m / 2 ^ (-i).toNat ≤ m / 2 := Nat.div_le_div_left (by
      have := Nat.pow_le_pow_right (n := 2) (by decide) (show 1 ≤ (-i).toNat by omega)
      omega) (by decide)
    obtain ⟨m', p, hr, hp1, hp2⟩ := read_exact s C 0 0 (by omega) (by omega) (by omega)
    rw [Nat.shiftLeft_zero] at hr
    refine ⟨s, m', p, hr, hp1, ?_⟩
    have e3 := signed_shift s m' (p + 1074).toNat 0
    rw [Nat.add_zero, hp2, signed_shift] at e3
    rw [← e3, signed_scale _ _ _ 1074]
    congr 1
end Go.Fp

/- Numbers as what they stand for: rationals; how far a rounded number is off. -/
namespace Go.Fp
open Ieee

/-- a power of two -/
def pw (j : Int) : Rat := (2 : Rat) ^ j
theorem pw_add (i j : Int) : pw (i + j) = pw i * pw j := Rat.zpow_add (by decide) i j
theorem pw_nat (k : Nat) : pw (k : Int) = ((2 ^ k : Nat) : Rat) := by
  unfold pw
  rw [Rat.zpow_natCast]
  exact (Rat.natCast_pow 2 k).symm
theorem pw_pos (j : Int) : 0 < pw j := Rat.zpow_pos (by decide)
theorem pw_one : pw 1 = 2 := by unfold pw; rfl
theorem pw_zero : pw 0 = 1 := by unfold pw; rfl
theorem pw_neg1 : pw (-1) = 1 / 2 := by
  have h := pw_add (-1) 1
  rw [show (-1 + 1 : Int) = 0 by decide, pw_zero, pw_one] at h
  grind
theorem pw_mono {i j : Int} (h : i ≤ j) : pw i ≤ pw j := by
  obtain ⟨k, rfl⟩ : ∃ k : Nat, j = i + k := ⟨(j - i).toNat, by omega⟩
  rw [pw_add, pw_nat]
  have h1 : (1 : Rat) ≤ ((2 ^ k : Nat) : Rat) := by
    have := Nat.two_pow_pos k
    exact_mod_cast this
  have h2 := Rat.mul_le_mul_of_nonneg_left h1 (Rat.le_of_lt (pw_pos i))
  grind
/-- half the least number; half the last place of one -/
def eta : Rat := pw (-1075)
theorem eta_pos : 0 < eta := pw_pos _
def uu : Rat := pw (-53)
theorem uu_eq : uu = 1 / 9007199254740992 := by
  have h := pw_add (-53) 53
  rw [show (-53 + 53 : Int) = 0 by decide, pw_zero] at h
  have h2 : pw 53 = 9007199254740992 := by
    have := pw_nat 53
    exact this
  unfold uu
  rw [h2] at h
  grind

/-- what a sign, digits and a place stand for -/
def vd (s : Bool) (m : Nat) (j : Int) : Rat := ((sg s : Int) : Rat) * (m : Rat) * pw j
def Wn (x e : Rat) : Prop := -e ≤ x ∧ x ≤ e

theorem half_of (n k : Nat) : Wn (((n / 2 ^ k + (if 2 ^ k < 2 * (n % 2 ^ k) ∨ 2 ^ k = 2 * (n % 2 ^ k) ∧ n / 2 ^ k % 2 = 1 then 1 else 0) : Nat) : Rat) * pw k - (n : Rat)) (pw k / 2) := by
  rw [pw_nat]
  have h := Nat.div_add_mod n (2 ^ k)
  have hp := Nat.two_pow_pos k
  have hm := Nat.mod_lt n hp
  generalize 2 ^ k = P at *
  generalize n / P = q at *
  generalize n % P = r at *
  subst h
  have hr : (0 : Rat) ≤ (r : Rat) := by exact_mod_cast Nat.zero_le r
  split
  · rename_i hc
    have h1 : P ≤ 2 * r := by rcases hc with h | ⟨h, _⟩ <;> omega
    have h1' : (P : Rat) ≤ 2 * (r : Rat) := by exact_mod_cast h1
    have h2' : (r : Rat) ≤ (P : Rat) := by exact_mod_cast Nat.le_of_lt hm
    constructor
    · push_cast; grind
    · push_cast; grind
  · rename_i hc
    have h1 : 2 * r ≤ P := by omega
    have h1' : 2 * (r : Rat) ≤ (P : Rat) := by exact_mod_cast h1
    constructor
    · push_cast; grind
    · push_cast; grind
theorem cut_ge' (s : Bool) (n drop j : Nat) (h : 2 ^ (j + drop) ≤ n) : 2 ^ j ≤ Toward.even.cut s n drop := by
  rw [cut_even]
  have h1 : 2 ^ j ≤ n / 2 ^ drop := by
    rw [Nat.le_div_iff_mul_le (Nat.two_pow_pos _), ← Nat.pow_add]; exact h
  omega
theorem vd_shift (s : Bool) {m n : Nat} {i j : Int} (hi : -1074 ≤ i) (hj : -1074 ≤ j) (h : m <<< (i + 1074).toNat = n <<< (j + 1074).toNat) : vd s m i = vd s n j := by
  unfold vd
  rw [Nat.shiftLeft_eq, Nat.shiftLeft_eq] at h
  have e : ∀ (k : Int), -1074 ≤ k → pw k = ((2 ^ (k + 1074).toNat : Nat) : Rat) * pw (-1074) := by
    intro k hk
    rw [← pw_nat, ← pw_add]
    congr 1; omega
  rw [e i hi, e j hj]
  clear e
  generalize 2 ^ (i + 1074).toNat = P at *
  generalize 2 ^ (j + 1074).toNat = Q at *
  have h2 : (m : Rat) * (P : Rat) = (n : Rat) * (Q : Rat) := by exact_mod_cast h
  grind
theorem vd_false (m : Nat) (j : Int) : vd false m j = (m : Rat) * pw j := by
  unfold vd sg
  simp
theorem vd_sign (s : Bool) (m : Nat) (j : Int) : vd s m j = if s then - vd false m j else vd false m j := by
  unfold vd sg
  cases s
  · simp
  · have h : (((if true = true then -1 else 1 : Int)) : Rat) = -1 := rfl
    have h' : (((if false = true then -1 else 1 : Int)) : Rat) = 1 := rfl
    rw [h, h', if_pos rfl]
    grind
/-- a rounded number: how far it is off -/
theorem near_err (s : Bool) (M : Nat) (base : Int) (hb : M = 0 ∨ base + (M.log2 : Int) ≤ 1022) :
    ∃ m p, D.read (D.nearest s M base) = .number s m p ∧ -1074 ≤ p ∧ Wn (vd false m p - vd false M base) (uu * vd false M base + eta) := by
  by_cases hM : M = 0
  · subst hM
    unfold Format.nearest
    rw [if_pos rfl, read_word2 s (by omega), if_pos (by omega)]
    refine ⟨_, _, rfl, by omega, ?_⟩
    have := eta_pos
    unfold vd Wn
    simp
    grind
  · have hb' : base + (M.log2 : Int) ≤ 1022 := by rcases hb with h | h <;> first | exact absurd h hM | exact h
    unfold Format.nearest
    rw [if_neg hM]
    simp only [D_least, D_frac, D_bin]
    generalize hlast : max (base + (M.log2 : Int) - 52) (-1074) = last
    have h2 : -1074 ≤ last := by omega
    have h3 : last = -1074 ∨ last = base + (M.log2 : Int) - 52 := by omega
    have h4 : base + (M.log2 : Int) - 52 ≤ last := by omega
    obtain ⟨a, ha⟩ : ∃ a, a = (base - last).toNat := ⟨_, rfl⟩
    obtain ⟨k, hk⟩ : ∃ k, k = (last - base).toNat := ⟨_, rfl⟩
    have hak : a = 0 ∨ k = 0 := by omega
    have hbl : base + k = last + a := by omega
    rw [← ha, ← hk]
    have hl := log2_shift_le M a hM
    have hlt := lt_log2 (M <<< a)
    have hne : M <<< a ≠ 0 := by rw [Nat.shiftLeft_eq]; exact Nat.mul_ne_zero hM (by have := Nat.two_pow_pos a; omega)
    have hc53 : Toward.even.cut s (M <<< a) k ≤ 2 ^ 53 := cut_le s _ _ _ (Nat.lt_of_lt_of_le hlt (Nat.pow_le_pow_right (by decide) (by rw [hl]; omega)))
    have hc52 : (last - -1074).toNat = 0 ∨ 2 ^ 52 ≤ Toward.even.cut s (M <<< a) k := by
      rcases h3 with h3 | h3
      · left; omega
      · right
        refine cut_ge' s _ _ _ ?_
        rw [← Nat.le_log2 hne, hl]; omega
    have hH := half_of (M <<< a) k
    rw [← cut_even s] at hH
    generalize Toward.even.cut s (M <<< a) k = kept at *
    obtain ⟨m, p, hr, hp1, hp2⟩ := read_kept s (last - -1074).toNat kept hc53 hc52 (by omega)
    refine ⟨m, p, hr, hp1, ?_⟩
    have hv : vd false m p = vd false kept last := by
      refine vd_shift false hp1 h2 ?_
      rw [hp2]
      congr 1
    have hM2 : vd false M base = ((M <<< a : Nat) : Rat) * pw (last - k) := by
      rw [vd_false, Nat.shiftLeft_eq, show base = (a : Int) + (last - k) by omega, pw_add, pw_nat]
      push_cast
      grind
    rw [hv, hM2, vd_false]
    have hlk : pw last = pw k * pw (last - k) := by rw [← pw_add]; congr 1; omega
    rw [hlk]
    have hq := pw_pos (last - k)
    generalize ((M <<< a : Nat) : Rat) = n at *
    -- half a last place
    have hh : pw k / 2 * pw (last - k) ≤ uu * (n * pw (last - k)) + eta := by
      have e1 : pw k / 2 * pw (last - k) = pw (last - 1) := by
        rw [show last - 1 = (-1) + ((k : Int) + (last - k)) by omega, pw_add (-1), pw_add, pw_neg1]
        grind
      rw [e1, ← hM2]
      rcases h3 with h3 | h3
      · have e2 : pw (last - 1) = eta := by unfold eta; congr 1; omega
        rw [e2]
        have : 0 ≤ uu * vd false M base := by
          rw [vd_false]
          exact Rat.mul_nonneg (Rat.le_of_lt (pw_pos _)) (Rat.mul_nonneg (by exact_mod_cast Nat.zero_le M) (Rat.le_of_lt (pw_pos _)))
        grind
      · have e2 : pw (last - 1) ≤ uu * vd false M base := by
          rw [vd_false]
          have hlo : ((2 ^ M.log2 : Nat) : Rat) ≤ (M : Rat) := by exact_mod_cast Nat.log2_self_le hM
          rw [← pw_nat] at hlo
          have := Rat.mul_le_mul_of_nonneg_left hlo (Rat.le_of_lt (Rat.mul_pos (pw_pos (-53)) (pw_pos base)))
          have e3 : pw (last - 1) = pw (-53) * pw base * pw (M.log2 : Int) := by
            rw [← pw_add, ← pw_add]; congr 1; omega
          rw [e3]
          unfold uu
          grind
        have := eta_pos
        grind
    generalize pw (last - k) = z at *
    generalize pw k = y at *
    obtain ⟨g1, g2⟩ := hH
    have m1 := Rat.mul_le_mul_of_nonneg_left g1 (Rat.le_of_lt hq)
    have m2 := Rat.mul_le_mul_of_nonneg_left g2 (Rat.le_of_lt hq)
    constructor <;> grind
end Go.Fp

/- Float operations as what they stand for, and how far each is off. -/
namespace Go.Fp
open Ieee

/-- a word that stands for a number, and for which -/
def Fin (x : Nat) : Prop := ∃ s m j, D.read x = .number s m j
def vl (x : Nat) : Rat := match D.read x with
  | .number s m j => vd s m j
  | _ => 0
theorem vl_of {x : Nat} {s : Bool} {m : Nat} {j : Int} (h : D.read x = .number s m j) : vl x = vd s m j := by unfold vl; rw [h]
theorem Fin.can {x : Nat} (h : Fin x) : can x = x := by
  obtain ⟨s, m, j, h⟩ := h
  exact can_of_not (by unfold isNan; rw [h]; rfl)
theorem vd_bound {M : Nat} {base : Int} (h : vd false M base ≤ pw 1022) : M = 0 ∨ base + (M.log2 : Int) ≤ 1022 := by
  by_cases hM : M = 0
  · exact .inl hM
  · right
    rcases Int.lt_or_le 1022 (base + (M.log2 : Int)) with hgt | hle
    · exfalso
      have h1 : pw 1023 ≤ pw (base + (M.log2 : Int)) := pw_mono (by omega)
      have h2 : ((2 ^ M.log2 : Nat) : Rat) ≤ (M : Rat) := by exact_mod_cast Nat.log2_self_le hM
      rw [← pw_nat] at h2
      have h3 := Rat.mul_le_mul_of_nonneg_left h2 (Rat.le_of_lt (pw_pos base))
      rw [← pw_add] at h3
      rw [vd_false] at h
      have h4 : pw 1023 = pw 1022 * 2 := by rw [show (1023 : Int) = 1022 + 1 by decide, pw_add, pw_one]
      have h5 := pw_pos 1022
      generalize pw 1022 = z at *
      grind
    · exact hle
theorem vd_nonneg (M : Nat) (j : Int) : 0 ≤ vd false M j := by
  rw [vd_false]
  exact Rat.mul_nonneg (by exact_mod_cast Nat.zero_le M) (Rat.le_of_lt (pw_pos _))
/-- a rounded number -/
theorem rnd (s : Bool) (M : Nat) (base : Int) (B : Rat) (h1 : vd false M base ≤ B) (h2 : B ≤ pw 1022) : Fin (D.nearest s M base) ∧ Wn (vl (D.nearest s M base) - vd s M base) (uu * B + eta) := by
  obtain ⟨m, p, hr, hp, hw⟩ := near_err s M base (vd_bound (Rat.le_trans h1 h2))
  refine ⟨⟨_, _, _, hr⟩, ?_⟩
  rw [vl_of hr, vd_sign s m, vd_sign s M]
  have hu : uu * vd false M base ≤ uu * B := Rat.mul_le_mul_of_nonneg_left h1 (Rat.le_of_lt (pw_pos _))
  obtain ⟨a, b⟩ := hw
  cases s
  · simp only [Bool.false_eq_true, if_false]
    constructor <;> grind
  · simp only [if_true]
    constructor <;> grind

theorem signed_vd (s : Bool) (m : Nat) (i base : Int) (h : base ≤ i) : ((signed s m (i - base).toNat : Int) : Rat) * pw base = vd s m i := by
  rw [signed_eq]
  unfold vd
  have e : pw i = pw ((i - base).toNat : Int) * pw base := by rw [← pw_add]; congr 1; omega
  rw [e, pw_nat]
  push_cast
  grind
theorem vd_total (t : Int) (z : Bool) (base : Int) : vd (if t = 0 then z else t < 0) t.natAbs base = (t : Rat) * pw base := by
  unfold vd sg
  by_cases h0 : t = 0
  · subst h0
    simp
  · by_cases h1 : t < 0
    · simp only [if_neg h0, h1, decide_true, if_true]
      have : (t.natAbs : Int) = -t := by omega
      have h2 : ((t.natAbs : Nat) : Rat) = -(t : Rat) := by exact_mod_cast congrArg (fun z : Int => (z : Rat)) this
      rw [h2]
      push_cast
      grind
    · simp only [if_neg h0, h1, decide_false, Bool.false_eq_true, if_false]
      have : (t.natAbs : Int) = t := by omega
      have h2 : ((t.natAbs : Nat) : Rat) = (t : Rat) := by exact_mod_cast congrArg (fun z : Int => (z : Rat)) this
      rw [h2]
      push_cast
      grind
theorem abs_vd (s : Bool) (M : Nat) (base : Int) (B : Rat) (h : Wn (vd s M base) B) : vd false M base ≤ B := by
  rw [vd_sign] at h
  obtain ⟨a, b⟩ := h
  cases s
  · simp only [Bool.false_eq_true, if_false] at *; exact b
  · simp only [if_true] at *; grind
/-- a sum of data -/
theorem sum_err {d1 d2 : Datum} {s t : Bool} {m n : Nat} {i j : Int} (h1 : d1 = .number s m i) (h2 : d2 = .number t n j) (B : Rat) (hB : Wn (vd s m i + vd t n j) B) (hB2 : B ≤ pw 1022) :
    ∃ r, (d1.sum d2).map D.write = some r ∧ Fin r ∧ Wn (vl r - (vd s m i + vd t n j)) (uu * B + eta) := by
  subst h1 h2
  refine ⟨_, rfl, ?_⟩
  have e1 := signed_vd s m i (min i j) (by omega)
  have e2 := signed_vd t n j (min i j) (by omega)
  have ht := vd_total (signed s m (i - min i j).toNat + signed t n (j - min i j).toNat) (s && t) (min i j)
  have hs : vd s m i + vd t n j = ((signed s m (i - min i j).toNat + signed t n (j - min i j).toNat : Int) : Rat) * pw (min i j) := by
    rw [← e1, ← e2]
    push_cast
    grind
  rw [hs, ← ht] at hB
  rw [hs, ← ht]
  exact rnd _ _ _ B (abs_vd _ _ _ B hB) hB2
theorem fadd_err {x y : Nat} (hx : Fin x) (hy : Fin y) (B : Rat) (hB : Wn (vl x + vl y) B) (hB2 : B ≤ pw 1022) : Fin (fadd x y) ∧ Wn (vl (fadd x y) - (vl x + vl y)) (uu * B + eta) := by
  obtain ⟨s, m, i, hx⟩ := hx
  obtain ⟨t, n, j, hy⟩ := hy
  rw [vl_of hx, vl_of hy] at *
  obtain ⟨r, hr, h1, h2⟩ := sum_err hx hy B hB hB2
  have e : fadd x y = r := by
    unfold fadd Format.add
    rw [hr]; rfl
  rw [e]
  exact ⟨h1, h2⟩
theorem vd_not (s : Bool) (m : Nat) (j : Int) : vd (!s) m j = - vd s m j := by
  rw [vd_sign, vd_sign s]
  cases s <;> simp
theorem fsub_err {x y : Nat} (hx : Fin x) (hy : Fin y) (B : Rat) (hB : Wn (vl x - vl y) B) (hB2 : B ≤ pw 1022) : Fin (fsub x y) ∧ Wn (vl (fsub x y) - (vl x - vl y)) (uu * B + eta) := by
  obtain ⟨s, m, i, hx⟩ := hx
  obtain ⟨t, n, j, hy⟩ := hy
  rw [vl_of hx, vl_of hy] at *
  have ho : (D.read y).opposite = .number (!t) n j := by rw [hy]; rfl
  obtain ⟨r, hr, h1, h2⟩ := sum_err hx ho B (by rw [vd_not]; exact (show vd s m i - vd t n j = vd s m i + -vd t n j by grind) ▸ hB) hB2
  have e : fsub x y = r := by
    unfold fsub Format.sub
    rw [hr]; rfl
  rw [e]
  refine ⟨h1, ?_⟩
  rw [vd_not] at h2
  exact (show vl r - (vd s m i + -vd t n j) = vl r - (vd s m i - vd t n j) by grind) ▸ h2
theorem vd_mul (s t : Bool) (m n : Nat) (i j : Int) : vd (s ^^ t) (m * n) (i + j) = vd s m i * vd t n j := by
  have h : vd false (m * n) (i + j) = vd false m i * vd false n j := by
    rw [vd_false, vd_false, vd_false, pw_add]
    push_cast
    grind
  rw [vd_sign, h, vd_sign s, vd_sign t]
  cases s <;> cases t <;> simp <;> grind
theorem fmul_err {x y : Nat} (hx : Fin x) (hy : Fin y) (B : Rat) (hB : Wn (vl x * vl y) B) (hB2 : B ≤ pw 1022) : Fin (fmul x y) ∧ Wn (vl (fmul x y) - vl x * vl y) (uu * B + eta) := by
  obtain ⟨s, m, i, hx⟩ := hx
  obtain ⟨t, n, j, hy⟩ := hy
  rw [vl_of hx, vl_of hy] at *
  have e : fmul x y = D.nearest (s ^^ t) (m * n) (i + j) := by
    unfold fmul Format.mul
    rw [hx, hy]; rfl
  rw [e, ← vd_mul]
  rw [← vd_mul] at hB
  exact rnd _ _ _ B (abs_vd _ _ _ B hB) hB2
end Go.Fp

/- The even one of two whole numbers, by what is left over the floor. -/
namespace Go.Fp
open Ieee

abbrev half : Nat := 4602678819172646912
abbrev c9 : Nat := 4890691058569617664
abbrev m9 : Nat := 14114063095424393472
end Go.Fp

/- Numbers times a power of two, exactly: halving, doubling. -/
namespace Go.Fp
open Ieee

/-- a number is written alike however it is told -/
theorem nearest_shift (s : Bool) (M c : Nat) (base : Int) (hM : M ≠ 0) : D.nearest s (M <<< c) base = D.nearest s M (base + c) := by
  have hne : M <<< c ≠ 0 := by rw [Nat.shiftLeft_eq]; exact Nat.mul_ne_zero hM (by have := Nat.two_pow_pos c; omega)
  unfold Format.nearest
  rw [if_neg hne, if_neg hM]
  have hl := log2_shift_le M c hM
  simp only [D_least, D_frac, D_bin, hl]
  have e1 : max (base + ((M.log2 + c : Nat) : Int) - 52) (-1074) = max (base + c + (M.log2 : Int) - 52) (-1074) := by omega
  rw [e1]
  generalize max (base + c + (M.log2 : Int) - 52) (-1074) = last
  have hk : Toward.even.cut s ((M <<< c) <<< (base - last).toNat) (last - base).toNat = Toward.even.cut s (M <<< (base + c - last).toNat) (last - (base + c)).toNat := by
    by_cases h1 : last ≤ base
    · have a1 : (last - base).toNat = 0 := by omega
      have a2 : (last - (base + c)).toNat = 0 := by omega
      rw [a1, a2, ← Nat.shiftLeft_add]
      congr 2; omega
    · by_cases h2 : last ≤ base + c
      · have a1 : (base - last).toNat = 0 := by omega
        have a2 : (last - (base + c)).toNat = 0 := by omega
        rw [a1, a2, Nat.shiftLeft_zero, cut_none s M c _ (by omega)]
        have := cut_none s M (base + c - last).toNat 0 (Nat.zero_le _)
        rw [this]
        congr 1; omega
      · have a1 : (base - last).toNat = 0 := by omega
        have a2 : (base + c - last).toNat = 0 := by omega
        rw [a1, a2, Nat.shiftLeft_zero, Nat.shiftLeft_zero, cut_even, cut_even]
        have a3 : (last - base).toNat = (last - (base + c)).toNat + c := by omega
        rw [a3, Nat.shiftLeft_eq, Nat.pow_add]
        have hp := Nat.two_pow_pos c
        rw [Nat.mul_div_mul_right _ _ hp, Nat.mul_mod_mul_right]
        generalize 2 ^ (last - (base + ↑c)).toNat = P
        generalize M / P = q
        generalize M % P = r
        generalize 2 ^ c = Z at *
        have i1 : (P * Z < 2 * (r * Z)) ↔ (P < 2 * r) := by
          rw [← Nat.mul_assoc]; exact Nat.mul_lt_mul_right hp
        have i2 : (P * Z = 2 * (r * Z)) ↔ (P = 2 * r) := by
          rw [← Nat.mul_assoc]; exact ⟨fun h => Nat.eq_of_mul_eq_mul_right hp h, fun h => by rw [h]⟩
        simp only [i1, i2]
  rw [hk]

abbrev two : Nat := 4611686018427387904
theorem mul_read {x y m n : Nat} {i j : Int} {s t : Bool} (hx : D.read x = .number s m i) (hy : D.read y = .number t n j) : fmul x y = D.nearest (s ^^ t) (m * n) (i + j) := by
  have e : D.mul x y = some (D.nearest (s ^^ t) (m * n) (i + j)) := by
    unfold Format.mul; rw [hx, hy]; rfl
  unfold fmul opt; rw [e]; rfl
theorem div_read {x y m n : Nat} {i j : Int} {s t : Bool} (hx : D.read x = .number s m i) (hy : D.read y = .number t n j) (hn : n ≠ 0) :
    fdiv x y = D.nearest (s ^^ t) (2 * (m <<< (54 + n.log2 - m.log2) / n) + ((m <<< (54 + n.log2 - m.log2)) % n != 0).toNat) (i - j - ((54 + n.log2 - m.log2 : Nat) : Int) - 1) := by
  have e : D.div x y = some (D.nearest (s ^^ t) (2 * (m <<< (54 + n.log2 - m.log2) / n) + ((m <<< (54 + n.log2 - m.log2)) % n != 0).toNat) (i - j - ((54 + n.log2 - m.log2 : Nat) : Int) - 1)) := by
    unfold Format.div; rw [hx, hy]
    unfold Datum.quotient
    simp only [hn, if_false]
    rfl
  unfold fdiv opt; rw [e]; rfl
/-- m times 2 ^ j, where the format has it -/
def W (m : Nat) (j : Int) : Nat := D.nearest false m j
end Go.Fp

/- Quotients and orders of floats as what they stand for. -/
namespace Go.Fp
open Ieee

theorem uu_pos : 0 < uu := pw_pos _
theorem uu_le : uu ≤ 1 := by rw [uu_eq]; grind
theorem cast_pos {n : Nat} (h : n ≠ 0) : (0 : Rat) < (n : Rat) := by exact_mod_cast Nat.pos_of_ne_zero h
/-- the digits of a quotient, with what is left over -/
theorem quot_digits (N n : Nat) (hn : n ≠ 0) : Wn (((2 * (N / n) + (N % n != 0).toNat : Nat) : Rat) * (n : Rat) - 2 * (N : Rat)) (n : Rat) := by
  have h := Nat.div_add_mod N n
  have hm := Nat.mod_lt N (Nat.pos_of_ne_zero hn)
  generalize N / n = q at *
  generalize N % n = r at *
  subst h
  have hr : (0 : Rat) ≤ (r : Rat) := by exact_mod_cast Nat.zero_le r
  have hm' : (r : Rat) ≤ (n : Rat) := by exact_mod_cast Nat.le_of_lt hm
  by_cases h0 : r = 0
  · subst h0
    constructor
    · simp; grind
    · simp; grind
  · have : (r != 0).toNat = 1 := by simp [h0]
    rw [this]
    constructor
    · push_cast; grind
    · push_cast; grind
theorem wn_div {a b c : Rat} (hb : 0 < b) (h : Wn (a * b) (c * b)) : Wn a c := by
  obtain ⟨h1, h2⟩ := h
  constructor
  · exact Rat.le_of_mul_le_mul_right (by grind) hb
  · exact Rat.le_of_mul_le_mul_right h2 hb
theorem fdiv_err {x y : Nat} (hx : Fin x) (hy : Fin y) (hy0 : vl y ≠ 0) (B : Rat) (hB : Wn (vl x / vl y) B) (hB2 : B ≤ pw 1000) : Fin (fdiv x y) ∧ Wn (vl (fdiv x y) - vl x / vl y) (2 * uu * B + eta) := by
  obtain ⟨s, m, i, hx⟩ := hx
  obtain ⟨t, n, j, hy⟩ := hy
  rw [vl_of hx, vl_of hy] at *
  have hn : n ≠ 0 := by
    rintro rfl
    exact hy0 (by unfold vd; simp)
  rw [div_read hx hy hn]
  have hm53 := (read_fields hx).1
  generalize hk : 54 + n.log2 - m.log2 = k
  have hsx : m.log2 ≤ 52 := by
    by_cases h : m = 0
    · subst h; decide
    · exact log2_of h hm53
  -- the quotient's digits
  have hD := quot_digits (m <<< k) n hn
  generalize hQ : 2 * (m <<< k / n) + ((m <<< k) % n != 0).toNat = Q at *
  have hn' := cast_pos hn
  have hQ0 : (0 : Rat) ≤ (Q : Rat) := by exact_mod_cast Nat.zero_le Q
  obtain ⟨e, he⟩ : ∃ e, e = i - j - (k : Int) - 1 := ⟨_, rfl⟩
  have he' : i - j - ((k : Nat) : Int) - 1 = e := he.symm
  rw [he']
  have hpe := pw_pos e
  -- what the quotient is, without its sign
  obtain ⟨E, hE⟩ : ∃ E : Rat, E = 2 * ((m <<< k : Nat) : Rat) / (n : Rat) := ⟨_, rfl⟩
  have hEn : E * (n : Rat) = 2 * ((m <<< k : Nat) : Rat) := by rw [hE]; grind
  have hval : vd false m i = E * pw e * vd false n j := by
    rw [vd_false, vd_false]
    have e1 : pw i = 2 * ((2 ^ k : Nat) : Rat) * pw e * pw j := by
      have e2 : pw i = pw 1 * pw k * pw e * pw j := by
        have hi : i = 1 + (k : Int) + e + j := by omega
        rw [hi, pw_add, pw_add, pw_add]
      rw [e2, pw_one, pw_nat]
    rw [e1]
    have : E * (n : Rat) = 2 * ((m : Rat) * ((2 ^ k : Nat) : Rat)) := by rw [hEn, Nat.shiftLeft_eq]; push_cast; rfl
    grind
  have hnj : 0 < vd false n j := by rw [vd_false]; exact Rat.mul_pos hn' (pw_pos _)
  have hEnn : 0 ≤ E := by
    have : 0 ≤ E * (n : Rat) := by rw [hEn]; have : (0 : Rat) ≤ ((m <<< k : Nat) : Rat) := by exact_mod_cast Nat.zero_le _
                                   grind
    exact Rat.le_of_mul_le_mul_right (by grind) hn'
  have hdiff : Wn ((Q : Rat) - E) (uu / 2 * E) := by
    by_cases hm0 : m = 0
    · subst hm0
      have q0 : Q = 0 := by rw [← hQ]; simp
      have e0 : E = 0 := by rw [hE]; simp; grind
      rw [q0, e0]
      constructor <;> simp <;> grind
    · have hN : 2 ^ 53 * n ≤ m <<< k := by
        have a1 : 2 ^ (m.log2 + k) ≤ m <<< k := by rw [Nat.shiftLeft_eq, Nat.pow_add]; exact Nat.mul_le_mul_right _ (Nat.log2_self_le hm0)
        have a2 := lt_log2 n
        have a3 : m.log2 + k = 53 + (n.log2 + 1) := by omega
        rw [a3, Nat.pow_add] at a1
        exact Nat.le_trans (Nat.mul_le_mul_left _ (Nat.le_of_lt a2)) a1
      have hN' : (9007199254740992 : Rat) * (n : Rat) ≤ ((m <<< k : Nat) : Rat) := by exact_mod_cast hN
      have hE1 : 1 ≤ uu / 2 * E := by
        rw [uu_eq]
        have : (18014398509481984 : Rat) * (n : Rat) ≤ E * (n : Rat) := by rw [hEn]; grind
        have := Rat.le_of_mul_le_mul_right this hn'
        grind
      have : Wn ((Q : Rat) - E) 1 := by
        refine wn_div hn' ?_
        rw [← hEn] at hD
        obtain ⟨d1, d2⟩ := hD
        constructor <;> grind
      obtain ⟨d1, d2⟩ := this
      constructor <;> grind
  have hXY : vd s m i / vd t n j = (if (s ^^ t) then - (E * pw e) else E * pw e) := by
    have hne : vd false n j ≠ 0 := by grind
    rw [vd_sign s, vd_sign t, hval]
    cases s <;> cases t <;> simp <;> grind
  have hEB : E * pw e ≤ B := by
    rw [hXY] at hB
    obtain ⟨b1, b2⟩ := hB
    cases h : (s ^^ t) <;> rw [h] at b1 b2 <;> simp at b1 b2 <;> grind
  have hB0 : 0 ≤ B := Rat.le_trans (Rat.mul_nonneg hEnn (Rat.le_of_lt hpe)) hEB
  obtain ⟨d1, d2⟩ := hdiff
  have m1 := Rat.mul_le_mul_of_nonneg_left d1 (Rat.le_of_lt hpe)
  have m2 := Rat.mul_le_mul_of_nonneg_left d2 (Rat.le_of_lt hpe)
  have hu := uu_pos
  have hu1 := uu_le
  have mu := Rat.mul_le_mul_of_nonneg_left hEB (Rat.le_of_lt hu)
  have mB := Rat.mul_le_mul_of_nonneg_left hu1 hB0
  have hbig : B + uu * B ≤ pw 1022 := by
    have e1 : pw 1001 = pw 1000 * 2 := by rw [show (1001 : Int) = 1000 + 1 by decide, pw_add, pw_one]
    have e2 : pw 1001 ≤ pw 1022 := pw_mono (by decide)
    generalize pw 1000 = z at *
    generalize pw 1001 = z1 at *
    generalize pw 1022 = z2 at *
    grind
  have hv : vd false Q e ≤ B + uu * B := by rw [vd_false]; grind
  obtain ⟨r1, r2⟩ := rnd (s ^^ t) Q e (B + uu * B) hv hbig
  refine ⟨r1, ?_⟩
  rw [hXY]
  rw [vd_sign (s ^^ t) Q e, vd_false] at r2
  generalize vl (D.nearest (s ^^ t) Q e) = R at *
  have mm : uu * (uu * B) ≤ uu * B * (1 / 9007199254740992) := by rw [uu_eq]; grind
  obtain ⟨c1, c2⟩ := r2
  cases hst : (s ^^ t)
  · rw [hst] at c1 c2
    simp only [Bool.false_eq_true, if_false] at *
    constructor <;> grind
  · rw [hst] at c1 c2
    simp only [if_true] at *
    constructor <;> grind
theorem order_vl {x y : Nat} (hx : Fin x) (hy : Fin y) : ∃ a b : Int, D.order x y = some (compare a b) ∧ vl x = (a : Rat) * pw (-1074) ∧ vl y = (b : Rat) * pw (-1074) := by
  obtain ⟨s, m, i, hx⟩ := hx
  obtain ⟨t, n, j, hy⟩ := hy
  have hi := (read_fields hx).2.1
  have hj := (read_fields hy).2.1
  refine ⟨_, _, order_sv hx hy hi hj, ?_, ?_⟩
  · rw [vl_of hx]; exact (signed_vd s m i (-1074) hi).symm
  · rw [vl_of hy]; exact (signed_vd t n j (-1074) hj).symm
theorem mul_lt_iff {a b : Int} {c : Rat} (hc : 0 < c) : (a : Rat) * c < (b : Rat) * c ↔ a < b := by
  rw [Rat.mul_lt_mul_right hc, Rat.intCast_lt_intCast]
theorem mul_eq_iff {a b : Int} {c : Rat} (hc : 0 < c) : (a : Rat) * c = (b : Rat) * c ↔ a = b := by
  constructor
  · intro h
    rcases Int.lt_trichotomy a b with h1 | h1 | h1
    · have := (mul_lt_iff hc).2 h1; grind
    · exact h1
    · have := (mul_lt_iff hc).2 h1; grind
  · rintro rfl; rfl
theorem order_lt {x y : Nat} (hx : Fin x) (hy : Fin y) : D.order x y = some .lt ↔ vl x < vl y := by
  obtain ⟨a, b, h, ha, hb⟩ := order_vl hx hy
  rw [h, ha, hb, mul_lt_iff (pw_pos _), Option.some.injEq, compare_lt]
theorem order_gt {x y : Nat} (hx : Fin x) (hy : Fin y) : D.order x y = some .gt ↔ vl y < vl x := by
  obtain ⟨a, b, h, ha, hb⟩ := order_vl hx hy
  rw [h, ha, hb, mul_lt_iff (pw_pos _), Option.some.injEq, compare_gt]
theorem order_eq {x y : Nat} (hx : Fin x) (hy : Fin y) : D.order x y = some .eq ↔ vl x = vl y := by
  obtain ⟨a, b, h, ha, hb⟩ := order_vl hx hy
  rw [h, ha, hb, mul_eq_iff (pw_pos _), Option.some.injEq, compare_eq]
end Go.Fp
