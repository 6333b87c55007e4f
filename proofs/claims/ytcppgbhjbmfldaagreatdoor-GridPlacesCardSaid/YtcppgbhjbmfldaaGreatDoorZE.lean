/- A number made whole: its floor and what is left over, against the even one of two. -/
import Derived.Test.YtcppgbhjbmfldaaGreatDoorZD
import Derived.Laws.FloatArith
import Derived.IntWalk
import Derived.WalkLawsBesides
namespace Go.Fp
open Ieee

theorem compare_scale (a b c : Int) (hc : 0 < c) : compare (a * c) (b * c) = compare a b := by
  show compareOfLessAndEq _ _ = compareOfLessAndEq _ _
  unfold compareOfLessAndEq
  have h1 : a * c < b * c ↔ a < b := Int.mul_lt_mul_right hc
  have h2 : a * c = b * c ↔ a = b := ⟨Int.eq_of_mul_eq_mul_right (by omega), fun h => by rw [h]⟩
  simp only [h1, h2]
theorem compare_gt (a b : Int) : compare a b = .gt ↔ b < a := by
  show compareOfLessAndEq _ _ = _ ↔ _
  unfold compareOfLessAndEq
  by_cases h : a < b
  · simp [h]; omega
  · by_cases h2 : a = b
    · simp [h2]
    · simp [h, h2]; omega
theorem compare_eq (a b : Int) : compare a b = .eq ↔ a = b := by
  show compareOfLessAndEq _ _ = _ ↔ _
  unfold compareOfLessAndEq
  by_cases h : a < b
  · simp [h]; omega
  · by_cases h2 : a = b
    · simp [h2]
    · simp [h, h2]
theorem compare_lt (a b : Int) : compare a b = .lt ↔ a < b := by
  show compareOfLessAndEq _ _ = _ ↔ _
  unfold compareOfLessAndEq
  by_cases h : a < b
  · simp [h]
  · by_cases h2 : a = b
    · simp [h2]
    · simp [h, h2]

def sg (s : Bool) : Int := if s then -1 else 1
theorem signed_eq (s : Bool) (m k : Nat) : signed s m k = sg s * (m : Int) * ((2 ^ k : Nat) : Int) := by
  unfold signed sg
  rw [Nat.shiftLeft_eq]
  cases s <;> simp [Int.neg_mul, Int.natCast_mul]
theorem signed_scale (s : Bool) (m a b : Nat) : signed s m a * ((2 ^ b : Nat) : Int) = signed s m (a + b) := by
  rw [signed_eq, signed_eq, Nat.pow_add, Int.natCast_mul, Int.mul_assoc]
theorem signed_shift (s : Bool) (m a b : Nat) : signed s (m <<< a) b = signed s m (a + b) := by
  rw [signed_eq, signed_eq, Nat.shiftLeft_eq, Nat.pow_add, Int.natCast_mul, Int.natCast_mul]
  ac_rfl

theorem order_sv {x y : Nat} {s t : Bool} {m n : Nat} {i j : Int} (hx : D.read x = .number s m i) (hy : D.read y = .number t n j) (hi : -1074 ≤ i) (hj : -1074 ≤ j) :
    D.order x y = some (compare (signed s m (i + 1074).toNat) (signed t n (j + 1074).toNat)) := by
  unfold Format.order
  rw [hx, hy]
  show some (compare (signed s m (i - min i j).toNat) (signed t n (j - min i j).toNat)) = _
  have hp : (0 : Int) < ((2 ^ (min i j + 1074).toNat : Nat) : Int) := by
    have := Nat.two_pow_pos (min i j + 1074).toNat
    omega
  rw [← compare_scale _ _ _ hp, signed_scale, signed_scale]
  have e1 : (i - min i j).toNat + (min i j + 1074).toNat = (i + 1074).toNat := by omega
  have e2 : (j - min i j).toNat + (min i j + 1074).toNat = (j + 1074).toNat := by omega
  rw [e1, e2]

theorem read_word2 (s : Bool) {r : Nat} (h : r < 2047 * 2 ^ 52) : D.read (D.word s r) = if r < 2 ^ 52 then .number s r (-1074) else .number s (2 ^ 52 + r % 2 ^ 52) (-1074 + (r / 2 ^ 52 - 1 : Nat)) := by
  have hs : (D.word s r / 2 ^ 63 % 2 == 1) = s := by
    unfold Format.word
    rw [D_sign]
    cases s
    · simp only [Bool.false_eq_true, if_false]
      have : r / 2 ^ 63 = 0 := Nat.div_eq_of_lt (by omega)
      rw [this]; rfl
    · simp only [if_true]
      have : (2 ^ 63 + r) / 2 ^ 63 = 1 := by omega
      rw [this]; rfl
  unfold Format.read
  simp only [D_sign, D_inf, D_bin, D_least]
  rw [word_mod s (by omega), hs]
  by_cases h1 : r < 2 ^ 52
  · rw [if_pos h1, if_pos h1]
  · rw [if_neg h1, if_neg h1, if_pos h]

/-- what a word of a place and of kept digits stands for -/
theorem read_kept (s : Bool) (L kept : Nat) (hk : kept ≤ 2 ^ 53) (hc : L = 0 ∨ 2 ^ 52 ≤ kept) (hL : L * 2 ^ 52 + kept < 2047 * 2 ^ 52) :
    ∃ m p, D.read (D.word s (min (L * 2 ^ 52 + kept) D.infRung)) = .number s m p ∧ -1074 ≤ p ∧ m <<< (p + 1074).toNat = kept <<< L := by
  rw [D_inf, Nat.min_eq_left (by omega), read_word2 s hL]
  by_cases h1 : L * 2 ^ 52 + kept < 2 ^ 52
  · rw [if_pos h1]
    have : L = 0 := by omega
    subst this
    exact ⟨_, _, rfl, by omega, by simp⟩
  · rw [if_neg h1]
    have hk2 : 2 ^ 52 ≤ kept := by rcases hc with h | h <;> omega
    by_cases h2 : kept = 2 ^ 53
    · subst h2
      have e1 : (L * 2 ^ 52 + 2 ^ 53) % 2 ^ 52 = 0 := by omega
      have e2 : (L * 2 ^ 52 + 2 ^ 53) / 2 ^ 52 = L + 2 := by omega
      rw [e1, e2]
      refine ⟨_, _, rfl, by omega, ?_⟩
      have e3 : (-1074 + ((L + 2 - 1 : Nat) : Int) + 1074).toNat = L + 1 := by omega
      rw [e3, Nat.shiftLeft_eq, Nat.shiftLeft_eq, Nat.pow_succ (m := L), show (2 : Nat) ^ 53 = 2 ^ 52 * 2 by decide]
      ac_rfl
    · have e1 : 2 ^ 52 + (L * 2 ^ 52 + kept) % 2 ^ 52 = kept := by omega
      have e2 : (L * 2 ^ 52 + kept) / 2 ^ 52 = L + 1 := by omega
      rw [e1, e2]
      refine ⟨_, _, rfl, by omega, ?_⟩
      have e3 : (-1074 + ((L + 1 - 1 : Nat) : Int) + 1074).toNat = L := by omega
      rw [e3]

theorem gap_big {n k : Nat} (h : ¬ k ≤ n.log2 + 2) : 2 * n < 2 ^ k := by
  have h1 := lt_log2 n
  have h2 : 2 ^ (n.log2 + 1 + 1) ≤ 2 ^ k := Nat.pow_le_pow_right (by decide) (by omega)
  rw [Nat.pow_succ] at h2
  omega
theorem cut_even (s : Bool) (n k : Nat) : Toward.even.cut s n k = n / 2 ^ k + (if 2 ^ k < 2 * (n % 2 ^ k) ∨ 2 ^ k = 2 * (n % 2 ^ k) ∧ n / 2 ^ k % 2 = 1 then 1 else 0) := by
  unfold Toward.cut
  by_cases hd : k ≤ n.log2 + 2
  · rw [Nat.min_eq_left hd]
    have hg : (1 <<< k : Nat) = 2 ^ k := by rw [Nat.shiftLeft_eq, Nat.one_mul]
    simp only [hg]
    congr 1
    by_cases h1 : 2 ^ k < 2 * (n % 2 ^ k)
    · simp [h1]
    · by_cases h2 : 2 ^ k = 2 * (n % 2 ^ k)
      · by_cases h3 : n / 2 ^ k % 2 = 1
        · simp [← h2, h3]
        · simp [← h2, h3]
      · simp [h1, h2]
  · have hd' : min k (n.log2 + 2) = n.log2 + 2 := Nat.min_eq_right (by omega)
    rw [hd']
    have hg : (1 <<< (n.log2 + 2) : Nat) = 2 ^ (n.log2 + 2) := by rw [Nat.shiftLeft_eq, Nat.one_mul]
    simp only [hg]
    have hn := lt_log2 n
    have h4 : 2 ^ (n.log2 + 2) = 2 * 2 ^ (n.log2 + 1) := by rw [Nat.pow_succ, Nat.mul_comm]
    have h1 : n / 2 ^ (n.log2 + 2) = 0 := Nat.div_eq_of_lt (by omega)
    have h2 : n % 2 ^ (n.log2 + 2) = n := Nat.mod_eq_of_lt (by omega)
    have hb := gap_big hd
    have h6 : n / 2 ^ k = 0 := Nat.div_eq_of_lt (by omega)
    have h7 : n % 2 ^ k = n := Nat.mod_eq_of_lt (by omega)
    rw [h1, h2, h6, h7]
    have h3 : ¬ (2 ^ (n.log2 + 2) < 2 * n) := by omega
    have h8 : ¬ (2 ^ k < 2 * n) := by omega
    simp [h3, h8]
theorem cut_down (s : Bool) (n k : Nat) : Toward.down.cut s n k = n / 2 ^ k + (if s = true ∧ n % 2 ^ k ≠ 0 then 1 else 0) := by
  unfold Toward.cut
  by_cases hd : k ≤ n.log2 + 2
  · rw [Nat.min_eq_left hd]
    have hg : (1 <<< k : Nat) = 2 ^ k := by rw [Nat.shiftLeft_eq, Nat.one_mul]
    simp only [hg]
    congr 1
    cases s
    · simp
    · by_cases h : n % 2 ^ k = 0
      · simp [h]
      · simp [h]
  · have hd' : min k (n.log2 + 2) = n.log2 + 2 := Nat.min_eq_right (by omega)
    rw [hd']
    have hg : (1 <<< (n.log2 + 2) : Nat) = 2 ^ (n.log2 + 2) := by rw [Nat.shiftLeft_eq, Nat.one_mul]
    simp only [hg]
    have hn := lt_log2 n
    have h4 : 2 ^ (n.log2 + 2) = 2 * 2 ^ (n.log2 + 1) := by rw [Nat.pow_succ, Nat.mul_comm]
    have h1 : n / 2 ^ (n.log2 + 2) = 0 := Nat.div_eq_of_lt (by omega)
    have h2 : n % 2 ^ (n.log2 + 2) = n := Nat.mod_eq_of_lt (by omega)
    have hb := gap_big hd
    have h6 : n / 2 ^ k = 0 := Nat.div_eq_of_lt (by omega)
    have h7 : n % 2 ^ k = n := Nat.mod_eq_of_lt (by omega)
    rw [h1, h2, h6, h7]
    congr 1
    cases s
    · simp
    · by_cases h : n = 0
      · simp [h]
      · simp [h]
theorem cut_none (s : Bool) (n c d : Nat) (hd : d ≤ c) : Toward.even.cut s (n <<< c) d = n <<< (c - d) := by
  rw [cut_even]
  have h : n <<< c = n <<< (c - d) * 2 ^ d := by
    rw [Nat.shiftLeft_eq, Nat.shiftLeft_eq, Nat.mul_assoc, ← Nat.pow_add]
    congr 2; omega
  have hp := Nat.two_pow_pos d
  rw [h, Nat.mul_mod_left, Nat.mul_div_cancel _ hp]
  rw [if_neg (by omega)]
  rfl

/-- a number that the format has, however it is told -/
theorem read_exact (s : Bool) (M c : Nat) (base : Int) (hM : M < 2 ^ 53) (hb : -1074 ≤ base) (hp : base + c ≤ 971) :
    ∃ m p, D.read (D.nearest s (M <<< c) base) = .number s m p ∧ -1074 ≤ p ∧ m <<< (p + 1074).toNat = M <<< (base + c + 1074).toNat := by
  unfold Format.nearest
  by_cases hz : M = 0
  · subst hz
    rw [Nat.zero_shiftLeft, if_pos rfl, read_word2 s (by omega), if_pos (by omega)]
    exact ⟨_, _, rfl, by omega, by simp⟩
  · have hne : M <<< c ≠ 0 := by rw [Nat.shiftLeft_eq]; exact Nat.mul_ne_zero hz (by have := Nat.two_pow_pos c; omega)
    rw [if_neg hne]
    have hl := log2_shift_le M c hz
    have hl52 : M.log2 ≤ 52 := log2_of hz hM
    simp only [D_least, D_frac, D_bin, hl]
    generalize hlast : max (base + ((M.log2 + c : Nat) : Int) - 52) (-1074) = last
    have h1 : last ≤ base + c := by omega
    have h2 : -1074 ≤ last := by omega
    have h3 : last = -1074 ∨ last = base + M.log2 + c - 52 := by omega
    have hk : Toward.even.cut s ((M <<< c) <<< (base - last).toNat) (last - base).toNat = M <<< (base + c - last).toNat := by
      rw [← Nat.shiftLeft_add, cut_none s M _ _ (by omega)]
      congr 1; omega
    rw [hk]
    have hkl : (M <<< (base + c - last).toNat).log2 = M.log2 + (base + c - last).toNat := log2_shift_le _ _ hz
    have hkne : M <<< (base + c - last).toNat ≠ 0 := by rw [Nat.shiftLeft_eq]; exact Nat.mul_ne_zero hz (by have := Nat.two_pow_pos (base + c - last).toNat; omega)
    have hlt : M <<< (base + c - last).toNat < 2 ^ 53 := by
      have := lt_log2 (M <<< (base + c - last).toNat)
      rw [hkl] at this
      exact Nat.lt_of_lt_of_le this (Nat.pow_le_pow_right (by decide) (by omega))
    have hcan : (last - -1074).toNat = 0 ∨ 2 ^ 52 ≤ M <<< (base + c - last).toNat := by
      rcases h3 with h3 | h3
      · left; omega
      · right
        rw [← Nat.le_log2 hkne, hkl]; omega
    generalize hkept : M <<< (base + c - last).toNat = kept at *
    obtain ⟨m, p, hr, hp1, hp2⟩ := read_kept s (last - -1074).toNat kept (by omega) hcan (by omega)
    refine ⟨m, p, hr, hp1, ?_⟩
    rw [hp2, ← hkept, ← Nat.shiftLeft_add]
    congr 1; omega

theorem read_fields {x : Nat} {s : Bool} {m : Nat} {i : Int} (h : D.read x = .number s m i) : m < 2 ^ 53 ∧ -1074 ≤ i ∧ i ≤ 971 := by
  unfold Format.read at h
  simp only [D_sign, D_inf, D_bin, D_least] at h
  split at h
  · cases h; omega
  · split at h
    · cases h; omega
    · split at h <;> cases h

/-- a word that stands for a whole number -/
def IsI (x : Nat) (V : Int) : Prop := ∃ s m i, D.read x = .number s m i ∧ -1074 ≤ i ∧ signed s m (i + 1074).toNat = V * ((2 ^ 1074 : Nat) : Int)
theorem natpow_pos (k : Nat) : (0 : Int) < ((2 ^ k : Nat) : Int) := Int.natCast_pos.2 (Nat.two_pow_pos k)
theorem two_pow_le (a b : Nat) (h : a ≤ b) : 2 ^ a ≤ 2 ^ b := Nat.pow_le_pow_right (by decide) h
theorem pow1074 : (0 : Int) < ((2 ^ 1074 : Nat) : Int) := natpow_pos 1074
theorem IsI.order {x y : Nat} {V W : Int} (hx : IsI x V) (hy : IsI y W) : D.order x y = some (compare V W) := by
  obtain ⟨s, m, i, h1, h2, h3⟩ := hx
  obtain ⟨t, n, j, k1, k2, k3⟩ := hy
  rw [order_sv h1 k1 h2 k2, h3, k3, compare_scale _ _ _ pow1074]
theorem IsI.fin {x : Nat} {V : Int} (hx : IsI x V) : isNan x = false := by
  obtain ⟨s, m, i, h1, _⟩ := hx
  unfold isNan; rw [h1]; rfl

theorem cut_zero (s : Bool) (n k : Nat) : Toward.zero.cut s n k = n / 2 ^ k := by
  unfold Toward.cut
  by_cases hd : k ≤ n.log2 + 2
  · rw [Nat.min_eq_left hd]
    have hg : (1 <<< k : Nat) = 2 ^ k := by rw [Nat.shiftLeft_eq, Nat.one_mul]
    simp [hg]
  · have hd' : min k (n.log2 + 2) = n.log2 + 2 := Nat.min_eq_right (by omega)
    rw [hd']
    have hg : (1 <<< (n.log2 + 2) : Nat) = 2 ^ (n.log2 + 2) := by rw [Nat.shiftLeft_eq, Nat.one_mul]
    have hn := lt_log2 n
    have h4 : 2 ^ (n.log2 + 2) = 2 * 2 ^ (n.log2 + 1) := by rw [Nat.pow_succ, Nat.mul_comm]
    have h1 : n / 2 ^ (n.log2 + 2) = 0 := Nat.div_eq_of_lt (by omega)
    have hb := gap_big hd
    have h6 : n / 2 ^ k = 0 := Nat.div_eq_of_lt (by omega)
    simp [hg, h1, h6]
theorem signed0 (s : Bool) (m : Nat) : signed s m 0 = sg s * m := by
  rw [signed_eq]; simp
theorem IsI.toInt {x : Nat} {V : Int} (hx : IsI x V) : (D.read x).toInt .zero = some V := by
  obtain ⟨s, m, i, h1, h2, h3⟩ := hx
  rw [h1]
  show some (signed s (Toward.zero.cut s (m <<< i.toNat) (-i).toNat) 0) = _
  congr 1
  rw [cut_zero, signed0]
  by_cases hi : 0 ≤ i
  · have e : (-i).toNat = 0 := by omega
    rw [e, Nat.pow_zero, Nat.div_one]
    refine Int.eq_of_mul_eq_mul_right (Int.ne_of_gt pow1074) ?_
    rw [← h3, ← signed0, signed_scale _ _ _ 1074, signed_shift]
    congr 1; omega
  · have e : i.toNat = 0 := by omega
    rw [e, Nat.shiftLeft_zero]
    -- m is V times 2 ^ -i
    have hk : (i + 1074).toNat + (-i).toNat = 1074 := by omega
    have hm : (sg s) * m = V * ((2 ^ (-i).toNat : Nat) : Int) := by
      rw [signed_eq, ← hk, Nat.pow_add, Int.natCast_mul] at h3
      have hp : (0 : Int) < ((2 ^ (i + 1074).toNat : Nat) : Int) := by have := Nat.two_pow_pos (i + 1074).toNat; omega
      refine Int.eq_of_mul_eq_mul_right (Int.ne_of_gt hp) ?_
      rw [h3]; ac_rfl
    have hp := Nat.two_pow_pos (-i).toNat
    generalize 2 ^ (-i).toNat = K at *
    have hm2 : m = V.natAbs * K := by
      have := congrArg Int.natAbs hm
      rw [Int.natAbs_mul, Int.natAbs_mul, Int.natAbs_natCast, Int.natAbs_natCast] at this
      rw [← this]; unfold sg; cases s <;> simp
    rw [hm2, Nat.mul_div_cancel _ hp]
    rw [hm2, Int.natCast_mul, ← Int.mul_assoc] at hm
    exact Int.eq_of_mul_eq_mul_right (by omega) hm

theorem way_cut {way : Toward} (hw : way = .even ∨ way = .down) (s : Bool) (n k : Nat) : ∃ b, b ≤ 1 ∧ way.cut s n k = n / 2 ^ k + b ∧ (n % 2 ^ k = 0 → b = 0) := by
  rcases hw with rfl | rfl
  · rw [cut_even]
    refine ⟨_, ?_, rfl, ?_⟩
    · split <;> omega
    · intro h
      have := Nat.two_pow_pos k
      rw [if_neg (by omega)]
  · rw [cut_down]
    refine ⟨_, ?_, rfl, ?_⟩
    · split <;> omega
    · intro h
      rw [if_neg (fun ⟨_, h2⟩ => h2 h)]
/-- what a number is, made whole -/
theorem isI_int {way : Toward} (hw : way = .even ∨ way = .down) {x : Nat} {s : Bool} {m : Nat} {i : Int} (h : D.read x = .number s m i) :
    IsI (D.write ((D.read x).integral way)) (signed s (way.cut s (m <<< i.toNat) (-i).toNat) 0) := by
  obtain ⟨hm, hi1, hi2⟩ := read_fields h
  rw [h]
  show IsI (D.nearest s (way.cut s (m <<< i.toNat) (-i).toNat) 0) _
  obtain ⟨b, hb1, hb2, hb3⟩ := way_cut hw s (m <<< i.toNat) (-i).toNat
  by_cases hi : 0 ≤ i
  · have e : (-i).toNat = 0 := by omega
    have e2 : way.cut s (m <<< i.toNat) (-i).toNat = m <<< i.toNat := by
      rw [hb2, hb3 (by rw [e, Nat.pow_zero, Nat.mod_one]), e, Nat.pow_zero, Nat.div_one, Nat.add_zero]
    rw [e2]
    obtain ⟨m', p, hr, hp1, hp2⟩ := read_exact s m i.toNat 0 hm (by omega) (by omega)
    refine ⟨s, m', p, hr, hp1, ?_⟩
    rw [signed_scale _ _ _ 1074, signed_shift, ← Nat.zero_add ((p + 1074).toNat), ← signed_shift]
    have e3 := signed_shift s m' (p + 1074).toNat 0
    rw [Nat.add_zero, hp2] at e3
    rw [Nat.zero_add]
    show signed s (m' <<< 0) _ = _
    rw [Nat.shiftLeft_zero, ← e3, signed_shift]
    congr 1; omega
  · have e : i.toNat = 0 := by omega
    rw [e, Nat.shiftLeft_zero] at hb2 hb3 ⊢
    generalize hC : way.cut s m (-i).toNat = C at *
    have hk : (-i).toNat ≠ 0 := by omega
    have hle : m / 2 ^ (-i).toNat ≤ m / 2 := Nat.div_le_div_left (by
      have := Nat.pow_le_pow_right (n := 2) (by decide) (show 1 ≤ (-i).toNat by omega)
      omega) (by decide)
    obtain ⟨m', p, hr, hp1, hp2⟩ := read_exact s C 0 0 (by omega) (by omega) (by omega)
    rw [Nat.shiftLeft_zero] at hr
    refine ⟨s, m', p, hr, hp1, ?_⟩
    have e3 := signed_shift s m' (p + 1074).toNat 0
    rw [Nat.add_zero, hp2, signed_shift] at e3
    rw [← e3, signed_scale _ _ _ 1074]
    congr 1
end Go.Fp

/- The even one of two whole numbers, by what is left over the floor. -/
namespace Go.Fp
open Ieee

abbrev half : Nat := 4602678819172646912
theorem half_read : D.read half = .number false (2 ^ 52) (-53) := by decide +kernel

/-- a number from one half up to one is written as no less than one half -/
theorem half_le {N : Nat} {base : Int} (hN : N ≠ 0) (hb : -1074 ≤ base) (h : base + N.log2 + 1 = 0) :
    ∃ o, D.order (D.nearest false N base) half = some o ∧ o ≠ .lt := by
  unfold Format.nearest
  rw [if_neg hN]
  simp only [D_least, D_frac, D_bin]
  have hl : max (base + (N.log2 : Int) - 52) (-1074) = -53 := by omega
  rw [hl]
  have hk2 : Toward.even.cut false (N <<< (base - -53).toNat) (-53 - base).toNat ≤ 2 ^ 53 := by
    refine cut_le _ _ _ _ ?_
    have hb := lt_log2 (N <<< (base - -53).toNat)
    rw [log2_shift_le _ _ hN] at hb
    exact Nat.lt_of_lt_of_le hb (Nat.pow_le_pow_right (by decide) (by omega))
  have hk1 : 2 ^ 52 ≤ Toward.even.cut false (N <<< (base - -53).toNat) (-53 - base).toNat := by
    rw [cut_even]
    refine Nat.le_trans ?_ (Nat.le_add_right _ _)
    rw [Nat.le_div_iff_mul_le (Nat.two_pow_pos _), ← Nat.pow_add]
    have hne : N <<< (base - -53).toNat ≠ 0 := by rw [Nat.shiftLeft_eq]; exact Nat.mul_ne_zero hN (by have := Nat.two_pow_pos (base - -53).toNat; omega)
    rw [← Nat.le_log2 hne, log2_shift_le _ _ hN]
    omega
  generalize Toward.even.cut false (N <<< (base - -53).toNat) (-53 - base).toNat = kept at *
  have e0 : ((-53 : Int) - -1074).toNat = 1021 := by decide
  rw [e0]
  obtain ⟨m, p, hr, hp1, hp2⟩ := read_kept false 1021 kept hk2 (.inr hk1) (by omega)
  refine ⟨_, order_sv hr half_read hp1 (by decide), ?_⟩
  have e3 := signed_shift false m (p + 1074).toNat 0
  rw [Nat.add_zero, hp2, signed_shift] at e3
  rw [← e3]
  have e4 : ((-53 : Int) + 1074).toNat = 1021 + 0 := by decide
  rw [e4, Ne, compare_lt, signed_eq, signed_eq]
  have hp : (0 : Int) < ((2 ^ (1021 + 0) : Nat) : Int) := by have := Nat.two_pow_pos (1021 + 0); omega
  have : ¬ (sg false * (kept : Int) < sg false * ((2 ^ 52 : Nat) : Int)) := by simp only [sg, Bool.false_eq_true, if_false]; omega
  exact fun hlt => this (Int.lt_of_mul_lt_mul_right hlt (Int.le_of_lt hp))

theorem signed_not (t : Bool) (n k : Nat) : signed (!t) n k = - signed t n k := by
  unfold signed; cases t <;> simp
/-- what is left of a number over a whole one -/
theorem diff_T {x f : Nat} {s : Bool} {m : Nat} {i V : Int} {T : Nat} (hx : D.read x = .number s m i) (hi : i < 0) (hf : IsI f V) (hT : sg s * m - V * ((2 ^ (-i).toNat : Nat) : Int) = T) :
    ∃ (u : Bool) (c : Nat) (base : Int), fsub x f = D.nearest u (T <<< c) base ∧ base + c = i ∧ -1074 ≤ base ∧ (T ≠ 0 → u = false) := by
  obtain ⟨hm, hi1, hi2⟩ := read_fields hx
  obtain ⟨t, n, j, k1, k2, k3⟩ := hf
  have e : ∃ u, D.sub x f = some (D.nearest u (signed s m (i - min i j).toNat + signed (!t) n (j - min i j).toNat).natAbs (min i j)) ∧
      ((signed s m (i - min i j).toNat + signed (!t) n (j - min i j).toNat) > 0 → u = false) := by
    unfold Format.sub; rw [hx, k1]
    refine ⟨_, rfl, ?_⟩
    intro h
    rw [if_neg (by omega)]
    simp; omega
  obtain ⟨u, e, hu⟩ := e
  have hp : (0 : Int) < ((2 ^ (min i j + 1074).toNat : Nat) : Int) := by have := Nat.two_pow_pos (min i j + 1074).toNat; omega
  have ht : signed s m (i - min i j).toNat + signed (!t) n (j - min i j).toNat = ((T <<< (i - min i j).toNat : Nat) : Int) := by
    refine Int.eq_of_mul_eq_mul_right (Int.ne_of_gt hp) ?_
    rw [Int.add_mul, signed_scale, signed_scale, signed_not]
    have e1 : (i - min i j).toNat + (min i j + 1074).toNat = (i + 1074).toNat := by omega
    have e2 : (j - min i j).toNat + (min i j + 1074).toNat = (j + 1074).toNat := by omega
    have e3 : (-i).toNat + (i + 1074).toNat = 1074 := by omega
    rw [e1, e2, k3, signed_eq, Nat.shiftLeft_eq, Int.natCast_mul, ← hT, ← e3, Nat.pow_add, ← e1, Nat.pow_add]
    simp only [Int.natCast_mul, Int.sub_eq_add_neg, Int.add_mul, Int.neg_mul]
    ac_rfl
  rw [ht] at e hu
  refine ⟨u, _, _, by unfold fsub opt; rw [e]; rfl, by omega, by omega, fun h0 => hu ?_⟩
  have := Nat.two_pow_pos (i - min i j).toNat
  rw [Nat.shiftLeft_eq]
  have := Nat.mul_pos (Nat.pos_of_ne_zero h0) this
  omega
theorem diff_order {x f : Nat} {s : Bool} {m : Nat} {i V : Int} {T : Nat} (hx : D.read x = .number s m i) (hi : i < 0) (hf : IsI f V) (hT : sg s * m - V * ((2 ^ (-i).toNat : Nat) : Int) = T) (h53 : T < 2 ^ 53) :
    D.order (fsub x f) half = some (compare (2 * (T : Int)) ((2 ^ (-i).toNat : Nat) : Int)) := by
  obtain ⟨hm, hi1, hi2⟩ := read_fields hx
  obtain ⟨u, c, base, hsub, hbc, hb, hu⟩ := diff_T hx hi hf hT
  obtain ⟨m', p, hr, hp1, hp2⟩ := read_exact u T c base h53 hb (by omega)
  rw [hsub, order_sv hr half_read hp1 (by decide)]
  have e3 := signed_shift u m' (p + 1074).toNat 0
  rw [Nat.add_zero, hp2, signed_shift, hbc, Nat.add_zero] at e3
  rw [← e3]
  have h1 : signed u T (i + 1074).toNat = (T : Int) * ((2 ^ (i + 1074).toNat : Nat) : Int) := by
    rw [signed_eq]
    by_cases h0 : T = 0
    · subst h0; simp
    · rw [hu h0]; simp [sg]
  have e4 : ((-53 : Int) + 1074).toNat = 1021 := by decide
  rw [h1, e4, signed_eq]
  refine congrArg some ?_
  rw [← compare_scale _ _ 2 (by decide)]
  have e5 : (-i).toNat + (i + 1074).toNat = 1074 := by omega
  have h2 : sg false * ((2 ^ 52 : Nat) : Int) * ((2 ^ 1021 : Nat) : Int) * 2 = ((2 ^ (-i).toNat : Nat) : Int) * ((2 ^ (i + 1074).toNat : Nat) : Int) := by
    rw [← Int.natCast_mul, ← Nat.pow_add, e5]
    decide +kernel
  have hp : (0 : Int) < ((2 ^ (i + 1074).toNat : Nat) : Int) := by have := Nat.two_pow_pos (i + 1074).toNat; omega
  rw [h2, show (T : Int) * ((2 ^ (i + 1074).toNat : Nat) : Int) * 2 = 2 * (T : Int) * ((2 ^ (i + 1074).toNat : Nat) : Int) by ac_rfl, compare_scale _ _ _ hp]

theorem tmod2 (V : Int) : V.tmod 2 ≠ 0 ↔ V % 2 ≠ 0 := by
  cases V with
  | ofNat n => show ((n % 2 : Nat) : Int) ≠ 0 ↔ (n : Int) % 2 ≠ 0; omega
  | negSucc n => show -(((n + 1) % 2 : Nat) : Int) ≠ 0 ↔ (Int.negSucc n) % 2 ≠ 0; rw [Int.negSucc_eq]; omega

theorem diff_law {x f : Nat} {s : Bool} {m : Nat} {i : Int} (hx : D.read x = .number s m i) (hi : i < 0) (hf : IsI f (signed s (Toward.down.cut s m (-i).toNat) 0)) :
    ∃ o, D.order (fsub x f) half = some o ∧
      (if o = .gt ∨ o = .eq ∧ (signed s (Toward.down.cut s m (-i).toNat) 0).tmod 2 ≠ 0 then signed s (Toward.down.cut s m (-i).toNat) 0 + 1 else signed s (Toward.down.cut s m (-i).toNat) 0)
        = signed s (Toward.even.cut s m (-i).toNat) 0 := by
  obtain ⟨hm, hi1, hi2⟩ := read_fields hx
  have hP := Nat.two_pow_pos (-i).toNat
  have hdm := Nat.div_add_mod m (2 ^ (-i).toNat)
  have hr := Nat.mod_lt m hP
  rw [signed0] at hf
  rw [signed0, signed0]
  simp only [tmod2]
  have hdo := fun T hT h53 => diff_order (T := T) hx hi hf hT h53
  have hdt := fun T hT => diff_T (T := T) hx hi hf hT
  rw [cut_down] at hdo hdt ⊢
  rw [cut_even]
  have hbig : (-i).toNat < 54 ∨ 2 ^ 53 ≤ 2 ^ (-i).toNat / 2 := by
    by_cases h : (-i).toNat < 54
    · exact .inl h
    · have : 2 ^ 54 ≤ 2 ^ (-i).toNat := Nat.pow_le_pow_right (by decide) (by omega)
      right; omega
  have hlog : ∀ T, 2 ^ (-i).toNat / 2 ≤ T → T < 2 ^ (-i).toNat → 1 ≤ (-i).toNat → T.log2 + 1 = (-i).toNat := by
    intro T h1 h2 h3
    have e : 2 ^ (-i).toNat = 2 * 2 ^ ((-i).toNat - 1) := by rw [← Nat.pow_succ']; congr 1; omega
    have hp2 := Nat.two_pow_pos ((-i).toNat - 1)
    have h0 : T ≠ 0 := by omega
    have h5 := (Nat.log2_lt h0 (k := (-i).toNat)).2 h2
    have h6 := (Nat.le_log2 h0 (k := (-i).toNat - 1)).2 (by omega)
    omega
  have h53s : (-i).toNat < 54 → 2 ^ (-i).toNat ≤ 2 ^ 53 := fun h => Nat.pow_le_pow_right (by decide) (by omega)
  generalize hPe : 2 ^ (-i).toNat = P at *
  generalize m / P = q at *
  generalize m % P = r at *
  have hqP : ((P * q : Nat) : Int) = (q : Int) * P := by rw [Int.natCast_mul, Int.mul_comm]
  have hmc : (m : Int) = (q : Int) * P + r := by omega
  cases s with
  | false =>
    simp only [Bool.false_eq_true, false_and, if_false, Nat.add_zero] at hdo hdt ⊢
    have hT : sg false * (m : Int) - sg false * (q : Int) * (P : Int) = (r : Int) := by simp only [sg, Bool.false_eq_true, if_false, Int.one_mul]; omega
    refine ⟨_, hdo r hT (by omega), ?_⟩
    simp only [compare_gt, compare_eq]
    simp only [sg, Bool.false_eq_true, if_false, Int.one_mul]
    split <;> split <;> omega
  | true =>
    by_cases h0 : r = 0
    · subst h0
      simp only [ne_eq, not_true, and_false, if_false, Nat.add_zero] at hdo hdt ⊢
      have hT : sg true * (m : Int) - sg true * (q : Int) * (P : Int) = ((0 : Nat) : Int) := by
        simp only [sg, if_true]
        rw [Int.mul_assoc, hmc]; omega
      refine ⟨_, hdo 0 hT (by decide), ?_⟩
      simp only [compare_gt, compare_eq]
      rw [if_neg (by omega), if_neg (by omega)]
      simp
    · simp only [ne_eq, h0, not_false_eq_true, and_true, if_true] at hdo hdt ⊢
      have hT : sg true * (m : Int) - sg true * ((q + 1 : Nat) : Int) * (P : Int) = ((P - r : Nat) : Int) := by
        simp only [sg, if_true]
        rw [Int.mul_assoc, hmc, Int.natCast_add, Int.add_mul]; omega
      by_cases h53 : P - r < 2 ^ 53
      · refine ⟨_, hdo _ hT h53, ?_⟩
        simp only [compare_gt, compare_eq]
        simp only [sg, if_true]
        split <;> split <;> omega
      · obtain ⟨u, c, base, hsub, hbc, hb, hu⟩ := hdt _ hT
        have hq : q = 0 := by
          rcases Nat.eq_zero_or_pos q with h | h
          · exact h
          · have : P * 1 ≤ P * q := Nat.mul_le_mul_left _ h
            omega
        have hne : P - r ≠ 0 := by omega
        rw [hu hne] at hsub
        have hlg := hlog (P - r) (by subst hq; simp at hdm; omega) (by omega) (by omega)
        have hne2 : (P - r) <<< c ≠ 0 := by rw [Nat.shiftLeft_eq]; exact Nat.mul_ne_zero hne (by have := Nat.two_pow_pos c; omega)
        obtain ⟨o, ho, hol⟩ := half_le (N := (P - r) <<< c) (base := base) hne2 hb (by rw [log2_shift_le _ _ hne]; omega)
        rw [← hsub] at ho
        refine ⟨o, ho, ?_⟩
        subst hq
        simp only [sg, if_true]
        simp at hdm
        rw [if_pos (by cases o <;> simp at hol ⊢), if_neg (by omega)]
        simp

/-- what is left of a whole number over itself -/
theorem diff_zero {x f : Nat} {V : Int} (hx : IsI x V) (hf : IsI f V) : D.order (fsub x f) half = some .lt := by
  obtain ⟨s, m, i, h1, h2, h3⟩ := hx
  obtain ⟨t, n, j, k1, k2, k3⟩ := hf
  have e : ∃ u, D.sub x f = some (D.nearest u (signed s m (i - min i j).toNat + signed (!t) n (j - min i j).toNat).natAbs (min i j)) := by
    unfold Format.sub; rw [h1, k1]
    exact ⟨_, rfl⟩
  obtain ⟨u, e⟩ := e
  have hp : (0 : Int) < ((2 ^ (min i j + 1074).toNat : Nat) : Int) := by have := Nat.two_pow_pos (min i j + 1074).toNat; omega
  have ht : signed s m (i - min i j).toNat + signed (!t) n (j - min i j).toNat = 0 := by
    refine Int.eq_of_mul_eq_mul_right (Int.ne_of_gt hp) ?_
    rw [Int.add_mul, signed_scale, signed_scale, signed_not]
    have e1 : (i - min i j).toNat + (min i j + 1074).toNat = (i + 1074).toNat := by omega
    have e2 : (j - min i j).toNat + (min i j + 1074).toNat = (j + 1074).toNat := by omega
    rw [e1, e2, k3, h3]; omega
  rw [ht] at e
  have e2 : fsub x f = D.word u 0 := by unfold fsub opt; rw [e]; rfl
  rw [e2]
  cases u <;> decide +kernel

abbrev c9 : Nat := 4890691058569617664
abbrev m9 : Nat := 14114063095424393472
end Go.Fp

/- The nearest angle of a number of radians: how package grain finds it, how the reference does. -/
namespace Go.Proofs.YtcppgbhjbmfldaaGreatDoor
open Go.RowKit Go.Fp Go.Rel Ieee

/-- the whole number nearest to a number; 0 of what is too great -/
def nearV (x : Nat) : Int := match D.read x with
  | .number s m i => if -9000000000000000000 ≤ signed s (Toward.even.cut s (m <<< i.toNat) (-i).toNat) 0 ∧ signed s (Toward.even.cut s (m <<< i.toNat) (-i).toNat) 0 ≤ 9000000000000000000
      then signed s (Toward.even.cut s (m <<< i.toNat) (-i).toNat) 0 else 0
  | _ => 0
theorem nearV_can (x : Nat) : nearV (can x) = nearV x := by
  refine can_cases (fun y => nearV y = nearV x) x (fun _ => rfl) (fun h => ?_)
  obtain ⟨s, t, e⟩ := read_nan h
  unfold nearV
  rw [e, show D.read QN = .nan false 2251799813685249 by decide +kernel]
theorem nearV_nan {x : Nat} (h : isNan x = true) : nearV x = 0 := by
  obtain ⟨s, t, e⟩ := read_nan h
  unfold nearV; rw [e]

theorem c9_isI : IsI c9 9000000000000000000 := ⟨false, _, _, rfl, by decide +kernel, by decide +kernel⟩
theorem m9_isI : IsI m9 (-9000000000000000000) := ⟨true, _, _, rfl, by decide +kernel, by decide +kernel⟩
theorem toVal {x : Nat} {V : Int} (h : IsI x V) (h1 : -9100000000000000000 ≤ V) (h2 : V ≤ 9100000000000000000) : floatToIntVal .f64 x .i64 = some V := by
  unfold floatToIntVal
  have e : (FloatKind.f64.decode x).toInt .zero = some V := h.toInt
  have e1 : IntKind.i64.min = -9223372036854775808 := by decide
  have e2 : IntKind.i64.max = 9223372036854775807 := by decide
  rw [e, e1, e2]
  simp only []
  rw [if_pos (by omega)]

theorem read_inf (s : Bool) : D.read (D.write (.infinity s)) = .infinity s := by cases s <;> decide +kernel
theorem inf_c9 {x : Nat} {s : Bool} (h : D.read x = .infinity s) : D.order x c9 = some (if s then .lt else .gt) := by
  unfold Format.order; rw [h]
  show some (if s then Ordering.lt else .gt) = _
  rfl
theorem inf_m9 {x : Nat} {s : Bool} (h : D.read x = .infinity s) : D.order x m9 = some (if s then .lt else .gt) := by
  unfold Format.order; rw [h]
  rfl

/-- package grain's way: rounded first -/
theorem near_prog {x r : Nat} (h : IntR .even x r) : (isNan r = true ∧ nearV x = 0) ∨
    ∃ o1 o2, D.order r m9 = some o1 ∧ D.order r c9 = some o2 ∧ (o1 = .lt → nearV x = 0) ∧ (o2 = .gt → nearV x = 0) ∧ (o1 ≠ .lt → o2 ≠ .gt → floatToIntVal .f64 r .i64 = some (nearV x)) := by
  rcases h with ⟨h1, h2⟩ | ⟨h1, rfl⟩
  · exact .inl ⟨h2, nearV_nan h1⟩
  · right
    cases e : D.read x with
    | nan s t => unfold isNan at h1; rw [e] at h1; cases h1
    | infinity s =>
      have e2 : D.read (D.write ((Datum.infinity s).integral .even)) = .infinity s := read_inf s
      have hz : nearV x = 0 := by unfold nearV; rw [e]
      refine ⟨_, _, inf_m9 e2, inf_c9 e2, fun _ => hz, fun _ => hz, ?_⟩
      cases s <;> simp
    | number s m i =>
      have hI := isI_int (way := .even) (.inl rfl) e
      rw [e] at hI
      refine ⟨_, _, hI.order m9_isI, hI.order c9_isI, ?_, ?_, ?_⟩
      · rw [compare_lt]; intro hlt; unfold nearV; rw [e]; simp only []; rw [if_neg (by omega)]
      · rw [compare_gt]; intro hlt; unfold nearV; rw [e]; simp only []; rw [if_neg (by omega)]
      · rw [Ne, compare_lt, Ne, compare_gt]; intro h3 h4
        have : nearV x = signed s (Toward.even.cut s (m <<< i.toNat) (-i).toNat) 0 := by
          unfold nearV; rw [e]; simp only []; rw [if_pos (by omega)]
        rw [this]
        exact toVal hI (by omega) (by omega)

/-- a number with a fraction is small -/
theorem frac_small {x : Nat} {s : Bool} {m : Nat} {i : Int} (h : D.read x = .number s m i) (hi : i < 0) : D.order x c9 = some .lt ∧ D.order x m9 = some .gt := by
  obtain ⟨hm, hi1, _⟩ := read_fields h
  have hle : 2 ^ (i + 1074).toNat ≤ 2 ^ 1074 := two_pow_le _ 1074 (by omega)
  have hp2 := pow1074
  have hs : signed s m (i + 1074).toNat = ((m * 2 ^ (i + 1074).toNat : Nat) : Int) ∨ signed s m (i + 1074).toNat = -((m * 2 ^ (i + 1074).toNat : Nat) : Int) := by
    rw [signed_eq, Int.natCast_mul]
    cases s
    · left; simp only [sg, Bool.false_eq_true, if_false, Int.one_mul]
    · right; simp only [sg, if_true, Int.neg_mul, Int.one_mul]
  obtain ⟨t1, n1, j1, k1, k2, k3⟩ := c9_isI
  obtain ⟨t2, n2, j2, q1, q2, q3⟩ := m9_isI
  rw [order_sv h k1 hi1 k2, k3, order_sv h q1 hi1 q2, q3]
  generalize hZ : (2 : Nat) ^ 1074 = Z at *
  have hmul : m * 2 ^ (i + 1074).toNat ≤ 9007199254740992 * Z := Nat.mul_le_mul (by omega) hle
  generalize m * 2 ^ (i + 1074).toNat = A at *
  generalize signed s m (i + 1074).toNat = S at *
  exact ⟨congrArg some ((compare_lt _ _).2 (by omega)), congrArg some ((compare_gt _ _).2 (by omega))⟩

/-- the reference's way: the floor first -/
theorem near_ref (x : Nat) : (isNan x = true ∧ nearV x = 0) ∨
    isNan x = false ∧ ∃ o1 o2, D.order x c9 = some o1 ∧ D.order x m9 = some o2 ∧ (o1 = .gt → nearV x = 0) ∧ (o2 = .lt → nearV x = 0) ∧
      (o1 ≠ .gt → o2 ≠ .lt → ∀ f, IntR .down x f → ∃ V o, floatToIntVal .f64 f .i64 = some V ∧ -9100000000000000000 ≤ V ∧ V ≤ 9100000000000000000 ∧ D.order (fsub x f) half = some o ∧
        nearV x = if o = .gt ∨ o = .eq ∧ V.tmod 2 ≠ 0 then V + 1 else V) := by
  cases hn : isNan x with
  | true => exact .inl ⟨rfl, nearV_nan hn⟩
  | false =>
    refine .inr ⟨rfl, ?_⟩
    cases e : D.read x with
    | nan s t => unfold isNan at hn; rw [e] at hn; cases hn
    | infinity s =>
      have hz : nearV x = 0 := by unfold nearV; rw [e]
      refine ⟨_, _, inf_c9 e, inf_m9 e, fun _ => hz, fun _ => hz, ?_⟩
      cases s <;> simp
    | number s m i =>
      obtain ⟨hm, hi1, hi2⟩ := read_fields e
      have hD := isI_int (way := .down) (.inr rfl) e
      by_cases hi : i < 0
      · obtain ⟨h1, h2⟩ := frac_small e hi
        refine ⟨_, _, h1, h2, (by simp), (by simp), ?_⟩
        intro _ _ f hf
        rcases hf with ⟨hf, _⟩ | ⟨_, rfl⟩
        · rw [hn] at hf; cases hf
        · have e0 : i.toNat = 0 := by omega
          rw [e0, Nat.shiftLeft_zero] at hD
          obtain ⟨o, ho, hv⟩ := diff_law e hi hD
          obtain ⟨b, hb1, hb2, _⟩ := way_cut (way := .down) (.inr rfl) s m (-i).toNat
          obtain ⟨b', hb1', hb2', _⟩ := way_cut (way := .even) (.inl rfl) s m (-i).toNat
          have hq : m / 2 ^ (-i).toNat ≤ m := Nat.div_le_self _ _
          have hbd : -9007199254740993 ≤ signed s (Toward.down.cut s m (-i).toNat) 0 ∧ signed s (Toward.down.cut s m (-i).toNat) 0 ≤ 9007199254740993 := by
            rw [signed0, hb2]
            generalize m / 2 ^ (-i).toNat = q at hq ⊢
            cases s <;> simp only [sg, if_true, Bool.false_eq_true, if_false] <;> omega
          have hbe : -9007199254740993 ≤ signed s (Toward.even.cut s m (-i).toNat) 0 ∧ signed s (Toward.even.cut s m (-i).toNat) 0 ≤ 9007199254740993 := by
            rw [signed0, hb2']
            generalize m / 2 ^ (-i).toNat = q at hq ⊢
            cases s <;> simp only [sg, if_true, Bool.false_eq_true, if_false] <;> omega
          refine ⟨_, o, toVal hD (by omega) (by omega), by omega, by omega, ho, ?_⟩
          rw [hv]
          unfold nearV; rw [e]; simp only []
          rw [e0, Nat.shiftLeft_zero, if_pos (by omega)]
      · have e0 : (-i).toNat = 0 := by omega
        have hc : ∀ way : Toward, way = .even ∨ way = .down → way.cut s (m <<< i.toNat) (-i).toNat = m <<< i.toNat := by
          intro way hw
          obtain ⟨b, hb1, hb2, hb3⟩ := way_cut hw s (m <<< i.toNat) (-i).toNat
          rw [hb2, hb3 (by rw [e0, Nat.pow_zero, Nat.mod_one]), e0, Nat.pow_zero, Nat.div_one, Nat.add_zero]
        have hx : IsI x (signed s (m <<< i.toNat) 0) := by
          refine ⟨s, m, i, e, hi1, ?_⟩
          rw [signed_scale _ _ _ 1074, signed_shift]
          congr 1; omega
        have hnv : nearV x = if -9000000000000000000 ≤ signed s (m <<< i.toNat) 0 ∧ signed s (m <<< i.toNat) 0 ≤ 9000000000000000000 then signed s (m <<< i.toNat) 0 else 0 := by
          unfold nearV; rw [e]; simp only []; rw [hc .even (.inl rfl)]
        refine ⟨_, _, hx.order c9_isI, hx.order m9_isI, ?_, ?_, ?_⟩
        · rw [compare_gt, hnv]; intro h; rw [if_neg (by omega)]
        · rw [compare_lt, hnv]; intro h; rw [if_neg (by omega)]
        · rw [Ne, compare_gt, Ne, compare_lt]
          intro h1 h2 f hf
          rcases hf with ⟨hf, _⟩ | ⟨_, rfl⟩
          · rw [hn] at hf; cases hf
          · rw [hc .down (.inr rfl)] at hD
            refine ⟨_, .lt, toVal hD (by omega) (by omega), by omega, by omega, ?_, ?_⟩
            · exact diff_zero hx hD
            · rw [hnv, if_pos (by omega)]; simp
end Go.Proofs.YtcppgbhjbmfldaaGreatDoor

/- Walks: the nearest angle of a number of radians: package grain's, the reference's. -/
namespace Go.Proofs.YtcppgbhjbmfldaaGreatDoor
open Go.RowKit Go.Fp Go.Rel
set_option maxRecDepth 20000

abbrev cRad : Nat := 4445950764994258515
/-- the nearest angle of a number of radians -/
def nearP (x : Nat) : Int := nearV (fdiv x (can cRad))

theorem conv_run (w : World) {x : Nat} {n : Int} (h : floatToIntVal .f64 x .i64 = some n) : (convert 41 3 (.float .f64 x)).run Tryz.prog w = .ok (.int .i64 n) w :=
  run_convert_float_int w _ _ .f64 .i64 x n (by rw [Tryz.underlying41]; rfl) Tryz.underlying3 h

theorem near_eq {x r : Nat} (hr : can r = fbin BinOp.quo (can x) (can cRad)) : nearV r = nearV (fdiv (can x) (can cRad)) := by
  rw [← nearV_can, hr]; rfl

theorem can_fix {r X : Nat} (h : can r = can X) (hn : isNan X = false) : r = X := by
  have hr : isNan r = false := by rw [← isNan_can, h, isNan_can]; exact hn
  rw [can_of_not hr, can_of_not hn] at h; exact h
/-- package grain's way with a quotient, by cases -/
inductive NearA (X : Nat) : Int → Prop
  | nan (h : ∀ r r2, can r = can X → IntR .even r r2 → FloatKind.f64.format.order r2 14114063095424393472 = none) : NearA X 0
  | low (h : ∀ r r2, can r = can X → IntR .even r r2 → FloatKind.f64.format.order r2 14114063095424393472 = some .lt) : NearA X 0
  | high (o : Ordering) (ho : o = .eq ∨ o = .gt) (h : ∀ r r2, can r = can X → IntR .even r r2 → FloatKind.f64.format.order r2 14114063095424393472 = some o ∧ FloatKind.f64.format.order r2 4890691058569617664 = some .gt) : NearA X 0
  | fit (V : Int) (o o' : Ordering) (ho : o = .eq ∨ o = .gt) (ho' : o' = .eq ∨ o' = .lt) (h : ∀ r r2, can r = can X → IntR .even r r2 → FloatKind.f64.format.order r2 14114063095424393472 = some o ∧
      FloatKind.f64.format.order r2 4890691058569617664 = some o' ∧ ∀ w, (convert 41 3 (.float .f64 r2)).run Tryz.prog w = .ok (.int .i64 V) w) : NearA X V
theorem nearA_some (X : Nat) : NearA X (nearV X) := by
  cases hn : isNan X with
  | true =>
    rw [nearV_nan hn]
    refine .nan fun r r2 hr h2 => ?_
    have hr' : isNan r = true := by rw [← isNan_can, hr, isNan_can]; exact hn
    rcases h2 with ⟨_, h2⟩ | ⟨h2, _⟩
    · exact order_l _ _ h2
    · rw [hr'] at h2; cases h2
  | false =>
    have hI : IntR .even X (D.write ((D.read X).integral .even)) := .inr ⟨hn, rfl⟩
    have hall : ∀ r r2, can r = can X → IntR .even r r2 → r2 = D.write ((D.read X).integral .even) := by
      intro r r2 hr h2
      have := can_fix hr hn
      subst this
      rcases h2 with ⟨h2, _⟩ | ⟨_, h2⟩
      · rw [hn] at h2; cases h2
      · exact h2
    generalize D.write ((D.read X).integral .even) = R at *
    rcases near_prog hI with ⟨h0, hz⟩ | ⟨o1, o2, e1, e2, z1, z2, hv⟩
    · rw [hz]
      exact .nan fun r r2 hr h2 => by rw [hall r r2 hr h2]; exact order_l _ _ h0
    · cases o1 with
      | lt => rw [z1 rfl]; exact .low fun r r2 hr h2 => by rw [hall r r2 hr h2]; exact e1
      | eq =>
        cases o2 with
        | gt => rw [z2 rfl]; exact .high .eq (.inl rfl) fun r r2 hr h2 => by rw [hall r r2 hr h2]; exact ⟨e1, e2⟩
        | eq => exact .fit _ .eq .eq (.inl rfl) (.inl rfl) fun r r2 hr h2 => by rw [hall r r2 hr h2]; exact ⟨e1, e2, fun w => conv_run w (hv (by simp) (by simp))⟩
        | lt => exact .fit _ .eq .lt (.inl rfl) (.inr rfl) fun r r2 hr h2 => by rw [hall r r2 hr h2]; exact ⟨e1, e2, fun w => conv_run w (hv (by simp) (by simp))⟩
      | gt =>
        cases o2 with
        | gt => rw [z2 rfl]; exact .high .gt (.inr rfl) fun r r2 hr h2 => by rw [hall r r2 hr h2]; exact ⟨e1, e2⟩
        | eq => exact .fit _ .gt .eq (.inr rfl) (.inl rfl) fun r r2 hr h2 => by rw [hall r r2 hr h2]; exact ⟨e1, e2, fun w => conv_run w (hv (by simp) (by simp))⟩
        | lt => exact .fit _ .gt .lt (.inr rfl) (.inr rfl) fun r r2 hr h2 => by rw [hall r r2 hr h2]; exact ⟨e1, e2, fun w => conv_run w (hv (by simp) (by simp))⟩

set_option maxHeartbeats 400000 in
theorem nearest_c (x : Nat) (w : World) : Calls Tryz.prog 52 #[.float .f64 x] w (ExR (.int .i64 (nearP (can x))) w) := by
  unfold nearP
  have H := nearA_some (fdiv (can x) (can cRad))
  generalize nearV (fdiv (can x) (can cRad)) = V at *
  rcases H with h | h | ⟨_, rfl | rfl, h⟩ | ⟨_, _, _, rfl | rfl, rfl | rfl, h⟩
  all_goals
    have HH := Lib.hid h
    clear h
    go_enter Tryz.func52, Tryz.ntmps52
    go_wp2_with (first
      | (with_reducible refine upon_fl rfl ?_; intro r n hr)
      | (with_reducible refine upon_int round_entry ?_; go_must (intro r2 n2 hr2; have hf := HH.out r r2 (by rw [hr, can_fdiv]; simp only [fbin]) hr2; (try obtain ⟨e1, e2, e3⟩ := hf); (try obtain ⟨e1, e2⟩ := hf); clear hr hr2 HH)))
    go_ret
    exact ⟨rfl, by repeat (first | exact Ext.refl _ | refine Ext.drewN ?_ _)⟩

/-- the reference's way with a quotient, by cases -/
inductive NearB (X : Nat) : Int → Prop
  | nan (h : ∀ r, can r = can X → FloatKind.f64.format.order r r = none) : NearB X 0
  | high (h : ∀ r, can r = can X → FloatKind.f64.format.order r r = some .eq ∧ FloatKind.f64.format.order r 4890691058569617664 = some .gt) : NearB X 0
  | low (o : Ordering) (ho : o = .eq ∨ o = .lt) (h : ∀ r, can r = can X → FloatKind.f64.format.order r r = some .eq ∧ FloatKind.f64.format.order r 4890691058569617664 = some o ∧ FloatKind.f64.format.order r 14114063095424393472 = some .lt) : NearB X 0
  | fit (V : Int) (o o' q : Ordering) (ho : o = .eq ∨ o = .lt) (ho' : o' = .eq ∨ o' = .gt) (hV : IntKind.i64.wrap (V + 1) = V + 1)
      (h : ∀ r, can r = can X → FloatKind.f64.format.order r r = some .eq ∧ FloatKind.f64.format.order r 4890691058569617664 = some o ∧ FloatKind.f64.format.order r 14114063095424393472 = some o')
      (hf : ∀ r f, can r = can X → IntR .down r f → ∀ w, (convert 41 3 (.float .f64 f)).run Tryz.prog w = .ok (.int .i64 V) w)
      (hd : ∀ r f d, can r = can X → IntR .down r f → can d = fsub (can r) (can f) → FloatKind.f64.format.order d 4602678819172646912 = some q) : NearB X (if q = .gt ∨ q = .eq ∧ V.tmod 2 ≠ 0 then V + 1 else V)
theorem nearB_some (X : Nat) : NearB X (nearV X) := by
  rcases near_ref X with ⟨hn, hz⟩ | ⟨hn, o1, o2, e1, e2, z1, z2, hv⟩
  · rw [hz]
    refine .nan fun r hr => order_l _ _ ?_
    rw [← isNan_can, hr, isNan_can]; exact hn
  · have e0 : D.order X X = some .eq := order_self hn
    have hfit : o1 ≠ .gt → o2 ≠ .lt → (o1 = .eq ∨ o1 = .lt) → (o2 = .eq ∨ o2 = .gt) → NearB X (nearV X) := by
      intro h1 h2 h3 h4
      obtain ⟨V, o, c1, c2, c3, c4, c5⟩ := hv h1 h2 _ (.inr ⟨hn, rfl⟩)
      rw [c5]
      refine .fit V o1 o2 o h3 h4 (IntWalk.i64_in _ ⟨by omega, by omega⟩) (fun r hr => ?_) (fun r f hr hf w => ?_) (fun r f d hr hf hd => ?_)
      · rw [can_fix hr hn]; exact ⟨e0, e1, e2⟩
      · have := can_fix hr hn
        subst this
        rcases hf with ⟨hf, _⟩ | ⟨_, rfl⟩
        · rw [hn] at hf; cases hf
        · exact conv_run w c1
      · have := can_fix hr hn
        subst this
        rcases hf with ⟨hf, _⟩ | ⟨_, rfl⟩
        · rw [hn] at hf; cases hf
        · rw [fsub_can] at hd
          have h1 := order_can d half
          rw [hd] at h1
          have h2 := order_can (fsub r (D.write ((D.read r).integral .down))) half
          rw [can_fsub] at h2
          have hh : D.order d half = some o := h1.symm.trans (h2.trans c4)
          exact hh
    cases o1 with
    | gt => rw [z1 rfl]; exact .high fun r hr => by rw [can_fix hr hn]; exact ⟨e0, e1⟩
    | eq =>
      cases o2 with
      | lt => rw [z2 rfl]; exact .low .eq (.inl rfl) fun r hr => by rw [can_fix hr hn]; exact ⟨e0, e1, e2⟩
      | eq => exact hfit (by simp) (by simp) (.inl rfl) (.inl rfl)
      | gt => exact hfit (by simp) (by simp) (.inl rfl) (.inr rfl)
    | lt =>
      cases o2 with
      | lt => rw [z2 rfl]; exact .low .lt (.inr rfl) fun r hr => by rw [can_fix hr hn]; exact ⟨e0, e1, e2⟩
      | eq => exact hfit (by simp) (by simp) (.inr rfl) (.inl rfl)
      | gt => exact hfit (by simp) (by simp) (.inr rfl) (.inr rfl)

set_option maxHeartbeats 400000 in
theorem nearestTo_c (x : Nat) (w : World) : Calls Tryz.prog 61 #[.float .f64 x] w (ExR (.int .i64 (nearP (can x))) w) := by
  unfold nearP
  have H := nearB_some (fdiv (can x) (can cRad))
  generalize nearV (fdiv (can x) (can cRad)) = V at *
  have tk : Hid True := trivial
  rcases H with h | h | ⟨_, rfl | rfl, h⟩ | ⟨V, o, o', q, ho, ho', hV, h, hf, hd⟩
  rotate_left 4
  · have HH := Lib.hid h
    have HF := Lib.hid hf
    have HD := Lib.hid hd
    clear h hf hd
    have hres : ∀ v, (v = if q = .gt ∨ q = .eq ∧ V.tmod 2 ≠ 0 then V + 1 else V) → (q = .lt ∧ v = V) ∨ (q = .eq ∧ V.tmod 2 = 0 ∧ v = V) ∨ (q = .eq ∧ ¬ V.tmod 2 = 0 ∧ v = V + 1) ∨ (q = .gt ∧ v = V + 1) := by
      intro v hv
      cases q <;> by_cases hm : V.tmod 2 = 0 <;> simp_all
    replace hres := hres _ rfl
    generalize (if q = .gt ∨ q = .eq ∧ V.tmod 2 ≠ 0 then V + 1 else V) = v at *
    rcases hres with ⟨rfl, rfl⟩ | ⟨rfl, hm, rfl⟩ | ⟨rfl, hm, rfl⟩ | ⟨rfl, rfl⟩
    all_goals
      rcases ho with rfl | rfl <;> rcases ho' with rfl | rfl
      all_goals
        go_enter Tryz.func61, Tryz.ntmps61
        go_wp2_with (first
          | (clear tk; with_reducible refine upon_fl rfl ?_; go_must (intro r n hr; obtain ⟨e1, e2, e3⟩ := HH.out r (by rw [hr, can_fdiv]; simp only [fbin])))
          | (go_at_call 48; go_must (refine (floor_c _ _).mono ?_; rintro e w1 ⟨f, rfl, hfi, hx⟩; have hc := HF.out r f (by rw [hr, can_fdiv]; simp only [fbin]) hfi))
          | (with_reducible refine upon_fl rfl ?_; go_must (intro d nd hd2; have hq := HD.out r f d (by rw [hr, can_fdiv]; simp only [fbin]) hfi (by rw [hd2]; simp only [fbin]); clear hd2 hc hfi)))
        go_ret
        exact ⟨rfl, by repeat (first | exact hx.of_drewN | refine Ext.drewN ?_ _)⟩
  all_goals
    have HH := Lib.hid h
    clear h
    go_enter Tryz.func61, Tryz.ntmps61
    go_wp2_with (first
      | (with_reducible refine upon_fl rfl ?_; intro r n hr; have hf := HH.out r (by rw [hr, can_fdiv]; simp only [fbin]); (try obtain ⟨e1, e2, e3⟩ := hf); (try obtain ⟨e1, e2⟩ := hf); clear hr HH))
    go_ret
    exact ⟨rfl, by repeat (first | exact Ext.refl _ | refine Ext.drewN ?_ _)⟩
end Go.Proofs.YtcppgbhjbmfldaaGreatDoor

/- Numbers times a power of two, exactly: halving, doubling. -/
namespace Go.Fp
open Ieee

/-- a number is written alike however it is told -/
theorem nearest_shift (s : Bool) (M c : Nat) (base : Int) (hM : M ≠ 0) : D.nearest s (M <<< c) base = D.nearest s M (base + c) := by
  have hne : M <<< c ≠ 0 := by rw [Nat.shiftLeft_eq]; exact Nat.mul_ne_zero hM (by have := Nat.two_pow_pos c; omega)
  unfold Format.nearest
  rw [if_neg hne, if_neg hM]
  have hl := log2_shift_le M c hM
  simp only [D_least, D_frac, D_bin, hl]
  have e1 : max (base + ((M.log2 + c : Nat) : Int) - 52) (-1074) = max (base + c + (M.log2 : Int) - 52) (-1074) := by omega
  rw [e1]
  generalize max (base + c + (M.log2 : Int) - 52) (-1074) = last
  have hk : Toward.even.cut s ((M <<< c) <<< (base - last).toNat) (last - base).toNat = Toward.even.cut s (M <<< (base + c - last).toNat) (last - (base + c)).toNat := by
    by_cases h1 : last ≤ base
    · have a1 : (last - base).toNat = 0 := by omega
      have a2 : (last - (base + c)).toNat = 0 := by omega
      rw [a1, a2, ← Nat.shiftLeft_add]
      congr 2; omega
    · by_cases h2 : last ≤ base + c
      · have a1 : (base - last).toNat = 0 := by omega
        have a2 : (last - (base + c)).toNat = 0 := by omega
        rw [a1, a2, Nat.shiftLeft_zero, cut_none s M c _ (by omega)]
        have := cut_none s M (base + c - last).toNat 0 (Nat.zero_le _)
        rw [this]
        congr 1; omega
      · have a1 : (base - last).toNat = 0 := by omega
        have a2 : (base + c - last).toNat = 0 := by omega
        rw [a1, a2, Nat.shiftLeft_zero, Nat.shiftLeft_zero, cut_even, cut_even]
        have a3 : (last - base).toNat = (last - (base + c)).toNat + c := by omega
        rw [a3, Nat.shiftLeft_eq, Nat.pow_add]
        have hp := Nat.two_pow_pos c
        rw [Nat.mul_div_mul_right _ _ hp, Nat.mul_mod_mul_right]
        generalize 2 ^ (last - (base + ↑c)).toNat = P
        generalize M / P = q
        generalize M % P = r
        generalize 2 ^ c = Z at *
        have i1 : (P * Z < 2 * (r * Z)) ↔ (P < 2 * r) := by
          rw [← Nat.mul_assoc]; exact Nat.mul_lt_mul_right hp
        have i2 : (P * Z = 2 * (r * Z)) ↔ (P = 2 * r) := by
          rw [← Nat.mul_assoc]; exact ⟨fun h => Nat.eq_of_mul_eq_mul_right hp h, fun h => by rw [h]⟩
        simp only [i1, i2]
  rw [hk]

abbrev two : Nat := 4611686018427387904
theorem two_read : D.read two = .number false (2 ^ 52) (-51) := by decide +kernel
theorem mul_read {x y m n : Nat} {i j : Int} {s t : Bool} (hx : D.read x = .number s m i) (hy : D.read y = .number t n j) : fmul x y = D.nearest (s ^^ t) (m * n) (i + j) := by
  have e : D.mul x y = some (D.nearest (s ^^ t) (m * n) (i + j)) := by
    unfold Format.mul; rw [hx, hy]; rfl
  unfold fmul opt; rw [e]; rfl
theorem div_read {x y m n : Nat} {i j : Int} {s t : Bool} (hx : D.read x = .number s m i) (hy : D.read y = .number t n j) (hn : n ≠ 0) :
    fdiv x y = D.nearest (s ^^ t) (2 * (m <<< (54 + n.log2 - m.log2) / n) + ((m <<< (54 + n.log2 - m.log2)) % n != 0).toNat) (i - j - ((54 + n.log2 - m.log2 : Nat) : Int) - 1) := by
  have e : D.div x y = some (D.nearest (s ^^ t) (2 * (m <<< (54 + n.log2 - m.log2) / n) + ((m <<< (54 + n.log2 - m.log2)) % n != 0).toNat) (i - j - ((54 + n.log2 - m.log2 : Nat) : Int) - 1)) := by
    unfold Format.div; rw [hx, hy]
    unfold Datum.quotient
    simp only [hn, if_false]
    rfl
  unfold fdiv opt; rw [e]; rfl
theorem mul_two {x m : Nat} {i : Int} {s : Bool} (hx : D.read x = .number s m i) (hm : m ≠ 0) : fmul x two = D.nearest s m (i + 1) := by
  rw [mul_read hx two_read, ← Nat.shiftLeft_eq, nearest_shift _ _ _ _ hm, Bool.xor_false]
  congr 1; omega
theorem div_two {x m : Nat} {i : Int} {s : Bool} (hx : D.read x = .number s m i) (hm : m ≠ 0) (hm2 : m < 2 ^ 53) : fdiv x two = D.nearest s m (i - 1) := by
  have hl : m.log2 ≤ 52 := log2_of hm hm2
  have e52 : (2 ^ 52 : Nat).log2 = 52 := by decide
  rw [div_read hx two_read (by decide), e52]
  obtain ⟨d, hd⟩ : ∃ d, 54 + 52 - m.log2 = d + 52 := ⟨54 - m.log2, by omega⟩
  rw [hd]
  have a1 : m <<< (d + 52) = (m <<< d) * 2 ^ 52 := by rw [Nat.shiftLeft_add, Nat.shiftLeft_eq _ 52]
  rw [a1, Nat.mul_div_cancel _ (Nat.two_pow_pos 52), Nat.mul_mod_left]
  have a2 : 2 * m <<< d + ((0 : Nat) != 0).toNat = m <<< (d + 1) := by
    rw [Nat.shiftLeft_succ]; simp
  rw [a2, nearest_shift _ _ _ _ hm, Bool.xor_false]
  congr 1; omega

/-- m times 2 ^ j, where the format has it -/
def W (m : Nat) (j : Int) : Nat := D.nearest false m j
theorem W_read {m : Nat} {j : Int} (hm : m ≠ 0) (hm2 : m < 2 ^ 53) (h1 : -1074 ≤ j) (h2 : j ≤ 971) : ∃ m' p, D.read (W m j) = .number false m' p ∧ m' ≠ 0 ∧ m' < 2 ^ 53 ∧ -1074 ≤ p ∧ m' <<< (p + 1074).toNat = m <<< (j + 1074).toNat := by
  obtain ⟨m', p, hr, hp, hv⟩ := read_exact false m 0 j hm2 h1 (by omega)
  rw [Nat.shiftLeft_zero] at hr
  have e : (j + ((0 : Nat) : Int) + 1074).toNat = (j + 1074).toNat := by omega
  rw [e] at hv
  refine ⟨m', p, hr, ?_, (read_fields hr).1, hp, hv⟩
  intro h
  rw [h, Nat.zero_shiftLeft, Nat.shiftLeft_eq] at hv
  have := Nat.mul_ne_zero hm (show 2 ^ (j + 1074).toNat ≠ 0 by have := Nat.two_pow_pos (j + 1074).toNat; omega)
  exact this hv.symm
theorem nearest_val {m m' : Nat} {i j : Int} (hm : m ≠ 0) (hm' : m' ≠ 0) (hi : -1074 ≤ i) (hj : -1074 ≤ j) (h : m' <<< (i + 1074).toNat = m <<< (j + 1074).toNat) (d : Int) : D.nearest false m' (i + d) = D.nearest false m (j + d) := by
  rcases Int.le_total i j with hij | hij
  · have : m' = m <<< (j - i).toNat := by
      have e : (j + 1074).toNat = (j - i).toNat + (i + 1074).toNat := by omega
      rw [e, Nat.shiftLeft_add, Nat.shiftLeft_eq, Nat.shiftLeft_eq (m <<< _)] at h
      exact Nat.eq_of_mul_eq_mul_right (Nat.two_pow_pos _) h
    rw [this, nearest_shift _ _ _ _ hm]
    congr 1; omega
  · have : m = m' <<< (i - j).toNat := by
      have e : (i + 1074).toNat = (i - j).toNat + (j + 1074).toNat := by omega
      rw [e, Nat.shiftLeft_add, Nat.shiftLeft_eq, Nat.shiftLeft_eq m] at h
      exact (Nat.eq_of_mul_eq_mul_right (Nat.two_pow_pos _) h).symm
    rw [this, nearest_shift _ _ _ _ hm']
    congr 1; omega
theorem W_double {m : Nat} {j : Int} (hm : m ≠ 0) (hm2 : m < 2 ^ 53) (h1 : -1074 ≤ j) (h2 : j ≤ 971) : fmul (W m j) two = W m (j + 1) := by
  obtain ⟨m', p, hr, h0, _, hp, hv⟩ := W_read hm hm2 h1 h2
  rw [mul_two hr h0]
  exact nearest_val hm h0 hp h1 hv 1
theorem W_half {m : Nat} {j : Int} (hm : m ≠ 0) (hm2 : m < 2 ^ 53) (h1 : -1074 ≤ j) (h2 : j ≤ 971) : fdiv (W m j) two = W m (j - 1) := by
  obtain ⟨m', p, hr, h0, hlt, hp, hv⟩ := W_read hm hm2 h1 h2
  rw [div_two hr h0 hlt]
  exact nearest_val hm h0 hp h1 hv (-1)
end Go.Fp

/- A number as what lies between two bounds, one twice the other, times a power of two. -/
namespace Go.Fp
open Ieee

theorem read_canon {x : Nat} {s : Bool} {m : Nat} {i : Int} (h : D.read x = .number s m i) : (m < 2 ^ 52 ∧ i = -1074) ∨ (2 ^ 52 ≤ m ∧ m < 2 ^ 53 ∧ -1074 ≤ i) := by
  unfold Format.read at h
  simp only [D_sign, D_inf, D_bin, D_least] at h
  split at h
  · cases h; left; omega
  · split at h
    · cases h; right; omega
    · split at h <;> cases h
theorem canon_eq {m m' : Nat} {i i' : Int} (h : (m < 2 ^ 52 ∧ i = -1074) ∨ (2 ^ 52 ≤ m ∧ m < 2 ^ 53 ∧ -1074 ≤ i)) (h' : (m' < 2 ^ 52 ∧ i' = -1074) ∨ (2 ^ 52 ≤ m' ∧ m' < 2 ^ 53 ∧ -1074 ≤ i'))
    (hv : m <<< (i + 1074).toNat = m' <<< (i' + 1074).toNat) : m = m' ∧ i = i' := by
  have key : ∀ {a b : Nat} {p q : Int}, ((a < 2 ^ 52 ∧ p = -1074) ∨ (2 ^ 52 ≤ a ∧ a < 2 ^ 53 ∧ -1074 ≤ p)) → ((b < 2 ^ 52 ∧ q = -1074) ∨ (2 ^ 52 ≤ b ∧ b < 2 ^ 53 ∧ -1074 ≤ q)) → a <<< (p + 1074).toNat = b <<< (q + 1074).toNat → p < q → False := by
    intro a b p q ha hb hv hpq
    have e : (q + 1074).toNat = (q - p).toNat + (p + 1074).toNat := by omega
    rw [e, Nat.shiftLeft_add, Nat.shiftLeft_eq, Nat.shiftLeft_eq (b <<< _)] at hv
    have h1 := Nat.eq_of_mul_eq_mul_right (Nat.two_pow_pos _) hv
    obtain ⟨d, hd⟩ : ∃ d, (q - p).toNat = d + 1 := ⟨(q - p).toNat - 1, by omega⟩
    rw [hd, Nat.shiftLeft_eq, Nat.pow_succ] at h1
    have hp := Nat.two_pow_pos d
    have h2 : b * 2 ≤ a := by
      rw [h1, ← Nat.mul_assoc, Nat.mul_right_comm]
      exact Nat.le_mul_of_pos_right _ hp
    omega
  rcases Int.lt_trichotomy i i' with hlt | heq | hgt
  · exact (key h h' hv hlt).elim
  · subst heq
    rw [Nat.shiftLeft_eq, Nat.shiftLeft_eq] at hv
    exact ⟨Nat.eq_of_mul_eq_mul_right (Nat.two_pow_pos _) hv, rfl⟩
  · exact (key h' h hv.symm hgt).elim
/-- a number reads as its own telling does -/
theorem read_W {x m : Nat} {i : Int} (h : D.read x = .number false m i) (hm : m ≠ 0) : D.read x = D.read (W m i) := by
  obtain ⟨hlt, h1, h2⟩ := read_fields h
  obtain ⟨m', p, hr, _, _, hp, hv⟩ := W_read hm hlt h1 h2
  obtain ⟨rfl, rfl⟩ := canon_eq (read_canon hr) (read_canon h) hv
  rw [h, hr]
theorem step_half {x m : Nat} {j : Int} (h : D.read x = D.read (W m j)) (hm : m ≠ 0) (hm2 : m < 2 ^ 53) (h1 : -1074 ≤ j) (h2 : j ≤ 971) : fdiv x two = W m (j - 1) := by
  obtain ⟨m', p, hr, h0, hlt, hp, hv⟩ := W_read hm hm2 h1 h2
  rw [div_two (h.trans hr) h0 hlt]
  exact nearest_val hm h0 hp h1 hv (-1)
theorem step_double {x m : Nat} {j : Int} (h : D.read x = D.read (W m j)) (hm : m ≠ 0) (hm2 : m < 2 ^ 53) (h1 : -1074 ≤ j) (h2 : j ≤ 971) : fmul x two = W m (j + 1) := by
  obtain ⟨m', p, hr, h0, _, hp, hv⟩ := W_read hm hm2 h1 h2
  rw [mul_two (h.trans hr) h0]
  exact nearest_val hm h0 hp h1 hv 1
/-- how it stands to a number -/
theorem order_W {x m c C : Nat} {j q : Int} (h : D.read x = D.read (W m j)) (hm : m ≠ 0) (hm2 : m < 2 ^ 53) (h1 : -1074 ≤ j) (h2 : j ≤ 971) (hc : D.read c = .number false C q) (hq : -1074 ≤ q) :
    D.order x c = some (compare ((m * 2 ^ (j + 1074).toNat : Nat) : Int) ((C * 2 ^ (q + 1074).toNat : Nat) : Int)) := by
  obtain ⟨m', p, hr, h0, _, hp, hv⟩ := W_read hm hm2 h1 h2
  rw [order_sv (h.trans hr) hc hp hq]
  rw [Nat.shiftLeft_eq, Nat.shiftLeft_eq] at hv
  rw [signed_eq, signed_eq, ← hv]
  simp only [sg, Bool.false_eq_true, if_false, Int.one_mul, Int.natCast_mul]

/-- the root of one half, as the programs have it; twice that -/
abbrev cRoot : Nat := 4604544271217802189
abbrev cRoot2 : Nat := 4609047870845172685
abbrev CR : Nat := 6369051672525773
theorem root_read : D.read cRoot = .number false CR (-53) := by decide +kernel
theorem root2_read : D.read cRoot2 = .number false CR (-52) := by decide +kernel
theorem mul_pow_double (c k l : Nat) (h : l = k + 1) : c * 2 ^ l = c * 2 ^ k * 2 := by subst h; rw [Nat.pow_succ, Nat.mul_assoc]
theorem pow_split (l a b : Nat) (h : l = a + b) : 2 ^ l = 2 ^ a * 2 ^ b := by subst h; exact Nat.pow_add 2 a b
theorem mul_le_pow (a b k : Nat) (h : a ≤ b) : a * 2 ^ k ≤ b * 2 ^ k := Nat.mul_le_mul_right _ h
theorem mul_lt_pow (a b k : Nat) (h : a < b) : a * 2 ^ k < b * 2 ^ k := Nat.mul_lt_mul_of_pos_right h (Nat.two_pow_pos _)
theorem pow_split2 (l a b : Nat) (h : l + 1 = a + b) : 2 ^ l * 2 = 2 ^ a * 2 ^ b := by rw [← Nat.pow_add, ← h, Nat.pow_succ]
/-- within the bounds -/
def Mid (m : Nat) (j : Int) : Prop := CR * 2 ^ 1021 ≤ m * 2 ^ (j + 1074).toNat ∧ m * 2 ^ (j + 1074).toNat < CR * 2 ^ 1022
theorem mid_unique {m : Nat} {j j' : Int} (h : Mid m j) (h' : Mid m j') (h1 : -1074 ≤ j) (h1' : -1074 ≤ j') : j = j' := by
  have key : ∀ {p q : Int}, Mid m p → Mid m q → -1074 ≤ p → p < q → False := by
    intro p q hp hq h1 hlt
    obtain ⟨d, hd⟩ : ∃ d, (q + 1074).toNat = (p + 1074).toNat + 1 + d := ⟨(q - p - 1).toNat, by omega⟩
    have h2 := hq.2
    have h3 := hp.1
    rw [hd, Nat.pow_add, Nat.pow_succ] at h2
    have hpos := Nat.two_pow_pos d
    have h4 : m * 2 ^ (p + 1074).toNat * 2 ≤ m * (2 ^ (p + 1074).toNat * 2 * 2 ^ d) := by
      rw [← Nat.mul_assoc, ← Nat.mul_assoc]
      exact Nat.le_mul_of_pos_right _ hpos
    have h5 : CR * 2 ^ 1022 = CR * 2 ^ 1021 * 2 := mul_pow_double CR 1021 1022 rfl
    rw [h5] at h2
    generalize CR * 2 ^ 1021 = Z at *
    omega
  rcases Int.lt_trichotomy j j' with hlt | heq | hgt
  · exact (key h h' h1 hlt).elim
  · exact heq
  · exact (key h' h h1' hgt).elim
/-- the place at which a number lies within the bounds -/
def midJ (m : Nat) : Int := if m * 2 ^ (1073 - m.log2) < CR * 2 ^ 1021 then -(m.log2 : Int) else -(m.log2 : Int) - 1
theorem midJ_ok {m : Nat} (hm : m ≠ 0) (hm2 : m < 2 ^ 53) : Mid m (midJ m) ∧ -53 ≤ midJ m ∧ midJ m ≤ 0 := by
  have hl : m.log2 ≤ 52 := log2_of hm hm2
  have h1 := Nat.log2_self_le hm
  have h2 := lt_log2 m
  have p1 : 2 ^ 1073 ≤ m * 2 ^ (1073 - m.log2) := by
    have e : 2 ^ 1073 = 2 ^ m.log2 * 2 ^ (1073 - m.log2) := pow_split 1073 _ _ (by omega)
    rw [e]; exact Nat.mul_le_mul_right _ h1
  have p2 : m * 2 ^ (1073 - m.log2) < 2 ^ 1073 * 2 := by
    have e : 2 ^ 1073 * 2 = 2 ^ (m.log2 + 1) * 2 ^ (1073 - m.log2) := pow_split2 1073 _ _ (by omega)
    rw [e]; exact Nat.mul_lt_mul_of_pos_right h2 (Nat.two_pow_pos _)
  have c1 : 2 ^ 1073 ≤ CR * 2 ^ 1021 := by
    have e : 2 ^ 1073 = 2 ^ 52 * 2 ^ 1021 := pow_split 1073 52 1021 rfl
    rw [e]
    generalize 2 ^ 1021 = Z
    exact Nat.mul_le_mul_right Z (by decide)
  have c2 : CR * 2 ^ 1021 < 2 ^ 1073 * 2 := by
    have e : 2 ^ 1073 * 2 = 2 ^ 53 * 2 ^ 1021 := pow_split2 1073 53 1021 rfl
    have hz := Nat.two_pow_pos 1021
    rw [e]
    generalize 2 ^ 1021 = Z at *
    exact Nat.mul_lt_mul_of_pos_right (by decide) hz
  have c3 : CR * 2 ^ 1022 = CR * 2 ^ 1021 * 2 := mul_pow_double CR 1021 1022 rfl
  unfold midJ Mid
  rw [c3]
  by_cases h : m * 2 ^ (1073 - m.log2) < CR * 2 ^ 1021
  · rw [if_pos h]
    have e : (-(m.log2 : Int) + 1074).toNat = (1073 - m.log2) + 1 := by omega
    have e2 : m * 2 ^ (1073 - m.log2 + 1) = m * 2 ^ (1073 - m.log2) * 2 := by rw [Nat.pow_succ (m := 1073 - m.log2), Nat.mul_assoc]
    rw [e, e2]
    generalize m * 2 ^ (1073 - m.log2) = A at *
    generalize CR * 2 ^ 1021 = Z at *
    generalize 2 ^ 1073 = Y at *
    omega
  · rw [if_neg h]
    have e : (-(m.log2 : Int) - 1 + 1074).toNat = 1073 - m.log2 := by omega
    rw [e]
    generalize m * 2 ^ (1073 - m.log2) = A at *
    generalize CR * 2 ^ 1021 = Z at *
    generalize 2 ^ 1073 = Y at *
    omega
end Go.Fp

/- The bits of a number's exponent, of its fraction. -/
namespace Go.Fp
open Ieee

theorem andNot_exp (x : Nat) (h : x / 2 ^ 63 % 2 = 0) : bits .andNot .u64 (x : Int) 9218868437227405312 = ((x % 2 ^ 52 : Nat) : Int) := by
  show IntKind.u64.wrap ((BitVec.ofInt 64 (x : Int) &&& ~~~BitVec.ofInt 64 9218868437227405312 : BitVec 64).toNat : Int) = ((x % 2 ^ 52 : Nat) : Int)
  have h2 : (BitVec.ofInt 64 (x : Int) &&& ~~~BitVec.ofInt 64 9218868437227405312) = (BitVec.ofNat 64 (x % 2 ^ 52)) := by
    apply BitVec.eq_of_getElem_eq
    intro i hi
    have hm : ∀ i, i < 64 → (BitVec.ofInt 64 9218868437227405312).getLsbD i = (decide (52 ≤ i) && decide (i < 63)) := by decide
    have hmi := hm i hi
    rw [BitVec.getLsbD_eq_getElem hi] at hmi
    rw [BitVec.getElem_and, BitVec.getElem_not, hmi]
    rw [← BitVec.getLsbD_eq_getElem, ← BitVec.getLsbD_eq_getElem]
    rw [BitVec.ofInt_natCast, BitVec.getLsbD_ofNat, BitVec.getLsbD_ofNat, Nat.testBit_mod_two_pow]
    by_cases h63 : i = 63
    · subst h63
      have : x.testBit 63 = false := by
        rw [Nat.testBit_eq_decide_div_mod_eq]; simp; omega
      simp [this]
    · by_cases h52 : 52 ≤ i
      · have : i < 63 := by omega
        simp [h52, this]
        intro _ h; omega
      · have : i < 52 := by omega
        simp [h52, hi, this]
  rw [h2, BitVec.toNat_ofNat, IntKind.wrap_u64]
  have : x % 2 ^ 52 < 2 ^ 52 := Nat.mod_lt _ (by decide)
  omega
theorem and_exp (y : Nat) : bits .and .u64 (y : Int) 2047 = ((y % 2048 : Nat) : Int) := by
  show IntKind.u64.wrap ((BitVec.ofInt 64 (y : Int) &&& BitVec.ofInt 64 2047 : BitVec 64).toNat : Int) = _
  have h1 : (BitVec.ofInt 64 (y : Int) &&& BitVec.ofInt 64 2047 : BitVec 64).toNat = y % 2048 := by
    rw [BitVec.toNat_and, BitVec.ofInt_natCast, BitVec.toNat_ofNat]
    have h2 : (BitVec.ofInt 64 2047 : BitVec 64).toNat = 2 ^ 11 - 1 := by decide
    rw [h2, Nat.and_two_pow_sub_one_eq_mod]
    omega
  rw [h1, IntKind.wrap_u64]
  omega
theorem or_half (y : Nat) (h : y < 2 ^ 52) : bits .or .u64 (y : Int) 4602678819172646912 = ((1022 * 2 ^ 52 + y : Nat) : Int) := by
  show IntKind.u64.wrap ((BitVec.ofInt 64 (y : Int) ||| BitVec.ofInt 64 4602678819172646912 : BitVec 64).toNat : Int) = _
  have h1 : (BitVec.ofInt 64 (y : Int) ||| BitVec.ofInt 64 4602678819172646912 : BitVec 64).toNat = 1022 * 2 ^ 52 + y := by
    rw [BitVec.toNat_or, BitVec.ofInt_natCast, BitVec.toNat_ofNat]
    have h2 : (BitVec.ofInt 64 4602678819172646912 : BitVec 64).toNat = 1022 <<< 52 := by decide
    have h3 : y % 2 ^ 64 = y := by omega
    rw [h2, h3, Nat.or_comm, ← Nat.shiftLeft_add_eq_or_of_lt h, Nat.shiftLeft_eq]
  rw [h1, IntKind.wrap_u64]
  omega

/-- a number that is not small: its word's fields -/
theorem read_norm {x m : Nat} {i : Int} (h : D.read x = .number false m i) (hm : 2 ^ 52 ≤ m) : x / 2 ^ 63 % 2 = 0 ∧ m = 2 ^ 52 + x % 2 ^ 52 ∧ ((x / 2 ^ 52 % 2048 : Nat) : Int) = i + 1075 := by
  obtain ⟨hs, hr⟩ : (x / 2 ^ 63 % 2 == 1) = false ∧ ((x % 2 ^ 63 < 2 ^ 52 ∧ m = x % 2 ^ 63) ∨ (2 ^ 52 ≤ x % 2 ^ 63 ∧ x % 2 ^ 63 < 2047 * 2 ^ 52 ∧ m = 2 ^ 52 + x % 2 ^ 63 % 2 ^ 52 ∧ i = -1074 + (x % 2 ^ 63 / 2 ^ 52 - 1 : Nat))) := by
    unfold Format.read at h
    simp only [D_sign, D_inf, D_bin, D_least] at h
    by_cases h1 : x % 2 ^ 63 < 2 ^ 52
    · rw [if_pos h1, Datum.number.injEq] at h
      exact ⟨h.1, .inl ⟨h1, h.2.1.symm⟩⟩
    · rw [if_neg h1] at h
      by_cases h2 : x % 2 ^ 63 < 2047 * 2 ^ 52
      · rw [if_pos h2, Datum.number.injEq] at h
        exact ⟨h.1, .inr ⟨by omega, h2, h.2.1.symm, h.2.2.symm⟩⟩
      · rw [if_neg h2] at h
        split at h <;> cases h
  have hs' : ¬ (x / 2 ^ 63 % 2 = 1) := by
    intro e; rw [e] at hs; cases hs
  rcases hr with ⟨h1, h2⟩ | ⟨h1, h2, h3, h4⟩
  · omega
  · refine ⟨by omega, ?_, ?_⟩
    · rw [h3]; congr 1; omega
    · rw [h4]; omega

/-- the fraction of a number that is not small, from a half on, below one -/
theorem read_fr {x m : Nat} {i : Int} (h : D.read x = .number false m i) (hm : 2 ^ 52 ≤ m) :
    D.read (bits .or .u64 (bits .andNot .u64 (x : Int) 9218868437227405312) 4602678819172646912).toNat = .number false m (-53) := by
  obtain ⟨h1, h2, h3⟩ := read_norm h hm
  have hlt : x % 2 ^ 52 < 2 ^ 52 := Nat.mod_lt _ (by decide)
  rw [andNot_exp x h1, or_half _ hlt, Int.toNat_natCast]
  have e : (1022 * 2 ^ 52 + x % 2 ^ 52) = D.word false (1022 * 2 ^ 52 + x % 2 ^ 52) := rfl
  rw [e, read_word2 false (by omega), if_neg (by omega)]
  have e1 : (1022 * 2 ^ 52 + x % 2 ^ 52) % 2 ^ 52 = x % 2 ^ 52 := by omega
  have e2 : (1022 * 2 ^ 52 + x % 2 ^ 52) / 2 ^ 52 = 1022 := by omega
  rw [e1, e2, ← h2]
  rfl
end Go.Fp

/- The logarithm: what it is; how two loops come to a number's middle. -/
namespace Go.Fp
open Ieee

theorem fsub_rd {a b : Nat} (y : Nat) (h : D.read a = D.read b) : fsub a y = fsub b y := by
  unfold fsub Format.sub; rw [h]
theorem fadd_rd {a b : Nat} (y : Nat) (h : D.read a = D.read b) : fadd a y = fadd b y := by
  unfold fadd Format.add; rw [h]
theorem order_rd {a b : Nat} (y : Nat) (h : D.read a = D.read b) : D.order a y = D.order b y := by
  unfold Format.order; rw [h]
theorem nan_rd {a b : Nat} (h : D.read a = D.read b) : isNan a = isNan b := by
  unfold isNan; rw [h]

theorem lo_of_ge {m : Nat} {j : Int} (h : CR * 2 ^ 1022 ≤ m * 2 ^ (j + 1074).toNat) (hm2 : m < 2 ^ 53) : -53 ≤ j := by
  by_cases hj : -53 ≤ j
  · exact hj
  · exfalso
    have h0 : (j + 1074).toNat ≤ 1020 := by clear h; omega
    have h1 : 2 ^ (j + 1074).toNat ≤ 2 ^ 1020 := two_pow_le (j + 1074).toNat 1020 h0
    have h3 : 2 ^ 1022 = 2 ^ 2 * 2 ^ 1020 := pow_split 1022 2 1020 rfl
    rw [h3] at h
    have hz := Nat.two_pow_pos 1020
    generalize 2 ^ 1020 = Z at *
    have h2 : m * 2 ^ (j + 1074).toNat ≤ 2 ^ 53 * Z := Nat.mul_le_mul (Nat.le_of_lt hm2) h1
    generalize m * 2 ^ (j + 1074).toNat = A at *
    have h4 : CR * (2 ^ 2 * Z) = (CR * 4) * Z := by rw [← Nat.mul_assoc]
    rw [h4] at h
    have h5 : (CR * 4) * Z ≤ 2 ^ 53 * Z := Nat.le_trans h h2
    have h6 := Nat.le_of_mul_le_mul_right h5 hz
    revert h6
    decide
theorem hi_of_lt {m : Nat} {j : Int} (h : m * 2 ^ (j + 1074).toNat < CR * 2 ^ 1021) (hm : m ≠ 0) : j < 0 := by
  by_cases hj : j < 0
  · exact hj
  · exfalso
    have h0 : 1074 ≤ (j + 1074).toNat := by clear h; omega
    have h1 : 2 ^ 1074 ≤ 2 ^ (j + 1074).toNat := two_pow_le 1074 (j + 1074).toNat h0
    have h3 : 2 ^ 1074 = 2 ^ 53 * 2 ^ 1021 := pow_split 1074 53 1021 rfl
    rw [h3] at h1
    have hz := Nat.two_pow_pos 1021
    generalize 2 ^ 1021 = Z at *
    have h2 : 1 * (2 ^ 53 * Z) ≤ m * 2 ^ (j + 1074).toNat := Nat.mul_le_mul (Nat.pos_of_ne_zero hm) h1
    rw [Nat.one_mul] at h2
    have h5 : 2 ^ 53 * Z < CR * Z := Nat.lt_of_le_of_lt h2 h
    have h6 := Nat.lt_of_mul_lt_mul_right h5
    revert h6
    decide
theorem half_bound {m : Nat} {j : Int} (hj : -1073 ≤ j) : m * 2 ^ (j + 1074).toNat = m * 2 ^ (j - 1 + 1074).toNat * 2 := by
  have e : (j + 1074).toNat = (j - 1 + 1074).toNat + 1 := by omega
  rw [e, Nat.pow_succ, Nat.mul_assoc]
/-- the first loop: one step more -/
theorem up_step {m : Nat} {j : Int} (h : CR * 2 ^ 1022 ≤ m * 2 ^ (j + 1074).toNat) (hj : -1073 ≤ j) : CR * 2 ^ 1021 ≤ m * 2 ^ (j - 1 + 1074).toNat := by
  rw [half_bound hj, mul_pow_double CR 1021 1022 rfl] at h
  generalize CR * 2 ^ 1021 = Z at *
  omega
/-- the second loop: one step more -/
theorem down_step {m : Nat} {j : Int} (h : m * 2 ^ (j + 1074).toNat < CR * 2 ^ 1021) (hj : -1074 ≤ j) : m * 2 ^ (j + 1 + 1074).toNat < CR * 2 ^ 1022 := by
  rw [half_bound (j := j + 1) (by omega), mul_pow_double CR 1021 1022 rfl]
  have e : (j + 1 - 1 + 1074).toNat = (j + 1074).toNat := by omega
  rw [e]
  generalize CR * 2 ^ 1021 = Z at *
  omega
theorem at_mid {m : Nat} {j : Int} (hm : m ≠ 0) (hm2 : m < 2 ^ 53) (hj : -1074 ≤ j) (h1 : m * 2 ^ (j + 1074).toNat < CR * 2 ^ 1022) (h2 : CR * 2 ^ 1021 ≤ m * 2 ^ (j + 1074).toNat) : j = midJ m := by
  obtain ⟨h3, h4, h5⟩ := midJ_ok hm hm2
  exact mid_unique ⟨h2, h1⟩ h3 hj (by omega)

/-- the orders, as inequalities -/
theorem ge_root2 {x m : Nat} {j : Int} (h : D.read x = D.read (W m j)) (hm : m ≠ 0) (hm2 : m < 2 ^ 53) (h1 : -1074 ≤ j) (h2 : j ≤ 971) :
    ((D.order x cRoot2 == some .gt || D.order x cRoot2 == some .eq) = true) ↔ CR * 2 ^ 1022 ≤ m * 2 ^ (j + 1074).toNat := by
  rw [order_W h hm hm2 h1 h2 root2_read (by decide)]
  have e : ((-52 : Int) + 1074).toNat = 1022 := by decide
  rw [e]
  generalize CR * 2 ^ 1022 = Z
  generalize m * 2 ^ (j + 1074).toNat = A
  rw [Bool.or_eq_true, beq_iff_eq, beq_iff_eq, Option.some.injEq, Option.some.injEq, compare_gt, compare_eq]
  omega
theorem lt_root {x m : Nat} {j : Int} (h : D.read x = D.read (W m j)) (hm : m ≠ 0) (hm2 : m < 2 ^ 53) (h1 : -1074 ≤ j) (h2 : j ≤ 971) :
    ((D.order x cRoot == some .lt) = true) ↔ m * 2 ^ (j + 1074).toNat < CR * 2 ^ 1021 := by
  rw [order_W h hm hm2 h1 h2 root_read (by decide)]
  have e : ((-53 : Int) + 1074).toNat = 1021 := by decide
  rw [e]
  generalize CR * 2 ^ 1021 = Z
  generalize m * 2 ^ (j + 1074).toNat = A
  rw [beq_iff_eq, Option.some.injEq, compare_lt]
  omega

/-- the same number by its leading digit's place: what Frexp hands back -/
theorem frac_W {m m1 : Nat} {i p : Int} (hm : m ≠ 0) (hm1 : 2 ^ 52 ≤ m1) (hm1' : m1 < 2 ^ 53) (hi : -1074 ≤ i) (hp : -1074 ≤ p) (h : m1 <<< (p + 1074).toNat = m <<< (i + 1074).toNat) :
    p = i + (m.log2 : Int) - 52 ∧ W m1 (-53) = W m (-(m.log2 : Int) - 1) := by
  have h0 : m1 ≠ 0 := by omega
  have l1 : m1.log2 = 52 := by
    have a := log2_of h0 hm1'
    have b := (Nat.le_log2 h0).2 hm1
    omega
  have l2 := log2_shift_le m1 (p + 1074).toNat h0
  have l3 := log2_shift_le m (i + 1074).toNat hm
  rw [h, l3, l1] at l2
  have e : p = i + (m.log2 : Int) - 52 := by omega
  refine ⟨e, ?_⟩
  have := nearest_val hm h0 hp hi h (-53 - p)
  unfold W
  rw [show (-53 : Int) = p + (-53 - p) by omega, this]
  congr 1; omega
end Go.Fp

/- The logarithm: what it is; a number made greater, if it is small. -/
namespace Go.Fp
open Ieee

abbrev cMin : Nat := 4503599627370496
abbrev c52 : Nat := 4841369599423283200
theorem cMin_read : D.read cMin = .number false (2 ^ 52) (-1074) := by decide +kernel
theorem c52_read : D.read c52 = .number false (2 ^ 52) 0 := by decide +kernel
theorem abs_rd {x m : Nat} {i : Int} (h : D.read x = .number false m i) : D.read (absW x) = .number false m i := by
  have hs : (x / 2 ^ 63 % 2 == 1) = false := by
    unfold Format.read at h
    simp only [D_sign, D_inf, D_bin, D_least] at h
    split at h
    · rw [Datum.number.injEq] at h; exact h.1
    · split at h
      · rw [Datum.number.injEq] at h; exact h.1
      · split at h <;> cases h
  rw [← h]
  unfold absW Format.read
  simp only [D_sign, D_inf, D_bin, D_least]
  have e1 : x % 2 ^ 63 % 2 ^ 63 = x % 2 ^ 63 := by omega
  have e2 : (x % 2 ^ 63 / 2 ^ 63 % 2 == 1) = (x / 2 ^ 63 % 2 == 1) := by
    rw [hs]
    have : x % 2 ^ 63 / 2 ^ 63 % 2 = 0 := by omega
    rw [this]; rfl
  rw [e1, e2]
/-- a number that is not small stays -/
theorem big_abs {x m : Nat} {i : Int} (h : D.read x = .number false m i) (hm : 2 ^ 52 ≤ m) : ¬ D.order (absW x) cMin = some .lt := by
  obtain ⟨_, h1, _⟩ := read_fields h
  rw [order_sv (abs_rd h) cMin_read h1 (by decide), Option.some.injEq, compare_lt, signed_eq, signed_eq]
  have e : ((-1074 : Int) + 1074).toNat = 0 := by decide
  have hp := Nat.two_pow_pos (i + 1074).toNat
  have h2 : m ≤ m * 2 ^ (i + 1074).toNat := Nat.le_mul_of_pos_right _ hp
  rw [e]
  simp only [sg, Bool.false_eq_true, if_false, Int.one_mul, Nat.pow_zero]
  rw [← Int.natCast_mul]
  generalize m * 2 ^ (i + 1074).toNat = A at *
  omega
/-- a small number is made greater by 52 places -/
theorem small_abs {x m : Nat} (h : D.read x = .number false m (-1074)) (hm : m < 2 ^ 52) (h0 : m ≠ 0) :
    D.order (absW x) cMin = some .lt ∧ ∃ m1 p1, D.read (fmul x c52) = .number false m1 p1 ∧ 2 ^ 52 ≤ m1 ∧ m1 < 2 ^ 53 ∧ -1074 ≤ p1 ∧ m1 <<< (p1 + 1074).toNat = m <<< 52 := by
  constructor
  · rw [order_sv (abs_rd h) cMin_read (by decide) (by decide), Option.some.injEq, compare_lt, signed_eq, signed_eq]
    have e : ((-1074 : Int) + 1074).toNat = 0 := by decide
    rw [e]
    simp only [sg, Bool.false_eq_true, if_false, Int.one_mul, Nat.pow_zero]
    omega
  · have e : fmul x c52 = W m (-1022) := by
      rw [mul_read h c52_read, ← Nat.shiftLeft_eq, nearest_shift _ _ _ _ h0]
      unfold W
      rfl
    rw [e]
    obtain ⟨m1, p1, hr, h1, h2, h3, h4⟩ := W_read h0 (by omega : m < 2 ^ 53) (show (-1074 : Int) ≤ -1022 by decide) (by decide)
    have e2 : ((-1022 : Int) + 1074).toNat = 52 := by decide
    rw [e2] at h4
    refine ⟨m1, p1, hr, ?_, h2, h3, h4⟩
    rcases read_canon hr with ⟨c1, c2⟩ | ⟨c1, _, _⟩
    · exfalso
      subst c2
      have e3 : ((-1074 : Int) + 1074).toNat = 0 := by decide
      rw [e3, Nat.shiftLeft_zero, Nat.shiftLeft_eq] at h4
      have : 1 * 2 ^ 52 ≤ m * 2 ^ 52 := Nat.mul_le_mul_right _ (by omega)
      omega
    · exact c1

abbrev one1 : Nat := 4607182418800017408
abbrev lnHigh : Nat := 4604418534311723008
abbrev lnLow : Nat := 4461442080421002358
/-- the series' last terms -/
def lnS (z : Nat) : Nat → Nat
  | 0 => can 4586426698778222948
  | k + 1 => fadd (fdiv (can one1) (can (floatOfInt .f64 (21 - 2 * (k : Int))))) (fmul z (lnS z k))
def lnQ (M : Nat) (k : Int) : Nat :=
  fadd (fmul (can (floatOfInt .f64 k)) (can lnHigh)) (fadd (fmul (can two) (fmul (fdiv (fsub M (can one1)) (fadd M (can one1))) (lnS (fmul (fdiv (fsub M (can one1)) (fadd M (can one1))) (fdiv (fsub M (can one1)) (fadd M (can one1)))) 11))) (fmul (can (floatOfInt .f64 k)) (can lnLow)))
/-- the logarithm of a number -/
def lnP (x : Nat) : Nat := if isNan x = true ∨ D.order x 0 = some .lt then QN else if D.order x 0 = some .eq then 18442240474082181120 else match D.read x with
  | .number _ m i => lnQ (W m (midJ m)) (i - midJ m)
  | _ => x
theorem lnQ_read {a b : Nat} (k : Int) (h : D.read a = D.read b) : lnQ a k = lnQ b k := by
  unfold lnQ; rw [fsub_rd _ h, fadd_rd _ h]
end Go.Fp

/- The third flattening of a globe is a number. -/
namespace Go.Fp
open Ieee

theorem cut_ge (s : Bool) (n drop j : Nat) (h : 2 ^ (j + drop) ≤ n) : 2 ^ j ≤ Toward.even.cut s n drop := by
  have hn : n ≠ 0 := by have := Nat.two_pow_pos (j + drop); omega
  have hd : drop ≤ n.log2 + 2 := by have := (Nat.le_log2 hn).2 h; omega
  unfold Toward.cut
  rw [Nat.min_eq_left hd]
  have hg : (1 <<< drop : Nat) = 2 ^ drop := by rw [Nat.shiftLeft_eq, Nat.one_mul]
  simp only [hg]
  have h1 : 2 ^ j ≤ n / 2 ^ drop := by
    rw [Nat.le_div_iff_mul_le (Nat.two_pow_pos _), ← Nat.pow_add]; exact h
  omega
/-- what is at least one stays so -/
theorem low_nearest (s : Bool) (m : Nat) (p : Int) (hm : m ≠ 0) (h0 : 0 ≤ p + (m.log2 : Int)) (h1 : p + (m.log2 : Int) ≤ 900) : ∃ t n j, D.read (D.nearest s m p) = .number t n j ∧ 2 ^ 52 ≤ n ∧ -52 ≤ j := by
  unfold Format.nearest
  rw [if_neg hm]
  simp only [D_least, D_frac, D_bin, D_inf]
  generalize hl : max (p + (m.log2 : Int) - 52) (-1074) = last
  have hl1 : last = p + (m.log2 : Int) - 52 := by omega
  have hc : Toward.even.cut s (m <<< (p - last).toNat) (last - p).toNat ≤ 2 ^ 53 := by
    refine cut_le _ _ _ _ ?_
    have hb := lt_log2 (m <<< (p - last).toNat)
    rw [log2_shift_le _ _ hm] at hb
    refine Nat.lt_of_lt_of_le hb (Nat.pow_le_pow_right (by decide) ?_)
    omega
  have hc2 : 2 ^ 52 ≤ Toward.even.cut s (m <<< (p - last).toNat) (last - p).toNat := by
    refine cut_ge _ _ _ _ ?_
    rw [Nat.shiftLeft_eq, show 52 + (last - p).toNat = m.log2 + (p - last).toNat by omega, Nat.pow_add]
    exact Nat.mul_le_mul_right _ (Nat.log2_self_le hm)
  generalize Toward.even.cut s (m <<< (p - last).toNat) (last - p).toNat = c at *
  obtain ⟨r, hr⟩ : ∃ r, r = min ((last - -1074).toNat * 2 ^ 52 + c) (2047 * 2 ^ 52) := ⟨_, rfl⟩
  rw [← hr]
  have hr1 : r = (last - -1074).toNat * 2 ^ 52 + c := by omega
  have hr2 : r < 2047 * 2 ^ 52 := by omega
  obtain ⟨t, ht⟩ := read_word s hr2
  rw [if_neg (by omega)] at ht
  exact ⟨t, _, _, ht, by omega, by omega⟩

theorem tp_div {a : Int} {x y n : Nat} {t : Bool} {j : Int} (hx : Tp a x) (hy : D.read y = .number t n j) (hn : 2 ^ 52 ≤ n) (hn2 : n < 2 ^ 53) (hj : -52 ≤ j) (h0 : -1000 ≤ a) (h1 : a < 900) : Tp (a + 1) (fdiv x y) := by
  obtain ⟨s, m, i, hr, h⟩ := hx
  rw [div_read hr hy (by omega)]
  refine tp_nearest _ _ _ a ?_ h0 (by omega)
  have l1 : n.log2 = 52 := by
    have b1 := log2_of (by omega) hn2
    have b2 := (Nat.le_log2 (by omega : n ≠ 0)).2 hn
    omega
  rw [l1]
  by_cases hm : m = 0
  · left
    subst hm
    simp
  · right
    have h := h.resolve_left hm
    have hl52 : m.log2 ≤ 52 := log2_of hm (read_fields hr).1
    obtain ⟨u, hu⟩ : ∃ u, u = 54 + 52 - m.log2 := ⟨_, rfl⟩
    rw [← hu]
    have hq : m <<< u / n < 2 ^ (m.log2 + 1 + u - 52) := by
      rw [Nat.div_lt_iff_lt_mul (by omega)]
      have e1 : m <<< u < 2 ^ (m.log2 + 1 + u) := by
        rw [Nat.shiftLeft_eq, Nat.pow_add]
        exact Nat.mul_lt_mul_of_pos_right (lt_log2 m) (Nat.two_pow_pos _)
      have e2 : 2 ^ (m.log2 + 1 + u) = 2 ^ (m.log2 + 1 + u - 52) * 2 ^ 52 := by rw [← Nat.pow_add]; congr 1; omega
      rw [e2] at e1
      exact Nat.lt_of_lt_of_le e1 (Nat.mul_le_mul_left _ hn)
    generalize m <<< u / n = q at *
    have hb : ((m <<< u) % n != 0).toNat ≤ 1 := by cases ((m <<< u) % n != 0) <;> simp
    generalize ((m <<< u) % n != 0).toNat = b at *
    have hz : 2 * q + b < 2 ^ (m.log2 + 1 + u - 52 + 1) := by rw [Nat.pow_succ]; omega
    generalize 2 * q + b = z at *
    have hlz : z.log2 ≤ m.log2 + 1 + u - 52 := by
      by_cases z0 : z = 0
      · subst z0; simp
      · exact log2_of z0 hz
    omega

/-- a flattening, less than a tenth -/
theorem tp_flat {f : Nat} (h1 : fge f 0 = true) (h2 : fle f 4598175219545276416 = true) : ∃ s m i, D.read f = .number s m i ∧ (m = 0 ∨ s = false ∧ i + (m.log2 : Int) + 1 ≤ 0) := by
  unfold fge at h1
  unfold fle at h2
  rw [Bool.or_eq_true, beq_iff_eq, beq_iff_eq] at h1 h2
  have hz : D.read 0 = .number false 0 (-1074) := by decide +kernel
  have hc : ∃ C q, D.read 4598175219545276416 = .number false C q ∧ -1074 ≤ q ∧ C * 2 ^ (q + 1074).toNat < 2 ^ 1074 := by
    refine ⟨_, _, rfl, by decide +kernel, by decide +kernel⟩
  obtain ⟨C, q, hc, hq, hC⟩ := hc
  cases e : D.read f with
  | nan s t => unfold Format.order at h1; rw [e] at h1; rcases h1 with h | h <;> cases h
  | infinity s =>
    exfalso
    unfold Format.order at h1 h2
    rw [e, hz] at h1
    rw [e, hc] at h2
    cases s
    · rcases h2 with h | h <;> cases h
    · rcases h1 with h | h <;> cases h
  | number s m i =>
    obtain ⟨hm, hi1, hi2⟩ := read_fields e
    rw [order_sv e hz hi1 (by decide), Option.some.injEq, Option.some.injEq, compare_gt, compare_eq, signed_eq, signed_eq] at h1
    rw [order_sv e hc hi1 hq, Option.some.injEq, Option.some.injEq, compare_lt, compare_eq, signed_eq, signed_eq] at h2
    refine ⟨s, m, i, rfl, ?_⟩
    by_cases m0 : m = 0
    · exact .inl m0
    · right
      have hp := Nat.two_pow_pos (i + 1074).toNat
      have hA : 0 < m * 2 ^ (i + 1074).toNat := Nat.mul_pos (Nat.pos_of_ne_zero m0) hp
      have hlog : 2 ^ (m.log2 + (i + 1074).toNat) ≤ m * 2 ^ (i + 1074).toNat := by
        rw [Nat.pow_add]; exact Nat.mul_le_mul_right _ (Nat.log2_self_le m0)
      cases s with
      | true =>
        exfalso
        simp only [sg, if_true, Bool.false_eq_true, if_false, Int.one_mul, Int.neg_mul, ← Int.natCast_mul, Nat.zero_mul] at h1
        generalize m * 2 ^ (i + 1074).toNat = A at *
        omega
      | false =>
        refine ⟨rfl, ?_⟩
        simp only [sg, Bool.false_eq_true, if_false, Int.one_mul, ← Int.natCast_mul] at h2
        have h4 : 2 ^ (m.log2 + (i + 1074).toNat) < 2 ^ 1074 := by
          refine Nat.lt_of_le_of_lt hlog (Nat.lt_of_le_of_lt ?_ hC)
          generalize m * 2 ^ (i + 1074).toNat = A at *
          generalize C * 2 ^ (q + 1074).toNat = B at *
          omega
        have h5 := (Nat.pow_lt_pow_iff_right (by decide : 1 < 2)).1 h4
        omega
/-- two less a flattening is at least one -/
theorem less_flat {f : Nat} {s : Bool} {m : Nat} {i : Int} (h : D.read f = .number s m i) (hm : m = 0 ∨ s = false ∧ i + (m.log2 : Int) + 1 ≤ 0) :
    ∃ t n j, D.read (fsub two f) = .number t n j ∧ 2 ^ 52 ≤ n ∧ n < 2 ^ 53 ∧ -52 ≤ j := by
  have e : ∃ u, fsub two f = D.nearest u (signed false (2 ^ 52) (-51 - min (-51) i).toNat + signed (!s) m (i - min (-51) i).toNat).natAbs (min (-51) i) := by
    have e : ∃ u, D.sub two f = some (D.nearest u (signed false (2 ^ 52) (-51 - min (-51) i).toNat + signed (!s) m (i - min (-51) i).toNat).natAbs (min (-51) i)) := by
      unfold Format.sub; rw [two_read, h]; exact ⟨_, rfl⟩
    obtain ⟨u, e⟩ := e
    exact ⟨u, by unfold fsub opt; rw [e]; rfl⟩
  obtain ⟨u, e⟩ := e
  rw [e]
  generalize hb : min (-51) i = b
  have hb1 : b ≤ -51 := by omega
  have hb2 : b ≤ i := by omega
  have hi := (read_fields h).2.1
  have hS : ∃ T, signed false (2 ^ 52) (-51 - b).toNat + signed (!s) m (i - b).toNat = ((T : Nat) : Int) ∧ 2 ^ (-b).toNat ≤ T ∧ T ≤ 2 ^ ((-b).toNat + 1) := by
    have e1 : signed false (2 ^ 52) (-51 - b).toNat = ((2 ^ ((-b).toNat + 1) : Nat) : Int) := by
      unfold signed
      rw [if_neg (by simp), Nat.shiftLeft_eq, ← Nat.pow_add]
      congr 2; omega
    rw [e1]
    have hp := Nat.two_pow_pos (-b).toNat
    rw [Nat.pow_succ]
    generalize hZ : 2 ^ (-b).toNat = Z at *
    rcases hm with rfl | ⟨rfl, hm⟩
    · refine ⟨Z * 2, ?_, by omega, by omega⟩
      unfold signed
      cases s <;> simp
    · have h3 : m <<< (i - b).toNat ≤ Z := by
        rw [Nat.shiftLeft_eq, ← hZ]
        have h4 : m * 2 ^ (i - b).toNat < 2 ^ (m.log2 + 1) * 2 ^ (i - b).toNat := Nat.mul_lt_mul_of_pos_right (lt_log2 m) (Nat.two_pow_pos _)
        rw [← Nat.pow_add] at h4
        exact Nat.le_of_lt (Nat.lt_of_lt_of_le h4 (Nat.pow_le_pow_right (by decide) (by omega)))
      unfold signed
      simp only [Bool.not_false, if_true]
      generalize m <<< (i - b).toNat = B at *
      exact ⟨Z * 2 - B, by omega, by omega, by omega⟩
  obtain ⟨T, hT, hT1, hT2⟩ := hS
  rw [hT, Int.natAbs_natCast]
  have hp := Nat.two_pow_pos (-b).toNat
  have hT0 : T ≠ 0 := by omega
  have l1 := (Nat.le_log2 hT0).2 hT1
  have l2 : T.log2 ≤ (-b).toNat + 1 := log2_of hT0 (Nat.lt_of_le_of_lt hT2 (Nat.pow_lt_pow_right (by decide) (by omega)))
  obtain ⟨t, n, j, hr, hn, hj⟩ := low_nearest u T b hT0 (by omega) (by omega)
  exact ⟨t, n, j, hr, hn, (read_fields hr).1, hj⟩
theorem third_num {f : Nat} (h1 : fge f 0 = true) (h2 : fle f 4598175219545276416 = true) : Tp 1 (fdiv f (fsub two f)) := by
  obtain ⟨s, m, i, hr, hm⟩ := tp_flat h1 h2
  obtain ⟨t, n, j, hn, a, b, c⟩ := less_flat hr hm
  exact tp_div (a := 0) ⟨s, m, i, hr, hm.imp id (·.2)⟩ hn a b c (by omega) (by omega)
theorem mul_zero {x : Nat} {k : Int} (h : Tp k x) : fmul x 0 = 0 ∨ fmul x 0 = 2 ^ 63 := by
  obtain ⟨s, m, i, hr, _⟩ := h
  have hz : D.read 0 = .number false 0 (-1074) := by decide +kernel
  rw [mul_read hr hz, Nat.mul_zero]
  unfold Format.nearest
  rw [if_pos rfl]
  unfold Format.word
  rw [D_sign]
  cases s
  · left; rfl
  · right; rfl
end Go.Fp
