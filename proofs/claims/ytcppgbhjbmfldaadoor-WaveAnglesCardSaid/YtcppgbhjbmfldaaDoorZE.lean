/- A number made whole: its floor and what is left over, against the even one of two. -/
import Derived.Test.YtcppgbhjbmfldaaDoorZD
import Derived.Laws.FloatArith
import Derived.IntWalk
import Derived.WalkLawsBesides
namespace Go.Fp
open Ieee

theorem compare_scale (a b c : Int) (hc : 0 < c) : compare (a * c) (b * c) = compare a b := by
  show compareOfLessAndEq _ _ = compareOfLessAndEq _ _
  unfold compareOfLessAndEq
  have h1 : a * c < b * c ↔ a < b := Int.mul_lt_mul_right hc
  have h2 : a * c = b * c ↔ a = b := ⟨Int.eq_of_mul_eq_mul_right (by omega), fun h => by rw [h]⟩
  simp only [h1, h2]
theorem compare_gt (a b : Int) : compare a b = .gt ↔ b < a := by
  show compareOfLessAndEq _ _ = _ ↔ _
  unfold compareOfLessAndEq
  by_cases h : a < b
  · simp [h]; omega
  · by_cases h2 : a = b
    · simp [h2]
    · simp [h, h2]; omega
theorem compare_eq (a b : Int) : compare a b = .eq ↔ a = b := by
  show compareOfLessAndEq _ _ = _ ↔ _
  unfold compareOfLessAndEq
  by_cases h : a < b
  · simp [h]; omega
  · by_cases h2 : a = b
    · simp [h2]
    · simp [h, h2]
theorem compare_lt (a b : Int) : compare a b = .lt ↔ a < b := by
  show compareOfLessAndEq _ _ = _ ↔ _
  unfold compareOfLessAndEq
  by_cases h : a < b
  · simp [h]
  · by_cases h2 : a = b
    · simp [h2]
    · simp [h, h2]

def sg (s : Bool) : Int := if s then -1 else 1
theorem signed_eq (s : Bool) (m k : Nat) : signed s m k = sg s * (m : Int) * ((2 ^ k : Nat) : Int) := by
  unfold signed sg
  rw [Nat.shiftLeft_eq]
  cases s <;> simp [Int.neg_mul, Int.natCast_mul]
theorem signed_scale (s : Bool) (m a b : Nat) : signed s m a * ((2 ^ b : Nat) : Int) = signed s m (a + b) := by
  rw [signed_eq, signed_eq, Nat.pow_add, Int.natCast_mul, Int.mul_assoc]
theorem signed_shift (s : Bool) (m a b : Nat) : signed s (m <<< a) b = signed s m (a + b) := by
  rw [signed_eq, signed_eq, Nat.shiftLeft_eq, Nat.pow_add, Int.natCast_mul, Int.natCast_mul]
  ac_rfl

theorem order_sv {x y : Nat} {s t : Bool} {m n : Nat} {i j : Int} (hx : D.read x = .number s m i) (hy : D.read y = .number t n j) (hi : -1074 ≤ i) (hj : -1074 ≤ j) :
    D.order x y = some (compare (signed s m (i + 1074).toNat) (signed t n (j + 1074).toNat)) := by
  unfold Format.order
  rw [hx, hy]
  show some (compare (signed s m (i - min i j).toNat) (signed t n (j - min i j).toNat)) = _
  have hp : (0 : Int) < ((2 ^ (min i j + 1074).toNat : Nat) : Int) := by
    have := Nat.two_pow_pos (min i j + 1074).toNat
    omega
  rw [← compare_scale _ _ _ hp, signed_scale, signed_scale]
  have e1 : (i - min i j).toNat + (min i j + 1074).toNat = (i + 1074).toNat := by omega
  have e2 : (j - min i j).toNat + (min i j + 1074).toNat = (j + 1074).toNat := by omega
  rw [e1, e2]

theorem read_word2 (s : Bool) {r : Nat} (h : r < 2047 * 2 ^ 52) : D.read (D.word s r) = if r < 2 ^ 52 then .number s r (-1074) else .number s (2 ^ 52 + r % 2 ^ 52) (-1074 + (r / 2 ^ 52 - 1 : Nat)) := by
  have hs : (D.word s r / 2 ^ 63 % 2 == 1) = s := by
    unfold Format.word
    rw [D_sign]
    cases s
    · simp only [Bool.false_eq_true, if_false]
      have : r / 2 ^ 63 = 0 := Nat.div_eq_of_lt (by omega)
      rw [this]; rfl
    · simp only [if_true]
      have : (2 ^ 63 + r) / 2 ^ 63 = 1 := by omega
      rw [this]; rfl
  unfold Format.read
  simp only [D_sign, D_inf, D_bin, D_least]
  rw [word_mod s (by omega), hs]
  by_cases h1 : r < 2 ^ 52
  · rw [if_pos h1, if_pos h1]
  · rw [if_neg h1, if_neg h1, if_pos h]

/-- what a word of a place and of kept digits stands for -/
theorem read_kept (s : Bool) (L kept : Nat) (hk : kept ≤ 2 ^ 53) (hc : L = 0 ∨ 2 ^ 52 ≤ kept) (hL : L * 2 ^ 52 + kept < 2047 * 2 ^ 52) :
    ∃ m p, D.read (D.word s (min (L * 2 ^ 52 + kept) D.infRung)) = .number s m p ∧ -1074 ≤ p ∧ m <<< (p + 1074).toNat = kept <<< L := by
  rw [D_inf, Nat.min_eq_left (by omega), read_word2 s hL]
  by_cases h1 : L * 2 ^ 52 + kept < 2 ^ 52
  · rw [if_pos h1]
    have : L = 0 := by omega
    subst this
    exact ⟨_, _, rfl, by omega, by simp⟩
  · rw [if_neg h1]
    have hk2 : 2 ^ 52 ≤ kept := by rcases hc with h | h <;> omega
    by_cases h2 : kept = 2 ^ 53
    · subst h2
      have e1 : (L * 2 ^ 52 + 2 ^ 53) % 2 ^ 52 = 0 := by omega
      have e2 : (L * 2 ^ 52 + 2 ^ 53) / 2 ^ 52 = L + 2 := by omega
      rw [e1, e2]
      refine ⟨_, _, rfl, by omega, ?_⟩
      have e3 : (-1074 + ((L + 2 - 1 : Nat) : Int) + 1074).toNat = L + 1 := by omega
      rw [e3, Nat.shiftLeft_eq, Nat.shiftLeft_eq, Nat.pow_succ (m := L), show (2 : Nat) ^ 53 = 2 ^ 52 * 2 by decide]
      ac_rfl
    · have e1 : 2 ^ 52 + (L * 2 ^ 52 + kept) % 2 ^ 52 = kept := by omega
      have e2 : (L * 2 ^ 52 + kept) / 2 ^ 52 = L + 1 := by omega
      rw [e1, e2]
      refine ⟨_, _, rfl, by omega, ?_⟩
      have e3 : (-1074 + ((L + 1 - 1 : Nat) : Int) + 1074).toNat = L := by omega
      rw [e3]

theorem gap_big {n k : Nat} (h : ¬ k ≤ n.log2 + 2) : 2 * n < 2 ^ k := by
  have h1 := lt_log2 n
  have h2 : 2 ^ (n.log2 + 1 + 1) ≤ 2 ^ k := Nat.pow_le_pow_right (by decide) (by omega)
  rw [Nat.pow_succ] at h2
  omega
theorem cut_even (s : Bool) (n k : Nat) : Toward.even.cut s n k = n / 2 ^ k + (if 2 ^ k < 2 * (n % 2 ^ k) ∨ 2 ^ k = 2 * (n % 2 ^ k) ∧ n / 2 ^ k % 2 = 1 then 1 else 0) := by
  unfold Toward.cut
  by_cases hd : k ≤ n.log2 + 2
  · rw [Nat.min_eq_left hd]
    have hg : (1 <<< k : Nat) = 2 ^ k := by rw [Nat.shiftLeft_eq, Nat.one_mul]
    simp only [hg]
    congr 1
    by_cases h1 : 2 ^ k < 2 * (n % 2 ^ k)
    · simp [h1]
    · by_cases h2 : 2 ^ k = 2 * (n % 2 ^ k)
      · by_cases h3 : n / 2 ^ k % 2 = 1
        · simp [← h2, h3]
        · simp [← h2, h3]
      · simp [h1, h2]
  · have hd' : min k (n.log2 + 2) = n.log2 + 2 := Nat.min_eq_right (by omega)
    rw [hd']
    have hg : (1 <<< (n.log2 + 2) : Nat) = 2 ^ (n.log2 + 2) := by rw [Nat.shiftLeft_eq, Nat.one_mul]
    simp only [hg]
    have hn := lt_log2 n
    have h4 : 2 ^ (n.log2 + 2) = 2 * 2 ^ (n.log2 + 1) := by rw [Nat.pow_succ, Nat.mul_comm]
    have h1 : n / 2 ^ (n.log2 + 2) = 0 := Nat.div_eq_of_lt (by omega)
    have h2 : n % 2 ^ (n.log2 + 2) = n := Nat.mod_eq_of_lt (by omega)
    have hb := gap_big hd
    have h6 : n / 2 ^ k = 0 := Nat.div_eq_of_lt (by omega)
    have h7 : n % 2 ^ k = n := Nat.mod_eq_of_lt (by omega)
    rw [h1, h2, h6, h7]
    have h3 : ¬ (2 ^ (n.log2 + 2) < 2 * n) := by omega
    have h8 : ¬ (2 ^ k < 2 * n) := by omega
    simp [h3, h8]
theorem cut_down (s : Bool) (n k : Nat) : Toward.down.cut s n k = n / 2 ^ k + (if s = true ∧ n % 2 ^ k ≠ 0 then 1 else 0) := by
  unfold Toward.cut
  by_cases hd : k ≤ n.log2 + 2
  · rw [Nat.min_eq_left hd]
    have hg : (1 <<< k : Nat) = 2 ^ k := by rw [Nat.shiftLeft_eq, Nat.one_mul]
    simp only [hg]
    congr 1
    cases s
    · simp
    · by_cases h : n % 2 ^ k = 0
      · simp [h]
      · simp [h]
  · have hd' : min k (n.log2 + 2) = n.log2 + 2 := Nat.min_eq_right (by omega)
    rw [hd']
    have hg : (1 <<< (n.log2 + 2) : Nat) = 2 ^ (n.log2 + 2) := by rw [Nat.shiftLeft_eq, Nat.one_mul]
    simp only [hg]
    have hn := lt_log2 n
    have h4 : 2 ^ (n.log2 + 2) = 2 * 2 ^ (n.log2 + 1) := by rw [Nat.pow_succ, Nat.mul_comm]
    have h1 : n / 2 ^ (n.log2 + 2) = 0 := Nat.div_eq_of_lt (by omega)
    have h2 : n % 2 ^ (n.log2 + 2) = n := Nat.mod_eq_of_lt (by omega)
    have hb := gap_big hd
    have h6 : n / 2 ^ k = 0 := Nat.div_eq_of_lt (by omega)
    have h7 : n % 2 ^ k = n := Nat.mod_eq_of_lt (by omega)
    rw [h1, h2, h6, h7]
    congr 1
    cases s
    · simp
    · by_cases h : n = 0
      · simp [h]
      · simp [h]
theorem cut_none (s : Bool) (n c d : Nat) (hd : d ≤ c) : Toward.even.cut s (n <<< c) d = n <<< (c - d) := by
  rw [cut_even]
  have h : n <<< c = n <<< (c - d) * 2 ^ d := by
    rw [Nat.shiftLeft_eq, Nat.shiftLeft_eq, Nat.mul_assoc, ← Nat.pow_add]
    congr 2; omega
  have hp := Nat.two_pow_pos d
  rw [h, Nat.mul_mod_left, Nat.mul_div_cancel _ hp]
  rw [if_neg (by omega)]
  rfl

/-- a number that the format has, however it is told -/
theorem read_exact (s : Bool) (M c : Nat) (base : Int) (hM : M < 2 ^ 53) (hb : -1074 ≤ base) (hp : base + c ≤ 971) :
    ∃ m p, D.read (D.nearest s (M <<< c) base) = .number s m p ∧ -1074 ≤ p ∧ m <<< (p + 1074).toNat = M <<< (base + c + 1074).toNat := by
  unfold Format.nearest
  by_cases hz : M = 0
  · subst hz
    rw [Nat.zero_shiftLeft, if_pos rfl, read_word2 s (by omega), if_pos (by omega)]
    exact ⟨_, _, rfl, by omega, by simp⟩
  · have hne : M <<< c ≠ 0 := by rw [Nat.shiftLeft_eq]; exact Nat.mul_ne_zero hz (by have := Nat.two_pow_pos c; omega)
    rw [if_neg hne]
    have hl := log2_shift_le M c hz
    have hl52 : M.log2 ≤ 52 := log2_of hz hM
    simp only [D_least, D_frac, D_bin, hl]
    generalize hlast : max (base + ((M.log2 + c : Nat) : Int) - 52) (-1074) = last
    have h1 : last ≤ base + c := by omega
    have h2 : -1074 ≤ last := by omega
    have h3 : last = -1074 ∨ last = base + M.log2 + c - 52 := by omega
    have hk : Toward.even.cut s ((M <<< c) <<< (base - last).toNat) (last - base).toNat = M <<< (base + c - last).toNat := by
      rw [← Nat.shiftLeft_add, cut_none s M _ _ (by omega)]
      congr 1; omega
    rw [hk]
    have hkl : (M <<< (base + c - last).toNat).log2 = M.log2 + (base + c - last).toNat := log2_shift_le _ _ hz
    have hkne : M <<< (base + c - last).toNat ≠ 0 := by rw [Nat.shiftLeft_eq]; exact Nat.mul_ne_zero hz (by have := Nat.two_pow_pos (base + c - last).toNat; omega)
    have hlt : M <<< (base + c - last).toNat < 2 ^ 53 := by
      have := lt_log2 (M <<< (base + c - last).toNat)
      rw [hkl] at this
      exact Nat.lt_of_lt_of_le this (Nat.pow_le_pow_right (by decide) (by omega))
    have hcan : (last - -1074).toNat = 0 ∨ 2 ^ 52 ≤ M <<< (base + c - last).toNat := by
      rcases h3 with h3 | h3
      · left; omega
      · right
        rw [← Nat.le_log2 hkne, hkl]; omega
    generalize hkept : M <<< (base + c - last).toNat = kept at *
    obtain ⟨m, p, hr, hp1, hp2⟩ := read_kept s (last - -1074).toNat kept (by omega) hcan (by omega)
    refine ⟨m, p, hr, hp1, ?_⟩
    rw [hp2, ← hkept, ← Nat.shiftLeft_add]
    congr 1; omega

theorem read_fields {x : Nat} {s : Bool} {m : Nat} {i : Int} (h : D.read x = .number s m i) : m < 2 ^ 53 ∧ -1074 ≤ i ∧ i ≤ 971 := by
  unfold Format.read at h
  simp only [D_sign, D_inf, D_bin, D_least] at h
  split at h
  · cases h; omega
  · split at h
    · cases h; omega
    · split at h <;> cases h

/-- a word that stands for a whole number -/
def IsI (x : Nat) (V : Int) : Prop := ∃ s m i, D.read x = .number s m i ∧ -1074 ≤ i ∧ signed s m (i + 1074).toNat = V * ((2 ^ 1074 : Nat) : Int)
theorem natpow_pos (k : Nat) : (0 : Int) < ((2 ^ k : Nat) : Int) := Int.natCast_pos.2 (Nat.two_pow_pos k)
theorem pow1074 : (0 : Int) < ((2 ^ 1074 : Nat) : Int) := natpow_pos 1074
theorem IsI.order {x y : Nat} {V W : Int} (hx : IsI x V) (hy : IsI y W) : D.order x y = some (compare V W) := by
  obtain ⟨s, m, i, h1, h2, h3⟩ := hx
  obtain ⟨t, n, j, k1, k2, k3⟩ := hy
  rw [order_sv h1 k1 h2 k2, h3, k3, compare_scale _ _ _ pow1074]
theorem IsI.fin {x : Nat} {V : Int} (hx : IsI x V) : isNan x = false := by
  obtain ⟨s, m, i, h1, _⟩ := hx
  unfold isNan; rw [h1]; rfl

theorem cut_zero (s : Bool) (n k : Nat) : Toward.zero.cut s n k = n / 2 ^ k := by
  unfold Toward.cut
  by_cases hd : k ≤ n.log2 + 2
  · rw [Nat.min_eq_left hd]
    have hg : (1 <<< k : Nat) = 2 ^ k := by rw [Nat.shiftLeft_eq, Nat.one_mul]
    simp [hg]
  · have hd' : min k (n.log2 + 2) = n.log2 + 2 := Nat.min_eq_right (by omega)
    rw [hd']
    have hg : (1 <<< (n.log2 + 2) : Nat) = 2 ^ (n.log2 + 2) := by rw [Nat.shiftLeft_eq, Nat.one_mul]
    have hn := lt_log2 n
    have h4 : 2 ^ (n.log2 + 2) = 2 * 2 ^ (n.log2 + 1) := by rw [Nat.pow_succ, Nat.mul_comm]
    have h1 : n / 2 ^ (n.log2 + 2) = 0 := Nat.div_eq_of_lt (by omega)
    have hb := gap_big hd
    have h6 : n / 2 ^ k = 0 := Nat.div_eq_of_lt (by omega)
    simp [hg, h1, h6]
theorem signed0 (s : Bool) (m : Nat) : signed s m 0 = sg s * m := by
  rw [signed_eq]; simp
theorem IsI.toInt {x : Nat} {V : Int} (hx : IsI x V) : (D.read x).toInt .zero = some V := by
  obtain ⟨s, m, i, h1, h2, h3⟩ := hx
  rw [h1]
  show some (signed s (Toward.zero.cut s (m <<< i.toNat) (-i).toNat) 0) = _
  congr 1
  rw [cut_zero, signed0]
  by_cases hi : 0 ≤ i
  · have e : (-i).toNat = 0 := by omega
    rw [e, Nat.pow_zero, Nat.div_one]
    refine Int.eq_of_mul_eq_mul_right (Int.ne_of_gt pow1074) ?_
    rw [← h3, ← signed0, signed_scale _ _ _ 1074, signed_shift]
    congr 1; omega
  · have e : i.toNat = 0 := by omega
    rw [e, Nat.shiftLeft_zero]
    -- m is V times 2 ^ -i
    have hk : (i + 1074).toNat + (-i).toNat = 1074 := by omega
    have hm : (sg s) * m = V * ((2 ^ (-i).toNat : Nat) : Int) := by
      rw [signed_eq, ← hk, Nat.pow_add, Int.natCast_mul] at h3
      have hp : (0 : Int) < ((2 ^ (i + 1074).toNat : Nat) : Int) := by have := Nat.two_pow_pos (i + 1074).toNat; omega
      refine Int.eq_of_mul_eq_mul_right (Int.ne_of_gt hp) ?_
      rw [h3]; ac_rfl
    have hp := Nat.two_pow_pos (-i).toNat
    generalize 2 ^ (-i).toNat = K at *
    have hm2 : m = V.natAbs * K := by
      have := congrArg Int.natAbs hm
      rw [Int.natAbs_mul, Int.natAbs_mul, Int.natAbs_natCast, Int.natAbs_natCast] at this
      rw [← this]; unfold sg; cases s <;> simp
    rw [hm2, Nat.mul_div_cancel _ hp]
    rw [hm2, Int.natCast_mul, ← Int.mul_assoc] at hm
    exact Int.eq_of_mul_eq_mul_right (by omega) hm

theorem way_cut {way : Toward} (hw : way = .even ∨ way = .down) (s : Bool) (n k : Nat) : ∃ b, b ≤ 1 ∧ way.cut s n k = n / 2 ^ k + b ∧ (n % 2 ^ k = 0 → b = 0) := by
  rcases hw with rfl | rfl
  · rw [cut_even]
    refine ⟨_, ?_, rfl, ?_⟩
    · split <;> omega
    · intro h
      have := Nat.two_pow_pos k
      rw [if_neg (by omega)]
  · rw [cut_down]
    refine ⟨_, ?_, rfl, ?_⟩
    · split <;> omega
    · intro h
      rw [if_neg (fun ⟨_, h2⟩ => h2 h)]
/-- what a number is, made whole -/
theorem isI_int {way : Toward} (hw : way = .even ∨ way = .down) {x : Nat} {s : Bool} {m : Nat} {i : Int} (h : D.read x = .number s m i) :
    IsI (D.write ((D.read x).integral way)) (signed s (way.cut s (m <<< i.toNat) (-i).toNat) 0) := by
  obtain ⟨hm, hi1, hi2⟩ := read_fields h
  rw [h]
  show IsI (D.nearest s (way.cut s (m <<< i.toNat) (-i).toNat) 0) _
  obtain ⟨b, hb1, hb2, hb3⟩ := way_cut hw s (m <<< i.toNat) (-i).toNat
  by_cases hi : 0 ≤ i
  · have e : (-i).toNat = 0 := by omega
    have e2 : way.cut s (m <<< i.toNat) (-i).toNat = m <<< i.toNat := by
      rw [hb2, hb3 (by rw [e, Nat.pow_zero, Nat.mod_one]), e, Nat.pow_zero, Nat.div_one, Nat.add_zero]
    rw [e2]
    obtain ⟨m', p, hr, hp1, hp2⟩ := read_exact s m i.toNat 0 hm (by omega) (by omega)
    refine ⟨s, m', p, hr, hp1, ?_⟩
    rw [signed_scale _ _ _ 1074, signed_shift, ← Nat.zero_add ((p + 1074).toNat), ← signed_shift]
    have e3 := signed_shift s m' (p + 1074).toNat 0
    rw [Nat.add_zero, hp2] at e3
    rw [Nat.zero_add]
    show signed s (m' <<< 0) _ = _
    rw [Nat.shiftLeft_zero, ← e3, signed_shift]
    congr 1; omega
  · have e : i.toNat = 0 := by omega
    rw [e, Nat.shiftLeft_zero] at hb2 hb3 ⊢
    generalize hC : way.cut s m (-i).toNat = C at *
    have hk : (-i).toNat ≠ 0 := by omega
    have hle : m / 2 ^ (-i).toNat ≤ m / 2 := Nat.div_le_div_left (by
      have := Nat.pow_le_pow_right (n := 2) (by decide) (show 1 ≤ (-i).toNat by omega)
      omega) (by decide)
    obtain ⟨m', p, hr, hp1, hp2⟩ := read_exact s C 0 0 (by omega) (by omega) (by omega)
    rw [Nat.shiftLeft_zero] at hr
    refine ⟨s, m', p, hr, hp1, ?_⟩
    have e3 := signed_shift s m' (p + 1074).toNat 0
    rw [Nat.add_zero, hp2, signed_shift] at e3
    rw [← e3, signed_scale _ _ _ 1074]
    congr 1
end Go.Fp

/- The even one of two whole numbers, by what is left over the floor. -/
namespace Go.Fp
open Ieee

abbrev half : Nat := 4602678819172646912
abbrev c9 : Nat := 4890691058569617664
abbrev m9 : Nat := 14114063095424393472
end Go.Fp

/- The nearest angle of a number of radians: how package grain finds it, how the reference does. -/
namespace Go.Proofs.YtcppgbhjbmfldaaDoor
open Go.RowKit Go.Fp Go.Rel Ieee

/-- the whole number nearest to a number; 0 of what is too great -/
def nearV (x : Nat) : Int := match D.read x with
  | .number s m i => if -9000000000000000000 ≤ signed s (Toward.even.cut s (m <<< i.toNat) (-i).toNat) 0 ∧ signed s (Toward.even.cut s (m <<< i.toNat) (-i).toNat) 0 ≤ 9000000000000000000
      then signed s (Toward.even.cut s (m <<< i.toNat) (-i).toNat) 0 else 0
  | _ => 0
theorem toVal {x : Nat} {V : Int} (h : IsI x V) (h1 : -9100000000000000000 ≤ V) (h2 : V ≤ 9100000000000000000) : floatToIntVal .f64 x .i64 = some V := by
  unfold floatToIntVal
  have e : (FloatKind.f64.decode x).toInt .zero = some V := h.toInt
  have e1 : IntKind.i64.min = -9223372036854775808 := by decide
  have e2 : IntKind.i64.max = 9223372036854775807 := by decide
  rw [e, e1, e2]
  simp only []
  rw [if_pos (by omega)]

end Go.Proofs.YtcppgbhjbmfldaaDoor

/- Walks: the nearest angle of a number of radians: package grain's, the reference's. -/
namespace Go.Proofs.YtcppgbhjbmfldaaDoor
open Go.RowKit Go.Fp Go.Rel
set_option maxRecDepth 20000

abbrev cRad : Nat := 4445950764994258515
/-- the nearest angle of a number of radians -/
def nearP (x : Nat) : Int := nearV (fdiv x (can cRad))

theorem conv_run (w : World) {x : Nat} {n : Int} (h : floatToIntVal .f64 x .i64 = some n) : (convert 22 3 (.float .f64 x)).run Tryd.prog w = .ok (.int .i64 n) w :=
  run_convert_float_int w _ _ .f64 .i64 x n (by rw [Tryd.underlying22]; rfl) Tryd.underlying3 h

theorem can_fix {r X : Nat} (h : can r = can X) (hn : isNan X = false) : r = X := by
  have hr : isNan r = false := by rw [← isNan_can, h, isNan_can]; exact hn
  rw [can_of_not hr, can_of_not hn] at h; exact h
/-- package grain's way with a quotient, by cases -/
inductive NearA (X : Nat) : Int → Prop
  | nan (h : ∀ r r2, can r = can X → IntR .even r r2 → FloatKind.f64.format.order r2 14114063095424393472 = none) : NearA X 0
  | low (h : ∀ r r2, can r = can X → IntR .even r r2 → FloatKind.f64.format.order r2 14114063095424393472 = some .lt) : NearA X 0
  | high (o : Ordering) (ho : o = .eq ∨ o = .gt) (h : ∀ r r2, can r = can X → IntR .even r r2 → FloatKind.f64.format.order r2 14114063095424393472 = some o ∧ FloatKind.f64.format.order r2 4890691058569617664 = some .gt) : NearA X 0
  | fit (V : Int) (o o' : Ordering) (ho : o = .eq ∨ o = .gt) (ho' : o' = .eq ∨ o' = .lt) (h : ∀ r r2, can r = can X → IntR .even r r2 → FloatKind.f64.format.order r2 14114063095424393472 = some o ∧
      FloatKind.f64.format.order r2 4890691058569617664 = some o' ∧ ∀ w, (convert 22 3 (.float .f64 r2)).run Tryd.prog w = .ok (.int .i64 V) w) : NearA X V
/-- the reference's way with a quotient, by cases -/
inductive NearB (X : Nat) : Int → Prop
  | nan (h : ∀ r, can r = can X → FloatKind.f64.format.order r r = none) : NearB X 0
  | high (h : ∀ r, can r = can X → FloatKind.f64.format.order r r = some .eq ∧ FloatKind.f64.format.order r 4890691058569617664 = some .gt) : NearB X 0
  | low (o : Ordering) (ho : o = .eq ∨ o = .lt) (h : ∀ r, can r = can X → FloatKind.f64.format.order r r = some .eq ∧ FloatKind.f64.format.order r 4890691058569617664 = some o ∧ FloatKind.f64.format.order r 14114063095424393472 = some .lt) : NearB X 0
  | fit (V : Int) (o o' q : Ordering) (ho : o = .eq ∨ o = .lt) (ho' : o' = .eq ∨ o' = .gt) (hV : IntKind.i64.wrap (V + 1) = V + 1)
      (h : ∀ r, can r = can X → FloatKind.f64.format.order r r = some .eq ∧ FloatKind.f64.format.order r 4890691058569617664 = some o ∧ FloatKind.f64.format.order r 14114063095424393472 = some o')
      (hf : ∀ r f, can r = can X → IntR .down r f → ∀ w, (convert 22 3 (.float .f64 f)).run Tryd.prog w = .ok (.int .i64 V) w)
      (hd : ∀ r f d, can r = can X → IntR .down r f → can d = fsub (can r) (can f) → FloatKind.f64.format.order d 4602678819172646912 = some q) : NearB X (if q = .gt ∨ q = .eq ∧ V.tmod 2 ≠ 0 then V + 1 else V)
end Go.Proofs.YtcppgbhjbmfldaaDoor

/- Numbers times a power of two, exactly: halving, doubling. -/
namespace Go.Fp
open Ieee

/-- a number is written alike however it is told -/
theorem nearest_shift (s : Bool) (M c : Nat) (base : Int) (hM : M ≠ 0) : D.nearest s (M <<< c) base = D.nearest s M (base + c) := by
  have hne : M <<< c ≠ 0 := by rw [Nat.shiftLeft_eq]; exact Nat.mul_ne_zero hM (by have := Nat.two_pow_pos c; omega)
  unfold Format.nearest
  rw [if_neg hne, if_neg hM]
  have hl := log2_shift_le M c hM
  simp only [D_least, D_frac, D_bin, hl]
  have e1 : max (base + ((M.log2 + c : Nat) : Int) - 52) (-1074) = max (base + c + (M.log2 : Int) - 52) (-1074) := by omega
  rw [e1]
  generalize max (base + c + (M.log2 : Int) - 52) (-1074) = last
  have hk : Toward.even.cut s ((M <<< c) <<< (base - last).toNat) (last - base).toNat = Toward.even.cut s (M <<< (base + c - last).toNat) (last - (base + c)).toNat := by
    by_cases h1 : last ≤ base
    · have a1 : (last - base).toNat = 0 := by omega
      have a2 : (last - (base + c)).toNat = 0 := by omega
      rw [a1, a2, ← Nat.shiftLeft_add]
      congr 2; omega
    · by_cases h2 : last ≤ base + c
      · have a1 : (base - last).toNat = 0 := by omega
        have a2 : (last - (base + c)).toNat = 0 := by omega
        rw [a1, a2, Nat.shiftLeft_zero, cut_none s M c _ (by omega)]
        have := cut_none s M (base + c - last).toNat 0 (Nat.zero_le _)
        rw [this]
        congr 1; omega
      · have a1 : (base - last).toNat = 0 := by omega
        have a2 : (base + c - last).toNat = 0 := by omega
        rw [a1, a2, Nat.shiftLeft_zero, Nat.shiftLeft_zero, cut_even, cut_even]
        have a3 : (last - base).toNat = (last - (base + c)).toNat + c := by omega
        rw [a3, Nat.shiftLeft_eq, Nat.pow_add]
        have hp := Nat.two_pow_pos c
        rw [Nat.mul_div_mul_right _ _ hp, Nat.mul_mod_mul_right]
        generalize 2 ^ (last - (base + ↑c)).toNat = P
        generalize M / P = q
        generalize M % P = r
        generalize 2 ^ c = Z at *
        have i1 : (P * Z < 2 * (r * Z)) ↔ (P < 2 * r) := by
          rw [← Nat.mul_assoc]; exact Nat.mul_lt_mul_right hp
        have i2 : (P * Z = 2 * (r * Z)) ↔ (P = 2 * r) := by
          rw [← Nat.mul_assoc]; exact ⟨fun h => Nat.eq_of_mul_eq_mul_right hp h, fun h => by rw [h]⟩
        simp only [i1, i2]
  rw [hk]

abbrev two : Nat := 4611686018427387904
theorem two_read : D.read two = .number false (2 ^ 52) (-51) := by decide +kernel
theorem mul_read {x y m n : Nat} {i j : Int} {s t : Bool} (hx : D.read x = .number s m i) (hy : D.read y = .number t n j) : fmul x y = D.nearest (s ^^ t) (m * n) (i + j) := by
  have e : D.mul x y = some (D.nearest (s ^^ t) (m * n) (i + j)) := by
    unfold Format.mul; rw [hx, hy]; rfl
  unfold fmul opt; rw [e]; rfl
theorem div_read {x y m n : Nat} {i j : Int} {s t : Bool} (hx : D.read x = .number s m i) (hy : D.read y = .number t n j) (hn : n ≠ 0) :
    fdiv x y = D.nearest (s ^^ t) (2 * (m <<< (54 + n.log2 - m.log2) / n) + ((m <<< (54 + n.log2 - m.log2)) % n != 0).toNat) (i - j - ((54 + n.log2 - m.log2 : Nat) : Int) - 1) := by
  have e : D.div x y = some (D.nearest (s ^^ t) (2 * (m <<< (54 + n.log2 - m.log2) / n) + ((m <<< (54 + n.log2 - m.log2)) % n != 0).toNat) (i - j - ((54 + n.log2 - m.log2 : Nat) : Int) - 1)) := by
    unfold Format.div; rw [hx, hy]
    unfold Datum.quotient
    simp only [hn, if_false]
    rfl
  unfold fdiv opt; rw [e]; rfl
theorem mul_two {x m : Nat} {i : Int} {s : Bool} (hx : D.read x = .number s m i) (hm : m ≠ 0) : fmul x two = D.nearest s m (i + 1) := by
  rw [mul_read hx two_read, ← Nat.shiftLeft_eq, nearest_shift _ _ _ _ hm, Bool.xor_false]
  congr 1; omega
/-- m times 2 ^ j, where the format has it -/
def W (m : Nat) (j : Int) : Nat := D.nearest false m j
theorem W_read {m : Nat} {j : Int} (hm : m ≠ 0) (hm2 : m < 2 ^ 53) (h1 : -1074 ≤ j) (h2 : j ≤ 971) : ∃ m' p, D.read (W m j) = .number false m' p ∧ m' ≠ 0 ∧ m' < 2 ^ 53 ∧ -1074 ≤ p ∧ m' <<< (p + 1074).toNat = m <<< (j + 1074).toNat := by
  obtain ⟨m', p, hr, hp, hv⟩ := read_exact false m 0 j hm2 h1 (by omega)
  rw [Nat.shiftLeft_zero] at hr
  have e : (j + ((0 : Nat) : Int) + 1074).toNat = (j + 1074).toNat := by omega
  rw [e] at hv
  refine ⟨m', p, hr, ?_, (read_fields hr).1, hp, hv⟩
  intro h
  rw [h, Nat.zero_shiftLeft, Nat.shiftLeft_eq] at hv
  have := Nat.mul_ne_zero hm (show 2 ^ (j + 1074).toNat ≠ 0 by have := Nat.two_pow_pos (j + 1074).toNat; omega)
  exact this hv.symm
theorem nearest_val {m m' : Nat} {i j : Int} (hm : m ≠ 0) (hm' : m' ≠ 0) (hi : -1074 ≤ i) (hj : -1074 ≤ j) (h : m' <<< (i + 1074).toNat = m <<< (j + 1074).toNat) (d : Int) : D.nearest false m' (i + d) = D.nearest false m (j + d) := by
  rcases Int.le_total i j with hij | hij
  · have : m' = m <<< (j - i).toNat := by
      have e : (j + 1074).toNat = (j - i).toNat + (i + 1074).toNat := by omega
      rw [e, Nat.shiftLeft_add, Nat.shiftLeft_eq, Nat.shiftLeft_eq (m <<< _)] at h
      exact Nat.eq_of_mul_eq_mul_right (Nat.two_pow_pos _) h
    rw [this, nearest_shift _ _ _ _ hm]
    congr 1; omega
  · have : m = m' <<< (i - j).toNat := by
      have e : (i + 1074).toNat = (i - j).toNat + (j + 1074).toNat := by omega
      rw [e, Nat.shiftLeft_add, Nat.shiftLeft_eq, Nat.shiftLeft_eq m] at h
      exact (Nat.eq_of_mul_eq_mul_right (Nat.two_pow_pos _) h).symm
    rw [this, nearest_shift _ _ _ _ hm']
    congr 1; omega
end Go.Fp

/- A number as what lies between two bounds, one twice the other, times a power of two. -/
namespace Go.Fp
open Ieee

theorem read_canon {x : Nat} {s : Bool} {m : Nat} {i : Int} (h : D.read x = .number s m i) : (m < 2 ^ 52 ∧ i = -1074) ∨ (2 ^ 52 ≤ m ∧ m < 2 ^ 53 ∧ -1074 ≤ i) := by
  unfold Format.read at h
  simp only [D_sign, D_inf, D_bin, D_least] at h
  split at h
  · cases h; left; omega
  · split at h
    · cases h; right; omega
    · split at h <;> cases h
theorem canon_eq {m m' : Nat} {i i' : Int} (h : (m < 2 ^ 52 ∧ i = -1074) ∨ (2 ^ 52 ≤ m ∧ m < 2 ^ 53 ∧ -1074 ≤ i)) (h' : (m' < 2 ^ 52 ∧ i' = -1074) ∨ (2 ^ 52 ≤ m' ∧ m' < 2 ^ 53 ∧ -1074 ≤ i'))
    (hv : m <<< (i + 1074).toNat = m' <<< (i' + 1074).toNat) : m = m' ∧ i = i' := by
  have key : ∀ {a b : Nat} {p q : Int}, ((a < 2 ^ 52 ∧ p = -1074) ∨ (2 ^ 52 ≤ a ∧ a < 2 ^ 53 ∧ -1074 ≤ p)) → ((b < 2 ^ 52 ∧ q = -1074) ∨ (2 ^ 52 ≤ b ∧ b < 2 ^ 53 ∧ -1074 ≤ q)) → a <<< (p + 1074).toNat = b <<< (q + 1074).toNat → p < q → False := by
    intro a b p q ha hb hv hpq
    have e : (q + 1074).toNat = (q - p).toNat + (p + 1074).toNat := by omega
    rw [e, Nat.shiftLeft_add, Nat.shiftLeft_eq, Nat.shiftLeft_eq (b <<< _)] at hv
    have h1 := Nat.eq_of_mul_eq_mul_right (Nat.two_pow_pos _) hv
    obtain ⟨d, hd⟩ : ∃ d, (q - p).toNat = d + 1 := ⟨(q - p).toNat - 1, by omega⟩
    rw [hd, Nat.shiftLeft_eq, Nat.pow_succ] at h1
    have hp := Nat.two_pow_pos d
    have h2 : b * 2 ≤ a := by
      rw [h1, ← Nat.mul_assoc, Nat.mul_right_comm]
      exact Nat.le_mul_of_pos_right _ hp
    omega
  rcases Int.lt_trichotomy i i' with hlt | heq | hgt
  · exact (key h h' hv hlt).elim
  · subst heq
    rw [Nat.shiftLeft_eq, Nat.shiftLeft_eq] at hv
    exact ⟨Nat.eq_of_mul_eq_mul_right (Nat.two_pow_pos _) hv, rfl⟩
  · exact (key h' h hv.symm hgt).elim
/-- a number reads as its own telling does -/
theorem read_W {x m : Nat} {i : Int} (h : D.read x = .number false m i) (hm : m ≠ 0) : D.read x = D.read (W m i) := by
  obtain ⟨hlt, h1, h2⟩ := read_fields h
  obtain ⟨m', p, hr, _, _, hp, hv⟩ := W_read hm hlt h1 h2
  obtain ⟨rfl, rfl⟩ := canon_eq (read_canon hr) (read_canon h) hv
  rw [h, hr]
theorem step_double {x m : Nat} {j : Int} (h : D.read x = D.read (W m j)) (hm : m ≠ 0) (hm2 : m < 2 ^ 53) (h1 : -1074 ≤ j) (h2 : j ≤ 971) : fmul x two = W m (j + 1) := by
  obtain ⟨m', p, hr, h0, _, hp, hv⟩ := W_read hm hm2 h1 h2
  rw [mul_two (h.trans hr) h0]
  exact nearest_val hm h0 hp h1 hv 1
/-- how it stands to a number -/
theorem order_W {x m c C : Nat} {j q : Int} (h : D.read x = D.read (W m j)) (hm : m ≠ 0) (hm2 : m < 2 ^ 53) (h1 : -1074 ≤ j) (h2 : j ≤ 971) (hc : D.read c = .number false C q) (hq : -1074 ≤ q) :
    D.order x c = some (compare ((m * 2 ^ (j + 1074).toNat : Nat) : Int) ((C * 2 ^ (q + 1074).toNat : Nat) : Int)) := by
  obtain ⟨m', p, hr, h0, _, hp, hv⟩ := W_read hm hm2 h1 h2
  rw [order_sv (h.trans hr) hc hp hq]
  rw [Nat.shiftLeft_eq, Nat.shiftLeft_eq] at hv
  rw [signed_eq, signed_eq, ← hv]
  simp only [sg, Bool.false_eq_true, if_false, Int.one_mul, Int.natCast_mul]

/-- the root of one half, as the programs have it; twice that -/
abbrev cRoot : Nat := 4604544271217802189
abbrev cRoot2 : Nat := 4609047870845172685
abbrev CR : Nat := 6369051672525773
theorem root_read : D.read cRoot = .number false CR (-53) := by decide +kernel
theorem mul_pow_double (c k l : Nat) (h : l = k + 1) : c * 2 ^ l = c * 2 ^ k * 2 := by subst h; rw [Nat.pow_succ, Nat.mul_assoc]
theorem pow_split (l a b : Nat) (h : l = a + b) : 2 ^ l = 2 ^ a * 2 ^ b := by subst h; exact Nat.pow_add 2 a b
theorem pow_split2 (l a b : Nat) (h : l + 1 = a + b) : 2 ^ l * 2 = 2 ^ a * 2 ^ b := by rw [← Nat.pow_add, ← h, Nat.pow_succ]
/-- within the bounds -/
def Mid (m : Nat) (j : Int) : Prop := CR * 2 ^ 1021 ≤ m * 2 ^ (j + 1074).toNat ∧ m * 2 ^ (j + 1074).toNat < CR * 2 ^ 1022
/-- the place at which a number lies within the bounds -/
def midJ (m : Nat) : Int := if m * 2 ^ (1073 - m.log2) < CR * 2 ^ 1021 then -(m.log2 : Int) else -(m.log2 : Int) - 1
theorem midJ_ok {m : Nat} (hm : m ≠ 0) (hm2 : m < 2 ^ 53) : Mid m (midJ m) ∧ -53 ≤ midJ m ∧ midJ m ≤ 0 := by
  have hl : m.log2 ≤ 52 := log2_of hm hm2
  have h1 := Nat.log2_self_le hm
  have h2 := lt_log2 m
  have p1 : 2 ^ 1073 ≤ m * 2 ^ (1073 - m.log2) := by
    have e : 2 ^ 1073 = 2 ^ m.log2 * 2 ^ (1073 - m.log2) := pow_split 1073 _ _ (by omega)
    rw [e]; exact Nat.mul_le_mul_right _ h1
  have p2 : m * 2 ^ (1073 - m.log2) < 2 ^ 1073 * 2 := by
    have e : 2 ^ 1073 * 2 = 2 ^ (m.log2 + 1) * 2 ^ (1073 - m.log2) := pow_split2 1073 _ _ (by omega)
    rw [e]; exact Nat.mul_lt_mul_of_pos_right h2 (Nat.two_pow_pos _)
  have c1 : 2 ^ 1073 ≤ CR * 2 ^ 1021 := by
    have e : 2 ^ 1073 = 2 ^ 52 * 2 ^ 1021 := pow_split 1073 52 1021 rfl
    rw [e]
    generalize 2 ^ 1021 = Z
    exact Nat.mul_le_mul_right Z (by decide)
  have c2 : CR * 2 ^ 1021 < 2 ^ 1073 * 2 := by
    have e : 2 ^ 1073 * 2 = 2 ^ 53 * 2 ^ 1021 := pow_split2 1073 53 1021 rfl
    have hz := Nat.two_pow_pos 1021
    rw [e]
    generalize 2 ^ 1021 = Z at *
    exact Nat.mul_lt_mul_of_pos_right (by decide) hz
  have c3 : CR * 2 ^ 1022 = CR * 2 ^ 1021 * 2 := mul_pow_double CR 1021 1022 rfl
  unfold midJ Mid
  rw [c3]
  by_cases h : m * 2 ^ (1073 - m.log2) < CR * 2 ^ 1021
  · rw [if_pos h]
    have e : (-(m.log2 : Int) + 1074).toNat = (1073 - m.log2) + 1 := by omega
    have e2 : m * 2 ^ (1073 - m.log2 + 1) = m * 2 ^ (1073 - m.log2) * 2 := by rw [Nat.pow_succ (m := 1073 - m.log2), Nat.mul_assoc]
    rw [e, e2]
    generalize m * 2 ^ (1073 - m.log2) = A at *
    generalize CR * 2 ^ 1021 = Z at *
    generalize 2 ^ 1073 = Y at *
    omega
  · rw [if_neg h]
    have e : (-(m.log2 : Int) - 1 + 1074).toNat = 1073 - m.log2 := by omega
    rw [e]
    generalize m * 2 ^ (1073 - m.log2) = A at *
    generalize CR * 2 ^ 1021 = Z at *
    generalize 2 ^ 1073 = Y at *
    omega
end Go.Fp

/- The bits of a number's exponent, of its fraction. -/
namespace Go.Fp
open Ieee

theorem andNot_exp (x : Nat) (h : x / 2 ^ 63 % 2 = 0) : bits .andNot .u64 (x : Int) 9218868437227405312 = ((x % 2 ^ 52 : Nat) : Int) := by
  show IntKind.u64.wrap ((BitVec.ofInt 64 (x : Int) &&& ~~~BitVec.ofInt 64 9218868437227405312 : BitVec 64).toNat : Int) = ((x % 2 ^ 52 : Nat) : Int)
  have h2 : (BitVec.ofInt 64 (x : Int) &&& ~~~BitVec.ofInt 64 9218868437227405312) = (BitVec.ofNat 64 (x % 2 ^ 52)) := by
    apply BitVec.eq_of_getElem_eq
    intro i hi
    have hm : ∀ i, i < 64 → (BitVec.ofInt 64 9218868437227405312).getLsbD i = (decide (52 ≤ i) && decide (i < 63)) := by decide
    have hmi := hm i hi
    rw [BitVec.getLsbD_eq_getElem hi] at hmi
    rw [BitVec.getElem_and, BitVec.getElem_not, hmi]
    rw [← BitVec.getLsbD_eq_getElem, ← BitVec.getLsbD_eq_getElem]
    rw [BitVec.ofInt_natCast, BitVec.getLsbD_ofNat, BitVec.getLsbD_ofNat, Nat.testBit_mod_two_pow]
    by_cases h63 : i = 63
    · subst h63
      have : x.testBit 63 = false := by
        rw [Nat.testBit_eq_decide_div_mod_eq]; simp; omega
      simp [this]
    · by_cases h52 : 52 ≤ i
      · have : i < 63 := by omega
        simp [h52, this]
        intro _ h; omega
      · have : i < 52 := by omega
        simp [h52, hi, this]
  rw [h2, BitVec.toNat_ofNat, IntKind.wrap_u64]
  have : x % 2 ^ 52 < 2 ^ 52 := Nat.mod_lt _ (by decide)
  omega
theorem and_exp (y : Nat) : bits .and .u64 (y : Int) 2047 = ((y % 2048 : Nat) : Int) := by
  show IntKind.u64.wrap ((BitVec.ofInt 64 (y : Int) &&& BitVec.ofInt 64 2047 : BitVec 64).toNat : Int) = _
  have h1 : (BitVec.ofInt 64 (y : Int) &&& BitVec.ofInt 64 2047 : BitVec 64).toNat = y % 2048 := by
    rw [BitVec.toNat_and, BitVec.ofInt_natCast, BitVec.toNat_ofNat]
    have h2 : (BitVec.ofInt 64 2047 : BitVec 64).toNat = 2 ^ 11 - 1 := by decide
    rw [h2, Nat.and_two_pow_sub_one_eq_mod]
    omega
  rw [h1, IntKind.wrap_u64]
  omega
theorem or_half (y : Nat) (h : y < 2 ^ 52) : bits .or .u64 (y : Int) 4602678819172646912 = ((1022 * 2 ^ 52 + y : Nat) : Int) := by
  show IntKind.u64.wrap ((BitVec.ofInt 64 (y : Int) ||| BitVec.ofInt 64 4602678819172646912 : BitVec 64).toNat : Int) = _
  have h1 : (BitVec.ofInt 64 (y : Int) ||| BitVec.ofInt 64 4602678819172646912 : BitVec 64).toNat = 1022 * 2 ^ 52 + y := by
    rw [BitVec.toNat_or, BitVec.ofInt_natCast, BitVec.toNat_ofNat]
    have h2 : (BitVec.ofInt 64 4602678819172646912 : BitVec 64).toNat = 1022 <<< 52 := by decide
    have h3 : y % 2 ^ 64 = y := by omega
    rw [h2, h3, Nat.or_comm, ← Nat.shiftLeft_add_eq_or_of_lt h, Nat.shiftLeft_eq]
  rw [h1, IntKind.wrap_u64]
  omega

/-- a number that is not small: its word's fields -/
theorem read_norm {x m : Nat} {i : Int} (h : D.read x = .number false m i) (hm : 2 ^ 52 ≤ m) : x / 2 ^ 63 % 2 = 0 ∧ m = 2 ^ 52 + x % 2 ^ 52 ∧ ((x / 2 ^ 52 % 2048 : Nat) : Int) = i + 1075 := by
  obtain ⟨hs, hr⟩ : (x / 2 ^ 63 % 2 == 1) = false ∧ ((x % 2 ^ 63 < 2 ^ 52 ∧ m = x % 2 ^ 63) ∨ (2 ^ 52 ≤ x % 2 ^ 63 ∧ x % 2 ^ 63 < 2047 * 2 ^ 52 ∧ m = 2 ^ 52 + x % 2 ^ 63 % 2 ^ 52 ∧ i = -1074 + (x % 2 ^ 63 / 2 ^ 52 - 1 : Nat))) := by
    unfold Format.read at h
    simp only [D_sign, D_inf, D_bin, D_least] at h
    by_cases h1 : x % 2 ^ 63 < 2 ^ 52
    · rw [if_pos h1, Datum.number.injEq] at h
      exact ⟨h.1, .inl ⟨h1, h.2.1.symm⟩⟩
    · rw [if_neg h1] at h
      by_cases h2 : x % 2 ^ 63 < 2047 * 2 ^ 52
      · rw [if_pos h2, Datum.number.injEq] at h
        exact ⟨h.1, .inr ⟨by omega, h2, h.2.1.symm, h.2.2.symm⟩⟩
      · rw [if_neg h2] at h
        split at h <;> cases h
  have hs' : ¬ (x / 2 ^ 63 % 2 = 1) := by
    intro e; rw [e] at hs; cases hs
  rcases hr with ⟨h1, h2⟩ | ⟨h1, h2, h3, h4⟩
  · omega
  · refine ⟨by omega, ?_, ?_⟩
    · rw [h3]; congr 1; omega
    · rw [h4]; omega

/-- the fraction of a number that is not small, from a half on, below one -/
theorem read_fr {x m : Nat} {i : Int} (h : D.read x = .number false m i) (hm : 2 ^ 52 ≤ m) :
    D.read (bits .or .u64 (bits .andNot .u64 (x : Int) 9218868437227405312) 4602678819172646912).toNat = .number false m (-53) := by
  obtain ⟨h1, h2, h3⟩ := read_norm h hm
  have hlt : x % 2 ^ 52 < 2 ^ 52 := Nat.mod_lt _ (by decide)
  rw [andNot_exp x h1, or_half _ hlt, Int.toNat_natCast]
  have e : (1022 * 2 ^ 52 + x % 2 ^ 52) = D.word false (1022 * 2 ^ 52 + x % 2 ^ 52) := rfl
  rw [e, read_word2 false (by omega), if_neg (by omega)]
  have e1 : (1022 * 2 ^ 52 + x % 2 ^ 52) % 2 ^ 52 = x % 2 ^ 52 := by omega
  have e2 : (1022 * 2 ^ 52 + x % 2 ^ 52) / 2 ^ 52 = 1022 := by omega
  rw [e1, e2, ← h2]
  rfl
end Go.Fp

/- The logarithm: what it is; how two loops come to a number's middle. -/
namespace Go.Fp
open Ieee

theorem fsub_rd {a b : Nat} (y : Nat) (h : D.read a = D.read b) : fsub a y = fsub b y := by
  unfold fsub Format.sub; rw [h]
theorem fadd_rd {a b : Nat} (y : Nat) (h : D.read a = D.read b) : fadd a y = fadd b y := by
  unfold fadd Format.add; rw [h]
theorem nan_rd {a b : Nat} (h : D.read a = D.read b) : isNan a = isNan b := by
  unfold isNan; rw [h]

theorem lt_root {x m : Nat} {j : Int} (h : D.read x = D.read (W m j)) (hm : m ≠ 0) (hm2 : m < 2 ^ 53) (h1 : -1074 ≤ j) (h2 : j ≤ 971) :
    ((D.order x cRoot == some .lt) = true) ↔ m * 2 ^ (j + 1074).toNat < CR * 2 ^ 1021 := by
  rw [order_W h hm hm2 h1 h2 root_read (by decide)]
  have e : ((-53 : Int) + 1074).toNat = 1021 := by decide
  rw [e]
  generalize CR * 2 ^ 1021 = Z
  generalize m * 2 ^ (j + 1074).toNat = A
  rw [beq_iff_eq, Option.some.injEq, compare_lt]
  omega

/-- the same number by its leading digit's place: what Frexp hands back -/
theorem frac_W {m m1 : Nat} {i p : Int} (hm : m ≠ 0) (hm1 : 2 ^ 52 ≤ m1) (hm1' : m1 < 2 ^ 53) (hi : -1074 ≤ i) (hp : -1074 ≤ p) (h : m1 <<< (p + 1074).toNat = m <<< (i + 1074).toNat) :
    p = i + (m.log2 : Int) - 52 ∧ W m1 (-53) = W m (-(m.log2 : Int) - 1) := by
  have h0 : m1 ≠ 0 := by omega
  have l1 : m1.log2 = 52 := by
    have a := log2_of h0 hm1'
    have b := (Nat.le_log2 h0).2 hm1
    omega
  have l2 := log2_shift_le m1 (p + 1074).toNat h0
  have l3 := log2_shift_le m (i + 1074).toNat hm
  rw [h, l3, l1] at l2
  have e : p = i + (m.log2 : Int) - 52 := by omega
  refine ⟨e, ?_⟩
  have := nearest_val hm h0 hp hi h (-53 - p)
  unfold W
  rw [show (-53 : Int) = p + (-53 - p) by omega, this]
  congr 1; omega
end Go.Fp

/- The logarithm: what it is; a number made greater, if it is small. -/
namespace Go.Fp
open Ieee

abbrev cMin : Nat := 4503599627370496
abbrev c52 : Nat := 4841369599423283200
theorem cMin_read : D.read cMin = .number false (2 ^ 52) (-1074) := by decide +kernel
theorem c52_read : D.read c52 = .number false (2 ^ 52) 0 := by decide +kernel
theorem abs_rd {x m : Nat} {i : Int} (h : D.read x = .number false m i) : D.read (absW x) = .number false m i := by
  have hs : (x / 2 ^ 63 % 2 == 1) = false := by
    unfold Format.read at h
    simp only [D_sign, D_inf, D_bin, D_least] at h
    split at h
    · rw [Datum.number.injEq] at h; exact h.1
    · split at h
      · rw [Datum.number.injEq] at h; exact h.1
      · split at h <;> cases h
  rw [← h]
  unfold absW Format.read
  simp only [D_sign, D_inf, D_bin, D_least]
  have e1 : x % 2 ^ 63 % 2 ^ 63 = x % 2 ^ 63 := by omega
  have e2 : (x % 2 ^ 63 / 2 ^ 63 % 2 == 1) = (x / 2 ^ 63 % 2 == 1) := by
    rw [hs]
    have : x % 2 ^ 63 / 2 ^ 63 % 2 = 0 := by omega
    rw [this]; rfl
  rw [e1, e2]
/-- a number that is not small stays -/
theorem big_abs {x m : Nat} {i : Int} (h : D.read x = .number false m i) (hm : 2 ^ 52 ≤ m) : ¬ D.order (absW x) cMin = some .lt := by
  obtain ⟨_, h1, _⟩ := read_fields h
  rw [order_sv (abs_rd h) cMin_read h1 (by decide), Option.some.injEq, compare_lt, signed_eq, signed_eq]
  have e : ((-1074 : Int) + 1074).toNat = 0 := by decide
  have hp := Nat.two_pow_pos (i + 1074).toNat
  have h2 : m ≤ m * 2 ^ (i + 1074).toNat := Nat.le_mul_of_pos_right _ hp
  rw [e]
  simp only [sg, Bool.false_eq_true, if_false, Int.one_mul, Nat.pow_zero]
  rw [← Int.natCast_mul]
  generalize m * 2 ^ (i + 1074).toNat = A at *
  omega
/-- a small number is made greater by 52 places -/
theorem small_abs {x m : Nat} (h : D.read x = .number false m (-1074)) (hm : m < 2 ^ 52) (h0 : m ≠ 0) :
    D.order (absW x) cMin = some .lt ∧ ∃ m1 p1, D.read (fmul x c52) = .number false m1 p1 ∧ 2 ^ 52 ≤ m1 ∧ m1 < 2 ^ 53 ∧ -1074 ≤ p1 ∧ m1 <<< (p1 + 1074).toNat = m <<< 52 := by
  constructor
  · rw [order_sv (abs_rd h) cMin_read (by decide) (by decide), Option.some.injEq, compare_lt, signed_eq, signed_eq]
    have e : ((-1074 : Int) + 1074).toNat = 0 := by decide
    rw [e]
    simp only [sg, Bool.false_eq_true, if_false, Int.one_mul, Nat.pow_zero]
    omega
  · have e : fmul x c52 = W m (-1022) := by
      rw [mul_read h c52_read, ← Nat.shiftLeft_eq, nearest_shift _ _ _ _ h0]
      unfold W
      rfl
    rw [e]
    obtain ⟨m1, p1, hr, h1, h2, h3, h4⟩ := W_read h0 (by omega : m < 2 ^ 53) (show (-1074 : Int) ≤ -1022 by decide) (by decide)
    have e2 : ((-1022 : Int) + 1074).toNat = 52 := by decide
    rw [e2] at h4
    refine ⟨m1, p1, hr, ?_, h2, h3, h4⟩
    rcases read_canon hr with ⟨c1, c2⟩ | ⟨c1, _, _⟩
    · exfalso
      subst c2
      have e3 : ((-1074 : Int) + 1074).toNat = 0 := by decide
      rw [e3, Nat.shiftLeft_zero, Nat.shiftLeft_eq] at h4
      have : 1 * 2 ^ 52 ≤ m * 2 ^ 52 := Nat.mul_le_mul_right _ (by omega)
      omega
    · exact c1

abbrev one1 : Nat := 4607182418800017408
abbrev lnHigh : Nat := 4604418534311723008
abbrev lnLow : Nat := 4461442080421002358
/-- the series' last terms -/
def lnS (z : Nat) : Nat → Nat
  | 0 => can 4586426698778222948
  | k + 1 => fadd (fdiv (can one1) (can (floatOfInt .f64 (21 - 2 * (k : Int))))) (fmul z (lnS z k))
def lnQ (M : Nat) (k : Int) : Nat :=
  fadd (fmul (can (floatOfInt .f64 k)) (can lnHigh)) (fadd (fmul (can two) (fmul (fdiv (fsub M (can one1)) (fadd M (can one1))) (lnS (fmul (fdiv (fsub M (can one1)) (fadd M (can one1))) (fdiv (fsub M (can one1)) (fadd M (can one1)))) 11))) (fmul (can (floatOfInt .f64 k)) (can lnLow)))
/-- the logarithm of a number -/
def lnP (x : Nat) : Nat := if isNan x = true ∨ D.order x 0 = some .lt then QN else if D.order x 0 = some .eq then 18442240474082181120 else match D.read x with
  | .number _ m i => lnQ (W m (midJ m)) (i - midJ m)
  | _ => x
theorem lnQ_read {a b : Nat} (k : Int) (h : D.read a = D.read b) : lnQ a k = lnQ b k := by
  unfold lnQ; rw [fsub_rd _ h, fadd_rd _ h]
end Go.Fp

/- The third flattening of a globe is a number. -/
namespace Go.Fp
open Ieee

theorem mul_zero {x : Nat} {k : Int} (h : Tp k x) : fmul x 0 = 0 ∨ fmul x 0 = 2 ^ 63 := by
  obtain ⟨s, m, i, hr, _⟩ := h
  have hz : D.read 0 = .number false 0 (-1074) := by decide +kernel
  rw [mul_read hr hz, Nat.mul_zero]
  unfold Format.nearest
  rw [if_pos rfl]
  unfold Format.word
  rw [D_sign]
  cases s
  · left; rfl
  · right; rfl
end Go.Fp
