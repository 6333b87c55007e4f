/- From frame to frame and back: the law in plain words. -/
import Derived.Test.YteebbcdbkkliaaaDoorJD
import Derived.Test.YteebbcdbkkliaaaDoorZA
namespace Go.Fp
open Ieee

theorem pw_inv (k : Nat) : pw (-(k : Int)) * ((2 ^ k : Nat) : Rat) = 1 := by
  rw [← pw_nat, ← pw_add, Int.add_left_neg, pw_zero]
theorem vl_const {x : Nat} {s : Bool} {m k : Nat} (h : D.read x = .number s m (-(k : Int))) {q : Rat} (hq : q * ((2 ^ k : Nat) : Rat) = ((sg s : Int) : Rat) * (m : Rat)) : Fin x ∧ vl x = q := by
  refine ⟨⟨_, _, _, h⟩, ?_⟩
  rw [vl_of h]
  unfold vd
  have := pw_inv k
  rw [← hq]
  generalize pw (-(k : Int)) = z at *
  generalize ((2 ^ k : Nat) : Rat) = y at *
  grind
theorem btw_vl {x lo hi : Nat} (hlo : Fin lo) (hhi : Fin hi) (h1 : fge x lo = true) (h2 : fle x hi = true) : Fin x ∧ vl lo ≤ vl x ∧ vl x ≤ vl hi := by
  have hx : Fin x := by
    unfold fge at h1
    unfold fle at h2
    obtain ⟨s, m, i, hlo⟩ := hlo
    obtain ⟨t, n, j, hhi⟩ := hhi
    unfold Format.order at h1 h2
    rw [hlo] at h1
    rw [hhi] at h2
    cases hr : D.read x with
    | nan a b => rw [hr] at h1; simp [Datum.order] at h1
    | infinity s => rw [hr] at h1 h2; cases s <;> simp [Datum.order] at h1 h2
    | number s m i => exact ⟨_, _, _, hr⟩
  refine ⟨hx, ?_, ?_⟩
  · unfold fge at h1
    simp only [Bool.or_eq_true, beq_iff_eq] at h1
    rcases h1 with h | h
    · exact Rat.le_of_lt ((order_gt hx hlo).1 h)
    · have := (order_eq hx hlo).1 h; grind
  · unfold fle at h2
    simp only [Bool.or_eq_true, beq_iff_eq] at h2
    rcases h2 with h | h
    · exact Rat.le_of_lt ((order_lt hx hhi).1 h)
    · have := (order_eq hx hhi).1 h; grind
theorem fle_vl {x y : Nat} (hx : Fin x) (hy : Fin y) : fle x y = true ↔ vl x ≤ vl y := by
  unfold fle
  simp only [Bool.or_eq_true, beq_iff_eq]
  rw [order_lt hx hy, order_eq hx hy]
  grind
theorem fge_vl {x y : Nat} (hx : Fin x) (hy : Fin y) : fge x y = true ↔ vl y ≤ vl x := by
  unfold fge
  simp only [Bool.or_eq_true, beq_iff_eq]
  rw [order_gt hx hy, order_eq hx hy]
  grind

abbrev c1e5 : Nat := 4681608360884174848
abbrev m1e5 : Nat := 13904980397738950656
abbrev c1m3 : Nat := 4562254508917369340
abbrev m1m3 : Nat := 13785626545772145148
abbrev c1e3 : Nat := 4652007308841189376
abbrev m1e3 : Nat := 13875379345695965184
abbrev c1e8 : Nat := 4726483295884279808
abbrev m1e8 : Nat := 13949855332739055616
abbrev c1e10 : Nat := 4756540486875873280
abbrev m1e10 : Nat := 13979912523730649088
abbrev c1m5 : Nat := 4532020583610935537
abbrev m1m5 : Nat := 13755392620465711345
abbrev c1m6 : Nat := 4517329193108106637
abbrev cOne : Nat := 4607182418800017408
theorem v_1e5 : Fin c1e5 ∧ vl c1e5 = 100000 := vl_const (s := false) (m := 6871947673600000) (k := 36) (by decide +kernel) (by decide +kernel)
theorem v_m1e5 : Fin m1e5 ∧ vl m1e5 = -100000 := vl_const (s := true) (m := 6871947673600000) (k := 36) (by decide +kernel) (by decide +kernel)
theorem v_1m3 : Fin c1m3 ∧ vl c1m3 = 1152921504606847 / 1152921504606846976 := vl_const (s := false) (m := 4611686018427388) (k := 62) (by decide +kernel) (by decide +kernel)
theorem v_m1m3 : Fin m1m3 ∧ vl m1m3 = -1152921504606847 / 1152921504606846976 := vl_const (s := true) (m := 4611686018427388) (k := 62) (by decide +kernel) (by decide +kernel)
theorem v_1e3 : Fin c1e3 ∧ vl c1e3 = 1000 := vl_const (s := false) (m := 8796093022208000) (k := 43) (by decide +kernel) (by decide +kernel)
theorem v_m1e3 : Fin m1e3 ∧ vl m1e3 = -1000 := vl_const (s := true) (m := 8796093022208000) (k := 43) (by decide +kernel) (by decide +kernel)
theorem v_1e8 : Fin c1e8 ∧ vl c1e8 = 100000000 := vl_const (s := false) (m := 6710886400000000) (k := 26) (by decide +kernel) (by decide +kernel)
theorem v_m1e8 : Fin m1e8 ∧ vl m1e8 = -100000000 := vl_const (s := true) (m := 6710886400000000) (k := 26) (by decide +kernel) (by decide +kernel)
theorem v_1e10 : Fin c1e10 ∧ vl c1e10 = 10000000000 := vl_const (s := false) (m := 5242880000000000) (k := 19) (by decide +kernel) (by decide +kernel)
theorem v_m1e10 : Fin m1e10 ∧ vl m1e10 = -10000000000 := vl_const (s := true) (m := 5242880000000000) (k := 19) (by decide +kernel) (by decide +kernel)
theorem v_1m5 : Fin c1m5 ∧ vl c1m5 = 5902958103587057 / 590295810358705651712 := vl_const (s := false) (m := 5902958103587057) (k := 69) (by decide +kernel) (by decide +kernel)
theorem v_m1m5 : Fin m1m5 ∧ vl m1m5 = -5902958103587057 / 590295810358705651712 := vl_const (s := true) (m := 5902958103587057) (k := 69) (by decide +kernel) (by decide +kernel)
theorem v_1m6 : Fin c1m6 ∧ vl c1m6 = 4722366482869645 / 4722366482869645213696 := vl_const (s := false) (m := 4722366482869645) (k := 72) (by decide +kernel) (by decide +kernel)
theorem v_one : Fin cOne ∧ vl cOne = 1 := vl_const (s := false) (m := 4503599627370496) (k := 52) (by decide +kernel) (by decide +kernel)
end Go.Fp
