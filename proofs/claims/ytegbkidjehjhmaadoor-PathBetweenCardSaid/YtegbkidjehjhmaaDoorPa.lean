/- Plain laws: the reference's angle of a point is the program's: sizes by sign or by bit; zeros of either sign. -/
import Derived.Test.YtegbkidjehjhmaaDoorPs
namespace Go.Fp
open Ieee

def refAbs (x : Nat) : Nat := if flt x 0 then Op.negFloat .f64 x else x

theorem read_mod (x y : Nat) (h1 : x / 2 ^ 63 % 2 = y / 2 ^ 63 % 2) (h2 : x % 2 ^ 63 = y % 2 ^ 63) : D.read x = D.read y := by
  unfold Format.read
  simp only [D_sign]
  rw [h1, h2]

theorem neg_parts (x : Nat) : (Op.negFloat .f64 x) % 2 ^ 63 = x % 2 ^ 63 ∧ (Op.negFloat .f64 x) / 2 ^ 63 % 2 = 1 - x / 2 ^ 63 % 2 := by
  have e : Op.negFloat .f64 x = x ^^^ 2 ^ 63 := rfl
  rw [e]
  constructor
  · apply Nat.eq_of_testBit_eq
    intro i
    rw [Nat.testBit_mod_two_pow, Nat.testBit_mod_two_pow, Nat.testBit_xor, Nat.testBit_two_pow]
    by_cases h : i < 63
    · have h6 : ¬ 63 = i := by omega
      simp [h, h6]
    · simp [h]
  · have h : (x ^^^ 2 ^ 63).testBit 63 = !(x.testBit 63) := by
      rw [Nat.testBit_xor, Nat.testBit_two_pow]; simp
    rw [Nat.testBit_eq_decide_div_mod_eq, Nat.testBit_eq_decide_div_mod_eq] at h
    have h1 : (x ^^^ 2 ^ 63) / 2 ^ 63 % 2 < 2 := Nat.mod_lt _ (by decide)
    have h2 : x / 2 ^ 63 % 2 < 2 := Nat.mod_lt _ (by decide)
    generalize (x ^^^ 2 ^ 63) / 2 ^ 63 % 2 = a at *
    generalize x / 2 ^ 63 % 2 = b at *
    have ha : a = 0 ∨ a = 1 := by omega
    have hb : b = 0 ∨ b = 1 := by omega
    rcases ha with rfl | rfl <;> rcases hb with rfl | rfl <;> simp at h <;> rfl

theorem abs_parts (x : Nat) : absW x % 2 ^ 63 = x % 2 ^ 63 ∧ absW x / 2 ^ 63 % 2 = 0 := by
  unfold absW
  constructor
  · omega
  · have : x % 2 ^ 63 < 2 ^ 63 := Nat.mod_lt _ (by decide)
    rw [Nat.div_eq_of_lt this]

theorem read_sign {x : Nat} {s : Bool} {m : Nat} {p : Int} (h : D.read x = .number s m p) : (s = true ↔ x / 2 ^ 63 % 2 = 1) := by
  unfold Format.read at h
  simp only [D_sign] at h
  split at h
  · cases h; simp
  · split at h
    · cases h; simp
    · split at h <;> cases h
theorem read_sign_inf {x : Nat} {s : Bool} (h : D.read x = .infinity s) : (s = true ↔ x / 2 ^ 63 % 2 = 1) := by
  unfold Format.read at h
  simp only [D_sign] at h
  split at h
  · cases h
  · split at h
    · cases h
    · split at h <;> cases h; simp
theorem read_zero {x : Nat} {s : Bool} {p : Int} (h : D.read x = .number s 0 p) : x % 2 ^ 63 = 0 ∧ p = -1074 := by
  unfold Format.read at h
  simp only [D_sign, D_bin, D_least] at h
  split at h
  · injection h with _ h1 h2; exact ⟨h1, h2.symm⟩
  · split at h
    · injection h with _ h _; omega
    · split at h <;> cases h
theorem read0 : D.read 0 = .number false 0 (-1074) := by decide +kernel

/-- a size told by the sign's bit and one told by '<': the same, or both nought -/
theorem refAbs_read {x : Nat} (hn : isNan x = false) : D.read (refAbs x) = D.read (absW x) ∨ (∃ s, D.read (refAbs x) = .number s 0 (-1074)) ∧ ∃ s, D.read (absW x) = .number s 0 (-1074) := by
  unfold refAbs
  have hap := abs_parts x
  have hnp := neg_parts x
  cases hf : flt x 0
  · -- not below 0
    rw [if_neg (by simp)]
    by_cases hs : x / 2 ^ 63 % 2 = 1
    · refine .inr ?_
      cases hd : D.read x with
      | nan s t => unfold isNan at hn; rw [hd] at hn; cases hn
      | infinity s =>
        have := (read_sign_inf hd).2 hs
        subst this
        unfold flt Format.order at hf
        rw [hd, read0] at hf
        simp [Datum.order] at hf
      | number s m p =>
        have := (read_sign hd).2 hs
        subst this
        have hm : m = 0 := by
          unfold flt Format.order at hf
          rw [hd, read0] at hf
          simp only [Datum.order] at hf
          by_cases hm : m = 0
          · exact hm
          · exfalso
            have h1 : signed true m (p - min p (-1074)).toNat < signed false 0 (-1074 - min p (-1074)).toNat := by
              unfold signed
              simp only [if_true, Bool.false_eq_true, if_false, Nat.zero_shiftLeft]
              have : 0 < m <<< (p - min p (-1074)).toNat := by
                rw [Nat.shiftLeft_eq]; exact Nat.mul_pos (by omega) (Nat.two_pow_pos _)
              omega
            rw [Int.compare_eq_lt.2 h1] at hf
            simp at hf
        subst hm
        obtain ⟨hz, hp⟩ := read_zero hd
        subst hp
        refine ⟨⟨true, rfl⟩, false, ?_⟩
        have : absW x = 0 := by unfold absW; exact hz
        rw [this]; exact read0
    · refine .inl (read_mod _ _ ?_ hap.1.symm)
      have : x / 2 ^ 63 % 2 < 2 := Nat.mod_lt _ (by decide)
      omega
  · rw [if_pos rfl]
    refine .inl (read_mod _ _ ?_ (by rw [hnp.1, hap.1]))
    have hs : x / 2 ^ 63 % 2 = 1 := by
      cases hd : D.read x with
      | nan s t => unfold isNan at hn; rw [hd] at hn; cases hn
      | infinity s =>
        refine (read_sign_inf hd).1 ?_
        unfold flt Format.order at hf
        rw [hd, read0] at hf
        cases s
        · simp [Datum.order] at hf
        · rfl
      | number s m p =>
        refine (read_sign hd).1 ?_
        unfold flt Format.order at hf
        rw [hd, read0] at hf
        cases s
        · exfalso
          simp only [Datum.order, signed, Bool.false_eq_true, if_false, Nat.zero_shiftLeft] at hf
          have h1 : ¬ ((m <<< (p - min p (-1074)).toNat : Nat) : Int) < ((0 : Nat) : Int) := Int.not_lt.2 (Int.natCast_nonneg _)
          simp only [beq_iff_eq, Option.some.injEq] at hf
          exact h1 (Int.compare_eq_lt.1 hf)
        · rfl
    rw [hnp.2, hap.2]; omega

theorem order_read {a b : Nat} (h : D.read a = D.read b) (t : Nat) : D.order a t = D.order b t ∧ D.order t a = D.order t b := by
  unfold Format.order; rw [h]; exact ⟨rfl, rfl⟩
theorem order_nought {a b : Nat} {s t : Bool} (ha : D.read a = .number s 0 (-1074)) (hb : D.read b = .number t 0 (-1074)) (u : Nat) : D.order a u = D.order b u ∧ D.order u a = D.order u b := by
  unfold Format.order
  rw [ha, hb]
  cases D.read u with
  | nan _ _ => exact ⟨rfl, rfl⟩
  | infinity _ => exact ⟨rfl, rfl⟩
  | number q m p => constructor <;> simp [Datum.order, signed]

theorem fmul_read {u u' : Nat} (s : Nat) (h : D.read u = D.read u') : fmul s u = fmul s u' := by
  unfold fmul Format.mul; rw [h]
theorem fmul_nought {s u : Nat} {k : Int} {t : Bool} (hs : Tp k s) (h : D.read u = .number t 0 (-1074)) : ∃ q, D.read (fmul s u) = .number q 0 (-1074) := by
  obtain ⟨s1, m, p, hr, _⟩ := hs
  have e : fmul s u = D.nearest (s1 ^^ t) (m * 0) (p + -1074) := by
    unfold fmul opt Format.mul; rw [hr, h]; rfl
  rw [e]
  have e2 : D.nearest (s1 ^^ t) (m * 0) (p + -1074) = D.word (s1 ^^ t) 0 := by
    unfold Format.nearest; rw [if_pos (Nat.mul_zero m)]
  rw [e2]
  obtain ⟨q, hq⟩ := read_word (s1 ^^ t) (r := 0) (by decide)
  exact ⟨q, by rw [hq]; rfl⟩

theorem tp_neg {k : Int} {x : Nat} (h : Tp k x) : Tp k (Op.negFloat .f64 x) := by
  obtain ⟨s, m, p, hr, h⟩ := h
  have hnp := neg_parts x
  refine ⟨!s, m, p, ?_, h⟩
  unfold Format.read at hr ⊢
  simp only [D_sign] at hr ⊢
  rw [hnp.1, hnp.2]
  have h2 : x / 2 ^ 63 % 2 < 2 := Nat.mod_lt _ (by decide)
  have hb : (1 - x / 2 ^ 63 % 2 == 1) = !(x / 2 ^ 63 % 2 == 1) := by
    by_cases h3 : x / 2 ^ 63 % 2 = 1
    · simp [h3]
    · have : x / 2 ^ 63 % 2 = 0 := by omega
      simp [this]
  rw [hb]
  split at hr
  · rename_i h5; rw [if_pos h5]; cases hr; rfl
  · rename_i h5
    rw [if_neg h5]
    split at hr
    · rename_i h6; rw [if_pos h6]; cases hr; rfl
    · split at hr <;> cases hr

theorem tp_sinP (a : Int) : Tp 100 (sinP a) := by
  have h1 := (tp_s (normP_lo a) (normP_hi a)).2
  have h2 := (tp_c (normP_lo a) (normP_hi a)).2
  unfold sinP sinN
  split
  · exact h1
  · split
    · exact h2
    · split
      · exact tp_neg h1
      · exact tp_neg h2
theorem tp_cosP (a : Int) : Tp 100 (cosP a) := by
  have h1 := (tp_s (normP_lo a) (normP_hi a)).2
  have h2 := (tp_c (normP_lo a) (normP_hi a)).2
  unfold cosP cosN
  split
  · exact h2
  · split
    · exact tp_neg h1
    · split
      · exact tp_neg h2
      · exact h1

theorem fle_both {s c x y : Nat} {k : Int} (hs : Tp k s) (hc : Tp k c) (hx : isNan x = false) (hy : isNan y = false) :
    fle (fmul s (refAbs x)) (fmul c (refAbs y)) = fle (fmul s (absW x)) (fmul c (absW y)) := by
  have hl : ∀ t, D.order (fmul s (refAbs x)) t = D.order (fmul s (absW x)) t := by
    intro t
    rcases refAbs_read hx with h | ⟨⟨q, h⟩, q', h'⟩
    · rw [fmul_read s h]
    · obtain ⟨r, hr⟩ := fmul_nought hs h
      obtain ⟨r', hr'⟩ := fmul_nought hs h'
      exact (order_nought hr hr' t).1
  have hr : ∀ t, D.order t (fmul c (refAbs y)) = D.order t (fmul c (absW y)) := by
    intro t
    rcases refAbs_read hy with h | ⟨⟨q, h⟩, q', h'⟩
    · rw [fmul_read c h]
    · obtain ⟨r, hr⟩ := fmul_nought hc h
      obtain ⟨r', hr'⟩ := fmul_nought hc h'
      exact (order_nought hr hr' t).2
  unfold fle
  rw [hl, hr]

theorem quad_ref {x y : Nat} (hx : isNan x = false) (hy : isNan y = false) : quad (absW x) (absW y) = bisect (fun m => fle (fmul (sinP m) (refAbs x)) (fmul (cosP m) (refAbs y))) 0 90000000001 := by
  unfold quad
  congr 1
  funext m
  exact (fle_both (tp_sinP m) (tp_cosP m) hx hy).symm
end Go.Fp
