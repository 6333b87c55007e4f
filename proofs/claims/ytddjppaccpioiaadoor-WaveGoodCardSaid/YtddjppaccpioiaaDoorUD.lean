/- From a strip: what is reckoned; laws on signs. -/
import Derived.Test.YtddjppaccpioiaaDoorUC
import Derived.Test.YtddjppaccpioiaaDoorU0
namespace Go.Fp
open Ieee Go.Proofs.YtddjppaccpioiaaDoor
theorem word_val (s : Bool) (r : Nat) : D.word s r = (if s then 2 ^ 63 else 0) + r := by
  unfold Format.word
  rw [D_sign]
  cases s <;> simp
theorem neg_lt {x : Nat} (h : x < 2 ^ 64) : Op.negFloat .f64 x < 2 ^ 64 := by
  have e : Op.negFloat .f64 x = x ^^^ 2 ^ 63 := rfl
  rw [e]
  exact Nat.xor_lt_two_pow h (by decide)
theorem neg_word (u : Bool) (R : Nat) (h : R < 2 ^ 63) : Op.negFloat .f64 (D.word u R) = D.word (!u) R := by
  rw [word_val, word_val]
  cases u
  · have h1 := neg_parts ((if false = true then 2 ^ 63 else 0) + R)
    have h2 := neg_lt (x := (if false = true then 2 ^ 63 else 0) + R) (by simp; omega)
    simp only [Bool.false_eq_true, if_false, Nat.zero_add, Bool.not_false, if_true] at *
    obtain ⟨h3, h4⟩ := h1
    omega
  · have h1 := neg_parts ((if true = true then 2 ^ 63 else 0) + R)
    have h2 := neg_lt (x := (if true = true then 2 ^ 63 else 0) + R) (by simp; omega)
    simp only [if_true, Bool.not_true, Bool.false_eq_true, if_false, Nat.zero_add] at *
    obtain ⟨h3, h4⟩ := h1
    omega
theorem near_word (N : Nat) (base : Int) : ∃ R, R ≤ D.infRung ∧ (∀ u, D.nearest u N base = D.word u R) := by
  by_cases h : N = 0
  · exact ⟨0, Nat.zero_le _, fun u => by unfold Format.nearest; rw [if_pos h]⟩
  · generalize hl : max (base + (N.log2 : Int) - (D.fractionBits : Int)) D.leastPlace = last
    refine ⟨min ((last - D.leastPlace).toNat * D.binade + Toward.even.cut false (N <<< (base - last).toNat) (last - base).toNat) D.infRung, Nat.min_le_right _ _, fun u => ?_⟩
    unfold Format.nearest
    rw [if_neg h]
    simp only [hl]
    rw [cut_even, cut_even]
theorem rung63 {R : Nat} (h : R ≤ D.infRung) : R < 2 ^ 63 := by rw [D_inf] at h; omega
theorem fmul_canL (x y : Nat) : fmul (can x) y = fmul x y := by
  rw [← fmul_can (can x) y, can_can, fmul_can]
theorem negC_QN : negC QN = QN := by
  unfold negC
  exact can_of_nan (by rw [neg_nan]; exact isNan_QN)
theorem mul_negC (b s : Nat) : fmul (negC b) s = negC (fmul b s) := by
  unfold negC
  rw [fmul_canL]
  have e1 : fmul (Op.negFloat .f64 b) s = ((((D.read b).opposite).product (D.read s)).map D.write).getD QN := by
    unfold fmul opt Format.mul
    rw [read_neg]
  have e2 : fmul b s = (((D.read b).product (D.read s)).map D.write).getD QN := by unfold fmul opt; rfl
  have hn : ∀ r, isNan r = false → can (Op.negFloat .f64 r) = Op.negFloat .f64 r := fun r h => can_of_not (by rw [neg_nan]; exact h)
  have hq : QN = can (Op.negFloat .f64 QN) := negC_QN.symm
  have hw : ∀ (u : Bool) (R : Nat), R ≤ D.infRung → D.word (!u) R = can (Op.negFloat .f64 (D.word u R)) := fun u R h => by
    rw [hn _ (isNan_word u h), neg_word u R (rung63 h)]
  rw [e1, e2]
  cases hb : D.read b with
  | nan a c => exact hq
  | infinity u =>
    cases hs : D.read s with
    | nan a c => exact hq
    | infinity t =>
      show D.word ((!u) ^^ t) D.infRung = can (Op.negFloat .f64 (D.word (u ^^ t) D.infRung))
      rw [← hw _ _ (Nat.le_refl _)]
      cases u <;> cases t <;> rfl
    | number t n j =>
      by_cases h0 : n = 0
      · subst h0; exact hq
      · have e3 : Datum.product ((Datum.infinity u).opposite) (.number t n j) = some (.infinity ((!u) ^^ t)) := by show (if n = 0 then none else _) = _; rw [if_neg h0]
        have e4 : Datum.product (Datum.infinity u) (.number t n j) = some (.infinity (u ^^ t)) := by show (if n = 0 then none else _) = _; rw [if_neg h0]
        rw [e3, e4]
        show D.word ((!u) ^^ t) D.infRung = can (Op.negFloat .f64 (D.word (u ^^ t) D.infRung))
        rw [← hw _ _ (Nat.le_refl _)]
        cases u <;> cases t <;> rfl
  | number u m i =>
    cases hs : D.read s with
    | nan a c => exact hq
    | infinity t =>
      by_cases h0 : m = 0
      · subst h0; exact hq
      · have e3 : Datum.product ((Datum.number u m i).opposite) (.infinity t) = some (.infinity (t ^^ (!u))) := by show (if m = 0 then none else _) = _; rw [if_neg h0]
        have e4 : Datum.product (Datum.number u m i) (.infinity t) = some (.infinity (t ^^ u)) := by show (if m = 0 then none else _) = _; rw [if_neg h0]
        rw [e3, e4]
        show D.word (t ^^ (!u)) D.infRung = can (Op.negFloat .f64 (D.word (t ^^ u) D.infRung))
        rw [← hw _ _ (Nat.le_refl _)]
        cases u <;> cases t <;> rfl
    | number t n j =>
      show D.nearest ((!u) ^^ t) (m * n) (i + j) = can (Op.negFloat .f64 (D.nearest (u ^^ t) (m * n) (i + j)))
      obtain ⟨R, hR, hN⟩ := near_word (m * n) (i + j)
      rw [hN, hN, ← hw _ _ hR]
      cases u <;> cases t <;> rfl
theorem order_canR (x y : Nat) : D.order x (can y) = D.order x y := by
  rw [← order_can x (can y), can_can, order_can]
end Go.Fp
namespace Go.Proofs.YtddjppaccpioiaaDoor
open Go.RowKit Go.Fp Go.Rel
set_option maxRecDepth 20000

abbrev k16 : Nat := 4609884578576439706
abbrev n16 : Nat := 13833256615431215514
theorem neg_k16 : negC k16 = n16 := by decide +kernel
/-- the radius on paper; whether a point is near enough -/
def rS (a f sc : Nat) : Nat := fmul (radS a f) (can sc)
def inX1 (R x : Nat) : Bool := fge x (negC R)
def inX2 (R x : Nat) : Bool := fle x R
def inY1 (R y : Nat) : Bool := fge y (negC (fmul k16 R))
def inY2 (R y : Nat) : Bool := fle y (fmul k16 R)
def inS (R x y : Nat) : Bool := (inX1 R x && inX2 R x) && (inY1 R y && inY2 R y)
theorem ordX1 {R r : Nat} (x : Nat) (h : can r = R) : inX1 R x = (FloatKind.f64.format.order x (Op.negFloat .f64 r) == some .gt || FloatKind.f64.format.order x (Op.negFloat .f64 r) == some .eq) := by
  have e : D.order x (negC R) = D.order x (Op.negFloat .f64 r) := by rw [← h, ← neg_can, order_canR]
  show (D.order x (negC R) == some .gt || D.order x (negC R) == some .eq) = (D.order x _ == some .gt || D.order x _ == some .eq)
  rw [e]
theorem ordX2 {R r : Nat} (x : Nat) (h : can r = R) : inX2 R x = (FloatKind.f64.format.order x r == some .lt || FloatKind.f64.format.order x r == some .eq) := by
  have e : D.order x R = D.order x r := by rw [← h, order_canR]
  show (D.order x R == some .lt || D.order x R == some .eq) = (D.order x _ == some .lt || D.order x _ == some .eq)
  rw [e]
theorem ordY1 {R r q : Nat} (y : Nat) (h : can r = R) (hq : can q = fbin BinOp.mul (can n16) (can r)) : inY1 R y = (FloatKind.f64.format.order y q == some .gt || FloatKind.f64.format.order y q == some .eq) := by
  have e : D.order y (negC (fmul k16 R)) = D.order y q := by
    rw [← order_canR y q, hq, h, ← neg_k16]
    show _ = D.order y (fmul (can (negC k16)) R)
    rw [fmul_canL, mul_negC]
  show (D.order y (negC (fmul k16 R)) == some .gt || D.order y (negC (fmul k16 R)) == some .eq) = (D.order y _ == some .gt || D.order y _ == some .eq)
  rw [e]
theorem ordY2 {R r q : Nat} (y : Nat) (h : can r = R) (hq : can q = fbin BinOp.mul (can k16) (can r)) : inY2 R y = (FloatKind.f64.format.order y q == some .lt || FloatKind.f64.format.order y q == some .eq) := by
  have e : D.order y (fmul k16 R) = D.order y q := by
    rw [← order_canR y q, hq, h]
    show _ = D.order y (fmul (can k16) R)
    rw [fmul_canL]
  show (D.order y (fmul k16 R) == some .lt || D.order y (fmul k16 R) == some .eq) = (D.order y _ == some .lt || D.order y _ == some .eq)
  rw [e]
theorem btwX {R r : Nat} (x : Nat) (h : can r = R) : btw x (Op.negFloat .f64 r) r = (inX1 R x && inX2 R x) := by
  rw [ordX1 x h, ordX2 x h]; rfl
theorem btwY {R r q1 q2 : Nat} (y : Nat) (h : can r = R) (h1 : can q1 = fbin BinOp.mul (can k16) (can r)) (h2 : can q2 = fbin BinOp.mul (can k16) (can r)) : btw y (Op.negFloat .f64 q1) q2 = (inY1 R y && inY2 R y) := by
  have e1 : fge y (Op.negFloat .f64 q1) = inY1 R y := by
    unfold fge inY1
    have e : D.order y (Op.negFloat .f64 q1) = D.order y (negC (fmul k16 R)) := by
      rw [← order_canR y (Op.negFloat .f64 q1), neg_can, h1, h]
      show D.order y (negC (fmul (can k16) R)) = _
      rw [fmul_canL]
    rw [e]; rfl
  rw [ordY2 y h h2]
  unfold btw
  rw [e1]; rfl

/-- the series back -/
def mW (k : Nat) (u : Int) : Int := IntKind.i64.wrap (2 * ((k : Int) + 1) * u)
def bRe (f : Nat) (u : Int) (V R0 : Nat) : Nat → Nat
  | 0 => R0
  | k + 1 => fsub (bRe f u V R0 k) (fmul (rowS tabB cB4 f k) (sinRe (mW k u) (fmul (can (floatOfInt .f64 (2 * ((k : Int) + 1)))) V)))
def bIm (f : Nat) (u : Int) (V I0 : Nat) : Nat → Nat
  | 0 => I0
  | k + 1 => fsub (bIm f u V I0 k) (fmul (rowS tabB cB4 f k) (sinIm (mW k u) (fmul (can (floatOfInt .f64 (2 * ((k : Int) + 1)))) V)))
theorem plus_neg (z b s : Nat) : fadd z (fmul (negC b) s) = fsub z (fmul b s) := by
  rw [mul_negC, ← sub_negC]
/-- the place that a point is of: its angles, and what its latitude is found by -/
def fZr (a f sc x y : Nat) : Nat := bRe f (nearP (fdiv (can y) (rS a f sc))) (fdiv (can x) (rS a f sc)) (fdiv (can y) (rS a f sc)) 4
def fZi (a f sc x y : Nat) : Nat := bIm f (nearP (fdiv (can y) (rS a f sc))) (fdiv (can x) (rS a f sc)) (fdiv (can x) (rS a f sc)) 4
def fK (a f sc x y : Nat) : Nat := hypK (expP (fZi a f sc x y))
def fW (a f sc x y : Nat) : Int := nearP (fZr a f sc x y)
def fLon (a f sc : Nat) (mid : Int) (x y : Nat) : Int := signP (normP mid + signP (angleP (fK a f sc x y) (can (cosP (fW a f sc x y)))).1)
def fT (a f sc x y : Nat) : Nat := unP (fdiv (can (sinP (fW a f sc x y))) (fsqrt (fadd (fmul (fK a f sc x y) (fK a f sc x y)) (fmul (can (cosP (fW a f sc x y))) (can (cosP (fW a f sc x y)))))))
end Go.Proofs.YtddjppaccpioiaaDoor
