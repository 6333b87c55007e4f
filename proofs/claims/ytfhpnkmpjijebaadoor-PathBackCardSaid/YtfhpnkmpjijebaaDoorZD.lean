/- From frame to frame and back: how far off the rounded answer is. -/
import Derived.Test.YtfhpnkmpjijebaaDoorZC
namespace Go.Fp
open Ieee

theorem Wn.mono {a A B : Rat} (h : Wn a A) (hab : A ≤ B) : Wn a B := ⟨by have := h.1; grind, by have := h.2; grind⟩
theorem Wn.nonneg {a A : Rat} (h : Wn a A) : 0 ≤ A := by have := h.1; have := h.2; grind
theorem wn_add {a b A B : Rat} (h : Wn a A) (k : Wn b B) : Wn (a + b) (A + B) := ⟨by have := h.1; have := k.1; grind, by have := h.2; have := k.2; grind⟩
theorem wn_sub {a b A B : Rat} (h : Wn a A) (k : Wn b B) : Wn (a - b) (A + B) := ⟨by have := h.1; have := k.2; grind, by have := h.2; have := k.1; grind⟩
theorem wn_mul {a b A B : Rat} (h : Wn a A) (k : Wn b B) : Wn (a * b) (A * B) := by
  obtain ⟨h1, h2⟩ := h
  obtain ⟨k1, k2⟩ := k
  have p1 : 0 ≤ (A - a) * (B - b) := Rat.mul_nonneg (by grind) (by grind)
  have p2 : 0 ≤ (A + a) * (B + b) := Rat.mul_nonneg (by grind) (by grind)
  have p3 : 0 ≤ (A - a) * (B + b) := Rat.mul_nonneg (by grind) (by grind)
  have p4 : 0 ≤ (A + a) * (B - b) := Rat.mul_nonneg (by grind) (by grind)
  constructor <;> grind
theorem eta_le : eta ≤ uu := pw_mono (by decide)
theorem big_le {B : Rat} (h : B ≤ 1000000000000) : B ≤ pw 1000 := by
  have h1 : pw 40 ≤ pw 1000 := pw_mono (by decide)
  have h2 : pw 40 = 1099511627776 := by have := pw_nat 40; exact this
  rw [h2] at h1
  generalize pw 1000 = z at *
  grind
theorem big_le' {B : Rat} (h : B ≤ 1000000000000) : B ≤ pw 1022 := Rat.le_trans (big_le h) (pw_mono (by decide))
theorem addE {x y : Nat} (hx : Fin x) (hy : Fin y) (B : Rat) (hB : Wn (vl x + vl y) B) (hB2 : B ≤ 1000000000000) : Fin (fadd x y) ∧ Wn (vl (fadd x y) - (vl x + vl y)) (uu * (B + 1)) := by
  obtain ⟨h1, h2⟩ := fadd_err hx hy B hB (big_le' hB2)
  exact ⟨h1, h2.mono (by have := eta_le; grind)⟩
theorem subE {x y : Nat} (hx : Fin x) (hy : Fin y) (B : Rat) (hB : Wn (vl x - vl y) B) (hB2 : B ≤ 1000000000000) : Fin (fsub x y) ∧ Wn (vl (fsub x y) - (vl x - vl y)) (uu * (B + 1)) := by
  obtain ⟨h1, h2⟩ := fsub_err hx hy B hB (big_le' hB2)
  exact ⟨h1, h2.mono (by have := eta_le; grind)⟩
theorem mulE {x y : Nat} (hx : Fin x) (hy : Fin y) (B : Rat) (hB : Wn (vl x * vl y) B) (hB2 : B ≤ 1000000000000) : Fin (fmul x y) ∧ Wn (vl (fmul x y) - vl x * vl y) (uu * (B + 1)) := by
  obtain ⟨h1, h2⟩ := fmul_err hx hy B hB (big_le' hB2)
  exact ⟨h1, h2.mono (by have := eta_le; grind)⟩
theorem divE {x y : Nat} (hx : Fin x) (hy : Fin y) (hy0 : vl y ≠ 0) (B : Rat) (hB : Wn (vl x / vl y) B) (hB2 : B ≤ 1000000000000) : Fin (fdiv x y) ∧ Wn (vl (fdiv x y) - vl x / vl y) (uu * (2 * B + 1)) := by
  obtain ⟨h1, h2⟩ := fdiv_err hx hy hy0 B hB (big_le hB2)
  exact ⟨h1, h2.mono (by have := eta_le; grind)⟩
end Go.Fp

/- Complex numbers of rationals, how large they are; polynomials in a small number and in a complex number and its inverse, by their coefficients. -/
namespace Go.Fp.Tri
open Go.Fp
set_option maxRecDepth 20000

/-- a complex number of rationals -/
structure Cx where
  re : Rat
  im : Rat
namespace Cx
def add (a b : Cx) : Cx := ⟨a.re + b.re, a.im + b.im⟩
def mul (a b : Cx) : Cx := ⟨a.re * b.re - a.im * b.im, a.re * b.im + a.im * b.re⟩
def neg (a : Cx) : Cx := ⟨-a.re, -a.im⟩
def sub (a b : Cx) : Cx := ⟨a.re - b.re, a.im - b.im⟩
def sc (c : Rat) (a : Cx) : Cx := ⟨c * a.re, c * a.im⟩
def zero : Cx := ⟨0, 0⟩
def one : Cx := ⟨1, 0⟩
theorem ext' {a b : Cx} (h1 : a.re = b.re) (h2 : a.im = b.im) : a = b := by
  cases a; cases b; simp only at h1 h2; rw [h1, h2]
@[simp] theorem add_re (a b : Cx) : (a.add b).re = a.re + b.re := rfl
@[simp] theorem add_im (a b : Cx) : (a.add b).im = a.im + b.im := rfl
@[simp] theorem sub_re (a b : Cx) : (a.sub b).re = a.re - b.re := rfl
@[simp] theorem sub_im (a b : Cx) : (a.sub b).im = a.im - b.im := rfl
@[simp] theorem mul_re (a b : Cx) : (a.mul b).re = a.re * b.re - a.im * b.im := rfl
@[simp] theorem mul_im (a b : Cx) : (a.mul b).im = a.re * b.im + a.im * b.re := rfl
@[simp] theorem neg_re (a : Cx) : a.neg.re = -a.re := rfl
@[simp] theorem neg_im (a : Cx) : a.neg.im = -a.im := rfl
@[simp] theorem sc_re (c : Rat) (a : Cx) : (sc c a).re = c * a.re := rfl
@[simp] theorem sc_im (c : Rat) (a : Cx) : (sc c a).im = c * a.im := rfl
@[simp] theorem zero_re : zero.re = 0 := rfl
@[simp] theorem zero_im : zero.im = 0 := rfl
@[simp] theorem one_re : one.re = 1 := rfl
@[simp] theorem one_im : one.im = 0 := rfl
theorem mul_assoc (a b c : Cx) : (a.mul b).mul c = a.mul (b.mul c) := ext' (by simp; grind) (by simp; grind)
theorem mul_comm (a b : Cx) : a.mul b = b.mul a := ext' (by simp; grind) (by simp; grind)
theorem one_mul (a : Cx) : one.mul a = a := ext' (by simp; grind) (by simp; grind)
end Cx
/-- at most so large -/
def MB (z : Cx) (r : Rat) : Prop := 0 ≤ r ∧ z.re * z.re + z.im * z.im ≤ r * r
theorem rsq_nonneg (x : Rat) : 0 ≤ x * x := by
  rcases Rat.le_total (a := 0) (b := x) with h | h
  · exact Rat.mul_nonneg h h
  · have := Rat.mul_nonneg (show 0 ≤ -x by grind) (show 0 ≤ -x by grind); grind
theorem sq_lt {a b : Rat} (ha : 0 ≤ a) (h : a < b) : a * a < b * b := by
  have h1 := Rat.mul_le_mul_of_nonneg_left (Rat.le_of_lt h) ha
  have h2 := Rat.mul_lt_mul_of_pos_right h (show 0 < b by grind)
  grind
theorem sq_le_sq {a b : Rat} (ha : 0 ≤ a) (h : a ≤ b) : a * a ≤ b * b := by
  have h1 := Rat.mul_le_mul_of_nonneg_left h ha
  have h2 := Rat.mul_le_mul_of_nonneg_right h (show 0 ≤ b by grind)
  grind
theorem le_of_sq {a b : Rat} (hb : 0 ≤ b) (h : a * a ≤ b * b) : a ≤ b := by
  rcases Rat.le_total (a := a) (b := b) with k | k
  · exact k
  · by_cases e : a = b
    · grind
    · exfalso
      have := sq_lt hb (show b < a by grind)
      grind
theorem mul_mono {a b A B : Rat} (a0 : 0 ≤ a) (h1 : a ≤ A) (b0 : 0 ≤ b) (h2 : b ≤ B) : a * b ≤ A * B :=
  Rat.le_trans (Rat.mul_le_mul_of_nonneg_right h1 b0) (Rat.mul_le_mul_of_nonneg_left h2 (by grind))
theorem MB.mono {z : Cx} {r q : Rat} (h : MB z r) (hq : r ≤ q) : MB z q := ⟨by have := h.1; grind, Rat.le_trans h.2 (sq_le_sq h.1 hq)⟩
theorem MB.add {z w : Cx} {r q : Rat} (h : MB z r) (k : MB w q) : MB (z.add w) (r + q) := by
  obtain ⟨h1, h2⟩ := h
  obtain ⟨k1, k2⟩ := k
  refine ⟨by grind, ?_⟩
  have hd : z.re * w.re + z.im * w.im ≤ r * q := by
    refine le_of_sq (Rat.mul_nonneg h1 k1) ?_
    have a := mul_mono (show 0 ≤ z.re * z.re + z.im * z.im by have := rsq_nonneg z.re; have := rsq_nonneg z.im; grind) h2 (show 0 ≤ w.re * w.re + w.im * w.im by have := rsq_nonneg w.re; have := rsq_nonneg w.im; grind) k2
    have b := rsq_nonneg (z.re * w.im - z.im * w.re)
    grind
  show (z.re + w.re) * (z.re + w.re) + (z.im + w.im) * (z.im + w.im) ≤ _
  grind
theorem MB.neg {z : Cx} {r : Rat} (h : MB z r) : MB z.neg r := ⟨h.1, by have := h.2; show -z.re * -z.re + -z.im * -z.im ≤ _; grind⟩
theorem Cx.sub_eq (z w : Cx) : z.sub w = z.add w.neg := Cx.ext' (by simp; grind) (by simp; grind)
theorem MB.sub {z w : Cx} {r q : Rat} (h : MB z r) (k : MB w q) : MB (z.sub w) (r + q) := by
  rw [Cx.sub_eq]; exact h.add k.neg
theorem MB.mul {z w : Cx} {r q : Rat} (h : MB z r) (k : MB w q) : MB (z.mul w) (r * q) := by
  obtain ⟨h1, h2⟩ := h
  obtain ⟨k1, k2⟩ := k
  refine ⟨Rat.mul_nonneg h1 k1, ?_⟩
  have a := mul_mono (show 0 ≤ z.re * z.re + z.im * z.im by have := rsq_nonneg z.re; have := rsq_nonneg z.im; grind) h2 (show 0 ≤ w.re * w.re + w.im * w.im by have := rsq_nonneg w.re; have := rsq_nonneg w.im; grind) k2
  show (z.re * w.re - z.im * w.im) * (z.re * w.re - z.im * w.im) + (z.re * w.im + z.im * w.re) * (z.re * w.im + z.im * w.re) ≤ _
  grind
theorem MB.sc {z : Cx} {r c d : Rat} (h : MB z r) (k : Wn c d) : MB (Cx.sc c z) (d * r) := by
  have hd := k.nonneg
  refine ⟨Rat.mul_nonneg hd h.1, ?_⟩
  have e := mul_mono (rsq_nonneg c) (show c * c ≤ d * d by have := (wn_mul k k).2; exact this) (show 0 ≤ z.re * z.re + z.im * z.im by have := rsq_nonneg z.re; have := rsq_nonneg z.im; grind) h.2
  show c * z.re * (c * z.re) + c * z.im * (c * z.im) ≤ _
  grind
theorem MB.re {z : Cx} {r : Rat} (h : MB z r) : Wn z.re r := by
  have a := rsq_nonneg z.im
  have b := h.2
  have c := le_of_sq (a := z.re) h.1 (by grind)
  have d := le_of_sq (a := -z.re) h.1 (by grind)
  exact ⟨by grind, c⟩
theorem MB.im {z : Cx} {r : Rat} (h : MB z r) : Wn z.im r := by
  have a := rsq_nonneg z.re
  have b := h.2
  have c := le_of_sq (a := z.im) h.1 (by grind)
  have d := le_of_sq (a := -z.im) h.1 (by grind)
  exact ⟨by grind, c⟩
theorem MB.of {z : Cx} {x y r : Rat} (h1 : Wn z.re x) (h2 : Wn z.im y) (r0 : 0 ≤ r) (h : x * x + y * y ≤ r * r) : MB z r := by
  have a := (wn_mul h1 h1).2
  have b := (wn_mul h2 h2).2
  exact ⟨r0, by grind⟩
theorem MB.zero : MB Cx.zero 0 := ⟨by grind, by simp; grind⟩
theorem MB.one : MB Cx.one 1 := ⟨by grind, by simp; grind⟩
theorem MB.cast {z w : Cx} {r : Rat} (h : MB z r) (e : z = w) : MB w r := e ▸ h

/-- whole powers of a complex number E, whose inverse is F -/
def npw (E : Cx) : Nat → Cx
  | 0 => Cx.one
  | k + 1 => (npw E k).mul E
def zpw (E F : Cx) : Int → Cx
  | .ofNat k => npw E k
  | .negSucc k => npw F (k + 1)
/-- powers of a rational number -/
def rpw (n : Rat) : Nat → Rat
  | 0 => 1
  | k + 1 => n * rpw n k
theorem rpw_bd {n N : Rat} (h : Wn n N) : ∀ i : Nat, Wn (rpw n i) (rpw N i)
  | 0 => ⟨by simp only [rpw]; grind, by simp only [rpw]; grind⟩
  | i + 1 => wn_mul h (rpw_bd h i)
/-- a member: the power of the small number, that of the complex one, its coefficient -/
structure Tm where
  i : Nat
  e : Int
  c : Rat
def tev (n : Rat) (E F : Cx) : List Tm → Cx
  | [] => Cx.zero
  | t :: l => (Cx.sc (t.c * rpw n t.i) (zpw E F t.e)).add (tev n E F l)
def tbd (N K : Rat) : List Tm → Rat
  | [] => 0
  | t :: l => (if t.c < 0 then -t.c else t.c) * rpw N t.i * rpw K t.e.natAbs + tbd N K l
def tsc (c : Rat) (l : List Tm) : List Tm := l.map fun t => ⟨t.i, t.e, c * t.c⟩
def tmul1 (s : Tm) (l : List Tm) : List Tm := l.map fun t => ⟨s.i + t.i, s.e + t.e, s.c * t.c⟩
def tmul : List Tm → List Tm → List Tm
  | [], _ => []
  | s :: l, m => tmul1 s m ++ tmul l m
/-- members of one kind put together -/
def tins (s : Tm) : List Tm → List Tm
  | [] => [s]
  | t :: l => if s.i = t.i ∧ s.e = t.e then ⟨t.i, t.e, s.c + t.c⟩ :: l else t :: tins s l
def tnorm : List Tm → List Tm
  | [] => []
  | t :: l => tins t (tnorm l)
end Go.Fp.Tri

/- The series there and back: what is left over is of the fourth order, by reckoning on the coefficients. -/
namespace Go.Fp.Tri
open Go.Fp
set_option maxRecDepth 20000

/-- a polynomial in the small number -/
def nv (n : Rat) : List (Nat × Rat) → Rat
  | [] => 0
  | t :: l => t.2 * rpw n t.1 + nv n l
def npol (l : List (Nat × Rat)) : List Tm := l.map fun t => ⟨t.1, 0, t.2⟩
def tE (j : Int) : List Tm := [⟨0, j, 1⟩]
def pA1 : List (Nat × Rat) := [(1, 1 / 2), (2, -2 / 3), (3, 5 / 16), (4, 41 / 180)]
def pA2 : List (Nat × Rat) := [(2, 13 / 48), (3, -3 / 5), (4, 557 / 1440)]
def pA3 : List (Nat × Rat) := [(3, 61 / 240), (4, -103 / 140)]
def pA4 : List (Nat × Rat) := [(4, 49561 / 161280)]
def pB1 : List (Nat × Rat) := [(1, 1 / 2), (2, -2 / 3), (3, 37 / 96), (4, -1 / 360)]
def pB2 : List (Nat × Rat) := [(2, 1 / 48), (3, 1 / 15), (4, -437 / 1440)]
def pB3 : List (Nat × Rat) := [(3, 17 / 480), (4, -37 / 840)]
def pB4 : List (Nat × Rat) := [(4, 4397 / 161280)]
/-- twice the sine, times the root of minus one -/
def tS (j : Int) : List Tm := [⟨0, j, 1⟩, ⟨0, -j, -1⟩]
def tA : List Tm := tmul (npol pA1) (tS 1) ++ tmul (npol pA2) (tS 2) ++ tmul (npol pA3) (tS 3) ++ tmul (npol pA4) (tS 4)
def tA2 : List Tm := tnorm (tmul (tnorm tA) (tnorm tA))
def up2 : List Tm := ⟨0, 0, 1⟩ :: (tnorm tA ++ tsc (1 / 2) tA2)
def dn2 : List Tm := ⟨0, 0, 1⟩ :: (tsc (-1) (tnorm tA) ++ tsc (1 / 2) tA2)
def up1 : List Tm := ⟨0, 0, 1⟩ :: tsc 2 (tnorm tA)
def dn1 : List Tm := ⟨0, 0, 1⟩ :: tsc (-2) (tnorm tA)
def tB : List Tm := tmul (npol pB1) (tmul (tE 1) up2 ++ tsc (-1) (tmul (tE (-1)) dn2)) ++ tmul (npol pB2) (tmul (tE 2) up1 ++ tsc (-1) (tmul (tE (-2)) dn1)) ++ tmul (npol pB3) (tS 3) ++ tmul (npol pB4) (tS 4)
def tR : List Tm := tnorm (tA ++ tsc (-1) tB)
/-- the series' value -/
def serA (n : Rat) (E F : Cx) : Cx := tev n E F tA
/-- a sum of four with their numbers ahead -/
def sum4 (x1 x2 x3 x4 : Rat) (P1 P2 P3 P4 : Cx) : Cx := ((((Cx.sc x1 P1).add (Cx.sc x2 P2)).add (Cx.sc x3 P3)).add (Cx.sc x4 P4))
/-- what the first one comes to, moved by a -/
def w1of (z y a : Cx) : Cx := (z.mul ((Cx.one.add a).add (Cx.sc (1 / 2) (a.mul a)))).sub (y.mul ((Cx.one.sub a).add (Cx.sc (1 / 2) (a.mul a))))
def w2of (z y a : Cx) : Cx := (z.mul (Cx.one.add (Cx.sc 2 a))).sub (y.mul (Cx.one.sub (Cx.sc 2 a)))
end Go.Fp.Tri

/- From frame to frame and back: the law in plain words. -/
namespace Go.Fp
open Ieee

theorem pw_inv (k : Nat) : pw (-(k : Int)) * ((2 ^ k : Nat) : Rat) = 1 := by
  rw [← pw_nat, ← pw_add, Int.add_left_neg, pw_zero]
theorem vl_const {x : Nat} {s : Bool} {m k : Nat} (h : D.read x = .number s m (-(k : Int))) {q : Rat} (hq : q * ((2 ^ k : Nat) : Rat) = ((sg s : Int) : Rat) * (m : Rat)) : Fin x ∧ vl x = q := by
  refine ⟨⟨_, _, _, h⟩, ?_⟩
  rw [vl_of h]
  unfold vd
  have := pw_inv k
  rw [← hq]
  generalize pw (-(k : Int)) = z at *
  generalize ((2 ^ k : Nat) : Rat) = y at *
  grind
theorem btw_vl {x lo hi : Nat} (hlo : Fin lo) (hhi : Fin hi) (h1 : fge x lo = true) (h2 : fle x hi = true) : Fin x ∧ vl lo ≤ vl x ∧ vl x ≤ vl hi := by
  have hx : Fin x := by
    unfold fge at h1
    unfold fle at h2
    obtain ⟨s, m, i, hlo⟩ := hlo
    obtain ⟨t, n, j, hhi⟩ := hhi
    unfold Format.order at h1 h2
    rw [hlo] at h1
    rw [hhi] at h2
    cases hr : D.read x with
    | nan a b => rw [hr] at h1; simp [Datum.order] at h1
    | infinity s => rw [hr] at h1 h2; cases s <;> simp [Datum.order] at h1 h2
    | number s m i => exact ⟨_, _, _, hr⟩
  refine ⟨hx, ?_, ?_⟩
  · unfold fge at h1
    simp only [Bool.or_eq_true, beq_iff_eq] at h1
    rcases h1 with h | h
    · exact Rat.le_of_lt ((order_gt hx hlo).1 h)
    · have := (order_eq hx hlo).1 h; grind
  · unfold fle at h2
    simp only [Bool.or_eq_true, beq_iff_eq] at h2
    rcases h2 with h | h
    · exact Rat.le_of_lt ((order_lt hx hhi).1 h)
    · have := (order_eq hx hhi).1 h; grind
theorem fle_vl {x y : Nat} (hx : Fin x) (hy : Fin y) : fle x y = true ↔ vl x ≤ vl y := by
  unfold fle
  simp only [Bool.or_eq_true, beq_iff_eq]
  rw [order_lt hx hy, order_eq hx hy]
  grind
theorem fge_vl {x y : Nat} (hx : Fin x) (hy : Fin y) : fge x y = true ↔ vl y ≤ vl x := by
  unfold fge
  simp only [Bool.or_eq_true, beq_iff_eq]
  rw [order_gt hx hy, order_eq hx hy]
  grind

abbrev c1e5 : Nat := 4681608360884174848
abbrev m1e5 : Nat := 13904980397738950656
abbrev c1m3 : Nat := 4562254508917369340
abbrev m1m3 : Nat := 13785626545772145148
abbrev c1e3 : Nat := 4652007308841189376
abbrev m1e3 : Nat := 13875379345695965184
abbrev c1e8 : Nat := 4726483295884279808
abbrev m1e8 : Nat := 13949855332739055616
abbrev c1e10 : Nat := 4756540486875873280
abbrev m1e10 : Nat := 13979912523730649088
abbrev c1m5 : Nat := 4532020583610935537
abbrev m1m5 : Nat := 13755392620465711345
abbrev c1m6 : Nat := 4517329193108106637
abbrev cOne : Nat := 4607182418800017408
theorem v_one : Fin cOne ∧ vl cOne = 1 := vl_const (s := false) (m := 4503599627370496) (k := 52) (by decide +kernel) (by decide +kernel)
end Go.Fp

/- Plain laws: the reference's angle of a point is the program's: sizes by sign or by bit; zeros of either sign. -/
namespace Go.Fp
open Ieee

def refAbs (x : Nat) : Nat := if flt x 0 then Op.negFloat .f64 x else x

theorem read_mod (x y : Nat) (h1 : x / 2 ^ 63 % 2 = y / 2 ^ 63 % 2) (h2 : x % 2 ^ 63 = y % 2 ^ 63) : D.read x = D.read y := by
  unfold Format.read
  simp only [D_sign]
  rw [h1, h2]

theorem neg_parts (x : Nat) : (Op.negFloat .f64 x) % 2 ^ 63 = x % 2 ^ 63 ∧ (Op.negFloat .f64 x) / 2 ^ 63 % 2 = 1 - x / 2 ^ 63 % 2 := by
  have e : Op.negFloat .f64 x = x ^^^ 2 ^ 63 := rfl
  rw [e]
  constructor
  · apply Nat.eq_of_testBit_eq
    intro i
    rw [Nat.testBit_mod_two_pow, Nat.testBit_mod_two_pow, Nat.testBit_xor, Nat.testBit_two_pow]
    by_cases h : i < 63
    · have h6 : ¬ 63 = i := by omega
      simp [h, h6]
    · simp [h]
  · have h : (x ^^^ 2 ^ 63).testBit 63 = !(x.testBit 63) := by
      rw [Nat.testBit_xor, Nat.testBit_two_pow]; simp
    rw [Nat.testBit_eq_decide_div_mod_eq, Nat.testBit_eq_decide_div_mod_eq] at h
    have h1 : (x ^^^ 2 ^ 63) / 2 ^ 63 % 2 < 2 := Nat.mod_lt _ (by decide)
    have h2 : x / 2 ^ 63 % 2 < 2 := Nat.mod_lt _ (by decide)
    generalize (x ^^^ 2 ^ 63) / 2 ^ 63 % 2 = a at *
    generalize x / 2 ^ 63 % 2 = b at *
    have ha : a = 0 ∨ a = 1 := by omega
    have hb : b = 0 ∨ b = 1 := by omega
    rcases ha with rfl | rfl <;> rcases hb with rfl | rfl <;> simp at h <;> rfl

theorem abs_parts (x : Nat) : absW x % 2 ^ 63 = x % 2 ^ 63 ∧ absW x / 2 ^ 63 % 2 = 0 := by
  unfold absW
  constructor
  · omega
  · have : x % 2 ^ 63 < 2 ^ 63 := Nat.mod_lt _ (by decide)
    rw [Nat.div_eq_of_lt this]

theorem read_sign {x : Nat} {s : Bool} {m : Nat} {p : Int} (h : D.read x = .number s m p) : (s = true ↔ x / 2 ^ 63 % 2 = 1) := by
  unfold Format.read at h
  simp only [D_sign] at h
  split at h
  · cases h; simp
  · split at h
    · cases h; simp
    · split at h <;> cases h
theorem read_sign_inf {x : Nat} {s : Bool} (h : D.read x = .infinity s) : (s = true ↔ x / 2 ^ 63 % 2 = 1) := by
  unfold Format.read at h
  simp only [D_sign] at h
  split at h
  · cases h
  · split at h
    · cases h
    · split at h <;> cases h; simp
theorem read_zero {x : Nat} {s : Bool} {p : Int} (h : D.read x = .number s 0 p) : x % 2 ^ 63 = 0 ∧ p = -1074 := by
  unfold Format.read at h
  simp only [D_sign, D_bin, D_least] at h
  split at h
  · injection h with _ h1 h2; exact ⟨h1, h2.symm⟩
  · split at h
    · injection h with _ h _; omega
    · split at h <;> cases h
theorem read0 : D.read 0 = .number false 0 (-1074) := by decide +kernel

/-- a size told by the sign's bit and one told by '<': the same, or both nought -/
theorem refAbs_read {x : Nat} (hn : isNan x = false) : D.read (refAbs x) = D.read (absW x) ∨ (∃ s, D.read (refAbs x) = .number s 0 (-1074)) ∧ ∃ s, D.read (absW x) = .number s 0 (-1074) := by
  unfold refAbs
  have hap := abs_parts x
  have hnp := neg_parts x
  cases hf : flt x 0
  · -- not below 0
    rw [if_neg (by simp)]
    by_cases hs : x / 2 ^ 63 % 2 = 1
    · refine .inr ?_
      cases hd : D.read x with
      | nan s t => unfold isNan at hn; rw [hd] at hn; cases hn
      | infinity s =>
        have := (read_sign_inf hd).2 hs
        subst this
        unfold flt Format.order at hf
        rw [hd, read0] at hf
        simp [Datum.order] at hf
      | number s m p =>
        have := (read_sign hd).2 hs
        subst this
        have hm : m = 0 := by
          unfold flt Format.order at hf
          rw [hd, read0] at hf
          simp only [Datum.order] at hf
          by_cases hm : m = 0
          · exact hm
          · exfalso
            have h1 : signed true m (p - min p (-1074)).toNat < signed false 0 (-1074 - min p (-1074)).toNat := by
              unfold signed
              simp only [if_true, Bool.false_eq_true, if_false, Nat.zero_shiftLeft]
              have : 0 < m <<< (p - min p (-1074)).toNat := by
                rw [Nat.shiftLeft_eq]; exact Nat.mul_pos (by omega) (Nat.two_pow_pos _)
              omega
            rw [Int.compare_eq_lt.2 h1] at hf
            simp at hf
        subst hm
        obtain ⟨hz, hp⟩ := read_zero hd
        subst hp
        refine ⟨⟨true, rfl⟩, false, ?_⟩
        have : absW x = 0 := by unfold absW; exact hz
        rw [this]; exact read0
    · refine .inl (read_mod _ _ ?_ hap.1.symm)
      have : x / 2 ^ 63 % 2 < 2 := Nat.mod_lt _ (by decide)
      omega
  · rw [if_pos rfl]
    refine .inl (read_mod _ _ ?_ (by rw [hnp.1, hap.1]))
    have hs : x / 2 ^ 63 % 2 = 1 := by
      cases hd : D.read x with
      | nan s t => unfold isNan at hn; rw [hd] at hn; cases hn
      | infinity s =>
        refine (read_sign_inf hd).1 ?_
        unfold flt Format.order at hf
        rw [hd, read0] at hf
        cases s
        · simp [Datum.order] at hf
        · rfl
      | number s m p =>
        refine (read_sign hd).1 ?_
        unfold flt Format.order at hf
        rw [hd, read0] at hf
        cases s
        · exfalso
          simp only [Datum.order, signed, Bool.false_eq_true, if_false, Nat.zero_shiftLeft] at hf
          have h1 : ¬ ((m <<< (p - min p (-1074)).toNat : Nat) : Int) < ((0 : Nat) : Int) := Int.not_lt.2 (Int.natCast_nonneg _)
          simp only [beq_iff_eq, Option.some.injEq] at hf
          exact h1 (Int.compare_eq_lt.1 hf)
        · rfl
    rw [hnp.2, hap.2]; omega

theorem order_nought {a b : Nat} {s t : Bool} (ha : D.read a = .number s 0 (-1074)) (hb : D.read b = .number t 0 (-1074)) (u : Nat) : D.order a u = D.order b u ∧ D.order u a = D.order u b := by
  unfold Format.order
  rw [ha, hb]
  cases D.read u with
  | nan _ _ => exact ⟨rfl, rfl⟩
  | infinity _ => exact ⟨rfl, rfl⟩
  | number q m p => constructor <;> simp [Datum.order, signed]

theorem fmul_read {u u' : Nat} (s : Nat) (h : D.read u = D.read u') : fmul s u = fmul s u' := by
  unfold fmul Format.mul; rw [h]
theorem fmul_nought {s u : Nat} {k : Int} {t : Bool} (hs : Tp k s) (h : D.read u = .number t 0 (-1074)) : ∃ q, D.read (fmul s u) = .number q 0 (-1074) := by
  obtain ⟨s1, m, p, hr, _⟩ := hs
  have e : fmul s u = D.nearest (s1 ^^ t) (m * 0) (p + -1074) := by
    unfold fmul opt Format.mul; rw [hr, h]; rfl
  rw [e]
  have e2 : D.nearest (s1 ^^ t) (m * 0) (p + -1074) = D.word (s1 ^^ t) 0 := by
    unfold Format.nearest; rw [if_pos (Nat.mul_zero m)]
  rw [e2]
  obtain ⟨q, hq⟩ := read_word (s1 ^^ t) (r := 0) (by decide)
  exact ⟨q, by rw [hq]; rfl⟩

theorem tp_neg {k : Int} {x : Nat} (h : Tp k x) : Tp k (Op.negFloat .f64 x) := by
  obtain ⟨s, m, p, hr, h⟩ := h
  have hnp := neg_parts x
  refine ⟨!s, m, p, ?_, h⟩
  unfold Format.read at hr ⊢
  simp only [D_sign] at hr ⊢
  rw [hnp.1, hnp.2]
  have h2 : x / 2 ^ 63 % 2 < 2 := Nat.mod_lt _ (by decide)
  have hb : (1 - x / 2 ^ 63 % 2 == 1) = !(x / 2 ^ 63 % 2 == 1) := by
    by_cases h3 : x / 2 ^ 63 % 2 = 1
    · simp [h3]
    · have : x / 2 ^ 63 % 2 = 0 := by omega
      simp [this]
  rw [hb]
  split at hr
  · rename_i h5; rw [if_pos h5]; cases hr; rfl
  · rename_i h5
    rw [if_neg h5]
    split at hr
    · rename_i h6; rw [if_pos h6]; cases hr; rfl
    · split at hr <;> cases hr

theorem tp_sinP (a : Int) : Tp 100 (sinP a) := by
  have h1 := (tp_s (normP_lo a) (normP_hi a)).2
  have h2 := (tp_c (normP_lo a) (normP_hi a)).2
  unfold sinP sinN
  split
  · exact h1
  · split
    · exact h2
    · split
      · exact tp_neg h1
      · exact tp_neg h2
theorem tp_cosP (a : Int) : Tp 100 (cosP a) := by
  have h1 := (tp_s (normP_lo a) (normP_hi a)).2
  have h2 := (tp_c (normP_lo a) (normP_hi a)).2
  unfold cosP cosN
  split
  · exact h2
  · split
    · exact tp_neg h1
    · split
      · exact tp_neg h2
      · exact h1

theorem fle_both {s c x y : Nat} {k : Int} (hs : Tp k s) (hc : Tp k c) (hx : isNan x = false) (hy : isNan y = false) :
    fle (fmul s (refAbs x)) (fmul c (refAbs y)) = fle (fmul s (absW x)) (fmul c (absW y)) := by
  have hl : ∀ t, D.order (fmul s (refAbs x)) t = D.order (fmul s (absW x)) t := by
    intro t
    rcases refAbs_read hx with h | ⟨⟨q, h⟩, q', h'⟩
    · rw [fmul_read s h]
    · obtain ⟨r, hr⟩ := fmul_nought hs h
      obtain ⟨r', hr'⟩ := fmul_nought hs h'
      exact (order_nought hr hr' t).1
  have hr : ∀ t, D.order t (fmul c (refAbs y)) = D.order t (fmul c (absW y)) := by
    intro t
    rcases refAbs_read hy with h | ⟨⟨q, h⟩, q', h'⟩
    · rw [fmul_read c h]
    · obtain ⟨r, hr⟩ := fmul_nought hc h
      obtain ⟨r', hr'⟩ := fmul_nought hc h'
      exact (order_nought hr hr' t).2
  unfold fle
  rw [hl, hr]

theorem quad_ref {x y : Nat} (hx : isNan x = false) (hy : isNan y = false) : quad (absW x) (absW y) = bisect (fun m => fle (fmul (sinP m) (refAbs x)) (fmul (cosP m) (refAbs y))) 0 90000000001 := by
  unfold quad
  congr 1
  funext m
  exact (fle_both (tp_sinP m) (tp_cosP m) hx hy).symm
end Go.Fp

/- Polynomials over the rationals, in one and two variables, and their sizes; the addition law of the sine's and the cosine's polynomials, by reckoning on their coefficients. -/
namespace Go.Fp.Tri
open Go.Fp
set_option maxRecDepth 20000
/-! polynomials over the rationals, in one and in two variables -/
/-- a polynomial's value -/
def pev : List Rat → Rat → Rat
  | [], _ => 0
  | c :: r, y => c + y * pev r y
def padd : List Rat → List Rat → List Rat
  | [], q => q
  | p, [] => p
  | a :: p, b :: q => (a + b) :: padd p q
def pscale (c : Rat) (p : List Rat) : List Rat := p.map (c * ·)
def pmul : List Rat → List Rat → List Rat
  | [], _ => []
  | c :: r, q => padd (pscale c q) (0 :: pmul r q)
theorem pev_add : ∀ (p q : List Rat) (y : Rat), pev (padd p q) y = pev p y + pev q y
  | [], q, y => by simp only [padd, pev]; grind
  | a :: p, [], y => by simp only [padd, pev]; grind
  | a :: p, b :: q, y => by
    simp only [padd, pev, pev_add p q y]
    grind
theorem pev_scale (c : Rat) : ∀ (p : List Rat) (y : Rat), pev (pscale c p) y = c * pev p y
  | [], y => by simp [pscale, pev]
  | a :: p, y => by
    have h := pev_scale c p y
    simp only [pscale, List.map_cons, pev] at *
    rw [h]
    grind
theorem pev_mul : ∀ (p q : List Rat) (y : Rat), pev (pmul p q) y = pev p y * pev q y
  | [], q, y => by simp [pmul, pev]
  | a :: p, q, y => by
    simp only [pmul, pev_add, pev_scale, pev, pev_mul p q y]
    grind
/-- in two variables: the coefficients are polynomials in the second -/
def qev : List (List Rat) → Rat → Rat → Rat
  | [], _, _ => 0
  | p :: r, x, y => pev p y + x * qev r x y
def qadd : List (List Rat) → List (List Rat) → List (List Rat)
  | [], q => q
  | p, [] => p
  | a :: p, b :: q => padd a b :: qadd p q
def qscale (c : List Rat) (p : List (List Rat)) : List (List Rat) := p.map (pmul c)
def qmul : List (List Rat) → List (List Rat) → List (List Rat)
  | [], _ => []
  | c :: r, q => qadd (qscale c q) ([] :: qmul r q)
theorem qev_add : ∀ (p q : List (List Rat)) (x y : Rat), qev (qadd p q) x y = qev p x y + qev q x y
  | [], q, x, y => by simp only [qadd, qev]; grind
  | a :: p, [], x, y => by simp only [qadd, qev]; grind
  | a :: p, b :: q, x, y => by
    simp only [qadd, qev, pev_add, qev_add p q x y]
    grind
theorem qev_scale (c : List Rat) : ∀ (p : List (List Rat)) (x y : Rat), qev (qscale c p) x y = pev c y * qev p x y
  | [], x, y => by simp [qscale, qev]
  | a :: p, x, y => by
    have h := qev_scale c p x y
    simp only [qscale, List.map_cons, qev, pev_mul] at *
    rw [h]
    grind
theorem qev_mul : ∀ (p q : List (List Rat)) (x y : Rat), qev (qmul p q) x y = qev p x y * qev q x y
  | [], q, x, y => by simp [qmul, qev]
  | a :: p, q, x, y => by
    simp only [qmul, qev_add, qev_scale, qev, pev, qev_mul p q x y]
    grind
/-- a polynomial in the first, in the second variable alone; one polynomial in another -/
def inX (p : List Rat) : List (List Rat) := p.map fun c => [c]
def inY (p : List Rat) : List (List Rat) := [p]
theorem qev_inX : ∀ (p : List Rat) (x y : Rat), qev (inX p) x y = pev p x
  | [], x, y => by simp [inX, qev, pev]
  | a :: p, x, y => by
    have h := qev_inX p x y
    simp only [inX, List.map_cons, qev, pev] at *
    rw [h]
    grind
theorem qev_inY (p : List Rat) (x y : Rat) : qev (inY p) x y = pev p y := by
  simp only [inY, qev]
  grind
def qcomp : List Rat → List (List Rat) → List (List Rat)
  | [], _ => []
  | c :: r, q => qadd [[c]] (qmul q (qcomp r q))
theorem qev_comp : ∀ (p : List Rat) (q : List (List Rat)) (x y : Rat), qev (qcomp p q) x y = pev p (qev q x y)
  | [], q, x, y => by simp [qcomp, qev, pev]
  | a :: p, q, x, y => by
    simp only [qcomp, qev_add, qev_mul, qev_comp p q x y, qev, pev]
    grind
def pneg (p : List Rat) : List Rat := pscale (-1) p
def qneg (p : List (List Rat)) : List (List Rat) := qscale [-1] p
theorem qev_neg (p : List (List Rat)) (x y : Rat) : qev (qneg p) x y = - qev p x y := by
  unfold qneg
  rw [qev_scale]
  simp only [pev]
  grind
/-! bounds -/
def rabs (c : Rat) : Rat := if c < 0 then -c else c
theorem wn_rabs (c : Rat) : Wn c (rabs c) := by
  unfold rabs Wn
  split <;> constructor <;> grind
def pbd : List Rat → Rat → Rat
  | [], _ => 0
  | c :: r, Y => rabs c + Y * pbd r Y
theorem wn_pev : ∀ (p : List Rat) {y Y : Rat}, Wn y Y → Wn (pev p y) (pbd p Y)
  | [], y, Y, h => by constructor <;> simp [pev, pbd]
  | c :: r, y, Y, h => wn_add (wn_rabs c) (wn_mul h (wn_pev r h))
def qbd : List (List Rat) → Rat → Rat → Rat
  | [], _, _ => 0
  | p :: r, X, Y => pbd p Y + X * qbd r X Y
theorem wn_qev : ∀ (p : List (List Rat)) {x y X Y : Rat}, Wn x X → Wn y Y → Wn (qev p x y) (qbd p X Y)
  | [], x, y, X, Y, h, k => by constructor <;> simp [qev, qbd]
  | c :: r, x, y, X, Y, h, k => wn_add (wn_pev c k) (wn_mul h (wn_qev r h k))

def fact : Nat → Nat
  | 0 => 1
  | n + 1 => (n + 1) * fact n
def inv (n : Nat) : Rat := 1 / (fact n : Nat)
/-- the sine's and the cosine's polynomial -/
def PS : List Rat := [0, 1, 0, -inv 3, 0, inv 5, 0, -inv 7, 0, inv 9, 0, -inv 11, 0, inv 13, 0, -inv 15, 0, inv 17]
def PC : List Rat := [1, 0, -inv 2, 0, inv 4, 0, -inv 6, 0, inv 8, 0, -inv 10, 0, inv 12, 0, -inv 14, 0, inv 16]
def XmY : List (List Rat) := [[0, -1], [1]]
/-- what the addition law lacks -/
def RemS : List (List Rat) := qadd (qadd (qmul (inX PS) (inY PC)) (qneg (qmul (inX PC) (inY PS)))) (qneg (qcomp PS XmY))
def RemC : List (List Rat) := qadd (qadd (qmul (inX PC) (inY PC)) (qmul (inX PS) (inY PS))) (qneg (qcomp PC XmY))
theorem remS_bd : qbd RemS (7855 / 10000) (7855 / 10000) ≤ 1 / 10000000000000 := by decide +kernel
theorem remC_bd : qbd RemC (7855 / 10000) (7855 / 10000) ≤ 6 / 10000000000000 := by decide +kernel
def S (x : Rat) : Rat := pev PS x
def C (x : Rat) : Rat := pev PC x
theorem add_S {x y : Rat} (hx : Wn x (7855 / 10000)) (hy : Wn y (7855 / 10000)) : Wn (S x * C y - C x * S y - S (x - y)) (1 / 10000000000000) := by
  have h := (wn_qev RemS hx hy).mono remS_bd
  have e : qev RemS x y = S x * C y - C x * S y - S (x - y) := by
    simp only [RemS, qev_add, qev_neg, qev_mul, qev_inX, qev_inY, qev_comp, S, C]
    have e2 : qev XmY x y = x - y := by simp only [XmY, qev, pev]; grind
    rw [e2]
    grind
  rw [← e]; exact h
theorem add_C {x y : Rat} (hx : Wn x (7855 / 10000)) (hy : Wn y (7855 / 10000)) : Wn (C x * C y + S x * S y - C (x - y)) (6 / 10000000000000) := by
  have h := (wn_qev RemC hx hy).mono remC_bd
  have e : qev RemC x y = C x * C y + S x * S y - C (x - y) := by
    simp only [RemC, qev_add, qev_neg, qev_mul, qev_inX, qev_inY, qev_comp, S, C]
    have e2 : qev XmY x y = x - y := by simp only [XmY, qev, pev]; grind
    rw [e2]
    grind
  rw [← e]; exact h
end Go.Fp.Tri

/- The polynomials of sine and cosine: a quarter of a turn on; how fast they grow; how small they are. -/
namespace Go.Fp.Tri
open Go.Fp
set_option maxRecDepth 20000
/-- a nanodegree, as the program has it; an eighth of a turn -/
def rho : Rat := 5401532406949459 / 309485009821345068724781056
def oct : Rat := 45000000000 * rho
theorem rho_pos : 0 < rho := by unfold rho; grind
theorem rho_lo : 17453 / 1000000000000000 ≤ rho := by unfold rho; grind
theorem rho_hi : rho ≤ 17454 / 1000000000000000 := by unfold rho; grind
/-- a quarter of a turn on: cosine and sine -/
def RemH : List (List Rat) := qadd (qcomp PC [[-oct, 1]]) (qneg (qcomp PS [[oct, 1]]))
theorem remH_bd : qbd RemH 0 (7855 / 10000) ≤ 6 / 10000000000000 := by decide +kernel
theorem half_turn {u : Rat} (hu : Wn u (7855 / 10000)) : Wn (C (u - oct) - S (u + oct)) (6 / 10000000000000) := by
  have h := (wn_qev RemH (x := 0) (X := 0) ⟨by grind, by grind⟩ hu).mono remH_bd
  have e : qev RemH 0 u = C (u - oct) - S (u + oct) := by
    simp only [RemH, qev_add, qev_neg, qev_comp, S, C]
    have e1 : qev [[-oct, 1]] 0 u = u - oct := by simp only [qev, pev]; grind
    have e2 : qev [[oct, 1]] 0 u = u + oct := by simp only [qev, pev]; grind
    rw [e1, e2]
    grind
  rw [← e]; exact h
/-- how fast a polynomial grows -/
def plip : List Rat → Rat → Rat
  | [], _ => 0
  | _ :: r, X => pbd r X + X * plip r X
theorem wn_lip : ∀ (p : List Rat) {x y X D : Rat}, Wn x X → Wn y X → Wn (x - y) D → Wn (pev p x - pev p y) (D * plip p X)
  | [], x, y, X, D, _, _, hd => by
    have := hd.nonneg
    constructor <;> simp [pev, plip] <;> grind
  | c :: r, x, y, X, D, hx, hy, hd => by
    have h1 := wn_mul hd (wn_pev r hx)
    have h2 := wn_mul hy (wn_lip r hx hy hd)
    have h := wn_add h1 h2
    have e : (x - y) * pev r x + y * (pev r x - pev r y) = pev (c :: r) x - pev (c :: r) y := by simp only [pev]; grind
    rw [e] at h
    exact h.mono (by simp only [plip]; grind)
theorem lipS_bd : plip PS (7855 / 10000) ≤ 1325 / 1000 := by decide +kernel
theorem lip_S {x y D : Rat} (hx : Wn x (7855 / 10000)) (hy : Wn y (7855 / 10000)) (hd : Wn (x - y) D) : Wn (S x - S y) (D * (1325 / 1000)) :=
  (wn_lip PS hx hy hd).mono (Rat.mul_le_mul_of_nonneg_left lipS_bd hd.nonneg)
/-- sizes -/
def T2 : List Rat := [inv 5, 0, -inv 7, 0, inv 9, 0, -inv 11, 0, inv 13, 0, -inv 15, 0, inv 17]
def T3 : List Rat := [-inv 7, 0, inv 9, 0, -inv 11, 0, inv 13, 0, -inv 15, 0, inv 17]
theorem t3_bd : pbd T3 (1571 / 1000) ≤ 1 / 1000 := by decide +kernel
theorem S_low {z : Rat} (h0 : 0 ≤ z) (h1 : z ≤ 1571 / 1000) : 58 / 100 * z ≤ S z := by
  have hz : Wn z (1571 / 1000) := ⟨by grind, h1⟩
  have h3 := (wn_pev T3 hz).mono t3_bd
  have hzz := wn_mul hz hz
  have h4 := wn_mul hzz h3
  have e2 : pev T2 z = inv 5 + z * z * pev T3 z := by simp only [T2, T3, pev]; grind
  have i5 : inv 5 = 1 / 120 := by decide +kernel
  have p2 : 0 ≤ pev T2 z := by rw [e2, i5]; have := h4.1; grind
  have e : S z = z * (1 - inv 3 * (z * z) + z * z * (z * z) * pev T2 z) := by simp only [S, PS, T2, pev]; grind
  have i3 : inv 3 = 1 / 6 := by decide +kernel
  have q1 : 0 ≤ z * z := Rat.mul_nonneg h0 h0
  have q2 : 0 ≤ z * z * (z * z) * pev T2 z := Rat.mul_nonneg (Rat.mul_nonneg q1 q1) p2
  have q3 : 58 / 100 ≤ 1 - inv 3 * (z * z) + z * z * (z * z) * pev T2 z := by rw [i3]; have := hzz.2; grind
  have := Rat.mul_le_mul_of_nonneg_left q3 h0
  rw [e]
  grind
theorem S_odd (z : Rat) : S (-z) = - S z := by simp only [S, PS, pev]; grind
theorem C_even (z : Rat) : C (-z) = C z := by simp only [C, PC, pev]; grind
theorem C_zero : C 0 = 1 := by simp only [C, PC, pev]; grind
def TC : List Rat := [-inv 2, 0, inv 4, 0, -inv 6, 0, inv 8, 0, -inv 10, 0, inv 12, 0, -inv 14, 0, inv 16]
theorem tc_bd : pbd TC (7855 / 10000) ≤ 527 / 1000 := by decide +kernel
theorem C_low {x : Rat} (hx : Wn x (7855 / 10000)) : 67 / 100 ≤ C x := by
  have h := (wn_pev TC hx).mono tc_bd
  have hh := wn_mul (wn_mul hx hx) h
  have e : C x = 1 + x * x * pev TC x := by simp only [C, PC, TC, pev]; grind
  rw [e]
  have := hh.1
  grind
def OneP : List Rat := padd (padd (pmul PC PC) (pmul PS PS)) [-1]
theorem one_bd : pbd OneP (7855 / 10000) ≤ 1 / 1000000000000000 := by decide +kernel
theorem one_SC {x : Rat} (hx : Wn x (7855 / 10000)) : Wn (C x * C x + S x * S x - 1) (1 / 1000000000000000) := by
  have h := (wn_pev OneP hx).mono one_bd
  have e : pev OneP x = C x * C x + S x * S x - 1 := by
    simp only [OneP, pev_add, pev_mul, pev, C, S]
    grind
  rw [← e]; exact h
theorem bdS : pbd PS (7855 / 10000) ≤ 88 / 100 := by decide +kernel
theorem wn_S {x : Rat} (hx : Wn x (7855 / 10000)) : Wn (S x) (88 / 100) := (wn_pev PS hx).mono bdS
end Go.Fp.Tri
