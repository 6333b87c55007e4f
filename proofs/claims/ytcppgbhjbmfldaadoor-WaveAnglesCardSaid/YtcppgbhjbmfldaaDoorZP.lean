/- Complex numbers of rationals, how large they are; polynomials in a small number and in a complex number and its inverse, by their coefficients. -/
import Derived.Test.YtcppgbhjbmfldaaDoorZN
namespace Go.Fp.Tri
open Go.Fp
set_option maxRecDepth 20000

/-- a complex number of rationals -/
structure Cx where
  re : Rat
  im : Rat
namespace Cx
def add (a b : Cx) : Cx := ⟨a.re + b.re, a.im + b.im⟩
def mul (a b : Cx) : Cx := ⟨a.re * b.re - a.im * b.im, a.re * b.im + a.im * b.re⟩
def neg (a : Cx) : Cx := ⟨-a.re, -a.im⟩
def sub (a b : Cx) : Cx := ⟨a.re - b.re, a.im - b.im⟩
def sc (c : Rat) (a : Cx) : Cx := ⟨c * a.re, c * a.im⟩
def zero : Cx := ⟨0, 0⟩
def one : Cx := ⟨1, 0⟩
theorem ext' {a b : Cx} (h1 : a.re = b.re) (h2 : a.im = b.im) : a = b := by
  cases a; cases b; simp only at h1 h2; rw [h1, h2]
@[simp] theorem add_re (a b : Cx) : (a.add b).re = a.re + b.re := rfl
@[simp] theorem add_im (a b : Cx) : (a.add b).im = a.im + b.im := rfl
@[simp] theorem sub_re (a b : Cx) : (a.sub b).re = a.re - b.re := rfl
@[simp] theorem sub_im (a b : Cx) : (a.sub b).im = a.im - b.im := rfl
@[simp] theorem mul_re (a b : Cx) : (a.mul b).re = a.re * b.re - a.im * b.im := rfl
@[simp] theorem mul_im (a b : Cx) : (a.mul b).im = a.re * b.im + a.im * b.re := rfl
@[simp] theorem neg_re (a : Cx) : a.neg.re = -a.re := rfl
@[simp] theorem neg_im (a : Cx) : a.neg.im = -a.im := rfl
@[simp] theorem sc_re (c : Rat) (a : Cx) : (sc c a).re = c * a.re := rfl
@[simp] theorem sc_im (c : Rat) (a : Cx) : (sc c a).im = c * a.im := rfl
@[simp] theorem zero_re : zero.re = 0 := rfl
@[simp] theorem zero_im : zero.im = 0 := rfl
@[simp] theorem one_re : one.re = 1 := rfl
@[simp] theorem one_im : one.im = 0 := rfl
theorem mul_assoc (a b c : Cx) : (a.mul b).mul c = a.mul (b.mul c) := ext' (by simp; grind) (by simp; grind)
theorem mul_comm (a b : Cx) : a.mul b = b.mul a := ext' (by simp; grind) (by simp; grind)
theorem one_mul (a : Cx) : one.mul a = a := ext' (by simp; grind) (by simp; grind)
theorem mul_one (a : Cx) : a.mul one = a := ext' (by simp; grind) (by simp; grind)
end Cx
/-- at most so large -/
def MB (z : Cx) (r : Rat) : Prop := 0 ≤ r ∧ z.re * z.re + z.im * z.im ≤ r * r
theorem rsq_nonneg (x : Rat) : 0 ≤ x * x := by
  rcases Rat.le_total (a := 0) (b := x) with h | h
  · exact Rat.mul_nonneg h h
  · have := Rat.mul_nonneg (show 0 ≤ -x by grind) (show 0 ≤ -x by grind); grind
theorem sq_lt {a b : Rat} (ha : 0 ≤ a) (h : a < b) : a * a < b * b := by
  have h1 := Rat.mul_le_mul_of_nonneg_left (Rat.le_of_lt h) ha
  have h2 := Rat.mul_lt_mul_of_pos_right h (show 0 < b by grind)
  grind
theorem sq_le_sq {a b : Rat} (ha : 0 ≤ a) (h : a ≤ b) : a * a ≤ b * b := by
  have h1 := Rat.mul_le_mul_of_nonneg_left h ha
  have h2 := Rat.mul_le_mul_of_nonneg_right h (show 0 ≤ b by grind)
  grind
theorem le_of_sq {a b : Rat} (hb : 0 ≤ b) (h : a * a ≤ b * b) : a ≤ b := by
  rcases Rat.le_total (a := a) (b := b) with k | k
  · exact k
  · by_cases e : a = b
    · grind
    · exfalso
      have := sq_lt hb (show b < a by grind)
      grind
theorem mul_mono {a b A B : Rat} (a0 : 0 ≤ a) (h1 : a ≤ A) (b0 : 0 ≤ b) (h2 : b ≤ B) : a * b ≤ A * B :=
  Rat.le_trans (Rat.mul_le_mul_of_nonneg_right h1 b0) (Rat.mul_le_mul_of_nonneg_left h2 (by grind))
theorem MB.mono {z : Cx} {r q : Rat} (h : MB z r) (hq : r ≤ q) : MB z q := ⟨by have := h.1; grind, Rat.le_trans h.2 (sq_le_sq h.1 hq)⟩
theorem MB.add {z w : Cx} {r q : Rat} (h : MB z r) (k : MB w q) : MB (z.add w) (r + q) := by
  obtain ⟨h1, h2⟩ := h
  obtain ⟨k1, k2⟩ := k
  refine ⟨by grind, ?_⟩
  have hd : z.re * w.re + z.im * w.im ≤ r * q := by
    refine le_of_sq (Rat.mul_nonneg h1 k1) ?_
    have a := mul_mono (show 0 ≤ z.re * z.re + z.im * z.im by have := rsq_nonneg z.re; have := rsq_nonneg z.im; grind) h2 (show 0 ≤ w.re * w.re + w.im * w.im by have := rsq_nonneg w.re; have := rsq_nonneg w.im; grind) k2
    have b := rsq_nonneg (z.re * w.im - z.im * w.re)
    grind
  show (z.re + w.re) * (z.re + w.re) + (z.im + w.im) * (z.im + w.im) ≤ _
  grind
theorem MB.neg {z : Cx} {r : Rat} (h : MB z r) : MB z.neg r := ⟨h.1, by have := h.2; show -z.re * -z.re + -z.im * -z.im ≤ _; grind⟩
theorem Cx.sub_eq (z w : Cx) : z.sub w = z.add w.neg := Cx.ext' (by simp; grind) (by simp; grind)
theorem MB.sub {z w : Cx} {r q : Rat} (h : MB z r) (k : MB w q) : MB (z.sub w) (r + q) := by
  rw [Cx.sub_eq]; exact h.add k.neg
theorem MB.mul {z w : Cx} {r q : Rat} (h : MB z r) (k : MB w q) : MB (z.mul w) (r * q) := by
  obtain ⟨h1, h2⟩ := h
  obtain ⟨k1, k2⟩ := k
  refine ⟨Rat.mul_nonneg h1 k1, ?_⟩
  have a := mul_mono (show 0 ≤ z.re * z.re + z.im * z.im by have := rsq_nonneg z.re; have := rsq_nonneg z.im; grind) h2 (show 0 ≤ w.re * w.re + w.im * w.im by have := rsq_nonneg w.re; have := rsq_nonneg w.im; grind) k2
  show (z.re * w.re - z.im * w.im) * (z.re * w.re - z.im * w.im) + (z.re * w.im + z.im * w.re) * (z.re * w.im + z.im * w.re) ≤ _
  grind
theorem MB.sc {z : Cx} {r c d : Rat} (h : MB z r) (k : Wn c d) : MB (Cx.sc c z) (d * r) := by
  have hd := k.nonneg
  refine ⟨Rat.mul_nonneg hd h.1, ?_⟩
  have e := mul_mono (rsq_nonneg c) (show c * c ≤ d * d by have := (wn_mul k k).2; exact this) (show 0 ≤ z.re * z.re + z.im * z.im by have := rsq_nonneg z.re; have := rsq_nonneg z.im; grind) h.2
  show c * z.re * (c * z.re) + c * z.im * (c * z.im) ≤ _
  grind
theorem MB.re {z : Cx} {r : Rat} (h : MB z r) : Wn z.re r := by
  have a := rsq_nonneg z.im
  have b := h.2
  have c := le_of_sq (a := z.re) h.1 (by grind)
  have d := le_of_sq (a := -z.re) h.1 (by grind)
  exact ⟨by grind, c⟩
theorem MB.im {z : Cx} {r : Rat} (h : MB z r) : Wn z.im r := by
  have a := rsq_nonneg z.re
  have b := h.2
  have c := le_of_sq (a := z.im) h.1 (by grind)
  have d := le_of_sq (a := -z.im) h.1 (by grind)
  exact ⟨by grind, c⟩
theorem MB.of {z : Cx} {x y r : Rat} (h1 : Wn z.re x) (h2 : Wn z.im y) (r0 : 0 ≤ r) (h : x * x + y * y ≤ r * r) : MB z r := by
  have a := (wn_mul h1 h1).2
  have b := (wn_mul h2 h2).2
  exact ⟨r0, by grind⟩
theorem MB.zero : MB Cx.zero 0 := ⟨by grind, by simp; grind⟩
theorem MB.one : MB Cx.one 1 := ⟨by grind, by simp; grind⟩
theorem MB.cast {z w : Cx} {r : Rat} (h : MB z r) (e : z = w) : MB w r := e ▸ h

/-- whole powers of a complex number E, whose inverse is F -/
def npw (E : Cx) : Nat → Cx
  | 0 => Cx.one
  | k + 1 => (npw E k).mul E
def zpw (E F : Cx) : Int → Cx
  | .ofNat k => npw E k
  | .negSucc k => npw F (k + 1)
theorem zpw_up {E F : Cx} (h : E.mul F = Cx.one) (a : Int) : zpw E F (a + 1) = (zpw E F a).mul E := by
  cases a with
  | ofNat k => rfl
  | negSucc k =>
    have h' : F.mul E = Cx.one := by rw [Cx.mul_comm]; exact h
    cases k with
    | zero =>
      show Cx.one = (Cx.one.mul F).mul E
      rw [Cx.one_mul, h']
    | succ k =>
      show npw F (k + 1) = ((npw F (k + 1)).mul F).mul E
      rw [Cx.mul_assoc, h', Cx.mul_one]
theorem zpw_dn {E F : Cx} (h : E.mul F = Cx.one) (a : Int) : zpw E F (a - 1) = (zpw E F a).mul F := by
  have := zpw_up h (a - 1)
  rw [show a - 1 + 1 = a by omega] at this
  rw [this, Cx.mul_assoc, h, Cx.mul_one]
theorem zpw_add {E F : Cx} (h : E.mul F = Cx.one) (a b : Int) : zpw E F (a + b) = (zpw E F a).mul (zpw E F b) := by
  have hz : zpw E F 0 = Cx.one := rfl
  have pos : ∀ k : Nat, zpw E F (a + (k : Int)) = (zpw E F a).mul (zpw E F (k : Int)) := by
    intro k
    induction k with
    | zero => rw [Int.natCast_zero, Int.add_zero, hz, Cx.mul_one]
    | succ k ih =>
      rw [show a + ((k + 1 : Nat) : Int) = a + (k : Int) + 1 by omega, zpw_up h, ih, Cx.mul_assoc, ← zpw_up h]
      rfl
  have neg : ∀ k : Nat, zpw E F (a - (k : Int)) = (zpw E F a).mul (zpw E F (-(k : Int))) := by
    intro k
    induction k with
    | zero => rw [Int.natCast_zero, Int.sub_zero, Int.neg_zero, hz, Cx.mul_one]
    | succ k ih =>
      rw [show a - ((k + 1 : Nat) : Int) = a - (k : Int) - 1 by omega, zpw_dn h, ih, Cx.mul_assoc, ← zpw_dn h]
      rw [show (-(k : Int) - 1) = -((k + 1 : Nat) : Int) by omega]
  rcases Int.lt_or_le b 0 with hb | hb
  · have := neg b.natAbs
    rw [show -((b.natAbs : Nat) : Int) = b by omega, show a - ((b.natAbs : Nat) : Int) = a + b by omega] at this
    exact this
  · have := pos b.natAbs
    rw [show ((b.natAbs : Nat) : Int) = b by omega] at this
    exact this
/-- powers of a rational number -/
def rpw (n : Rat) : Nat → Rat
  | 0 => 1
  | k + 1 => n * rpw n k
theorem rpw_add (n : Rat) : ∀ i j : Nat, rpw n (i + j) = rpw n i * rpw n j
  | 0, j => by rw [Nat.zero_add]; simp only [rpw]; grind
  | i + 1, j => by
    rw [show i + 1 + j = (i + j) + 1 by omega]
    simp only [rpw, rpw_add n i j]
    grind
theorem rpw_bd {n N : Rat} (h : Wn n N) : ∀ i : Nat, Wn (rpw n i) (rpw N i)
  | 0 => ⟨by simp only [rpw]; grind, by simp only [rpw]; grind⟩
  | i + 1 => wn_mul h (rpw_bd h i)
theorem npw_bd {E : Cx} {K : Rat} (h : MB E K) : ∀ k : Nat, MB (npw E k) (rpw K k)
  | 0 => MB.one
  | k + 1 => by
    have := (npw_bd h k).mul h
    rw [show rpw K k * K = rpw K (k + 1) by simp only [rpw]; grind] at this
    exact this
theorem zpw_bd {E F : Cx} {K : Rat} (h : MB E K) (k : MB F K) (e : Int) : MB (zpw E F e) (rpw K e.natAbs) := by
  cases e with
  | ofNat i => exact npw_bd h i
  | negSucc i => exact npw_bd k (i + 1)

/-- a member: the power of the small number, that of the complex one, its coefficient -/
structure Tm where
  i : Nat
  e : Int
  c : Rat
def tev (n : Rat) (E F : Cx) : List Tm → Cx
  | [] => Cx.zero
  | t :: l => (Cx.sc (t.c * rpw n t.i) (zpw E F t.e)).add (tev n E F l)
def tbd (N K : Rat) : List Tm → Rat
  | [] => 0
  | t :: l => (if t.c < 0 then -t.c else t.c) * rpw N t.i * rpw K t.e.natAbs + tbd N K l
theorem tev_bd {n N K : Rat} {E F : Cx} (hn : Wn n N) (hE : MB E K) (hF : MB F K) : ∀ l : List Tm, MB (tev n E F l) (tbd N K l)
  | [] => MB.zero
  | t :: l => by
    refine MB.add ?_ (tev_bd hn hE hF l)
    refine (zpw_bd hE hF t.e).sc (wn_mul ?_ (rpw_bd hn t.i))
    split
    · constructor <;> grind
    · constructor <;> grind
theorem tev_append (n : Rat) (E F : Cx) : ∀ l m : List Tm, tev n E F (l ++ m) = (tev n E F l).add (tev n E F m)
  | [], m => Cx.ext' (by simp [tev]; grind) (by simp [tev]; grind)
  | t :: l, m => by
    simp only [List.cons_append, tev, tev_append n E F l m]
    exact Cx.ext' (by simp; grind) (by simp; grind)
def tsc (c : Rat) (l : List Tm) : List Tm := l.map fun t => ⟨t.i, t.e, c * t.c⟩
theorem tev_sc (n c : Rat) (E F : Cx) : ∀ l : List Tm, tev n E F (tsc c l) = Cx.sc c (tev n E F l)
  | [] => Cx.ext' (by simp [tsc, tev]) (by simp [tsc, tev])
  | t :: l => by
    have h := tev_sc n c E F l
    simp only [tsc, List.map_cons, tev] at *
    rw [h]
    exact Cx.ext' (by simp; grind) (by simp; grind)
def tmul1 (s : Tm) (l : List Tm) : List Tm := l.map fun t => ⟨s.i + t.i, s.e + t.e, s.c * t.c⟩
theorem tev_mul1 {n : Rat} {E F : Cx} (h : E.mul F = Cx.one) (s : Tm) : ∀ l : List Tm, tev n E F (tmul1 s l) = (Cx.sc (s.c * rpw n s.i) (zpw E F s.e)).mul (tev n E F l)
  | [] => Cx.ext' (by simp [tmul1, tev]; grind) (by simp [tmul1, tev]; grind)
  | t :: l => by
    have ih := tev_mul1 (n := n) h s l
    simp only [tmul1, List.map_cons, tev] at *
    rw [ih, zpw_add h, rpw_add]
    exact Cx.ext' (by simp; grind) (by simp; grind)
def tmul : List Tm → List Tm → List Tm
  | [], _ => []
  | s :: l, m => tmul1 s m ++ tmul l m
theorem tev_mul {n : Rat} {E F : Cx} (h : E.mul F = Cx.one) : ∀ l m : List Tm, tev n E F (tmul l m) = (tev n E F l).mul (tev n E F m)
  | [], m => Cx.ext' (by simp [tmul, tev]; grind) (by simp [tmul, tev]; grind)
  | s :: l, m => by
    simp only [tmul, tev_append, tev_mul1 h, tev_mul h l m, tev]
    exact Cx.ext' (by simp; grind) (by simp; grind)
/-- members of one kind put together -/
def tins (s : Tm) : List Tm → List Tm
  | [] => [s]
  | t :: l => if s.i = t.i ∧ s.e = t.e then ⟨t.i, t.e, s.c + t.c⟩ :: l else t :: tins s l
theorem tev_ins (n : Rat) (E F : Cx) (s : Tm) : ∀ l : List Tm, tev n E F (tins s l) = (Cx.sc (s.c * rpw n s.i) (zpw E F s.e)).add (tev n E F l)
  | [] => rfl
  | t :: l => by
    unfold tins
    split
    · rename_i h
      simp only [tev]
      rw [h.1, h.2]
      exact Cx.ext' (by simp; grind) (by simp; grind)
    · simp only [tev, tev_ins n E F s l]
      exact Cx.ext' (by simp; grind) (by simp; grind)
def tnorm : List Tm → List Tm
  | [] => []
  | t :: l => tins t (tnorm l)
theorem tev_norm (n : Rat) (E F : Cx) : ∀ l : List Tm, tev n E F (tnorm l) = tev n E F l
  | [] => rfl
  | t :: l => by simp only [tnorm, tev_ins, tev_norm n E F l, tev]
end Go.Fp.Tri

/- The series there and back: what is left over is of the fourth order, by reckoning on the coefficients. -/
namespace Go.Fp.Tri
open Go.Fp
set_option maxRecDepth 20000

/-- a polynomial in the small number -/
def nv (n : Rat) : List (Nat × Rat) → Rat
  | [] => 0
  | t :: l => t.2 * rpw n t.1 + nv n l
def npol (l : List (Nat × Rat)) : List Tm := l.map fun t => ⟨t.1, 0, t.2⟩
def tE (j : Int) : List Tm := [⟨0, j, 1⟩]
theorem tev_npol (n : Rat) (E F : Cx) : ∀ l, tev n E F (npol l) = Cx.sc (nv n l) Cx.one
  | [] => Cx.ext' (by simp [npol, tev, nv]) (by simp [npol, tev, nv])
  | t :: l => by
    have ih := tev_npol n E F l
    simp only [npol, List.map_cons, tev, nv] at *
    rw [ih]
    have hz : zpw E F 0 = Cx.one := rfl
    rw [hz]
    exact Cx.ext' (by simp; try grind) (by simp; try grind)
theorem tev_E (n : Rat) (E F : Cx) (j : Int) : tev n E F (tE j) = zpw E F j := Cx.ext' (by simp [tE, tev, rpw]; grind) (by simp [tE, tev, rpw]; grind)
def pA1 : List (Nat × Rat) := [(1, 1 / 2), (2, -2 / 3), (3, 5 / 16), (4, 41 / 180)]
def pA2 : List (Nat × Rat) := [(2, 13 / 48), (3, -3 / 5), (4, 557 / 1440)]
def pA3 : List (Nat × Rat) := [(3, 61 / 240), (4, -103 / 140)]
def pA4 : List (Nat × Rat) := [(4, 49561 / 161280)]
def pB1 : List (Nat × Rat) := [(1, 1 / 2), (2, -2 / 3), (3, 37 / 96), (4, -1 / 360)]
def pB2 : List (Nat × Rat) := [(2, 1 / 48), (3, 1 / 15), (4, -437 / 1440)]
def pB3 : List (Nat × Rat) := [(3, 17 / 480), (4, -37 / 840)]
def pB4 : List (Nat × Rat) := [(4, 4397 / 161280)]
/-- twice the sine, times the root of minus one -/
def tS (j : Int) : List Tm := [⟨0, j, 1⟩, ⟨0, -j, -1⟩]
theorem tev_S (n : Rat) (E F : Cx) (j : Int) : tev n E F (tS j) = (zpw E F j).sub (zpw E F (-j)) := Cx.ext' (by simp [tS, tev, rpw]; grind) (by simp [tS, tev, rpw]; grind)
def tA : List Tm := tmul (npol pA1) (tS 1) ++ tmul (npol pA2) (tS 2) ++ tmul (npol pA3) (tS 3) ++ tmul (npol pA4) (tS 4)
def tA2 : List Tm := tnorm (tmul (tnorm tA) (tnorm tA))
def up2 : List Tm := ⟨0, 0, 1⟩ :: (tnorm tA ++ tsc (1 / 2) tA2)
def dn2 : List Tm := ⟨0, 0, 1⟩ :: (tsc (-1) (tnorm tA) ++ tsc (1 / 2) tA2)
def up1 : List Tm := ⟨0, 0, 1⟩ :: tsc 2 (tnorm tA)
def dn1 : List Tm := ⟨0, 0, 1⟩ :: tsc (-2) (tnorm tA)
def tB : List Tm := tmul (npol pB1) (tmul (tE 1) up2 ++ tsc (-1) (tmul (tE (-1)) dn2)) ++ tmul (npol pB2) (tmul (tE 2) up1 ++ tsc (-1) (tmul (tE (-2)) dn1)) ++ tmul (npol pB3) (tS 3) ++ tmul (npol pB4) (tS 4)
def tR : List Tm := tnorm (tA ++ tsc (-1) tB)
/-- the series' value -/
def serA (n : Rat) (E F : Cx) : Cx := tev n E F tA
/-- a sum of four with their numbers ahead -/
def sum4 (x1 x2 x3 x4 : Rat) (P1 P2 P3 P4 : Cx) : Cx := ((((Cx.sc x1 P1).add (Cx.sc x2 P2)).add (Cx.sc x3 P3)).add (Cx.sc x4 P4))
/-- what the first one comes to, moved by a -/
def w1of (z y a : Cx) : Cx := (z.mul ((Cx.one.add a).add (Cx.sc (1 / 2) (a.mul a)))).sub (y.mul ((Cx.one.sub a).add (Cx.sc (1 / 2) (a.mul a))))
def w2of (z y a : Cx) : Cx := (z.mul (Cx.one.add (Cx.sc 2 a))).sub (y.mul (Cx.one.sub (Cx.sc 2 a)))
theorem serA_eq {n : Rat} {E F : Cx} (h : E.mul F = Cx.one) : serA n E F = sum4 (nv n pA1) (nv n pA2) (nv n pA3) (nv n pA4) ((zpw E F 1).sub (zpw E F (-1))) ((zpw E F 2).sub (zpw E F (-2))) ((zpw E F 3).sub (zpw E F (-3))) ((zpw E F 4).sub (zpw E F (-4))) := by
  unfold serA tA sum4
  simp only [tev_append, tev_mul h, tev_npol, tev_S]
  exact Cx.ext' (by simp; grind) (by simp; grind)
theorem tR_eq {n : Rat} {E F : Cx} (h : E.mul F = Cx.one) : tev n E F tR = (serA n E F).sub (sum4 (nv n pB1) (nv n pB2) (nv n pB3) (nv n pB4) (w1of (zpw E F 1) (zpw E F (-1)) (serA n E F)) (w2of (zpw E F 2) (zpw E F (-2)) (serA n E F)) ((zpw E F 3).sub (zpw E F (-3))) ((zpw E F 4).sub (zpw E F (-4)))) := by
  have e0 : ∀ c, tev n E F (⟨0, 0, 1⟩ :: c) = Cx.one.add (tev n E F c) := fun c => by
    have hz : zpw E F 0 = Cx.one := rfl
    simp only [tev, rpw, hz]
    exact Cx.ext' (by simp; try grind) (by simp; try grind)
  have eA : tev n E F tA = serA n E F := rfl
  unfold tR tB up2 dn2 up1 dn1 tA2 sum4 w1of w2of
  simp only [tev_norm, tev_append, tev_mul h, tev_npol, tev_S, tev_sc, tev_E, e0, eA]
  generalize serA n E F = a
  generalize nv n pB1 = x1
  generalize nv n pB2 = x2
  generalize nv n pB3 = x3
  generalize nv n pB4 = x4
  generalize zpw E F 1 = z1
  generalize zpw E F 2 = z2
  generalize zpw E F 3 = z3
  generalize zpw E F 4 = z4
  generalize zpw E F (-1) = y1
  generalize zpw E F (-2) = y2
  generalize zpw E F (-3) = y3
  generalize zpw E F (-4) = y4
  exact Cx.ext' (by simp; grind) (by simp; grind)
theorem sum4_near {x1 x2 x3 x4 d1 d2 d3 d4 e1 e2 e3 e4 : Rat} {P1 P2 P3 P4 Q1 Q2 Q3 Q4 : Cx} (b1 : Wn x1 d1) (b2 : Wn x2 d2) (b3 : Wn x3 d3) (b4 : Wn x4 d4) (h1 : MB (P1.sub Q1) e1) (h2 : MB (P2.sub Q2) e2) (h3 : MB (P3.sub Q3) e3) (h4 : MB (P4.sub Q4) e4) :
    MB ((sum4 x1 x2 x3 x4 P1 P2 P3 P4).sub (sum4 x1 x2 x3 x4 Q1 Q2 Q3 Q4)) (d1 * e1 + d2 * e2 + d3 * e3 + d4 * e4) := by
  refine ((((h1.sc b1).add (h2.sc b2)).add (h3.sc b3)).add (h4.sc b4)).cast ?_
  unfold sum4
  exact Cx.ext' (by simp; grind) (by simp; grind)
theorem series_near {n N K : Rat} {E F P1 P2 P3 P4 : Cx} {e1 e2 e3 e4 d1 d2 d3 d4 : Rat} (h : E.mul F = Cx.one) (hn : Wn n N) (hE : MB E K) (hF : MB F K)
    (b1 : Wn (nv n pB1) d1) (b2 : Wn (nv n pB2) d2) (b3 : Wn (nv n pB3) d3) (b4 : Wn (nv n pB4) d4)
    (h1 : MB (P1.sub (w1of (zpw E F 1) (zpw E F (-1)) (serA n E F))) e1) (h2 : MB (P2.sub (w2of (zpw E F 2) (zpw E F (-2)) (serA n E F))) e2)
    (h3 : MB (P3.sub ((zpw E F 3).sub (zpw E F (-3)))) e3) (h4 : MB (P4.sub ((zpw E F 4).sub (zpw E F (-4)))) e4) :
    MB ((serA n E F).sub (sum4 (nv n pB1) (nv n pB2) (nv n pB3) (nv n pB4) P1 P2 P3 P4)) (tbd N K tR + (d1 * e1 + d2 * e2 + d3 * e3 + d4 * e4)) := by
  have key := tev_bd hn hE hF tR
  rw [tR_eq h] at key
  refine (key.sub (sum4_near b1 b2 b3 b4 h1 h2 h3 h4)).cast ?_
  exact Cx.ext' (by simp; grind) (by simp; grind)
end Go.Fp.Tri

/- The unit circle by polynomials, at any angle: the addition law. -/
namespace Go.Fp.Tri
open Go.Fp
set_option maxRecDepth 20000

/-- turned by so many quarters -/
def rot (q : Int) (z : Cx) : Cx := if q % 4 = 0 then z else if q % 4 = 1 then ⟨-z.im, z.re⟩ else if q % 4 = 2 then ⟨-z.re, -z.im⟩ else ⟨z.im, -z.re⟩
theorem mod4 (q : Int) : q % 4 = 0 ∨ q % 4 = 1 ∨ q % 4 = 2 ∨ q % 4 = 3 := by omega
theorem rot0 {q : Int} (h : q % 4 = 0) (z : Cx) : rot q z = z := by unfold rot; rw [if_pos h]
theorem rot1 {q : Int} (h : q % 4 = 1) (z : Cx) : rot q z = ⟨-z.im, z.re⟩ := by unfold rot; rw [if_neg (by omega), if_pos h]
theorem rot2 {q : Int} (h : q % 4 = 2) (z : Cx) : rot q z = ⟨-z.re, -z.im⟩ := by unfold rot; rw [if_neg (by omega), if_neg (by omega), if_pos h]
theorem rot3 {q : Int} (h : q % 4 = 3) (z : Cx) : rot q z = ⟨z.im, -z.re⟩ := by unfold rot; rw [if_neg (by omega), if_neg (by omega), if_neg (by omega)]
theorem rot_add (p q : Int) (z : Cx) : rot (p + q) z = rot p (rot q z) := by
  rcases mod4 p with hp | hp | hp | hp <;> rcases mod4 q with hq | hq | hq | hq <;>
    first
      | (rw [rot0 (q := p + q) (by omega)]; first | rw [rot0 hp, rot0 hq] | (rw [rot1 hp, rot3 hq]; exact Cx.ext' (by simp) (by simp)) | (rw [rot2 hp, rot2 hq]; exact Cx.ext' (by simp) (by simp)) | (rw [rot3 hp, rot1 hq]; exact Cx.ext' (by simp) (by simp)))
      | (rw [rot1 (q := p + q) (by omega)]; first | (rw [rot0 hp, rot1 hq]) | (rw [rot1 hp, rot0 hq]) | (rw [rot2 hp, rot3 hq]; exact Cx.ext' (by simp) (by simp)) | (rw [rot3 hp, rot2 hq]; exact Cx.ext' (by simp) (by simp)))
      | (rw [rot2 (q := p + q) (by omega)]; first | (rw [rot0 hp, rot2 hq]) | (rw [rot2 hp, rot0 hq]) | (rw [rot1 hp, rot1 hq]; done) | (rw [rot3 hp, rot3 hq]; done))
      | (rw [rot3 (q := p + q) (by omega)]; first | (rw [rot0 hp, rot3 hq]) | (rw [rot3 hp, rot0 hq]) | (rw [rot1 hp, rot2 hq]; exact Cx.ext' (by simp) (by simp)) | (rw [rot2 hp, rot1 hq]; exact Cx.ext' (by simp) (by simp)))
theorem rot_mul (q : Int) (z w : Cx) : rot q (z.mul w) = (rot q z).mul w := by
  rcases mod4 q with h | h | h | h
  · rw [rot0 h, rot0 h]
  · rw [rot1 h, rot1 h]; exact Cx.ext' (by simp; grind) (by simp; grind)
  · rw [rot2 h, rot2 h]; exact Cx.ext' (by simp; grind) (by simp; grind)
  · rw [rot3 h, rot3 h]; exact Cx.ext' (by simp; grind) (by simp; grind)
theorem rot_sub (q : Int) (z w : Cx) : rot q (z.sub w) = (rot q z).sub (rot q w) := by
  rcases mod4 q with h | h | h | h
  · rw [rot0 h, rot0 h, rot0 h]
  · rw [rot1 h, rot1 h, rot1 h]; exact Cx.ext' (by simp; grind) (by simp)
  · rw [rot2 h, rot2 h, rot2 h]; exact Cx.ext' (by simp; grind) (by simp; grind)
  · rw [rot3 h, rot3 h, rot3 h]; exact Cx.ext' (by simp) (by simp; grind)
theorem MB.rot {z : Cx} {r : Rat} (h : MB z r) (q : Int) : MB (Tri.rot q z) r := by
  refine ⟨h.1, ?_⟩
  have h2 := h.2
  rcases mod4 q with k | k | k | k
  · rw [rot0 k]; exact h2
  · rw [rot1 k]; show -z.im * -z.im + z.re * z.re ≤ _; grind
  · rw [rot2 k]; show -z.re * -z.re + -z.im * -z.im ≤ _; grind
  · rw [rot3 k]; show z.im * z.im + -z.re * -z.re ≤ _; grind
/-- cosine and sine of an angle within an eighth of a turn -/
def cs (x : Rat) : Cx := ⟨C x, S x⟩
def cis (a : Int) : Cx := rot (quart (normP a)) (cs (lef a))
theorem cis_near (a : Int) : Near (cosP a) (cis a).re ∧ Near (sinP a) (cis a).im := by
  unfold cis
  rcases mod4 (quart (normP a)) with h | h | h | h
  · rw [rot0 h]; exact ⟨(trig0 h).2, (trig0 h).1⟩
  · rw [rot1 h]; exact ⟨(trig1 h).2, (trig1 h).1⟩
  · rw [rot2 h]; exact ⟨(trig2 h).2, (trig2 h).1⟩
  · rw [rot3 h]; exact ⟨(trig3 h).2, (trig3 h).1⟩
theorem add_S' {x y : Rat} (hx : Wn x (7855 / 10000)) (hy : Wn y (7855 / 10000)) : Wn (S (x + y) - (C x * S y + S x * C y)) (1 / 10000000000000) := by
  have h := add_S hx (y := -y) ⟨by have := hy.2; grind, by have := hy.1; grind⟩
  rw [S_odd, C_even, show x - -y = x + y by grind] at h
  obtain ⟨_, _⟩ := h
  constructor <;> grind
theorem add_C' {x y : Rat} (hx : Wn x (7855 / 10000)) (hy : Wn y (7855 / 10000)) : Wn (C (x + y) - (C x * C y - S x * S y)) (6 / 10000000000000) := by
  have h := add_C hx (y := -y) ⟨by have := hy.2; grind, by have := hy.1; grind⟩
  rw [S_odd, C_even, show x - -y = x + y by grind] at h
  obtain ⟨_, _⟩ := h
  constructor <;> grind
theorem half_turn' {u : Rat} (hu : Wn u (7855 / 10000)) : Wn (-S (u - oct) - C (u + oct)) (6 / 10000000000000) := by
  have h := half_turn (u := -u) ⟨by have := hu.2; grind, by have := hu.1; grind⟩
  rw [show -u - oct = -(u + oct) by grind, show -u + oct = -(u - oct) by grind, C_even, S_odd] at h
  obtain ⟨_, _⟩ := h
  constructor <;> grind
theorem oct_wn : Wn oct (7855 / 10000) ∧ 7853 / 10000 ≤ oct := by
  have h : oct = 45000000000 * rho := rfl
  have a := rho_lo
  have b := rho_hi
  rw [h]
  exact ⟨⟨by grind, by grind⟩, by grind⟩
/-- two angles within an eighth of a turn put together -/
theorem cs_add {x y z : Rat} {k : Int} (gx : Wn x oct) (gy : Wn y oct) (gz : Wn z oct) (hk : k = 0 ∨ k = 1 ∨ k = -1) (h : z = x + y - (k : Rat) * (2 * oct)) :
    MB ((rot k (cs z)).sub ((cs x).mul (cs y))) (2 / 1000000000000) := by
  have ho := oct_wn.1.2
  have hx : Wn x (7855 / 10000) := gx.mono ho
  have hy : Wn y (7855 / 10000) := gy.mono ho
  have s := add_S' hx hy
  have c := add_C' hx hy
  rcases hk with rfl | rfl | rfl
  · have e : z = x + y := by
      rw [h]
      have : ((0 : Int) : Rat) = 0 := rfl
      grind
    rw [rot0 (by decide), e]
    exact MB.of (x := 6 / 10000000000000) (y := 1 / 10000000000000) c (s.of (by show S (x + y) - (C x * S y + S x * C y) = _; rfl) Rat.le_refl) (by grind) (by grind)
  · have e : z + oct - oct = z := by grind
    have e1 : ((1 : Int) : Rat) = 1 := rfl
    have e2 : z + oct + oct = x + y := by rw [h, e1]; grind
    have bz : Wn (z + oct) (7855 / 10000) := by
      obtain ⟨o1, o2⟩ := oct_wn
      obtain ⟨_, _⟩ := gx
      obtain ⟨_, _⟩ := gy
      obtain ⟨_, _⟩ := gz
      obtain ⟨_, _⟩ := o1
      constructor
      · grind
      · have : z + oct = x + y - oct := by rw [h, e1]; grind
        grind
    have t1 := half_turn bz
    have t2 := half_turn' bz
    rw [e, e2] at t1 t2
    rw [rot1 (by decide)]
    refine MB.of (x := 12 / 10000000000000) (y := 7 / 10000000000000) ((wn_add t2 c).of ?_ (by grind)) ((wn_add t1 s).of ?_ (by grind)) (by grind) (by grind)
    · show -S z - C (x + y) + (C (x + y) - (C x * C y - S x * S y)) = -S z - (C x * C y - S x * S y)
      grind
    · show C z - S (x + y) + (S (x + y) - (C x * S y + S x * C y)) = C z - (C x * S y + S x * C y)
      grind
  · have e1 : ((-1 : Int) : Rat) = -1 := rfl
    have e : -z + oct - oct = -z := by grind
    have e2 : -z + oct + oct = -(x + y) := by rw [h, e1]; grind
    have bz : Wn (-z + oct) (7855 / 10000) := by
      obtain ⟨o1, o2⟩ := oct_wn
      obtain ⟨_, _⟩ := gx
      obtain ⟨_, _⟩ := gy
      obtain ⟨_, _⟩ := gz
      obtain ⟨_, _⟩ := o1
      constructor
      · grind
      · have : -z + oct = -(x + y) - oct := by rw [h, e1]; grind
        grind
    have t1 := half_turn bz
    have t2 := half_turn' bz
    rw [e, e2, S_odd, C_even] at t1
    rw [e, e2, S_odd, C_even] at t2
    rw [rot3 (by decide)]
    refine MB.of (x := 12 / 10000000000000) (y := 7 / 10000000000000) ((wn_add t2 c).of ?_ (by grind)) ((wn_sub s t1).of ?_ (by grind)) (by grind) (by grind)
    · show - -S z - C (x + y) + (C (x + y) - (C x * C y - S x * S y)) = S z - (C x * C y - S x * S y)
      grind
    · show S (x + y) - (C x * S y + S x * C y) - (C z - -S (x + y)) = -C z - (C x * S y + S x * C y)
      grind
theorem lef_oct (a : Int) : Wn (lef a) oct := by
  obtain ⟨h1, h2⟩ := rem_in (normP a)
  unfold lef oct
  have a1 := Rat.mul_le_mul_of_nonneg_right (castle h1) (Rat.le_of_lt rho_pos)
  have a2 := Rat.mul_le_mul_of_nonneg_right (castle h2) (Rat.le_of_lt rho_pos)
  have e1 : ((-45000000000 : Int) : Rat) = -45000000000 := rfl
  have e2 : ((45000000000 : Int) : Rat) = 45000000000 := rfl
  rw [e1] at a1
  rw [e2] at a2
  exact ⟨by grind, a2⟩
theorem lef_wn (a : Int) : Wn (lef a) (7855 / 10000) := (lef_oct a).mono oct_wn.1.2
theorem cis_add (a b : Int) : MB ((cis (a + b)).sub ((cis a).mul (cis b))) (2 / 1000000000000) := by
  obtain ⟨k, hk, hq, hr⟩ : ∃ k : Int, (k = 0 ∨ k = 1 ∨ k = -1) ∧ (quart (normP (a + b)) - (quart (normP a) + quart (normP b) + k)) % 4 = 0 ∧
      normP (a + b) - quart (normP (a + b)) * 90000000000 = (normP a - quart (normP a) * 90000000000) + (normP b - quart (normP b) * 90000000000) - k * 90000000000 := by
    refine ⟨((normP a - quart (normP a) * 90000000000) + (normP b - quart (normP b) * 90000000000) - (normP (a + b) - quart (normP (a + b)) * 90000000000)) / 90000000000, ?_, ?_, ?_⟩
    all_goals
      unfold quart normP
      omega
  have hz : lef (a + b) = lef a + lef b - (k : Rat) * (2 * oct) := by
    unfold lef
    rw [hr]
    unfold oct
    push_cast
    grind
  have key := cs_add (lef_oct a) (lef_oct b) (lef_oct (a + b)) hk hz
  have r := key.rot (quart (normP a) + quart (normP b))
  refine r.cast ?_
  unfold cis
  rw [rot_sub, ← rot_add, rot_add (quart (normP a)) (quart (normP b)) ((cs (lef a)).mul (cs (lef b)))]
  have e1 : rot (quart (normP a) + quart (normP b) + k) (cs (lef (a + b))) = rot (quart (normP (a + b))) (cs (lef (a + b))) := by
    have e : quart (normP a) + quart (normP b) + k = -(quart (normP (a + b)) - (quart (normP a) + quart (normP b) + k)) + quart (normP (a + b)) := by omega
    rw [e, rot_add, rot0 (by omega)]
  rw [e1, Cx.mul_comm (cs (lef a)) (cs (lef b)), rot_mul, Cx.mul_comm _ (cs (lef a)), rot_mul]
theorem cis_zero : cis 0 = Cx.one := by
  unfold cis
  rw [rot0 (by decide)]
  have e : lef 0 = 0 := by decide +kernel
  unfold cs
  rw [e, C_zero]
  exact Cx.ext' rfl (by show S 0 = 0; decide +kernel)
theorem cis_bd (a : Int) : MB (cis a) (1000001 / 1000000) := by
  have h := one_SC (lef_wn a)
  refine MB.rot (z := cs (lef a)) ⟨by grind, ?_⟩ _
  show C (lef a) * C (lef a) + S (lef a) * S (lef a) ≤ _
  have := h.2
  grind
theorem cis_small {a : Int} (h1 : -45000000000 < a) (h2 : a < 45000000000) : cis a = cs ((a : Rat) * rho) := by
  have e := lef_eq (a := a) (r := a) (by unfold quart normP; omega)
  unfold cis
  rw [rot0 (by unfold quart normP; omega), e]
/-- half a turn on -/
theorem cis_one (a : Int) : Wn ((cis a).re * (cis a).re + (cis a).im * (cis a).im - 1) (1 / 1000000000000000) := by
  have h := one_SC (lef_wn a)
  unfold cis
  have r : ∀ q z, (rot q z).re * (rot q z).re + (rot q z).im * (rot q z).im = z.re * z.re + z.im * z.im := by
    intro q z
    rcases mod4 q with k | k | k | k
    · rw [rot0 k]
    · rw [rot1 k]; show -z.im * -z.im + z.re * z.re = _; grind
    · rw [rot2 k]; show -z.re * -z.re + -z.im * -z.im = _; grind
    · rw [rot3 k]; show z.im * z.im + -z.re * -z.re = _; grind
  rw [r]
  exact h
end Go.Fp.Tri

/- The exponential of numbers up to six, by the polynomial's sixteenth power: the addition law; the program's exponential and its logarithm against it. -/
namespace Go.Fp.Tri
open Go.Fp
set_option maxRecDepth 20000

/-! nearness that goes with the size -/
def Rn (x y ε : Rat) : Prop := 0 < y ∧ Wn (x - y) (ε * y)
theorem Rn.mono {x y ε δ : Rat} (h : Rn x y ε) (k : ε ≤ δ) : Rn x y δ := ⟨h.1, h.2.mono (Rat.mul_le_mul_of_nonneg_right k (Rat.le_of_lt h.1))⟩
theorem Rn.e0 {x y ε : Rat} (h : Rn x y ε) : 0 ≤ ε := by
  rcases Rat.le_total (a := 0) (b := ε) with k | k
  · exact k
  · have h0 := h.2.nonneg
    have h1 := Rat.mul_le_mul_of_nonneg_right k (Rat.le_of_lt h.1)
    have e : ε * y = 0 := by grind
    rcases Rat.mul_eq_zero.1 e with h | h
    · grind
    · have := ‹Rn x y ε›.1; grind
theorem Rn.refl {y : Rat} (h : 0 < y) : Rn y y 0 := ⟨h, by constructor <;> grind⟩
theorem Rn.cast {x y x' y' ε : Rat} (h : Rn x y ε) (e : x = x') (e' : y = y') : Rn x' y' ε := e ▸ e' ▸ h
theorem Rn.mul {x y u v ε δ : Rat} (h : Rn x y ε) (k : Rn u v δ) (hε : ε ≤ 1 / 1000000) : Rn (x * u) (y * v) (ε + δ + 1 / 1000000 * δ) := by
  have hp := Rat.mul_pos h.1 k.1
  refine ⟨hp, ?_⟩
  have hv : Wn v v := ⟨by have := k.1; grind, Rat.le_refl⟩
  have hy : Wn y y := ⟨by have := h.1; grind, Rat.le_refl⟩
  have t := wn_add (wn_add (wn_mul h.2 hv) (wn_mul hy k.2)) (wn_mul h.2 k.2)
  refine t.of (by grind) ?_
  have a := Rat.mul_le_mul_of_nonneg_right hε (show 0 ≤ δ * (y * v) from Rat.mul_nonneg k.e0 (Rat.le_of_lt hp))
  grind
theorem Rn.trans {x y z ε δ : Rat} (h : Rn x y ε) (k : Rn y z δ) (hδ : δ ≤ 1 / 1000000) : Rn x z (ε + δ + 1 / 1000000 * ε) := by
  refine ⟨k.1, ?_⟩
  refine (wn_add h.2 k.2).of (by grind) ?_
  have a := k.2.2
  have b := Rat.mul_le_mul_of_nonneg_right hδ (Rat.le_of_lt k.1)
  have c := Rat.mul_le_mul_of_nonneg_left (show y ≤ z + 1 / 1000000 * z by grind) h.e0
  grind
theorem Rn.symm {x y ε : Rat} (h : Rn x y ε) (hε : ε ≤ 1 / 1000000) : Rn y x (ε + 2 / 1000000 * ε) := by
  have a := Rat.mul_le_mul_of_nonneg_right hε (Rat.le_of_lt h.1)
  have e0 := h.e0
  obtain ⟨h1, h2, h3⟩ := h
  have lo : y * (999999 / 1000000) ≤ x := by grind
  have c := Rat.mul_le_mul_of_nonneg_left lo e0
  refine ⟨by grind, ?_⟩
  constructor <;> grind
theorem Rn.sq {x y ε : Rat} (h : Rn x y ε) (hε : ε ≤ 1 / 1000000) : Rn (x * x) (y * y) (21 / 10 * ε) := (h.mul h hε).mono (by have := h.e0; grind)
def sq4 (x : Rat) : Rat := ((x * x) * (x * x)) * ((x * x) * (x * x)) * (((x * x) * (x * x)) * ((x * x) * (x * x)))
theorem Rn.sq4 {x y ε : Rat} (h : Rn x y ε) (hε : ε ≤ 1 / 100000000) : Rn (sq4 x) (Tri.sq4 y) (195 / 10 * ε) := by
  have e0 := h.e0
  have a := h.sq (by grind)
  have b := a.sq (by grind)
  have c := b.sq (by grind)
  have d := c.sq (by grind)
  exact d.mono (by grind)
def RemX : List (List Rat) := qadd (qmul (inX PE) (inY PE)) (qneg (qcomp PE [[0, 1], [1]]))
theorem remX_bd : qbd RemX (4375 / 10000) (4375 / 10000) ≤ 11 / 100000000000000 := by decide +kernel
theorem pe_one4 : pbd (padd PE [-1]) (4375 / 10000) ≤ 55 / 100 := by decide +kernel
theorem Ex_bd4 {x : Rat} (h : Wn x (4375 / 10000)) : 45 / 100 ≤ Ex x ∧ Ex x ≤ 155 / 100 := by
  have b := (wn_pev (padd PE [-1]) h).mono pe_one4
  rw [pev_add] at b
  have e : pev [-1] x = -1 := by simp only [pev]; grind
  rw [e] at b
  change Wn (Ex x + -1) _ at b
  obtain ⟨_, _⟩ := b
  constructor <;> grind
theorem Ex_add {x y : Rat} (hx : Wn x (4375 / 10000)) (hy : Wn y (4375 / 10000)) (hz : Wn (x + y) (4375 / 10000)) : Rn (Ex x * Ex y) (Ex (x + y)) (25 / 100000000000000) := by
  have hb := (wn_qev RemX hx hy).mono remX_bd
  have e : qev RemX x y = Ex x * Ex y - Ex (x + y) := by
    simp only [RemX, qev_add, qev_mul, qev_inX, qev_inY, qev_neg, qev_comp, Ex]
    have : qev [[0, 1], [1]] x y = x + y := by simp [qev, pev]; grind
    rw [this]
    grind
  rw [e] at hb
  obtain ⟨z1, z2⟩ := Ex_bd4 hz
  exact ⟨by grind, hb.mono (by grind)⟩
/-- the exponential -/
def EX (y : Rat) : Rat := sq4 (Ex (y / 16))
theorem sq4_pos {x : Rat} (h : 0 < x) : 0 < sq4 x := by
  have a := Rat.mul_pos h h
  have b := Rat.mul_pos a a
  have c := Rat.mul_pos b b
  exact Rat.mul_pos c c
theorem arg16 {y : Rat} (h : Wn y 7) : Wn (y / 16) (4375 / 10000) := by
  obtain ⟨_, _⟩ := h
  constructor <;> grind
theorem EX_pos {y : Rat} (h : Wn y 7) : 0 < EX y := sq4_pos (by have := (Ex_bd4 (arg16 h)).1; grind)
theorem EX_add {a b : Rat} (ha : Wn a 7) (hb : Wn b 7) (hc : Wn (a + b) 7) : Rn (EX a * EX b) (EX (a + b)) (5 / 1000000000000) := by
  have e : (a + b) / 16 = a / 16 + b / 16 := by grind
  have h := Ex_add (arg16 ha) (arg16 hb) (by rw [← e]; exact arg16 hc)
  rw [← e] at h
  refine ((h.sq4 (by grind)).cast ?_ rfl).mono (by grind)
  unfold EX sq4
  grind
theorem EX_zero : EX 0 = 1 := by decide +kernel
theorem EX_neg {a : Rat} (ha : Wn a 7) : Wn (EX a * EX (-a) - 1) (5 / 1000000000000) := by
  have h := EX_add ha (b := -a) ⟨by have := ha.2; grind, by have := ha.1; grind⟩ (by constructor <;> grind)
  rw [show a + -a = 0 by grind, EX_zero] at h
  exact h.2.of rfl (by grind)
theorem EX_lam' : -(1 / 10000000000000) ≤ EX lam - 2 ∧ EX lam - 2 ≤ (1 / 10000000000000 : Rat) := by decide +kernel
theorem EX_lam : Rn (EX lam) 2 (1 / 10000000000000) := by
  have h := EX_lam'
  generalize EX lam = x at *
  obtain ⟨h1, h2⟩ := h
  exact ⟨by grind, ⟨by grind, by grind⟩⟩
theorem lam_wn (k : Nat) (h : k ≤ 9) : Wn ((k : Rat) * lam) (625 / 100) := by
  obtain ⟨a, b⟩ := lam_bd
  have c : (k : Rat) ≤ 9 := by exact_mod_cast h
  have d : (0 : Rat) ≤ (k : Rat) := by exact_mod_cast Nat.zero_le k
  generalize lam = l at *
  have t := Rat.mul_nonneg d (show 0 ≤ l by grind)
  have u := Rat.mul_le_mul_of_nonneg_right c (show 0 ≤ l by grind)
  generalize (k : Rat) * l = w at *
  constructor <;> grind
theorem EX_klam : ∀ k : Nat, k ≤ 9 → Rn (EX ((k : Rat) * lam)) (pw (k : Int)) ((k : Rat) * (6 / 1000000000000))
  | 0, _ => by
    have e : ((0 : Nat) : Rat) * lam = 0 := by simp
    rw [e, EX_zero]
    have e2 : pw ((0 : Nat) : Int) = 1 := pw_zero
    rw [e2]
    exact (Rn.refl (by grind)).mono (by simp)
  | k + 1, h => by
    have ih := EX_klam k (by omega)
    have w1 := lam_wn k (by omega)
    have w2 := lam_wn (k + 1) h
    have hk : (k : Rat) ≤ 8 := by exact_mod_cast (show k ≤ 8 by omega)
    have hk0 : (0 : Rat) ≤ (k : Rat) := by exact_mod_cast Nat.zero_le k
    have e : ((k + 1 : Nat) : Rat) * lam = (k : Rat) * lam + lam := by push_cast; grind
    rw [e] at w2 ⊢
    have hl : Wn lam 7 := by obtain ⟨a, b⟩ := lam_bd; constructor <;> grind
    have a := (EX_add (w1.mono (by grind)) hl (w2.mono (by grind))).symm (by grind)
    have b := ih.mul EX_lam (by grind)
    have c := a.trans b (by grind)
    have e2 : pw ((k + 1 : Nat) : Int) = pw (k : Int) * 2 := by
      rw [show ((k + 1 : Nat) : Int) = (k : Int) + 1 by omega, pw_add, pw_one]
    rw [e2]
    refine c.mono ?_
    push_cast
    grind
theorem EX_ilam (k : Int) (h1 : -9 ≤ k) (h2 : k ≤ 9) : Rn (EX ((k : Rat) * lam)) (pw k) (60 / 1000000000000) ∧ Wn ((k : Rat) * lam) (625 / 100) := by
  rcases Int.lt_or_le k 0 with h | h
  · obtain ⟨m, hm⟩ : ∃ m : Nat, k = -(m : Int) := ⟨k.natAbs, by omega⟩
    subst hm
    have a := EX_klam m (by omega)
    have w := lam_wn m (by omega)
    have hk : (m : Rat) ≤ 9 := by exact_mod_cast (show m ≤ 9 by omega)
    have a' := a.mono (δ := 54 / 1000000000000) (by grind)
    have n := EX_neg (w.mono (by grind))
    have e : ((-(m : Int) : Int) : Rat) * lam = -((m : Rat) * lam) := by push_cast; grind
    rw [e]
    have w' : Wn (-((m : Rat) * lam)) (625 / 100) := ⟨by have := w.2; grind, by have := w.1; grind⟩
    refine ⟨⟨pw_pos _, ?_⟩, w'⟩
    have pp : pw (m : Int) * pw (-(m : Int)) = 1 := by rw [← pw_add, Int.add_right_neg, pw_zero]
    have p0 := pw_pos (m : Int)
    have q0 := pw_pos (-(m : Int))
    have f0 := EX_pos (w'.mono (by grind))
    obtain ⟨_, a1, a2⟩ := a'
    generalize EX ((m : Rat) * lam) = x at *
    generalize EX (-((m : Rat) * lam)) = y at *
    generalize pw (m : Int) = p at *
    generalize pw (-(m : Int)) = q at *
    -- y = (x y) / x, q = 1 / p
    obtain ⟨n1, n2⟩ := n
    have k1 := Rat.mul_le_mul_of_nonneg_right (show x ≤ p + 54 / 1000000000000 * p by grind) (Rat.mul_nonneg (Rat.le_of_lt f0) (Rat.le_of_lt q0))
    have k2 := Rat.mul_le_mul_of_nonneg_right (show p - 54 / 1000000000000 * p ≤ x by grind) (Rat.mul_nonneg (Rat.le_of_lt f0) (Rat.le_of_lt q0))
    have e1 : (p + 54 / 1000000000000 * p) * (y * q) = (1 + 54 / 1000000000000) * y := by grind
    have e2 : (p - 54 / 1000000000000 * p) * (y * q) = (1 - 54 / 1000000000000) * y := by grind
    have e3 : x * (y * q) = x * y * q := by grind
    rw [e1, e3] at k1
    rw [e2, e3] at k2
    have k3 := Rat.mul_le_mul_of_nonneg_right (show x * y ≤ 1 + 5 / 1000000000000 by grind) (Rat.le_of_lt q0)
    have k4 := Rat.mul_le_mul_of_nonneg_right (show 1 - 5 / 1000000000000 ≤ x * y by grind) (Rat.le_of_lt q0)
    generalize x * y * q = r at *
    clear e1 e2 e3 pp n1 n2 a1 a2 w w' e
    constructor <;> grind
  · obtain ⟨m, hm⟩ : ∃ m : Nat, k = (m : Int) := ⟨k.natAbs, by omega⟩
    subst hm
    have a := EX_klam m (by omega)
    have hk : (m : Rat) ≤ 9 := by exact_mod_cast (show m ≤ 9 by omega)
    exact ⟨a.mono (by grind), lam_wn m (by omega)⟩
/-- small numbers: the polynomial itself -/
theorem EX_small {r : Rat} (h : Wn r (4375 / 10000)) : Rn (EX r) (Ex r) (18 / 1000000000000) := by
  have half : ∀ x : Rat, Wn x (4375 / 10000) → Rn (Ex (x / 2) * Ex (x / 2)) (Ex x) (25 / 100000000000000) := by
    intro x hx
    have b : Wn (x / 2) (4375 / 10000) := by obtain ⟨_, _⟩ := hx; constructor <;> grind
    have a := Ex_add b b (by rw [show x / 2 + x / 2 = x by grind]; exact hx)
    rw [show x / 2 + x / 2 = x by grind] at a
    exact a
  have w2 : Wn (r / 2) (4375 / 10000) := by obtain ⟨_, _⟩ := h; constructor <;> grind
  have w4 : Wn (r / 4) (4375 / 10000) := by obtain ⟨_, _⟩ := h; constructor <;> grind
  have w8 : Wn (r / 8) (4375 / 10000) := by obtain ⟨_, _⟩ := h; constructor <;> grind
  have a1 := half _ w8
  rw [show r / 8 / 2 = r / 16 by grind] at a1
  have a2 := half _ w4
  rw [show r / 4 / 2 = r / 8 by grind] at a2
  have a3 := half _ w2
  rw [show r / 2 / 2 = r / 4 by grind] at a3
  have a4 := half _ h
  have b2 := (a1.sq (by grind)).trans a2 (by grind)
  have b3 := (b2.sq (by grind)).trans a3 (by grind)
  have b4 := (b3.sq (by grind)).trans a4 (by grind)
  exact b4.mono (by grind)
/-- a power of two times the polynomial -/
theorem EX_pw {v r : Rat} {k : Int} (h1 : -9 ≤ k) (h2 : k ≤ 9) (hv : Wn v 7) (hr : Wn r (36 / 100)) (he : Wn (r - (v - (k : Rat) * lam)) (1 / 100000000000000)) : Rn (EX v) (Ex r * pw k) (9 / 100000000000) := by
  obtain ⟨a, wk⟩ := EX_ilam k h1 h2
  generalize (k : Rat) * lam = w at *
  obtain ⟨r', hr'⟩ : ∃ r', r' = v - w := ⟨_, rfl⟩
  have br : Wn r' (361 / 1000) := by rw [hr']; obtain ⟨_, _⟩ := he; obtain ⟨_, _⟩ := hr; constructor <;> grind
  rw [← hr'] at he
  have e : r' + w = v := by rw [hr']; grind
  have s := EX_add (br.mono (by grind)) (wk.mono (by grind)) (by rw [e]; exact hv.mono (by grind))
  rw [e] at s
  have t := EX_small (br.mono (by grind))
  have hc := wn_lip PE (br.mono (show (361 : Rat) / 1000 ≤ 4375 / 10000 by grind)) (hr.mono (show (36 : Rat) / 100 ≤ 4375 / 10000 by grind)) (D := 1 / 100000000000000) (by obtain ⟨_, _⟩ := he; constructor <;> grind)
  have l4 : plip PE (4375 / 10000) ≤ 2 := by decide +kernel
  obtain ⟨x1, x2⟩ := Ex_bd4 (hr.mono (show (36 : Rat) / 100 ≤ 4375 / 10000 by grind))
  have hd : Rn (Ex r') (Ex r) (1 / 10000000000000) := ⟨by grind, (hc.mono (B := 2 / 100000000000000) (by grind)).of rfl (by grind)⟩
  have u := ((t.trans hd (by grind)).mul a (by grind))
  exact ((s.symm (by grind)).trans u (by grind)).mono (by grind)
end Go.Fp.Tri
namespace Go.Proofs.YtcppgbhjbmfldaaDoor
open Go.Fp Go.Fp.Tri
set_option maxRecDepth 20000
/-- the program's exponential -/
theorem exp_EX {y : Nat} (fy : Fp.Fin y) (b : Wn (vl y) 5) : Fp.Fin (expP y) ∧ Rn (vl (expP y)) (EX (vl y)) (1 / 10000000000) := by
  have u1 : uu = 1 / 9007199254740992 := uu_eq
  obtain ⟨k, r, q, fE, vE, qE, bR, eR, k1, k2⟩ := exp_near fy b
  have h := EX_pw (k := k) (by omega) (by omega) (b.mono (by grind)) (bR.mono (by grind)) (eR.mono (by rw [u1]; grind))
  obtain ⟨x1, x2⟩ := Ex_35 (bR.mono (by grind))
  refine ⟨fE, ?_⟩
  have hq : Rn q (Ex r) (1 / 100000000000000) := ⟨by grind, qE.mono (by rw [u1]; grind)⟩
  have hp : Rn (pw k) (pw k) 0 := Rn.refl (pw_pos k)
  have a := hq.mul hp (by grind)
  rw [vE]
  exact (a.trans (h.symm (by grind)) (by grind)).mono (by grind)
end Go.Proofs.YtcppgbhjbmfldaaDoor

/- The logarithm undoes the exponential; the exponential of small numbers; what turns and grows at once. -/
namespace Go.Fp.Tri
open Go.Fp
set_option maxRecDepth 20000

theorem place_400 (M : Nat) (k : Int) (v : Rat) (h1 : c0 ≤ vl M) (h2 : vl M < 2 * c0) (h3 : v = vl M * pw k) (h4 : 1 / 400 ≤ v) (h5 : v ≤ 400) : -9 ≤ k ∧ k ≤ 9 := by
  have hp := pw_pos k
  have c1 : 7 / 10 ≤ c0 := by unfold c0; grind
  have c2 : c0 ≤ 71 / 100 := by unfold c0; grind
  constructor
  · rcases Int.lt_or_le k (-9) with hk | hk
    · exfalso
      have e : pw k ≤ pw (-10) := pw_mono (by omega)
      have e2 : pw (-10) * 1024 = 1 := by
        have h := pw_add (-10) 10
        rw [show (-10 + 10 : Int) = 0 by decide, pw_zero] at h
        have h3 : pw 10 = 1024 := by have := pw_nat 10; exact this
        rw [h3] at h
        exact h.symm
      have t := Rat.mul_le_mul_of_nonneg_right (show vl M ≤ 142 / 100 by grind) (Rat.le_of_lt hp)
      generalize pw (-10) = z at *
      generalize pw k = w at *
      clear h1 h2
      grind
    · exact hk
  · rcases Int.lt_or_le 9 k with hk | hk
    · exfalso
      have e : pw 10 ≤ pw k := pw_mono (by omega)
      have h3' : pw 10 = 1024 := by have := pw_nat 10; exact this
      rw [h3'] at e
      have t := Rat.mul_le_mul_of_nonneg_right (show 7 / 10 ≤ vl M by grind) (Rat.le_of_lt hp)
      generalize pw k = w at *
      clear h1 h2
      grind
    · exact hk
/-- the polynomial's exponential of the logarithm's polynomial -/
theorem Ex_AA {M : Rat} (h : InM M) : Rn (Ex (AA (sm M))) M (1 / 100000000000000) := by
  obtain ⟨m1, m2⟩ := inM_bd h
  have bA := AA_wn h
  have bs := sm_wn h
  have bT := (wn_pev PT (bA.mono (show (356 : Rat) / 1000 ≤ 36 / 100 by grind))).mono pt_36
  change Wn (Th (AA (sm M))) _ at bT
  have e1 := Ex_Th (bA.mono (show (356 : Rat) / 1000 ≤ 36 / 100 by grind))
  have e2 := AA_Th (bA.mono (show (356 : Rat) / 1000 ≤ 36 / 100 by grind))
  have hs : sm M * (M + 1) = M - 1 := by
    unfold sm
    exact div_mul_c (ne_of_pos (show 0 < M + 1 by grind)) rfl
  have hd : Wn (Th (AA (sm M)) - sm M) (1 / 1000000000000000) := by
    have hl := wn_lip PA2 (bT.mono (show (19 : Rat) / 100 ≤ 19 / 100 by grind)) (bs.mono (show (172 : Rat) / 1000 ≤ 19 / 100 by grind)) (wn_rabs (Th (AA (sm M)) - sm M))
    have k1 := AA_split (Th (AA (sm M)))
    have k2 := AA_split (sm M)
    have r := wn_rabs (Th (AA (sm M)) - sm M)
    have r2 : rabs (Th (AA (sm M)) - sm M) = Th (AA (sm M)) - sm M ∨ rabs (Th (AA (sm M)) - sm M) = -(Th (AA (sm M)) - sm M) := by unfold rabs; split <;> grind
    have lb : plip PA2 (19 / 100) ≤ 8 / 100 := by decide +kernel
    have r0 := r.nonneg
    have m := Rat.mul_le_mul_of_nonneg_left lb r0
    have hl' := hl.mono m
    generalize AA (Th (AA (sm M))) = T at *
    generalize AA (sm M) = A at *
    generalize Th A = τ at *
    generalize pev PA2 τ = p at *
    generalize pev PA2 (sm M) = q at *
    generalize sm M = s at *
    generalize rabs (τ - s) = ρ at *
    obtain ⟨_, _⟩ := e2
    obtain ⟨_, _⟩ := hl'
    clear hl m hs e1 bT bA bs
    rcases r2 with r2 | r2 <;> (constructor <;> grind)
  obtain ⟨x1, x2⟩ := Ex_bd4 (bA.mono (show (356 : Rat) / 1000 ≤ 4375 / 10000 by grind))
  generalize AA (sm M) = A at *
  generalize Th A = τ at *
  generalize sm M = s at *
  generalize Ex A = X at *
  have bX : Wn (X + 1) (26 / 10) := ⟨by grind, by grind⟩
  have e3 := wn_add e1 (wn_mul hd bX)
  have e4 : Wn (X * (1 - s) - (1 + s)) (3 / 1000000000000000) := e3.of (by grind) (by grind)
  have bM : Wn (M + 1) (2415 / 1000) := ⟨by grind, by grind⟩
  have e5 := wn_mul e4 bM
  have e6 : (X * (1 - s) - (1 + s)) * (M + 1) = 2 * (X - M) := by grind
  rw [e6] at e5
  refine ⟨by grind, ?_⟩
  obtain ⟨_, _⟩ := e5
  constructor <;> grind
end Go.Fp.Tri
namespace Go.Proofs.YtcppgbhjbmfldaaDoor
open Go.Fp Go.Fp.Tri
set_option maxRecDepth 20000
/-- the program's logarithm -/
theorem ln_EX {x : Nat} (fx : Fp.Fin x) (xlo : 1 / 400 ≤ vl x) (xhi : vl x ≤ 400) : Fp.Fin (lnP x) ∧ Wn (vl (lnP x)) 7 ∧ Rn (EX (vl (lnP x))) (vl x) (1 / 10000000000) := by
  obtain ⟨M, k, eq, fM, l1, l2, v1⟩ := ln_form fx (by grind)
  obtain ⟨ka, kb⟩ := place_400 M k _ l1 l2 v1 xlo xhi
  have i1 : InM (vl M) := ⟨l1, Rat.le_of_lt l2⟩
  obtain ⟨g1, g2⟩ := lnQ_err fM i1 k (by omega) (by omega)
  have bA := AA_wn i1
  have wk := (EX_ilam k ka kb).2
  have hM := Ex_AA i1
  rw [eq]
  have bv : Wn (vl (lnQ M k)) (661 / 100) := by
    generalize (k : Rat) * lam = w at *
    generalize AA (sm (vl M)) = A at *
    generalize vl (lnQ M k) = v at *
    obtain ⟨_, _⟩ := g2
    obtain ⟨_, _⟩ := wk
    obtain ⟨_, _⟩ := bA
    constructor <;> grind
  have h := EX_pw (v := vl (lnQ M k)) (r := AA (sm (vl M))) ka kb (bv.mono (by grind)) (bA.mono (by grind)) (by
    generalize (k : Rat) * lam = w at *
    obtain ⟨_, _⟩ := g2
    constructor <;> grind)
  refine ⟨g1, bv.mono (by grind), ?_⟩
  have hp : Rn (pw k) (pw k) 0 := Rn.refl (pw_pos k)
  have a := hM.mul hp (by grind)
  rw [v1]
  exact (h.trans a (by grind)).mono (by grind)
end Go.Proofs.YtcppgbhjbmfldaaDoor

/- What turns and grows at once: products, powers, small steps. -/
namespace Go.Fp.Tri
open Go.Fp
set_option maxRecDepth 20000

def Wv (m : Int) (y : Rat) : Cx := Cx.sc (EX y) (cis m)
theorem wn_pos {x : Rat} (h : 0 ≤ x) : Wn x x := ⟨by grind, Rat.le_refl⟩
theorem Wv_bd (m : Int) {y : Rat} (h : Wn y 7) : MB (Wv m y) (EX y * (1000001 / 1000000)) := (cis_bd m).sc (wn_pos (Rat.le_of_lt (EX_pos h)))
theorem Wv_add (m1 m2 : Int) {y1 y2 : Rat} (h1 : Wn y1 7) (h2 : Wn y2 7) (h3 : Wn (y1 + y2) 7) : MB ((Wv (m1 + m2) (y1 + y2)).sub ((Wv m1 y1).mul (Wv m2 y2))) (8 / 1000000000000 * EX (y1 + y2)) := by
  have p := EX_pos h3
  obtain ⟨_, e⟩ := EX_add h1 h2 h3
  have c := cis_add m1 m2
  have b := (cis_bd m1).mul (cis_bd m2)
  unfold Wv
  generalize EX (y1 + y2) = X at *
  generalize EX y1 = x1 at *
  generalize EX y2 = x2 at *
  have r := (c.sc (wn_pos (Rat.le_of_lt p))).add (b.sc (show Wn (X - x1 * x2) (5 / 1000000000000 * X) from ⟨by have := e.2; grind, by have := e.1; grind⟩))
  refine (r.cast ?_).mono ?_
  · exact Cx.ext' (by simp; grind) (by simp; grind)
  · grind
theorem Wv_zero : Wv 0 0 = Cx.one := by
  unfold Wv
  rw [EX_zero, cis_zero]
  exact Cx.ext' (by simp) (by simp)
/-- the inverse -/
def cinv (z : Cx) : Cx := ⟨z.re / (z.re * z.re + z.im * z.im), -z.im / (z.re * z.re + z.im * z.im)⟩
theorem cinv_mul {z : Cx} (h : 0 < z.re * z.re + z.im * z.im) : z.mul (cinv z) = Cx.one := by
  unfold cinv
  generalize hn : z.re * z.re + z.im * z.im = n at *
  have hn0 : n ≠ 0 := by grind
  refine Cx.ext' ?_ ?_
  · show z.re * (z.re / n) - z.im * (-z.im / n) = 1
    have e : z.re * (z.re / n) - z.im * (-z.im / n) = (z.re * z.re + z.im * z.im) / n := by grind
    rw [e, hn]
    grind
  · show z.re * (-z.im / n) + z.im * (z.re / n) = 0
    grind
/-- E, what it grows by being told -/
theorem Wv_norm (m : Int) {y : Rat} (h : Wn y 7) : 0 < (Wv m y).re * (Wv m y).re + (Wv m y).im * (Wv m y).im := by
  have p := EX_pos h
  have c := cis_one m
  unfold Wv
  show 0 < EX y * (cis m).re * (EX y * (cis m).re) + EX y * (cis m).im * (EX y * (cis m).im)
  have e : EX y * (cis m).re * (EX y * (cis m).re) + EX y * (cis m).im * (EX y * (cis m).im) = EX y * EX y * ((cis m).re * (cis m).re + (cis m).im * (cis m).im) := by grind
  rw [e]
  exact Rat.mul_pos (Rat.mul_pos p p) (by have := c.1; grind)
/-- the inverse is what turns and shrinks as much -/
theorem cinv_near (m : Int) {y K : Rat} (h : Wn y 7) (hk : EX (-y) ≤ K) : MB ((cinv (Wv m y)).sub (Wv (-m) (-y))) (9 / 1000000000000 * K) ∧ MB (cinv (Wv m y)) (K * (1000002 / 1000000)) := by
  have h' : Wn (-y) 7 := ⟨by have := h.2; grind, by have := h.1; grind⟩
  have a := Wv_add m (-m) h h' (by rw [show y + -y = 0 by grind]; constructor <;> grind)
  rw [show m + -m = 0 by omega, show y + -y = 0 by grind, Wv_zero, EX_zero] at a
  have f := cinv_mul (Wv_norm m h)
  have g := Wv_bd (-m) h'
  have p := EX_pos h'
  have g2 := g.mono (Rat.mul_le_mul_of_nonneg_right hk (show (0 : Rat) ≤ 1000001 / 1000000 by grind))
  -- the inverse is bounded by what it is near, up to a little of itself
  generalize hE : Wv m y = E at *
  generalize Wv (-m) (-y) = G at *
  generalize cinv E = Fi at *
  have e0 : Fi.sub G = Fi.mul (Cx.one.sub (E.mul G)) := by
    have h1 : Fi.mul (E.mul G) = G := by rw [← Cx.mul_assoc, Cx.mul_comm Fi E, f, Cx.one_mul]
    refine Cx.ext' ?_ ?_
    · have := congrArg Cx.re h1
      simp at this ⊢
      grind
    · have := congrArg Cx.im h1
      simp at this ⊢
      grind
  -- a first bound: |F| (1 - 8e-12) <= |G|
  have key : MB Fi (K * (1000002 / 1000000)) := by
    have hK : 0 ≤ K := by grind
    refine ⟨by grind, ?_⟩
    have e1 : Fi.mul (E.mul G) = G := by rw [← Cx.mul_assoc, Cx.mul_comm Fi E, f, Cx.one_mul]
    obtain ⟨x, hx⟩ : ∃ x, x = E.mul G := ⟨_, rfl⟩
    rw [← hx] at e1 a
    have ar := a.re
    simp at ar
    have n1 : (Fi.re * Fi.re + Fi.im * Fi.im) * (x.re * x.re + x.im * x.im) = G.re * G.re + G.im * G.im := by
      have h1 := congrArg Cx.re e1
      have h2 := congrArg Cx.im e1
      simp at h1 h2
      rw [← h1, ← h2]; grind
    have lo : 99999999 / 100000000 ≤ x.re * x.re + x.im * x.im := by
      have h1 := rsq_nonneg x.im
      have h2 : 999999999 / 1000000000 ≤ x.re := by have := ar.2; grind
      have h3 := sq_le_sq (show (0 : Rat) ≤ 999999999 / 1000000000 by grind) h2
      grind
    have n2 := g2.2
    have q := Rat.mul_le_mul_of_nonneg_left lo (show 0 ≤ Fi.re * Fi.re + Fi.im * Fi.im by have := rsq_nonneg Fi.re; have := rsq_nonneg Fi.im; grind)
    generalize Fi.re * Fi.re + Fi.im * Fi.im = nf at *
    generalize x.re * x.re + x.im * x.im = nx at *
    generalize G.re * G.re + G.im * G.im = ng at *
    have e2 : K * (1000001 / 1000000) * (K * (1000001 / 1000000)) = K * K * (1000002000001 / 1000000000000) := by grind
    have e3 : K * (1000002 / 1000000) * (K * (1000002 / 1000000)) = K * K * (1000004000004 / 1000000000000) := by grind
    rw [e2] at n2
    rw [e3]
    have kk := rsq_nonneg K
    generalize K * K = k2 at *
    grind
  refine ⟨?_, key⟩
  rw [e0]
  refine (key.mul a).mono ?_
  have hK : 0 ≤ K := by grind
  grind
/-- powers -/
theorem pow_near {X : Cx} {m : Int} {y K : Rat} (hX : MB (X.sub (Wv m y)) (9 / 1000000000000 * K)) (hXK : MB X (K * (1000002 / 1000000))) (hK : EX y ≤ K) (hy : Wn y (17 / 10)) :
    ∀ j : Nat, j ≤ 4 → MB ((npw X j).sub (Wv ((j : Int) * m) ((j : Rat) * y))) ((j : Rat) * (18 / 1000000000000) * rpw (K * (1000002 / 1000000)) j) ∧ EX ((j : Rat) * y) ≤ rpw (K * (1000002 / 1000000)) j
  | 0, _ => by
    have e1 : ((0 : Nat) : Int) * m = 0 := by simp
    have e2 : ((0 : Nat) : Rat) * y = 0 := by simp
    rw [e1, e2, Wv_zero, EX_zero]
    refine ⟨?_, Rat.le_refl⟩
    refine (MB.zero.cast ?_).mono ?_
    · exact Cx.ext' (by simp [npw]; grind) (by simp [npw]; grind)
    · simp
  | j + 1, hj => by
    obtain ⟨ih, ik⟩ := pow_near hX hXK hK hy j (by omega)
    have hj3 : (j : Rat) ≤ 3 := by exact_mod_cast (show j ≤ 3 by omega)
    have hj0 : (0 : Rat) ≤ (j : Rat) := by exact_mod_cast Nat.zero_le j
    have hy1 : Wn y 7 := hy.mono (by grind)
    have wj : Wn ((j : Rat) * y) (51 / 10) := (wn_mul (wn_pos hj0) hy).mono (by grind)
    have wj7 : Wn ((j : Rat) * y) 7 := wj.mono (by grind)
    have ws : Wn ((j : Rat) * y + y) 7 := (wn_add wj hy).mono (by grind)
    have e1 : ((j + 1 : Nat) : Int) * m = (j : Int) * m + m := by push_cast; rw [Int.add_mul, Int.one_mul]
    have e2 : ((j + 1 : Nat) : Rat) * y = (j : Rat) * y + y := by push_cast; grind
    rw [e1, e2]
    have a := Wv_add ((j : Int) * m) m wj7 hy1 ws
    have bj := Wv_bd ((j : Int) * m) wj7
    obtain ⟨pz, q⟩ := EX_add wj7 hy1 ws
    have p1 := EX_pos hy1
    have pj := EX_pos wj7
    have K0 : 0 < K := by grind
    have r0 : 0 < rpw (K * (1000002 / 1000000)) j := by grind
    -- how much it grows
    have grow : EX ((j : Rat) * y + y) ≤ rpw (K * (1000002 / 1000000)) (j + 1) := by
      have t := mul_mono (Rat.le_of_lt pj) ik (Rat.le_of_lt p1) hK
      show _ ≤ K * (1000002 / 1000000) * rpw (K * (1000002 / 1000000)) j
      obtain ⟨q1, q2⟩ := q
      generalize rpw (K * (1000002 / 1000000)) j = R at *
      generalize EX ((j : Rat) * y + y) = Z at *
      generalize EX ((j : Rat) * y) * EX y = z at *
      have hRK := Rat.mul_pos r0 K0
      have e3 : K * (1000002 / 1000000) * R = R * K * (1000002 / 1000000) := by grind
      rw [e3]
      generalize R * K = rk at *
      grind
    refine ⟨?_, grow⟩
    have s := ((ih.mul hXK).add (bj.mul hX)).sub a
    refine (s.cast ?_).mono ?_
    · generalize Wv ((j : Int) * m) ((j : Rat) * y) = w1
      generalize Wv m y = w2
      generalize Wv ((j : Int) * m + m) ((j : Rat) * y + y) = w3
      exact Cx.ext' (by simp [npw]; grind) (by simp [npw]; grind)
    · show _ ≤ ((j + 1 : Nat) : Rat) * (18 / 1000000000000) * (K * (1000002 / 1000000) * rpw (K * (1000002 / 1000000)) j)
      have grow' : EX ((j : Rat) * y + y) ≤ K * (1000002 / 1000000) * rpw (K * (1000002 / 1000000)) j := grow
      have e4 : ((j + 1 : Nat) : Rat) = (j : Rat) + 1 := by push_cast; rfl
      rw [e4]
      generalize rpw (K * (1000002 / 1000000)) j = R at *
      generalize EX ((j : Rat) * y + y) = Z at *
      generalize EX ((j : Rat) * y) = x at *
      have hRK := Rat.mul_pos r0 K0
      have t1 := Rat.mul_le_mul_of_nonneg_right ik (Rat.le_of_lt K0)
      generalize (j : Rat) = J at *
      have e5 : K * (1000002 / 1000000) * R = R * K * (1000002 / 1000000) := by grind
      rw [e5] at grow' ⊢
      have e6 : J * (18 / 1000000000000) * R * (K * (1000002 / 1000000)) = J * (18 / 1000000000000) * (R * K * (1000002 / 1000000)) := by grind
      rw [e6]
      have e7 : x * (1000001 / 1000000) * (9 / 1000000000000 * K) = x * K * (9000009 / 1000000000000000000) := by grind
      rw [e7]
      generalize R * K = rk at *
      generalize x * K = xk at *
      have e8 : (J + 1) * (18 / 1000000000000) * (rk * (1000002 / 1000000)) = J * (18 / 1000000000000) * (rk * (1000002 / 1000000)) + 18 / 1000000000000 * (rk * (1000002 / 1000000)) := by grind
      rw [e8]
      generalize J * (18 / 1000000000000) * (rk * (1000002 / 1000000)) = jj at *
      grind
end Go.Fp.Tri

/- Sines and cosines beside a number, as floats, against what turns and grows; small steps. -/
namespace Go.Fp.Tri
open Go.Fp
set_option maxRecDepth 20000

theorem cis_neg (m : Int) : MB ((cis (-m)).sub ⟨(cis m).re, -(cis m).im⟩) (3 / 1000000000000) := by
  have a := cis_add m (-m)
  rw [show m + -m = 0 by omega, cis_zero] at a
  have n := cis_one m
  have b := cis_bd m
  have b' := cis_bd (-m)
  have bc : MB (⟨(cis m).re, -(cis m).im⟩ : Cx) (1000001 / 1000000) := ⟨b.1, by have := b.2; show (cis m).re * (cis m).re + -(cis m).im * -(cis m).im ≤ _; grind⟩
  generalize cis m = c at *
  generalize cis (-m) = d at *
  obtain ⟨x, hx⟩ : ∃ x, x = c.re * c.re + c.im * c.im := ⟨_, rfl⟩
  rw [← hx] at n
  have r := (bc.mul a).neg.add ((b'.sc n).neg)
  refine (r.cast ?_).mono (by grind)
  refine Cx.ext' ?_ ?_
  · simp; rw [hx]; grind
  · simp; rw [hx]; grind
/-- twice the sine, times the root of minus one -/
def PP (m : Int) (y : Rat) : Cx := (Wv m (-y)).sub (Wv (-m) y)
theorem PP_near (m : Int) {y : Rat} (h : Wn y 7) : MB ((⟨(cis m).re * (EX (-y) - EX y), (cis m).im * (EX (-y) + EX y)⟩ : Cx).sub (PP m y)) (3 / 1000000000000 * EX y) := by
  have a := (cis_neg m).sc (wn_pos (Rat.le_of_lt (EX_pos h)))
  refine (a.cast ?_).mono (by grind)
  unfold PP Wv
  exact Cx.ext' (by simp; grind) (by simp; grind)
/-! small steps: by reckoning on the coefficients -/
def Q0re : List (List Rat) := qadd (qmul (inX PE) (inY PC)) [[-1]]
def Q0im : List (List Rat) := qmul (inX PE) (inY PS)
def Q1re : List (List Rat) := qadd (qmul (inX PE) (inY PC)) [[-1], [-1]]
def Q1im : List (List Rat) := qadd (qmul (inX PE) (inY PS)) [[0, -1]]
def Q2re : List (List Rat) := qadd (qmul (inX PE) (inY PC)) [[-1, 0, 1 / 2], [-1], [-(1 / 2)]]
def Q2im : List (List Rat) := qadd (qmul (inX PE) (inY PS)) [[0, -1], [0, -1]]
theorem small_step {y θ q : Rat} {m : Int} (hθ : θ = (m : Rat) * rho) (by1 : Wn y q) (bt : Wn θ q) (hq : q ≤ 7 / 100) : MB ((Wv m y).sub (⟨Ex y * C θ, Ex y * S θ⟩ : Cx)) (1 / 10000000000) := by
  have hm : -45000000000 < m ∧ m < 45000000000 := by
    have b2 : Wn ((m : Rat) * rho) (7 / 100) := by rw [← hθ]; exact bt.mono hq
    have rl := rho_lo
    obtain ⟨b3, b4⟩ := b2
    constructor
    · rcases Int.lt_or_le (-45000000000) m with h | h
      · exact h
      · exfalso
        have t := castle h
        have e : ((-45000000000 : Int) : Rat) = -45000000000 := rfl
        rw [e] at t
        have t2 := Rat.mul_le_mul_of_nonneg_right t (show 0 ≤ rho by grind)
        generalize (m : Rat) * rho = w at *
        grind
    · rcases Int.lt_or_le m 45000000000 with h | h
      · exact h
      · exfalso
        have t := castle h
        have e : ((45000000000 : Int) : Rat) = 45000000000 := rfl
        rw [e] at t
        have t2 := Rat.mul_le_mul_of_nonneg_right t (show 0 ≤ rho by grind)
        generalize (m : Rat) * rho = w at *
        grind
  have s := EX_small (r := y) (by1.mono (by grind))
  have bs := Ex_bd4 (x := y) (by1.mono (by grind))
  have c := (cis_bd m).sc (c := EX y - Ex y) (s.2.mono (B := 36 / 1000000000000) (by grind))
  unfold Wv
  rw [cis_small hm.1 hm.2, ← hθ] at *
  refine (c.cast ?_).mono (by grind)
  unfold cs
  exact Cx.ext' (by simp; grind) (by simp; grind)
theorem step0 {y θ q B : Rat} (by1 : Wn y q) (bt : Wn θ q) (h1 : qbd Q0re q q ≤ B) (h2 : qbd Q0im q q ≤ B) : MB ((⟨Ex y * C θ, Ex y * S θ⟩ : Cx).sub Cx.one) (3 / 2 * B) := by
  have a := (wn_qev Q0re by1 bt).mono h1
  have b := (wn_qev Q0im by1 bt).mono h2
  have e1 : qev Q0re y θ = Ex y * C θ - 1 := by
    simp only [Q0re, qev_add, qev_mul, qev_inX, qev_inY, qev, pev, Ex, C]; grind
  have e2 : qev Q0im y θ = Ex y * S θ := by
    simp only [Q0im, qev_mul, qev_inX, qev_inY, Ex, S]
  rw [e1] at a
  rw [e2] at b
  exact MB.of a (b.of (by simp; grind) Rat.le_refl) (by have := a.nonneg; grind) (by have := rsq_nonneg B; grind)
theorem step1 {y θ q B : Rat} (by1 : Wn y q) (bt : Wn θ q) (h1 : qbd Q1re q q ≤ B) (h2 : qbd Q1im q q ≤ B) : MB ((⟨Ex y * C θ, Ex y * S θ⟩ : Cx).sub (Cx.one.add ⟨y, θ⟩)) (3 / 2 * B) := by
  have a := (wn_qev Q1re by1 bt).mono h1
  have b := (wn_qev Q1im by1 bt).mono h2
  have e1 : qev Q1re y θ = Ex y * C θ - (1 + y) := by
    simp only [Q1re, qev_add, qev_mul, qev_inX, qev_inY, qev, pev, Ex, C]; grind
  have e2 : qev Q1im y θ = Ex y * S θ - (0 + θ) := by
    simp only [Q1im, qev_add, qev_mul, qev_inX, qev_inY, qev, pev, Ex, S]; grind
  rw [e1] at a
  rw [e2] at b
  exact MB.of a b (by have := a.nonneg; grind) (by have := rsq_nonneg B; grind)
theorem step2 {y θ q B : Rat} (by1 : Wn y q) (bt : Wn θ q) (h1 : qbd Q2re q q ≤ B) (h2 : qbd Q2im q q ≤ B) : MB ((⟨Ex y * C θ, Ex y * S θ⟩ : Cx).sub ((Cx.one.add ⟨y, θ⟩).add (Cx.sc (1 / 2) ((⟨y, θ⟩ : Cx).mul ⟨y, θ⟩)))) (3 / 2 * B) := by
  have a := (wn_qev Q2re by1 bt).mono h1
  have b := (wn_qev Q2im by1 bt).mono h2
  have e1 : qev Q2re y θ = Ex y * C θ - (1 + y + 1 / 2 * (y * y - θ * θ)) := by
    simp only [Q2re, qev_add, qev_mul, qev_inX, qev_inY, qev, pev, Ex, C]; grind
  have e2 : qev Q2im y θ = Ex y * S θ - (0 + θ + 1 / 2 * (y * θ + θ * y)) := by
    simp only [Q2im, qev_add, qev_mul, qev_inX, qev_inY, qev, pev, Ex, S]; grind
  rw [e1] at a
  rw [e2] at b
  exact MB.of a b (by have := a.nonneg; grind) (by have := rsq_nonneg B; grind)
end Go.Fp.Tri
namespace Go.Proofs.YtcppgbhjbmfldaaDoor
open Go.Fp Go.Fp.Tri
set_option maxRecDepth 20000
/-- hyperbolic cosine and sine, as floats -/
theorem hyp_near {V : Nat} (fV : Fp.Fin V) (b : Wn (vl V) 5) : Fp.Fin (hypH (expP V)) ∧ Fp.Fin (hypK (expP V)) ∧ Wn (vl (hypH (expP V)) - (EX (vl V) + EX (-vl V)) / 2) (2 / 10000000000 * (EX (vl V) + EX (-vl V))) ∧ Wn (vl (hypK (expP V)) - (EX (vl V) - EX (-vl V)) / 2) (2 / 10000000000 * (EX (vl V) + EX (-vl V))) ∧
    EX (vl V) + EX (-vl V) ≤ 200000 ∧ 199 / 100 ≤ EX (vl V) + EX (-vl V) := by
  have u1 : uu = 1 / 9007199254740992 := uu_eq
  obtain ⟨fp, hp⟩ := exp_EX fV b
  have bn : Wn (-vl V) 5 := ⟨by have := b.2; grind, by have := b.1; grind⟩
  have n := EX_neg (b.mono (show (5 : Rat) ≤ 7 by grind))
  have x0 := EX_pos (b.mono (show (5 : Rat) ≤ 7 by grind))
  have y0 := EX_pos (bn.mono (show (5 : Rat) ≤ 7 by grind))
  have hb : ∀ y : Rat, Wn y 7 → EX y ≤ 50000 := by
    intro y hy
    obtain ⟨e1, e2⟩ := Ex_bd4 (arg16 hy)
    have a := sq_le_sq (show 0 ≤ Ex (y / 16) by grind) e2
    have c := sq_le_sq (rsq_nonneg _) a
    have d := sq_le_sq (rsq_nonneg _) c
    have e := sq_le_sq (rsq_nonneg _) d
    unfold EX sq4
    generalize Ex (y / 16) * Ex (y / 16) * (Ex (y / 16) * Ex (y / 16)) * (Ex (y / 16) * Ex (y / 16) * (Ex (y / 16) * Ex (y / 16))) = z at *
    grind
  have x1 := hb _ (b.mono (show (5 : Rat) ≤ 7 by grind))
  have y1 := hb _ (bn.mono (show (5 : Rat) ≤ 7 by grind))
  unfold hypH hypK
  rw [v_one.1.can, v_two.1.can]
  generalize EX (vl V) = X at *
  generalize EX (-vl V) = Y at *
  generalize expP V = p at *
  obtain ⟨n1, n2⟩ := n
  obtain ⟨_, hp1, hp2⟩ := hp
  have p0 : 0 < vl p := by grind
  have hXlo : 1 / 60000 ≤ X := by
    have t := Rat.mul_le_mul_of_nonneg_left y1 (Rat.le_of_lt x0)
    generalize X * Y = xy at *
    grind
  -- one over p
  have q0 : 1 / vl p * vl p = 1 := by grind
  have qb : 1 / vl p ≤ 70000 := by
    generalize 1 / vl p = Q at *
    refine le_of_scaled (R := vl p) p0 ?_
    grind
  have q1 : 0 < 1 / vl p := by
    rcases Rat.le_total (a := 1 / vl p) (b := 0) with h | h
    · exfalso
      have := Rat.mul_le_mul_of_nonneg_right h (Rat.le_of_lt p0)
      grind
    · by_cases e : 1 / vl p = 0
      · rw [e] at q0; grind
      · grind
  have qY : Wn (1 / vl p - Y) (12 / 100000000000 * Y) := by
    generalize 1 / vl p = Q at *
    -- (Q - Y) p X = X - X Y p
    have e1 : Y * X * vl p = X * Y * vl p := by grind
    have k1 := Rat.mul_le_mul_of_nonneg_right (show X * Y ≤ 1 + 5 / 1000000000000 by grind) (Rat.le_of_lt p0)
    have k2 := Rat.mul_le_mul_of_nonneg_right (show 1 - 5 / 1000000000000 ≤ X * Y by grind) (Rat.le_of_lt p0)
    have s1 : (X * vl p) * Q = X := by grind
    have pp := Rat.mul_pos x0 p0
    have e2 : (X * vl p) * Y = X * Y * vl p := by grind
    have hXp : X ≤ vl p * (1 + 11 / 100000000000) := by grind
    have hXp2 : vl p * (1 - 11 / 100000000000) ≤ X := by grind
    constructor
    · refine le_of_scaled pp ?_
      have e3 : X * vl p * -(12 / 100000000000 * Y) = -(12 / 100000000000 * (X * Y * vl p)) := by grind
      have e4 : X * vl p * (Q - Y) = X - X * Y * vl p := by grind
      rw [e3, e4]
      generalize X * Y * vl p = z at *
      grind
    · refine le_of_scaled pp ?_
      have e3 : X * vl p * (12 / 100000000000 * Y) = 12 / 100000000000 * (X * Y * vl p) := by grind
      have e4 : X * vl p * (Q - Y) = X - X * Y * vl p := by grind
      rw [e3, e4]
      generalize X * Y * vl p = z at *
      grind
  have L2 : 199 / 100 ≤ X + Y := by
    -- (X + Y)^2 >= 4 X Y
    refine le_of_sq (a := 199 / 100) (by grind) ?_
    have := rsq_nonneg (X - Y)
    have e : (X + Y) * (X + Y) = (X - Y) * (X - Y) + 4 * (X * Y) := by grind
    rw [e]
    generalize X * Y = xy at *
    grind
  obtain ⟨f1, d1⟩ := divE v_one.1 fp (ne_of_pos p0) 70000 (by rw [v_one.2]; exact ⟨by grind, qb⟩) (by grind)
  rw [v_one.2] at d1
  have e1 : Wn (vl (fdiv Fp.cOne p) - Y) (12 / 100000000000 * Y + uu * 140001) := (wn_add d1 qY).of (by grind) (by grind)
  have bX : X ≤ 50000 := x1
  obtain ⟨r1, r2⟩ := e1
  rw [u1] at r1 r2
  obtain ⟨f2, d2⟩ := addE fp f1 130000 (by constructor <;> grind) (by grind)
  obtain ⟨f3, d3⟩ := subE fp f1 130000 (by constructor <;> grind) (by grind)
  obtain ⟨s1, s2⟩ := d2
  obtain ⟨s3, s4⟩ := d3
  rw [u1] at s1 s2 s3 s4
  obtain ⟨f4, d4⟩ := divE f2 v_two.1 (by rw [v_two.2]; grind) 70000 (by rw [v_two.2]; constructor <;> grind) (by grind)
  obtain ⟨f5, d5⟩ := divE f3 v_two.1 (by rw [v_two.2]; grind) 70000 (by rw [v_two.2]; constructor <;> grind) (by grind)
  rw [v_two.2] at d4 d5
  obtain ⟨t1, t2⟩ := d4
  obtain ⟨t3, t4⟩ := d5
  rw [u1] at t1 t2 t3 t4
  refine ⟨f4, f5, ?_, ?_, by grind, L2⟩
  · constructor <;> grind
  · constructor <;> grind
end Go.Proofs.YtcppgbhjbmfldaaDoor
