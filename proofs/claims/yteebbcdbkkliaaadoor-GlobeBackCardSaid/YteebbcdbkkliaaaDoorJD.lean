/- From frame to frame and back: how far off the rounded answer is. -/
import Derived.Test.YteebbcdbkkliaaaDoorJC
namespace Go.Fp
open Ieee

theorem Wn.mono {a A B : Rat} (h : Wn a A) (hab : A ≤ B) : Wn a B := ⟨by have := h.1; grind, by have := h.2; grind⟩
theorem Wn.nonneg {a A : Rat} (h : Wn a A) : 0 ≤ A := by have := h.1; have := h.2; grind
theorem wn_add {a b A B : Rat} (h : Wn a A) (k : Wn b B) : Wn (a + b) (A + B) := ⟨by have := h.1; have := k.1; grind, by have := h.2; have := k.2; grind⟩
theorem wn_sub {a b A B : Rat} (h : Wn a A) (k : Wn b B) : Wn (a - b) (A + B) := ⟨by have := h.1; have := k.2; grind, by have := h.2; have := k.1; grind⟩
theorem wn_mul {a b A B : Rat} (h : Wn a A) (k : Wn b B) : Wn (a * b) (A * B) := by
  obtain ⟨h1, h2⟩ := h
  obtain ⟨k1, k2⟩ := k
  have p1 : 0 ≤ (A - a) * (B - b) := Rat.mul_nonneg (by grind) (by grind)
  have p2 : 0 ≤ (A + a) * (B + b) := Rat.mul_nonneg (by grind) (by grind)
  have p3 : 0 ≤ (A - a) * (B + b) := Rat.mul_nonneg (by grind) (by grind)
  have p4 : 0 ≤ (A + a) * (B - b) := Rat.mul_nonneg (by grind) (by grind)
  constructor <;> grind
theorem eta_le : eta ≤ uu := pw_mono (by decide)
theorem big_le {B : Rat} (h : B ≤ 1000000000000) : B ≤ pw 1000 := by
  have h1 : pw 40 ≤ pw 1000 := pw_mono (by decide)
  have h2 : pw 40 = 1099511627776 := by have := pw_nat 40; exact this
  rw [h2] at h1
  generalize pw 1000 = z at *
  grind
theorem big_le' {B : Rat} (h : B ≤ 1000000000000) : B ≤ pw 1022 := Rat.le_trans (big_le h) (pw_mono (by decide))
theorem addE {x y : Nat} (hx : Fin x) (hy : Fin y) (B : Rat) (hB : Wn (vl x + vl y) B) (hB2 : B ≤ 1000000000000) : Fin (fadd x y) ∧ Wn (vl (fadd x y) - (vl x + vl y)) (uu * (B + 1)) := by
  obtain ⟨h1, h2⟩ := fadd_err hx hy B hB (big_le' hB2)
  exact ⟨h1, h2.mono (by have := eta_le; grind)⟩
theorem subE {x y : Nat} (hx : Fin x) (hy : Fin y) (B : Rat) (hB : Wn (vl x - vl y) B) (hB2 : B ≤ 1000000000000) : Fin (fsub x y) ∧ Wn (vl (fsub x y) - (vl x - vl y)) (uu * (B + 1)) := by
  obtain ⟨h1, h2⟩ := fsub_err hx hy B hB (big_le' hB2)
  exact ⟨h1, h2.mono (by have := eta_le; grind)⟩
theorem mulE {x y : Nat} (hx : Fin x) (hy : Fin y) (B : Rat) (hB : Wn (vl x * vl y) B) (hB2 : B ≤ 1000000000000) : Fin (fmul x y) ∧ Wn (vl (fmul x y) - vl x * vl y) (uu * (B + 1)) := by
  obtain ⟨h1, h2⟩ := fmul_err hx hy B hB (big_le' hB2)
  exact ⟨h1, h2.mono (by have := eta_le; grind)⟩
theorem divE {x y : Nat} (hx : Fin x) (hy : Fin y) (hy0 : vl y ≠ 0) (B : Rat) (hB : Wn (vl x / vl y) B) (hB2 : B ≤ 1000000000000) : Fin (fdiv x y) ∧ Wn (vl (fdiv x y) - vl x / vl y) (uu * (2 * B + 1)) := by
  obtain ⟨h1, h2⟩ := fdiv_err hx hy hy0 B hB (big_le hB2)
  exact ⟨h1, h2.mono (by have := eta_le; grind)⟩
/-- a quotient by what is at least a half -/
theorem div_half {a n A : Rat} (ha : Wn a A) (hn : 1 / 2 ≤ n) : Wn (a / n) (2 * A) := by
  have hn0 : 0 < n := by grind
  have hA := ha.nonneg
  refine wn_div hn0 ?_
  have e : a / n * n = a := by grind
  rw [e]
  have := Rat.mul_le_mul_of_nonneg_left hn (show 0 ≤ 2 * A by grind)
  exact ha.mono (by grind)

/-- one row of To: d + k ((p - q) + r), in whichever order the three are summed -/
theorem toRow {d k t : Nat} {M : Rat} (hd : Fin d) (hk : Fin k) (ht : Fin t) (bd : Wn (vl d) 100000) (bk : Wn (vl k) (1002 / 1000)) (bM : Wn M 100210000) (et : Wn (vl t - M) (1 / 20000000)) :
    Fin (fadd d (fmul k t)) ∧ Wn (vl (fadd d (fmul k t)) - (vl d + vl k * M)) (1 / 10000000) ∧ Wn (vl (fadd d (fmul k t))) 101000000 := by
  have bt : Wn (vl t) 100300000 := (show vl t = (vl t - M) + M by grind) ▸ (wn_add et bM).mono (by grind)
  have b1 : Wn (vl k * vl t) 100600000 := (wn_mul bk bt).mono (by grind)
  obtain ⟨f1, e1⟩ := mulE hk ht _ b1 (by grind)
  have b2 : Wn (vl d + vl (fmul k t)) 100800000 := (show vl d + vl (fmul k t) = vl d + (vl k * vl t + (vl (fmul k t) - vl k * vl t)) by grind) ▸ (wn_add bd (wn_add b1 e1)).mono (by rw [uu_eq]; grind)
  obtain ⟨f2, e2⟩ := addE hd f1 _ b2 (by grind)
  have e3 := wn_mul bk et
  rw [uu_eq] at *
  refine ⟨f2, ?_, ?_⟩
  · obtain ⟨_, _⟩ := e1
    obtain ⟨_, _⟩ := e2
    obtain ⟨_, _⟩ := e3
    constructor <;> grind
  · obtain ⟨_, _⟩ := e2
    obtain ⟨_, _⟩ := b2
    constructor <;> grind
/-- one coordinate of From, ahead of the turn: (x - d) / k -/
theorem fromCo {x d k : Nat} {M : Rat} (hx : Fin x) (hd : Fin d) (hk : Fin k) (bd : Wn (vl d) 100000) (bk : Wn (vl k) (1002 / 1000)) (bk0 : 1 / 2 ≤ vl k) (bM : Wn M 100210000) (ex : Wn (vl x - (vl d + vl k * M)) (1 / 10000000)) :
    Fin (fdiv (fsub x d) k) ∧ Wn (vl (fdiv (fsub x d) k) - M) (3 / 10000000) := by
  have bkM : Wn (vl k * M) 100500000 := (wn_mul bk bM).mono (by grind)
  have b1 : Wn (vl x - vl d) 100600000 := (show vl x - vl d = (vl x - (vl d + vl k * M)) + vl k * M by grind) ▸ (wn_add ex bkM).mono (by grind)
  obtain ⟨f1, e1⟩ := subE hx hd _ b1 (by grind)
  have hk0 : vl k ≠ 0 := by grind
  have b2 : Wn (vl (fsub x d)) 100700000 := (show vl (fsub x d) = (vl (fsub x d) - (vl x - vl d)) + (vl x - vl d) by grind) ▸ (wn_add e1 b1).mono (by rw [uu_eq]; grind)
  have b3 := div_half b2 bk0
  obtain ⟨f2, e2⟩ := divE f1 hk hk0 _ b3 (by grind)
  have e4 : Wn (vl (fsub x d) - vl k * M) (112 / 1000000000) := (show vl (fsub x d) - vl k * M = (vl (fsub x d) - (vl x - vl d)) + (vl x - (vl d + vl k * M)) by grind) ▸ (wn_add e1 ex).mono (by rw [uu_eq]; grind)
  have e5 := div_half e4 bk0
  have e6 : (vl (fsub x d) - vl k * M) / vl k = vl (fsub x d) / vl k - M := by grind
  rw [e6] at e5
  refine ⟨f2, ?_⟩
  rw [uu_eq] at *
  obtain ⟨_, _⟩ := e2
  obtain ⟨_, _⟩ := e5
  constructor <;> grind
/-- a product within a row of From -/
theorem rowPart {P p : Nat} {P0 M : Rat} (hP : Fin P) (hp : Fin p) (bP : Wn (vl P) (1003 / 1000)) (eP : Wn (vl P - P0) (1 / 1000000000000000)) (bM : Wn M 100210000) (ep : Wn (vl p - M) (3 / 10000000)) :
    Fin (fmul P p) ∧ Wn (vl (fmul P p) - P0 * M) (44 / 100000000) ∧ Wn (vl (fmul P p)) 100700000 := by
  have bp : Wn (vl p) 100300000 := (show vl p = (vl p - M) + M by grind) ▸ (wn_add ep bM).mono (by grind)
  have b1 : Wn (vl P * vl p) 100650000 := (wn_mul bP bp).mono (by grind)
  obtain ⟨f1, e1⟩ := mulE hP hp _ b1 (by grind)
  have e2 := wn_mul bP ep
  have e3 := wn_mul eP bM
  rw [uu_eq] at *
  obtain ⟨_, _⟩ := e1
  obtain ⟨_, _⟩ := e2
  obtain ⟨_, _⟩ := e3
  obtain ⟨_, _⟩ := b1
  refine ⟨f1, ?_, ?_⟩
  · constructor <;> grind
  · constructor <;> grind
/-- a row of From, and how far it is off what went in -/
theorem fromRow {P Q R p q r n v : Nat} {P0 Q0 R0 L M N n0 : Rat} (hP : Fin P) (hQ : Fin Q) (hR : Fin R) (hp : Fin p) (hq : Fin q) (hr : Fin r) (hn : Fin n) (hv : Fin v)
    (bP : Wn (vl P) (1003 / 1000)) (eP : Wn (vl P - P0) (1 / 1000000000000000)) (bQ : Wn (vl Q) (1003 / 1000)) (eQ : Wn (vl Q - Q0) (1 / 1000000000000000)) (bR : Wn (vl R) (1003 / 1000)) (eR : Wn (vl R - R0) (1 / 1000000000000000))
    (bL : Wn L 100210000) (bM : Wn M 100210000) (bN : Wn N 100210000) (ep : Wn (vl p - L) (3 / 10000000)) (eq : Wn (vl q - M) (3 / 10000000)) (er : Wn (vl r - N) (3 / 10000000))
    (bn : 1 / 2 ≤ vl n) (en : Wn (vl n - n0) (2 / 1000000000000000)) (bv : Wn (vl v) 100000000) (hid : P0 * L + Q0 * M + R0 * N = n0 * vl v) :
    Fin (fsub (fdiv (fadd (fadd (fmul P p) (fmul Q q)) (fmul R r)) n) v) ∧ Wn (vl (fsub (fdiv (fadd (fadd (fmul P p) (fmul Q q)) (fmul R r)) n) v)) (4 / 1000000) := by
  obtain ⟨f1, e1, b1⟩ := rowPart hP hp bP eP bL ep
  obtain ⟨f2, e2, b2⟩ := rowPart hQ hq bQ eQ bM eq
  obtain ⟨f3, e3, b3⟩ := rowPart hR hr bR eR bN er
  obtain ⟨f4, e4⟩ := addE f1 f2 201400000 ((wn_add b1 b2).mono (by grind)) (by grind)
  have b4 : Wn (vl (fadd (fmul P p) (fmul Q q))) 201500000 := (show vl (fadd (fmul P p) (fmul Q q)) = (vl (fadd (fmul P p) (fmul Q q)) - (vl (fmul P p) + vl (fmul Q q))) + (vl (fmul P p) + vl (fmul Q q)) by grind) ▸ (wn_add e4 (wn_add b1 b2)).mono (by rw [uu_eq]; grind)
  obtain ⟨f5, e5⟩ := addE f4 f3 302300000 ((wn_add b4 b3).mono (by grind)) (by grind)
  generalize vl (fmul P p) = sp at *
  generalize vl (fmul Q q) = sq at *
  generalize vl (fmul R r) = sr at *
  generalize vl (fadd (fmul P p) (fmul Q q)) = s2 at *
  have b5 : Wn (vl (fadd (fadd (fmul P p) (fmul Q q)) (fmul R r))) 302400000 := (show vl (fadd (fadd (fmul P p) (fmul Q q)) (fmul R r)) = (vl (fadd (fadd (fmul P p) (fmul Q q)) (fmul R r)) - (s2 + sr)) + (s2 + sr) by grind) ▸ (wn_add e5 (wn_add b4 b3)).mono (by rw [uu_eq]; grind)
  have eS : Wn (vl (fadd (fadd (fmul P p) (fmul Q q)) (fmul R r)) - n0 * vl v) (138 / 100000000) := by
    rw [← hid, uu_eq] at *
    obtain ⟨_, _⟩ := e1
    obtain ⟨_, _⟩ := e2
    obtain ⟨_, _⟩ := e3
    obtain ⟨_, _⟩ := e4
    obtain ⟨_, _⟩ := e5
    constructor <;> grind
  generalize fadd (fadd (fmul P p) (fmul Q q)) (fmul R r) = S at *
  have eN := wn_mul en bv
  have eT : Wn (vl S - vl n * vl v) (158 / 100000000) := (show vl S - vl n * vl v = (vl S - n0 * vl v) - (vl n - n0) * vl v by grind) ▸ (wn_sub eS eN).mono (by grind)
  have hn0 : vl n ≠ 0 := by grind
  have b6 := div_half b5 bn
  obtain ⟨f6, e6⟩ := divE f5 hn hn0 _ b6 (by grind)
  have e7 := div_half eT bn
  have e8 : (vl S - vl n * vl v) / vl n = vl S / vl n - vl v := by grind
  rw [e8] at e7
  have e9 : Wn (vl (fdiv S n) - vl v) (33 / 10000000) := (show vl (fdiv S n) - vl v = (vl (fdiv S n) - vl S / vl n) + (vl S / vl n - vl v) by grind) ▸ (wn_add e6 e7).mono (by rw [uu_eq]; grind)
  obtain ⟨f7, e10⟩ := subE f6 hv _ e9 (by grind)
  refine ⟨f7, ?_⟩
  rw [uu_eq] at *
  obtain ⟨_, _⟩ := e9
  obtain ⟨_, _⟩ := e10
  constructor <;> grind
end Go.Fp
