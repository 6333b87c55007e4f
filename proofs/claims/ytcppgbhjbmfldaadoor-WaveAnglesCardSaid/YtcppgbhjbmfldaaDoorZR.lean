/- The series back, as floats: what is left over. -/
import Derived.Test.YtcppgbhjbmfldaaDoorZQ
namespace Go.Proofs.YtcppgbhjbmfldaaDoor
open Go.Fp Go.Fp.Tri
set_option maxRecDepth 20000
/-- one member of the series back: the powers, moved -/
theorem member_back {u u1 : Int} {v K q : Rat} {V1 : Nat} (h : Wave u v K) (fV : Fp.Fin V1) (k : Nat) (hk : k < 4) (hq : q ≤ 175 / 10000) (_q0 : 0 ≤ q) {x θ : Rat} (hx : x = -2 * (vl V1 - v)) (hθ : θ = 2 * (((u1 - u : Int) : Rat) * rho)) (bx : Wn x q) (bt : Wn θ q) :
    Fp.Fin (sinRe (2 * ((k : Int) + 1) * u1) (fmul (Fp.can (floatOfInt .f64 (2 * ((k : Int) + 1)))) V1)) ∧ Fp.Fin (sinIm (2 * ((k : Int) + 1) * u1) (fmul (Fp.can (floatOfInt .f64 (2 * ((k : Int) + 1)))) V1)) ∧
    MB ((⟨-2 * vl (sinIm (2 * ((k : Int) + 1) * u1) (fmul (Fp.can (floatOfInt .f64 (2 * ((k : Int) + 1)))) V1)), 2 * vl (sinRe (2 * ((k : Int) + 1) * u1) (fmul (Fp.can (floatOfInt .f64 (2 * ((k : Int) + 1)))) V1))⟩ : Cx).sub
      (((zpw (wE u v) (wF u v) ((k + 1 : Nat) : Int)).mul ⟨Ex (((k : Rat) + 1) * x) * C (((k : Rat) + 1) * θ), Ex (((k : Rat) + 1) * x) * S (((k : Rat) + 1) * θ)⟩).sub
        ((zpw (wE u v) (wF u v) (-((k + 1 : Nat) : Int))).mul ⟨Ex (-(((k : Rat) + 1) * x)) * C (-(((k : Rat) + 1) * θ)), Ex (-(((k : Rat) + 1) * x)) * S (-(((k : Rat) + 1) * θ))⟩))) (65 / 10000000000 * rpw (30003 / 10000) (k + 1)) ∧
    Wn (vl (sinRe (2 * ((k : Int) + 1) * u1) (fmul (Fp.can (floatOfInt .f64 (2 * ((k : Int) + 1)))) V1))) 120 ∧ Wn (vl (sinIm (2 * ((k : Int) + 1) * u1) (fmul (Fp.can (floatOfInt .f64 (2 * ((k : Int) + 1)))) V1))) 120 := by
  have bv := h.bv
  have hk3 : (k : Rat) ≤ 3 := by exact_mod_cast (show k ≤ 3 by omega)
  have hk0 : (0 : Rat) ≤ (k : Rat) := by exact_mod_cast Nat.zero_le k
  have ek : ((k + 1 : Nat) : Rat) = (k : Rat) + 1 := by push_cast; rfl
  have ei : ((k + 1 : Nat) : Int) = (k : Int) + 1 := by push_cast; rfl
  have bV : Wn (vl V1) (58 / 100) := by obtain ⟨_, _⟩ := bv; obtain ⟨_, _⟩ := bx; constructor <;> grind
  obtain ⟨f1, e1⟩ := mul_small k hk fV bV (by grind)
  obtain ⟨y, hy⟩ : ∃ y : Rat, y = 2 * ((k : Rat) + 1) * vl V1 := ⟨_, rfl⟩
  rw [← hy] at e1
  have by1 : Wn y (49 / 10) := by rw [hy]; exact (wn_mul (show Wn (2 * ((k : Rat) + 1)) 8 from ⟨by grind, by grind⟩) bV).mono (by grind)
  obtain ⟨g1, g2, g3, g4, _⟩ := sine_pair (2 * ((k : Int) + 1) * u1) f1 by1 (e1.mono (by grind))
  obtain ⟨pw1, pw2, x1, x2⟩ := h.pow (k + 1) (by omega)
  rw [ek] at pw1 pw2 x1 x2
  rw [ei] at pw1 pw2
  have r0 : 0 < rpw (30003 / 10000) (k + 1) := by
    have := (rpw_num (K := 3) (by grind) (by grind) (k + 1) (by omega)); grind
  have r4 : rpw (30003 / 10000) (k + 1) ≤ 811 / 10 := by
    obtain ⟨a, b, c, d⟩ := rpw3
    rcases k with _ | _ | _ | _ | k
    · rw [a]; grind
    · exact Rat.le_trans b (by grind)
    · exact Rat.le_trans c (by grind)
    · exact d
    · omega
  -- the small step
  obtain ⟨X, hX⟩ : ∃ X, X = ((k : Rat) + 1) * x := ⟨_, rfl⟩
  obtain ⟨Θ, hΘ⟩ : ∃ Θ, Θ = ((k : Rat) + 1) * θ := ⟨_, rfl⟩
  have wk : Wn ((k : Rat) + 1) 4 := ⟨by grind, by grind⟩
  have bX : Wn X (7 / 100) := by rw [hX]; exact (wn_mul wk bx).mono (by grind)
  have bΘ : Wn Θ (7 / 100) := by rw [hΘ]; exact (wn_mul wk bt).mono (by grind)
  obtain ⟨D, hD⟩ : ∃ D : Int, D = ((k : Int) + 1) * (2 * (u1 - u)) := ⟨_, rfl⟩
  have eD : Θ = (D : Rat) * rho := by rw [hΘ, hθ, hD]; push_cast; grind
  have sD := small_step (m := D) eD bX bΘ Rat.le_refl
  have sG := small_step (m := -D) (θ := -Θ) (by rw [eD]; push_cast; grind) (wn_negy bX) (wn_negy bΘ) Rat.le_refl
  rw [← hX, ← hΘ]
  have m1 : 2 * ((k : Int) + 1) * u1 = ((k : Int) + 1) * (2 * u) + D := by rw [hD]; grind
  have y1 : -y = ((k : Rat) + 1) * -(2 * v) + X := by rw [hy, hX, hx]; grind
  have m2 : -(2 * ((k : Int) + 1) * u1) = ((k : Int) + 1) * -(2 * u) + -D := by rw [hD]; grind
  have y2 : y = ((k : Rat) + 1) * (2 * v) + -X := by rw [hy, hX, hx]; grind
  have bj : Wn (((k : Rat) + 1) * (2 * v)) 7 := (wn_mul wk (wn_mul (show Wn (2 : Rat) 2 from ⟨by grind, by grind⟩) bv)).mono (by grind)
  have bj' : Wn (((k : Rat) + 1) * -(2 * v)) 7 := (wn_negy bj).of (by grind) Rat.le_refl
  have A1 := Wv_add (((k : Int) + 1) * (2 * u)) D bj' (bX.mono (by grind)) (by rw [← y1]; exact wn_negy (by1.mono (by grind)))
  have A2 := Wv_add (((k : Int) + 1) * -(2 * u)) (-D) bj (wn_negy (bX.mono (by grind))) (by rw [← y2]; exact by1.mono (by grind))
  rw [← m1, ← y1] at A1
  rw [← m2, ← y2] at A2
  -- sizes
  have sx : ∀ z : Rat, Wn z (7 / 100) → 0 < EX z ∧ EX z ≤ 11 / 10 := by
    intro z hz
    have s := EX_small (r := z) (hz.mono (by grind))
    have l := wn_lip PE (x := z) (y := 0) (X := 7 / 100) (D := 7 / 100) hz ⟨by grind, by grind⟩ (hz.of (by grind) Rat.le_refl)
    have l4 : plip PE (7 / 100) ≤ 109 / 100 := by decide +kernel
    change Wn (Ex z - Ex 0) _ at l
    rw [Ex_zero] at l
    have l2 := l.mono (Rat.mul_le_mul_of_nonneg_left l4 (show (0 : Rat) ≤ 7 / 100 by grind))
    obtain ⟨_, s1, s2⟩ := s
    obtain ⟨_, _⟩ := l2
    exact ⟨EX_pos (hz.mono (by grind)), by grind⟩
  obtain ⟨sx1, sx2⟩ := sx X bX
  obtain ⟨sx3, sx4⟩ := sx (-X) (wn_negy bX)
  have ly1 : EX (-y) ≤ 111 / 100 * rpw (30003 / 10000) (k + 1) := by
    have a := EX_add bj' (bX.mono (show (7 : Rat) / 100 ≤ 7 by grind)) (by rw [← y1]; exact wn_negy (by1.mono (by grind)))
    rw [← y1] at a
    have t := mul_mono (Rat.le_of_lt (EX_pos bj')) x2 (Rat.le_of_lt sx1) sx2
    obtain ⟨_, a1, a2⟩ := a
    generalize EX (((k : Rat) + 1) * -(2 * v)) * EX X = p at *
    generalize rpw (30003 / 10000) (k + 1) = R at *
    grind
  have ly2 : EX y ≤ 111 / 100 * rpw (30003 / 10000) (k + 1) := by
    have a := EX_add bj (wn_negy (bX.mono (show (7 : Rat) / 100 ≤ 7 by grind))) (by rw [← y2]; exact by1.mono (by grind))
    rw [← y2] at a
    have t := mul_mono (Rat.le_of_lt (EX_pos bj)) x1 (Rat.le_of_lt sx3) sx4
    obtain ⟨_, a1, a2⟩ := a
    generalize EX (((k : Rat) + 1) * (2 * v)) * EX (-X) = p at *
    generalize rpw (30003 / 10000) (k + 1) = R at *
    grind
  have dB := (Wv_bd D (bX.mono (show (7 : Rat) / 100 ≤ 7 by grind))).mono (show _ ≤ (12 : Rat) / 10 by grind)
  have gB := (Wv_bd (-D) (wn_negy (bX.mono (show (7 : Rat) / 100 ≤ 7 by grind)))).mono (show _ ≤ (12 : Rat) / 10 by grind)
  -- the powers' sizes
  have zb : MB (zpw (wE u v) (wF u v) ((k + 1 : Nat) : Int)) (101 / 100 * rpw (30003 / 10000) (k + 1)) ∧ MB (zpw (wE u v) (wF u v) (-((k + 1 : Nat) : Int))) (101 / 100 * rpw (30003 / 10000) (k + 1)) := by
    have e1 := Wv_bd (((k : Int) + 1) * (2 * u)) bj'
    have e2 := Wv_bd (((k : Int) + 1) * -(2 * u)) bj
    constructor
    · refine ((pw1.add e1).cast (Cx.ext' (by simp; grind) (by simp; grind))).mono ?_
      have t := Rat.mul_le_mul_of_nonneg_right (show (k : Rat) + 1 ≤ 4 by grind) (Rat.le_of_lt r0)
      have e3 : ((k : Rat) + 1) * (18 / 1000000000000) * rpw (30003 / 10000) (k + 1) = 18 / 1000000000000 * (((k : Rat) + 1) * rpw (30003 / 10000) (k + 1)) := by grind
      rw [e3]
      generalize ((k : Rat) + 1) * rpw (30003 / 10000) (k + 1) = kR at *
      generalize rpw (30003 / 10000) (k + 1) = R at *
      grind
    · refine ((pw2.add e2).cast (Cx.ext' (by simp; grind) (by simp; grind))).mono ?_
      have t := Rat.mul_le_mul_of_nonneg_right (show (k : Rat) + 1 ≤ 4 by grind) (Rat.le_of_lt r0)
      have e3 : ((k : Rat) + 1) * (18 / 1000000000000) * rpw (30003 / 10000) (k + 1) = 18 / 1000000000000 * (((k : Rat) + 1) * rpw (30003 / 10000) (k + 1)) := by grind
      rw [e3]
      generalize ((k : Rat) + 1) * rpw (30003 / 10000) (k + 1) = kR at *
      generalize rpw (30003 / 10000) (k + 1) = R at *
      grind
  have key : MB ((PP (2 * ((k : Int) + 1) * u1) y).sub (((zpw (wE u v) (wF u v) ((k + 1 : Nat) : Int)).mul ⟨Ex X * C Θ, Ex X * S Θ⟩).sub ((zpw (wE u v) (wF u v) (-((k + 1 : Nat) : Int))).mul ⟨Ex (-X) * C (-Θ), Ex (-X) * S (-Θ)⟩))) (1 / 1000000000 * rpw (30003 / 10000) (k + 1)) := by
    rw [ei] at *
    have t := ((A1.sub (pw1.mul dB)).add (zb.1.mul sD)).sub ((A2.sub (pw2.mul gB)).add (zb.2.mul sG))
    refine (t.cast ?_).mono ?_
    · unfold PP
      generalize Wv (2 * ((k : Int) + 1) * u1) (-y) = w1
      generalize Wv (-(2 * ((k : Int) + 1) * u1)) y = w2
      generalize Wv (((k : Int) + 1) * (2 * u)) (((k : Rat) + 1) * -(2 * v)) = w3
      generalize Wv (((k : Int) + 1) * -(2 * u)) (((k : Rat) + 1) * (2 * v)) = w4
      generalize Wv D X = w5
      generalize Wv (-D) (-X) = w6
      generalize zpw (wE u v) (wF u v) ((k : Int) + 1) = w7
      generalize zpw (wE u v) (wF u v) (-((k : Int) + 1)) = w8
      exact Cx.ext' (by simp; grind) (by simp; grind)
    · have t := Rat.mul_le_mul_of_nonneg_right (show (k : Rat) + 1 ≤ 4 by grind) (Rat.le_of_lt r0)
      have e3 : ((k : Rat) + 1) * (18 / 1000000000000) * rpw (30003 / 10000) (k + 1) = 18 / 1000000000000 * (((k : Rat) + 1) * rpw (30003 / 10000) (k + 1)) := by grind
      rw [e3]
      generalize ((k : Rat) + 1) * rpw (30003 / 10000) (k + 1) = kR at *
      generalize rpw (30003 / 10000) (k + 1) = R at *
      grind
  have fin := g3.add key
  refine ⟨g1, g2, (fin.cast ?_).mono ?_, ?_, ?_⟩
  · generalize PP (2 * ((k : Int) + 1) * u1) y = P
    exact Cx.ext' (by simp; grind) (by simp; grind)
  · generalize rpw (30003 / 10000) (k + 1) = R at *
    grind
  all_goals
    have pb : MB (PP (2 * ((k : Int) + 1) * u1) y) 181 := by
      have w1 := Wv_bd (2 * ((k : Int) + 1) * u1) (wn_negy (by1.mono (show (49 : Rat) / 10 ≤ 7 by grind)))
      have w2 := Wv_bd (-(2 * ((k : Int) + 1) * u1)) (by1.mono (show (49 : Rat) / 10 ≤ 7 by grind))
      exact (w1.sub w2).mono (by grind)
    have t := (g3.add pb).cast (w := (⟨-2 * vl (sinIm (2 * ((k : Int) + 1) * u1) (fmul (Fp.can (floatOfInt .f64 (2 * ((k : Int) + 1)))) V1)), 2 * vl (sinRe (2 * ((k : Int) + 1) * u1) (fmul (Fp.can (floatOfInt .f64 (2 * ((k : Int) + 1)))) V1))⟩ : Cx)) (Cx.ext' (by simp; grind) (by simp; grind))
    have t1 := t.re
    have t2 := t.im
    simp only at t1 t2
  · obtain ⟨_, _⟩ := t2
    constructor <;> grind
  · obtain ⟨_, _⟩ := t1
    constructor <;> grind
end Go.Proofs.YtcppgbhjbmfldaaDoor

/- The series forward and back again: where one comes out. -/
namespace Go.Proofs.YtcppgbhjbmfldaaDoor
open Go.Fp Go.Fp.Tri
set_option maxRecDepth 20000
/-- a place of the series back -/
def cRe (f : Nat) (u : Int) (V R0 : Nat) : Nat → Nat
  | 0 => R0
  | k + 1 => fsub (cRe f u V R0 k) (fmul (rowS tabB cB4 f k) (sinRe (2 * ((k : Int) + 1) * u) (fmul (Fp.can (floatOfInt .f64 (2 * ((k : Int) + 1)))) V)))
def cIm (f : Nat) (u : Int) (V I0 : Nat) : Nat → Nat
  | 0 => I0
  | k + 1 => fsub (cIm f u V I0 k) (fmul (rowS tabB cB4 f k) (sinIm (2 * ((k : Int) + 1) * u) (fmul (Fp.can (floatOfInt .f64 (2 * ((k : Int) + 1)))) V)))
theorem MB.move {P Q R : Cx} {a b : Rat} (h : MB (P.sub Q) a) (k : MB (Q.sub R) b) : MB (P.sub R) (a + b) := (h.add k).cast (Cx.ext' (by simp; grind) (by simp; grind))
theorem sum_last {Kp B2 B1 B3 B4 m d1 d2 d3 d4 e M ε tr P1 P2 P3 P4 s : Rat}
    (hs : m + d1 * (2 / 100000000 + 2 * Kp * (3 / 2 * B2 + 102 / 100 * e)) + d2 * (6 / 100000000 + 2 * (Kp * Kp) * (3 / 2 * B1 + 3 * e)) + d3 * (2 / 10000000 + 2 * (Kp * Kp * Kp) * (3 / 2 * B3)) + d4 * (6 / 10000000 + 2 * (Kp * Kp * Kp * Kp) * (3 / 2 * B4)) + 3 / 100000000000 ≤ M)
    (hm : tr ≤ m) (R1 : P1 ≤ 30003 / 10000) (R2 : P2 ≤ 9002 / 1000) (R3 : P3 ≤ 2701 / 100) (R4 : P4 ≤ 811 / 10) (hε : ε ≤ e) (kp0 : 0 ≤ Kp) (e0 : 0 ≤ e) (n0 : 0 ≤ d1) (n1 : 0 ≤ d2) (n2 : 0 ≤ d3) (n3 : 0 ≤ d4) :
    ε + (tr + (d1 * (65 / 10000000000 * P1 + (Kp * 1 * (3 / 2 * B2 + 102 / 100 * ε) + Kp * 1 * (3 / 2 * B2 + 102 / 100 * ε))) + d2 * (65 / 10000000000 * P2 + (Kp * (Kp * 1) * (3 / 2 * B1 + 2 * ε) + Kp * (Kp * 1) * (3 / 2 * B1 + 2 * ε))) + d3 * (65 / 10000000000 * P3 + (Kp * (Kp * (Kp * 1)) * (3 / 2 * B3) + Kp * (Kp * (Kp * 1)) * (3 / 2 * B3))) +
      d4 * (65 / 10000000000 * P4 + (Kp * (Kp * (Kp * (Kp * 1))) * (3 / 2 * B4) + Kp * (Kp * (Kp * (Kp * 1))) * (3 / 2 * B4))))) + 3 / 1000000000000 + 2 * s ≤ ε + M + 2 * s := by
  have v1 := Rat.mul_le_mul_of_nonneg_left hε kp0
  have v2 := Rat.mul_le_mul_of_nonneg_left v1 kp0
  have a1 := Rat.mul_le_mul_of_nonneg_left (show 65 / 10000000000 * P1 + (Kp * 1 * (3 / 2 * B2 + 102 / 100 * ε) + Kp * 1 * (3 / 2 * B2 + 102 / 100 * ε)) ≤ 2 / 100000000 + 2 * Kp * (3 / 2 * B2 + 102 / 100 * e) by grind) n0
  have a2 := Rat.mul_le_mul_of_nonneg_left (show 65 / 10000000000 * P2 + (Kp * (Kp * 1) * (3 / 2 * B1 + 2 * ε) + Kp * (Kp * 1) * (3 / 2 * B1 + 2 * ε)) ≤ 6 / 100000000 + 2 * (Kp * Kp) * (3 / 2 * B1 + 3 * e) by have e0' : 0 ≤ Kp * (Kp * e) := Rat.mul_nonneg kp0 (Rat.mul_nonneg kp0 e0); grind) n1
  have a3 := Rat.mul_le_mul_of_nonneg_left (show 65 / 10000000000 * P3 + (Kp * (Kp * (Kp * 1)) * (3 / 2 * B3) + Kp * (Kp * (Kp * 1)) * (3 / 2 * B3)) ≤ 2 / 10000000 + 2 * (Kp * Kp * Kp) * (3 / 2 * B3) by grind) n2
  have a4 := Rat.mul_le_mul_of_nonneg_left (show 65 / 10000000000 * P4 + (Kp * (Kp * (Kp * (Kp * 1))) * (3 / 2 * B4) + Kp * (Kp * (Kp * (Kp * 1))) * (3 / 2 * B4)) ≤ 6 / 10000000 + 2 * (Kp * Kp * Kp * Kp) * (3 / 2 * B4) by grind) n3
  generalize d1 * (65 / 10000000000 * P1 + (Kp * 1 * (3 / 2 * B2 + 102 / 100 * ε) + Kp * 1 * (3 / 2 * B2 + 102 / 100 * ε))) = t1 at *
  generalize d2 * (65 / 10000000000 * P2 + (Kp * (Kp * 1) * (3 / 2 * B1 + 2 * ε) + Kp * (Kp * 1) * (3 / 2 * B1 + 2 * ε))) = t2 at *
  generalize d3 * (65 / 10000000000 * P3 + (Kp * (Kp * (Kp * 1)) * (3 / 2 * B3) + Kp * (Kp * (Kp * 1)) * (3 / 2 * B3))) = t3 at *
  generalize d4 * (65 / 10000000000 * P4 + (Kp * (Kp * (Kp * (Kp * 1))) * (3 / 2 * B4) + Kp * (Kp * (Kp * (Kp * 1))) * (3 / 2 * B4))) = t4 at *
  grind
theorem bwd {f : Nat} {u u1 : Int} {V1 R1 : Nat} {v K N Kp q B2 B1 B3 B4 m d1 d2 d3 d4 e M ε s : Rat} (hr : Reg N Kp q B2 B1 B3 B4 m d1 d2 d3 d4 e M) (ff : Fp.Fin f) (h0 : 0 ≤ vl f) (h1 : vl f ≤ 10001 / 1000000) (hn : Wn (nQ f) N)
    (h : Wave u v K) (hK : K * (1000002 / 1000000) ≤ Kp) (fV : Fp.Fin V1) (fR : Fp.Fin R1) (bR : Wn (vl R1) 4)
    (ha : MB ((⟨-2 * (vl V1 - v), 2 * (((u1 - u : Int) : Rat) * rho)⟩ : Cx).sub (serA (nQ f) (wE u v) (wF u v))) ε) (hε : ε ≤ e) (hR1 : Wn (vl R1 - (u1 : Rat) * rho) s) :
    Fp.Fin (cRe f u1 V1 R1 4) ∧ Fp.Fin (cIm f u1 V1 V1 4) ∧ MB (⟨-2 * (vl (cIm f u1 V1 V1 4) - v), 2 * (vl (cRe f u1 V1 R1 4) - (u : Rat) * rho)⟩ : Cx) (ε + M + 2 * s) := by
  have hE := h.E.mono hK
  have hF := h.F.2.mono hK
  have hA : MB (serA (nQ f) (wE u v) (wF u v)) (tbd N Kp (tnorm tA)) := by
    have t := tev_bd hn hE hF (tnorm tA)
    rw [tev_norm] at t
    exact t
  have hEF := h.inv
  have he9 := hr.e9
  have htA := hr.tA
  have haq : MB (⟨-2 * (vl V1 - v), 2 * (((u1 - u : Int) : Rat) * rho)⟩ : Cx) q := ((ha.add hA).cast (Cx.ext' (by simp; grind) (by simp; grind))).mono (by grind)
  have hAq : MB (serA (nQ f) (wE u v) (wF u v)) q := hA.mono (by grind)
  obtain ⟨x, hx⟩ : ∃ x : Rat, x = -2 * (vl V1 - v) := ⟨_, rfl⟩
  obtain ⟨θ, hθ⟩ : ∃ θ : Rat, θ = 2 * (((u1 - u : Int) : Rat) * rho) := ⟨_, rfl⟩
  have bx : Wn x q := by rw [hx]; exact haq.re
  have bt : Wn θ q := by rw [hθ]; exact haq.im
  obtain ⟨s0, i0, p0, x0, y0⟩ := member_back h fV 0 (by omega) hr.q7 hr.q0 hx hθ bx bt
  obtain ⟨s1, i1, p1, x1, y1⟩ := member_back h fV 1 (by omega) hr.q7 hr.q0 hx hθ bx bt
  obtain ⟨s2, i2, p2, x2, y2⟩ := member_back h fV 2 (by omega) hr.q7 hr.q0 hx hθ bx bt
  obtain ⟨s3, i3, p3, x3, y3⟩ := member_back h fV 3 (by omega) hr.q7 hr.q0 hx hθ bx bt
  have c0 : ∀ z : Rat, (((0 : Nat) : Rat) + 1) * z = z := fun z => by have : ((0 : Nat) : Rat) = 0 := rfl; grind
  have c1 : ∀ z : Rat, (((1 : Nat) : Rat) + 1) * z = 2 * z := fun z => by have : ((1 : Nat) : Rat) = 1 := rfl; grind
  have c2 : ∀ z : Rat, (((2 : Nat) : Rat) + 1) * z = 3 * z := fun z => by have : ((2 : Nat) : Rat) = 2 := rfl; grind
  have c3 : ∀ z : Rat, (((3 : Nat) : Rat) + 1) * z = 4 * z := fun z => by have : ((3 : Nat) : Rat) = 3 := rfl; grind
  rw [c0, c0] at p0
  rw [c1, c1] at p1
  rw [c2, c2] at p2
  rw [c3, c3] at p3
  rw [← hx, ← hθ] at ha haq
  have q7 := hr.q7
  have q0 := hr.q0
  have w2 : Wn (2 : Rat) 2 := ⟨by grind, by grind⟩
  have w3 : Wn (3 : Rat) 3 := ⟨by grind, by grind⟩
  have w4 : Wn (4 : Rat) 4 := ⟨by grind, by grind⟩
  have z1 := zpw_bd hE hF 1
  have z1' := zpw_bd hE hF (-1)
  have z2 := zpw_bd hE hF 2
  have z2' := zpw_bd hE hF (-2)
  have z3 := zpw_bd hE hF 3
  have z3' := zpw_bd hE hF (-3)
  have z4 := zpw_bd hE hF 4
  have z4' := zpw_bd hE hF (-4)
  change MB _ (Kp * 1) at z1
  change MB _ (Kp * 1) at z1'
  change MB _ (Kp * (Kp * 1)) at z2
  change MB _ (Kp * (Kp * 1)) at z2'
  change MB _ (Kp * (Kp * (Kp * 1))) at z3
  change MB _ (Kp * (Kp * (Kp * 1))) at z3'
  change MB _ (Kp * (Kp * (Kp * (Kp * 1)))) at z4
  change MB _ (Kp * (Kp * (Kp * (Kp * 1)))) at z4'
  obtain ⟨r1, r2, r3, r4⟩ := rpw3
  have e0 := hr.e0
  have kp0 := hr.kp
  -- the first
  have t1 := step_move (step2 bx bt hr.b2.1 hr.b2.2) ha haq hAq (by grind)
  have t1' := step_move (a := ⟨-x, -θ⟩) (A := (serA (nQ f) (wE u v) (wF u v)).neg) (step2 (wn_negy bx) (wn_negy bt) hr.b2.1 hr.b2.2) (ha.neg.cast (Cx.ext' (by simp; grind) (by simp; grind))) (haq.neg.cast (Cx.ext' (by simp) (by simp))) hAq.neg (by grind)
  have g1 := ((z1.mul t1).sub (z1'.mul t1')).cast (w := (((zpw (wE u v) (wF u v) 1).mul ⟨Ex x * C θ, Ex x * S θ⟩).sub ((zpw (wE u v) (wF u v) (-1)).mul ⟨Ex (-x) * C (-θ), Ex (-x) * S (-θ)⟩)).sub (w1of (zpw (wE u v) (wF u v) 1) (zpw (wE u v) (wF u v) (-1)) (serA (nQ f) (wE u v) (wF u v)))) (by
    unfold w1of
    generalize zpw (wE u v) (wF u v) 1 = a1
    generalize zpw (wE u v) (wF u v) (-1) = a2
    generalize serA (nQ f) (wE u v) (wF u v) = a3
    exact Cx.ext' (by simp; grind) (by simp; grind))
  have k1 := MB.move p0 g1
  -- the second
  have t2 := (step1 (wn_mul w2 bx) (wn_mul w2 bt) hr.b1.1 hr.b1.2).add (ha.sc w2)
  have t2' := (step1 (wn_negy (wn_mul w2 bx)) (wn_negy (wn_mul w2 bt)) hr.b1.1 hr.b1.2).add ((ha.sc w2).neg)
  have g2 := ((z2.mul t2).sub (z2'.mul t2')).cast (w := (((zpw (wE u v) (wF u v) 2).mul ⟨Ex (2 * x) * C (2 * θ), Ex (2 * x) * S (2 * θ)⟩).sub ((zpw (wE u v) (wF u v) (-2)).mul ⟨Ex (-(2 * x)) * C (-(2 * θ)), Ex (-(2 * x)) * S (-(2 * θ))⟩)).sub (w2of (zpw (wE u v) (wF u v) 2) (zpw (wE u v) (wF u v) (-2)) (serA (nQ f) (wE u v) (wF u v)))) (by
    unfold w2of
    generalize zpw (wE u v) (wF u v) 2 = a1
    generalize zpw (wE u v) (wF u v) (-2) = a2
    generalize serA (nQ f) (wE u v) (wF u v) = a3
    exact Cx.ext' (by simp; grind) (by simp; grind))
  have k2 := MB.move p1 g2
  -- the third and the fourth
  have t3 := step0 (wn_mul w3 bx) (wn_mul w3 bt) hr.b3.1 hr.b3.2
  have t3' := step0 (wn_negy (wn_mul w3 bx)) (wn_negy (wn_mul w3 bt)) hr.b3.1 hr.b3.2
  have g3 := ((z3.mul t3).sub (z3'.mul t3')).cast (w := (((zpw (wE u v) (wF u v) 3).mul ⟨Ex (3 * x) * C (3 * θ), Ex (3 * x) * S (3 * θ)⟩).sub ((zpw (wE u v) (wF u v) (-3)).mul ⟨Ex (-(3 * x)) * C (-(3 * θ)), Ex (-(3 * x)) * S (-(3 * θ))⟩)).sub ((zpw (wE u v) (wF u v) 3).sub (zpw (wE u v) (wF u v) (-3)))) (by
    generalize zpw (wE u v) (wF u v) 3 = a1
    generalize zpw (wE u v) (wF u v) (-3) = a2
    exact Cx.ext' (by simp; grind) (by simp; grind))
  have k3 := MB.move p2 g3
  have t4 := step0 (wn_mul w4 bx) (wn_mul w4 bt) hr.b4.1 hr.b4.2
  have t4' := step0 (wn_negy (wn_mul w4 bx)) (wn_negy (wn_mul w4 bt)) hr.b4.1 hr.b4.2
  have g4 := ((z4.mul t4).sub (z4'.mul t4')).cast (w := (((zpw (wE u v) (wF u v) 4).mul ⟨Ex (4 * x) * C (4 * θ), Ex (4 * x) * S (4 * θ)⟩).sub ((zpw (wE u v) (wF u v) (-4)).mul ⟨Ex (-(4 * x)) * C (-(4 * θ)), Ex (-(4 * x)) * S (-(4 * θ))⟩)).sub ((zpw (wE u v) (wF u v) 4).sub (zpw (wE u v) (wF u v) (-4)))) (by
    generalize zpw (wE u v) (wF u v) 4 = a1
    generalize zpw (wE u v) (wF u v) (-4) = a2
    exact Cx.ext' (by simp; grind) (by simp; grind))
  have k4 := MB.move p3 g4
  clear t1 t1' t2 t2' t3 t3' t4 t4' g1 g2 g3 g4 p0 p1 p2 p3 z1 z1' z2 z2' z3 z3' z4 z4'
  have b1 := (nv_bd hn pB1).mono hr.e1
  have b2 := (nv_bd hn pB2).mono hr.e2
  have b3 := (nv_bd hn pB3).mono hr.e3
  have b4 := (nv_bd hn pB4).mono hr.e4
  have main := series_near hEF hn hE hF b1 b2 b3 b4 k1 k2 k3 k4
  have n0 := b1.nonneg
  have n1 := b2.nonneg
  have n2 := b3.nonneg
  have n3 := b4.nonneg
  -- the floats
  obtain ⟨j0, j1, j2, j3⟩ := rowB_near ff h0 h1
  obtain ⟨nn0, nn1, _⟩ := nQ_bd h0 h1
  have hnm : Wn (nQ f) (5026 / 1000000) := ⟨by grind, nn1⟩
  obtain ⟨cc1, cc2, cc3, cc4⟩ := bB_mid
  have o0 := (nv_bd hnm pB1).mono cc1
  have o1 := (nv_bd hnm pB2).mono cc2
  have o2 := (nv_bd hnm pB3).mono cc3
  have o3 := (nv_bd hnm pB4).mono cc4
  have bV : Wn (vl V1) 1 := by
    have bv := h.bv
    obtain ⟨_, _⟩ := bv
    obtain ⟨_, _⟩ := bx
    constructor <;> grind
  obtain ⟨f1, e1, l1⟩ := acc_sub fR j0 (o0.mono (by grind)) s0 x0 bR (by grind)
  obtain ⟨f2, e2, l2⟩ := acc_sub f1 j1 (o1.mono (by grind)) s1 x1 l1 (by grind)
  obtain ⟨f3, e3, l3⟩ := acc_sub f2 j2 (o2.mono (by grind)) s2 x2 l2 (by grind)
  obtain ⟨f4, e4, _⟩ := acc_sub f3 j3 (o3.mono (by grind)) s3 x3 l3 (by grind)
  obtain ⟨g1, m1, v1⟩ := acc_sub fV j0 (o0.mono (by grind)) i0 y0 bV (by grind)
  obtain ⟨g2, m2, v2⟩ := acc_sub g1 j1 (o1.mono (by grind)) i1 y1 v1 (by grind)
  obtain ⟨g3, m3, v3⟩ := acc_sub g2 j2 (o2.mono (by grind)) i2 y2 v2 (by grind)
  obtain ⟨g4, m4, _⟩ := acc_sub g3 j3 (o3.mono (by grind)) i3 y3 v3 (by grind)
  refine ⟨f4, g4, ?_⟩
  change Wn (vl (cRe f u1 V1 R1 4) - (vl (cRe f u1 V1 R1 3) - _)) _ at e4
  change Wn (vl (cRe f u1 V1 R1 3) - (vl (cRe f u1 V1 R1 2) - _)) _ at e3
  change Wn (vl (cRe f u1 V1 R1 2) - (vl (cRe f u1 V1 R1 1) - _)) _ at e2
  change Wn (vl (cRe f u1 V1 R1 1) - (vl R1 - _)) _ at e1
  change Wn (vl (cIm f u1 V1 V1 4) - (vl (cIm f u1 V1 V1 3) - _)) _ at m4
  change Wn (vl (cIm f u1 V1 V1 3) - (vl (cIm f u1 V1 V1 2) - _)) _ at m3
  change Wn (vl (cIm f u1 V1 V1 2) - (vl (cIm f u1 V1 V1 1) - _)) _ at m2
  change Wn (vl (cIm f u1 V1 V1 1) - (vl V1 - _)) _ at m1
  have tot1 := wn_add (wn_add (wn_add e1 e2) e3) e4
  have tot2 := wn_add (wn_add (wn_add m1 m2) m3) m4
  have r5 := MB.of (z := (⟨-2 * ((vl (cIm f u1 V1 V1 1) - (vl V1 - nv (nQ f) pB1 * _)) + _ + _ + _), 2 * ((vl (cRe f u1 V1 R1 1) - (vl R1 - nv (nQ f) pB1 * _)) + _ + _ + _)⟩ : Cx)) (x := 16 / 10000000000000) (y := 16 / 10000000000000) (r := 3 / 1000000000000) ((wn_mul (show Wn (-2 : Rat) 2 from ⟨by grind, by grind⟩) tot2).mono (by grind)) ((wn_mul (show Wn (2 : Rat) 2 from ⟨by grind, by grind⟩) tot1).mono (by grind)) (by grind) (by grind)
  have sN := hR1.nonneg
  have r6 : MB (⟨0, 2 * (vl R1 - (u1 : Rat) * rho)⟩ : Cx) (2 * s) := MB.of (x := 0) (y := 2 * s) ⟨by grind, by grind⟩ (wn_mul w2 hR1) (by grind) (by grind)
  refine ((((ha.add main).add r5).add r6).cast ?_).mono ?_
  · unfold sum4
    rw [hx, hθ]
    have ei : ((u1 - u : Int) : Rat) = (u1 : Rat) - (u : Rat) := by push_cast; rfl
    rw [ei]
    generalize serA (nQ f) (wE u v) (wF u v) = A
    generalize nv (nQ f) pB1 = w1
    generalize nv (nQ f) pB2 = w2
    generalize nv (nQ f) pB3 = w3
    generalize nv (nQ f) pB4 = w4
    exact Cx.ext' (by simp; grind) (by simp; grind)
  · have hs := hr.sum
    have hm := hr.tR
    have R1 : rpw (30003 / 10000) (0 + 1) ≤ 30003 / 10000 := by have h : rpw (30003 / 10000) (0 + 1) = 30003 / 10000 := r1; rw [h]; exact Rat.le_refl
    have R2 : rpw (30003 / 10000) (1 + 1) ≤ 9002 / 1000 := r2
    have R3 : rpw (30003 / 10000) (2 + 1) ≤ 2701 / 100 := r3
    have R4 : rpw (30003 / 10000) (3 + 1) ≤ 811 / 10 := r4
    generalize rpw (30003 / 10000) (0 + 1) = P1 at *
    generalize rpw (30003 / 10000) (1 + 1) = P2 at *
    generalize rpw (30003 / 10000) (2 + 1) = P3 at *
    generalize rpw (30003 / 10000) (3 + 1) = P4 at *
    generalize tbd N Kp tR = tr at *
    exact sum_last hs hm R1 R2 R3 R4 hε kp0 e0 n0 n1 n2 n3
end Go.Proofs.YtcppgbhjbmfldaaDoor

/- The angle of any point: its cosine and sine are the point's sides over its distance, but for a nanodegree. -/
namespace Go.Fp.Tri
open Go.Fp
set_option maxRecDepth 20000
theorem cs_rho : Wn (C rho - 1) (1 / 1000000000000000) ∧ Wn (S rho) (18 / 1000000000000) := by
  constructor
  · have : -(1 / 1000000000000000 : Rat) ≤ C rho - 1 ∧ C rho - 1 ≤ 1 / 1000000000000000 := by decide +kernel
    exact this
  · have : -(18 / 1000000000000 : Rat) ≤ S rho ∧ S rho ≤ 18 / 1000000000000 := by decide +kernel
    exact this
/-- one nanodegree on -/
theorem cis_step (q : Int) : MB ((cis (q + 1)).sub (cis q)) (21 / 1000000000000) := by
  have a := cis_add q 1
  have e : cis 1 = cs rho := by
    have := cis_small (a := 1) (by omega) (by omega)
    rw [this]
    congr 1
    have : ((1 : Int) : Rat) = 1 := rfl
    rw [this]; grind
  rw [e] at a
  obtain ⟨h1, h2⟩ := cs_rho
  have b := (cis_bd q).mul (MB.of (z := (⟨C rho - 1, S rho⟩ : Cx)) h1 h2 (show (0 : Rat) ≤ 185 / 10000000000000 by grind) (by grind))
  refine ((a.add b).cast ?_).mono (by grind)
  unfold cs
  exact Cx.ext' (by simp; grind) (by simp; grind)
theorem cis_first {q : Int} (h0 : 0 ≤ q) (h1 : q ≤ 90000000000) : -(1 / 10000000000000) ≤ (cis q).re ∧ -(1 / 10000000000000) ≤ (cis q).im := by
  obtain ⟨⟨_, c1⟩, ⟨_, s1⟩⟩ := cis_near q
  obtain ⟨⟨_, s2⟩, ⟨_, c2⟩⟩ := trig_lat (a := q) (by omega) h1
  have a := cI_nonneg h0 h1
  have b := sI_nonneg h0 h1
  obtain ⟨_, _⟩ := c1
  obtain ⟨_, _⟩ := s1
  obtain ⟨_, _⟩ := s2
  obtain ⟨_, _⟩ := c2
  unfold tol at *
  exact ⟨by grind, by grind⟩
/-- how the found angle splits the sides -/
theorem quad_cross {x y : Nat} (fx : Fin x) (fy : Fin y) (x0 : 0 ≤ vl x) (y0 : 0 ≤ vl y) (bx : vl x ≤ 20) (by1 : vl y ≤ 20) :
    0 ≤ quad x y ∧ quad x y ≤ 90000000000 ∧ Wn (vl x * (cis (quad x y)).im - vl y * (cis (quad x y)).re) (22 / 1000000000000 * (vl x + vl y) + 2 / 1000000000000) := by
  have u1 : uu = 1 / 9007199254740992 := uu_eq
  obtain ⟨q0, q1, q2, q3⟩ := quad_ok x y
  refine ⟨q0, q1, ?_⟩
  have sides : ∀ m : Int, Wn (vl (fmul (sinP m) x) - vl x * (cis m).im) (3 / 10000000000000) ∧ Wn (vl (fmul (cosP m) y) - vl y * (cis m).re) (3 / 10000000000000) ∧ Fin (fmul (sinP m) x) ∧ Fin (fmul (cosP m) y) := by
    intro m
    obtain ⟨⟨fc, ec⟩, ⟨fs, es⟩⟩ := cis_near m
    have bc := (cis_bd m).re
    have bs := (cis_bd m).im
    have hbx : Wn (vl x) 20 := ⟨by grind, bx⟩
    have hby : Wn (vl y) 20 := ⟨by grind, by1⟩
    have b1 : Wn (vl (sinP m)) (1001 / 1000) := (wn_add es bs).of (by grind) (by grind)
    have b2 : Wn (vl (cosP m)) (1001 / 1000) := (wn_add ec bc).of (by grind) (by grind)
    obtain ⟨f1, e1⟩ := mulE fs fx _ (wn_mul b1 hbx) (by grind)
    obtain ⟨f2, e2⟩ := mulE fc fy _ (wn_mul b2 hby) (by grind)
    exact ⟨(wn_add e1 (wn_mul es hbx)).of (by grind) (by rw [u1]; grind), (wn_add e2 (wn_mul ec hby)).of (by grind) (by rw [u1]; grind), f1, f2⟩
  generalize quad x y = q at *
  obtain ⟨a1, a2, g1, g2⟩ := sides q
  obtain ⟨a3, a4, g3, g4⟩ := sides (q + 1)
  have st := cis_step q
  have sr := st.re
  have si := st.im
  simp at sr si
  obtain ⟨c1, c2⟩ := cis_first q0 q1
  have up : vl x * (cis q).im - vl y * (cis q).re ≤ 1 / 1000000000000 := by
    rcases q2 with h | h
    · have := (fle_vl g1 g2).1 h
      have := a1.1
      have := a2.2
      grind
    · subst h
      rw [cis_zero]
      simp
      grind
  have lo : -(22 / 1000000000000 * (vl x + vl y) + 2 / 1000000000000) ≤ vl x * (cis q).im - vl y * (cis q).re := by
    rcases q3 with h | h
    · have h2 : vl (fmul (cosP (q + 1)) y) ≤ vl (fmul (sinP (q + 1)) x) := by
        rcases Rat.le_total (a := vl (fmul (sinP (q + 1)) x)) (b := vl (fmul (cosP (q + 1)) y)) with k | k
        · rw [(fle_vl g3 g4).2 k] at h; cases h
        · exact k
      have m1 := wn_mul (wn_pos x0) si
      have m2 := wn_mul (wn_pos y0) sr
      obtain ⟨_, _⟩ := m1
      obtain ⟨_, _⟩ := m2
      obtain ⟨_, _⟩ := a3
      obtain ⟨_, _⟩ := a4
      grind
    · have e : (cis q).re ≤ 1 / 10000000000000 := by
        obtain ⟨⟨_, k1⟩, _⟩ := cis_near q
        obtain ⟨_, ⟨_, k2⟩⟩ := trig_lat (a := q) (by omega) q1
        have : cI q = 0 := by rw [h]; decide +kernel
        rw [this] at k2
        obtain ⟨_, _⟩ := k1
        obtain ⟨_, _⟩ := k2
        unfold tol at *
        grind
      have m1 := Rat.mul_le_mul_of_nonneg_left e y0
      have m2 := Rat.mul_le_mul_of_nonneg_left c2 x0
      grind
  exact ⟨lo, by grind⟩
end Go.Fp.Tri
namespace Go.Proofs.YtcppgbhjbmfldaaDoor
open Go.Fp Go.Fp.Tri
set_option maxRecDepth 20000
theorem sides_of {c s X Y R : Rat} (X0 : 0 ≤ X) (Y0 : 0 ≤ Y) (R0 : 1 / 20 ≤ R) (N : Wn (c * c + s * s - 1) (1 / 1000000000000000)) (c0 : -(1 / 10000000000000) ≤ c) (s0 : -(1 / 10000000000000) ≤ s) (hR : Wn (R * R - (X * X + Y * Y)) (1 / 10000000000000 * (R * R)))
    (hZ : Wn (X * s - Y * c) (22 / 1000000000000 * (X + Y) + 2 / 1000000000000)) : Wn (c * R - X) (8 / 100000000000 * R) ∧ Wn (s * R - Y) (8 / 100000000000 * R) := by
  have bs := sq_le N
  have bc := sq_le (c := s) (N.of (show c * c + s * s - 1 = s * s + c * c - 1 by grind) Rat.le_refl)
  have R2 : 1 / 400 ≤ R * R := by have := sq_le_sq (show (0 : Rat) ≤ 1 / 20 by grind) R0; grind
  have hXY : X + Y ≤ 3 / 2 * R := by
    refine le_of_sq (by grind) ?_
    have := rsq_nonneg (X - Y)
    obtain ⟨_, _⟩ := hR
    grind
  have hZ' : Wn (X * s - Y * c) (73 / 1000000000000 * R) := hZ.mono (by grind)
  obtain ⟨P, hP⟩ : ∃ P, P = X * c + Y * s := ⟨_, rfl⟩
  obtain ⟨Z, hZd⟩ : ∃ Z, Z = X * s - Y * c := ⟨_, rfl⟩
  rw [← hZd] at hZ'
  have hPZ : P * P + Z * Z = (X * X + Y * Y) * (c * c + s * s) := by rw [hP, hZd]; grind
  have ec : c * P = X * (c * c + s * s) - s * Z := by rw [hP, hZd]; grind
  have es : s * P = Y * (c * c + s * s) + c * Z := by rw [hP, hZd]; grind
  have P0 : -(2 / 10000000000000 * R) ≤ P := by
    have a := Rat.mul_le_mul_of_nonneg_left c0 X0
    have b := Rat.mul_le_mul_of_nonneg_left s0 Y0
    rw [hP]
    grind
  have ZZ := (wn_mul hZ' hZ').2
  have Z0 := rsq_nonneg Z
  obtain ⟨Q, hQ⟩ : ∃ Q, Q = X * X + Y * Y := ⟨_, rfl⟩
  have Q0 : 0 ≤ Q := by have := rsq_nonneg X; have := rsq_nonneg Y; grind
  rw [← hQ] at hPZ hR
  have QN := wn_mul (wn_pos Q0) N
  have e1 : Q * (c * c + s * s) = Q + Q * (c * c + s * s - 1) := by grind
  rw [e1] at hPZ
  generalize Q * (c * c + s * s - 1) = qn at *
  have PP1 : Wn (P * P - R * R) (2 / 10000000000000 * (R * R)) := by
    obtain ⟨_, _⟩ := hR
    obtain ⟨_, _⟩ := QN
    have e2 : 73 / 1000000000000 * R * (73 / 1000000000000 * R) = 5329 / 1000000000000000000000000 * (R * R) := by grind
    rw [e2] at ZZ
    generalize R * R = rr at *
    generalize P * P = pp at *
    generalize Z * Z = zz at *
    constructor <;> grind
  have Ppos : 0 ≤ P := by
    rcases Rat.le_total (a := 0) (b := P) with h | h
    · exact h
    · exfalso
      have k := sq_le_sq (show 0 ≤ -P by grind) (show -P ≤ 2 / 10000000000000 * R by grind)
      have := PP1.1
      grind
  have hPR : Wn (R - P) (1 / 1000000000000 * R) := by
    constructor
    · have := le_of_sq (a := P) (b := R + 1 / 1000000000000 * R) (by grind) (by have := PP1.2; grind)
      grind
    · have := le_of_sq (a := R - 1 / 1000000000000 * R) (b := P) Ppos (by have := PP1.1; grind)
      grind
  have k1 := wn_add (wn_mul bc hPR) (wn_sub (wn_mul (wn_pos X0) N) (wn_mul bs hZ'))
  have k2 := wn_add (wn_mul bs hPR) (wn_add (wn_mul (wn_pos Y0) N) (wn_mul bc hZ'))
  constructor
  · refine k1.of ?_ ?_
    · have : c * (R - P) = c * R - c * P := by grind
      rw [this, ec]; grind
    · grind
  · refine k2.of ?_ ?_
    · have : s * (R - P) = s * R - s * P := by grind
      rw [this, es]; grind
    · grind
/-- the angle of a point -/
theorem ang_near {x y : Nat} {R : Rat} (fx : Fp.Fin x) (fy : Fp.Fin y) (x0 : 0 < vl x) (R0 : 1 / 20 ≤ R) (R1 : R ≤ 15) (hR : Wn (R * R - (vl x * vl x + vl y * vl y)) (1 / 10000000000000 * (R * R))) :
    -90000000000 ≤ angS y x ∧ angS y x ≤ 90000000000 ∧ Wn ((cis (angS y x)).re * R - vl x) (2 / 10000000000 * R) ∧ Wn ((cis (angS y x)).im * R - vl y) (2 / 10000000000 * R) := by
  obtain ⟨gx, vx⟩ := vl_abs fx
  obtain ⟨gy, vy⟩ := vl_abs fy
  have ax : rabs (vl x) = vl x := by unfold rabs; rw [if_neg (by grind)]
  rw [ax] at vx
  have big : ∀ z : Rat, z * z ≤ R * R + 1 / 10000000000000 * (R * R) → z ≤ 20 := by
    intro z hz
    refine le_of_sq (by grind) ?_
    have := sq_le_sq (show 0 ≤ R by grind) R1
    grind
  have X2 := rsq_nonneg (vl x)
  have Y2 := rsq_nonneg (vl y)
  have bx := big (vl x) (by have := hR.1; grind)
  rcases Rat.le_total (a := 0) (b := vl y) with h | h
  · have ay : rabs (vl y) = vl y := by unfold rabs; rw [if_neg (by grind)]
    rw [ay] at vy
    obtain ⟨q0, q1, q2⟩ := quad_cross gx gy (by grind) (by grind) (by grind) (by rw [vy]; exact big (vl y) (by have := hR.1; grind))
    rw [vx, vy] at q2
    rw [angS_pp fy fx x0 h]
    generalize quad (absW x) (absW y) = q at *
    obtain ⟨c0, s0⟩ := cis_first q0 q1
    obtain ⟨r1, r2⟩ := sides_of (by grind) h R0 (cis_one q) c0 s0 hR q2
    exact ⟨by omega, q1, r1.mono (by grind), r2.mono (by grind)⟩
  · by_cases hz : vl y = 0
    · have ay : rabs (vl y) = vl y := by unfold rabs; rw [if_neg (by grind)]
      rw [ay] at vy
      obtain ⟨q0, q1, q2⟩ := quad_cross gx gy (by grind) (by grind) (by grind) (by rw [vy]; grind)
      rw [vx, vy] at q2
      rw [angS_pp fy fx x0 (by grind)]
      generalize quad (absW x) (absW y) = q at *
      obtain ⟨c0, s0⟩ := cis_first q0 q1
      obtain ⟨r1, r2⟩ := sides_of (by grind) (show 0 ≤ vl y by grind) R0 (cis_one q) c0 s0 hR q2
      exact ⟨by omega, q1, r1.mono (by grind), r2.mono (by grind)⟩
    · have ay : rabs (vl y) = -vl y := by unfold rabs; rw [if_pos (by grind)]
      rw [ay] at vy
      obtain ⟨q0, q1, q2⟩ := quad_cross gx gy (by grind) (by grind) (by grind) (by rw [vy]; exact big (-vl y) (by have := hR.1; grind))
      rw [vx, vy] at q2
      rw [angS_pn fy fx x0 (by grind)]
      generalize quad (absW x) (absW y) = q at *
      obtain ⟨c0, s0⟩ := cis_first q0 q1
      obtain ⟨r1, r2⟩ := sides_of (Y := -vl y) (by grind) (by grind) R0 (cis_one q) c0 s0 (hR.of (by grind) Rat.le_refl) q2
      have n := cis_neg q
      have nr := n.re
      have ni := n.im
      simp at nr ni
      have m1 := wn_mul nr (wn_pos (show 0 ≤ R by grind))
      have m2 := wn_mul ni (wn_pos (show 0 ≤ R by grind))
      refine ⟨by omega, by omega, (wn_add m1 r1).of (by grind) (by grind), (wn_sub m2 r2).of (by grind) (by grind)⟩
end Go.Proofs.YtcppgbhjbmfldaaDoor

/- Whose hyperbolic sine a number is: the exponential of what the program finds. -/
namespace Go.Proofs.YtcppgbhjbmfldaaDoor
open Go.Fp Go.Fp.Tri
set_option maxRecDepth 20000
/-- the root of one and a square -/
theorem root1 {x : Nat} (fx : Fp.Fin x) (bx : Wn (vl x) 20) : Fp.Fin (fsqrt (fadd (fmul x x) Fp.cOne)) ∧ 99 / 100 ≤ vl (fsqrt (fadd (fmul x x) Fp.cOne)) ∧ vl (fsqrt (fadd (fmul x x) Fp.cOne)) ≤ 21 ∧
    Wn (vl (fsqrt (fadd (fmul x x) Fp.cOne)) * vl (fsqrt (fadd (fmul x x) Fp.cOne)) - (1 + vl x * vl x)) (2 / 1000000000000000 * (1 + vl x * vl x)) := by
  have u1 : uu = 1 / 9007199254740992 := uu_eq
  have xx := rsq_nonneg (vl x)
  have bxx : Wn (vl x * vl x) (vl x * vl x) := wn_pos xx
  have hxx := (wn_mul bx bx).2
  obtain ⟨f1, e1⟩ := mulE fx fx _ bxx (by grind)
  have b1 : Wn (vl (fmul x x) + vl Fp.cOne) (vl x * vl x + 11 / 10) := by
    rw [v_one.2]
    obtain ⟨_, _⟩ := e1
    rw [u1] at *
    constructor <;> grind
  obtain ⟨f2, e2⟩ := addE f1 v_one.1 _ b1 (by grind)
  rw [v_one.2] at e2
  have q : Wn (vl (fadd (fmul x x) Fp.cOne) - (1 + vl x * vl x)) (1 / 2000000000000000 * (1 + vl x * vl x)) := (wn_add e2 e1).of (by grind) (by rw [u1]; grind)
  obtain ⟨q1, q2⟩ := q
  obtain ⟨f3, p3, w3⟩ := fsqrt_err f2 (by grind) (big_le (by grind))
  obtain ⟨w1, w2⟩ := w3
  rw [u1] at w1 w2
  refine ⟨f3, ?_, ?_, ?_⟩
  · refine le_of_sq p3 ?_
    grind
  · refine le_of_sq (by grind) ?_
    grind
  · constructor <;> grind
/-- the number whose hyperbolic sine x is -/
theorem unP_near {x : Nat} (fx : Fp.Fin x) (bx : Wn (vl x) 20) : ∃ r : Rat, Fp.Fin (unP x) ∧ Wn (vl (unP x)) 7 ∧ 99 / 100 ≤ r ∧ r ≤ 21 ∧ Wn (r * r - (1 + vl x * vl x)) (2 / 1000000000000000 * (1 + vl x * vl x)) ∧ 0 < vl x + r ∧ Rn (EX (vl (unP x))) (vl x + r) (2 / 10000000000) := by
  have u1 : uu = 1 / 9007199254740992 := uu_eq
  obtain ⟨fr, r1, r2, r3⟩ := root1 fx bx
  have xx := rsq_nonneg (vl x)
  have z0 : Fp.Fin 0 ∧ vl 0 = 0 := v_0
  have hpos : ∀ a r : Rat, 99 / 100 ≤ r → Wn (r * r - (1 + a * a)) (2 / 1000000000000000 * (1 + a * a)) → Wn a 20 → 1 / 100 ≤ a + r := by
    intro a r h1 h2 h3
    rcases Rat.le_total (a := 0) (b := a) with k | k
    · grind
    · -- r > -a
      have := le_of_sq (a := -a + 1 / 100) (b := r) (by grind) (by have h4 := (wn_mul h3 h3).2; obtain ⟨_, _⟩ := h2; obtain ⟨_, _⟩ := h3; grind)
      grind
  refine ⟨vl (fsqrt (fadd (fmul x x) Fp.cOne)), ?_⟩
  have hp := hpos (vl x) _ r1 r3 bx
  unfold unP
  by_cases hx : D.order x 0 = some .lt
  · rw [if_pos hx]
    have hxn := (order_lt fx z0.1).1 hx
    rw [z0.2] at hxn
    obtain ⟨fn, vn⟩ := vl_neg x fx
    have en : negC x = Op.negFloat .f64 x := by unfold negC; rw [fn.can]
    rw [en]
    have vsq : fmul x x = fmul x x := rfl
    rw [show Fp.can 4607182418800017408 = Fp.cOne from v_one.1.can]
    obtain ⟨f2, e2⟩ := addE fn fr 41 (by rw [vn]; obtain ⟨_, _⟩ := bx; constructor <;> grind) (by grind)
    rw [vn] at e2
    obtain ⟨q1, q2⟩ := e2
    rw [u1] at q1 q2
    obtain ⟨g1, g2, g3⟩ := ln_EX f2 (by grind) (by obtain ⟨_, _⟩ := bx; grind)
    rw [g1.can]
    obtain ⟨g4, g5⟩ := vl_neg _ g1
    have en2 : negC (lnP (fadd (Op.negFloat .f64 x) (fsqrt (fadd (fmul x x) Fp.cOne)))) = Op.negFloat .f64 (lnP (fadd (Op.negFloat .f64 x) (fsqrt (fadd (fmul x x) Fp.cOne)))) := by unfold negC; rw [g4.can]
    rw [en2, g5]
    refine ⟨g4, wn_negy g2, r1, r2, r3, by grind, ?_⟩
    have n := EX_neg g2
    have x0 := EX_pos g2
    have y0 := EX_pos (wn_negy g2)
    obtain ⟨w0, t1, t2⟩ := g3
    generalize EX (vl (lnP (fadd (Op.negFloat .f64 x) (fsqrt (fadd (fmul x x) Fp.cOne))))) = X at *
    generalize EX (-vl (lnP (fadd (Op.negFloat .f64 x) (fsqrt (fadd (fmul x x) Fp.cOne))))) = Y at *
    generalize vl (fadd (Op.negFloat .f64 x) (fsqrt (fadd (fmul x x) Fp.cOne))) = w at *
    generalize vl (fsqrt (fadd (fmul x x) Fp.cOne)) = r at *
    generalize vl x = a at *
    -- (r - a) (r + a) = 1 nearly
    obtain ⟨b1, b2⟩ := bx
    have hra : 0 < r + a := by grind
    have prod : Wn ((r - a) * (r + a) - 1) (1 / 1000000000000) := by
      have e : (r - a) * (r + a) = r * r - a * a := by grind
      rw [e]
      obtain ⟨_, _⟩ := r3
      have hq : a * a ≤ 400 := by have := (wn_mul (show Wn a 20 from ⟨b1, b2⟩) (show Wn a 20 from ⟨b1, b2⟩)).2; grind
      constructor <;> grind
    have hw : Rn w (r - a) (1 / 1000000000000) := ⟨by grind, by constructor <;> grind⟩
    have hX := (show Rn X w (1 / 10000000000) from ⟨w0, t1, t2⟩).trans hw (by grind)
    -- X (r + a) = 1 nearly, X Y = 1 nearly
    obtain ⟨_, s1, s2⟩ := hX
    obtain ⟨n1, n2⟩ := n
    obtain ⟨p1, p2⟩ := prod
    have k1 := Rat.mul_le_mul_of_nonneg_right (show X ≤ (r - a) + 11 / 100000000000 * (r - a) by grind) (Rat.le_of_lt hra)
    have k2 := Rat.mul_le_mul_of_nonneg_right (show (r - a) - 11 / 100000000000 * (r - a) ≤ X by grind) (Rat.le_of_lt hra)
    have kx1 : X * (r + a) ≤ 1 + 12 / 100000000000 := by
      have e : ((r - a) + 11 / 100000000000 * (r - a)) * (r + a) = (1 + 11 / 100000000000) * ((r - a) * (r + a)) := by grind
      rw [e] at k1
      generalize (r - a) * (r + a) = P at *
      grind
    have kx2 : 1 - 12 / 100000000000 ≤ X * (r + a) := by
      have e : ((r - a) - 11 / 100000000000 * (r - a)) * (r + a) = (1 - 11 / 100000000000) * ((r - a) * (r + a)) := by grind
      rw [e] at k2
      generalize (r - a) * (r + a) = P at *
      grind
    refine ⟨by grind, ?_⟩
    have m1 := Rat.mul_le_mul_of_nonneg_right kx1 (Rat.le_of_lt y0)
    have m2 := Rat.mul_le_mul_of_nonneg_right kx2 (Rat.le_of_lt y0)
    have m3 := Rat.mul_le_mul_of_nonneg_right (show X * Y ≤ 1 + 5 / 1000000000000 by grind) (Rat.le_of_lt hra)
    have m4 := Rat.mul_le_mul_of_nonneg_right (show 1 - 5 / 1000000000000 ≤ X * Y by grind) (Rat.le_of_lt hra)
    have e3 : X * (r + a) * Y = X * Y * (r + a) := by grind
    rw [e3] at m1 m2
    generalize X * Y * (r + a) = z at *
    constructor <;> grind
  · rw [if_neg hx]
    have hxn : 0 ≤ vl x := by
      rcases Rat.le_total (a := 0) (b := vl x) with k | k
      · exact k
      · by_cases e : vl x = 0
        · rw [e]; exact Rat.le_refl
        · exact absurd ((order_lt fx z0.1).2 (by rw [z0.2]; grind)) hx
    rw [show Fp.can 4607182418800017408 = Fp.cOne from v_one.1.can]
    obtain ⟨f2, e2⟩ := addE fx fr 41 (by obtain ⟨_, _⟩ := bx; constructor <;> grind) (by grind)
    obtain ⟨q1, q2⟩ := e2
    rw [u1] at q1 q2
    obtain ⟨g1, g2, g3⟩ := ln_EX f2 (by grind) (by obtain ⟨_, _⟩ := bx; grind)
    rw [g1.can]
    refine ⟨g1, g2, r1, r2, r3, by grind, ?_⟩
    have hw : Rn (vl (fadd x (fsqrt (fadd (fmul x x) Fp.cOne)))) (vl x + vl (fsqrt (fadd (fmul x x) Fp.cOne))) (1 / 1000000000000) := ⟨by grind, by constructor <;> grind⟩
    exact (g3.trans hw (by grind)).mono (by grind)
end Go.Proofs.YtcppgbhjbmfldaaDoor

/- The ball that lies along the meridian: where a place is on it, as floats. -/
namespace Go.Fp.Tri
open Go.Fp
set_option maxRecDepth 20000
/-! the exponential grows -/
theorem Ex_ge {x : Rat} (h : 0 ≤ x) : 1 + x ≤ Ex x := by
  have e : Ex x = 1 + x + x * x * pev PE2 x := by simp only [Ex, PE, PE2, pev]; rw [show inv 0 = 1 by decide +kernel, show inv 1 = 1 by decide +kernel]; grind
  have hp : ∀ p : List Rat, (∀ c ∈ p, 0 ≤ c) → 0 ≤ pev p x := by
    intro p
    induction p with
    | nil => intro _; simp [pev]
    | cons c p ih =>
      intro hc
      have a := hc c (List.mem_cons_self)
      have b := Rat.mul_nonneg h (ih (fun d hd => hc d (List.mem_cons_of_mem _ hd)))
      simp only [pev]
      grind
  have h2 : 0 ≤ pev PE2 x := hp PE2 (by
    intro c hc
    have : (PE2.all fun c => decide (0 ≤ c)) = true := by decide +kernel
    exact of_decide_eq_true (List.all_eq_true.1 this c hc))
  have := Rat.mul_nonneg (rsq_nonneg x) h2
  rw [e]
  grind
theorem sq4_ge {x y : Rat} (hx : 0 ≤ x) (h : 1 + x ≤ y) : 1 + 16 * x ≤ sq4 y := by
  have s : ∀ a b : Rat, 0 ≤ a → 1 + a ≤ b → 1 + 2 * a ≤ b * b := by
    intro a b h0 h1
    have := sq_le_sq (show 0 ≤ 1 + a by grind) h1
    have := rsq_nonneg a
    grind
  have a := s _ _ hx h
  have b := s _ _ (by grind) a
  have c := s _ _ (by grind) b
  have d := s _ _ (by grind) c
  unfold sq4
  grind
theorem EX_ge {y : Rat} (h : 0 ≤ y) : 1 + y ≤ EX y := by
  have := sq4_ge (x := y / 16) (by grind) (Ex_ge (x := y / 16) (by grind))
  unfold EX
  grind
theorem EX_mono {a b : Rat} (ha : Wn a 7) (hb : Wn b 7) (h : a ≤ b) (hd : b - a ≤ 7) : EX a ≤ EX b * (1 + 6 / 1000000000000) := by
  have q := EX_add ha (b := b - a) ⟨by grind, hd⟩ (by rw [show a + (b - a) = b by grind]; exact hb)
  rw [show a + (b - a) = b by grind] at q
  have g := EX_ge (y := b - a) (by grind)
  have p := EX_pos ha
  have m := Rat.mul_le_mul_of_nonneg_left (show 1 ≤ EX (b - a) by grind) (Rat.le_of_lt p)
  obtain ⟨_, _, q2⟩ := q
  generalize EX a * EX (b - a) = z at *
  grind
/-- a number whose exponential is near one is small -/
theorem EX_one {y z : Rat} (hy : Wn y 7) (h : Wn (EX y - 1) z) (hz : z ≤ 1 / 1000) : Wn y (1002 / 1000 * z + 1 / 100000000000) := by
  have z0 := h.nonneg
  obtain ⟨h1, h2⟩ := h
  rcases Rat.le_total (a := 0) (b := y) with k | k
  · have := EX_ge k
    constructor <;> grind
  · have g := EX_ge (y := -y) (by grind)
    have n := EX_neg hy
    obtain ⟨n1, n2⟩ := n
    -- EX (-y) <= (1 + 5e-12) / (1 - z)
    have m := Rat.mul_le_mul_of_nonneg_right (show 1 - z ≤ EX y by grind) (show 0 ≤ EX (-y) by grind)
    generalize EX y * EX (-y) = p at *
    generalize EX (-y) = e at *
    have zz := Rat.mul_le_mul_of_nonneg_right hz z0
    have m2 : e * (1 - z) ≤ (1 + 1002 / 1000 * z + 9 / 1000000000000) * (1 - z) := by grind
    have m3 : e ≤ 1 + 1002 / 1000 * z + 9 / 1000000000000 := by
      refine le_of_scaled (R := 1 - z) (by grind) ?_
      grind
    constructor <;> grind
theorem EX_57 : 176 / 100 ≤ EX (57 / 100) := by decide +kernel
/-- from how much it grows, how large the number is -/
theorem wn_57 {v r X : Rat} (hv : Wn v 7) (hr : Rn (EX v) (X + r) (2 / 10000000000)) (hr2 : Wn (r * r - (1 + X * X)) (2 / 1000000000000000 * (1 + X * X))) (r1 : 99 / 100 ≤ r) (hX : Wn X (5774 / 10000)) :
    Wn v (57 / 100) ∧ ∀ Km : Rat, X + r ≤ Km → r - X ≤ Km → 1 ≤ Km → Km ≤ 2 → EX (2 * v) ≤ Km * Km * (1 + 1 / 100000000) ∧ EX (-(2 * v)) ≤ Km * Km * (1 + 1 / 100000000) := by
  have XX := (wn_mul hX hX).2
  have X0 := rsq_nonneg X
  obtain ⟨q1, q2⟩ := hr2
  have r2 : r ≤ 11548 / 10000 := by
    refine le_of_sq (by grind) ?_
    grind
  obtain ⟨x1, x2⟩ := hX
  obtain ⟨w0, e1, e2⟩ := hr
  have n := EX_neg hv
  have p := EX_pos hv
  have pn := EX_pos (wn_negy hv)
  -- the inverse
  have prod : Wn ((X + r) * (r - X) - 1) (1 / 100000000000000) := by
    have e : (X + r) * (r - X) = r * r - X * X := by grind
    rw [e]
    constructor <;> grind
  have inv : Wn (EX (-v) - (r - X)) (3 / 10000000000 * (r - X)) := by
    obtain ⟨n1, n2⟩ := n
    obtain ⟨p1, p2⟩ := prod
    have d0 : 0 < r - X := by grind
    generalize EX v = a at *
    generalize EX (-v) = b at *
    have k1 := Rat.mul_le_mul_of_nonneg_right (show a ≤ (X + r) + 2 / 10000000000 * (X + r) by grind) (Rat.le_of_lt d0)
    have k2 := Rat.mul_le_mul_of_nonneg_right (show (X + r) - 2 / 10000000000 * (X + r) ≤ a by grind) (Rat.le_of_lt d0)
    have ka : a * (r - X) ≤ 1 + 21 / 100000000000 := by
      have e : ((X + r) + 2 / 10000000000 * (X + r)) * (r - X) = (1 + 2 / 10000000000) * ((X + r) * (r - X)) := by grind
      rw [e] at k1
      generalize (X + r) * (r - X) = P at *
      grind
    have kb : 1 - 21 / 100000000000 ≤ a * (r - X) := by
      have e : ((X + r) - 2 / 10000000000 * (X + r)) * (r - X) = (1 - 2 / 10000000000) * ((X + r) * (r - X)) := by grind
      rw [e] at k2
      generalize (X + r) * (r - X) = P at *
      grind
    have m1 := Rat.mul_le_mul_of_nonneg_right ka (Rat.le_of_lt pn)
    have m2 := Rat.mul_le_mul_of_nonneg_right kb (Rat.le_of_lt pn)
    have m3 := Rat.mul_le_mul_of_nonneg_right (show a * b ≤ 1 + 5 / 1000000000000 by grind) (Rat.le_of_lt d0)
    have m4 := Rat.mul_le_mul_of_nonneg_right (show 1 - 5 / 1000000000000 ≤ a * b by grind) (Rat.le_of_lt d0)
    have e3 : a * (r - X) * b = a * b * (r - X) := by grind
    rw [e3] at m1 m2
    generalize a * b * (r - X) = z at *
    constructor <;> grind
  have hv57 : Wn v (57 / 100) := by
    have c7 : Wn (57 / 100 : Rat) 7 := ⟨by grind, by grind⟩
    have g := EX_57
    constructor
    · rcases Rat.le_total (a := -(57 / 100)) (b := v) with k | k
      · exact k
      · have m := EX_mono c7 (wn_negy hv) (by grind) (by have := hv.1; grind)
        obtain ⟨_, _⟩ := inv
        grind
    · rcases Rat.le_total (a := v) (b := 57 / 100) with k | k
      · exact k
      · have m := EX_mono c7 hv (by grind) (by have := hv.2; grind)
        grind
  refine ⟨hv57, ?_⟩
  intro Km k1 k2 k3 k4
  have b2 : Wn (2 * v) 7 := by obtain ⟨_, _⟩ := hv57; constructor <;> grind
  have KK := sq_le_sq (show (0 : Rat) ≤ 1 by grind) k3
  constructor
  · have a := EX_add hv hv (by rw [show v + v = 2 * v by grind]; exact b2)
    rw [show v + v = 2 * v by grind] at a
    have s := sq_le_sq (Rat.le_of_lt p) (show EX v ≤ Km * (1 + 2 / 10000000000) by grind)
    have e : Km * (1 + 2 / 10000000000) * (Km * (1 + 2 / 10000000000)) = Km * Km * ((1 + 2 / 10000000000) * (1 + 2 / 10000000000)) := by grind
    rw [e] at s
    obtain ⟨_, a1, _⟩ := a
    generalize EX v * EX v = z at *
    generalize Km * Km = kk at *
    grind
  · have a := EX_add (wn_negy hv) (wn_negy hv) (by rw [show -v + -v = -(2 * v) by grind]; exact wn_negy b2)
    rw [show -v + -v = -(2 * v) by grind] at a
    have s := sq_le_sq (Rat.le_of_lt pn) (show EX (-v) ≤ Km * (1 + 3 / 10000000000) by obtain ⟨_, _⟩ := inv; grind)
    have e : Km * (1 + 3 / 10000000000) * (Km * (1 + 3 / 10000000000)) = Km * Km * ((1 + 3 / 10000000000) * (1 + 3 / 10000000000)) := by grind
    rw [e] at s
    obtain ⟨_, a1, _⟩ := a
    generalize EX (-v) * EX (-v) = z at *
    generalize Km * Km = kk at *
    grind
end Go.Fp.Tri
namespace Go.Proofs.YtcppgbhjbmfldaaDoor
open Go.Fp Go.Fp.Tri
set_option maxRecDepth 20000
/-- the root of two squares -/
theorem root_two {t c : Nat} (ft : Fp.Fin t) (fc : Fp.Fin c) (bt : Wn (vl t) 12) (bc : Wn (vl c) (13 / 10)) (lo : 1 / 200 ≤ vl t * vl t + vl c * vl c) : Fp.Fin (fsqrt (fadd (fmul t t) (fmul c c))) ∧ 1 / 20 ≤ vl (fsqrt (fadd (fmul t t) (fmul c c))) ∧ vl (fsqrt (fadd (fmul t t) (fmul c c))) ≤ 13 ∧
    Wn (vl (fsqrt (fadd (fmul t t) (fmul c c))) * vl (fsqrt (fadd (fmul t t) (fmul c c))) - (vl t * vl t + vl c * vl c)) (1 / 10000000000000 * (vl (fsqrt (fadd (fmul t t) (fmul c c))) * vl (fsqrt (fadd (fmul t t) (fmul c c))))) := by
  have u1 : uu = 1 / 9007199254740992 := uu_eq
  have t0 := rsq_nonneg (vl t)
  have c0 := rsq_nonneg (vl c)
  have tt := (wn_mul bt bt).2
  have cc := (wn_mul bc bc).2
  obtain ⟨f1, e1⟩ := mulE ft ft _ (wn_pos t0) (by grind)
  obtain ⟨f2, e2⟩ := mulE fc fc _ (wn_pos c0) (by grind)
  obtain ⟨a1, a2⟩ := e1
  obtain ⟨b1, b2⟩ := e2
  rw [u1] at a1 a2 b1 b2
  obtain ⟨f3, e3⟩ := addE f1 f2 (vl t * vl t + vl c * vl c + 1 / 10) (by constructor <;> grind) (by grind)
  obtain ⟨d1, d2⟩ := e3
  rw [u1] at d1 d2
  have q0 : 1 / 250 ≤ vl (fadd (fmul t t) (fmul c c)) := by grind
  obtain ⟨f4, p4, w4⟩ := fsqrt_pos f3 (by grind) (big_le (by grind))
  obtain ⟨w1, w2⟩ := w4
  rw [u1] at w1 w2
  refine ⟨f4, ?_, ?_, ?_⟩
  · refine le_of_sq p4 ?_
    grind
  · refine le_of_sq (by grind) ?_
    grind
  · constructor <;> grind
end Go.Proofs.YtcppgbhjbmfldaaDoor

/- Back from the ball that lies along the meridian: how far a little step takes one, in rational numbers. -/
namespace Go.Fp.Tri
open Go.Fp
set_option maxRecDepth 20000

/-- a place, its distances, a step: what the step makes of them -/
structure Step (τ γ σ T Q K Cc Ss Δ η p q b : Rat) : Prop where
  hT : Wn (T * T - (1 + τ * τ)) (1 / 1000000000000 * (T * T))
  T1 : 99 / 100 ≤ T
  T2 : T ≤ 11
  hg : Wn (γ * γ + σ * σ - 1) (1 / 1000000000000)
  g0 : 0 ≤ γ
  bs : Wn σ (51 / 100)
  hp : Wn Δ p
  hq : Wn η q
  hW : p + q ≤ 2 / 1000000
  b0 : 1 / 100000000000 ≤ b
  b1 : b ≤ 1 / 100000000
  hK : Wn (K - (σ + T * η)) (T * b)
  hC : Wn (Cc - (γ - τ * Δ)) (T * b)
  hS : Wn (Ss - (τ + γ * Δ)) (T * b)
  hQ : Wn (Q * Q - (K * K + Cc * Cc)) (1 / 1000000000000)
  Q0 : 0 ≤ Q
variable {τ γ σ T Q K Cc Ss Δ η p q b : Rat}
theorem Step.bt (h : Step τ γ σ T Q K Cc Ss Δ η p q b) : Wn τ T := by
  have a := h.hT.2
  have b := h.hT.1
  have t1 := h.T1
  have t2 := sq_le_sq (show (0 : Rat) ≤ 99 / 100 by grind) t1
  have t3 := sq_le_sq (show 0 ≤ T by grind) h.T2
  constructor
  · have := le_of_sq (a := -τ) (b := T) (by grind) (by grind)
    grind
  · exact le_of_sq (by grind) (by grind)
theorem Step.bg (h : Step τ γ σ T Q K Cc Ss Δ η p q b) : Wn γ (1000001 / 1000000) := by
  have a := h.hg.2
  have s := rsq_nonneg σ
  have g := h.g0
  exact ⟨by grind, le_of_sq (by grind) (by grind)⟩
theorem Step.lon (h : Step τ γ σ T Q K Cc Ss Δ η p q b) : Wn (K * γ - Cc * σ) (T * ((1000001 / 1000000) * (p + q) + 2 * b)) := by
  have bg := h.bg
  have bt := h.bt
  have T0 : 0 ≤ T := by have := h.T1; grind
  have wT := wn_pos T0
  have a1 := wn_mul (wn_mul wT h.hq) bg
  have a2 := wn_mul (wn_mul bt h.hp) h.bs
  have a3 := wn_mul h.hK bg
  have a4 := wn_mul h.hC h.bs
  have p0 := h.hp.nonneg
  have q0 := h.hq.nonneg
  have tp := Rat.mul_nonneg T0 p0
  have tq := Rat.mul_nonneg T0 q0
  have tb := Rat.mul_nonneg T0 (show 0 ≤ b by have := h.b0; grind)
  refine (wn_add (wn_add a1 a2) (wn_sub a3 a4)).of (by grind) ?_
  grind
theorem Step.size (h : Step τ γ σ T Q K Cc Ss Δ η p q b) : Wn (Q - 1) (1 / 10000) ∧ Wn (Q - 1 - (σ * (T * η) - γ * (τ * Δ))) (T * (1 / 1000 * (p + q) + 2 * b)) := by
  have bg := h.bg
  have bt := h.bt
  have T0 : 0 ≤ T := by have := h.T1; grind
  have T1 := h.T1
  have T2 := h.T2
  have wT := wn_pos T0
  have p0 := h.hp.nonneg
  have q0 := h.hq.nonneg
  have hW := h.hW
  have b0 := h.b0
  have b1 := h.b1
  have tp := Rat.mul_nonneg T0 p0
  have tq := Rat.mul_nonneg T0 q0
  have tb := Rat.mul_nonneg T0 (show 0 ≤ b by grind)
  have tb1 := Rat.mul_le_mul_of_nonneg_right T1 (show 0 ≤ b by grind)
  have mp := Rat.mul_le_mul_of_nonneg_right T2 p0
  have mq := Rat.mul_le_mul_of_nonneg_right T2 q0
  have mb := Rat.mul_le_mul_of_nonneg_right T2 (show 0 ≤ b by grind)
  have u1 := wn_mul wT h.hq
  have u2 := wn_mul bt h.hp
  obtain ⟨eK, heK⟩ : ∃ e, e = K - (σ + T * η) := ⟨_, rfl⟩
  obtain ⟨eC, heC⟩ : ∃ e, e = Cc - (γ - τ * Δ) := ⟨_, rfl⟩
  have hK := h.hK
  have hC := h.hC
  rw [← heK] at hK
  rw [← heC] at hC
  have eqK : K = σ + T * η + eK := by rw [heK]; grind
  have eqC : Cc = γ - τ * Δ + eC := by rw [heC]; grind
  clear heK heC
  have hQ := h.hQ
  rw [eqK, eqC] at hQ
  generalize T * η = a at *
  generalize τ * Δ = d at *
  -- small squares
  have aa := (wn_mul u1 u1)
  have dd := (wn_mul u2 u2)
  have kk := wn_mul hK (wn_add h.bs u1)
  have cc := wn_mul hC (wn_sub bg u2)
  have kk2 := wn_mul hK hK
  have cc2 := wn_mul hC hC
  have s1 : T * q * (T * q) ≤ 25 / 1000000 * (T * q) := Rat.mul_le_mul_of_nonneg_right (by grind) tq
  have s2 : T * p * (T * p) ≤ 25 / 1000000 * (T * p) := Rat.mul_le_mul_of_nonneg_right (by grind) tp
  have s3 : T * b * (T * b) ≤ 1 / 1000000 * (T * b) := Rat.mul_le_mul_of_nonneg_right (by grind) tb
  have s4 : T * b * (51 / 100 + T * q) ≤ 52 / 100 * (T * b) := by
    have := Rat.mul_le_mul_of_nonneg_left (show 51 / 100 + T * q ≤ 52 / 100 by grind) tb
    grind
  have s5 : T * b * (1000001 / 1000000 + T * p) ≤ 101 / 100 * (T * b) := by
    have := Rat.mul_le_mul_of_nonneg_left (show 1000001 / 1000000 + T * p ≤ 101 / 100 by grind) tb
    grind
  have hg := h.hg
  have f1 := wn_mul h.bs u1
  have f2 := wn_mul bg u2
  have key : Wn (Q * Q - 1 - 2 * (σ * a - γ * d)) (26 / 1000000 * (T * q) + 26 / 1000000 * (T * p) + 31 / 10 * (T * b) + 3 / 1000000000000) := by
    have t := wn_add (wn_add hQ hg) (wn_add (wn_add aa dd) (wn_add (wn_add (wn_add kk kk) (wn_add cc cc)) (wn_add kk2 cc2)))
    refine t.of (by grind) (by grind)
  have big : Wn (Q * Q - 1) (1 / 10000) := by
    obtain ⟨_, _⟩ := key
    obtain ⟨_, _⟩ := f1
    obtain ⟨_, _⟩ := f2
    constructor <;> grind
  have Q0 := h.Q0
  have Qb : Wn (Q - 1) (1 / 10000) := by
    constructor
    · have := le_of_sq (a := 1 - 1 / 10000) (b := Q) Q0 (by have := big.1; grind)
      grind
    · have := le_of_sq (a := Q) (b := 1 + 1 / 10000) (by grind) (by have := big.2; grind)
      grind
  refine ⟨Qb, ?_⟩
  -- (Q - 1)^2 is small beside Q - 1
  have Qs : Wn (Q - 1) (11 / 10 * (T * q) + 21 / 10 * (T * p) + 32 / 10 * (T * b) + 3 / 1000000000000) := by
    obtain ⟨k1, k2⟩ := key
    obtain ⟨_, _⟩ := f1
    obtain ⟨_, _⟩ := f2
    have e : Q * Q - 1 = (Q - 1) * (Q + 1) := by grind
    rw [e] at k1 k2
    have Qp : 0 < Q + 1 := by grind
    have B0 : 0 ≤ 11 / 10 * (T * q) + 21 / 10 * (T * p) + 32 / 10 * (T * b) + 3 / 1000000000000 := by grind
    have m := Rat.mul_le_mul_of_nonneg_left (show 1 ≤ Q + 1 by grind) B0
    constructor
    · refine le_of_scaled Qp ?_
      have e1 : (Q + 1) * (Q - 1) = (Q - 1) * (Q + 1) := by grind
      rw [e1]
      have e2 : (Q + 1) * -(11 / 10 * (T * q) + 21 / 10 * (T * p) + 32 / 10 * (T * b) + 3 / 1000000000000) = -((11 / 10 * (T * q) + 21 / 10 * (T * p) + 32 / 10 * (T * b) + 3 / 1000000000000) * (Q + 1)) := by grind
      rw [e2]
      grind
    · refine le_of_scaled Qp ?_
      have e1 : (Q + 1) * (Q - 1) = (Q - 1) * (Q + 1) := by grind
      rw [e1]
      have e2 : (Q + 1) * (11 / 10 * (T * q) + 21 / 10 * (T * p) + 32 / 10 * (T * b) + 3 / 1000000000000) = (11 / 10 * (T * q) + 21 / 10 * (T * p) + 32 / 10 * (T * b) + 3 / 1000000000000) * (Q + 1) := by grind
      rw [e2]
      grind
  have sq := wn_mul Qs Qb
  have t := wn_sub key sq
  have e : Q * Q - 1 - 2 * (σ * a - γ * d) - (Q - 1) * (Q - 1) = 2 * (Q - 1 - (σ * a - γ * d)) := by grind
  rw [e] at t
  obtain ⟨t1, t2⟩ := t
  have e3 : T * (1 / 1000 * (p + q) + 2 * b) = 1 / 1000 * (T * p) + 1 / 1000 * (T * q) + 2 * (T * b) := by grind
  rw [e3]
  constructor <;> grind
theorem Step.lat (h : Step τ γ σ T Q K Cc Ss Δ η p q b) : Wn (Ss - τ * Q) (T * (T * (101 / 100 * (p + q) + 4 * b))) := by
  obtain ⟨_, hs⟩ := h.size
  have bg := h.bg
  have bt := h.bt
  have T0 : 0 ≤ T := by have := h.T1; grind
  have T1 := h.T1
  have wT := wn_pos T0
  have p0 := h.hp.nonneg
  have q0 := h.hq.nonneg
  have b0 := h.b0
  have TT := Rat.mul_nonneg T0 T0
  -- 1 + t^2 is T^2, but for a little
  have bτ : Wn (1 + τ * τ) (T * T * (1000001 / 1000000)) := by
    have a := h.hT.2
    have b := h.hT.1
    have := rsq_nonneg τ
    constructor <;> grind
  have a1 := wn_mul (wn_mul bg h.hp) bτ
  have a2 := wn_mul (wn_mul bt h.bs) (wn_mul wT h.hq)
  have a3 := wn_mul bt hs
  have t := wn_add (wn_sub a1 a2) (wn_sub h.hS a3)
  refine t.of ?_ ?_
  · grind
  · have tp := Rat.mul_nonneg TT p0
    have tq := Rat.mul_nonneg TT q0
    have tb := Rat.mul_nonneg TT (show 0 ≤ b by grind)
    have t1 := Rat.mul_le_mul_of_nonneg_right T1 (Rat.mul_nonneg T0 (show 0 ≤ b by grind))
    grind
end Go.Fp.Tri
