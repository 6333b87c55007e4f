/- The tests of two steps on paper, as floats. -/
import Derived.Test.YtcppgbhjbmfldaaDoorYX
namespace Go.Proofs.YtcppgbhjbmfldaaDoor
open Go.Fp Go.Fp.Tri
set_option maxRecDepth 20000
abbrev c002 : Nat := 4566758108544739836
abbrev c001 : Nat := 4562254508917369340
theorem v_002 : Fp.Fin c002 ∧ vl c002 = 4611686018427388 / 2305843009213693952 := vl_const (s := false) (m := 4611686018427388) (k := 61) (by decide +kernel) (by decide +kernel)
theorem v_001 : Fp.Fin c001 ∧ vl c001 = 4611686018427388 / 4611686018427387904 := vl_const (s := false) (m := 4611686018427388) (k := 62) (by decide +kernel) (by decide +kernel)
/-- all that the walk is told of the tests -/
structure Tests (X0 Y0 X1 Y1 X2 Y2 nx ny rx ry lg r3 sn cn len P : Nat) : Prop where
  f0 : Fp.Fin X0 ∧ Fp.Fin Y0 ∧ Fp.Fin X1 ∧ Fp.Fin Y1 ∧ Fp.Fin X2 ∧ Fp.Fin Y2 ∧ Fp.Fin sn ∧ Fp.Fin cn ∧ Fp.Fin P
  f1 : Fp.Fin nx ∧ Fp.Fin ny ∧ Fp.Fin rx ∧ Fp.Fin ry
  f2 : Fp.Fin (fmul nx nx) ∧ Fp.Fin (fmul ny ny) ∧ Fp.Fin lg ∧ Fp.Fin (fmul rx rx) ∧ Fp.Fin (fmul ry ry) ∧ Fp.Fin r3
  f3 : Fp.Fin (fsub r3 lg) ∧ Fp.Fin (fmul c002 lg) ∧ rabs (vl (fsub r3 lg)) ≤ vl (fmul c002 lg)
  f4 : Fp.Fin (fmul nx rx) ∧ Fp.Fin (fmul ny ry) ∧ Fp.Fin (fadd (fmul nx rx) (fmul ny ry)) ∧ Fp.Fin (fmul c001 lg) ∧ rabs (vl (fadd (fmul nx rx) (fmul ny ry))) ≤ vl (fmul c001 lg)
  f5 : Fp.Fin (fmul rx ny) ∧ Fp.Fin (fmul ry nx) ∧ Fp.Fin (fsub (fmul rx ny) (fmul ry nx)) ∧ 0 < vl (fsub (fmul rx ny) (fmul ry nx))
  f6 : Fp.Fin len ∧ Fp.Fin (fmul c001 len)
  f7 : Fp.Fin (fmul nx cn) ∧ Fp.Fin (fmul ny sn) ∧ Fp.Fin (fadd (fmul nx cn) (fmul ny sn)) ∧ rabs (vl (fadd (fmul nx cn) (fmul ny sn))) ≤ vl (fmul c001 len)
  f8 : Fp.Fin (fmul ny cn) ∧ Fp.Fin (fmul nx sn) ∧ Fp.Fin (fsub (fmul ny cn) (fmul nx sn)) ∧ 0 < vl (fsub (fmul ny cn) (fmul nx sn))
  f9 : Fp.Fin (fsub len P) ∧ rabs (vl (fsub len P)) ≤ vl (fmul c001 len)
theorem rabs_le {x e : Rat} (h : Wn x e) : rabs x ≤ e := by
  unfold rabs
  obtain ⟨_, _⟩ := h
  split <;> grind
theorem sub_small {x y : Nat} {D : Rat} (fx : Fp.Fin x) (fy : Fp.Fin y) (h : Wn (vl x - vl y) D) (hD : D ≤ 250000) : Fp.Fin (fsub x y) ∧ Wn (vl (fsub x y) - (vl x - vl y)) (3 / 100000000000) := by
  have u1 : uu = 1 / 9007199254740992 := uu_eq
  obtain ⟨f, e⟩ := subE fx fy D h (by grind)
  exact ⟨f, e.mono (by rw [u1]; grind)⟩
theorem mul_LL {x y : Nat} {A L : Rat} (fx : Fp.Fin x) (fy : Fp.Fin y) (bx : Wn (vl x) (11 / 10 * L)) (by1 : Wn (vl y) (11 / 10 * L)) (L0 : 17 / 10 ≤ L) (L1 : L ≤ 200000) (hA : A = L * L) : Fp.Fin (fmul x y) ∧ Wn (vl (fmul x y) - vl x * vl y) (1 / 1000000000000000 * A) ∧ Wn (vl x * vl y) (121 / 100 * A) := by
  have u1 : uu = 1 / 9007199254740992 := uu_eq
  have m := (wn_mul bx by1).mono (show _ ≤ 121 / 100 * A by rw [hA]; grind)
  have A1 : A ≤ 40000000000 := by rw [hA]; have := mul_mono (show 0 ≤ L by grind) L1 (show 0 ≤ L by grind) L1; grind
  have A0 : 289 / 100 ≤ A := by rw [hA]; have := mul_mono (show (0 : Rat) ≤ 17 / 10 by grind) L0 (show (0 : Rat) ≤ 17 / 10 by grind) L0; grind
  obtain ⟨f, e⟩ := mulE fx fy _ m (by grind)
  exact ⟨f, e.mono (by rw [u1]; grind), m⟩
theorem len_near {len N A L lsv : Rat} (s2 : 0 ≤ len) (s3 : Wn (len * len - lsv) (8 * (1 / 9007199254740992) * lsv)) (hsum : Wn (lsv - N) (1 / 100000000000000 * A)) (t1 : 99875 / 100000 * A ≤ N) (t2 : N ≤ 100125 / 100000 * A) (hA : A = L * L) (L0 : 17 / 10 ≤ L) : 99937 / 100000 * L ≤ len ∧ len ≤ 100063 / 100000 * L := by
  have A0 : 289 / 100 ≤ A := by rw [hA]; have := mul_mono (show (0 : Rat) ≤ 17 / 10 by grind) L0 (show (0 : Rat) ≤ 17 / 10 by grind) L0; grind
  obtain ⟨a1, a2⟩ := s3
  obtain ⟨b1, b2⟩ := hsum
  constructor
  · refine le_of_sq s2 ?_
    have e : 99937 / 100000 * L * (99937 / 100000 * L) = A * (99937 / 100000 * (99937 / 100000)) := by rw [hA]; grind
    rw [e]
    clear hA e
    grind
  · refine le_of_sq (by grind) ?_
    have e : 100063 / 100000 * L * (100063 / 100000 * L) = A * (100063 / 100000 * (100063 / 100000)) := by rw [hA]; grind
    rw [e]
    clear hA e
    grind
set_option maxHeartbeats 4000000 in
theorem tests_float {X0 Y0 X1 Y1 X2 Y2 sn cn P : Nat} {q : Cx} {L : Rat} (hf : Fp.Fin X0 ∧ Fp.Fin Y0 ∧ Fp.Fin X1 ∧ Fp.Fin Y1 ∧ Fp.Fin X2 ∧ Fp.Fin Y2 ∧ Fp.Fin sn ∧ Fp.Fin cn ∧ Fp.Fin P) (L0 : 17 / 10 ≤ L) (L1 : L ≤ 200000)
    (q1 : L * L * (1 - 1 / 1000000) ≤ q.re * q.re + q.im * q.im) (q2 : q.re * q.re + q.im * q.im ≤ L * L * (1 + 1 / 1000000))
    (hN : MB ((⟨-(vl X1 - vl X0), vl Y1 - vl Y0⟩ : Cx).sub q) (6195 / 10000000 * L)) (hE : MB ((⟨-(vl X2 - vl X0), vl Y2 - vl Y0⟩ : Cx).sub ⟨-q.im, q.re⟩) (3295 / 10000000 * L))
    (hs : Wn (q.re - L * vl sn) (1 / 1000000 * L)) (hc : Wn (q.im - L * vl cn) (1 / 1000000 * L)) (bs : Wn (vl sn) (100001 / 100000)) (bc : Wn (vl cn) (100001 / 100000)) (hP : Rn (vl P) L (1 / 1000000000)) :
    Tests X0 Y0 X1 Y1 X2 Y2 (fsub X1 X0) (fsub Y1 Y0) (fsub X2 X0) (fsub Y2 Y0) (fadd (fmul (fsub X1 X0) (fsub X1 X0)) (fmul (fsub Y1 Y0) (fsub Y1 Y0))) (fadd (fmul (fsub X2 X0) (fsub X2 X0)) (fmul (fsub Y2 Y0) (fsub Y2 Y0))) sn cn (lenP (fsub X1 X0) (fsub Y1 Y0) 0) P := by
  have u1 : uu = 1 / 9007199254740992 := uu_eq
  obtain ⟨g1, g2, g3, g4, g5, g6, g7, g8, g9⟩ := hf
  have Lp : 0 < L := by grind
  have LLp := Rat.mul_pos Lp Lp
  have mq : MB q (L * (1 + 1 / 1000000)) := ⟨by grind, by grind⟩
  have uN := ((hN.add mq).cast (w := (⟨-(vl X1 - vl X0), vl Y1 - vl Y0⟩ : Cx)) (Cx.ext' (by simp; grind) (by simp; grind))).mono (show _ ≤ 1001 / 1000 * L by grind)
  have uE := ((hE.add mq.quarter).cast (w := (⟨-(vl X2 - vl X0), vl Y2 - vl Y0⟩ : Cx)) (Cx.ext' (by simp; grind) (by simp; grind))).mono (show _ ≤ 1001 / 1000 * L by grind)
  have x1 := (wn_negy uN.re).of (show _ = vl X1 - vl X0 by grind) Rat.le_refl
  have x2 := uN.im
  have x3 := (wn_negy uE.re).of (show _ = vl X2 - vl X0 by grind) Rat.le_refl
  have x4 := uE.im
  simp only at x2 x4
  obtain ⟨n1, d1⟩ := sub_small g3 g1 x1 (by grind)
  obtain ⟨n2, d2⟩ := sub_small g4 g2 x2 (by grind)
  obtain ⟨n3, d3⟩ := sub_small g5 g1 x3 (by grind)
  obtain ⟨n4, d4⟩ := sub_small g6 g2 x4 (by grind)
  obtain ⟨A, hA⟩ : ∃ A, A = L * L := ⟨_, rfl⟩
  have A0 : 289 / 100 ≤ A := by rw [hA]; have := mul_mono (show (0 : Rat) ≤ 17 / 10 by grind) L0 (show (0 : Rat) ≤ 17 / 10 by grind) L0; grind
  have A1 : A ≤ 40000000000 := by rw [hA]; have := mul_mono (show 0 ≤ L by grind) L1 (show 0 ≤ L by grind) L1; grind
  -- the two steps, as floats have them
  have pl : Pl ⟨-vl (fsub X1 X0), vl (fsub Y1 Y0)⟩ ⟨-vl (fsub X2 X0), vl (fsub Y2 Y0)⟩ q L := by
    have a := MB.of (z := (⟨-(vl (fsub X1 X0) - (vl X1 - vl X0)), vl (fsub Y1 Y0) - (vl Y1 - vl Y0)⟩ : Cx)) (r := 6 / 100000000000) (wn_negy d1) d2 (by grind) (by grind)
    have b := MB.of (z := (⟨-(vl (fsub X2 X0) - (vl X2 - vl X0)), vl (fsub Y2 Y0) - (vl Y2 - vl Y0)⟩ : Cx)) (r := 6 / 100000000000) (wn_negy d3) d4 (by grind) (by grind)
    refine ⟨Lp, q1, q2, ?_, ?_⟩
    · refine ((a.add hN).cast ?_).mono (by grind)
      exact Cx.ext' (by simp; grind) (by simp; grind)
    · refine ((b.add hE).cast ?_).mono (by grind)
      exact Cx.ext' (by simp; grind) (by simp; grind)
  obtain ⟨t1, t2, t3, t4, t5, t6⟩ := pl.tests
  obtain ⟨t7, t8⟩ := pl.turned (hs.mono (by grind)) (hc.mono (by grind)) bs bc
  simp only at t1 t2 t3 t4 t5 t6 t7 t8
  rw [← hA] at t1 t2 t3 t6
  have bx1 : Wn (vl (fsub X1 X0)) (11 / 10 * L) := (wn_add d1 x1).of (by grind) (by grind)
  have bx2 : Wn (vl (fsub Y1 Y0)) (11 / 10 * L) := (wn_add d2 x2).of (by grind) (by grind)
  have bx3 : Wn (vl (fsub X2 X0)) (11 / 10 * L) := (wn_add d3 x3).of (by grind) (by grind)
  have bx4 : Wn (vl (fsub Y2 Y0)) (11 / 10 * L) := (wn_add d4 x4).of (by grind) (by grind)
  clear d1 d2 d3 d4 x1 x2 x3 x4 uN uE hN hE pl
  generalize fsub X1 X0 = nx at *
  generalize fsub Y1 Y0 = ny at *
  generalize fsub X2 X0 = rx at *
  generalize fsub Y2 Y0 = ry at *
  obtain ⟨a1, b1, c1⟩ := mul_LL n1 n1 bx1 bx1 L0 L1 hA
  obtain ⟨a2, b2, c2⟩ := mul_LL n2 n2 bx2 bx2 L0 L1 hA
  obtain ⟨a3, b3, c3⟩ := mul_LL n3 n3 bx3 bx3 L0 L1 hA
  obtain ⟨a4, b4, c4⟩ := mul_LL n4 n4 bx4 bx4 L0 L1 hA
  obtain ⟨a5, b5, c5⟩ := mul_LL n1 n3 bx1 bx3 L0 L1 hA
  obtain ⟨a6, b6, c6⟩ := mul_LL n2 n4 bx2 bx4 L0 L1 hA
  obtain ⟨a7, b7, c7⟩ := mul_LL n3 n2 bx3 bx2 L0 L1 hA
  obtain ⟨a8, b8, c8⟩ := mul_LL n4 n1 bx4 bx1 L0 L1 hA
  have sum : ∀ x y : Nat, ∀ X Y : Rat, Fp.Fin x → Fp.Fin y → Wn (vl x - X) (1 / 1000000000000000 * A) → Wn (vl y - Y) (1 / 1000000000000000 * A) → Wn X (121 / 100 * A) → Wn Y (121 / 100 * A) → (Fp.Fin (fadd x y) ∧ Wn (vl (fadd x y) - (X + Y)) (3 / 1000000000000000 * A)) ∧ (Fp.Fin (fsub x y) ∧ Wn (vl (fsub x y) - (X - Y)) (3 / 1000000000000000 * A)) := by
    intro x y X Y fx fy hx hy bX bY
    have s1 : Wn (vl x + vl y) (25 / 10 * A) := (wn_add (wn_add hx bX) (wn_add hy bY)).of (by grind) (by grind)
    have s2 : Wn (vl x - vl y) (25 / 10 * A) := (wn_sub (wn_add hx bX) (wn_add hy bY)).of (by grind) (by grind)
    obtain ⟨f1, e1⟩ := addE fx fy _ s1 (by grind)
    obtain ⟨f2, e2⟩ := subE fx fy _ s2 (by grind)
    rw [u1] at e1 e2
    exact ⟨⟨f1, (wn_add e1 (wn_add hx hy)).of (by grind) (by grind)⟩, ⟨f2, (wn_add e2 (wn_sub hx hy)).of (by grind) (by grind)⟩⟩
  obtain ⟨⟨p1, e1⟩, _⟩ := sum _ _ _ _ a1 a2 b1 b2 c1 c2
  obtain ⟨⟨p2, e2⟩, _⟩ := sum _ _ _ _ a3 a4 b3 b4 c3 c4
  obtain ⟨⟨p3, e3⟩, _⟩ := sum _ _ _ _ a5 a6 b5 b6 c5 c6
  obtain ⟨_, ⟨p4, e4⟩⟩ := sum _ _ _ _ a7 a8 b7 b8 c7 c8
  obtain ⟨N, hN⟩ : ∃ N, N = vl nx * vl nx + vl ny * vl ny := ⟨_, rfl⟩
  obtain ⟨M, hM⟩ : ∃ M, M = vl rx * vl rx + vl ry * vl ry := ⟨_, rfl⟩
  have eN : -vl nx * -vl nx + vl ny * vl ny = N := by rw [hN]; grind
  have eM : -vl rx * -vl rx + vl ry * vl ry = M := by rw [hM]; grind
  rw [eN] at t1 t2 t4 t5
  rw [eM] at t3 t4
  rw [← hN] at e1
  rw [← hM] at e2
  -- the long one
  have bl : Wn (vl (fadd (fmul nx nx) (fmul ny ny))) (101 / 100 * A) := by obtain ⟨_, _⟩ := e1; constructor <;> grind
  have br : Wn (vl (fadd (fmul rx rx) (fmul ry ry))) (101 / 100 * A) := by
    have M0 : 0 ≤ M := by rw [hM]; have := rsq_nonneg (vl rx); have := rsq_nonneg (vl ry); grind
    obtain ⟨_, _⟩ := e2; constructor <;> grind
  obtain ⟨p5, e5⟩ := subE p2 p1 (203 / 100 * A) ((wn_sub br bl).mono (by grind)) (by grind)
  obtain ⟨p6, e6⟩ := mulE v_002.1 p1 (1 / 100 * A) ((wn_mul (show Wn (vl c002) (21 / 10000) from by rw [v_002.2]; constructor <;> grind) bl).mono (by grind)) (by grind)
  obtain ⟨p7, e7⟩ := mulE v_001.1 p1 (1 / 100 * A) ((wn_mul (show Wn (vl c001) (11 / 10000) from by rw [v_001.2]; constructor <;> grind) bl).mono (by grind)) (by grind)
  rw [v_002.2] at e6
  rw [v_001.2] at e7
  rw [u1] at e5 e6 e7
  have N1 : 99 / 100 * A ≤ N := by grind
  have lgN : Wn (vl (fadd (fmul nx nx) (fmul ny ny)) - N) (4 / 1000000000000000 * N) := e1.mono (by grind)
  have w1 : rabs (vl (fsub (fadd (fmul rx rx) (fmul ry ry)) (fadd (fmul nx nx) (fmul ny ny)))) ≤ vl (fmul c002 (fadd (fmul nx nx) (fmul ny ny))) := by
    refine rabs_le ?_
    generalize fadd (fmul nx nx) (fmul ny ny) = lg at *
    generalize fadd (fmul rx rx) (fmul ry ry) = r3 at *
    obtain ⟨_, _⟩ := e5
    obtain ⟨_, _⟩ := e6
    obtain ⟨_, _⟩ := e1
    obtain ⟨_, _⟩ := e2
    obtain ⟨_, _⟩ := t4
    constructor <;> grind
  have w2 : rabs (vl (fadd (fmul nx rx) (fmul ny ry))) ≤ vl (fmul c001 (fadd (fmul nx nx) (fmul ny ny))) := by
    refine rabs_le ?_
    have eD : -vl nx * -vl rx + vl ny * vl ry = vl nx * vl rx + vl ny * vl ry := by grind
    rw [eD] at t5
    generalize fadd (fmul nx nx) (fmul ny ny) = lg at *
    generalize vl nx * vl rx + vl ny * vl ry = D at *
    obtain ⟨_, _⟩ := e7
    obtain ⟨_, _⟩ := e1
    obtain ⟨_, _⟩ := e3
    obtain ⟨_, _⟩ := t5
    constructor <;> grind
  have w3 : 0 < vl (fsub (fmul rx ny) (fmul ry nx)) := by
    obtain ⟨_, _⟩ := e4
    grind
  -- the length
  have z00 : Fp.Fin 0 ∧ vl 0 = 0 := v_0
  obtain ⟨z1, z2⟩ := mulE z00.1 z00.1 0 (by rw [z00.2]; constructor <;> grind) (by grind)
  rw [z00.2] at z2
  obtain ⟨y1, y2⟩ := addE p1 z1 (102 / 100 * A) (by obtain ⟨_, _⟩ := z2; rw [u1] at *; obtain ⟨_, _⟩ := bl; constructor <;> grind) (by grind)
  rw [u1] at z2 y2
  have hsum : Wn (vl (fadd (fadd (fmul nx nx) (fmul ny ny)) (fmul 0 0)) - N) (1 / 100000000000000 * A) := (wn_add y2 (wn_add e1 z2)).of (by grind) (by grind)
  obtain ⟨s1, s2, s3⟩ := fsqrt_err y1 (by obtain ⟨_, _⟩ := hsum; grind) (big_le (by obtain ⟨_, _⟩ := hsum; grind))
  rw [u1] at s3
  change Fp.Fin (lenP nx ny 0) at s1
  change 0 ≤ vl (lenP nx ny 0) at s2
  change Wn (vl (lenP nx ny 0) * vl (lenP nx ny 0) - _) _ at s3
  generalize fadd (fadd (fmul nx nx) (fmul ny ny)) (fmul 0 0) = ls at *
  generalize lenP nx ny 0 = len at *
  obtain ⟨le1, le2⟩ := len_near s2 s3 hsum t1 t2 hA L0
  obtain ⟨v1, v2⟩ := mulE v_001.1 s1 (1 / 100 * L) ((wn_mul (show Wn (vl c001) (11 / 10000) from by rw [v_001.2]; constructor <;> grind) (show Wn (vl len) (101 / 100 * L) from ⟨by grind, by grind⟩)).mono (by grind)) (by grind)
  rw [v_001.2, u1] at v2
  have small : ∀ x y : Nat, Fp.Fin x → Fp.Fin y → Wn (vl x) (11 / 10 * L) → Wn (vl y) (100001 / 100000) → Fp.Fin (fmul x y) ∧ Wn (vl (fmul x y) - vl x * vl y) (1 / 1000000000000000 * L) ∧ Wn (vl x * vl y) (111 / 100 * L) := by
    intro x y fx fy hx hy
    have m := (wn_mul hx hy).mono (show _ ≤ 111 / 100 * L by grind)
    obtain ⟨f, e⟩ := mulE fx fy _ m (by grind)
    exact ⟨f, e.mono (by rw [u1]; grind), m⟩
  obtain ⟨i1, j1, k1⟩ := small _ _ n1 g8 bx1 bc
  obtain ⟨i2, j2, k2⟩ := small _ _ n2 g7 bx2 bs
  obtain ⟨i3, j3, k3⟩ := small _ _ n2 g8 bx2 bc
  obtain ⟨i4, j4, k4⟩ := small _ _ n1 g7 bx1 bs
  obtain ⟨i5, j5⟩ := addE i1 i2 (23 / 10 * L) ((wn_add (wn_add j1 k1) (wn_add j2 k2)).of (by grind) (by grind)) (by grind)
  obtain ⟨i6, j6⟩ := subE i3 i4 (23 / 10 * L) ((wn_sub (wn_add j3 k3) (wn_add j4 k4)).of (by grind) (by grind)) (by grind)
  have hP1 := hP.2
  obtain ⟨i7, j7⟩ := subE s1 g9 (23 / 10 * L) (by obtain ⟨_, _⟩ := hP1; constructor <;> grind) (by grind)
  rw [u1] at j5 j6 j7
  refine ⟨⟨g1, g2, g3, g4, g5, g6, g7, g8, g9⟩, ⟨n1, n2, n3, n4⟩, ⟨a1, a2, p1, a3, a4, p2⟩, ⟨p5, p6, w1⟩, ⟨a5, a6, p3, p7, w2⟩, ⟨a7, a8, p4, w3⟩, ⟨s1, v1⟩, ⟨i1, i2, i5, ?_⟩, ⟨i3, i4, i6, ?_⟩, ⟨i7, ?_⟩⟩
  · refine rabs_le ?_
    obtain ⟨_, _⟩ := j5
    obtain ⟨_, _⟩ := j1
    obtain ⟨_, _⟩ := j2
    obtain ⟨_, _⟩ := v2
    obtain ⟨_, _⟩ := t7
    constructor <;> grind
  · obtain ⟨_, _⟩ := j6
    obtain ⟨_, _⟩ := j3
    obtain ⟨_, _⟩ := j4
    grind
  · refine rabs_le ?_
    obtain ⟨_, _⟩ := j7
    obtain ⟨_, _⟩ := hP1
    obtain ⟨_, _⟩ := v2
    constructor <;> grind
end Go.Proofs.YtcppgbhjbmfldaaDoor

/- All that the walk of the statement WaveAngles is to be told, in plain words. -/
namespace Go.Fp.Tri
open Go.Fp
set_option maxRecDepth 20000
/-- the plane's direction, by the angle that things are turned by -/
theorem plane_dir {T τ γ σ R g κ h z : Rat} (f : Fr T τ γ σ R g κ h) {Z W X : Cx} {Rs st ct : Rat} (R0 : 10000 ≤ Rs) (z0 : 99 / 100 ≤ z) (z1 : z ≤ 101 / 100) (mz : MB Z (z * (1 + 1 / 1000000000))) (hX : Wn (z * z - (X.re * X.re + X.im * X.im)) (1 / 10000000000000 * (z * z))) (ne : MB (X.sub Z) (1 / 10000000000))
    (ht : MB ((Cx.sc (R * z) W).sub ((⟨T * γ, τ * σ⟩ : Cx).mul ⟨Z.re, -Z.im⟩)) (1 / 100000000 * (R * z))) (hs : Wn (st - W.im) (1 / 10000000000000)) (hc : Wn (ct - W.re) (1 / 10000000000000)) :
    (Rs * (h / R) * z * (Rs * (h / R) * z) * (1 - 1 / 1000000) ≤ (Cx.sc Rs ((Cx.sc (h / (R * R)) ⟨τ * σ, T * γ⟩).mul Z)).re * (Cx.sc Rs ((Cx.sc (h / (R * R)) ⟨τ * σ, T * γ⟩).mul Z)).re + (Cx.sc Rs ((Cx.sc (h / (R * R)) ⟨τ * σ, T * γ⟩).mul Z)).im * (Cx.sc Rs ((Cx.sc (h / (R * R)) ⟨τ * σ, T * γ⟩).mul Z)).im) ∧
    ((Cx.sc Rs ((Cx.sc (h / (R * R)) ⟨τ * σ, T * γ⟩).mul Z)).re * (Cx.sc Rs ((Cx.sc (h / (R * R)) ⟨τ * σ, T * γ⟩).mul Z)).re + (Cx.sc Rs ((Cx.sc (h / (R * R)) ⟨τ * σ, T * γ⟩).mul Z)).im * (Cx.sc Rs ((Cx.sc (h / (R * R)) ⟨τ * σ, T * γ⟩).mul Z)).im ≤ Rs * (h / R) * z * (Rs * (h / R) * z) * (1 + 1 / 1000000)) ∧
    Wn ((Cx.sc Rs ((Cx.sc (h / (R * R)) ⟨τ * σ, T * γ⟩).mul Z)).re - Rs * (h / R) * z * st) (1 / 1000000 * (Rs * (h / R) * z)) ∧ Wn ((Cx.sc Rs ((Cx.sc (h / (R * R)) ⟨τ * σ, T * γ⟩).mul Z)).im - Rs * (h / R) * z * ct) (1 / 1000000 * (Rs * (h / R) * z)) := by
  obtain ⟨hp, h1, h2, h3⟩ := f.m
  have Rr0 := f.R0
  have Rp : 0 < R := by grind
  have RRp := Rat.mul_pos Rp Rp
  obtain ⟨k, hk⟩ : ∃ k, k = h / (R * R) := ⟨_, rfl⟩
  have hkR : k * (R * R) = h := div_mul_c (ne_of_pos RRp) hk
  have hm : h / R = k * R := by
    have := div_mul_c (a := h) (ne_of_pos Rp) rfl
    have l1 : R * (h / R) ≤ R * (k * R) := by have : R * (k * R) = k * (R * R) := by grind
                                              rw [this, hkR]; grind
    have l2 : R * (k * R) ≤ R * (h / R) := by have : R * (k * R) = k * (R * R) := by grind
                                              rw [this, hkR]; grind
    have := le_of_scaled Rp l1
    have := le_of_scaled Rp l2
    grind
  rw [← hk, hm]
  have kp : 0 < k := pos_mul_r RRp (by rw [show R * R * k = k * (R * R) by grind, hkR]; exact hp)
  have kRp := Rat.mul_pos kp Rp
  have Rsp : 0 < Rs := by grind
  have zp : 0 < z := by grind
  obtain ⟨L, hL⟩ : ∃ L, L = Rs * (k * R) * z := ⟨_, rfl⟩
  have Lp : 0 < L := by rw [hL]; exact Rat.mul_pos (Rat.mul_pos Rsp kRp) zp
  rw [← hL]
  have nm := f.norm
  -- |Z|^2 against z^2
  have zz := sq_le_sq (show (0 : Rat) ≤ 99 / 100 by grind) z0
  have zz2 := sq_le_sq (show 0 ≤ z by grind) z1
  have up : Z.re * Z.re + Z.im * Z.im ≤ z * z * (1 + 3 / 1000000000) := by
    have := mz.2
    have e : z * (1 + 1 / 1000000000) * (z * (1 + 1 / 1000000000)) = z * z * ((1 + 1 / 1000000000) * (1 + 1 / 1000000000)) := by grind
    rw [e] at this
    grind
  have lo : z * z * (1 - 1 / 1000000000) ≤ Z.re * Z.re + Z.im * Z.im := by
    obtain ⟨d, hd⟩ : ∃ d, d = X.sub Z := ⟨_, rfl⟩
    rw [← hd] at ne
    have e1 : X.re = Z.re + d.re := by rw [hd]; simp; grind
    have e2 : X.im = Z.im + d.im := by rw [hd]; simp; grind
    have m := (mz.conj.mul ne).re
    simp only [Cx.mul_re] at m
    obtain ⟨_, n2⟩ := ne
    obtain ⟨_, m2⟩ := m
    obtain ⟨_, x2⟩ := hX
    rw [e1, e2] at x2
    have zb : z * (1 + 1 / 1000000000) * (1 / 10000000000) ≤ 12 / 100000000000 := by grind
    grind
  obtain ⟨P2, hP2⟩ : ∃ P2, P2 = τ * σ * (τ * σ) + T * γ * (T * γ) := ⟨_, rfl⟩
  rw [← hP2] at nm
  obtain ⟨Z2, hZ2⟩ : ∃ Z2, Z2 = Z.re * Z.re + Z.im * Z.im := ⟨_, rfl⟩
  rw [← hZ2] at up lo
  have nq : (Cx.sc Rs ((Cx.sc k ⟨τ * σ, T * γ⟩).mul Z)).re * (Cx.sc Rs ((Cx.sc k ⟨τ * σ, T * γ⟩).mul Z)).re + (Cx.sc Rs ((Cx.sc k ⟨τ * σ, T * γ⟩).mul Z)).im * (Cx.sc Rs ((Cx.sc k ⟨τ * σ, T * γ⟩).mul Z)).im = Rs * k * (Rs * k) * (P2 * Z2) := by
    rw [hP2, hZ2]; simp; grind
  have LL : L * L = Rs * k * (Rs * k) * (R * R * (z * z)) := by rw [hL]; grind
  have Q0 := Rat.mul_pos (Rat.mul_pos Rsp kp) (Rat.mul_pos Rsp kp)
  have z2p := Rat.mul_pos zp zp
  have pz : R * R * (z * z) * (1 - 1 / 1000000) ≤ P2 * Z2 ∧ P2 * Z2 ≤ R * R * (z * z) * (1 + 1 / 1000000) := by
    obtain ⟨n1, n2⟩ := nm
    have a := mul_mono (show 0 ≤ R * R * (1 - 1 / 10000000000) by grind) (show R * R * (1 - 1 / 10000000000) ≤ P2 by grind) (show 0 ≤ z * z * (1 - 1 / 1000000000) by grind) lo
    have b := mul_mono (show 0 ≤ P2 by grind) (show P2 ≤ R * R * (1 + 1 / 10000000000) by grind) (show 0 ≤ Z2 by grind) up
    have c := Rat.mul_pos RRp z2p
    constructor <;> grind
  rw [nq, LL]
  have m1 := Rat.mul_le_mul_of_nonneg_left pz.1 (Rat.le_of_lt Q0)
  have m2 := Rat.mul_le_mul_of_nonneg_left pz.2 (Rat.le_of_lt Q0)
  -- the direction
  have Rz := Rat.mul_pos Rp zp
  have Rsk := Rat.mul_pos Rsp kp
  have hr := ht.re
  have hi := ht.im
  simp only [Cx.sub_re, Cx.sub_im, Cx.mul_re, Cx.mul_im, Cx.sc_re, Cx.sc_im] at hr hi
  have eL : Rs * k * (R * z) = L := by rw [hL]; grind
  refine ⟨by grind, by grind, ?_, ?_⟩
  · have a := wn_mul (wn_pos (Rat.le_of_lt Rsk)) hi
    have b := wn_mul (wn_pos (Rat.le_of_lt Lp)) hs
    refine (wn_sub (wn_negy a) b).of ?_ ?_
    · simp only [Cx.mul_re, Cx.sc_re, Cx.sc_im]
      rw [← eL]; grind
    · rw [show Rs * k * (1 / 100000000 * (R * z)) = 1 / 100000000 * (Rs * k * (R * z)) by grind, eL]; grind
  · have a := wn_mul (wn_pos (Rat.le_of_lt Rsk)) hr
    have b := wn_mul (wn_pos (Rat.le_of_lt Lp)) hc
    refine (wn_sub (wn_negy a) b).of ?_ ?_
    · simp only [Cx.mul_im, Cx.sc_re, Cx.sc_im]
      rw [← eL]; grind
    · rw [show Rs * k * (1 / 100000000 * (R * z)) = 1 / 100000000 * (Rs * k * (R * z)) by grind, eL]; grind
end Go.Fp.Tri
namespace Go.Proofs.YtcppgbhjbmfldaaDoor
open Go.Fp Go.Fp.Tri
set_option maxRecDepth 20000
set_option maxHeartbeats 4000000 in
theorem angles_told {a f sc : Nat} {mid lon lat : Int} (g : Snd a f 0) (h1 : vl f ≤ 40001 / 10000000) (fsc : Fp.Fin sc) (s1 : 99 / 1000 ≤ vl sc) (s2 : vl sc ≤ 10) (l1 : -70000000000 ≤ lat) (l2 : lat ≤ 70000000000) (t1 : -6000000000 ≤ signP (dS mid lon)) (t2 : signP (dS mid lon) ≤ 6000000000) :
    ∃ E : Int, floatToIntVal .f64 (qF f lat) .i64 = some E ∧ 0 ≤ E ∧ E ≤ 31000000 ∧ (-45000000000 ≤ signP (dS mid (normP lon + E)) ∧ signP (dS mid (normP lon + E)) ≤ 45000000000) ∧
      (Fp.Fin (eccP f) ∧ Fp.Fin (sinP lat) ∧ Fp.Fin (cosP lat) ∧ Fp.Fin (fmul (eccP f) (sinP lat)) ∧ Fp.Fin (fmul (fmul (eccP f) (sinP lat)) (sinP lat)) ∧ Fp.Fin (oF f) ∧ Fp.Fin (wF f lat) ∧ Fp.Fin (fmul cE7 (oF f)) ∧ Fp.Fin (fmul (wF f lat) (cosP lat)) ∧ Fp.Fin (qF f lat)) ∧
      (Fp.Fin (crossP a f lat) ∧ Fp.Fin (fmul (crossP a f lat) (oF f)) ∧ Fp.Fin (fdiv (fmul (crossP a f lat) (oF f)) (wF f lat)) ∧ Fp.Fin (fmul (fdiv (fmul (crossP a f lat) (oF f)) (wF f lat)) cG2) ∧ Fp.Fin (turnM a f sc lat (dS mid lon) (uS f lat (dS mid lon)) (tS f lat) (vS f lat (dS mid lon)))) ∧
      Tests (stripX a f sc (uS f lat (dS mid lon)) (vS f lat (dS mid lon))) (stripY a f sc (uS f lat (dS mid lon)) (vS f lat (dS mid lon))) (stripX a f sc (uS f (lat + 10000000) (dS mid lon)) (vS f (lat + 10000000) (dS mid lon))) (stripY a f sc (uS f (lat + 10000000) (dS mid lon)) (vS f (lat + 10000000) (dS mid lon))) (stripX a f sc (uS f lat (dS mid (normP lon + E))) (vS f lat (dS mid (normP lon + E)))) (stripY a f sc (uS f lat (dS mid (normP lon + E))) (vS f lat (dS mid (normP lon + E))))
        (fsub (stripX a f sc (uS f (lat + 10000000) (dS mid lon)) (vS f (lat + 10000000) (dS mid lon))) (stripX a f sc (uS f lat (dS mid lon)) (vS f lat (dS mid lon)))) (fsub (stripY a f sc (uS f (lat + 10000000) (dS mid lon)) (vS f (lat + 10000000) (dS mid lon))) (stripY a f sc (uS f lat (dS mid lon)) (vS f lat (dS mid lon))))
        (fsub (stripX a f sc (uS f lat (dS mid (normP lon + E))) (vS f lat (dS mid (normP lon + E)))) (stripX a f sc (uS f lat (dS mid lon)) (vS f lat (dS mid lon)))) (fsub (stripY a f sc (uS f lat (dS mid (normP lon + E))) (vS f lat (dS mid (normP lon + E)))) (stripY a f sc (uS f lat (dS mid lon)) (vS f lat (dS mid lon))))
        (fadd (fmul (fsub (stripX a f sc (uS f (lat + 10000000) (dS mid lon)) (vS f (lat + 10000000) (dS mid lon))) (stripX a f sc (uS f lat (dS mid lon)) (vS f lat (dS mid lon)))) (fsub (stripX a f sc (uS f (lat + 10000000) (dS mid lon)) (vS f (lat + 10000000) (dS mid lon))) (stripX a f sc (uS f lat (dS mid lon)) (vS f lat (dS mid lon))))) (fmul (fsub (stripY a f sc (uS f (lat + 10000000) (dS mid lon)) (vS f (lat + 10000000) (dS mid lon))) (stripY a f sc (uS f lat (dS mid lon)) (vS f lat (dS mid lon)))) (fsub (stripY a f sc (uS f (lat + 10000000) (dS mid lon)) (vS f (lat + 10000000) (dS mid lon))) (stripY a f sc (uS f lat (dS mid lon)) (vS f lat (dS mid lon))))))
        (fadd (fmul (fsub (stripX a f sc (uS f lat (dS mid (normP lon + E))) (vS f lat (dS mid (normP lon + E)))) (stripX a f sc (uS f lat (dS mid lon)) (vS f lat (dS mid lon)))) (fsub (stripX a f sc (uS f lat (dS mid (normP lon + E))) (vS f lat (dS mid (normP lon + E)))) (stripX a f sc (uS f lat (dS mid lon)) (vS f lat (dS mid lon))))) (fmul (fsub (stripY a f sc (uS f lat (dS mid (normP lon + E))) (vS f lat (dS mid (normP lon + E)))) (stripY a f sc (uS f lat (dS mid lon)) (vS f lat (dS mid lon)))) (fsub (stripY a f sc (uS f lat (dS mid (normP lon + E))) (vS f lat (dS mid (normP lon + E)))) (stripY a f sc (uS f lat (dS mid lon)) (vS f lat (dS mid lon))))))
        (sinP (turnA f (dS mid lon) (uS f lat (dS mid lon)) (tS f lat) (vS f lat (dS mid lon)))) (cosP (turnA f (dS mid lon) (uS f lat (dS mid lon)) (tS f lat) (vS f lat (dS mid lon))))
        (lenP (fsub (stripX a f sc (uS f (lat + 10000000) (dS mid lon)) (vS f (lat + 10000000) (dS mid lon))) (stripX a f sc (uS f lat (dS mid lon)) (vS f lat (dS mid lon)))) (fsub (stripY a f sc (uS f (lat + 10000000) (dS mid lon)) (vS f (lat + 10000000) (dS mid lon))) (stripY a f sc (uS f lat (dS mid lon)) (vS f lat (dS mid lon)))) 0)
        (fmul (turnM a f sc lat (dS mid lon) (uS f lat (dS mid lon)) (tS f lat) (vS f lat (dS mid lon))) (fmul (fdiv (fmul (crossP a f lat) (oF f)) (wF f lat)) cG2)) := by
  obtain ⟨h, E, hh, hv, hE, E0, E1, q1, q2, q3⟩ := east_int g h1 l1 l2
  obtain ⟨fE, fs, fc, p1, p2, p3, p4, _⟩ := parts_near g h1 l1 l2
  have hd : normP (dS mid (normP lon + E)) = normP (dS mid lon + E) := by unfold dS normP; omega
  have t3 : -30000000000 ≤ signP (dS mid (normP lon + E)) ∧ signP (dS mid (normP lon + E)) ≤ 30000000000 := by
    have e : signP (dS mid (normP lon + E)) = signP (dS mid lon + E) := by unfold signP; rw [hd]
    rw [e]
    generalize dS mid lon = d at *
    unfold signP normP at *
    split at t1 <;> split <;> omega
  obtain ⟨T, r, lk, eu, ev, wv, fr, R0, R1, fR, F0, F1, F2, mN, mE⟩ := angles_plane (lon1 := normP lon + E) g h1 fsc s1 s2 l1 l2 t1 t2 hd t3.1 t3.2 hh hE
  obtain ⟨fcd, fsd, _, _, _⟩ := dir_near (D0 := 6000000000) t1 t2 (by decide) S_6.1 S_6.2
  obtain ⟨c1, c2, c3, c4, c5, c6, c7⟩ := scale_near (sc := sc) g h1 l1 l2 lk fcd fr wv hh fR R0 R1
  obtain ⟨_, _, fz, _, _, z0, z1, hz, ne, mz⟩ := slope_size g.ff g.f1 h1 wv lk.fV
  have tn := turn_near g.ff g.f1 h1 lk fcd fsd fr wv
  have et : tS f lat = lT (isoP f lat) := rfl
  refine ⟨E, hv, E0, E1, ⟨by omega, by omega⟩, ⟨fE, fs, fc, p1, p2, p3, p4, q1, q2, q3⟩, ?_, ?_⟩
  · rw [eu, ev, et]; exact ⟨c1, c2, c3, c4, c5⟩
  have turn : turnA f (dS mid lon) (uS f lat (dS mid lon)) (tS f lat) (vS f lat (dS mid lon)) = turnA f (dS mid lon) (lU (isoP f lat) (cosP (dS mid lon))) (lT (isoP f lat)) (lV (isoP f lat) (cosP (dS mid lon)) (sinP (dS mid lon))) := by rw [eu, ev, et]
  have turnm : turnM a f sc lat (dS mid lon) (uS f lat (dS mid lon)) (tS f lat) (vS f lat (dS mid lon)) = turnM a f sc lat (dS mid lon) (lU (isoP f lat) (cosP (dS mid lon))) (lT (isoP f lat)) (lV (isoP f lat) (cosP (dS mid lon)) (sinP (dS mid lon))) := by rw [eu, ev, et]
  rw [turn, turnm]
  generalize turnA f (dS mid lon) (lU (isoP f lat) (cosP (dS mid lon))) (lT (isoP f lat)) (lV (isoP f lat) (cosP (dS mid lon)) (sinP (dS mid lon))) = tu at *
  obtain ⟨⟨fcu, ncu⟩, ⟨fsu, nsu⟩⟩ := cis_near tu
  have bu := cis_bd tu
  have X := plane_dir fr (X := ⟨vl (tRe tabA cA4 f (lU (isoP f lat) (cosP (dS mid lon))) (lV (isoP f lat) (cosP (dS mid lon)) (sinP (dS mid lon))) 4), vl (tIm tabA cA4 f (lU (isoP f lat) (cosP (dS mid lon))) (lV (isoP f lat) (cosP (dS mid lon)) (sinP (dS mid lon))) 4)⟩) R0 z0 z1 mz hz ne tn (nsu.mono (by unfold tol; grind)) (ncu.mono (by unfold tol; grind))
  obtain ⟨x1, x2, x3, x4⟩ := X
  obtain ⟨m0, _⟩ := step_m fr
  obtain ⟨_, _, m2, _⟩ := fr.m
  have Rr0 := fr.R0
  have m1 : h / vl (lR (isoP f lat) (cosP (dS mid lon))) ≤ 1793 / 10000000 := by
    have Rp : 0 < vl (lR (isoP f lat) (cosP (dS mid lon))) := by grind
    refine le_of_scaled Rp ?_
    rw [show vl (lR (isoP f lat) (cosP (dS mid lon))) * (h / vl (lR (isoP f lat) (cosP (dS mid lon)))) = h / vl (lR (isoP f lat) (cosP (dS mid lon))) * vl (lR (isoP f lat) (cosP (dS mid lon))) by grind, div_mul_c (ne_of_pos Rp) rfl]
    exact m2
  have b1 := mul_mono (show (0 : Rat) ≤ 10000 by grind) R0 (show (0 : Rat) ≤ 172 / 1000000 by grind) m0
  have b2 := mul_mono (show (0 : Rat) ≤ 10000 * (172 / 1000000) by grind) b1 (show (0 : Rat) ≤ 99 / 100 by grind) z0
  have b3 := mul_mono (show 0 ≤ vl (rS a f sc) by grind) R1 (show 0 ≤ h / vl (lR (isoP f lat) (cosP (dS mid lon))) by grind) m1
  have b4 := mul_mono (show 0 ≤ vl (rS a f sc) * (h / vl (lR (isoP f lat) (cosP (dS mid lon)))) by grind) b3 (show 0 ≤ vl (szP f (lU (isoP f lat) (cosP (dS mid lon))) (lV (isoP f lat) (cosP (dS mid lon)) (sinP (dS mid lon)))) by grind) z1
  refine tests_float ⟨F0.1, F0.2, F1.1, F1.2, F2.1, F2.2, fsu, fcu, c6⟩ (by grind) (by grind) x1 x2 (mN.mono (by grind)) ((mE.mono (by grind)).cast ?_) x3 x4 ?_ ?_ c7
  · exact Cx.ext' (by simp; grind) (by simp; grind)
  · exact (wn_add nsu bu.im).of (by grind) (by unfold tol; grind)
  · exact (wn_add ncu bu.re).of (by grind) (by unfold tol; grind)
end Go.Proofs.YtcppgbhjbmfldaaDoor
