/- A little step to the north, a little step to the east: where they lead on the ball along the meridian. -/
import Derived.Test.YtcppgbhjbmfldaaDoorZY
namespace Go.Fp.Tri
open Go.Fp
set_option maxRecDepth 20000
/-- a place and its distances; h: how far a step leads -/
structure Fr (T τ γ σ R g κ h : Rat) : Prop where
  hT : Wn (T * T - (1 + τ * τ)) (1 / 1000000000000 * (T * T))
  T1 : 99 / 100 ≤ T
  T2 : T ≤ 31 / 10
  R0 : 85 / 100 ≤ R
  hR : Wn (R * R - (τ * τ + γ * γ)) (1 / 10000000000000 * (R * R))
  hg : Wn (γ * γ + σ * σ - 1) (1 / 10000000000000)
  g0 : 0 < γ
  bs : Wn σ (1055 / 10000)
  k0 : 34199 / 100000 ≤ κ
  k1 : κ ≤ 10001 / 10000
  tlo : 96 / 100 ≤ T * T * (κ * κ)
  thi : T * T * (κ * κ) ≤ 1 + 2 / 10000000
  gl : 17453292 / 100000000000 ≤ g
  gh : g ≤ 17453294 / 100000000000
  hh : h * κ ≤ g * (1 + 1 / 1000000)
  hl : 9919 / 10000 * g ≤ h * κ
variable {T τ γ σ R g κ h : Rat}
theorem Fr.bt (f : Fr T τ γ σ R g κ h) : Wn τ T := by
  have a := f.hT.2
  have b := f.hT.1
  have t1 := f.T1
  have t2 := sq_le_sq (show (0 : Rat) ≤ 99 / 100 by grind) t1
  have t3 := sq_le_sq (show 0 ≤ T by grind) f.T2
  constructor
  · have := le_of_sq (a := -τ) (b := T) (by grind) (by grind)
    grind
  · exact le_of_sq (by grind) (by grind)
theorem Fr.bg (f : Fr T τ γ σ R g κ h) : 994 / 1000 ≤ γ ∧ γ ≤ 1000001 / 1000000 := by
  have a := f.hg
  have s := rsq_nonneg σ
  have s2 := (wn_mul f.bs f.bs).2
  have g0 := f.g0
  obtain ⟨a1, a2⟩ := a
  exact ⟨le_of_sq (by grind) (by grind), le_of_sq (by grind) (by grind)⟩
theorem Fr.RT (f : Fr T τ γ σ R g κ h) : R * R ≤ T * T * (1 + 1 / 1000000) ∧ 9884 / 10000 * (T * T) ≤ R * R ∧ R ≤ T * (1000001 / 1000000) ∧ 9941 / 10000 * T ≤ R := by
  have a := f.hT
  have b := f.hR
  have c := f.hg
  have s := rsq_nonneg σ
  have s2 := (wn_mul f.bs f.bs).2
  have t2 := sq_le_sq (show (0 : Rat) ≤ 99 / 100 by grind) f.T1
  have t3 := sq_le_sq (show 0 ≤ T by have := f.T1; grind) f.T2
  have r0 := f.R0
  have t1 := f.T1
  obtain ⟨a1, a2⟩ := a
  obtain ⟨b1, b2⟩ := b
  obtain ⟨c1, c2⟩ := c
  have up : R * R ≤ T * T * (1 + 1 / 1000000) := by grind
  have lo : 9884 / 10000 * (T * T) ≤ R * R := by grind
  refine ⟨up, lo, le_of_sq (by grind) ?_, le_of_sq (by grind) ?_⟩
  · have e : T * (1000001 / 1000000) * (T * (1000001 / 1000000)) = T * T * (1000001 / 1000000 * (1000001 / 1000000)) := by grind
    rw [e]; grind
  · have e : 9941 / 10000 * T * (9941 / 10000 * T) = T * T * (9941 / 10000 * (9941 / 10000)) := by grind
    rw [e]; grind
/-- how far a step leads, over the distance -/
theorem Fr.m (f : Fr T τ γ σ R g κ h) : 0 < h ∧ h ≤ 511 / 1000000 ∧ h ≤ R * (1793 / 10000000) ∧ R * (1730 / 10000000) ≤ h := by
  obtain ⟨r1, r2, r3, r4⟩ := f.RT
  have hh := f.hh
  have hl := f.hl
  have k0 := f.k0
  have gl := f.gl
  have gh := f.gh
  have kp : 0 < κ := by grind
  have R0 := f.R0
  have t1 := f.T1
  have Rp : 0 < R := by grind
  have rk : 974 / 1000 ≤ R * κ := by
    refine le_of_sq (Rat.mul_nonneg (Rat.le_of_lt Rp) (Rat.le_of_lt kp)) ?_
    have m := Rat.mul_le_mul_of_nonneg_right r2 (rsq_nonneg κ)
    have := f.tlo
    have e : R * κ * (R * κ) = R * R * (κ * κ) := by grind
    rw [e]
    grind
  have rk2 : R * κ ≤ 1000002 / 1000000 := by
    refine le_of_sq (by grind) ?_
    have m := Rat.mul_le_mul_of_nonneg_right r1 (rsq_nonneg κ)
    have := f.thi
    have e : R * κ * (R * κ) = R * R * (κ * κ) := by grind
    rw [e]
    grind
  have hp : 0 < h := by
    refine pos_mul_r kp ?_
    grind
  refine ⟨hp, ?_, ?_, ?_⟩
  · refine le_of_scaled kp ?_
    have : κ * h = h * κ := by grind
    rw [this]
    grind
  · refine le_of_scaled kp ?_
    have e : κ * (R * (1793 / 10000000)) = R * κ * (1793 / 10000000) := by grind
    have e2 : κ * h = h * κ := by grind
    rw [e, e2]
    grind
  · refine le_of_scaled kp ?_
    have e : κ * (R * (1730 / 10000000)) = R * κ * (1730 / 10000000) := by grind
    have e2 : κ * h = h * κ := by grind
    rw [e, e2]
    grind
theorem Fr.size (f : Fr T τ γ σ R g κ h) : MB (⟨τ * σ, T * γ⟩ : Cx) (R * (1000001 / 1000000)) := by
  have R0 := f.R0
  refine ⟨by grind, ?_⟩
  have a := f.hT
  have b := f.hR
  have c := f.hg
  have t2 := sq_le_sq (show (0 : Rat) ≤ 99 / 100 by grind) f.T1
  have t3 := sq_le_sq (show 0 ≤ T by have := f.T1; grind) f.T2
  have r2 := sq_le_sq (show (0 : Rat) ≤ 85 / 100 by grind) R0
  have tt := rsq_nonneg τ
  have gg := rsq_nonneg γ
  have m1 := wn_mul a (show Wn (γ * γ) (1 + 1 / 1000000) from by have := rsq_nonneg σ; obtain ⟨_, _⟩ := c; constructor <;> grind)
  have m2 := wn_mul (wn_pos tt) c
  have e : τ * σ * (τ * σ) + T * γ * (T * γ) = (τ * τ + γ * γ) + τ * τ * (γ * γ + σ * σ - 1) + (T * T - (1 + τ * τ)) * (γ * γ) := by grind
  show τ * σ * (τ * σ) + T * γ * (T * γ) ≤ _
  rw [e]
  have e2 : R * (1000001 / 1000000) * (R * (1000001 / 1000000)) = R * R * (1000001 / 1000000 * (1000001 / 1000000)) := by grind
  rw [e2]
  obtain ⟨a1, a2⟩ := a
  obtain ⟨b1, b2⟩ := b
  obtain ⟨_, m12⟩ := m1
  obtain ⟨_, m22⟩ := m2
  have tau : τ * τ ≤ 10 := by grind
  grind
theorem Fr.size2 (f : Fr T τ γ σ R g κ h) : MB (⟨T * σ, τ * γ⟩ : Cx) (R * (1000001 / 1000000)) := by
  have R0 := f.R0
  refine ⟨by grind, ?_⟩
  have a := f.hT
  have b := f.hR
  have c := f.hg
  have t2 := sq_le_sq (show (0 : Rat) ≤ 99 / 100 by grind) f.T1
  have t3 := sq_le_sq (show 0 ≤ T by have := f.T1; grind) f.T2
  have r2 := sq_le_sq (show (0 : Rat) ≤ 85 / 100 by grind) R0
  have tt := rsq_nonneg τ
  have gg := rsq_nonneg γ
  have s2 := (wn_mul f.bs f.bs).2
  have s0 := rsq_nonneg σ
  have m1 := wn_mul a (show Wn (σ * σ) 1 from ⟨by grind, by grind⟩)
  have m2 := wn_mul (wn_pos tt) c
  have e : T * σ * (T * σ) + τ * γ * (τ * γ) = (τ * τ + σ * σ) + τ * τ * (γ * γ + σ * σ - 1) + (T * T - (1 + τ * τ)) * (σ * σ) := by grind
  show T * σ * (T * σ) + τ * γ * (τ * γ) ≤ _
  rw [e]
  have e2 : R * (1000001 / 1000000) * (R * (1000001 / 1000000)) = R * R * (1000001 / 1000000 * (1000001 / 1000000)) := by grind
  rw [e2]
  have g1 := f.bg.1
  have g2 := sq_le_sq (show (0 : Rat) ≤ 994 / 1000 by grind) g1
  obtain ⟨a1, a2⟩ := a
  obtain ⟨b1, b2⟩ := b
  obtain ⟨_, m12⟩ := m1
  obtain ⟨_, m22⟩ := m2
  have tau : τ * τ ≤ 10 := by grind
  grind
set_option maxHeartbeats 4000000 in
/-- north -/
theorem Fr.north (f : Fr T τ γ σ R g κ h) {τ1 T1 R1 x θ η : Rat} (hT1 : Wn (T1 * T1 - (1 + τ1 * τ1)) (1 / 1000000000000 * (T1 * T1))) (u0 : 99 / 100 ≤ T1) (u1 : T1 ≤ 31 / 10) (R10 : 85 / 100 ≤ R1)
    (hR1 : Wn (R1 * R1 - (τ1 * τ1 + γ * γ)) (1 / 10000000000000 * (R1 * R1))) (hx : Wn (x - h) (26 / 100000 * h)) (ha : Wn (τ1 - τ - (x * T + x * x * τ / 2)) (2 / 1000000000 * T))
    (hu : Wn (θ * (R * R1) - (τ1 * γ - γ * τ)) (R * R1 * (1 / 1000000000))) (hv : Wn (η * (R * R1) - (σ * T - T1 * σ)) (R * R1 * (6 / 1000000000))) :
    MB ((⟨-η, θ⟩ : Cx).sub (Cx.sc (h / (R * R)) ⟨τ * σ, T * γ⟩)) (61 / 100000 * (h / R)) := by
  obtain ⟨hp, h1, h2, h3⟩ := f.m
  obtain ⟨r1, r2, r3, r4⟩ := f.RT
  have bt := f.bt
  have R0 := f.R0
  have t1 := f.T1
  have Tp : 0 < T := by grind
  have Rp : 0 < R := by grind
  have R1p : 0 < R1 := by grind
  have bx : Wn x (5112 / 10000000) := by obtain ⟨_, _⟩ := hx; constructor <;> grind
  have xp : 0 < x := by obtain ⟨_, _⟩ := hx; grind
  -- A = x tau / T
  obtain ⟨A, hA⟩ : ∃ A, A * T = x * τ := ⟨x * τ / T, div_mul_c (ne_of_pos Tp) rfl⟩
  have bA : Wn A (5112 / 10000000) := by
    refine wn_scaled Tp ?_
    rw [show T * A = x * τ by grind]
    exact (wn_mul bx bt).of (by grind) (by grind)
  obtain ⟨z, hz⟩ : ∃ z, τ1 - τ = T * z := ⟨(τ1 - τ) / T, by have := div_mul_c (a := τ1 - τ) (ne_of_pos Tp) rfl; grind⟩
  have bz : Wn (z - x * (1 + A / 2)) (2 / 1000000000) := by
    refine wn_scaled Tp ?_
    have e : T * (z - x * (1 + A / 2)) = τ1 - τ - (x * T + x * x * τ / 2) := by
      have : T * (x * (1 + A / 2)) = x * T + x * (A * T) / 2 := by grind
      rw [show T * (z - x * (1 + A / 2)) = T * z - T * (x * (1 + A / 2)) by grind, this, hA, ← hz]; grind
    rw [e]; exact ha.of (by grind) (by grind)
  obtain ⟨ζ, hζ⟩ : ∃ ζ, z = x * ζ := ⟨z / x, by have := div_mul_c (a := z) (ne_of_pos xp) rfl; grind⟩
  have bζ : Wn (ζ - (1 + A / 2)) (12 / 1000000) := by
    refine wn_scaled xp ?_
    rw [show x * (ζ - (1 + A / 2)) = z - x * (1 + A / 2) by rw [hζ]; grind]
    refine bz.mono ?_
    obtain ⟨_, _⟩ := hx
    grind
  have bζ1 : Wn (ζ - 1) (27 / 100000) := by obtain ⟨_, _⟩ := bζ; obtain ⟨_, _⟩ := bA; constructor <;> grind
  obtain ⟨ϱ, hϱ⟩ : ∃ ϱ, R1 = R * ϱ := ⟨R1 / R, by have := div_mul_c (a := R1) (ne_of_pos Rp) rfl; grind⟩
  have ϱp : 0 < ϱ := pos_mul_r Rp (by rw [← hϱ]; exact R1p)
  have RRp : 0 < R * R := Rat.mul_pos Rp Rp
  have RR0 := sq_le_sq (show (0 : Rat) ≤ 85 / 100 by grind) R0
  -- the root's square
  have bA2 := wn_mul bA bA
  have bz1 : Wn z (5115 / 10000000) := by
    rw [hζ]
    exact (wn_mul bx (show Wn ζ (10003 / 10000) from by obtain ⟨_, _⟩ := bζ1; constructor <;> grind)).mono (by grind)
  have rr1 : R * R * (ϱ * ϱ) = R1 * R1 := by rw [hϱ]; grind
  have bR1 : R1 * R1 ≤ 11 := by
    have t3 := sq_le_sq (show 0 ≤ T1 by grind) u1
    have gg := f.hg.2
    have ss := rsq_nonneg σ
    obtain ⟨_, _⟩ := hT1
    obtain ⟨_, _⟩ := hR1
    grind
  have TTp := rsq_nonneg T
  have key : Wn (ϱ * ϱ - (1 + 2 * A)) (14 / 1000000) := by
    refine wn_scaled RRp ?_
    have hR := f.hR
    -- R1^2 - R^2 = T z (2 tau + T z)
    have m1 : Wn (R1 * R1 - R * R - T * z * (2 * τ + T * z)) (1 / 100000000000) := by
      refine (wn_sub hR1 hR).of ?_ ?_
      · have e : τ1 = τ + T * z := by grind
        rw [e]; grind
      · have RR3 : R * R ≤ 10 := by have := sq_le_sq (show 0 ≤ T by grind) f.T2; grind
        grind
    -- T z 2 tau = 2 T T zeta A
    have m2 : T * z * (2 * τ + T * z) = T * T * (2 * (ζ * A) + z * z) := by
      have e : T * z * (2 * τ) = T * T * (2 * (ζ * A)) := by
        have : T * T * (2 * (ζ * A)) = T * (2 * ζ) * (A * T) := by grind
        rw [this, hA, hζ]; grind
      grind
    have q1 := wn_mul bζ1 bA
    have q2 := wn_mul bz1 bz1
    have q3 : Wn (2 * (ζ * A) + z * z - 2 * A) (55 / 100000000) := by
      refine (wn_add (wn_mul (show Wn (2 : Rat) 2 from ⟨by grind, by grind⟩) q1) q2).of (by grind) (by grind)
    have q4 := wn_mul (wn_pos TTp) q3
    have q5 := wn_mul (show Wn (T * T - R * R) (R * R * (1175 / 100000)) from by constructor <;> grind) (wn_mul (show Wn (2 : Rat) 2 from ⟨by grind, by grind⟩) bA)
    have t : Wn (R * R * (ϱ * ϱ - (1 + 2 * A))) (1 / 100000000000 + (T * T * (55 / 100000000) + R * R * (1175 / 100000) * (2 * (5112 / 10000000)))) := by
      refine (wn_add m1 (wn_add q4 q5)).of ?_ Rat.le_refl
      rw [m2]; grind
    refine t.mono ?_
    grind
  have bϱ : 999 / 1000 ≤ ϱ ∧ ϱ ≤ 1001 / 1000 := by
    obtain ⟨_, _⟩ := key
    obtain ⟨_, _⟩ := bA
    exact ⟨le_of_sq (by grind) (by grind), le_of_sq (by grind) (by grind)⟩
  have zz : Wn (ζ * ζ - ϱ * ϱ) (551 / 1000000) := by
    have q := wn_mul bζ1 bζ1
    have q2 : Wn (ζ * ζ - (1 + A)) (245 / 10000000) := by
      refine (wn_add (wn_mul (show Wn (2 : Rat) 2 from ⟨by grind, by grind⟩) bζ) q).of (by grind) (by grind)
    refine (wn_sub (wn_sub q2 key) bA).of (by grind) (by grind)
  have dz : Wn (ζ - ϱ) (277 / 1000000) := by
    have sp : 0 < ζ + ϱ := by have := bζ1.1; grind
    refine wn_scaled sp ?_
    refine zz.of (by grind) ?_
    have := bζ1.1
    grind
  obtain ⟨ξ, hξ⟩ : ∃ ξ, x = h * ξ := ⟨x / h, by have := div_mul_c (a := x) (ne_of_pos hp) rfl; grind⟩
  have bξ : Wn (ξ - 1) (26 / 100000) := by
    refine wn_scaled hp ?_
    rw [show h * (ξ - 1) = x - h by rw [hξ]; grind]
    exact hx.of rfl (by grind)
  -- the factor
  obtain ⟨F, hF⟩ : ∃ F, F * ϱ = ζ * ξ := ⟨ζ * ξ / ϱ, div_mul_c (ne_of_pos ϱp) rfl⟩
  have bF : Wn (F - 1) (54 / 100000) := by
    refine wn_scaled ϱp ?_
    have e : ϱ * (F - 1) = (ζ - ϱ) * ξ + ϱ * (ξ - 1) := by
      rw [show ϱ * (F - 1) = F * ϱ - ϱ by grind, hF]; grind
    rw [e]
    refine (wn_add (wn_mul dz (show Wn ξ (10003 / 10000) from by obtain ⟨_, _⟩ := bξ; constructor <;> grind)) (wn_mul (wn_pos (Rat.le_of_lt ϱp)) bξ)).mono (by grind)
  -- k0, m0
  obtain ⟨k, hk⟩ : ∃ k, k = h / (R * R) := ⟨_, rfl⟩
  have hkR : k * (R * R) = h := div_mul_c (ne_of_pos RRp) hk
  have hm : h / R = k * R := by
    have := div_mul_c (a := h) (ne_of_pos Rp) rfl
    have l1 : R * (h / R) ≤ R * (k * R) := by have : R * (k * R) = k * (R * R) := by grind
                                              rw [this, hkR]; grind
    have l2 : R * (k * R) ≤ R * (h / R) := by have : R * (k * R) = k * (R * R) := by grind
                                              rw [this, hkR]; grind
    have := le_of_scaled Rp l1
    have := le_of_scaled Rp l2
    grind
  rw [← hk, hm]
  have kp : 0 < k := pos_mul_r RRp (by rw [show R * R * k = k * (R * R) by grind, hkR]; exact hp)
  have mlo : 1730 / 10000000 ≤ k * R := by
    refine le_of_scaled Rp ?_
    rw [show R * (k * R) = k * (R * R) by grind, hkR]; exact h3
  have RR1p : 0 < R * R1 := Rat.mul_pos Rp R1p
  -- a / (T R R1) = k F
  have kF : z = k * F * (R * R1) := by
    rw [hζ, hξ, ← hkR, hϱ]
    have : k * F * (R * (R * ϱ)) = k * (R * R) * (F * ϱ) := by grind
    rw [this, hF]; grind
  -- b = T1 - T : T b - tau a
  have Tb : Wn (T * (T1 - T) - τ * (T * z)) (T * z * (T * z) * (51 / 100) + 12 / 1000000000000 * (T * T)) := by
    obtain ⟨b, hb⟩ : ∃ b, b = T1 - T := ⟨_, rfl⟩
    obtain ⟨a, hae⟩ : ∃ a, a = T * z := ⟨_, rfl⟩
    rw [← hb, ← hae]
    have eτ : τ1 = τ + a := by rw [hae]; grind
    have eT : T1 = T + b := by rw [hb]; grind
    have TT0 := sq_le_sq (show (0 : Rat) ≤ 99 / 100 by grind) t1
    have TT3 := sq_le_sq (show 0 ≤ T by grind) f.T2
    have UU3 := sq_le_sq (show 0 ≤ T1 by grind) u1
    have UU0 := sq_le_sq (show (0 : Rat) ≤ 99 / 100 by grind) u0
    have hT := f.hT
    have bt1 : Wn τ1 T1 := by
      obtain ⟨q1, q2⟩ := hT1
      constructor
      · have := le_of_sq (a := -τ1) (b := T1) (by grind) (by grind)
        grind
      · exact le_of_sq (by grind) (by grind)
    have ab : Wn a (16 / 10000) := by
      rw [hae]
      exact (wn_mul (show Wn T (31 / 10) from ⟨by grind, f.T2⟩) bz1).mono (by grind)
    have ε : Wn (b * (2 * T + b) - a * (2 * τ + a)) (2 / 100000000000) := by
      refine (wn_sub hT1 hT).of ?_ (by grind)
      rw [eT, eτ]; grind
    have bb : Wn b (rabs a + 2 / 100000000000) := by
      have sp : 0 < T1 + T := by grind
      refine wn_scaled sp ?_
      have ra := wn_rabs a
      have w := wn_mul ra (wn_add bt1 bt)
      refine (wn_add ε w).of ?_ ?_
      · rw [eT, eτ]; grind
      · grind
    have ra : rabs a * rabs a = a * a := by unfold rabs; split <;> grind
    have rn : 0 ≤ rabs a := (wn_rabs a).nonneg
    have ra1 : rabs a ≤ 16 / 10000 := by unfold rabs; obtain ⟨_, _⟩ := ab; split <;> grind
    have b2 := wn_mul bb bb
    have b20 := rsq_nonneg b
    have fin : Wn (2 * (T * b - τ * a)) (2 * (a * a * (51 / 100) + 12 / 1000000000000 * (T * T))) := by
      have a20 := rsq_nonneg a
      obtain ⟨_, b22⟩ := b2
      obtain ⟨e1, e2⟩ := ε
      constructor <;> grind
    exact (wn_scaled (by grind) fin).of rfl (by grind)
  have zp : 0 ≤ z := by rw [hζ]; exact Rat.mul_nonneg (Rat.le_of_lt xp) (by have := bζ1.1; grind)
  have kR0 : 0 < k * R := Rat.mul_pos kp Rp
  -- b - z tau
  have bzt : Wn (T1 - T - z * τ) (T * (z * z * (51 / 100) + 12 / 1000000000000)) := by
    refine wn_scaled Tp ?_
    refine Tb.of (by grind) (by grind)
  have c1 : Wn (-η - k * F * (τ * σ)) (625 / 10000000 * (k * R)) := by
    refine wn_scaled RR1p ?_
    have e : R * R1 * (-η - k * F * (τ * σ)) = σ * (T1 - T - z * τ) - (η * (R * R1) - (σ * T - T1 * σ)) := by
      have : R * R1 * (k * F * (τ * σ)) = (k * F * (R * R1)) * (τ * σ) := by grind
      rw [show R * R1 * (-η - k * F * (τ * σ)) = -(η * (R * R1)) - R * R1 * (k * F * (τ * σ)) by grind, this, ← kF]; grind
    rw [e]
    refine (wn_sub (wn_mul f.bs bzt) hv).mono ?_
    -- T z z = (T z) k F R R1
    have zz1 : z * z ≤ z * (5115 / 10000000) := Rat.mul_le_mul_of_nonneg_left bz1.2 zp
    have Tz : T * z ≤ R * R1 * (k * R) * (1007 / 1000) := by
      have m := mul_mono (show 0 ≤ T by grind) (show T ≤ R * (10060 / 10000) by grind) zp (Rat.le_refl (a := z))
      have m2 : z ≤ k * (R * R1) * (10006 / 10000) := by
        rw [kF]
        have := Rat.mul_le_mul_of_nonneg_left (show F ≤ 10006 / 10000 by have := bF.2; grind) (Rat.le_of_lt (Rat.mul_pos kp RR1p))
        grind
      have m3 := Rat.mul_le_mul_of_nonneg_left m2 (show 0 ≤ R * (10060 / 10000) by grind)
      have kk := Rat.mul_pos RR1p kR0
      grind
    have m4 : T * (z * z) ≤ R * R1 * (k * R) * (1007 / 1000) * (5115 / 10000000) := by
      have := Rat.mul_le_mul_of_nonneg_left zz1 (Rat.le_of_lt Tp)
      have := Rat.mul_le_mul_of_nonneg_right Tz (show (0 : Rat) ≤ 5115 / 10000000 by grind)
      grind
    have m5 : T ≤ R * R1 * 2 := by
      have := mul_mono (show 0 ≤ T by grind) (show T ≤ R * (10060 / 10000) by grind) (show (0 : Rat) ≤ 85 / 100 by grind) R10
      grind
    have m6 := Rat.mul_le_mul_of_nonneg_left mlo (Rat.le_of_lt RR1p)
    rw [show T * (z * z * (51 / 100) + 12 / 1000000000000) = 51 / 100 * (T * (z * z)) + 12 / 1000000000000 * T by grind]
    clear hu hv e zz1 Tz kF bzt Tb
    generalize T * (z * z) = u at *
    generalize k * R = m at *
    generalize R * R1 = Q at *
    grind
  have c2 : Wn (θ - k * F * (T * γ)) (6 / 1000000 * (k * R)) := by
    refine wn_scaled RR1p ?_
    have e : R * R1 * (θ - k * F * (T * γ)) = θ * (R * R1) - (τ1 * γ - γ * τ) := by
      have : R * R1 * (k * F * (T * γ)) = (k * F * (R * R1)) * (T * γ) := by grind
      rw [show R * R1 * (θ - k * F * (T * γ)) = θ * (R * R1) - R * R1 * (k * F * (T * γ)) by grind, this, ← kF]
      have : τ1 = τ + T * z := by grind
      rw [this]; grind
    rw [e]
    refine hu.mono ?_
    have m6 := Rat.mul_le_mul_of_nonneg_left mlo (Rat.le_of_lt RR1p)
    generalize R * R1 = Q at *
    grind
  have m1 : MB ((⟨-η, θ⟩ : Cx).sub (Cx.sc (k * F) ⟨τ * σ, T * γ⟩)) (63 / 1000000 * (k * R)) := by
    refine MB.of (x := 625 / 10000000 * (k * R)) (y := 6 / 1000000 * (k * R)) c1 c2 (by grind) ?_
    have := Rat.mul_nonneg (Rat.le_of_lt kR0) (Rat.le_of_lt kR0)
    grind
  have m2 := f.size.sc (c := (F - 1) * k) (wn_mul bF (wn_pos (Rat.le_of_lt kp)))
  refine ((m1.add m2).cast ?_).mono (by grind)
  exact Cx.ext' (by simp; grind) (by simp; grind)
set_option maxHeartbeats 4000000 in
/-- east -/
theorem Fr.east (f : Fr T τ γ σ R g κ h) {γ1 σ1 T' R1 h1 θ η : Rat} (hh1 : Wn (h1 - h) (h * (2 / 10000000))) (hγ : Wn (γ1 - (γ * (1 - h1 * h1 / 2) - σ * h1)) (3 / 100000000000)) (hσ : Wn (σ1 - (σ * (1 - h1 * h1 / 2) + γ * h1)) (3 / 100000000000))
    (hT' : Wn (T' - T) (1 / 1000000000 * T)) (R10 : 85 / 100 ≤ R1) (hR1 : Wn (R1 * R1 - (τ * τ + γ1 * γ1)) (1 / 10000000000000 * (R1 * R1)))
    (hu : Wn (θ * (R * R1) - (τ * γ - γ1 * τ)) (R * R1 * (1 / 1000000000))) (hv : Wn (η * (R * R1) - (σ1 * T - T' * σ)) (R * R1 * (6 / 1000000000))) :
    MB ((⟨-η, θ⟩ : Cx).sub (Cx.sc (h / (R * R)) ⟨-(T * γ), τ * σ⟩)) (32 / 100000 * (h / R)) := by
  obtain ⟨hp, q1, q2, q3⟩ := f.m
  obtain ⟨r1, r2, r3, r4⟩ := f.RT
  have bt := f.bt
  have bg := f.bg
  have R0 := f.R0
  have t1 := f.T1
  have bs := f.bs
  have Tp : 0 < T := by grind
  have Rp : 0 < R := by grind
  have R1p : 0 < R1 := by grind
  have wγ : Wn γ (1000001 / 1000000) := ⟨by grind, bg.2⟩
  have h1p : 0 < h1 := by obtain ⟨_, _⟩ := hh1; grind
  have bh1 : h1 ≤ 5111 / 10000000 := by obtain ⟨_, _⟩ := hh1; grind
  have wh1 : Wn h1 (5111 / 10000000) := ⟨by grind, bh1⟩
  have h1R : h1 ≤ R * (17931 / 100000000) := by obtain ⟨_, _⟩ := hh1; grind
  have hh2 : 0 ≤ h1 * h1 ∧ h1 * h1 ≤ h1 * (5111 / 10000000) := ⟨rsq_nonneg h1, Rat.mul_le_mul_of_nonneg_left bh1 (Rat.le_of_lt h1p)⟩
  have wh2 : Wn (h1 * h1 / 2) (h1 * (256 / 1000000)) := ⟨by grind, by grind⟩
  obtain ⟨ϱ, hϱ⟩ : ∃ ϱ, R1 = R * ϱ := ⟨R1 / R, by have := div_mul_c (a := R1) (ne_of_pos Rp) rfl; grind⟩
  have ϱp : 0 < ϱ := pos_mul_r Rp (by rw [← hϱ]; exact R1p)
  have RRp : 0 < R * R := Rat.mul_pos Rp Rp
  have RR1p : 0 < R * R1 := Rat.mul_pos Rp R1p
  have hlo : 147 / 1000000 ≤ h1 := by obtain ⟨_, _⟩ := hh1; grind
  -- how much the cosine turns
  have dγ : Wn (γ1 - γ) (h1 * (1058 / 10000)) := by
    refine (wn_sub hγ (wn_add (wn_mul wγ wh2) (wn_mul bs (wn_pos (Rat.le_of_lt h1p))))).of (by grind) (by grind)
  have key : Wn (ϱ * ϱ - 1) (39 / 1000000) := by
    refine wn_scaled RRp ?_
    have e : R * R * (ϱ * ϱ - 1) = R1 * R1 - R * R := by rw [hϱ]; grind
    rw [e]
    have hR := f.hR
    have sp : Wn (γ1 + γ) (20002 / 10000) := by obtain ⟨_, _⟩ := dγ; constructor <;> grind
    have m := wn_mul dγ sp
    have R1R : R1 * R1 ≤ 12 := by
      have TT3 := sq_le_sq (show 0 ≤ T by grind) f.T2
      have tt := (wn_mul bt bt).2
      have gg := (wn_mul (show Wn γ1 (1001 / 1000) from by obtain ⟨_, _⟩ := dγ; constructor <;> grind) (show Wn γ1 (1001 / 1000) from by obtain ⟨_, _⟩ := dγ; constructor <;> grind)).2
      obtain ⟨_, _⟩ := hR1
      grind
    have RR3 : R * R ≤ 10 := by have := sq_le_sq (show 0 ≤ T by grind) f.T2; grind
    refine (wn_add (wn_sub hR1 hR) m).of (by grind) ?_
    have Rlo : 984 / 1000 ≤ R := by grind
    have := Rat.mul_le_mul_of_nonneg_left Rlo (Rat.le_of_lt Rp)
    grind
  have dϱ : Wn (ϱ - 1) (196 / 10000000) := by
    have sp : 0 < ϱ + 1 := by grind
    refine wn_scaled sp ?_
    refine key.of (by grind) ?_
    have : 9999 / 10000 ≤ ϱ := le_of_sq (by grind) (by obtain ⟨_, _⟩ := key; grind)
    grind
  obtain ⟨ξ, hξ⟩ : ∃ ξ, h1 = h * ξ := ⟨h1 / h, by have := div_mul_c (a := h1) (ne_of_pos hp) rfl; grind⟩
  have bξ : Wn (ξ - 1) (2 / 10000000) := by
    refine wn_scaled hp ?_
    rw [show h * (ξ - 1) = h1 - h by rw [hξ]; grind]
    exact hh1
  obtain ⟨F, hF⟩ : ∃ F, F * ϱ = ξ := ⟨ξ / ϱ, div_mul_c (ne_of_pos ϱp) rfl⟩
  have bF : Wn (F - 1) (2 / 100000) := by
    refine wn_scaled ϱp ?_
    have e : ϱ * (F - 1) = (ξ - 1) - (ϱ - 1) := by
      rw [show ϱ * (F - 1) = F * ϱ - ϱ by grind, hF]; grind
    rw [e]
    refine (wn_sub bξ dϱ).mono ?_
    have := dϱ.1
    grind
  obtain ⟨k, hk⟩ : ∃ k, k = h / (R * R) := ⟨_, rfl⟩
  have hkR : k * (R * R) = h := div_mul_c (ne_of_pos RRp) hk
  have hm : h / R = k * R := by
    have := div_mul_c (a := h) (ne_of_pos Rp) rfl
    have l1 : R * (h / R) ≤ R * (k * R) := by have : R * (k * R) = k * (R * R) := by grind
                                              rw [this, hkR]; grind
    have l2 : R * (k * R) ≤ R * (h / R) := by have : R * (k * R) = k * (R * R) := by grind
                                              rw [this, hkR]; grind
    have := le_of_scaled Rp l1
    have := le_of_scaled Rp l2
    grind
  rw [← hk, hm]
  have kp : 0 < k := pos_mul_r RRp (by rw [show R * R * k = k * (R * R) by grind, hkR]; exact hp)
  have kR0 : 0 < k * R := Rat.mul_pos kp Rp
  have mlo : 1730 / 10000000 ≤ k * R := by
    refine le_of_scaled Rp ?_
    rw [show R * (k * R) = k * (R * R) by grind, hkR]; exact q3
  have kF : h1 = k * F * (R * R1) := by
    rw [hξ, ← hkR, hϱ]
    have : k * F * (R * (R * ϱ)) = k * (R * R) * (F * ϱ) := by grind
    rw [this, hF]
  have Tq : T ≤ R * R1 * 2 := by
    have := mul_mono (show 0 ≤ T by grind) (show T ≤ R * (10060 / 10000) by grind) (show (0 : Rat) ≤ 85 / 100 by grind) R10
    grind
  have m6 := Rat.mul_le_mul_of_nonneg_left mlo (Rat.le_of_lt RR1p)
  -- the two parts, less the bend
  have c1 : Wn (R * R1 * (-η + k * F * (T * γ)) - h1 * h1 / 2 * (T * σ)) (37 / 1000000 * (R * R1 * (k * R))) := by
    have e : R * R1 * (-η + k * F * (T * γ)) - h1 * h1 / 2 * (T * σ) = ((T' - T) * σ - T * (σ1 - (σ * (1 - h1 * h1 / 2) + γ * h1))) - (η * (R * R1) - (σ1 * T - T' * σ)) := by
      have : R * R1 * (k * F * (T * γ)) = (k * F * (R * R1)) * (T * γ) := by grind
      rw [show R * R1 * (-η + k * F * (T * γ)) = -(η * (R * R1)) + R * R1 * (k * F * (T * γ)) by grind, this, ← kF]; grind
    rw [e]
    refine (wn_sub (wn_sub (wn_mul hT' bs) (wn_mul (wn_pos (Rat.le_of_lt Tp)) hσ)) hv).mono ?_
    clear hu hv e hT' hσ hγ kF hR1 key dγ
    generalize k * R = m at *
    generalize R * R1 = Q at *
    grind
  have c2 : Wn (R * R1 * (θ - k * F * (τ * σ)) - h1 * h1 / 2 * (τ * γ)) (7 / 1000000 * (R * R1 * (k * R))) := by
    have e : R * R1 * (θ - k * F * (τ * σ)) - h1 * h1 / 2 * (τ * γ) = (θ * (R * R1) - (τ * γ - γ1 * τ)) - τ * (γ1 - (γ * (1 - h1 * h1 / 2) - σ * h1)) := by
      have : R * R1 * (k * F * (τ * σ)) = (k * F * (R * R1)) * (τ * σ) := by grind
      rw [show R * R1 * (θ - k * F * (τ * σ)) = θ * (R * R1) - R * R1 * (k * F * (τ * σ)) by grind, this, ← kF]; grind
    rw [e]
    refine (wn_sub hu (wn_mul bt hγ)).mono ?_
    clear hu hv e hT' hσ hγ kF hR1 key dγ c1
    generalize k * R = m at *
    generalize R * R1 = Q at *
    grind
  have bend := f.size2.sc (c := h1 * h1 / 2) (show Wn (h1 * h1 / 2) (h1 * (2556 / 10000000)) from ⟨by grind, by grind⟩)
  have all : MB (Cx.sc (R * R1) ((⟨-η, θ⟩ : Cx).sub (Cx.sc (k * F) ⟨-(T * γ), τ * σ⟩))) (R * R1 * (294 / 1000000 * (k * R))) := by
    have small : MB (⟨R * R1 * (-η + k * F * (T * γ)) - h1 * h1 / 2 * (T * σ), R * R1 * (θ - k * F * (τ * σ)) - h1 * h1 / 2 * (τ * γ)⟩ : Cx) (R * R1 * (k * R) * (377 / 10000000)) := by
      refine MB.of c1 c2 (by have := Rat.mul_pos RR1p kR0; grind) ?_
      have := rsq_nonneg (R * R1 * (k * R))
      grind
    refine ((small.add bend).cast ?_).mono ?_
    · exact Cx.ext' (by simp; grind) (by simp; grind)
    · rw [kF]
      have b2 := Rat.mul_le_mul_of_nonneg_left (show F ≤ 1 + 2 / 100000 by have := bF.2; grind) (Rat.le_of_lt (Rat.mul_pos RR1p kR0))
      have e : k * F * (R * R1) * (2556 / 10000000) * (R * (1000001 / 1000000)) = R * R1 * (k * R) * F * (2556 / 10000000 * (1000001 / 1000000)) := by grind
      rw [e]
      grind
  have m1 : MB ((⟨-η, θ⟩ : Cx).sub (Cx.sc (k * F) ⟨-(T * γ), τ * σ⟩)) (294 / 1000000 * (k * R)) := by
    refine ⟨by grind, ?_⟩
    obtain ⟨_, a2⟩ := all
    generalize (⟨-η, θ⟩ : Cx).sub (Cx.sc (k * F) ⟨-(T * γ), τ * σ⟩) = Z at *
    have QQ := Rat.mul_pos RR1p RR1p
    refine le_of_scaled QQ ?_
    have e : (Cx.sc (R * R1) Z).re * (Cx.sc (R * R1) Z).re + (Cx.sc (R * R1) Z).im * (Cx.sc (R * R1) Z).im = R * R1 * (R * R1) * (Z.re * Z.re + Z.im * Z.im) := by simp; grind
    rw [e] at a2
    refine Rat.le_trans a2 ?_
    have e2 : R * R1 * (294 / 1000000 * (k * R)) * (R * R1 * (294 / 1000000 * (k * R))) = R * R1 * (R * R1) * (294 / 1000000 * (k * R) * (294 / 1000000 * (k * R))) := by grind
    rw [e2]; exact Rat.le_refl
  have sz : MB (⟨-(T * γ), τ * σ⟩ : Cx) (R * (1000001 / 1000000)) := by
    obtain ⟨a1, a2⟩ := f.size
    refine ⟨a1, ?_⟩
    simp only at a2 ⊢
    grind
  have m2 := sz.sc (c := (F - 1) * k) (wn_mul bF (wn_pos (Rat.le_of_lt kp)))
  refine ((m1.add m2).cast ?_).mono (by grind)
  exact Cx.ext' (by simp; grind) (by simp; grind)
end Go.Fp.Tri

/- Two steps on paper that are nearly as long as each other and nearly square to each other. -/
namespace Go.Fp.Tri
open Go.Fp
set_option maxRecDepth 20000
theorem MB.conj {z : Cx} {r : Rat} (h : MB z r) : MB (⟨z.re, -z.im⟩ : Cx) r := ⟨h.1, by have := h.2; simp only; grind⟩
theorem MB.quarter {z : Cx} {r : Rat} (h : MB z r) : MB (⟨-z.im, z.re⟩ : Cx) r := ⟨h.1, by have := h.2; simp only; grind⟩
/-- north u, east v, as they are to be: q and a quarter turn of it -/
structure Pl (u v q : Cx) (L : Rat) : Prop where
  L0 : 0 < L
  q1 : L * L * (1 - 1 / 1000000) ≤ q.re * q.re + q.im * q.im
  q2 : q.re * q.re + q.im * q.im ≤ L * L * (1 + 1 / 1000000)
  hu : MB (u.sub q) (622 / 1000000 * L)
  hv : MB (v.sub ⟨-q.im, q.re⟩) (332 / 1000000 * L)
variable {u v q : Cx} {L : Rat}
theorem Pl.mq (h : Pl u v q L) : MB q (L * (1 + 1 / 1000000)) := by
  have L0 := h.L0
  have q2 := h.q2
  refine ⟨by grind, ?_⟩
  have := Rat.mul_pos L0 L0
  grind
theorem Pl.tests (h : Pl u v q L) :
    99875 / 100000 * (L * L) ≤ u.re * u.re + u.im * u.im ∧ u.re * u.re + u.im * u.im ≤ 100125 / 100000 * (L * L) ∧ v.re * v.re + v.im * v.im ≤ 1002 / 1000 * (L * L) ∧
    Wn (v.re * v.re + v.im * v.im - (u.re * u.re + u.im * u.im)) (1915 / 1000000 * (u.re * u.re + u.im * u.im)) ∧ Wn (u.re * v.re + u.im * v.im) (958 / 1000000 * (u.re * u.re + u.im * u.im)) ∧ 99 / 100 * (L * L) ≤ u.re * v.im - u.im * v.re := by
  obtain ⟨a, ha⟩ : ∃ a, a = u.sub q := ⟨_, rfl⟩
  obtain ⟨b, hb⟩ : ∃ b, b = v.sub ⟨-q.im, q.re⟩ := ⟨_, rfl⟩
  have hu := h.hu
  have hv := h.hv
  rw [← ha] at hu
  rw [← hb] at hv
  have eu1 : u.re = q.re + a.re := by rw [ha]; simp; grind
  have eu2 : u.im = q.im + a.im := by rw [ha]; simp; grind
  have ev1 : v.re = -q.im + b.re := by rw [hb]; simp; grind
  have ev2 : v.im = q.re + b.im := by rw [hb]; simp; grind
  have mq := h.mq
  have L0 := h.L0
  have LL := Rat.mul_pos L0 L0
  -- q bar a, q bar b, a bar b
  have x1 := mq.conj.mul hu
  have x2 := mq.conj.mul hv
  have x3 := hu.conj.mul hv
  have r1 := x1.re
  have r2 := x1.im
  have r3 := x2.re
  have r4 := x2.im
  have r5 := x3.re
  have r6 := x3.im
  simp only [Cx.mul_re, Cx.mul_im] at r1 r2 r3 r4 r5 r6
  obtain ⟨q1, q2⟩ := And.intro h.q1 h.q2
  obtain ⟨_, a2⟩ := hu
  obtain ⟨_, b2⟩ := hv
  have aa : 0 ≤ a.re * a.re + a.im * a.im := by have := rsq_nonneg a.re; have := rsq_nonneg a.im; grind
  have bb : 0 ≤ b.re * b.re + b.im * b.im := by have := rsq_nonneg b.re; have := rsq_nonneg b.im; grind
  obtain ⟨N, hN⟩ : ∃ N, N = u.re * u.re + u.im * u.im := ⟨_, rfl⟩
  have eN : N = (q.re * q.re + q.im * q.im) + 2 * (q.re * a.re + q.im * a.im) + (a.re * a.re + a.im * a.im) := by rw [hN, eu1, eu2]; grind
  have eM : v.re * v.re + v.im * v.im = (q.re * q.re + q.im * q.im) + 2 * (q.re * b.im - q.im * b.re) + (b.re * b.re + b.im * b.im) := by rw [ev1, ev2]; grind
  have eD : u.re * v.re + u.im * v.im = (q.re * b.re + q.im * b.im) + (a.im * q.re - a.re * q.im) + (a.re * b.re + a.im * b.im) := by rw [eu1, eu2, ev1, ev2]; grind
  have eC : u.re * v.im - u.im * v.re = (q.re * q.re + q.im * q.im) + (q.re * b.im - q.im * b.re) + (q.re * a.re + q.im * a.im) + (a.re * b.im - a.im * b.re) := by rw [eu1, eu2, ev1, ev2]; grind
  rw [← hN, eM, eD, eC]
  obtain ⟨r1a, r1b⟩ := r1
  obtain ⟨r2a, r2b⟩ := r2
  obtain ⟨r3a, r3b⟩ := r3
  obtain ⟨r4a, r4b⟩ := r4
  obtain ⟨r5a, r5b⟩ := r5
  obtain ⟨r6a, r6b⟩ := r6
  have N1 : 99875 / 100000 * (L * L) ≤ N := by rw [eN]; grind
  have N2 : N ≤ 100125 / 100000 * (L * L) := by rw [eN]; grind
  refine ⟨by grind, N2, by grind, ?_, ?_, by grind⟩
  · constructor <;> grind
  · constructor <;> grind
/-- against the direction of north -/
theorem Pl.turned (h : Pl u v q L) {st ct : Rat} (h1 : Wn (q.re - L * st) (1 / 100000 * L)) (h2 : Wn (q.im - L * ct) (1 / 100000 * L)) (bs : Wn st (100001 / 100000)) (bc : Wn ct (100001 / 100000)) :
    Wn (-u.re * ct + u.im * st) (645 / 1000000 * L) ∧ 98 / 100 * L ≤ u.im * ct + u.re * st := by
  obtain ⟨a, ha⟩ : ∃ a, a = u.sub q := ⟨_, rfl⟩
  have hu := h.hu
  rw [← ha] at hu
  have eu1 : u.re = q.re + a.re := by rw [ha]; simp; grind
  have eu2 : u.im = q.im + a.im := by rw [ha]; simp; grind
  have L0 := h.L0
  have q1 := h.q1
  have q2 := h.q2
  -- the length of (st, ct): L L (st st + ct ct) is near
  have hq := h.mq
  have k1 := wn_mul h1 bc
  have k2 := wn_mul h2 bs
  have hd : MB (⟨st, ct⟩ : Cx) (100002 / 100000) := by
    refine ⟨by grind, ?_⟩
    show st * st + ct * ct ≤ _
    have LL := Rat.mul_pos L0 L0
    refine le_of_scaled LL ?_
    have e : L * L * (st * st + ct * ct) = (q.re * q.re + q.im * q.im) - 2 * ((q.re - L * st) * q.re + (q.im - L * ct) * q.im) + ((q.re - L * st) * (q.re - L * st) + (q.im - L * ct) * (q.im - L * ct)) := by grind
    rw [e]
    have m : MB (⟨q.re - L * st, q.im - L * ct⟩ : Cx) (142 / 10000000 * L) := MB.of h1 h2 (by grind) (by grind)
    have x := (m.conj.mul hq).re
    simp only [Cx.mul_re] at x
    obtain ⟨_, m2⟩ := m
    simp only at m2
    obtain ⟨_, _⟩ := x
    grind
  have x := (hd.conj.mul hu)
  have xr := x.re
  have xi := x.im
  simp only [Cx.mul_re, Cx.mul_im] at xr xi
  constructor
  · refine (wn_add (wn_sub k2 k1) xi).of ?_ (by grind)
    rw [eu1, eu2]; grind
  · have m : MB (⟨q.re - L * st, q.im - L * ct⟩ : Cx) (142 / 10000000 * L) := MB.of h1 h2 (by grind) (by grind)
    have y := (m.conj.mul hq).re
    simp only [Cx.mul_re] at y
    refine le_of_scaled L0 ?_
    have e : L * (u.im * ct + u.re * st) = (q.re * q.re + q.im * q.im) - ((q.re - L * st) * q.re + (q.im - L * ct) * q.im) + L * (st * a.re + ct * a.im) := by rw [eu1, eu2]; grind
    rw [e]
    have z := Rat.mul_le_mul_of_nonneg_left xr.1 (Rat.le_of_lt L0)
    obtain ⟨_, _⟩ := y
    have LL := Rat.mul_pos L0 L0
    have : L * (st * a.re + ct * a.im) = L * (st * a.re - -ct * a.im) := by grind
    rw [this]
    generalize L * (st * a.re - -ct * a.im) = w at *
    clear this e k1 k2 xr xi hd h1 h2 bs bc eu1 eu2
    grind
end Go.Fp.Tri

/- The series of two places that lie near each other: how they differ, by the series' slope. -/
namespace Go.Fp.Tri
open Go.Fp
set_option maxRecDepth 20000
/-- the series' slope -/
def dA (n : Rat) (E F : Cx) : Cx := sum4 (nv n pA1) (2 * nv n pA2) (3 * nv n pA3) (4 * nv n pA4) ((zpw E F 1).add (zpw E F (-1))) ((zpw E F 2).add (zpw E F (-2))) ((zpw E F 3).add (zpw E F (-3))) ((zpw E F 4).add (zpw E F (-4)))
theorem near_mul {m0 m1 D : Int} {y0 y1 X P e b : Rat} {z0 z1 d : Cx} (hm : m1 = m0 + D) (hy : y1 = y0 + X) (b0 : Wn y0 7) (b1 : Wn y1 7) (bX : Wn X 7) (p0 : EX y0 ≤ P) (p1 : EX y1 ≤ P) (h1 : MB (z1.sub (Wv m1 y1)) e) (h0 : MB (z0.sub (Wv m0 y0)) e) (hd : MB ((Wv D X).sub (Cx.one.add d)) b) (sd : MB d 1) :
    MB (z1.sub (z0.mul (Cx.one.add d))) (3 * e + 8 / 1000000000000 * P + P * (1000001 / 1000000) * b) := by
  have A := Wv_add m0 D b0 bX (by rw [← hy]; exact b1)
  rw [← hm, ← hy] at A
  have B := ((Wv_bd m0 b0).mono (show _ ≤ P * (1000001 / 1000000) by grind)).mul hd
  have C := h0.mul (MB.one.add sd)
  refine ((((h1.add A).add B).sub C).cast ?_).mono ?_
  · generalize Wv m1 y1 = w1
    generalize Wv m0 y0 = w0
    generalize Wv D X = wd
    exact Cx.ext' (by simp; grind) (by simp; grind)
  · grind
variable {u u1 : Int} {v v1 K : Rat}
theorem pow_step (h : Wave u v K) (h1 : Wave u1 v1 K) (j : Nat) (hj : j ≤ 4) {x θ Y B : Rat} (hx : x = -2 * (v1 - v)) (hθ : θ = 2 * (((u1 - u : Int) : Rat) * rho)) (bx : Wn ((j : Rat) * x) Y) (bt : Wn ((j : Rat) * θ) Y) (hY : Y ≤ 2 / 1000) (hB1 : qbd Q1re Y Y ≤ B) (hB2 : qbd Q1im Y Y ≤ B) :
    MB ((zpw (wE u1 v1) (wF u1 v1) (j : Int)).sub ((zpw (wE u v) (wF u v) (j : Int)).mul (Cx.one.add (Cx.sc (j : Rat) ⟨x, θ⟩)))) (rpw (30003 / 10000) j * (2 * B + 1 / 1000000000)) ∧
    MB ((zpw (wE u1 v1) (wF u1 v1) (-(j : Int))).sub ((zpw (wE u v) (wF u v) (-(j : Int))).mul (Cx.one.add (Cx.sc (-(j : Rat)) ⟨x, θ⟩)))) (rpw (30003 / 10000) j * (2 * B + 1 / 1000000000)) := by
  obtain ⟨p1, p2, p3, p4⟩ := h.pow j hj
  obtain ⟨q1, q2, q3, q4⟩ := h1.pow j hj
  have j0 : (0 : Rat) ≤ (j : Rat) := by exact_mod_cast Nat.zero_le j
  have j4 : (j : Rat) ≤ 4 := by exact_mod_cast hj
  obtain ⟨D, hD⟩ : ∃ D : Int, D = (j : Int) * (2 * (u1 - u)) := ⟨_, rfl⟩
  obtain ⟨X, hX⟩ : ∃ X, X = (j : Rat) * x := ⟨_, rfl⟩
  obtain ⟨Θ, hΘ⟩ : ∃ Θ, Θ = (j : Rat) * θ := ⟨_, rfl⟩
  rw [← hX] at bx
  rw [← hΘ] at bt
  have eD : Θ = (D : Rat) * rho := by rw [hΘ, hθ, hD]; push_cast; grind
  have sD := small_step (m := D) eD bx bt (by grind)
  have sG := small_step (m := -D) (θ := -Θ) (by rw [eD]; push_cast; grind) (wn_negy bx) (wn_negy bt) (by grind)
  have t1 := step1 bx bt hB1 hB2
  have t2 := step1 (wn_negy bx) (wn_negy bt) hB1 hB2
  have Y0 := bx.nonneg
  have sd : MB (⟨X, Θ⟩ : Cx) 1 := MB.of (bx.mono hY) (bt.mono hY) (by grind) (by grind)
  have sd2 : MB (⟨-X, -Θ⟩ : Cx) 1 := MB.of ((wn_negy bx).mono hY) ((wn_negy bt).mono hY) (by grind) (by grind)
  have d1 := (sD.add t1).cast (w := (Wv D X).sub (Cx.one.add ⟨X, Θ⟩)) (by
    generalize Wv D X = w
    exact Cx.ext' (by simp; grind) (by simp; grind))
  have d2 := (sG.add t2).cast (w := (Wv (-D) (-X)).sub (Cx.one.add ⟨-X, -Θ⟩)) (by
    generalize Wv (-D) (-X) = w
    exact Cx.ext' (by simp; grind) (by simp; grind))
  have bv := h.bv
  have bv1 := h1.bv
  have w8 : Wn (j : Rat) 4 := ⟨by grind, j4⟩
  have c1 : Wn ((j : Rat) * (2 * v)) 7 := (wn_mul w8 (wn_mul (show Wn (2 : Rat) 2 from ⟨by grind, by grind⟩) bv)).mono (by grind)
  have c2 : Wn ((j : Rat) * (2 * v1)) 7 := (wn_mul w8 (wn_mul (show Wn (2 : Rat) 2 from ⟨by grind, by grind⟩) bv1)).mono (by grind)
  have c3 : Wn ((j : Rat) * -(2 * v)) 7 := (wn_negy c1).of (by grind) Rat.le_refl
  have c4 : Wn ((j : Rat) * -(2 * v1)) 7 := (wn_negy c2).of (by grind) Rat.le_refl
  have e1 : (j : Int) * (2 * u1) = (j : Int) * (2 * u) + D := by rw [hD]; grind
  have e2 : (j : Rat) * -(2 * v1) = (j : Rat) * -(2 * v) + X := by rw [hX, hx]; grind
  have e3 : (j : Int) * -(2 * u1) = (j : Int) * -(2 * u) + -D := by rw [hD]; grind
  have e4 : (j : Rat) * (2 * v1) = (j : Rat) * (2 * v) + -X := by rw [hX, hx]; grind
  have r1 := near_mul e1 e2 c3 c4 (bx.mono (by grind)) p4 q4 q1 p1 d1 sd
  have r2 := near_mul e3 e4 c1 c2 ((wn_negy bx).mono (by grind)) p3 q3 q2 p2 d2 sd2
  have R0 : 0 < rpw (30003 / 10000) j := by
    have := EX_pos c1
    grind
  generalize rpw (30003 / 10000) j = R at *
  have jR := Rat.mul_le_mul_of_nonneg_right j4 (Rat.le_of_lt R0)
  have B0 : 0 ≤ B := by have := t1.1; grind
  have RB := Rat.mul_nonneg (Rat.le_of_lt R0) B0
  have num : 3 * ((j : Rat) * (18 / 1000000000000) * R) + 8 / 1000000000000 * R + R * (1000001 / 1000000) * (1 / 10000000000 + 3 / 2 * B) ≤ R * (2 * B + 1 / 1000000000) := by
    have e : (j : Rat) * (18 / 1000000000000) * R = 18 / 1000000000000 * ((j : Rat) * R) := by grind
    rw [e]
    generalize (j : Rat) * R = jr at *
    grind
  constructor
  · refine (r1.cast ?_).mono num
    rw [hX, hΘ]
    generalize zpw (wE u1 v1) (wF u1 v1) (j : Int) = z1
    generalize zpw (wE u v) (wF u v) (j : Int) = z0
    exact Cx.ext' (by simp) (by simp)
  · refine (r2.cast ?_).mono num
    rw [hX, hΘ]
    generalize zpw (wE u1 v1) (wF u1 v1) (-(j : Int)) = z1
    generalize zpw (wE u v) (wF u v) (-(j : Int)) = z0
    exact Cx.ext' (by simp; grind) (by simp; grind)
theorem q1_1 : qbd Q1re (4 / 10000) (4 / 10000) ≤ 17 / 100000000 ∧ qbd Q1im (4 / 10000) (4 / 10000) ≤ 17 / 100000000 := by decide +kernel
theorem q1_4 : qbd Q1re (16 / 10000) (16 / 10000) ≤ 26 / 10000000 ∧ qbd Q1im (16 / 10000) (16 / 10000) ≤ 26 / 10000000 := by decide +kernel
theorem bA_small : nbd (2005 / 1000000) pA1 ≤ 101 / 100000 ∧ nbd (2005 / 1000000) pA2 ≤ 11 / 10000000 ∧ nbd (2005 / 1000000) pA3 ≤ 21 / 10000000000 ∧ nbd (2005 / 1000000) pA4 ≤ 5 / 1000000000000 := by decide +kernel
/-- how the series of places that lie near differ -/
theorem series_slope {n : Rat} (hn : Wn n (2005 / 1000000)) (h : Wave u v K) (h1 : Wave u1 v1 K) {x θ : Rat} (hx : x = -2 * (v1 - v)) (hθ : θ = 2 * (((u1 - u : Int) : Rat) * rho)) (bx : Wn x (4 / 10000)) (bt : Wn θ (4 / 10000)) :
    MB (((serA n (wE u1 v1) (wF u1 v1)).sub (serA n (wE u v) (wF u v))).sub ((⟨x, θ⟩ : Cx).mul (dA n (wE u v) (wF u v)))) (26 / 10000000000) := by
  obtain ⟨c1, c2, c3, c4⟩ := bA_small
  have b0 := (nv_bd hn pA1).mono c1
  have b1 := (nv_bd hn pA2).mono c2
  have b2 := (nv_bd hn pA3).mono c3
  have b3 := (nv_bd hn pA4).mono c4
  have wx : ∀ j : Rat, 0 ≤ j → j ≤ 4 → Wn (j * x) (16 / 10000) ∧ Wn (j * θ) (16 / 10000) := fun j h0 h4 => by
    have wj : Wn j 4 := ⟨by grind, h4⟩
    exact ⟨(wn_mul wj bx).mono (by grind), (wn_mul wj bt).mono (by grind)⟩
  have s1 := pow_step h h1 1 (by omega) hx hθ (bx.of (by grind) Rat.le_refl) (bt.of (by grind) Rat.le_refl) (by grind) q1_1.1 q1_1.2
  have s2 := pow_step h h1 2 (by omega) hx hθ (wx 2 (by grind) (by grind)).1 (wx 2 (by grind) (by grind)).2 (by grind) q1_4.1 q1_4.2
  have s3 := pow_step h h1 3 (by omega) hx hθ (wx 3 (by grind) (by grind)).1 (wx 3 (by grind) (by grind)).2 (by grind) q1_4.1 q1_4.2
  have s4 := pow_step h h1 4 (by omega) hx hθ (wx 4 (by grind) (by grind)).1 (wx 4 (by grind) (by grind)).2 (by grind) q1_4.1 q1_4.2
  rw [serA_eq h.inv, serA_eq h1.inv]
  unfold dA
  obtain ⟨z1, z2, z3, z4⟩ := rpw3
  rw [z1] at s1
  have m2 := Rat.mul_le_mul_of_nonneg_right z2 (show (0 : Rat) ≤ 2 * (26 / 10000000) + 1 / 1000000000 by grind)
  have m3 := Rat.mul_le_mul_of_nonneg_right z3 (show (0 : Rat) ≤ 2 * (26 / 10000000) + 1 / 1000000000 by grind)
  have m4 := Rat.mul_le_mul_of_nonneg_right z4 (show (0 : Rat) ≤ 2 * (26 / 10000000) + 1 / 1000000000 by grind)
  have f1 := (s1.1.sub s1.2)
  have f2 := ((s2.1.mono m2).sub (s2.2.mono m2))
  have f3 := ((s3.1.mono m3).sub (s3.2.mono m3))
  have f4 := ((s4.1.mono m4).sub (s4.2.mono m4))
  have g := (((f1.sc b0).add (f2.sc b1)).add (f3.sc b2)).add (f4.sc b3)
  refine (g.cast ?_).mono (by grind)
  unfold sum4
  have n1 : ((1 : Nat) : Int) = 1 := rfl
  have n2 : ((2 : Nat) : Int) = 2 := rfl
  have n3 : ((3 : Nat) : Int) = 3 := rfl
  have n4 : ((4 : Nat) : Int) = 4 := rfl
  have k1 : ((1 : Nat) : Rat) = 1 := rfl
  have k2 : ((2 : Nat) : Rat) = 2 := rfl
  have k3 : ((3 : Nat) : Rat) = 3 := rfl
  have k4 : ((4 : Nat) : Rat) = 4 := rfl
  simp only [n1, n2, n3, n4, k1, k2, k3, k4]
  generalize nv n pA1 = a1
  generalize nv n pA2 = a2
  generalize nv n pA3 = a3
  generalize nv n pA4 = a4
  generalize zpw (wE u v) (wF u v) 1 = A1
  generalize zpw (wE u v) (wF u v) 2 = A2
  generalize zpw (wE u v) (wF u v) 3 = A3
  generalize zpw (wE u v) (wF u v) 4 = A4
  generalize zpw (wE u v) (wF u v) (-1) = B1
  generalize zpw (wE u v) (wF u v) (-2) = B2
  generalize zpw (wE u v) (wF u v) (-3) = B3
  generalize zpw (wE u v) (wF u v) (-4) = B4
  generalize zpw (wE u1 v1) (wF u1 v1) 1 = C1
  generalize zpw (wE u1 v1) (wF u1 v1) 2 = C2
  generalize zpw (wE u1 v1) (wF u1 v1) 3 = C3
  generalize zpw (wE u1 v1) (wF u1 v1) 4 = C4
  generalize zpw (wE u1 v1) (wF u1 v1) (-1) = D1
  generalize zpw (wE u1 v1) (wF u1 v1) (-2) = D2
  generalize zpw (wE u1 v1) (wF u1 v1) (-3) = D3
  generalize zpw (wE u1 v1) (wF u1 v1) (-4) = D4
  exact Cx.ext' (by simp; grind) (by simp; grind)
end Go.Fp.Tri
