/- Where a place is on the ball that lies along the meridian: the floats against the rational numbers. -/
import Derived.Test.YtcppgbhjbmfldaaDoorZR
namespace Go.Fp.Tri
open Go.Fp
set_option maxRecDepth 20000
theorem EX_3 : EX 3 ≤ 201 / 10 ∧ EX (-3) ≤ 5 / 100 ∧ 54 ≤ EX 4 := by decide +kernel
/-- the exponential of the opposite -/
theorem inv_near {v r X : Rat} (hv : Wn v 7) (hr : Rn (EX v) (X + r) (2 / 10000000000)) (hr2 : Wn (r * r - (1 + X * X)) (2 / 1000000000000000 * (1 + X * X))) (r1 : 99 / 100 ≤ r) (hX : Wn X 20) :
    0 < r - X ∧ Wn (EX (-v) - (r - X)) (3 / 10000000000 * (r - X)) := by
  have XX := (wn_mul hX hX).2
  have X0 := rsq_nonneg X
  obtain ⟨q1, q2⟩ := hr2
  obtain ⟨x1, x2⟩ := hX
  obtain ⟨w0, e1, e2⟩ := hr
  have n := EX_neg hv
  have pn := EX_pos (wn_negy hv)
  have prod : Wn ((X + r) * (r - X) - 1) (1 / 1000000000000) := by
    have e : (X + r) * (r - X) = r * r - X * X := by grind
    rw [e]
    constructor <;> grind
  have d0 : 0 < r - X := by
    rcases Rat.le_total (a := X) (b := 0) with k | k
    · grind
    · have := le_of_sq (a := X + 1 / 100) (b := r) (by grind) (by grind)
      grind
  refine ⟨d0, ?_⟩
  obtain ⟨n1, n2⟩ := n
  obtain ⟨p1, p2⟩ := prod
  generalize EX v = a at *
  generalize EX (-v) = b at *
  have k1 := Rat.mul_le_mul_of_nonneg_right (show a ≤ (X + r) + 2 / 10000000000 * (X + r) by grind) (Rat.le_of_lt d0)
  have k2 := Rat.mul_le_mul_of_nonneg_right (show (X + r) - 2 / 10000000000 * (X + r) ≤ a by grind) (Rat.le_of_lt d0)
  have ka : a * (r - X) ≤ 1 + 21 / 100000000000 := by
    have e : ((X + r) + 2 / 10000000000 * (X + r)) * (r - X) = (1 + 2 / 10000000000) * ((X + r) * (r - X)) := by grind
    rw [e] at k1
    generalize (X + r) * (r - X) = P at *
    grind
  have kb : 1 - 21 / 100000000000 ≤ a * (r - X) := by
    have e : ((X + r) - 2 / 10000000000 * (X + r)) * (r - X) = (1 - 2 / 10000000000) * ((X + r) * (r - X)) := by grind
    rw [e] at k2
    generalize (X + r) * (r - X) = P at *
    grind
  have m1 := Rat.mul_le_mul_of_nonneg_right ka (Rat.le_of_lt pn)
  have m2 := Rat.mul_le_mul_of_nonneg_right kb (Rat.le_of_lt pn)
  have m3 := Rat.mul_le_mul_of_nonneg_right (show a * b ≤ 1 + 5 / 1000000000000 by grind) (Rat.le_of_lt d0)
  have m4 := Rat.mul_le_mul_of_nonneg_right (show 1 - 5 / 1000000000000 ≤ a * b by grind) (Rat.le_of_lt d0)
  have e3 : a * (r - X) * b = a * b * (r - X) := by grind
  rw [e3] at m1 m2
  generalize a * b * (r - X) = z at *
  constructor <;> grind
end Go.Fp.Tri
namespace Go.Proofs.YtcppgbhjbmfldaaDoor
open Go.Fp Go.Fp.Tri
set_option maxRecDepth 20000
/-- the hyperbolic sine of an isometric latitude, as a float; T is the cosine -/
theorem iso_T {ψ : Nat} (fψ : Fp.Fin ψ) (bψ : Wn (vl ψ) 3) : ∃ T : Rat, Fp.Fin (hypK (expP ψ)) ∧ Wn (T * T - (1 + vl (hypK (expP ψ)) * vl (hypK (expP ψ)))) (1 / 1000000000000 * (T * T)) ∧ 99 / 100 ≤ T ∧ T ≤ 103 / 10 ∧ 0 < vl (hypK (expP ψ)) + T ∧ Rn (EX (vl ψ)) (vl (hypK (expP ψ)) + T) (2 / 10000000000) := by
  have u1 : uu = 1 / 9007199254740992 := uu_eq
  obtain ⟨fp, hp⟩ := exp_EX fψ (bψ.mono (by grind))
  have b7 : Wn (vl ψ) 7 := bψ.mono (by grind)
  obtain ⟨E3, E3', _⟩ := EX_3
  have up := EX_mono b7 (show Wn (3 : Rat) 7 from ⟨by grind, by grind⟩) bψ.2 (by have := bψ.1; grind)
  have lo := EX_mono (wn_negy b7) (show Wn (3 : Rat) 7 from ⟨by grind, by grind⟩) (by have := bψ.1; grind) (by have := bψ.2; grind)
  have n := EX_neg b7
  have x0 := EX_pos b7
  have y0 := EX_pos (wn_negy b7)
  unfold hypK
  rw [v_one.1.can, v_two.1.can]
  generalize expP ψ = p at *
  obtain ⟨_, h1, h2⟩ := hp
  -- P between .049 and 20.2
  have P1 : vl p ≤ 2015 / 100 := by grind
  have P0 : 49 / 1000 ≤ vl p := by
    obtain ⟨n1, n2⟩ := n
    have m := Rat.mul_le_mul_of_nonneg_left (show EX (-vl ψ) ≤ 2011 / 100 by grind) (Rat.le_of_lt x0)
    generalize EX (vl ψ) * EX (-vl ψ) = z at *
    grind
  have p0 : 0 < vl p := by grind
  have q0 : 1 / vl p * vl p = 1 := by grind
  obtain ⟨Q, hQ⟩ : ∃ Q, Q = 1 / vl p := ⟨_, rfl⟩
  have Q1 : Q ≤ 2041 / 100 := by
    rw [hQ]
    generalize 1 / vl p = Q at *
    refine le_of_scaled (R := vl p) p0 ?_
    grind
  have Q0 : 49 / 1000 ≤ Q := by
    rw [hQ]
    generalize 1 / vl p = Q at *
    refine le_of_scaled (R := vl p) p0 ?_
    grind
  obtain ⟨f1, d1⟩ := divE v_one.1 fp (ne_of_pos p0) 21 (by rw [v_one.2, ← hQ]; constructor <;> grind) (by grind)
  rw [v_one.2, ← hQ] at d1
  obtain ⟨r1, r2⟩ := d1
  rw [u1] at r1 r2
  obtain ⟨f2, d2⟩ := subE fp f1 21 (by constructor <;> grind) (by grind)
  obtain ⟨s1, s2⟩ := d2
  rw [u1] at s1 s2
  obtain ⟨f3, d3⟩ := divE f2 v_two.1 (by rw [v_two.2]; grind) 11 (by rw [v_two.2]; constructor <;> grind) (by grind)
  rw [v_two.2] at d3
  obtain ⟨t1, t2⟩ := d3
  rw [u1] at t1 t2
  rw [← hQ] at q0
  have et : Wn (vl (fdiv (fsub p (fdiv Fp.cOne p)) 4611686018427387904) - (vl p - Q) / 2) (8 / 1000000000000000) := by constructor <;> grind
  have hTu : (vl p + Q) / 2 ≤ 103 / 10 := by
    refine le_of_sq (by grind) ?_
    have e : (vl p + Q) / 2 * ((vl p + Q) / 2) = (vl p - Q) * (vl p - Q) / 4 + Q * vl p := by grind
    have b := (wn_mul (show Wn (vl p - Q) (204 / 10) from ⟨by grind, by grind⟩) (show Wn (vl p - Q) (204 / 10) from ⟨by grind, by grind⟩)).2
    rw [e, q0]
    grind
  refine ⟨(vl p + Q) / 2, f3, ?_, ?_, hTu, ?_, ?_⟩
  · have sum := wn_mul et (show Wn (vl (fdiv (fsub p (fdiv Fp.cOne p)) 4611686018427387904) + (vl p - Q) / 2) 21 from ⟨by obtain ⟨_, _⟩ := et; grind, by obtain ⟨_, _⟩ := et; grind⟩)
    generalize vl (fdiv (fsub p (fdiv Fp.cOne p)) 4611686018427387904) = τ at *
    generalize vl p = P at *
    have e : (P + Q) / 2 * ((P + Q) / 2) - (1 + τ * τ) = -((τ - (P - Q) / 2) * (τ + (P - Q) / 2)) + (Q * P - 1) := by grind
    rw [e, q0]
    have hT2 : 98 / 100 ≤ (P + Q) / 2 * ((P + Q) / 2) := by
      have := rsq_nonneg (P - Q)
      have e : (P + Q) / 2 * ((P + Q) / 2) = (P - Q) * (P - Q) / 4 + Q * P := by grind
      rw [e, q0]
      grind
    generalize (P + Q) / 2 * ((P + Q) / 2) = TT at *
    generalize (τ - (P - Q) / 2) * (τ + (P - Q) / 2) = z at *
    obtain ⟨_, _⟩ := sum
    constructor <;> grind
  · refine le_of_sq (a := 99 / 100) (by grind) ?_
    have := rsq_nonneg (vl p - Q)
    have e : (vl p + Q) / 2 * ((vl p + Q) / 2) = (vl p - Q) * (vl p - Q) / 4 + Q * vl p := by grind
    rw [e, q0]
    grind
  · obtain ⟨_, _⟩ := et
    grind
  · obtain ⟨e1, e2⟩ := et
    refine ⟨by grind, ?_⟩
    constructor <;> grind
end Go.Proofs.YtcppgbhjbmfldaaDoor

/- Where a place is on the ball that lies along the meridian: all that is to be known of it. -/
namespace Go.Proofs.YtcppgbhjbmfldaaDoor
open Go.Fp Go.Fp.Tri
set_option maxRecDepth 20000
abbrev lT (ψ : Nat) : Nat := hypK (expP ψ)
abbrev lR (ψ c : Nat) : Nat := fsqrt (fadd (fmul (lT ψ) (lT ψ)) (fmul c c))
abbrev lX (ψ c s : Nat) : Nat := fdiv s (lR ψ c)
abbrev lV (ψ c s : Nat) : Nat := unP (lX ψ c s)
abbrev lU (ψ c : Nat) : Int := angS (lT ψ) c
structure Look (ψ c s : Nat) (T r : Rat) : Prop where
  ft : Fp.Fin (lT ψ)
  hT : Wn (T * T - (1 + vl (lT ψ) * vl (lT ψ))) (1 / 1000000000000 * (T * T))
  T1 : 99 / 100 ≤ T
  T2 : T ≤ 103 / 10
  tp : 0 < vl (lT ψ) + T
  ex : Rn (EX (vl ψ)) (vl (lT ψ) + T) (2 / 10000000000)
  fR : Fp.Fin (lR ψ c)
  R0 : 85 / 100 ≤ vl (lR ψ c)
  R1 : vl (lR ψ c) ≤ 104 / 10
  hR : Wn (vl (lR ψ c) * vl (lR ψ c) - (vl (lT ψ) * vl (lT ψ) + vl c * vl c)) (1 / 10000000000000 * (vl (lR ψ c) * vl (lR ψ c)))
  RT : vl (lR ψ c) ≤ T * (10001 / 10000)
  fx : Fp.Fin (lX ψ c s)
  hx : Wn (vl (lX ψ c s) * vl (lR ψ c) - vl s) (1 / 10000000000000)
  bx : Wn (vl (lX ψ c s)) (61 / 100)
  fV : Fp.Fin (lV ψ c s)
  bV : Wn (vl (lV ψ c s)) 7
  r1 : 99 / 100 ≤ r
  r2 : Wn (r * r - (1 + vl (lX ψ c s) * vl (lX ψ c s))) (2 / 1000000000000000 * (1 + vl (lX ψ c s) * vl (lX ψ c s)))
  ev : Rn (EX (vl (lV ψ c s))) (vl (lX ψ c s) + r) (2 / 10000000000)
  u1 : -90000000000 ≤ lU ψ c
  u2 : lU ψ c ≤ 90000000000
  cu : Wn ((cis (lU ψ c)).re * vl (lR ψ c) - vl c) (2 / 10000000000 * vl (lR ψ c))
  su : Wn ((cis (lU ψ c)).im * vl (lR ψ c) - vl (lT ψ)) (2 / 10000000000 * vl (lR ψ c))
  sv : Wn ((EX (vl (lV ψ c s)) - EX (-vl (lV ψ c s))) / 2 * vl (lR ψ c) - vl s) (1 / 1000000000 * T)
  cv : Wn ((EX (vl (lV ψ c s)) + EX (-vl (lV ψ c s))) / 2 * vl (lR ψ c) - T) (1 / 1000000000 * T)
theorem look_some {ψ c s : Nat} (fψ : Fp.Fin ψ) (bψ : Wn (vl ψ) 3) (fc : Fp.Fin c) (fs : Fp.Fin s) (hg : Wn (vl c * vl c + vl s * vl s - 1) (1 / 10000000000000)) (g0 : 86 / 100 ≤ vl c) (bs : Wn (vl s) (51 / 100)) : ∃ T r, Look ψ c s T r := by
  have u1 : uu = 1 / 9007199254740992 := uu_eq
  obtain ⟨T, ft, hT, T1, T2, tp, ex⟩ := iso_T fψ bψ
  have s0 := rsq_nonneg (vl s)
  have g1 : vl c ≤ 10001 / 10000 := le_of_sq (by grind) (by have := hg.2; grind)
  have gg := sq_le_sq (show (0 : Rat) ≤ 86 / 100 by grind) g0
  have t0 := rsq_nonneg (vl (lT ψ))
  have TT2 := sq_le_sq (show 0 ≤ T by grind) T2
  have TT1 := sq_le_sq (show (0 : Rat) ≤ 99 / 100 by grind) T1
  have bt : Wn (vl (lT ψ)) (104 / 10) := by
    obtain ⟨a, b⟩ := hT
    constructor
    · have := le_of_sq (a := -vl (lT ψ)) (b := 104 / 10) (by grind) (by grind)
      grind
    · exact le_of_sq (by grind) (by grind)
  obtain ⟨fR, _, _, hR⟩ := root_two ft fc (bt.mono (by grind)) ⟨by grind, by grind⟩ (by grind)
  have R0 : 85 / 100 ≤ vl (lR ψ c) := by
    obtain ⟨_, _⟩ := hR
    refine le_of_sq (by grind) ?_
    change _ ≤ vl (fsqrt (fadd (fmul (lT ψ) (lT ψ)) (fmul c c))) * _
    grind
  change Fp.Fin (lR ψ c) at fR
  change Wn (vl (lR ψ c) * vl (lR ψ c) - _) (1 / 10000000000000 * (vl (lR ψ c) * vl (lR ψ c))) at hR
  have RT : vl (lR ψ c) ≤ T * (10001 / 10000) := by
    refine le_of_sq (by grind) ?_
    obtain ⟨a, b⟩ := hR
    obtain ⟨a2, b2⟩ := hT
    have := sq_le_sq (show 0 ≤ vl c by grind) g1
    have e : T * (10001 / 10000) * (T * (10001 / 10000)) = T * T * (100020001 / 100000000) := by grind
    rw [e]
    obtain ⟨_, _⟩ := hg
    grind
  have R1 : vl (lR ψ c) ≤ 104 / 10 := by grind
  -- the quotient
  have Rp : 0 < vl (lR ψ c) := by grind
  have qe : vl s / vl (lR ψ c) * vl (lR ψ c) = vl s := div_mul_c (ne_of_pos Rp) rfl
  have bq : Wn (vl s / vl (lR ψ c)) (605 / 1000) := by
    obtain ⟨x1, x2⟩ := bs
    constructor
    · refine le_of_scaled Rp ?_
      have e : vl (lR ψ c) * (vl s / vl (lR ψ c)) = vl s := by grind
      rw [e]; grind
    · refine le_of_scaled Rp ?_
      have e : vl (lR ψ c) * (vl s / vl (lR ψ c)) = vl s := by grind
      rw [e]; grind
  obtain ⟨fx, ex'⟩ := divE fs fR (ne_of_pos Rp) _ bq (by grind)
  have bx : Wn (vl (lX ψ c s)) (61 / 100) := (wn_add ex' bq).of (by grind) (by rw [u1]; grind)
  have hx : Wn (vl (lX ψ c s) * vl (lR ψ c) - vl s) (1 / 10000000000000) := by
    have m := wn_mul ex' (show Wn (vl (lR ψ c)) (104 / 10) from ⟨by grind, R1⟩)
    refine m.of ?_ (by rw [u1]; grind)
    have e : (vl (fdiv s (lR ψ c)) - vl s / vl (lR ψ c)) * vl (lR ψ c) = vl (fdiv s (lR ψ c)) * vl (lR ψ c) - vl s / vl (lR ψ c) * vl (lR ψ c) := by grind
    rw [e, qe]
  obtain ⟨r, fV, bV, r1, r2', r2, rp, ev⟩ := unP_near fx (bx.mono (by grind))
  obtain ⟨d0, env⟩ := inv_near bV ev r2 r1 (bx.mono (by grind))
  obtain ⟨a1, a2, a3, a4⟩ := ang_near fc ft (show 0 < vl c by grind) (show 1 / 20 ≤ vl (lR ψ c) by grind) (by grind) (hR.of (by grind) Rat.le_refl)
  -- r R is T
  have rR : Wn (r * vl (lR ψ c) - T) (3 / 1000000000000 * T) := by
    have xr := wn_mul hx (show Wn (vl (lX ψ c s) * vl (lR ψ c) + vl s) 2 from by obtain ⟨_, _⟩ := hx; obtain ⟨_, _⟩ := bs; constructor <;> grind)
    have e1 : (vl (lX ψ c s) * vl (lR ψ c) - vl s) * (vl (lX ψ c s) * vl (lR ψ c) + vl s) = vl (lX ψ c s) * vl (lX ψ c s) * (vl (lR ψ c) * vl (lR ψ c)) - vl s * vl s := by grind
    rw [e1] at xr
    have RR0 := rsq_nonneg (vl (lR ψ c))
    have x2b := (wn_mul bx bx).2
    have m := wn_mul r2 (wn_pos RR0)
    have e2 : (r * r - (1 + vl (lX ψ c s) * vl (lX ψ c s))) * (vl (lR ψ c) * vl (lR ψ c)) = r * vl (lR ψ c) * (r * vl (lR ψ c)) - (vl (lR ψ c) * vl (lR ψ c) + vl (lX ψ c s) * vl (lX ψ c s) * (vl (lR ψ c) * vl (lR ψ c))) := by grind
    rw [e2] at m
    have m3 := Rat.mul_le_mul_of_nonneg_right (show 2 / 1000000000000000 * (1 + vl (lX ψ c s) * vl (lX ψ c s)) ≤ 4 / 1000000000000000 by grind) RR0
    have m' := m.mono m3
    have RR : vl (lR ψ c) * vl (lR ψ c) ≤ T * T * (10003 / 10000) := by
      have := sq_le_sq (show 0 ≤ vl (lR ψ c) by grind) RT
      grind
    have key : Wn (r * vl (lR ψ c) * (r * vl (lR ψ c)) - T * T) (2 / 1000000000000 * (T * T)) := by
      obtain ⟨_, _⟩ := m'
      obtain ⟨_, _⟩ := xr
      obtain ⟨_, _⟩ := hR
      obtain ⟨_, _⟩ := hg
      obtain ⟨_, _⟩ := hT
      generalize r * vl (lR ψ c) * (r * vl (lR ψ c)) = z1 at *
      generalize vl (lX ψ c s) * vl (lX ψ c s) * (vl (lR ψ c) * vl (lR ψ c)) = z2 at *
      generalize vl (lR ψ c) * vl (lR ψ c) = z3 at *
      generalize vl (lT ψ) * vl (lT ψ) = z4 at *
      generalize T * T = z5 at *
      constructor <;> grind
    have rR0 : 0 ≤ r * vl (lR ψ c) := Rat.mul_nonneg (by grind) (by grind)
    constructor
    · have := le_of_sq (a := T - 3 / 1000000000000 * T) (b := r * vl (lR ψ c)) rR0 (by have := key.1; grind)
      grind
    · have := le_of_sq (a := r * vl (lR ψ c)) (b := T + 3 / 1000000000000 * T) (by grind) (by have := key.2; grind)
      grind
  refine ⟨T, r, ft, hT, T1, T2, tp, ex, fR, R0, R1, hR, RT, fx, hx, bx, fV, bV, r1, r2, ev, a1, a2, a3, a4, ?_, ?_⟩
  · obtain ⟨_, e1, e2⟩ := ev
    have r3 : r ≤ 12 / 10 := by
      refine le_of_sq (by grind) ?_
      have := (wn_mul bx bx).2
      obtain ⟨_, _⟩ := r2
      grind
    have d : Wn ((EX (vl (lV ψ c s)) - EX (-vl (lV ψ c s))) / 2 - vl (lX ψ c s)) (9 / 10000000000) := by
      obtain ⟨_, _⟩ := env
      obtain ⟨_, _⟩ := bx
      constructor <;> grind
    have m := wn_mul d (wn_pos (show 0 ≤ vl (lR ψ c) by grind))
    refine (wn_add m hx).of (by grind) ?_
    grind
  · obtain ⟨_, e1, e2⟩ := ev
    have r3 : r ≤ 12 / 10 := by
      refine le_of_sq (by grind) ?_
      have := (wn_mul bx bx).2
      obtain ⟨_, _⟩ := r2
      grind
    have d : Wn ((EX (vl (lV ψ c s)) + EX (-vl (lV ψ c s))) / 2 - r) (9 / 10000000000) := by
      obtain ⟨_, _⟩ := env
      obtain ⟨_, _⟩ := bx
      constructor <;> grind
    have m := wn_mul d (wn_pos (show 0 ≤ vl (lR ψ c) by grind))
    refine (wn_add m rR).of (by grind) ?_
    grind
end Go.Proofs.YtcppgbhjbmfldaaDoor

/- Back from the ball that lies along the meridian: longitude and isometric latitude. -/
namespace Go.Proofs.YtcppgbhjbmfldaaDoor
open Go.Fp Go.Fp.Tri
set_option maxRecDepth 20000
theorem EX_step {v η q : Rat} (hv : Wn v (58 / 100)) (hq : Wn η q) (q1 : q ≤ 2 / 1000000) : Wn ((EX (v + η) - EX (-(v + η))) / 2 - ((EX v - EX (-v)) / 2 + η * ((EX v + EX (-v)) / 2))) (3 / 10000000000) := by
  have e1 : ∀ y z : Rat, Wn y (58 / 100) → Wn z q → Wn (EX (y + z) - EX y * (1 + z)) (28 / 1000000000000 * EX y) := by
    intro y z hy hz
    have a := EX_add (hy.mono (show (58 : Rat) / 100 ≤ 7 by grind)) (hz.mono (show q ≤ 7 by grind)) ((wn_add hy hz).mono (by grind))
    have s := EX_small (r := z) (hz.mono (by grind))
    have l : Wn (Ex z - (1 + z)) (3 / 1000000000000) := by
      have e : Ex z = 1 + z + z * z * pev PE2 z := by simp only [Ex, PE, PE2, pev]; rw [show inv 0 = 1 by decide +kernel, show inv 1 = 1 by decide +kernel]; grind
      have b := (wn_pev PE2 (hz.mono (show q ≤ 35 / 100 by grind))).mono pe2_bd
      have zz := (wn_mul (hz.mono q1) (hz.mono q1))
      refine (wn_mul zz b).of (by rw [e]; grind) (by grind)
    have p := EX_pos (hy.mono (show (58 : Rat) / 100 ≤ 7 by grind))
    obtain ⟨_, a1, a2⟩ := a
    obtain ⟨_, s1, s2⟩ := s
    have hEz : Wn (EX z - (1 + z)) (22 / 1000000000000) := by
      obtain ⟨_, _⟩ := l
      obtain ⟨_, _⟩ := hz
      constructor <;> grind
    have m := wn_mul (wn_pos (Rat.le_of_lt p)) hEz
    have big : EX (y + z) ≤ EX y * (1001 / 1000) := by
      have zb := hz.2
      obtain ⟨_, h2⟩ := hEz
      have := Rat.mul_le_mul_of_nonneg_left (show EX z ≤ 1 + 1 / 10000 by grind) (Rat.le_of_lt p)
      grind
    have e3 : EX y * (EX z - (1 + z)) = EX y * EX z - EX y * (1 + z) := by grind
    rw [e3] at m
    obtain ⟨_, _⟩ := m
    generalize EX y * EX z = w at *
    constructor <;> grind
  have a := e1 v η hv hq
  have b := e1 (-v) (-η) (wn_negy hv) (wn_negy hq)
  rw [show -v + -η = -(v + η) by grind] at b
  have b2 : ∀ y : Rat, Wn y (58 / 100) → EX y ≤ 2 := by
    intro y hy
    have := EX_mono (hy.mono (show (58 : Rat) / 100 ≤ 7 by grind)) (show Wn (58 / 100 : Rat) 7 from ⟨by grind, by grind⟩) hy.2 (by have := hy.1; grind)
    have g : EX (58 / 100) ≤ 18 / 10 := by decide +kernel
    grind
  have c1 := b2 v hv
  have c2 := b2 (-v) (wn_negy hv)
  obtain ⟨_, _⟩ := a
  obtain ⟨_, _⟩ := b
  constructor <;> grind
abbrev bK (V' : Nat) : Nat := hypK (expP V')
abbrev bR (V' : Nat) (w : Int) : Nat := fsqrt (fadd (fmul (bK V') (bK V')) (fmul (cosP w) (cosP w)))
variable {ψ c s : Nat} {T r : Rat}
theorem wn57 (h : Look ψ c s T r) (bx : Wn (vl (lX ψ c s)) (5774 / 10000)) : Wn (vl (lV ψ c s)) (57 / 100) := (wn_57 h.bV h.ev h.r2 h.r1 bx).1
theorem step_of (h : Look ψ c s T r) (bx : Wn (vl (lX ψ c s)) (5774 / 10000)) (hg : Wn (vl c * vl c + vl s * vl s - 1) (1 / 10000000000000)) (g0 : 86 / 100 ≤ vl c) (bs : Wn (vl s) (51 / 100)) {V' : Nat} {w : Int} {p q : Rat} (fV : Fp.Fin V')
    (hp : Wn (((w - lU ψ c : Int) : Rat) * rho) p) (hq : Wn (vl V' - vl (lV ψ c s)) q) (hW : p + q ≤ 2 / 1000000) :
    Fp.Fin (bK V') ∧ Fp.Fin (cosP w) ∧ Fp.Fin (sinP w) ∧ Fp.Fin (bR V' w) ∧ 1 / 20 ≤ vl (bR V' w) ∧ vl (bR V' w) ≤ 13 ∧ 0 < vl (cosP w) ∧
    Wn (vl (bR V' w) * vl (bR V' w) - (vl (cosP w) * vl (cosP w) + vl (bK V') * vl (bK V'))) (1 / 10000000000000 * (vl (bR V' w) * vl (bR V' w))) ∧
    Step (vl (lT ψ)) (vl c) (vl s) T (vl (lR ψ c) * vl (bR V' w)) (vl (bK V') * vl (lR ψ c)) (vl (cosP w) * vl (lR ψ c)) (vl (sinP w) * vl (lR ψ c)) (((w - lU ψ c : Int) : Rat) * rho) (vl V' - vl (lV ψ c s)) p q (3 / 1000000000) := by
  have u1 : uu = 1 / 9007199254740992 := uu_eq
  have b57 := wn57 h bx
  have p0 := hp.nonneg
  have q0 := hq.nonneg
  have R0 := h.R0
  have R1 := h.R1
  have RT := h.RT
  have T1 := h.T1
  have T2 := h.T2
  -- the hyperbolic sine
  have bV' : Wn (vl V') (58 / 100) := (wn_add hq b57).of (by grind) (by grind)
  obtain ⟨_, fk, _, ek, _, _⟩ := hyp_near fV (bV'.mono (by grind))
  have st := EX_step (b57.mono (show (57 : Rat) / 100 ≤ 58 / 100 by grind)) hq (by grind)
  rw [show vl (lV ψ c s) + (vl V' - vl (lV ψ c s)) = vl V' by grind] at st
  have sv := h.sv
  have cv := h.cv
  have b2 : ∀ y : Rat, Wn y (58 / 100) → EX y ≤ 18 / 10 + 1 / 1000 := by
    intro y hy
    have := EX_mono (hy.mono (show (58 : Rat) / 100 ≤ 7 by grind)) (show Wn (58 / 100 : Rat) 7 from ⟨by grind, by grind⟩) hy.2 (by have := hy.1; grind)
    have g : EX (58 / 100) ≤ 18 / 10 := by decide +kernel
    grind
  have x1 := b2 _ bV'
  have x2 := b2 _ (wn_negy bV')
  have x1p := EX_pos (bV'.mono (show (58 : Rat) / 100 ≤ 7 by grind))
  have x2p := EX_pos (wn_negy (bV'.mono (show (58 : Rat) / 100 ≤ 7 by grind)))
  have ek' : Wn (vl (bK V') - ((EX (vl (lV ψ c s)) - EX (-vl (lV ψ c s))) / 2 + (vl V' - vl (lV ψ c s)) * ((EX (vl (lV ψ c s)) + EX (-vl (lV ψ c s))) / 2))) (11 / 10000000000) := (wn_add ek st).of (by grind) (by grind)
  obtain ⟨Sv, hSv⟩ : ∃ x, x = (EX (vl (lV ψ c s)) - EX (-vl (lV ψ c s))) / 2 := ⟨_, rfl⟩
  obtain ⟨Cv, hCv⟩ : ∃ x, x = (EX (vl (lV ψ c s)) + EX (-vl (lV ψ c s))) / 2 := ⟨_, rfl⟩
  rw [← hSv] at sv ek'
  rw [← hCv] at cv ek'
  obtain ⟨η, hη⟩ : ∃ x, x = vl V' - vl (lV ψ c s) := ⟨_, rfl⟩
  rw [← hη] at ek' hq ⊢
  obtain ⟨Δ, hΔ⟩ : ∃ x, x = ((w - lU ψ c : Int) : Rat) * rho := ⟨_, rfl⟩
  rw [← hΔ] at hp ⊢
  have wR : Wn (vl (lR ψ c)) (vl (lR ψ c)) := wn_pos (by grind)
  have K1 : Wn (vl (bK V') * vl (lR ψ c) - (vl s + T * η)) (T * (3 / 1000000000)) := by
    have t := wn_add (wn_add (wn_mul ek' wR) sv) (wn_mul hq cv)
    refine t.of (by grind) ?_
    have hq2 := Rat.mul_le_mul_of_nonneg_right (show q ≤ 2 / 1000000 by grind) (show 0 ≤ 1 / 1000000000 * T by grind)
    grind
  -- cosine and sine
  have hsm : -45000000000 < w - lU ψ c ∧ w - lU ψ c < 45000000000 := by
    have b : Wn (((w - lU ψ c : Int) : Rat) * rho) (2 / 1000000) := by rw [← hΔ]; exact hp.mono (by grind)
    have rl := rho_lo
    obtain ⟨b3, b4⟩ := b
    constructor
    · rcases Int.lt_or_le (-45000000000) (w - lU ψ c) with k | k
      · exact k
      · exfalso
        have t := castle k
        have e : ((-45000000000 : Int) : Rat) = -45000000000 := rfl
        rw [e] at t
        have t2 := Rat.mul_le_mul_of_nonneg_right t (show 0 ≤ rho by grind)
        generalize ((w - lU ψ c : Int) : Rat) * rho = z at *
        grind
    · rcases Int.lt_or_le (w - lU ψ c) 45000000000 with k | k
      · exact k
      · exfalso
        have t := castle k
        have e : ((45000000000 : Int) : Rat) = 45000000000 := rfl
        rw [e] at t
        have t2 := Rat.mul_le_mul_of_nonneg_right t (show 0 ≤ rho by grind)
        generalize ((w - lU ψ c : Int) : Rat) * rho = z at *
        grind
  have ca := cis_add (lU ψ c) (w - lU ψ c)
  rw [show lU ψ c + (w - lU ψ c) = w by omega, cis_small hsm.1 hsm.2, ← hΔ] at ca
  have hp2 := hp.mono (show p ≤ 2 / 1000000 by grind)
  have cΔ : Wn (C Δ - 1) (3 / 1000000000000) ∧ Wn (S Δ - Δ) (3 / 1000000000000) := by
    have a := (wn_pev (padd PC [-1]) hp2).mono (show _ ≤ (3 : Rat) / 1000000000000 by decide +kernel)
    have b := (wn_pev (padd PS [0, -1]) hp2).mono (show _ ≤ (3 : Rat) / 1000000000000 by decide +kernel)
    rw [pev_add] at a b
    exact ⟨a.of (by simp only [pev, C]; grind) Rat.le_refl, b.of (by simp only [pev, S]; grind) Rat.le_refl⟩
  have cb := cis_bd (lU ψ c)
  have cw : MB ((cis w).sub (⟨(cis (lU ψ c)).re - (cis (lU ψ c)).im * Δ, (cis (lU ψ c)).im + (cis (lU ψ c)).re * Δ⟩ : Cx)) (8 / 1000000000000) := by
    have m := cb.mul (MB.of (z := (⟨C Δ - 1, S Δ - Δ⟩ : Cx)) cΔ.1 cΔ.2 (show (0 : Rat) ≤ 5 / 1000000000000 by grind) (by grind))
    refine ((ca.add m).cast ?_).mono (by grind)
    unfold cs
    exact Cx.ext' (by simp; grind) (by simp; grind)
  have cwr := cw.re
  have cwi := cw.im
  simp only [Cx.sub_re, Cx.sub_im] at cwr cwi
  obtain ⟨⟨fc', ec'⟩, ⟨fs', es'⟩⟩ := cis_near w
  have cu := h.cu
  have su := h.su
  have C1 : Wn (vl (cosP w) * vl (lR ψ c) - (vl c - vl (lT ψ) * Δ)) (T * (3 / 1000000000)) := by
    have t := wn_add (wn_mul (wn_add ec' cwr) wR) (wn_sub cu (wn_mul su hp2))
    refine t.of (by grind) ?_
    unfold tol
    grind
  have S1 : Wn (vl (sinP w) * vl (lR ψ c) - (vl (lT ψ) + vl c * Δ)) (T * (3 / 1000000000)) := by
    have t := wn_add (wn_mul (wn_add es' cwi) wR) (wn_add su (wn_mul cu hp2))
    refine t.of (by grind) ?_
    unfold tol
    grind
  have bt : Wn (vl (lT ψ)) (104 / 10) := by
    have hT := h.hT
    have TT := sq_le_sq (show 0 ≤ T by grind) T2
    obtain ⟨a, b⟩ := hT
    constructor
    · have := le_of_sq (a := -vl (lT ψ)) (b := 104 / 10) (by grind) (by grind)
      grind
    · exact le_of_sq (by grind) (by grind)
  have tΔ := wn_mul bt hp2
  have g1 : vl c ≤ 10001 / 10000 := le_of_sq (by grind) (by have := hg.2; have := rsq_nonneg (vl s); grind)
  have cpos : 82 / 1000 ≤ vl (cosP w) := by
    refine le_of_scaled (R := vl (lR ψ c)) (by grind) ?_
    obtain ⟨_, _⟩ := C1
    obtain ⟨_, _⟩ := tΔ
    grind
  have cR1 : vl (cosP w) * vl (lR ψ c) ≤ 1001 / 1000 := by
    obtain ⟨_, _⟩ := C1
    obtain ⟨_, _⟩ := tΔ
    grind
  have kR1 : Wn (vl (bK V') * vl (lR ψ c)) (52 / 100) := by
    have tη := wn_mul (wn_pos (show 0 ≤ T by grind)) (hq.mono (show q ≤ 2 / 1000000 by grind))
    obtain ⟨_, _⟩ := K1
    obtain ⟨_, _⟩ := tη
    obtain ⟨_, _⟩ := bs
    constructor <;> grind
  have kb : Wn (vl (bK V')) 12 := by
    have Rp : 0 < vl (lR ψ c) := by grind
    obtain ⟨k1, k2⟩ := kR1
    constructor
    · refine le_of_scaled Rp ?_
      grind
    · refine le_of_scaled Rp ?_
      grind
  have cb1 : vl (cosP w) ≤ 13 / 10 := by
    refine le_of_scaled (R := vl (lR ψ c)) (by grind) ?_
    grind
  have c2 := sq_le_sq (show (0 : Rat) ≤ 82 / 1000 by grind) cpos
  obtain ⟨fR', r0, r1, hR'⟩ := root_two fk fc' kb ⟨by grind, cb1⟩ (by have := rsq_nonneg (vl (bK V')); grind)
  change Fp.Fin (bR V' w) at fR'
  change 1 / 20 ≤ vl (bR V' w) at r0
  change vl (bR V' w) ≤ 13 at r1
  change Wn (vl (bR V' w) * vl (bR V' w) - (vl (bK V') * vl (bK V') + vl (cosP w) * vl (cosP w))) (1 / 10000000000000 * (vl (bR V' w) * vl (bR V' w))) at hR'
  refine ⟨fk, fc', fs', fR', r0, r1, by grind, hR'.of (by grind) Rat.le_refl, ?_⟩
  refine ⟨h.hT, T1, by grind, hg.mono (by grind), by grind, bs, hp, hq, hW, by grind, by grind, K1, C1, S1, ?_, Rat.mul_nonneg (by grind) (by grind)⟩
  have m := wn_mul hR' (wn_pos (rsq_nonneg (vl (lR ψ c))))
  have kk := (wn_mul kR1 kR1).2
  have cc := sq_le_sq (Rat.mul_nonneg (show 0 ≤ vl (cosP w) by grind) (show 0 ≤ vl (lR ψ c) by grind)) cR1
  have e1 : (vl (bR V' w) * vl (bR V' w) - (vl (bK V') * vl (bK V') + vl (cosP w) * vl (cosP w))) * (vl (lR ψ c) * vl (lR ψ c)) = vl (lR ψ c) * vl (bR V' w) * (vl (lR ψ c) * vl (bR V' w)) - (vl (bK V') * vl (lR ψ c) * (vl (bK V') * vl (lR ψ c)) + vl (cosP w) * vl (lR ψ c) * (vl (cosP w) * vl (lR ψ c))) := by grind
  have e2 : 1 / 10000000000000 * (vl (bR V' w) * vl (bR V' w)) * (vl (lR ψ c) * vl (lR ψ c)) = 1 / 10000000000000 * (vl (lR ψ c) * vl (bR V' w) * (vl (lR ψ c) * vl (bR V' w))) := by grind
  rw [e1, e2] at m
  generalize vl (lR ψ c) * vl (bR V' w) * (vl (lR ψ c) * vl (bR V' w)) = z1 at *
  generalize vl (bK V') * vl (lR ψ c) * (vl (bK V') * vl (lR ψ c)) = z2 at *
  generalize vl (cosP w) * vl (lR ψ c) * (vl (cosP w) * vl (lR ψ c)) = z3 at *
  obtain ⟨_, _⟩ := m
  constructor <;> grind
end Go.Proofs.YtcppgbhjbmfldaaDoor

/- Back from the ball that lies along the meridian: how far off longitude and isometric latitude are. -/
namespace Go.Fp.Tri
open Go.Fp
set_option maxRecDepth 20000
/-- of two hyperbolic sines t' and t that lie near: how far the numbers are apart -/
theorem arg_near {t t' T r' D z : Rat} (hT : Wn (T * T - (1 + t * t)) (1 / 1000000000000 * (T * T))) (T1 : 99 / 100 ≤ T) (T2 : T ≤ 103 / 10) (tp : 0 < t + T) (hr : Wn (r' * r' - (1 + t' * t')) (2 / 1000000000000000 * (1 + t' * t'))) (r1 : 99 / 100 ≤ r') (hD : Wn (t' - t) D) (hDz : D ≤ T * (T * z)) (hz : z ≤ 3 / 1000000) (z0 : 1 / 100000000 ≤ z) :
    Wn ((t' + r') - (t + T)) (T * (102 / 100 * z) * (t + T)) := by
  have D0 := hD.nonneg
  have T0 : 0 ≤ T := by grind
  have TT2 := sq_le_sq T0 T2
  have TT1 := sq_le_sq (show (0 : Rat) ≤ 99 / 100 by grind) T1
  have z00 : 0 ≤ z := by grind
  have Tz := Rat.mul_le_mul_of_nonneg_left hz T0
  have Tz2 := Rat.mul_le_mul_of_nonneg_right T2 z00
  have Tz0 := Rat.mul_nonneg T0 z00
  have TTz := Rat.mul_le_mul_of_nonneg_left (show T * z ≤ 31 / 1000000 by grind) T0
  have Dm : D ≤ 32 / 100000 := by grind
  have bt : Wn t T := by
    obtain ⟨a, b⟩ := hT
    constructor
    · have := le_of_sq (a := -t) (b := T) T0 (by grind)
      grind
    · exact le_of_sq T0 (by grind)
  have bt' : Wn t' (1032 / 100) := by
    obtain ⟨_, _⟩ := hD
    obtain ⟨_, _⟩ := bt
    constructor <;> grind
  have tb : t' * t' ≤ 107 := by have := (wn_mul bt' bt').2; grind
  have tt0 := rsq_nonneg t'
  obtain ⟨r2, r3⟩ := hr
  obtain ⟨a1, a2⟩ := hT
  have br' : Wn t' r' := by
    constructor
    · have := le_of_sq (a := -t') (b := r') (by grind) (by grind)
      grind
    · exact le_of_sq (by grind) (by grind)
  have tail : Wn ((r' * r' - (1 + t' * t')) - (T * T - (1 + t * t))) (24 / 10000000000000 * (T * T)) := by constructor <;> grind
  obtain ⟨E, hE⟩ : ∃ E, E = (r' * r' - (1 + t' * t')) - (T * T - (1 + t * t)) := ⟨_, rfl⟩
  rw [← hE] at tail
  have e1 : (r' - T) * (r' + T) = (t' - t) * (t' + t) + E := by rw [hE]; grind
  have S0 : 0 < r' + T := by grind
  have m1 := wn_mul hD (wn_add br' bt)
  -- the roots' difference
  have rT : Wn (r' - T) (D + 24 / 10000000000000 * T) := by
    have k := wn_add m1 tail
    rw [← e1] at k
    have up : D * (r' + T) + 24 / 10000000000000 * (T * T) ≤ (D + 24 / 10000000000000 * T) * (r' + T) := by
      have := Rat.mul_nonneg T0 (show 0 ≤ r' by grind)
      grind
    obtain ⟨k1, k2⟩ := k
    constructor
    · refine le_of_scaled S0 ?_
      have e2 : (r' + T) * (r' - T) = (r' - T) * (r' + T) := by grind
      rw [e2]
      grind
    · refine le_of_scaled S0 ?_
      have e2 : (r' + T) * (r' - T) = (r' - T) * (r' + T) := by grind
      rw [e2]
      grind
  obtain ⟨P, hP⟩ : ∃ P, P = t + T := ⟨_, rfl⟩
  obtain ⟨w, hw⟩ : ∃ w, w = t' + r' := ⟨_, rfl⟩
  rw [← hP] at tp
  rw [← hP, ← hw]
  have hPT : 499 / 1000 ≤ P * T := by
    have e : P * (T - t) = T * T - t * t := by rw [hP]; grind
    have k := Rat.mul_le_mul_of_nonneg_left (show T - t ≤ 2 * T by obtain ⟨_, _⟩ := bt; grind) (Rat.le_of_lt tp)
    rw [e] at k
    grind
  have crude : Wn (w - P) (2 * D + 24 / 10000000000000 * T) := (wn_add hD rT).of (by rw [hw, hP]; grind) (by grind)
  have Plo : 48 / 1000 ≤ P := by
    refine le_of_scaled (R := T) (by grind) ?_
    grind
  have DP : D ≤ 7 / 1000 * P := by
    refine le_of_scaled (R := T) (by grind) ?_
    have := Rat.mul_le_mul_of_nonneg_left hDz T0
    have k := mul_mono (Rat.mul_nonneg T0 T0) TT2 Tz0 (show T * z ≤ 31 / 1000000 by grind)
    grind
  have wP : Wn (w + P) (2015 / 1000 * P) := by
    obtain ⟨_, _⟩ := crude
    constructor <;> grind
  have m2 := wn_mul hD wP
  have e3 : (w - P) * (r' + T) = (t' - t) * (w + P) + E := by rw [hE, hw, hP]; grind
  have k := wn_add m2 tail
  rw [← e3] at k
  have DPz := Rat.mul_le_mul_of_nonneg_right hDz (Rat.le_of_lt tp)
  have hz1 := Rat.mul_le_mul_of_nonneg_left hPT (Rat.mul_nonneg T0 z00)
  have hz2 := Rat.mul_le_mul_of_nonneg_left z0 T0
  have hTT := Rat.mul_le_mul_of_nonneg_left T2 T0
  have Mz : 0 ≤ T * z * P := Rat.mul_nonneg Tz0 (Rat.le_of_lt tp)
  have e4 : T * (T * z) * P = T * (T * z * P) := by grind
  rw [e4] at DPz
  have e5 : T * z * (P * T) = T * (T * z * P) := by grind
  rw [e5] at hz1
  have tot : Wn ((w - P) * (r' + T)) (2025 / 1000 * (T * (T * z * P))) := k.mono (by grind)
  have lo : 1999 / 1000 * T ≤ r' + T := by
    obtain ⟨_, _⟩ := rT
    grind
  have B0 : 0 ≤ T * (102 / 100 * z) * P := by grind
  have m3 := Rat.mul_le_mul_of_nonneg_left lo B0
  have e6 : T * (102 / 100 * z) * P * (1999 / 1000 * T) = 203898 / 100000 * (T * (T * z * P)) := by grind
  rw [e6] at m3
  have M2 := Rat.mul_nonneg T0 Mz
  obtain ⟨k1, k2⟩ := tot
  constructor
  · refine le_of_scaled S0 ?_
    have e7 : (r' + T) * (w - P) = (w - P) * (r' + T) := by grind
    have e8 : (r' + T) * -(T * (102 / 100 * z) * P) = -(T * (102 / 100 * z) * P * (r' + T)) := by grind
    rw [e7, e8]
    grind
  · refine le_of_scaled S0 ?_
    have e7 : (r' + T) * (w - P) = (w - P) * (r' + T) := by grind
    have e8 : (r' + T) * (T * (102 / 100 * z) * P) = T * (102 / 100 * z) * P * (r' + T) := by grind
    rw [e7, e8]
    grind
end Go.Fp.Tri

/- Back from the ball that lies along the meridian: how far off longitude and isometric latitude are, as the program finds them. -/
namespace Go.Proofs.YtcppgbhjbmfldaaDoor
open Go.Fp Go.Fp.Tri
set_option maxRecDepth 20000
variable {ψ c s : Nat} {T r : Rat}
abbrev bA (V' : Nat) (w : Int) : Int := angS (bK V') (cosP w)
abbrev bT (V' : Nat) (w : Int) : Nat := fdiv (sinP w) (bR V' w)
theorem lon_small (h : Look ψ c s T r) (bx : Wn (vl (lX ψ c s)) (5774 / 10000)) (hg : Wn (vl c * vl c + vl s * vl s - 1) (1 / 10000000000000)) (g0 : 86 / 100 ≤ vl c) (bs : Wn (vl s) (51 / 100)) {V' : Nat} {w : Int} {p q : Rat} (fV : Fp.Fin V')
    (hp : Wn (((w - lU ψ c : Int) : Rat) * rho) p) (hq : Wn (vl V' - vl (lV ψ c s)) q) (hW : p + q ≤ 2 / 1000000) :
    -90000000000 ≤ bA V' w ∧ bA V' w ≤ 90000000000 ∧ Wn ((cis (bA V' w)).im * vl c - (cis (bA V' w)).re * vl s) (T * (1001 / 1000 * (p + q) + 1 / 100000000)) ∧ 0 < (cis (bA V' w)).re * vl c + (cis (bA V' w)).im * vl s := by
  obtain ⟨fk, fc', fs', fR', r0, r1, c0, hR', S⟩ := step_of h bx hg g0 bs fV hp hq hW
  obtain ⟨a1, a2, a3, a4⟩ := ang_near fc' fk c0 r0 (by grind) hR'
  obtain ⟨sz, _⟩ := S.size
  have lo := S.lon
  have R0 := h.R0
  have T1 := h.T1
  have T0 : 0 ≤ T := by grind
  have bg := S.bg
  have p0 := hp.nonneg
  have q0 := hq.nonneg
  have hK := S.hK
  have hC := S.hC
  have hp2 := hp.mono (show p ≤ 2 / 1000000 by grind)
  have hq2 := hq.mono (show q ≤ 2 / 1000000 by grind)
  have bτ := S.bt
  have T2 := h.T2
  refine ⟨a1, a2, ?_⟩
  change Wn ((cis (bA V' w)).re * vl (bR V' w) - _) _ at a3
  change Wn ((cis (bA V' w)).im * vl (bR V' w) - _) _ at a4
  generalize (cis (bA V' w)).re = C at *
  generalize (cis (bA V' w)).im = S' at *
  generalize ((w - lU ψ c : Int) : Rat) * rho = Δ at *
  generalize vl V' - vl (lV ψ c s) = η at *
  generalize vl (lT ψ) = τ at *
  generalize vl (cosP w) = c' at *
  generalize vl (bK V') = k' at *
  generalize vl (bR V' w) = R' at *
  generalize vl (lR ψ c) = R at *
  generalize vl c = γ at *
  generalize vl s = σ at *
  have QR := Rat.mul_nonneg (show 0 ≤ R by grind) (show 0 ≤ R' by grind)
  obtain ⟨Q, hQ⟩ : ∃ Q, Q = R * R' := ⟨_, rfl⟩
  rw [← hQ] at sz QR
  have wR := wn_pos (show 0 ≤ R by grind)
  have m3 := wn_mul a3 wR
  have m4 := wn_mul a4 wR
  have e3 : (C * R' - c') * R = C * Q - c' * R := by rw [hQ]; grind
  have e4 : (S' * R' - k') * R = S' * Q - k' * R := by rw [hQ]; grind
  have e5 : 2 / 10000000000 * R' * R = 2 / 10000000000 * Q := by rw [hQ]; grind
  rw [e3, e5] at m3
  rw [e4, e5] at m4
  have Qp : 0 < Q := by have := sz.1; grind
  have Tp := Rat.mul_nonneg T0 (show 0 ≤ p + q by grind)
  constructor
  · have t := wn_add (wn_sub (wn_mul m4 bg) (wn_mul m3 bs)) lo
    have e6 : (S' * Q - k' * R) * γ - (C * Q - c' * R) * σ + (k' * R * γ - c' * R * σ) = Q * (S' * γ - C * σ) := by grind
    rw [e6] at t
    have B : 2 / 10000000000 * Q * (1000001 / 1000000) + 2 / 10000000000 * Q * (51 / 100) + T * (1000001 / 1000000 * (p + q) + 2 * (3 / 1000000000)) ≤ Q * (T * (1001 / 1000 * (p + q) + 1 / 100000000)) := by
      have k := Rat.mul_le_mul_of_nonneg_right (show 9999 / 10000 ≤ Q by have := sz.1; grind) (show 0 ≤ T * (1001 / 1000 * (p + q) + 1 / 100000000) from Rat.mul_nonneg T0 (by grind))
      have k2 : Q ≤ 10001 / 10000 := by have := sz.2; grind
      grind
    obtain ⟨t1, t2⟩ := t
    constructor
    · refine le_of_scaled Qp ?_
      grind
    · refine le_of_scaled Qp ?_
      grind
  · -- it does not turn about
    have u1 := wn_mul (wn_pos T0) hq2
    have u2 := wn_mul bτ hp2
    have k1 : Wn (k' * R - σ) (1 / 10000) := (wn_add hK u1).of (by grind) (by grind)
    have k2 : Wn (c' * R - γ) (1 / 10000) := (wn_sub hC u2).of (by grind) (by grind)
    have t := wn_add (wn_mul (wn_add m3 k2) bg) (wn_mul (wn_add m4 k1) bs)
    have e6 : (C * Q - c' * R + (c' * R - γ)) * γ + (S' * Q - k' * R + (k' * R - σ)) * σ = Q * (C * γ + S' * σ) - (γ * γ + σ * σ) := by grind
    rw [e6] at t
    have k3 : Q ≤ 10001 / 10000 := by have := sz.2; grind
    have pos : 0 < Q * (C * γ + S' * σ) := by
      obtain ⟨_, _⟩ := t
      obtain ⟨_, _⟩ := hg
      grind
    rcases Rat.le_total (a := C * γ + S' * σ) (b := 0) with hh | hh
    · exfalso
      have := Rat.mul_le_mul_of_nonneg_left hh (Rat.le_of_lt Qp)
      grind
    · by_cases e : C * γ + S' * σ = 0
      · rw [e] at pos; grind
      · grind
theorem iso_small (h : Look ψ c s T r) (bψ : Wn (vl ψ) 3) (bx : Wn (vl (lX ψ c s)) (5774 / 10000)) (hg : Wn (vl c * vl c + vl s * vl s - 1) (1 / 10000000000000)) (g0 : 86 / 100 ≤ vl c) (bs : Wn (vl s) (51 / 100)) {V' : Nat} {w : Int} {p q : Rat} (fV : Fp.Fin V')
    (hp : Wn (((w - lU ψ c : Int) : Rat) * rho) p) (hq : Wn (vl V' - vl (lV ψ c s)) q) (hW : p + q ≤ 2 / 1000000) :
    Fp.Fin (unP (bT V' w)) ∧ Wn (vl (unP (bT V' w)) - vl ψ) (T * (104 / 100 * (p + q) + 15 / 1000000000)) := by
  have u1 : uu = 1 / 9007199254740992 := uu_eq
  obtain ⟨fk, fc', fs', fR', r0, r1, c0, hR', S⟩ := step_of h bx hg g0 bs fV hp hq hW
  obtain ⟨sz, _⟩ := S.size
  have la := S.lat
  have R0 := h.R0
  have R1 := h.R1
  have T1 := h.T1
  have T2 := h.T2
  have T0 : 0 ≤ T := by grind
  have bτ := S.bt
  have p0 := hp.nonneg
  have q0 := hq.nonneg
  have Rp : 0 < vl (bR V' w) := by grind
  -- the quotient
  obtain ⟨⟨_, _⟩, ⟨_, es⟩⟩ := cis_near w
  have bsw : Wn (vl (sinP w)) (1001 / 1000) := (wn_add es (cis_bd w).im).of (by grind) (by grind)
  have qe : vl (sinP w) / vl (bR V' w) * vl (bR V' w) = vl (sinP w) := div_mul_c (ne_of_pos Rp) rfl
  have bq : Wn (vl (sinP w) / vl (bR V' w)) (2003 / 100) := by
    obtain ⟨x1, x2⟩ := bsw
    constructor
    · refine le_of_scaled Rp ?_
      have e : vl (bR V' w) * (vl (sinP w) / vl (bR V' w)) = vl (sinP w) := by grind
      rw [e]; grind
    · refine le_of_scaled Rp ?_
      have e : vl (bR V' w) * (vl (sinP w) / vl (bR V' w)) = vl (sinP w) := by grind
      rw [e]; grind
  obtain ⟨ft', et'⟩ := divE fs' fR' (ne_of_pos Rp) _ bq (by grind)
  change Fp.Fin (bT V' w) at ft'
  change Wn (vl (bT V' w) - _) _ at et'
  -- t' Q against Ss
  have m := wn_mul et' (show Wn (vl (bR V' w)) 13 from ⟨by grind, r1⟩)
  have e1 : (vl (bT V' w) - vl (sinP w) / vl (bR V' w)) * vl (bR V' w) = vl (bT V' w) * vl (bR V' w) - vl (sinP w) := by
    have : (vl (bT V' w) - vl (sinP w) / vl (bR V' w)) * vl (bR V' w) = vl (bT V' w) * vl (bR V' w) - vl (sinP w) / vl (bR V' w) * vl (bR V' w) := by grind
    rw [this, qe]
  rw [e1] at m
  have m2 := wn_mul m (show Wn (vl (lR ψ c)) (104 / 10) from ⟨by grind, R1⟩)
  have tQ : Wn ((vl (bT V' w) - vl (lT ψ)) * (vl (lR ψ c) * vl (bR V' w))) (T * (T * (101 / 100 * (p + q) + 13 / 1000000000))) := by
    refine (wn_add m2 la).of (by grind) ?_
    have hTT := sq_le_sq (show (0 : Rat) ≤ 99 / 100 by grind) T1
    rw [u1]
    grind
  generalize vl (lR ψ c) * vl (bR V' w) = Q at *
  have Qp : 0 < Q := by have := sz.1; grind
  have z0 : (0 : Rat) ≤ 101 / 100 * (p + q) + 13 / 1000000000 := by grind
  have hD : Wn (vl (bT V' w) - vl (lT ψ)) (T * (T * (1011 / 1000 * (p + q) + 14 / 1000000000))) := by
    have k := Rat.mul_le_mul_of_nonneg_right (show 9999 / 10000 ≤ Q by have := sz.1; grind) (Rat.mul_nonneg T0 (Rat.mul_nonneg T0 (show (0 : Rat) ≤ 1011 / 1000 * (p + q) + 14 / 1000000000 by grind)))
    have TTp := Rat.mul_nonneg (Rat.mul_nonneg T0 T0) (show 0 ≤ p + q by grind)
    have TT0 := Rat.mul_nonneg T0 T0
    obtain ⟨t1, t2⟩ := tQ
    constructor
    · refine le_of_scaled Qp ?_
      grind
    · refine le_of_scaled Qp ?_
      grind
  have bt' : Wn (vl (bT V' w)) 20 := by
    have hz : T * (T * (1011 / 1000 * (p + q) + 14 / 1000000000)) ≤ 1 / 1000 := by
      have a := Rat.mul_le_mul_of_nonneg_left (show 1011 / 1000 * (p + q) + 14 / 1000000000 ≤ 3 / 1000000 by grind) T0
      have b := Rat.mul_le_mul_of_nonneg_left (show T * (1011 / 1000 * (p + q) + 14 / 1000000000) ≤ 4 / 100000 by grind) T0
      grind
    obtain ⟨_, _⟩ := hD
    obtain ⟨_, _⟩ := bτ
    constructor <;> grind
  obtain ⟨r', fψ', bψ', r1', r2', r3', rp', ex'⟩ := unP_near ft' bt'
  refine ⟨fψ', ?_⟩
  have near := arg_near h.hT T1 T2 h.tp r3' r1' hD Rat.le_refl (by grind) (by grind)
  obtain ⟨tp, ea, eb⟩ := h.ex
  obtain ⟨_, ec, ed⟩ := ex'
  -- the numbers are small enough to be taken off one another
  have z1 : 1011 / 1000 * (p + q) + 14 / 1000000000 ≤ 3 / 1000000 := by grind
  have Tz : T * (102 / 100 * (1011 / 1000 * (p + q) + 14 / 1000000000)) ≤ 1 / 10000 := by
    have a := Rat.mul_le_mul_of_nonneg_left z1 T0
    grind
  have near2 : Wn ((vl (bT V' w) + r') - (vl (lT ψ) + T)) (1 / 10000 * (vl (lT ψ) + T)) := near.mono (Rat.mul_le_mul_of_nonneg_right Tz (Rat.le_of_lt tp))
  have P2 : vl (lT ψ) + T ≤ 207 / 10 := by obtain ⟨_, _⟩ := bτ; grind
  have E4 := EX_3.2.2
  have c4 : Wn (4 : Rat) 7 := ⟨by grind, by grind⟩
  have Plo : 1 / 21 ≤ vl (lT ψ) + T := by
    have e : (vl (lT ψ) + T) * (T - vl (lT ψ)) = T * T - vl (lT ψ) * vl (lT ψ) := by grind
    have k := Rat.mul_le_mul_of_nonneg_left (show T - vl (lT ψ) ≤ 206 / 10 by obtain ⟨_, _⟩ := bτ; grind) (Rat.le_of_lt tp)
    rw [e] at k
    have hTT := h.hT
    have := sq_le_sq T0 T2
    obtain ⟨_, _⟩ := hTT
    grind
  have n' := EX_neg bψ'
  have b4 : Wn (vl (unP (bT V' w))) 4 := by
    constructor
    · rcases Rat.le_total (a := -4) (b := vl (unP (bT V' w))) with k | k
      · exact k
      · exfalso
        have mm := EX_mono c4 (wn_negy bψ') (by grind) (by have := bψ'.1; grind)
        obtain ⟨n1, n2⟩ := n'
        obtain ⟨_, _⟩ := near2
        have lo1 : 1 / 22 ≤ EX (vl (unP (bT V' w))) := by grind
        have x := Rat.mul_le_mul_of_nonneg_right lo1 (show 0 ≤ EX (-vl (unP (bT V' w))) by grind)
        generalize EX (vl (unP (bT V' w))) * EX (-vl (unP (bT V' w))) = z at *
        grind
    · rcases Rat.le_total (a := vl (unP (bT V' w))) (b := 4) with k | k
      · exact k
      · exfalso
        have mm := EX_mono c4 bψ' (by grind) (by have := bψ'.2; grind)
        obtain ⟨_, _⟩ := near2
        grind
  have bd : Wn (vl (unP (bT V' w)) - vl ψ) 7 := (wn_sub b4 bψ).mono (by grind)
  have ad := EX_add (bψ.mono (show (3 : Rat) ≤ 7 by grind)) bd (by rw [show vl ψ + (vl (unP (bT V' w)) - vl ψ) = vl (unP (bT V' w)) by grind]; exact bψ')
  rw [show vl ψ + (vl (unP (bT V' w)) - vl ψ) = vl (unP (bT V' w)) by grind] at ad
  obtain ⟨_, ad1, ad2⟩ := ad
  have x0 := EX_pos (bψ.mono (show (3 : Rat) ≤ 7 by grind))
  obtain ⟨nn1, nn2⟩ := near
  have one : Wn (EX (vl (unP (bT V' w)) - vl ψ) - 1) (T * (102 / 100 * (1011 / 1000 * (p + q) + 14 / 1000000000)) * (1001 / 1000) + 6 / 10000000000) := by
    generalize EX (vl (unP (bT V' w)) - vl ψ) = e at *
    generalize EX (vl (unP (bT V' w))) = x' at *
    generalize EX (vl ψ) = x at *
    generalize vl (lT ψ) + T = P at *
    generalize vl (bT V' w) + r' = w' at *
    obtain ⟨B, hB⟩ : ∃ B, B = T * (102 / 100 * (1011 / 1000 * (p + q) + 14 / 1000000000)) := ⟨_, rfl⟩
    rw [← hB] at nn1 nn2 Tz ⊢
    have BP0 : 0 ≤ B * P := by grind
    have B0 : 0 ≤ B := by
      rw [hB]
      exact Rat.mul_nonneg T0 (by grind)
    have xlo := Rat.mul_le_mul_of_nonneg_left (show P * (1 - 3 / 10000000000) ≤ x by grind) B0
    have hx1 : P ≤ x * (1 + 3 / 10000000000) := by grind
    have hBx := Rat.mul_le_mul_of_nonneg_left hx1 B0
    constructor
    · refine le_of_scaled x0 ?_
      grind
    · refine le_of_scaled x0 ?_
      grind
  have fin := EX_one bd one (by
    have a := Rat.mul_le_mul_of_nonneg_right Tz (show (0 : Rat) ≤ 1001 / 1000 by grind)
    grind)
  refine fin.mono ?_
  have Tp := Rat.mul_nonneg T0 (show 0 ≤ p + q by grind)
  grind
end Go.Proofs.YtcppgbhjbmfldaaDoor

/- The longitude that comes back from the ball along the meridian. -/
namespace Go.Fp.Tri
open Go.Fp
set_option maxRecDepth 20000
def PQ : List Rat := [0, 0, -inv 3, 0, inv 5, 0, -inv 7, 0, inv 9, 0, -inv 11, 0, inv 13, 0, -inv 15, 0, inv 17]
theorem pq_bd : pbd PQ (1 / 100) ≤ 2 / 100000 := by decide +kernel
theorem S_near {x : Rat} (h0 : 0 ≤ x) (h1 : x ≤ 1 / 100) : x * (99997 / 100000) ≤ S x := by
  have b := (wn_pev PQ (show Wn x (1 / 100) from ⟨by grind, h1⟩)).mono pq_bd
  have e : S x = x * (1 + pev PQ x) := by simp only [S, PS, PQ, pev]; grind
  have m := Rat.mul_le_mul_of_nonneg_left (show 1 - 2 / 100000 ≤ 1 + pev PQ x by have := b.1; grind) h0
  rw [e]
  grind
theorem cis_norm {a b : Int} (h : normP a = normP b) : cis a = cis b := by
  unfold cis lef
  rw [h]
theorem cI_pm {m : Int} (h1 : -90000000000 ≤ m) (h2 : m ≤ 90000000000) : -(1 / 1000000000000000) ≤ cI m := by
  rcases Int.lt_or_le m 0 with k | k
  · have o := (sI_odd (m := -m) (by omega) (by omega)).2
    rw [Int.neg_neg] at o
    have := cI_nonneg (m := -m) (by omega) (by omega)
    have := o.1
    grind
  · have := cI_nonneg (m := m) k h2
    grind
end Go.Fp.Tri
namespace Go.Proofs.YtcppgbhjbmfldaaDoor
open Go.Fp Go.Fp.Tri
set_option maxRecDepth 20000
/-- an angle with a small sine and a positive cosine is small -/
theorem small_ang {e : Int} {B : Rat} (h1 : Wn (cis e).im B) (h2 : 0 ≤ (cis e).re) (hB : B ≤ 1 / 1000) : Wn (((signP e : Int) : Rat) * rho) (10001 / 10000 * B + 1 / 10000000000000) := by
  have B0 := h1.nonneg
  have rl := rho_lo
  have rh := rho_hi
  have one := cis_one e
  obtain ⟨y1, y2⟩ := h1
  have im2 : (cis e).im * (cis e).im ≤ 1 / 1000000 := by
    have := (wn_mul (show Wn (cis e).im (1 / 1000) from ⟨by grind, by grind⟩) (show Wn (cis e).im (1 / 1000) from ⟨by grind, by grind⟩)).2
    grind
  have re1 : 99 / 100 ≤ (cis e).re := by
    refine le_of_sq h2 ?_
    have := one.1
    grind
  have hn : normP (signP e) = normP e := by unfold signP normP; split <;> omega
  have hr : -180000000000 ≤ signP e ∧ signP e ≤ 180000000000 := by unfold signP normP; split <;> omega
  have ce := cis_norm hn
  rw [← ce] at y1 y2 re1
  generalize signP e = a at *
  obtain ⟨a1, a2⟩ := hr
  obtain ⟨⟨_, c1⟩, ⟨_, s1⟩⟩ := cis_near a
  -- from minus a quarter to a quarter
  have hq : -90000000000 ≤ a ∧ a ≤ 90000000000 := by
    constructor
    · rcases Int.lt_or_le a (-90000000000) with k | k
      · exfalso
        obtain ⟨_, _, c2⟩ := trig_half (a := a + 360000000000) (by omega) (by omega)
        rw [(sinP_norm a (a + 360000000000) (by unfold normP; omega)).2] at c1
        have p := cI_pm (m := a + 360000000000 - 180000000000) (by omega) (by omega)
        obtain ⟨_, _⟩ := c1
        obtain ⟨_, _⟩ := c2
        unfold tol at *
        grind
      · exact k
    · rcases Int.lt_or_le 90000000000 a with k | k
      · exfalso
        obtain ⟨_, _, c2⟩ := trig_half (a := a) (by omega) (by omega)
        have p := cI_pm (m := a - 180000000000) (by omega) (by omega)
        obtain ⟨_, _⟩ := c1
        obtain ⟨_, _⟩ := c2
        unfold tol at *
        grind
      · exact k
  obtain ⟨⟨_, s2⟩, _⟩ := trig_lat (a := a) hq.1 hq.2
  have sI1 : Wn (sI a) (B + 3 / 100000000000000) := by
    obtain ⟨_, _⟩ := s1
    obtain ⟨_, _⟩ := s2
    unfold tol at *
    constructor <;> grind
  -- for an angle that is not negative
  have base : ∀ m : Int, 0 ≤ m → m ≤ 90000000000 → sI m ≤ B + 4 / 100000000000000 → (m : Rat) * rho ≤ 10001 / 10000 * B + 1 / 10000000000000 := by
    intro m m0 m1 hs
    have mr : (0 : Rat) ≤ (m : Rat) * rho := Rat.mul_nonneg (castle (a := 0) m0) (by grind)
    rcases sI_ge m0 m1 with k | k
    · have hlt : m < 45000000000 := by
        rcases Int.lt_or_le m 45000000000 with g | g
        · exact g
        · exfalso
          have t := castle g
          have e : ((45000000000 : Int) : Rat) = 45000000000 := rfl
          rw [e] at t
          have t2 := Rat.mul_le_mul_of_nonneg_right t (show 0 ≤ rho by grind)
          generalize (m : Rat) * rho = z at *
          grind
      rw [sI_lo m0 hlt] at hs k
      have n := S_near mr (by grind)
      generalize (m : Rat) * rho = z at *
      grind
    · exfalso; grind
  rcases Int.lt_or_le a 0 with k | k
  · have o := (sI_odd (m := -a) (by omega) (by omega)).1
    rw [Int.neg_neg] at o
    have := base (-a) (by omega) (by omega) (by obtain ⟨_, _⟩ := o; obtain ⟨_, _⟩ := sI1; grind)
    have e2 : ((-a : Int) : Rat) = -(a : Rat) := by push_cast; rfl
    rw [e2] at this
    constructor
    · grind
    · have t := castle (Int.le_of_lt k)
      have e : ((0 : Int) : Rat) = 0 := rfl
      rw [e] at t
      have t2 := Rat.mul_le_mul_of_nonneg_right t (show 0 ≤ rho by grind)
      grind
  · have := base a k hq.2 (by have := sI1.2; grind)
    have t := castle k
    have e : ((0 : Int) : Rat) = 0 := rfl
    rw [e] at t
    have t2 := Rat.mul_nonneg t (show 0 ≤ rho by grind)
    exact ⟨by grind, this⟩
/-- two longitudes whose sines and cosines tell that they are near -/
theorem lon_near {a d : Int} {B : Rat} (h1 : Wn ((cis a).im * vl (cosP d) - (cis a).re * vl (sinP d)) B) (h2 : 0 < (cis a).re * vl (cosP d) + (cis a).im * vl (sinP d)) (hB : B ≤ 1 / 2000) : Wn (((signP (a - d) : Int) : Rat) * rho) (10001 / 10000 * B + 1 / 10000000000) := by
  have ad := cis_add a (-d)
  have nd := (cis_bd a).mul (cis_neg d)
  rw [show a + -d = a - d by omega] at ad
  have ba := cis_bd a
  obtain ⟨⟨_, c1⟩, ⟨_, s1⟩⟩ := cis_near d
  have m := ba.mul (MB.of (z := (⟨(cis d).re - vl (cosP d), -((cis d).im - vl (sinP d))⟩ : Cx)) ((wn_negy c1).of (by grind) Rat.le_refl) (s1.of (by simp; grind) Rat.le_refl) (show (0 : Rat) ≤ 2 / 100000000000000 by grind) (by unfold tol; grind))
  have t := ((ad.add nd).add m).cast (w := (cis (a - d)).sub ((cis a).mul ⟨vl (cosP d), -vl (sinP d)⟩)) (Cx.ext' (by simp; grind) (by simp; grind))
  have t' := t.mono (show _ ≤ (1 : Rat) / 100000000000 by grind)
  have tr := t'.re
  have ti := t'.im
  simp at tr ti
  have B0 := h1.nonneg
  have im : Wn (cis (a - d)).im (B + 1 / 100000000000) := by
    obtain ⟨_, _⟩ := ti
    obtain ⟨_, _⟩ := h1
    constructor <;> grind
  have re0 : 0 ≤ (cis (a - d)).re := by
    rcases Rat.le_total (a := 0) (b := (cis (a - d)).re) with k | k
    · exact k
    · exfalso
      have lo : -(1 / 100000000000) ≤ (cis (a - d)).re := by obtain ⟨_, _⟩ := tr; grind
      have one := (cis_one (a - d)).1
      have i2 := (wn_mul (im.mono (show _ ≤ (1 : Rat) / 1000 by grind)) (im.mono (show _ ≤ (1 : Rat) / 1000 by grind))).2
      have r2 := (wn_mul (show Wn (cis (a - d)).re (1 / 1000) from ⟨by grind, by grind⟩) (show Wn (cis (a - d)).re (1 / 1000) from ⟨by grind, by grind⟩)).2
      grind
  exact (small_ang im re0 (by grind)).mono (by grind)
end Go.Proofs.YtcppgbhjbmfldaaDoor
