/- The ball that lies along the meridian: where a place is on it, as floats. -/
import Derived.Test.YtfhpnkmpjijebaaDoorZQ
namespace Go.Fp.Tri
open Go.Fp
set_option maxRecDepth 20000
/-! the exponential grows -/
end Go.Fp.Tri
namespace Go.Proofs.YtfhpnkmpjijebaaDoor
open Go.Fp Go.Fp.Tri
set_option maxRecDepth 20000
end Go.Proofs.YtfhpnkmpjijebaaDoor

/- Back from the ball that lies along the meridian: how far a little step takes one, in rational numbers. -/
namespace Go.Fp.Tri
open Go.Fp
set_option maxRecDepth 20000

/-- a place, its distances, a step: what the step makes of them -/
structure Step (τ γ σ T Q K Cc Ss Δ η p q b : Rat) : Prop where
  hT : Wn (T * T - (1 + τ * τ)) (1 / 1000000000000 * (T * T))
  T1 : 99 / 100 ≤ T
  T2 : T ≤ 11
  hg : Wn (γ * γ + σ * σ - 1) (1 / 1000000000000)
  g0 : 0 ≤ γ
  bs : Wn σ (51 / 100)
  hp : Wn Δ p
  hq : Wn η q
  hW : p + q ≤ 2 / 1000000
  b0 : 1 / 100000000000 ≤ b
  b1 : b ≤ 1 / 100000000
  hK : Wn (K - (σ + T * η)) (T * b)
  hC : Wn (Cc - (γ - τ * Δ)) (T * b)
  hS : Wn (Ss - (τ + γ * Δ)) (T * b)
  hQ : Wn (Q * Q - (K * K + Cc * Cc)) (1 / 1000000000000)
  Q0 : 0 ≤ Q
variable {τ γ σ T Q K Cc Ss Δ η p q b : Rat}
theorem Step.bt (h : Step τ γ σ T Q K Cc Ss Δ η p q b) : Wn τ T := by
  have a := h.hT.2
  have b := h.hT.1
  have t1 := h.T1
  have t2 := sq_le_sq (show (0 : Rat) ≤ 99 / 100 by grind) t1
  have t3 := sq_le_sq (show 0 ≤ T by grind) h.T2
  constructor
  · have := le_of_sq (a := -τ) (b := T) (by grind) (by grind)
    grind
  · exact le_of_sq (by grind) (by grind)
theorem Step.bg (h : Step τ γ σ T Q K Cc Ss Δ η p q b) : Wn γ (1000001 / 1000000) := by
  have a := h.hg.2
  have s := rsq_nonneg σ
  have g := h.g0
  exact ⟨by grind, le_of_sq (by grind) (by grind)⟩
theorem Step.lon (h : Step τ γ σ T Q K Cc Ss Δ η p q b) : Wn (K * γ - Cc * σ) (T * ((1000001 / 1000000) * (p + q) + 2 * b)) := by
  have bg := h.bg
  have bt := h.bt
  have T0 : 0 ≤ T := by have := h.T1; grind
  have wT := wn_pos T0
  have a1 := wn_mul (wn_mul wT h.hq) bg
  have a2 := wn_mul (wn_mul bt h.hp) h.bs
  have a3 := wn_mul h.hK bg
  have a4 := wn_mul h.hC h.bs
  have p0 := h.hp.nonneg
  have q0 := h.hq.nonneg
  have tp := Rat.mul_nonneg T0 p0
  have tq := Rat.mul_nonneg T0 q0
  have tb := Rat.mul_nonneg T0 (show 0 ≤ b by have := h.b0; grind)
  refine (wn_add (wn_add a1 a2) (wn_sub a3 a4)).of (by grind) ?_
  grind
theorem Step.size (h : Step τ γ σ T Q K Cc Ss Δ η p q b) : Wn (Q - 1) (1 / 10000) ∧ Wn (Q - 1 - (σ * (T * η) - γ * (τ * Δ))) (T * (1 / 1000 * (p + q) + 2 * b)) := by
  have bg := h.bg
  have bt := h.bt
  have T0 : 0 ≤ T := by have := h.T1; grind
  have T1 := h.T1
  have T2 := h.T2
  have wT := wn_pos T0
  have p0 := h.hp.nonneg
  have q0 := h.hq.nonneg
  have hW := h.hW
  have b0 := h.b0
  have b1 := h.b1
  have tp := Rat.mul_nonneg T0 p0
  have tq := Rat.mul_nonneg T0 q0
  have tb := Rat.mul_nonneg T0 (show 0 ≤ b by grind)
  have tb1 := Rat.mul_le_mul_of_nonneg_right T1 (show 0 ≤ b by grind)
  have mp := Rat.mul_le_mul_of_nonneg_right T2 p0
  have mq := Rat.mul_le_mul_of_nonneg_right T2 q0
  have mb := Rat.mul_le_mul_of_nonneg_right T2 (show 0 ≤ b by grind)
  have u1 := wn_mul wT h.hq
  have u2 := wn_mul bt h.hp
  obtain ⟨eK, heK⟩ : ∃ e, e = K - (σ + T * η) := ⟨_, rfl⟩
  obtain ⟨eC, heC⟩ : ∃ e, e = Cc - (γ - τ * Δ) := ⟨_, rfl⟩
  have hK := h.hK
  have hC := h.hC
  rw [← heK] at hK
  rw [← heC] at hC
  have eqK : K = σ + T * η + eK := by rw [heK]; grind
  have eqC : Cc = γ - τ * Δ + eC := by rw [heC]; grind
  clear heK heC
  have hQ := h.hQ
  rw [eqK, eqC] at hQ
  generalize T * η = a at *
  generalize τ * Δ = d at *
  -- small squares
  have aa := (wn_mul u1 u1)
  have dd := (wn_mul u2 u2)
  have kk := wn_mul hK (wn_add h.bs u1)
  have cc := wn_mul hC (wn_sub bg u2)
  have kk2 := wn_mul hK hK
  have cc2 := wn_mul hC hC
  have s1 : T * q * (T * q) ≤ 25 / 1000000 * (T * q) := Rat.mul_le_mul_of_nonneg_right (by grind) tq
  have s2 : T * p * (T * p) ≤ 25 / 1000000 * (T * p) := Rat.mul_le_mul_of_nonneg_right (by grind) tp
  have s3 : T * b * (T * b) ≤ 1 / 1000000 * (T * b) := Rat.mul_le_mul_of_nonneg_right (by grind) tb
  have s4 : T * b * (51 / 100 + T * q) ≤ 52 / 100 * (T * b) := by
    have := Rat.mul_le_mul_of_nonneg_left (show 51 / 100 + T * q ≤ 52 / 100 by grind) tb
    grind
  have s5 : T * b * (1000001 / 1000000 + T * p) ≤ 101 / 100 * (T * b) := by
    have := Rat.mul_le_mul_of_nonneg_left (show 1000001 / 1000000 + T * p ≤ 101 / 100 by grind) tb
    grind
  have hg := h.hg
  have f1 := wn_mul h.bs u1
  have f2 := wn_mul bg u2
  have key : Wn (Q * Q - 1 - 2 * (σ * a - γ * d)) (26 / 1000000 * (T * q) + 26 / 1000000 * (T * p) + 31 / 10 * (T * b) + 3 / 1000000000000) := by
    have t := wn_add (wn_add hQ hg) (wn_add (wn_add aa dd) (wn_add (wn_add (wn_add kk kk) (wn_add cc cc)) (wn_add kk2 cc2)))
    refine t.of (by grind) (by grind)
  have big : Wn (Q * Q - 1) (1 / 10000) := by
    obtain ⟨_, _⟩ := key
    obtain ⟨_, _⟩ := f1
    obtain ⟨_, _⟩ := f2
    constructor <;> grind
  have Q0 := h.Q0
  have Qb : Wn (Q - 1) (1 / 10000) := by
    constructor
    · have := le_of_sq (a := 1 - 1 / 10000) (b := Q) Q0 (by have := big.1; grind)
      grind
    · have := le_of_sq (a := Q) (b := 1 + 1 / 10000) (by grind) (by have := big.2; grind)
      grind
  refine ⟨Qb, ?_⟩
  -- (Q - 1)^2 is small beside Q - 1
  have Qs : Wn (Q - 1) (11 / 10 * (T * q) + 21 / 10 * (T * p) + 32 / 10 * (T * b) + 3 / 1000000000000) := by
    obtain ⟨k1, k2⟩ := key
    obtain ⟨_, _⟩ := f1
    obtain ⟨_, _⟩ := f2
    have e : Q * Q - 1 = (Q - 1) * (Q + 1) := by grind
    rw [e] at k1 k2
    have Qp : 0 < Q + 1 := by grind
    have B0 : 0 ≤ 11 / 10 * (T * q) + 21 / 10 * (T * p) + 32 / 10 * (T * b) + 3 / 1000000000000 := by grind
    have m := Rat.mul_le_mul_of_nonneg_left (show 1 ≤ Q + 1 by grind) B0
    constructor
    · refine le_of_scaled Qp ?_
      have e1 : (Q + 1) * (Q - 1) = (Q - 1) * (Q + 1) := by grind
      rw [e1]
      have e2 : (Q + 1) * -(11 / 10 * (T * q) + 21 / 10 * (T * p) + 32 / 10 * (T * b) + 3 / 1000000000000) = -((11 / 10 * (T * q) + 21 / 10 * (T * p) + 32 / 10 * (T * b) + 3 / 1000000000000) * (Q + 1)) := by grind
      rw [e2]
      grind
    · refine le_of_scaled Qp ?_
      have e1 : (Q + 1) * (Q - 1) = (Q - 1) * (Q + 1) := by grind
      rw [e1]
      have e2 : (Q + 1) * (11 / 10 * (T * q) + 21 / 10 * (T * p) + 32 / 10 * (T * b) + 3 / 1000000000000) = (11 / 10 * (T * q) + 21 / 10 * (T * p) + 32 / 10 * (T * b) + 3 / 1000000000000) * (Q + 1) := by grind
      rw [e2]
      grind
  have sq := wn_mul Qs Qb
  have t := wn_sub key sq
  have e : Q * Q - 1 - 2 * (σ * a - γ * d) - (Q - 1) * (Q - 1) = 2 * (Q - 1 - (σ * a - γ * d)) := by grind
  rw [e] at t
  obtain ⟨t1, t2⟩ := t
  have e3 : T * (1 / 1000 * (p + q) + 2 * b) = 1 / 1000 * (T * p) + 1 / 1000 * (T * q) + 2 * (T * b) := by grind
  rw [e3]
  constructor <;> grind
theorem Step.lat (h : Step τ γ σ T Q K Cc Ss Δ η p q b) : Wn (Ss - τ * Q) (T * (T * (101 / 100 * (p + q) + 4 * b))) := by
  obtain ⟨_, hs⟩ := h.size
  have bg := h.bg
  have bt := h.bt
  have T0 : 0 ≤ T := by have := h.T1; grind
  have T1 := h.T1
  have wT := wn_pos T0
  have p0 := h.hp.nonneg
  have q0 := h.hq.nonneg
  have b0 := h.b0
  have TT := Rat.mul_nonneg T0 T0
  -- 1 + t^2 is T^2, but for a little
  have bτ : Wn (1 + τ * τ) (T * T * (1000001 / 1000000)) := by
    have a := h.hT.2
    have b := h.hT.1
    have := rsq_nonneg τ
    constructor <;> grind
  have a1 := wn_mul (wn_mul bg h.hp) bτ
  have a2 := wn_mul (wn_mul bt h.bs) (wn_mul wT h.hq)
  have a3 := wn_mul bt hs
  have t := wn_add (wn_sub a1 a2) (wn_sub h.hS a3)
  refine t.of ?_ ?_
  · grind
  · have tp := Rat.mul_nonneg TT p0
    have tq := Rat.mul_nonneg TT q0
    have tb := Rat.mul_nonneg TT (show 0 ≤ b by grind)
    have t1 := Rat.mul_le_mul_of_nonneg_right T1 (Rat.mul_nonneg T0 (show 0 ≤ b by grind))
    grind
end Go.Fp.Tri

/- Where a place is on the ball that lies along the meridian: the floats against the rational numbers. -/
namespace Go.Fp.Tri
open Go.Fp
set_option maxRecDepth 20000
end Go.Fp.Tri
namespace Go.Proofs.YtfhpnkmpjijebaaDoor
open Go.Fp Go.Fp.Tri
set_option maxRecDepth 20000
end Go.Proofs.YtfhpnkmpjijebaaDoor

/- Where a place is on the ball that lies along the meridian: all that is to be known of it. -/
namespace Go.Proofs.YtfhpnkmpjijebaaDoor
open Go.Fp Go.Fp.Tri
set_option maxRecDepth 20000
abbrev lT (ψ : Nat) : Nat := hypK (expP ψ)
abbrev lR (ψ c : Nat) : Nat := fsqrt (fadd (fmul (lT ψ) (lT ψ)) (fmul c c))
abbrev lX (ψ c s : Nat) : Nat := fdiv s (lR ψ c)
abbrev lV (ψ c s : Nat) : Nat := unP (lX ψ c s)
abbrev lU (ψ c : Nat) : Int := angS (lT ψ) c
structure Look (ψ c s : Nat) (T r : Rat) : Prop where
  ft : Fp.Fin (lT ψ)
  hT : Wn (T * T - (1 + vl (lT ψ) * vl (lT ψ))) (1 / 1000000000000 * (T * T))
  T1 : 99 / 100 ≤ T
  T2 : T ≤ 103 / 10
  tp : 0 < vl (lT ψ) + T
  ex : Rn (EX (vl ψ)) (vl (lT ψ) + T) (2 / 10000000000)
  fR : Fp.Fin (lR ψ c)
  R0 : 85 / 100 ≤ vl (lR ψ c)
  R1 : vl (lR ψ c) ≤ 104 / 10
  hR : Wn (vl (lR ψ c) * vl (lR ψ c) - (vl (lT ψ) * vl (lT ψ) + vl c * vl c)) (1 / 10000000000000 * (vl (lR ψ c) * vl (lR ψ c)))
  RT : vl (lR ψ c) ≤ T * (10001 / 10000)
  fx : Fp.Fin (lX ψ c s)
  hx : Wn (vl (lX ψ c s) * vl (lR ψ c) - vl s) (1 / 10000000000000)
  bx : Wn (vl (lX ψ c s)) (61 / 100)
  fV : Fp.Fin (lV ψ c s)
  bV : Wn (vl (lV ψ c s)) 7
  r1 : 99 / 100 ≤ r
  r2 : Wn (r * r - (1 + vl (lX ψ c s) * vl (lX ψ c s))) (2 / 1000000000000000 * (1 + vl (lX ψ c s) * vl (lX ψ c s)))
  ev : Rn (EX (vl (lV ψ c s))) (vl (lX ψ c s) + r) (2 / 10000000000)
  u1 : -90000000000 ≤ lU ψ c
  u2 : lU ψ c ≤ 90000000000
  cu : Wn ((cis (lU ψ c)).re * vl (lR ψ c) - vl c) (2 / 10000000000 * vl (lR ψ c))
  su : Wn ((cis (lU ψ c)).im * vl (lR ψ c) - vl (lT ψ)) (2 / 10000000000 * vl (lR ψ c))
  sv : Wn ((EX (vl (lV ψ c s)) - EX (-vl (lV ψ c s))) / 2 * vl (lR ψ c) - vl s) (1 / 1000000000 * T)
  cv : Wn ((EX (vl (lV ψ c s)) + EX (-vl (lV ψ c s))) / 2 * vl (lR ψ c) - T) (1 / 1000000000 * T)
end Go.Proofs.YtfhpnkmpjijebaaDoor

/- Back from the ball that lies along the meridian: longitude and isometric latitude. -/
namespace Go.Proofs.YtfhpnkmpjijebaaDoor
open Go.Fp Go.Fp.Tri
set_option maxRecDepth 20000
abbrev bK (V' : Nat) : Nat := hypK (expP V')
abbrev bR (V' : Nat) (w : Int) : Nat := fsqrt (fadd (fmul (bK V') (bK V')) (fmul (cosP w) (cosP w)))
variable {ψ c s : Nat} {T r : Rat}
end Go.Proofs.YtfhpnkmpjijebaaDoor

/- Back from the ball that lies along the meridian: how far off longitude and isometric latitude are. -/
namespace Go.Fp.Tri
open Go.Fp
set_option maxRecDepth 20000
end Go.Fp.Tri

/- Back from the ball that lies along the meridian: how far off longitude and isometric latitude are, as the program finds them. -/
namespace Go.Proofs.YtfhpnkmpjijebaaDoor
open Go.Fp Go.Fp.Tri
set_option maxRecDepth 20000
variable {ψ c s : Nat} {T r : Rat}
abbrev bA (V' : Nat) (w : Int) : Int := angS (bK V') (cosP w)
abbrev bT (V' : Nat) (w : Int) : Nat := fdiv (sinP w) (bR V' w)
end Go.Proofs.YtfhpnkmpjijebaaDoor
