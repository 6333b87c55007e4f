/- The isometric latitude: how large it is, how fast it grows. -/
import Derived.Test.YtcppgbhjbmfldaaDoorZS
namespace Go.Fp.Tri
open Go.Fp
set_option maxRecDepth 20000
theorem C_84 : C (((-5999000000 : Int) : Rat) * rho) ≤ 994525 / 1000000 := by decide +kernel
theorem sI_in84 {m : Int} (h0 : 0 ≤ m) (h1 : m ≤ 84001000000) : sI m ≤ 994525 / 1000000 := by
  rcases Int.lt_or_le m 45000000000 with h | h
  · rw [sI_lo h0 h]
    have := (wn_S (arg_bd (r := m) (by omega) (by omega))).2
    grind
  · rw [sI_hi h]
    have r0 := rho_pos
    have a := castle (show m - 90000000000 ≤ -5999000000 by omega)
    have k := Rat.mul_le_mul_of_nonneg_right a (Rat.le_of_lt r0)
    have k2 : ((-5999000000 : Int) : Rat) * rho ≤ 0 := by unfold rho; decide +kernel
    have g := C_grow (arg_bd (r := m - 90000000000) (by omega) (by omega)) k k2
    have q : 0 ≤ (((-5999000000 : Int) : Rat) * rho - ((m - 90000000000 : Int) : Rat) * rho) * (-(((m - 90000000000 : Int) : Rat) * rho) - ((-5999000000 : Int) : Rat) * rho) := Rat.mul_nonneg (by grind) (by grind)
    have := C_84
    grind
theorem sin_in84 {m : Int} (h0 : -84001000000 ≤ m) (h1 : m ≤ 84001000000) : Fin (sinP m) ∧ Wn (vl (sinP m)) (99453 / 100000) := by
  obtain ⟨⟨f, e⟩, _⟩ := trig_lat (a := m) (by omega) (by omega)
  refine ⟨f, ?_⟩
  obtain ⟨e1, e2⟩ := e
  rcases Int.lt_or_le m 0 with h | h
  · have a := sI_in84 (m := -m) (by omega) (by omega)
    have b := sI_nonneg (m := -m) (by omega) (by omega)
    have o := (sI_odd (m := -m) (by omega) (by omega)).1
    rw [Int.neg_neg] at o
    obtain ⟨_, _⟩ := o
    unfold tol at *
    constructor <;> grind
  · have a := sI_in84 h h1
    have b := sI_nonneg h (by omega)
    unfold tol at *
    constructor <;> grind
theorem EX_59 : 365 ≤ EX (59 / 10) := by decide +kernel
theorem v_zero : Fin 0 ∧ vl 0 = 0 := v_0
/-- what is above by what is below -/
theorem rat_84 {s : Nat} (fs : Fin s) (bs : Wn (vl s) (99453 / 100000)) : Fin (ratW s) ∧ 1 / 365 ≤ vl (ratW s) ∧ vl (ratW s) ≤ 3649 / 10 ∧ Wn (vl (ratW s) * (1 - vl s) - (1 + vl s)) (1 / 100000000000000 * (1 + vl s)) := by
  have u1 : uu = 1 / 9007199254740992 := uu_eq
  obtain ⟨f, p, w⟩ := ratW_near fs (bs.mono (by grind))
  obtain ⟨b1, b2⟩ := bs
  obtain ⟨w1, w2⟩ := w
  rw [u1] at w1 w2
  have hp : 0 < 1 - vl s := by grind
  refine ⟨f, ?_, ?_, ?_⟩
  · refine le_of_scaled hp ?_
    have e : (1 - vl s) * vl (ratW s) = vl (ratW s) * (1 - vl s) := by grind
    rw [e]
    generalize vl (ratW s) * (1 - vl s) = z at *
    grind
  · refine le_of_scaled hp ?_
    have e : (1 - vl s) * vl (ratW s) = vl (ratW s) * (1 - vl s) := by grind
    rw [e]
    generalize vl (ratW s) * (1 - vl s) = z at *
    grind
  · constructor <;> grind
end Go.Fp.Tri
namespace Go.Proofs.YtcppgbhjbmfldaaDoor
open Go.Fp Go.Fp.Tri
set_option maxRecDepth 20000
/-- the isometric latitude by its two logarithms -/
theorem iso_by {e s : Nat} (h : EccOk e) (fs : Fp.Fin s) (bs : Wn (vl s) (99453 / 100000)) : Fp.Fin (isoW e s) ∧ Wn (2 * vl (isoW e s) - (vl (lnP (ratW s)) - vl e * AA (vl e * vl s))) (4 / 100000000000000) ∧ Fp.Fin (lnP (ratW s)) ∧ Wn (vl (lnP (ratW s))) (59 / 10) ∧ Rn (EX (vl (lnP (ratW s)))) (vl (ratW s)) (1 / 10000000000) := by
  have u1 : uu = 1 / 9007199254740992 := uu_eq
  obtain ⟨k1, k2, _⟩ := isoW_near h fs (bs.mono (by grind))
  obtain ⟨ft, et, bt⟩ := small_t h fs (bs.mono (by grind))
  obtain ⟨g2, b2⟩ := lnA_small ft bt
  have be : Wn (vl e) (1416 / 10000) := ⟨by have := h.e0; grind, h.e1⟩
  have bes : Wn (vl e * vl s) (172 / 1000) := (wn_mul be bs).mono (by grind)
  have la := AA_lip (bt.mono (show (142 : Rat) / 1000 ≤ 172 / 1000 by grind)) bes et
  obtain ⟨fr, r1, r2, _⟩ := rat_84 fs bs
  obtain ⟨l1, l2, l3⟩ := ln_EX fr (by grind) (by grind)
  refine ⟨k1, ?_, l1, ?_, l3⟩
  · have t := wn_mul be (wn_add b2 la)
    refine (wn_sub (wn_mul (show Wn (2 : Rat) 2 from ⟨by grind, by grind⟩) k2) t).of (by grind) (by rw [u1]; grind)
  · have n := EX_neg l2
    have c : Wn (59 / 10 : Rat) 7 := ⟨by grind, by grind⟩
    have g := EX_59
    have x0 := EX_pos l2
    obtain ⟨_, e1, e2⟩ := l3
    constructor
    · rcases Rat.le_total (a := -(59 / 10)) (b := vl (lnP (ratW s))) with k | k
      · exact k
      · exfalso
        have m := EX_mono c (wn_negy l2) (by grind) (by have := l2.1; grind)
        obtain ⟨n1, n2⟩ := n
        -- EX (-L) is about one over the ratio
        have lo : 1 / 365 * (1 - 1 / 10000000000) ≤ EX (vl (lnP (ratW s))) := by grind
        have x := Rat.mul_le_mul_of_nonneg_right lo (show 0 ≤ EX (-vl (lnP (ratW s))) by grind)
        have r3 : 1 / 3649 * 10 ≤ vl (ratW s) := by
          have := (rat_84 fs bs).2.2.2
          obtain ⟨b1, b2⟩ := bs
          refine le_of_scaled (R := 1 - vl s) (by grind) ?_
          obtain ⟨_, _⟩ := this
          grind
        have lo2 : 1 / 3649 * 10 * (1 - 1 / 10000000000) ≤ EX (vl (lnP (ratW s))) := by grind
        have x2 := Rat.mul_le_mul_of_nonneg_right lo2 (show 0 ≤ EX (-vl (lnP (ratW s))) by grind)
        generalize EX (vl (lnP (ratW s))) * EX (-vl (lnP (ratW s))) = z at *
        grind
    · rcases Rat.le_total (a := vl (lnP (ratW s))) (b := 59 / 10) with k | k
      · exact k
      · exfalso
        have m := EX_mono c l2 (by grind) (by have := l2.2; grind)
        grind
theorem AA_small {t : Rat} (h : Wn t (172 / 1000)) : Wn (AA t) (2062 / 1000 * rabs t) := by
  have a := AA_lip h (show Wn (0 : Rat) (172 / 1000) from ⟨by grind, by grind⟩) (D := rabs t) ((wn_rabs t).of (by grind) Rat.le_refl)
  rw [AA_zero] at a
  exact a.of (by grind) Rat.le_refl
theorem iso_84 {e s : Nat} (h : EccOk e) (fs : Fp.Fin s) (bs : Wn (vl s) (99453 / 100000)) : Wn (vl (isoW e s)) 3 := by
  obtain ⟨_, k, _, l, _⟩ := iso_by h fs bs
  have be : Wn (vl e) (1416 / 10000) := ⟨by have := h.e0; grind, h.e1⟩
  have bes : Wn (vl e * vl s) (1416 / 10000) := (wn_mul be bs).mono (by grind)
  have ra : rabs (vl e * vl s) ≤ 1416 / 10000 := by unfold rabs; obtain ⟨_, _⟩ := bes; split <;> grind
  have a := (AA_small (bes.mono (by grind))).mono (Rat.mul_le_mul_of_nonneg_left ra (by grind))
  have t := wn_mul be a
  obtain ⟨_, _⟩ := t
  obtain ⟨_, _⟩ := k
  obtain ⟨_, _⟩ := l
  constructor <;> grind
/-- the core: how large the hyperbolic cosine is -/
theorem T_core {T P P' σ : Rat} (hT : 2 * T = P + P') (hp : Wn (P * P' - 1) (1 / 5000000000)) (s0 : 0 ≤ σ) (s1 : σ ≤ 1) (up : P * P * (1 - σ) ≤ (1 + σ) * (1 + 4 / 1000000000)) (lo : 1 - 4 / 1000000000 ≤ P * P) : T * T * (1 - σ * σ) ≤ 1 + 1 / 10000000 := by
  obtain ⟨y, hy⟩ : ∃ y, y = P * P := ⟨_, rfl⟩
  rw [← hy] at up lo
  have y0 : 0 < y := by grind
  have ss : 0 ≤ 1 - σ * σ := by have := mul_mono s0 s1 s0 s1; grind
  have e1 : 4 * (T * T) * y = (y + P * P') * (y + P * P') := by
    have : 4 * (T * T) = (2 * T) * (2 * T) := by grind
    rw [this, hT, hy]; grind
  obtain ⟨p1, p2⟩ := hp
  have sq := sq_le_sq (show 0 ≤ y + P * P' by grind) (show y + P * P' ≤ (y + 1) * (1 + 1 / 5000000000) by grind)
  rw [← e1] at sq
  have id : (y + 1) * (y + 1) * (1 - σ * σ) - 4 * y = (y * (1 - σ) - (1 + σ)) * (y * (1 + σ) - (1 - σ)) := by grind
  have prod : (y * (1 - σ) - (1 + σ)) * (y * (1 + σ) - (1 - σ)) ≤ 4 / 100000000 * (y + 1) := by
    have f1 : y * (1 - σ) - (1 + σ) ≤ 8 / 1000000000 := by grind
    have g0 : 0 ≤ y * (1 + σ) - (1 - σ) + 8 / 1000000000 := by
      have := Rat.mul_le_mul_of_nonneg_right lo (show 0 ≤ 1 + σ by grind)
      have : 0 ≤ σ := s0
      grind
    have g1 : y * (1 + σ) - (1 - σ) + 8 / 1000000000 ≤ 2 * y + 2 := by
      have := Rat.mul_le_mul_of_nonneg_left s1 (Rat.le_of_lt y0)
      grind
    have k := Rat.mul_le_mul_of_nonneg_right f1 g0
    have k2 : -(y * (1 - σ) - (1 + σ)) ≤ 2 := by
      have := Rat.mul_nonneg (Rat.le_of_lt y0) (show 0 ≤ 1 - σ by grind)
      grind
    generalize y * (1 - σ) - (1 + σ) = f at *
    generalize y * (1 + σ) - (1 - σ) = g at *
    grind
  have fin := Rat.mul_le_mul_of_nonneg_right sq ss
  have e2 : (y + 1) * (1 + 1 / 5000000000) * ((y + 1) * (1 + 1 / 5000000000)) * (1 - σ * σ) = (y + 1) * (y + 1) * (1 - σ * σ) * ((1 + 1 / 5000000000) * (1 + 1 / 5000000000)) := by grind
  rw [e2] at fin
  have hle : (y + 1) * (y + 1) * (1 - σ * σ) ≤ 4 * y + 4 / 100000000 * (y + 1) := by grind
  generalize (y + 1) * (y + 1) * (1 - σ * σ) = z at *
  refine le_of_scaled (R := 4 * y) (by grind) ?_
  have e3 : 4 * y * (T * T * (1 - σ * σ)) = 4 * (T * T) * y * (1 - σ * σ) := by grind
  rw [e3]
  grind
theorem ln_one_v : vl (lnP Fp.cOne) = 0 := by
  have e : lnP Fp.cOne = 0 := by decide +kernel
  rw [e]
  exact v_zero.2
/-- the logarithm lies on its side of naught -/
theorem ln_side {s : Nat} (fs : Fp.Fin s) (bs : Wn (vl s) (99453 / 100000)) : (0 ≤ vl s → 66 / 100 * vl s - 1 / 10000000000000 ≤ vl (lnP (ratW s))) ∧ (vl s ≤ 0 → 66 / 100 * -vl s - 1 / 10000000000000 ≤ -vl (lnP (ratW s))) := by
  obtain ⟨fr, r1, r2, r3⟩ := rat_84 fs bs
  have o1 : vl (lnP Fp.cOne) = 0 := ln_one_v
  obtain ⟨b1, b2⟩ := bs
  obtain ⟨w1, w2⟩ := r3
  have d0 : 0 < 1 - vl s := by grind
  have z7 : Wn (0 : Rat) (172 / 1000) := ⟨by grind, by grind⟩
  constructor
  · intro h
    rcases Rat.le_total (a := vl s) (b := 142 / 1000) with k | k
    · obtain ⟨_, l⟩ := lnA_small fs ⟨by grind, k⟩
      have a := (AA_bd (a := vl s) (b := 0) ⟨by grind, by grind⟩ z7 h).1
      rw [AA_zero] at a
      have := l.1
      grind
    · have k1 : 1 ≤ vl (ratW s) := by
        refine le_of_scaled d0 ?_
        grind
      have l := (lnW_lo v_one.1 fr (by rw [v_one.2]; grind) (by rw [v_one.2]; exact k1) (by rw [v_one.2]; grind) (by grind)).2.2
      rw [v_one.2] at l
      change _ ≤ vl (ratW s) * (vl (lnP (ratW s)) - vl (lnP Fp.cOne)) at l
      rw [o1] at l
      refine le_of_scaled (R := vl (ratW s)) (by grind) ?_
      have e : vl (ratW s) * (66 / 100 * vl s - 1 / 10000000000000) = 66 / 100 * (vl (ratW s) * vl s) - 1 / 10000000000000 * vl (ratW s) := by grind
      rw [e]
      have m : vl (ratW s) * vl s ≤ vl (ratW s) - 1 + 1 / 100000000000000 := by grind
      grind
  · intro h
    rcases Rat.le_total (a := -(142 / 1000)) (b := vl s) with k | k
    · obtain ⟨_, l⟩ := lnA_small fs ⟨k, by grind⟩
      have a := (AA_bd (a := 0) (b := vl s) z7 ⟨by grind, by grind⟩ h).1
      rw [AA_zero] at a
      have := l.2
      grind
    · have k1 : vl (ratW s) ≤ 1 := by
        refine le_of_scaled d0 ?_
        grind
      have l := (lnW_lo fr v_one.1 (by grind) (by rw [v_one.2]; exact k1) (by grind) (by rw [v_one.2]; grind)).2.2
      rw [v_one.2] at l
      change _ ≤ 1 * (vl (lnP Fp.cOne) - vl (lnP (ratW s))) at l
      rw [o1] at l
      have m : -vl s ≤ 1 - vl (ratW s) + 1 / 100000000000000 := by
        have := Rat.mul_nonneg (show 0 ≤ vl (ratW s) by grind) (show 0 ≤ -vl s by grind)
        grind
      grind
/-- the cosine of a latitude, and how the hyperbolic cosine of its isometric latitude stands to it -/
theorem T_cos {e s ψ : Nat} {T τ : Rat} (h : EccOk e) (fs : Fp.Fin s) (bs : Wn (vl s) (99453 / 100000)) (hψ : ψ = isoW e s) (hT : Wn (T * T - (1 + τ * τ)) (1 / 1000000000000 * (T * T))) (T1 : 99 / 100 ≤ T) (T2 : T ≤ 103 / 10) (tp : 0 < τ + T) (ex : Rn (EX (vl ψ)) (τ + T) (2 / 10000000000)) :
    T * T * (1 - vl s * vl s) ≤ 1 + 1 / 10000000 := by
  obtain ⟨_, k, _, l, lx⟩ := iso_by h fs bs
  have b3 := iso_84 h fs bs
  rw [← hψ] at k b3
  obtain ⟨_, _, _, rat⟩ := rat_84 fs bs
  obtain ⟨sd1, sd2⟩ := ln_side fs bs
  have be : Wn (vl e) (1416 / 10000) := ⟨by have := h.e0; grind, h.e1⟩
  have bes : Wn (vl e * vl s) (172 / 1000) := (wn_mul be bs).mono (by grind)
  have z7 : Wn (0 : Rat) (172 / 1000) := ⟨by grind, by grind⟩
  have T0 : 0 ≤ T := by grind
  have TT := sq_le_sq T0 T2
  have prod : Wn ((τ + T) * (T - τ) - 1) (1 / 5000000000) := by
    have e1 : (τ + T) * (T - τ) = T * T - τ * τ := by grind
    rw [e1]
    obtain ⟨_, _⟩ := hT
    constructor <;> grind
  have d7 : Wn (2 * vl ψ) 7 := by obtain ⟨_, _⟩ := b3; constructor <;> grind
  have b7 := b3.mono (show (3 : Rat) ≤ 7 by grind)
  have z0 : Wn (0 : Rat) 7 := ⟨by grind, by grind⟩
  rcases Rat.le_total (a := 0) (b := vl s) with hs | hs
  · -- north
    have e0 : 0 ≤ vl e * vl s := Rat.mul_nonneg h.e0 hs
    obtain ⟨a1, a2⟩ := AA_bd bes z7 e0
    rw [AA_zero] at a1 a2
    have a0 : 0 ≤ vl e * AA (vl e * vl s) := Rat.mul_nonneg h.e0 (by grind)
    have a3 : vl e * AA (vl e * vl s) ≤ 42 / 1000 * vl s := by
      have m := mul_mono h.e0 h.e1 e0 (show vl e * vl s ≤ 1416 / 10000 * vl s from Rat.mul_le_mul_of_nonneg_right h.e1 hs)
      have m2 := Rat.mul_le_mul_of_nonneg_left (show AA (vl e * vl s) ≤ 2062 / 1000 * (vl e * vl s) by grind) h.e0
      grind
    have l0 := sd1 hs
    obtain ⟨k1, k2⟩ := k
    have up : 2 * vl ψ ≤ vl (lnP (ratW s)) + 4 / 100000000000000 := by grind
    have lo : -(1 / 1000000000000) ≤ 2 * vl ψ := by grind
    have l7 : Wn (vl (lnP (ratW s)) + 4 / 100000000000000) 7 := by obtain ⟨_, _⟩ := l; constructor <;> grind
    have m := EX_mono d7 l7 up (by obtain ⟨_, _⟩ := b3; obtain ⟨_, _⟩ := l; grind)
    have lp := EX_lip l7 (l.mono (show (59 : Rat) / 10 ≤ 7 by grind)) ⟨by grind, by grind⟩
    have sq := EX_add b7 b7 (by rw [show vl ψ + vl ψ = 2 * vl ψ by grind]; exact d7)
    rw [show vl ψ + vl ψ = 2 * vl ψ by grind] at sq
    have lo2 : 1 - 1 / 10000000000 ≤ EX (2 * vl ψ) := by
      have g := EX_mono (show Wn (-(1 / 1000000000000) : Rat) 7 from ⟨by grind, by grind⟩) d7 lo (by obtain ⟨_, _⟩ := b3; grind)
      have g2 := EX_lip (show Wn (-(1 / 1000000000000) : Rat) 7 from ⟨by grind, by grind⟩) (show Wn (-(9 / 10000000000000) : Rat) 7 from ⟨by grind, by grind⟩) ⟨by grind, by grind⟩
      have g3 := EX_small (r := -(9 / 10000000000000)) ⟨by grind, by grind⟩
      have g4 : 1 - 1 / 100000000000 ≤ Ex (-(9 / 10000000000000)) := by decide +kernel
      obtain ⟨_, _, _⟩ := g2
      obtain ⟨_, _, _⟩ := g3
      grind
    obtain ⟨p0, ea, eb⟩ := ex
    obtain ⟨_, s1, s2⟩ := sq
    obtain ⟨_, lp1, lp2⟩ := lp
    obtain ⟨_, lx1, lx2⟩ := lx
    obtain ⟨w1, w2⟩ := rat
    have x0 := EX_pos b7
    refine T_core (T := T) (P := τ + T) (P' := T - τ) (σ := vl s) (by grind) prod hs (by have := bs.2; grind) ?_ ?_
    · -- P^2 (1 - s)
      have q1 := sq_le_sq (Rat.le_of_lt p0) (show τ + T ≤ EX (vl ψ) * (1 + 3 / 10000000000) by grind)
      have e3 : EX (vl ψ) * (1 + 3 / 10000000000) * (EX (vl ψ) * (1 + 3 / 10000000000)) = EX (vl ψ) * EX (vl ψ) * ((1 + 3 / 10000000000) * (1 + 3 / 10000000000)) := by grind
      rw [e3] at q1
      have q2 : (τ + T) * (τ + T) ≤ vl (ratW s) * (1 + 9 / 10000000000) := by
        generalize EX (vl ψ) * EX (vl ψ) = z at *
        grind
      have q3 := Rat.mul_le_mul_of_nonneg_right q2 (show 0 ≤ 1 - vl s by have := bs.2; grind)
      have e4 : vl (ratW s) * (1 + 9 / 10000000000) * (1 - vl s) = vl (ratW s) * (1 - vl s) * (1 + 9 / 10000000000) := by grind
      rw [e4] at q3
      generalize vl (ratW s) * (1 - vl s) = z at *
      grind
    · have q1 := sq_le_sq (show 0 ≤ EX (vl ψ) * (1 - 3 / 10000000000) by grind) (show EX (vl ψ) * (1 - 3 / 10000000000) ≤ τ + T by grind)
      have e3 : EX (vl ψ) * (1 - 3 / 10000000000) * (EX (vl ψ) * (1 - 3 / 10000000000)) = EX (vl ψ) * EX (vl ψ) * ((1 - 3 / 10000000000) * (1 - 3 / 10000000000)) := by grind
      rw [e3] at q1
      generalize EX (vl ψ) * EX (vl ψ) = z at *
      grind
  · -- south
    have e0 : vl e * vl s ≤ 0 := by
      have := Rat.mul_nonneg h.e0 (show 0 ≤ -vl s by grind)
      grind
    obtain ⟨a1, a2⟩ := AA_bd z7 bes e0
    rw [AA_zero] at a1 a2
    have a0 : 0 ≤ vl e * -AA (vl e * vl s) := Rat.mul_nonneg h.e0 (by grind)
    have a3 : vl e * -AA (vl e * vl s) ≤ 42 / 1000 * -vl s := by
      have m := mul_mono h.e0 h.e1 (show 0 ≤ -(vl e * vl s) by grind) (show -(vl e * vl s) ≤ 1416 / 10000 * -vl s by have := Rat.mul_le_mul_of_nonneg_right h.e1 (show 0 ≤ -vl s by grind); grind)
      have m2 := Rat.mul_le_mul_of_nonneg_left (show -AA (vl e * vl s) ≤ 2062 / 1000 * -(vl e * vl s) by grind) h.e0
      grind
    have l0 := sd2 hs
    obtain ⟨k1, k2⟩ := k
    have up : -(2 * vl ψ) ≤ -vl (lnP (ratW s)) + 4 / 100000000000000 := by grind
    have lo : -(1 / 1000000000000) ≤ -(2 * vl ψ) := by grind
    have l7 : Wn (-vl (lnP (ratW s)) + 4 / 100000000000000) 7 := by obtain ⟨_, _⟩ := l; constructor <;> grind
    have m := EX_mono (wn_negy d7) l7 up (by obtain ⟨_, _⟩ := b3; obtain ⟨_, _⟩ := l; grind)
    have lp := EX_lip l7 (wn_negy (l.mono (show (59 : Rat) / 10 ≤ 7 by grind))) ⟨by grind, by grind⟩
    have sq := EX_add (wn_negy b7) (wn_negy b7) (by rw [show -vl ψ + -vl ψ = -(2 * vl ψ) by grind]; exact wn_negy d7)
    rw [show -vl ψ + -vl ψ = -(2 * vl ψ) by grind] at sq
    have lo2 : 1 - 1 / 10000000000 ≤ EX (-(2 * vl ψ)) := by
      have g := EX_mono (show Wn (-(1 / 1000000000000) : Rat) 7 from ⟨by grind, by grind⟩) (wn_negy d7) lo (by obtain ⟨_, _⟩ := b3; grind)
      have g2 := EX_lip (show Wn (-(1 / 1000000000000) : Rat) 7 from ⟨by grind, by grind⟩) (show Wn (-(9 / 10000000000000) : Rat) 7 from ⟨by grind, by grind⟩) ⟨by grind, by grind⟩
      have g3 := EX_small (r := -(9 / 10000000000000)) ⟨by grind, by grind⟩
      have g4 : 1 - 1 / 100000000000 ≤ Ex (-(9 / 10000000000000)) := by decide +kernel
      obtain ⟨_, _, _⟩ := g2
      obtain ⟨_, _, _⟩ := g3
      grind
    -- the exponential of the opposite
    have n := EX_neg b7
    have nl := EX_neg (l.mono (show (59 : Rat) / 10 ≤ 7 by grind))
    have y0 := EX_pos (wn_negy b7)
    obtain ⟨p0, ea, eb⟩ := ex
    have tp' : 0 < T - τ := by
      rcases Rat.le_total (a := T) (b := τ) with g | g
      · exfalso
        have := Rat.mul_le_mul_of_nonneg_left (show T - τ ≤ 0 by grind) (Rat.le_of_lt p0)
        obtain ⟨_, _⟩ := prod
        grind
      · by_cases e : T - τ = 0
        · rw [e] at prod
          obtain ⟨_, _⟩ := prod
          grind
        · grind
    have nx : Wn (EX (-vl ψ) - (T - τ)) (3 / 5000000000 * (T - τ)) := by
      obtain ⟨n1, n2⟩ := n
      obtain ⟨p1, p2⟩ := prod
      have x0 := EX_pos b7
      generalize EX (vl ψ) = a at *
      generalize EX (-vl ψ) = b at *
      have k1 := Rat.mul_le_mul_of_nonneg_right (show a ≤ (τ + T) + 2 / 10000000000 * (τ + T) by grind) (Rat.le_of_lt tp')
      have k2 := Rat.mul_le_mul_of_nonneg_right (show (τ + T) - 2 / 10000000000 * (τ + T) ≤ a by grind) (Rat.le_of_lt tp')
      have ka : a * (T - τ) ≤ 1 + 41 / 100000000000 := by
        have e : ((τ + T) + 2 / 10000000000 * (τ + T)) * (T - τ) = (1 + 2 / 10000000000) * ((τ + T) * (T - τ)) := by grind
        rw [e] at k1
        generalize (τ + T) * (T - τ) = P at *
        grind
      have kb : 1 - 41 / 100000000000 ≤ a * (T - τ) := by
        have e : ((τ + T) - 2 / 10000000000 * (τ + T)) * (T - τ) = (1 - 2 / 10000000000) * ((τ + T) * (T - τ)) := by grind
        rw [e] at k2
        generalize (τ + T) * (T - τ) = P at *
        grind
      have m1 := Rat.mul_le_mul_of_nonneg_right ka (Rat.le_of_lt y0)
      have m2 := Rat.mul_le_mul_of_nonneg_right kb (Rat.le_of_lt y0)
      have m3 := Rat.mul_le_mul_of_nonneg_right (show a * b ≤ 1 + 5 / 1000000000000 by grind) (Rat.le_of_lt tp')
      have m4 := Rat.mul_le_mul_of_nonneg_right (show 1 - 5 / 1000000000000 ≤ a * b by grind) (Rat.le_of_lt tp')
      have e3 : a * (T - τ) * b = a * b * (T - τ) := by grind
      rw [e3] at m1 m2
      generalize a * b * (T - τ) = z at *
      constructor <;> grind
    obtain ⟨nx1, nx2⟩ := nx
    obtain ⟨_, s1, s2⟩ := sq
    obtain ⟨_, lp1, lp2⟩ := lp
    obtain ⟨w1, w2⟩ := rat
    obtain ⟨lx0, lx1, lx2⟩ := lx
    obtain ⟨nl1, nl2⟩ := nl
    have t := T_core (T := T) (P := T - τ) (P' := τ + T) (σ := -vl s) (by grind) (prod.of (by grind) Rat.le_refl) (by grind) (by have := bs.1; grind) ?_ ?_
    · refine Rat.le_trans (Rat.le_trans ?_ t) Rat.le_refl
      have : -vl s * -vl s = vl s * vl s := by grind
      rw [this]; exact Rat.le_refl
    · have q1 := sq_le_sq (Rat.le_of_lt tp') (show T - τ ≤ EX (-vl ψ) * (1 + 7 / 10000000000) by grind)
      have e3 : EX (-vl ψ) * (1 + 7 / 10000000000) * (EX (-vl ψ) * (1 + 7 / 10000000000)) = EX (-vl ψ) * EX (-vl ψ) * ((1 + 7 / 10000000000) * (1 + 7 / 10000000000)) := by grind
      rw [e3] at q1
      have q2 : (T - τ) * (T - τ) ≤ EX (-vl (lnP (ratW s))) * (1 + 16 / 10000000000) := by
        generalize EX (-vl ψ) * EX (-vl ψ) = z at *
        grind
      have E0 := EX_pos (wn_negy (l.mono (show (59 : Rat) / 10 ≤ 7 by grind)))
      have hA := Rat.mul_le_mul_of_nonneg_left (show vl (ratW s) * (1 - 1 / 10000000000) ≤ EX (vl (lnP (ratW s))) by grind) (Rat.le_of_lt E0)
      have hB := Rat.mul_le_mul_of_nonneg_left (show (1 + vl s) * (1 - 1 / 100000000000000) ≤ vl (ratW s) * (1 - vl s) by grind) (Rat.le_of_lt E0)
      have s1' : 0 ≤ 1 - vl s := by grind
      have hC := Rat.mul_le_mul_of_nonneg_right (show EX (-vl (lnP (ratW s))) * vl (ratW s) ≤ 1 + 2 / 10000000000 by
        generalize EX (-vl (lnP (ratW s))) = E at *
        generalize EX (vl (lnP (ratW s))) = x at *
        have e : E * (vl (ratW s) * (1 - 1 / 10000000000)) = E * vl (ratW s) * (1 - 1 / 10000000000) := by grind
        rw [e] at hA
        have e2 : x * E = E * x := by grind
        rw [e2] at nl2
        generalize E * vl (ratW s) = z at *
        grind) s1'
      have e4 : EX (-vl (lnP (ratW s))) * (vl (ratW s) * (1 - vl s)) = EX (-vl (lnP (ratW s))) * vl (ratW s) * (1 - vl s) := by grind
      rw [e4] at hB
      have hD : EX (-vl (lnP (ratW s))) * (1 + vl s) ≤ (1 - vl s) * (1 + 3 / 10000000000) := by
        have e5 : EX (-vl (lnP (ratW s))) * ((1 + vl s) * (1 - 1 / 100000000000000)) = EX (-vl (lnP (ratW s))) * (1 + vl s) * (1 - 1 / 100000000000000) := by grind
        rw [e5] at hB
        generalize EX (-vl (lnP (ratW s))) * vl (ratW s) * (1 - vl s) = z1 at *
        generalize EX (-vl (lnP (ratW s))) * (1 + vl s) = z2 at *
        grind
      have q3 := Rat.mul_le_mul_of_nonneg_right q2 (show 0 ≤ 1 + vl s by have := bs.1; grind)
      have e6 : EX (-vl (lnP (ratW s))) * (1 + 16 / 10000000000) * (1 + vl s) = EX (-vl (lnP (ratW s))) * (1 + vl s) * (1 + 16 / 10000000000) := by grind
      rw [e6] at q3
      generalize EX (-vl (lnP (ratW s))) * (1 + vl s) = z2 at *
      grind
    · have q1 := sq_le_sq (show 0 ≤ EX (-vl ψ) * (1 - 7 / 10000000000) by grind) (show EX (-vl ψ) * (1 - 7 / 10000000000) ≤ T - τ by grind)
      have e3 : EX (-vl ψ) * (1 - 7 / 10000000000) * (EX (-vl ψ) * (1 - 7 / 10000000000)) = EX (-vl ψ) * EX (-vl ψ) * ((1 - 7 / 10000000000) * (1 - 7 / 10000000000)) := by grind
      rw [e3] at q1
      generalize EX (-vl ψ) * EX (-vl ψ) = z at *
      grind
end Go.Proofs.YtcppgbhjbmfldaaDoor

/- How fast the isometric latitude grows; the latitude that is found of an isometric latitude a little off. -/
namespace Go.Proofs.YtcppgbhjbmfldaaDoor
open Go.Fp Go.Fp.Tri
set_option maxRecDepth 20000
/-- cosine of a latitude up to 84 degrees -/
theorem cos_84 {m : Int} (h0 : -84001000000 ≤ m) (h1 : m ≤ 84001000000) : Fp.Fin (cosP m) ∧ 104 / 1000 ≤ vl (cosP m) ∧ vl (cosP m) ≤ 10001 / 10000 ∧ Wn (vl (cosP m) * vl (cosP m) + vl (sinP m) * vl (sinP m) - 1) (1 / 10000000000000) := by
  obtain ⟨fs, bs⟩ := sin_in84 h0 h1
  obtain ⟨⟨_, e1⟩, ⟨f, e2⟩⟩ := trig_lat (a := m) (by omega) (by omega)
  have one := one_I (m := m) (by omega) (by omega)
  have bc := wn_cI (m := m) (by omega) (by omega)
  have bS := wn_sI (m := m) (by omega) (by omega)
  have p := cI_pm (m := m) (by omega) (by omega)
  have k1 := wn_mul e2 (show Wn (vl (cosP m) + cI m) 3 from by obtain ⟨_, _⟩ := e2; obtain ⟨_, _⟩ := bc; unfold tol at *; constructor <;> grind)
  have k2 := wn_mul e1 (show Wn (vl (sinP m) + sI m) 3 from by obtain ⟨_, _⟩ := e1; obtain ⟨_, _⟩ := bS; unfold tol at *; constructor <;> grind)
  have n : Wn (vl (cosP m) * vl (cosP m) + vl (sinP m) * vl (sinP m) - 1) (1 / 10000000000000) := (wn_add (wn_add k1 k2) one).of (by grind) (by unfold tol; grind)
  have ss := (wn_mul bs bs).2
  have c0 : -(1 / 10000000000000) ≤ vl (cosP m) := by obtain ⟨_, _⟩ := e2; unfold tol at *; grind
  refine ⟨f, ?_, ?_, n⟩
  · rcases Rat.le_total (a := 104 / 1000) (b := vl (cosP m)) with k | k
    · exact k
    · exfalso
      have t := (wn_mul (show Wn (vl (cosP m)) (104 / 1000) from ⟨by grind, k⟩) (show Wn (vl (cosP m)) (104 / 1000) from ⟨by grind, k⟩)).2
      have := n.1
      grind
  · refine le_of_sq (by grind) ?_
    have := rsq_nonneg (vl (sinP m))
    have := n.2
    grind
theorem rho_G {G : Int} (G0 : 1900 ≤ G) (G1 : G ≤ 1000000) : 33 / 1000000000 ≤ (G : Rat) * rho ∧ (G : Rat) * rho ≤ 18 / 1000000 := by
  have a := castle G0
  have b := castle G1
  have e1 : ((1900 : Int) : Rat) = 1900 := rfl
  have e2 : ((1000000 : Int) : Rat) = 1000000 := rfl
  rw [e1] at a
  rw [e2] at b
  have r1 := rho_lo
  have r2 := rho_hi
  have m1 := Rat.mul_le_mul_of_nonneg_right a (show 0 ≤ rho by grind)
  have m2 := Rat.mul_le_mul_of_nonneg_right b (show 0 ≤ rho by grind)
  generalize (G : Rat) * rho = z at *
  constructor <;> grind
/-- by how much the sine grows -/
theorem sin_gap {lat G : Int} (h0 : -84000000000 ≤ lat) (h1 : lat ≤ 84000000000) (G0 : 1900 ≤ G) (G1 : G ≤ 1000000) :
    Wn (vl (sinP (lat + G)) - vl (sinP lat) - vl (cosP lat) * ((G : Rat) * rho)) (3 / 1000 * (vl (cosP lat) * ((G : Rat) * rho))) ∧ Wn (vl (sinP lat) - vl (sinP (lat - G)) - vl (cosP lat) * ((G : Rat) * rho)) (3 / 1000 * (vl (cosP lat) * ((G : Rat) * rho))) := by
  obtain ⟨fc, c0, c1, _⟩ := cos_84 (m := lat) (by omega) (by omega)
  obtain ⟨g0, g1⟩ := rho_G G0 G1
  obtain ⟨_, ⟨_, bsn⟩⟩ := And.intro trivial (sin_in84 (m := lat) (by omega) (by omega))
  obtain ⟨⟨_, n1⟩, ⟨_, n2⟩⟩ := cis_near lat
  obtain ⟨_, ⟨_, n3⟩⟩ := cis_near (lat + G)
  obtain ⟨_, ⟨_, n4⟩⟩ := cis_near (lat - G)
  have a1 := (cis_add lat G).im
  have a2 := (cis_add lat (-G)).im
  rw [cis_small (a := G) (by omega) (by omega)] at a1
  rw [cis_small (a := -G) (by omega) (by omega)] at a2
  have en : ((-G : Int) : Rat) * rho = -((G : Rat) * rho) := by push_cast; grind
  rw [en, show lat + -G = lat - G by omega] at a2
  generalize (G : Rat) * rho = g at *
  have lo := S_near (x := g) (by grind) (by grind)
  have hi : S g ≤ g * (1 + 2 / 100000) := by
    have b := (wn_pev PQ (show Wn g (1 / 100) from ⟨by grind, by grind⟩)).mono pq_bd
    have e : S g = g * (1 + pev PQ g) := by simp only [S, PS, PQ, pev]; grind
    have m := Rat.mul_le_mul_of_nonneg_left (show 1 + pev PQ g ≤ 1 + 2 / 100000 by have := b.2; grind) (show 0 ≤ g by grind)
    rw [e]; exact m
  have cg : Wn (C g - 1) (g * (1 / 100000)) := by
    have b := (wn_pev TC (show Wn g (7855 / 10000) from ⟨by grind, by grind⟩)).mono tc_bd
    have e : C g - 1 = g * g * pev TC g := by simp only [C, PC, TC, pev]; grind
    rw [e]
    have wg := wn_pos (show 0 ≤ g by grind)
    refine (wn_mul (wn_mul wg (show Wn g (18 / 1000000) from ⟨by grind, g1⟩)) b).mono ?_
    grind
  simp only [cs, Cx.sub_im, Cx.mul_im, S_odd, C_even] at a1 a2
  have bC := (cis_bd lat).re
  have bS := (cis_bd lat).im
  have kg := Rat.mul_le_mul_of_nonneg_right c0 (show 0 ≤ g by grind)
  have dS : Wn (S g - g) (g * (3 / 100000)) := by constructor <;> grind
  have m1 := wn_mul bC dS
  have m2 := wn_mul bS cg
  have m3 := wn_mul n1 (show Wn g g from wn_pos (by grind))
  unfold tol at *
  constructor
  · have t := wn_add (wn_add (wn_sub n3 n2) a1) (wn_add (wn_sub m1 m3) m2)
    refine t.of (by grind) ?_
    grind
  · have t := wn_sub (wn_sub (wn_sub n2 n4) a2) (wn_add m3 (wn_sub m2 m1))
    refine t.of (by grind) ?_
    grind
/-- how fast the isometric latitude grows, of any two latitudes that lie near -/
theorem iso_rise {e : Nat} (h : EccOk e) {a b : Int} (a0 : -84001000000 ≤ a) (a1 : a ≤ 84001000000) (b0 : -84001000000 ≤ b) (b1 : b ≤ 84001000000) {D : Rat} (hD : vl (sinP b) - vl (sinP a) = D) (D0 : 3 / 1000000000 ≤ D) (D1 : D ≤ 1 / 10000) :
    645 / 1000 * D ≤ (vl (isoW e (sinP b)) - vl (isoW e (sinP a))) * ((1 + vl (sinP b)) * (1 - vl (sinP a))) := by
  obtain ⟨fa, ba⟩ := sin_in84 a0 a1
  obtain ⟨fb, bb⟩ := sin_in84 b0 b1
  obtain ⟨_, ka, _, la, _⟩ := iso_by h fa ba
  obtain ⟨_, kb, _, lb, _⟩ := iso_by h fb bb
  obtain ⟨ra, x1, x2, x3⟩ := rat_84 fa ba
  obtain ⟨rb, y1, y2, y3⟩ := rat_84 fb bb
  have be : Wn (vl e) (1416 / 10000) := ⟨by have := h.e0; grind, h.e1⟩
  have bea : Wn (vl e * vl (sinP a)) (172 / 1000) := (wn_mul be ba).mono (by grind)
  have beb : Wn (vl e * vl (sinP b)) (172 / 1000) := (wn_mul be bb).mono (by grind)
  have dA := AA_lip beb bea (D := 1416 / 10000 * D) ((wn_mul be (show Wn (vl (sinP b) - vl (sinP a)) D from by rw [hD]; exact wn_pos (by grind))).of (by grind) Rat.le_refl)
  have dE := (wn_mul be dA).of (show _ = vl e * AA (vl e * vl (sinP b)) - vl e * AA (vl e * vl (sinP a)) by grind) Rat.le_refl
  obtain ⟨p1, p2⟩ := ba
  obtain ⟨q1, q2⟩ := bb
  -- the ratio grows
  have sa : 0 < 1 - vl (sinP a) := by grind
  have sb : 0 < 1 - vl (sinP b) := by grind
  have pab := Rat.mul_pos sa sb
  obtain ⟨x4, x5⟩ := x3
  obtain ⟨y4, y5⟩ := y3
  have up : vl (ratW (sinP a)) ≤ vl (ratW (sinP b)) := by
    refine le_of_scaled pab ?_
    have m1 := Rat.mul_le_mul_of_nonneg_right (show vl (ratW (sinP a)) * (1 - vl (sinP a)) ≤ (1 + vl (sinP a)) * (1 + 1 / 100000000000000) by grind) (Rat.le_of_lt sb)
    have m2 := Rat.mul_le_mul_of_nonneg_right (show (1 + vl (sinP b)) * (1 - 1 / 100000000000000) ≤ vl (ratW (sinP b)) * (1 - vl (sinP b)) by grind) (Rat.le_of_lt sa)
    have e1 : (1 - vl (sinP a)) * (1 - vl (sinP b)) * vl (ratW (sinP a)) = vl (ratW (sinP a)) * (1 - vl (sinP a)) * (1 - vl (sinP b)) := by grind
    have e2 : (1 - vl (sinP a)) * (1 - vl (sinP b)) * vl (ratW (sinP b)) = vl (ratW (sinP b)) * (1 - vl (sinP b)) * (1 - vl (sinP a)) := by grind
    rw [e1, e2]
    have key : (1 + vl (sinP a)) * (1 - vl (sinP b)) = (1 + vl (sinP b)) * (1 - vl (sinP a)) - 2 * D := by rw [← hD]; grind
    have bd1 := mul_mono (show 0 ≤ 1 + vl (sinP b) by grind) (show 1 + vl (sinP b) ≤ 2 by grind) (Rat.le_of_lt sa) (show 1 - vl (sinP a) ≤ 2 by grind)
    have bd2 := mul_mono (show 0 ≤ 1 + vl (sinP a) by grind) (show 1 + vl (sinP a) ≤ 2 by grind) (Rat.le_of_lt sb) (show 1 - vl (sinP b) ≤ 2 by grind)
    have e3 : (1 + vl (sinP a)) * (1 + 1 / 100000000000000) * (1 - vl (sinP b)) = (1 + vl (sinP a)) * (1 - vl (sinP b)) * (1 + 1 / 100000000000000) := by grind
    have e4 : (1 + vl (sinP b)) * (1 - 1 / 100000000000000) * (1 - vl (sinP a)) = (1 + vl (sinP b)) * (1 - vl (sinP a)) * (1 - 1 / 100000000000000) := by grind
    rw [e3] at m1
    rw [e4] at m2
    generalize (1 + vl (sinP a)) * (1 - vl (sinP b)) = z1 at *
    generalize (1 + vl (sinP b)) * (1 - vl (sinP a)) = z2 at *
    grind
  obtain ⟨_, _, l⟩ := lnW_lo ra rb (by grind) up (by grind) (by grind)
  -- times both
  have l2 := Rat.mul_le_mul_of_nonneg_right l (Rat.le_of_lt pab)
  generalize vl (isoW e (sinP a)) = ia at *
  generalize vl (isoW e (sinP b)) = ib at *
  generalize vl (lnP (ratW (sinP a))) = La at *
  generalize vl (lnP (ratW (sinP b))) = Lb at *
  generalize vl (ratW (sinP a)) = x at *
  generalize vl (ratW (sinP b)) = y at *
  generalize vl (sinP a) = s at *
  generalize vl (sinP b) = t at *
  generalize vl e * AA (vl e * s) = Ea at *
  generalize vl e * AA (vl e * t) = Eb at *
  clear dA be bea beb l up
  have hk : (1 + t) * (1 - s) = 1 - s * s + D * (1 - s) := by rw [← hD]; grind
  have ss := rsq_nonneg s
  have k2 : (1 + t) * (1 - s) ≤ 10002 / 10000 := by
    have := Rat.mul_le_mul_of_nonneg_left (show 1 - s ≤ 2 by grind) (show 0 ≤ D by grind)
    grind
  have k0 : 0 ≤ (1 + t) * (1 - s) := Rat.mul_nonneg (by grind) (Rat.le_of_lt sa)
  have m1 := Rat.mul_le_mul_of_nonneg_right (show x * (1 - s) ≤ (1 + s) * (1 + 1 / 100000000000000) by grind) (Rat.le_of_lt sb)
  have m2 := Rat.mul_le_mul_of_nonneg_right (show (1 + t) * (1 - 1 / 100000000000000) ≤ y * (1 - t) by grind) (Rat.le_of_lt sa)
  have m3 := Rat.mul_le_mul_of_nonneg_right (show y * (1 - t) ≤ (1 + t) * (1 + 1 / 100000000000000) by grind) (Rat.le_of_lt sa)
  have key : (1 + s) * (1 - t) = (1 + t) * (1 - s) - 2 * D := by rw [← hD]; grind
  have e1 : (1 + s) * (1 + 1 / 100000000000000) * (1 - t) = ((1 + t) * (1 - s) - 2 * D) * (1 + 1 / 100000000000000) := by rw [← key]; grind
  have e2 : (1 + t) * (1 - 1 / 100000000000000) * (1 - s) = (1 + t) * (1 - s) * (1 - 1 / 100000000000000) := by grind
  have e3 : (1 + t) * (1 + 1 / 100000000000000) * (1 - s) = (1 + t) * (1 - s) * (1 + 1 / 100000000000000) := by grind
  rw [e1] at m1
  rw [e2] at m2
  rw [e3] at m3
  have e4 : (67 / 100 * (y - x) - 4 / 100000000000000 * y) * ((1 - s) * (1 - t)) = 67 / 100 * (y * (1 - t) * (1 - s) - x * (1 - s) * (1 - t)) - 4 / 100000000000000 * (y * (1 - t) * (1 - s)) := by grind
  have e5 : y * (Lb - La) * ((1 - s) * (1 - t)) = y * (1 - t) * (1 - s) * (Lb - La) := by grind
  rw [e4, e5] at l2
  obtain ⟨Y, hY⟩ : ∃ Y, Y = y * (1 - t) * (1 - s) := ⟨_, rfl⟩
  obtain ⟨κ, hκ⟩ : ∃ κ, κ = (1 + t) * (1 - s) := ⟨_, rfl⟩
  rw [← hY] at m2 m3 l2
  rw [← hκ] at m1 m2 m3 k2 k0 ⊢
  have bΛ : Wn (Lb - La) (118 / 10) := (wn_sub lb la).mono (by grind)
  have yk := wn_mul (show Wn (Y - κ) (1 / 100000000000000 * κ) from ⟨by grind, by grind⟩) bΛ
  have wκ := wn_pos k0
  have mE := wn_mul wκ dE
  have mk := wn_mul wκ (wn_sub kb ka)
  obtain ⟨_, _⟩ := yk
  obtain ⟨_, _⟩ := mE
  obtain ⟨_, _⟩ := mk
  have kD := Rat.mul_le_mul_of_nonneg_right k2 (show 0 ≤ D by grind)
  clear la lb ka kb dE hY hκ hk key e1 e2 e3 e4 e5 x4 x5 y4 y5 bΛ wκ
  grind
end Go.Proofs.YtcppgbhjbmfldaaDoor

/- The latitude that is found of an isometric latitude a little off. -/
namespace Go.Proofs.YtcppgbhjbmfldaaDoor
open Go.Fp Go.Fp.Tri
set_option maxRecDepth 20000
theorem gap_core {κ g s D κ2 Δψ T E : Rat} (c0 : 104 / 1000 ≤ κ) (g0 : 33 / 1000000000 ≤ g) (g1 : g ≤ 18 / 1000000) (hn : Wn (κ * κ + s * s - 1) (1 / 10000000000000)) (hD : Wn (D - κ * g) (3 / 1000 * (κ * g))) (hk : κ2 ≤ 1 - s * s + 2 * D) (k0 : 0 < κ2)
    (hr : 645 / 1000 * D ≤ Δψ * κ2) (hT : T * T * (1 - s * s) ≤ 1 + 1 / 10000000) (T0 : 0 ≤ T) (T2 : T ≤ 103 / 10) (E0 : 0 ≤ E) (hE : E * (1 + 1 / 1000000) < 64 / 100 * g) : T * E < Δψ := by
  have κ0 : 0 < κ := by grind
  have κg := Rat.mul_pos κ0 (show 0 < g by grind)
  obtain ⟨D1, D2⟩ := hD
  obtain ⟨n1, n2⟩ := hn
  have kκ := Rat.mul_le_mul_of_nonneg_right c0 (show 0 ≤ κ by grind)
  have gκ : κ * g ≤ 2 / 10000 * (κ * κ) := by
    have := Rat.mul_le_mul_of_nonneg_left (show g ≤ 2 / 10000 * κ by grind) (Rat.le_of_lt κ0)
    grind
  have k2 : κ2 ≤ κ * κ * (10005 / 10000) := by grind
  have dp : 0 < Δψ := by
    rcases Rat.le_total (a := Δψ) (b := 0) with h | h
    · exfalso
      have := Rat.mul_le_mul_of_nonneg_right h (Rat.le_of_lt k0)
      grind
    · by_cases e : Δψ = 0
      · rw [e] at hr; grind
      · grind
  have m := Rat.mul_le_mul_of_nonneg_left k2 (Rat.le_of_lt dp)
  have a : κ * (64 / 100 * g) ≤ κ * (Δψ * κ) := by
    have e1 : κ * (64 / 100 * g) = 64 / 100 * (κ * g) := by grind
    have e2 : Δψ * (κ * κ * (10005 / 10000)) = κ * (Δψ * κ) * (10005 / 10000) := by grind
    rw [e1]
    rw [e2] at m
    generalize κ * (Δψ * κ) = z at *
    grind
  have b := le_of_scaled κ0 a
  have TT := sq_le_sq T0 T2
  have Tκ : T * κ ≤ 1 + 1 / 5000000 := by
    refine le_of_sq (by grind) ?_
    have e : T * κ * (T * κ) = T * T * (κ * κ) := by grind
    rw [e]
    have k := Rat.mul_le_mul_of_nonneg_left (show κ * κ ≤ (1 - s * s) + 1 / 10000000000000 by grind) (rsq_nonneg T)
    grind
  have c := Rat.mul_le_mul_of_nonneg_right Tκ E0
  rcases Rat.le_total (a := Δψ) (b := T * E) with h | h
  · exfalso
    have k := Rat.mul_le_mul_of_nonneg_right h (Rat.le_of_lt κ0)
    have e : T * E * κ = T * κ * E := by grind
    rw [e] at k
    grind
  · by_cases e : T * E = Δψ
    · exfalso
      have e2 : T * κ * E = Δψ * κ := by rw [← e]; grind
      rw [e2] at c
      grind
    · grind
theorem lat_near {e : Nat} (h : EccOk e) {lat G : Int} (h0 : -84000000000 ≤ lat) (h1 : lat ≤ 84000000000) (G0 : 1900 ≤ G) (G1 : G ≤ 1000000) {X : Nat} {T E : Rat} (fX : Fp.Fin X) (hT : T * T * (1 - vl (sinP lat) * vl (sinP lat)) ≤ 1 + 1 / 10000000) (T0 : 0 ≤ T) (T2 : T ≤ 103 / 10)
    (hX : Wn (vl X - vl (isoW e (sinP lat))) (T * E)) (E0 : 0 ≤ E) (hE : E * (1 + 1 / 1000000) < 64 / 100 * ((G : Rat) * rho)) {r : Int}
    (hr : -89000000000 ≤ r) (hr2 : r ≤ 89000000000) (hp : fle (isoW e (sinP r)) X = true ∨ r = -89000000000) (hn : fle (isoW e (sinP (r + 1))) X = false ∨ r = 89000000000) : r - lat ≤ G + 50 ∧ lat - r ≤ G + 50 := by
  obtain ⟨fc, c0, c1, nn⟩ := cos_84 (m := lat) (by omega) (by omega)
  obtain ⟨g0, g1⟩ := rho_G G0 G1
  obtain ⟨d1, d2⟩ := sin_gap h0 h1 G0 G1
  obtain ⟨_, b0⟩ := sin_in84 (m := lat) (by omega) (by omega)
  obtain ⟨_, bp⟩ := sin_in84 (m := lat + G) (by omega) (by omega)
  obtain ⟨_, bm⟩ := sin_in84 (m := lat - G) (by omega) (by omega)
  have κg : 34 / 10000000000 ≤ vl (cosP lat) * ((G : Rat) * rho) ∧ vl (cosP lat) * ((G : Rat) * rho) ≤ 19 / 1000000 := by
    generalize (G : Rat) * rho = g at *
    have a := mul_mono (show (0 : Rat) ≤ 104 / 1000 by grind) c0 (show (0 : Rat) ≤ 33 / 1000000000 by grind) g0
    have b := mul_mono (show 0 ≤ vl (cosP lat) by grind) c1 (show 0 ≤ g by grind) g1
    constructor <;> grind
  obtain ⟨κ1, κ2⟩ := κg
  have north : T * E < vl (isoW e (sinP (lat + G))) - vl (isoW e (sinP lat)) := by
    have D0 : 3 / 1000000000 ≤ vl (sinP (lat + G)) - vl (sinP lat) := by have := d1.1; grind
    have D1 : vl (sinP (lat + G)) - vl (sinP lat) ≤ 1 / 10000 := by have := d1.2; grind
    have rise := iso_rise h (a := lat) (b := lat + G) (by omega) (by omega) (by omega) (by omega) rfl D0 D1
    refine gap_core (κ := vl (cosP lat)) (g := (G : Rat) * rho) (s := vl (sinP lat)) c0 g0 g1 nn d1 (κ2 := (1 + vl (sinP (lat + G))) * (1 - vl (sinP lat))) ?_ (Rat.mul_pos (by have := bp.1; grind) (by have := b0.2; grind)) rise hT T0 T2 E0 hE
    have := Rat.mul_le_mul_of_nonneg_left (show 1 - vl (sinP lat) ≤ 2 by have := b0.1; grind) (show 0 ≤ vl (sinP (lat + G)) - vl (sinP lat) by grind)
    grind
  have south : T * E < vl (isoW e (sinP lat)) - vl (isoW e (sinP (lat - G))) := by
    have D0 : 3 / 1000000000 ≤ vl (sinP lat) - vl (sinP (lat - G)) := by have := d2.1; grind
    have D1 : vl (sinP lat) - vl (sinP (lat - G)) ≤ 1 / 10000 := by have := d2.2; grind
    have rise := iso_rise h (a := lat - G) (b := lat) (by omega) (by omega) (by omega) (by omega) rfl D0 D1
    refine gap_core (κ := vl (cosP lat)) (g := (G : Rat) * rho) (s := vl (sinP lat)) c0 g0 g1 nn d2 (κ2 := (1 + vl (sinP lat)) * (1 - vl (sinP (lat - G)))) ?_ (Rat.mul_pos (by have := b0.1; grind) (by have := bm.2; grind)) rise hT T0 T2 E0 hE
    have := Rat.mul_le_mul_of_nonneg_left (show 1 + vl (sinP lat) ≤ 2 by have := b0.2; grind) (show 0 ≤ vl (sinP lat) - vl (sinP (lat - G)) by grind)
    grind
  obtain ⟨x1, x2⟩ := hX
  constructor
  · rcases Int.lt_or_le (G + 50) (r - lat) with k | k
    · exfalso
      have ap := iso_apart h (α := lat + G) (β := r) ⟨by omega, by omega, hr2, .inl ⟨by omega, by omega⟩⟩
      rcases hp with hp | hp
      · have := (fle_vl (iso_fin h hr hr2).1 fX).1 hp
        grind
      · omega
    · exact k
  · rcases Int.lt_or_le (G + 50) (lat - r) with k | k
    · exfalso
      have ap := iso_apart h (α := r + 1) (β := lat - G) ⟨by omega, by omega, by omega, .inr ⟨by omega, by omega⟩⟩
      rcases hn with hn | hn
      · have hnot : ¬ vl (isoW e (sinP (r + 1))) ≤ vl X := fun hh => by
          have := (fle_vl (iso_fin h (by omega) (by omega)).1 fX).2 hh
          rw [hn] at this
          cases this
        grind
      · omega
    · exact k
end Go.Proofs.YtcppgbhjbmfldaaDoor

/- A place beside the middle meridian: what it grows by; floats divided and made whole. -/
namespace Go.Proofs.YtcppgbhjbmfldaaDoor
open Go.Fp Go.Fp.Tri
set_option maxRecDepth 20000
/-- the direction of a longitude up to so many degrees from the middle -/
theorem dir_near {d D0 : Int} {S0 C0 : Rat} (h1 : -D0 ≤ signP d) (h2 : signP d ≤ D0) (hD : D0 < 45000000000) (hS : S ((D0 : Rat) * rho) ≤ S0) (hC : C0 ≤ C ((D0 : Rat) * rho)) :
    Fp.Fin (cosP d) ∧ Fp.Fin (sinP d) ∧ Wn (vl (cosP d) * vl (cosP d) + vl (sinP d) * vl (sinP d) - 1) (1 / 10000000000000) ∧ C0 - 2 / 100000000000000 ≤ vl (cosP d) ∧ Wn (vl (sinP d)) (S0 + 2 / 100000000000000) := by
  obtain ⟨e1, e2⟩ := sinP_norm d (signP d) (by unfold signP normP; split <;> omega)
  rw [e1, e2]
  generalize signP d = m at *
  obtain ⟨⟨fs, n1⟩, ⟨fc, n2⟩⟩ := trig_lat (a := m) (by omega) (by omega)
  have one := one_I (m := m) (by omega) (by omega)
  have bc := wn_cI (m := m) (by omega) (by omega)
  have bS := wn_sI (m := m) (by omega) (by omega)
  have k1 := wn_mul n2 (show Wn (vl (cosP m) + cI m) 3 from by obtain ⟨_, _⟩ := n2; obtain ⟨_, _⟩ := bc; unfold tol at *; constructor <;> grind)
  have k2 := wn_mul n1 (show Wn (vl (sinP m) + sI m) 3 from by obtain ⟨_, _⟩ := n1; obtain ⟨_, _⟩ := bS; unfold tol at *; constructor <;> grind)
  have n : Wn (vl (cosP m) * vl (cosP m) + vl (sinP m) * vl (sinP m) - 1) (1 / 10000000000000) := (wn_add (wn_add k1 k2) one).of (by grind) (by unfold tol; grind)
  have r0 := rho_pos
  have a1 := Rat.mul_le_mul_of_nonneg_right (castle h1) (Rat.le_of_lt r0)
  have a2 := Rat.mul_le_mul_of_nonneg_right (castle h2) (Rat.le_of_lt r0)
  have en : ((-D0 : Int) : Rat) * rho = -((D0 : Rat) * rho) := by push_cast; grind
  rw [en] at a1
  have bD := arg_bd (r := D0) (by omega) (by omega)
  have bm := arg_bd (r := m) (by omega) (by omega)
  have es : sI m = S ((m : Rat) * rho) := by unfold sI; rw [if_neg (by omega), if_pos (by omega)]
  have ec : cI m = C ((m : Rat) * rho) := by unfold cI; rw [if_neg (by omega), if_pos (by omega)]
  rw [es] at n1
  rw [ec] at n2
  refine ⟨fc, fs, n, ?_, ?_⟩
  · have key : C ((D0 : Rat) * rho) ≤ C ((m : Rat) * rho) := by
      rcases Rat.le_total (a := 0) (b := (m : Rat) * rho) with k | k
      · have g := C_grow (x := -((D0 : Rat) * rho)) (y := -((m : Rat) * rho)) (wn_negy bD) (by grind) (by grind)
        rw [C_even, C_even] at g
        have := Rat.mul_nonneg (show 0 ≤ -((m : Rat) * rho) - -((D0 : Rat) * rho) by grind) (show 0 ≤ - -((D0 : Rat) * rho) - -((m : Rat) * rho) by grind)
        grind
      · have g := C_grow (x := -((D0 : Rat) * rho)) (y := (m : Rat) * rho) (wn_negy bD) (by grind) k
        rw [C_even] at g
        have := Rat.mul_nonneg (show 0 ≤ (m : Rat) * rho - -((D0 : Rat) * rho) by grind) (show 0 ≤ - -((D0 : Rat) * rho) - (m : Rat) * rho by grind)
        grind
    have := n2.1
    unfold tol at *
    grind
  · have g1 := S_grow bm bD a2
    have g2 := S_grow (wn_negy bD) bm a1
    rw [S_odd] at g2
    obtain ⟨_, _⟩ := n1
    unfold tol at *
    constructor <;> grind
theorem S_30 : S (((30000000000 : Int) : Rat) * rho) ≤ 5000001 / 10000000 ∧ 8660254 / 10000000 ≤ C (((30000000000 : Int) : Rat) * rho) := by decide +kernel
theorem S_6 : S (((6000000000 : Int) : Rat) * rho) ≤ 10452847 / 100000000 ∧ 99452189 / 100000000 ≤ C (((6000000000 : Int) : Rat) * rho) := by decide +kernel
variable {ψ c s : Nat} {T r : Rat}
/-- how much a place beside the middle meridian grows by -/
theorem wave_of (h : Look ψ c s T r) {S0 C0 x0 r0 K : Rat} (hs : Wn (vl s) S0) (hc : C0 ≤ vl c) (c0 : 8 / 10 ≤ C0) (hx0 : S0 + 1 / 100000000000 ≤ x0 * C0) (x1 : x0 ≤ 5774 / 10000) (hr0 : (1 + x0 * x0) * (1 + 1 / 100000000000000) ≤ r0 * r0) (r00 : 0 ≤ r0) (x00 : 0 ≤ x0) (k1 : 1 ≤ x0 + r0) (k2 : x0 + r0 ≤ 2) (hK : (x0 + r0) * (x0 + r0) * (1 + 1 / 100000000) ≤ K) (hK2 : K ≤ 30002 / 10000) :
    Wn (vl (lX ψ c s)) x0 ∧ Wave (lU ψ c) (vl (lV ψ c s)) K := by
  have R0 := h.R0
  have Rc : C0 ≤ vl (lR ψ c) * (1 + 1 / 1000000000000) := by
    refine le_of_sq (by grind) ?_
    have a := h.hR.1
    have b := rsq_nonneg (vl (lT ψ))
    have d := sq_le_sq (show 0 ≤ C0 by grind) hc
    have e : vl (lR ψ c) * (1 + 1 / 1000000000000) * (vl (lR ψ c) * (1 + 1 / 1000000000000)) = vl (lR ψ c) * vl (lR ψ c) * ((1 + 1 / 1000000000000) * (1 + 1 / 1000000000000)) := by grind
    rw [e]
    have := rsq_nonneg (vl (lR ψ c))
    grind
  have bX : Wn (vl (lX ψ c s)) x0 := by
    have hx := h.hx
    have m := Rat.mul_le_mul_of_nonneg_left Rc x00
    obtain ⟨a1, a2⟩ := hx
    obtain ⟨b1, b2⟩ := hs
    have Rp : 0 < vl (lR ψ c) := by grind
    have xr := Rat.mul_nonneg x00 (Rat.le_of_lt Rp)
    have xr2 := mul_mono x00 x1 (Rat.le_of_lt Rp) h.R1
    constructor
    · refine le_of_scaled Rp ?_
      grind
    · refine le_of_scaled Rp ?_
      grind
  obtain ⟨w1, w2⟩ := wn_57 h.bV h.ev h.r2 h.r1 (bX.mono x1)
  have hr : r ≤ r0 := by
    refine le_of_sq r00 ?_
    have a := h.r2.2
    have b := (wn_mul bX bX).2
    have d := rsq_nonneg x0
    clear w2 hK hK2 k1 k2 hx0 hs hc
    generalize vl (lX ψ c s) * vl (lX ψ c s) = X2 at *
    generalize r * r = rr at *
    generalize r0 * r0 = rr0 at *
    generalize x0 * x0 = xx at *
    clear bX w1
    grind
  obtain ⟨v1, v2⟩ := w2 (x0 + r0) (by have := bX.2; grind) (by have := bX.1; grind) k1 k2
  exact ⟨bX, w1, by grind, by grind, hK2⟩
/-- a float multiplied -/
theorem mul_R {R z : Nat} (fR : Fp.Fin R) (fz : Fp.Fin z) (R0 : 10000 ≤ vl R) (R1 : vl R ≤ 1000000000) (bz : Wn (vl z) 2) : Fp.Fin (fmul R z) ∧ Wn (vl (fmul R z) - vl R * vl z) (vl R * (1 / 1000000000000000)) := by
  have u1 : uu = 1 / 9007199254740992 := uu_eq
  obtain ⟨f1, e1⟩ := mulE fR fz _ (wn_mul (wn_pos (show 0 ≤ vl R by grind)) bz) (by grind)
  exact ⟨f1, e1.mono (by rw [u1]; grind)⟩
/-- a float divided -/
theorem div_R {x R : Nat} {z δ : Rat} (fx : Fp.Fin x) (fR : Fp.Fin R) (R0 : 10000 ≤ vl R) (bz : Wn z 2) (hx : Wn (vl x - vl R * z) (vl R * δ)) (hδ : δ ≤ 1 / 1000) : Fp.Fin (fdiv x R) ∧ Wn (vl (fdiv x R) - z) (δ + 1 / 100000000000000) := by
  have u1 : uu = 1 / 9007199254740992 := uu_eq
  have Rp : 0 < vl R := by grind
  have q : Wn (vl x / vl R - z) δ := by
    refine wn_scaled Rp ?_
    have e : vl R * (vl x / vl R - z) = vl x / vl R * vl R - vl R * z := by grind
    rw [e, div_mul_c (ne_of_pos Rp) rfl]
    exact hx
  obtain ⟨f1, e1⟩ := divE fx fR (ne_of_pos Rp) 3 ((wn_add q bz).of (by grind) (by grind)) (by grind)
  exact ⟨f1, (wn_add e1 q).of (by grind) (by rw [u1]; grind)⟩
/-- the nearest angle of a number -/
theorem near_err {L : Nat} (fL : Fp.Fin L) (bL : Wn (vl L) 5) : Wn (((nearP L : Int) : Rat) * rho - vl L) (9 / 1000000000000) := by
  have u1 : uu = 1 / 9007199254740992 := uu_eq
  have r0 := rho_pos
  have rl := rho_lo
  have rh := rho_hi
  unfold nearP
  rw [show Fp.can cRad = RAD from v_rad.1.can]
  have q : Wn (vl L / rho) 300000000000 := by
    refine wn_quot (c := rho) (c0 := rho) r0 Rat.le_refl ?_
    have e : vl L / rho * rho = vl L := div_mul_c (ne_of_pos r0) rfl
    rw [e]
    exact bL.mono (by grind)
  obtain ⟨f, e⟩ := divE fL v_rad.1 (by rw [v_rad.2]; exact ne_of_pos r0) 300000000000 (by rw [v_rad.2]; exact q) (by grind)
  rw [v_rad.2] at e
  have n := nearV_err f ((wn_add e q).of (by grind) (by rw [u1]; grind))
  have t := wn_mul (wn_add n e) (wn_pos (Rat.le_of_lt r0))
  refine t.of ?_ (by rw [u1]; grind)
  have e2 : vl L / rho * rho = vl L := div_mul_c (ne_of_pos r0) rfl
  generalize vl L / rho = z at *
  grind
end Go.Proofs.YtcppgbhjbmfldaaDoor

/- The strip there and back: where one comes out on the ball along the meridian. -/
namespace Go.Proofs.YtcppgbhjbmfldaaDoor
open Go.Fp Go.Fp.Tri
set_option maxRecDepth 20000
theorem rabs_sq (x : Rat) : rabs x * rabs x = x * x := by unfold rabs; split <;> grind
theorem two_abs {z : Cx} {r : Rat} (h : MB z r) : rabs z.re + rabs z.im ≤ 142 / 100 * r := by
  have a := rabs_sq z.re
  have b := rabs_sq z.im
  have c := rsq_nonneg (rabs z.re - rabs z.im)
  obtain ⟨h1, h2⟩ := h
  have rr := rsq_nonneg r
  refine le_of_sq (by grind) ?_
  have e : 142 / 100 * r * (142 / 100 * r) = 20164 / 10000 * (r * r) := by grind
  rw [e]
  grind
theorem rabs_two (x : Rat) : rabs (-2 * x) = 2 * rabs x ∧ rabs (2 * x) = 2 * rabs x := by
  constructor
  · unfold rabs; split <;> split <;> grind
  · unfold rabs; split <;> split <;> grind
variable {ψ c s : Nat} {T r : Rat}
/-- where the series starts -/
abbrev r0W (u : Int) : Nat := fmul (Fp.can (floatOfInt .f64 u)) (Fp.can cRad)
theorem r0_near {u : Int} (h1 : -90000000000 ≤ u) (h2 : u ≤ 90000000000) : Fp.Fin (r0W u) ∧ Wn (vl (r0W u) - (u : Rat) * rho) (1 / 1000000000000000) ∧ Wn ((u : Rat) * rho) (15709 / 10000) := by
  have u1 : uu = 1 / 9007199254740992 := uu_eq
  obtain ⟨f1, e1⟩ := vl_int u (by omega)
  have bu : Wn ((u : Int) : Rat) 90000000000 := ⟨castle (a := -90000000000) h1, castle (b := 90000000000) h2⟩
  have br : Wn rho (174533 / 10000000000000000) := ⟨by have := rho_pos; grind, by unfold rho; grind⟩
  have bb := (wn_mul bu br).mono (show (90000000000 : Rat) * (174533 / 10000000000000000) ≤ 15709 / 10000 by grind)
  unfold r0W
  rw [f1.can, show Fp.can cRad = RAD from v_rad.1.can]
  obtain ⟨f2, e2⟩ := mulE f1 v_rad.1 (15709 / 10000) (by rw [e1, v_rad.2]; exact bb) (by grind)
  rw [e1, v_rad.2] at e2
  exact ⟨f2, e2.mono (by rw [u1]; grind), bb⟩
/-- there -/
theorem there {f : Nat} {v K N Kp q B2 B1 B3 B4 m d1 d2 d3 d4 em M : Rat} {u : Int} {V : Nat} (hr : Reg N Kp q B2 B1 B3 B4 m d1 d2 d3 d4 em M) (ff : Fp.Fin f) (h0 : 0 ≤ vl f) (h1 : vl f ≤ 10001 / 1000000) (hn : Wn (nQ f) N)
    (hw : Wave u v K) (hK : K * (1000002 / 1000000) ≤ Kp) (fV : Fp.Fin V) (hV : vl V = v) (u1 : -90000000000 ≤ u) (u2 : u ≤ 90000000000) :
    Fp.Fin (aRe f u V (r0W u) 4) ∧ Fp.Fin (aIm f u V V 4) ∧ MB ((⟨-2 * (vl (aIm f u V V 4) - v), 2 * (vl (aRe f u V (r0W u) 4) - (u : Rat) * rho)⟩ : Cx).sub (serA (nQ f) (wE u v) (wF u v))) (11 / 100000000000) ∧ Wn (vl (aRe f u V (r0W u) 4)) (158 / 100) ∧ Wn (vl (aIm f u V V 4)) (59 / 100) := by
  obtain ⟨fR, eR, bR⟩ := r0_near u1 u2
  have b0 : Wn (vl (r0W u)) (15710 / 10000) := (wn_add eR bR).of (by grind) (by grind)
  obtain ⟨f1, f2, key⟩ := fwd ff h0 h1 hw fV hV fR b0 (by grind)
  have k2 : MB ((⟨-2 * (vl (aIm f u V V 4) - v), 2 * (vl (aRe f u V (r0W u) 4) - (u : Rat) * rho)⟩ : Cx).sub (serA (nQ f) (wE u v) (wF u v))) (11 / 100000000000) := by
    have t : MB (⟨0, 2 * (vl (r0W u) - (u : Rat) * rho)⟩ : Cx) (2 / 1000000000000000) := MB.of (x := 0) (y := 2 / 1000000000000000) ⟨by grind, by grind⟩ ((wn_mul (show Wn (2 : Rat) 2 from ⟨by grind, by grind⟩) eR).mono (by grind)) (by grind) (by grind)
    refine ((key.add t).cast ?_).mono (by grind)
    generalize serA (nQ f) (wE u v) (wF u v) = A
    exact Cx.ext' (by simp; grind) (by simp; grind)
  have hE := hw.E.mono hK
  have hF := hw.F.2.mono hK
  have hA : MB (serA (nQ f) (wE u v) (wF u v)) q := by
    have t := tev_bd hn hE hF (tnorm tA)
    rw [tev_norm] at t
    refine MB.mono t ?_
    have := hr.tA
    grind
  have hq := hr.q7
  have all := ((k2.add hA).cast (w := (⟨-2 * (vl (aIm f u V V 4) - v), 2 * (vl (aRe f u V (r0W u) 4) - (u : Rat) * rho)⟩ : Cx)) (Cx.ext' (by simp; grind) (by simp; grind))).mono (show _ ≤ (18 : Rat) / 1000 by grind)
  have ar := all.re
  have ai := all.im
  simp only at ar ai
  have bv := hw.bv
  refine ⟨f1, f2, k2, ?_, ?_⟩
  · obtain ⟨_, _⟩ := ai
    obtain ⟨_, _⟩ := bR
    constructor <;> grind
  · obtain ⟨_, _⟩ := ar
    obtain ⟨_, _⟩ := bv
    constructor <;> grind
/-- and back -/
theorem strip_core {f : Nat} {v K N Kp q B2 B1 B3 B4 m d1 d2 d3 d4 em M δ : Rat} {u : Int} {V R x y : Nat} (hr : Reg N Kp q B2 B1 B3 B4 m d1 d2 d3 d4 em M) (ff : Fp.Fin f) (h0 : 0 ≤ vl f) (h1 : vl f ≤ 10001 / 1000000) (hn : Wn (nQ f) N)
    (hw : Wave u v K) (hK : K * (1000002 / 1000000) ≤ Kp) (fV : Fp.Fin V) (hV : vl V = v) (u1 : -90000000000 ≤ u) (u2 : u ≤ 90000000000) (fR : Fp.Fin R) (R0 : 10000 ≤ vl R) (R1 : vl R ≤ 1000000000) (fx : Fp.Fin x) (fy : Fp.Fin y)
    (hx : Wn (vl x - vl (fmul R (aIm f u V V 4))) (vl R * δ)) (hy : Wn (vl y - vl (fmul R (aRe f u V (r0W u) 4))) (vl R * δ)) (d0 : 0 ≤ δ) (dm : δ ≤ 1 / 10000000) (hε : 15 / 100000000000 + 3 * δ ≤ em) (hM : M ≤ 1 / 1000) :
    Fp.Fin (fdiv x R) ∧ Fp.Fin (fdiv y R) ∧ -1000000000000 ≤ nearP (fdiv y R) ∧ nearP (fdiv y R) ≤ 1000000000000 ∧
    Wn (vl x) (vl R * (6 / 10)) ∧ Wn (vl y) (vl R * (159 / 100)) ∧
    ∃ p q', Fp.Fin (cIm f (nearP (fdiv y R)) (fdiv x R) (fdiv x R) 4) ∧ Fp.Fin (cRe f (nearP (fdiv y R)) (fdiv x R) (fdiv y R) 4) ∧ Wn (((nearP (cRe f (nearP (fdiv y R)) (fdiv x R) (fdiv y R) 4) - u : Int) : Rat) * rho) p ∧ Wn (vl (cIm f (nearP (fdiv y R)) (fdiv x R) (fdiv x R) 4) - v) q' ∧
      p + q' ≤ 71 / 100 * (15 / 100000000000 + 3 * δ + M + 2 / 100000000000) + 1 / 100000000000 := by
  obtain ⟨fa, fb, key, ba, bb⟩ := there hr ff h0 h1 hn hw hK fV hV u1 u2
  obtain ⟨_, mb⟩ := mul_R fR fb R0 R1 (bb.mono (by grind))
  obtain ⟨_, ma⟩ := mul_R fR fa R0 R1 (ba.mono (by grind))
  have hx' : Wn (vl x - vl R * vl (aIm f u V V 4)) (vl R * (δ + 1 / 1000000000000000)) := (wn_add hx mb).of (by grind) (by grind)
  have hy' : Wn (vl y - vl R * vl (aRe f u V (r0W u) 4)) (vl R * (δ + 1 / 1000000000000000)) := (wn_add hy ma).of (by grind) (by grind)
  obtain ⟨g1, e1⟩ := div_R fx fR R0 (bb.mono (by grind)) hx' (by grind)
  obtain ⟨g2, e2⟩ := div_R fy fR R0 (ba.mono (by grind)) hy' (by grind)
  have Rp : 0 ≤ vl R := by grind
  have wR := wn_pos Rp
  have bx : Wn (vl x) (vl R * (6 / 10)) := by
    have t := wn_mul wR bb
    have a : vl R * (δ + 1 / 1000000000000000) ≤ vl R * (1 / 1000) := Rat.mul_le_mul_of_nonneg_left (by grind) Rp
    exact (wn_add hx' t).of (by grind) (by grind)
  have bY : Wn (vl y) (vl R * (159 / 100)) := by
    have t := wn_mul wR ba
    have a : vl R * (δ + 1 / 1000000000000000) ≤ vl R * (1 / 1000) := Rat.mul_le_mul_of_nonneg_left (by grind) Rp
    exact (wn_add hy' t).of (by grind) (by grind)
  have bR1 : Wn (vl (fdiv y R)) 2 := (wn_add e2 ba).of (by grind) (by grind)
  have n1 := near_err g2 (bR1.mono (by grind))
  generalize fdiv y R = R1' at *
  generalize fdiv x R = V1 at *
  generalize hu1 : nearP R1' = w1 at *
  have w1b : -1000000000000 ≤ w1 ∧ w1 ≤ 1000000000000 := by
    have b : Wn ((w1 : Rat) * rho) 3 := (wn_add n1 bR1).of (by grind) (by grind)
    have rl := rho_lo
    constructor
    · rcases Int.lt_or_le w1 (-1000000000000) with k | k
      · exfalso
        have t := castle (show w1 ≤ -1000000000000 by omega)
        have e : ((-1000000000000 : Int) : Rat) = -1000000000000 := rfl
        rw [e] at t
        have t2 := Rat.mul_le_mul_of_nonneg_right t (show 0 ≤ rho by grind)
        obtain ⟨_, _⟩ := b
        generalize (w1 : Rat) * rho = z at *
        grind
      · exact k
    · rcases Int.lt_or_le 1000000000000 w1 with k | k
      · exfalso
        have t := castle (show 1000000000000 ≤ w1 by omega)
        have e : ((1000000000000 : Int) : Rat) = 1000000000000 := rfl
        rw [e] at t
        have t2 := Rat.mul_le_mul_of_nonneg_right t (show 0 ≤ rho by grind)
        obtain ⟨_, _⟩ := b
        generalize (w1 : Rat) * rho = z at *
        grind
      · exact k
  refine ⟨g1, g2, w1b.1, w1b.2, bx, bY, ?_⟩
  have a' : MB ((⟨-2 * (vl V1 - v), 2 * (((w1 - u : Int) : Rat) * rho)⟩ : Cx).sub (serA (nQ f) (wE u v) (wF u v))) (15 / 100000000000 + 3 * δ) := by
    have t : MB (⟨-2 * (vl V1 - vl (aIm f u V V 4)), 2 * ((w1 : Rat) * rho - vl (aRe f u V (r0W u) 4))⟩ : Cx) (3 * δ + 4 / 100000000000) := by
      refine MB.of (x := 2 * (δ + 10 / 1000000000000)) (y := 2 * (δ + 10 / 1000000000000)) ?_ ?_ (by grind) ?_
      · obtain ⟨_, _⟩ := e1
        show Wn (-2 * (vl V1 - vl (aIm f u V V 4))) _
        constructor <;> grind
      · have k := wn_add n1 e2
        obtain ⟨_, _⟩ := k
        show Wn (2 * ((w1 : Rat) * rho - vl (aRe f u V (r0W u) 4))) _
        constructor <;> grind
      · have := rsq_nonneg δ
        grind
    refine ((t.add key).cast ?_).mono (by grind)
    have ei : ((w1 - u : Int) : Rat) = (w1 : Rat) - (u : Rat) := by push_cast; rfl
    rw [ei]
    generalize serA (nQ f) (wE u v) (wF u v) = A
    exact Cx.ext' (by simp; grind) (by simp; grind)
  obtain ⟨c1, c2, fin⟩ := bwd hr ff h0 h1 hn hw hK g1 g2 (bR1.mono (by grind)) a' hε (s := 1 / 100000000000) ((wn_negy n1).of (by grind) (by grind))
  have ab := two_abs fin
  simp only at ab
  rw [(rabs_two _).1, (rabs_two _).2] at ab
  have e9 := hr.e9
  have bc : Wn (vl (cRe f w1 V1 R1' 4)) 5 := by
    obtain ⟨_, _, bu⟩ := r0_near u1 u2
    have fi := fin.im
    simp only at fi
    obtain ⟨_, _⟩ := fi
    obtain ⟨_, _⟩ := bu
    constructor <;> grind
  have n2 := near_err c1 bc
  refine ⟨rabs (vl (cRe f w1 V1 R1' 4) - (u : Rat) * rho) + 9 / 1000000000000, rabs (vl (cIm f w1 V1 V1 4) - v), c2, c1, ?_, wn_rabs _, by grind⟩
  refine (wn_add n2 (wn_rabs (vl (cRe f w1 V1 R1' 4) - (u : Rat) * rho))).of ?_ (by grind)
  push_cast
  grind
end Go.Proofs.YtcppgbhjbmfldaaDoor
