/- Floats near numbers, relatively; a float's whole part. -/
import Derived.Test.YtcppgbhjbmfldaaDoorYY
namespace Go.Fp.Tri
open Go.Fp Ieee
set_option maxRecDepth 20000
theorem cut_floor (s : Bool) (m : Nat) (i : Int) : ((Toward.zero.cut s (m <<< i.toNat) (-i).toNat : Nat) : Rat) ≤ (m : Rat) * pw i ∧ (m : Rat) * pw i < ((Toward.zero.cut s (m <<< i.toNat) (-i).toNat : Nat) : Rat) + 1 := by
  rw [cut_zero]
  obtain ⟨k, hk⟩ : ∃ k, k = (-i).toNat := ⟨_, rfl⟩
  rw [← hk]
  have e : ((m <<< i.toNat : Nat) : Rat) = (m : Rat) * pw i * pw k := by
    rw [Nat.shiftLeft_eq, Rat.natCast_mul, ← pw_nat]
    have : pw (i.toNat : Int) = pw i * pw k := by rw [← pw_add]; congr 1; omega
    rw [this]
    generalize pw i = a
    generalize pw (k : Int) = b
    grind
  have hp := pw_pos (k : Int)
  have p2 := Nat.two_pow_pos k
  have d1 := Nat.div_add_mod (m <<< i.toNat) (2 ^ k)
  have d2 := Nat.mod_lt (m <<< i.toNat) p2
  have ek : pw (k : Int) = ((2 ^ k : Nat) : Rat) := pw_nat k
  generalize hq : (m <<< i.toNat) / 2 ^ k = q at *
  generalize hr : (m <<< i.toNat) % 2 ^ k = r at *
  have d3 : ((m <<< i.toNat : Nat) : Rat) = ((2 ^ k : Nat) : Rat) * (q : Rat) + (r : Rat) := by
    rw [← d1, Rat.natCast_add, Rat.natCast_mul]
  have r0 : (0 : Rat) ≤ (r : Rat) := by exact_mod_cast Nat.zero_le r
  have r1 : (r : Rat) < ((2 ^ k : Nat) : Rat) := by exact_mod_cast d2
  rw [e, ← ek] at d3
  rw [← ek] at r1
  generalize pw i = a at *
  generalize pw (k : Int) = b at *
  constructor
  · refine le_of_scaled hp ?_
    grind
  · rcases Rat.le_total (a := (q : Rat) + 1) (b := (m : Rat) * a) with h | h
    · exfalso
      have := Rat.mul_le_mul_of_nonneg_left h (Rat.le_of_lt hp)
      grind
    · rcases Rat.le_total (a := (m : Rat) * a) (b := (q : Rat) + 1) with h2 | h2
      · by_cases h3 : (m : Rat) * a = (q : Rat) + 1
        · exfalso
          rw [h3] at d3
          grind
        · grind
      · exfalso
        have h3 : (m : Rat) * a = (q : Rat) + 1 := by grind
        rw [h3] at d3
        grind
theorem Rn.div {x y X Y ε δ : Rat} (h : Rn x X ε) (k : Rn y Y δ) (hδ : δ ≤ 1 / 1000000) : Rn (x / y) (X / Y) (ε + δ + 3 / 1000000 * (ε + δ)) := by
  have hX := h.1
  have hY := k.1
  have ε0 := h.e0
  have δ0 := k.e0
  have yp : 0 < y := by
    have := k.2.1
    have := Rat.mul_le_mul_of_nonneg_right hδ (Rat.le_of_lt hY)
    grind
  obtain ⟨Q, hQ⟩ : ∃ Q, Q = X / Y := ⟨_, rfl⟩
  have hQY : Q * Y = X := div_mul_c (ne_of_pos hY) hQ
  obtain ⟨q, hq⟩ : ∃ q, q = x / y := ⟨_, rfl⟩
  have hqy : q * y = x := div_mul_c (ne_of_pos yp) hq
  rw [← hQ, ← hq]
  have Qp : 0 < Q := pos_mul_r hY (by rw [show Y * Q = Q * Y by grind, hQY]; exact hX)
  refine ⟨Qp, ?_⟩
  refine wn_scaled yp ?_
  have e : y * (q - Q) = (x - X) - Q * (y - Y) := by rw [← hQY, ← hqy]; grind
  rw [e]
  refine (wn_sub h.2 (wn_mul (wn_pos (Rat.le_of_lt Qp)) k.2)).mono ?_
  have y1 : Y * (1 - 1 / 1000000) ≤ y := by
    have := k.2.1
    have := Rat.mul_le_mul_of_nonneg_right hδ (Rat.le_of_lt hY)
    grind
  have m := Rat.mul_le_mul_of_nonneg_right y1 (show 0 ≤ (ε + δ + 3 / 1000000 * (ε + δ)) * Q from Rat.mul_nonneg (by grind) (Rat.le_of_lt Qp))
  have e2 : ε * X + Q * (δ * Y) = (ε + δ) * X := by rw [← hQY]; grind
  rw [e2]
  have e3 : Y * (1 - 1 / 1000000) * ((ε + δ + 3 / 1000000 * (ε + δ)) * Q) = (ε + δ) * X * ((1 - 1 / 1000000) * (1 + 3 / 1000000)) := by rw [← hQY]; grind
  rw [e3] at m
  have p := Rat.mul_nonneg (show 0 ≤ ε + δ by grind) (Rat.le_of_lt hX)
  grind
end Go.Fp.Tri
namespace Go.Proofs.YtcppgbhjbmfldaaDoor
open Go.Fp Go.Fp.Tri Ieee
set_option maxRecDepth 20000
/-- the whole part of a float -/
theorem trunc_pos {x : Nat} (fx : Fp.Fin x) (h1 : 0 ≤ vl x) (h2 : vl x ≤ 1000000000000) : ∃ E : Int, floatToIntVal .f64 x .i64 = some E ∧ (E : Rat) ≤ vl x ∧ vl x < (E : Rat) + 1 ∧ 0 ≤ E := by
  obtain ⟨s, m, i, hr⟩ := fx
  rw [vl_of hr] at h1 h2 ⊢
  obtain ⟨c1, c2⟩ := cut_floor s m i
  have e0 : vd s m i = ((sg s : Int) : Rat) * ((m : Rat) * pw i) := by unfold vd; generalize pw i = z; grind
  rw [e0] at h1 h2 ⊢
  clear e0
  obtain ⟨K, hK⟩ : ∃ K, K = Toward.zero.cut s (m <<< i.toNat) (-i).toNat := ⟨_, rfl⟩
  have hi : (FloatKind.f64.decode x).toInt .zero = some (sg s * (K : Int)) := by
    show (D.read x).toInt .zero = _
    rw [hr, hK]
    show some (signed s _ 0) = _
    rw [signed0]
  rw [← hK] at c1 c2
  have m0 : 0 ≤ (m : Rat) * pw i := Rat.mul_nonneg (by exact_mod_cast Nat.zero_le m) (Rat.le_of_lt (pw_pos i))
  have k0 : (0 : Rat) ≤ (K : Rat) := by exact_mod_cast Nat.zero_le K
  generalize (m : Rat) * pw i = v at *
  have kb : (K : Rat) ≤ ((1000000000000 : Nat) : Rat) := by
    have e9 : ((1000000000000 : Nat) : Rat) = 1000000000000 := rfl
    rw [e9]
    cases s
    · rw [show ((sg false : Int) : Rat) = 1 from rfl] at h2
      grind
    · rw [show ((sg true : Int) : Rat) = -1 from rfl] at h1
      grind
  have kn : K ≤ 1000000000000 := Rat.natCast_le_natCast.1 kb
  have fit : floatToIntVal .f64 x .i64 = some (sg s * (K : Int)) := by
    unfold floatToIntVal
    have e1 : IntKind.i64.min = -9223372036854775808 := by decide
    have e2 : IntKind.i64.max = 9223372036854775807 := by decide
    rw [hi, e1, e2]
    simp only []
    rw [if_pos (by cases s; rw [show sg false = 1 from rfl]; omega; rw [show sg true = -1 from rfl]; omega)]
  cases s
  · rw [show ((sg false : Int) : Rat) = 1 from rfl] at *
    rw [show sg false = 1 from rfl] at *
    refine ⟨K, by rw [fit]; simp, ?_, ?_, by omega⟩
    · have e : (((K : Nat) : Int) : Rat) = (K : Rat) := rfl
      rw [e]; grind
    · have e : (((K : Nat) : Int) : Rat) = (K : Rat) := rfl
      rw [e]; grind
  · rw [show ((sg true : Int) : Rat) = -1 from rfl] at *
    have v0 : v = 0 := by grind
    have kz : K = 0 := by
      have : (K : Rat) ≤ ((0 : Nat) : Rat) := by
        have e : ((0 : Nat) : Rat) = 0 := rfl
        rw [e]; grind
      exact Nat.le_zero.1 (Rat.natCast_le_natCast.1 this)
    refine ⟨0, by rw [fit, kz]; simp, ?_, ?_, by omega⟩
    · have e : ((0 : Int) : Rat) = 0 := rfl
      rw [e]; grind
    · have e : ((0 : Int) : Rat) = 0 := rfl
      rw [e]; grind
theorem rn_mul {x y : Nat} {X Y ε δ : Rat} (fx : Fp.Fin x) (fy : Fp.Fin y) (h : Rn (vl x) X ε) (k : Rn (vl y) Y δ) (hε : ε ≤ 1 / 10000000) (hδ : δ ≤ 1 / 10000000) (lo : 1 / 100000 ≤ X * Y) (hi : X * Y ≤ 100000000000) :
    Fp.Fin (fmul x y) ∧ Rn (vl (fmul x y)) (X * Y) (ε + δ + 1 / 1000000 * δ + 2 / 100000000000) := by
  have u1 : uu = 1 / 9007199254740992 := uu_eq
  have m := h.mul k (by grind)
  have p := m.1
  obtain ⟨a1, a2⟩ := m.2
  have ε0 := h.e0
  have δ0 := k.e0
  have mm := Rat.mul_le_mul_of_nonneg_right (show ε + δ + 1 / 1000000 * δ ≤ 1 by grind) (Rat.le_of_lt p)
  obtain ⟨f1, e1⟩ := mulE fx fy (2 * (X * Y)) ⟨by grind, by grind⟩ (by grind)
  refine ⟨f1, p, ?_⟩
  refine (wn_add e1 m.2).of (by grind) ?_
  rw [u1]
  grind
theorem rn_div {x y : Nat} {X Y ε δ : Rat} (fx : Fp.Fin x) (fy : Fp.Fin y) (h : Rn (vl x) X ε) (k : Rn (vl y) Y δ) (hε : ε ≤ 1 / 10000000) (hδ : δ ≤ 1 / 10000000) (lo : 1 / 100000 ≤ X / Y) (hi : X / Y ≤ 100000000000) :
    Fp.Fin (fdiv x y) ∧ Rn (vl (fdiv x y)) (X / Y) (ε + δ + 3 / 1000000 * (ε + δ) + 2 / 100000000000) := by
  have u1 : uu = 1 / 9007199254740992 := uu_eq
  have m := h.div k (by grind)
  have p := m.1
  obtain ⟨a1, a2⟩ := m.2
  have ε0 := h.e0
  have δ0 := k.e0
  have mm := Rat.mul_le_mul_of_nonneg_right (show ε + δ + 3 / 1000000 * (ε + δ) ≤ 1 by grind) (Rat.le_of_lt p)
  have yp : 0 < vl y := by
    have := k.2.1
    have := k.1
    have := Rat.mul_le_mul_of_nonneg_right (show δ ≤ 1 / 2 by grind) (Rat.le_of_lt k.1)
    grind
  obtain ⟨f1, e1⟩ := divE fx fy (ne_of_pos yp) (2 * (X / Y)) ⟨by grind, by grind⟩ (by grind)
  refine ⟨f1, p, ?_⟩
  refine (wn_add e1 m.2).of (by grind) ?_
  rw [u1]
  grind
end Go.Proofs.YtcppgbhjbmfldaaDoor

/- How things are turned on a strip, and how much longer they are: floats against numbers. -/
namespace Go.Proofs.YtcppgbhjbmfldaaDoor
open Go.Fp Go.Fp.Tri
set_option maxRecDepth 20000
set_option maxHeartbeats 4000000 in
theorem turn_near {f : Nat} {lat d : Int} {T r g κ h K : Rat} (ff : Fp.Fin f) (h0 : 0 ≤ vl f) (h1 : vl f ≤ 40001 / 10000000) (lk : Look (isoP f lat) (cosP d) (sinP d) T r) (fc : Fp.Fin (cosP d)) (fs : Fp.Fin (sinP d)) (fr : Fr T (vl (lT (isoP f lat))) (vl (cosP d)) (vl (sinP d)) (vl (lR (isoP f lat) (cosP d))) g κ h)
    (wv : Wave (lU (isoP f lat) (cosP d)) (vl (lV (isoP f lat) (cosP d) (sinP d))) K) :
    MB ((Cx.sc (vl (lR (isoP f lat) (cosP d)) * vl (szP f (lU (isoP f lat) (cosP d)) (lV (isoP f lat) (cosP d) (sinP d)))) (cis (turnA f d (lU (isoP f lat) (cosP d)) (lT (isoP f lat)) (lV (isoP f lat) (cosP d) (sinP d))))).sub
      ((⟨T * vl (cosP d), vl (lT (isoP f lat)) * vl (sinP d)⟩ : Cx).mul ⟨(Cx.one.add (dA (nQ f) (wE (lU (isoP f lat) (cosP d)) (vl (lV (isoP f lat) (cosP d) (sinP d)))) (wF (lU (isoP f lat) (cosP d)) (vl (lV (isoP f lat) (cosP d) (sinP d)))))).re, -(Cx.one.add (dA (nQ f) (wE (lU (isoP f lat) (cosP d)) (vl (lV (isoP f lat) (cosP d) (sinP d)))) (wF (lU (isoP f lat) (cosP d)) (vl (lV (isoP f lat) (cosP d) (sinP d)))))).im⟩))
      (1 / 100000000 * (vl (lR (isoP f lat) (cosP d)) * vl (szP f (lU (isoP f lat) (cosP d)) (lV (isoP f lat) (cosP d) (sinP d))))) := by
  have u1 : uu = 1 / 9007199254740992 := uu_eq
  obtain ⟨g1, g2, _, b1, b2, z0, z1, hz, ne, mz⟩ := slope_size ff h0 h1 wv lk.fV
  generalize Cx.one.add (dA (nQ f) (wE (lU (isoP f lat) (cosP d)) (vl (lV (isoP f lat) (cosP d) (sinP d)))) (wF (lU (isoP f lat) (cosP d)) (vl (lV (isoP f lat) (cosP d) (sinP d))))) = Z at *
  -- the angle of the slope
  have q := ang_near (R := vl (szP f (lU (isoP f lat) (cosP d)) (lV (isoP f lat) (cosP d) (sinP d)))) g1 g2 (by have := b1.1; grind) (by grind) (by grind) hz
  obtain ⟨_, _, qc, qs⟩ := q
  unfold turnA
  rw [fc.can, fs.can, v_w1.1.can]
  have ft := lk.ft
  have bt := fr.bt
  have T1 := fr.T1
  have T2 := fr.T2
  have bs := fr.bs
  have bg := fr.bg
  have hT := lk.hT
  have R0 := fr.R0
  have nm := fr.norm
  obtain ⟨e1, e2, e3, e4⟩ := fr.RT
  have msz := fr.size
  generalize szP f (lU (isoP f lat) (cosP d)) (lV (isoP f lat) (cosP d) (sinP d)) = zw at *
  generalize tRe tabA cA4 f (lU (isoP f lat) (cosP d)) (lV (isoP f lat) (cosP d) (sinP d)) 4 = xr at *
  generalize tIm tabA cA4 f (lU (isoP f lat) (cosP d)) (lV (isoP f lat) (cosP d) (sinP d)) 4 = xi at *
  generalize lT (isoP f lat) = tw at *
  generalize vl (lR (isoP f lat) (cosP d)) = R at *
  have Rp : 0 < R := by grind
  have TT := sq_le_sq (show 0 ≤ T by grind) T2
  have TT0 := sq_le_sq (show (0 : Rat) ≤ 99 / 100 by grind) T1
  have btt : Wn (vl tw) (31 / 10) := bt.mono T2
  have tt := wn_mul btt btt
  have tt0 := rsq_nonneg (vl tw)
  -- the root
  obtain ⟨f1, k1⟩ := mulE ft ft _ tt (by grind)
  obtain ⟨f2, k2⟩ := addE v_w1.1 f1 12 (by rw [v_w1.2]; obtain ⟨_, _⟩ := k1; obtain ⟨_, _⟩ := tt; rw [u1] at *; constructor <;> grind) (by grind)
  rw [v_w1.2] at k2
  obtain ⟨k1a, k1b⟩ := k1
  obtain ⟨k2a, k2b⟩ := k2
  rw [u1] at k1a k1b k2a k2b
  obtain ⟨t1, t2⟩ := tt
  have lo : 1 / 4 ≤ vl (fadd w1S (fmul tw tw)) := by grind
  have hi : vl (fadd w1S (fmul tw tw)) ≤ 20 := by grind
  obtain ⟨f3, p3, k3⟩ := fsqrt_err f2 lo (big_le (by grind))
  rw [u1] at k3
  obtain ⟨k3a, k3b⟩ := k3
  obtain ⟨hT1, hT2⟩ := hT
  have zT : Wn (vl (fsqrt (fadd w1S (fmul tw tw))) - T) (2 / 1000000000000 * T) := by
    generalize vl (fsqrt (fadd w1S (fmul tw tw))) = z at *
    have sp : 0 < z + T := by grind
    refine wn_scaled sp ?_
    have e : (z + T) * (z - T) = z * z - T * T := by grind
    rw [e]
    have zT2 := Rat.mul_nonneg p3 (show 0 ≤ T by grind)
    constructor <;> grind
  have bz : Wn (vl (fsqrt (fadd w1S (fmul tw tw)))) (32 / 10) := by obtain ⟨_, _⟩ := zT; constructor <;> grind
  have wg : Wn (vl (cosP d)) (1000001 / 1000000) := ⟨by grind, bg.2⟩
  obtain ⟨fx, kx⟩ := mulE f3 fc _ (wn_mul bz wg) (by grind)
  obtain ⟨fy, ky⟩ := mulE ft fs _ (wn_mul btt bs) (by grind)
  rw [u1] at kx ky
  have nx : Wn (vl (fmul (fsqrt (fadd w1S (fmul tw tw))) (cosP d)) - T * vl (cosP d)) (9 / 1000000000000) := by
    refine (wn_add kx (wn_mul zT wg)).of (by grind) (by grind)
  have ny : Wn (vl (fmul tw (sinP d)) - vl tw * vl (sinP d)) (1 / 1000000000000) := ky.mono (by grind)
  generalize fmul (fsqrt (fadd w1S (fmul tw tw))) (cosP d) = xw at *
  generalize fmul tw (sinP d) = yw at *
  have Tg := Rat.mul_le_mul_of_nonneg_left bg.1 (show 0 ≤ T by grind)
  have Tg2 := Rat.mul_le_mul_of_nonneg_left bg.2 (show 0 ≤ T by grind)
  have bxw : 98 / 100 ≤ vl xw ∧ vl xw ≤ 32 / 10 := by obtain ⟨_, _⟩ := nx; constructor <;> grind
  have byw : Wn (vl yw) (33 / 100) := (wn_add ny (wn_mul btt bs)).of (by grind) (by grind)
  have xx := sq_le_sq (show (0 : Rat) ≤ 98 / 100 by grind) bxw.1
  have yy := rsq_nonneg (vl yw)
  obtain ⟨fR, R1, R2, hR'⟩ := root_two fx fy ⟨by grind, by grind⟩ (byw.mono (by grind)) (by grind)
  generalize vl (fsqrt (fadd (fmul xw xw) (fmul yw yw))) = R' at *
  have p := ang_near (R := R') fx fy (by grind) R1 (by grind) hR'
  obtain ⟨_, _, pc, ps⟩ := p
  -- R' is R
  have RR : Wn (R' - R) (3 / 10000000000 * R) := by
    have sp : 0 < R' + R := by grind
    refine wn_scaled sp ?_
    have e : (R' + R) * (R' - R) = R' * R' - R * R := by grind
    rw [e]
    have d1 := wn_mul nx (show Wn (vl xw + T * vl (cosP d)) 7 from by constructor <;> grind)
    have by2 := wn_mul btt bs
    have d2 := wn_mul ny (show Wn (vl yw + vl tw * vl (sinP d)) 1 from by obtain ⟨_, _⟩ := byw; obtain ⟨_, _⟩ := by2; constructor <;> grind)
    have RRl := sq_le_sq (show (0 : Rat) ≤ 85 / 100 by grind) R0
    have RR2 : R' * R' ≤ 12 := by
      have := (wn_mul byw byw).2
      have := sq_le_sq (show 0 ≤ vl xw by grind) bxw.2
      obtain ⟨_, _⟩ := hR'
      grind
    have t := wn_add (wn_add hR' (wn_add d1 d2)) nm
    refine t.of (by grind) ?_
    have Rr := Rat.mul_nonneg (show 0 ≤ R' by grind) (Rat.le_of_lt Rp)
    grind
  -- together
  have hn : normP (signP ((angleP yw xw).1 - (angleP xi xr).1)) = normP (angS yw xw + -(angS xi xr)) := by
    unfold angS signP normP
    split <;> split <;> split <;> omega
  rw [cis_norm hn]
  have ca := cis_add (angS yw xw) (-(angS xi xr))
  have cn := cis_neg (angS xi xr)
  have bp := cis_bd (angS yw xw)
  have bq := cis_bd (angS xi xr)
  generalize cis (angS yw xw + -(angS xi xr)) = W at *
  generalize cis (-(angS xi xr)) = Qn at *
  generalize cis (angS yw xw) = P at *
  generalize cis (angS xi xr) = Q at *
  have zp : 0 < vl zw := by grind
  have RRn : R' ≤ R * (1000001 / 1000000) := by have := RR.2; grind
  -- P R is nearly (T gamma, tau sigma)
  have a1 : MB ((Cx.sc R P).sub ⟨T * vl (cosP d), vl tw * vl (sinP d)⟩) (8 / 10000000000 * R) := by
    refine MB.of (x := 55 / 100000000000 * R) (y := 55 / 100000000000 * R) ?_ ?_ (by grind) (by have := Rat.mul_pos Rp Rp; grind)
    · have m := wn_mul RR bp.re
      refine (wn_sub (wn_add pc nx) m).of (by simp; grind) (by grind)
    · have m := wn_mul RR bp.im
      refine (wn_sub (wn_add ps ny) m).of (by simp; grind) (by grind)
  have a2 : MB ((Cx.sc (vl zw) Q).sub Z) (5 / 10000000000 * vl zw) := by
    have m := MB.of (z := (⟨Q.re * vl zw - vl xr, Q.im * vl zw - vl xi⟩ : Cx)) (r := 3 / 10000000000 * vl zw) qc qs (by grind) (by have := Rat.mul_pos zp zp; grind)
    refine ((m.add ne).cast ?_).mono (by grind)
    exact Cx.ext' (by simp; grind) (by simp; grind)
  have a3 := a2.conj
  -- W = P conj Q
  have a4 : MB (W.sub (P.mul ⟨Q.re, -Q.im⟩)) (6 / 1000000000000) := by
    refine ((ca.add (bp.mul cn)).cast ?_).mono (by grind)
    exact Cx.ext' (by simp; grind) (by simp; grind)
  have c0 : MB (⟨T * vl (cosP d), vl tw * vl (sinP d)⟩ : Cx) (R * (1000001 / 1000000)) := by
    obtain ⟨x1, x2⟩ := msz
    refine ⟨x1, ?_⟩
    simp only at x2 ⊢
    grind
  have Rz := Rat.mul_pos Rp zp
  have b1' := a4.sc (c := R * vl zw) (wn_pos (Rat.le_of_lt Rz))
  have b2' := a1.mul a3
  have b3' := a1.mul mz.conj
  have b4' := c0.mul a3
  refine ((((b1'.add b2').add b3').add b4').cast ?_).mono ?_
  · exact Cx.ext' (by simp; grind) (by simp; grind)
  · generalize vl zw = zz at *
    have e5 : R * zz * (6 / 1000000000000) + 8 / 10000000000 * R * (5 / 10000000000 * zz) + 8 / 10000000000 * R * (zz * (1 + 1 / 1000000000)) + R * (1000001 / 1000000) * (5 / 10000000000 * zz) = R * zz * (6 / 1000000000000 + 8 / 10000000000 * (5 / 10000000000) + 8 / 10000000000 * (1 + 1 / 1000000000) + 1000001 / 1000000 * (5 / 10000000000)) := by grind
    rw [e5]
    grind
end Go.Proofs.YtcppgbhjbmfldaaDoor

/- How far east a step goes, as a whole number; how much longer things are, as a float. -/
namespace Go.Proofs.YtcppgbhjbmfldaaDoor
open Go.Fp Go.Fp.Tri
set_option maxRecDepth 20000
abbrev cE7 : Nat := 4711630319722168320
abbrev cG2 : Nat := 4550571152424010128
theorem v_cE7 : Fp.Fin cE7 ∧ vl cE7 = 10000000 := vl_const (s := false) (m := 5368709120000000) (k := 29) (by decide +kernel) (by decide +kernel)
theorem v_cG2 : Fp.Fin cG2 ∧ vl cG2 = 6439128407179664 / 36893488147419103232 := vl_const (s := false) (m := 6439128407179664) (k := 65) (by decide +kernel) (by decide +kernel)
/-- one less the square of the eccentricity; the same times the sine's square -/
def oF (f : Nat) : Nat := fsub Fp.cOne (eccP f)
def wF (f : Nat) (lat : Int) : Nat := fsub Fp.cOne (fmul (fmul (eccP f) (sinP lat)) (sinP lat))
def qF (f : Nat) (lat : Int) : Nat := fdiv (fmul cE7 (oF f)) (fmul (wF f lat) (cosP lat))
/-- the parts as floats -/
theorem parts_near {a f : Nat} (g : Snd a f 0) (h1 : vl f ≤ 40001 / 10000000) {lat : Int} (l1 : -70000000000 ≤ lat) (l2 : lat ≤ 70000000000) :
    Fp.Fin (eccP f) ∧ Fp.Fin (sinP lat) ∧ Fp.Fin (cosP lat) ∧ Fp.Fin (fmul (eccP f) (sinP lat)) ∧ Fp.Fin (fmul (fmul (eccP f) (sinP lat)) (sinP lat)) ∧ Fp.Fin (oF f) ∧ Fp.Fin (wF f lat) ∧
    Rn (vl (oF f)) (1 - vl (fsqrt (eccP f)) * vl (fsqrt (eccP f))) (1 / 10000000000000) ∧ Rn (vl (wF f lat)) (1 - vl (fsqrt (eccP f)) * vl (fsqrt (eccP f)) * (vl (sinP lat) * vl (sinP lat))) (1 / 10000000000000) ∧
    99 / 100 ≤ 1 - vl (fsqrt (eccP f)) * vl (fsqrt (eccP f)) ∧ 99 / 100 ≤ 1 - vl (fsqrt (eccP f)) * vl (fsqrt (eccP f)) * (vl (sinP lat) * vl (sinP lat)) ∧ 1 - vl (fsqrt (eccP f)) * vl (fsqrt (eccP f)) * (vl (sinP lat) * vl (sinP lat)) ≤ 1 ∧ 34199 / 100000 ≤ vl (cosP lat) ∧ vl (cosP lat) ≤ 10001 / 10000 := by
  have u1 : uu = 1 / 9007199254740992 := uu_eq
  obtain ⟨he, eo, hd, hE2, hq⟩ := ecc_low g h1
  obtain ⟨k0, k1, bsl, _⟩ := iso_hundredth he hE2 l1 l2
  obtain ⟨fs, _⟩ := sin_in84 (m := lat) (by omega) (by omega)
  obtain ⟨fc, _⟩ := cos_84 (m := lat) (by omega) (by omega)
  have fE := eo.fE
  have E0 := eo.E0
  have be : Wn (vl (eccP f)) (801 / 100000) := ⟨by grind, hq⟩
  obtain ⟨f1, e1⟩ := mulE fE fs _ (wn_mul be bsl) (by grind)
  have b1 : Wn (vl (fmul (eccP f) (sinP lat))) (9 / 1000) := (wn_add e1 (wn_mul be bsl)).of (by grind) (by rw [u1]; grind)
  obtain ⟨f2, e2⟩ := mulE f1 fs _ (wn_mul b1 bsl) (by grind)
  have b2 : Wn (vl (fmul (fmul (eccP f) (sinP lat)) (sinP lat))) (9 / 1000) := (wn_add e2 (wn_mul b1 bsl)).of (by grind) (by rw [u1]; grind)
  obtain ⟨f3, e3⟩ := subE v_one.1 fE 1 (by rw [v_one.2]; constructor <;> grind) (by grind)
  obtain ⟨f4, e4⟩ := subE v_one.1 f2 2 (by rw [v_one.2]; obtain ⟨_, _⟩ := b2; constructor <;> grind) (by grind)
  rw [v_one.2] at e3 e4
  rw [u1] at e1 e2 e3 e4
  change Fp.Fin (oF f) at f3
  change Fp.Fin (wF f lat) at f4
  change Wn (vl (oF f) - _) _ at e3
  change Wn (vl (wF f lat) - _) _ at e4
  have ss := wn_mul bsl bsl
  have ss0 := rsq_nonneg (vl (sinP lat))
  have m1 := wn_mul e1 bsl
  have m2 := wn_mul hd (show Wn (vl (sinP lat) * vl (sinP lat)) 1 from ⟨by grind, by have := ss.2; grind⟩)
  have E2nn := rsq_nonneg (vl (fsqrt (eccP f)))
  generalize vl (fsqrt (eccP f)) * vl (fsqrt (eccP f)) = E2 at *
  have E20 : -(1 / 100000000000000) ≤ E2 := by have := hd.1; grind
  have EsU := mul_mono E0 hq ss0 (show vl (sinP lat) * vl (sinP lat) ≤ 1 by have := ss.2; grind)
  have Es0 := Rat.mul_nonneg E0 ss0
  have n1 : 99 / 100 ≤ 1 - E2 := by grind
  have d1 : Wn (vl (oF f) - (1 - E2)) (2 / 100000000000000) := (wn_sub e3 (wn_negy hd)).of (by grind) (by grind)
  have d2 : Wn (vl (wF f lat) - (1 - E2 * (vl (sinP lat) * vl (sinP lat)))) (2 / 100000000000000) := by
    refine (wn_sub (wn_sub e4 e2) (wn_add m1 (wn_negy m2))).of (by grind) (by grind)
  have n2 : 99 / 100 ≤ 1 - E2 * (vl (sinP lat) * vl (sinP lat)) := by obtain ⟨_, _⟩ := m2; grind
  refine ⟨fE, fs, fc, f1, f2, f3, f4, ⟨by grind, d1.mono (by grind)⟩, ⟨by grind, d2.mono (by grind)⟩, n1, n2, ?_, k0, k1⟩
  have := Rat.mul_nonneg E2nn ss0
  grind
/-- how far east the step goes -/
theorem east_int {a f : Nat} (g : Snd a f 0) (h1 : vl f ≤ 40001 / 10000000) {lat : Int} (l1 : -70000000000 ≤ lat) (l2 : lat ≤ 70000000000) :
    ∃ (h : Rat) (E : Int), hIs f lat h ∧ floatToIntVal .f64 (qF f lat) .i64 = some E ∧ Wn ((E : Rat) * rho - h) (h * (2 / 10000000)) ∧ 0 ≤ E ∧ E ≤ 31000000 ∧ Fp.Fin (fmul cE7 (oF f)) ∧ Fp.Fin (fmul (wF f lat) (cosP lat)) ∧ Fp.Fin (qF f lat) := by
  obtain ⟨fE, fs, fc, f1, f2, f3, f4, r1, r2, n1, n2, n3, k0, k1⟩ := parts_near g h1 l1 l2
  have E2nn := rsq_nonneg (vl (fsqrt (eccP f)))
  unfold hIs
  generalize vl (fsqrt (eccP f)) * vl (fsqrt (eccP f)) = E2 at *
  have hP := r1.1
  have hW := r2.1
  obtain ⟨w, hw⟩ : ∃ w, w = 1 - E2 * (vl (sinP lat) * vl (sinP lat)) := ⟨_, rfl⟩
  rw [← hw] at r2 n2 n3 hW ⊢
  have kp : 0 < vl (cosP lat) := by grind
  have wk := Rat.mul_pos hW kp
  have wk0 := mul_mono (show (0 : Rat) ≤ 99 / 100 by grind) n2 (show (0 : Rat) ≤ 34199 / 100000 by grind) k0
  have wk1 := mul_mono (Rat.le_of_lt hW) n3 (Rat.le_of_lt kp) k1
  obtain ⟨g1, m1⟩ := rn_mul v_cE7.1 f3 (Rn.refl (y := vl cE7) (by rw [v_cE7.2]; grind)) r1 (by grind) (by grind) (by rw [v_cE7.2]; grind) (by rw [v_cE7.2]; grind)
  obtain ⟨g2, m2⟩ := rn_mul f4 fc r2 (Rn.refl kp) (by grind) (by grind) (by grind) (by grind)
  rw [v_cE7.2] at m1
  obtain ⟨v, hv⟩ : ∃ v, v = 10000000 * (1 - E2) / (w * vl (cosP lat)) := ⟨_, rfl⟩
  have hvw : v * (w * vl (cosP lat)) = 10000000 * (1 - E2) := div_mul_c (ne_of_pos wk) hv
  have v0 : 9800000 ≤ v := by
    refine le_of_scaled wk ?_
    rw [show w * vl (cosP lat) * v = v * (w * vl (cosP lat)) by grind, hvw]
    grind
  have v1 : v ≤ 30000000 := by
    refine le_of_scaled wk ?_
    rw [show w * vl (cosP lat) * v = v * (w * vl (cosP lat)) by grind, hvw]
    grind
  obtain ⟨g3, m3⟩ := rn_div g1 g2 (m1.mono (ε := _) (δ := 3 / 100000000000) (by grind)) (m2.mono (δ := 3 / 100000000000) (by grind)) (by grind) (by grind) (by rw [← hv]; grind) (by rw [← hv]; grind)
  rw [← hv] at m3
  change Fp.Fin (qF f lat) at g3
  change Rn (vl (qF f lat)) v _ at m3
  obtain ⟨_, a1, a2⟩ := m3
  obtain ⟨E, hE, e1, e2, e3⟩ := trunc_pos g3 (by grind) (by grind)
  have rp := rho_pos
  refine ⟨v * rho, E, ?_, hE, ?_, e3, ?_, g1, g2, g3⟩
  · rw [show v * rho * (w * vl (cosP lat)) = v * (w * vl (cosP lat)) * rho by grind, hvw]
    have e10 : ((10000000 : Int) : Rat) = 10000000 := rfl
    unfold gS2
    rw [e10]; grind
  · have t : Wn ((E : Rat) - v) (v * (2 / 10000000)) := by constructor <;> grind
    exact (wn_mul t (wn_pos (Rat.le_of_lt rp))).of (by grind) (by grind)
  · have e9 : ((31000000 : Int) : Rat) = 31000000 := rfl
    refine Rat.intCast_le_intCast.1 ?_
    rw [e9]; grind
set_option maxHeartbeats 4000000 in
/-- how long a step is to be, by the float that tells how much longer things are -/
theorem scale_near {a f sc : Nat} (g : Snd a f 0) (h1 : vl f ≤ 40001 / 10000000) {lat d : Int} (l1 : -70000000000 ≤ lat) (l2 : lat ≤ 70000000000) {T r h K : Rat} (lk : Look (isoP f lat) (cosP d) (sinP d) T r) (fcd : Fp.Fin (cosP d)) (fr : Fr T (vl (lT (isoP f lat))) (vl (cosP d)) (vl (sinP d)) (vl (lR (isoP f lat) (cosP d))) gS2 (vl (cosP lat)) h)
    (wv : Wave (lU (isoP f lat) (cosP d)) (vl (lV (isoP f lat) (cosP d) (sinP d))) K) (hh : hIs f lat h) (fR : Fp.Fin (rS a f sc)) (R0 : 10000 ≤ vl (rS a f sc)) (R1 : vl (rS a f sc) ≤ 1000000000) :
    Fp.Fin (crossP a f lat) ∧ Fp.Fin (fmul (crossP a f lat) (oF f)) ∧ Fp.Fin (fdiv (fmul (crossP a f lat) (oF f)) (wF f lat)) ∧ Fp.Fin (fmul (fdiv (fmul (crossP a f lat) (oF f)) (wF f lat)) cG2) ∧
    Fp.Fin (turnM a f sc lat d (lU (isoP f lat) (cosP d)) (lT (isoP f lat)) (lV (isoP f lat) (cosP d) (sinP d))) ∧
    Fp.Fin (fmul (turnM a f sc lat d (lU (isoP f lat) (cosP d)) (lT (isoP f lat)) (lV (isoP f lat) (cosP d) (sinP d))) (fmul (fdiv (fmul (crossP a f lat) (oF f)) (wF f lat)) cG2)) ∧
    Rn (vl (fmul (turnM a f sc lat d (lU (isoP f lat) (cosP d)) (lT (isoP f lat)) (lV (isoP f lat) (cosP d) (sinP d))) (fmul (fdiv (fmul (crossP a f lat) (oF f)) (wF f lat)) cG2)))
      (vl (rS a f sc) * (h / vl (lR (isoP f lat) (cosP d))) * vl (szP f (lU (isoP f lat) (cosP d)) (lV (isoP f lat) (cosP d) (sinP d)))) (1 / 1000000000) := by
  obtain ⟨fE, fs, fc, f1, f2, f3, f4, r1, r2, n1, n2, n3, k0, k1⟩ := parts_near g h1 l1 l2
  have E2nn := rsq_nonneg (vl (fsqrt (eccP f)))
  obtain ⟨_, _, _, ff, ff1, ff2, _⟩ := And.intro g.fa (And.intro g.a1 (And.intro g.a2 (And.intro g.ff (And.intro g.f1 (And.intro g.f2 trivial)))))
  obtain ⟨_, _, fz, _, _, z0, z1, _⟩ := slope_size ff ff1 h1 wv lk.fV
  -- the radius across
  have hs : Sgn lat (if lat < 0 then -lat else lat) (if lat < 0 then -1 else 1) := by
    by_cases hl : lat < 0
    · rw [if_pos hl, if_pos hl]; exact .inr ⟨by omega, rfl⟩
    · rw [if_neg hl, if_neg hl]; exact .inl ⟨rfl, rfl⟩
  obtain ⟨fC, n, hC, c0, c1, _⟩ := cross_near g hs (by split <;> omega) (by split <;> omega)
  have A1 := g.a1
  have A2 := g.a2
  have bC0 : 990000 ≤ vl (crossP a f lat) := by
    rw [hC]
    have := mul_mono (show (0 : Rat) ≤ 1000000 by grind) A1 (show (0 : Rat) ≤ 99 / 100 by grind) c0
    grind
  have bC1 : vl (crossP a f lat) ≤ 10300000 := by
    rw [hC]
    have := mul_mono (show 0 ≤ vl a by grind) A2 (show 0 ≤ n by grind) c1
    grind
  have eM : turnM a f sc lat d (lU (isoP f lat) (cosP d)) (lT (isoP f lat)) (lV (isoP f lat) (cosP d) (sinP d)) = fdiv (fmul (rS a f sc) (szP f (lU (isoP f lat) (cosP d)) (lV (isoP f lat) (cosP d) (sinP d)))) (fmul (fmul (crossP a f lat) (cosP lat)) (lR (isoP f lat) (cosP d))) := by
    unfold turnM szP rS
    rw [fc.can, fcd.can]
  rw [eM]
  unfold hIs at hh
  have fRd := lk.fR
  have Rd0 := fr.R0
  have hp := fr.m.1
  obtain ⟨_, _, hR1, hR2⟩ := fr.m
  obtain ⟨_, _, e3, _⟩ := fr.RT
  have T2 := fr.T2
  generalize vl (fsqrt (eccP f)) * vl (fsqrt (eccP f)) = E2 at *
  generalize szP f (lU (isoP f lat) (cosP d)) (lV (isoP f lat) (cosP d) (sinP d)) = zw at *
  generalize lR (isoP f lat) (cosP d) = rw' at *
  generalize crossP a f lat = cw at *
  obtain ⟨w, hw⟩ : ∃ w, w = 1 - E2 * (vl (sinP lat) * vl (sinP lat)) := ⟨_, rfl⟩
  rw [← hw] at r2 n2 n3 hh
  have hP := r1.1
  have hW := r2.1
  have kp : 0 < vl (cosP lat) := by grind
  have Cp : 0 < vl cw := by grind
  have Rsp : 0 < vl (rS a f sc) := by grind
  have zp : 0 < vl zw := by grind
  have Rdp : 0 < vl rw' := by grind
  have Rd1 : vl rw' ≤ 4 := by grind
  have g0 := gS2_bd
  have gp : 0 < gS2 := by grind
  have rg : Rn (vl cG2) gS2 (1 / 1000000000000) := ⟨gp, by
    have e : gS2 = 10000000 * rho := rfl
    have : -(1 / 1000000000000 * gS2) ≤ vl cG2 - gS2 ∧ vl cG2 - gS2 ≤ 1 / 1000000000000 * gS2 := by
      rw [v_cG2.2]
      decide +kernel
    exact this⟩
  -- m
  have P1 := mul_mono (show (0 : Rat) ≤ 990000 by grind) bC0 (show (0 : Rat) ≤ 99 / 100 by grind) n1
  have P2 := mul_mono (Rat.le_of_lt Cp) bC1 (show 0 ≤ 1 - E2 by grind) (show 1 - E2 ≤ 1 by grind)
  obtain ⟨q1, s1⟩ := rn_mul fC f3 (Rn.refl Cp) r1 (by grind) (by grind) (by grind) (by grind)
  obtain ⟨D1, hD1⟩ : ∃ D1, D1 = vl cw * (1 - E2) / w := ⟨_, rfl⟩
  have hD1w : D1 * w = vl cw * (1 - E2) := div_mul_c (ne_of_pos hW) hD1
  have D10 : 980000 ≤ D1 := le_of_scaled hW (by rw [show w * D1 = D1 * w by grind, hD1w]; grind)
  have D11 : D1 ≤ 10500000 := le_of_scaled hW (by rw [show w * D1 = D1 * w by grind, hD1w]; grind)
  obtain ⟨q2, s2⟩ := rn_div q1 f4 (s1.mono (δ := 3 / 100000000000) (by grind)) r2 (by grind) (by grind) (by rw [← hD1]; grind) (by rw [← hD1]; grind)
  rw [← hD1] at s2
  have P3 := mul_mono (show (0 : Rat) ≤ 980000 by grind) D10 (show (0 : Rat) ≤ 17453292 / 100000000000 by grind) g0.1
  have P4 := mul_mono (show 0 ≤ D1 by grind) D11 (Rat.le_of_lt gp) g0.2
  obtain ⟨q3, s3⟩ := rn_mul q2 v_cG2.1 (s2.mono (δ := 6 / 100000000000) (by grind)) rg (by grind) (by grind) (by grind) (by grind)
  -- the scale
  have P5 := mul_mono (show (0 : Rat) ≤ 10000 by grind) R0 (show (0 : Rat) ≤ 99 / 100 by grind) z0
  have P6 := mul_mono (Rat.le_of_lt Rsp) R1 (Rat.le_of_lt zp) z1
  obtain ⟨q4, s4⟩ := rn_mul fR fz (Rn.refl Rsp) (Rn.refl zp) (by grind) (by grind) (by grind) (by grind)
  have P7 := mul_mono (show (0 : Rat) ≤ 990000 by grind) bC0 (show (0 : Rat) ≤ 34199 / 100000 by grind) k0
  have P8 := mul_mono (Rat.le_of_lt Cp) bC1 (Rat.le_of_lt kp) k1
  obtain ⟨q5, s5⟩ := rn_mul fC fc (Rn.refl Cp) (Rn.refl kp) (by grind) (by grind) (by grind) (by grind)
  have Ck := Rat.mul_pos Cp kp
  have P9 := mul_mono (show (0 : Rat) ≤ 990000 * (34199 / 100000) by grind) P7 (show (0 : Rat) ≤ 85 / 100 by grind) Rd0
  have P10 := mul_mono (Rat.le_of_lt Ck) P8 (Rat.le_of_lt Rdp) Rd1
  obtain ⟨q6, s6⟩ := rn_mul q5 fRd (s5.mono (δ := 3 / 100000000000) (by grind)) (Rn.refl Rdp) (by grind) (by grind) (by grind) (by grind)
  have CkR := Rat.mul_pos Ck Rdp
  obtain ⟨S1, hS1⟩ : ∃ S1, S1 = vl (rS a f sc) * vl zw / (vl cw * vl (cosP lat) * vl rw') := ⟨_, rfl⟩
  have hS1w : S1 * (vl cw * vl (cosP lat) * vl rw') = vl (rS a f sc) * vl zw := div_mul_c (ne_of_pos CkR) hS1
  have S10 : 1 / 10000 ≤ S1 := le_of_scaled CkR (by rw [show vl cw * vl (cosP lat) * vl rw' * S1 = S1 * (vl cw * vl (cosP lat) * vl rw') by grind, hS1w]; grind)
  have S11 : S1 ≤ 100000 := le_of_scaled CkR (by rw [show vl cw * vl (cosP lat) * vl rw' * S1 = S1 * (vl cw * vl (cosP lat) * vl rw') by grind, hS1w]; grind)
  obtain ⟨q7, s7⟩ := rn_div q4 q6 (s4.mono (δ := 3 / 100000000000) (by grind)) (s6.mono (δ := 6 / 100000000000) (by grind)) (by grind) (by grind) (by rw [← hS1]; grind) (by rw [← hS1]; grind)
  rw [← hS1] at s7
  have P11 := mul_mono (show (0 : Rat) ≤ 1 / 10000 by grind) S10 (show (0 : Rat) ≤ 980000 * (17453292 / 100000000000) by grind) P3
  have P12 := mul_mono (show 0 ≤ S1 by grind) S11 (show 0 ≤ D1 * gS2 by grind) P4
  obtain ⟨q8, s8⟩ := rn_mul q7 q3 (s7.mono (δ := 12 / 100000000000) (by grind)) (s3.mono (δ := 9 / 100000000000) (by grind)) (by grind) (by grind) (by grind) (by grind)
  refine ⟨fC, q1, q2, q3, q7, q8, ?_⟩
  -- what it is
  have hRd : h / vl rw' * vl rw' = h := div_mul_c (ne_of_pos Rdp) rfl
  obtain ⟨m, hm⟩ : ∃ m, m = h / vl rw' := ⟨_, rfl⟩
  rw [← hm] at hRd ⊢
  have key : S1 * (D1 * gS2) = vl (rS a f sc) * m * vl zw := by
    have big : 0 < vl cw * vl (cosP lat) * vl rw' * w := Rat.mul_pos CkR hW
    have e : (vl cw * vl (cosP lat) * vl rw' * w) * (S1 * (D1 * gS2)) = (vl cw * vl (cosP lat) * vl rw' * w) * (vl (rS a f sc) * m * vl zw) := by
      have e1 : (vl cw * vl (cosP lat) * vl rw' * w) * (S1 * (D1 * gS2)) = (S1 * (vl cw * vl (cosP lat) * vl rw')) * (D1 * w) * gS2 := by grind
      have e2 : (vl cw * vl (cosP lat) * vl rw' * w) * (vl (rS a f sc) * m * vl zw) = vl (rS a f sc) * vl zw * vl cw * ((m * vl rw') * (w * vl (cosP lat))) := by grind
      rw [e1, e2, hS1w, hD1w, hRd, hh]; grind
    have l1 := le_of_scaled big (show _ ≤ (vl cw * vl (cosP lat) * vl rw' * w) * (vl (rS a f sc) * m * vl zw) by rw [← e]; exact Rat.le_refl)
    have l2 := le_of_scaled big (show _ ≤ (vl cw * vl (cosP lat) * vl rw' * w) * (S1 * (D1 * gS2)) by rw [e]; exact Rat.le_refl)
    grind
  rw [key] at s8
  exact s8.mono (by grind)
end Go.Proofs.YtcppgbhjbmfldaaDoor
