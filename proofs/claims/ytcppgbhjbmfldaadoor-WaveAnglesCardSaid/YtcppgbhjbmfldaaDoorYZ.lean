/- Two places on the ball along the meridian: how far they are apart there. -/
import Derived.Test.YtcppgbhjbmfldaaDoorZZ
namespace Go.Fp.Tri
open Go.Fp
set_option maxRecDepth 20000
theorem S_mid {x : Rat} (h : Wn x (3 / 10000)) : Wn (S x - x) (5 / 1000000000000) := by
  have b := (wn_pev PSr h).mono (show pbd PSr (3 / 10000) ≤ 5 / 1000000000000 by decide +kernel)
  have e : S x - x = pev PSr x := by simp only [S, PS, PSr, pev]; grind
  rw [e]; exact b
def PEo : List Rat := [0, 0, 0, 2 * inv 3, 0, 2 * inv 5, 0, 2 * inv 7, 0, 2 * inv 9, 0, 2 * inv 11, 0, 2 * inv 13, 0]
theorem Ex_odd {x : Rat} (h : Wn x (6 / 10000)) : Wn (Ex x - Ex (-x) - 2 * x) (1 / 10000000000) := by
  have b := (wn_pev PEo h).mono (show pbd PEo (6 / 10000) ≤ 1 / 10000000000 by decide +kernel)
  have e : Ex x - Ex (-x) - 2 * x = pev PEo x := by
    have i0 : inv 0 = 1 := by decide +kernel
    have i1 : inv 1 = 1 := by decide +kernel
    simp only [Ex, PE, PEo, pev, i0, i1]; grind
  rw [e]; exact b
/-- a number whose hyperbolic sine is small -/
theorem sinh_small {w H : Rat} (hw : Wn w 2) (hH : Wn ((EX w - EX (-w)) / 2 - H) (2 / 100000000000)) (bH : Wn H (25 / 100000)) : Wn (w - H) (1 / 1000000000) ∧ Wn w (26 / 100000) := by
  have p0 := EX_pos (hw.mono (show (2 : Rat) ≤ 7 by grind))
  have n0 := EX_pos (wn_negy (hw.mono (show (2 : Rat) ≤ 7 by grind)))
  have pn := EX_neg (hw.mono (show (2 : Rat) ≤ 7 by grind))
  have one : Wn (EX w - 1) (4 / 10000) := by
    generalize EX w = P at *
    generalize EX (-w) = N at *
    obtain ⟨h1, h2⟩ := hH
    obtain ⟨b1, b2⟩ := bH
    obtain ⟨q1, q2⟩ := pn
    constructor
    · -- P at least one less a little
      rcases Rat.le_total (a := 1 - 4 / 10000) (b := P) with k | k
      · grind
      · exfalso
        have a := mul_mono (Rat.le_of_lt p0) k (Rat.le_of_lt n0) (show N ≤ 1 - 4 / 10000 + 6 / 10000 by grind)
        have c : N ≤ P + 51 / 100000 := by grind
        have d := mul_mono (Rat.le_of_lt p0) k (Rat.le_of_lt n0) (show N ≤ 1 + 11 / 100000 by grind)
        grind
    · rcases Rat.le_total (a := P) (b := 1 + 4 / 10000) with k | k
      · grind
      · exfalso
        have c : P - 51 / 100000 ≤ N := by grind
        have d := mul_mono (show (0 : Rat) ≤ 1 + 4 / 10000 by grind) k (show (0 : Rat) ≤ 1 - 11 / 100000 by grind) (show 1 - 11 / 100000 ≤ N by grind)
        grind
  have sm := EX_one (hw.mono (show (2 : Rat) ≤ 7 by grind)) one (by grind)
  have sw : Wn w (6 / 10000) := sm.mono (by grind)
  have x1 := EX_small (r := w) (sw.mono (by grind))
  have x2 := EX_small (r := -w) (wn_negy (sw.mono (by grind)))
  have od := Ex_odd sw
  have e1 := Ex_bd4 (x := w) (sw.mono (by grind))
  have e2 := Ex_bd4 (x := -w) (wn_negy (sw.mono (by grind)))
  obtain ⟨_, x3, x4⟩ := x1
  obtain ⟨_, x5, x6⟩ := x2
  obtain ⟨h1, h2⟩ := hH
  obtain ⟨o1, o2⟩ := od
  have k : Wn (w - H) (1 / 1000000000) := by constructor <;> grind
  obtain ⟨_, _⟩ := k
  obtain ⟨_, _⟩ := bH
  exact ⟨by constructor <;> grind, by constructor <;> grind⟩
end Go.Fp.Tri
namespace Go.Proofs.YtcppgbhjbmfldaaDoor
open Go.Fp Go.Fp.Tri
set_option maxRecDepth 20000
variable {ψ c s ψ' c' s' : Nat} {T r T' r' : Rat}
/-- how far apart the angles are -/
theorem u_diff (h : Look ψ c s T r) (k : Look ψ' c' s' T' r') {B : Rat} (hd : Wn (vl (lT ψ') * vl c - vl c' * vl (lT ψ)) (vl (lR ψ c) * vl (lR ψ' c') * B)) (hB : B ≤ 25 / 100000) (hp : 0 < vl c' * vl c + vl (lT ψ') * vl (lT ψ) - vl (lR ψ c) * vl (lR ψ' c') * (1 / 1000000000)) :
    Wn (((lU ψ' c' - lU ψ c : Int) : Rat) * rho * (vl (lR ψ c) * vl (lR ψ' c')) - (vl (lT ψ') * vl c - vl c' * vl (lT ψ))) (vl (lR ψ c) * vl (lR ψ' c') * (1 / 1000000000)) ∧ Wn (((lU ψ' c' - lU ψ c : Int) : Rat) * rho) (26 / 100000) := by
  have cu := h.cu
  have su := h.su
  have cu' := k.cu
  have su' := k.su
  have R0 : 0 < vl (lR ψ c) := by have := h.R0; grind
  have R0' : 0 < vl (lR ψ' c') := by have := k.R0; grind
  have u1 := h.u1
  have u2 := h.u2
  have u1' := k.u1
  have u2' := k.u2
  generalize vl (lR ψ c) = R at *
  generalize vl (lR ψ' c') = R' at *
  generalize vl (lT ψ) = τ at *
  generalize vl (lT ψ') = τ' at *
  generalize vl c = γ at *
  generalize vl c' = γ' at *
  generalize lU ψ c = u at *
  generalize lU ψ' c' = u' at *
  have ca := cis_add u' (-u)
  have cn := cis_neg u
  have bu := cis_bd u
  have bu' := cis_bd u'
  have RR := Rat.mul_pos R0 R0'
  have wR := wn_pos (Rat.le_of_lt R0)
  have wR' := wn_pos (Rat.le_of_lt R0')
  rw [show u' + -u = u' - u by omega] at ca
  -- what the difference's cosine and sine are, times both distances
  have m := bu'.mul cn
  have t : MB ((cis (u' - u)).sub ((cis u').mul ⟨(cis u).re, -(cis u).im⟩)) (6 / 1000000000000) := by
    refine ((ca.add m).cast ?_).mono (by grind)
    generalize cis (u' - u) = z
    generalize cis (-u) = y
    exact Cx.ext' (by simp; grind) (by simp; grind)
  have ti := t.im
  have tr := t.re
  simp only [Cx.sub_im, Cx.sub_re, Cx.mul_im, Cx.mul_re] at ti tr
  have bre := bu.re
  have bim := bu.im
  have bre' := bu'.re
  have bim' := bu'.im
  have i1 := wn_mul su' (wn_mul bre wR)
  have i2 := wn_mul (su'.of rfl Rat.le_refl) cu
  have key_i : Wn ((cis (u' - u)).im * (R * R') - (τ' * γ - γ' * τ)) (R * R' * (9 / 10000000000)) := by
    have a1 := wn_mul (wn_mul ti wR) wR'
    -- im' re R R' - τ' γ
    have a2 := wn_mul su' (wn_mul bre wR)
    have g0 : Wn γ (R * (1000002 / 1000000)) := (wn_sub (wn_mul bre wR) cu).of (by grind) (by grind)
    have t0 : Wn τ (R * (1000002 / 1000000)) := (wn_sub (wn_mul bim wR) su).of (by grind) (by grind)
    have a3 := wn_mul (wn_mul bim' wR') cu
    have a4 := wn_mul su' g0
    have a5 := wn_mul (wn_mul bre' wR') su
    have a6 := wn_mul cu' t0
    refine (wn_add a1 (wn_add (wn_add a3 a4) (wn_sub (wn_sub (show Wn (0 : Rat) 0 from ⟨by grind, by grind⟩) a5) a6))).of (by grind) (by grind)
  have key_r : Wn ((cis (u' - u)).re * (R * R') - (γ' * γ + τ' * τ)) (R * R' * (9 / 10000000000)) := by
    have a1 := wn_mul (wn_mul tr wR) wR'
    have g0 : Wn γ (R * (1000002 / 1000000)) := (wn_sub (wn_mul bre wR) cu).of (by grind) (by grind)
    have t0 : Wn τ (R * (1000002 / 1000000)) := (wn_sub (wn_mul bim wR) su).of (by grind) (by grind)
    have a3 := wn_mul (wn_mul bre' wR') cu
    have a4 := wn_mul cu' g0
    have a5 := wn_mul (wn_mul bim' wR') su
    have a6 := wn_mul su' t0
    refine (wn_add a1 (wn_add (wn_add a3 a4) (wn_add a5 a6))).of (by grind) (by grind)
  have B0 : 0 ≤ B := by
    have n := hd.nonneg
    refine le_of_scaled RR ?_
    grind
  have im : Wn (cis (u' - u)).im (B + 1 / 1000000000) := by
    refine wn_scaled RR ?_
    refine (wn_add key_i hd).of (by grind) (by grind)
  have re : 0 ≤ (cis (u' - u)).re := by
    refine le_of_scaled RR ?_
    have := key_r.1
    grind
  have sa := small_ang im re (by grind)
  have sa2 : Wn (((signP (u' - u) : Int) : Rat) * rho) (26 / 100000) := sa.mono (by grind)
  have hn : normP (signP (u' - u)) = normP (u' - u) := by unfold signP normP; split <;> omega
  have hr : -1000000000000 < signP (u' - u) ∧ signP (u' - u) < 1000000000000 := by unfold signP normP; split <;> omega
  have sml : -100000000 < signP (u' - u) ∧ signP (u' - u) < 100000000 := by
    have rl := rho_lo
    obtain ⟨b1, b2⟩ := sa2
    constructor
    · rcases Int.lt_or_le (-100000000) (signP (u' - u)) with q | q
      · exact q
      · exfalso
        have w := castle q
        have e : ((-100000000 : Int) : Rat) = -100000000 := rfl
        rw [e] at w
        have w2 := Rat.mul_le_mul_of_nonneg_right w (show 0 ≤ rho by grind)
        generalize ((signP (u' - u) : Int) : Rat) * rho = z at *
        grind
    · rcases Int.lt_or_le (signP (u' - u)) 100000000 with q | q
      · exact q
      · exfalso
        have w := castle q
        have e : ((100000000 : Int) : Rat) = 100000000 := rfl
        rw [e] at w
        have w2 := Rat.mul_le_mul_of_nonneg_right w (show 0 ≤ rho by grind)
        generalize ((signP (u' - u) : Int) : Rat) * rho = z at *
        grind
  have eq : signP (u' - u) = u' - u := by
    have := sml
    unfold signP normP at *
    split at * <;> omega
  have ce := cis_norm hn
  rw [eq] at sa2 sml
  rw [cis_small (a := u' - u) (by omega) (by omega)] at key_i
  change Wn (S _ * _ - _) _ at key_i
  have sm := S_mid (sa2.mono (show (26 : Rat) / 100000 ≤ 3 / 10000 by grind))
  refine ⟨?_, sa2⟩
  refine (wn_sub key_i (wn_mul sm (wn_mul wR wR'))).of (by grind) (by grind)
/-- how far apart the numbers beside are -/
theorem v_diff (h : Look ψ c s T r) (k : Look ψ' c' s' T' r') (bv : Wn (vl (lV ψ c s)) (57 / 100)) (bv' : Wn (vl (lV ψ' c' s')) (57 / 100)) (bs : Wn (vl s) (51 / 100)) (bs' : Wn (vl s') (51 / 100)) {B : Rat} (hd : Wn (vl s' * T - T' * vl s) (vl (lR ψ c) * vl (lR ψ' c') * B)) (hB : B ≤ 24 / 100000) :
    Wn ((vl (lV ψ' c' s') - vl (lV ψ c s)) * (vl (lR ψ c) * vl (lR ψ' c')) - (vl s' * T - T' * vl s)) (vl (lR ψ c) * vl (lR ψ' c') * (6 / 1000000000)) ∧ Wn (vl (lV ψ' c' s') - vl (lV ψ c s)) (26 / 100000) := by
  have sv := h.sv
  have cv := h.cv
  have sv' := k.sv
  have cv' := k.cv
  have R0 : 0 < vl (lR ψ c) := by have := h.R0; grind
  have R0' : 0 < vl (lR ψ' c') := by have := k.R0; grind
  have T1 := h.T1
  have T1' := k.T1
  generalize vl (lR ψ c) = R at *
  generalize vl (lR ψ' c') = R' at *
  generalize vl s = σ at *
  generalize vl s' = σ' at *
  generalize vl (lV ψ c s) = v at *
  generalize vl (lV ψ' c' s') = v' at *
  have RR := Rat.mul_pos R0 R0'
  have w1 := EX_add (bv'.mono (show (57 : Rat) / 100 ≤ 7 by grind)) (wn_negy (bv.mono (show (57 : Rat) / 100 ≤ 7 by grind))) ((wn_add bv' (wn_negy bv)).mono (by grind))
  have w2 := EX_add (wn_negy (bv'.mono (show (57 : Rat) / 100 ≤ 7 by grind))) (bv.mono (show (57 : Rat) / 100 ≤ 7 by grind)) ((wn_add (wn_negy bv') bv).mono (by grind))
  have hw : Wn (v' - v) 2 := (wn_sub bv' bv).mono (by grind)
  rw [show v' + -v = v' - v by grind] at w1
  rw [show -v' + v = -(v' - v) by grind] at w2
  -- bounds of the hyperbolic cosine
  have up : ∀ z : Rat, Wn z (57 / 100) → 0 < EX z ∧ EX z ≤ 177 / 100 := fun z hz => by
    have a := EX_pos (hz.mono (show (57 : Rat) / 100 ≤ 7 by grind))
    have m := EX_mono (hz.mono (show (57 : Rat) / 100 ≤ 7 by grind)) (show Wn (57 / 100 : Rat) 7 from ⟨by grind, by grind⟩) hz.2 (by have := hz.1; grind)
    have e : EX (57 / 100) ≤ 1769 / 1000 := by decide +kernel
    exact ⟨a, by grind⟩
  obtain ⟨a1, a2⟩ := up v bv
  obtain ⟨a3, a4⟩ := up (-v) (wn_negy bv)
  obtain ⟨a5, a6⟩ := up v' bv'
  obtain ⟨a7, a8⟩ := up (-v') (wn_negy bv')
  have pn := EX_neg (bv.mono (show (57 : Rat) / 100 ≤ 7 by grind))
  have pn' := EX_neg (bv'.mono (show (57 : Rat) / 100 ≤ 7 by grind))
  have hp := EX_pos (hw.mono (show (2 : Rat) ≤ 7 by grind))
  have hq := EX_pos (wn_negy (hw.mono (show (2 : Rat) ≤ 7 by grind)))
  obtain ⟨C, hC⟩ : ∃ C, C = (EX v + EX (-v)) / 2 := ⟨_, rfl⟩
  obtain ⟨Sh, hS⟩ : ∃ Sh, Sh = (EX v - EX (-v)) / 2 := ⟨_, rfl⟩
  obtain ⟨C', hC'⟩ : ∃ C, C = (EX v' + EX (-v')) / 2 := ⟨_, rfl⟩
  obtain ⟨Sh', hS'⟩ : ∃ Sh, Sh = (EX v' - EX (-v')) / 2 := ⟨_, rfl⟩
  rw [← hS] at sv
  rw [← hC] at cv
  rw [← hS'] at sv'
  rw [← hC'] at cv'
  have b1 : EX v = C + Sh := by rw [hC, hS]; grind
  have b2 : EX (-v) = C - Sh := by rw [hC, hS]; grind
  have b3 : EX v' = C' + Sh' := by rw [hC', hS']; grind
  have b4 : EX (-v') = C' - Sh' := by rw [hC', hS']; grind
  rw [b1, b2] at pn
  rw [b3, b4] at pn'
  have cosh_le : ∀ z : Rat, Wn z (57 / 100) → (EX z + EX (-z)) / 2 ≤ 117 / 100 := fun z hz => by
    obtain ⟨g1, g2⟩ := up z hz
    obtain ⟨g3, g4⟩ := up (-z) (wn_negy hz)
    have g := (EX_neg (hz.mono (show (57 : Rat) / 100 ≤ 7 by grind))).2
    generalize EX z = x at *
    generalize EX (-z) = y at *
    have q3 := Rat.mul_nonneg (show 0 ≤ 177 / 100 - x by grind) (show 0 ≤ 177 / 100 - y by grind)
    grind
  have C1 := cosh_le v bv
  have C1' := cosh_le v' bv'
  rw [← hC] at C1
  rw [← hC'] at C1'
  have TR : T ≤ R * (11701 / 10000) := by
    have m := Rat.mul_le_mul_of_nonneg_right C1 (Rat.le_of_lt R0)
    have := cv.1
    grind
  have TR' : T' ≤ R' * (11701 / 10000) := by
    have m := Rat.mul_le_mul_of_nonneg_right C1' (Rat.le_of_lt R0')
    have := cv'.1
    grind
  have TT : T * T' ≤ R * R' * (13693 / 10000) := by
    have := mul_mono (show 0 ≤ T by grind) TR (show 0 ≤ T' by grind) TR'
    grind
  obtain ⟨H, hH⟩ : ∃ H, H = Sh' * C - C' * Sh := ⟨_, rfl⟩
  have hHR : Wn (H * (R * R') - (σ' * T - T' * σ)) (R * R' * (43 / 10000000000)) := by
    have wT := wn_pos (show 0 ≤ T by grind)
    have wT' := wn_pos (show 0 ≤ T' by grind)
    have s1 : Wn σ (52 / 100 * T) := bs.mono (by grind)
    have s2 : Wn σ' (52 / 100 * T') := bs'.mono (by grind)
    have x1 := wn_mul sv' cv
    have x2 := wn_mul s2 cv
    have x3 := wn_mul sv' wT
    have x4 := wn_mul cv' sv
    have x5 := wn_mul wT' sv
    have x6 := wn_mul cv' s1
    refine (wn_sub (wn_add (wn_add x1 x2) x3) (wn_add (wn_add x4 x5) x6)).of ?_ ?_
    · rw [hH]; grind
    · grind
  have bH : Wn H (25 / 100000) := by
    refine wn_scaled RR ?_
    refine (wn_add hHR hd).of (by grind) ?_
    have := Rat.mul_le_mul_of_nonneg_left hB (Rat.le_of_lt RR)
    grind
  have ew : EX (v' - v) ≤ 33 / 10 ∧ EX (-(v' - v)) ≤ 33 / 10 := by
    have m1 := mul_mono (Rat.le_of_lt a5) a6 (Rat.le_of_lt a3) a4
    have m2 := mul_mono (Rat.le_of_lt a7) a8 (Rat.le_of_lt a1) a2
    obtain ⟨_, w11, _⟩ := w1
    obtain ⟨_, w21, _⟩ := w2
    constructor <;> grind
  have hHw : Wn ((EX (v' - v) - EX (-(v' - v))) / 2 - H) (2 / 100000000000) := by
    obtain ⟨_, w11, w12⟩ := w1
    obtain ⟨_, w21, w22⟩ := w2
    rw [b3, b2] at w11 w12
    rw [b4, b1] at w21 w22
    rw [hH]
    constructor <;> grind
  obtain ⟨f1, f2⟩ := sinh_small hw hHw bH
  refine ⟨?_, f2⟩
  have m := wn_mul f1 (wn_pos (Rat.le_of_lt RR))
  refine (wn_add m hHR).of (by grind) (by grind)
end Go.Proofs.YtcppgbhjbmfldaaDoor

/- Two places that lie near each other: how their points on paper differ. -/
namespace Go.Proofs.YtcppgbhjbmfldaaDoor
open Go.Fp Go.Fp.Tri
set_option maxRecDepth 20000
theorem series_step {f : Nat} {u u1 : Int} {V V1 : Nat} {K θ η : Rat} (ff : Fp.Fin f) (h0 : 0 ≤ vl f) (h1 : vl f ≤ 40001 / 10000000) (w0 : Wave u (vl V) K) (w1 : Wave u1 (vl V1) K) (hK : K * (1000002 / 1000000) ≤ 30001 / 10000) (fV : Fp.Fin V) (fV1 : Fp.Fin V1)
    (a1 : -90000000000 ≤ u) (a2 : u ≤ 90000000000) (b1 : -90000000000 ≤ u1) (b2 : u1 ≤ 90000000000) (hθ : θ = ((u1 - u : Int) : Rat) * rho) (hη : η = vl V1 - vl V) (bθ : Wn θ (2 / 10000)) (bη : Wn η (2 / 10000)) :
    Fp.Fin (aRe f u V (r0W u) 4) ∧ Fp.Fin (aIm f u V V 4) ∧ Fp.Fin (aRe f u1 V1 (r0W u1) 4) ∧ Fp.Fin (aIm f u1 V1 V1 4) ∧ Wn (vl (aRe f u V (r0W u) 4)) (158 / 100) ∧ Wn (vl (aIm f u V V 4)) (59 / 100) ∧ Wn (vl (aRe f u1 V1 (r0W u1) 4)) (158 / 100) ∧ Wn (vl (aIm f u1 V1 V1 4)) (59 / 100) ∧
    MB ((⟨-(vl (aIm f u1 V1 V1 4) - vl (aIm f u V V 4)), vl (aRe f u1 V1 (r0W u1) 4) - vl (aRe f u V (r0W u) 4)⟩ : Cx).sub ((⟨-η, θ⟩ : Cx).mul (Cx.one.add (dA (nQ f) (wE u (vl V)) (wF u (vl V)))))) (15 / 10000000000) := by
  obtain ⟨n0, _, n2⟩ := nQ_bd h0 (show vl f ≤ 10001 / 1000000 by grind)
  have n3 := n2 (by grind)
  have hn : Wn (nQ f) (2005 / 1000000) := ⟨by grind, n3⟩
  obtain ⟨p1, p2, p3, p4, p5⟩ := there reg_mid ff h0 (by grind) (hn.mono (by grind)) w0 hK fV rfl a1 a2
  obtain ⟨q1, q2, q3, q4, q5⟩ := there reg_mid ff h0 (by grind) (hn.mono (by grind)) w1 hK fV1 rfl b1 b2
  refine ⟨p1, p2, q1, q2, p4, p5, q4, q5, ?_⟩
  have s := series_slope hn w0 w1 (x := -2 * η) (θ := 2 * θ) (by rw [hη]) (by rw [hθ]) ((wn_mul (show Wn (-2 : Rat) 2 from ⟨by grind, by grind⟩) bη).mono (by grind)) ((wn_mul (show Wn (2 : Rat) 2 from ⟨by grind, by grind⟩) bθ).mono (by grind))
  have t := (q3.sub p3).add s
  have eu : ((u1 : Int) : Rat) * rho - (u : Rat) * rho = θ := by rw [hθ]; push_cast; grind
  have half := t.sc (c := 1 / 2) (show Wn (1 / 2 : Rat) (1 / 2) from ⟨by grind, by grind⟩)
  refine (half.cast ?_).mono (by grind)
  generalize serA (nQ f) (wE u1 (vl V1)) (wF u1 (vl V1)) = A1
  generalize serA (nQ f) (wE u (vl V)) (wF u (vl V)) = A0
  generalize dA (nQ f) (wE u (vl V)) (wF u (vl V)) = dd
  generalize (u1 : Rat) * rho = U1 at *
  generalize (u : Rat) * rho = U0 at *
  refine Cx.ext' ?_ ?_
  · simp; rw [hη]; grind
  · simp; rw [← eu]; grind
end Go.Proofs.YtcppgbhjbmfldaaDoor
namespace Go.Fp.Tri
open Go.Fp
set_option maxRecDepth 20000
variable {T τ γ σ R g κ h : Rat}
/-- where a step north leads at most -/
theorem Fr.near (f : Fr T τ γ σ R g κ h) {Z : Cx} (hZ : MB Z (R * (1000001 / 1000000))) {w : Cx} {e : Rat} (he : e ≤ 62 / 100000) (hw : MB (w.sub (Cx.sc (h / (R * R)) Z)) (e * (h / R))) : MB w (18 / 100000) := by
  obtain ⟨hp, h1, h2, h3⟩ := f.m
  have R0 := f.R0
  have Rp : 0 < R := by grind
  have RRp := Rat.mul_pos Rp Rp
  have hR : h / R * R = h := div_mul_c (ne_of_pos Rp) rfl
  have hRR : h / (R * R) * (R * R) = h := div_mul_c (ne_of_pos RRp) rfl
  have m1 : h / R ≤ 1793 / 10000000 := le_of_scaled Rp (by rw [show R * (h / R) = h / R * R by grind, hR]; exact h2)
  have m0 : 0 ≤ h / R := le_of_scaled Rp (by rw [show R * (h / R) = h / R * R by grind, hR]; grind)
  have k0 : 0 ≤ h / (R * R) := le_of_scaled RRp (by rw [show R * R * (h / (R * R)) = h / (R * R) * (R * R) by grind, hRR]; grind)
  have eq : h / (R * R) * R = h / R := by
    have l1 : R * (h / (R * R) * R) ≤ R * (h / R) := by rw [show R * (h / (R * R) * R) = h / (R * R) * (R * R) by grind, hRR, show R * (h / R) = h / R * R by grind, hR]; exact Rat.le_refl
    have l2 : R * (h / R) ≤ R * (h / (R * R) * R) := by rw [show R * (h / (R * R) * R) = h / (R * R) * (R * R) by grind, hRR, show R * (h / R) = h / R * R by grind, hR]; exact Rat.le_refl
    have := le_of_scaled Rp l1
    have := le_of_scaled Rp l2
    grind
  have a := hw.add (hZ.sc (wn_pos k0))
  refine (a.cast ?_).mono ?_
  · exact Cx.ext' (by simp; grind) (by simp; grind)
  · have e1 : h / (R * R) * (R * (1000001 / 1000000)) = h / R * (1000001 / 1000000) := by rw [← eq]; grind
    rw [e1]
    have := Rat.mul_le_mul_of_nonneg_right he m0
    grind
end Go.Fp.Tri

/- A step to the north, a step to the east, on the ball along the meridian, as floats have it. -/
namespace Go.Proofs.YtcppgbhjbmfldaaDoor
open Go.Fp Go.Fp.Tri
set_option maxRecDepth 20000
variable {ψ c s ψ1 c1 s1 : Nat} {T r T1 r1 g κ h x : Rat}
set_option maxHeartbeats 4000000 in
theorem north_step (lk : Look ψ c s T r) (lk1 : Look ψ1 c s T1 r1) (fr : Fr T (vl (lT ψ)) (vl c) (vl s) (vl (lR ψ c)) g κ h) (bv : Wn (vl (lV ψ c s)) (57 / 100)) (bv1 : Wn (vl (lV ψ1 c s)) (57 / 100)) (u1 : T1 ≤ 31 / 10)
    (bψ : Wn (vl ψ) 3) (bψ1 : Wn (vl ψ1) 3) (hx : vl ψ1 - vl ψ = x) (hxh : Wn (x - h) (26 / 100000 * h)) :
    MB ((⟨-(vl (lV ψ1 c s) - vl (lV ψ c s)), ((lU ψ1 c - lU ψ c : Int) : Rat) * rho⟩ : Cx).sub (Cx.sc (h / (vl (lR ψ c) * vl (lR ψ c))) ⟨vl (lT ψ) * vl s, T * vl c⟩)) (61 / 100000 * (h / vl (lR ψ c))) := by
  obtain ⟨hp, m1, m2, m3⟩ := fr.m
  obtain ⟨e1, e2, e3, e4⟩ := fr.RT
  have bt := fr.bt
  have bg := fr.bg
  have bs := fr.bs
  have bx : Wn x (5112 / 10000000) := by obtain ⟨_, _⟩ := hxh; constructor <;> grind
  have sm := EX_small (r := x) (bx.mono (by grind))
  have tw := Ex_two (y := x) (bx.mono (by grind))
  have be := Ex_bd4 (x := x) (bx.mono (by grind))
  have hX : Wn (EX x - (1 + x + x * x / 2)) (34 / 100000000000) := (wn_add (sm.2.mono (B := 28 / 1000000000000) (by grind)) tw).of (by grind) (by grind)
  have ep := EX_pos (bx.mono (show (5112 / 10000000 : Rat) ≤ 7 by grind))
  have ad := EX_add (a := vl ψ) (b := x) (bψ.mono (by grind)) (bx.mono (by grind)) (by rw [show vl ψ + x = vl ψ1 by grind]; exact bψ1.mono (by grind))
  rw [show vl ψ + x = vl ψ1 by grind] at ad
  have hP : Rn (vl (lT ψ1) + T1) ((vl (lT ψ) + T) * EX x) (42 / 100000000000) := (((lk1.ex.symm (by grind)).trans (ad.symm (by grind)) (by grind)).trans (lk.ex.mul (Rn.refl ep) (by grind)) (by grind)).mono (by grind)
  have ha := grow_core lk.hT lk1.hT fr.T1 fr.T2 lk1.T1 u1 lk.tp lk1.tp hX (bx.mono (by grind)) hP
  have R0 := fr.R0
  have R10 := lk1.R0
  have hR := lk.hR
  have hR1 := lk1.hR
  have hT := lk.hT
  have hT1 := lk1.hT
  have v0 := v_diff lk lk1 bv bv1 (bs.mono (by grind)) (bs.mono (by grind)) (B := 24 / 100000)
  have u0 := u_diff lk lk1 (B := 25 / 100000)
  have t0 := fr.T1
  have t2 := fr.T2
  have w0 := lk1.T1
  generalize vl (lR ψ c) = R at *
  generalize vl (lR ψ1 c) = R1 at *
  generalize vl (lT ψ) = τ at *
  generalize vl (lT ψ1) = τ1 at *
  generalize vl c = γ at *
  generalize vl s = σ at *
  have Rp : 0 < R := by grind
  have R1p : 0 < R1 := by grind
  have Tp : 0 < T := by grind
  -- how far the sines are apart
  have xt := wn_mul bx (wn_pos (Rat.le_of_lt Tp))
  have xxt := wn_mul (wn_mul bx bx) bt
  have da : Wn (τ1 - τ) (T * (5116 / 10000000)) := (wn_add ha (wn_add xt (wn_mul xxt (show Wn (1 / 2 : Rat) (1 / 2) from ⟨by grind, by grind⟩)))).of (by grind) (by grind)
  have TT := sq_le_sq (show 0 ≤ T by grind) t2
  have TT0 := sq_le_sq (show (0 : Rat) ≤ 99 / 100 by grind) t0
  have tda := wn_mul bt da
  have dd := wn_mul da da
  have RR0 := sq_le_sq (show (0 : Rat) ≤ 85 / 100 by grind) R0
  have dd0 := rsq_nonneg (τ1 - τ)
  have R1lo : R * (999 / 1000) ≤ R1 := by
    refine le_of_sq (by grind) ?_
    have e : R1 * R1 - R * R = (R1 * R1 - (τ1 * τ1 + γ * γ)) - (R * R - (τ * τ + γ * γ)) + (2 * (τ * (τ1 - τ)) + (τ1 - τ) * (τ1 - τ)) := by grind
    obtain ⟨_, _⟩ := hR
    obtain ⟨_, _⟩ := hR1
    obtain ⟨_, _⟩ := tda
    have R1R := rsq_nonneg R1
    have e5 : R * (999 / 1000) * (R * (999 / 1000)) = R * R * (999 / 1000 * (999 / 1000)) := by grind
    rw [e5]
    grind
  have R1hi : R1 ≤ R * (1001 / 1000) := by
    refine le_of_sq (by grind) ?_
    have e : R1 * R1 - R * R = (R1 * R1 - (τ1 * τ1 + γ * γ)) - (R * R - (τ * τ + γ * γ)) + (2 * (τ * (τ1 - τ)) + (τ1 - τ) * (τ1 - τ)) := by grind
    obtain ⟨_, _⟩ := hR
    obtain ⟨_, _⟩ := hR1
    obtain ⟨_, _⟩ := tda
    obtain ⟨_, _⟩ := dd
    have e5 : R * (1001 / 1000) * (R * (1001 / 1000)) = R * R * (1001 / 1000 * (1001 / 1000)) := by grind
    rw [e5]
    grind
  have RR1p := Rat.mul_pos Rp R1p
  have RR1 : R * R * (999 / 1000) ≤ R * R1 := by have := Rat.mul_le_mul_of_nonneg_left R1lo (Rat.le_of_lt Rp); grind
  have RR2 : R * R1 ≤ R * R * (1001 / 1000) := by have := Rat.mul_le_mul_of_nonneg_left R1hi (Rat.le_of_lt Rp); grind
  -- T times x, over both distances
  have xR : x ≤ R * (1794 / 10000000) := by obtain ⟨_, _⟩ := hxh; grind
  have xp : 0 < x := by obtain ⟨_, _⟩ := hxh; grind
  have Tx : T * x ≤ R * R1 * (181 / 1000000) := by
    have := mul_mono (Rat.le_of_lt Tp) (show T ≤ R * (1006 / 1000) by grind) (Rat.le_of_lt xp) xR
    grind
  have T9 : T * (1 / 1000000) ≤ R * R1 * (12 / 10000000) := by
    have := Rat.mul_le_mul_of_nonneg_left R10 (Rat.le_of_lt Rp)
    grind
  have da2 : Wn (τ1 - τ) (R * R1 * (183 / 1000000)) := by
    have x2 : Wn (x * T) (R * R1 * (181 / 1000000)) := ⟨by have := Rat.mul_pos xp Tp; grind, by grind⟩
    have x3 : Wn (x * x * τ) (R * R1 * (181 / 1000000) * (5112 / 10000000)) := (wn_mul (wn_mul bx (wn_pos (Rat.le_of_lt xp))) bt).of (by grind) (by grind)
    exact (wn_add ha (wn_add x2 (wn_mul x3 (show Wn (1 / 2 : Rat) (1 / 2) from ⟨by grind, by grind⟩)))).of (by grind) (by grind)
  have wγ : Wn γ (1000001 / 1000000) := ⟨by grind, bg.2⟩
  have hdu : Wn (τ1 * γ - γ * τ) (R * R1 * (25 / 100000)) := (wn_mul da2 wγ).of (by grind) (by grind)
  obtain ⟨hu, bθ⟩ := u0 hdu (by grind) (by
    have g2 := sq_le_sq (show (0 : Rat) ≤ 994 / 1000 by grind) bg.1
    have := tda.1
    have tt := rsq_nonneg τ
    have : τ1 * τ = τ * τ + τ * (τ1 - τ) := by grind
    rw [this]
    obtain ⟨_, _⟩ := hR
    grind)
  -- the hyperbolic cosines
  have hdv : Wn (σ * T - T1 * σ) (R * R1 * (24 / 100000)) := by
    have bt1 : Wn τ1 T1 := by
      have UU0 := sq_le_sq (show (0 : Rat) ≤ 99 / 100 by grind) w0
      have UU3 := sq_le_sq (show 0 ≤ T1 by grind) u1
      obtain ⟨q1, q2⟩ := hT1
      constructor
      · have := le_of_sq (a := -τ1) (b := T1) (by grind) (by grind)
        grind
      · exact le_of_sq (by grind) (by grind)
    have UU3 := sq_le_sq (show 0 ≤ T1 by grind) u1
    have sp : 0 < T1 + T := by grind
    have bb : Wn (T1 - T) (R * R1 * (183 / 1000000) + 2 / 100000000000) := by
      refine wn_scaled sp ?_
      refine (wn_add (wn_sub hT1 hT) (wn_mul da2 (wn_add bt1 bt))).of (by grind) ?_
      grind
    refine (wn_negy (wn_mul bs bb)).of (by grind) ?_
    grind
  obtain ⟨hv, bη⟩ := v0 hdv (by grind)
  exact fr.north hT1 w0 u1 R10 hR1 hxh ha hu hv
theorem C_step {x : Rat} (h : Wn x (5112 / 10000000)) : Wn (C x - (1 - x * x / 2)) (1 / 100000000000000) ∧ Wn (S x - x) (23 / 1000000000000) := by
  constructor
  · have b := (wn_pev [0, 0, 0, 0, inv 4, 0, -inv 6, 0, inv 8, 0, -inv 10, 0, inv 12, 0, -inv 14, 0, inv 16] h).mono (show pbd [0, 0, 0, 0, inv 4, 0, -inv 6, 0, inv 8, 0, -inv 10, 0, inv 12, 0, -inv 14, 0, inv 16] (5112 / 10000000) ≤ 1 / 100000000000000 by decide +kernel)
    have e : C x - (1 - x * x / 2) = pev [0, 0, 0, 0, inv 4, 0, -inv 6, 0, inv 8, 0, -inv 10, 0, inv 12, 0, -inv 14, 0, inv 16] x := by
      have i2 : inv 2 = 1 / 2 := by decide +kernel
      simp only [C, PC, pev, i2]; grind
    rw [e]; exact b
  · have b := (wn_pev PSr h).mono (show pbd PSr (5112 / 10000000) ≤ 23 / 1000000000000 by decide +kernel)
    have e : S x - x = pev PSr x := by simp only [S, PS, PSr, pev]; grind
    rw [e]; exact b
set_option maxHeartbeats 4000000 in
theorem east_step {d d1 E : Int} {T' r' : Rat} (lk : Look ψ (cosP d) (sinP d) T r) (lk1 : Look ψ (cosP d1) (sinP d1) T' r') (fr : Fr T (vl (lT ψ)) (vl (cosP d)) (vl (sinP d)) (vl (lR ψ (cosP d))) g κ h) (bv : Wn (vl (lV ψ (cosP d) (sinP d))) (57 / 100)) (bv1 : Wn (vl (lV ψ (cosP d1) (sinP d1))) (57 / 100)) (bs1 : Wn (vl (sinP d1)) (51 / 100))
    (hd : normP d1 = normP (d + E)) (hE : Wn ((E : Rat) * rho - h) (h * (2 / 10000000))) :
    MB ((⟨-(vl (lV ψ (cosP d1) (sinP d1)) - vl (lV ψ (cosP d) (sinP d))), ((lU ψ (cosP d1) - lU ψ (cosP d) : Int) : Rat) * rho⟩ : Cx).sub (Cx.sc (h / (vl (lR ψ (cosP d)) * vl (lR ψ (cosP d)))) ⟨-(T * vl (cosP d)), vl (lT ψ) * vl (sinP d)⟩)) (32 / 100000 * (h / vl (lR ψ (cosP d)))) := by
  obtain ⟨hp, m1, m2, m3⟩ := fr.m
  obtain ⟨e1, e2, e3, e4⟩ := fr.RT
  have bt := fr.bt
  have bg := fr.bg
  have bs := fr.bs
  obtain ⟨h1, hh1⟩ : ∃ h1, h1 = (E : Rat) * rho := ⟨_, rfl⟩
  rw [← hh1] at hE
  have bh1 : Wn h1 (5111 / 10000000) := by obtain ⟨_, _⟩ := hE; constructor <;> grind
  have hp1 : 0 < h1 := by obtain ⟨_, _⟩ := hE; grind
  have sml : -45000000000 < E ∧ E < 45000000000 := by
    have rl := rho_lo
    constructor
    · rcases Int.lt_or_le (-45000000000) E with q | q
      · exact q
      · exfalso
        have w := castle q
        have e : ((-45000000000 : Int) : Rat) = -45000000000 := rfl
        rw [e] at w
        have w2 := Rat.mul_le_mul_of_nonneg_right w (show 0 ≤ rho by grind)
        rw [← hh1] at w2
        grind
    · rcases Int.lt_or_le E 45000000000 with q | q
      · exact q
      · exfalso
        have w := castle q
        have e : ((45000000000 : Int) : Rat) = 45000000000 := rfl
        rw [e] at w
        have w2 := Rat.mul_le_mul_of_nonneg_right w (show 0 ≤ rho by grind)
        rw [← hh1] at w2
        obtain ⟨_, _⟩ := bh1
        grind
  obtain ⟨⟨_, n1⟩, ⟨_, n2⟩⟩ := cis_near d
  obtain ⟨⟨_, n3⟩, ⟨_, n4⟩⟩ := cis_near d1
  rw [cis_norm hd] at n3 n4
  have ca := cis_add d E
  rw [cis_small sml.1 sml.2, ← hh1] at ca
  have cr := ca.re
  have ci := ca.im
  simp only [cs, Cx.sub_re, Cx.sub_im, Cx.mul_re, Cx.mul_im] at cr ci
  have bC := (cis_bd d).re
  have bS := (cis_bd d).im
  obtain ⟨kc, ks⟩ := C_step (x := h1) (bh1.mono (by grind))
  have hh := wn_mul bh1 bh1
  have hγ : Wn (vl (cosP d1) - (vl (cosP d) * (1 - h1 * h1 / 2) - vl (sinP d) * h1)) (3 / 100000000000) := by
    have p1 := wn_mul bC kc
    have bS' : Wn (cis d).im (1056 / 10000) := (wn_sub bs n2).of (by grind) (by unfold tol; grind)
    have p2 := wn_mul bS' ks
    have p3 := wn_mul n1 (show Wn (1 - h1 * h1 / 2) 2 from by obtain ⟨_, _⟩ := hh; constructor <;> grind)
    have p4 := wn_mul n2 bh1
    refine (wn_add (wn_add n3 cr) (wn_sub (wn_sub p1 p2) (wn_sub p3 p4))).of (by grind) (by unfold tol; grind)
  have hσ : Wn (vl (sinP d1) - (vl (sinP d) * (1 - h1 * h1 / 2) + vl (cosP d) * h1)) (3 / 100000000000) := by
    have p1 := wn_mul bS kc
    have p2 := wn_mul bC ks
    have p3 := wn_mul n2 (show Wn (1 - h1 * h1 / 2) 2 from by obtain ⟨_, _⟩ := hh; constructor <;> grind)
    have p4 := wn_mul n1 bh1
    refine (wn_add (wn_add n4 ci) (wn_sub (wn_add p1 p2) (wn_add p3 p4))).of (by grind) (by unfold tol; grind)
  clear n1 n2 n3 n4 ca cr ci bC bS kc ks
  have R0 := fr.R0
  have R10 := lk1.R0
  have hR := lk.hR
  have hR1 := lk1.hR
  have ex := lk.ex
  have ex1 := lk1.ex
  have v0 := v_diff lk lk1 bv bv1 (bs.mono (by grind)) bs1 (B := 24 / 100000)
  have u0 := u_diff lk lk1 (B := 25 / 100000)
  have t0 := fr.T1
  have t2 := fr.T2
  have tp := lk.tp
  generalize vl (lR ψ (cosP d)) = R at *
  generalize vl (lR ψ (cosP d1)) = R1 at *
  generalize vl (lT ψ) = τ at *
  generalize vl (cosP d) = γ at *
  generalize vl (sinP d) = σ at *
  generalize vl (cosP d1) = γ1 at *
  generalize vl (sinP d1) = σ1 at *
  have Rp : 0 < R := by grind
  have R1p : 0 < R1 := by grind
  have Tp : 0 < T := by grind
  have hT' : Wn (T' - T) (1 / 1000000000 * T) := by
    have a := (ex1.symm (by grind)).trans ex (by grind)
    refine (a.2.of (show τ + T' - (τ + T) = T' - T by grind) Rat.le_refl).mono ?_
    have := bt.2
    have m := Rat.mul_le_mul_of_nonneg_left (show τ + T ≤ 2 * T by grind) (show (0 : Rat) ≤ 41 / 100000000000 by grind)
    grind
  have wγ : Wn γ (1000001 / 1000000) := ⟨by grind, bg.2⟩
  have hh2 : Wn (h1 * h1 / 2) (h1 * (256 / 1000000)) := by
    have := rsq_nonneg h1
    have := Rat.mul_le_mul_of_nonneg_left bh1.2 (Rat.le_of_lt hp1)
    constructor <;> grind
  have hlo : 147 / 1000000 ≤ h1 := by obtain ⟨_, _⟩ := hE; grind
  have dγ : Wn (γ1 - γ) (h1 * (1058 / 10000)) := by
    refine (wn_sub hγ (wn_add (wn_mul wγ hh2) (wn_mul bs (wn_pos (Rat.le_of_lt hp1))))).of (by grind) (by grind)
  have dσ : Wn (σ1 - σ) (h1 * (10001 / 10000)) := by
    refine (wn_add hσ (wn_sub (wn_mul wγ (wn_pos (Rat.le_of_lt hp1))) (wn_mul bs hh2))).of (by grind) (by grind)
  have RR0 := sq_le_sq (show (0 : Rat) ≤ 85 / 100 by grind) R0
  have bg1 : Wn (γ1 + γ) (20002 / 10000) := by obtain ⟨_, _⟩ := dγ; have := bh1.2; constructor <;> grind
  have gg : Wn ((γ1 - γ) * (γ1 + γ)) (11 / 100000) := (wn_mul dγ bg1).mono (by have := bh1.2; grind)
  have R1lo : R * (999 / 1000) ≤ R1 := by
    refine le_of_sq (by grind) ?_
    have e : R1 * R1 - R * R = (R1 * R1 - (τ * τ + γ1 * γ1)) - (R * R - (τ * τ + γ * γ)) + (γ1 - γ) * (γ1 + γ) := by grind
    obtain ⟨_, _⟩ := hR
    obtain ⟨_, _⟩ := hR1
    obtain ⟨_, _⟩ := gg
    have R1R := rsq_nonneg R1
    have e5 : R * (999 / 1000) * (R * (999 / 1000)) = R * R * (999 / 1000 * (999 / 1000)) := by grind
    rw [e5]
    grind
  have R1hi : R1 ≤ R * (1001 / 1000) := by
    refine le_of_sq (by grind) ?_
    have e : R1 * R1 - R * R = (R1 * R1 - (τ * τ + γ1 * γ1)) - (R * R - (τ * τ + γ * γ)) + (γ1 - γ) * (γ1 + γ) := by grind
    obtain ⟨_, _⟩ := hR
    obtain ⟨_, _⟩ := hR1
    obtain ⟨_, _⟩ := gg
    have e5 : R * (1001 / 1000) * (R * (1001 / 1000)) = R * R * (1001 / 1000 * (1001 / 1000)) := by grind
    rw [e5]
    grind
  have RR1p := Rat.mul_pos Rp R1p
  have RR1 : R * R * (999 / 1000) ≤ R * R1 := by have := Rat.mul_le_mul_of_nonneg_left R1lo (Rat.le_of_lt Rp); grind
  have RR2 : R * R1 ≤ R * R * (1001 / 1000) := by have := Rat.mul_le_mul_of_nonneg_left R1hi (Rat.le_of_lt Rp); grind
  have hR1' : h1 ≤ R * (1794 / 10000000) := by obtain ⟨_, _⟩ := hE; grind
  have Th : T * h1 ≤ R * R1 * (181 / 1000000) := by
    have := mul_mono (Rat.le_of_lt Tp) (show T ≤ R * (1006 / 1000) by grind) (Rat.le_of_lt hp1) hR1'
    grind
  have T9 : T * (1 / 1000000) ≤ R * R1 * (12 / 10000000) := by
    have := Rat.mul_le_mul_of_nonneg_left R10 (Rat.le_of_lt Rp)
    grind
  have hdu : Wn (τ * γ - γ1 * τ) (R * R1 * (25 / 100000)) := by
    have m := wn_mul bt dγ
    refine (wn_negy m).of (by grind) ?_
    grind
  obtain ⟨hu, bθ⟩ := u0 hdu (by grind) (by
    have g2 := sq_le_sq (show (0 : Rat) ≤ 994 / 1000 by grind) bg.1
    have m := (wn_mul dγ wγ).1
    have tt := rsq_nonneg τ
    have : γ1 * γ = γ * γ + (γ1 - γ) * γ := by grind
    rw [this]
    obtain ⟨_, _⟩ := hR
    grind)
  have hdv : Wn (σ1 * T - T' * σ) (R * R1 * (24 / 100000)) := by
    refine (wn_sub (wn_mul (wn_pos (Rat.le_of_lt Tp)) dσ) (wn_mul hT' bs)).of (by grind) ?_
    grind
  obtain ⟨hv, bη⟩ := v0 hdv (by grind)
  exact fr.east hE hγ hσ hT' R10 hR1 hu hv
end Go.Proofs.YtcppgbhjbmfldaaDoor
