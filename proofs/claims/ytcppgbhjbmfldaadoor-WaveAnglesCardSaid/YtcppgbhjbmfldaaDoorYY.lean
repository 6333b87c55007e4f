/- The series' slope, as floats. -/
import Derived.Test.YtcppgbhjbmfldaaDoorYZ
namespace Go.Fp.Tri
open Go.Fp
set_option maxRecDepth 20000
/-- twice the cosine -/
def QQ (m : Int) (y : Rat) : Cx := (Wv m (-y)).add (Wv (-m) y)
theorem QQ_near (m : Int) {y : Rat} (h : Wn y 7) : MB ((⟨(cis m).re * (EX (-y) + EX y), (cis m).im * (EX (-y) - EX y)⟩ : Cx).sub (QQ m y)) (3 / 1000000000000 * EX y) := by
  have a := ((cis_neg m).sc (wn_pos (Rat.le_of_lt (EX_pos h)))).neg
  refine (a.cast ?_).mono (by grind)
  unfold QQ Wv
  exact Cx.ext' (by simp; grind) (by simp; grind)
variable {u : Int} {v K : Rat}
theorem Wave.cpair (h : Wave u v K) (j : Nat) (hj : j ≤ 4) {m : Int} {y : Rat} (hm : m = (j : Int) * (2 * u)) (hy : y = (j : Rat) * (2 * v)) :
    MB ((QQ m y).sub ((zpw (wE u v) (wF u v) (j : Int)).add (zpw (wE u v) (wF u v) (-(j : Int))))) (2 * ((j : Rat) * (18 / 1000000000000) * rpw (30003 / 10000) j)) := by
  obtain ⟨a, b, _, _⟩ := h.pow j hj
  rw [show (j : Int) * -(2 * u) = -((j : Int) * (2 * u)) by rw [Int.mul_neg]] at b
  rw [show (j : Rat) * -(2 * v) = -((j : Rat) * (2 * v)) by grind] at a
  rw [← hm, ← hy] at a b
  unfold QQ
  refine ((b.add a).neg.cast ?_).mono (by grind)
  generalize Wv m (-y) = w1
  generalize Wv (-m) y = w2
  exact Cx.ext' (by simp; grind) (by simp; grind)
end Go.Fp.Tri
namespace Go.Proofs.YtcppgbhjbmfldaaDoor
open Go.Fp Go.Fp.Tri
set_option maxRecDepth 20000
theorem cos_pair (m : Int) {V : Nat} {y : Rat} (fV : Fp.Fin V) (hy : Wn y (49 / 10)) (he : Wn (vl V - y) (1 / 10000000000000)) :
    Fp.Fin (cosRe m V) ∧ Fp.Fin (cosIm m V) ∧ MB ((⟨2 * vl (cosRe m V), 2 * vl (cosIm m V)⟩ : Cx).sub (QQ m y)) (2 / 1000000000 * (EX y + EX (-y))) ∧ 0 < EX y + EX (-y) ∧ EX y + EX (-y) ≤ 210000 := by
  have u1 : uu = 1 / 9007199254740992 := uu_eq
  have bV : Wn (vl V) 5 := (wn_add he hy).of (by grind) (by grind)
  obtain ⟨fH, fK, eH, eK, L1, L2⟩ := hyp_near fV bV
  have r1 := EX_lip (bV.mono (show (5 : Rat) ≤ 7 by grind)) (hy.mono (show (49 : Rat) / 10 ≤ 7 by grind)) he
  have r2 := EX_lip (wn_negy (bV.mono (show (5 : Rat) ≤ 7 by grind))) (wn_negy (hy.mono (show (49 : Rat) / 10 ≤ 7 by grind))) ((wn_negy he).of (by grind) Rat.le_refl)
  obtain ⟨⟨fc, ec⟩, ⟨fs, es⟩⟩ := cis_near m
  have pn := QQ_near m (hy.mono (show (49 : Rat) / 10 ≤ 7 by grind))
  have cb := cis_bd m
  have bc := cb.re
  have bs := cb.im
  unfold cosRe cosIm
  rw [fc.can, fs.can]
  generalize hypH (expP V) = h at *
  generalize hypK (expP V) = k at *
  generalize EX (vl V) = X at *
  generalize EX (-vl V) = Y at *
  generalize EX y = x at *
  generalize EX (-y) = z at *
  obtain ⟨x0, r1a, r1b⟩ := r1
  obtain ⟨z0, r2a, r2b⟩ := r2
  obtain ⟨h1, h2⟩ := eH
  obtain ⟨k1, k2⟩ := eK
  have L0 : 0 < x + z := by grind
  have Lh : x + z ≤ 210000 := by grind
  have L3 : 198 / 100 ≤ x + z := by grind
  have eH' : Wn (vl h - (x + z) / 2) (3 / 10000000000 * (x + z)) := by constructor <;> grind
  have eK' : Wn (vl k - (x - z) / 2) (3 / 10000000000 * (x + z)) := by constructor <;> grind
  have bH : Wn (vl h) (51 / 100 * (x + z)) := by obtain ⟨_, _⟩ := eH'; constructor <;> grind
  have bK : Wn (vl k) (51 / 100 * (x + z)) := by obtain ⟨_, _⟩ := eK'; constructor <;> grind
  have bsf : Wn (vl (sinP m)) (1001 / 1000) := (wn_add es bs).of (by grind) (by grind)
  have bcf : Wn (vl (cosP m)) (1001 / 1000) := (wn_add ec bc).of (by grind) (by grind)
  obtain ⟨f1, e1⟩ := mulE fc fH _ (wn_mul bcf bH) (by grind)
  obtain ⟨f2, e2⟩ := mulE fs fK _ (wn_mul bsf bK) (by grind)
  obtain ⟨f3, e3⟩ := vl_neg (fmul (sinP m) k) f2
  have en : negC (fmul (sinP m) k) = Op.negFloat .f64 (fmul (sinP m) k) := by unfold negC; rw [f3.can]
  rw [en, e3]
  refine ⟨f1, f3, ?_, L0, Lh⟩
  have d1 : Wn (vl (fmul (cosP m) h) - (cis m).re * ((x + z) / 2)) (31 / 100000000000 * (x + z)) := by
    refine (wn_add e1 (wn_add (wn_mul ec bH) (wn_mul bc eH'))).of (by grind) (by rw [u1]; grind)
  have d2 : Wn (vl (fmul (sinP m) k) - (cis m).im * ((x - z) / 2)) (31 / 100000000000 * (x + z)) := by
    refine (wn_add e2 (wn_add (wn_mul es bK) (wn_mul bs eK'))).of (by grind) (by rw [u1]; grind)
  have a : MB ((⟨2 * vl (fmul (cosP m) h), 2 * -vl (fmul (sinP m) k)⟩ : Cx).sub ⟨(cis m).re * (z + x), (cis m).im * (z - x)⟩) (1 / 1000000000 * (x + z)) := by
    refine MB.of (x := 62 / 100000000000 * (x + z)) (y := 62 / 100000000000 * (x + z)) ?_ ?_ (by grind) ?_
    · obtain ⟨_, _⟩ := d1
      show Wn (2 * vl (fmul (cosP m) h) - (cis m).re * (z + x)) _
      constructor <;> grind
    · obtain ⟨_, _⟩ := d2
      show Wn (2 * -vl (fmul (sinP m) k) - (cis m).im * (z - x)) _
      constructor <;> grind
    · have := rsq_nonneg (x + z)
      grind
  refine ((a.add pn).cast ?_).mono (by grind)
  exact Cx.ext' (by simp; grind) (by simp; grind)
/-- one member of the slope, as floats -/
theorem cmember {u : Int} {v K : Rat} {V : Nat} (h : Wave u v K) (fV : Fp.Fin V) (hV : vl V = v) (k : Nat) (hk : k < 4) :
    Fp.Fin (cosRe (2 * ((k : Int) + 1) * u) (fmul (Fp.can (floatOfInt .f64 (2 * ((k : Int) + 1)))) V)) ∧ Fp.Fin (cosIm (2 * ((k : Int) + 1) * u) (fmul (Fp.can (floatOfInt .f64 (2 * ((k : Int) + 1)))) V)) ∧
    MB ((⟨2 * vl (cosRe (2 * ((k : Int) + 1) * u) (fmul (Fp.can (floatOfInt .f64 (2 * ((k : Int) + 1)))) V)), 2 * vl (cosIm (2 * ((k : Int) + 1) * u) (fmul (Fp.can (floatOfInt .f64 (2 * ((k : Int) + 1)))) V))⟩ : Cx).sub
      ((zpw (wE u v) (wF u v) ((k + 1 : Nat) : Int)).add (zpw (wE u v) (wF u v) (-((k + 1 : Nat) : Int))))) (5 / 1000000000 * rpw (30003 / 10000) (k + 1)) ∧
    Wn (vl (cosRe (2 * ((k : Int) + 1) * u) (fmul (Fp.can (floatOfInt .f64 (2 * ((k : Int) + 1)))) V))) 100 ∧ Wn (vl (cosIm (2 * ((k : Int) + 1) * u) (fmul (Fp.can (floatOfInt .f64 (2 * ((k : Int) + 1)))) V))) 100 := by
  have bv := h.bv
  obtain ⟨f1, e1⟩ := mul_small k hk fV (by rw [hV]; exact bv) (by grind)
  have hk3 : (k : Rat) ≤ 3 := by exact_mod_cast (show k ≤ 3 by omega)
  have hk0 : (0 : Rat) ≤ (k : Rat) := by exact_mod_cast Nat.zero_le k
  have ek : ((k + 1 : Nat) : Rat) = (k : Rat) + 1 := by push_cast; rfl
  have ei : ((k + 1 : Nat) : Int) = (k : Int) + 1 := by push_cast; rfl
  obtain ⟨y, hy⟩ : ∃ y : Rat, y = 2 * ((k : Rat) + 1) * v := ⟨_, rfl⟩
  rw [hV, ← hy] at e1
  have by1 : Wn y (49 / 10) := by rw [hy]; exact (wn_mul (show Wn (2 * ((k : Rat) + 1)) 8 from ⟨by grind, by grind⟩) bv).mono (by grind)
  obtain ⟨g1, g2, g3, g4, _⟩ := cos_pair (2 * ((k : Int) + 1) * u) f1 by1 (e1.mono (by grind))
  have hp := h.cpair (k + 1) (by omega) (m := 2 * ((k : Int) + 1) * u) (y := y) (by rw [ei]; grind) (by rw [hy, ek]; grind)
  obtain ⟨_, _, x1, x2⟩ := h.pow (k + 1) (by omega)
  rw [show ((k + 1 : Nat) : Rat) * (2 * v) = y by rw [hy, ek]; grind] at x1
  rw [show ((k + 1 : Nat) : Rat) * -(2 * v) = -y by rw [hy, ek]; grind] at x2
  rw [ek] at hp
  have r0 : 0 < rpw (30003 / 10000) (k + 1) := by
    have := (rpw_num (K := 3) (by grind) (by grind) (k + 1) (by omega)); grind
  have r4 : rpw (30003 / 10000) (k + 1) ≤ 811 / 10 := by
    obtain ⟨a, b, c, d⟩ := rpw3
    rcases k with _ | _ | _ | _ | k
    · rw [a]; grind
    · exact Rat.le_trans b (by grind)
    · exact Rat.le_trans c (by grind)
    · exact d
    · omega
  have key : MB ((⟨2 * vl (cosRe (2 * ((k : Int) + 1) * u) (fmul (Fp.can (floatOfInt .f64 (2 * ((k : Int) + 1)))) V)), 2 * vl (cosIm (2 * ((k : Int) + 1) * u) (fmul (Fp.can (floatOfInt .f64 (2 * ((k : Int) + 1)))) V))⟩ : Cx).sub
      ((zpw (wE u v) (wF u v) ((k + 1 : Nat) : Int)).add (zpw (wE u v) (wF u v) (-((k + 1 : Nat) : Int))))) (5 / 1000000000 * rpw (30003 / 10000) (k + 1)) := by
    refine ((g3.add hp).cast ?_).mono ?_
    · generalize QQ (2 * ((k : Int) + 1) * u) y = P
      exact Cx.ext' (by simp; grind) (by simp; grind)
    · generalize rpw (30003 / 10000) (k + 1) = R at *
      generalize (k : Rat) = kk at *
      have t := Rat.mul_le_mul_of_nonneg_right (show kk + 1 ≤ 4 by grind) (Rat.le_of_lt r0)
      have e2 : (kk + 1) * (18 / 1000000000000) * R = 18 / 1000000000000 * ((kk + 1) * R) := by grind
      rw [e2]
      generalize (kk + 1) * R = kR at *
      grind
  refine ⟨g1, g2, key, ?_, ?_⟩
  all_goals
    have pb : MB (QQ (2 * ((k : Int) + 1) * u) y) (163) := by
      have w1 := Wv_bd (2 * ((k : Int) + 1) * u) (wn_negy (by1.mono (show (49 : Rat) / 10 ≤ 7 by grind)))
      have w2 := Wv_bd (-(2 * ((k : Int) + 1) * u)) (by1.mono (show (49 : Rat) / 10 ≤ 7 by grind))
      exact (w1.add w2).mono (by grind)
    have t := (g3.add pb).cast (w := (⟨2 * vl (cosRe (2 * ((k : Int) + 1) * u) (fmul (Fp.can (floatOfInt .f64 (2 * ((k : Int) + 1)))) V)), 2 * vl (cosIm (2 * ((k : Int) + 1) * u) (fmul (Fp.can (floatOfInt .f64 (2 * ((k : Int) + 1)))) V))⟩ : Cx)) (Cx.ext' (by simp; grind) (by simp; grind))
    have t1 := t.re
    have t2 := t.im
    simp only at t1 t2
  · obtain ⟨_, _⟩ := t1
    constructor <;> grind
  · obtain ⟨_, _⟩ := t2
    constructor <;> grind
theorem acc_cos {z c r s : Nat} {ρ kk B : Rat} (fz : Fp.Fin z) (fc : Fp.Fin c) (hc : vl c = 2 * kk) (k0 : 0 ≤ kk) (k4 : kk ≤ 4) (hr : Nr r ρ (1 / 1000000000000000)) (bρ : Wn ρ (3 / 1000)) (fs : Fp.Fin s) (bs : Wn (vl s) 100) (bz : Wn (vl z) B) (hB : B ≤ 20) :
    Fp.Fin (fadd z (fmul (fmul c r) s)) ∧ Wn (vl (fadd z (fmul (fmul c r) s)) - (vl z + kk * ρ * (2 * vl s))) (2 / 1000000000000) ∧ Wn (vl (fadd z (fmul (fmul c r) s))) (B + 31 / 10) := by
  have u1 : uu = 1 / 9007199254740992 := uu_eq
  have br : Wn (vl r) (301 / 100000) := (wn_add hr.2 bρ).of (by grind) (by grind)
  have bc : Wn (2 * kk) 8 := ⟨by grind, by grind⟩
  obtain ⟨f0, e0⟩ := mulE fc hr.1 _ (by rw [hc]; exact wn_mul bc br) (by grind)
  rw [hc] at e0
  have b0 : Wn (vl (fmul c r)) (241 / 10000) := (wn_add e0 (wn_mul bc br)).of (by grind) (by rw [u1]; grind)
  obtain ⟨f1, e1⟩ := mulE f0 fs _ (wn_mul b0 bs) (by grind)
  have bm : Wn (vl (fmul (fmul c r) s)) (242 / 100) := (wn_add e1 (wn_mul b0 bs)).of (by grind) (by rw [u1]; grind)
  obtain ⟨f2, e2⟩ := addE fz f1 _ (wn_add bz bm) (by grind)
  refine ⟨f2, (wn_add (wn_add e2 e1) (wn_mul (wn_add e0 (wn_mul bc hr.2)) bs)).of (by grind) (by rw [u1]; grind), (wn_add e2 (wn_add bz bm)).of (by grind) (by rw [u1]; grind)⟩
theorem v_w1 : Fp.Fin w1S ∧ vl w1S = 1 := vl_const (s := false) (m := 4503599627370496) (k := 52) (by decide +kernel) (by decide +kernel)
/-- the slope, as floats -/
theorem slope_near {f u : _} {V : Nat} {v K : Rat} (ff : Fp.Fin f) (h0 : 0 ≤ vl f) (h1 : vl f ≤ 10001 / 1000000) (h : Wave u v K) (fV : Fp.Fin V) (hV : vl V = v) :
    Fp.Fin (tRe tabA cA4 f u V 4) ∧ Fp.Fin (tIm tabA cA4 f u V 4) ∧ MB ((⟨vl (tRe tabA cA4 f u V 4), vl (tIm tabA cA4 f u V 4)⟩ : Cx).sub (Cx.one.add (dA (nQ f) (wE u v) (wF u v)))) (1 / 10000000000) := by
  obtain ⟨r0, r1, r2, r3⟩ := rowA_near ff h0 h1
  obtain ⟨n0, n1, _⟩ := nQ_bd h0 h1
  have hn : Wn (nQ f) (5026 / 1000000) := ⟨by grind, n1⟩
  obtain ⟨c1, c2, c3, c4⟩ := bA_mid
  have b0 := (nv_bd hn pA1).mono c1
  have b1 := (nv_bd hn pA2).mono c2
  have b2 := (nv_bd hn pA3).mono c3
  have b3 := (nv_bd hn pA4).mono c4
  obtain ⟨s0, i0, p0, x0, y0⟩ := cmember h fV hV 0 (by omega)
  obtain ⟨s1, i1, p1, x1, y1⟩ := cmember h fV hV 1 (by omega)
  obtain ⟨s2, i2, p2, x2, y2⟩ := cmember h fV hV 2 (by omega)
  obtain ⟨s3, i3, p3, x3, y3⟩ := cmember h fV hV 3 (by omega)
  have kc : ∀ k : Nat, k < 4 → Fp.Fin (Fp.can (floatOfInt .f64 (2 * ((k : Int) + 1)))) ∧ vl (Fp.can (floatOfInt .f64 (2 * ((k : Int) + 1)))) = 2 * ((k : Rat) + 1) := fun k hk => by
    obtain ⟨fi, ei⟩ := vl_int (2 * ((k : Int) + 1)) (by omega)
    rw [fi.can]
    exact ⟨fi, by rw [ei]; push_cast; rfl⟩
  obtain ⟨fc0, ec0⟩ := kc 0 (by omega)
  obtain ⟨fc1, ec1⟩ := kc 1 (by omega)
  obtain ⟨fc2, ec2⟩ := kc 2 (by omega)
  obtain ⟨fc3, ec3⟩ := kc 3 (by omega)
  have z0 : Fp.Fin 0 ∧ vl 0 = 0 := v_0
  have k0 : ((0 : Nat) : Rat) + 1 = 1 := by decide +kernel
  have k1 : ((1 : Nat) : Rat) + 1 = 2 := by decide +kernel
  have k2 : ((2 : Nat) : Rat) + 1 = 3 := by decide +kernel
  have k3 : ((3 : Nat) : Rat) + 1 = 4 := by decide +kernel
  rw [k0] at ec0
  rw [k1] at ec1
  rw [k2] at ec2
  rw [k3] at ec3
  obtain ⟨f1, e1, g1⟩ := acc_cos v_w1.1 fc0 ec0 (by grind) (by grind) r0 (b0.mono (by grind)) s0 x0 (B := 1) (by rw [v_w1.2]; constructor <;> grind) (by grind)
  obtain ⟨f2, e2, g2⟩ := acc_cos f1 fc1 ec1 (by grind) (by grind) r1 (b1.mono (by grind)) s1 x1 g1 (by grind)
  obtain ⟨f3, e3, g3⟩ := acc_cos f2 fc2 ec2 (by grind) (by grind) r2 (b2.mono (by grind)) s2 x2 g2 (by grind)
  obtain ⟨f4, e4, _⟩ := acc_cos f3 fc3 ec3 (by grind) (by grind) r3 (b3.mono (by grind)) s3 x3 g3 (by grind)
  obtain ⟨q1, d1, l1⟩ := acc_cos z0.1 fc0 ec0 (by grind) (by grind) r0 (b0.mono (by grind)) i0 y0 (B := 1) (by rw [z0.2]; constructor <;> grind) (by grind)
  obtain ⟨q2, d2, l2⟩ := acc_cos q1 fc1 ec1 (by grind) (by grind) r1 (b1.mono (by grind)) i1 y1 l1 (by grind)
  obtain ⟨q3, d3, l3⟩ := acc_cos q2 fc2 ec2 (by grind) (by grind) r2 (b2.mono (by grind)) i2 y2 l2 (by grind)
  obtain ⟨q4, d4, _⟩ := acc_cos q3 fc3 ec3 (by grind) (by grind) r3 (b3.mono (by grind)) i3 y3 l3 (by grind)
  refine ⟨f4, q4, ?_⟩
  obtain ⟨z1, z2, z3, z4⟩ := rpw3
  have s : MB _ _ := (((p0.sc b0).add (p1.sc (c := 2 * nv (nQ f) pA2) ((wn_mul (show Wn (2 : Rat) 2 from ⟨by grind, by grind⟩) b1)))).add (p2.sc (c := 3 * nv (nQ f) pA3) (wn_mul (show Wn (3 : Rat) 3 from ⟨by grind, by grind⟩) b2))).add (p3.sc (c := 4 * nv (nQ f) pA4) (wn_mul (show Wn (4 : Rat) 4 from ⟨by grind, by grind⟩) b3))
  change Wn (vl (tRe tabA cA4 f u V 4) - (vl (tRe tabA cA4 f u V 3) + _)) _ at e4
  change Wn (vl (tRe tabA cA4 f u V 3) - (vl (tRe tabA cA4 f u V 2) + _)) _ at e3
  change Wn (vl (tRe tabA cA4 f u V 2) - (vl (tRe tabA cA4 f u V 1) + _)) _ at e2
  change Wn (vl (tRe tabA cA4 f u V 1) - (vl w1S + _)) _ at e1
  change Wn (vl (tIm tabA cA4 f u V 4) - (vl (tIm tabA cA4 f u V 3) + _)) _ at d4
  change Wn (vl (tIm tabA cA4 f u V 3) - (vl (tIm tabA cA4 f u V 2) + _)) _ at d3
  change Wn (vl (tIm tabA cA4 f u V 2) - (vl (tIm tabA cA4 f u V 1) + _)) _ at d2
  change Wn (vl (tIm tabA cA4 f u V 1) - (vl 0 + _)) _ at d1
  rw [v_w1.2] at e1
  rw [z0.2] at d1
  have tot1 := wn_add (wn_add (wn_add e1 e2) e3) e4
  have tot2 := wn_add (wn_add (wn_add d1 d2) d3) d4
  have t := (MB.of (z := (⟨_, _⟩ : Cx)) (r := 13 / 1000000000000) tot1 tot2 (by grind) (by grind)).add s
  refine (t.cast ?_).mono ?_
  · unfold dA sum4
    have n1 : ((0 + 1 : Nat) : Int) = 1 := rfl
    have n2 : ((1 + 1 : Nat) : Int) = 2 := rfl
    have n3 : ((2 + 1 : Nat) : Int) = 3 := rfl
    have n4 : ((3 + 1 : Nat) : Int) = 4 := rfl
    simp only [n1, n2, n3, n4]
    generalize nv (nQ f) pA1 = w1
    generalize nv (nQ f) pA2 = w2
    generalize nv (nQ f) pA3 = w3
    generalize nv (nQ f) pA4 = w4
    generalize zpw (wE u v) (wF u v) 1 = A1
    generalize zpw (wE u v) (wF u v) 2 = A2
    generalize zpw (wE u v) (wF u v) 3 = A3
    generalize zpw (wE u v) (wF u v) 4 = A4
    generalize zpw (wE u v) (wF u v) (-1) = B1
    generalize zpw (wE u v) (wF u v) (-2) = B2
    generalize zpw (wE u v) (wF u v) (-3) = B3
    generalize zpw (wE u v) (wF u v) (-4) = B4
    exact Cx.ext' (by simp; grind) (by simp; grind)
  · have y1 : rpw (30003 / 10000) (0 + 1) = 30003 / 10000 := z1
    have y2 : rpw (30003 / 10000) (1 + 1) ≤ 9002 / 1000 := z2
    have y3 : rpw (30003 / 10000) (2 + 1) ≤ 2701 / 100 := z3
    have y4 : rpw (30003 / 10000) (3 + 1) ≤ 811 / 10 := z4
    rw [y1]
    grind
end Go.Proofs.YtcppgbhjbmfldaaDoor

/- How large the series' slope is; a globe's eccentricity; a place's frame. -/
namespace Go.Fp.Tri
open Go.Fp
set_option maxRecDepth 20000
theorem Fr.norm {T τ γ σ R g κ h : Rat} (f : Fr T τ γ σ R g κ h) : Wn (τ * σ * (τ * σ) + T * γ * (T * γ) - R * R) (1 / 10000000000 * (R * R)) := by
  have R0 := f.R0
  have a := f.hT
  have b := f.hR
  have c := f.hg
  have t2 := sq_le_sq (show (0 : Rat) ≤ 99 / 100 by grind) f.T1
  have t3 := sq_le_sq (show 0 ≤ T by have := f.T1; grind) f.T2
  have r2 := sq_le_sq (show (0 : Rat) ≤ 85 / 100 by grind) R0
  have tt := rsq_nonneg τ
  have tau : τ * τ ≤ 10 := by have := (wn_mul f.bt f.bt).2; grind
  have m1 := wn_mul a (show Wn (γ * γ) 2 from by have := rsq_nonneg σ; have := rsq_nonneg γ; obtain ⟨_, _⟩ := c; constructor <;> grind)
  have m2 := wn_mul (wn_pos tt) c
  refine (wn_sub (wn_add m1 m2) b).of (by grind) ?_
  grind
/-- the slope is small -/
theorem dA_small {n : Rat} (hn : Wn n (2005 / 1000000)) {u : Int} {v K : Rat} (hw : Wave u v K) : MB (dA n (wE u v) (wF u v)) (62 / 10000) := by
  obtain ⟨c1, c2, c3, c4⟩ := bA_small
  have b0 := (nv_bd hn pA1).mono c1
  have b1 := (nv_bd hn pA2).mono c2
  have b2 := (nv_bd hn pA3).mono c3
  have b3 := (nv_bd hn pA4).mono c4
  have hE := hw.E
  have hF := hw.F.2
  have k0 := hw.K0
  have hK := hw.hK
  have p : ∀ j : Nat, j ≤ 4 → MB ((zpw (wE u v) (wF u v) (j : Int)).add (zpw (wE u v) (wF u v) (-(j : Int)))) (2 * rpw (30003 / 10000) j) := fun j hj => by
    have r := rpw_num k0 hK j hj
    have a := (zpw_bd hE hF (j : Int))
    have b := (zpw_bd hE hF (-(j : Int)))
    rw [show ((j : Int)).natAbs = j by omega] at a
    rw [show (-(j : Int)).natAbs = j by omega] at b
    exact ((a.mono r.2).add (b.mono r.2)).mono (by grind)
  obtain ⟨z1, z2, z3, z4⟩ := rpw3
  have q1 := p 1 (by omega)
  have q2 := (p 2 (by omega)).mono (Rat.mul_le_mul_of_nonneg_left z2 (by grind))
  have q3 := (p 3 (by omega)).mono (Rat.mul_le_mul_of_nonneg_left z3 (by grind))
  have q4 := (p 4 (by omega)).mono (Rat.mul_le_mul_of_nonneg_left z4 (by grind))
  rw [z1] at q1
  have w2 : Wn (2 : Rat) 2 := ⟨by grind, by grind⟩
  have w3 : Wn (3 : Rat) 3 := ⟨by grind, by grind⟩
  have w4 : Wn (4 : Rat) 4 := ⟨by grind, by grind⟩
  unfold dA sum4
  exact ((((q1.sc b0).add (q2.sc (wn_mul w2 b1))).add (q3.sc (wn_mul w3 b2))).add (q4.sc (wn_mul w4 b3))).mono (by grind)
end Go.Fp.Tri
namespace Go.Proofs.YtcppgbhjbmfldaaDoor
open Go.Fp Go.Fp.Tri
set_option maxRecDepth 20000
/-- the size of a strip's slope, as float -/
def szP (f : Nat) (u : Int) (V : Nat) : Nat := fsqrt (fadd (fmul (tRe tabA cA4 f u V 4) (tRe tabA cA4 f u V 4)) (fmul (tIm tabA cA4 f u V 4) (tIm tabA cA4 f u V 4)))
theorem slope_size {f : Nat} {u : Int} {V : Nat} {K : Rat} (ff : Fp.Fin f) (h0 : 0 ≤ vl f) (h1 : vl f ≤ 40001 / 10000000) (w0 : Wave u (vl V) K) (fV : Fp.Fin V) :
    Fp.Fin (tRe tabA cA4 f u V 4) ∧ Fp.Fin (tIm tabA cA4 f u V 4) ∧ Fp.Fin (szP f u V) ∧ Wn (vl (tRe tabA cA4 f u V 4) - 1) (7 / 1000) ∧ Wn (vl (tIm tabA cA4 f u V 4)) (7 / 1000) ∧ 99 / 100 ≤ vl (szP f u V) ∧ vl (szP f u V) ≤ 101 / 100 ∧
    Wn (vl (szP f u V) * vl (szP f u V) - (vl (tRe tabA cA4 f u V 4) * vl (tRe tabA cA4 f u V 4) + vl (tIm tabA cA4 f u V 4) * vl (tIm tabA cA4 f u V 4))) (1 / 10000000000000 * (vl (szP f u V) * vl (szP f u V))) ∧
    MB ((⟨vl (tRe tabA cA4 f u V 4), vl (tIm tabA cA4 f u V 4)⟩ : Cx).sub (Cx.one.add (dA (nQ f) (wE u (vl V)) (wF u (vl V))))) (1 / 10000000000) ∧ MB (Cx.one.add (dA (nQ f) (wE u (vl V)) (wF u (vl V)))) (vl (szP f u V) * (1 + 1 / 1000000000)) := by
  obtain ⟨n0, _, n2⟩ := nQ_bd h0 (show vl f ≤ 10001 / 1000000 by grind)
  have n3 := n2 (by grind)
  have hn : Wn (nQ f) (2005 / 1000000) := ⟨by grind, n3⟩
  obtain ⟨f1, f2, ne⟩ := slope_near ff h0 (by grind) w0 fV rfl
  have ds := dA_small hn w0
  generalize dA (nQ f) (wE u (vl V)) (wF u (vl V)) = d at *
  have all := (ne.add ds).cast (w := (⟨vl (tRe tabA cA4 f u V 4) - 1, vl (tIm tabA cA4 f u V 4)⟩ : Cx)) (Cx.ext' (by simp; grind) (by simp; grind))
  have r1 := all.re.mono (show (1 / 10000000000 + 62 / 10000 : Rat) ≤ 7 / 1000 by grind)
  have r2 := all.im.mono (show (1 / 10000000000 + 62 / 10000 : Rat) ≤ 7 / 1000 by grind)
  simp only at r1 r2
  obtain ⟨a1, a2⟩ := r1
  have sq1 := sq_le_sq (show (0 : Rat) ≤ 993 / 1000 by grind) (show 993 / 1000 ≤ vl (tRe tabA cA4 f u V 4) by grind)
  have sq2 := sq_le_sq (show (0 : Rat) ≤ vl (tRe tabA cA4 f u V 4) by grind) (show vl (tRe tabA cA4 f u V 4) ≤ 1007 / 1000 by grind)
  have sq3 := rsq_nonneg (vl (tIm tabA cA4 f u V 4))
  have sq4 := (wn_mul r2 r2).2
  obtain ⟨fs, s0, s1, hs⟩ := root_two f1 f2 ⟨by grind, by grind⟩ (r2.mono (by grind)) (by grind)
  change Fp.Fin (szP f u V) at fs
  change 1 / 20 ≤ vl (szP f u V) at s0
  change vl (szP f u V) ≤ 13 at s1
  change Wn (vl (szP f u V) * vl (szP f u V) - _) (1 / 10000000000000 * (vl (szP f u V) * vl (szP f u V))) at hs
  generalize vl (szP f u V) = z at *
  generalize vl (tRe tabA cA4 f u V 4) = x at *
  generalize vl (tIm tabA cA4 f u V 4) = y at *
  have zz := rsq_nonneg z
  have z2 := sq_le_sq (show 0 ≤ z by grind) s1
  obtain ⟨hs1, hs2⟩ := hs
  have lo : 99 / 100 ≤ z := le_of_sq (by grind) (by grind)
  have hi : z ≤ 101 / 100 := le_of_sq (by grind) (by grind)
  have zsq := sq_le_sq (show (0 : Rat) ≤ 99 / 100 by grind) lo
  refine ⟨f1, f2, fs, ⟨a1, a2⟩, r2, lo, hi, ⟨hs1, hs2⟩, ne, ?_⟩
  have mz : MB (⟨x, y⟩ : Cx) (z * (1 + 1 / 10000000000)) := by
    refine ⟨by grind, ?_⟩
    show x * x + y * y ≤ _
    grind
  refine ((mz.sub ne).cast ?_).mono ?_
  · exact Cx.ext' (by simp; grind) (by simp; grind)
  · grind
/-- a globe of small flattening -/
theorem ecc_low {a f : Nat} (g : Snd a f 0) (h1 : vl f ≤ 40001 / 10000000) : EccOk (fsqrt (eccP f)) ∧ EOk (eccP f) ∧ Wn (vl (fsqrt (eccP f)) * vl (fsqrt (eccP f)) - vl (eccP f)) (1 / 100000000000000) ∧ vl (fsqrt (eccP f)) * vl (fsqrt (eccP f)) ≤ 801 / 100000 ∧ vl (eccP f) ≤ 801 / 100000 := by
  have u1 : uu = 1 / 9007199254740992 := uu_eq
  obtain ⟨x, y, z⟩ := ecc_ok g
  have eo : EOk (eccP f) := ⟨x, y, z⟩
  have e := (ecc_sqrt eo).1
  have f0 := g.f1
  have up : vl (eccP f) ≤ 80085 / 10000000 := by
    have c2 : Fp.Fin 4611686018427387904 ∧ vl 4611686018427387904 = 2 := v_two
    unfold eccP
    rw [g.ff.can, c2.1.can]
    obtain ⟨f2, e2⟩ := subE c2.1 g.ff 2 (by rw [c2.2]; constructor <;> grind) (by grind)
    rw [c2.2] at e2
    obtain ⟨e3, e4⟩ := e2
    rw [u1] at e3 e4
    have b : Wn (vl (fsub 4611686018427387904 f)) (20000001 / 10000000) := ⟨by grind, by grind⟩
    have m := wn_mul (show Wn (vl f) (40001 / 10000000) from ⟨by grind, h1⟩) b
    obtain ⟨_, e5⟩ := mulE g.ff f2 _ m (by grind)
    obtain ⟨_, e6⟩ := e5
    rw [u1] at e6
    have := m.2
    grind
  refine ⟨e, eo, ?_⟩
  by_cases hz : vl (eccP f) = 0
  · obtain ⟨_, e0⟩ := fsqrt_zero x hz
    rw [e0, hz]
    refine ⟨⟨by grind, by grind⟩, by grind, by grind⟩
  · obtain ⟨_, _, q⟩ := fsqrt_pos x (by grind) (big_le (by grind))
    have q2 := q.mono (B := 1 / 100000000000000) (by rw [u1]; grind)
    have := q2.2
    exact ⟨q2, by grind, by grind⟩
end Go.Proofs.YtcppgbhjbmfldaaDoor

/- The steps on paper of a place of a strip, joined. -/
namespace Go.Proofs.YtcppgbhjbmfldaaDoor
open Go.Fp Go.Fp.Tri
set_option maxRecDepth 20000
theorem asked_ang {a f sc : Nat} {mid lon lat : Int} (g : Snd a f 0) (fsc : Fp.Fin sc) (s1 : 99 / 1000 ≤ vl sc) (s2 : vl sc ≤ 10) (l1 : -84000000000 ≤ lat) (l2 : lat ≤ 84000000000) (t1 : -30000000000 ≤ signP (dS mid lon)) (t2 : signP (dS mid lon) ≤ 30000000000) :
    Asked a f sc 0 mid lon lat 30000000000 499950 (5026 / 1000000) (30001 / 10000) (154 / 10000) (5 / 1000000) (2 / 1000) (98 / 1000) (132 / 1000) (1 / 100000000) (26 / 10000) (6 / 10000000) (5 / 1000000000) (3 / 100000000000) (1 / 1000000) (3 / 10000000) 0 (5000001 / 10000000) (8660254 / 10000000) (5773506 / 10000000) (11547008 / 10000000) (300001 / 100000) (22 / 100000000) 13300 := by
  obtain ⟨n0, n1, _⟩ := nQ_bd g.f1 g.f2
  have e1 : ((499950 : Int) : Rat) = 499950 := rfl
  exact ⟨reg_mid, g, ⟨by grind, n1⟩, fsc, s1, s2, l1, l2, t1, t2, by decide, S_30.1, S_30.2, by grind, by grind, by grind, by grind, by grind, by grind, by grind, by grind, by grind, by grind, by grind, by grind, by grind, by grind, by grind, by grind, by grind, by grind, by grind, by decide, by decide, by rw [e1]; have := rho_lo; grind, by have := rho_lo; grind⟩
/-- how far a hundredth of a degree leads: times the latitude's cosine and one less the sine's square times the eccentricity's -/
def hIs (f : Nat) (lat : Int) (h : Rat) : Prop := h * ((1 - vl (fsqrt (eccP f)) * vl (fsqrt (eccP f)) * (vl (sinP lat) * vl (sinP lat))) * vl (cosP lat)) = gS2 * (1 - vl (fsqrt (eccP f)) * vl (fsqrt (eccP f)))
/-- a step on paper: from the ball's to the paper's -/
theorem to_paper {R I0 I1 J0 J1 m zb e : Rat} {x0 x1 y0 y1 : Nat} {p Z D : Cx} (R0 : 10000 ≤ R) (hx0 : Wn (vl x0 - R * I0) (R * (1 / 1000000000000000))) (hx1 : Wn (vl x1 - R * I1) (R * (1 / 1000000000000000))) (hy0 : Wn (vl y0 - R * J0) (R * (1 / 1000000000000000))) (hy1 : Wn (vl y1 - R * J1) (R * (1 / 1000000000000000)))
    (hs : MB ((⟨-(I1 - I0), J1 - J0⟩ : Cx).sub (D.mul Z)) (15 / 10000000000)) (hD : MB (D.sub p) (e * m)) (hZ : MB Z zb) (m0 : 172 / 1000000 ≤ m) (z0 : 98 / 100 ≤ zb) :
    MB ((⟨-(vl x1 - vl x0), vl y1 - vl y0⟩ : Cx).sub (Cx.sc R (p.mul Z))) ((e + 9 / 1000000) * (R * m * zb)) := by
  have a := hs.add (hD.mul hZ)
  have b := a.sc (c := R) (wn_pos (show 0 ≤ R by grind))
  have w1 : Wn (-(vl x1 - vl x0) - R * -(I1 - I0)) (R * (2 / 1000000000000000)) := (wn_sub hx0 hx1).of (by grind) (by grind)
  have w2 : Wn (vl y1 - vl y0 - R * (J1 - J0)) (R * (2 / 1000000000000000)) := (wn_sub hy1 hy0).of (by grind) (by grind)
  have Rp : 0 < R := by grind
  have c := MB.of (z := (⟨-(vl x1 - vl x0) - R * -(I1 - I0), vl y1 - vl y0 - R * (J1 - J0)⟩ : Cx)) (r := R * (3 / 1000000000000000)) w1 w2 (by grind) (by have := Rat.mul_pos Rp Rp; grind)
  refine ((c.add b).cast ?_).mono ?_
  · exact Cx.ext' (by simp; grind) (by simp; grind)
  · have mz := mul_mono (show (0 : Rat) ≤ 172 / 1000000 by grind) m0 (show (0 : Rat) ≤ 98 / 100 by grind) z0
    have Rm := Rat.mul_le_mul_of_nonneg_left mz (Rat.le_of_lt Rp)
    have e1 : R * (15 / 10000000000 + e * m * zb) = R * (15 / 10000000000) + e * (R * m * zb) := by grind
    rw [e1]
    have e2 : R * (m * zb) = R * m * zb := by grind
    rw [e2] at Rm
    generalize R * m * zb = q at *
    grind
/-- what a place's frame is -/
theorem frame_of {a f : Nat} {mid lon lat : Int} (g : Snd a f 0) (h1 : vl f ≤ 40001 / 10000000) (l1 : -70000000000 ≤ lat) (l2 : lat ≤ 70000000000) (t1 : -6000000000 ≤ signP (dS mid lon)) (t2 : signP (dS mid lon) ≤ 6000000000) {h : Rat} (hh : hIs f lat h)
    {T r : Rat} (lk : Look (isoP f lat) (cosP (dS mid lon)) (sinP (dS mid lon)) T r) :
    Fr T (vl (lT (isoP f lat))) (vl (cosP (dS mid lon))) (vl (sinP (dS mid lon))) (vl (lR (isoP f lat) (cosP (dS mid lon)))) gS2 (vl (cosP lat)) h ∧ Wn (vl (isoP f (lat + 10000000)) - vl (isoP f lat) - h) (26 / 100000 * h) := by
  obtain ⟨he, _, _, hE2, _⟩ := ecc_low g h1
  obtain ⟨k0, k1, bsl, hn, r1, r3, _⟩ := iso_hundredth he hE2 l1 l2
  obtain ⟨_, fs, _, _⟩ := And.intro trivial (And.intro (sin_in84 (m := lat) (by omega) (by omega)).1 (And.intro trivial trivial))
  have tc := T_cos he fs (bsl.mono (by grind)) (iso_linkW f (m := lat) (by omega) (by omega)) lk.hT lk.T1 lk.T2 lk.tp lk.ex
  have tl := T_lo he hE2 fs (bsl.mono (by grind)) (iso_linkW f (m := lat) (by omega) (by omega)) lk.hT lk.T1 lk.T2 lk.ex
  rw [iso_linkW f (m := lat) (by omega) (by omega), iso_linkW f (m := lat + 10000000) (by omega) (by omega)]
  rw [iso_linkW f (m := lat) (by omega) (by omega)] at lk
  obtain ⟨fc, fsd, hg, hc, hs⟩ := dir_near (D0 := 6000000000) t1 t2 (by decide) S_6.1 S_6.2
  obtain ⟨gl, gh⟩ := gS2_bd
  have T1 := lk.T1
  have T2 := lk.T2
  have TT := sq_le_sq (show 0 ≤ T by grind) T2
  unfold hIs at hh
  obtain ⟨E2, hE⟩ : ∃ E2, E2 = vl (fsqrt (eccP f)) * vl (fsqrt (eccP f)) := ⟨_, rfl⟩
  have E0 : 0 ≤ E2 := by rw [hE]; exact rsq_nonneg _
  rw [← hE] at hE2 hh r1
  generalize isoW (fsqrt (eccP f)) (sinP lat) = ψ at *
  generalize isoW (fsqrt (eccP f)) (sinP (lat + 10000000)) = ψ1 at *
  generalize vl (sinP lat) = s at *
  generalize vl (cosP lat) = κ at *
  have kp : 0 < κ := by grind
  have ss : s * s ≤ 1 := by have := (wn_mul bsl bsl).2; grind
  have ss0 := rsq_nonneg s
  have Es0 := Rat.mul_nonneg E0 ss0
  have Es1 : E2 * (s * s) ≤ E2 := by have := Rat.mul_le_mul_of_nonneg_left ss E0; grind
  have wp : 0 < 1 - E2 * (s * s) := by grind
  have gp : 0 < gS2 := by grind
  have wk := Rat.mul_pos wp kp
  have hp : 0 < h := by
    refine pos_mul_r wk ?_
    rw [show (1 - E2 * (s * s)) * κ * h = h * ((1 - E2 * (s * s)) * κ) by grind, hh]
    exact Rat.mul_pos gp (by grind)
  have hk := Rat.mul_pos hp kp
  have hkw : h * κ * (1 - E2 * (s * s)) = gS2 * (1 - E2) := by rw [← hh]; grind
  have hup : h * κ ≤ gS2 := by
    refine le_of_scaled wp ?_
    rw [show (1 - E2 * (s * s)) * (h * κ) = h * κ * (1 - E2 * (s * s)) by grind, hkw]
    have := Rat.mul_le_mul_of_nonneg_left (show 1 - E2 ≤ 1 - E2 * (s * s) by grind) (Rat.le_of_lt gp)
    grind
  have hlo : gS2 * (1 - E2) ≤ h * κ := by
    rw [← hkw]
    have := Rat.mul_nonneg (Rat.le_of_lt hk) Es0
    grind
  have glo : gS2 * (1 - 801 / 100000) ≤ gS2 * (1 - E2) := Rat.mul_le_mul_of_nonneg_left (by grind) (Rat.le_of_lt gp)
  have nT := wn_mul (wn_pos (rsq_nonneg T)) hn
  obtain ⟨nT1, nT2⟩ := nT
  have tlo : 96 / 100 ≤ T * T * (κ * κ) := by grind
  have thi : T * T * (κ * κ) ≤ 1 + 2 / 10000000 := by grind
  have T3 : T ≤ 31 / 10 := by
    refine le_of_sq (by grind) ?_
    have kk := mul_mono (show (0 : Rat) ≤ 34199 / 100000 by grind) k0 (show (0 : Rat) ≤ 34199 / 100000 by grind) k0
    have := Rat.mul_le_mul_of_nonneg_left kk (rsq_nonneg T)
    grind
  refine ⟨⟨lk.hT, T1, T3, lk.R0, lk.hR, hg, by grind, hs.mono (by grind), k0, k1, tlo, thi, gl, by grind, by grind, by grind⟩, ?_⟩
  refine wn_scaled wk ?_
  refine r1.of ?_ ?_
  · rw [← hh]; grind
  · rw [← hh]; grind
theorem step_m {T τ γ σ R g κ h : Rat} (f : Fr T τ γ σ R g κ h) : 172 / 1000000 ≤ h / R ∧ h / R * R = h := by
  obtain ⟨hp, h1, h2, h3⟩ := f.m
  have R0 := f.R0
  have Rp : 0 < R := by grind
  have hR : h / R * R = h := div_mul_c (ne_of_pos Rp) rfl
  refine ⟨le_of_scaled Rp ?_, hR⟩
  rw [show R * (h / R) = h / R * R by grind, hR]
  grind
set_option maxHeartbeats 4000000 in
theorem angles_plane {a f sc : Nat} {mid lon lat lon1 E : Int} (g : Snd a f 0) (h1 : vl f ≤ 40001 / 10000000) (fsc : Fp.Fin sc) (s1 : 99 / 1000 ≤ vl sc) (s2 : vl sc ≤ 10) (l1 : -70000000000 ≤ lat) (l2 : lat ≤ 70000000000)
    (t1 : -6000000000 ≤ signP (dS mid lon)) (t2 : signP (dS mid lon) ≤ 6000000000) (hd : normP (dS mid lon1) = normP (dS mid lon + E)) (t3 : -30000000000 ≤ signP (dS mid lon1)) (t4 : signP (dS mid lon1) ≤ 30000000000)
    {h : Rat} (hh : hIs f lat h) (hE : Wn ((E : Rat) * rho - h) (h * (2 / 10000000))) :
    ∃ T r, Look (isoP f lat) (cosP (dS mid lon)) (sinP (dS mid lon)) T r ∧ uS f lat (dS mid lon) = lU (isoP f lat) (cosP (dS mid lon)) ∧ vS f lat (dS mid lon) = lV (isoP f lat) (cosP (dS mid lon)) (sinP (dS mid lon)) ∧ Wave (lU (isoP f lat) (cosP (dS mid lon))) (vl (lV (isoP f lat) (cosP (dS mid lon)) (sinP (dS mid lon)))) (300001 / 100000) ∧
      Fr T (vl (lT (isoP f lat))) (vl (cosP (dS mid lon))) (vl (sinP (dS mid lon))) (vl (lR (isoP f lat) (cosP (dS mid lon)))) gS2 (vl (cosP lat)) h ∧ 10000 ≤ vl (rS a f sc) ∧ vl (rS a f sc) ≤ 1000000000 ∧ Fp.Fin (rS a f sc) ∧
      (Fp.Fin (stripX a f sc (uS f lat (dS mid lon)) (vS f lat (dS mid lon))) ∧ Fp.Fin (stripY a f sc (uS f lat (dS mid lon)) (vS f lat (dS mid lon)))) ∧
      (Fp.Fin (stripX a f sc (uS f (lat + 10000000) (dS mid lon)) (vS f (lat + 10000000) (dS mid lon))) ∧ Fp.Fin (stripY a f sc (uS f (lat + 10000000) (dS mid lon)) (vS f (lat + 10000000) (dS mid lon)))) ∧
      (Fp.Fin (stripX a f sc (uS f lat (dS mid lon1)) (vS f lat (dS mid lon1))) ∧ Fp.Fin (stripY a f sc (uS f lat (dS mid lon1)) (vS f lat (dS mid lon1)))) ∧
      MB ((⟨-(vl (stripX a f sc (uS f (lat + 10000000) (dS mid lon)) (vS f (lat + 10000000) (dS mid lon))) - vl (stripX a f sc (uS f lat (dS mid lon)) (vS f lat (dS mid lon)))), vl (stripY a f sc (uS f (lat + 10000000) (dS mid lon)) (vS f (lat + 10000000) (dS mid lon))) - vl (stripY a f sc (uS f lat (dS mid lon)) (vS f lat (dS mid lon)))⟩ : Cx).sub
        (Cx.sc (vl (rS a f sc)) ((Cx.sc (h / (vl (lR (isoP f lat) (cosP (dS mid lon))) * vl (lR (isoP f lat) (cosP (dS mid lon))))) ⟨vl (lT (isoP f lat)) * vl (sinP (dS mid lon)), T * vl (cosP (dS mid lon))⟩).mul (Cx.one.add (dA (nQ f) (wE (lU (isoP f lat) (cosP (dS mid lon))) (vl (lV (isoP f lat) (cosP (dS mid lon)) (sinP (dS mid lon))))) (wF (lU (isoP f lat) (cosP (dS mid lon))) (vl (lV (isoP f lat) (cosP (dS mid lon)) (sinP (dS mid lon)))))))))) ((61 / 100000 + 9 / 1000000) * (vl (rS a f sc) * (h / vl (lR (isoP f lat) (cosP (dS mid lon)))) * (vl (szP f (lU (isoP f lat) (cosP (dS mid lon))) (lV (isoP f lat) (cosP (dS mid lon)) (sinP (dS mid lon)))) * (1 + 1 / 1000000000)))) ∧
      MB ((⟨-(vl (stripX a f sc (uS f lat (dS mid lon1)) (vS f lat (dS mid lon1))) - vl (stripX a f sc (uS f lat (dS mid lon)) (vS f lat (dS mid lon)))), vl (stripY a f sc (uS f lat (dS mid lon1)) (vS f lat (dS mid lon1))) - vl (stripY a f sc (uS f lat (dS mid lon)) (vS f lat (dS mid lon)))⟩ : Cx).sub
        (Cx.sc (vl (rS a f sc)) ((Cx.sc (h / (vl (lR (isoP f lat) (cosP (dS mid lon))) * vl (lR (isoP f lat) (cosP (dS mid lon))))) ⟨-(T * vl (cosP (dS mid lon))), vl (lT (isoP f lat)) * vl (sinP (dS mid lon))⟩).mul (Cx.one.add (dA (nQ f) (wE (lU (isoP f lat) (cosP (dS mid lon))) (vl (lV (isoP f lat) (cosP (dS mid lon)) (sinP (dS mid lon))))) (wF (lU (isoP f lat) (cosP (dS mid lon))) (vl (lV (isoP f lat) (cosP (dS mid lon)) (sinP (dS mid lon)))))))))) ((32 / 100000 + 9 / 1000000) * (vl (rS a f sc) * (h / vl (lR (isoP f lat) (cosP (dS mid lon)))) * (vl (szP f (lU (isoP f lat) (cosP (dS mid lon))) (lV (isoP f lat) (cosP (dS mid lon)) (sinP (dS mid lon)))) * (1 + 1 / 1000000000)))) := by
  have k0 := asked_ang (mid := mid) (lon := lon) (lat := lat) g fsc s1 s2 (by omega) (by omega) (by omega) (by omega)
  have k1 := asked_ang (mid := mid) (lon := lon) (lat := lat + 10000000) g fsc s1 s2 (by omega) (by omega) (by omega) (by omega)
  have k2 := asked_ang (mid := mid) (lon := lon1) (lat := lat) g fsc s1 s2 (by omega) (by omega) t3 t4
  obtain ⟨T, r, lk, _, wv, eu, ev, hg, _, bs, b3⟩ := k0.look
  obtain ⟨Ta, ra, la, _, wa, ua, va, _, _, _, b3a⟩ := k1.look
  obtain ⟨Tb, rb, lb, _, wb, ub, vb, _, _, bsb, _⟩ := k2.look
  obtain ⟨fr, hx⟩ := frame_of g h1 l1 l2 t1 t2 hh lk
  obtain ⟨fR, R0, R1⟩ := rS_near g fsc s1 s2
  refine ⟨T, r, lk, eu, ev, wv, fr, R0, R1, fR, k0.fin, k1.fin, k2.fin, ?_, ?_⟩
  · have n := north_step lk la fr wv.bv wa.bv ?_ b3 b3a rfl hx
    · obtain ⟨m0, e1⟩ := step_m fr
      have nr := fr.near fr.size (e := 61 / 100000) (by grind) n
      have bη := nr.re
      have bθ := nr.im
      simp only at bη bθ
      obtain ⟨_, _, _, ff, f1, f2, _⟩ := g
      obtain ⟨fJ0, fI0, fJ1, fI1, bJ0, bI0, bJ1, bI1, ss⟩ := series_step ff f1 h1 wv wa (by grind) lk.fV la.fV lk.u1 lk.u2 la.u1 la.u2 rfl rfl (bθ.mono (by grind)) ((wn_negy bη).of (by grind) (by grind))
      obtain ⟨_, _, _, _, _, z0, _, _, _, mz⟩ := slope_size ff f1 h1 wv lk.fV
      rw [eu, ev, ua, va]
      unfold stripX stripY
      rw [zIm_eq, zRe_eq, zIm_eq, zRe_eq]
      exact to_paper R0 (mul_R fR fI0 R0 R1 (bI0.mono (by grind))).2 (mul_R fR fI1 R0 R1 (bI1.mono (by grind))).2 (mul_R fR fJ0 R0 R1 (bJ0.mono (by grind))).2 (mul_R fR fJ1 R0 R1 (bJ1.mono (by grind))).2 ss n mz m0 (by grind)
    · obtain ⟨he, _, _, hE2, _⟩ := ecc_low g h1
      obtain ⟨_, _, _, _, _, _, bsa⟩ := iso_hundredth he hE2 l1 l2
      have tc := T_cos he (sin_in84 (m := lat + 10000000) (by omega) (by omega)).1 (bsa.mono (by grind)) (iso_linkW f (m := lat + 10000000) (by omega) (by omega)) la.hT la.T1 la.T2 la.tp la.ex
      have T0 := la.T1
      refine le_of_sq (by grind) ?_
      have ss := (wn_mul bsa bsa).2
      have := Rat.mul_le_mul_of_nonneg_left (show 116 / 1000 ≤ 1 - vl (sinP (lat + 10000000)) * vl (sinP (lat + 10000000)) by grind) (rsq_nonneg Ta)
      grind
  · have n := east_step lk lb fr wv.bv wb.bv bsb hd hE
    obtain ⟨m0, e1⟩ := step_m fr
    have nr := fr.near (w := _) (e := 32 / 100000) (Z := ⟨-(T * vl (cosP (dS mid lon))), vl (lT (isoP f lat)) * vl (sinP (dS mid lon))⟩) fr.size.quarter (by grind) n
    have bη := nr.re
    have bθ := nr.im
    simp only at bη bθ
    obtain ⟨_, _, _, ff, f1, f2, _⟩ := g
    obtain ⟨fJ0, fI0, fJ1, fI1, bJ0, bI0, bJ1, bI1, ss⟩ := series_step ff f1 h1 wv wb (by grind) lk.fV lb.fV lk.u1 lk.u2 lb.u1 lb.u2 rfl rfl (bθ.mono (by grind)) ((wn_negy bη).of (by grind) (by grind))
    obtain ⟨_, _, _, _, _, z0, _, _, _, mz⟩ := slope_size ff f1 h1 wv lk.fV
    rw [eu, ev, ub, vb]
    unfold stripX stripY
    rw [zIm_eq, zRe_eq, zIm_eq, zRe_eq]
    exact to_paper R0 (mul_R fR fI0 R0 R1 (bI0.mono (by grind))).2 (mul_R fR fI1 R0 R1 (bI1.mono (by grind))).2 (mul_R fR fJ0 R0 R1 (bJ0.mono (by grind))).2 (mul_R fR fJ1 R0 R1 (bJ1.mono (by grind))).2 ss n mz m0 (by grind)
end Go.Proofs.YtcppgbhjbmfldaaDoor
