/- The series' numbers as floats, against the rational ones. Printed by gen_rows.py. -/
import Derived.Test.YtfhpnkmpjijebaaDoorZP
namespace Go.Proofs.YtfhpnkmpjijebaaDoor
open Go.Fp Go.Fp.Tri
set_option maxRecDepth 20000

/-- a float near a number -/
def Nr (x : Nat) (v e : Rat) : Prop := Fp.Fin x ∧ Wn (vl x - v) e
theorem Nr.mono {x : Nat} {v e d : Rat} (h : Nr x v e) (k : e ≤ d) : Nr x v d := ⟨h.1, h.2.mono k⟩
theorem Nr.can {x : Nat} {v e : Rat} (h : Nr x v e) : Fp.can x = x := h.1.can
/-- the third flattening -/
def nQ (f : Nat) : Rat := vl f / (2 - vl f)
variable {f : Nat}
end Go.Proofs.YtfhpnkmpjijebaaDoor

/- On the polar paper latitude and longitude come back. -/
namespace Go.Proofs.YtfhpnkmpjijebaaDoor
open Go.RowKit Go.Fp Go.Fp.Tri Ieee
set_option maxRecDepth 20000

def poleA (e : Nat) : Nat := fdiv (fadd (fmul (fadd Fp.cOne e) (lnP (fadd Fp.cOne e))) (fmul (fsub Fp.cOne e) (lnP (fsub Fp.cOne e)))) wTwo
def poleW (e : Nat) : Nat := expP (poleA e)
def downW (e A I : Nat) : Nat := fdiv (fmul (fmul wTwo A) (expP (negC I))) (poleW e)
end Go.Proofs.YtfhpnkmpjijebaaDoor

/- On the polar paper: how far a place lies from the pole, and that its isometric latitude comes back. -/
namespace Go.Proofs.YtfhpnkmpjijebaaDoor
open Go.RowKit Go.Fp Go.Fp.Tri Ieee
set_option maxRecDepth 20000

end Go.Proofs.YtfhpnkmpjijebaaDoor

/- The series forward, as floats, against the complex polynomial. -/
namespace Go.Fp.Tri
open Go.Fp
set_option maxRecDepth 20000
theorem Ex_zero : Ex 0 = 1 := by decide +kernel
theorem lipE4 : plip PE (4375 / 10000) ≤ 2 := by decide +kernel
theorem EX_lip {a b : Rat} (ha : Wn a 7) (hb : Wn b 7) (h : Wn (a - b) (1 / 10000000000000)) : Rn (EX a) (EX b) (3 / 100000000000) := by
  have s := EX_small (r := a - b) (h.mono (by grind))
  have l := wn_lip PE (x := a - b) (y := 0) (X := 4375 / 10000) (D := 1 / 10000000000000) (h.mono (by grind)) ⟨by grind, by grind⟩ (h.of (by grind) Rat.le_refl)
  have l2 := l.mono (B := 2 / 10000000000000) (by have := lipE4; grind)
  change Wn (Ex (a - b) - Ex 0) _ at l2
  rw [Ex_zero] at l2
  have t : Rn (Ex (a - b)) 1 (2 / 10000000000000) := ⟨by grind, l2.mono (by grind)⟩
  have u := s.trans t (by grind)
  have q := EX_add hb (b := a - b) (h.mono (by grind)) (by rw [show b + (a - b) = a by grind]; exact ha)
  rw [show b + (a - b) = a by grind] at q
  have r := (Rn.refl (EX_pos hb)).mul u (by grind)
  exact (((q.symm (by grind)).trans r (by grind)).cast rfl (by grind)).mono (by grind)
theorem wn_negy {y B : Rat} (h : Wn y B) : Wn (-y) B := ⟨by have := h.2; grind, by have := h.1; grind⟩
end Go.Fp.Tri
namespace Go.Proofs.YtfhpnkmpjijebaaDoor
open Go.Fp Go.Fp.Tri
set_option maxRecDepth 20000
theorem sine_pair (m : Int) {V : Nat} {y : Rat} (fV : Fp.Fin V) (hy : Wn y (49 / 10)) (he : Wn (vl V - y) (1 / 10000000000000)) :
    Fp.Fin (sinRe m V) ∧ Fp.Fin (sinIm m V) ∧ MB ((⟨-2 * vl (sinIm m V), 2 * vl (sinRe m V)⟩ : Cx).sub (PP m y)) (2 / 1000000000 * (EX y + EX (-y))) ∧ 0 < EX y + EX (-y) ∧ EX y + EX (-y) ≤ 210000 := by
  have u1 : uu = 1 / 9007199254740992 := uu_eq
  have bV : Wn (vl V) 5 := (wn_add he hy).of (by grind) (by grind)
  obtain ⟨fH, fK, eH, eK, L1, L2⟩ := hyp_near fV bV
  have r1 := EX_lip (bV.mono (show (5 : Rat) ≤ 7 by grind)) (hy.mono (show (49 : Rat) / 10 ≤ 7 by grind)) he
  have r2 := EX_lip (wn_negy (bV.mono (show (5 : Rat) ≤ 7 by grind))) (wn_negy (hy.mono (show (49 : Rat) / 10 ≤ 7 by grind))) ((wn_negy he).of (by grind) Rat.le_refl)
  obtain ⟨⟨fc, ec⟩, ⟨fs, es⟩⟩ := cis_near m
  have pn := PP_near m (hy.mono (show (49 : Rat) / 10 ≤ 7 by grind))
  have cb := cis_bd m
  have bc := cb.re
  have bs := cb.im
  unfold sinRe sinIm
  rw [fc.can, fs.can]
  generalize hypH (expP V) = h at *
  generalize hypK (expP V) = k at *
  generalize EX (vl V) = X at *
  generalize EX (-vl V) = Y at *
  generalize EX y = x at *
  generalize EX (-y) = z at *
  obtain ⟨x0, r1a, r1b⟩ := r1
  obtain ⟨z0, r2a, r2b⟩ := r2
  obtain ⟨h1, h2⟩ := eH
  obtain ⟨k1, k2⟩ := eK
  have L0 : 0 < x + z := by grind
  have Lh : x + z ≤ 210000 := by grind
  have L3 : 198 / 100 ≤ x + z := by grind
  have eH' : Wn (vl h - (x + z) / 2) (3 / 10000000000 * (x + z)) := by constructor <;> grind
  have eK' : Wn (vl k - (x - z) / 2) (3 / 10000000000 * (x + z)) := by constructor <;> grind
  have bH : Wn (vl h) (51 / 100 * (x + z)) := by obtain ⟨_, _⟩ := eH'; constructor <;> grind
  have bK : Wn (vl k) (51 / 100 * (x + z)) := by obtain ⟨_, _⟩ := eK'; constructor <;> grind
  have bsf : Wn (vl (sinP m)) (1001 / 1000) := (wn_add es bs).of (by grind) (by grind)
  have bcf : Wn (vl (cosP m)) (1001 / 1000) := (wn_add ec bc).of (by grind) (by grind)
  have nz : ∀ a A B : Rat, a = A → Wn (a * 1) B → Wn A B := fun a A B e h => by rw [← e]; exact h.of (by grind) Rat.le_refl
  obtain ⟨f1, e1⟩ := mulE fs fH _ (wn_mul bsf bH) (by grind)
  obtain ⟨f2, e2⟩ := mulE fc fK _ (wn_mul bcf bK) (by grind)
  refine ⟨f1, f2, ?_, L0, Lh⟩
  have d1 : Wn (vl (fmul (sinP m) h) - (cis m).im * ((x + z) / 2)) (31 / 100000000000 * (x + z)) := by
    refine (wn_add e1 (wn_add (wn_mul es bH) (wn_mul bs eH'))).of (by grind) (by rw [u1]; grind)
  have d2 : Wn (vl (fmul (cosP m) k) - (cis m).re * ((x - z) / 2)) (31 / 100000000000 * (x + z)) := by
    refine (wn_add e2 (wn_add (wn_mul ec bK) (wn_mul bc eK'))).of (by grind) (by rw [u1]; grind)
  have a : MB ((⟨-2 * vl (fmul (cosP m) k), 2 * vl (fmul (sinP m) h)⟩ : Cx).sub ⟨(cis m).re * (z - x), (cis m).im * (z + x)⟩) (1 / 1000000000 * (x + z)) := by
    refine MB.of (x := 62 / 100000000000 * (x + z)) (y := 62 / 100000000000 * (x + z)) ?_ ?_ (by grind) ?_
    · obtain ⟨_, _⟩ := d2
      show Wn (-2 * vl (fmul (cosP m) k) - (cis m).re * (z - x)) _
      constructor <;> grind
    · obtain ⟨_, _⟩ := d1
      show Wn (2 * vl (fmul (sinP m) h) - (cis m).im * (z + x)) _
      constructor <;> grind
    · have := rsq_nonneg (x + z)
      grind
  refine ((a.add pn).cast ?_).mono (by grind)
  exact Cx.ext' (by simp; grind) (by simp; grind)
end Go.Proofs.YtfhpnkmpjijebaaDoor

/- Whose hyperbolic sine a number is: the exponential of what the program finds. -/
namespace Go.Proofs.YtfhpnkmpjijebaaDoor
open Go.Fp Go.Fp.Tri
set_option maxRecDepth 20000
end Go.Proofs.YtfhpnkmpjijebaaDoor

/- A place of the series forward, as floats: near the complex polynomial. -/
namespace Go.Fp.Tri
open Go.Fp
set_option maxRecDepth 20000
def nbd (N : Rat) : List (Nat × Rat) → Rat
  | [] => 0
  | t :: l => (if t.2 < 0 then -t.2 else t.2) * rpw N t.1 + nbd N l
/-- an angle and a number beside it, how much it grows by being told -/
structure Wave (u : Int) (v K : Rat) : Prop where
  bv : Wn v (57 / 100)
  k1 : EX (2 * v) ≤ K
  k2 : EX (-(2 * v)) ≤ K
  hK : K ≤ 30002 / 10000
def wE (u : Int) (v : Rat) : Cx := Wv (2 * u) (-(2 * v))
def wF (u : Int) (v : Rat) : Cx := cinv (wE u v)
variable {u : Int} {v K : Rat}
theorem Wave.b2 (h : Wave u v K) : Wn (2 * v) (17 / 10) ∧ Wn (-(2 * v)) (17 / 10) := by
  obtain ⟨_, _⟩ := h.bv
  exact ⟨⟨by grind, by grind⟩, ⟨by grind, by grind⟩⟩
theorem Wave.inv (h : Wave u v K) : (wE u v).mul (wF u v) = Cx.one := cinv_mul (Wv_norm _ (h.b2.2.mono (by grind)))
theorem Wave.K0 (h : Wave u v K) : 0 < K := by
  have := EX_pos (h.b2.1.mono (show (17 : Rat) / 10 ≤ 7 by grind))
  have := h.k1
  grind
theorem Wave.E (h : Wave u v K) : MB (wE u v) (K * (1000002 / 1000000)) := by
  have k0 := h.K0
  have k2 := h.k2
  exact (Wv_bd _ (h.b2.2.mono (by grind))).mono (by grind)
theorem Wave.F (h : Wave u v K) : MB ((wF u v).sub (Wv (-(2 * u)) (2 * v))) (9 / 1000000000000 * K) ∧ MB (wF u v) (K * (1000002 / 1000000)) := by
  have := cinv_near (2 * u) (h.b2.2.mono (show (17 : Rat) / 10 ≤ 7 by grind)) (K := K) (by rw [show - -(2 * v) = 2 * v by grind]; exact h.k1)
  rw [show - -(2 * v) = 2 * v by grind] at this
  exact this
theorem zpw_negNat (E F : Cx) (j : Nat) : zpw E F (-(j : Int)) = npw F j := by
  cases j with
  | zero => rfl
  | succ j => rfl
theorem rpw_num {K : Rat} (h0 : 0 < K) (h : K ≤ 30002 / 10000) : ∀ j : Nat, j ≤ 4 → 0 < rpw (K * (1000002 / 1000000)) j ∧ rpw (K * (1000002 / 1000000)) j ≤ rpw (30003 / 10000) j := by
  intro j hj
  have b := rpw_bd (show Wn (K * (1000002 / 1000000)) (30003 / 10000) from ⟨by grind, by grind⟩) j
  refine ⟨?_, b.2⟩
  clear hj b
  induction j with
  | zero => simp only [rpw]; grind
  | succ j ih => simp only [rpw]; exact Rat.mul_pos (by grind) ih
theorem rpw3 : rpw (30003 / 10000) 1 = 30003 / 10000 ∧ rpw (30003 / 10000) 2 ≤ 9002 / 1000 ∧ rpw (30003 / 10000) 3 ≤ 2701 / 100 ∧ rpw (30003 / 10000) 4 ≤ 811 / 10 := by decide +kernel
/-- the powers are what turns and grows so often -/
theorem Wave.pow (h : Wave u v K) (j : Nat) (hj : j ≤ 4) :
    MB ((zpw (wE u v) (wF u v) (j : Int)).sub (Wv ((j : Int) * (2 * u)) ((j : Rat) * -(2 * v)))) ((j : Rat) * (18 / 1000000000000) * rpw (30003 / 10000) j) ∧
    MB ((zpw (wE u v) (wF u v) (-(j : Int))).sub (Wv ((j : Int) * -(2 * u)) ((j : Rat) * (2 * v)))) ((j : Rat) * (18 / 1000000000000) * rpw (30003 / 10000) j) ∧
    EX ((j : Rat) * (2 * v)) ≤ rpw (30003 / 10000) j ∧ EX ((j : Rat) * -(2 * v)) ≤ rpw (30003 / 10000) j := by
  have k0 := h.K0
  obtain ⟨b1, b2⟩ := h.b2
  have z : MB ((wE u v).sub (Wv (2 * u) (-(2 * v)))) (9 / 1000000000000 * K) := (MB.zero.cast (by unfold wE; exact Cx.ext' (by simp; grind) (by simp; grind))).mono (by grind)
  obtain ⟨p1, p2⟩ := pow_near z h.E h.k2 b2 j hj
  obtain ⟨f1, f2⟩ := h.F
  obtain ⟨q1, q2⟩ := pow_near f1 f2 h.k1 b1 j hj
  obtain ⟨r0, r1⟩ := rpw_num k0 h.hK j hj
  have j0 : (0 : Rat) ≤ (j : Rat) := by exact_mod_cast Nat.zero_le j
  have m := Rat.mul_le_mul_of_nonneg_left r1 (show 0 ≤ (j : Rat) * (18 / 1000000000000) from Rat.mul_nonneg j0 (by grind))
  rw [zpw_negNat]
  exact ⟨p1.mono m, q1.mono m, Rat.le_trans q2 r1, Rat.le_trans p2 r1⟩
/-- what the sine comes to, by powers -/
theorem Wave.pair (h : Wave u v K) (j : Nat) (hj : j ≤ 4) {m : Int} {y : Rat} (hm : m = (j : Int) * (2 * u)) (hy : y = (j : Rat) * (2 * v)) :
    MB ((PP m y).sub ((zpw (wE u v) (wF u v) (j : Int)).sub (zpw (wE u v) (wF u v) (-(j : Int))))) (2 * ((j : Rat) * (18 / 1000000000000) * rpw (30003 / 10000) j)) := by
  obtain ⟨a, b, _, _⟩ := h.pow j hj
  rw [show (j : Int) * -(2 * u) = -((j : Int) * (2 * u)) by rw [Int.mul_neg]] at b
  rw [show (j : Rat) * -(2 * v) = -((j : Rat) * (2 * v)) by grind] at a
  rw [← hm, ← hy] at a b
  unfold PP
  refine ((b.sub a).cast ?_).mono (by grind)
  generalize Wv m (-y) = w1
  generalize Wv (-m) y = w2
  exact Cx.ext' (by simp; grind) (by simp; grind)
end Go.Fp.Tri
namespace Go.Proofs.YtfhpnkmpjijebaaDoor
open Go.Fp Go.Fp.Tri
set_option maxRecDepth 20000
/-- a float times a small whole number -/
theorem mul_small (k : Nat) (hk : k < 4) {V : Nat} {b : Rat} (fV : Fp.Fin V) (hb : Wn (vl V) b) (hb2 : b ≤ 58 / 100) : Fp.Fin (fmul (Fp.can (floatOfInt .f64 (2 * ((k : Int) + 1)))) V) ∧ Wn (vl (fmul (Fp.can (floatOfInt .f64 (2 * ((k : Int) + 1)))) V) - 2 * ((k : Rat) + 1) * vl V) (1 / 100000000000000) := by
  have u1 : uu = 1 / 9007199254740992 := uu_eq
  obtain ⟨fi, ei⟩ := vl_int (2 * ((k : Int) + 1)) (by omega)
  rw [fi.can]
  have hk3 : (k : Rat) ≤ 3 := by exact_mod_cast (show k ≤ 3 by omega)
  have hk0 : (0 : Rat) ≤ (k : Rat) := by exact_mod_cast Nat.zero_le k
  have e : vl (floatOfInt .f64 (2 * ((k : Int) + 1))) = 2 * ((k : Rat) + 1) := by rw [ei]; push_cast; rfl
  obtain ⟨f1, e1⟩ := mulE fi fV 5 (by rw [e]; exact (wn_mul (show Wn (2 * ((k : Rat) + 1)) 8 from ⟨by grind, by grind⟩) hb).mono (by grind)) (by grind)
  rw [e] at e1
  exact ⟨f1, e1.mono (by rw [u1]; grind)⟩
/-- one member of the series, as floats -/
theorem member {u : Int} {v K : Rat} {V : Nat} (h : Wave u v K) (fV : Fp.Fin V) (hV : vl V = v) (k : Nat) (hk : k < 4) :
    Fp.Fin (sinRe (2 * ((k : Int) + 1) * u) (fmul (Fp.can (floatOfInt .f64 (2 * ((k : Int) + 1)))) V)) ∧ Fp.Fin (sinIm (2 * ((k : Int) + 1) * u) (fmul (Fp.can (floatOfInt .f64 (2 * ((k : Int) + 1)))) V)) ∧
    MB ((⟨-2 * vl (sinIm (2 * ((k : Int) + 1) * u) (fmul (Fp.can (floatOfInt .f64 (2 * ((k : Int) + 1)))) V)), 2 * vl (sinRe (2 * ((k : Int) + 1) * u) (fmul (Fp.can (floatOfInt .f64 (2 * ((k : Int) + 1)))) V))⟩ : Cx).sub
      ((zpw (wE u v) (wF u v) ((k + 1 : Nat) : Int)).sub (zpw (wE u v) (wF u v) (-((k + 1 : Nat) : Int))))) (5 / 1000000000 * rpw (30003 / 10000) (k + 1)) ∧
    Wn (vl (sinRe (2 * ((k : Int) + 1) * u) (fmul (Fp.can (floatOfInt .f64 (2 * ((k : Int) + 1)))) V))) 100 ∧ Wn (vl (sinIm (2 * ((k : Int) + 1) * u) (fmul (Fp.can (floatOfInt .f64 (2 * ((k : Int) + 1)))) V))) 100 := by
  have bv := h.bv
  obtain ⟨f1, e1⟩ := mul_small k hk fV (by rw [hV]; exact bv) (by grind)
  have hk3 : (k : Rat) ≤ 3 := by exact_mod_cast (show k ≤ 3 by omega)
  have hk0 : (0 : Rat) ≤ (k : Rat) := by exact_mod_cast Nat.zero_le k
  have ek : ((k + 1 : Nat) : Rat) = (k : Rat) + 1 := by push_cast; rfl
  have ei : ((k + 1 : Nat) : Int) = (k : Int) + 1 := by push_cast; rfl
  obtain ⟨y, hy⟩ : ∃ y : Rat, y = 2 * ((k : Rat) + 1) * v := ⟨_, rfl⟩
  rw [hV, ← hy] at e1
  have by1 : Wn y (49 / 10) := by rw [hy]; exact (wn_mul (show Wn (2 * ((k : Rat) + 1)) 8 from ⟨by grind, by grind⟩) bv).mono (by grind)
  obtain ⟨g1, g2, g3, g4, _⟩ := sine_pair (2 * ((k : Int) + 1) * u) f1 by1 (e1.mono (by grind))
  have hp := h.pair (k + 1) (by omega) (m := 2 * ((k : Int) + 1) * u) (y := y) (by rw [ei]; grind) (by rw [hy, ek]; grind)
  obtain ⟨_, _, x1, x2⟩ := h.pow (k + 1) (by omega)
  rw [show ((k + 1 : Nat) : Rat) * (2 * v) = y by rw [hy, ek]; grind] at x1
  rw [show ((k + 1 : Nat) : Rat) * -(2 * v) = -y by rw [hy, ek]; grind] at x2
  rw [ek] at hp
  have r0 : 0 < rpw (30003 / 10000) (k + 1) := by
    have := (rpw_num (K := 3) (by grind) (by grind) (k + 1) (by omega)); grind
  have r4 : rpw (30003 / 10000) (k + 1) ≤ 811 / 10 := by
    obtain ⟨a, b, c, d⟩ := rpw3
    rcases k with _ | _ | _ | _ | k
    · rw [a]; grind
    · exact Rat.le_trans b (by grind)
    · exact Rat.le_trans c (by grind)
    · exact d
    · omega
  refine ⟨g1, g2, ?_, ?_, ?_⟩
  · refine ((g3.add hp).cast ?_).mono ?_
    · generalize PP (2 * ((k : Int) + 1) * u) y = P
      exact Cx.ext' (by simp; grind) (by simp; grind)
    · generalize rpw (30003 / 10000) (k + 1) = R at *
      generalize (k : Rat) = kk at *
      have t := Rat.mul_le_mul_of_nonneg_right (show kk + 1 ≤ 4 by grind) (Rat.le_of_lt r0)
      have e2 : (kk + 1) * (18 / 1000000000000) * R = 18 / 1000000000000 * ((kk + 1) * R) := by grind
      rw [e2]
      generalize (kk + 1) * R = kR at *
      grind
  all_goals
    -- bounds
    have pb : MB (PP (2 * ((k : Int) + 1) * u) y) (163) := by
      have w1 := Wv_bd (2 * ((k : Int) + 1) * u) (wn_negy (by1.mono (show (49 : Rat) / 10 ≤ 7 by grind)))
      have w2 := Wv_bd (-(2 * ((k : Int) + 1) * u)) (by1.mono (show (49 : Rat) / 10 ≤ 7 by grind))
      exact (w1.sub w2).mono (by grind)
    have t := (g3.add pb).cast (w := (⟨-2 * vl (sinIm (2 * ((k : Int) + 1) * u) (fmul (Fp.can (floatOfInt .f64 (2 * ((k : Int) + 1)))) V)), 2 * vl (sinRe (2 * ((k : Int) + 1) * u) (fmul (Fp.can (floatOfInt .f64 (2 * ((k : Int) + 1)))) V))⟩ : Cx)) (Cx.ext' (by simp; grind) (by simp; grind))
    have t1 := t.re
    have t2 := t.im
    simp only at t1 t2
  · obtain ⟨_, _⟩ := t2
    constructor <;> grind
  · obtain ⟨_, _⟩ := t1
    constructor <;> grind
end Go.Proofs.YtfhpnkmpjijebaaDoor
