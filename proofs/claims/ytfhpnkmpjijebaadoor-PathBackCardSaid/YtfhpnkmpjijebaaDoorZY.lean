/- The place reached: its point on the ball of reduced latitudes, as floats; its distance from the axis. -/
import Derived.Test.YtfhpnkmpjijebaaDoorZX
namespace Go.Proofs.YtfhpnkmpjijebaaDoor
open Go.Fp Go.Fp.Tri
set_option maxRecDepth 20000
/-- a product and a product of three, added or taken off -/
theorem lin_ok {a b c d g : Nat} (fa : Fp.Fin a) (fb : Fp.Fin b) (fc : Fp.Fin c) (fd : Fp.Fin d) (fg : Fp.Fin g) (ba : Wn (vl a) (102 / 100)) (bb : Wn (vl b) (102 / 100)) (bc : Wn (vl c) (102 / 100)) (bd : Wn (vl d) (102 / 100)) (bg : Wn (vl g) (102 / 100)) :
    (Fp.Fin (fadd (fmul a b) (fmul (fmul c d) g)) ∧ Wn (vl (fadd (fmul a b) (fmul (fmul c d) g)) - (vl a * vl b + vl c * vl d * vl g)) (12 / 10000000000000000)) ∧
    (Fp.Fin (fsub (fmul a b) (fmul (fmul c d) g)) ∧ Wn (vl (fsub (fmul a b) (fmul (fmul c d) g)) - (vl a * vl b - vl c * vl d * vl g)) (12 / 10000000000000000)) := by
  have u1 : uu = 1 / 9007199254740992 := uu_eq
  obtain ⟨f1, e1⟩ := mulE fa fb _ (wn_mul ba bb) (by grind)
  have b1 : Wn (vl (fmul a b)) (105 / 100) := (wn_add e1 (wn_mul ba bb)).of (by grind) (by rw [u1]; grind)
  obtain ⟨f2, e2⟩ := mulE fc fd _ (wn_mul bc bd) (by grind)
  have b2 : Wn (vl (fmul c d)) (105 / 100) := (wn_add e2 (wn_mul bc bd)).of (by grind) (by rw [u1]; grind)
  obtain ⟨f3, e3⟩ := mulE f2 fg _ (wn_mul b2 bg) (by grind)
  have b3 : Wn (vl (fmul (fmul c d) g)) (108 / 100) := (wn_add e3 (wn_mul b2 bg)).of (by grind) (by rw [u1]; grind)
  have e4 : Wn (vl (fmul (fmul c d) g) - vl c * vl d * vl g) (6 / 10000000000000000) := (wn_add e3 (wn_mul e2 bg)).of (by grind) (by rw [u1]; grind)
  obtain ⟨f5, e5⟩ := addE f1 f3 _ (wn_add b1 b3) (by grind)
  obtain ⟨f6, e6⟩ := subE f1 f3 _ (wn_sub b1 b3) (by grind)
  exact ⟨⟨f5, (wn_add e5 (wn_add e1 e4)).of (by grind) (by rw [u1]; grind)⟩, ⟨f6, (wn_add e6 (wn_sub e1 e4)).of (by grind) (by rw [u1]; grind)⟩⟩
abbrev xR (v : LineV) (y : Nat) : Nat := fsub (fmul (rvOf v y).cu (rvOf v y).cs) (fmul (fmul (rvOf v y).su (rvOf v y).ss) (rvOf v y).ca1)
abbrev yR (v : LineV) (y : Nat) : Nat := fmul (rvOf v y).ss (rvOf v y).sa1
/-- its numbers, against those made of the same floats without rounding -/
structure Frm (v : LineV) (y : Nat) : Prop where
  fx : Fp.Fin (xR v y)
  fy : Fp.Fin (yR v y)
  fz : Fp.Fin (zR v y)
  ft : Fp.Fin (rvOf v y).t
  ex : Wn (vl (xR v y) - (vl v.cu1 * vl (rvOf v y).cs - vl v.su1 * vl (rvOf v y).ss * vl (rvOf v y).ca1)) (12 / 10000000000000000)
  ey : Wn (vl (yR v y) - vl (rvOf v y).ss * vl (rvOf v y).sa1) (12 / 10000000000000000)
  ez : Wn (vl (zR v y) - (vl v.su1 * vl (rvOf v y).cs + vl v.cu1 * vl (rvOf v y).ss * vl (rvOf v y).ca1)) (12 / 10000000000000000)
  et : Wn (vl (rvOf v y).t - (vl v.su1 * vl (rvOf v y).ss - vl v.cu1 * vl (rvOf v y).cs * vl (rvOf v y).ca1)) (12 / 10000000000000000)
  bs : Wn (vl (rvOf v y).ss) (1002 / 1000)
  bc : Wn (vl (rvOf v y).cs) (1002 / 1000)
  one : Wn (vl (rvOf v y).cs * vl (rvOf v y).cs + vl (rvOf v y).ss * vl (rvOf v y).ss - 1) (5 / 100000000000000)
set_option maxHeartbeats 4000000 in
theorem frm_ok {v : LineV} (e : Ends v) {y : Nat} (w : Way v y) : Frm v y := by
  have u1 : uu = 1 / 9007199254740992 := uu_eq
  have Z := w.Z
  have fcu : Fp.Fin v.cu1 := e.h1.fc
  have fsu : Fp.Fin v.su1 := e.h1.fs
  have bcu : Wn (vl v.cu1) (1001 / 1000) := e.h1.bc
  have bsu : Wn (vl v.su1) (9948 / 10000) := e.h1.bs
  obtain ⟨⟨fc, e1⟩, ⟨fs, e2⟩⟩ := cis_near (nearP (rvOf v y).o)
  unfold tol at e1 e2
  have bC := (cis_bd (nearP (rvOf v y).o)).re
  have bS := (cis_bd (nearP (rvOf v y).o)).im
  have on := cis_one (nearP (rvOf v y).o)
  have h1 : (rvOf v y).ss = sinP (nearP (rvOf v y).o) := fs.can
  have h2 : (rvOf v y).cs = cosP (nearP (rvOf v y).o) := fc.can
  rw [← h2] at fc e1
  rw [← h1] at fs e2
  have bs : Wn (vl (rvOf v y).ss) (1002 / 1000) := (wn_add e2 bS).of (by grind) (by grind)
  have bc : Wn (vl (rvOf v y).cs) (1002 / 1000) := (wn_add e1 bC).of (by grind) (by grind)
  have one : Wn (vl (rvOf v y).cs * vl (rvOf v y).cs + vl (rvOf v y).ss * vl (rvOf v y).ss - 1) (5 / 100000000000000) := by
    have a := diff_sq e1 bc (bC.mono (by grind))
    have b := diff_sq e2 bs (bS.mono (by grind))
    exact (wn_add (wn_add a b) on).of (by grind) (by grind)
  have k1 := (lin_ok fcu fc fsu fs Z.fc1 (bcu.mono (by grind)) (bc.mono (by grind)) (bsu.mono (by grind)) (bs.mono (by grind)) (Z.bc1.mono (by grind))).2
  have k2 := (lin_ok fsu fc fcu fs Z.fc1 (bsu.mono (by grind)) (bc.mono (by grind)) (bcu.mono (by grind)) (bs.mono (by grind)) (Z.bc1.mono (by grind))).1
  have k3 := (lin_ok fsu fs fcu fc Z.fc1 (bsu.mono (by grind)) (bs.mono (by grind)) (bcu.mono (by grind)) (bc.mono (by grind)) (Z.bc1.mono (by grind))).2
  obtain ⟨f4, e4⟩ := mulE fs Z.fs1 _ (wn_mul bs Z.bs1) (by grind)
  exact ⟨k1.1, f4, k2.1, k3.1, k1.2, e4.mono (by rw [u1]; grind), k2.2, k3.2, bs, bc, one⟩
set_option maxHeartbeats 4000000 in
theorem xy_ok {v : LineV} (e : Ends v) {y : Nat} (w : Way v y) : Wn (vl (xR v y) - vl v.cu2 * (cis (nearP y)).re) (29 / 100000000000) ∧ Wn (vl (yR v y) - vl v.cu2 * (cis (nearP y)).im) (19 / 100000000000) := by
  have F := frm_ok e w
  obtain ⟨_, _, es, ec⟩ := arc_there w
  have Z := w.Z
  have A := w.A
  have B := w.B
  have bcu : Wn (vl v.cu1) (1001 / 1000) := e.h1.bc
  have bsu : Wn (vl v.su1) (9948 / 10000) := e.h1.bs
  have bc2 : Wn (vl v.cu2) (1001 / 1000) := e.h2.bc
  have n1 : Wn (vl v.cu1 * vl v.cu1 + vl v.su1 * vl v.su1 - 1) (1 / 100000000000000) := e.h1.one
  have bC := (cis_bd (nearP y)).re
  have ex := F.ex
  have ey := F.ey
  have r1 := B.r1
  have ecs := A.ecs
  unfold CSv at ecs
  constructor
  · have k1 := wn_mul bcu ec
    have k2 := wn_mul (wn_mul bsu es) Z.bc1
    have k3 := wn_mul bsu Z.et
    have k4 := wn_sub (wn_mul bcu ecs) (wn_mul bsu A.et)
    have k5 := wn_mul n1 (wn_mul bc2 bC)
    have tot := wn_add ex (wn_add (wn_sub (wn_sub k1 k2) k3) (wn_add k4 k5))
    exact tot.of (by grind) (by grind)
  · have k1 := wn_mul es Z.bs1
    have tot := wn_add ey (wn_add k1 (wn_add Z.ew A.ew))
    exact tot.of (by grind) (by grind)
abbrev hR (v : LineV) (y : Nat) : Nat := fsqrt (fadd (fmul (rvOf v y).sa (rvOf v y).sa) (fmul (rvOf v y).t (rvOf v y).t))
set_option maxHeartbeats 8000000 in
/-- how far from the axis -/
theorem h_ok {v : LineV} (e : Ends v) {y : Nat} (w : Way v y) : Fp.Fin (hR v y) ∧ 1 / 10 ≤ vl (hR v y) ∧ Wn (vl (hR v y) - vl v.cu2) (36 / 100000000000) ∧ Wn (vl (hR v y) * vl (hR v y) + vl (zR v y) * vl (zR v y) - 1) (1 / 1000000000000) ∧ Wn (vl (hR v y) * vl (hR v y) - (vl (xR v y) * vl (xR v y) + vl (yR v y) * vl (yR v y))) (33 / 100000000000000) := by
  have u1 : uu = 1 / 9007199254740992 := uu_eq
  have F := frm_ok e w
  obtain ⟨dx, dy⟩ := xy_ok e w
  have Z := w.Z
  have bcu : Wn (vl v.cu1) (1001 / 1000) := e.h1.bc
  have bsu : Wn (vl v.su1) (9948 / 10000) := e.h1.bs
  have bc2 : Wn (vl v.cu2) (1001 / 1000) := e.h2.bc
  have c20 : 103 / 1000 ≤ vl v.cu2 := e.h2.c0
  have n1 : Wn (vl v.cu1 * vl v.cu1 + vl v.su1 * vl v.su1 - 1) (1 / 100000000000000) := e.h1.one
  have nz := cis_one (nearP y)
  have bz := cis_bd (nearP y)
  have bC := bz.re
  have bS := bz.im
  have n2 := F.one
  have n3 := Z.one
  have esa := Z.esa
  have ft := F.ft
  have et := F.et
  have ex := F.ex
  have ey := F.ey
  have ez := F.ez
  have bc1 := Z.bc1
  have bs1 := Z.bs1
  have bss := F.bs
  have bcs := F.bc
  have fsa := Z.fsa
  have hh : hR v y = fsqrt (fadd (fmul (rvOf v y).sa (rvOf v y).sa) (fmul (rvOf v y).t (rvOf v y).t)) := rfl
  rw [hh]
  generalize xR v y = X at *
  generalize yR v y = Y at *
  generalize zR v y = ZZ at *
  generalize (rvOf v y).t = T at *
  generalize (rvOf v y).sa = SA at *
  generalize vl (rvOf v y).cs = k at *
  generalize vl (rvOf v y).ss = s at *
  generalize vl (rvOf v y).ca1 = a at *
  generalize vl (rvOf v y).sa1 = b at *
  generalize vl v.cu1 = c at *
  generalize vl v.su1 = q at *
  generalize vl v.cu2 = c2 at *
  generalize cis (nearP y) = z at *
  obtain ⟨x0, hx0⟩ : ∃ x0, x0 = c * k - q * s * a := ⟨_, rfl⟩
  obtain ⟨y0, hy0⟩ : ∃ y0, y0 = s * b := ⟨_, rfl⟩
  obtain ⟨z0, hz0⟩ : ∃ z0, z0 = q * k + c * s * a := ⟨_, rfl⟩
  obtain ⟨t0, ht0⟩ : ∃ t0, t0 = q * s - c * k * a := ⟨_, rfl⟩
  obtain ⟨s0, hs0⟩ : ∃ s0, s0 = c * b := ⟨_, rfl⟩
  rw [← hx0] at ex
  rw [← hy0] at ey
  rw [← hz0] at ez
  rw [← ht0] at et
  rw [← hs0] at esa
  -- the circles
  have id1 : Wn (s0 * s0 + t0 * t0 + z0 * z0 - 1) (17 / 100000000000000) := by
    have m := wn_add (wn_add n1 (wn_mul (wn_mul bcu bcu) n3)) (wn_mul n2 (wn_add (wn_mul bsu bsu) (wn_mul (wn_mul bcu bcu) (wn_mul bc1 bc1))))
    exact m.of (by rw [hs0, ht0, hz0]; grind) (by grind)
  have id2 : Wn (x0 * x0 + y0 * y0 + z0 * z0 - 1) (13 / 100000000000000) := by
    have m := wn_add (wn_add n2 (wn_mul (wn_mul bss bss) n3)) (wn_mul n1 (wn_add (wn_mul bcs bcs) (wn_mul (wn_mul bss bss) (wn_mul bc1 bc1))))
    exact m.of (by rw [hx0, hy0, hz0]; grind) (by grind)
  have sz : ∀ p : Rat, p * p ≤ 1 + 17 / 100000000000000 → Wn p (1001 / 1000) := fun p h => ⟨by have := le_of_sq (a := -p) (b := 1001 / 1000) (by grind) (by grind); grind, le_of_sq (by grind) (by grind)⟩
  have q1 := rsq_nonneg s0
  have q2 := rsq_nonneg t0
  have q3 := rsq_nonneg z0
  have q4 := rsq_nonneg x0
  have q5 := rsq_nonneg y0
  have bs0 := sz s0 (by have := id1.2; grind)
  have bt0 := sz t0 (by have := id1.2; grind)
  have bz0 := sz z0 (by have := id1.2; grind)
  have bx0 := sz x0 (by have := id2.2; grind)
  have by0 := sz y0 (by have := id2.2; grind)
  clear hx0 hy0 hz0 ht0 hs0 n1 n2 n3 bss bcs bc1 bs1 bcu bsu
  have bSA : Wn (vl SA) (101 / 100) := (wn_add esa bs0).of (by grind) (by grind)
  have bT : Wn (vl T) (101 / 100) := (wn_add et bt0).of (by grind) (by grind)
  have bX : Wn (vl X) (101 / 100) := (wn_add ex bx0).of (by grind) (by grind)
  have bY : Wn (vl Y) (101 / 100) := (wn_add ey by0).of (by grind) (by grind)
  have bZ : Wn (vl ZZ) (101 / 100) := (wn_add ez bz0).of (by grind) (by grind)
  obtain ⟨f1, g1⟩ := mulE fsa fsa _ (wn_mul bSA bSA) (by grind)
  obtain ⟨f2, g2⟩ := mulE ft ft _ (wn_mul bT bT) (by grind)
  have d1 := diff_sq esa bSA (bs0.mono (by grind))
  have d2 := diff_sq et bT (bt0.mono (by grind))
  have d3 := diff_sq ex bX (bx0.mono (by grind))
  have d4 := diff_sq ey bY (by0.mono (by grind))
  have d5 := diff_sq ez bZ (bz0.mono (by grind))
  have sm : Wn (vl (fmul SA SA) + vl (fmul T T) - (s0 * s0 + t0 * t0)) (6 / 1000000000000000) := (wn_add (wn_add g1 g2) (wn_add d1 d2)).of (by grind) (by rw [u1]; grind)
  obtain ⟨f3, g3⟩ := addE f1 f2 (1002 / 1000) (by have := sm.1; have := sm.2; have := id1.1; have := id1.2; constructor <;> grind) (by grind)
  generalize fadd (fmul SA SA) (fmul T T) = Q at *
  have eQ : Wn (vl Q - (s0 * s0 + t0 * t0)) (7 / 1000000000000000) := (wn_add g3 sm).of (by grind) (by rw [u1]; grind)
  -- the distance from the axis, squared
  have eXY : Wn (vl Q - (vl X * vl X + vl Y * vl Y)) (32 / 100000000000000) := (wn_sub (wn_sub (wn_add eQ id1) id2) (wn_add d3 d4)).of (by grind) (by grind)
  have eZ : Wn (vl Q + vl ZZ * vl ZZ - 1) (19 / 100000000000000) := (wn_add (wn_add eQ id1) d5).of (by grind) (by grind)
  have diff : MB (⟨vl X - c2 * z.re, vl Y - c2 * z.im⟩ : Cx) (347 / 1000000000000) := MB.of dx dy (by grind) (by grind)
  have c22 := mul_mono (show (0 : Rat) ≤ 103 / 1000 by grind) c20 (show (0 : Rat) ≤ 103 / 1000 by grind) c20
  have cc := wn_mul (wn_mul bc2 bc2) nz
  have len : Wn (vl X * vl X + vl Y * vl Y - c2 * c2) (2 / 1000000000) := by
    have a := wn_mul dx (wn_add bX (wn_mul bc2 bC))
    have b := wn_mul dy (wn_add bY (wn_mul bc2 bS))
    exact (wn_add (wn_add a b) cc).of (by grind) (by grind)
  have Q0 : 106 / 10000 ≤ vl Q := by have := len.1; have := eXY.1; grind
  have Q1 : vl Q ≤ 1001 / 1000 := by have := eZ.2; have := rsq_nonneg (vl ZZ); grind
  obtain ⟨f4, r0, g4⟩ := fsqrt_pos f3 (by grind) (big_le (by grind))
  generalize fsqrt Q = H at *
  have eH : Wn (vl H * vl H - vl Q) (1 / 1000000000000000) := g4.mono (by rw [u1]; grind)
  have H0 : 1 / 10 ≤ vl H := le_of_sq r0 (by have := eH.1; grind)
  have eHXY : Wn (vl H * vl H - (vl X * vl X + vl Y * vl Y)) (33 / 100000000000000) := (wn_add eH eXY).of (by grind) (by grind)
  refine ⟨f4, H0, ?_, (wn_add eH eZ).of (by grind) (by grind), eHXY⟩
  have cz : MB (Cx.sc c2 z) (c2 + 1 / 1000000000000) := by
    refine ⟨by grind, ?_⟩
    simp only [Cx.sc_re, Cx.sc_im]
    have := cc.2
    grind
  constructor
  · -- not less
    have m : MB (⟨vl X, vl Y⟩ : Cx) (vl H + 2 / 1000000000000) := by
      refine ⟨by grind, ?_⟩
      simp only
      have := eHXY.1
      grind
    have k := (m.sub diff).cast (show _ = Cx.sc c2 z from Cx.ext' (by simp; grind) (by simp; grind))
    have := k.2
    simp only [Cx.sc_re, Cx.sc_im] at this
    have : (c2 - 1 / 1000000000000) * (c2 - 1 / 1000000000000) ≤ (vl H + 2 / 1000000000000 + 347 / 1000000000000) * (vl H + 2 / 1000000000000 + 347 / 1000000000000) := by
      have := cc.1
      grind
    have := le_of_sq (by grind) this
    grind
  · have k := (cz.add diff).cast (show _ = (⟨vl X, vl Y⟩ : Cx) from Cx.ext' (by simp; grind) (by simp; grind))
    have := k.2
    simp only at this
    have : (vl H - 2 / 1000000000000) * (vl H - 2 / 1000000000000) ≤ (c2 + 1 / 1000000000000 + 347 / 1000000000000) * (c2 + 1 / 1000000000000 + 347 / 1000000000000) := by
      have := eHXY.2
      grind
    have := le_of_sq (by grind) this
    grind
end Go.Proofs.YtfhpnkmpjijebaaDoor

/- The place reached: its latitude. -/
namespace Go.Fp.Tri
open Go.Fp
set_option maxRecDepth 20000
/-- two points of the circle that lie along each other -/
theorem unit_close {γ σ h z ε : Rat} (n1 : Wn (γ * γ + σ * σ - 1) (1 / 1000000000000)) (n2 : Wn (h * h + z * z - 1) (1 / 1000000000000)) (hε : Wn (h * σ - z * γ) ε) (ε1 : ε ≤ 1 / 1000000000) (hd : -(1 / 2) ≤ h * γ + z * σ) :
    Wn (γ - h) (1001 / 1000 * ε + 5 / 1000000000000) ∧ Wn (σ - z) (1001 / 1000 * ε + 5 / 1000000000000) := by
  have ε0 := hε.nonneg
  have sz : ∀ p q : Rat, Wn (p * p + q * q - 1) (1 / 1000000000000) → Wn p (1001 / 1000) := by
    intro p q h
    have := rsq_nonneg q
    exact ⟨by have := le_of_sq (a := -p) (b := 1001 / 1000) (by grind) (by have := h.2; grind); grind, le_of_sq (by grind) (by have := h.2; grind)⟩
  have bg := sz γ σ n1
  have bs := sz σ γ (n1.of (by grind) Rat.le_refl)
  have bh := sz h z n2
  have bz := sz z h (n2.of (by grind) Rat.le_refl)
  obtain ⟨P, hP⟩ : ∃ P, P = h * γ + z * σ := ⟨_, rfl⟩
  obtain ⟨Z, hZ⟩ : ∃ Z, Z = h * σ - z * γ := ⟨_, rfl⟩
  rw [← hP] at hd
  rw [← hZ] at hε
  have ZZ := (wn_mul hε hε).2
  have Z0 := rsq_nonneg Z
  have ee : ε * ε ≤ 1 / 1000000000 * (1 / 1000000000) := mul_mono ε0 ε1 ε0 ε1
  have PZ : Wn (P * P + Z * Z - 1) (21 / 10000000000000) := by
    have m := wn_add (wn_add n1 n2) (wn_mul n1 n2)
    exact m.of (by rw [hP, hZ]; grind) (by grind)
  have P9 : 9 / 10 ≤ P := by
    rcases Rat.le_total (a := 9 / 10) (b := P) with k | k
    · exact k
    · exfalso
      have := (wn_mul (show Wn P (9 / 10) from ⟨by grind, k⟩) (show Wn P (9 / 10) from ⟨by grind, k⟩)).2
      have := PZ.1
      grind
  have P1 : Wn (P - 1) (23 / 10000000000000) := by
    refine wn_div (show 0 < P + 1 by grind) ?_
    have := PZ.1
    have := PZ.2
    constructor <;> grind
  constructor
  · have m := wn_sub (wn_sub (wn_mul bh P1) (wn_mul bz hε)) (wn_mul bg n2)
    exact m.of (by rw [hP, hZ]; grind) (by grind)
  · have m := wn_sub (wn_add (wn_mul bz P1) (wn_mul bh hε)) (wn_mul bs n2)
    exact m.of (by rw [hP, hZ]; grind) (by grind)
/-- the cosine of a latitude is no less than nothing -/
theorem cos_lat {L : Int} (h1 : -90000000000 ≤ L) (h2 : L ≤ 90000000000) : -(5 / 1000000000000) ≤ (cis L).re := by
  rcases Int.lt_or_le L 0 with k | k
  · have n := (cis_neg (-L)).re
    rw [show - -L = L by omega] at n
    have := (cis_first (q := -L) (by omega) (by omega)).1
    simp at n
    have := n.1
    grind
  · have := (cis_first k h2).1
    grind
theorem angle_true {y x : Nat} (hy : Fin y) (hx : Fin x) (h : vl x ≠ 0) : (angleP y x).2 = true := by
  have e : feq x 0 = false := by
    cases k : feq x 0 with
    | false => rfl
    | true => exact absurd ((feq_0 hx).1 k) h
  unfold angleP
  rw [fin_fin hx, fin_fin hy, e]
  simp only [Bool.not_true, Bool.or_self, Bool.false_and, Bool.false_eq_true, if_false]
  split
  · rfl
  · split
    · rfl
    · split <;> rfl
end Go.Fp.Tri
namespace Go.Proofs.YtfhpnkmpjijebaaDoor
open Go.Fp Go.Fp.Tri
set_option maxRecDepth 20000
theorem norm_sign (a : Int) : normP (signP a) = normP a := by unfold signP normP; split <;> omega
/-- what an angle's size is, on the right -/
theorem sign_lat {y x : Nat} (hy : Fp.Fin y) (hx : Fp.Fin x) (h : 0 < vl x) : -90000000000 ≤ signP (angleP y x).1 ∧ signP (angleP y x).1 ≤ 90000000000 := by
  obtain ⟨q0, q1⟩ := quad_range (absW x) (absW y)
  by_cases k : 0 ≤ vl y
  · rw [angle_pp hy hx (.inl (by grind)) (by grind) k]
    unfold signP normP
    split <;> omega
  · rw [angle_pn hy hx (by grind) (by grind)]
    unfold signP normP
    split <;> omega
abbrev latR (v : LineV) (y : Nat) : Int := signP (rvOf v y).north.1
set_option maxHeartbeats 4000000 in
/-- the latitude reached -/
theorem lat_ok {v : LineV} (e : Ends v) {y : Nat} (w : Way v y) : (rvOf v y).north.2 = true ∧ -90000000000 ≤ latR v y ∧ latR v y ≤ 90000000000 ∧
    ∀ n : Rat, 99 / 100 ≤ n → n ≤ 104 / 100 → Wn (n * n * ((cis (latR v y)).re * (cis (latR v y)).re + (1 - vl v.f) * (cis (latR v y)).im * ((1 - vl v.f) * (cis (latR v y)).im)) - 1) (1 / 10000000000000) →
      Wn (n * (cis (latR v y)).re - vl v.cu2) (42 / 100000000000) ∧ Wn (n * ((1 - vl v.f) * (cis (latR v y)).im) - vl v.su2) (36 / 100000000000) := by
  have u1 : uu = 1 / 9007199254740992 := uu_eq
  obtain ⟨fh, h0, eh, hz, _⟩ := h_ok e w
  obtain ⟨fz, ez⟩ := z_ok e w
  have ff := e.ff
  have f0 := e.f0
  have f1 := e.f1
  have hno : (rvOf v y).north = angleP (zR v y) (fmul (fsub (can c1) (can v.f)) (hR v y)) := rfl
  have hL : latR v y = signP (rvOf v y).north.1 := rfl
  rw [hL, hno, ff.can, v_c1.1.can]
  clear hL hno
  generalize hR v y = H at *
  generalize zR v y = ZZ at *
  generalize v.f = f at *
  obtain ⟨g1, e1⟩ := subE v_c1.1 ff 2 (by rw [v_c1.2]; constructor <;> grind) (by grind)
  rw [v_c1.2] at e1
  have H1 : vl H ≤ 1000001 / 1000000 := le_of_sq (by grind) (by have := hz.2; have := rsq_nonneg (vl ZZ); grind)
  have bH : Wn (vl H) (1000001 / 1000000) := ⟨by grind, H1⟩
  have bZ : Wn (vl ZZ) (1000001 / 1000000) := by
    have := hz.2
    have := rsq_nonneg (vl H)
    exact ⟨by have := le_of_sq (a := -vl ZZ) (b := 1000001 / 1000000) (by grind) (by grind); grind, le_of_sq (by grind) (by grind)⟩
  have bg : Wn (vl (fsub c1 f)) (1000001 / 1000000) := by obtain ⟨_, _⟩ := e1; rw [u1] at *; constructor <;> grind
  obtain ⟨g2, e2⟩ := mulE g1 fh _ (wn_mul bg bH) (by grind)
  have eX : Wn (vl (fmul (fsub c1 f) H) - (1 - vl f) * vl H) (7 / 10000000000000000) := (wn_add e2 (wn_mul e1 bH)).of (by grind) (by rw [u1]; grind)
  generalize fmul (fsub c1 f) H = X at *
  have xl := Rat.mul_le_mul_of_nonneg_right (show 98 / 100 ≤ 1 - vl f by grind) (show 0 ≤ vl H by grind)
  have xu := Rat.mul_le_mul_of_nonneg_right (show 1 - vl f ≤ 1 by grind) (show 0 ≤ vl H by grind)
  have X0 : 9 / 100 ≤ vl X := by have := eX.1; grind
  have X1 : vl X ≤ vl H + 7 / 10000000000000000 := by have := eX.2; grind
  refine ⟨angle_true fz g2 (by grind), (sign_lat fz g2 (by grind)).1, (sign_lat fz g2 (by grind)).2, ?_⟩
  obtain ⟨l1, l2⟩ := sign_lat fz g2 (show 0 < vl X by grind)
  obtain ⟨_, _, _, an⟩ := ang_all g2 fz (.inl (by grind)) (show Wn (vl X) 2 from ⟨by grind, by grind⟩) (bZ.mono (by grind))
  have sum : rabs (vl X) + rabs (vl ZZ) ≤ 14143 / 10000 := by
    refine le_of_sq (by grind) ?_
    have a1 := rabs_sqr (vl X)
    have a2 := rabs_sqr (vl ZZ)
    have a3 := rsq_nonneg (rabs (vl X) - rabs (vl ZZ))
    have a4 := sq_le_sq (show 0 ≤ vl X by grind) X1
    have := hz.2
    grind
  have ce : cis (signP (angleP ZZ X).1) = cis (angleP ZZ X).1 := cis_nm (norm_sign _)
  unfold Ang at an
  rw [← ce] at an
  generalize signP (angleP ZZ X).1 = L at *
  have c0 := cos_lat l1 l2
  have bC := (cis_bd L).re
  have bS := (cis_bd L).im
  obtain ⟨ac, al⟩ := an
  have ac : Wn (vl X * (cis L).im - vl ZZ * (cis L).re) (37 / 1000000000000) := ac.mono (by grind)
  have al : -(37 / 1000000000000) ≤ vl X * (cis L).re + vl ZZ * (cis L).im := by grind
  intro n n0 n1 nn
  have bn : Wn n (104 / 100) := ⟨by grind, n1⟩
  generalize (cis L).re = C at *
  generalize (cis L).im = S at *
  have bf : Wn (1 - vl f) 1 := ⟨by grind, by grind⟩
  have cr : Wn (vl H * (n * ((1 - vl f) * S)) - vl ZZ * (n * C)) (385 / 10000000000000) := by
    have a := wn_mul bn ac
    have b := wn_mul bn (wn_mul eX bS)
    exact (wn_sub a b).of (by grind) (by grind)
  have dot : -(1 / 2) ≤ vl H * (n * C) + vl ZZ * (n * ((1 - vl f) * S)) := by
    have m1 : -(1 / 1000) ≤ (1 - vl f) * (vl X * C + vl ZZ * S) := by
      have := Rat.mul_le_mul_of_nonneg_left al (show 0 ≤ 1 - vl f by grind)
      grind
    have m2 : -(1 / 1000) ≤ (vl H - (1 - vl f) * vl X) * C := by
      have xa := Rat.mul_le_mul_of_nonneg_right (show 1 - vl f ≤ 1 by grind) (show 0 ≤ vl X by grind)
      have xb := Rat.mul_nonneg (show 0 ≤ 1 - vl f by grind) (show 0 ≤ vl X by grind)
      obtain ⟨d, hd⟩ : ∃ d, d = vl H - (1 - vl f) * vl X + 7 / 10000000000000000 := ⟨_, rfl⟩
      have d0 : 0 ≤ d := by grind
      have d2 : d ≤ 2 := by grind
      have := Rat.mul_le_mul_of_nonneg_left c0 d0
      have bt := wn_mul (show Wn (7 / 10000000000000000 : Rat) (7 / 10000000000000000) from ⟨by grind, by grind⟩) bC
      have := bt.2
      have e : (vl H - (1 - vl f) * vl X) * C = d * C - 7 / 10000000000000000 * C := by rw [hd]; grind
      rw [e]
      grind
    have m3 := Rat.mul_le_mul_of_nonneg_left (show -(2 / 1000) ≤ vl H * C + vl ZZ * ((1 - vl f) * S) by grind) (show 0 ≤ n by grind)
    grind
  obtain ⟨k1, k2⟩ := unit_close (γ := n * C) (σ := n * ((1 - vl f) * S)) (nn.of (by grind) (by grind)) hz cr (by grind) dot
  exact ⟨(wn_add k1 eh).of (by grind) (by grind), (wn_add k2 ez).of (by grind) (by grind)⟩
end Go.Proofs.YtfhpnkmpjijebaaDoor

/- The place reached: its longitude, in whole nanodegrees. -/
namespace Go.Proofs.YtfhpnkmpjijebaaDoor
open Go.Fp Go.Fp.Tri
set_option maxRecDepth 20000
set_option maxHeartbeats 4000000 in
/-- two lengthenings of numbers that are next to each other -/
theorem lip_small {f s s' ca ca' κ κ' σ σ' r r' cs cs' m M' L L' : Rat} (f0 : 0 ≤ f) (f1 : f ≤ 10001 / 1000000) (bs' : Wn s' (1000001 / 1000000)) (ds : Wn (s' - s) (9 / 100000000000))
    (bca : Wn ca (1000001 / 1000000)) (dca : Wn (ca' - ca) (2 / 10000000000)) (eκ : Wn (κ - f / 16 * (4 + f * (4 - 3 * ca))) (1 / 10000000000000000)) (eκ' : Wn (κ' - f / 16 * (4 + f * (4 - 3 * ca'))) (1 / 10000000000000000)) (bκ : Wn κ (26 / 10000))
    (br : Wn r (1001 / 1000)) (dr : Wn (r' - r) (101 / 1000000000000)) (bcs' : Wn cs' (1002 / 1000)) (dcs : Wn (cs' - cs) (101 / 1000000000000)) (bm : Wn m 3) (dm : Wn (M' - m) (65 / 100000000000)) (bσ : Wn σ (31418 / 10000)) (dσ : Wn (σ' - σ) (21 / 1000000000000))
    (eL : Wn (L - (1 - κ * ca) * f * s * (σ + r * (κ * m + cs * (2 * (κ * m * (κ * m)) - κ * ca * (κ * ca))))) (2 / 100000000000000))
    (eL' : Wn (L' - (1 - κ' * ca') * f * s' * (σ' + r' * (κ' * M' + cs' * (2 * (κ' * M' * (κ' * M')) - κ' * ca' * (κ' * ca'))))) (2 / 1000000000000000)) :
    Wn (L' - L) (33 / 10000000000000) := by
  have bf : Wn f (10001 / 1000000) := ⟨by grind, f1⟩
  have two : Wn (2 : Rat) 2 := ⟨by grind, Rat.le_refl⟩
  have dκ : Wn (κ' - κ) (4 / 1000000000000000) := by
    have a := wn_mul (show Wn (3 / 16 : Rat) (3 / 16) from ⟨by grind, Rat.le_refl⟩) (wn_mul (wn_mul bf bf) dca)
    exact (wn_sub (wn_sub eκ' eκ) a).of (by grind) (by grind)
  have bκ' : Wn κ' (261 / 100000) := (wn_add dκ bκ).of (by grind) (by grind)
  have bca' : Wn ca' (1001 / 1000) := (wn_add dca bca).of (by grind) (by grind)
  have bM' : Wn M' (301 / 100) := (wn_add dm bm).of (by grind) (by grind)
  obtain ⟨q, hq⟩ : ∃ q, q = κ * ca := ⟨_, rfl⟩
  obtain ⟨q', hq'⟩ : ∃ q', q' = κ' * ca' := ⟨_, rfl⟩
  obtain ⟨p, hp⟩ : ∃ p, p = κ * m := ⟨_, rfl⟩
  obtain ⟨p', hp'⟩ : ∃ p', p' = κ' * M' := ⟨_, rfl⟩
  have bq : Wn q (27 / 10000) := hq ▸ (wn_mul bκ bca).mono (by grind)
  have bq' : Wn q' (27 / 10000) := hq' ▸ (wn_mul bκ' bca').mono (by grind)
  have bp : Wn p (79 / 10000) := hp ▸ (wn_mul bκ bm).mono (by grind)
  have bp' : Wn p' (79 / 10000) := hp' ▸ (wn_mul bκ' bM').mono (by grind)
  have dq : Wn (q' - q) (54 / 100000000000000) := by
    have a := wn_add (wn_mul bκ' dca) (wn_mul bca dκ)
    exact a.of (by rw [hq, hq']; grind) (by grind)
  have dp : Wn (p' - p) (18 / 10000000000000) := by
    have a := wn_add (wn_mul bκ' dm) (wn_mul bm dκ)
    exact a.of (by rw [hp, hp']; grind) (by grind)
  rw [← hp, ← hq] at eL
  rw [← hp', ← hq'] at eL'
  clear hp hp' hq hq' eκ eκ' dκ dca dm bM' bca bca' bκ bκ'
  obtain ⟨E, hE⟩ : ∃ E, E = 2 * (p * p) - q * q := ⟨_, rfl⟩
  obtain ⟨E', hE'⟩ : ∃ E', E' = 2 * (p' * p') - q' * q' := ⟨_, rfl⟩
  have bE : Wn E (14 / 100000) := hE ▸ (wn_sub (wn_mul two (wn_mul bp bp)) (wn_mul bq bq)).mono (by grind)
  have bE' : Wn E' (14 / 100000) := hE' ▸ (wn_sub (wn_mul two (wn_mul bp' bp')) (wn_mul bq' bq')).mono (by grind)
  have dE : Wn (E' - E) (1 / 10000000000000) := by
    have a := wn_sub (wn_mul two (wn_mul dp (wn_add bp' bp))) (wn_mul dq (wn_add bq' bq))
    exact a.of (by rw [hE, hE']; grind) (by grind)
  rw [← hE] at eL
  rw [← hE'] at eL'
  clear hE hE'
  obtain ⟨U, hU⟩ : ∃ U, U = p + cs * E := ⟨_, rfl⟩
  obtain ⟨U', hU'⟩ : ∃ U', U' = p' + cs' * E' := ⟨_, rfl⟩
  have bU' : Wn U' (81 / 10000) := hU' ▸ (wn_add bp' (wn_mul bcs' bE')).mono (by grind)
  have dU : Wn (U' - U) (2 / 1000000000000) := by
    have a := wn_add dp (wn_add (wn_mul bcs' dE) (wn_mul dcs bE))
    exact a.of (by rw [hU, hU']; grind) (by grind)
  have bU : Wn U (82 / 10000) := (wn_sub bU' dU).of (by grind) (by grind)
  rw [← hU] at eL
  rw [← hU'] at eL'
  clear hU hU' dE bE bE' dp bp bp'
  obtain ⟨B, hB⟩ : ∃ B, B = σ + r * U := ⟨_, rfl⟩
  obtain ⟨B', hB'⟩ : ∃ B', B' = σ' + r' * U' := ⟨_, rfl⟩
  have bB : Wn B (3151 / 1000) := hB ▸ (wn_add bσ (wn_mul br bU)).mono (by grind)
  have dB : Wn (B' - B) (24 / 1000000000000) := by
    have a := wn_add dσ (wn_add (wn_mul dr bU') (wn_mul br dU))
    exact a.of (by rw [hB, hB']; grind) (by grind)
  rw [← hB] at eL
  rw [← hB'] at eL'
  have bA : Wn (1 - q) (10027 / 10000) := by obtain ⟨_, _⟩ := bq; constructor <;> grind
  have bA' : Wn (1 - q') (10027 / 10000) := by obtain ⟨_, _⟩ := bq'; constructor <;> grind
  have dA : Wn ((1 - q') * s' - (1 - q) * s) (91 / 1000000000000) := by
    have a := wn_sub (wn_mul bA ds) (wn_mul dq bs')
    exact a.of (by grind) (by grind)
  have tot := wn_mul bf (wn_add (wn_mul dA bB) (wn_mul (wn_mul bA' bs') dB))
  exact (wn_add (wn_sub eL' eL) tot).of (by grind) (by grind)
abbrev LHr (v : LineV) (y : Nat) : Nat := longerP (can v.f) (thirdP (can v.f) (rvOf v y).ca) (rvOf v y).sa (rvOf v y).o (rvOf v y).ss (rvOf v y).cs (rvOf v y).cm
set_option maxHeartbeats 4000000 in
theorem long_r {v : LineV} (e : Ends v) {y : Nat} (w : Way v y) : Fp.Fin (LHr v y) ∧ Wn (vl (LHr v y) - vl (LHv v y)) (33 / 10000000000000) := by
  have F := frm_ok e w
  obtain ⟨fss, fcs, es, ec⟩ := arc_there w
  have Z := w.Z
  have A := w.A
  have B := w.B
  obtain ⟨κ, c⟩ := w.C
  have bca : Wn (vl (v.ca y)) (1000001 / 1000000) := ⟨by have := B.ca0; grind, B.ca1⟩
  have bcar : Wn (vl (rvOf v y).ca) (1000002 / 1000000) := (wn_add Z.dca bca).of (by grind) (by grind)
  have bsar : Wn (vl (rvOf v y).sa) (1000001 / 1000000) := (wn_add Z.dsa B.bsa).of (by grind) (by grind)
  have hcar : (rvOf v y).ca = fsub c1 (fmul (rvOf v y).sa (rvOf v y).sa) := by unfold ReachV.ca; rw [c1_can]
  have nca := nca_gen Z.fsa (bsar.mono (show _ ≤ (1001 / 1000 : Rat) by grind))
  rw [← hcar] at nca
  obtain ⟨κ', ft, et, eκ'⟩ := third_gen e.ff e.f0 e.f1 Z.fca (bcar.mono (by grind)) nca
  obtain ⟨a0, a1⟩ := arc_le B.o0 B.o1
  have bσ : Wn ((oIv v y : Rat) * rho) (31418 / 10000) := ⟨by grind, a1⟩
  have bo : Wn (vl (rvOf v y).o) (32 / 10) := (wn_add w.eo bσ).of (by grind) (by grind)
  obtain ⟨⟨fm, em⟩, _⟩ := cis_near (nearP (fadd (fmul (can c2) (rvOf v y).s1) (rvOf v y).o))
  unfold tol at em
  have bm := (cis_bd (nearP (fadd (fmul (can c2) (rvOf v y).s1) (rvOf v y).o))).re
  have hcm : (rvOf v y).cm = cosP (nearP (fadd (fmul (can c2) (rvOf v y).s1) (rvOf v y).o)) := fm.can
  have dm := w.hm
  rw [← hcm] at fm em dm
  have bcm : Wn (vl (rvOf v y).cm) (1001 / 1000) := (wn_add em bm).of (by grind) (by grind)
  have f0 := e.f0
  have f1 := e.f1
  have bf : Wn (vl v.f) (10001 / 1000000) := ⟨by grind, f1⟩
  have bκ' : Wn κ' (27 / 10000) := by
    have a := wn_mul (show Wn (3 : Rat) 3 from ⟨by grind, by grind⟩) bcar
    have b := wn_mul bf (wn_sub (show Wn (4 : Rat) 4 from ⟨by grind, by grind⟩) a)
    have c := wn_mul (wn_mul (show Wn (1 / 16 : Rat) (1 / 16) from ⟨by grind, by grind⟩) bf) (wn_add (show Wn (4 : Rat) 4 from ⟨by grind, by grind⟩) b)
    exact (wn_add eκ' c).of (by grind) (by grind)
  have cbd : Wn (vl (thirdP v.f (rvOf v y).ca)) (3 / 1000) := by rw [et]; exact (wn_mul bκ' bcar).mono (by grind)
  have cK : Wn (vl (thirdP v.f (rvOf v y).ca) * vl (rvOf v y).cm) (1 / 100) := (wn_mul cbd bcm).mono (by grind)
  have cK' := rabs_le cK
  rw [rabs_mul] at cK'
  have rm := rabs_le bcm
  obtain ⟨fH, eH⟩ := long_gen e.ff e.f0 e.f1 ft Z.fsa w.fo fcs fss fm (bsar.mono (by grind)) bo (F.bc.mono (by grind)) (F.bs.mono (by grind)) (rabs_le cbd) (by grind) cK'
  have hf : can v.f = v.f := e.ff.can
  have hLr : LHr v y = longerP v.f (thirdP v.f (rvOf v y).ca) (rvOf v y).sa (rvOf v y).o (rvOf v y).ss (rvOf v y).cs (rvOf v y).cm := by unfold LHr; rw [hf]
  rw [hLr]
  refine ⟨fH, ?_⟩
  rw [et] at eH
  have br : Wn (vl (v.ss y)) (1001 / 1000) := ⟨by have := B.r0; grind, B.r1⟩
  refine lip_small (M' := vl (rvOf v y).ca * vl (rvOf v y).cm) (κ' := κ') (ca' := vl (rvOf v y).ca) (s' := vl (rvOf v y).sa) (σ' := vl (rvOf v y).o) (r' := vl (rvOf v y).ss) (cs' := vl (rvOf v y).cs) f0 f1 bsar Z.dsa bca Z.dca c.eκ eκ' c.κ0 br es F.bc ec c.bm dm bσ w.eo c.eH (eH.of ?_ Rat.le_refl)
  rw [show κ' * vl (rvOf v y).ca * vl (rvOf v y).cm = κ' * (vl (rvOf v y).ca * vl (rvOf v y).cm) by grind]
theorem int_one {d : Int} {E : Rat} (h : Wn ((d : Rat) * rho) E) (hE : E ≤ 34 / 1000000000000) : -1 ≤ d ∧ d ≤ 1 := by
  have p := Rat.le_of_lt rho_pos
  have lo := rho_lo
  constructor
  · rcases Int.lt_or_le d (-1) with q | q
    · exfalso
      have t := Rat.mul_le_mul_of_nonneg_right (castle (show d ≤ -2 by omega)) p
      have e : ((-2 : Int) : Rat) = -2 := rfl
      rw [e] at t
      have := h.1
      grind
    · exact q
  · rcases Int.lt_or_le 1 d with q | q
    · exfalso
      have t := Rat.mul_le_mul_of_nonneg_right (castle (show 2 ≤ d by omega)) p
      have e : ((2 : Int) : Rat) = 2 := rfl
      rw [e] at t
      have := h.2
      grind
    · exact q
set_option maxHeartbeats 4000000 in
/-- the difference of longitudes found, against its own lengthening -/
theorem all_ok {v : LineV} (e : Ends v) {g : Int} {y : Nat} (h : Fnd v g y) : Wn ((nearP y : Rat) * rho - (A0v v : Rat) * rho - vl (LHv v y)) (17 / 1000000000000) := by
  obtain ⟨hy, x, hx, _, h1, h2⟩ := h
  have d : -1 ≤ nearP y - nearP x ∧ nearP y - nearP x ≤ 1 := by
    refine int_one (E := 29 / 1000000000000) ?_ (by grind)
    rw [Rat.intCast_sub]
    exact (wn_add (wn_sub hy.ne hx.ne) h2).of (by grind) (by grind)
  have l := (pair_lip e (⟨hx, hy, h1, by omega, by omega⟩ : Pair v g x y 1)).2 (by omega)
  have e1 : ((1 : Int) : Rat) = 1 := rfl
  rw [e1] at l
  have hi := rho_hi
  exact (wn_sub (wn_add hy.ne h1) l).of (by grind) (by grind)
abbrev lonR (v : LineV) (y : Nat) : Int := signP (normP v.lonA + normP (rvOf v y).east)
set_option maxHeartbeats 4000000 in
/-- the longitude reached: that asked for and what the angle is off -/
theorem lon_int {v : LineV} (e : Ends v) {g : Int} {y : Nat} (h : Fnd v g y) (w : Way v y) : ∃ d : Int, -1 ≤ d ∧ d ≤ 1 ∧ normP (lonR v y) = normP (v.lonB + ((rvOf v y).ang - nearP y) + d) := by
  have u1 : uu = 1 / 9007199254740992 := uu_eq
  obtain ⟨fL, dL⟩ := long_r e w
  have al := all_ok e h
  obtain ⟨j, wi⟩ := h.at1.w
  obtain ⟨_, _, _, bL⟩ := long_at e wi (k := 180000000000 - g * nearP y) (by omega)
  have sr : -180000000000 < signP (rvOf v y).ang ∧ signP (rvOf v y).ang ≤ 180000000000 := by
    generalize (rvOf v y).ang = q
    unfold signP normP
    split <;> omega
  obtain ⟨fl, el⟩ := rad_near (n := signP (rvOf v y).ang) (B := 180000000000) (by omega) (by omega) (by omega)
  have hl : (rvOf v y).l = radP (signP (rvOf v y).ang) := rfl
  rw [← hl] at fl el
  have bl : Wn (vl (rvOf v y).l) (31419 / 10000) := by
    have b := (rho_int (d := signP (rvOf v y).ang) (B := 180000000000) (by omega) (by omega)).mono (arc_le (o := 180000000000) (by omega) (by omega)).2
    exact (wn_add el b).of (by grind) (by grind)
  have bLr : Wn (vl (LHr v y)) (317 / 10000) := (wn_add dL bL).of (by grind) (by grind)
  obtain ⟨fe, ee⟩ := subE fl fL _ (wn_sub bl bLr) (by grind)
  have be : Wn (vl (fsub (rvOf v y).l (LHr v y))) 16 := (wn_add ee (wn_sub bl bLr)).of (by grind) (by rw [u1]; grind)
  have ne := near_16 fe be
  have he : (rvOf v y).east = nearP (fsub (rvOf v y).l (LHr v y)) := rfl
  rw [← he] at ne
  obtain ⟨d, hd⟩ : ∃ d, d = (rvOf v y).east - (signP (rvOf v y).ang - nearP y + A0v v) := ⟨_, rfl⟩
  obtain ⟨d1, d2⟩ : -1 ≤ d ∧ d ≤ 1 := by
    refine int_one (E := 30 / 1000000000000) ?_ (by grind)
    have t := wn_add (wn_sub (wn_add ne (wn_add ee el)) dL) al
    refine t.of ?_ (by rw [u1]; grind)
    rw [hd, Rat.intCast_sub, Rat.intCast_add, Rat.intCast_sub]
    grind
  refine ⟨d, d1, d2, ?_⟩
  have hA : A0v v = signP (normP v.lonB - normP v.lonA) := rfl
  have hR : lonR v y = signP (normP v.lonA + normP (rvOf v y).east) := rfl
  rw [hR, norm_sign]
  rw [hA] at hd
  generalize (rvOf v y).east = E at *
  generalize (rvOf v y).ang = G at *
  generalize nearP y = m at *
  generalize v.lonA = a at *
  generalize v.lonB = b at *
  have s1 : ∃ k, signP G = G + 360000000000 * k := by unfold signP normP; split; exact ⟨-(G / 360000000000) - 1, by omega⟩; exact ⟨-(G / 360000000000), by omega⟩
  have s2 : ∃ k, signP (normP b - normP a) = b - a + 360000000000 * k := by
    unfold signP normP
    split
    · exact ⟨-((b % 360000000000 - a % 360000000000) / 360000000000) - 1 - b / 360000000000 + a / 360000000000, by omega⟩
    · exact ⟨-((b % 360000000000 - a % 360000000000) / 360000000000) - b / 360000000000 + a / 360000000000, by omega⟩
  obtain ⟨k1, h1⟩ := s1
  obtain ⟨k2, h2⟩ := s2
  rw [h1, h2] at hd
  unfold normP
  omega
end Go.Proofs.YtfhpnkmpjijebaaDoor

/- The place reached: its longitude, as a point of the circle. -/
namespace Go.Proofs.YtfhpnkmpjijebaaDoor
open Go.Fp Go.Fp.Tri
set_option maxRecDepth 20000
set_option maxHeartbeats 4000000 in
/-- the angle on the ball, against the difference of longitudes -/
theorem ang_ok {v : LineV} (e : Ends v) {y : Nat} (w : Way v y) : MB (Cx.sc (vl v.cu2) ((cis (rvOf v y).ang).sub (cis (nearP y)))) (92 / 100000000000) := by
  have F := frm_ok e w
  obtain ⟨_, h0, eh, _, hxy⟩ := h_ok e w
  obtain ⟨dx, dy⟩ := xy_ok e w
  have fx := F.fx
  have fy := F.fy
  have ha : (rvOf v y).ang = (angleP (yR v y) (xR v y)).1 := rfl
  rw [ha]
  have c20 : 103 / 1000 ≤ vl v.cu2 := e.h2.c0
  have bc2 : Wn (vl v.cu2) (1001 / 1000) := e.h2.bc
  have H1 : vl (hR v y) ≤ 1002 / 1000 := by have := eh.2; have := bc2.2; grind
  generalize xR v y = X at *
  generalize yR v y = Y at *
  generalize vl (hR v y) = H at *
  have HH := mul_mono (show 0 ≤ H by grind) H1 (show 0 ≤ H by grind) H1
  have HH0 := mul_mono (show (0 : Rat) ≤ 1 / 10 by grind) h0 (show (0 : Rat) ≤ 1 / 10 by grind) h0
  have x2 := rsq_nonneg (vl X)
  have y2 := rsq_nonneg (vl Y)
  have sz : ∀ p q : Rat, 0 ≤ q → p * p + q ≤ 1005 / 1000 → Wn p (101 / 100) := fun p q q0 h => ⟨by have := le_of_sq (a := -p) (b := 101 / 100) (by grind) (by grind); grind, le_of_sq (by grind) (by grind)⟩
  have bX := sz (vl X) (vl Y * vl Y) y2 (by have := hxy.1; grind)
  have bY := sz (vl Y) (vl X * vl X) x2 (by have := hxy.1; grind)
  have nz : vl X ≠ 0 ∨ vl Y ≠ 0 := by
    by_cases k : vl X = 0
    · right
      intro k2
      rw [k, k2] at hxy
      have := hxy.2
      grind
    · exact .inl k
  obtain ⟨_, _, _, an⟩ := ang_all fx fy nz (bX.mono (by grind)) (bY.mono (by grind))
  have sum : rabs (vl X) + rabs (vl Y) ≤ 142 / 100 := by
    refine le_of_sq (by grind) ?_
    have a1 := rabs_sqr (vl X)
    have a2 := rabs_sqr (vl Y)
    have a3 := rsq_nonneg (rabs (vl X) - rabs (vl Y))
    have := hxy.1
    grind
  have an' : Ang (angleP Y X).1 (vl X) (vl Y) (371 / 10000000000000) := ⟨an.1.mono (by grind), by have := an.2; grind⟩
  obtain ⟨d1, d2⟩ := dir_of (R := H) (e := 33 / 100000000000000) (k := 4 / 1000000000000) hxy (by grind) (bX.mono (by grind)) (bY.mono (by grind)) an' (by grind) (by grind)
  generalize (angleP Y X).1 = a at *
  have bC := (cis_bd a).re
  have bS := (cis_bd a).im
  generalize cis a = u at *
  generalize cis (nearP y) = z at *
  generalize vl v.cu2 = c2 at *
  refine MB.of (x := 695 / 1000000000000) (y := 595 / 1000000000000) ?_ ?_ (by grind) (by grind)
  · simp only [Cx.sc_re, Cx.sub_re]
    exact (wn_add (wn_sub d1 (wn_mul eh bC)) dx).of (by grind) (by grind)
  · simp only [Cx.sc_im, Cx.sub_im]
    exact (wn_add (wn_sub d2 (wn_mul eh bS)) dy).of (by grind) (by grind)
set_option maxHeartbeats 4000000 in
/-- the longitude reached -/
theorem lon_ok {v : LineV} (e : Ends v) {g : Int} {y : Nat} (h : Fnd v g y) (w : Way v y) : MB (Cx.sc (vl v.cu2) ((cis (lonR v y)).sub (cis v.lonB))) (96 / 100000000000) := by
  obtain ⟨d, d1, d2, hn⟩ := lon_int e h w
  rw [cis_nm hn]
  have an := ang_ok e w
  have bc2 : Wn (vl v.cu2) (1001 / 1000) := e.h2.bc
  generalize (rvOf v y).ang = G at *
  generalize nearP y = m at *
  generalize v.lonB = b at *
  generalize vl v.cu2 = c at *
  have a1 := cis_add b (G + -m)
  have a2 := cis_add G (-m)
  have a3 := cis_neg m
  have a4 := cis_chord (a := b + (G + -m)) (d := d) (B := 1) (by omega) d2 (by omega)
  have hρ : ((1 : Int) : Rat) * rho * (1005 / 1000) + 3 / 1000000000000 ≤ 21 / 1000000000000 := by
    have := rho_hi
    have e : ((1 : Int) : Rat) = 1 := rfl
    rw [e]; grind
  have a4 := a4.mono hρ
  rw [show b + (G + -m) + d = b + (G - m) + d by omega] at a4
  have nm := cis_one m
  have bb := cis_bd b
  have bG := cis_bd G
  have bm := cis_bd m
  have bmc : MB (⟨(cis m).re, -(cis m).im⟩ : Cx) (1000001 / 1000000) := ⟨bm.1, by have := bm.2; show (cis m).re * (cis m).re + -(cis m).im * -(cis m).im ≤ _; grind⟩
  generalize cis (b + (G - m) + d) = w1 at *
  generalize cis (b + (G + -m)) = w2 at *
  generalize cis (G + -m) = w3 at *
  generalize cis (-m) = w4 at *
  generalize cis b = B at *
  generalize cis G = u at *
  generalize cis m = z at *
  -- on the circle
  have k1 := ((bb.mul an).mul bmc)
  have k2 := (((bb.sc (wn_mul bc2 nm))))
  have k3 := (a4.add a1).sc bc2
  have k4 := ((bb.mul (a2.add (bG.mul a3)))).sc bc2
  have tot := (((k1.add k2).add k3).add k4)
  refine (tot.cast ?_).mono (by grind)
  exact Cx.ext' (by simp; grind) (by simp; grind)
end Go.Proofs.YtfhpnkmpjijebaaDoor

/- The place reached and the place asked for: their vectors are near each other. -/
namespace Go.Proofs.YtfhpnkmpjijebaaDoor
open Go.Fp Go.Fp.Tri
set_option maxRecDepth 20000
abbrev c02 : Nat := 4581421828931458171
theorem v_c02 : Fp.Fin c02 ∧ 1999 / 100000 ≤ vl c02 := by
  obtain ⟨a, b⟩ : Fp.Fin c02 ∧ vl c02 = 5764607523034235 / 288230376151711744 := vl_const (s := false) (m := 5764607523034235) (k := 58) (by decide +kernel) (by decide +kernel)
  exact ⟨a, by rw [b]; grind⟩
theorem len_small {x y z : Nat} (fx : Fp.Fin x) (fy : Fp.Fin y) (fz : Fp.Fin z) (bx : Wn (vl x) (94 / 10000)) (by1 : Wn (vl y) (94 / 10000)) (bz : Wn (vl z) (94 / 10000)) : fle (lenP x y z) c02 = true := by
  have u1 : uu = 1 / 9007199254740992 := uu_eq
  have sq : ∀ p : Nat, Fp.Fin p → Wn (vl p) (94 / 10000) → Fp.Fin (fmul p p) ∧ 0 ≤ vl (fmul p p) ∧ vl (fmul p p) ≤ 8837 / 100000000 := by
    intro p fp bp
    obtain ⟨f, e⟩ := mulE fp fp _ (wn_mul bp bp) (by grind)
    have := (wn_mul bp bp).2
    exact ⟨f, fmul_nonneg fp fp _ (wn_mul bp bp) (big_le' (by grind)) (rsq_nonneg _), by have := e.2; rw [u1] at this; grind⟩
  obtain ⟨f1, p1, q1⟩ := sq x fx bx
  obtain ⟨f2, p2, q2⟩ := sq y fy by1
  obtain ⟨f3, p3, q3⟩ := sq z fz bz
  have h : lenP x y z = fsqrt (fadd (fadd (fmul x x) (fmul y y)) (fmul z z)) := rfl
  rw [h]
  have b12 : Wn (vl (fmul x x) + vl (fmul y y)) 1 := ⟨by grind, by grind⟩
  obtain ⟨f4, e4⟩ := addE f1 f2 _ b12 (by grind)
  have p4 := fadd_nonneg f1 f2 _ b12 (big_le' (by grind)) (by grind)
  have q4 : vl (fadd (fmul x x) (fmul y y)) ≤ 17675 / 100000000 := by have := e4.2; rw [u1] at this; grind
  have b34 : Wn (vl (fadd (fmul x x) (fmul y y)) + vl (fmul z z)) 1 := ⟨by grind, by grind⟩
  obtain ⟨f5, e5⟩ := addE f4 f3 _ b34 (by grind)
  have p5 := fadd_nonneg f4 f3 _ b34 (big_le' (by grind)) (by grind)
  have q5 : vl (fadd (fadd (fmul x x) (fmul y y)) (fmul z z)) ≤ 26513 / 100000000 := by have := e5.2; rw [u1] at this; grind
  generalize fadd (fadd (fmul x x) (fmul y y)) (fmul z z) = Q at *
  obtain ⟨fc, c0⟩ := v_c02
  by_cases k : vl Q = 0
  · obtain ⟨g, e⟩ := fsqrt_zero f5 k
    rw [fle_vl g fc, e]
    grind
  · obtain ⟨g, r0, e⟩ := fsqrt_pos f5 (by grind) (big_le (by grind))
    rw [fle_vl g fc]
    have : vl (fsqrt Q) ≤ 17 / 1000 := le_of_sq (by grind) (by have := e.2; rw [u1] at this; grind)
    grind
variable {a f : Nat}
theorem ecc_val (s : Snd a f 0) : Wn (vl (eccP f) - (2 * vl f - vl f * vl f)) (1 / 1000000000000000) := by
  have f1 := s.f1
  have f2 := s.f2
  have u1 : uu = 1 / 9007199254740992 := uu_eq
  unfold eccP
  rw [s.ff.can, v_two.1.can]
  have bf : Wn (vl f) (10001 / 1000000) := ⟨by grind, f2⟩
  obtain ⟨g1, e1⟩ := subE v_two.1 s.ff 2 (by rw [v_two.2]; constructor <;> grind) (by grind)
  rw [v_two.2] at e1
  have b1 : Wn (vl (fsub 4611686018427387904 f)) (201 / 100) := by obtain ⟨_, _⟩ := e1; rw [u1] at *; constructor <;> grind
  obtain ⟨g2, e2⟩ := mulE s.ff g1 _ (wn_mul bf b1) (by grind)
  exact (wn_add e2 (wn_mul bf e1)).of (by grind) (by rw [u1]; grind)
set_option maxHeartbeats 4000000 in
/-- the vector of a place: how far across, how far up -/
theorem vec_at (s : Snd a f 0) {L : Int} (l1 : -90000000000 ≤ L) (l2 : L ≤ 90000000000) : ∃ n : Rat, 99 / 100 ≤ n ∧ n ≤ 103 / 100 ∧
    Wn (n * n * ((cis L).re * (cis L).re + (1 - vl f) * (cis L).im * ((1 - vl f) * (cis L).im)) - 1) (1 / 10000000000000) ∧
    Fp.Fin (vecD a f L 0) ∧ Wn (vl (vecD a f L 0) - vl a * (n * (cis L).re)) (vl a * (4 / 100000000000000)) ∧
    Fp.Fin (vecZ a f L 0) ∧ Wn (vl (vecZ a f L 0) - vl a * ((1 - vl f) * (n * ((1 - vl f) * (cis L).im)))) (vl a * (6 / 100000000000000)) := by
  obtain ⟨m, g, hs, m0, m1⟩ : ∃ (m : Int) (g : Rat), Sgn L m g ∧ 0 ≤ m ∧ m ≤ 90000000000 := by
    by_cases k : 0 ≤ L
    · exact ⟨L, 1, .inl ⟨rfl, rfl⟩, k, l2⟩
    · exact ⟨-L, -1, .inr ⟨by omega, rfl⟩, by omega, by omega⟩
  obtain ⟨n, R, hr⟩ := rad_some s hs m0 m1
  obtain ⟨fD, eD⟩ := vecD_near s hs m0 m1 hr
  obtain ⟨fZ, eZ, _⟩ := vecZ_near s hs m0 m1 hr
  obtain ⟨⟨_, es⟩, ⟨_, ec⟩⟩ := sc_sgn hs m0 m1
  obtain ⟨⟨_, e1⟩, ⟨_, e2⟩⟩ := cis_near L
  have one := cis_one L
  have bC := (cis_bd L).re
  have bS := (cis_bd L).im
  have bI := wn_sI (m := m) (by omega) m1
  have bK := wn_cI (m := m) (by omega) m1
  have ev := ecc_val s
  have hR := hr.hR
  rw [v_0.2] at hR
  have lo := hr.lo
  have hi := hr.hi
  have rel := hr.rel
  have a1 := s.a1
  have f1 := s.f1
  have f2 := s.f2
  have gg := hs.sq
  unfold tol at e1 e2
  have dC : Wn ((cis L).re - cI m) (21 / 1000000000000000) := (wn_sub ec e1).of (by grind) (by grind)
  have dS : Wn ((cis L).im - g * sI m) (21 / 1000000000000000) := by
    have k := hs.wn es
    refine (wn_sub k e2).of ?_ (by grind)
    have : g * (g * vl (sinP L) - sI m) = g * g * vl (sinP L) - g * sI m := by grind
    rw [this, gg]; grind
  have bgI : Wn (g * sI m) (1002 / 1000) := hs.wn (bI.mono (by grind))
  have eZ2 := hs.wn eZ
  generalize vecD a f L 0 = DD at *
  generalize vecZ a f L 0 = ZZ at *
  generalize (cis L).re = C at *
  generalize (cis L).im = S at *
  generalize vl (eccP f) = E at *
  generalize cI m = cm at *
  obtain ⟨sg, hsg⟩ : ∃ sg, sg = g * sI m := ⟨_, rfl⟩
  have sg2 : sI m * sI m = sg * sg := by
    have : sg * sg = g * g * (sI m * sI m) := by rw [hsg]; grind
    rw [this, gg]; grind
  rw [sg2] at rel
  rw [← hsg] at dS bgI
  have eZ3 : Wn (vl ZZ - (R - E * (vl a * n)) * sg) (R * (13 / 1000000000000000)) := by
    refine eZ2.of ?_ Rat.le_refl
    have : g * (g * vl ZZ - (R - E * (vl a * n)) * sI m) = g * g * vl ZZ - (R - E * (vl a * n)) * sg := by rw [hsg]; grind
    rw [this, gg]; grind
  have bn : Wn n (103 / 100) := ⟨by grind, hi⟩
  have bf : Wn (1 - vl f) 1 := ⟨by grind, by grind⟩
  have bf1 : Wn (vl f) (10001 / 1000000) := ⟨by grind, f2⟩
  have be : Wn (2 * vl f - vl f * vl f) (21 / 1000) := by
    have := rsq_nonneg (vl f)
    have := (wn_mul bf1 bf1).2
    exact ⟨by grind, by grind⟩
  refine ⟨n, lo, hi, ?_, fD, ?_, fZ, ?_⟩
  · have k1 := wn_mul dS (wn_add (bS.mono (show _ ≤ (1002 / 1000 : Rat) by grind)) bgI)
    have k2 := wn_mul (wn_mul bn bn) (wn_sub (wn_sub one (wn_mul be k1)) (wn_mul (wn_neg ev) (wn_mul bgI bgI)))
    have tot := wn_add rel k2
    exact tot.of (by grind) (by grind)
  · have k := wn_mul (wn_pos (show 0 ≤ vl a by grind)) (wn_mul bn dC)
    refine (wn_sub eD k).of (by rw [hR]; grind) ?_
    rw [hR]
    have := Rat.mul_le_mul_of_nonneg_left hi (show 0 ≤ vl a by grind)
    grind
  · have k1 := wn_mul (wn_pos (show 0 ≤ vl a by grind)) (wn_mul bn (wn_mul (wn_mul bf bf) dS))
    have k2 := wn_mul (wn_pos (show 0 ≤ vl a by grind)) (wn_mul bn (wn_mul ev bgI))
    refine (wn_sub (wn_sub eZ3 k1) k2).of (by rw [hR]; grind) ?_
    rw [hR]
    have := Rat.mul_le_mul_of_nonneg_left hi (show 0 ≤ vl a by grind)
    grind
set_option maxHeartbeats 4000000 in
/-- of the place asked for: its reduced latitude -/
theorem red_vec {lat : Int} (h : RedOk f lat) {n : Rat} (n0 : 99 / 100 ≤ n) (n1 : n ≤ 103 / 100) (nn : Wn (n * n * ((cis lat).re * (cis lat).re + (1 - vl f) * (cis lat).im * ((1 - vl f) * (cis lat).im)) - 1) (1 / 10000000000000)) :
    Wn (n * (cis lat).re - vl (rcP f lat)) (1 / 100000000000) ∧ Wn (n * ((1 - vl f) * (cis lat).im) - vl (rsP f lat)) (1 / 100000000000) := by
  have bn : Wn n (103 / 100) := ⟨by grind, n1⟩
  obtain ⟨_, _, _, bc, bs, one, d0, d1, _, dc, ds⟩ := h
  generalize vl (rcP f lat) = γ at *
  generalize vl (rsP f lat) = σ at *
  generalize vl (redD f lat) = d at *
  generalize (cis lat).re = C at *
  generalize (cis lat).im = S at *
  have cr : Wn (γ * (n * ((1 - vl f) * S)) - σ * (n * C)) (1 / 10000000000000) := by
    have k := wn_mul bn (wn_sub (wn_mul bs dc) (wn_mul bc ds))
    exact k.of (by grind) (by grind)
  have dot : -(1 / 2) ≤ γ * (n * C) + σ * (n * ((1 - vl f) * S)) := by
    have k := wn_mul bn (wn_add (wn_mul bc dc) (wn_mul bs ds))
    have k2 := wn_mul (wn_mul bn (show Wn d (101 / 100) from ⟨by grind, by grind⟩)) one
    have p := Rat.mul_nonneg (show 0 ≤ n by grind) (show 0 ≤ d by grind)
    have := k.2
    have := k2.1
    grind
  obtain ⟨k1, k2⟩ := unit_close (γ := n * C) (σ := n * ((1 - vl f) * S)) (nn.of (by grind) (by grind)) (one.mono (by grind)) cr (by grind) dot
  exact ⟨k1.mono (by grind), k2.mono (by grind)⟩
set_option maxHeartbeats 4000000 in
/-- one coordinate of both vectors -/
theorem coord {a γ' γ c k' k : Rat} {D' D κ' κ : Nat} (a0 : 0 ≤ a) (a1 : a ≤ 6500001) (fD' : Fp.Fin D') (fD : Fp.Fin D) (fκ' : Fp.Fin κ') (fκ : Fp.Fin κ) (eD' : Wn (vl D' - a * γ') (a * (4 / 100000000000000))) (eD : Wn (vl D - a * γ) (a * (4 / 100000000000000)))
    (eκ' : Wn (vl κ' - k') tol) (eκ : Wn (vl κ - k) tol) (bk' : Wn k' (1000001 / 1000000)) (bk : Wn k (1000001 / 1000000)) (bc : Wn c (1001 / 1000)) (dγ' : Wn (γ' - c) (42 / 100000000000)) (dγ : Wn (γ - c) (1 / 100000000000)) (dk : Wn (c * (k' - k)) (96 / 100000000000)) :
    (Fp.Fin (fmul D' κ') ∧ Fp.Fin (fmul D κ)) ∧ Fp.Fin (fsub (fmul D' κ') (fmul D κ)) ∧ Wn (vl (fsub (fmul D' κ') (fmul D κ))) (94 / 10000) := by
  have u1 : uu = 1 / 9007199254740992 := uu_eq
  unfold tol at eκ eκ'
  have bγ' : Wn γ' (1002 / 1000) := (wn_add dγ' bc).of (by grind) (by grind)
  have bγ : Wn γ (1002 / 1000) := (wn_add dγ bc).of (by grind) (by grind)
  have bκ' : Wn (vl κ') (1002 / 1000) := (wn_add eκ' bk').of (by grind) (by grind)
  have bκ : Wn (vl κ) (1002 / 1000) := (wn_add eκ bk).of (by grind) (by grind)
  have ba : Wn a a := wn_pos a0
  have bD' : Wn (vl D') (a * (1003 / 1000)) := (wn_add eD' (wn_mul ba bγ')).of (by grind) (by grind)
  have bD : Wn (vl D) (a * (1003 / 1000)) := (wn_add eD (wn_mul ba bγ)).of (by grind) (by grind)
  obtain ⟨f1, g1⟩ := mulB fD' fκ' _ (wn_mul bD' bκ') (by grind)
  obtain ⟨f2, g2⟩ := mulB fD fκ _ (wn_mul bD bκ) (by grind)
  have h1 : Wn (vl (fmul D' κ') - a * (γ' * k')) (1 / 1000000) := by
    have p := wn_mul eD' bκ'
    have q := wn_mul (wn_mul ba bγ') eκ'
    exact (wn_add g1 (wn_add p q)).of (by grind) (by rw [u1]; grind)
  have h2 : Wn (vl (fmul D κ) - a * (γ * k)) (1 / 1000000) := by
    have p := wn_mul eD bκ
    have q := wn_mul (wn_mul ba bγ) eκ
    exact (wn_add g2 (wn_add p q)).of (by grind) (by rw [u1]; grind)
  have h3 := wn_mul ba (wn_sub (wn_add (wn_mul dγ' bk') dk) (wn_mul dγ bk))
  have h4 : Wn (vl (fmul D' κ') - vl (fmul D κ)) (91 / 10000) := (wn_add (wn_sub h1 h2) h3).of (by grind) (by grind)
  obtain ⟨f3, g3⟩ := subE f1 f2 _ h4 (by grind)
  exact ⟨⟨f1, f2⟩, f3, (wn_add g3 h4).of (by grind) (by rw [u1]; grind)⟩
/-- two vectors near each other -/
structure Dist (X' Y' Z' X Y Z : Nat) : Prop where
  fx' : Fp.Fin X'
  fy' : Fp.Fin Y'
  fz' : Fp.Fin Z'
  fx : Fp.Fin X
  fy : Fp.Fin Y
  fz : Fp.Fin Z
  le : fle (lenP (fsub X' X) (fsub Y' Y) (fsub Z' Z)) c02 = true
set_option maxHeartbeats 4000000 in
/-- the vectors of the two places are near each other -/
theorem dist_ok {v : LineV} (e : Ends v) (s : Snd v.a v.f 0) (a1 : vl v.a ≤ 6500001) (b1 : -90000000000 ≤ v.latB) (b2 : v.latB ≤ 90000000000) {g : Int} {y : Nat} (h : Fnd v g y) (w : Way v y) :
    Dist (fmul (vecD v.a v.f (latR v y) 0) (cosP (lonR v y))) (fmul (vecD v.a v.f (latR v y) 0) (sinP (lonR v y))) (vecZ v.a v.f (latR v y) 0)
      (fmul (vecD v.a v.f v.latB 0) (cosP v.lonB)) (fmul (vecD v.a v.f v.latB 0) (sinP v.lonB)) (vecZ v.a v.f v.latB 0) := by
  have u1 : uu = 1 / 9007199254740992 := uu_eq
  obtain ⟨_, l1, l2, hl⟩ := lat_ok e w
  obtain ⟨n', n0', n1', nn', fD', eD', fZ', eZ'⟩ := vec_at s l1 l2
  obtain ⟨n, n0, n1, nn, fD, eD, fZ, eZ⟩ := vec_at s b1 b2
  obtain ⟨k1, k2⟩ := hl n' n0' (by grind) nn'
  obtain ⟨m1, m2⟩ := red_vec e.h2 n0 n1 nn
  have a0 : 0 ≤ vl v.a := by have := s.a1; grind
  have lo := lon_ok e h w
  obtain ⟨⟨fc', ec'⟩, ⟨fs', es'⟩⟩ := cis_near (lonR v y)
  obtain ⟨⟨fc, ec⟩, ⟨fs, es⟩⟩ := cis_near v.lonB
  have b' := cis_bd (lonR v y)
  have b := cis_bd v.lonB
  have bc2 : Wn (vl v.cu2) (1001 / 1000) := e.h2.bc
  have lr := lo.re
  have li := lo.im
  simp only [Cx.sc_re, Cx.sc_im, Cx.sub_re, Cx.sub_im] at lr li
  obtain ⟨⟨x3, x4⟩, x1, x2⟩ := coord a0 a1 fD' fD fc' fc eD' eD ec' ec b'.re b.re bc2 k1 m1 lr
  obtain ⟨⟨y3, y4⟩, y1, y2⟩ := coord a0 a1 fD' fD fs' fs eD' eD es' es b'.im b.im bc2 k1 m1 li
  have f0 := e.f0
  have f1 := e.f1
  have bf : Wn (1 - vl v.f) 1 := ⟨by grind, by grind⟩
  have ba := wn_pos a0
  have m2' : Wn (n * ((1 - vl v.f) * (cis v.latB).im) - vl v.su2) (1 / 100000000000) := m2
  have hz : Wn (vl (vecZ v.a v.f (latR v y) 0) - vl (vecZ v.a v.f v.latB 0)) (91 / 10000) := by
    have t := wn_mul ba (wn_mul bf (wn_sub k2 m2'))
    exact (wn_add (wn_sub eZ' eZ) t).of (by grind) (by grind)
  obtain ⟨z1, z2⟩ := subE fZ' fZ _ hz (by grind)
  exact ⟨x3, y3, fZ', x4, y4, fZ, len_small x1 y1 z1 x2 y2 ((wn_add z2 hz).of (by grind) (by rw [u1]; grind))⟩
end Go.Proofs.YtfhpnkmpjijebaaDoor

/- Walk: the reference's angle between two places. Printed by gen_pathback.py. -/
namespace Go.Proofs.YtfhpnkmpjijebaaDoor
open Go.RowKit Go.Fp Go.Rel
set_option maxRecDepth 20000
def ptX (lon lat : Int) : Nat := fmul (cosP lat) (cosP lon)
def ptY (lon lat : Int) : Nat := fmul (cosP lat) (sinP lon)
def ptZ (lat : Int) : Nat := sinP lat
theorem tp_ptX (lon lat : Int) : Tp 201 (ptX lon lat) := (tp_mul (tp_cosP lat) (tp_cosP lon) (by omega) (by omega)).2
theorem tp_ptY (lon lat : Int) : Tp 201 (ptY lon lat) := (tp_mul (tp_cosP lat) (tp_sinP lon) (by omega) (by omega)).2
theorem ptX_of {lon lat : Int} {r : Nat} (h : can r = fbin BinOp.mul (can (cosP lat)) (can (cosP lon))) : r = ptX lon lat := by
  refine can_exact (E := ptX lon lat) ?_ (tp_ptX lon lat).fin
  rw [h]; exact fmul_can _ _
theorem ptY_of {lon lat : Int} {r : Nat} (h : can r = fbin BinOp.mul (can (cosP lat)) (can (sinP lon))) : r = ptY lon lat := by
  refine can_exact (E := ptY lon lat) ?_ (tp_ptY lon lat).fin
  rw [h]; exact fmul_can _ _
def ptV (lon lat : Int) : Value := .agg #[.float .f64 (ptX lon lat), .float .f64 (ptY lon lat), .float .f64 (ptZ lat)]
set_option maxHeartbeats 4000000 in
theorem pointOf_c (lon lat : Int) (w : World) : Calls Tryd.prog 11 #[.agg #[.int .i64 lon, .int .i64 lat]] w (ExR (ptV lon lat) w) := by
  go_enter Tryd.func11, Tryd.ntmps11
  go_wp2_with (first | (go_at_call 34; refine (sincos_c _ _).mono ?_; rintro e w' ⟨rfl, rfl⟩) | (with_reducible refine upon_fl rfl ?_; intro r n hr))
  have e1 := ptX_of ‹can _ = fbin BinOp.mul (can (cosP lat)) (can (cosP lon))›
  have e2 := ptY_of ‹can _ = fbin BinOp.mul (can (cosP lat)) (can (sinP lon))›
  subst e1
  subst e2
  exact bodyPost_ret (v := ptV lon lat) (by simp [results, Tryd.results11, go_sem, ptV, ptZ]) rfl ⟨rfl, by repeat (first | exact Ext.refl _ | refine Ext.drewN ?_ _ | refine Ext.alloc ?_ _ | refine Ext.setCell ?_ (by simp) _)⟩
def crX (px py pz qx qy qz : Nat) : Nat := lenP (fsub (fmul py qz) (fmul pz qy)) (fsub (fmul pz qx) (fmul px qz)) (fsub (fmul px qy) (fmul py qx))
def doX (px py pz qx qy qz : Nat) : Nat := fadd (fadd (fmul px qx) (fmul py qy)) (fmul pz qz)
def greatP (lon lat lon' lat' : Int) : Int :=
  (angleP (crX (ptX lon lat) (ptY lon lat) (ptZ lat) (ptX lon' lat') (ptY lon' lat') (ptZ lat')) (doX (ptX lon lat) (ptY lon lat) (ptZ lat) (ptX lon' lat') (ptY lon' lat') (ptZ lat'))).1
set_option maxHeartbeats 4000000 in
theorem greatOf_c (lon lat lon' lat' : Int) (w : World) : Calls Tryd.prog 5 #[.agg #[.int .i64 lon, .int .i64 lat], .agg #[.int .i64 lon', .int .i64 lat']] w (ExR (.int .i64 (greatP lon lat lon' lat')) w) := by
  go_enter Tryd.func5, Tryd.ntmps5
  go_wp2_with fail
  refine (pointOf_c _ _ _).mono ?_
  rintro e w1 ⟨rfl, hx1⟩
  obtain ⟨_, hb3, hw0⟩ := ext2 hx1
  clear hx1
  have c3 := hb3.cell
  have hl3 := hb3.lt
  unfold ptV
  go_wp2_with fail
  refine (pointOf_c _ _ _).mono ?_
  rintro e w2 ⟨rfl, hx2⟩
  obtain ⟨hb5, hx⟩ := ext1 hx2
  replace hw0 := hw0.trans hx
  clear hx2 hx hb3 c3 hl3
  have c5 := hb5.cell
  have hl5 := hb5.lt
  unfold ptV
  go_wp2_with (first | (with_reducible refine upon_fl rfl ?_; intro r n hr))
  clear c5
  refine wp_region_head 20 (fun f args v => f = 12 ∧ SpTri (fun x y z => fsub x (fmul y z)) args v) (by kernel_rfl) (by kernel_rfl) ?_
  simp only [List.take_succ_cons, List.take_zero, List.drop_succ_cons, List.drop_zero]
  repeat (first
    | (refine wpR_op rfl (fun w1 hw K hK => ?_); have c6 := (Blk.ext (Blk.drewN (Blk.new w2 _ _) _) hw.of_drew).cell; have hx3 := (((Ext.refl w2).alloc _).drewN _).trans hw.of_drew; have c5 := (hb5.ext hx3).cell; go_simp; refine hK _ ?_; clear hK K c5 c6 hx3 hw w1)
    | (refine wpR_op rfl (fun w1 hw K hK => ?_); go_simp; refine rel_call (FlR.call (less_c _ _ _ _)) (fun v => ?_) (fun v hv => ?_); (simp [spTri_iff]); obtain ⟨r, rfl, hr⟩ := hv; refine hK _ ?_; clear hK K hw w1))
  refine wpR_alloc (t := 40) (zs := #[.float .f64 0, .float .f64 0, .float .f64 0]) rfl (fun w1 => ?_) (fun n7 hn7 K hK => ?_)
  · go_simp
  go_simp
  refine hK _ ?_
  clear hK K
  refine wpR_nil ?_
  intro w3 hx3 hΦ
  obtain ⟨_, hb7⟩ := hΦ
  have hx3' := hx3.of_drew
  have hb6 := Blk.ext (Blk.drewN (Blk.new w2 _ _) _) hx3'
  have hx := (((Ext.refl w2).alloc _).drewN _).trans hx3'
  replace hb5 := hb5.ext hx
  have hq := hw0.size
  replace hw0 := hw0.trans hx
  simp at hn7
  have hsz := hw0.size
  have hsz2 := hx.size
  clear hx hx3 hx3'
  have hne5 : w1.heap.size ≠ n7 := by omega
  have hne6 : w2.heap.size ≠ n7 := by omega
  refine wpList_own rfl 40 _ _ rfl n7 _ rfl rfl _ _ hb7 (by kernel_rfl) rfl (by simp [Value.oneCell']) ?_
  intro w4 hb7 hk ho
  replace hw0 := hk _ hw0 (by omega)
  replace hb5 := hb5.other ho hne5
  replace hb6 := hb6.other ho hne6
  clear hk ho hne5 hne6 hl5
  have c5 := hb5.cell
  have c6 := hb6.cell
  have c7 := hb7.cell
  go_wp2_with (first | (with_reducible refine upon_fl rfl ?_; intro r n hr))
  clear c5 c6 c7
  refine wp_region_all (fun f args v => f = 13 ∧ SpTri (fun x y z => fadd x (fmul y z)) args v) (by kernel_rfl) (by kernel_rfl) ?_
  repeat (first
    | (refine wpR_op rfl (fun w1 hw K hK => ?_); have hx3 := (hw.of_drew).of_drewN; have c5 := (hb5.ext hx3).cell; have c6 := (hb6.ext hx3).cell; go_simp; refine hK _ ?_; clear hK K c5 c6 hx3 hw w1)
    | (refine wpR_op rfl (fun w1 hw K hK => ?_); go_simp; refine rel_call (FlR.call (plus_c _ _ _ _)) (fun v => ?_) (fun v hv => ?_); (simp [spTri_iff]); obtain ⟨r, rfl, hr⟩ := hv; refine hK _ ?_; clear hK K hw w1))
  refine wpR_nil ?_
  intro w5 hx5 _
  replace hx5 := hx5.of_drew.of_drewN
  replace hb7 := hb7.ext hx5
  replace hw0 := hw0.trans hx5
  clear hx5 hb5 hb6
  have c7 := hb7.cell
  go_wp2_with (first
    | (go_at_call 10; refine (lengthOf_c _ _ _ _).mono ?_; rintro e w6 ⟨r, rfl, hr, hx6⟩)
    | (go_at_call 14; refine (refAngle_c _ _ _).mono ?_; rintro e w7 ⟨rfl, hx7⟩))
  go_ret
  refine ⟨ret_int ?_, hw0.trans (hx6.trans hx7)⟩
  unfold greatP crX doX
  simp only [*, fbin, fmul_can]
end Go.Proofs.YtfhpnkmpjijebaaDoor
