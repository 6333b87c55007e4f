/- Two places by their great angle: neither near each other nor near opposite; the ends of a line. -/
import Derived.Test.YtfhpnkmpjijebaaDoorZY
namespace Go.Fp.Tri
open Go.Fp
set_option maxRecDepth 20000
theorem psq_r1 : pbd PSq (1 / 50) ≤ 67 / 1000000 := by decide +kernel
theorem psq_r2 : pbd PSq (18 / 100) ≤ 541 / 100000 := by decide +kernel
theorem psq_r3 : pbd PSq (3 / 10) ≤ 151 / 10000 := by decide +kernel
theorem psq_r4 : pbd PSq (7855 / 10000) ≤ 11 / 100 := by decide +kernel
theorem S_ge {x r b : Rat} (h : pbd PSq r ≤ b) (x0 : 0 ≤ x) (x1 : x ≤ r) : x * (1 - b) ≤ S x := by
  have k := (wn_pev PSq (show Wn x r from ⟨by grind, x1⟩)).mono h
  have m := Rat.mul_le_mul_of_nonneg_left (show -b ≤ pev PSq x from k.1) x0
  rw [S_q]
  grind
theorem C_below {x δ : Rat} (hx : Wn x (7855 / 10000)) (δ1 : δ ≤ 1) (h : 2 * δ + 1 / 1000000000000000 < S x * S x) : C x ≤ 1 - δ := by
  rcases Rat.le_total (a := C x) (b := 1 - δ) with k | k
  · exact k
  · exfalso
    have o := (one_SC hx).2
    have s := sq_le_sq (show 0 ≤ 1 - δ by grind) k
    have := rsq_nonneg δ
    grind
theorem C_1 {x : Rat} (h0 : 17453 / 1000000 ≤ x) (h1 : x ≤ 7855 / 10000) : C x ≤ 1 - 15225 / 100000000 := by
  refine C_below ⟨by grind, h1⟩ (by grind) ?_
  rcases Rat.le_total (a := x) (b := 1 / 50) with k | k
  · have s := S_ge psq_r1 (show 0 ≤ x by grind) k
    have q := sq_le_sq (show (0 : Rat) ≤ 1745183 / 100000000 by grind) (show 1745183 / 100000000 ≤ S x by grind)
    grind
  · have s := S_ge psq_r4 (show 0 ≤ x by grind) h1
    have q := sq_le_sq (show (0 : Rat) ≤ 178 / 10000 by grind) (show 178 / 10000 ≤ S x by grind)
    grind
theorem C_10 {x : Rat} (h0 : 17453 / 100000 ≤ x) (h1 : x ≤ 7855 / 10000) : C x ≤ 1 - 1517 / 100000 := by
  rcases Rat.le_total (a := C x) (b := 1 - 1517 / 100000) with k | k
  · exact k
  · exfalso
    have o := (one_SC (show Wn x (7855 / 10000) from ⟨by grind, h1⟩)).2
    have s := sq_le_sq (show (0 : Rat) ≤ 1 - 1517 / 100000 by grind) k
    have big : 173585 / 1000000 ≤ S x := by
      rcases Rat.le_total (a := x) (b := 18 / 100) with k1 | k1
      · have := S_ge psq_r2 (show 0 ≤ x by grind) k1
        grind
      · rcases Rat.le_total (a := x) (b := 3 / 10) with k2 | k2
        · have := S_ge psq_r3 (show 0 ≤ x by grind) k2
          grind
        · have := S_ge psq_r4 (show 0 ≤ x by grind) h1
          grind
    have q := sq_le_sq (show (0 : Rat) ≤ 173585 / 1000000 by grind) big
    grind
theorem cis_le {n D : Int} {x0 δ : Rat} (hC : ∀ x : Rat, x0 ≤ x → x ≤ 7855 / 10000 → C x ≤ 1 - δ) (hδ : δ ≤ 1 / 10) (D0 : 0 ≤ D) (hD : x0 ≤ (D : Rat) * rho) (h0 : D ≤ n) (h1 : n ≤ 180000000000) : (cis n).re ≤ 1 - δ := by
  rcases Int.lt_or_le n 45000000000 with k | k
  · rw [cis_small (by omega) k]
    show C ((n : Rat) * rho) ≤ _
    have a := Rat.mul_le_mul_of_nonneg_right (castle h0) (Rat.le_of_lt rho_pos)
    exact hC _ (by grind) (arg_bd (r := n) (by omega) (by omega)).2
  · have := cis_far k h1
    grind
theorem cos_hi {n : Int} (h0 : 1000000000 ≤ n) (h1 : n ≤ 180000000000) : (cis n).re ≤ 1 - 15225 / 100000000 := by
  refine cis_le (D := 1000000000) (x0 := 17453 / 1000000) (fun x a b => C_1 a b) (by grind) (by omega) ?_ h0 h1
  have := rho_lo
  have e : ((1000000000 : Int) : Rat) = 1000000000 := rfl
  rw [e]; grind
theorem cos_lo {n : Int} (h0 : 0 ≤ n) (h1 : n ≤ 170000000000) : 1517 / 100000 - 4 / 1000000000000 ≤ 1 + (cis n).re := by
  have a := cis_le (n := 180000000000 - n) (D := 10000000000) (x0 := 17453 / 100000) (fun x a b => C_10 a b) (by grind) (by omega) (by
    have := rho_lo
    have e : ((10000000000 : Int) : Rat) = 10000000000 := rfl
    rw [e]; grind) (by omega) (by omega)
  have b := (cis_neg (180000000000 - n)).re
  have c := cis_pi (-(180000000000 - n))
  rw [show -(180000000000 - n) + 180000000000 = n by omega] at c
  rw [c]
  simp at b
  simp only [Cx.neg_re]
  have := b.2
  grind
end Go.Fp.Tri
namespace Go.Proofs.YtfhpnkmpjijebaaDoor
open Go.Fp Go.Fp.Tri
set_option maxRecDepth 20000
theorem pt_near (lon lat : Int) : Fp.Fin (ptX lon lat) ∧ Fp.Fin (ptY lon lat) ∧ Fp.Fin (ptZ lat) ∧ Wn (vl (ptX lon lat) - (cis lat).re * (cis lon).re) (3 / 100000000000000) ∧ Wn (vl (ptY lon lat) - (cis lat).re * (cis lon).im) (3 / 100000000000000) ∧ Wn (vl (ptZ lat) - (cis lat).im) (3 / 100000000000000) := by
  have u1 : uu = 1 / 9007199254740992 := uu_eq
  obtain ⟨⟨fc, ec⟩, ⟨fs, es⟩⟩ := cis_near lat
  obtain ⟨⟨gc, kc⟩, ⟨gs, ks⟩⟩ := cis_near lon
  have bC := (cis_bd lat).re
  have bk := (cis_bd lon).re
  have bl := (cis_bd lon).im
  unfold tol at *
  unfold ptX ptY ptZ
  have b1 : Wn (vl (cosP lat)) (1001 / 1000) := (wn_add ec bC).of (by grind) (by grind)
  have b2 : Wn (vl (cosP lon)) (1001 / 1000) := (wn_add kc bk).of (by grind) (by grind)
  have b3 : Wn (vl (sinP lon)) (1001 / 1000) := (wn_add ks bl).of (by grind) (by grind)
  obtain ⟨f1, e1⟩ := mulE fc gc _ (wn_mul b1 b2) (by grind)
  obtain ⟨f2, e2⟩ := mulE fc gs _ (wn_mul b1 b3) (by grind)
  exact ⟨f1, f2, fs, (wn_add e1 (wn_add (wn_mul b1 kc) (wn_mul ec bk))).of (by grind) (by rw [u1]; grind), (wn_add e2 (wn_add (wn_mul b1 ks) (wn_mul ec bl))).of (by grind) (by rw [u1]; grind), es.mono (by grind)⟩
/-- a difference of products -/
theorem dif_ok {a b c d : Nat} (fa : Fp.Fin a) (fb : Fp.Fin b) (fc : Fp.Fin c) (fd : Fp.Fin d) (ba : Wn (vl a) (102 / 100)) (bb : Wn (vl b) (102 / 100)) (bc : Wn (vl c) (102 / 100)) (bd : Wn (vl d) (102 / 100)) :
    Fp.Fin (fsub (fmul a b) (fmul c d)) ∧ Wn (vl (fsub (fmul a b) (fmul c d)) - (vl a * vl b - vl c * vl d)) (9 / 10000000000000000) := by
  have u1 : uu = 1 / 9007199254740992 := uu_eq
  obtain ⟨f1, e1⟩ := mulE fa fb _ (wn_mul ba bb) (by grind)
  have b1 : Wn (vl (fmul a b)) (105 / 100) := (wn_add e1 (wn_mul ba bb)).of (by grind) (by rw [u1]; grind)
  obtain ⟨f2, e2⟩ := mulE fc fd _ (wn_mul bc bd) (by grind)
  have b2 : Wn (vl (fmul c d)) (105 / 100) := (wn_add e2 (wn_mul bc bd)).of (by grind) (by rw [u1]; grind)
  obtain ⟨f3, e3⟩ := subE f1 f2 _ (wn_sub b1 b2) (by grind)
  exact ⟨f3, (wn_add e3 (wn_sub e1 e2)).of (by grind) (by rw [u1]; grind)⟩
set_option maxHeartbeats 4000000 in
/-- the sum of three squares, and its root -/
theorem len_near {x y z : Nat} {X Y Z : Rat} (fx : Fp.Fin x) (fy : Fp.Fin y) (fz : Fp.Fin z) (bX : Wn X (102 / 100)) (bY : Wn Y (102 / 100)) (bZ : Wn Z (102 / 100)) (ex : Wn (vl x - X) (9 / 10000000000000000)) (ey : Wn (vl y - Y) (9 / 10000000000000000)) (ez : Wn (vl z - Z) (9 / 10000000000000000)) :
    Fp.Fin (lenP x y z) ∧ 0 ≤ vl (lenP x y z) ∧ Wn (vl (lenP x y z) * vl (lenP x y z) - (X * X + Y * Y + Z * Z)) (2 / 100000000000000) := by
  have u1 : uu = 1 / 9007199254740992 := uu_eq
  have sq : ∀ (p : Nat) (P : Rat), Fp.Fin p → Wn P (102 / 100) → Wn (vl p - P) (9 / 10000000000000000) → Fp.Fin (fmul p p) ∧ 0 ≤ vl (fmul p p) ∧ vl (fmul p p) ≤ 105 / 100 ∧ Wn (vl (fmul p p) - P * P) (3 / 1000000000000000) := by
    intro p P fp bP h
    have bp : Wn (vl p) (1021 / 1000) := (wn_add h bP).of (by grind) (by grind)
    obtain ⟨f, e⟩ := mulE fp fp _ (wn_mul bp bp) (by grind)
    have d := diff_sq h bp (bP.mono (by grind))
    have := (wn_mul bp bp).2
    exact ⟨f, fmul_nonneg fp fp _ (wn_mul bp bp) (big_le' (by grind)) (rsq_nonneg _), by have := e.2; rw [u1] at this; grind, (wn_add e d).of (by grind) (by rw [u1]; grind)⟩
  obtain ⟨f1, p1, q1, d1⟩ := sq x X fx bX ex
  obtain ⟨f2, p2, q2, d2⟩ := sq y Y fy bY ey
  obtain ⟨f3, p3, q3, d3⟩ := sq z Z fz bZ ez
  have h : lenP x y z = fsqrt (fadd (fadd (fmul x x) (fmul y y)) (fmul z z)) := rfl
  rw [h]
  have b12 : Wn (vl (fmul x x) + vl (fmul y y)) (21 / 10) := ⟨by grind, by grind⟩
  obtain ⟨f4, e4⟩ := addE f1 f2 _ b12 (by grind)
  have p4 := fadd_nonneg f1 f2 _ b12 (big_le' (by grind)) (by grind)
  have q4 : vl (fadd (fmul x x) (fmul y y)) ≤ 22 / 10 := by have := e4.2; rw [u1] at this; grind
  have b34 : Wn (vl (fadd (fmul x x) (fmul y y)) + vl (fmul z z)) (33 / 10) := ⟨by grind, by grind⟩
  obtain ⟨f5, e5⟩ := addE f4 f3 _ b34 (by grind)
  have p5 := fadd_nonneg f4 f3 _ b34 (big_le' (by grind)) (by grind)
  have q5 : vl (fadd (fadd (fmul x x) (fmul y y)) (fmul z z)) ≤ 34 / 10 := by have := e5.2; rw [u1] at this; grind
  have tot : Wn (vl (fadd (fadd (fmul x x) (fmul y y)) (fmul z z)) - (X * X + Y * Y + Z * Z)) (12 / 1000000000000000) := (wn_add (wn_add e5 e4) (wn_add (wn_add d1 d2) d3)).of (by grind) (by rw [u1]; grind)
  generalize fadd (fadd (fmul x x) (fmul y y)) (fmul z z) = Q at *
  by_cases k : vl Q = 0
  · obtain ⟨g, e⟩ := fsqrt_zero f5 k
    refine ⟨g, by rw [e]; exact Rat.le_refl, ?_⟩
    rw [e]
    rw [k] at tot
    exact tot.of (by grind) (by grind)
  · obtain ⟨g, r0, e⟩ := fsqrt_pos f5 (by grind) (big_le (by grind))
    exact ⟨g, r0, (wn_add e tot).of (by grind) (by rw [u1]; grind)⟩
set_option maxHeartbeats 8000000 in
/-- the angle between two places on a ball: its cosine -/
theorem great_near (lon lat lon' lat' : Int) : 0 ≤ greatP lon lat lon' lat' ∧ Wn ((cis (greatP lon lat lon' lat')).re - ((cis lat).im * (cis lat').im + (cis lat).re * (cis lat').re * ((cis lon).re * (cis lon').re + (cis lon).im * (cis lon').im))) (4 / 100000000000) := by
  have u1 : uu = 1 / 9007199254740992 := uu_eq
  obtain ⟨fx, fy, fz, ex, ey, ez⟩ := pt_near lon lat
  obtain ⟨gx, gy, gz, kx, ky, kz⟩ := pt_near lon' lat'
  have n1 := cis_one lon
  have n2 := cis_one lat
  have n3 := cis_one lon'
  have n4 := cis_one lat'
  have b1 := cis_bd lon
  have b2 := cis_bd lat
  have b3 := cis_bd lon'
  have b4 := cis_bd lat'
  have hg : greatP lon lat lon' lat' = (angleP (crX (ptX lon lat) (ptY lon lat) (ptZ lat) (ptX lon' lat') (ptY lon' lat') (ptZ lat')) (doX (ptX lon lat) (ptY lon lat) (ptZ lat) (ptX lon' lat') (ptY lon' lat') (ptZ lat'))).1 := rfl
  rw [hg]
  clear hg
  generalize ptX lon lat = px at *
  generalize ptY lon lat = py at *
  generalize ptZ lat = pz at *
  generalize ptX lon' lat' = qx at *
  generalize ptY lon' lat' = qy at *
  generalize ptZ lat' = qz at *
  generalize cis lon = u1' at *
  generalize cis lat = v1 at *
  generalize cis lon' = u2 at *
  generalize cis lat' = v2 at *
  have B1 := (wn_mul b2.re b1.re).mono (show _ ≤ (1001 / 1000 : Rat) by grind)
  have B2 := (wn_mul b2.re b1.im).mono (show _ ≤ (1001 / 1000 : Rat) by grind)
  have B3 := b2.im.mono (show _ ≤ (1001 / 1000 : Rat) by grind)
  have B4 := (wn_mul b4.re b3.re).mono (show _ ≤ (1001 / 1000 : Rat) by grind)
  have B5 := (wn_mul b4.re b3.im).mono (show _ ≤ (1001 / 1000 : Rat) by grind)
  have B6 := b4.im.mono (show _ ≤ (1001 / 1000 : Rat) by grind)
  have P2 : Wn (v1.re * u1'.re * (v1.re * u1'.re) + v1.re * u1'.im * (v1.re * u1'.im) + v1.im * v1.im - 1) (3 / 1000000000000000) := by
    have k := wn_add n2 (wn_mul (wn_mul b2.re b2.re) n1)
    exact k.of (by grind) (by grind)
  have Q2 : Wn (v2.re * u2.re * (v2.re * u2.re) + v2.re * u2.im * (v2.re * u2.im) + v2.im * v2.im - 1) (3 / 1000000000000000) := by
    have k := wn_add n4 (wn_mul (wn_mul b4.re b4.re) n3)
    exact k.of (by grind) (by grind)
  have goalE : v1.im * v2.im + v1.re * v2.re * (u1'.re * u2.re + u1'.im * u2.im) = v1.re * u1'.re * (v2.re * u2.re) + v1.re * u1'.im * (v2.re * u2.im) + v1.im * v2.im := by grind
  rw [goalE]
  generalize v1.re * u1'.re = PX at *
  generalize v1.re * u1'.im = PY at *
  generalize v1.im = PZ at *
  generalize v2.re * u2.re = QX at *
  generalize v2.re * u2.im = QY at *
  generalize v2.im = QZ at *
  clear b1 b2 b3 b4 n1 n2 n3 n4 goalE
  have c1 : Wn (vl px) (101 / 100) := (wn_add ex B1).of (by grind) (by grind)
  have c2 : Wn (vl py) (101 / 100) := (wn_add ey B2).of (by grind) (by grind)
  have c3 : Wn (vl pz) (101 / 100) := (wn_add ez B3).of (by grind) (by grind)
  have c4 : Wn (vl qx) (101 / 100) := (wn_add kx B4).of (by grind) (by grind)
  have c5 : Wn (vl qy) (101 / 100) := (wn_add ky B5).of (by grind) (by grind)
  have c6 : Wn (vl qz) (101 / 100) := (wn_add kz B6).of (by grind) (by grind)
  have pp : Wn (vl px * vl px + vl py * vl py + vl pz * vl pz - 1) (2 / 10000000000000) := by
    have k := wn_add (wn_add (diff_sq ex c1 (B1.mono (by grind))) (diff_sq ey c2 (B2.mono (by grind)))) (wn_add (diff_sq ez c3 (B3.mono (by grind))) P2)
    exact k.of (by grind) (by grind)
  have qq : Wn (vl qx * vl qx + vl qy * vl qy + vl qz * vl qz - 1) (2 / 10000000000000) := by
    have k := wn_add (wn_add (diff_sq kx c4 (B4.mono (by grind))) (diff_sq ky c5 (B5.mono (by grind)))) (wn_add (diff_sq kz c6 (B6.mono (by grind))) Q2)
    exact k.of (by grind) (by grind)
  have big : ∀ {p : Nat}, Wn (vl p) (101 / 100) → Wn (vl p) (102 / 100) := fun h => h.mono (by grind)
  obtain ⟨f1, e1⟩ := dif_ok fy gz fz gy (big c2) (big c6) (big c3) (big c5)
  obtain ⟨f2, e2⟩ := dif_ok fz gx fx gz (big c3) (big c4) (big c1) (big c6)
  obtain ⟨f3, e3⟩ := dif_ok fx gy fy gx (big c1) (big c5) (big c2) (big c4)
  -- the going together
  obtain ⟨m1, h1⟩ := mulE fx gx _ (wn_mul c1 c4) (by grind)
  obtain ⟨m2, h2⟩ := mulE fy gy _ (wn_mul c2 c5) (by grind)
  obtain ⟨m3, h3⟩ := mulE fz gz _ (wn_mul c3 c6) (by grind)
  have k1 : Wn (vl (fmul px qx)) (103 / 100) := (wn_add h1 (wn_mul c1 c4)).of (by grind) (by rw [u1]; grind)
  have k2 : Wn (vl (fmul py qy)) (103 / 100) := (wn_add h2 (wn_mul c2 c5)).of (by grind) (by rw [u1]; grind)
  have k3 : Wn (vl (fmul pz qz)) (103 / 100) := (wn_add h3 (wn_mul c3 c6)).of (by grind) (by rw [u1]; grind)
  obtain ⟨m4, h4⟩ := addE m1 m2 _ (wn_add k1 k2) (by grind)
  have k4 : Wn (vl (fadd (fmul px qx) (fmul py qy))) (207 / 100) := (wn_add h4 (wn_add k1 k2)).of (by grind) (by rw [u1]; grind)
  obtain ⟨m5, h5⟩ := addE m4 m3 _ (wn_add k4 k3) (by grind)
  have hdo : doX px py pz qx qy qz = fadd (fadd (fmul px qx) (fmul py qy)) (fmul pz qz) := rfl
  rw [← hdo] at h5 m5
  have hd : Wn (vl (doX px py pz qx qy qz) - (vl px * vl qx + vl py * vl qy + vl pz * vl qz)) (2 / 1000000000000000) := (wn_add (wn_add h5 h4) (wn_add (wn_add h1 h2) h3)).of (by grind) (by rw [u1]; grind)
  have fd : Fp.Fin (doX px py pz qx qy qz) := m5
  have dP : Wn (vl px * vl qx + vl py * vl qy + vl pz * vl qz - (PX * QX + PY * QY + PZ * QZ)) (2 / 10000000000000) := by
    have k := wn_add (wn_add (wn_add (wn_mul ex c4) (wn_mul B1 kx)) (wn_add (wn_mul ey c5) (wn_mul B2 ky))) (wn_add (wn_mul ez c6) (wn_mul B3 kz))
    exact k.of (by grind) (by grind)
  -- the length of what stands upright on both
  have lag : (vl py * vl qz - vl pz * vl qy) * (vl py * vl qz - vl pz * vl qy) + (vl pz * vl qx - vl px * vl qz) * (vl pz * vl qx - vl px * vl qz) + (vl px * vl qy - vl py * vl qx) * (vl px * vl qy - vl py * vl qx) + (vl px * vl qx + vl py * vl qy + vl pz * vl qz) * (vl px * vl qx + vl py * vl qy + vl pz * vl qz) =
      (vl px * vl px + vl py * vl py + vl pz * vl pz) * (vl qx * vl qx + vl qy * vl qy + vl qz * vl qz) := by grind
  have one : Wn ((vl px * vl px + vl py * vl py + vl pz * vl pz) * (vl qx * vl qx + vl qy * vl qy + vl qz * vl qz) - 1) (5 / 10000000000000) := by
    have k := wn_add (wn_add pp qq) (wn_mul pp qq)
    exact k.of (by grind) (by grind)
  rw [← lag] at one
  clear lag pp qq P2 Q2
  generalize vl py * vl qz - vl pz * vl qy = A at *
  generalize vl pz * vl qx - vl px * vl qz = B at *
  generalize vl px * vl qy - vl py * vl qx = D at *
  generalize vl px * vl qx + vl py * vl qy + vl pz * vl qz = P at *
  have A2 := rsq_nonneg A
  have B2' := rsq_nonneg B
  have D2 := rsq_nonneg D
  have P2 := rsq_nonneg P
  have sz : ∀ p : Rat, p * p ≤ 1 + 5 / 10000000000000 → Wn p (1001 / 1000) := fun p h => ⟨by have := le_of_sq (a := -p) (b := 1001 / 1000) (by grind) (by grind); grind, le_of_sq (by grind) (by grind)⟩
  have bA := sz A (by have := one.2; grind)
  have bB := sz B (by have := one.2; grind)
  have bD := sz D (by have := one.2; grind)
  have bP := sz P (by have := one.2; grind)
  obtain ⟨fl, l0, hl⟩ := len_near f1 f2 f3 (bA.mono (by grind)) (bB.mono (by grind)) (bD.mono (by grind)) e1 e2 e3
  have hc : crX px py pz qx qy qz = lenP (fsub (fmul py qz) (fmul pz qy)) (fsub (fmul pz qx) (fmul px qz)) (fsub (fmul px qy) (fmul py qx)) := rfl
  rw [← hc] at fl l0 hl
  generalize crX px py pz qx qy qz = cr at *
  generalize doX px py pz qx qy qz = dt at *
  have bdt : Wn (vl dt) (101 / 100) := (wn_add hd bP).of (by grind) (by grind)
  have dd := diff_sq hd bdt (bP.mono (by grind))
  have circ : Wn (1 * 1 - (vl dt * vl dt + vl cr * vl cr)) (6 / 10000000000000) := (wn_neg (wn_add (wn_add hl dd) one)).of (by grind) (by grind)
  have bcr : Wn (vl cr) (101 / 100) := ⟨by grind, le_of_sq (by grind) (by have := circ.1; have := rsq_nonneg (vl dt); grind)⟩
  have nz : vl dt ≠ 0 ∨ vl cr ≠ 0 := by
    by_cases k : vl dt = 0
    · right
      intro k2
      rw [k, k2] at circ
      have := circ.2
      grind
    · exact .inl k
  obtain ⟨a0, _, _, an⟩ := ang_all fd fl nz (bdt.mono (by grind)) (bcr.mono (by grind))
  have sum : rabs (vl dt) + rabs (vl cr) ≤ 1415 / 1000 := by
    refine le_of_sq (by grind) ?_
    have a1 := rabs_sqr (vl dt)
    have a2 := rabs_sqr (vl cr)
    have a3 := rsq_nonneg (rabs (vl dt) - rabs (vl cr))
    have := circ.1
    grind
  have an' : Ang (angleP cr dt).1 (vl dt) (vl cr) (37 / 1000000000000) := ⟨an.1.mono (by grind), by have := an.2; grind⟩
  obtain ⟨d1, _⟩ := dir_of (R := 1) (e := 6 / 10000000000000) (k := 7 / 10000000000000) circ (by decide +kernel) (bdt.mono (by grind)) (bcr.mono (by grind)) an' (by decide +kernel) (by decide +kernel)
  exact ⟨a0, (wn_add (wn_add d1 hd) dP).of (by grind) (by grind)⟩
/-- two places by their great angle -/
theorem great_all {v : LineV} {n : Int} (hn : n = greatP v.lonA v.latA v.lonB v.latB) : 0 ≤ n ∧ Wn ((cis n).re - ((cis v.latA).im * (cis v.latB).im + (cis v.latA).re * (cis v.latB).re * (cis (A0v v)).re)) (5 / 100000000000) := by
  obtain ⟨n0, g⟩ := great_near v.lonA v.latA v.lonB v.latB
  rw [← hn] at n0 g
  refine ⟨n0, ?_⟩
  have e : cis (A0v v) = cis (v.lonB + -v.lonA) := cis_nm (by
    show normP (signP _) = _
    unfold signP normP
    split <;> omega)
  rw [e]
  have a := (cis_add v.lonB (-v.lonA)).re
  have b := (cis_neg v.lonA)
  have b1 := b.re
  have b2 := b.im
  have bB := cis_bd v.lonB
  have c1 := (cis_bd v.latA).re
  have c2 := (cis_bd v.latB).re
  generalize cis (v.lonB + -v.lonA) = w at *
  generalize cis (-v.lonA) = w2 at *
  simp at a b1 b2
  have k := wn_mul (wn_mul c1 c2) (wn_add a (wn_sub (wn_mul bB.re b1) (wn_mul bB.im b2)))
  exact (wn_sub g k).of (by grind) (by grind)
set_option maxHeartbeats 4000000 in
theorem ends_ok {v : LineV} (ff : Fp.Fin v.f) (f0 : 0 ≤ vl v.f) (f1 : vl v.f ≤ 10001 / 1000000) (a1 : -80000000000 ≤ v.latA) (a2 : v.latA ≤ 80000000000) (b1 : -80000000000 ≤ v.latB) (b2 : v.latB ≤ 80000000000) {n : Int} (hn : n = greatP v.lonA v.latA v.lonB v.latB) (n1 : 1000000000 ≤ n) (n2 : n ≤ 170000000000) : Ends v := by
  obtain ⟨n0, g⟩ := great_all hn
  have h1 := red_ok ff f0 f1 a1 a2
  have h2 := red_ok ff f0 f1 b1 b2
  have hi := cos_hi n1 (by omega)
  have lo := cos_lo n0 n2
  have bA := cis_bd v.latA
  have bB := cis_bd v.latB
  have bz := cis_bd (A0v v)
  obtain ⟨_, _, _, _, _, _, d0, d1, dd, dc, ds⟩ := id h1
  obtain ⟨_, _, _, _, _, _, d0', d1', dd', dc', ds'⟩ := id h2
  have R : ∀ g : Rat, (g = 1 ∨ g = -1) → 1 / 10000 ≤ 1 + g * ((cis v.latA).im * (cis v.latB).im + (cis v.latA).re * (cis v.latB).re * (cis (A0v v)).re) → 979 / 1000 * (1 + g * ((cis v.latA).im * (cis v.latB).im + (cis v.latA).re * (cis v.latB).re * (cis (A0v v)).re)) ≤ 1 + g * (vl v.su1 * vl v.su2 + vl v.cu1 * vl v.cu2 * (cis (A0v v)).re) :=
    fun g hg h => red_plain f0 f1 (cis_one v.latA) (cis_one v.latB) (cis_one (A0v v)) d0 d1 d0' d1' dd dd' dc ds dc' ds' (bA.re.mono (by grind)) (bA.im.mono (by grind)) (bB.re.mono (by grind)) (bB.im.mono (by grind)) (bz.re.mono (by grind)) hg h
  have g1 := g.1
  have g2 := g.2
  have r1 := R (-1) (.inr rfl) (by grind)
  have r2 := R 1 (.inl rfl) (by grind)
  exact ⟨ff, f0, f1, h1, h2, by grind, by grind⟩
end Go.Proofs.YtfhpnkmpjijebaaDoor

/- Walk: where one comes to along a geodesic, the reference's. -/
namespace Go.Proofs.YtfhpnkmpjijebaaDoor
open Go.RowKit Go.Fp Go.Rel
set_option maxRecDepth 20000

theorem oIt_succ (s1 q first : Nat) (k : Nat) : oIt s1 q first (k + 1) = oStep s1 q first (oIt s1 q first k) := rfl

/-- why a place or a length is refused -/
def FarV (lat : Int) (far : Nat) : Prop := 90000000000 < lat ∨ (lat ≤ 90000000000 ∧ lat < -90000000000) ∨ (lat ≤ 90000000000 ∧ -90000000000 ≤ lat ∧ btw far 0 far2 = false)
end Go.Proofs.YtfhpnkmpjijebaaDoor
