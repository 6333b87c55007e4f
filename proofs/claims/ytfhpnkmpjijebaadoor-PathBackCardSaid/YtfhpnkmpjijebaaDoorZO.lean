/- The angle of any point: its cosine and sine are the point's sides over its distance, but for a nanodegree. -/
import Derived.Test.YtfhpnkmpjijebaaDoorZN
namespace Go.Fp.Tri
open Go.Fp
set_option maxRecDepth 20000
theorem cs_rho : Wn (C rho - 1) (1 / 1000000000000000) ∧ Wn (S rho) (18 / 1000000000000) := by
  constructor
  · have : -(1 / 1000000000000000 : Rat) ≤ C rho - 1 ∧ C rho - 1 ≤ 1 / 1000000000000000 := by decide +kernel
    exact this
  · have : -(18 / 1000000000000 : Rat) ≤ S rho ∧ S rho ≤ 18 / 1000000000000 := by decide +kernel
    exact this
/-- one nanodegree on -/
theorem cis_step (q : Int) : MB ((cis (q + 1)).sub (cis q)) (21 / 1000000000000) := by
  have a := cis_add q 1
  have e : cis 1 = cs rho := by
    have := cis_small (a := 1) (by omega) (by omega)
    rw [this]
    congr 1
    have : ((1 : Int) : Rat) = 1 := rfl
    rw [this]; grind
  rw [e] at a
  obtain ⟨h1, h2⟩ := cs_rho
  have b := (cis_bd q).mul (MB.of (z := (⟨C rho - 1, S rho⟩ : Cx)) h1 h2 (show (0 : Rat) ≤ 185 / 10000000000000 by grind) (by grind))
  refine ((a.add b).cast ?_).mono (by grind)
  unfold cs
  exact Cx.ext' (by simp; grind) (by simp; grind)
theorem cis_first {q : Int} (h0 : 0 ≤ q) (h1 : q ≤ 90000000000) : -(1 / 10000000000000) ≤ (cis q).re ∧ -(1 / 10000000000000) ≤ (cis q).im := by
  obtain ⟨⟨_, c1⟩, ⟨_, s1⟩⟩ := cis_near q
  obtain ⟨⟨_, s2⟩, ⟨_, c2⟩⟩ := trig_lat (a := q) (by omega) h1
  have a := cI_nonneg h0 h1
  have b := sI_nonneg h0 h1
  obtain ⟨_, _⟩ := c1
  obtain ⟨_, _⟩ := s1
  obtain ⟨_, _⟩ := s2
  obtain ⟨_, _⟩ := c2
  unfold tol at *
  exact ⟨by grind, by grind⟩
end Go.Fp.Tri
namespace Go.Proofs.YtfhpnkmpjijebaaDoor
open Go.Fp Go.Fp.Tri
set_option maxRecDepth 20000
end Go.Proofs.YtfhpnkmpjijebaaDoor

/- The angle of a point, all the way round: what it is off, for small sides too. -/
namespace Go.Fp.Tri
open Go.Fp
set_option maxRecDepth 20000
theorem cis_nm {a b : Int} (h : normP a = normP b) : cis a = cis b := by unfold cis lef; rw [h]
/-- half a turn on -/
theorem cis_pi (a : Int) : cis (a + 180000000000) = (cis a).neg := by
  have e1 : normP (a + 180000000000) = normP a + 180000000000 ∨ normP (a + 180000000000) = normP a - 180000000000 := by unfold normP; omega
  have l : lef (a + 180000000000) = lef a := by
    unfold lef
    congr 2
    unfold quart
    omega
  unfold cis
  rw [l]
  generalize cs (lef a) = z
  rcases mod4 (quart (normP a)) with h | h | h | h
  · rw [rot0 h, rot2 (by unfold quart at *; omega)]; rfl
  · rw [rot1 h, rot3 (by unfold quart at *; omega)]; exact Cx.ext' (by simp) (by simp)
  · rw [rot2 h, rot0 (by unfold quart at *; omega)]; exact Cx.ext' (by simp) (by simp)
  · rw [rot3 h, rot1 (by unfold quart at *; omega)]; exact Cx.ext' (by simp) (by simp)
theorem wn_neg {x e : Rat} (h : Wn x e) : Wn (-x) e := ⟨by have := h.2; grind, by have := h.1; grind⟩
/-- how the found angle splits sides up to two -/
theorem quad_cross2 {x y : Nat} (fx : Fin x) (fy : Fin y) (x0 : 0 ≤ vl x) (y0 : 0 ≤ vl y) (bx : vl x ≤ 2) (by1 : vl y ≤ 2) :
    0 ≤ quad x y ∧ quad x y ≤ 90000000000 ∧ Wn (vl x * (cis (quad x y)).im - vl y * (cis (quad x y)).re) (22 / 1000000000000 * (vl x + vl y) + 1 / 10000000000000) := by
  have u1 : uu = 1 / 9007199254740992 := uu_eq
  obtain ⟨q0, q1, q2, q3⟩ := quad_ok x y
  refine ⟨q0, q1, ?_⟩
  have sides : ∀ m : Int, Wn (vl (fmul (sinP m) x) - vl x * (cis m).im) (3 / 100000000000000) ∧ Wn (vl (fmul (cosP m) y) - vl y * (cis m).re) (3 / 100000000000000) ∧ Fin (fmul (sinP m) x) ∧ Fin (fmul (cosP m) y) := by
    intro m
    obtain ⟨⟨fc, ec⟩, ⟨fs, es⟩⟩ := cis_near m
    have bc := (cis_bd m).re
    have bs := (cis_bd m).im
    have hbx : Wn (vl x) 2 := ⟨by grind, bx⟩
    have hby : Wn (vl y) 2 := ⟨by grind, by1⟩
    have b1 : Wn (vl (sinP m)) (1001 / 1000) := (wn_add es bs).of (by grind) (by grind)
    have b2 : Wn (vl (cosP m)) (1001 / 1000) := (wn_add ec bc).of (by grind) (by grind)
    obtain ⟨f1, e1⟩ := mulE fs fx _ (wn_mul b1 hbx) (by grind)
    obtain ⟨f2, e2⟩ := mulE fc fy _ (wn_mul b2 hby) (by grind)
    exact ⟨(wn_add e1 (wn_mul es hbx)).of (by grind) (by rw [u1]; grind), (wn_add e2 (wn_mul ec hby)).of (by grind) (by rw [u1]; grind), f1, f2⟩
  generalize quad x y = q at *
  obtain ⟨a1, a2, g1, g2⟩ := sides q
  obtain ⟨a3, a4, g3, g4⟩ := sides (q + 1)
  have st := cis_step q
  have sr := st.re
  have si := st.im
  simp at sr si
  obtain ⟨c1, c2⟩ := cis_first q0 q1
  have up : vl x * (cis q).im - vl y * (cis q).re ≤ 1 / 10000000000000 := by
    rcases q2 with h | h
    · have := (fle_vl g1 g2).1 h
      have := a1.1
      have := a2.2
      grind
    · subst h
      rw [cis_zero]
      simp
      grind
  have lo : -(22 / 1000000000000 * (vl x + vl y) + 1 / 10000000000000) ≤ vl x * (cis q).im - vl y * (cis q).re := by
    rcases q3 with h | h
    · have h2 : vl (fmul (cosP (q + 1)) y) ≤ vl (fmul (sinP (q + 1)) x) := by
        rcases Rat.le_total (a := vl (fmul (sinP (q + 1)) x)) (b := vl (fmul (cosP (q + 1)) y)) with k | k
        · rw [(fle_vl g3 g4).2 k] at h; cases h
        · exact k
      have m1 := wn_mul (wn_pos x0) si
      have m2 := wn_mul (wn_pos y0) sr
      obtain ⟨_, _⟩ := m1
      obtain ⟨_, _⟩ := m2
      obtain ⟨_, _⟩ := a3
      obtain ⟨_, _⟩ := a4
      grind
    · have e : (cis q).re ≤ 1 / 10000000000000 := by
        obtain ⟨⟨_, k1⟩, _⟩ := cis_near q
        obtain ⟨_, ⟨_, k2⟩⟩ := trig_lat (a := q) (by omega) q1
        have : cI q = 0 := by rw [h]; decide +kernel
        rw [this] at k2
        obtain ⟨_, _⟩ := k1
        obtain ⟨_, _⟩ := k2
        unfold tol at *
        grind
      have m1 := Rat.mul_le_mul_of_nonneg_left e y0
      have m2 := Rat.mul_le_mul_of_nonneg_left c2 x0
      grind
  exact ⟨lo, by grind⟩
/-- an angle and sides: across, along -/
def Ang (a : Int) (x y E : Rat) : Prop := Wn (x * (cis a).im - y * (cis a).re) E ∧ -E ≤ x * (cis a).re + y * (cis a).im
/-- the angle of a point, all round -/
theorem ang_all {x y : Nat} (fx : Fin x) (fy : Fin y) (h : vl x ≠ 0 ∨ vl y ≠ 0) (bx : Wn (vl x) 2) (by1 : Wn (vl y) 2) :
    0 ≤ (angleP y x).1 ∧ (angleP y x).1 ≤ 360000000000 ∧ (0 ≤ vl y → (angleP y x).1 ≤ 180000000000) ∧ Ang (angleP y x).1 (vl x) (vl y) (26 / 1000000000000 * (rabs (vl x) + rabs (vl y)) + 1 / 10000000000000) := by
  obtain ⟨gx, vx⟩ := vl_abs fx
  obtain ⟨gy, vy⟩ := vl_abs fy
  have nx := rabs_nonneg (vl x)
  have ny := rabs_nonneg (vl y)
  have lx : rabs (vl x) ≤ 2 := by have := bx.1; have := bx.2; unfold rabs; split <;> grind
  have ly : rabs (vl y) ≤ 2 := by have := by1.1; have := by1.2; unfold rabs; split <;> grind
  obtain ⟨q0, q1, q2⟩ := quad_cross2 gx gy (by rw [vx]; exact nx) (by rw [vy]; exact ny) (by rw [vx]; exact lx) (by rw [vy]; exact ly)
  rw [vx, vy] at q2
  have e : ∀ q, q = quad (absW x) (absW y) → 0 ≤ q ∧ q ≤ 90000000000 ∧ Wn (rabs (vl x) * (cis q).im - rabs (vl y) * (cis q).re) (22 / 1000000000000 * (rabs (vl x) + rabs (vl y)) + 1 / 10000000000000) := by
    intro q hq; rw [hq]; exact ⟨q0, q1, q2⟩
  obtain ⟨q, hq⟩ : ∃ q, q = quad (absW x) (absW y) := ⟨_, rfl⟩
  obtain ⟨q0, q1, q2⟩ := e q hq
  obtain ⟨c0, s0⟩ := cis_first q0 q1
  have p1 := Rat.mul_le_mul_of_nonneg_left c0 nx
  have p2 := Rat.mul_le_mul_of_nonneg_left s0 ny
  have n := cis_neg q
  have nr := n.re
  have ni := n.im
  simp at nr ni
  have m1 := wn_mul (wn_pos nx) nr
  have m2 := wn_mul (wn_pos nx) ni
  have m3 := wn_mul (wn_pos ny) nr
  have m4 := wn_mul (wn_pos ny) ni
  by_cases h1 : 0 ≤ vl x <;> by_cases h2 : 0 ≤ vl y
  · rw [angle_pp fy fx h h1 h2, ← hq]
    have ax : rabs (vl x) = vl x := by unfold rabs; rw [if_neg (by grind)]
    have ay : rabs (vl y) = vl y := by unfold rabs; rw [if_neg (by grind)]
    simp only [ax, ay] at q2 p1 p2 m1 m2 m3 m4 ⊢
    exact ⟨q0, by omega, fun _ => by omega, q2.mono (by grind), by grind⟩
  · rw [angle_pn fy fx h1 (by grind), ← hq]
    have ax : rabs (vl x) = vl x := by unfold rabs; rw [if_neg (by grind)]
    have ay : rabs (vl y) = -vl y := by unfold rabs; rw [if_pos (by grind)]
    have ce : cis (normP (360000000000 - q)) = cis (-q) := cis_nm (by unfold normP; omega)
    simp only [ax, ay] at q2 p1 p2 m1 m2 m3 m4 ⊢
    unfold Ang
    rw [ce]
    generalize cis (-q) = d at *
    generalize cis q = c at *
    obtain ⟨_, _⟩ := m1; obtain ⟨_, _⟩ := m2; obtain ⟨_, _⟩ := m3; obtain ⟨_, _⟩ := m4; obtain ⟨_, _⟩ := q2
    exact ⟨by unfold normP; omega, by unfold normP; omega, fun k => absurd k h2, ⟨by grind, by grind⟩, by grind⟩
  · rw [angle_np fy fx (by grind) h2, ← hq]
    have ax : rabs (vl x) = -vl x := by unfold rabs; rw [if_pos (by grind)]
    have ay : rabs (vl y) = vl y := by unfold rabs; rw [if_neg (by grind)]
    have ce : cis (180000000000 - q) = (cis (-q)).neg := by rw [show 180000000000 - q = -q + 180000000000 by omega]; exact cis_pi _
    simp only [ax, ay] at q2 p1 p2 m1 m2 m3 m4 ⊢
    unfold Ang
    rw [ce]
    generalize cis (-q) = d at *
    generalize cis q = c at *
    simp only [Cx.neg_re, Cx.neg_im]
    obtain ⟨_, _⟩ := m1; obtain ⟨_, _⟩ := m2; obtain ⟨_, _⟩ := m3; obtain ⟨_, _⟩ := m4; obtain ⟨_, _⟩ := q2
    exact ⟨by omega, by omega, fun _ => by omega, ⟨by grind, by grind⟩, by grind⟩
  · rw [angle_nn fy fx (by grind) (by grind), ← hq]
    have ax : rabs (vl x) = -vl x := by unfold rabs; rw [if_pos (by grind)]
    have ay : rabs (vl y) = -vl y := by unfold rabs; rw [if_pos (by grind)]
    have ce : cis (180000000000 + q) = (cis q).neg := by rw [show 180000000000 + q = q + 180000000000 by omega]; exact cis_pi _
    simp only [ax, ay] at q2 p1 p2 m1 m2 m3 m4 ⊢
    unfold Ang
    rw [ce]
    generalize cis q = c at *
    simp only [Cx.neg_re, Cx.neg_im]
    obtain ⟨_, _⟩ := q2
    exact ⟨by omega, by omega, fun k => absurd k h2, ⟨by grind, by grind⟩, by grind⟩
end Go.Fp.Tri

/- From what lies across and along an angle to the angle; two angles and how far apart their points are. -/
namespace Go.Fp.Tri
open Go.Fp
set_option maxRecDepth 20000
/-- the angle's cosine and sine are the sides over the distance -/
theorem dir_of {a : Int} {x y R e z k : Rat} (hR : Wn (R * R - (x * x + y * y)) e) (R0 : 0 < R) (bx : Wn x 2) (by1 : Wn y 2) (hA : Ang a x y z)
    (hk : 1001 / 1000 * (e + 2 * (z * z) + 1 / 1000000000000000 * (R * R + e)) < k * R) (hk1 : k ≤ R / 2) :
    Wn ((cis a).re * R - x) (k + 1001 / 1000 * z + 3 / 1000000000000000) ∧ Wn ((cis a).im * R - y) (k + 1001 / 1000 * z + 3 / 1000000000000000) := by
  have N := cis_one a
  obtain ⟨hZ, hP⟩ := hA
  generalize (cis a).re = c at *
  generalize (cis a).im = s at *
  have bs := sq_le N
  have bc := sq_le (c := s) (N.of (show c * c + s * s - 1 = s * s + c * c - 1 by grind) Rat.le_refl)
  have z0 := hZ.nonneg
  obtain ⟨P, hPd⟩ : ∃ P, P = x * c + y * s := ⟨_, rfl⟩
  obtain ⟨Z, hZd⟩ : ∃ Z, Z = x * s - y * c := ⟨_, rfl⟩
  rw [← hZd] at hZ
  rw [← hPd] at hP
  have hPZ : P * P + Z * Z = (x * x + y * y) * (c * c + s * s) := by rw [hPd, hZd]; grind
  have ec : c * P = x * (c * c + s * s) - s * Z := by rw [hPd, hZd]; grind
  have es : s * P = y * (c * c + s * s) + c * Z := by rw [hPd, hZd]; grind
  have ZZ := (wn_mul hZ hZ).2
  have Z0 := rsq_nonneg Z
  obtain ⟨Q, hQ⟩ : ∃ Q, Q = x * x + y * y := ⟨_, rfl⟩
  have Q0 : 0 ≤ Q := by have := rsq_nonneg x; have := rsq_nonneg y; grind
  rw [← hQ] at hPZ hR
  have e0 := hR.nonneg
  have QN := wn_mul (wn_pos Q0) N
  have e1 : Q * (c * c + s * s) = Q + Q * (c * c + s * s - 1) := by grind
  rw [e1] at hPZ
  generalize Q * (c * c + s * s - 1) = qn at *
  obtain ⟨D, hD⟩ : ∃ D, D = e + 2 * (z * z) + 1 / 1000000000000000 * (R * R + e) := ⟨_, rfl⟩
  rw [← hD] at hk
  have D0 : 0 ≤ D := by have := rsq_nonneg z; have := rsq_nonneg R; grind
  have k0 : 0 ≤ k := by
    rcases Rat.le_total (a := 0) (b := k) with h | h
    · exact h
    · exfalso
      have := Rat.mul_nonneg (show 0 ≤ -k by grind) (Rat.le_of_lt R0)
      grind
  have PP : Wn (P * P - R * R) D := by
    obtain ⟨_, _⟩ := hR
    obtain ⟨_, _⟩ := QN
    rw [hD]
    generalize R * R = rr at *
    generalize P * P = pp at *
    generalize Z * Z = zz at *
    generalize z * z = z2 at *
    constructor <;> grind
  have kR := Rat.mul_le_mul_of_nonneg_right hk1 (Rat.le_of_lt R0)
  have Ppos : 0 ≤ P := by
    rcases Rat.le_total (a := 0) (b := P) with h | h
    · exact h
    · exfalso
      have q := sq_le_sq (show 0 ≤ -P by grind) (show -P ≤ z by grind)
      have := PP.1
      have : z * z ≤ D := by have := rsq_nonneg z; have := rsq_nonneg R; grind
      have := Rat.mul_pos R0 R0
      grind
  have hPR : Wn (R - P) (1000 / 1001 * k) := by
    constructor
    · have h1 : 1001 / 1000 * D < k * R := hk
      have := le_of_sq (a := P) (b := R + 1000 / 1001 * k) (by grind) (by have := PP.2; have := rsq_nonneg k; grind)
      grind
    · have h1 : 1001 / 1000 * D < k * R := hk
      have := le_of_sq (a := R - 1000 / 1001 * k) (b := P) Ppos (by
        have := PP.1
        have h2 : 1000 / 1001 * k * (1000 / 1001 * k) ≤ 1000 / 1001 * k * R := Rat.mul_le_mul_of_nonneg_left (by grind) (by grind)
        grind)
      grind
  have k1 := wn_add (wn_mul bc hPR) (wn_sub (wn_mul bx N) (wn_mul bs hZ))
  have k2 := wn_add (wn_mul bs hPR) (wn_add (wn_mul by1 N) (wn_mul bc hZ))
  constructor
  · refine k1.of ?_ ?_
    · have : c * (R - P) = c * R - c * P := by grind
      rw [this, ec]; grind
    · grind
  · refine k2.of ?_ ?_
    · have : s * (R - P) = s * R - s * P := by grind
      rw [this, es]; grind
    · grind
def PSq : List Rat := [0, 0, -inv 3, 0, inv 5, 0, -inv 7, 0, inv 9, 0, -inv 11, 0, inv 13, 0, -inv 15, 0, inv 17]
def PCq : List Rat := [0, -inv 2, 0, inv 4, 0, -inv 6, 0, inv 8, 0, -inv 10, 0, inv 12, 0, -inv 14, 0, inv 16]
theorem psq_bd : pbd PSq (1 / 10) ≤ 17 / 10000 := by decide +kernel
theorem pcq_bd : pbd PCq (1 / 10) ≤ 51 / 1000 := by decide +kernel
theorem psq_bd2 : pbd PSq (1 / 10000000000) ≤ 1 / 10000000000 := by decide +kernel
theorem pcq_bd2 : pbd PCq (1 / 10000000000) ≤ 1 / 10000000000 := by decide +kernel
theorem S_q (x : Rat) : S x = x + x * pev PSq x := by simp only [S, PS, PSq, pev]; grind
theorem C_q (x : Rat) : C x = 1 + x * pev PCq x := by simp only [C, PC, PCq, pev]
/-- a point that is turned a little -/
theorem cs_one {x e : Rat} (h : Wn x e) (he : e ≤ 1 / 10) : MB ((cs x).sub Cx.one) (e * (1004 / 1000)) := by
  have hx := h.mono he
  have e0 := h.nonneg
  have a := wn_mul h ((wn_pev PSq hx).mono psq_bd)
  have b := wn_mul h ((wn_pev PCq hx).mono pcq_bd)
  refine MB.of (x := e * (51 / 1000)) (y := e * (10017 / 10000)) ?_ ?_ (by grind) ?_
  · show Wn (C x - 1) _
    rw [C_q]
    exact b.of (by grind) Rat.le_refl
  · show Wn (S x - 0) _
    rw [S_q]
    exact (wn_add h a).of (by grind) (by grind)
  · have := rsq_nonneg e
    grind
/-- a point that is turned very little -/
theorem cs_lin {x e : Rat} (h : Wn x e) (he : e ≤ 1 / 10000000000) : MB ((cs x).sub ⟨1, x⟩) (2 / 100000000000000000000) := by
  have hx := h.mono he
  have a := wn_mul hx ((wn_pev PSq hx).mono psq_bd2)
  have b := wn_mul hx ((wn_pev PCq hx).mono pcq_bd2)
  refine MB.of (x := 1 / 100000000000000000000) (y := 1 / 100000000000000000000) ?_ ?_ (by grind) (by grind)
  · show Wn (C x - 1) _
    rw [C_q]
    exact b.of (by grind) (by grind)
  · show Wn (S x - x) _
    rw [S_q]
    exact a.of (by grind) (by grind)
theorem rho_int {d : Int} {B : Int} (h1 : -B ≤ d) (h2 : d ≤ B) : Wn ((d : Rat) * rho) ((B : Rat) * rho) := by
  have p := rho_pos
  have a := Rat.mul_le_mul_of_nonneg_right (castle h1) (Rat.le_of_lt p)
  have b := Rat.mul_le_mul_of_nonneg_right (castle h2) (Rat.le_of_lt p)
  have e : ((-B : Int) : Rat) = -(B : Rat) := by simp
  rw [e] at a
  exact ⟨by grind, b⟩
/-- two angles near each other: their points -/
theorem cis_chord {a d B : Int} (h1 : -B ≤ d) (h2 : d ≤ B) (hB : B ≤ 5000000000) : MB ((cis (a + d)).sub (cis a)) ((B : Rat) * rho * (1005 / 1000) + 3 / 1000000000000) := by
  have p := rho_pos
  have w := rho_int h1 h2
  have hb : (B : Rat) * rho ≤ 1 / 10 := by
    have := Rat.mul_le_mul_of_nonneg_right (castle hB) (Rat.le_of_lt p)
    have := rho_hi
    have e : ((5000000000 : Int) : Rat) = 5000000000 := rfl
    grind
  have c := cs_one w hb
  have e : cis d = cs ((d : Rat) * rho) := cis_small (by omega) (by omega)
  rw [← e] at c
  have m := (cis_bd a).mul c
  have s := (cis_add a d).add m
  refine (s.cast (Cx.ext' (by simp; grind) (by simp; grind))).mono ?_
  have := w.nonneg
  grind
/-- two angles a few nanodegrees apart: their points -/
theorem cis_lin {a d : Int} (h1 : -5 ≤ d) (h2 : d ≤ 5) : MB (((cis (a + d)).sub (cis a)).sub ((⟨0, (d : Rat) * rho⟩ : Cx).mul (cis a))) (21 / 10000000000000) := by
  have p := rho_pos
  have w := rho_int (B := 5) h1 h2
  have hb : ((5 : Int) : Rat) * rho ≤ 1 / 10000000000 := by
    have := rho_hi
    have e : ((5 : Int) : Rat) = 5 := rfl
    grind
  have c := cs_lin w hb
  have e : cis d = cs ((d : Rat) * rho) := cis_small (by omega) (by omega)
  rw [← e] at c
  have m := (cis_bd a).mul c
  have s := (cis_add a d).add m
  refine (s.cast (Cx.ext' (by simp; grind) (by simp; grind))).mono (by grind)
end Go.Fp.Tri

/- Walk: sine and cosine of an angle and a number beside it, the reference's. -/
namespace Go.Proofs.YtfhpnkmpjijebaaDoor
open Go.RowKit Go.Fp Go.Rel
set_option maxRecDepth 20000

def PrR (u : Int) (V : Nat) (w : World) (e : Ending) (w' : World) : Prop := ∃ a b c d, e = .returned (.tuple #[.agg #[.float .f64 a, .float .f64 b], .agg #[.float .f64 c, .float .f64 d]]) ∧
  can a = sinRe u V ∧ can b = sinIm u V ∧ can c = cosRe u V ∧ can d = cosIm u V ∧ Ext w w'
end Go.Proofs.YtfhpnkmpjijebaaDoor

/- Walk: the closure of package path's Reach. -/
namespace Go.Proofs.YtfhpnkmpjijebaaDoor
open Go.RowKit Go.Fp Go.Rel
set_option maxRecDepth 20000

abbrev tF : TypeId := 22
abbrev ptr (n : Nat) : Value := .pointer (some ⟨n, 0, none⟩)
/-- three blocks of one's own hold these; all else is as it was -/
def LookR (n3 n4 n5 : Nat) (CM SS CS : Nat) (w : World) (e : Ending) (w' : World) : Prop :=
  e = .returned (.tuple #[]) ∧ Blk w' n3 tF #[.float .f64 CM] ∧ Blk w' n4 tF #[.float .f64 SS] ∧ Blk w' n5 tF #[.float .f64 CS] ∧
  (∀ n t c, n ≠ n3 → n ≠ n4 → n ≠ n5 → Blk w n t c → Blk w' n t c) ∧ (∀ b, Ext b w → b.heap.size ≤ n3 → b.heap.size ≤ n4 → b.heap.size ≤ n5 → Ext b w')

/-- all but three blocks is as it was -/
structure Own3 (w0 : World) (n3 n4 n5 : Nat) (w : World) : Prop where
  blk : ∀ n t c, n ≠ n3 → n ≠ n4 → n ≠ n5 → Blk w0 n t c → Blk w n t c
  ext : ∀ b, Ext b w0 → b.heap.size ≤ n3 → b.heap.size ≤ n4 → b.heap.size ≤ n5 → Ext b w
theorem Own3.refl (w : World) (n3 n4 n5 : Nat) : Own3 w n3 n4 n5 w := ⟨fun _ _ _ _ _ _ h => h, fun _ h _ _ _ => h⟩
theorem Own3.step {w0 w w' : World} {n3 n4 n5 : Nat} (h : Own3 w0 n3 n4 n5 w) (hx : Ext w w') : Own3 w0 n3 n4 n5 w' :=
  ⟨fun n t c a b d k => (h.blk n t c a b d k).ext hx, fun b hb x y z => (h.ext b hb x y z).trans hx⟩
theorem Own3.store {w0 w w' : World} {n3 n4 n5 g : Nat} (h : Own3 w0 n3 n4 n5 w) (hg : g = n3 ∨ g = n4 ∨ g = n5) (hx : ∀ b, Ext b w → b.heap.size ≤ g → Ext b w') (hs : ∀ n, n ≠ g → w'.heap[n]? = w.heap[n]?) :
    Own3 w0 n3 n4 n5 w' :=
  ⟨fun n t c a b d k => Blk.same (h.blk n t c a b d k) hs (by rcases hg with rfl | rfl | rfl <;> assumption),
   fun b hb x y z => hx b (h.ext b hb x y z) (by rcases hg with rfl | rfl | rfl <;> assumption)⟩
theorem Own3.drewN {w0 w : World} {n3 n4 n5 : Nat} (h : Own3 w0 n3 n4 n5 w) (k : Nat) : Own3 w0 n3 n4 n5 (w.drewN k) := h.step ((Ext.refl w).drewN k)

set_option maxHeartbeats 4000000 in
theorem look_c (n1 n2 n3 n4 n5 s1 o x3 x4 x5 : Nat) (w : World) (_h13 : n1 ≠ n3) (h23 : n2 ≠ n3) (h34 : n3 ≠ n4) (h35 : n3 ≠ n5) (h45 : n4 ≠ n5)
    (b1 : Blk w n1 tF #[.float .f64 s1]) (b2 : Blk w n2 tF #[.float .f64 o]) (b3 : Blk w n3 tF #[.float .f64 x3]) (b4 : Blk w n4 tF #[.float .f64 x4]) (b5 : Blk w n5 tF #[.float .f64 x5]) :
    Calls Tryd.prog 30 #[ptr n1, ptr n2, ptr n3, ptr n4, ptr n5] w
      (LookR n3 n4 n5 (cosP (nearP (fadd (fmul (can c2) (can s1)) (can o)))) (sinP (nearP (can o))) (cosP (nearP (can o))) w) := by
  have hO := Own3.refl w n3 n4 n5
  generalize hC : nearP (fadd (fmul (can c2) (can s1)) (can o)) = M
  have HC := Lib.hid hC
  clear hC
  generalize hK : nearP (can o) = N
  have HK := Lib.hid hK
  clear hK
  have k1 := b1.cell
  have k2 := b2.cell
  have tk : Hid True := trivial
  have tc : Hid True := trivial
  go_enter Tryd.func30, Tryd.ntmps30
  go_wp2_with (first
    | (with_reducible refine upon_fl rfl ?_; intro r n hr)
    | (go_at_call 20; clear tk; go_must (refine (nearest_c _ _).mono ?_; rintro e v1 ⟨rfl, hx⟩; clear k1 k2; replace b2 := b2.ext (bareN hx rfl rfl rfl rfl); replace b3 := b3.ext (bareN hx rfl rfl rfl rfl); replace b4 := b4.ext (bareN hx rfl rfl rfl rfl); replace b5 := b5.ext (bareN hx rfl rfl rfl rfl); replace hO := hO.step (bareN hx rfl rfl rfl rfl); clear hx b1; simp only [*, fbin]; rw [HC.out]))
    | (go_at_call 20; go_must (refine (nearest_c _ _).mono ?_; rintro e v3 ⟨rfl, hx⟩; clear k2; replace c3 := c3.ext (bareN hx rfl rfl rfl rfl); replace b4 := b4.ext (bareN hx rfl rfl rfl rfl); replace b5 := b5.ext (bareN hx rfl rfl rfl rfl); replace hO := hO.step (bareN hx rfl rfl rfl rfl); clear hx; rw [HK.out]))
    | (go_at_call 22; clear tc; go_must (refine (cos_c _ _).mono ?_; rintro e v2 ⟨rfl, hx⟩; replace b2 := b2.ext (bareN hx rfl rfl rfl rfl); replace b3 := b3.ext (bareN hx rfl rfl rfl rfl); replace b4 := b4.ext (bareN hx rfl rfl rfl rfl); replace b5 := b5.ext (bareN hx rfl rfl rfl rfl); replace hO := hO.step (bareN hx rfl rfl rfl rfl); clear hx))
    | (go_at_call 22; go_must (refine (cos_c _ _).mono ?_; rintro e v2 ⟨rfl, hx⟩; replace c3 := c3.ext (bareN hx rfl rfl rfl rfl); replace b4 := b4.ext (bareN hx rfl rfl rfl rfl); replace b5 := b5.ext (bareN hx rfl rfl rfl rfl); replace hO := hO.step (bareN hx rfl rfl rfl rfl); clear hx))
    | (go_at_call 21; go_must (refine (sin_c _ _).mono ?_; rintro e v2 ⟨rfl, hx⟩; replace c3 := c3.ext (bareN hx rfl rfl rfl rfl); replace b4 := b4.ext (bareN hx rfl rfl rfl rfl); replace b5 := b5.ext (bareN hx rfl rfl rfl rfl); replace hO := hO.step (bareN hx rfl rfl rfl rfl); clear hx))
    | (refine wpList_ownF rfl 22 _ _ rfl _ _ _ rfl rfl _ _ b3 (by kernel_rfl) ?_; go_must (intro u1 c3 e3 s3 z3; replace b2 := b2.same s3 h23; replace b4 := b4.same s3 h34.symm; replace b5 := b5.same s3 h35.symm; replace hO := hO.store (.inl rfl) e3 s3; have k2 := b2.cell; clear b3 e3 s3 z3))
    | (refine wpList_ownF rfl 22 _ _ rfl _ _ _ rfl rfl _ _ b4 (by kernel_rfl) ?_; go_must (intro u1 c4 e4 s4 z4; replace c3 := c3.same s4 h34; replace b5 := b5.same s4 h45.symm; replace hO := hO.store (.inr (.inl rfl)) e4 s4; clear b4 e4 s4 z4))
    | (refine wpList_ownF rfl 22 _ _ rfl _ _ _ rfl rfl _ _ b5 (by kernel_rfl) ?_; go_must (intro u1 c5 e5 s5 z5; replace c3 := c3.same s5 h35; replace c4 := c4.same s5 h45; replace hO := hO.store (.inr (.inr rfl)) e5 s5; clear b5 e5 s5 z5)))
  (try simp only [Exit.inBlock, Exit.then])
  refine bodyPost_ret (results_none rfl _ _ _) rfl ?_
  exact ⟨rfl, c3, c4, c5, hO.blk, hO.ext⟩
end Go.Proofs.YtfhpnkmpjijebaaDoor

/- Walks: a sum of powers, the reference's and package wave's. -/
namespace Go.Proofs.YtfhpnkmpjijebaaDoor
open Go.RowKit Go.Fp Go.Rel
set_option maxRecDepth 20000

/-- floats in a row -/
def fls (cs : List Nat) : Array Value := (cs.map fun c => Value.float .f64 c).toArray
/-- the sum, from its first terms -/
def hornP (n : Nat) (cs : List Nat) : Nat → Nat
  | 0 => 0
  | k + 1 => fadd (can (cs.getD k 0)) (fmul n (hornP n cs k))
/-- the sum, from its last terms -/
def polyS (n : Nat) (cs : List Nat) : Nat → Nat
  | 0 => can (cs.getD (cs.length - 1) 0)
  | k + 1 => fadd (can (cs.getD (cs.length - 2 - k) 0)) (fmul n (polyS n cs k))
end Go.Proofs.YtfhpnkmpjijebaaDoor

/- The third flattening of a globe is a number. -/
namespace Go.Fp
open Ieee

theorem mul_zero {x : Nat} {k : Int} (h : Tp k x) : fmul x 0 = 0 ∨ fmul x 0 = 2 ^ 63 := by
  obtain ⟨s, m, i, hr, _⟩ := h
  have hz : D.read 0 = .number false 0 (-1074) := by decide +kernel
  rw [mul_read hr hz, Nat.mul_zero]
  unfold Format.nearest
  rw [if_pos rfl]
  unfold Format.word
  rw [D_sign]
  cases s
  · left; rfl
  · right; rfl
end Go.Fp
