/- The latitude that is found step by step: how near it comes. -/
import Derived.Test.YteebbcdbkkliaaaDoorGJ
namespace Go.Proofs.YteebbcdbkkliaaaDoor
open Go.Fp Go.Fp.Tri
set_option maxRecDepth 20000
variable {a f high : Nat}
/-- what the steps are told: the height above the axis, the distance from it -/
structure Vec2 (a f high : Nat) (t0 m0 : Int) (g n R : Rat) (z P : Nat) : Prop where
  hs : Sgn t0 m0 g
  l0 : 0 ≤ m0
  l1 : m0 ≤ 89000000000
  neg : g = -1 → 1 ≤ m0
  rad : Rad a f high t0 m0 n R
  fz : Fp.Fin z
  ez : Wn (g * vl z - (R - vl (eccP f) * (vl a * n)) * sI m0) (R * (13 / 1000000000000000))
  pz : g = 1 → 0 ≤ vl z
  fP : Fp.Fin P
  eP : Wn (vl P - R * cI m0) (R * (8 / 100000000000000))
theorem vec2_R (s : Snd a f high) {t0 m0 : Int} {g n R : Rat} {z P : Nat} (v : Vec2 a f high t0 m0 g n R z P) : 900000 ≤ R ∧ R ≤ 12000000 ∧ vl a ≤ R * (10205 / 10000) ∧ 0 ≤ vl (eccP f) * (vl a * n) ∧ R * (97 / 100) ≤ R - vl (eccP f) * (vl a * n) := by
  have a1 := s.a1
  have R1 := v.rad.R1
  have R2 := v.rad.R2
  have R3 := v.rad.R3
  have lo := v.rad.lo
  obtain ⟨ge, e0, e50⟩ := ecc_ok s
  have M0 : 0 ≤ vl a * n := Rat.mul_nonneg (by grind) (by grind)
  have h := wn_mul (show Wn (vl (eccP f)) (1 / 50) from ⟨by grind, e50⟩) (show Wn (vl a * n) (R * (102 / 100)) from ⟨by grind, R3⟩)
  exact ⟨by grind, R2, by grind, Rat.mul_nonneg e0 M0, by have := h.2; grind⟩
theorem vec2_cos (s : Snd a f high) {t0 m0 : Int} {g n R : Rat} {z P : Nat} (v : Vec2 a f high t0 m0 g n R z P) : 1 / 100 ≤ cI m0 ∧ R * (9 / 1000) ≤ vl P := by
  obtain ⟨k1, _, _, _⟩ := vec2_R s v
  have h : 1 / 100 ≤ cI m0 := by
    have a : (1000000000 : Rat) ≤ ((90000000000 - m0 : Int) : Rat) := castle (a := 1000000000) (by have := v.l1; omega)
    have e : ((90000000000 - m0 : Int) : Rat) = 90000000000 - (m0 : Rat) := by push_cast; rfl
    rw [e] at a
    have r := rho_lo
    have := Rat.mul_le_mul_of_nonneg_right a (Rat.le_of_lt rho_pos)
    rcases cI_ge v.l0 (show m0 ≤ 90000000000 by have := v.l1; omega) with h | h <;> grind
  refine ⟨h, ?_⟩
  have := v.eP.1
  have := Rat.mul_le_mul_of_nonneg_left h (show 0 ≤ R by grind)
  grind
/-- above the axis or below it -/
theorem above (s : Snd a f high) {t0 m0 : Int} {g n R : Rat} {z P : Nat} (v : Vec2 a f high t0 m0 g n R z P) (hm : 1 ≤ m0) : R * (97 / 10000000000000) ≤ (R - vl (eccP f) * (vl a * n)) * sI m0 := by
  obtain ⟨k1, k2, k3, k4, k5⟩ := vec2_R s v
  have h := sI_pos hm (by have := v.l1; omega)
  have h1 := Rat.mul_le_mul_of_nonneg_left h (show 0 ≤ R - vl (eccP f) * (vl a * n) by grind)
  grind
theorem first_sgn (s : Snd a f high) {t0 m0 : Int} {g n R : Rat} {z P : Nat} (v : Vec2 a f high t0 m0 g n R z P) :
    ∃ m, Sgn (firstT f z P) m g ∧ 0 ≤ m ∧ m ≤ 90000000000 := by
  obtain ⟨k1, k2, k3, k4, k5⟩ := vec2_R s v
  obtain ⟨c1, c2⟩ := vec2_cos s v
  obtain ⟨fo, eo⟩ := oneE_ok s
  obtain ⟨ge, e0, e50⟩ := ecc_ok s
  have u1 : uu = 1 / 9007199254740992 := uu_eq
  have bc := wn_cI (m := m0) (by have := v.l0; omega) (by have := v.l1; omega)
  have bR : Wn R R := ⟨by grind, by grind⟩
  have bP : Wn (vl P) (R * (1002 / 1000)) := (wn_add v.eP (wn_mul bR bc)).of (by grind) (by grind)
  have olo : 9 / 10 ≤ vl (fsub (can cOne) (eccP f)) := by have := eo.1; rw [u1] at this; grind
  have ohi : vl (fsub (can cOne) (eccP f)) ≤ 11 / 10 := by have := eo.2; rw [u1] at this; grind
  unfold firstT
  rw [v.fz.can]
  generalize fsub (can cOne) (eccP f) = O at *
  obtain ⟨f1, e1⟩ := mulE v.fP fo _ (wn_mul bP (show Wn (vl O) (11 / 10) from ⟨by grind, ohi⟩)) (by grind)
  have hpo := Rat.mul_le_mul_of_nonneg_left olo (show 0 ≤ vl P by grind)
  have pos : 0 < vl (fmul P O) := by have := e1.1; rw [u1] at this; grind
  obtain ⟨q0, q1⟩ := quad_range (absW (fmul P O)) (absW z)
  rcases v.hs with ⟨_, rfl⟩ | ⟨_, rfl⟩
  · rw [angS_pp v.fz f1 pos (v.pz rfl)]
    exact ⟨_, .inl ⟨rfl, rfl⟩, q0, q1⟩
  · have hz : vl z < 0 := by
      have h := above s v (v.neg rfl)
      have := v.ez.1
      grind
    rw [angS_pn v.fz f1 pos hz]
    exact ⟨_, .inr ⟨rfl, rfl⟩, q0, q1⟩
set_option maxHeartbeats 2000000 in
/-- one step on -/
theorem step_near (s : Snd a f high) {t0 m0 : Int} {g n R : Rat} {z P : Nat} (v : Vec2 a f high t0 m0 g n R z P) {t m : Int} (hs : Sgn t m g) (h0 : 0 ≤ m) (h1 : m ≤ 90000000000)
    {Dd : Rat} (hD : Wn ((m : Rat) - m0) Dd) (hD2 : Dd ≤ 90000000000) :
    ∃ m', Sgn (stepT a f z P t) m' g ∧ 0 ≤ m' ∧ m' ≤ 90000000000 ∧ Wn ((m' : Rat) - m0) (Dd * (495 / 10000) + 115 / 100) := by
  obtain ⟨k1, k2, k3, k4, k5⟩ := vec2_R s v
  obtain ⟨c1, c2⟩ := vec2_cos s v
  obtain ⟨ge, e0, e50⟩ := ecc_ok s
  obtain ⟨fN, nt, hN, nlo, nhi, nrel⟩ := cross_near s hs h0 h1
  obtain ⟨⟨fx, ex⟩, _⟩ := sc_sgn hs h0 h1
  have u1 : uu = 1 / 9007199254740992 := uu_eq
  have m0a := v.l0
  have m0b : m0 ≤ 90000000000 := by have := v.l1; omega
  have bs := wn_sI (m := m) (by omega) h1
  have bs0 := wn_sI (m := m0) (by omega) m0b
  have sp := sI_nonneg h0 h1
  have sp0 := sI_nonneg m0a m0b
  have cp0 := cI_nonneg m0a m0b
  obtain ⟨ls, _⟩ := lipI h0 h1 m0a m0b hD
  obtain ⟨_, nd⟩ := n_diff e0 e50 bs bs0 nlo nhi v.rad.lo v.rad.hi nrel v.rad.rel ls
  have a1 := s.a1
  have D0 := hD.nonneg
  have r0 := rho_pos
  have rl := rho_lo
  have rh := rho_hi
  have Dr0 : 0 ≤ Dd * rho := Rat.mul_nonneg D0 (Rat.le_of_lt r0)
  have Dr1 : Dd * rho ≤ 1571 / 1000 := Rat.le_trans (Rat.mul_le_mul_of_nonneg_right hD2 (Rat.le_of_lt r0)) (by unfold rho; grind)
  have bgx : Wn (g * vl (sinP t)) (1002 / 1000) := (wn_add ex bs).of (by grind) (by grind)
  have bx : Wn (vl (sinP t)) (1002 / 1000) := hs.wn' bgx
  have hab := fun hm => above s v hm
  have eza := v.ez
  unfold stepT
  rw [v.fz.can, fx.can]
  have spx : g = 1 → 0 ≤ vl (sinP t) := by
    rintro rfl
    rcases hs with ⟨rfl, _⟩ | ⟨_, h⟩
    · exact sin_nonneg h0 h1
    · exfalso; grind
  generalize sinP t = x at *
  generalize crossP a f t = N at *
  generalize eccP f = E at *
  have be : Wn (vl E) (1 / 50) := ⟨by grind, e50⟩
  have bAn : Wn (vl a * nt) (R * (10512 / 10000)) := (wn_mul (show Wn (vl a) (R * (10205 / 10000)) from ⟨by grind, k3⟩) (show Wn nt (103 / 100) from ⟨by grind, nhi⟩)).mono (by grind)
  have An0 : 0 ≤ vl a * nt := Rat.mul_nonneg (by grind) (by grind)
  have eN0 : 0 ≤ vl E * vl N := by rw [hN]; exact Rat.mul_nonneg e0 An0
  have beN : Wn (vl E * vl N) (R * (22 / 1000)) := by rw [hN]; exact (wn_mul be bAn).mono (by grind)
  obtain ⟨f1, e1⟩ := mulE ge fN _ beN (by grind)
  have p1 := fmul_nonneg ge fN _ beN (big_le' (by grind)) eN0
  have b1 : Wn (vl (fmul E N)) (R * (23 / 1000)) := (wn_add e1 beN).of (by grind) (by rw [u1]; grind)
  generalize fmul E N = r1 at *
  have b1x : Wn (vl r1 * vl x) (R * (24 / 1000)) := (wn_mul b1 bx).mono (by grind)
  obtain ⟨f2, e2⟩ := mulE f1 fx _ b1x (by grind)
  have p2 : g = 1 → 0 ≤ vl (fmul r1 x) := fun hg => fmul_nonneg f1 fx _ b1x (big_le' (by grind)) (Rat.mul_nonneg p1 (spx hg))
  -- what is added
  have q1 : Wn (g * vl (fmul r1 x) - vl E * (vl a * nt) * sI m) (R * (1 / 1000000000000000)) := by
    have d1 := hs.wn e2
    have d2 := wn_mul b1 ex
    have d3 := wn_mul e1 bs
    rw [hN] at d3
    exact (wn_add d1 (wn_add d2 d3)).of (by grind) (by rw [u1]; grind)
  have bq : Wn (vl (fmul r1 x)) (R * (25 / 1000)) := (wn_add e2 b1x).of (by grind) (by rw [u1]; grind)
  generalize fmul r1 x = r2 at *
  have bQ : Wn (R - vl E * (vl a * n)) R := ⟨by grind, by grind⟩
  have bgz : Wn (g * vl z) (R * (1002 / 1000)) := (wn_add eza (wn_mul bQ bs0)).of (by grind) (by grind)
  have bz := v.hs.wn' bgz
  have bzr : Wn (vl z + vl r2) (R * (11 / 10)) := (wn_add bz bq).mono (by grind)
  obtain ⟨f3, e3⟩ := addE v.fz f2 _ bzr (by grind)
  have p3 : g = 1 → 0 ≤ vl (fadd z r2) := fun hg => fadd_nonneg v.fz f2 _ bzr (big_le' (by grind)) (by have := v.pz hg; have := p2 hg; grind)
  have q2 : Wn (g * vl (fadd z r2) - ((R - vl E * (vl a * n)) * sI m0 + vl E * (vl a * nt) * sI m)) (R * (15 / 1000000000000000)) := by
    have d1 := hs.wn e3
    exact (wn_add d1 (wn_add eza q1)).of (by grind) (by rw [u1]; grind)
  generalize fadd z r2 = Y at *
  have p4 : g = -1 → vl Y < 0 := fun hg => by
    have h := hab (v.neg hg)
    have h2 : 0 ≤ vl E * (vl a * nt) * sI m := Rat.mul_nonneg (Rat.mul_nonneg e0 An0) sp
    have := q2.1
    rw [hg] at this
    grind
  -- the side as it ought to be
  have wA : Wn (vl E * vl a) (R * (2041 / 100000)) := (wn_mul be (show Wn (vl a) (R * (10205 / 10000)) from ⟨by grind, k3⟩)).mono (by grind)
  have q3 := wn_mul wA nd
  have q4 : Wn (g * vl Y - R * sI m0) (R * (Dd * rho * (2848 / 100000) + 16 / 1000000000000000)) := (wn_add q2 q3).of (by grind) (by
    have := Rat.mul_le_mul_of_nonneg_left (show (2041 / 100000 : Rat) * (1053 / 1000 * (Dd * rho * (1325 / 1000) + 1 / 1000000000000000) + 105 / 100 * (1 / 100000000000000)) + 15 / 1000000000000000 ≤ Dd * rho * (2848 / 100000) + 16 / 1000000000000000 by grind) (show 0 ≤ R by grind)
    grind)
  have bcos := Rat.mul_nonneg (show 0 ≤ R by grind) cp0
  have bsin := Rat.mul_nonneg (show 0 ≤ R by grind) sp0
  obtain ⟨fu, vu⟩ := vl_abs v.fP
  obtain ⟨fw, vw⟩ := vl_abs f3
  have eu := near_abs bcos (.inl v.eP)
  rw [← vu] at eu
  have ew : Wn (vl (absW Y) - R * sI m0) (R * (Dd * rho * (2848 / 100000) + 16 / 1000000000000000)) := by
    rw [vw]
    refine near_abs bsin ?_
    rcases hs with ⟨_, rfl⟩ | ⟨_, rfl⟩
    · left; exact q4.of (by grind) Rat.le_refl
    · right; exact q4.of (by grind) Rat.le_refl
  obtain ⟨a0, a1', a2, a3⟩ := quad_near m0a m0b fu fw (by grind) (by grind) eu ew (by grind) (by grind)
  have ang : Sgn (angS Y P) (quad (absW P) (absW Y)) g := by
    rcases v.hs with ⟨_, hg⟩ | ⟨_, hg⟩
    · rw [angS_pp f3 v.fP (by grind) (p3 hg)]; exact .inl ⟨rfl, hg⟩
    · rw [angS_pn f3 v.fP (by grind) (p4 hg)]; exact .inr ⟨rfl, hg⟩
  refine ⟨_, ang, a0, a1', ?_⟩
  generalize quad (absW P) (absW Y) = q at *
  have K : 1001 / 1000 * (8 / 100000000000000 + (Dd * rho * (2848 / 100000) + 16 / 1000000000000000)) + 13 / 10000000000000 ≤ 58 / 100 * ((Dd * (495 / 10000) + 15 / 100) * rho) := by grind
  constructor
  · have h : rho * -(Dd * (495 / 10000) + 115 / 100) ≤ rho * ((q : Rat) - m0) := by grind
    exact le_of_scaled r0 h
  · have h : rho * ((q : Rat) - m0) ≤ rho * (Dd * (495 / 10000) + 115 / 100) := by grind
    exact le_of_scaled r0 h
def Dk : Nat → Rat
  | 0 => 90000000000
  | k + 1 => Dk k * (495 / 10000) + 115 / 100
theorem Dk_bd : ∀ k, 0 ≤ Dk k ∧ Dk k ≤ 90000000000
  | 0 => by unfold Dk; constructor <;> grind
  | k + 1 => by
    obtain ⟨h1, h2⟩ := Dk_bd k
    unfold Dk
    constructor <;> grind
theorem Dk_8 : Dk 8 < 5 := by decide +kernel
theorem iter_near (s : Snd a f high) {t0 m0 : Int} {g n R : Rat} {z P : Nat} (v : Vec2 a f high t0 m0 g n R z P) :
    ∀ k, ∃ m, Sgn (iterT a f z P k) m g ∧ 0 ≤ m ∧ m ≤ 90000000000 ∧ Wn ((m : Rat) - m0) (Dk k)
  | 0 => by
    obtain ⟨m, h1, h2, h3⟩ := first_sgn s v
    refine ⟨m, h1, h2, h3, ?_⟩
    have b1 : (0 : Rat) ≤ (m : Rat) := castle h2
    have b2 : (m : Rat) ≤ 90000000000 := castle h3
    have b3 : (0 : Rat) ≤ (m0 : Rat) := castle v.l0
    have b4 : (m0 : Rat) ≤ 89000000000 := castle v.l1
    show Wn _ 90000000000
    constructor <;> grind
  | k + 1 => by
    obtain ⟨m, h1, h2, h3, h4⟩ := iter_near s v k
    obtain ⟨m', q1, q2, q3, q4⟩ := step_near s v h1 h2 h3 h4 (Dk_bd k).2
    exact ⟨m', q1, q2, q3, q4⟩
/-- the latitude comes back but for four nanodegrees -/
theorem lat_back (s : Snd a f high) {t0 m0 : Int} {g n R : Rat} {z P : Nat} (v : Vec2 a f high t0 m0 g n R z P) :
    ∃ m, Sgn (iterT a f z P 8) m g ∧ 0 ≤ m ∧ m ≤ 90000000000 ∧ m - m0 ≤ 4 ∧ m0 - m ≤ 4 := by
  obtain ⟨m, h1, h2, h3, h4⟩ := iter_near s v 8
  have h8 := Dk_8
  refine ⟨m, h1, h2, h3, ?_, ?_⟩
  · refine whole_le (x := Dk 8) ?_ ?_
    · have := h4.2; push_cast; exact this
    · push_cast; grind
  · refine whole_le (x := Dk 8) ?_ ?_
    · have := h4.1; push_cast; grind
    · push_cast; grind
end Go.Proofs.YteebbcdbkkliaaaDoor
