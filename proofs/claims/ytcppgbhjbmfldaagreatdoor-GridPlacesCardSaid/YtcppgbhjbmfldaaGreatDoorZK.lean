/- Walks: the vector of a place on a globe, where there is one. -/
import Derived.Test.YtcppgbhjbmfldaaGreatDoorZJ
namespace Go.Proofs.YtcppgbhjbmfldaaGreatDoor
open Go.RowKit Go.Fp Go.Rel
set_option maxRecDepth 20000

end Go.Proofs.YtcppgbhjbmfldaaGreatDoor

/- Walks: the vector of a place on a globe, the reference's. -/
namespace Go.Proofs.YtcppgbhjbmfldaaGreatDoor
open Go.RowKit Go.Fp Go.Rel
set_option maxRecDepth 20000

def VecQ (X Y Z : Nat) (k : Int) (w : World) (e : Ending) (w' : World) : Prop :=
  ∃ x y z, e = .returned (.tuple #[vecV x y z, .int .i64 k]) ∧ can x = X ∧ can y = Y ∧ can z = Z ∧ Ext w w'

end Go.Proofs.YtcppgbhjbmfldaaGreatDoor

/- Walks: the place of a vector on a globe, the program's. -/
namespace Go.Proofs.YtcppgbhjbmfldaaGreatDoor
open Go.RowKit Go.Fp Go.Rel
set_option maxRecDepth 20000

abbrev cTop : Nat := 4756540486875873280
abbrev cTwo : Nat := 4611686018427387904
def halfP (a : Nat) : Nat := fdiv (can a) (can cTwo)
def rootP (x y : Nat) : Nat := fsqrt (fadd (fmul (can x) (can x)) (fmul (can y) (can y)))
/-- the latitude at first; a step on; the one after so many steps -/
def firstT (f z P : Nat) : Int := angS (can z) (fmul P (fsub (can cOne) (eccP f)))
def stepT (a f z P : Nat) (t : Int) : Int := angS (fadd (can z) (fmul (fmul (eccP f) (crossP a f t)) (can (sinP t)))) P
def iterT (a f z P : Nat) : Nat → Int
  | 0 => firstT f z P
  | n + 1 => stepT a f z P (iterT a f z P n)
def highFlat (a f P : Nat) (t : Int) : Nat := fsub (fdiv P (can (cosP t))) (crossP a f t)
def highSteep (a f z : Nat) (t : Int) : Nat := fsub (fdiv (can z) (can (sinP t))) (fmul (crossP a f t) (fsub (can cOne) (eccP f)))
def highP (a f z P : Nat) (t : Int) : Nat := if t ≤ 45000000000 ∧ -45000000000 ≤ t then highFlat a f P t else highSteep a f z t

/-- the place of a vector and how high it is, or the error's number -/
inductive PlaceIs (a f x y z : Nat) : Int → Int → Nat → Int → Prop
  | shape (h : okG a f = false) : PlaceIs a f x y z 0 0 0 3
  | range (h : okG a f = true) (h1 : btw (lenP (can x) (can y) (can z)) (halfP a) cTop = false) : PlaceIs a f x y z 0 0 0 4
  | ok (h : okG a f = true) (h1 : btw (lenP (can x) (can y) (can z)) (halfP a) cTop = true) :
    PlaceIs a f x y z (angS (can y) (can x)) (iterT a f z (rootP x y) 8) (highP a f z (rootP x y) (iterT a f z (rootP x y) 8)) 0
theorem place_some (a f x y z : Nat) : ∃ lon lat h k, PlaceIs a f x y z lon lat h k := by
  cases h : okG a f
  · exact ⟨_, _, _, _, .shape h⟩
  cases h1 : btw (lenP (can x) (can y) (can z)) (halfP a) cTop
  · exact ⟨_, _, _, _, .range h h1⟩
  · exact ⟨_, _, _, _, .ok h h1⟩

def PlaceR (A : Nat → Addr) (lon lat : Int) (H : Nat) (k : Int) (w : World) (e : Ending) (w' : World) : Prop :=
  ∃ h v, e = .returned (.tuple #[placeV lon lat, .float .f64 h, v]) ∧ can h = H ∧ ErrOf A k v ∧ Ext w w'

theorem order_of {r s : Nat} {R S : Nat} (hr : can r = R) (hs : can s = S) : FloatKind.f64.format.order r s = FloatKind.f64.format.order R S := by
  subst hr hs
  exact (order_can r s).symm
theorem canTop : can cTop = cTop := can_of_not (by decide +kernel)

end Go.Proofs.YtcppgbhjbmfldaaGreatDoor

/- The vector of a place, and its length across, as floats, against what they ought to be. -/
namespace Go.Proofs.YtcppgbhjbmfldaaGreatDoor
open Go.Fp Go.Fp.Tri
set_option maxRecDepth 20000
variable {a f high : Nat}
/-- the radius at a latitude and the height on it: n of it, R in all -/
structure Rad (a f high : Nat) (t m : Int) (n R : Rat) : Prop where
  hN : vl (crossP a f t) = vl a * n
  lo : 99 / 100 ≤ n
  hi : n ≤ 103 / 100
  rel : Wn (n * n * (1 - vl (eccP f) * (sI m * sI m)) - 1) (1 / 100000000000000)
  hR : R = vl a * n + vl high
  R1 : vl a * (98 / 100) ≤ R
  R2 : R ≤ 12000000
  R3 : vl a * n ≤ R * (102 / 100)
theorem rad_some (s : Snd a f high) {t m : Int} {g : Rat} (hs : Sgn t m g) (h0 : 0 ≤ m) (h1 : m ≤ 90000000000) : ∃ n R, Rad a f high t m n R := by
  obtain ⟨_, n, hN, lo, hi, rel⟩ := cross_near s hs h0 h1
  have a1 := s.a1
  have a2 := s.a2
  have k1 := s.h1
  have k2 := s.h2
  have p1 := Rat.mul_le_mul_of_nonneg_left lo (show 0 ≤ vl a by grind)
  have p2 := Rat.mul_le_mul_of_nonneg_left hi (show 0 ≤ vl a by grind)
  exact ⟨n, _, hN, lo, hi, rel, rfl, by grind, by grind, by grind⟩
set_option maxHeartbeats 1000000 in
theorem vecD_near (s : Snd a f high) {t m : Int} {g n R : Rat} (hs : Sgn t m g) (h0 : 0 ≤ m) (h1 : m ≤ 90000000000) (hr : Rad a f high t m n R) :
    Fp.Fin (vecD a f t high) ∧ Wn (vl (vecD a f t high) - R * cI m) (R * (12 / 1000000000000000)) := by
  obtain ⟨fN, _⟩ := cross_near s hs h0 h1
  obtain ⟨_, ⟨fc, ec⟩⟩ := sc_sgn hs h0 h1
  have bc := wn_cI (m := m) (by omega) h1
  have u1 : uu = 1 / 9007199254740992 := uu_eq
  have a1 := s.a1
  have R1 := hr.R1
  have R2 := hr.R2
  have hN := hr.hN
  have hR := hr.hR
  unfold vecD
  rw [s.fh.can, fc.can]
  generalize crossP a f t = N at *
  generalize cosP t = c at *
  have R0 : 900000 ≤ R := by grind
  obtain ⟨f1, e1⟩ := addE fN s.fh R (by rw [hN, ← hR]; constructor <;> grind) (by grind)
  rw [hN, ← hR] at e1
  have bvc : Wn (vl c) (1002 / 1000) := (wn_add ec bc).of (by grind) (by grind)
  have bR : Wn R R := ⟨by grind, by grind⟩
  have b1 : Wn (vl (fadd N high)) (R * (1001 / 1000)) := (wn_add e1 bR).of (by grind) (by rw [u1]; grind)
  generalize fadd N high = D1 at *
  obtain ⟨f2, e2⟩ := mulE f1 fc _ (wn_mul b1 bvc) (by grind)
  refine ⟨f2, ?_⟩
  have d1 := wn_mul e1 bvc
  have d2 := wn_mul bR ec
  exact (wn_add e2 (wn_add d1 d2)).of (by grind) (by rw [u1]; grind)
set_option maxHeartbeats 1000000 in
theorem vecZ_near (s : Snd a f high) {t m : Int} {g n R : Rat} (hs : Sgn t m g) (h0 : 0 ≤ m) (h1 : m ≤ 90000000000) (hr : Rad a f high t m n R) :
    Fp.Fin (vecZ a f t high) ∧ Wn (g * vl (vecZ a f t high) - (R - vl (eccP f) * (vl a * n)) * sI m) (R * (13 / 1000000000000000)) ∧ (g = 1 → 0 ≤ vl (vecZ a f t high)) := by
  obtain ⟨fN, _⟩ := cross_near s hs h0 h1
  obtain ⟨⟨fx, ex⟩, _⟩ := sc_sgn hs h0 h1
  have bs := wn_sI (m := m) (by omega) h1
  obtain ⟨ge, e0, e50⟩ := ecc_ok s
  obtain ⟨fo, eo⟩ := oneE_ok s
  have u1 : uu = 1 / 9007199254740992 := uu_eq
  have a1 := s.a1
  have R1 := hr.R1
  have R2 := hr.R2
  have R3 := hr.R3
  have hN := hr.hN
  have hR := hr.hR
  have lo := hr.lo
  have sp : g = 1 → 0 ≤ vl (sinP t) := by
    rintro rfl
    rcases hs with ⟨rfl, _⟩ | ⟨_, h⟩
    · exact sin_nonneg h0 h1
    · exfalso; grind
  unfold vecZ
  rw [s.fh.can, fx.can]
  generalize crossP a f t = N at *
  generalize sinP t = x at *
  generalize fsub (can cOne) (eccP f) = O at *
  generalize eccP f = E at *
  have R0 : 900000 ≤ R := by grind
  have M0 : 0 ≤ vl a * n := Rat.mul_nonneg (by grind) (by grind)
  generalize vl a * n = M at *
  have bM : Wn M (R * (102 / 100)) := ⟨by grind, R3⟩
  have bgx : Wn (g * vl x) (1002 / 1000) := (wn_add ex bs).of (by grind) (by grind)
  have bx : Wn (vl x) (1002 / 1000) := hs.wn' bgx
  have be : Wn (vl E) (1 / 50) := ⟨by grind, e50⟩
  have b1e : Wn (1 - vl E) 1 := ⟨by grind, by grind⟩
  have bO : Wn (vl O) (10001 / 10000) := (wn_add eo b1e).of (by grind) (by rw [u1]; grind)
  have bNO : Wn (vl N * vl O) (R * (103 / 100)) := by rw [hN]; exact (wn_mul bM bO).mono (by grind)
  obtain ⟨f1, e1⟩ := mulE fN fo _ bNO (by grind)
  rw [hN] at e1
  have d1 := wn_mul bM eo
  have q1 : Wn (vl (fmul N O) - M * (1 - vl E)) (R * (4 * uu)) := (wn_add e1 d1).of (by grind) (by rw [u1]; grind)
  generalize fmul N O = P at *
  obtain ⟨Q, hQ⟩ : ∃ Q, Q = R - vl E * M := ⟨_, rfl⟩
  rw [← hQ]
  have hQ2 : Q = M * (1 - vl E) + vl high := by rw [hQ, hR]; grind
  have bEM := wn_mul be bM
  have eM0 := Rat.mul_nonneg e0 M0
  have Qlo : R * (97 / 100) ≤ Q := by have := bEM.2; grind
  have bQ : Wn Q R := ⟨by grind, by grind⟩
  have bPh : Wn (vl P + vl high) (R * (1001 / 1000)) := (wn_add q1 bQ).of (by grind) (by rw [u1]; grind)
  obtain ⟨f2, e2⟩ := addE f1 s.fh _ bPh (by grind)
  have q2 : Wn (vl (fadd P high) - Q) (R * (6 * uu)) := (wn_add e2 q1).of (by grind) (by rw [u1]; grind)
  have b2 : Wn (vl (fadd P high)) (R * (1001 / 1000)) := (wn_add q2 bQ).of (by grind) (by rw [u1]; grind)
  have p2 : 0 ≤ vl (fadd P high) := by have := q2.1; rw [u1] at this; grind
  generalize fadd P high = T at *
  obtain ⟨f3, e3⟩ := mulE f2 fx _ (wn_mul b2 bx) (by grind)
  refine ⟨f3, ?_, fun hg1 => fmul_nonneg f2 fx _ (wn_mul b2 bx) (big_le' (by grind)) (Rat.mul_nonneg p2 (sp hg1))⟩
  have d2 := hs.wn e3
  have d3 := wn_mul b2 ex
  have d4 := wn_mul q2 bs
  exact (wn_add d2 (wn_add d3 d4)).of (by grind) (by rw [u1]; grind)

/-- how far across: of any two that make a circle -/
theorem root_near {d κ σ : Nat} {C0 S0 : Rat} (fd : Fp.Fin d) (fk : Fp.Fin κ) (fs : Fp.Fin σ) (d1 : 1000 ≤ vl d) (d2 : vl d ≤ 100000000) (ek : Wn (vl κ - C0) tol) (es : Wn (vl σ - S0) tol) (h1 : Wn (C0 * C0 + S0 * S0 - 1) (1 / 1000000000000000)) :
    (Fp.Fin (fmul d κ) ∧ Wn (vl (fmul d κ) - vl d * C0) (vl d * (11 / 1000000000000000))) ∧ (Fp.Fin (fmul d σ) ∧ Wn (vl (fmul d σ) - vl d * S0) (vl d * (11 / 1000000000000000))) ∧
    (Fp.Fin (fadd (fmul (fmul d κ) (fmul d κ)) (fmul (fmul d σ) (fmul d σ))) ∧ Wn (vl (fadd (fmul (fmul d κ) (fmul d κ)) (fmul (fmul d σ) (fmul d σ))) - vl d * vl d) (vl d * vl d * (51 / 1000000000000000))) ∧ Fp.Fin (rootP (fmul d κ) (fmul d σ)) ∧ 0 ≤ vl (rootP (fmul d κ) (fmul d σ)) ∧ Wn (vl (rootP (fmul d κ) (fmul d σ)) - vl d) (6 / 100000000000000 * vl d) := by
  have u1 : uu = 1 / 9007199254740992 := uu_eq
  have bC : Wn C0 (1001 / 1000) := sq_le (c := S0) ((show C0 * C0 + S0 * S0 - 1 = S0 * S0 + C0 * C0 - 1 by grind) ▸ h1)
  have bS : Wn S0 (1001 / 1000) := sq_le h1
  have bk : Wn (vl κ) (1002 / 1000) := (wn_add ek bC).of (by grind) (by grind)
  have bs : Wn (vl σ) (1002 / 1000) := (wn_add es bS).of (by grind) (by grind)
  have bd : Wn (vl d) (vl d) := ⟨by grind, by grind⟩
  have G : ∀ x : Nat, ∀ c : Rat, Fp.Fin x → Wn (vl x - c) tol → Wn (vl x) (1002 / 1000) → Wn c (1001 / 1000) →
      Fp.Fin (fmul d x) ∧ Wn (vl (fmul d x) - vl d * c) (vl d * (11 / 1000000000000000)) ∧ Fp.Fin (fmul (fmul d x) (fmul d x)) ∧ Wn (vl (fmul (fmul d x) (fmul d x)) - vl d * vl d * (c * c)) (vl d * vl d * (24 / 1000000000000000)) := by
    intro x c fx ex bx bc
    obtain ⟨f1, e1⟩ := mulE fd fx _ (wn_mul bd bx) (by grind)
    have q1 : Wn (vl (fmul d x) - vl d * c) (vl d * (11 / 1000000000000000)) := (wn_add e1 (wn_mul bd ex)).of (by grind) (by rw [u1]; grind)
    refine ⟨f1, q1, ?_⟩
    have bdc := wn_mul bd bc
    have b1 : Wn (vl (fmul d x)) (vl d * (1002 / 1000)) := (wn_add q1 bdc).of (by grind) (by grind)
    generalize fmul d x = X at *
    have dd : 1000000 ≤ vl d * vl d := by
      have := Rat.mul_le_mul_of_nonneg_left d1 (show 0 ≤ vl d by grind)
      grind
    have dd2 : vl d * vl d ≤ 10000000000000000 := by
      have := Rat.mul_le_mul_of_nonneg_left d2 (show 0 ≤ vl d by grind)
      grind
    obtain ⟨f2, e2⟩ := mulB f1 f1 _ (wn_mul b1 b1) (by grind)
    refine ⟨f2, ?_⟩
    have q2 := wn_mul q1 (wn_add b1 bdc)
    exact (wn_add e2 q2).of (by grind) (by rw [u1]; grind)
  obtain ⟨x1, x2, x3, x4⟩ := G κ C0 fk ek bk bC
  obtain ⟨y1, y2, y3, y4⟩ := G σ S0 fs es bs bS
  refine ⟨⟨x1, x2⟩, ⟨y1, y2⟩, ?_⟩
  clear G
  unfold rootP
  rw [x1.can, y1.can]
  have dd : 1000000 ≤ vl d * vl d := by
    have := Rat.mul_le_mul_of_nonneg_left d1 (show 0 ≤ vl d by grind)
    grind
  have dd2 : vl d * vl d ≤ 10000000000000000 := by
    have := Rat.mul_le_mul_of_nonneg_left d2 (show 0 ≤ vl d by grind)
    grind
  have bdd : Wn (vl d * vl d) (vl d * vl d) := ⟨by grind, by grind⟩
  have hh := wn_mul bdd h1
  have q0 : Wn (vl (fmul (fmul d κ) (fmul d κ)) + vl (fmul (fmul d σ) (fmul d σ)) - vl d * vl d) (vl d * vl d * (49 / 1000000000000000)) := (wn_add (wn_add x4 y4) hh).of (by grind) (by grind)
  generalize fmul (fmul d κ) (fmul d κ) = XX at *
  generalize fmul (fmul d σ) (fmul d σ) = YY at *
  generalize hDD : vl d * vl d = DD at *
  have bsum : Wn (vl XX + vl YY) (DD * (1001 / 1000)) := (wn_add q0 bdd).of (by grind) (by grind)
  obtain ⟨f3, e3⟩ := addB x3 y3 _ bsum (by grind)
  have q3 : Wn (vl (fadd XX YY) - DD) (DD * (51 / 1000000000000000)) := (wn_add e3 q0).of (by grind) (by rw [u1]; grind)
  generalize fadd XX YY = SS at *
  obtain ⟨f4, r0, e4⟩ := fsqrt_err f3 (by have := q3.1; grind) (big30 (by have := q3.2; grind))
  refine ⟨⟨f3, q3⟩, f4, r0, ?_⟩
  generalize fsqrt SS = r at *
  refine sq_near r0 (by grind) ?_
  rw [hDD]
  have hi := q3.2
  have hb : 8 * uu * vl SS ≤ DD / 1000000000000000 := by rw [u1]; grind
  exact (wn_add (e4.mono hb) q3).of (by grind) (by grind)
end Go.Proofs.YtcppgbhjbmfldaaGreatDoor

/- The longitude comes back. -/
namespace Go.Proofs.YtcppgbhjbmfldaaGreatDoor
open Go.Fp Go.Fp.Tri
set_option maxRecDepth 20000
theorem lon_quad {x y : Nat} {l : Int} {R : Rat} (fx : Fp.Fin x) (fy : Fp.Fin y) (l0 : 0 ≤ l) (l1 : l ≤ 90000000000) (hR : 1 ≤ R) (hR2 : R ≤ 100000000)
    (hx : Wn (vl x - R * cI l) (R * (2 / 100000000000000)) ∨ Wn (-vl x - R * cI l) (R * (2 / 100000000000000))) (hy : Wn (vl y - R * sI l) (R * (2 / 100000000000000)) ∨ Wn (-vl y - R * sI l) (R * (2 / 100000000000000))) :
    quad (absW x) (absW y) - l ≤ 0 ∧ l - quad (absW x) (absW y) ≤ 1 := by
  obtain ⟨gx, vx⟩ := vl_abs fx
  obtain ⟨gy, vy⟩ := vl_abs fy
  have ex := near_abs (Rat.mul_nonneg (show 0 ≤ R by grind) (cI_nonneg l0 l1)) hx
  have ey := near_abs (Rat.mul_nonneg (show 0 ≤ R by grind) (sI_nonneg l0 l1)) hy
  rw [← vx] at ex
  rw [← vy] at ey
  obtain ⟨a0, a1, a2, a3⟩ := quad_near l0 l1 gx gy hR hR2 ex ey (by grind) (by grind)
  have r0 := rho_pos
  have rl := rho_lo
  generalize quad (absW x) (absW y) = q at *
  constructor
  · refine whole_le (x := 2 / 10) ?_ (by grind)
    refine le_of_scaled r0 ?_
    push_cast
    grind
  · refine whole_le (x := 12 / 10) ?_ (by grind)
    refine le_of_scaled r0 ?_
    push_cast
    grind
theorem cos_90 : vl (cosP 90000000000) = 0 := by
  have e : cosP 90000000000 = 9223372036854775808 := by decide +kernel
  have h : D.read 9223372036854775808 = .number true 0 (-1074) := by decide +kernel
  rw [e, vl_of h]
  unfold vd
  simp
theorem sin_180 : vl (sinP 180000000000) = 0 := by
  have e : sinP 180000000000 = 9223372036854775808 := by decide +kernel
  have h : D.read 9223372036854775808 = .number true 0 (-1074) := by decide +kernel
  rw [e, vl_of h]
  unfold vd
  simp
theorem cos_270 : vl (cosP 270000000000) = 0 := by
  have e : cosP 270000000000 = 0 := by decide +kernel
  rw [e, v_0.2]
/-- the two of a circle at any longitude -/
theorem lon_two (lon : Int) : ∃ C0 S0 : Rat, Near (cosP lon) C0 ∧ Near (sinP lon) S0 ∧ Wn (C0 * C0 + S0 * S0 - 1) (1 / 1000000000000000) ∧
    ((normP lon ≤ 90000000000 ∧ C0 = cI (normP lon) ∧ S0 = sI (normP lon)) ∨ (90000000000 < normP lon ∧ normP lon < 270000000000 ∧ C0 = -cI (normP lon - 180000000000) ∧ S0 = -sI (normP lon - 180000000000)) ∨
      (270000000000 ≤ normP lon ∧ C0 = cI (normP lon - 360000000000) ∧ S0 = sI (normP lon - 360000000000))) := by
  obtain ⟨n0, n1⟩ := norm_range lon
  have hn : ∀ b : Int, normP lon = normP b → sinP lon = sinP b ∧ cosP lon = cosP b := fun b h => sinP_norm lon b h
  generalize normP lon = b at *
  rcases Int.lt_or_le 90000000000 b with h1 | h1
  · rcases Int.lt_or_le b 270000000000 with h2 | h2
    · obtain ⟨e1, e2⟩ := hn b (by unfold normP; omega)
      obtain ⟨t1, t2⟩ := trig_half (a := b) (by omega) (by omega)
      rw [e1, e2]
      refine ⟨_, _, t2, t1, ?_, .inr (.inl ⟨h1, h2, rfl, rfl⟩)⟩
      have := one_I (m := b - 180000000000) (by omega) (by omega)
      exact this.of (by grind) Rat.le_refl
    · obtain ⟨e1, e2⟩ := hn (b - 360000000000) (by unfold normP; omega)
      obtain ⟨t1, t2⟩ := trig_lat (a := b - 360000000000) (by omega) (by omega)
      rw [e1, e2]
      exact ⟨_, _, t2, t1, one_I (by omega) (by omega), .inr (.inr ⟨h2, rfl, rfl⟩)⟩
  · obtain ⟨e1, e2⟩ := hn b (by unfold normP; omega)
    obtain ⟨t1, t2⟩ := trig_lat (a := b) (by omega) h1
    rw [e1, e2]
    exact ⟨_, _, t2, t1, one_I (by omega) (by omega), .inl ⟨h1, rfl, rfl⟩⟩
theorem sign_pos {R c x : Rat} (hR : 1000 ≤ R) (hc : 100 / 10000000000000 ≤ c) (h : Wn (x - R * c) (R * (11 / 1000000000000000))) : 0 < x := by
  have := Rat.mul_le_mul_of_nonneg_left hc (show 0 ≤ R by grind)
  have := h.1
  grind
theorem sign_neg {R c x : Rat} (hR : 1000 ≤ R) (hc : c ≤ -(100 / 10000000000000)) (h : Wn (x - R * c) (R * (11 / 1000000000000000))) : x < 0 := by
  have := Rat.mul_le_mul_of_nonneg_left hc (show 0 ≤ R by grind)
  have := h.2
  grind
theorem norm_eq {lon b : Int} (h : normP lon = b) (h0 : 0 ≤ b) (h1 : b < 360000000000) : sinP lon = sinP b ∧ cosP lon = cosP b := sinP_norm lon b (by rw [h]; unfold normP; omega)
/-- apart: by how much -/
def apartP (p q : Int) : Int := signP (normP p - normP q)
set_option maxHeartbeats 2000000 in
theorem lon_back {lon : Int} {d : Nat} (fd : Fp.Fin d) (d1 : 1000 ≤ vl d) (d2 : vl d ≤ 100000000) :
    -1 ≤ apartP (angS (fmul d (sinP lon)) (fmul d (cosP lon))) lon ∧ apartP (angS (fmul d (sinP lon)) (fmul d (cosP lon))) lon ≤ 1 := by
  obtain ⟨C0, S0, ⟨fk, ek⟩, ⟨fs, es⟩, one, cases⟩ := lon_two lon
  obtain ⟨⟨fx, ex⟩, ⟨fy, ey⟩, _⟩ := root_near fd fk fs d1 d2 ek es one
  have bk : Wn (vl (cosP lon)) 2 := by
    have hC : Wn C0 (1001 / 1000) := sq_le (c := S0) ((show C0 * C0 + S0 * S0 - 1 = S0 * S0 + C0 * C0 - 1 by grind) ▸ one)
    exact (wn_add ek hC).of (by grind) (by grind)
  have bs : Wn (vl (sinP lon)) 2 := by
    have hS : Wn S0 (1001 / 1000) := sq_le one
    exact (wn_add es hS).of (by grind) (by grind)
  have bd : Wn (vl d) (vl d) := ⟨by grind, by grind⟩
  have zx : vl (cosP lon) = 0 → 0 ≤ vl (fmul d (cosP lon)) := fun h => fmul_nonneg fd fk _ (wn_mul bd bk) (big_le' (by grind)) (by rw [h]; grind)
  have zy : vl (sinP lon) = 0 → 0 ≤ vl (fmul d (sinP lon)) := fun h => fmul_nonneg fd fs _ (wn_mul bd bs) (big_le' (by grind)) (by rw [h]; grind)
  obtain ⟨n0, n1⟩ := norm_range lon
  have zn := norm_eq (lon := lon) rfl n0 n1
  generalize hb : normP lon = b at *
  have zx1 : b = 90000000000 → 0 ≤ vl (fmul d (cosP lon)) := fun h => zx (by rw [zn.2, h]; exact cos_90)
  have zx2 : b = 270000000000 → 0 ≤ vl (fmul d (cosP lon)) := fun h => zx (by rw [zn.2, h]; exact cos_270)
  have zy1 : b = 0 → 0 ≤ vl (fmul d (sinP lon)) := fun h => zy (by rw [zn.1, h]; exact sin_zero)
  have zy2 : b = 180000000000 → 0 ≤ vl (fmul d (sinP lon)) := fun h => zy (by rw [zn.1, h]; exact sin_180)
  clear zx zy zn ek es bk bs fk fs
  generalize fmul d (cosP lon) = x at *
  generalize fmul d (sinP lon) = y at *
  have R0 : 0 ≤ vl d := by grind
  have dd : vl d * (1 / 1000000000000000) + vl d * (11 / 1000000000000000) ≤ vl d * (2 / 100000000000000) := by grind
  unfold apartP
  rw [hb]
  rcases cases with ⟨h1, rfl, rfl⟩ | ⟨h1, h2, rfl, rfl⟩ | ⟨h1, rfl, rfl⟩
  · -- the first quarter
    obtain ⟨q1, q2⟩ := lon_quad fx fy n0 h1 (by grind) d2 (.inl (ex.mono (by grind))) (.inl (ey.mono (by grind)))
    obtain ⟨q3, q4⟩ := quad_range (absW x) (absW y)
    have sx : 0 ≤ vl x := by
      rcases Int.lt_or_le b 90000000000 with h | h
      · exact Rat.le_of_lt (sign_pos d1 (by have := cI_pos n0 h; grind) ex)
      · exact zx1 (by omega)
    have sy : 0 ≤ vl y := by
      rcases Int.lt_or_le 0 b with h | h
      · exact Rat.le_of_lt (sign_pos d1 (by have := sI_pos (show 1 ≤ b by omega) h1; grind) ey)
      · exact zy1 (by omega)
    have ne : vl x ≠ 0 ∨ vl y ≠ 0 := by
      rcases Int.lt_or_le 0 b with h | h
      · right
        have := sign_pos d1 (by have := sI_pos (show 1 ≤ b by omega) h1; grind) ey
        grind
      · left
        have := sign_pos d1 (by have := cI_pos n0 (show b < 90000000000 by omega); grind) ex
        grind
    have e : angS y x = quad (absW x) (absW y) := by
      unfold angS
      rw [angle_pp fy fx ne sx sy]
      unfold signP normP
      split <;> omega
    rw [e]
    generalize quad (absW x) (absW y) = q at *
    unfold signP normP
    split <;> omega
  · rcases Int.lt_or_le 180000000000 b with hh | hh
    · -- the third
      obtain ⟨l, hl⟩ : ∃ l, l = b - 180000000000 := ⟨_, rfl⟩
      rw [← hl] at ex ey
      have l0 : 1 ≤ l := by omega
      have l1 : l < 90000000000 := by omega
      have cp := cI_pos (show 0 ≤ l by omega) l1
      have sp := sI_pos l0 (show l ≤ 90000000000 by omega)
      obtain ⟨q1, q2⟩ := lon_quad fx fy (show 0 ≤ l by omega) (show l ≤ 90000000000 by omega) (by grind) d2
        (.inr (by obtain ⟨_, _⟩ := ex; constructor <;> grind)) (.inr (by obtain ⟨_, _⟩ := ey; constructor <;> grind))
      obtain ⟨q3, q4⟩ := quad_range (absW x) (absW y)
      have sx := sign_neg d1 (show -cI l ≤ -(100 / 10000000000000) by grind) ex
      have sy := sign_neg d1 (show -sI l ≤ -(100 / 10000000000000) by grind) ey
      unfold angS
      rw [angle_nn fy fx sx sy]
      generalize quad (absW x) (absW y) = q at *
      unfold signP normP
      repeat' split
      all_goals omega
    · -- the second
      obtain ⟨l, hl⟩ : ∃ l, l = 180000000000 - b := ⟨_, rfl⟩
      rw [show b - 180000000000 = -l by omega] at ex ey
      have l0 : 0 ≤ l := by omega
      have l1 : l < 90000000000 := by omega
      have cp := cI_pos l0 l1
      obtain ⟨o1, o2⟩ := sI_odd l0 (show l ≤ 90000000000 by omega)
      have p1 := wn_mul bd o1
      have p2 := wn_mul bd o2
      obtain ⟨q1, q2⟩ := lon_quad fx fy l0 (show l ≤ 90000000000 by omega) (by grind) d2
        (.inr ((wn_sub p2 ex).of (by grind) (by grind))) (.inl ((wn_sub ey p1).of (by grind) (by grind)))
      obtain ⟨q3, q4⟩ := quad_range (absW x) (absW y)
      have sx := sign_neg d1 (show -cI (-l) ≤ -(100 / 10000000000000) by have := o2.1; grind) ex
      have sy : 0 ≤ vl y := by
        rcases Int.lt_or_le b 180000000000 with h | h
        · have sp := sI_pos (show 1 ≤ l by omega) (show l ≤ 90000000000 by omega)
          exact Rat.le_of_lt (sign_pos d1 (show 100 / 10000000000000 ≤ -sI (-l) by have := o1.2; grind) ey)
        · exact zy2 (by omega)
      unfold angS
      rw [angle_np fy fx sx sy]
      generalize quad (absW x) (absW y) = q at *
      unfold signP normP
      repeat' split
      all_goals omega
  · -- the fourth
    obtain ⟨l, hl⟩ : ∃ l, l = 360000000000 - b := ⟨_, rfl⟩
    rw [show b - 360000000000 = -l by omega] at ex ey
    have l0 : 1 ≤ l := by omega
    have l1 : l ≤ 90000000000 := by omega
    have sp := sI_pos l0 l1
    obtain ⟨o1, o2⟩ := sI_odd (show 0 ≤ l by omega) l1
    have p1 := wn_mul bd o1
    have p2 := wn_mul bd o2
    obtain ⟨q1, q2⟩ := lon_quad fx fy (show 0 ≤ l by omega) l1 (by grind) d2
      (.inl ((wn_add ex p2).of (by grind) (by grind))) (.inr ((wn_sub (show Wn (0 : Rat) 0 from ⟨by grind, by grind⟩) (wn_add ey p1)).of (by grind) (by grind)))
    obtain ⟨q3, q4⟩ := quad_range (absW x) (absW y)
    have sx : 0 ≤ vl x := by
      rcases Int.lt_or_le l 90000000000 with h | h
      · have cp := cI_pos (show 0 ≤ l by omega) h
        exact Rat.le_of_lt (sign_pos d1 (show 100 / 10000000000000 ≤ cI (-l) by have := o2.1; grind) ex)
      · exact zx2 (by omega)
    have sy := sign_neg d1 (show sI (-l) ≤ -(100 / 10000000000000) by have := o1.2; grind) ey
    unfold angS
    rw [angle_pn fy fx sx sy]
    generalize quad (absW x) (absW y) = q at *
    unfold signP normP
    repeat' split
    all_goals omega
end Go.Proofs.YtcppgbhjbmfldaaGreatDoor

/- On the equal-area paper the latitude comes back, and farther north is farther up. -/
namespace Go.Fp.Tri
open Go.Fp Ieee
set_option maxRecDepth 20000

theorem fsqrt_zero {x : Nat} (fx : Fin x) (h : vl x = 0) : Fin (fsqrt x) ∧ vl (fsqrt x) = 0 := by
  obtain ⟨s, m, i, hx⟩ := fx
  rw [vl_of hx, vd_sign, vd_false] at h
  have hp := pw_pos i
  have hm0 : (m : Rat) * pw i = 0 := by
    cases s
    · simpa using h
    · simp only [if_true] at h; grind
  have hm : m = 0 := by
    rcases Nat.eq_zero_or_pos m with h0 | h0
    · exact h0
    · exfalso
      have := Rat.mul_pos (show (0 : Rat) < (m : Rat) by exact_mod_cast h0) hp
      grind
  subst hm
  have e : fsqrt x = D.nearest s 0 i := by
    unfold fsqrt Format.sqrt
    rw [hx]
    unfold Datum.root
    simp [opt]
    rfl
  rw [e]
  refine ⟨(rnd s 0 i 0 ?_ ?_).1, near_zero i s⟩
  · rw [vd_false]; simp
  · exact Rat.le_of_lt (pw_pos _)
theorem ecc_sqrt {E : Nat} (h : EOk E) : EccOk (fsqrt E) ∧ (vl (fsqrt E) = 0 ∨ pw (-540) ≤ vl (fsqrt E)) := by
  have u1 : uu = 1 / 9007199254740992 := uu_eq
  have E0 := h.E0
  have E1 := h.E1
  by_cases hz : vl E = 0
  · obtain ⟨f, e⟩ := fsqrt_zero h.fE hz
    exact ⟨⟨f, by grind, by grind⟩, .inl e⟩
  · have hE : 0 < vl E := by grind
    obtain ⟨f, p, q⟩ := fsqrt_pos h.fE hE (big_le (by grind))
    have hlo : pw (-1074) ≤ vl E := by
      obtain ⟨s, m, i, hx⟩ := h.fE
      have hi := (read_fields hx).2.1
      rw [vl_of hx] at hE ⊢
      have hs : s = false := by
        cases s
        · rfl
        · exfalso
          rw [vd_sign, if_pos rfl] at hE
          have := vd_nonneg m i
          grind
      subst hs
      rw [vd_false] at hE ⊢
      have hm : 1 ≤ m := by
        rcases Nat.eq_zero_or_pos m with h0 | h0
        · subst h0; simp at hE
        · exact h0
      have a : (1 : Rat) ≤ (m : Rat) := by exact_mod_cast hm
      have b : pw (-1074) ≤ pw i := pw_mono hi
      have t := Rat.mul_le_mul_of_nonneg_right a (Rat.le_of_lt (pw_pos i))
      generalize pw (-1074) = z at *
      generalize pw i = w at *
      clear hE hx hi
      grind
    have p1 : pw (-540) * pw (-540) = pw (-1080) := (pw_add (-540) (-540)).symm
    have p2 : pw (-1074) = pw (-1080) * 64 := by
      have h1 := pw_add (-1080) 6
      have h2 : pw 6 = 64 := by have := pw_nat 6; exact this
      rw [h2] at h1; exact h1
    have z0 := pw_pos (-540)
    have z1 := pw_pos (-1080)
    rw [p2] at hlo
    have key : vl (fsqrt E) ≤ 1416 / 10000 ∧ pw (-540) ≤ vl (fsqrt E) := by
      generalize pw (-1080) = y at *
      generalize pw (-540) = z at *
      generalize vl (fsqrt E) = r at *
      generalize vl E = v at *
      obtain ⟨q1, q2⟩ := q
      rw [u1] at q1 q2
      constructor
      · rcases Rat.le_total (a := r) (b := 1416 / 10000) with hh | hh
        · exact hh
        · exfalso
          have := Rat.mul_le_mul_of_nonneg_left hh p
          have := Rat.mul_le_mul_of_nonneg_left hh (show (0 : Rat) ≤ 1416 / 10000 by grind)
          generalize r * r = w at *
          clear p1 p2
          grind
      · rcases Rat.le_total (a := z) (b := r) with hh | hh
        · exact hh
        · exfalso
          have h1 := Rat.mul_le_mul_of_nonneg_left hh p
          have h2 := Rat.mul_le_mul_of_nonneg_left hh (Rat.le_of_lt z0)
          have h3 : r * z = z * r := by grind
          rw [h3] at h1
          generalize r * r = w at *
          generalize z * r = x at *
          generalize z * z = s at *
          clear p2 h3 E0
          grind
    exact ⟨⟨f, p, key.1⟩, .inr key.2⟩
/-- what stands for the area below a latitude -/
def upS (E s : Nat) : Nat := if D.order (fsqrt E) 0 = some .eq then fmul wTwo s else qW E (fsqrt E) s
theorem v_nil : Fin 0 ∧ vl 0 = 0 := vl_const (s := false) (m := 0) (k := 1074) (by decide +kernel) (by decide +kernel)
theorem upS_grow {E s s' : Nat} (h : EOk E) (fs : Fin s) (fs' : Fin s') (bs : Wn (vl s) (9999 / 10000)) (bs' : Wn (vl s') (9999 / 10000)) (hD : 33 / 1000000000000 ≤ vl s' - vl s) :
    Fin (upS E s) ∧ Fin (upS E s') ∧ Wn (vl (upS E s)) (9805 / 1000) ∧ Wn (vl (upS E s')) (9805 / 1000) ∧ 27 / 1000000000000 ≤ vl (upS E s') - vl (upS E s) := by
  have u1 : uu = 1 / 9007199254740992 := uu_eq
  obtain ⟨ho, hc⟩ := ecc_sqrt h
  unfold upS
  by_cases hq : D.order (fsqrt E) 0 = some .eq
  · rw [if_pos hq, if_pos hq]
    have b2 : Wn (vl wTwo) 2 := by rw [v_two.2]; constructor <;> grind
    obtain ⟨f1, e1⟩ := mulE v_two.1 fs _ (wn_mul b2 bs) (by grind)
    obtain ⟨f2, e2⟩ := mulE v_two.1 fs' _ (wn_mul b2 bs') (by grind)
    refine ⟨f1, f2, (wn_add e1 (wn_mul b2 bs)).of (by grind) (by rw [u1]; grind), (wn_add e2 (wn_mul b2 bs')).of (by grind) (by rw [u1]; grind), ?_⟩
    rw [v_two.2] at e1 e2
    obtain ⟨_, _⟩ := e1
    obtain ⟨_, _⟩ := e2
    rw [u1] at *
    clear b2 bs bs'
    grind
  · rw [if_neg hq, if_neg hq]
    rcases hc with hc | hc
    · exact absurd ((order_eq ho.fe v_nil.1).2 (by rw [hc, v_nil.2])) hq
    · exact qW_grow h ho hc fs fs' bs bs' hD
theorem upS_fin {E : Nat} (h : EOk E) {m : Int} (h1 : -89000000000 ≤ m) (h2 : m ≤ 89000000000) : Fin (upS E (sinP m)) ∧ Wn (vl (upS E (sinP m))) (9805 / 1000) := by
  rcases Int.lt_or_le m 0 with hm | hm
  · have ap : Apart m 50 := ⟨h1, by omega, by omega, .inr ⟨by omega, by omega⟩⟩
    have d := sin_apart ap
    obtain ⟨f1, b1⟩ := sin_in (m := m) (by omega) (by omega)
    obtain ⟨f2, b2⟩ := sin_in (m := 50) (by omega) (by omega)
    obtain ⟨a, _, b, _, _⟩ := upS_grow h f1 f2 b1 b2 d
    exact ⟨a, b⟩
  · have ap : Apart (-50) m := ⟨by omega, by omega, by omega, .inl ⟨by omega, by omega⟩⟩
    have d := sin_apart ap
    obtain ⟨f1, b1⟩ := sin_in (m := m) (by omega) (by omega)
    obtain ⟨f2, b2⟩ := sin_in (m := -50) (by omega) (by omega)
    obtain ⟨_, a, _, b, _⟩ := upS_grow h f2 f1 b2 b1 d
    exact ⟨a, b⟩
theorem up_fin {E A : Nat} (h : EOk E) (fA : Fin A) (a1 : 1 / 10 ≤ vl A) (a2 : vl A ≤ 20001000) {m : Int} (h1 : -89000000000 ≤ m) (h2 : m ≤ 89000000000) : Fin (upW A (upS E (sinP m))) ∧ Wn (vl (upW A (upS E (sinP m)))) 100000000 := by
  rcases Int.lt_or_le m 0 with hm | hm
  · have ap : Apart m 50 := ⟨h1, by omega, by omega, .inr ⟨by omega, by omega⟩⟩
    have d := sin_apart ap
    obtain ⟨f1, b1⟩ := sin_in (m := m) (by omega) (by omega)
    obtain ⟨f2, b2⟩ := sin_in (m := 50) (by omega) (by omega)
    obtain ⟨a, a', b, b', c⟩ := upS_grow h f1 f2 b1 b2 d
    obtain ⟨r1, _, r3, _⟩ := upW_grow fA a1 (by grind) a a' b b' c
    exact ⟨r1, r3.mono (by grind)⟩
  · obtain ⟨f, b⟩ := upS_fin h h1 h2
    have u1 : uu = 1 / 9007199254740992 := uu_eq
    have bA : Wn (vl A) (vl A) := ⟨by grind, Rat.le_refl⟩
    obtain ⟨g1, e1⟩ := mulE fA f _ (wn_mul bA b) (by grind)
    have b1 : Wn (vl (fmul A (upS E (sinP m)))) (vl A * (9807 / 1000)) := (wn_add e1 (wn_mul bA b)).of (by grind) (by rw [u1]; grind)
    unfold upW
    generalize fmul A (upS E (sinP m)) = y at *
    obtain ⟨g2, e2⟩ := divE g1 v_two.1 (by rw [v_two.2]; grind) (vl A * (4904 / 1000)) (by rw [v_two.2]; obtain ⟨_, _⟩ := b1; constructor <;> grind) (by grind)
    rw [v_two.2] at e2
    refine ⟨g2, ?_⟩
    obtain ⟨_, _⟩ := b1
    obtain ⟨_, _⟩ := e2
    rw [u1] at *
    constructor <;> grind
theorem up_apart {E A : Nat} (h : EOk E) (fA : Fin A) (a1 : 1 / 10 ≤ vl A) (a2 : vl A ≤ 20001000) {α β : Int} (hab : Apart α β) : vl (upW A (upS E (sinP α))) < vl (upW A (upS E (sinP β))) := by
  have d := sin_apart hab
  obtain ⟨h1, h2, h3, _⟩ := hab
  obtain ⟨f1, b1⟩ := sin_in (m := α) (by omega) (by omega)
  obtain ⟨f2, b2⟩ := sin_in (m := β) (by omega) (by omega)
  obtain ⟨a, a', b, b', c⟩ := upS_grow h f1 f2 b1 b2 d
  obtain ⟨_, _, _, r⟩ := upW_grow fA a1 (by grind) a a' b b' c
  grind
theorem equal_back {E A X : Nat} (h : EOk E) (fA : Fin A) (a1 : 1 / 10 ≤ vl A) (a2 : vl A ≤ 20001000) {lat r : Int} (hl : -85000000000 ≤ lat) (hl2 : lat ≤ 85000000000) (hX : X = upW A (upS E (sinP lat)))
    (hr : -89000000000 ≤ r) (hr2 : r ≤ 89000000000) (hp : fle (upW A (upS E (sinP r))) X = true ∨ r = -89000000000) (hn : fle (upW A (upS E (sinP (r + 1)))) X = false ∨ r = 89000000000) : r - lat ≤ 50 ∧ lat - r ≤ 50 := by
  have fX := (up_fin h fA a1 a2 (m := lat) (by omega) (by omega)).1
  rw [← hX] at fX
  refine found_near (g := fun m => upW A (upS E (sinP m))) (E := 0) fX (fun m h1 h2 => (up_fin h fA a1 a2 h1 h2).1) hl hl2 hr hr2 hp hn (by subst hX; constructor <;> grind) (fun α β hab => ?_)
  have := up_apart h fA a1 a2 hab
  grind
end Go.Fp.Tri
namespace Go.Proofs.YtcppgbhjbmfldaaGreatDoor
open Go.Fp Go.Fp.Tri
set_option maxRecDepth 20000
theorem lon_same (mid lon : Int) : apartP (signP (normP mid + signP (normP lon - normP mid))) lon = 0 := by
  unfold apartP signP normP
  split <;> split <;> split <;> omega
end Go.Proofs.YtcppgbhjbmfldaaGreatDoor

/- The exponential's polynomial undoes the logarithm's, by reckoning on their coefficients. -/
namespace Go.Fp.Tri
open Go.Fp Ieee
set_option maxRecDepth 20000

/-- a polynomial of a polynomial -/
def pcomp : List Rat → List Rat → List Rat
  | [], _ => []
  | c :: r, q => padd [c] (pmul q (pcomp r q))
theorem pev_comp : ∀ (p q : List Rat) (y : Rat), pev (pcomp p q) y = pev p (pev q y)
  | [], q, y => rfl
  | c :: r, q, y => by
    simp only [pcomp, pev_add, pev_mul, pev_comp r q y, pev]
    grind
/-- the exponential's polynomial -/
def PE : List Rat := [inv 0, inv 1, inv 2, inv 3, inv 4, inv 5, inv 6, inv 7, inv 8, inv 9, inv 10, inv 11, inv 12, inv 13, inv 14]
def PEm : List Rat := [inv 0, -inv 1, inv 2, -inv 3, inv 4, -inv 5, inv 6, -inv 7, inv 8, -inv 9, inv 10, -inv 11, inv 12, -inv 13, inv 14]
/-- half the argument's hyperbolic tangent, over the argument, in the argument's square -/
def PU : List Rat := [604462909807314587353088 / 1208925819614629174706176, -50371909150609548946091 / 1208925819614629174706176, 5037190915060954894609 / 1208925819614629174706176, -509715747357358531002 / 1208925819614629174706176, 51637869830320635494 / 1208925819614629174706176, -5231930799523689021 / 1208925819614629174706176, 530104532565194733 / 1208925819614629174706176, -53710808703282966 / 1208925819614629174706176, 5442042599794500 / 1208925819614629174706176, -551394196377958 / 1208925819614629174706176]
def PT : List Rat := [0, 604462909807314587353088 / 1208925819614629174706176, 0, -50371909150609548946091 / 1208925819614629174706176, 0, 5037190915060954894609 / 1208925819614629174706176, 0, -509715747357358531002 / 1208925819614629174706176, 0, 51637869830320635494 / 1208925819614629174706176, 0, -5231930799523689021 / 1208925819614629174706176, 0, 530104532565194733 / 1208925819614629174706176, 0, -53710808703282966 / 1208925819614629174706176, 0, 5442042599794500 / 1208925819614629174706176, 0, -551394196377958 / 1208925819614629174706176]
def PB : List Rat := [2, 2 / 3, 2 / 5, 2 / 7, 2 / 9, 2 / 11, 2 / 13, 2 / 15, 2 / 17, 2 / 19, 2 / 21, 2 / 23]
def Ex (r : Rat) : Rat := pev PE r
def Th (r : Rat) : Rat := pev PT r
theorem Th_U (r : Rat) : Th r = r * pev PU (r * r) := by simp only [Th, PT, PU, pev]; grind
theorem AA_B (s : Rat) : AA s = s * pev PB (s * s) := by simp only [AA, PA, PB, pev]; grind
theorem Ex_neg (r : Rat) : Ex (-r) = pev PEm r := by simp only [Ex, PE, PEm, pev]; grind
def RemE : List Rat := padd (pmul PE (padd [1] (pneg PT))) (pneg (padd [1] PT))
theorem remE_bd : pbd RemE (36 / 100) ≤ 1 / 10000000000000000 := by decide +kernel
def RemN : List Rat := padd (pmul PE PEm) [-1]
theorem remN_bd : pbd RemN (36 / 100) ≤ 1 / 10000000000000000 := by decide +kernel
def PZ : List Rat := 0 :: pmul PU PU
def RemA : List Rat := padd (pmul PU (pcomp PB PZ)) [-1]
theorem remA_bd : pbd RemA (1296 / 10000) ≤ 1 / 1000000000000000 := by decide +kernel
def RemL : List Rat := padd (pcomp PE [lam / 2, 1]) (pneg (pscale 2 (pcomp PE [-(lam / 2), 1])))
theorem remL_bd : pbd RemL (12 / 1000) ≤ 1 / 10000000000000000 := by decide +kernel
theorem pe_34 : pbd PE (34 / 100) ≤ 1405 / 1000 := by decide +kernel
theorem pe_35 : pbd PE (35 / 100) ≤ 14191 / 10000 := by decide +kernel
theorem pe_one : pbd (padd PE [-1]) (35 / 100) ≤ 42 / 100 := by decide +kernel
def PE2 : List Rat := [inv 2, inv 3, inv 4, inv 5, inv 6, inv 7, inv 8, inv 9, inv 10, inv 11, inv 12, inv 13, inv 14]
theorem pe2_bd : pbd PE2 (35 / 100) ≤ 6 / 10 := by decide +kernel
theorem pt_36 : pbd PT (36 / 100) ≤ 19 / 100 := by decide +kernel
theorem pa_173 : plip PA (173 / 1000) ≤ 2063 / 1000 := by decide +kernel

theorem AA_Th {r : Rat} (h : Wn r (36 / 100)) : Wn (AA (Th r) - r) (1 / 1000000000000000) := by
  have hb := (wn_pev RemA (y := r * r) (Y := 1296 / 10000) ((wn_mul h h).mono (by grind))).mono remA_bd
  have e : pev RemA (r * r) = pev PU (r * r) * pev PB (Th r * Th r) - 1 := by
    simp only [RemA, pev_add, pev_mul, pev_comp]
    have e1 : pev PZ (r * r) = Th r * Th r := by
      unfold PZ
      simp only [pev, pev_mul]
      rw [Th_U]
      grind
    rw [e1]
    simp only [pev]
    grind
  rw [e] at hb
  have e2 : AA (Th r) - r = r * (pev PU (r * r) * pev PB (Th r * Th r) - 1) := by
    rw [AA_B, Th_U]
    grind
  rw [e2]
  exact (wn_mul h hb).mono (by grind)
theorem Ex_Th {r : Rat} (h : Wn r (36 / 100)) : Wn (Ex r * (1 - Th r) - (1 + Th r)) (1 / 10000000000000000) := by
  have hb := (wn_pev RemE h).mono remE_bd
  have e : pev RemE r = Ex r * (1 - Th r) - (1 + Th r) := by
    simp only [RemE, pev_add, pev_mul, pneg, pev_scale, Ex, Th]
    simp only [pev]
    grind
  rw [e] at hb; exact hb
theorem Ex_inv {r : Rat} (h : Wn r (36 / 100)) : Wn (Ex r * Ex (-r) - 1) (1 / 10000000000000000) := by
  have hb := (wn_pev RemN h).mono remN_bd
  have e : pev RemN r = Ex r * Ex (-r) - 1 := by
    rw [Ex_neg]
    simp only [RemN, pev_add, pev_mul, Ex]
    simp only [pev]
    grind
  rw [e] at hb; exact hb
theorem Ex_lam {t : Rat} (h : Wn t (12 / 1000)) : Wn (Ex (lam / 2 + t) - 2 * Ex (t - lam / 2)) (1 / 10000000000000000) := by
  have hb := (wn_pev RemL h).mono remL_bd
  have e : pev RemL t = Ex (lam / 2 + t) - 2 * Ex (t - lam / 2) := by
    simp only [RemL, pev_add, pneg, pev_scale, pev_comp, Ex]
    have e1 : pev [lam / 2, 1] t = lam / 2 + t := by simp only [pev]; grind
    have e2 : pev [-(lam / 2), 1] t = t - lam / 2 := by simp only [pev]; grind
    rw [e1, e2]
    grind
  rw [e] at hb; exact hb
theorem Ex_35 {r : Rat} (h : Wn r (35 / 100)) : 7 / 10 ≤ Ex r ∧ Ex r ≤ 142 / 100 := by
  have a := (wn_pev PE h).mono pe_35
  have b := (wn_pev PE (y := -r) (Y := 35 / 100) ⟨by have := h.2; grind, by have := h.1; grind⟩).mono pe_35
  have c := Ex_inv (r := r) (h.mono (by grind))
  have pos : ∀ {r : Rat}, Wn r (35 / 100) → 0 ≤ Ex r := by
    intro r h
    have hb := (wn_pev (padd PE [-1]) h).mono pe_one
    have e : pev (padd PE [-1]) r = Ex r - 1 := by
      simp only [pev_add, Ex]
      simp only [pev]
      grind
    rw [e] at hb
    have := hb.1
    grind
  change Wn (Ex r) _ at a
  change Wn (Ex (-r)) _ at b
  obtain ⟨a1, a2⟩ := a
  obtain ⟨b1, b2⟩ := b
  obtain ⟨c1, c2⟩ := c
  refine ⟨?_, by grind⟩
  rcases Rat.le_total (a := 7 / 10) (b := Ex r) with hh | hh
  · exact hh
  · exfalso
    have p := pos (r := -r) ⟨by have := h.2; grind, by have := h.1; grind⟩
    have t := Rat.mul_le_mul_of_nonneg_right hh p
    generalize Ex r * Ex (-r) = w at *
    grind
/-- from .3 on the exponential is above 1 -/
theorem Ex_hi34 {r : Rat} (h : Wn r (35 / 100)) (hl : 34 / 100 ≤ r) : 1 ≤ Ex r := by
  have hb := (wn_pev PE2 h).mono pe2_bd
  have e : Ex r = 1 + r + r * r * pev PE2 r := by simp only [Ex, PE, PE2, pev]; rw [show inv 0 = 1 by decide +kernel, show inv 1 = 1 by decide +kernel]; grind
  have t := wn_mul (wn_mul h h) hb
  rw [e]
  have := t.1
  grind
theorem small_neg {r : Rat} (h : Wn r (35 / 100)) (hl : r ≤ -(34 / 100)) : Ex r ≤ 1 := by
  have hb := (wn_pev PE2 h).mono pe2_bd
  have e : Ex r = 1 + r + r * r * pev PE2 r := by simp only [Ex, PE, PE2, pev]; rw [show inv 0 = 1 by decide +kernel, show inv 1 = 1 by decide +kernel]; grind
  have t := wn_mul (wn_mul h h) hb
  rw [e]
  have := t.2
  grind
theorem Ex_pos {r : Rat} (h : Wn r (35 / 100)) : 0 < Ex r := by have := (Ex_35 h).1; grind
/-- above -.34 the exponential is above .711 -/
theorem Ex_lo34 {r : Rat} (h : Wn r (35 / 100)) (hl : -(34 / 100) ≤ r) : 711 / 1000 ≤ Ex r := by
  have p := Ex_pos (r := -r) ⟨by have := h.2; grind, by have := h.1; grind⟩
  have p2 := Ex_pos h
  have c := Ex_inv (r := r) (h.mono (by grind))
  obtain ⟨c1, c2⟩ := c
  rcases Rat.le_total (a := 711 / 1000) (b := Ex r) with hh | hh
  · exact hh
  · exfalso
    rcases Rat.le_total (a := r) (b := 34 / 100) with h3 | h3
    · have b := ((wn_pev PE (y := -r) (Y := 34 / 100) ⟨by grind, by grind⟩).mono pe_34).2
      change Ex (-r) ≤ _ at b
      have t := Rat.mul_le_mul_of_nonneg_right hh (Rat.le_of_lt p)
      generalize Ex r * Ex (-r) = w at *
      grind
    · have g := Ex_hi34 h h3
      grind
theorem exp_core {M r ε : Rat} (hM : InM M) (hr : Wn r (36 / 100)) (hε : ε ≤ 1 / 1000000) (h : Wn (M - Ex r) ε) : Wn (AA (sm M) - r) (2 * ε + 2 / 1000000000000000) := by
  have bT := (wn_pev PT hr).mono pt_36
  change Wn (Th r) _ at bT
  have e1 := Ex_Th hr
  have e2 := AA_Th hr
  have hη : Wn (M * (1 - Th r) - (1 + Th r)) (119 / 100 * ε + 1 / 10000000000000000) := by
    have t := wn_mul h (show Wn (1 - Th r) (119 / 100) by obtain ⟨_, _⟩ := bT; constructor <;> grind)
    exact (wn_add t e1).of (by grind) (by grind)
  obtain ⟨m1, m2⟩ := inM_bd hM
  have es : (sm M - Th r) * (M + 1) = M * (1 - Th r) - (1 + Th r) := by
    have c : sm M * (M + 1) = M - 1 := div_mul_c (ne_of_pos (by grind)) rfl
    have e : (sm M - Th r) * (M + 1) = sm M * (M + 1) - Th r * (M + 1) := by grind
    rw [e, c]; grind
  have hs : Wn (sm M - Th r) (7 / 10 * ε + 1 / 10000000000000000) := by
    refine wn_quot (c := M + 1) (c0 := 1707 / 1000) (by grind) (by grind) ?_
    rw [es]
    have := h.nonneg
    exact hη.mono (by grind)
  have bs := sm_wn hM
  have l := (wn_lip PA (X := 173 / 1000) (bs.mono (by grind)) (show Wn (Th r) (173 / 1000) by obtain ⟨_, _⟩ := bs; obtain ⟨_, _⟩ := hs; constructor <;> grind) hs)
  change Wn (AA (sm M) - AA (Th r)) _ at l
  have l2 : Wn (AA (sm M) - AA (Th r)) ((7 / 10 * ε + 1 / 10000000000000000) * (2063 / 1000)) := l.mono (Rat.mul_le_mul_of_nonneg_left pa_173 hs.nonneg)
  have := h.nonneg
  exact (wn_add l2 e2).of (by grind) (by grind)
theorem pw_two {j : Int} (M : Rat) (h : j = 1) : M * pw j = 2 * M := by subst h; rw [pw_one]; grind
/-- the logarithm of what the exponential's polynomial makes -/
theorem exp_ln {r x M ε : Rat} {k k' : Int} (hr : Wn r (35 / 100)) (hε : ε ≤ 1 / 10000000) (hx : Wn (x - Ex r) ε) (h1 : c0 ≤ M) (h2 : M < 2 * c0) (h : M * pw k' = x * pw k) :
    Wn ((k' : Rat) * lam + AA (sm M) - ((k : Rat) * lam + r)) (4 * ε + 3 / 1000000000000000) := by
  have hM : InM M := ⟨h1, Rat.le_of_lt h2⟩
  obtain ⟨m1, m2⟩ := inM_bd hM
  obtain ⟨x1, x2⟩ := Ex_35 hr
  have ε0 := hx.nonneg
  obtain ⟨l1, l2⟩ := lam_bd
  have cc1 : 7071 / 10000 ≤ c0 := by unfold c0; grind
  have cc2 : c0 ≤ 70711 / 100000 := by unfold c0; grind
  obtain ⟨j, rfl⟩ : ∃ j, k' = k + j := ⟨k' - k, by omega⟩
  have hj : M * pw j = x := by
    have hp := pw_pos k
    rw [pw_add] at h
    have e : (M * pw j - x) * pw k = 0 := by grind
    rcases Rat.mul_eq_zero.1 e with e | e
    · grind
    · grind
  obtain ⟨y1, y2⟩ := hx
  have j1 : j ≤ 1 := by
    rcases Int.lt_or_le 1 j with hh | hh
    · exfalso
      have e : pw 2 ≤ pw j := pw_mono (by omega)
      have e2 : pw 2 = 4 := by have := pw_nat 2; exact this
      rw [e2] at e
      have t := Rat.mul_le_mul_of_nonneg_left e (show 0 ≤ M by grind)
      rw [hj] at t
      clear h hj
      grind
    · exact hh
  have j2 : -1 ≤ j := by
    rcases Int.lt_or_le j (-1) with hh | hh
    · exfalso
      have e : pw j ≤ pw (-2) := pw_mono (by omega)
      have e2 : pw (-2) * 4 = 1 := by
        have h := pw_add (-2) 2
        rw [show (-2 + 2 : Int) = 0 by decide, pw_zero] at h
        have h3 : pw 2 = 4 := by have := pw_nat 2; exact this
        rw [h3] at h
        exact h.symm
      have t := Rat.mul_le_mul_of_nonneg_left e (show 0 ≤ M by grind)
      rw [hj] at t
      generalize pw (-2) = z at *
      have t3 : M * z * 4 = M := by grind
      generalize M * z = q at *
      clear h hj
      grind
    · exact hh
  have hj3 : j = 0 ∨ j = 1 ∨ j = -1 := by omega
  clear h
  have kc : ((k + j : Int) : Rat) = (k : Rat) + (j : Rat) := by push_cast; rfl
  rw [kc]
  rcases hj3 with rfl | rfl | rfl
  · rw [pw_zero] at hj
    have := exp_core hM (hr.mono (by grind)) (by grind) (ε := ε) (by constructor <;> grind)
    refine this.of ?_ (by grind)
    have : ((0 : Int) : Rat) = 0 := rfl
    rw [this]; grind
  · rw [pw_one] at hj
    have big : 34 / 100 ≤ r := by
      rcases Rat.le_total (a := 34 / 100) (b := r) with hh | hh
      · exact hh
      · exfalso
        rcases Rat.le_total (a := -(34 / 100)) (b := r) with h3 | h3
        · have a := ((wn_pev PE (show Wn r (34 / 100) from ⟨h3, hh⟩)).mono pe_34).2
          change Ex r ≤ _ at a
          grind
        · have a := ((wn_pev PE (show Wn (-r) (35 / 100) from ⟨by have := hr.2; grind, by have := hr.1; grind⟩)).mono pe_35).2
          change Ex (-r) ≤ _ at a
          have b := small_neg hr h3
          clear a
          grind
    have sh := Ex_lam (t := r - lam / 2) (by have := hr.2; constructor <;> grind)
    rw [show lam / 2 + (r - lam / 2) = r by grind, show r - lam / 2 - lam / 2 = r - lam by grind] at sh
    obtain ⟨s1, s2⟩ := sh
    have := exp_core hM (r := r - lam) (ε := ε + 1 / 10000000000000000) (by have := hr.2; constructor <;> grind) (by grind) (by constructor <;> grind)
    refine this.of ?_ (by grind)
    have : ((1 : Int) : Rat) = 1 := rfl
    rw [this]; grind
  · have hj' : M = 2 * x := by
      have e2 : pw (-1) = 1 / 2 := pw_neg1
      rw [e2] at hj; grind
    have low : r ≤ -(34 / 100) := by
      rcases Rat.le_total (a := r) (b := -(34 / 100)) with hh | hh
      · exact hh
      · exfalso
        have := Ex_lo34 hr hh
        grind
    have sh := Ex_lam (t := r + lam / 2) (by have := hr.1; constructor <;> grind)
    rw [show lam / 2 + (r + lam / 2) = r + lam by grind, show r + lam / 2 - lam / 2 = r by grind] at sh
    obtain ⟨s1, s2⟩ := sh
    have := exp_core hM (r := r + lam) (ε := 2 * ε + 1 / 10000000000000000) (by have := hr.1; constructor <;> grind) (by grind) (by constructor <;> grind)
    refine this.of ?_ (by grind)
    have : ((-1 : Int) : Rat) = -1 := rfl
    rw [this]; grind
end Go.Fp.Tri
