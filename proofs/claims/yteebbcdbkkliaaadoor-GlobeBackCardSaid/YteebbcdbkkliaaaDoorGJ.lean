/- The vector of a place, and its length across, as floats, against what they ought to be. -/
import Derived.Test.YteebbcdbkkliaaaDoorGI
import Derived.Test.YteebbcdbkkliaaaDoorV9
namespace Go.Proofs.YteebbcdbkkliaaaDoor
open Go.Fp Go.Fp.Tri
set_option maxRecDepth 20000
variable {a f high : Nat}
/-- the radius at a latitude and the height on it: n of it, R in all -/
structure Rad (a f high : Nat) (t m : Int) (n R : Rat) : Prop where
  hN : vl (crossP a f t) = vl a * n
  lo : 99 / 100 ≤ n
  hi : n ≤ 103 / 100
  rel : Wn (n * n * (1 - vl (eccP f) * (sI m * sI m)) - 1) (1 / 100000000000000)
  hR : R = vl a * n + vl high
  R1 : vl a * (98 / 100) ≤ R
  R2 : R ≤ 12000000
  R3 : vl a * n ≤ R * (102 / 100)
theorem rad_some (s : Snd a f high) {t m : Int} {g : Rat} (hs : Sgn t m g) (h0 : 0 ≤ m) (h1 : m ≤ 90000000000) : ∃ n R, Rad a f high t m n R := by
  obtain ⟨_, n, hN, lo, hi, rel⟩ := cross_near s hs h0 h1
  have a1 := s.a1
  have a2 := s.a2
  have k1 := s.h1
  have k2 := s.h2
  have p1 := Rat.mul_le_mul_of_nonneg_left lo (show 0 ≤ vl a by grind)
  have p2 := Rat.mul_le_mul_of_nonneg_left hi (show 0 ≤ vl a by grind)
  exact ⟨n, _, hN, lo, hi, rel, rfl, by grind, by grind, by grind⟩
set_option maxHeartbeats 1000000 in
theorem vecD_near (s : Snd a f high) {t m : Int} {g n R : Rat} (hs : Sgn t m g) (h0 : 0 ≤ m) (h1 : m ≤ 90000000000) (hr : Rad a f high t m n R) :
    Fp.Fin (vecD a f t high) ∧ Wn (vl (vecD a f t high) - R * cI m) (R * (12 / 1000000000000000)) := by
  obtain ⟨fN, _⟩ := cross_near s hs h0 h1
  obtain ⟨_, ⟨fc, ec⟩⟩ := sc_sgn hs h0 h1
  have bc := wn_cI (m := m) (by omega) h1
  have u1 : uu = 1 / 9007199254740992 := uu_eq
  have a1 := s.a1
  have R1 := hr.R1
  have R2 := hr.R2
  have hN := hr.hN
  have hR := hr.hR
  unfold vecD
  rw [s.fh.can, fc.can]
  generalize crossP a f t = N at *
  generalize cosP t = c at *
  have R0 : 900000 ≤ R := by grind
  obtain ⟨f1, e1⟩ := addE fN s.fh R (by rw [hN, ← hR]; constructor <;> grind) (by grind)
  rw [hN, ← hR] at e1
  have bvc : Wn (vl c) (1002 / 1000) := (wn_add ec bc).of (by grind) (by grind)
  have bR : Wn R R := ⟨by grind, by grind⟩
  have b1 : Wn (vl (fadd N high)) (R * (1001 / 1000)) := (wn_add e1 bR).of (by grind) (by rw [u1]; grind)
  generalize fadd N high = D1 at *
  obtain ⟨f2, e2⟩ := mulE f1 fc _ (wn_mul b1 bvc) (by grind)
  refine ⟨f2, ?_⟩
  have d1 := wn_mul e1 bvc
  have d2 := wn_mul bR ec
  exact (wn_add e2 (wn_add d1 d2)).of (by grind) (by rw [u1]; grind)
set_option maxHeartbeats 1000000 in
theorem vecZ_near (s : Snd a f high) {t m : Int} {g n R : Rat} (hs : Sgn t m g) (h0 : 0 ≤ m) (h1 : m ≤ 90000000000) (hr : Rad a f high t m n R) :
    Fp.Fin (vecZ a f t high) ∧ Wn (g * vl (vecZ a f t high) - (R - vl (eccP f) * (vl a * n)) * sI m) (R * (13 / 1000000000000000)) ∧ (g = 1 → 0 ≤ vl (vecZ a f t high)) := by
  obtain ⟨fN, _⟩ := cross_near s hs h0 h1
  obtain ⟨⟨fx, ex⟩, _⟩ := sc_sgn hs h0 h1
  have bs := wn_sI (m := m) (by omega) h1
  obtain ⟨ge, e0, e50⟩ := ecc_ok s
  obtain ⟨fo, eo⟩ := oneE_ok s
  have u1 : uu = 1 / 9007199254740992 := uu_eq
  have a1 := s.a1
  have R1 := hr.R1
  have R2 := hr.R2
  have R3 := hr.R3
  have hN := hr.hN
  have hR := hr.hR
  have lo := hr.lo
  have sp : g = 1 → 0 ≤ vl (sinP t) := by
    rintro rfl
    rcases hs with ⟨rfl, _⟩ | ⟨_, h⟩
    · exact sin_nonneg h0 h1
    · exfalso; grind
  unfold vecZ
  rw [s.fh.can, fx.can]
  generalize crossP a f t = N at *
  generalize sinP t = x at *
  generalize fsub (can cOne) (eccP f) = O at *
  generalize eccP f = E at *
  have R0 : 900000 ≤ R := by grind
  have M0 : 0 ≤ vl a * n := Rat.mul_nonneg (by grind) (by grind)
  generalize vl a * n = M at *
  have bM : Wn M (R * (102 / 100)) := ⟨by grind, R3⟩
  have bgx : Wn (g * vl x) (1002 / 1000) := (wn_add ex bs).of (by grind) (by grind)
  have bx : Wn (vl x) (1002 / 1000) := hs.wn' bgx
  have be : Wn (vl E) (1 / 50) := ⟨by grind, e50⟩
  have b1e : Wn (1 - vl E) 1 := ⟨by grind, by grind⟩
  have bO : Wn (vl O) (10001 / 10000) := (wn_add eo b1e).of (by grind) (by rw [u1]; grind)
  have bNO : Wn (vl N * vl O) (R * (103 / 100)) := by rw [hN]; exact (wn_mul bM bO).mono (by grind)
  obtain ⟨f1, e1⟩ := mulE fN fo _ bNO (by grind)
  rw [hN] at e1
  have d1 := wn_mul bM eo
  have q1 : Wn (vl (fmul N O) - M * (1 - vl E)) (R * (4 * uu)) := (wn_add e1 d1).of (by grind) (by rw [u1]; grind)
  generalize fmul N O = P at *
  obtain ⟨Q, hQ⟩ : ∃ Q, Q = R - vl E * M := ⟨_, rfl⟩
  rw [← hQ]
  have hQ2 : Q = M * (1 - vl E) + vl high := by rw [hQ, hR]; grind
  have bEM := wn_mul be bM
  have eM0 := Rat.mul_nonneg e0 M0
  have Qlo : R * (97 / 100) ≤ Q := by have := bEM.2; grind
  have bQ : Wn Q R := ⟨by grind, by grind⟩
  have bPh : Wn (vl P + vl high) (R * (1001 / 1000)) := (wn_add q1 bQ).of (by grind) (by rw [u1]; grind)
  obtain ⟨f2, e2⟩ := addE f1 s.fh _ bPh (by grind)
  have q2 : Wn (vl (fadd P high) - Q) (R * (6 * uu)) := (wn_add e2 q1).of (by grind) (by rw [u1]; grind)
  have b2 : Wn (vl (fadd P high)) (R * (1001 / 1000)) := (wn_add q2 bQ).of (by grind) (by rw [u1]; grind)
  have p2 : 0 ≤ vl (fadd P high) := by have := q2.1; rw [u1] at this; grind
  generalize fadd P high = T at *
  obtain ⟨f3, e3⟩ := mulE f2 fx _ (wn_mul b2 bx) (by grind)
  refine ⟨f3, ?_, fun hg1 => fmul_nonneg f2 fx _ (wn_mul b2 bx) (big_le' (by grind)) (Rat.mul_nonneg p2 (sp hg1))⟩
  have d2 := hs.wn e3
  have d3 := wn_mul b2 ex
  have d4 := wn_mul q2 bs
  exact (wn_add d2 (wn_add d3 d4)).of (by grind) (by rw [u1]; grind)

/-- how far across: of any two that make a circle -/
theorem root_near {d κ σ : Nat} {C0 S0 : Rat} (fd : Fp.Fin d) (fk : Fp.Fin κ) (fs : Fp.Fin σ) (d1 : 1000 ≤ vl d) (d2 : vl d ≤ 100000000) (ek : Wn (vl κ - C0) tol) (es : Wn (vl σ - S0) tol) (h1 : Wn (C0 * C0 + S0 * S0 - 1) (1 / 1000000000000000)) :
    (Fp.Fin (fmul d κ) ∧ Wn (vl (fmul d κ) - vl d * C0) (vl d * (11 / 1000000000000000))) ∧ (Fp.Fin (fmul d σ) ∧ Wn (vl (fmul d σ) - vl d * S0) (vl d * (11 / 1000000000000000))) ∧
    (Fp.Fin (fadd (fmul (fmul d κ) (fmul d κ)) (fmul (fmul d σ) (fmul d σ))) ∧ Wn (vl (fadd (fmul (fmul d κ) (fmul d κ)) (fmul (fmul d σ) (fmul d σ))) - vl d * vl d) (vl d * vl d * (51 / 1000000000000000))) ∧ Fp.Fin (rootP (fmul d κ) (fmul d σ)) ∧ 0 ≤ vl (rootP (fmul d κ) (fmul d σ)) ∧ Wn (vl (rootP (fmul d κ) (fmul d σ)) - vl d) (6 / 100000000000000 * vl d) := by
  have u1 : uu = 1 / 9007199254740992 := uu_eq
  have bC : Wn C0 (1001 / 1000) := sq_le (c := S0) ((show C0 * C0 + S0 * S0 - 1 = S0 * S0 + C0 * C0 - 1 by grind) ▸ h1)
  have bS : Wn S0 (1001 / 1000) := sq_le h1
  have bk : Wn (vl κ) (1002 / 1000) := (wn_add ek bC).of (by grind) (by grind)
  have bs : Wn (vl σ) (1002 / 1000) := (wn_add es bS).of (by grind) (by grind)
  have bd : Wn (vl d) (vl d) := ⟨by grind, by grind⟩
  have G : ∀ x : Nat, ∀ c : Rat, Fp.Fin x → Wn (vl x - c) tol → Wn (vl x) (1002 / 1000) → Wn c (1001 / 1000) →
      Fp.Fin (fmul d x) ∧ Wn (vl (fmul d x) - vl d * c) (vl d * (11 / 1000000000000000)) ∧ Fp.Fin (fmul (fmul d x) (fmul d x)) ∧ Wn (vl (fmul (fmul d x) (fmul d x)) - vl d * vl d * (c * c)) (vl d * vl d * (24 / 1000000000000000)) := by
    intro x c fx ex bx bc
    obtain ⟨f1, e1⟩ := mulE fd fx _ (wn_mul bd bx) (by grind)
    have q1 : Wn (vl (fmul d x) - vl d * c) (vl d * (11 / 1000000000000000)) := (wn_add e1 (wn_mul bd ex)).of (by grind) (by rw [u1]; grind)
    refine ⟨f1, q1, ?_⟩
    have bdc := wn_mul bd bc
    have b1 : Wn (vl (fmul d x)) (vl d * (1002 / 1000)) := (wn_add q1 bdc).of (by grind) (by grind)
    generalize fmul d x = X at *
    have dd : 1000000 ≤ vl d * vl d := by
      have := Rat.mul_le_mul_of_nonneg_left d1 (show 0 ≤ vl d by grind)
      grind
    have dd2 : vl d * vl d ≤ 10000000000000000 := by
      have := Rat.mul_le_mul_of_nonneg_left d2 (show 0 ≤ vl d by grind)
      grind
    obtain ⟨f2, e2⟩ := mulB f1 f1 _ (wn_mul b1 b1) (by grind)
    refine ⟨f2, ?_⟩
    have q2 := wn_mul q1 (wn_add b1 bdc)
    exact (wn_add e2 q2).of (by grind) (by rw [u1]; grind)
  obtain ⟨x1, x2, x3, x4⟩ := G κ C0 fk ek bk bC
  obtain ⟨y1, y2, y3, y4⟩ := G σ S0 fs es bs bS
  refine ⟨⟨x1, x2⟩, ⟨y1, y2⟩, ?_⟩
  clear G
  unfold rootP
  rw [x1.can, y1.can]
  have dd : 1000000 ≤ vl d * vl d := by
    have := Rat.mul_le_mul_of_nonneg_left d1 (show 0 ≤ vl d by grind)
    grind
  have dd2 : vl d * vl d ≤ 10000000000000000 := by
    have := Rat.mul_le_mul_of_nonneg_left d2 (show 0 ≤ vl d by grind)
    grind
  have bdd : Wn (vl d * vl d) (vl d * vl d) := ⟨by grind, by grind⟩
  have hh := wn_mul bdd h1
  have q0 : Wn (vl (fmul (fmul d κ) (fmul d κ)) + vl (fmul (fmul d σ) (fmul d σ)) - vl d * vl d) (vl d * vl d * (49 / 1000000000000000)) := (wn_add (wn_add x4 y4) hh).of (by grind) (by grind)
  generalize fmul (fmul d κ) (fmul d κ) = XX at *
  generalize fmul (fmul d σ) (fmul d σ) = YY at *
  generalize hDD : vl d * vl d = DD at *
  have bsum : Wn (vl XX + vl YY) (DD * (1001 / 1000)) := (wn_add q0 bdd).of (by grind) (by grind)
  obtain ⟨f3, e3⟩ := addB x3 y3 _ bsum (by grind)
  have q3 : Wn (vl (fadd XX YY) - DD) (DD * (51 / 1000000000000000)) := (wn_add e3 q0).of (by grind) (by rw [u1]; grind)
  generalize fadd XX YY = SS at *
  obtain ⟨f4, r0, e4⟩ := fsqrt_err f3 (by have := q3.1; grind) (big30 (by have := q3.2; grind))
  refine ⟨⟨f3, q3⟩, f4, r0, ?_⟩
  generalize fsqrt SS = r at *
  refine sq_near r0 (by grind) ?_
  rw [hDD]
  have hi := q3.2
  have hb : 8 * uu * vl SS ≤ DD / 1000000000000000 := by rw [u1]; grind
  exact (wn_add (e4.mono hb) q3).of (by grind) (by grind)
end Go.Proofs.YteebbcdbkkliaaaDoor
