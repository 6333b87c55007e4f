/- The height that is found: how near it comes. -/
import Derived.Test.YteebbcdbkkliaaaDoorGK
namespace Go.Proofs.YteebbcdbkkliaaaDoor
open Go.Fp Go.Fp.Tri
set_option maxRecDepth 20000
variable {a f high : Nat}
set_option maxHeartbeats 2000000 in
theorem flat_near (s : Snd a f high) {t0 m0 : Int} {g n R : Rat} {z P : Nat} (v : Vec2 a f high t0 m0 g n R z P) {t m : Int} (hs : Sgn t m g) (h0 : 0 ≤ m) (h1 : m ≤ 45000000000) (d1 : m - m0 ≤ 4) (d2 : m0 - m ≤ 4) :
    Fp.Fin (highFlat a f P t) ∧ Wn (vl (highFlat a f P t) - vl high) (4 / 1000) := by
  obtain ⟨k1, k2, k3, k4, k5⟩ := vec2_R s v
  obtain ⟨ge, e0, e50⟩ := ecc_ok s
  obtain ⟨fN, nt, hN, nlo, nhi, nrel⟩ := cross_near s hs h0 (by omega)
  obtain ⟨_, ⟨fc, ec⟩⟩ := sc_sgn hs h0 (by omega)
  have u1 : uu = 1 / 9007199254740992 := uu_eq
  have m0a := v.l0
  have m0b : m0 ≤ 90000000000 := by have := v.l1; omega
  have bs := wn_sI (m := m) (by omega) (by omega)
  have bs0 := wn_sI (m := m0) (by omega) m0b
  have bc0 := wn_cI (m := m0) (by omega) m0b
  have bc := wn_cI (m := m) (by omega) (by omega)
  have hD : Wn ((m : Rat) - m0) 4 := by
    have a := castle d1
    have b := castle d2
    rw [show ((m - m0 : Int) : Rat) = (m : Rat) - m0 by push_cast; rfl] at a
    rw [show ((m0 - m : Int) : Rat) = (m0 : Rat) - m by push_cast; rfl] at b
    constructor <;> grind
  obtain ⟨ls, lc⟩ := lipI h0 (show m ≤ 90000000000 by omega) m0a m0b hD
  obtain ⟨nd, _⟩ := n_diff e0 e50 bs bs0 nlo nhi v.rad.lo v.rad.hi nrel v.rad.rel ls
  have rh := rho_hi
  have r0 := rho_pos
  have clo : 45 / 100 ≤ cI m := by
    have a : (45000000000 : Rat) ≤ ((90000000000 - m : Int) : Rat) := castle (a := 45000000000) (by omega)
    have e : ((90000000000 - m : Int) : Rat) = 90000000000 - (m : Rat) := by push_cast; rfl
    rw [e] at a
    have r := rho_lo
    have := Rat.mul_le_mul_of_nonneg_right a (Rat.le_of_lt rho_pos)
    rcases cI_ge h0 (show m ≤ 90000000000 by omega) with h | h <;> grind
  have lc' : Wn (cI m - cI m0) (94 / 1000000000000) := lc.mono (by grind)
  have nd' : Wn (nt - n) (3 / 1000000000000) := nd.mono (by grind)
  have a1 := s.a1
  have a2 := s.a2
  have hR := v.rad.hR
  have hh1 := s.h1
  have hh2 := s.h2
  have eP := v.eP
  have fP := v.fP
  unfold highFlat
  rw [fc.can]
  generalize crossP a f t = N at *
  generalize cosP t = c at *
  have bR : Wn R R := ⟨by grind, by grind⟩
  have clo' : 449 / 1000 ≤ vl c := by have := ec.1; grind
  have bP : Wn (vl P) (R * (1002 / 1000)) := (wn_add eP (wn_mul bR bc0)).of (by grind) (by grind)
  have hc0 : vl c ≠ 0 := by grind
  have hq : Wn (vl P / vl c) (R * (23 / 10)) := by
    refine wn_quot (c := vl c) (c0 := 449 / 1000) (by grind) clo' ?_
    rw [show vl P / vl c * vl c = vl P by grind]
    exact bP.mono (by grind)
  have hq2 : Wn (vl P / vl c - R) (3 / 1000) := by
    refine wn_quot (c := vl c) (c0 := 449 / 1000) (by grind) clo' ?_
    have h2 := wn_sub eP (wn_mul bR (wn_add ec lc'))
    refine h2.of ?_ (by grind)
    rw [show (vl P / vl c - R) * vl c = vl P - R * vl c by grind]
    grind
  obtain ⟨f1, e1⟩ := divE fP fc hc0 _ hq (by grind)
  have bN : Wn (vl a * nt) 10300000 := (wn_mul (show Wn (vl a) 10000000 from ⟨by grind, a2⟩) (show Wn nt (103 / 100) from ⟨by grind, nhi⟩)).mono (by grind)
  have q1 : Wn (vl (fdiv P c) - R) (31 / 10000) := (wn_add e1 hq2).of (by grind) (by rw [u1]; grind)
  have qA := wn_mul (show Wn (vl a) 10000000 from ⟨by grind, a2⟩) nd'
  have q2 : Wn (vl (fdiv P c) - vl N - vl high) (34 / 10000) := by
    rw [hN]
    exact (wn_sub q1 qA).of (by rw [hR]; grind) (by grind)
  obtain ⟨f2, e2⟩ := subE f1 fN 2000000 (by obtain ⟨_, _⟩ := q2; constructor <;> grind) (by grind)
  refine ⟨f2, ?_⟩
  exact (wn_add e2 q2).of (by grind) (by rw [u1]; grind)
set_option maxHeartbeats 2000000 in
theorem steep_near (s : Snd a f high) {t0 m0 : Int} {g n R : Rat} {z P : Nat} (v : Vec2 a f high t0 m0 g n R z P) {t m : Int} (hs : Sgn t m g) (h0 : 45000000000 ≤ m) (h1 : m ≤ 90000000000) (d1 : m - m0 ≤ 4) (d2 : m0 - m ≤ 4) :
    Fp.Fin (highSteep a f z t) ∧ Wn (vl (highSteep a f z t) - vl high) (4 / 1000) := by
  obtain ⟨k1, k2, k3, k4, k5⟩ := vec2_R s v
  obtain ⟨ge, e0, e50⟩ := ecc_ok s
  obtain ⟨fo, eo⟩ := oneE_ok s
  obtain ⟨fN, nt, hN, nlo, nhi, nrel⟩ := cross_near s hs (by omega) h1
  obtain ⟨⟨fx, ex⟩, _⟩ := sc_sgn hs (by omega) h1
  have u1 : uu = 1 / 9007199254740992 := uu_eq
  have m0a := v.l0
  have m0b : m0 ≤ 90000000000 := by have := v.l1; omega
  have bs := wn_sI (m := m) (by omega) (by omega)
  have bs0 := wn_sI (m := m0) (by omega) m0b
  have hD : Wn ((m : Rat) - m0) 4 := by
    have a := castle d1
    have b := castle d2
    rw [show ((m - m0 : Int) : Rat) = (m : Rat) - m0 by push_cast; rfl] at a
    rw [show ((m0 - m : Int) : Rat) = (m0 : Rat) - m by push_cast; rfl] at b
    constructor <;> grind
  obtain ⟨ls, _⟩ := lipI (show 0 ≤ m by omega) h1 m0a m0b hD
  obtain ⟨nd, _⟩ := n_diff e0 e50 bs bs0 nlo nhi v.rad.lo v.rad.hi nrel v.rad.rel ls
  have rh := rho_hi
  have r0 := rho_pos
  have slo : 45 / 100 ≤ sI m := by
    have a : (45000000000 : Rat) ≤ (m : Rat) := castle h0
    have r := rho_lo
    have := Rat.mul_le_mul_of_nonneg_right a (Rat.le_of_lt rho_pos)
    rcases sI_ge (show 0 ≤ m by omega) h1 with h | h <;> grind
  have ls' : Wn (sI m - sI m0) (94 / 1000000000000) := ls.mono (by grind)
  have nd' : Wn (nt - n) (3 / 1000000000000) := nd.mono (by grind)
  have a1 := s.a1
  have a2 := s.a2
  have hR := v.rad.hR
  have hh1 := s.h1
  have hh2 := s.h2
  have ez := v.ez
  have fz := v.fz
  have hgg := hs.sq
  unfold highSteep
  rw [fx.can, fz.can]
  generalize crossP a f t = N at *
  generalize sinP t = x at *
  generalize fsub (can cOne) (eccP f) = O at *
  generalize eccP f = E at *
  have be : Wn (vl E) (1 / 50) := ⟨by grind, e50⟩
  have slo' : 449 / 1000 ≤ g * vl x := by have := ex.1; grind
  have bA : Wn (vl a) 10000000 := ⟨by grind, a2⟩
  have bQ : Wn (R - vl E * (vl a * n)) R := ⟨by grind, by grind⟩
  generalize hQ : R - vl E * (vl a * n) = Q at *
  have bgz : Wn (g * vl z) (R * (1002 / 1000)) := (wn_add ez (wn_mul bQ bs0)).of (by grind) (by grind)
  have hx0 : vl x ≠ 0 := by
    intro h
    rw [h] at slo'
    grind
  have hq : Wn (vl z / vl x) (R * (23 / 10)) := by
    refine wn_quot (c := g * vl x) (c0 := 449 / 1000) (by grind) slo' ?_
    rw [show vl z / vl x * (g * vl x) = g * vl z by grind]
    exact bgz.mono (by grind)
  have hq2 : Wn (vl z / vl x - Q) (3 / 1000) := by
    refine wn_quot (c := g * vl x) (c0 := 449 / 1000) (by grind) slo' ?_
    have h2 := wn_sub ez (wn_mul bQ (wn_add ex ls'))
    refine h2.of ?_ (by grind)
    rw [show (vl z / vl x - Q) * (g * vl x) = g * vl z - Q * (g * vl x) by grind]
    grind
  obtain ⟨f1, e1⟩ := divE fz fx hx0 _ hq (by grind)
  have q1 : Wn (vl (fdiv z x) - Q) (31 / 10000) := (wn_add e1 hq2).of (by grind) (by rw [u1]; grind)
  have bN : Wn (vl a * nt) 10300000 := (wn_mul bA (show Wn nt (103 / 100) from ⟨by grind, nhi⟩)).mono (by grind)
  have b1e : Wn (1 - vl E) 1 := ⟨by grind, by grind⟩
  have bO : Wn (vl O) (10001 / 10000) := (wn_add eo b1e).of (by grind) (by rw [u1]; grind)
  obtain ⟨f3, e3⟩ := mulE fN fo 10400000 (by rw [hN]; exact (wn_mul bN bO).mono (by grind)) (by grind)
  rw [hN] at e3
  have q3 : Wn (vl (fmul N O) - vl a * nt * (1 - vl E)) (1 / 10000000) := (wn_add e3 (wn_mul bN eo)).of (by grind) (by rw [u1]; grind)
  have qA := wn_mul (wn_mul bA nd') b1e
  have q2 : Wn (vl (fdiv z x) - vl (fmul N O) - vl high) (34 / 10000) :=
    (wn_sub (wn_sub q1 q3) qA).of (by rw [← hQ, hR]; grind) (by grind)
  obtain ⟨f2, e2⟩ := subE f1 f3 2000000 (by obtain ⟨_, _⟩ := q2; constructor <;> grind) (by grind)
  refine ⟨f2, ?_⟩
  exact (wn_add e2 q2).of (by grind) (by rw [u1]; grind)
theorem high_near (s : Snd a f high) {t0 m0 : Int} {g n R : Rat} {z P : Nat} (v : Vec2 a f high t0 m0 g n R z P) {t m : Int} (hs : Sgn t m g) (h0 : 0 ≤ m) (h1 : m ≤ 90000000000) (d1 : m - m0 ≤ 4) (d2 : m0 - m ≤ 4) :
    Fp.Fin (highP a f z P t) ∧ Wn (vl (highP a f z P t) - vl high) (4 / 1000) := by
  unfold highP
  split
  · rename_i h
    refine flat_near s v hs h0 ?_ d1 d2
    rcases hs with ⟨rfl, _⟩ | ⟨rfl, _⟩ <;> omega
  · rename_i h
    refine steep_near s v hs ?_ h1 d1 d2
    rcases hs with ⟨rfl, _⟩ | ⟨rfl, _⟩ <;> omega
end Go.Proofs.YteebbcdbkkliaaaDoor
