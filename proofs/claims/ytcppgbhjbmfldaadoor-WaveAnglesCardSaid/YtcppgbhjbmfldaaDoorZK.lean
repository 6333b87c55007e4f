/- Walks: the vector of a place on a globe, where there is one. -/
import Derived.Test.YtcppgbhjbmfldaaDoorZJ
namespace Go.Proofs.YtcppgbhjbmfldaaDoor
open Go.RowKit Go.Fp Go.Rel
set_option maxRecDepth 20000

end Go.Proofs.YtcppgbhjbmfldaaDoor

/- Walks: the vector of a place on a globe, the reference's. -/
namespace Go.Proofs.YtcppgbhjbmfldaaDoor
open Go.RowKit Go.Fp Go.Rel
set_option maxRecDepth 20000

def VecQ (X Y Z : Nat) (k : Int) (w : World) (e : Ending) (w' : World) : Prop :=
  ∃ x y z, e = .returned (.tuple #[vecV x y z, .int .i64 k]) ∧ can x = X ∧ can y = Y ∧ can z = Z ∧ Ext w w'

end Go.Proofs.YtcppgbhjbmfldaaDoor

/- Walks: the place of a vector on a globe, the program's. -/
namespace Go.Proofs.YtcppgbhjbmfldaaDoor
open Go.RowKit Go.Fp Go.Rel
set_option maxRecDepth 20000

abbrev cTop : Nat := 4756540486875873280
abbrev cTwo : Nat := 4611686018427387904
def halfP (a : Nat) : Nat := fdiv (can a) (can cTwo)
def rootP (x y : Nat) : Nat := fsqrt (fadd (fmul (can x) (can x)) (fmul (can y) (can y)))
/-- the latitude at first; a step on; the one after so many steps -/
def firstT (f z P : Nat) : Int := angS (can z) (fmul P (fsub (can cOne) (eccP f)))
def stepT (a f z P : Nat) (t : Int) : Int := angS (fadd (can z) (fmul (fmul (eccP f) (crossP a f t)) (can (sinP t)))) P
def iterT (a f z P : Nat) : Nat → Int
  | 0 => firstT f z P
  | n + 1 => stepT a f z P (iterT a f z P n)
def highFlat (a f P : Nat) (t : Int) : Nat := fsub (fdiv P (can (cosP t))) (crossP a f t)
def highSteep (a f z : Nat) (t : Int) : Nat := fsub (fdiv (can z) (can (sinP t))) (fmul (crossP a f t) (fsub (can cOne) (eccP f)))
def highP (a f z P : Nat) (t : Int) : Nat := if t ≤ 45000000000 ∧ -45000000000 ≤ t then highFlat a f P t else highSteep a f z t

/-- the place of a vector and how high it is, or the error's number -/
inductive PlaceIs (a f x y z : Nat) : Int → Int → Nat → Int → Prop
  | shape (h : okG a f = false) : PlaceIs a f x y z 0 0 0 3
  | range (h : okG a f = true) (h1 : btw (lenP (can x) (can y) (can z)) (halfP a) cTop = false) : PlaceIs a f x y z 0 0 0 4
  | ok (h : okG a f = true) (h1 : btw (lenP (can x) (can y) (can z)) (halfP a) cTop = true) :
    PlaceIs a f x y z (angS (can y) (can x)) (iterT a f z (rootP x y) 8) (highP a f z (rootP x y) (iterT a f z (rootP x y) 8)) 0
def PlaceR (A : Nat → Addr) (lon lat : Int) (H : Nat) (k : Int) (w : World) (e : Ending) (w' : World) : Prop :=
  ∃ h v, e = .returned (.tuple #[placeV lon lat, .float .f64 h, v]) ∧ can h = H ∧ ErrOf A k v ∧ Ext w w'

end Go.Proofs.YtcppgbhjbmfldaaDoor

/- The vector of a place, and its length across, as floats, against what they ought to be. -/
namespace Go.Proofs.YtcppgbhjbmfldaaDoor
open Go.Fp Go.Fp.Tri
set_option maxRecDepth 20000
variable {a f high : Nat}
/-- the radius at a latitude and the height on it: n of it, R in all -/
structure Rad (a f high : Nat) (t m : Int) (n R : Rat) : Prop where
  hN : vl (crossP a f t) = vl a * n
  lo : 99 / 100 ≤ n
  hi : n ≤ 103 / 100
  rel : Wn (n * n * (1 - vl (eccP f) * (sI m * sI m)) - 1) (1 / 100000000000000)
  hR : R = vl a * n + vl high
  R1 : vl a * (98 / 100) ≤ R
  R2 : R ≤ 12000000
  R3 : vl a * n ≤ R * (102 / 100)
end Go.Proofs.YtcppgbhjbmfldaaDoor

/- The longitude comes back. -/
namespace Go.Proofs.YtcppgbhjbmfldaaDoor
open Go.Fp Go.Fp.Tri
set_option maxRecDepth 20000
/-- apart: by how much -/
def apartP (p q : Int) : Int := signP (normP p - normP q)
end Go.Proofs.YtcppgbhjbmfldaaDoor

/- On the equal-area paper the latitude comes back, and farther north is farther up. -/
namespace Go.Fp.Tri
open Go.Fp Ieee
set_option maxRecDepth 20000

theorem fsqrt_zero {x : Nat} (fx : Fin x) (h : vl x = 0) : Fin (fsqrt x) ∧ vl (fsqrt x) = 0 := by
  obtain ⟨s, m, i, hx⟩ := fx
  rw [vl_of hx, vd_sign, vd_false] at h
  have hp := pw_pos i
  have hm0 : (m : Rat) * pw i = 0 := by
    cases s
    · simpa using h
    · simp only [if_true] at h; grind
  have hm : m = 0 := by
    rcases Nat.eq_zero_or_pos m with h0 | h0
    · exact h0
    · exfalso
      have := Rat.mul_pos (show (0 : Rat) < (m : Rat) by exact_mod_cast h0) hp
      grind
  subst hm
  have e : fsqrt x = D.nearest s 0 i := by
    unfold fsqrt Format.sqrt
    rw [hx]
    unfold Datum.root
    simp [opt]
    rfl
  rw [e]
  refine ⟨(rnd s 0 i 0 ?_ ?_).1, near_zero i s⟩
  · rw [vd_false]; simp
  · exact Rat.le_of_lt (pw_pos _)
theorem ecc_sqrt {E : Nat} (h : EOk E) : EccOk (fsqrt E) ∧ (vl (fsqrt E) = 0 ∨ pw (-540) ≤ vl (fsqrt E)) := by
  have u1 : uu = 1 / 9007199254740992 := uu_eq
  have E0 := h.E0
  have E1 := h.E1
  by_cases hz : vl E = 0
  · obtain ⟨f, e⟩ := fsqrt_zero h.fE hz
    exact ⟨⟨f, by grind, by grind⟩, .inl e⟩
  · have hE : 0 < vl E := by grind
    obtain ⟨f, p, q⟩ := fsqrt_pos h.fE hE (big_le (by grind))
    have hlo : pw (-1074) ≤ vl E := by
      obtain ⟨s, m, i, hx⟩ := h.fE
      have hi := (read_fields hx).2.1
      rw [vl_of hx] at hE ⊢
      have hs : s = false := by
        cases s
        · rfl
        · exfalso
          rw [vd_sign, if_pos rfl] at hE
          have := vd_nonneg m i
          grind
      subst hs
      rw [vd_false] at hE ⊢
      have hm : 1 ≤ m := by
        rcases Nat.eq_zero_or_pos m with h0 | h0
        · subst h0; simp at hE
        · exact h0
      have a : (1 : Rat) ≤ (m : Rat) := by exact_mod_cast hm
      have b : pw (-1074) ≤ pw i := pw_mono hi
      have t := Rat.mul_le_mul_of_nonneg_right a (Rat.le_of_lt (pw_pos i))
      generalize pw (-1074) = z at *
      generalize pw i = w at *
      clear hE hx hi
      grind
    have p1 : pw (-540) * pw (-540) = pw (-1080) := (pw_add (-540) (-540)).symm
    have p2 : pw (-1074) = pw (-1080) * 64 := by
      have h1 := pw_add (-1080) 6
      have h2 : pw 6 = 64 := by have := pw_nat 6; exact this
      rw [h2] at h1; exact h1
    have z0 := pw_pos (-540)
    have z1 := pw_pos (-1080)
    rw [p2] at hlo
    have key : vl (fsqrt E) ≤ 1416 / 10000 ∧ pw (-540) ≤ vl (fsqrt E) := by
      generalize pw (-1080) = y at *
      generalize pw (-540) = z at *
      generalize vl (fsqrt E) = r at *
      generalize vl E = v at *
      obtain ⟨q1, q2⟩ := q
      rw [u1] at q1 q2
      constructor
      · rcases Rat.le_total (a := r) (b := 1416 / 10000) with hh | hh
        · exact hh
        · exfalso
          have := Rat.mul_le_mul_of_nonneg_left hh p
          have := Rat.mul_le_mul_of_nonneg_left hh (show (0 : Rat) ≤ 1416 / 10000 by grind)
          generalize r * r = w at *
          clear p1 p2
          grind
      · rcases Rat.le_total (a := z) (b := r) with hh | hh
        · exact hh
        · exfalso
          have h1 := Rat.mul_le_mul_of_nonneg_left hh p
          have h2 := Rat.mul_le_mul_of_nonneg_left hh (Rat.le_of_lt z0)
          have h3 : r * z = z * r := by grind
          rw [h3] at h1
          generalize r * r = w at *
          generalize z * r = x at *
          generalize z * z = s at *
          clear p2 h3 E0
          grind
    exact ⟨⟨f, p, key.1⟩, .inr key.2⟩
/-- what stands for the area below a latitude -/
def upS (E s : Nat) : Nat := if D.order (fsqrt E) 0 = some .eq then fmul wTwo s else qW E (fsqrt E) s
theorem v_nil : Fin 0 ∧ vl 0 = 0 := vl_const (s := false) (m := 0) (k := 1074) (by decide +kernel) (by decide +kernel)
end Go.Fp.Tri
namespace Go.Proofs.YtcppgbhjbmfldaaDoor
open Go.Fp Go.Fp.Tri
set_option maxRecDepth 20000
end Go.Proofs.YtcppgbhjbmfldaaDoor

/- The exponential's polynomial undoes the logarithm's, by reckoning on their coefficients. -/
namespace Go.Fp.Tri
open Go.Fp Ieee
set_option maxRecDepth 20000

/-- a polynomial of a polynomial -/
def pcomp : List Rat → List Rat → List Rat
  | [], _ => []
  | c :: r, q => padd [c] (pmul q (pcomp r q))
theorem pev_comp : ∀ (p q : List Rat) (y : Rat), pev (pcomp p q) y = pev p (pev q y)
  | [], q, y => rfl
  | c :: r, q, y => by
    simp only [pcomp, pev_add, pev_mul, pev_comp r q y, pev]
    grind
/-- the exponential's polynomial -/
def PE : List Rat := [inv 0, inv 1, inv 2, inv 3, inv 4, inv 5, inv 6, inv 7, inv 8, inv 9, inv 10, inv 11, inv 12, inv 13, inv 14]
def PEm : List Rat := [inv 0, -inv 1, inv 2, -inv 3, inv 4, -inv 5, inv 6, -inv 7, inv 8, -inv 9, inv 10, -inv 11, inv 12, -inv 13, inv 14]
/-- half the argument's hyperbolic tangent, over the argument, in the argument's square -/
def PU : List Rat := [604462909807314587353088 / 1208925819614629174706176, -50371909150609548946091 / 1208925819614629174706176, 5037190915060954894609 / 1208925819614629174706176, -509715747357358531002 / 1208925819614629174706176, 51637869830320635494 / 1208925819614629174706176, -5231930799523689021 / 1208925819614629174706176, 530104532565194733 / 1208925819614629174706176, -53710808703282966 / 1208925819614629174706176, 5442042599794500 / 1208925819614629174706176, -551394196377958 / 1208925819614629174706176]
def PT : List Rat := [0, 604462909807314587353088 / 1208925819614629174706176, 0, -50371909150609548946091 / 1208925819614629174706176, 0, 5037190915060954894609 / 1208925819614629174706176, 0, -509715747357358531002 / 1208925819614629174706176, 0, 51637869830320635494 / 1208925819614629174706176, 0, -5231930799523689021 / 1208925819614629174706176, 0, 530104532565194733 / 1208925819614629174706176, 0, -53710808703282966 / 1208925819614629174706176, 0, 5442042599794500 / 1208925819614629174706176, 0, -551394196377958 / 1208925819614629174706176]
def PB : List Rat := [2, 2 / 3, 2 / 5, 2 / 7, 2 / 9, 2 / 11, 2 / 13, 2 / 15, 2 / 17, 2 / 19, 2 / 21, 2 / 23]
def Ex (r : Rat) : Rat := pev PE r
def Th (r : Rat) : Rat := pev PT r
theorem Th_U (r : Rat) : Th r = r * pev PU (r * r) := by simp only [Th, PT, PU, pev]; grind
theorem AA_B (s : Rat) : AA s = s * pev PB (s * s) := by simp only [AA, PA, PB, pev]; grind
theorem Ex_neg (r : Rat) : Ex (-r) = pev PEm r := by simp only [Ex, PE, PEm, pev]; grind
def RemE : List Rat := padd (pmul PE (padd [1] (pneg PT))) (pneg (padd [1] PT))
theorem remE_bd : pbd RemE (36 / 100) ≤ 1 / 10000000000000000 := by decide +kernel
def RemN : List Rat := padd (pmul PE PEm) [-1]
theorem remN_bd : pbd RemN (36 / 100) ≤ 1 / 10000000000000000 := by decide +kernel
def PZ : List Rat := 0 :: pmul PU PU
def RemA : List Rat := padd (pmul PU (pcomp PB PZ)) [-1]
theorem remA_bd : pbd RemA (1296 / 10000) ≤ 1 / 1000000000000000 := by decide +kernel
def RemL : List Rat := padd (pcomp PE [lam / 2, 1]) (pneg (pscale 2 (pcomp PE [-(lam / 2), 1])))
theorem pe_35 : pbd PE (35 / 100) ≤ 14191 / 10000 := by decide +kernel
theorem pe_one : pbd (padd PE [-1]) (35 / 100) ≤ 42 / 100 := by decide +kernel
def PE2 : List Rat := [inv 2, inv 3, inv 4, inv 5, inv 6, inv 7, inv 8, inv 9, inv 10, inv 11, inv 12, inv 13, inv 14]
theorem pe2_bd : pbd PE2 (35 / 100) ≤ 6 / 10 := by decide +kernel
theorem pt_36 : pbd PT (36 / 100) ≤ 19 / 100 := by decide +kernel
theorem AA_Th {r : Rat} (h : Wn r (36 / 100)) : Wn (AA (Th r) - r) (1 / 1000000000000000) := by
  have hb := (wn_pev RemA (y := r * r) (Y := 1296 / 10000) ((wn_mul h h).mono (by grind))).mono remA_bd
  have e : pev RemA (r * r) = pev PU (r * r) * pev PB (Th r * Th r) - 1 := by
    simp only [RemA, pev_add, pev_mul, pev_comp]
    have e1 : pev PZ (r * r) = Th r * Th r := by
      unfold PZ
      simp only [pev, pev_mul]
      rw [Th_U]
      grind
    rw [e1]
    simp only [pev]
    grind
  rw [e] at hb
  have e2 : AA (Th r) - r = r * (pev PU (r * r) * pev PB (Th r * Th r) - 1) := by
    rw [AA_B, Th_U]
    grind
  rw [e2]
  exact (wn_mul h hb).mono (by grind)
theorem Ex_Th {r : Rat} (h : Wn r (36 / 100)) : Wn (Ex r * (1 - Th r) - (1 + Th r)) (1 / 10000000000000000) := by
  have hb := (wn_pev RemE h).mono remE_bd
  have e : pev RemE r = Ex r * (1 - Th r) - (1 + Th r) := by
    simp only [RemE, pev_add, pev_mul, pneg, pev_scale, Ex, Th]
    simp only [pev]
    grind
  rw [e] at hb; exact hb
theorem Ex_inv {r : Rat} (h : Wn r (36 / 100)) : Wn (Ex r * Ex (-r) - 1) (1 / 10000000000000000) := by
  have hb := (wn_pev RemN h).mono remN_bd
  have e : pev RemN r = Ex r * Ex (-r) - 1 := by
    rw [Ex_neg]
    simp only [RemN, pev_add, pev_mul, Ex]
    simp only [pev]
    grind
  rw [e] at hb; exact hb
theorem Ex_35 {r : Rat} (h : Wn r (35 / 100)) : 7 / 10 ≤ Ex r ∧ Ex r ≤ 142 / 100 := by
  have a := (wn_pev PE h).mono pe_35
  have b := (wn_pev PE (y := -r) (Y := 35 / 100) ⟨by have := h.2; grind, by have := h.1; grind⟩).mono pe_35
  have c := Ex_inv (r := r) (h.mono (by grind))
  have pos : ∀ {r : Rat}, Wn r (35 / 100) → 0 ≤ Ex r := by
    intro r h
    have hb := (wn_pev (padd PE [-1]) h).mono pe_one
    have e : pev (padd PE [-1]) r = Ex r - 1 := by
      simp only [pev_add, Ex]
      simp only [pev]
      grind
    rw [e] at hb
    have := hb.1
    grind
  change Wn (Ex r) _ at a
  change Wn (Ex (-r)) _ at b
  obtain ⟨a1, a2⟩ := a
  obtain ⟨b1, b2⟩ := b
  obtain ⟨c1, c2⟩ := c
  refine ⟨?_, by grind⟩
  rcases Rat.le_total (a := 7 / 10) (b := Ex r) with hh | hh
  · exact hh
  · exfalso
    have p := pos (r := -r) ⟨by have := h.2; grind, by have := h.1; grind⟩
    have t := Rat.mul_le_mul_of_nonneg_right hh p
    generalize Ex r * Ex (-r) = w at *
    grind
end Go.Fp.Tri
