/- Walks: the vector of a place on a globe, the reference's. -/
import Derived.Test.YtfhpnkmpjijebaaDoorZK
namespace Go.Proofs.YtfhpnkmpjijebaaDoor
open Go.RowKit Go.Fp Go.Rel
set_option maxRecDepth 20000

def VecQ (X Y Z : Nat) (k : Int) (w : World) (e : Ending) (w' : World) : Prop :=
  ∃ x y z, e = .returned (.tuple #[vecV x y z, .int .i64 k]) ∧ can x = X ∧ can y = Y ∧ can z = Z ∧ Ext w w'

set_option maxHeartbeats 4000000 in
theorem vecOf_shape (a f : Nat) (lon lat : Int) (high : Nat) (w : World) (h : okG a f = false) :
    Calls Tryd.prog 9 #[globeV a f, placeV lon lat, .float .f64 high] w (VecQ 0 0 0 3 w) := by
  have HG : Hid (∀ w, Calls Tryd.prog 31 #[globeV a f] w (ExR (.int .i64 3) w)) := fun w => by simpa [h] using globeError_c a f w
  clear h
  go_enter Tryd.func9, Tryd.ntmps9
  go_wp2_with (first
    | (go_at_call 31; refine (HG.out _).mono ?_; rintro e w1 ⟨rfl, hx1⟩; obtain ⟨hb1, hb2, hb3, hw1⟩ := ext3 hx1)
    | (refine wpList_own rfl 40 _ _ rfl _ _ rfl rfl _ _ hb3 (by kernel_rfl) rfl (by simp [Value.oneCell']) ?_; intro w2 hb4 hk2 _; have hw2 : Ext w w2 := hk2 _ hw1 (by omega); have c4 := hb4.cell; clear hb3 hk2))
  exact bodyPost_ret (v := .tuple #[vecV 0 0 0, .int .i64 3]) (by simp [results, Tryd.results9, go_sem, c4]) rfl ⟨0, 0, 0, rfl, can0, can0, can0, hw2⟩

set_option maxHeartbeats 8000000 in
theorem vecOf_range (a f : Nat) (lon lat : Int) (high : Nat) (w : World) (h : okG a f = true) (hr : RangeV lat high) :
    Calls Tryd.prog 9 #[globeV a f, placeV lon lat, .float .f64 high] w (VecQ 0 0 0 4 w) := by
  have HG : Hid (∀ w, Calls Tryd.prog 31 #[globeV a f] w (ExR (.int .i64 0) w)) := fun w => by simpa [h] using globeError_c a f w
  have HB := Lib.hid (between_c high cLo cHi)
  clear h
  have hr' : 90000000000 < lat ∨ (lat ≤ 90000000000 ∧ lat < -90000000000) ∨ (lat ≤ 90000000000 ∧ -90000000000 ≤ lat ∧ btw high cLo cHi = false) := hr
  clear hr
  generalize btw high cLo cHi = b at *
  rcases hr' with hr | ⟨h1, h2⟩ | ⟨h1, h2, rfl⟩
  all_goals
    go_enter Tryd.func9, Tryd.ntmps9
    go_wp2_with (first
      | (go_at_call 31; refine (HG.out _).mono ?_; rintro e w1 ⟨rfl, hx1⟩; obtain ⟨hb1, hb2, hb3, hw1⟩ := ext3 hx1)
      | (go_at_call 32; refine (HB.out _).mono ?_; rintro e w2 ⟨rfl, hx2⟩; replace hb2 := hb2.ext hx2; replace hb3 := hb3.ext hx2; have hw2 := hw1.trans hx2; have c2 := hb2.cell)
      | (refine wpList_own rfl 40 _ _ rfl _ _ rfl rfl _ _ hb3 (by kernel_rfl) rfl (by simp [Value.oneCell']) ?_; intro w3 hb4 hk3 _; have hw3 : Ext w w3 := hk3 _ hw2 (by omega); have c4 := hb4.cell; clear hb3 hk3 c2))
    exact bodyPost_ret (v := .tuple #[vecV 0 0 0, .int .i64 4]) (by simp [results, Tryd.results9, go_sem, c4]) rfl ⟨0, 0, 0, rfl, can0, can0, can0, hw3⟩

set_option maxHeartbeats 16000000 in
theorem vecOf_ok (a f : Nat) (lon lat : Int) (high : Nat) (w : World) (h : okG a f = true) (h1 : lat ≤ 90000000000) (h2 : -90000000000 ≤ lat) (h3 : btw high cLo cHi = true) :
    Calls Tryd.prog 9 #[globeV a f, placeV lon lat, .float .f64 high] w
      (VecQ (fmul (vecD a f lat high) (can (cosP lon))) (fmul (vecD a f lat high) (can (sinP lon))) (vecZ a f lat high) 0 w) := by
  have HG : Hid (∀ w, Calls Tryd.prog 31 #[globeV a f] w (ExR (.int .i64 0) w)) := fun w => by simpa [h] using globeError_c a f w
  have HB : Hid (∀ w, Calls Tryd.prog 32 #[.float .f64 high, .float .f64 cLo, .float .f64 cHi] w (ExR (.bool true) w)) := fun w => by rw [← h3]; exact between_c high cLo cHi w
  have tk : Hid True := trivial
  clear h h3
  unfold vecD vecZ
  go_enter Tryd.func9, Tryd.ntmps9
  go_wp2_with (first
    | (go_at_call 31; refine (HG.out _).mono ?_; rintro e w1 ⟨rfl, hx1⟩; obtain ⟨hb1, hb2, hb3, hw1⟩ := ext3 hx1)
    | (go_at_call 32; refine (HB.out _).mono ?_; rintro e w2 ⟨rfl, hx2⟩; replace hb1 := hb1.ext hx2; replace hb2 := hb2.ext hx2; replace hb3 := hb3.ext hx2; have hw2 := hw1.trans hx2; have c1 := hb1.cell; have c2 := hb2.cell)
    | (go_at_call 33; refine (crossOf_c a f lat _).mono ?_; rintro e w3 ⟨rn, rfl, hrn, hx3⟩; clear c1 c2; replace hb1 := hb1.ext hx3; replace hb2 := hb2.ext hx3; replace hb3 := hb3.ext hx3; have hw3 := hw2.trans hx3; have c1 := hb1.cell; have c2 := hb2.cell)
    | (go_at_call 34; clear tk; refine (sincos_c lat _).mono ?_; rintro e w' ⟨rfl, rfl⟩)
    | (go_at_call 34; refine (sincos_c lon _).mono ?_; rintro e w' ⟨rfl, rfl⟩)
    | (go_at_call 35; refine (squareOf_c a f _).mono ?_; rintro e w4 ⟨rs, rfl, hrs, hx4⟩; replace hx4 : Ext w3 w4 := (by first | exact hx4.of_drewN | exact hx4.of_drewN.of_drewN); clear c1 c2; replace hb3 := hb3.ext hx4; have hw4 := hw3.trans hx4)
    | (with_reducible refine upon_fl rfl ?_; intro r n hr)
    | (refine wpList_own rfl 40 _ _ rfl _ _ rfl rfl _ _ (show Blk _ _ _ _ from hb3) (by kernel_rfl) rfl (by simp [Value.oneCell']) ?_; intro w5 hb4 hk5 _; have hw5 : Ext w w5 := hk5 _ (by repeat (first | exact hw4 | refine Ext.drewN ?_ _)) (by omega); have c4 := hb4.cell; clear hb3 hk5))
  refine bodyPost_ret (v := .tuple #[vecV _ _ _, .int .i64 0]) (by simp [results, Tryd.results9, go_sem, c4]; exact ⟨rfl, rfl, rfl⟩) rfl ⟨_, _, _, rfl, ?_, ?_, ?_, hw5⟩
  all_goals simp only [*, fbin]

theorem vecOf_c {a f : Nat} {lon lat : Int} {high x y z : Nat} {k : Int} (h : VecIs a f lon lat high x y z k) (w : World) :
    Calls Tryd.prog 9 #[globeV a f, placeV lon lat, .float .f64 high] w (VecQ x y z k w) := by
  cases h with
  | shape h => exact vecOf_shape a f lon lat high w h
  | range1 h h1 => exact vecOf_range a f lon lat high w h (.inl h1)
  | range2 h h1 h2 => exact vecOf_range a f lon lat high w h (.inr (.inl ⟨h1, h2⟩))
  | range3 h h1 h2 h3 => exact vecOf_range a f lon lat high w h (.inr (.inr ⟨h1, h2, h3⟩))
  | ok h h1 h2 h3 => exact vecOf_ok a f lon lat high w h h1 h2 h3
end Go.Proofs.YtfhpnkmpjijebaaDoor

/- Walks: the place of a vector on a globe, the program's. -/
namespace Go.Proofs.YtfhpnkmpjijebaaDoor
open Go.RowKit Go.Fp Go.Rel
set_option maxRecDepth 20000

abbrev cTop : Nat := 4756540486875873280
abbrev cTwo : Nat := 4611686018427387904
def halfP (a : Nat) : Nat := fdiv (can a) (can cTwo)
def rootP (x y : Nat) : Nat := fsqrt (fadd (fmul (can x) (can x)) (fmul (can y) (can y)))
/-- the latitude at first; a step on; the one after so many steps -/
def firstT (f z P : Nat) : Int := angS (can z) (fmul P (fsub (can cOne) (eccP f)))
def stepT (a f z P : Nat) (t : Int) : Int := angS (fadd (can z) (fmul (fmul (eccP f) (crossP a f t)) (can (sinP t)))) P
def iterT (a f z P : Nat) : Nat → Int
  | 0 => firstT f z P
  | n + 1 => stepT a f z P (iterT a f z P n)
def highFlat (a f P : Nat) (t : Int) : Nat := fsub (fdiv P (can (cosP t))) (crossP a f t)
def highSteep (a f z : Nat) (t : Int) : Nat := fsub (fdiv (can z) (can (sinP t))) (fmul (crossP a f t) (fsub (can cOne) (eccP f)))
def highP (a f z P : Nat) (t : Int) : Nat := if t ≤ 45000000000 ∧ -45000000000 ≤ t then highFlat a f P t else highSteep a f z t

/-- the place of a vector and how high it is, or the error's number -/
inductive PlaceIs (a f x y z : Nat) : Int → Int → Nat → Int → Prop
  | shape (h : okG a f = false) : PlaceIs a f x y z 0 0 0 3
  | range (h : okG a f = true) (h1 : btw (lenP (can x) (can y) (can z)) (halfP a) cTop = false) : PlaceIs a f x y z 0 0 0 4
  | ok (h : okG a f = true) (h1 : btw (lenP (can x) (can y) (can z)) (halfP a) cTop = true) :
    PlaceIs a f x y z (angS (can y) (can x)) (iterT a f z (rootP x y) 8) (highP a f z (rootP x y) (iterT a f z (rootP x y) 8)) 0
def PlaceR (A : Nat → Addr) (lon lat : Int) (H : Nat) (k : Int) (w : World) (e : Ending) (w' : World) : Prop :=
  ∃ h v, e = .returned (.tuple #[placeV lon lat, .float .f64 h, v]) ∧ can h = H ∧ ErrOf A k v ∧ Ext w w'

end Go.Proofs.YtfhpnkmpjijebaaDoor

/- The vector of a place, and its length across, as floats, against what they ought to be. -/
namespace Go.Proofs.YtfhpnkmpjijebaaDoor
open Go.Fp Go.Fp.Tri
set_option maxRecDepth 20000
variable {a f high : Nat}
/-- the radius at a latitude and the height on it: n of it, R in all -/
structure Rad (a f high : Nat) (t m : Int) (n R : Rat) : Prop where
  hN : vl (crossP a f t) = vl a * n
  lo : 99 / 100 ≤ n
  hi : n ≤ 103 / 100
  rel : Wn (n * n * (1 - vl (eccP f) * (sI m * sI m)) - 1) (1 / 100000000000000)
  hR : R = vl a * n + vl high
  R1 : vl a * (98 / 100) ≤ R
  R2 : R ≤ 12000000
  R3 : vl a * n ≤ R * (102 / 100)
theorem rad_some (s : Snd a f high) {t m : Int} {g : Rat} (hs : Sgn t m g) (h0 : 0 ≤ m) (h1 : m ≤ 90000000000) : ∃ n R, Rad a f high t m n R := by
  obtain ⟨_, n, hN, lo, hi, rel⟩ := cross_near s hs h0 h1
  have a1 := s.a1
  have a2 := s.a2
  have k1 := s.h1
  have k2 := s.h2
  have p1 := Rat.mul_le_mul_of_nonneg_left lo (show 0 ≤ vl a by grind)
  have p2 := Rat.mul_le_mul_of_nonneg_left hi (show 0 ≤ vl a by grind)
  exact ⟨n, _, hN, lo, hi, rel, rfl, by grind, by grind, by grind⟩
set_option maxHeartbeats 1000000 in
theorem vecD_near (s : Snd a f high) {t m : Int} {g n R : Rat} (hs : Sgn t m g) (h0 : 0 ≤ m) (h1 : m ≤ 90000000000) (hr : Rad a f high t m n R) :
    Fp.Fin (vecD a f t high) ∧ Wn (vl (vecD a f t high) - R * cI m) (R * (12 / 1000000000000000)) := by
  obtain ⟨fN, _⟩ := cross_near s hs h0 h1
  obtain ⟨_, ⟨fc, ec⟩⟩ := sc_sgn hs h0 h1
  have bc := wn_cI (m := m) (by omega) h1
  have u1 : uu = 1 / 9007199254740992 := uu_eq
  have a1 := s.a1
  have R1 := hr.R1
  have R2 := hr.R2
  have hN := hr.hN
  have hR := hr.hR
  unfold vecD
  rw [s.fh.can, fc.can]
  generalize crossP a f t = N at *
  generalize cosP t = c at *
  have R0 : 900000 ≤ R := by grind
  obtain ⟨f1, e1⟩ := addE fN s.fh R (by rw [hN, ← hR]; constructor <;> grind) (by grind)
  rw [hN, ← hR] at e1
  have bvc : Wn (vl c) (1002 / 1000) := (wn_add ec bc).of (by grind) (by grind)
  have bR : Wn R R := ⟨by grind, by grind⟩
  have b1 : Wn (vl (fadd N high)) (R * (1001 / 1000)) := (wn_add e1 bR).of (by grind) (by rw [u1]; grind)
  generalize fadd N high = D1 at *
  obtain ⟨f2, e2⟩ := mulE f1 fc _ (wn_mul b1 bvc) (by grind)
  refine ⟨f2, ?_⟩
  have d1 := wn_mul e1 bvc
  have d2 := wn_mul bR ec
  exact (wn_add e2 (wn_add d1 d2)).of (by grind) (by rw [u1]; grind)
set_option maxHeartbeats 1000000 in
theorem vecZ_near (s : Snd a f high) {t m : Int} {g n R : Rat} (hs : Sgn t m g) (h0 : 0 ≤ m) (h1 : m ≤ 90000000000) (hr : Rad a f high t m n R) :
    Fp.Fin (vecZ a f t high) ∧ Wn (g * vl (vecZ a f t high) - (R - vl (eccP f) * (vl a * n)) * sI m) (R * (13 / 1000000000000000)) ∧ (g = 1 → 0 ≤ vl (vecZ a f t high)) := by
  obtain ⟨fN, _⟩ := cross_near s hs h0 h1
  obtain ⟨⟨fx, ex⟩, _⟩ := sc_sgn hs h0 h1
  have bs := wn_sI (m := m) (by omega) h1
  obtain ⟨ge, e0, e50⟩ := ecc_ok s
  obtain ⟨fo, eo⟩ := oneE_ok s
  have u1 : uu = 1 / 9007199254740992 := uu_eq
  have a1 := s.a1
  have R1 := hr.R1
  have R2 := hr.R2
  have R3 := hr.R3
  have hN := hr.hN
  have hR := hr.hR
  have lo := hr.lo
  have sp : g = 1 → 0 ≤ vl (sinP t) := by
    rintro rfl
    rcases hs with ⟨rfl, _⟩ | ⟨_, h⟩
    · exact sin_nonneg h0 h1
    · exfalso; grind
  unfold vecZ
  rw [s.fh.can, fx.can]
  generalize crossP a f t = N at *
  generalize sinP t = x at *
  generalize fsub (can cOne) (eccP f) = O at *
  generalize eccP f = E at *
  have R0 : 900000 ≤ R := by grind
  have M0 : 0 ≤ vl a * n := Rat.mul_nonneg (by grind) (by grind)
  generalize vl a * n = M at *
  have bM : Wn M (R * (102 / 100)) := ⟨by grind, R3⟩
  have bgx : Wn (g * vl x) (1002 / 1000) := (wn_add ex bs).of (by grind) (by grind)
  have bx : Wn (vl x) (1002 / 1000) := hs.wn' bgx
  have be : Wn (vl E) (1 / 50) := ⟨by grind, e50⟩
  have b1e : Wn (1 - vl E) 1 := ⟨by grind, by grind⟩
  have bO : Wn (vl O) (10001 / 10000) := (wn_add eo b1e).of (by grind) (by rw [u1]; grind)
  have bNO : Wn (vl N * vl O) (R * (103 / 100)) := by rw [hN]; exact (wn_mul bM bO).mono (by grind)
  obtain ⟨f1, e1⟩ := mulE fN fo _ bNO (by grind)
  rw [hN] at e1
  have d1 := wn_mul bM eo
  have q1 : Wn (vl (fmul N O) - M * (1 - vl E)) (R * (4 * uu)) := (wn_add e1 d1).of (by grind) (by rw [u1]; grind)
  generalize fmul N O = P at *
  obtain ⟨Q, hQ⟩ : ∃ Q, Q = R - vl E * M := ⟨_, rfl⟩
  rw [← hQ]
  have hQ2 : Q = M * (1 - vl E) + vl high := by rw [hQ, hR]; grind
  have bEM := wn_mul be bM
  have eM0 := Rat.mul_nonneg e0 M0
  have Qlo : R * (97 / 100) ≤ Q := by have := bEM.2; grind
  have bQ : Wn Q R := ⟨by grind, by grind⟩
  have bPh : Wn (vl P + vl high) (R * (1001 / 1000)) := (wn_add q1 bQ).of (by grind) (by rw [u1]; grind)
  obtain ⟨f2, e2⟩ := addE f1 s.fh _ bPh (by grind)
  have q2 : Wn (vl (fadd P high) - Q) (R * (6 * uu)) := (wn_add e2 q1).of (by grind) (by rw [u1]; grind)
  have b2 : Wn (vl (fadd P high)) (R * (1001 / 1000)) := (wn_add q2 bQ).of (by grind) (by rw [u1]; grind)
  have p2 : 0 ≤ vl (fadd P high) := by have := q2.1; rw [u1] at this; grind
  generalize fadd P high = T at *
  obtain ⟨f3, e3⟩ := mulE f2 fx _ (wn_mul b2 bx) (by grind)
  refine ⟨f3, ?_, fun hg1 => fmul_nonneg f2 fx _ (wn_mul b2 bx) (big_le' (by grind)) (Rat.mul_nonneg p2 (sp hg1))⟩
  have d2 := hs.wn e3
  have d3 := wn_mul b2 ex
  have d4 := wn_mul q2 bs
  exact (wn_add d2 (wn_add d3 d4)).of (by grind) (by rw [u1]; grind)

end Go.Proofs.YtfhpnkmpjijebaaDoor

/- The longitude comes back. -/
namespace Go.Proofs.YtfhpnkmpjijebaaDoor
open Go.Fp Go.Fp.Tri
set_option maxRecDepth 20000
theorem sin_180 : vl (sinP 180000000000) = 0 := by
  have e : sinP 180000000000 = 9223372036854775808 := by decide +kernel
  have h : D.read 9223372036854775808 = .number true 0 (-1074) := by decide +kernel
  rw [e, vl_of h]
  unfold vd
  simp
/-- apart: by how much -/
def apartP (p q : Int) : Int := signP (normP p - normP q)
end Go.Proofs.YtfhpnkmpjijebaaDoor

/- On the equal-area paper the latitude comes back, and farther north is farther up. -/
namespace Go.Fp.Tri
open Go.Fp Ieee
set_option maxRecDepth 20000

theorem fsqrt_zero {x : Nat} (fx : Fin x) (h : vl x = 0) : Fin (fsqrt x) ∧ vl (fsqrt x) = 0 := by
  obtain ⟨s, m, i, hx⟩ := fx
  rw [vl_of hx, vd_sign, vd_false] at h
  have hp := pw_pos i
  have hm0 : (m : Rat) * pw i = 0 := by
    cases s
    · simpa using h
    · simp only [if_true] at h; grind
  have hm : m = 0 := by
    rcases Nat.eq_zero_or_pos m with h0 | h0
    · exact h0
    · exfalso
      have := Rat.mul_pos (show (0 : Rat) < (m : Rat) by exact_mod_cast h0) hp
      grind
  subst hm
  have e : fsqrt x = D.nearest s 0 i := by
    unfold fsqrt Format.sqrt
    rw [hx]
    unfold Datum.root
    simp [opt]
    rfl
  rw [e]
  refine ⟨(rnd s 0 i 0 ?_ ?_).1, near_zero i s⟩
  · rw [vd_false]; simp
  · exact Rat.le_of_lt (pw_pos _)
/-- what stands for the area below a latitude -/
def upS (E s : Nat) : Nat := if D.order (fsqrt E) 0 = some .eq then fmul wTwo s else qW E (fsqrt E) s
theorem v_nil : Fin 0 ∧ vl 0 = 0 := vl_const (s := false) (m := 0) (k := 1074) (by decide +kernel) (by decide +kernel)
end Go.Fp.Tri
namespace Go.Proofs.YtfhpnkmpjijebaaDoor
open Go.Fp Go.Fp.Tri
set_option maxRecDepth 20000
end Go.Proofs.YtfhpnkmpjijebaaDoor

/- The exponential's polynomial undoes the logarithm's, by reckoning on their coefficients. -/
namespace Go.Fp.Tri
open Go.Fp Ieee
set_option maxRecDepth 20000

/-- a polynomial of a polynomial -/
def pcomp : List Rat → List Rat → List Rat
  | [], _ => []
  | c :: r, q => padd [c] (pmul q (pcomp r q))
/-- the exponential's polynomial -/
def PE : List Rat := [inv 0, inv 1, inv 2, inv 3, inv 4, inv 5, inv 6, inv 7, inv 8, inv 9, inv 10, inv 11, inv 12, inv 13, inv 14]
def PEm : List Rat := [inv 0, -inv 1, inv 2, -inv 3, inv 4, -inv 5, inv 6, -inv 7, inv 8, -inv 9, inv 10, -inv 11, inv 12, -inv 13, inv 14]
/-- half the argument's hyperbolic tangent, over the argument, in the argument's square -/
def PU : List Rat := [604462909807314587353088 / 1208925819614629174706176, -50371909150609548946091 / 1208925819614629174706176, 5037190915060954894609 / 1208925819614629174706176, -509715747357358531002 / 1208925819614629174706176, 51637869830320635494 / 1208925819614629174706176, -5231930799523689021 / 1208925819614629174706176, 530104532565194733 / 1208925819614629174706176, -53710808703282966 / 1208925819614629174706176, 5442042599794500 / 1208925819614629174706176, -551394196377958 / 1208925819614629174706176]
def PT : List Rat := [0, 604462909807314587353088 / 1208925819614629174706176, 0, -50371909150609548946091 / 1208925819614629174706176, 0, 5037190915060954894609 / 1208925819614629174706176, 0, -509715747357358531002 / 1208925819614629174706176, 0, 51637869830320635494 / 1208925819614629174706176, 0, -5231930799523689021 / 1208925819614629174706176, 0, 530104532565194733 / 1208925819614629174706176, 0, -53710808703282966 / 1208925819614629174706176, 0, 5442042599794500 / 1208925819614629174706176, 0, -551394196377958 / 1208925819614629174706176]
def PB : List Rat := [2, 2 / 3, 2 / 5, 2 / 7, 2 / 9, 2 / 11, 2 / 13, 2 / 15, 2 / 17, 2 / 19, 2 / 21, 2 / 23]
def Ex (r : Rat) : Rat := pev PE r
def Th (r : Rat) : Rat := pev PT r
theorem Ex_neg (r : Rat) : Ex (-r) = pev PEm r := by simp only [Ex, PE, PEm, pev]; grind
def RemE : List Rat := padd (pmul PE (padd [1] (pneg PT))) (pneg (padd [1] PT))
def RemN : List Rat := padd (pmul PE PEm) [-1]
theorem remN_bd : pbd RemN (36 / 100) ≤ 1 / 10000000000000000 := by decide +kernel
def PZ : List Rat := 0 :: pmul PU PU
def RemA : List Rat := padd (pmul PU (pcomp PB PZ)) [-1]
def RemL : List Rat := padd (pcomp PE [lam / 2, 1]) (pneg (pscale 2 (pcomp PE [-(lam / 2), 1])))
theorem pe_35 : pbd PE (35 / 100) ≤ 14191 / 10000 := by decide +kernel
theorem pe_one : pbd (padd PE [-1]) (35 / 100) ≤ 42 / 100 := by decide +kernel
def PE2 : List Rat := [inv 2, inv 3, inv 4, inv 5, inv 6, inv 7, inv 8, inv 9, inv 10, inv 11, inv 12, inv 13, inv 14]
theorem Ex_inv {r : Rat} (h : Wn r (36 / 100)) : Wn (Ex r * Ex (-r) - 1) (1 / 10000000000000000) := by
  have hb := (wn_pev RemN h).mono remN_bd
  have e : pev RemN r = Ex r * Ex (-r) - 1 := by
    rw [Ex_neg]
    simp only [RemN, pev_add, pev_mul, Ex]
    simp only [pev]
    grind
  rw [e] at hb; exact hb
theorem Ex_35 {r : Rat} (h : Wn r (35 / 100)) : 7 / 10 ≤ Ex r ∧ Ex r ≤ 142 / 100 := by
  have a := (wn_pev PE h).mono pe_35
  have b := (wn_pev PE (y := -r) (Y := 35 / 100) ⟨by have := h.2; grind, by have := h.1; grind⟩).mono pe_35
  have c := Ex_inv (r := r) (h.mono (by grind))
  have pos : ∀ {r : Rat}, Wn r (35 / 100) → 0 ≤ Ex r := by
    intro r h
    have hb := (wn_pev (padd PE [-1]) h).mono pe_one
    have e : pev (padd PE [-1]) r = Ex r - 1 := by
      simp only [pev_add, Ex]
      simp only [pev]
      grind
    rw [e] at hb
    have := hb.1
    grind
  change Wn (Ex r) _ at a
  change Wn (Ex (-r)) _ at b
  obtain ⟨a1, a2⟩ := a
  obtain ⟨b1, b2⟩ := b
  obtain ⟨c1, c2⟩ := c
  refine ⟨?_, by grind⟩
  rcases Rat.le_total (a := 7 / 10) (b := Ex r) with hh | hh
  · exact hh
  · exfalso
    have p := pos (r := -r) ⟨by have := h.2; grind, by have := h.1; grind⟩
    have t := Rat.mul_le_mul_of_nonneg_right hh p
    generalize Ex r * Ex (-r) = w at *
    grind
end Go.Fp.Tri

/- Walks of package math: IsInf, IsNaN, normalize, Copysign, Inf. -/
namespace Go.Proofs.YtfhpnkmpjijebaaDoor
open Go.RowKit Go.Fp Go.Rel
set_option maxRecDepth 20000

abbrev cMax : Nat := 9218868437227405311
/-- an infinity -/
def infP (x : Nat) : Bool := D.order (absW x) cMax == some .gt
/-- a number made greater, if it is small, and by how many places -/
def normP2 (x : Nat) : Nat × Int := if D.order (absW x) 4503599627370496 = some .lt then (fmul x 4841369599423283200, -52) else (x, 0)
end Go.Proofs.YtfhpnkmpjijebaaDoor
