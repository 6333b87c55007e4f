/- The latitude that is found of an isometric latitude a little off. -/
import Derived.Test.YtfhpnkmpjijebaaDoorZU
namespace Go.Proofs.YtfhpnkmpjijebaaDoor
open Go.Fp Go.Fp.Tri
set_option maxRecDepth 20000
end Go.Proofs.YtfhpnkmpjijebaaDoor

/- The series there and back, as floats. -/
namespace Go.Fp.Tri
open Go.Fp
set_option maxRecDepth 20000
/-- numbers of a regime: how small the third flattening is, how much things grow, how far the series moves; what is left over of each step -/
structure Reg (N Kp q B2 B1 B3 B4 m d1 d2 d3 d4 e M : Rat) : Prop where
  q0 : 0 ≤ q
  e0 : 0 ≤ e
  e9 : e ≤ 1 / 1000000
  q7 : q ≤ 175 / 10000
  tA : tbd N Kp (tnorm tA) + 1 / 1000000 ≤ q
  tR : tbd N Kp tR ≤ m
  b2 : qbd Q2re q q ≤ B2 ∧ qbd Q2im q q ≤ B2
  b1 : qbd Q1re (2 * q) (2 * q) ≤ B1 ∧ qbd Q1im (2 * q) (2 * q) ≤ B1
  b3 : qbd Q0re (3 * q) (3 * q) ≤ B3 ∧ qbd Q0im (3 * q) (3 * q) ≤ B3
  b4 : qbd Q0re (4 * q) (4 * q) ≤ B4 ∧ qbd Q0im (4 * q) (4 * q) ≤ B4
  e1 : nbd N pB1 ≤ d1
  e2 : nbd N pB2 ≤ d2
  e3 : nbd N pB3 ≤ d3
  e4 : nbd N pB4 ≤ d4
  kp : 0 ≤ Kp
  sum : m + d1 * (2 / 100000000 + 2 * Kp * (3 / 2 * B2 + 102 / 100 * e)) + d2 * (6 / 100000000 + 2 * (Kp * Kp) * (3 / 2 * B1 + 3 * e)) + d3 * (2 / 10000000 + 2 * (Kp * Kp * Kp) * (3 / 2 * B3)) + d4 * (6 / 10000000 + 2 * (Kp * Kp * Kp * Kp) * (3 / 2 * B4)) + 3 / 100000000000 ≤ M
end Go.Fp.Tri
namespace Go.Proofs.YtfhpnkmpjijebaaDoor
open Go.Fp Go.Fp.Tri
set_option maxRecDepth 20000
/-- a place of the series forward -/
def aRe (f : Nat) (u : Int) (V R0 : Nat) : Nat → Nat
  | 0 => R0
  | k + 1 => fadd (aRe f u V R0 k) (fmul (rowS tabA cA4 f k) (sinRe (2 * ((k : Int) + 1) * u) (fmul (Fp.can (floatOfInt .f64 (2 * ((k : Int) + 1)))) V)))
def aIm (f : Nat) (u : Int) (V I0 : Nat) : Nat → Nat
  | 0 => I0
  | k + 1 => fadd (aIm f u V I0 k) (fmul (rowS tabA cA4 f k) (sinIm (2 * ((k : Int) + 1) * u) (fmul (Fp.can (floatOfInt .f64 (2 * ((k : Int) + 1)))) V)))
end Go.Proofs.YtfhpnkmpjijebaaDoor

/- The series back, as floats: what is left over. -/
namespace Go.Proofs.YtfhpnkmpjijebaaDoor
open Go.Fp Go.Fp.Tri
set_option maxRecDepth 20000
end Go.Proofs.YtfhpnkmpjijebaaDoor

/- The series forward and back again: where one comes out. -/
namespace Go.Proofs.YtfhpnkmpjijebaaDoor
open Go.Fp Go.Fp.Tri
set_option maxRecDepth 20000
/-- a place of the series back -/
def cRe (f : Nat) (u : Int) (V R0 : Nat) : Nat → Nat
  | 0 => R0
  | k + 1 => fsub (cRe f u V R0 k) (fmul (rowS tabB cB4 f k) (sinRe (2 * ((k : Int) + 1) * u) (fmul (Fp.can (floatOfInt .f64 (2 * ((k : Int) + 1)))) V)))
def cIm (f : Nat) (u : Int) (V I0 : Nat) : Nat → Nat
  | 0 => I0
  | k + 1 => fsub (cIm f u V I0 k) (fmul (rowS tabB cB4 f k) (sinIm (2 * ((k : Int) + 1) * u) (fmul (Fp.can (floatOfInt .f64 (2 * ((k : Int) + 1)))) V)))
end Go.Proofs.YtfhpnkmpjijebaaDoor

/- A place beside the middle meridian: what it grows by; floats divided and made whole. -/
namespace Go.Proofs.YtfhpnkmpjijebaaDoor
open Go.Fp Go.Fp.Tri
set_option maxRecDepth 20000
variable {ψ c s : Nat} {T r : Rat}
/-- the nearest angle of a number -/
theorem near_err {L : Nat} (fL : Fp.Fin L) (bL : Wn (vl L) 5) : Wn (((nearP L : Int) : Rat) * rho - vl L) (9 / 1000000000000) := by
  have u1 : uu = 1 / 9007199254740992 := uu_eq
  have r0 := rho_pos
  have rl := rho_lo
  have rh := rho_hi
  unfold nearP
  rw [show Fp.can cRad = RAD from v_rad.1.can]
  have q : Wn (vl L / rho) 300000000000 := by
    refine wn_quot (c := rho) (c0 := rho) r0 Rat.le_refl ?_
    have e : vl L / rho * rho = vl L := div_mul_c (ne_of_pos r0) rfl
    rw [e]
    exact bL.mono (by grind)
  obtain ⟨f, e⟩ := divE fL v_rad.1 (by rw [v_rad.2]; exact ne_of_pos r0) 300000000000 (by rw [v_rad.2]; exact q) (by grind)
  rw [v_rad.2] at e
  have n := nearV_err f ((wn_add e q).of (by grind) (by rw [u1]; grind))
  have t := wn_mul (wn_add n e) (wn_pos (Rat.le_of_lt r0))
  refine t.of ?_ (by rw [u1]; grind)
  have e2 : vl L / rho * rho = vl L := div_mul_c (ne_of_pos r0) rfl
  generalize vl L / rho = z at *
  grind
end Go.Proofs.YtfhpnkmpjijebaaDoor

/- The geodesic between two places: one round of the search stays within. -/
namespace Go.Proofs.YtfhpnkmpjijebaaDoor
open Go.Fp Go.Fp.Tri
set_option maxRecDepth 20000
theorem v_cPi : Fp.Fin cPi ∧ vl cPi = 7074237752028440 / 2251799813685248 := vl_const (s := false) (m := 7074237752028440) (k := 51) (by decide +kernel) (by decide +kernel)
theorem v_mPi : Fp.Fin mPi ∧ vl mPi = -(7074237752028440 / 2251799813685248) := vl_const (s := true) (m := 7074237752028440) (k := 51) (by decide +kernel) (by decide +kernel)
theorem pi_rho : Wn (180000000000 * rho - 7074237752028440 / 2251799813685248) (1 / 1000000000000000) := by unfold rho; constructor <;> grind
theorem nine_of {X : Rat} (h1 : 148 / 1000000 ≤ 1 - X) (h2 : 98 / 10000 ≤ 1 + X) : 9 / 100000 ≤ 1 - X * X := by
  have e : 1 - X * X = (1 - X) * (1 + X) := by grind
  rw [e]
  rcases Rat.le_total (a := 0) (b := X) with k | k
  · have := mul_mono (show (0 : Rat) ≤ 148 / 1000000 by grind) h1 (show (0 : Rat) ≤ 1 by grind) (show 1 ≤ 1 + X by grind)
    grind
  · have := mul_mono (show (0 : Rat) ≤ 1 by grind) (show 1 ≤ 1 - X by grind) (show (0 : Rat) ≤ 98 / 10000 by grind) h2
    grind
theorem line_at {v : LineV} (e : Ends v) {g : Int} {x : Nat} {j : Int} (w : Within v g (nearP x) j) : LineA v x ∧ LineB v x ∧ (oIv v x : Rat) * rho ≤ 238 / 10 * vl (v.ss x) ∧ 1 / 100 * vl (v.ss x) ≤ (oIv v x : Rat) * rho := by
  obtain ⟨a, b⟩ := within_cs e w (X := CSv v x) rfl
  have A := line_a e.h1 e.h2 x
  have B := line_b e.h1 e.h2 (x := x) (nine_of a b)
  exact ⟨A, B, arc_K A B b⟩
set_option maxHeartbeats 4000000 in
theorem long_plain {g f κ ca s r σ L m cs q R : Rat} (hg : g = 1 ∨ g = -1) (f0 : 0 ≤ f) (f1 : f ≤ 10001 / 1000000) (bκ : Wn κ (26 / 10000)) (bca : Wn ca (1000001 / 1000000)) (bs : Wn s (100000001 / 100000000)) (r0 : 94 / 10000 ≤ r) (r1 : r ≤ 1001 / 1000) (bm : Wn m 3) (bcs : Wn cs (101 / 100))
    (σ1 : σ ≤ 31418 / 10000) (hK : σ ≤ 238 / 10 * r) (hk : 1 / 100 * r ≤ σ) (es : Wn (s * r - q) (3 / 100000000000000)) (q0 : -(32 / 10000000000000) ≤ g * q) (q1 : g * q ≤ 13278 / 10000 * R + 32 / 10000000000000) (R0 : 0 ≤ R)
    (eL : Wn (L - (1 - κ * ca) * f * s * (σ + r * (κ * m + cs * (2 * (κ * m * (κ * m)) - κ * ca * (κ * ca))))) (2 / 100000000000000)) :
    -(1 / 1000000000000) ≤ g * L ∧ g * L ≤ 318 / 1000 * R + 1 / 1000000000000 ∧ Wn L (316 / 10000) := by
  have rp : 0 < r := by grind
  have two : Wn (2 : Rat) 2 := ⟨by grind, Rat.le_refl⟩
  have bq := wn_mul bκ bca
  have bp := wn_mul bκ bm
  have bU : Wn (κ * m + cs * (2 * (κ * m * (κ * m)) - κ * ca * (κ * ca))) (8 / 1000) := (wn_add bp (wn_mul bcs (wn_sub (wn_mul two (wn_mul bp bp)) (wn_mul bq bq)))).mono (by grind)
  generalize κ * m + cs * (2 * (κ * m * (κ * m)) - κ * ca * (κ * ca)) = U at *
  have ba : Wn (1 - κ * ca) (10027 / 10000) := by obtain ⟨_, _⟩ := bq; constructor <;> grind
  have a0 : 0 ≤ 1 - κ * ca := by have := bq.2; grind
  generalize 1 - κ * ca = a at *
  have br : Wn r (1001 / 1000) := ⟨by grind, r1⟩
  have rU := wn_mul br bU
  have rU2 : Wn (r * U) (r * (8 / 1000)) := wn_mul (wn_pos (Rat.le_of_lt rp)) bU
  have bf : Wn f (10001 / 1000000) := ⟨by grind, f1⟩
  obtain ⟨B, hB⟩ : ∃ B, B = σ + r * U := ⟨_, rfl⟩
  rw [← hB] at eL
  have B0 : 0 ≤ B := by have := rU2.1; grind
  have B1 : B ≤ 31499 / 10000 := by have := rU.2; grind
  have B2 : B ≤ 23808 / 1000 * r := by have := rU2.2; grind
  have φ := wn_mul ba bf
  have φ0 := Rat.mul_nonneg a0 f0
  obtain ⟨β, hβ⟩ : ∃ β, β = B / r := ⟨_, rfl⟩
  have hβr : β * r = B := by rw [hβ]; exact Rat.div_mul_cancel (by grind)
  have β0 : 0 ≤ β := by
    rcases Rat.le_total (a := 0) (b := β) with k | k
    · exact k
    · have := Rat.mul_nonneg (show 0 ≤ -β by grind) (Rat.le_of_lt rp)
      by_cases z : β = 0
      · grind
      · have := Rat.mul_pos (show 0 < -β by grind) rp
        grind
  have β1 : β ≤ 23808 / 1000 := by
    refine le_of_scaled rp ?_
    grind
  have e1 : a * f * s * B = a * f * β * (s * r) := by rw [← hβr]; grind
  have w := wn_mul (wn_mul φ bs) (show Wn B (31499 / 10000) from ⟨by grind, B1⟩)
  refine ⟨?_, ?_, (wn_add eL w).of (by grind) (by grind)⟩
  all_goals
    rw [e1] at eL
    have gs : Wn (g * (s * r) - g * q) (3 / 100000000000000) := by rcases hg with rfl | rfl <;> obtain ⟨_, _⟩ := es <;> constructor <;> grind
    have gL : Wn (g * L - a * f * β * (g * (s * r))) (2 / 100000000000000) := by rcases hg with rfl | rfl <;> obtain ⟨_, _⟩ := eL <;> constructor <;> grind
    have ψ0 : 0 ≤ a * f * β := Rat.mul_nonneg φ0 β0
    have ψ1 : a * f * β ≤ 23876 / 100000 := by
      have := mul_mono φ0 φ.2 β0 β1
      grind
    generalize a * f * β = ψ at *
    generalize g * (s * r) = y at *
  · have := Rat.mul_le_mul_of_nonneg_left (show -(325 / 100000000000000) ≤ y by have := gs.1; grind) ψ0
    have := gL.1
    grind
  · have := Rat.mul_le_mul_of_nonneg_left (show y ≤ 13278 / 10000 * R + 325 / 100000000000000 by have := gs.2; grind) ψ0
    have := Rat.mul_le_mul_of_nonneg_right ψ1 (show 0 ≤ 13278 / 10000 * R + 325 / 100000000000000 by grind)
    have := gL.2
    grind
theorem long_at {v : LineV} (e : Ends v) {g : Int} {x : Nat} {j k : Int} (w : Within v g (nearP x) j) (hk : g * nearP x + k = 180000000000) :
    Fp.Fin (LHv v x) ∧ -(1 / 1000000000000) ≤ (g : Rat) * vl (LHv v x) ∧ (g : Rat) * vl (LHv v x) ≤ 318 / 1000 * ((k : Rat) * rho) + 1 / 1000000000000 ∧ Wn (vl (LHv v x)) (316 / 10000) := by
  obtain ⟨A, B, hK, hk2⟩ := line_at e w
  obtain ⟨κ, c⟩ := line_c e.ff e.f0 e.f1 e.h1 e.h2 A B
  have m0 : 0 ≤ g * nearP x := by
    have := w.hm
    have := w.j0
    have := w.a0
    rcases w.dir with rfl | rfl <;> omega
  have k0 : 0 ≤ k := by have := w.top; omega
  obtain ⟨i0, i1⟩ := im_dir w.dir hk m0 k0
  have R0 : 0 ≤ (k : Rat) * rho := Rat.mul_nonneg (cast_nn k0) (Rat.le_of_lt rho_pos)
  have c10 : 103 / 1000 ≤ vl v.cu1 := e.h1.c0
  have c20 : 103 / 1000 ≤ vl v.cu2 := e.h2.c0
  have bc1 : Wn (vl v.cu1) (1001 / 1000) := e.h1.bc
  have bc2 : Wn (vl v.cu2) (1001 / 1000) := e.h2.bc
  have cc : 0 ≤ vl v.cu1 * vl v.cu2 := Rat.mul_nonneg (by grind) (by grind)
  have cc2 := (wn_mul bc1 bc2).2
  have hg : (g : Rat) = 1 ∨ (g : Rat) = -1 := by rcases w.dir with rfl | rfl; exact .inl rfl; exact .inr rfl
  have eq : (g : Rat) * (vl v.cu1 * vl v.cu2 * (cis (nearP x)).im) = vl v.cu1 * vl v.cu2 * ((g : Rat) * (cis (nearP x)).im) := by grind
  refine ⟨c.fH, long_plain hg e.f0 e.f1 c.κ0 ⟨by have := B.ca0; grind, B.ca1⟩ B.bsa B.r0 B.r1 c.bm A.bcs (arc_le B.o0 B.o1).2 hK hk2 B.esa ?_ ?_ R0 c.eH⟩
  · rw [eq]
    have := Rat.mul_le_mul_of_nonneg_left i0 cc
    grind
  · rw [eq]
    have := Rat.mul_le_mul_of_nonneg_left i1 cc
    have := Rat.mul_le_mul_of_nonneg_right cc2 (show 0 ≤ 1325 / 1000 * ((k : Rat) * rho) + 31 / 10000000000000 by grind)
    grind
theorem out_not {x : Nat} (fx : Fp.Fin x) (h : Wn (vl x) (7074237752028440 / 2251799813685248)) : LineV.out x = false := by
  unfold LineV.out
  rw [Bool.or_eq_false_iff]
  constructor
  · cases k : (D.order x cPi == some Ordering.gt) with
    | false => rfl
    | true =>
      have := (order_gt fx v_cPi.1).1 (by simpa using k)
      rw [v_cPi.2] at this
      have := h.2
      grind
  · cases k : (D.order x mPi == some Ordering.lt) with
    | false => rfl
    | true =>
      have := (order_lt fx v_mPi.1).1 (by simpa using k)
      rw [v_mPi.2] at this
      have := h.1
      grind
set_option maxHeartbeats 4000000 in
/-- a longitude's difference that is all and a little more in its direction -/
theorem within_of {v : LineV} {g : Int} (hg : Dir g) (a0 : 0 ≤ g * A0v v) (a1 : g * A0v v < 180000000000) {y : Nat} (fy : Fp.Fin y) {L : Rat} (hy : Wn (vl y - ((A0v v : Rat) * rho + L)) (3 / 1000000000000000)) (L0 : -(1 / 1000000000000) ≤ (g : Rat) * L)
    (L1 : (g : Rat) * L ≤ 318 / 1000 * (((180000000000 - g * A0v v : Int) : Rat) * rho) + 1 / 1000000000000) (L2 : Wn L (316 / 10000)) :
    (∃ j, Within v g (nearP y) j ∧ Wn ((g : Rat) * ((j : Rat) * rho) - L) (91 / 10000000000000)) ∧ LineV.out y = false ∧ Wn ((nearP y : Rat) * rho - vl y) (9 / 1000000000000) := by
  obtain ⟨A, hA⟩ : ∃ A, A = A0v v := ⟨_, rfl⟩
  obtain ⟨k, hk⟩ : ∃ k, k = 180000000000 - g * A := ⟨_, rfl⟩
  rw [← hA] at a0 a1 hy L1
  rw [← hk] at L1
  have p := rho_pos
  have rlo := rho_lo
  have rhi := rho_hi
  have bA : Wn ((A : Rat) * rho) (31418 / 10000) := by
    refine (rho_int (d := A) (B := 180000000000) ?_ ?_).mono (arc_le (o := 180000000000) (by omega) (by omega)).2
    all_goals rcases hg with rfl | rfl <;> omega
  have by1 : Wn (vl y) 5 := (wn_add hy (wn_add bA L2)).of (by grind) (by grind)
  have ne := near_err fy by1
  have kc : (k : Rat) * rho = 180000000000 * rho - (g : Rat) * ((A : Rat) * rho) := by
    rw [hk, Rat.intCast_sub, Rat.intCast_mul]
    have e : ((180000000000 : Int) : Rat) = 180000000000 := rfl
    rw [e]; grind
  have k1 : 1 ≤ k := by omega
  have kr : 1 * rho ≤ (k : Rat) * rho := by
    have := Rat.mul_le_mul_of_nonneg_right (castle k1) (Rat.le_of_lt p)
    have e : ((1 : Int) : Rat) = 1 := rfl
    rw [e] at this; exact this
  have hg2 : (g : Rat) = 1 ∨ (g : Rat) = -1 := by rcases hg with rfl | rfl; exact .inl rfl; exact .inr rfl
  have gg : (g : Rat) * (g : Rat) = 1 := by rcases hg2 with h | h <;> rw [h] <;> grind
  have ga0 : 0 ≤ (g : Rat) * ((A : Rat) * rho) := by
    have h : 0 ≤ ((g * A : Int) : Rat) := cast_nn a0
    rw [Rat.intCast_mul] at h
    have := Rat.mul_nonneg h (Rat.le_of_lt p)
    grind
  -- the whole number beyond all
  obtain ⟨j, hj⟩ : ∃ j, j = g * (nearP y - A) := ⟨_, rfl⟩
  have jc : (j : Rat) * rho = (g : Rat) * ((nearP y : Rat) * rho) - (g : Rat) * ((A : Rat) * rho) := by
    rw [hj, Rat.intCast_mul, Rat.intCast_sub]; grind
  have gw : ∀ z E : Rat, Wn z E → Wn ((g : Rat) * z) E := by
    intro z E h
    rcases hg2 with q | q <;> rw [q] <;> obtain ⟨_, _⟩ := h <;> constructor <;> grind
  have jL : Wn ((j : Rat) * rho - (g : Rat) * L) (91 / 10000000000000) := by
    have := gw _ _ (wn_add ne hy)
    refine this.of ?_ (by grind)
    rw [jc]; grind
  have j0 : 0 ≤ j := by
    rcases Int.lt_or_le j 0 with q | q
    · exfalso
      have := Rat.mul_le_mul_of_nonneg_right (castle (show j ≤ -1 by omega)) (Rat.le_of_lt p)
      have e : ((-1 : Int) : Rat) = -1 := rfl
      rw [e] at this
      have := jL.1
      grind
    · exact q
  have gL2 := (gw _ _ L2).2
  have j1 : j ≤ 1820000000 := by
    rcases Int.lt_or_le 1820000000 j with q | q
    · exfalso
      have := Rat.mul_le_mul_of_nonneg_right (castle (show 1820000000 ≤ j by omega)) (Rat.le_of_lt p)
      have e : ((1820000000 : Int) : Rat) = 1820000000 := rfl
      rw [e] at this
      have := jL.2
      grind
    · exact q
  have hm : nearP y = A + g * j := by rcases hg with rfl | rfl <;> omega
  have top : g * nearP y ≤ 180000000000 := by
    have : j ≤ k := by
      rcases Int.lt_or_le k j with q | q
      · exfalso
        have := Rat.mul_le_mul_of_nonneg_right (castle (show k ≤ j by omega)) (Rat.le_of_lt p)
        have := jL.2
        grind
      · exact q
    rcases hg with rfl | rfl <;> omega
  refine ⟨⟨j, ⟨hg, by rw [← hA]; exact a0, j0, j1, by rw [← hA]; exact hm, top⟩, ?_⟩, ?_, ne⟩
  · have := gw _ _ jL
    refine this.of ?_ Rat.le_refl
    have : (g : Rat) * ((g : Rat) * L) = L := by rw [show (g : Rat) * ((g : Rat) * L) = ((g : Rat) * (g : Rat)) * L by grind, gg]; grind
    grind
  · refine out_not fy ?_
    have pr := pi_rho
    have gy := gw _ _ hy
    have lo : -(7074237752028440 / 2251799813685248) ≤ (g : Rat) * vl y := by have := gy.1; have := pr.1; grind
    have hi : (g : Rat) * vl y ≤ 7074237752028440 / 2251799813685248 := by have := gy.2; have := pr.2; have := pr.1; grind
    have := gw _ _ (show Wn ((g : Rat) * vl y) (7074237752028440 / 2251799813685248) from ⟨lo, hi⟩)
    refine this.of ?_ Rat.le_refl
    rw [show (g : Rat) * ((g : Rat) * vl y) = ((g : Rat) * (g : Rat)) * vl y by grind, gg]; grind
end Go.Proofs.YtfhpnkmpjijebaaDoor
