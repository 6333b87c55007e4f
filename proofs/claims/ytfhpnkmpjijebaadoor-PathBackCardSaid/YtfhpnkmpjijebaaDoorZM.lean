/- Walk: math.Ldexp. -/
import Derived.Test.YtfhpnkmpjijebaaDoorZL
import Derived.IntWalk
namespace Go.Proofs.YtfhpnkmpjijebaaDoor
open Go.RowKit Go.Fp Go.Rel
set_option maxRecDepth 20000

def ldK (x1 : Nat) (e1 k : Int) : Int := wrap64 (wrap64 (k + e1) + wrap64 (bits BinOp.and IntKind.i64 (wrap64 ((x1 : Int) / 4503599627370496)) 2047 - 1023))
def ldW (x1 : Nat) (K : Int) : Nat := (bits BinOp.or IntKind.u64 (bits BinOp.andNot IntKind.u64 (x1 : Int) 9218868437227405312) ((K + 1023) * 4503599627370496)).toNat
def cpW (x : Nat) : Nat := (bits BinOp.or IntKind.u64 (bits BinOp.andNot IntKind.u64 0 9223372036854775808) (bits BinOp.and IntKind.u64 (x : Int) 9223372036854775808)).toNat
/-- a number times a power of two -/
def ldexpP (x : Nat) (k : Int) : Nat :=
  if D.order x 0 = some .eq then x else if infP x = true then x else if isNan x = true then x else
  if ldK (normP2 x).1 (normP2 x).2 k < -1075 then cpW (normP2 x).1
  else if 1023 < ldK (normP2 x).1 (normP2 x).2 k then (if D.order (normP2 x).1 0 = some .lt then 18442240474082181120 else 9218868437227405312)
  else if ldK (normP2 x).1 (normP2 x).2 k < -1022 then fmul (can 4368491638549381120) (can (ldW (normP2 x).1 (ldK (normP2 x).1 (normP2 x).2 k + 53)))
  else fmul (can 4607182418800017408) (can (ldW (normP2 x).1 (ldK (normP2 x).1 (normP2 x).2 k)))

end Go.Proofs.YtfhpnkmpjijebaaDoor

/- The exponential: what it is; its whole number lies within the machine's. -/
namespace Go.Proofs.YtfhpnkmpjijebaaDoor
open Go.RowKit Go.Fp Go.Rel Ieee
set_option maxRecDepth 20000

abbrev c710 : Nat := 4649456441864749056
abbrev m746 : Nat := 13873145138068324352
abbrev cLog : Nat := 4609176140021203710
abbrev cHigh : Nat := 4604418534311723008
abbrev cLow : Nat := 4461442080421002358
def facs : List Nat := [4607182418800017408, 4607182418800017408, 4611686018427387904, 4618441417868443648, 4627448617123184640, 4638144666238189568, 4649544402794971136, 4662263553305083904, 4675774352187195392, 4689977843394805760, 4705047200009289728, 4720626352061939712, 4736815922046566400, 4753323511810883584, 4770521722250067968]
/-- a number's whole part, downwards -/
def floorN (y : Nat) : Nat := intP .down y
def kV (y : Nat) : Int := ((D.read (floorN y)).toInt .zero).getD 0
def expY (x : Nat) : Nat := fadd (fmul x (can cLog)) (can half)
def expR (x : Nat) : Nat := fsub (fsub x (fmul (can (floorN (expY x))) (can cHigh))) (fmul (can (floorN (expY x))) (can cLow))
/-- the polynomial's last terms, from the greatest power on -/
def polyP (r : Nat) : Nat → Nat
  | 0 => fdiv (can 4607182418800017408) (can (facs.getD 14 0))
  | k + 1 => fadd (fdiv (can 4607182418800017408) (can (facs.getD (13 - k) 0))) (fmul r (polyP r k))
def expP (x : Nat) : Nat := if isNan x = true then QN else if D.order x c710 = some .gt then 9218868437227405312 else if D.order x m746 = some .lt then 0
  else can (ldexpP (polyP (expR x) 14) (kV (expY x)))

end Go.Proofs.YtfhpnkmpjijebaaDoor

/- Walk: math.Frexp of a number above nought. -/
namespace Go.Proofs.YtfhpnkmpjijebaaDoor
open Go.RowKit Go.Fp Go.Rel Ieee
set_option maxRecDepth 20000

def FxR (m : Nat) (i : Int) (w : World) (e : Ending) (w' : World) : Prop := ∃ r, e = .returned (.tuple #[.float .f64 r, .int .i64 (i + (m.log2 : Int) + 1)]) ∧ D.read r = D.read (W m (-(m.log2 : Int) - 1)) ∧ Ext w w'

theorem inf_no {x m : Nat} {i : Int} (h : D.read x = .number false m i) : infP x = false := by
  unfold infP
  have hc : D.read cMax = .number false (2 ^ 53 - 1) 971 := by decide +kernel
  obtain ⟨h1, h2, h3⟩ := read_fields h
  rw [beq_eq_false_iff_ne, order_sv (abs_rd h) hc h2 (by decide), Ne, Option.some.injEq, compare_gt, signed_eq, signed_eq]
  simp only [sg, Bool.false_eq_true, if_false, Int.one_mul, ← Int.natCast_mul]
  have e : 2 ^ (i + 1074).toNat ≤ 2 ^ ((971 : Int) + 1074).toNat := Nat.pow_le_pow_right (by decide) (by omega)
  have h4 : m * 2 ^ (i + 1074).toNat ≤ (2 ^ 53 - 1) * 2 ^ ((971 : Int) + 1074).toNat := Nat.mul_le_mul (by omega) e
  omega

end Go.Proofs.YtfhpnkmpjijebaaDoor

/- A number times a power of two, by its bits: what number that is. -/
namespace Go.Fp
open Ieee RowKit
set_option maxRecDepth 20000

theorem wrap64_mod (v : Int) : wrap64 v % 18446744073709551616 = v % 18446744073709551616 := by
  unfold wrap64
  omega
theorem or_exp (y e : Nat) (h : y < 2 ^ 52) (he : e < 2047) : bits .or .u64 (y : Int) ((e : Int) * 4503599627370496) = ((e * 2 ^ 52 + y : Nat) : Int) := by
  have hp : ((2 ^ 52 : Nat) : Int) = 4503599627370496 := by decide
  have h0 : (e : Int) * (4503599627370496 : Int) = ((e <<< 52 : Nat) : Int) := by rw [Nat.shiftLeft_eq, Int.natCast_mul, hp]
  rw [h0]
  show IntKind.u64.wrap ((BitVec.ofInt 64 (y : Int) ||| BitVec.ofInt 64 ((e <<< 52 : Nat) : Int) : BitVec 64).toNat : Int) = _
  have hs : e <<< 52 = e * 4503599627370496 := by rw [Nat.shiftLeft_eq]
  have h1 : (BitVec.ofInt 64 (y : Int) ||| BitVec.ofInt 64 ((e <<< 52 : Nat) : Int) : BitVec 64).toNat = e * 2 ^ 52 + y := by
    rw [BitVec.toNat_or, BitVec.ofInt_natCast, BitVec.toNat_ofNat, BitVec.ofInt_natCast, BitVec.toNat_ofNat]
    have h2 : (e <<< 52) % 2 ^ 64 = e <<< 52 := by omega
    have h3 : y % 2 ^ 64 = y := by omega
    rw [h2, h3, Nat.or_comm, ← Nat.shiftLeft_add_eq_or_of_lt h, Nat.shiftLeft_eq]
  rw [h1, IntKind.wrap_u64]
  omega
theorem and_exp_i (y : Nat) : bits .and .i64 (wrap64 (y : Int)) 2047 = ((y % 2048 : Nat) : Int) := by
  show IntKind.i64.wrap ((BitVec.ofInt 64 (wrap64 (y : Int)) &&& BitVec.ofInt 64 2047 : BitVec 64).toNat : Int) = _
  have h1 : (BitVec.ofInt 64 (wrap64 (y : Int)) &&& BitVec.ofInt 64 2047 : BitVec 64).toNat = y % 2048 := by
    have h0 : BitVec.ofInt 64 (wrap64 (y : Int)) = BitVec.ofInt 64 (y : Int) := by
      apply BitVec.eq_of_toNat_eq
      rw [BitVec.toNat_ofInt, BitVec.toNat_ofInt]
      have hp : ((2 ^ 64 : Nat) : Int) = 18446744073709551616 := by decide
      rw [hp]
      have hw : wrap64 (y : Int) % 18446744073709551616 = (y : Int) % 18446744073709551616 := wrap64_mod _
      rw [hw]
    rw [h0, BitVec.toNat_and, BitVec.ofInt_natCast, BitVec.toNat_ofNat]
    have h2 : (BitVec.ofInt 64 2047 : BitVec 64).toNat = 2 ^ 11 - 1 := by decide
    rw [h2, Nat.and_two_pow_sub_one_eq_mod]
    omega
  rw [h1]
  exact IntWalk.i64_in _ (by omega)
end Go.Fp
namespace Go.Proofs.YtfhpnkmpjijebaaDoor
open Go.RowKit Go.Fp Go.Fp.Tri Ieee
set_option maxRecDepth 20000
theorem ldexp_word {x m : Nat} {i k : Int} (h : D.read x = .number false m i) (hm : 2 ^ 52 ≤ m) (hi : -300 ≤ i) (hi2 : i ≤ 200) (hk : -200 ≤ k) (hk2 : k ≤ 200) :
    ldexpP x k = fmul (can 4607182418800017408) (can (ldW x (k + i + 52))) ∧ D.read (ldW x (k + i + 52)) = .number false m (i + k) := by
  obtain ⟨h1, h2, h3⟩ := read_norm h hm
  have e : normP2 x = (x, 0) := if_neg (big_abs h hm)
  have fx : Fp.Fin x := ⟨_, _, _, h⟩
  have hv : 0 < vl x := by
    rw [vl_of h, vd_false]
    exact Rat.mul_pos (by exact_mod_cast (show 0 < m by omega)) (pw_pos _)
  have hz : ¬ D.order x 0 = some .eq := by
    rw [order_eq fx v_nil.1, v_nil.2]; grind
  have hK : ldK x 0 k = k + i + 52 := by
    unfold ldK
    have c : ((x : Int) / 4503599627370496) = ((x / 2 ^ 52 : Nat) : Int) := (Int.natCast_ediv x 4503599627370496).symm
    rw [c, and_exp_i, h3, Int.add_zero, IntWalk.wrap64_in k (by omega), IntWalk.wrap64_in (i + 1075 - 1023) (by omega), IntWalk.wrap64_in _ (by omega)]
    omega
  have hn : isNan x = false := by unfold isNan; rw [h]; rfl
  refine ⟨?_, ?_⟩
  · unfold ldexpP
    rw [if_neg hz, inf_no h, hn]
    simp only [Bool.false_eq_true, if_false]
    rw [e, hK, if_neg (by omega), if_neg (by omega), if_neg (by omega)]
  · unfold ldW
    have hlt : x % 2 ^ 52 < 2 ^ 52 := Nat.mod_lt _ (by decide)
    obtain ⟨q, hq⟩ : ∃ q : Nat, (q : Int) = k + i + 52 + 1023 := ⟨(k + i + 52 + 1023).toNat, by omega⟩
    rw [andNot_exp x h1, ← hq, or_exp _ q hlt (by omega), Int.toNat_natCast]
    have e0 : (q * 2 ^ 52 + x % 2 ^ 52) = D.word false (q * 2 ^ 52 + x % 2 ^ 52) := rfl
    rw [e0, read_word2 false (by omega), if_neg (by omega)]
    have e1 : (q * 2 ^ 52 + x % 2 ^ 52) % 2 ^ 52 = x % 2 ^ 52 := by omega
    have e2 : (q * 2 ^ 52 + x % 2 ^ 52) / 2 ^ 52 = q := by omega
    rw [e1, e2, ← h2]
    congr 1
    omega
theorem ldexp_near {x : Nat} {k : Int} (fx : Fp.Fin x) (h1 : 1 / 2 ≤ vl x) (h2 : vl x ≤ 2) (hk : -20 ≤ k) (hk2 : k ≤ 20) :
    Fp.Fin (ldexpP x k) ∧ Wn (vl (ldexpP x k) - vl x * pw k) (2 * uu * (vl x * pw k)) := by
  obtain ⟨m, i, hr, hm, hi, hi2⟩ := norm_form fx h1 h2
  obtain ⟨e1, e2⟩ := ldexp_word hr hm (by omega) (by omega) (k := k) (by omega) (by omega)
  have fW : Fp.Fin (ldW x (k + i + 52)) := ⟨_, _, _, e2⟩
  have vW : vl (ldW x (k + i + 52)) = vl x * pw k := by
    rw [vl_of e2, vl_of hr, vd_false, vd_false, pw_add]; grind
  rw [e1, fW.can, v_one.1.can]
  have p0 : 0 < vl x * pw k := Rat.mul_pos (by grind) (pw_pos k)
  have plo : pw (-20) ≤ pw k := pw_mono hk
  have phi : pw k ≤ pw 20 := pw_mono hk2
  have e20 : pw 20 = 1048576 := by have := pw_nat 20; exact this
  have em20 : pw (-20) * 1048576 = 1 := by
    have h := pw_add (-20) 20
    rw [show (-20 + 20 : Int) = 0 by decide, pw_zero, e20] at h
    exact h.symm
  have a1 := Rat.mul_le_mul_of_nonneg_left plo (show 0 ≤ vl x by grind)
  have a2 := Rat.mul_le_mul_of_nonneg_left phi (show 0 ≤ vl x by grind)
  have es := eta_small
  have u1 : uu = 1 / 9007199254740992 := uu_eq
  obtain ⟨f, er⟩ := fmul_err v_one.1 fW (vl x * pw k) (by rw [v_one.2, vW]; constructor <;> grind) (big_le' (by rw [e20] at a2; grind))
  refine ⟨f, ?_⟩
  rw [v_one.2, vW] at er
  have lo : 1 / 4194304 ≤ vl x * pw k := by
    generalize pw (-20) = z at *
    generalize vl x * pw k = w at *
    have := Rat.mul_le_mul_of_nonneg_right h1 (show 0 ≤ z by grind)
    clear er p0 phi
    grind
  generalize vl x * pw k = w at *
  refine er.of (by grind) ?_
  clear er a1 a2 plo phi em20 e20
  rw [u1] at es ⊢
  grind
end Go.Proofs.YtfhpnkmpjijebaaDoor

/- The exponential as a float: how near it is to its polynomial times a power of two. -/
namespace Go.Proofs.YtfhpnkmpjijebaaDoor
open Go.RowKit Go.Fp Go.Fp.Tri Ieee
set_option maxRecDepth 20000

theorem isI_vl {x : Nat} {V : Int} (h : IsI x V) : Fp.Fin x ∧ vl x = (V : Rat) := by
  obtain ⟨s, m, i, hr, hi, hs⟩ := h
  refine ⟨⟨_, _, _, hr⟩, ?_⟩
  have hp : pw (-((1074 : Nat) : Int)) * ((2 ^ 1074 : Nat) : Rat) = 1 := pw_inv 1074
  have hq : ((-1074 : Int)) = -((1074 : Nat) : Int) := rfl
  rw [vl_of hr, ← signed_vd s m i (-1074) hi, show i - (-1074) = i + 1074 by omega, hs, hq]
  generalize pw (-((1074 : Nat) : Int)) = z at *
  generalize (2 : Nat) ^ 1074 = Z at *
  clear hs
  push_cast
  grind
theorem cut_dn (s : Bool) (m : Nat) (i : Int) : (s = false → ((Toward.down.cut s (m <<< i.toNat) (-i).toNat : Nat) : Rat) ≤ (m : Rat) * pw i ∧ (m : Rat) * pw i < ((Toward.down.cut s (m <<< i.toNat) (-i).toNat : Nat) : Rat) + 1) ∧
    (s = true → ((Toward.down.cut s (m <<< i.toNat) (-i).toNat : Nat) : Rat) - 1 < (m : Rat) * pw i ∧ (m : Rat) * pw i ≤ ((Toward.down.cut s (m <<< i.toNat) (-i).toNat : Nat) : Rat)) := by
  rw [cut_down]
  obtain ⟨k, hk⟩ : ∃ k, k = (-i).toNat := ⟨_, rfl⟩
  rw [← hk]
  have e : ((m <<< i.toNat : Nat) : Rat) = (m : Rat) * pw i * pw k := by
    rw [Nat.shiftLeft_eq, Rat.natCast_mul, ← pw_nat]
    have : pw (i.toNat : Int) = pw i * pw k := by rw [← pw_add]; congr 1; omega
    rw [this]
    generalize pw i = a
    generalize pw (k : Int) = b
    grind
  have hp := pw_pos (k : Int)
  rw [pw_nat] at e hp
  have dm := Nat.div_add_mod (m <<< i.toNat) (2 ^ k)
  have lt := Nat.mod_lt (m <<< i.toNat) (show 2 ^ k > 0 from Nat.two_pow_pos k)
  generalize m <<< i.toNat = n at *
  generalize 2 ^ k = P at *
  generalize n / P = q at *
  generalize n % P = r at *
  generalize (m : Rat) * pw i = v at *
  have dm' : (P : Rat) * (q : Rat) + (r : Rat) = v * (P : Rat) := by
    rw [← e, ← dm]; push_cast; rfl
  have lt' : (r : Rat) < (P : Rat) := by exact_mod_cast lt
  have r0 : (0 : Rat) ≤ (r : Rat) := by exact_mod_cast Nat.zero_le r
  generalize (P : Rat) = p at *
  have low : (q : Rat) ≤ v := by
    rcases Rat.le_total (a := (q : Rat)) (b := v) with hh | hh
    · exact hh
    · have := Rat.mul_le_mul_of_nonneg_right hh (Rat.le_of_lt hp)
      have e0 : v * p = (q : Rat) * p := by grind
      have : (v - (q : Rat)) * p = 0 := by grind
      rcases Rat.mul_eq_zero.1 this with h | h <;> grind
  have up : v < (q : Rat) + 1 := by
    rcases Rat.le_total (a := (q : Rat) + 1) (b := v) with hh | hh
    · exfalso
      have := Rat.mul_le_mul_of_nonneg_right hh (Rat.le_of_lt hp)
      grind
    · rcases rat_lt_or_eq hh with h | h
      · exact h
      · exfalso
        rw [h] at dm'
        grind
  constructor
  · rintro rfl
    rw [if_neg (by simp)]
    rw [Nat.add_zero]
    exact ⟨low, up⟩
  · rintro rfl
    by_cases hr : r = 0
    · rw [if_neg (by simp [hr]), Nat.add_zero]
      subst hr
      have e0 : (v - (q : Rat)) * p = 0 := by
        have : ((0 : Nat) : Rat) = 0 := rfl
        rw [this] at dm'
        grind
      rcases Rat.mul_eq_zero.1 e0 with h | h <;> constructor <;> grind
    · rw [if_pos ⟨rfl, hr⟩]
      have e1 : ((q + 1 : Nat) : Rat) = (q : Rat) + 1 := by push_cast; rfl
      rw [e1]
      refine ⟨?_, by grind⟩
      have r1 : (0 : Rat) < (r : Rat) := by exact_mod_cast Nat.pos_of_ne_zero hr
      rcases rat_lt_or_eq low with h | h
      · grind
      · exfalso
        rw [← h] at dm'
        grind
theorem floor_vl {Y : Nat} (fY : Fp.Fin Y) : Fp.Fin (floorN Y) ∧ vl (floorN Y) = ((kV Y : Int) : Rat) ∧ ((kV Y : Int) : Rat) ≤ vl Y ∧ vl Y < ((kV Y : Int) : Rat) + 1 := by
  obtain ⟨s, m, i, hr⟩ := fY
  have hn : isNan Y = false := by unfold isNan; rw [hr]; rfl
  have hI := isI_int (way := .down) (.inr rfl) hr
  have hf : floorN Y = D.write ((D.read Y).integral .down) := by unfold floorN intP; rw [if_neg (by rw [hn]; simp)]
  rw [← hf] at hI
  obtain ⟨g1, g2⟩ := isI_vl hI
  have hk : kV Y = signed s (Toward.down.cut s (m <<< i.toNat) (-i).toNat) 0 := by
    unfold kV
    rw [hI.toInt]; rfl
  rw [hk, vl_of hr]
  refine ⟨g1, g2, ?_⟩
  obtain ⟨c1, c2⟩ := cut_dn s m i
  have e : vd s m i = ((sg s : Int) : Rat) * ((m : Rat) * pw i) := by unfold vd; generalize pw i = z; grind
  rw [e, signed0]
  generalize Toward.down.cut s (m <<< i.toNat) (-i).toNat = C at *
  generalize (m : Rat) * pw i = v at *
  cases s
  · obtain ⟨a, b⟩ := c1 rfl
    have e2 : ((sg false : Int) : Rat) = 1 := rfl
    have e3 : ((sg false * (C : Int) : Int) : Rat) = (C : Rat) := by
      show ((1 * (C : Int) : Int) : Rat) = _
      rw [Int.one_mul]; rfl
    rw [e2, e3]
    constructor <;> grind
  · obtain ⟨a, b⟩ := c2 rfl
    have e2 : ((sg true : Int) : Rat) = -1 := rfl
    have e3 : ((sg true * (C : Int) : Int) : Rat) = -(C : Rat) := by
      show ((-1 * (C : Int) : Int) : Rat) = _
      push_cast; grind
    rw [e2, e3]
    constructor <;> grind
theorem v_log : Fp.Fin cLog ∧ vl cLog = 6497320848556798 / 4503599627370496 := vl_const (s := false) (m := 6497320848556798) (k := 52) (by decide +kernel) (by decide +kernel)
theorem v_eh : Fp.Fin cHigh ∧ vl cHigh = 2977044471 / 4294967296 := vl_const (s := false) (m := 6243314766446592) (k := 53) (by decide +kernel) (by decide +kernel)
theorem v_el : Fp.Fin cLow ∧ vl cLow = 3691024475790907 / 19342813113834066795298816 := vl_const (s := false) (m := 7382048951581814) (k := 85) (by decide +kernel) (by decide +kernel)
theorem v_hf : Fp.Fin half ∧ vl half = 1 / 2 := vl_const (s := false) (m := 4503599627370496) (k := 53) (by decide +kernel) (by decide +kernel)
theorem v_710 : Fp.Fin c710 ∧ vl c710 = 710 := vl_const (s := false) (m := 6245226045767680) (k := 43) (by decide +kernel) (by decide +kernel)
theorem v_746 : Fp.Fin m746 ∧ vl m746 = -746 := vl_const (s := true) (m := 6561885394567168) (k := 43) (by decide +kernel) (by decide +kernel)
theorem log_lam : -(1 / 1000000000000000) ≤ (6497320848556798 / 4503599627370496 : Rat) * lam - 1 ∧ (6497320848556798 / 4503599627370496 : Rat) * lam - 1 ≤ 1 / 1000000000000000 := by decide +kernel
set_option maxHeartbeats 1000000 in
theorem expR_near {y : Nat} (fy : Fp.Fin y) (by1 : Wn (vl y) 5) : ∃ k : Int, kV (expY y) = k ∧ -8 ≤ k ∧ k ≤ 8 ∧ Fp.Fin (expR y) ∧ Wn (vl (expR y) - (vl y - (k : Rat) * lam)) (50 * uu) ∧ Wn (vl (expR y)) (347 / 1000) := by
  have u1 : uu = 1 / 9007199254740992 := uu_eq
  obtain ⟨l1, l2⟩ := lam_bd
  have ll := log_lam
  unfold expR
  have bL : Wn (vl cLog) (1443 / 1000) := by rw [v_log.2]; constructor <;> grind
  obtain ⟨f1, e1⟩ := mulE fy v_log.1 _ (wn_mul by1 bL) (by grind)
  have b1 := wn_add e1 (wn_mul by1 bL)
  have b1' : Wn (vl (fmul y cLog)) (722 / 100) := b1.of (by grind) (by rw [u1]; grind)
  obtain ⟨f2, e2⟩ := addE f1 v_hf.1 (773 / 100) (by rw [v_hf.2]; obtain ⟨_, _⟩ := b1'; constructor <;> grind) (by grind)
  rw [v_hf.2] at e2
  have hY : expY y = fadd (fmul y cLog) half := by unfold expY; rw [v_log.1.can, v_hf.1.can]
  rw [hY]
  have eY : Wn (vl (fadd (fmul y cLog) half) - (vl y * vl cLog + 1 / 2)) (18 * uu) := (wn_add e2 e1).of (by grind) (by rw [u1]; grind)
  obtain ⟨g1, g2, g3, g4⟩ := floor_vl f2
  generalize fadd (fmul y cLog) half = Y at *
  generalize kV Y = K at *
  rw [g1.can, v_eh.1.can, v_el.1.can]
  rw [v_log.2] at eY
  have yL : Wn (vl y * (6497320848556798 / 4503599627370496)) (722 / 100) := by
    have := wn_mul by1 bL
    rw [v_log.2] at this
    exact this.mono (by grind)
  obtain ⟨d1, d2⟩ := eY
  have K1 : -8 ≤ K := by
    have := whole_le (d := -8) (k := K) (x := vl Y) (by have := yL.1; have e : ((-8 : Int) : Rat) = -8 := rfl; rw [e]; rw [u1] at d1; grind) g4
    exact this
  have K2 : K ≤ 8 := by
    have := whole_le (d := K) (k := 8) (x := vl Y) g3 (by have := yL.2; have e : ((8 : Int) : Rat) = 8 := rfl; rw [e]; rw [u1] at d2; grind)
    exact this
  refine ⟨K, rfl, K1, K2, ?_⟩
  have bK : Wn ((K : Int) : Rat) 8 := ⟨castle (a := -8) K1, castle (b := 8) K2⟩
  have ex : Wn (vl y - (K : Rat) * lam) (3468 / 10000) := by
    have h1 : Wn (vl y * (6497320848556798 / 4503599627370496) - (K : Rat)) (1 / 2 + 18 * uu) := by constructor <;> grind
    have h2 := wn_mul h1 (show Wn lam (6932 / 10000) by unfold lam; constructor <;> grind)
    have h3 := wn_mul by1 (show Wn ((6497320848556798 / 4503599627370496 : Rat) * lam - 1) (1 / 1000000000000000) from ll)
    exact (wn_sub h2 h3).of (by grind) (by rw [u1]; grind)
  clear d1 d2 g3 g4 yL b1 b1' e1 e2 hY ll
  generalize floorN Y = F at *
  have bF : Wn (vl F) 8 := by rw [g2]; exact bK
  have bh : Wn (vl cHigh) (694 / 1000) := by rw [v_eh.2]; constructor <;> grind
  have bl : Wn (vl cLow) (1 / 1000000) := by rw [v_el.2]; constructor <;> grind
  have hl : vl cHigh + vl cLow = lam := by rw [v_eh.2, v_el.2]; rfl
  obtain ⟨p1, q1⟩ := mulE g1 v_eh.1 _ (wn_mul bF bh) (by grind)
  have c1 : Wn (vl (fmul F cHigh)) 6 := (wn_add q1 (wn_mul bF bh)).of (by grind) (by rw [u1]; grind)
  obtain ⟨p2, q2⟩ := subE fy p1 _ (wn_sub by1 c1) (by grind)
  have c2 : Wn (vl (fsub y (fmul F cHigh))) 12 := (wn_add q2 (wn_sub by1 c1)).of (by grind) (by rw [u1]; grind)
  obtain ⟨p3, q3⟩ := mulE g1 v_el.1 _ (wn_mul bF bl) (by grind)
  have c3 : Wn (vl (fmul F cLow)) 1 := (wn_add q3 (wn_mul bF bl)).of (by grind) (by rw [u1]; grind)
  obtain ⟨p4, q4⟩ := subE p2 p3 _ (wn_sub c2 c3) (by grind)
  have er : Wn (vl (fsub (fsub y (fmul F cHigh)) (fmul F cLow)) - (vl y - (K : Rat) * lam)) (50 * uu) := by
    rw [g2] at q1 q3
    rw [← hl]
    exact (wn_sub (wn_sub (wn_add q4 q2) q1) q3).of (by grind) (by rw [u1]; grind)
  exact ⟨p4, er, (wn_add er ex).of (by grind) (by rw [u1]; grind)⟩
theorem facs_eq : (List.range 15).all (fun n => facs.getD n 0 == floatOfInt .f64 ((fact n : Nat) : Int) && decide (1 ≤ fact n) && decide (fact n < 2 ^ 53)) = true := by decide +kernel
theorem fac_vl {n : Nat} (h : n ≤ 14) : Fp.Fin (facs.getD n 0) ∧ vl (facs.getD n 0) = ((fact n : Nat) : Rat) ∧ (1 : Rat) ≤ ((fact n : Nat) : Rat) := by
  have hh := List.all_eq_true.1 facs_eq n (List.mem_range.2 (by omega))
  simp only [Bool.and_eq_true, beq_iff_eq, decide_eq_true_eq] at hh
  obtain ⟨⟨h1, h2⟩, h3⟩ := hh
  obtain ⟨f, v⟩ := vl_int ((fact n : Nat) : Int) (by rw [Int.natAbs_natCast]; exact h3)
  rw [h1]
  exact ⟨f, v, by exact_mod_cast h2⟩
def Ek (z : Rat) : Nat → Rat
  | 0 => inv 14
  | k + 1 => inv (13 - k) + z * Ek z k
theorem Ek_14 (z : Rat) : Ek z 14 = Ex z := by
  simp only [Ek, Ex, PE, pev, Nat.reduceSub, Nat.sub_zero]
  grind
theorem inv_bd {n : Nat} (h : n ≤ 14) : 0 ≤ inv n ∧ inv n ≤ 1 := by
  obtain ⟨_, _, h1⟩ := fac_vl h
  unfold inv
  have h0 : (0 : Rat) < ((fact n : Nat) : Rat) := by grind
  have c : 1 / ((fact n : Nat) : Rat) * ((fact n : Nat) : Rat) = 1 := div_mul_c (ne_of_pos h0) rfl
  generalize ((fact n : Nat) : Rat) = x at *
  generalize 1 / x = y at *
  constructor
  · rcases Rat.le_total (a := 0) (b := y) with hh | hh
    · exact hh
    · have := Rat.mul_le_mul_of_nonneg_right hh (Rat.le_of_lt h0); grind
  · rcases Rat.le_total (a := y) (b := 1) with hh | hh
    · exact hh
    · have := Rat.mul_le_mul_of_nonneg_right hh (Rat.le_of_lt h0)
      have := Rat.mul_le_mul_of_nonneg_left h1 (show 0 ≤ y by grind)
      grind
theorem Ek_bd {z : Rat} (hz : Wn z (35 / 100)) : ∀ k, k ≤ 14 → Wn (Ek z k) 2
  | 0, _ => by obtain ⟨a, b⟩ := inv_bd (n := 14) (by omega); unfold Ek; constructor <;> grind
  | k + 1, h => by
    have i := Ek_bd hz k (by omega)
    obtain ⟨a, b⟩ := inv_bd (n := 13 - k) (by omega)
    unfold Ek
    have t := wn_mul hz i
    obtain ⟨_, _⟩ := t
    constructor <;> grind
theorem poly_near {z : Nat} (fz : Fp.Fin z) (bz : Wn (vl z) (35 / 100)) : ∀ k, k ≤ 14 → Fp.Fin (polyP z k) ∧ Wn (vl (polyP z k) - Ek (vl z) k) (14 * uu)
  | 0, _ => by
    have u1 : uu = 1 / 9007199254740992 := uu_eq
    obtain ⟨f, v, o⟩ := fac_vl (n := 14) (by omega)
    obtain ⟨a, b⟩ := inv_bd (n := 14) (by omega)
    unfold polyP Ek
    rw [v_one.1.can, f.can]
    obtain ⟨f1, e1⟩ := divE v_one.1 f (by rw [v]; grind) 1 (by rw [v_one.2, v]; exact ⟨by unfold inv at a; grind, by unfold inv at b; grind⟩) (by grind)
    rw [v_one.2, v] at e1
    exact ⟨f1, e1.of (by unfold inv; rfl) (by rw [u1]; grind)⟩
  | k + 1, h => by
    have u1 : uu = 1 / 9007199254740992 := uu_eq
    obtain ⟨i1, i2⟩ := poly_near fz bz k (by omega)
    have lb := Ek_bd bz k (by omega)
    obtain ⟨f, v, o⟩ := fac_vl (n := 13 - k) (by omega)
    obtain ⟨a, b⟩ := inv_bd (n := 13 - k) (by omega)
    unfold polyP Ek
    rw [v_one.1.can, f.can]
    obtain ⟨f1, e1⟩ := divE v_one.1 f (by rw [v]; grind) 1 (by rw [v_one.2, v]; exact ⟨by unfold inv at a; grind, by unfold inv at b; grind⟩) (by grind)
    have e1' : Wn (vl (fdiv Fp.cOne (facs.getD (13 - k) 0)) - inv (13 - k)) (3 * uu) := by
      rw [v_one.2, v] at e1
      exact e1.of (by unfold inv; rfl) (by rw [u1]; grind)
    generalize fdiv Fp.cOne (facs.getD (13 - k) 0) = g at *
    generalize inv (13 - k) = c at *
    have bl : Wn (vl (polyP z k)) (201 / 100) := (wn_add i2 lb).of (by grind) (by rw [u1]; grind)
    obtain ⟨f2, e2⟩ := mulE fz i1 _ (wn_mul bz bl) (by grind)
    have b2 : Wn (vl (fmul z (polyP z k))) (71 / 100) := (wn_add e2 (wn_mul bz bl)).of (by grind) (by rw [u1]; grind)
    have b1 : Wn (vl g) (101 / 100) := (wn_add e1' (show Wn c 1 from ⟨by grind, b⟩)).of (by grind) (by rw [u1]; grind)
    obtain ⟨f3, e3⟩ := addE f1 f2 _ (wn_add b1 b2) (by grind)
    refine ⟨f3, ?_⟩
    have h2 := wn_mul bz i2
    exact (wn_add (wn_add e3 e1') (wn_add e2 h2)).of (by grind) (by rw [u1]; grind)
/-- the exponential of a number that is not great -/
theorem exp_near {y : Nat} (fy : Fp.Fin y) (by1 : Wn (vl y) 5) : ∃ (k : Int) (r q : Rat), Fp.Fin (expP y) ∧ vl (expP y) = q * pw k ∧ Wn (q - Ex r) (20 * uu) ∧ Wn r (347 / 1000) ∧ Wn (r - (vl y - (k : Rat) * lam)) (50 * uu) ∧ -8 ≤ k ∧ k ≤ 8 := by
  have u1 : uu = 1 / 9007199254740992 := uu_eq
  obtain ⟨k, hk, k1, k2, fr, er, br⟩ := expR_near fy by1
  obtain ⟨fp, ep⟩ := poly_near fr (br.mono (by grind)) 14 (by omega)
  rw [Ek_14] at ep
  obtain ⟨x1, x2⟩ := Ex_35 (br.mono (by grind))
  obtain ⟨p1, p2⟩ := ep
  obtain ⟨fl, el⟩ := ldexp_near fp (k := k) (by rw [u1] at p1; grind) (by rw [u1] at p2; grind) (by omega) (by omega)
  have hn : isNan y = false := by obtain ⟨s, m, i, hr⟩ := fy; unfold isNan; rw [hr]; rfl
  have o1 : ¬ D.order y c710 = some .gt := by rw [order_gt fy v_710.1, v_710.2]; have := by1.2; grind
  have o2 : ¬ D.order y m746 = some .lt := by rw [order_lt fy v_746.1, v_746.2]; have := by1.1; grind
  have he : expP y = ldexpP (polyP (expR y) 14) k := by
    unfold expP
    rw [hn, if_neg (by simp), if_neg o1, if_neg o2, hk, fl.can]
  rw [he]
  have hp := pw_pos k
  have hpp : pw k * pw (-k) = 1 := by rw [← pw_add, Int.add_right_neg, pw_zero]
  refine ⟨k, vl (expR y), vl (ldexpP (polyP (expR y) 14) k) * pw (-k), fl, ?_, ?_, br, er, k1, k2⟩
  · generalize pw (-k) = a at *
    generalize pw k = b at *
    grind
  · have h1 : Wn (vl (ldexpP (polyP (expR y) 14) k) * pw (-k) - vl (polyP (expR y) 14)) (2 * uu * vl (polyP (expR y) 14)) := by
      refine wn_scaled hp ?_
      refine el.of ?_ ?_
      · generalize pw (-k) = a at *
        generalize pw k = b at *
        grind
      · generalize pw k = b at *
        grind
    generalize vl (ldexpP (polyP (expR y) 14) k) * pw (-k) = q at *
    refine (wn_add h1 (show Wn _ (14 * uu) from ⟨p1, p2⟩)).of (by grind) ?_
    rw [u1] at *
    grind
end Go.Proofs.YtfhpnkmpjijebaaDoor

/- The exponential of numbers up to six, by the polynomial's sixteenth power: the addition law; the program's exponential and its logarithm against it. -/
namespace Go.Fp.Tri
open Go.Fp
set_option maxRecDepth 20000

/-! nearness that goes with the size -/
def Rn (x y ε : Rat) : Prop := 0 < y ∧ Wn (x - y) (ε * y)
theorem Rn.mono {x y ε δ : Rat} (h : Rn x y ε) (k : ε ≤ δ) : Rn x y δ := ⟨h.1, h.2.mono (Rat.mul_le_mul_of_nonneg_right k (Rat.le_of_lt h.1))⟩
theorem Rn.e0 {x y ε : Rat} (h : Rn x y ε) : 0 ≤ ε := by
  rcases Rat.le_total (a := 0) (b := ε) with k | k
  · exact k
  · have h0 := h.2.nonneg
    have h1 := Rat.mul_le_mul_of_nonneg_right k (Rat.le_of_lt h.1)
    have e : ε * y = 0 := by grind
    rcases Rat.mul_eq_zero.1 e with h | h
    · grind
    · have := ‹Rn x y ε›.1; grind
theorem Rn.refl {y : Rat} (h : 0 < y) : Rn y y 0 := ⟨h, by constructor <;> grind⟩
theorem Rn.cast {x y x' y' ε : Rat} (h : Rn x y ε) (e : x = x') (e' : y = y') : Rn x' y' ε := e ▸ e' ▸ h
theorem Rn.mul {x y u v ε δ : Rat} (h : Rn x y ε) (k : Rn u v δ) (hε : ε ≤ 1 / 1000000) : Rn (x * u) (y * v) (ε + δ + 1 / 1000000 * δ) := by
  have hp := Rat.mul_pos h.1 k.1
  refine ⟨hp, ?_⟩
  have hv : Wn v v := ⟨by have := k.1; grind, Rat.le_refl⟩
  have hy : Wn y y := ⟨by have := h.1; grind, Rat.le_refl⟩
  have t := wn_add (wn_add (wn_mul h.2 hv) (wn_mul hy k.2)) (wn_mul h.2 k.2)
  refine t.of (by grind) ?_
  have a := Rat.mul_le_mul_of_nonneg_right hε (show 0 ≤ δ * (y * v) from Rat.mul_nonneg k.e0 (Rat.le_of_lt hp))
  grind
theorem Rn.trans {x y z ε δ : Rat} (h : Rn x y ε) (k : Rn y z δ) (hδ : δ ≤ 1 / 1000000) : Rn x z (ε + δ + 1 / 1000000 * ε) := by
  refine ⟨k.1, ?_⟩
  refine (wn_add h.2 k.2).of (by grind) ?_
  have a := k.2.2
  have b := Rat.mul_le_mul_of_nonneg_right hδ (Rat.le_of_lt k.1)
  have c := Rat.mul_le_mul_of_nonneg_left (show y ≤ z + 1 / 1000000 * z by grind) h.e0
  grind
theorem Rn.symm {x y ε : Rat} (h : Rn x y ε) (hε : ε ≤ 1 / 1000000) : Rn y x (ε + 2 / 1000000 * ε) := by
  have a := Rat.mul_le_mul_of_nonneg_right hε (Rat.le_of_lt h.1)
  have e0 := h.e0
  obtain ⟨h1, h2, h3⟩ := h
  have lo : y * (999999 / 1000000) ≤ x := by grind
  have c := Rat.mul_le_mul_of_nonneg_left lo e0
  refine ⟨by grind, ?_⟩
  constructor <;> grind
theorem Rn.sq {x y ε : Rat} (h : Rn x y ε) (hε : ε ≤ 1 / 1000000) : Rn (x * x) (y * y) (21 / 10 * ε) := (h.mul h hε).mono (by have := h.e0; grind)
def sq4 (x : Rat) : Rat := ((x * x) * (x * x)) * ((x * x) * (x * x)) * (((x * x) * (x * x)) * ((x * x) * (x * x)))
theorem Rn.sq4 {x y ε : Rat} (h : Rn x y ε) (hε : ε ≤ 1 / 100000000) : Rn (sq4 x) (Tri.sq4 y) (195 / 10 * ε) := by
  have e0 := h.e0
  have a := h.sq (by grind)
  have b := a.sq (by grind)
  have c := b.sq (by grind)
  have d := c.sq (by grind)
  exact d.mono (by grind)
def RemX : List (List Rat) := qadd (qmul (inX PE) (inY PE)) (qneg (qcomp PE [[0, 1], [1]]))
theorem remX_bd : qbd RemX (4375 / 10000) (4375 / 10000) ≤ 11 / 100000000000000 := by decide +kernel
theorem pe_one4 : pbd (padd PE [-1]) (4375 / 10000) ≤ 55 / 100 := by decide +kernel
theorem Ex_bd4 {x : Rat} (h : Wn x (4375 / 10000)) : 45 / 100 ≤ Ex x ∧ Ex x ≤ 155 / 100 := by
  have b := (wn_pev (padd PE [-1]) h).mono pe_one4
  rw [pev_add] at b
  have e : pev [-1] x = -1 := by simp only [pev]; grind
  rw [e] at b
  change Wn (Ex x + -1) _ at b
  obtain ⟨_, _⟩ := b
  constructor <;> grind
theorem Ex_add {x y : Rat} (hx : Wn x (4375 / 10000)) (hy : Wn y (4375 / 10000)) (hz : Wn (x + y) (4375 / 10000)) : Rn (Ex x * Ex y) (Ex (x + y)) (25 / 100000000000000) := by
  have hb := (wn_qev RemX hx hy).mono remX_bd
  have e : qev RemX x y = Ex x * Ex y - Ex (x + y) := by
    simp only [RemX, qev_add, qev_mul, qev_inX, qev_inY, qev_neg, qev_comp, Ex]
    have : qev [[0, 1], [1]] x y = x + y := by simp [qev, pev]; grind
    rw [this]
    grind
  rw [e] at hb
  obtain ⟨z1, z2⟩ := Ex_bd4 hz
  exact ⟨by grind, hb.mono (by grind)⟩
/-- the exponential -/
def EX (y : Rat) : Rat := sq4 (Ex (y / 16))
theorem sq4_pos {x : Rat} (h : 0 < x) : 0 < sq4 x := by
  have a := Rat.mul_pos h h
  have b := Rat.mul_pos a a
  have c := Rat.mul_pos b b
  exact Rat.mul_pos c c
theorem arg16 {y : Rat} (h : Wn y 7) : Wn (y / 16) (4375 / 10000) := by
  obtain ⟨_, _⟩ := h
  constructor <;> grind
theorem EX_pos {y : Rat} (h : Wn y 7) : 0 < EX y := sq4_pos (by have := (Ex_bd4 (arg16 h)).1; grind)
theorem EX_add {a b : Rat} (ha : Wn a 7) (hb : Wn b 7) (hc : Wn (a + b) 7) : Rn (EX a * EX b) (EX (a + b)) (5 / 1000000000000) := by
  have e : (a + b) / 16 = a / 16 + b / 16 := by grind
  have h := Ex_add (arg16 ha) (arg16 hb) (by rw [← e]; exact arg16 hc)
  rw [← e] at h
  refine ((h.sq4 (by grind)).cast ?_ rfl).mono (by grind)
  unfold EX sq4
  grind
theorem EX_zero : EX 0 = 1 := by decide +kernel
theorem EX_neg {a : Rat} (ha : Wn a 7) : Wn (EX a * EX (-a) - 1) (5 / 1000000000000) := by
  have h := EX_add ha (b := -a) ⟨by have := ha.2; grind, by have := ha.1; grind⟩ (by constructor <;> grind)
  rw [show a + -a = 0 by grind, EX_zero] at h
  exact h.2.of rfl (by grind)
theorem EX_lam' : -(1 / 10000000000000) ≤ EX lam - 2 ∧ EX lam - 2 ≤ (1 / 10000000000000 : Rat) := by decide +kernel
theorem EX_lam : Rn (EX lam) 2 (1 / 10000000000000) := by
  have h := EX_lam'
  generalize EX lam = x at *
  obtain ⟨h1, h2⟩ := h
  exact ⟨by grind, ⟨by grind, by grind⟩⟩
theorem lam_wn (k : Nat) (h : k ≤ 9) : Wn ((k : Rat) * lam) (625 / 100) := by
  obtain ⟨a, b⟩ := lam_bd
  have c : (k : Rat) ≤ 9 := by exact_mod_cast h
  have d : (0 : Rat) ≤ (k : Rat) := by exact_mod_cast Nat.zero_le k
  generalize lam = l at *
  have t := Rat.mul_nonneg d (show 0 ≤ l by grind)
  have u := Rat.mul_le_mul_of_nonneg_right c (show 0 ≤ l by grind)
  generalize (k : Rat) * l = w at *
  constructor <;> grind
theorem EX_klam : ∀ k : Nat, k ≤ 9 → Rn (EX ((k : Rat) * lam)) (pw (k : Int)) ((k : Rat) * (6 / 1000000000000))
  | 0, _ => by
    have e : ((0 : Nat) : Rat) * lam = 0 := by simp
    rw [e, EX_zero]
    have e2 : pw ((0 : Nat) : Int) = 1 := pw_zero
    rw [e2]
    exact (Rn.refl (by grind)).mono (by simp)
  | k + 1, h => by
    have ih := EX_klam k (by omega)
    have w1 := lam_wn k (by omega)
    have w2 := lam_wn (k + 1) h
    have hk : (k : Rat) ≤ 8 := by exact_mod_cast (show k ≤ 8 by omega)
    have hk0 : (0 : Rat) ≤ (k : Rat) := by exact_mod_cast Nat.zero_le k
    have e : ((k + 1 : Nat) : Rat) * lam = (k : Rat) * lam + lam := by push_cast; grind
    rw [e] at w2 ⊢
    have hl : Wn lam 7 := by obtain ⟨a, b⟩ := lam_bd; constructor <;> grind
    have a := (EX_add (w1.mono (by grind)) hl (w2.mono (by grind))).symm (by grind)
    have b := ih.mul EX_lam (by grind)
    have c := a.trans b (by grind)
    have e2 : pw ((k + 1 : Nat) : Int) = pw (k : Int) * 2 := by
      rw [show ((k + 1 : Nat) : Int) = (k : Int) + 1 by omega, pw_add, pw_one]
    rw [e2]
    refine c.mono ?_
    push_cast
    grind
theorem EX_ilam (k : Int) (h1 : -9 ≤ k) (h2 : k ≤ 9) : Rn (EX ((k : Rat) * lam)) (pw k) (60 / 1000000000000) ∧ Wn ((k : Rat) * lam) (625 / 100) := by
  rcases Int.lt_or_le k 0 with h | h
  · obtain ⟨m, hm⟩ : ∃ m : Nat, k = -(m : Int) := ⟨k.natAbs, by omega⟩
    subst hm
    have a := EX_klam m (by omega)
    have w := lam_wn m (by omega)
    have hk : (m : Rat) ≤ 9 := by exact_mod_cast (show m ≤ 9 by omega)
    have a' := a.mono (δ := 54 / 1000000000000) (by grind)
    have n := EX_neg (w.mono (by grind))
    have e : ((-(m : Int) : Int) : Rat) * lam = -((m : Rat) * lam) := by push_cast; grind
    rw [e]
    have w' : Wn (-((m : Rat) * lam)) (625 / 100) := ⟨by have := w.2; grind, by have := w.1; grind⟩
    refine ⟨⟨pw_pos _, ?_⟩, w'⟩
    have pp : pw (m : Int) * pw (-(m : Int)) = 1 := by rw [← pw_add, Int.add_right_neg, pw_zero]
    have p0 := pw_pos (m : Int)
    have q0 := pw_pos (-(m : Int))
    have f0 := EX_pos (w'.mono (by grind))
    obtain ⟨_, a1, a2⟩ := a'
    generalize EX ((m : Rat) * lam) = x at *
    generalize EX (-((m : Rat) * lam)) = y at *
    generalize pw (m : Int) = p at *
    generalize pw (-(m : Int)) = q at *
    -- y = (x y) / x, q = 1 / p
    obtain ⟨n1, n2⟩ := n
    have k1 := Rat.mul_le_mul_of_nonneg_right (show x ≤ p + 54 / 1000000000000 * p by grind) (Rat.mul_nonneg (Rat.le_of_lt f0) (Rat.le_of_lt q0))
    have k2 := Rat.mul_le_mul_of_nonneg_right (show p - 54 / 1000000000000 * p ≤ x by grind) (Rat.mul_nonneg (Rat.le_of_lt f0) (Rat.le_of_lt q0))
    have e1 : (p + 54 / 1000000000000 * p) * (y * q) = (1 + 54 / 1000000000000) * y := by grind
    have e2 : (p - 54 / 1000000000000 * p) * (y * q) = (1 - 54 / 1000000000000) * y := by grind
    have e3 : x * (y * q) = x * y * q := by grind
    rw [e1, e3] at k1
    rw [e2, e3] at k2
    have k3 := Rat.mul_le_mul_of_nonneg_right (show x * y ≤ 1 + 5 / 1000000000000 by grind) (Rat.le_of_lt q0)
    have k4 := Rat.mul_le_mul_of_nonneg_right (show 1 - 5 / 1000000000000 ≤ x * y by grind) (Rat.le_of_lt q0)
    generalize x * y * q = r at *
    clear e1 e2 e3 pp n1 n2 a1 a2 w w' e
    constructor <;> grind
  · obtain ⟨m, hm⟩ : ∃ m : Nat, k = (m : Int) := ⟨k.natAbs, by omega⟩
    subst hm
    have a := EX_klam m (by omega)
    have hk : (m : Rat) ≤ 9 := by exact_mod_cast (show m ≤ 9 by omega)
    exact ⟨a.mono (by grind), lam_wn m (by omega)⟩
/-- small numbers: the polynomial itself -/
theorem EX_small {r : Rat} (h : Wn r (4375 / 10000)) : Rn (EX r) (Ex r) (18 / 1000000000000) := by
  have half : ∀ x : Rat, Wn x (4375 / 10000) → Rn (Ex (x / 2) * Ex (x / 2)) (Ex x) (25 / 100000000000000) := by
    intro x hx
    have b : Wn (x / 2) (4375 / 10000) := by obtain ⟨_, _⟩ := hx; constructor <;> grind
    have a := Ex_add b b (by rw [show x / 2 + x / 2 = x by grind]; exact hx)
    rw [show x / 2 + x / 2 = x by grind] at a
    exact a
  have w2 : Wn (r / 2) (4375 / 10000) := by obtain ⟨_, _⟩ := h; constructor <;> grind
  have w4 : Wn (r / 4) (4375 / 10000) := by obtain ⟨_, _⟩ := h; constructor <;> grind
  have w8 : Wn (r / 8) (4375 / 10000) := by obtain ⟨_, _⟩ := h; constructor <;> grind
  have a1 := half _ w8
  rw [show r / 8 / 2 = r / 16 by grind] at a1
  have a2 := half _ w4
  rw [show r / 4 / 2 = r / 8 by grind] at a2
  have a3 := half _ w2
  rw [show r / 2 / 2 = r / 4 by grind] at a3
  have a4 := half _ h
  have b2 := (a1.sq (by grind)).trans a2 (by grind)
  have b3 := (b2.sq (by grind)).trans a3 (by grind)
  have b4 := (b3.sq (by grind)).trans a4 (by grind)
  exact b4.mono (by grind)
/-- a power of two times the polynomial -/
theorem EX_pw {v r : Rat} {k : Int} (h1 : -9 ≤ k) (h2 : k ≤ 9) (hv : Wn v 7) (hr : Wn r (36 / 100)) (he : Wn (r - (v - (k : Rat) * lam)) (1 / 100000000000000)) : Rn (EX v) (Ex r * pw k) (9 / 100000000000) := by
  obtain ⟨a, wk⟩ := EX_ilam k h1 h2
  generalize (k : Rat) * lam = w at *
  obtain ⟨r', hr'⟩ : ∃ r', r' = v - w := ⟨_, rfl⟩
  have br : Wn r' (361 / 1000) := by rw [hr']; obtain ⟨_, _⟩ := he; obtain ⟨_, _⟩ := hr; constructor <;> grind
  rw [← hr'] at he
  have e : r' + w = v := by rw [hr']; grind
  have s := EX_add (br.mono (by grind)) (wk.mono (by grind)) (by rw [e]; exact hv.mono (by grind))
  rw [e] at s
  have t := EX_small (br.mono (by grind))
  have hc := wn_lip PE (br.mono (show (361 : Rat) / 1000 ≤ 4375 / 10000 by grind)) (hr.mono (show (36 : Rat) / 100 ≤ 4375 / 10000 by grind)) (D := 1 / 100000000000000) (by obtain ⟨_, _⟩ := he; constructor <;> grind)
  have l4 : plip PE (4375 / 10000) ≤ 2 := by decide +kernel
  obtain ⟨x1, x2⟩ := Ex_bd4 (hr.mono (show (36 : Rat) / 100 ≤ 4375 / 10000 by grind))
  have hd : Rn (Ex r') (Ex r) (1 / 10000000000000) := ⟨by grind, (hc.mono (B := 2 / 100000000000000) (by grind)).of rfl (by grind)⟩
  have u := ((t.trans hd (by grind)).mul a (by grind))
  exact ((s.symm (by grind)).trans u (by grind)).mono (by grind)
end Go.Fp.Tri
namespace Go.Proofs.YtfhpnkmpjijebaaDoor
open Go.Fp Go.Fp.Tri
set_option maxRecDepth 20000
/-- the program's exponential -/
theorem exp_EX {y : Nat} (fy : Fp.Fin y) (b : Wn (vl y) 5) : Fp.Fin (expP y) ∧ Rn (vl (expP y)) (EX (vl y)) (1 / 10000000000) := by
  have u1 : uu = 1 / 9007199254740992 := uu_eq
  obtain ⟨k, r, q, fE, vE, qE, bR, eR, k1, k2⟩ := exp_near fy b
  have h := EX_pw (k := k) (by omega) (by omega) (b.mono (by grind)) (bR.mono (by grind)) (eR.mono (by rw [u1]; grind))
  obtain ⟨x1, x2⟩ := Ex_35 (bR.mono (by grind))
  refine ⟨fE, ?_⟩
  have hq : Rn q (Ex r) (1 / 100000000000000) := ⟨by grind, qE.mono (by rw [u1]; grind)⟩
  have hp : Rn (pw k) (pw k) 0 := Rn.refl (pw_pos k)
  have a := hq.mul hp (by grind)
  rw [vE]
  exact (a.trans (h.symm (by grind)) (by grind)).mono (by grind)
end Go.Proofs.YtfhpnkmpjijebaaDoor

/- The logarithm undoes the exponential; the exponential of small numbers; what turns and grows at once. -/
namespace Go.Fp.Tri
open Go.Fp
set_option maxRecDepth 20000

end Go.Fp.Tri
namespace Go.Proofs.YtfhpnkmpjijebaaDoor
open Go.Fp Go.Fp.Tri
set_option maxRecDepth 20000
end Go.Proofs.YtfhpnkmpjijebaaDoor
