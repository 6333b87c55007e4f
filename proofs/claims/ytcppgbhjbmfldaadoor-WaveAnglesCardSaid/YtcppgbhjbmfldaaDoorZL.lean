/- A number times a power of two, by its bits: what number that is. -/
import Derived.Test.YtcppgbhjbmfldaaDoorZK
namespace Go.Fp
open Ieee RowKit
set_option maxRecDepth 20000

theorem wrap64_mod (v : Int) : wrap64 v % 18446744073709551616 = v % 18446744073709551616 := by
  unfold wrap64
  omega
theorem or_exp (y e : Nat) (h : y < 2 ^ 52) (he : e < 2047) : bits .or .u64 (y : Int) ((e : Int) * 4503599627370496) = ((e * 2 ^ 52 + y : Nat) : Int) := by
  have hp : ((2 ^ 52 : Nat) : Int) = 4503599627370496 := by decide
  have h0 : (e : Int) * (4503599627370496 : Int) = ((e <<< 52 : Nat) : Int) := by rw [Nat.shiftLeft_eq, Int.natCast_mul, hp]
  rw [h0]
  show IntKind.u64.wrap ((BitVec.ofInt 64 (y : Int) ||| BitVec.ofInt 64 ((e <<< 52 : Nat) : Int) : BitVec 64).toNat : Int) = _
  have hs : e <<< 52 = e * 4503599627370496 := by rw [Nat.shiftLeft_eq]
  have h1 : (BitVec.ofInt 64 (y : Int) ||| BitVec.ofInt 64 ((e <<< 52 : Nat) : Int) : BitVec 64).toNat = e * 2 ^ 52 + y := by
    rw [BitVec.toNat_or, BitVec.ofInt_natCast, BitVec.toNat_ofNat, BitVec.ofInt_natCast, BitVec.toNat_ofNat]
    have h2 : (e <<< 52) % 2 ^ 64 = e <<< 52 := by omega
    have h3 : y % 2 ^ 64 = y := by omega
    rw [h2, h3, Nat.or_comm, ← Nat.shiftLeft_add_eq_or_of_lt h, Nat.shiftLeft_eq]
  rw [h1, IntKind.wrap_u64]
  omega
theorem and_exp_i (y : Nat) : bits .and .i64 (wrap64 (y : Int)) 2047 = ((y % 2048 : Nat) : Int) := by
  show IntKind.i64.wrap ((BitVec.ofInt 64 (wrap64 (y : Int)) &&& BitVec.ofInt 64 2047 : BitVec 64).toNat : Int) = _
  have h1 : (BitVec.ofInt 64 (wrap64 (y : Int)) &&& BitVec.ofInt 64 2047 : BitVec 64).toNat = y % 2048 := by
    have h0 : BitVec.ofInt 64 (wrap64 (y : Int)) = BitVec.ofInt 64 (y : Int) := by
      apply BitVec.eq_of_toNat_eq
      rw [BitVec.toNat_ofInt, BitVec.toNat_ofInt]
      have hp : ((2 ^ 64 : Nat) : Int) = 18446744073709551616 := by decide
      rw [hp]
      have hw : wrap64 (y : Int) % 18446744073709551616 = (y : Int) % 18446744073709551616 := wrap64_mod _
      rw [hw]
    rw [h0, BitVec.toNat_and, BitVec.ofInt_natCast, BitVec.toNat_ofNat]
    have h2 : (BitVec.ofInt 64 2047 : BitVec 64).toNat = 2 ^ 11 - 1 := by decide
    rw [h2, Nat.and_two_pow_sub_one_eq_mod]
    omega
  rw [h1]
  exact IntWalk.i64_in _ (by omega)
end Go.Fp
namespace Go.Proofs.YtcppgbhjbmfldaaDoor
open Go.RowKit Go.Fp Go.Fp.Tri Ieee
set_option maxRecDepth 20000
theorem ldexp_word {x m : Nat} {i k : Int} (h : D.read x = .number false m i) (hm : 2 ^ 52 ≤ m) (hi : -300 ≤ i) (hi2 : i ≤ 200) (hk : -200 ≤ k) (hk2 : k ≤ 200) :
    ldexpP x k = fmul (can 4607182418800017408) (can (ldW x (k + i + 52))) ∧ D.read (ldW x (k + i + 52)) = .number false m (i + k) := by
  obtain ⟨h1, h2, h3⟩ := read_norm h hm
  have e : normP2 x = (x, 0) := if_neg (big_abs h hm)
  have fx : Fp.Fin x := ⟨_, _, _, h⟩
  have hv : 0 < vl x := by
    rw [vl_of h, vd_false]
    exact Rat.mul_pos (by exact_mod_cast (show 0 < m by omega)) (pw_pos _)
  have hz : ¬ D.order x 0 = some .eq := by
    rw [order_eq fx v_nil.1, v_nil.2]; grind
  have hK : ldK x 0 k = k + i + 52 := by
    unfold ldK
    have c : ((x : Int) / 4503599627370496) = ((x / 2 ^ 52 : Nat) : Int) := (Int.natCast_ediv x 4503599627370496).symm
    rw [c, and_exp_i, h3, Int.add_zero, IntWalk.wrap64_in k (by omega), IntWalk.wrap64_in (i + 1075 - 1023) (by omega), IntWalk.wrap64_in _ (by omega)]
    omega
  have hn : isNan x = false := by unfold isNan; rw [h]; rfl
  refine ⟨?_, ?_⟩
  · unfold ldexpP
    rw [if_neg hz, inf_no h, hn]
    simp only [Bool.false_eq_true, if_false]
    rw [e, hK, if_neg (by omega), if_neg (by omega), if_neg (by omega)]
  · unfold ldW
    have hlt : x % 2 ^ 52 < 2 ^ 52 := Nat.mod_lt _ (by decide)
    obtain ⟨q, hq⟩ : ∃ q : Nat, (q : Int) = k + i + 52 + 1023 := ⟨(k + i + 52 + 1023).toNat, by omega⟩
    rw [andNot_exp x h1, ← hq, or_exp _ q hlt (by omega), Int.toNat_natCast]
    have e0 : (q * 2 ^ 52 + x % 2 ^ 52) = D.word false (q * 2 ^ 52 + x % 2 ^ 52) := rfl
    rw [e0, read_word2 false (by omega), if_neg (by omega)]
    have e1 : (q * 2 ^ 52 + x % 2 ^ 52) % 2 ^ 52 = x % 2 ^ 52 := by omega
    have e2 : (q * 2 ^ 52 + x % 2 ^ 52) / 2 ^ 52 = q := by omega
    rw [e1, e2, ← h2]
    congr 1
    omega
theorem ldexp_near {x : Nat} {k : Int} (fx : Fp.Fin x) (h1 : 1 / 2 ≤ vl x) (h2 : vl x ≤ 2) (hk : -20 ≤ k) (hk2 : k ≤ 20) :
    Fp.Fin (ldexpP x k) ∧ Wn (vl (ldexpP x k) - vl x * pw k) (2 * uu * (vl x * pw k)) := by
  obtain ⟨m, i, hr, hm, hi, hi2⟩ := norm_form fx h1 h2
  obtain ⟨e1, e2⟩ := ldexp_word hr hm (by omega) (by omega) (k := k) (by omega) (by omega)
  have fW : Fp.Fin (ldW x (k + i + 52)) := ⟨_, _, _, e2⟩
  have vW : vl (ldW x (k + i + 52)) = vl x * pw k := by
    rw [vl_of e2, vl_of hr, vd_false, vd_false, pw_add]; grind
  rw [e1, fW.can, v_one.1.can]
  have p0 : 0 < vl x * pw k := Rat.mul_pos (by grind) (pw_pos k)
  have plo : pw (-20) ≤ pw k := pw_mono hk
  have phi : pw k ≤ pw 20 := pw_mono hk2
  have e20 : pw 20 = 1048576 := by have := pw_nat 20; exact this
  have em20 : pw (-20) * 1048576 = 1 := by
    have h := pw_add (-20) 20
    rw [show (-20 + 20 : Int) = 0 by decide, pw_zero, e20] at h
    exact h.symm
  have a1 := Rat.mul_le_mul_of_nonneg_left plo (show 0 ≤ vl x by grind)
  have a2 := Rat.mul_le_mul_of_nonneg_left phi (show 0 ≤ vl x by grind)
  have es := eta_small
  have u1 : uu = 1 / 9007199254740992 := uu_eq
  obtain ⟨f, er⟩ := fmul_err v_one.1 fW (vl x * pw k) (by rw [v_one.2, vW]; constructor <;> grind) (big_le' (by rw [e20] at a2; grind))
  refine ⟨f, ?_⟩
  rw [v_one.2, vW] at er
  have lo : 1 / 4194304 ≤ vl x * pw k := by
    generalize pw (-20) = z at *
    generalize vl x * pw k = w at *
    have := Rat.mul_le_mul_of_nonneg_right h1 (show 0 ≤ z by grind)
    clear er p0 phi
    grind
  generalize vl x * pw k = w at *
  refine er.of (by grind) ?_
  clear er a1 a2 plo phi em20 e20
  rw [u1] at es ⊢
  grind
end Go.Proofs.YtcppgbhjbmfldaaDoor

/- The exponential as a float: how near it is to its polynomial times a power of two. -/
namespace Go.Proofs.YtcppgbhjbmfldaaDoor
open Go.RowKit Go.Fp Go.Fp.Tri Ieee
set_option maxRecDepth 20000

theorem isI_vl {x : Nat} {V : Int} (h : IsI x V) : Fp.Fin x ∧ vl x = (V : Rat) := by
  obtain ⟨s, m, i, hr, hi, hs⟩ := h
  refine ⟨⟨_, _, _, hr⟩, ?_⟩
  have hp : pw (-((1074 : Nat) : Int)) * ((2 ^ 1074 : Nat) : Rat) = 1 := pw_inv 1074
  have hq : ((-1074 : Int)) = -((1074 : Nat) : Int) := rfl
  rw [vl_of hr, ← signed_vd s m i (-1074) hi, show i - (-1074) = i + 1074 by omega, hs, hq]
  generalize pw (-((1074 : Nat) : Int)) = z at *
  generalize (2 : Nat) ^ 1074 = Z at *
  clear hs
  push_cast
  grind
theorem cut_dn (s : Bool) (m : Nat) (i : Int) : (s = false → ((Toward.down.cut s (m <<< i.toNat) (-i).toNat : Nat) : Rat) ≤ (m : Rat) * pw i ∧ (m : Rat) * pw i < ((Toward.down.cut s (m <<< i.toNat) (-i).toNat : Nat) : Rat) + 1) ∧
    (s = true → ((Toward.down.cut s (m <<< i.toNat) (-i).toNat : Nat) : Rat) - 1 < (m : Rat) * pw i ∧ (m : Rat) * pw i ≤ ((Toward.down.cut s (m <<< i.toNat) (-i).toNat : Nat) : Rat)) := by
  rw [cut_down]
  obtain ⟨k, hk⟩ : ∃ k, k = (-i).toNat := ⟨_, rfl⟩
  rw [← hk]
  have e : ((m <<< i.toNat : Nat) : Rat) = (m : Rat) * pw i * pw k := by
    rw [Nat.shiftLeft_eq, Rat.natCast_mul, ← pw_nat]
    have : pw (i.toNat : Int) = pw i * pw k := by rw [← pw_add]; congr 1; omega
    rw [this]
    generalize pw i = a
    generalize pw (k : Int) = b
    grind
  have hp := pw_pos (k : Int)
  rw [pw_nat] at e hp
  have dm := Nat.div_add_mod (m <<< i.toNat) (2 ^ k)
  have lt := Nat.mod_lt (m <<< i.toNat) (show 2 ^ k > 0 from Nat.two_pow_pos k)
  generalize m <<< i.toNat = n at *
  generalize 2 ^ k = P at *
  generalize n / P = q at *
  generalize n % P = r at *
  generalize (m : Rat) * pw i = v at *
  have dm' : (P : Rat) * (q : Rat) + (r : Rat) = v * (P : Rat) := by
    rw [← e, ← dm]; push_cast; rfl
  have lt' : (r : Rat) < (P : Rat) := by exact_mod_cast lt
  have r0 : (0 : Rat) ≤ (r : Rat) := by exact_mod_cast Nat.zero_le r
  generalize (P : Rat) = p at *
  have low : (q : Rat) ≤ v := by
    rcases Rat.le_total (a := (q : Rat)) (b := v) with hh | hh
    · exact hh
    · have := Rat.mul_le_mul_of_nonneg_right hh (Rat.le_of_lt hp)
      have e0 : v * p = (q : Rat) * p := by grind
      have : (v - (q : Rat)) * p = 0 := by grind
      rcases Rat.mul_eq_zero.1 this with h | h <;> grind
  have up : v < (q : Rat) + 1 := by
    rcases Rat.le_total (a := (q : Rat) + 1) (b := v) with hh | hh
    · exfalso
      have := Rat.mul_le_mul_of_nonneg_right hh (Rat.le_of_lt hp)
      grind
    · rcases rat_lt_or_eq hh with h | h
      · exact h
      · exfalso
        rw [h] at dm'
        grind
  constructor
  · rintro rfl
    rw [if_neg (by simp)]
    rw [Nat.add_zero]
    exact ⟨low, up⟩
  · rintro rfl
    by_cases hr : r = 0
    · rw [if_neg (by simp [hr]), Nat.add_zero]
      subst hr
      have e0 : (v - (q : Rat)) * p = 0 := by
        have : ((0 : Nat) : Rat) = 0 := rfl
        rw [this] at dm'
        grind
      rcases Rat.mul_eq_zero.1 e0 with h | h <;> constructor <;> grind
    · rw [if_pos ⟨rfl, hr⟩]
      have e1 : ((q + 1 : Nat) : Rat) = (q : Rat) + 1 := by push_cast; rfl
      rw [e1]
      refine ⟨?_, by grind⟩
      have r1 : (0 : Rat) < (r : Rat) := by exact_mod_cast Nat.pos_of_ne_zero hr
      rcases rat_lt_or_eq low with h | h
      · grind
      · exfalso
        rw [← h] at dm'
        grind
theorem floor_vl {Y : Nat} (fY : Fp.Fin Y) : Fp.Fin (floorN Y) ∧ vl (floorN Y) = ((kV Y : Int) : Rat) ∧ ((kV Y : Int) : Rat) ≤ vl Y ∧ vl Y < ((kV Y : Int) : Rat) + 1 := by
  obtain ⟨s, m, i, hr⟩ := fY
  have hn : isNan Y = false := by unfold isNan; rw [hr]; rfl
  have hI := isI_int (way := .down) (.inr rfl) hr
  have hf : floorN Y = D.write ((D.read Y).integral .down) := by unfold floorN intP; rw [if_neg (by rw [hn]; simp)]
  rw [← hf] at hI
  obtain ⟨g1, g2⟩ := isI_vl hI
  have hk : kV Y = signed s (Toward.down.cut s (m <<< i.toNat) (-i).toNat) 0 := by
    unfold kV
    rw [hI.toInt]; rfl
  rw [hk, vl_of hr]
  refine ⟨g1, g2, ?_⟩
  obtain ⟨c1, c2⟩ := cut_dn s m i
  have e : vd s m i = ((sg s : Int) : Rat) * ((m : Rat) * pw i) := by unfold vd; generalize pw i = z; grind
  rw [e, signed0]
  generalize Toward.down.cut s (m <<< i.toNat) (-i).toNat = C at *
  generalize (m : Rat) * pw i = v at *
  cases s
  · obtain ⟨a, b⟩ := c1 rfl
    have e2 : ((sg false : Int) : Rat) = 1 := rfl
    have e3 : ((sg false * (C : Int) : Int) : Rat) = (C : Rat) := by
      show ((1 * (C : Int) : Int) : Rat) = _
      rw [Int.one_mul]; rfl
    rw [e2, e3]
    constructor <;> grind
  · obtain ⟨a, b⟩ := c2 rfl
    have e2 : ((sg true : Int) : Rat) = -1 := rfl
    have e3 : ((sg true * (C : Int) : Int) : Rat) = -(C : Rat) := by
      show ((-1 * (C : Int) : Int) : Rat) = _
      push_cast; grind
    rw [e2, e3]
    constructor <;> grind
theorem v_log : Fp.Fin cLog ∧ vl cLog = 6497320848556798 / 4503599627370496 := vl_const (s := false) (m := 6497320848556798) (k := 52) (by decide +kernel) (by decide +kernel)
theorem v_eh : Fp.Fin cHigh ∧ vl cHigh = 2977044471 / 4294967296 := vl_const (s := false) (m := 6243314766446592) (k := 53) (by decide +kernel) (by decide +kernel)
theorem v_el : Fp.Fin cLow ∧ vl cLow = 3691024475790907 / 19342813113834066795298816 := vl_const (s := false) (m := 7382048951581814) (k := 85) (by decide +kernel) (by decide +kernel)
theorem v_hf : Fp.Fin half ∧ vl half = 1 / 2 := vl_const (s := false) (m := 4503599627370496) (k := 53) (by decide +kernel) (by decide +kernel)
theorem v_710 : Fp.Fin c710 ∧ vl c710 = 710 := vl_const (s := false) (m := 6245226045767680) (k := 43) (by decide +kernel) (by decide +kernel)
theorem v_746 : Fp.Fin m746 ∧ vl m746 = -746 := vl_const (s := true) (m := 6561885394567168) (k := 43) (by decide +kernel) (by decide +kernel)
theorem log_lam : -(1 / 1000000000000000) ≤ (6497320848556798 / 4503599627370496 : Rat) * lam - 1 ∧ (6497320848556798 / 4503599627370496 : Rat) * lam - 1 ≤ 1 / 1000000000000000 := by decide +kernel
set_option maxHeartbeats 1000000 in
theorem expR_near {y : Nat} (fy : Fp.Fin y) (by1 : Wn (vl y) 5) : ∃ k : Int, kV (expY y) = k ∧ -8 ≤ k ∧ k ≤ 8 ∧ Fp.Fin (expR y) ∧ Wn (vl (expR y) - (vl y - (k : Rat) * lam)) (50 * uu) ∧ Wn (vl (expR y)) (347 / 1000) := by
  have u1 : uu = 1 / 9007199254740992 := uu_eq
  obtain ⟨l1, l2⟩ := lam_bd
  have ll := log_lam
  unfold expR
  have bL : Wn (vl cLog) (1443 / 1000) := by rw [v_log.2]; constructor <;> grind
  obtain ⟨f1, e1⟩ := mulE fy v_log.1 _ (wn_mul by1 bL) (by grind)
  have b1 := wn_add e1 (wn_mul by1 bL)
  have b1' : Wn (vl (fmul y cLog)) (722 / 100) := b1.of (by grind) (by rw [u1]; grind)
  obtain ⟨f2, e2⟩ := addE f1 v_hf.1 (773 / 100) (by rw [v_hf.2]; obtain ⟨_, _⟩ := b1'; constructor <;> grind) (by grind)
  rw [v_hf.2] at e2
  have hY : expY y = fadd (fmul y cLog) half := by unfold expY; rw [v_log.1.can, v_hf.1.can]
  rw [hY]
  have eY : Wn (vl (fadd (fmul y cLog) half) - (vl y * vl cLog + 1 / 2)) (18 * uu) := (wn_add e2 e1).of (by grind) (by rw [u1]; grind)
  obtain ⟨g1, g2, g3, g4⟩ := floor_vl f2
  generalize fadd (fmul y cLog) half = Y at *
  generalize kV Y = K at *
  rw [g1.can, v_eh.1.can, v_el.1.can]
  rw [v_log.2] at eY
  have yL : Wn (vl y * (6497320848556798 / 4503599627370496)) (722 / 100) := by
    have := wn_mul by1 bL
    rw [v_log.2] at this
    exact this.mono (by grind)
  obtain ⟨d1, d2⟩ := eY
  have K1 : -8 ≤ K := by
    have := whole_le (d := -8) (k := K) (x := vl Y) (by have := yL.1; have e : ((-8 : Int) : Rat) = -8 := rfl; rw [e]; rw [u1] at d1; grind) g4
    exact this
  have K2 : K ≤ 8 := by
    have := whole_le (d := K) (k := 8) (x := vl Y) g3 (by have := yL.2; have e : ((8 : Int) : Rat) = 8 := rfl; rw [e]; rw [u1] at d2; grind)
    exact this
  refine ⟨K, rfl, K1, K2, ?_⟩
  have bK : Wn ((K : Int) : Rat) 8 := ⟨castle (a := -8) K1, castle (b := 8) K2⟩
  have ex : Wn (vl y - (K : Rat) * lam) (3468 / 10000) := by
    have h1 : Wn (vl y * (6497320848556798 / 4503599627370496) - (K : Rat)) (1 / 2 + 18 * uu) := by constructor <;> grind
    have h2 := wn_mul h1 (show Wn lam (6932 / 10000) by unfold lam; constructor <;> grind)
    have h3 := wn_mul by1 (show Wn ((6497320848556798 / 4503599627370496 : Rat) * lam - 1) (1 / 1000000000000000) from ll)
    exact (wn_sub h2 h3).of (by grind) (by rw [u1]; grind)
  clear d1 d2 g3 g4 yL b1 b1' e1 e2 hY ll
  generalize floorN Y = F at *
  have bF : Wn (vl F) 8 := by rw [g2]; exact bK
  have bh : Wn (vl cHigh) (694 / 1000) := by rw [v_eh.2]; constructor <;> grind
  have bl : Wn (vl cLow) (1 / 1000000) := by rw [v_el.2]; constructor <;> grind
  have hl : vl cHigh + vl cLow = lam := by rw [v_eh.2, v_el.2]; rfl
  obtain ⟨p1, q1⟩ := mulE g1 v_eh.1 _ (wn_mul bF bh) (by grind)
  have c1 : Wn (vl (fmul F cHigh)) 6 := (wn_add q1 (wn_mul bF bh)).of (by grind) (by rw [u1]; grind)
  obtain ⟨p2, q2⟩ := subE fy p1 _ (wn_sub by1 c1) (by grind)
  have c2 : Wn (vl (fsub y (fmul F cHigh))) 12 := (wn_add q2 (wn_sub by1 c1)).of (by grind) (by rw [u1]; grind)
  obtain ⟨p3, q3⟩ := mulE g1 v_el.1 _ (wn_mul bF bl) (by grind)
  have c3 : Wn (vl (fmul F cLow)) 1 := (wn_add q3 (wn_mul bF bl)).of (by grind) (by rw [u1]; grind)
  obtain ⟨p4, q4⟩ := subE p2 p3 _ (wn_sub c2 c3) (by grind)
  have er : Wn (vl (fsub (fsub y (fmul F cHigh)) (fmul F cLow)) - (vl y - (K : Rat) * lam)) (50 * uu) := by
    rw [g2] at q1 q3
    rw [← hl]
    exact (wn_sub (wn_sub (wn_add q4 q2) q1) q3).of (by grind) (by rw [u1]; grind)
  exact ⟨p4, er, (wn_add er ex).of (by grind) (by rw [u1]; grind)⟩
theorem facs_eq : (List.range 15).all (fun n => facs.getD n 0 == floatOfInt .f64 ((fact n : Nat) : Int) && decide (1 ≤ fact n) && decide (fact n < 2 ^ 53)) = true := by decide +kernel
theorem fac_vl {n : Nat} (h : n ≤ 14) : Fp.Fin (facs.getD n 0) ∧ vl (facs.getD n 0) = ((fact n : Nat) : Rat) ∧ (1 : Rat) ≤ ((fact n : Nat) : Rat) := by
  have hh := List.all_eq_true.1 facs_eq n (List.mem_range.2 (by omega))
  simp only [Bool.and_eq_true, beq_iff_eq, decide_eq_true_eq] at hh
  obtain ⟨⟨h1, h2⟩, h3⟩ := hh
  obtain ⟨f, v⟩ := vl_int ((fact n : Nat) : Int) (by rw [Int.natAbs_natCast]; exact h3)
  rw [h1]
  exact ⟨f, v, by exact_mod_cast h2⟩
def Ek (z : Rat) : Nat → Rat
  | 0 => inv 14
  | k + 1 => inv (13 - k) + z * Ek z k
theorem Ek_14 (z : Rat) : Ek z 14 = Ex z := by
  simp only [Ek, Ex, PE, pev, Nat.reduceSub, Nat.sub_zero]
  grind
theorem inv_bd {n : Nat} (h : n ≤ 14) : 0 ≤ inv n ∧ inv n ≤ 1 := by
  obtain ⟨_, _, h1⟩ := fac_vl h
  unfold inv
  have h0 : (0 : Rat) < ((fact n : Nat) : Rat) := by grind
  have c : 1 / ((fact n : Nat) : Rat) * ((fact n : Nat) : Rat) = 1 := div_mul_c (ne_of_pos h0) rfl
  generalize ((fact n : Nat) : Rat) = x at *
  generalize 1 / x = y at *
  constructor
  · rcases Rat.le_total (a := 0) (b := y) with hh | hh
    · exact hh
    · have := Rat.mul_le_mul_of_nonneg_right hh (Rat.le_of_lt h0); grind
  · rcases Rat.le_total (a := y) (b := 1) with hh | hh
    · exact hh
    · have := Rat.mul_le_mul_of_nonneg_right hh (Rat.le_of_lt h0)
      have := Rat.mul_le_mul_of_nonneg_left h1 (show 0 ≤ y by grind)
      grind
theorem Ek_bd {z : Rat} (hz : Wn z (35 / 100)) : ∀ k, k ≤ 14 → Wn (Ek z k) 2
  | 0, _ => by obtain ⟨a, b⟩ := inv_bd (n := 14) (by omega); unfold Ek; constructor <;> grind
  | k + 1, h => by
    have i := Ek_bd hz k (by omega)
    obtain ⟨a, b⟩ := inv_bd (n := 13 - k) (by omega)
    unfold Ek
    have t := wn_mul hz i
    obtain ⟨_, _⟩ := t
    constructor <;> grind
theorem poly_near {z : Nat} (fz : Fp.Fin z) (bz : Wn (vl z) (35 / 100)) : ∀ k, k ≤ 14 → Fp.Fin (polyP z k) ∧ Wn (vl (polyP z k) - Ek (vl z) k) (14 * uu)
  | 0, _ => by
    have u1 : uu = 1 / 9007199254740992 := uu_eq
    obtain ⟨f, v, o⟩ := fac_vl (n := 14) (by omega)
    obtain ⟨a, b⟩ := inv_bd (n := 14) (by omega)
    unfold polyP Ek
    rw [v_one.1.can, f.can]
    obtain ⟨f1, e1⟩ := divE v_one.1 f (by rw [v]; grind) 1 (by rw [v_one.2, v]; exact ⟨by unfold inv at a; grind, by unfold inv at b; grind⟩) (by grind)
    rw [v_one.2, v] at e1
    exact ⟨f1, e1.of (by unfold inv; rfl) (by rw [u1]; grind)⟩
  | k + 1, h => by
    have u1 : uu = 1 / 9007199254740992 := uu_eq
    obtain ⟨i1, i2⟩ := poly_near fz bz k (by omega)
    have lb := Ek_bd bz k (by omega)
    obtain ⟨f, v, o⟩ := fac_vl (n := 13 - k) (by omega)
    obtain ⟨a, b⟩ := inv_bd (n := 13 - k) (by omega)
    unfold polyP Ek
    rw [v_one.1.can, f.can]
    obtain ⟨f1, e1⟩ := divE v_one.1 f (by rw [v]; grind) 1 (by rw [v_one.2, v]; exact ⟨by unfold inv at a; grind, by unfold inv at b; grind⟩) (by grind)
    have e1' : Wn (vl (fdiv Fp.cOne (facs.getD (13 - k) 0)) - inv (13 - k)) (3 * uu) := by
      rw [v_one.2, v] at e1
      exact e1.of (by unfold inv; rfl) (by rw [u1]; grind)
    generalize fdiv Fp.cOne (facs.getD (13 - k) 0) = g at *
    generalize inv (13 - k) = c at *
    have bl : Wn (vl (polyP z k)) (201 / 100) := (wn_add i2 lb).of (by grind) (by rw [u1]; grind)
    obtain ⟨f2, e2⟩ := mulE fz i1 _ (wn_mul bz bl) (by grind)
    have b2 : Wn (vl (fmul z (polyP z k))) (71 / 100) := (wn_add e2 (wn_mul bz bl)).of (by grind) (by rw [u1]; grind)
    have b1 : Wn (vl g) (101 / 100) := (wn_add e1' (show Wn c 1 from ⟨by grind, b⟩)).of (by grind) (by rw [u1]; grind)
    obtain ⟨f3, e3⟩ := addE f1 f2 _ (wn_add b1 b2) (by grind)
    refine ⟨f3, ?_⟩
    have h2 := wn_mul bz i2
    exact (wn_add (wn_add e3 e1') (wn_add e2 h2)).of (by grind) (by rw [u1]; grind)
/-- the exponential of a number that is not great -/
theorem exp_near {y : Nat} (fy : Fp.Fin y) (by1 : Wn (vl y) 5) : ∃ (k : Int) (r q : Rat), Fp.Fin (expP y) ∧ vl (expP y) = q * pw k ∧ Wn (q - Ex r) (20 * uu) ∧ Wn r (347 / 1000) ∧ Wn (r - (vl y - (k : Rat) * lam)) (50 * uu) ∧ -8 ≤ k ∧ k ≤ 8 := by
  have u1 : uu = 1 / 9007199254740992 := uu_eq
  obtain ⟨k, hk, k1, k2, fr, er, br⟩ := expR_near fy by1
  obtain ⟨fp, ep⟩ := poly_near fr (br.mono (by grind)) 14 (by omega)
  rw [Ek_14] at ep
  obtain ⟨x1, x2⟩ := Ex_35 (br.mono (by grind))
  obtain ⟨p1, p2⟩ := ep
  obtain ⟨fl, el⟩ := ldexp_near fp (k := k) (by rw [u1] at p1; grind) (by rw [u1] at p2; grind) (by omega) (by omega)
  have hn : isNan y = false := by obtain ⟨s, m, i, hr⟩ := fy; unfold isNan; rw [hr]; rfl
  have o1 : ¬ D.order y c710 = some .gt := by rw [order_gt fy v_710.1, v_710.2]; have := by1.2; grind
  have o2 : ¬ D.order y m746 = some .lt := by rw [order_lt fy v_746.1, v_746.2]; have := by1.1; grind
  have he : expP y = ldexpP (polyP (expR y) 14) k := by
    unfold expP
    rw [hn, if_neg (by simp), if_neg o1, if_neg o2, hk, fl.can]
  rw [he]
  have hp := pw_pos k
  have hpp : pw k * pw (-k) = 1 := by rw [← pw_add, Int.add_right_neg, pw_zero]
  refine ⟨k, vl (expR y), vl (ldexpP (polyP (expR y) 14) k) * pw (-k), fl, ?_, ?_, br, er, k1, k2⟩
  · generalize pw (-k) = a at *
    generalize pw k = b at *
    grind
  · have h1 : Wn (vl (ldexpP (polyP (expR y) 14) k) * pw (-k) - vl (polyP (expR y) 14)) (2 * uu * vl (polyP (expR y) 14)) := by
      refine wn_scaled hp ?_
      refine el.of ?_ ?_
      · generalize pw (-k) = a at *
        generalize pw k = b at *
        grind
      · generalize pw k = b at *
        grind
    generalize vl (ldexpP (polyP (expR y) 14) k) * pw (-k) = q at *
    refine (wn_add h1 (show Wn _ (14 * uu) from ⟨p1, p2⟩)).of (by grind) ?_
    rw [u1] at *
    grind
end Go.Proofs.YtcppgbhjbmfldaaDoor

/- On the polar paper latitude and longitude come back. -/
namespace Go.Proofs.YtcppgbhjbmfldaaDoor
open Go.RowKit Go.Fp Go.Fp.Tri Ieee
set_option maxRecDepth 20000

def poleA (e : Nat) : Nat := fdiv (fadd (fmul (fadd Fp.cOne e) (lnP (fadd Fp.cOne e))) (fmul (fsub Fp.cOne e) (lnP (fsub Fp.cOne e)))) wTwo
def poleW (e : Nat) : Nat := expP (poleA e)
def downW (e A I : Nat) : Nat := fdiv (fmul (fmul wTwo A) (expP (negC I))) (poleW e)
end Go.Proofs.YtcppgbhjbmfldaaDoor

/- On the polar paper: how far a place lies from the pole, and that its isometric latitude comes back. -/
namespace Go.Proofs.YtcppgbhjbmfldaaDoor
open Go.RowKit Go.Fp Go.Fp.Tri Ieee
set_option maxRecDepth 20000

end Go.Proofs.YtcppgbhjbmfldaaDoor
