/- The logarithm's series by its coefficients: how it grows within a binade and into the next. -/
import Derived.Test.YtcppgbhjbmfldaaDoorZH
namespace Go.Fp.Tri
open Go.Fp
set_option maxRecDepth 20000
/-! the logarithm's series -/
def PA : List Rat := [0, 2, 0, 2 / 3, 0, 2 / 5, 0, 2 / 7, 0, 2 / 9, 0, 2 / 11, 0, 2 / 13, 0, 2 / 15, 0, 2 / 17, 0, 2 / 19, 0, 2 / 21, 0, 2 / 23]
def PA2 : List Rat := [0, 0, 0, 2 / 3, 0, 2 / 5, 0, 2 / 7, 0, 2 / 9, 0, 2 / 11, 0, 2 / 13, 0, 2 / 15, 0, 2 / 17, 0, 2 / 19, 0, 2 / 21, 0, 2 / 23]
def AA (s : Rat) : Rat := pev PA s
theorem pa2_bd : plip PA2 (172 / 1000) ≤ 62 / 1000 := by decide +kernel
theorem AA_split (s : Rat) : AA s = 2 * s + pev PA2 s := by simp only [AA, PA, PA2, pev]; grind
theorem AA_bd {a b : Rat} (ha : Wn a (172 / 1000)) (hb : Wn b (172 / 1000)) (h : b ≤ a) : 1938 / 1000 * (a - b) ≤ AA a - AA b ∧ AA a - AA b ≤ 2062 / 1000 * (a - b) := by
  have hd : Wn (a - b) (a - b) := ⟨by grind, by grind⟩
  have h1 := (wn_lip PA2 ha hb hd).mono (Rat.mul_le_mul_of_nonneg_left pa2_bd (show 0 ≤ a - b by grind))
  rw [AA_split, AA_split]
  obtain ⟨_, _⟩ := h1
  constructor <;> grind
theorem AA_zero : AA 0 = 0 := by simp only [AA, PA, pev]; grind
/-- root one half as the program has it; ln 2 in two parts -/
def c0 : Rat := 6369051672525773 / 9007199254740992
def lam : Rat := 2977044471 / 4294967296 + 3691024475790907 / 19342813113834066795298816
def sm (m : Rat) : Rat := (m - 1) / (m + 1)
theorem sm_diff {x y : Rat} (hx : 0 < x) (hy : 0 < y) : (sm y - sm x) * ((y + 1) * (x + 1)) = 2 * (y - x) := by
  unfold sm
  have h1 : (y - 1) / (y + 1) * (y + 1) = y - 1 := by grind
  have h2 : (x - 1) / (x + 1) * (x + 1) = x - 1 := by grind
  generalize (y - 1) / (y + 1) = a at *
  generalize (x - 1) / (x + 1) = b at *
  have e : (a - b) * ((y + 1) * (x + 1)) = (a * (y + 1)) * (x + 1) - (b * (x + 1)) * (y + 1) := by grind
  rw [e, h1, h2]
  grind
def InM (m : Rat) : Prop := c0 ≤ m ∧ m ≤ 2 * c0
theorem inM_bd {m : Rat} (h : InM m) : 707 / 1000 ≤ m ∧ m ≤ 1415 / 1000 := by
  obtain ⟨a, b⟩ := h
  unfold c0 at *
  constructor <;> grind
theorem sm_wn {m : Rat} (h : InM m) : Wn (sm m) (172 / 1000) := by
  obtain ⟨a, b⟩ := h
  have h0 : 0 < m + 1 := by unfold c0 at a; grind
  have e : sm m * (m + 1) = m - 1 := by unfold sm; grind
  refine wn_quot (c := m + 1) (c0 := m + 1) h0 Rat.le_refl ?_
  rw [e]
  unfold c0 at *
  constructor <;> grind
theorem lam_bd : 693 / 1000 ≤ lam ∧ lam ≤ 694 / 1000 := by unfold lam; constructor <;> grind
def sA : Rat := 101278749433520851537 / 590295810358705651712
def sB : Rat := -202557498867041624747 / 1180591620717411303424
theorem sA_near : -(1 / 100000000000000000000) ≤ sm (2 * c0) - sA ∧ sm (2 * c0) - sA ≤ (1 / 100000000000000000000 : Rat) := by decide +kernel
theorem sB_near : -(1 / 100000000000000000000) ≤ sm c0 - sB ∧ sm c0 - sB ≤ (1 / 100000000000000000000 : Rat) := by decide +kernel
theorem sAB_lam : -(9 / 10000000000000000) ≤ AA sA - AA sB - lam ∧ AA sA - AA sB - lam ≤ (9 / 10000000000000000 : Rat) := by decide +kernel
theorem AA_lip {a b D : Rat} (ha : Wn a (172 / 1000)) (hb : Wn b (172 / 1000)) (hd : Wn (a - b) D) : Wn (AA a - AA b) (2062 / 1000 * D) := by
  have h1 := (wn_lip PA2 ha hb hd).mono (Rat.mul_le_mul_of_nonneg_left pa2_bd hd.nonneg)
  rw [AA_split, AA_split]
  obtain ⟨_, _⟩ := h1
  obtain ⟨_, _⟩ := hd
  constructor <;> grind
theorem cross_lam' : -(1 / 1000000000000000) ≤ AA (sm (2 * c0)) - AA (sm c0) - lam ∧ AA (sm (2 * c0)) - AA (sm c0) - lam ≤ (1 / 1000000000000000 : Rat) := by
  have h1 := AA_lip (a := sm (2 * c0)) (b := sA) (sm_wn ⟨by unfold c0; grind, Rat.le_refl⟩) (by unfold sA; constructor <;> grind) sA_near
  have h2 := AA_lip (a := sm c0) (b := sB) (sm_wn ⟨Rat.le_refl, by unfold c0; grind⟩) (by unfold sB; constructor <;> grind) sB_near
  have h3 := sAB_lam
  obtain ⟨_, _⟩ := h1
  obtain ⟨_, _⟩ := h2
  obtain ⟨_, _⟩ := h3
  constructor <;> grind
/-- within one binade -/
theorem ell_same {x y : Rat} (hx : InM x) (hy : InM y) (h : x ≤ y) : 93 / 100 * (y - x) ≤ y * (AA (sm y) - AA (sm x)) ∧ x * (AA (sm y) - AA (sm x)) ≤ 104 / 100 * (y - x) := by
  obtain ⟨x1, x2⟩ := inM_bd hx
  obtain ⟨y1, y2⟩ := inM_bd hy
  have hd := sm_diff (x := x) (y := y) (by grind) (by grind)
  have hpos : 0 < (y + 1) * (x + 1) := Rat.mul_pos (by grind) (by grind)
  have hs : sm x ≤ sm y := by
    have : ((y + 1) * (x + 1)) * (sm x) ≤ ((y + 1) * (x + 1)) * (sm y) := by grind
    exact Rat.le_of_mul_le_mul_left this hpos
  obtain ⟨l, u⟩ := AA_bd (sm_wn hy) (sm_wn hx) hs
  generalize sm y - sm x = D at *
  -- y D and x D against y - x
  have q1 : 0 ≤ y - x := by grind
  have lo : 485 / 1000 * (y - x) ≤ y * D := by
    have k : ((y + 1) * (x + 1)) * (485 / 1000 * (y - x)) ≤ ((y + 1) * (x + 1)) * (y * D) := by
      have e : ((y + 1) * (x + 1)) * (y * D) = 2 * y * (y - x) := by
        have : ((y + 1) * (x + 1)) * (y * D) = y * (D * ((y + 1) * (x + 1))) := by grind
        rw [this, hd]; grind
      rw [e]
      have c : 485 / 1000 * ((y + 1) * (x + 1)) ≤ 2 * y := by
        have c1 : (y + 1) * (x + 1) ≤ (y + 1) * (y + 1) := Rat.mul_le_mul_of_nonneg_left (by grind) (by grind)
        have c2 : 0 ≤ (y - 707 / 1000) * (1415 / 1000 - y) := Rat.mul_nonneg (by grind) (by grind)
        grind
      have := Rat.mul_le_mul_of_nonneg_right c q1
      grind
    exact Rat.le_of_mul_le_mul_left k hpos
  have hi : x * D ≤ 502 / 1000 * (y - x) := by
    have k : ((y + 1) * (x + 1)) * (x * D) ≤ ((y + 1) * (x + 1)) * (502 / 1000 * (y - x)) := by
      have e : ((y + 1) * (x + 1)) * (x * D) = 2 * x * (y - x) := by
        have : ((y + 1) * (x + 1)) * (x * D) = x * (D * ((y + 1) * (x + 1))) := by grind
        rw [this, hd]; grind
      rw [e]
      have c : 2 * x ≤ 502 / 1000 * ((y + 1) * (x + 1)) := by
        have c1 : (x + 1) * (x + 1) ≤ (y + 1) * (x + 1) := Rat.mul_le_mul_of_nonneg_right (by grind) (by grind)
        have c2 : 0 ≤ (x - 1) * (x - 1) := by
          rcases Rat.le_total (a := 0) (b := x - 1) with hh | hh
          · exact Rat.mul_nonneg hh hh
          · have := Rat.mul_nonneg (show 0 ≤ 1 - x by grind) (show 0 ≤ 1 - x by grind); grind
        grind
      have := Rat.mul_le_mul_of_nonneg_right c q1
      grind
    exact Rat.le_of_mul_le_mul_left k hpos
  constructor
  · have := Rat.mul_le_mul_of_nonneg_left l (show 0 ≤ y by grind)
    grind
  · have := Rat.mul_le_mul_of_nonneg_left u (show 0 ≤ x by grind)
    grind
theorem inM_c0 : InM c0 := ⟨Rat.le_refl, by unfold c0; grind⟩
theorem inM_2c0 : InM (2 * c0) := ⟨by unfold c0; grind, Rat.le_refl⟩
/-- into the next binade -/
theorem ell_next {x y : Rat} (hx : InM x) (hy : InM y) : 92 / 100 * (2 * y - x) - 1 / 100000000000000 ≤ 2 * y * (lam + AA (sm y) - AA (sm x)) := by
  obtain ⟨l1, _⟩ := ell_same hx inM_2c0 hx.2
  obtain ⟨l2, _⟩ := ell_same inM_c0 hy hy.1
  have j := cross_lam'
  obtain ⟨x1, x2⟩ := inM_bd hx
  obtain ⟨y1, y2⟩ := inM_bd hy
  have hy1 := hy.1
  have hx2 := hx.2
  have c1 : 707 / 1000 ≤ c0 := by unfold c0; grind
  generalize AA (sm (2 * c0)) = p at *
  generalize AA (sm c0) = q at *
  generalize AA (sm x) = a at *
  generalize AA (sm y) = b at *
  generalize c0 = c at *
  have p1 : 0 ≤ p - a := by
    have k : (2 * c) * 0 ≤ (2 * c) * (p - a) := by rw [Rat.mul_zero]; exact Rat.le_trans (by grind) l1
    exact Rat.le_of_mul_le_mul_left k (by grind)
  have t1 : c * (p - a) ≤ y * (p - a) := Rat.mul_le_mul_of_nonneg_right hy1 p1
  have t2 := Rat.mul_le_mul_of_nonneg_left (show -(1 / 1000000000000000 : Rat) ≤ lam - (p - q) by obtain ⟨_, _⟩ := j; grind) (show 0 ≤ y by grind)
  have e : 2 * y * (lam + b - a) = 2 * (y * (b - q)) + 2 * (y * (p - a)) + 2 * (y * (lam - (p - q))) := by grind
  have e2 : 2 * c * (p - a) = 2 * (c * (p - a)) := by grind
  rw [e]
  rw [e2] at l1
  clear e e2 j hx hy
  generalize y * (b - q) = u1 at *
  generalize y * (p - a) = u2 at *
  generalize y * (lam - (p - q)) = u3 at *
  generalize c * (p - a) = u4 at *
  grind
end Go.Fp.Tri

/- The logarithm as a float: how far it is off its series. -/
namespace Go.Fp.Tri
open Go.Fp Ieee
set_option maxRecDepth 20000

theorem v_23 : Fin 4586426698778222948 ∧ vl 4586426698778222948 = 6265877742428516 / 144115188075855872 := vl_const (s := false) (m := 6265877742428516) (k := 57) (by decide +kernel) (by decide +kernel)
theorem v_high : Fin lnHigh ∧ vl lnHigh = 2977044471 / 4294967296 := vl_const (s := false) (m := 6243314766446592) (k := 53) (by decide +kernel) (by decide +kernel)
theorem v_low : Fin lnLow ∧ vl lnLow = 3691024475790907 / 19342813113834066795298816 := vl_const (s := false) (m := 7382048951581814) (k := 85) (by decide +kernel) (by decide +kernel)
/-- the terms, from the last one back -/
def Lp (z : Rat) : Nat → Rat
  | 0 => 1 / 23
  | k + 1 => 1 / ((21 - 2 * (k : Int) : Int) : Rat) + z * Lp z k
theorem AA_Lp (s : Rat) : AA s = 2 * (s * Lp (s * s) 11) := by
  simp only [AA, PA, pev, Lp]
  push_cast
  grind
theorem one_div_bd {n : Int} (h : 1 ≤ n) : 0 ≤ 1 / (n : Rat) ∧ 1 / (n : Rat) ≤ 1 := by
  have a : (1 : Rat) ≤ (n : Rat) := castle (a := 1) h
  have e : 1 / (n : Rat) * (n : Rat) = 1 := by grind
  have hp : 0 < (n : Rat) := by grind
  generalize 1 / (n : Rat) = x at *
  constructor
  · have : (n : Rat) * 0 ≤ (n : Rat) * x := by grind
    exact le_of_scaled hp this
  · have : (n : Rat) * x ≤ (n : Rat) * 1 := by grind
    exact le_of_scaled hp this
theorem Lp_bd {z : Rat} (hz : Wn z (3 / 100)) : ∀ k, k ≤ 11 → Wn (Lp z k) (104 / 100)
  | 0, _ => by unfold Lp; constructor <;> grind
  | k + 1, h => by
    have ih := Lp_bd hz k (by omega)
    obtain ⟨a, b⟩ := one_div_bd (n := 21 - 2 * (k : Int)) (by omega)
    unfold Lp
    exact (wn_add (show Wn (1 / ((21 - 2 * (k : Int) : Int) : Rat)) 1 from ⟨by grind, b⟩) (wn_mul hz ih)).mono (by grind)
theorem Lp_lip {z y D : Rat} (hz : Wn z (3 / 100)) (hy : Wn y (3 / 100)) (hd : Wn (z - y) D) : ∀ k, k ≤ 11 → Wn (Lp z k - Lp y k) (D * (11 / 10))
  | 0, _ => by have := hd.nonneg; unfold Lp; constructor <;> grind
  | k + 1, h => by
    have ih := Lp_lip hz hy hd k (by omega)
    have b := Lp_bd hz k (by omega)
    have := hd.nonneg
    have h := wn_add (wn_mul hd b) (wn_mul hy ih)
    unfold Lp
    exact h.of (by grind) (by grind)
theorem lnS_err {z : Nat} (fz : Fin z) (bz : Wn (vl z) (3 / 100)) : ∀ k, k ≤ 11 → Fin (lnS z k) ∧ Wn (vl (lnS z k) - Lp (vl z) k) (8 * uu)
  | 0, _ => by
    have u1 : uu = 1 / 9007199254740992 := uu_eq
    unfold lnS Lp
    rw [v_23.1.can]
    refine ⟨v_23.1, ?_⟩
    rw [v_23.2, u1]
    constructor <;> grind
  | k + 1, h => by
    have u1 : uu = 1 / 9007199254740992 := uu_eq
    obtain ⟨i1, i2⟩ := lnS_err fz bz k (by omega)
    have lb := Lp_bd bz k (by omega)
    obtain ⟨n, hn⟩ : ∃ n : Int, n = 21 - 2 * (k : Int) := ⟨_, rfl⟩
    obtain ⟨a, b⟩ := one_div_bd (n := n) (by omega)
    obtain ⟨fi, vi⟩ := vl_int n (by omega)
    have hn0 : (1 : Rat) ≤ (n : Rat) := castle (a := 1) (by omega)
    unfold lnS Lp
    rw [← hn, v_one.1.can, fi.can]
    obtain ⟨f1, e1⟩ := divE v_one.1 fi (by rw [vi]; grind) 1 (by rw [v_one.2, vi]; exact ⟨by grind, b⟩) (by grind)
    rw [v_one.2, vi] at e1
    have bl : Wn (vl (lnS z k)) (105 / 100) := (wn_add i2 lb).of (by grind) (by rw [u1]; grind)
    obtain ⟨f2, e2⟩ := mulE fz i1 _ (wn_mul bz bl) (by grind)
    have b2 : Wn (vl (fmul z (lnS z k))) (4 / 100) := (wn_add e2 (wn_mul bz bl)).of (by grind) (by rw [u1]; grind)
    have b1 : Wn (vl (fdiv one1 (floatOfInt .f64 n))) (101 / 100) := (wn_add e1 (show Wn (1 / (n : Rat)) 1 from ⟨by grind, b⟩)).of (by grind) (by rw [u1]; grind)
    obtain ⟨f3, e3⟩ := addE f1 f2 _ (wn_add b1 b2) (by grind)
    refine ⟨f3, ?_⟩
    have h2 := wn_mul bz i2
    exact (wn_add (wn_add e3 e1) (wn_add e2 h2)).of (by grind) (by rw [u1]; grind)
set_option maxHeartbeats 1000000 in
theorem lnQ_err {M : Nat} (fM : Fin M) (hM : InM (vl M)) (k : Int) (hk : -40 ≤ k) (hk2 : k ≤ 40) : Fin (lnQ M k) ∧ Wn (vl (lnQ M k) - ((k : Rat) * lam + AA (sm (vl M)))) (1 / 100000000000000) := by
  have u1 : uu = 1 / 9007199254740992 := uu_eq
  obtain ⟨m1, m2⟩ := inM_bd hM
  have hs := sm_wn hM
  have hsm : sm (vl M) = (vl M - 1) / (vl M + 1) := rfl
  obtain ⟨f1, e1⟩ := subE fM v_one.1 (1 / 2) (by rw [v_one.2]; constructor <;> grind) (by grind)
  obtain ⟨f2, e2⟩ := addE fM v_one.1 (5 / 2) (by rw [v_one.2]; constructor <;> grind) (by grind)
  rw [v_one.2] at e1 e2
  unfold lnQ
  rw [v_one.1.can]
  generalize fsub M one1 = a at *
  generalize fadd M one1 = b at *
  have blo : 17 / 10 ≤ vl b := by have := e2.1; rw [u1] at this; grind
  have ba : Wn (vl a) (1 / 2) := by obtain ⟨_, _⟩ := e1; rw [u1] at *; constructor <;> grind
  have b0 : vl b ≠ 0 := by grind
  have hq : Wn (vl a / vl b) 1 := by
    refine wn_quot (c := vl b) (c0 := 17 / 10) (by grind) blo ?_
    rw [show vl a / vl b * vl b = vl a by grind]
    exact ba.mono (by grind)
  obtain ⟨f3, e3⟩ := divE f1 f2 b0 _ hq (by grind)
  have hm1 : sm (vl M) * (vl M + 1) = vl M - 1 := by rw [hsm]; grind
  have d1 : Wn (vl a / vl b - sm (vl M)) (3 * uu) := by
    refine wn_quot (c := vl b) (c0 := 17 / 10) (by grind) blo ?_
    have h := wn_sub e1 (wn_mul hs e2)
    refine h.of ?_ (by rw [u1]; grind)
    rw [show (vl a / vl b - sm (vl M)) * vl b = vl a - sm (vl M) * vl b by grind]
    grind
  have d2 : Wn (vl (fdiv a b) - sm (vl M)) (6 * uu) := (wn_add e3 d1).of (by grind) (by rw [u1]; grind)
  generalize fdiv a b = S at *
  generalize sm (vl M) = s at *
  have bS : Wn (vl S) (1721 / 10000) := (wn_add d2 hs).of (by grind) (by rw [u1]; grind)
  obtain ⟨f4, e4⟩ := mulE f3 f3 _ (wn_mul bS bS) (by grind)
  have dz := wn_mul d2 (wn_add bS hs)
  have d4 : Wn (vl (fmul S S) - s * s) (4 * uu) := (wn_add e4 dz).of (by grind) (by rw [u1]; grind)
  have bss := wn_mul hs hs
  have bz : Wn (vl (fmul S S)) (3 / 100) := (wn_add d4 bss).of (by grind) (by rw [u1]; grind)
  obtain ⟨f5, e5⟩ := lnS_err f4 bz 11 (by omega)
  have lp := Lp_lip bz (bss.mono (by grind)) d4 11 (by omega)
  have lb := Lp_bd (z := s * s) (bss.mono (by grind)) 11 (by omega)
  rw [AA_Lp]
  generalize Lp (s * s) 11 = P at *
  generalize fmul S S = Z at *
  have d5 : Wn (vl (lnS Z 11) - P) (13 * uu) := (wn_add e5 lp).of (by grind) (by rw [u1]; grind)
  have b5 : Wn (vl (lnS Z 11)) (105 / 100) := (wn_add d5 lb).of (by grind) (by rw [u1]; grind)
  generalize lnS Z 11 = p at *
  obtain ⟨f6, e6⟩ := mulE f3 f5 _ (wn_mul bS b5) (by grind)
  have d6 : Wn (vl (fmul S p) - s * P) (10 * uu) := (wn_add e6 (wn_add (wn_mul bS d5) (wn_mul d2 lb))).of (by grind) (by rw [u1]; grind)
  have bsp := wn_mul hs lb
  have b6 : Wn (vl (fmul S p)) (2 / 10) := (wn_add d6 bsp).of (by grind) (by rw [u1]; grind)
  generalize fmul S p = sp at *
  have vtwo : Fin two ∧ vl two = 2 := v_two
  rw [vtwo.1.can]
  obtain ⟨f7, e7⟩ := mulE vtwo.1 f6 (4 / 10) (by rw [vtwo.2]; obtain ⟨_, _⟩ := b6; constructor <;> grind) (by grind)
  rw [vtwo.2] at e7
  obtain ⟨fk, vk⟩ := vl_int k (by omega)
  have bk : Wn ((k : Int) : Rat) 40 := ⟨castle (a := -40) hk, castle (b := 40) hk2⟩
  rw [fk.can, v_high.1.can, v_low.1.can]
  have bh : Wn (vl lnHigh) (7 / 10) := by rw [v_high.2]; constructor <;> grind
  have bl : Wn (vl lnLow) (1 / 1000000000) := by rw [v_low.2]; constructor <;> grind
  obtain ⟨f8, e8⟩ := mulE fk v_high.1 28 (by rw [vk]; exact (wn_mul bk bh).mono (by grind)) (by grind)
  obtain ⟨f9, e9⟩ := mulE fk v_low.1 1 (by rw [vk]; exact (wn_mul bk bl).mono (by grind)) (by grind)
  rw [vk] at e8 e9
  have bkl := wn_mul bk bl
  have bkh := wn_mul bk bh
  have b7 : Wn (vl (fmul two sp)) (5 / 10) := (wn_add e7 (wn_add b6 b6)).of (by grind) (by rw [u1]; grind)
  have b9 : Wn (vl (fmul (floatOfInt .f64 k) lnLow)) (1 / 1000) := (wn_add e9 bkl).of (by grind) (by rw [u1]; grind)
  have b8 : Wn (vl (fmul (floatOfInt .f64 k) lnHigh)) 29 := (wn_add e8 bkh).of (by grind) (by rw [u1]; grind)
  obtain ⟨f10, e10⟩ := addE f7 f9 _ (wn_add b7 b9) (by grind)
  have b10 : Wn (vl (fadd (fmul two sp) (fmul (floatOfInt .f64 k) lnLow))) (6 / 10) := (wn_add e10 (wn_add b7 b9)).of (by grind) (by rw [u1]; grind)
  obtain ⟨f11, e11⟩ := addE f8 f10 _ (wn_add b8 b10) (by grind)
  refine ⟨f11, ?_⟩
  have hl : lam = vl lnHigh + vl lnLow := by rw [v_high.2, v_low.2]; rfl
  have hh := wn_add (wn_add e11 e10) (wn_add (wn_add e8 e9) (wn_add e7 (wn_add d6 d6)))
  exact hh.of (by rw [hl]; grind) (by rw [u1]; grind)
end Go.Fp.Tri

/- Rounding keeps the order. -/
namespace Go.Fp
open Ieee

theorem natcle {m n : Nat} (h : m ≤ n) : (m : Rat) ≤ (n : Rat) := by exact_mod_cast h
theorem near_zero (base : Int) (s : Bool) : vl (D.nearest s 0 base) = 0 := by
  have e : D.nearest s 0 base = D.word s 0 := by unfold Format.nearest; rw [if_pos rfl]
  rw [e]
  have hr2 := read_word2 s (r := 0) (by omega)
  rw [if_pos (by omega)] at hr2
  rw [vl_of hr2]
  unfold vd
  simp
end Go.Fp

/- The logarithm as a float grows as it should. -/
namespace Go.Fp.Tri
open Go.Fp Ieee
set_option maxRecDepth 20000

/-- a positive number's digits and place for the logarithm -/
theorem ln_form {x : Nat} (fx : Fin x) (h : 0 < vl x) : ∃ (M : Nat) (k : Int), lnP x = lnQ M k ∧ Fin M ∧ c0 ≤ vl M ∧ vl M < 2 * c0 ∧ vl x = vl M * pw k := by
  obtain ⟨s, m, i, hr⟩ := fx
  rw [vl_of hr] at h
  have hs : s = false := by
    cases s
    · rfl
    · exfalso
      rw [vd_sign, if_pos rfl] at h
      have := vd_nonneg m i
      grind
  subst hs
  have hm : m ≠ 0 := by
    rintro rfl
    rw [vd_false] at h
    simp at h
  have hm2 := (read_fields hr).1
  obtain ⟨⟨g1, g2⟩, g3, g4⟩ := midJ_ok hm hm2
  obtain ⟨n1, hn1⟩ : ∃ n : Nat, n = 1021 := ⟨_, rfl⟩
  obtain ⟨n2, hn2⟩ : ∃ n : Nat, n = 1022 := ⟨_, rfl⟩
  rw [← hn1] at g1
  rw [← hn2] at g2
  obtain ⟨m', p, hw, _, _, hp, hv⟩ := W_read hm hm2 (show -1074 ≤ midJ m by omega) (by omega)
  have eW : vl (W m (midJ m)) = (m : Rat) * pw (midJ m) := by
    rw [vl_of hw, vd_shift false hp (by omega) hv, vd_false]
  refine ⟨W m (midJ m), i - midJ m, ?_, ⟨_, _, _, hw⟩, ?_, ?_, ?_⟩
  · unfold lnP
    have hn : isNan x = false := by unfold isNan; rw [hr]; rfl
    have fx : Fin x := ⟨_, _, _, hr⟩
    have h0 : 0 < vl x := by rw [vl_of hr]; exact h
    have o1 : ¬ D.order x 0 = some .lt := fun hh => by
      have := (order_lt fx v_0.1).1 hh
      rw [v_0.2] at this
      grind
    have o2 : ¬ D.order x 0 = some .eq := fun hh => by
      have := (order_eq fx v_0.1).1 hh
      rw [v_0.2] at this
      grind
    rw [if_neg (by rw [hn]; simp [o1]), if_neg o2, hr]
  · rw [eW]
    have k1 := natcle g1
    have e1 : ((m * 2 ^ (midJ m + 1074).toNat : Nat) : Rat) = (m : Rat) * pw (midJ m) * pw 1074 := by
      have hpp : pw (midJ m) * pw 1074 = ((2 ^ (midJ m + 1074).toNat : Nat) : Rat) := by rw [← pw_add, ← pw_nat]; congr 1; omega
      rw [Rat.natCast_mul, ← hpp]
      generalize pw 1074 = z
      grind
    have e2 : ((CR * 2 ^ n1 : Nat) : Rat) = c0 * pw 1074 := by
      have : pw 1074 = pw 53 * ((2 ^ n1 : Nat) : Rat) := by rw [← pw_nat, ← pw_add]; congr 1; omega
      have h53 : pw 53 = 9007199254740992 := by have := pw_nat 53; exact this
      rw [this, h53]
      have : ((CR * 2 ^ n1 : Nat) : Rat) = (CR : Rat) * ((2 ^ n1 : Nat) : Rat) := Rat.natCast_mul _ _
      rw [this]
      generalize ((2 ^ n1 : Nat) : Rat) = z
      have hc : (CR : Rat) = 6369051672525773 := rfl
      rw [hc]
      unfold c0
      grind
    rw [e1, e2] at k1
    have hp := pw_pos 1074
    generalize pw 1074 = z at *
    have : z * c0 ≤ z * ((m : Rat) * pw (midJ m)) := by grind
    exact le_of_scaled hp this
  · rw [eW]
    have k1 : ((m * 2 ^ (midJ m + 1074).toNat : Nat) : Rat) < ((CR * 2 ^ n2 : Nat) : Rat) := Rat.natCast_lt_natCast.2 g2
    have e1 : ((m * 2 ^ (midJ m + 1074).toNat : Nat) : Rat) = (m : Rat) * pw (midJ m) * pw 1074 := by
      have hpp : pw (midJ m) * pw 1074 = ((2 ^ (midJ m + 1074).toNat : Nat) : Rat) := by rw [← pw_add, ← pw_nat]; congr 1; omega
      rw [Rat.natCast_mul, ← hpp]
      generalize pw 1074 = z
      grind
    have e2 : ((CR * 2 ^ n2 : Nat) : Rat) = 2 * c0 * pw 1074 := by
      have : pw 1074 = pw 52 * ((2 ^ n2 : Nat) : Rat) := by rw [← pw_nat, ← pw_add]; congr 1; omega
      have h53 : pw 52 = 4503599627370496 := by have := pw_nat 52; exact this
      rw [this, h53]
      have : ((CR * 2 ^ n2 : Nat) : Rat) = (CR : Rat) * ((2 ^ n2 : Nat) : Rat) := Rat.natCast_mul _ _
      rw [this]
      generalize ((2 ^ n2 : Nat) : Rat) = z
      have hc : (CR : Rat) = 6369051672525773 := rfl
      rw [hc]
      unfold c0
      grind
    rw [e1, e2] at k1
    have hp := pw_pos 1074
    generalize pw 1074 = z at *
    exact Rat.lt_of_mul_lt_mul_right k1 (Rat.le_of_lt hp)
  · rw [eW, vl_of hr, vd_false, show i = midJ m + (i - midJ m) by omega, pw_add]
    rw [show midJ m + (i - midJ m) - midJ m = i - midJ m by omega]
    grind
end Go.Fp.Tri

/- The logarithm grows. -/
namespace Go.Fp.Tri
open Go.Fp Ieee
set_option maxRecDepth 20000

theorem AA_wn {m : Rat} (h : InM m) : Wn (AA (sm m)) (356 / 1000) := by
  have h1 := AA_lip (sm_wn h) (show Wn (0 : Rat) (172 / 1000) from ⟨by grind, by grind⟩) (D := 172 / 1000) ((sm_wn h).of (by grind) Rat.le_refl)
  rw [AA_zero] at h1
  exact h1.of (by grind) (by grind)
theorem lo_same {m m' q K A B : Rat} (hq : 0 < q) (h : m ≤ m') (hm : 0 ≤ m') (l : 93 / 100 * (m' - m) ≤ m' * (B - A)) :
    67 / 100 * (m' * q - m * q) - 1 / 100000000000000 * (m' * q) ≤ m' * q * ((K + B) - (K + A)) := by
  have t := Rat.mul_le_mul_of_nonneg_left l (Rat.le_of_lt hq)
  have q0 : 0 ≤ q * (m' - m) := Rat.mul_nonneg (Rat.le_of_lt hq) (by grind)
  have q1 : 0 ≤ m' * q := Rat.mul_nonneg hm (Rat.le_of_lt hq)
  have e1 : q * (93 / 100 * (m' - m)) = 93 / 100 * (q * (m' - m)) := by grind
  have e2 : m' * q * ((K + B) - (K + A)) = q * (m' * (B - A)) := by grind
  have e3 : m' * q - m * q = q * (m' - m) := by grind
  rw [e1] at t
  rw [e2, e3]
  generalize q * (m' - m) = u at *
  generalize q * (m' * (B - A)) = v at *
  generalize m' * q = w at *
  clear e1 e2 e3 l h hm hq
  grind
theorem lo_next {m m' q K A B : Rat} (hq : 0 < q) (hm : 7 / 10 ≤ m') (h : 0 ≤ 2 * m' - m) (l : 92 / 100 * (2 * m' - m) - 1 / 100000000000000 ≤ 2 * m' * (lam + B - A)) :
    67 / 100 * (m' * (2 * q) - m * q) - 1 / 100000000000000 * (m' * (2 * q)) ≤ m' * (2 * q) * ((K + lam + B) - (K + A)) := by
  have t := Rat.mul_le_mul_of_nonneg_left l (Rat.le_of_lt hq)
  have q0 : 0 ≤ q * (2 * m' - m) := Rat.mul_nonneg (Rat.le_of_lt hq) h
  have q1 := Rat.mul_le_mul_of_nonneg_right hm (Rat.le_of_lt hq)
  have e1 : q * (92 / 100 * (2 * m' - m) - 1 / 100000000000000) = 92 / 100 * (q * (2 * m' - m)) - 1 / 100000000000000 * q := by grind
  have e2 : m' * (2 * q) * ((K + lam + B) - (K + A)) = q * (2 * m' * (lam + B - A)) := by grind
  have e3 : m' * (2 * q) - m * q = q * (2 * m' - m) := by grind
  have e4 : m' * (2 * q) = 2 * (m' * q) := by grind
  rw [e1] at t
  rw [e2, e3, e4]
  generalize q * (2 * m' - m) = u at *
  generalize q * (2 * m' * (lam + B - A)) = v at *
  generalize m' * q = w at *
  clear e1 e2 e3 e4 l h hm
  grind
theorem lo_far {X Y Dd : Rat} (h0 : 0 ≤ X) (h1 : 0 ≤ Y) (h : 67 / 100 ≤ Dd) : 67 / 100 * (Y - X) - 1 / 100000000000000 * Y ≤ Y * Dd := by
  have t := Rat.mul_le_mul_of_nonneg_left h h1
  grind
theorem lo_bad {m m' q p : Rat} (hq : 0 < q) (hp : p ≤ q) (h1 : c0 ≤ m) (hm : 0 ≤ m') (h2 : m' < 2 * c0) (h : m * (q * 2) ≤ m' * p) : False := by
  have t1 := Rat.mul_le_mul_of_nonneg_right h1 (Rat.le_of_lt hq)
  have t2 := Rat.mul_le_mul_of_nonneg_left hp hm
  have t3 : m' * q < 2 * c0 * q := Rat.mul_lt_mul_of_pos_right h2 hq
  have e1 : m * (q * 2) = 2 * (m * q) := by grind
  have e2 : 2 * c0 * q = 2 * (c0 * q) := by grind
  rw [e1] at h
  rw [e2] at t3
  generalize m * q = u at *
  generalize c0 * q = v at *
  generalize m' * q = w at *
  generalize m' * p = z at *
  clear e1 e2
  grind
/-- the logarithm grows -/
theorem ell_lo {m m' : Rat} {k k' : Int} (h1 : c0 ≤ m) (h2 : m < 2 * c0) (h1' : c0 ≤ m') (h2' : m' < 2 * c0) (h : m * pw k ≤ m' * pw k') :
    67 / 100 * (m' * pw k' - m * pw k) - 1 / 100000000000000 * (m' * pw k') ≤ m' * pw k' * (((k' : Rat) * lam + AA (sm m')) - ((k : Rat) * lam + AA (sm m))) := by
  have i1 : InM m := ⟨h1, Rat.le_of_lt h2⟩
  have i2 : InM m' := ⟨h1', Rat.le_of_lt h2'⟩
  obtain ⟨b1, b2⟩ := inM_bd i1
  obtain ⟨b3, b4⟩ := inM_bd i2
  have hp := pw_pos k
  have hp' := pw_pos k'
  have m0 : 0 ≤ m := by clear h i1 i2 h1 h2 h1' h2'; grind
  have m0' : 0 ≤ m' := by clear h i1 i2 h1 h2 h1' h2'; grind
  rcases Int.lt_trichotomy k' k with hk | hk | hk
  · exfalso
    have e : pw k' ≤ pw (k - 1) := pw_mono (by omega)
    have e2 : pw k = pw (k - 1) * 2 := by
      have := pw_add (k - 1) 1
      rw [pw_one, show k - 1 + 1 = k by omega] at this
      exact this
    rw [e2] at h
    exact lo_bad (pw_pos (k - 1)) e h1 m0' h2' h
  · subst hk
    have hmm : m ≤ m' := by
      have : pw k' * m ≤ pw k' * m' := by rw [Rat.mul_comm _ m, Rat.mul_comm _ m']; exact h
      exact le_of_scaled hp this
    exact lo_same hp hmm m0' (ell_same i1 i2 hmm).1
  · rcases Int.lt_or_le (k + 1) k' with hk2 | hk2
    · have B1 := AA_wn i1
      have B2 := AA_wn i2
      obtain ⟨l1, l2⟩ := lam_bd
      have hd : (2 : Rat) ≤ (k' : Rat) - k := by
        have := castle (a := 2) (b := k' - k) (by omega)
        rw [show ((k' - k : Int) : Rat) = (k' : Rat) - k by push_cast; rfl] at this
        exact this
      have hdl := Rat.mul_le_mul_of_nonneg_right hd (show 0 ≤ lam by clear h; grind)
      refine lo_far (Rat.mul_nonneg m0 (Rat.le_of_lt hp)) (Rat.mul_nonneg m0' (Rat.le_of_lt hp')) ?_
      have e : ((k' : Rat) * lam + AA (sm m')) - ((k : Rat) * lam + AA (sm m)) = ((k' : Rat) - k) * lam + (AA (sm m') - AA (sm m)) := by clear h hdl; grind
      rw [e]
      obtain ⟨_, _⟩ := B1
      obtain ⟨_, _⟩ := B2
      clear h h1 h2 h1' h2' i1 i2 e
      generalize AA (sm m) = A at *
      generalize AA (sm m') = B at *
      generalize ((k' : Rat) - k) * lam = u at *
      grind
    · have hk3 : k' = k + 1 := by omega
      subst hk3
      have e2 : pw (k + 1) = 2 * pw k := by rw [pw_add, pw_one, Rat.mul_comm]
      rw [e2]
      have e3 : ((k + 1 : Int) : Rat) * lam = (k : Rat) * lam + lam := by push_cast; clear h; grind
      rw [e3]
      exact lo_next hp (by clear h; grind) (by clear h; grind) (ell_next i1 i2)
end Go.Fp.Tri

/- The sine of a latitude grows. -/
namespace Go.Fp.Tri
open Go.Fp Ieee
set_option maxRecDepth 20000

def PSr : List Rat := [0, 0, 0, -inv 3, 0, inv 5, 0, -inv 7, 0, inv 9, 0, -inv 11, 0, inv 13, 0, -inv 15, 0, inv 17]
def Dr : List Rat := [0, 0, inv 4, -inv 6, inv 8, -inv 10, inv 12, -inv 14, inv 16]
theorem psr_bd : plip PSr (7855 / 10000) ≤ 325 / 1000 := by decide +kernel
theorem dr_bd : plip Dr (62 / 100) ≤ 54 / 1000 := by decide +kernel
theorem i2 : inv 2 = 1 / 2 := by decide +kernel
theorem S_split (x : Rat) : S x = x + pev PSr x := by simp only [S, PS, PSr, pev]; grind
theorem C_split (x : Rat) : C x = 1 - 1 / 2 * (x * x) + pev Dr (x * x) := by simp only [C, PC, Dr, pev]; rw [i2]; grind
theorem S_grow {x y : Rat} (hx : Wn x (7855 / 10000)) (hy : Wn y (7855 / 10000)) (h : x ≤ y) : 675 / 1000 * (y - x) ≤ S y - S x := by
  have hd : Wn (y - x) (y - x) := ⟨by grind, by grind⟩
  have h1 := (wn_lip PSr hy hx hd).mono (Rat.mul_le_mul_of_nonneg_left psr_bd (show 0 ≤ y - x by grind))
  rw [S_split, S_split]
  obtain ⟨_, _⟩ := h1
  grind
theorem C_grow {x y : Rat} (hx : Wn x (7855 / 10000)) (h : x ≤ y) (hy : y ≤ 0) : 446 / 1000 * ((y - x) * (-x - y)) ≤ C y - C x := by
  have hy' : Wn y (7855 / 10000) := ⟨by have := hx.1; grind, by grind⟩
  have q0 : 0 ≤ (y - x) * (-x - y) := Rat.mul_nonneg (by grind) (by grind)
  have e : x * x - y * y = (y - x) * (-x - y) := by grind
  have hd : Wn (x * x - y * y) ((y - x) * (-x - y)) := by rw [e]; exact ⟨by grind, by grind⟩
  have h1 := (wn_lip Dr ((wn_mul hx hx).mono (by grind)) ((wn_mul hy' hy').mono (by grind)) hd).mono (Rat.mul_le_mul_of_nonneg_left dr_bd q0)
  rw [C_split, C_split]
  obtain ⟨_, _⟩ := h1
  generalize pev Dr (x * x) = a at *
  generalize pev Dr (y * y) = b at *
  generalize (y - x) * (-x - y) = d at *
  clear hd
  grind
/-- from the equator on -/
theorem grow_lo {m t : Int} (hm : 0 ≤ m) (h : m ≤ t) (ht : t < 45000000000) : 39 / 1000 * (((t : Rat) - m) * rho) ≤ sI t - sI m := by
  rw [sI_lo hm (by omega), sI_lo (by omega) ht]
  have a := castle h
  have q0 := Rat.mul_nonneg (show 0 ≤ (t : Rat) - m by grind) (Rat.le_of_lt rho_pos)
  have g := S_grow (arg_bd (r := m) (by omega) (by omega)) (arg_bd (r := t) (by omega) (by omega)) (by
    have : (m : Rat) * rho ≤ (t : Rat) * rho := Rat.mul_le_mul_of_nonneg_right a (Rat.le_of_lt rho_pos)
    exact this)
  grind
theorem grow_hi {m t : Int} (hm : 45000000000 ≤ m) (hm2 : m ≤ 85000000000) (h : m ≤ t) (ht : t ≤ 90000000000) : 38 / 1000 * (((t : Rat) - m) * rho) ≤ sI t - sI m := by
  rw [sI_hi hm, sI_hi (by omega)]
  have a := castle h
  have b := castle ht
  have c := castle hm2
  have r0 := rho_pos
  have q0 := Rat.mul_nonneg (show 0 ≤ (t : Rat) - m by grind) (Rat.le_of_lt r0)
  have e1 : ((m - 90000000000 : Int) : Rat) * rho = (m : Rat) * rho - 90000000000 * rho := by push_cast; grind
  have e2 : ((t - 90000000000 : Int) : Rat) * rho = (t : Rat) * rho - 90000000000 * rho := by push_cast; grind
  have k1 : (m : Rat) * rho ≤ (t : Rat) * rho := Rat.mul_le_mul_of_nonneg_right a (Rat.le_of_lt r0)
  have k2 : (t : Rat) * rho ≤ 90000000000 * rho := Rat.mul_le_mul_of_nonneg_right b (Rat.le_of_lt r0)
  have k3 : (m : Rat) * rho ≤ 85000000000 * rho := Rat.mul_le_mul_of_nonneg_right c (Rat.le_of_lt r0)
  have k4 : (872 / 10000 : Rat) ≤ 5000000000 * rho := by unfold rho; grind
  have g := C_grow (x := ((m - 90000000000 : Int) : Rat) * rho) (y := ((t - 90000000000 : Int) : Rat) * rho) (arg_bd (r := m - 90000000000) (by omega) (by omega)) (by rw [e1, e2]; grind) (by rw [e2]; grind)
  have hs : 872 / 10000 ≤ -(((m - 90000000000 : Int) : Rat) * rho) - ((t - 90000000000 : Int) : Rat) * rho := by rw [e1, e2]; grind
  have e3 : ((t - 90000000000 : Int) : Rat) * rho - ((m - 90000000000 : Int) : Rat) * rho = ((t : Rat) - m) * rho := by rw [e1, e2]; grind
  rw [e3] at g
  have := Rat.mul_le_mul_of_nonneg_left hs q0
  generalize C (((t - 90000000000 : Int) : Rat) * rho) = u at *
  generalize C (((m - 90000000000 : Int) : Rat) * rho) = v at *
  generalize ((t : Rat) - m) * rho = d at *
  generalize -(((m - 90000000000 : Int) : Rat) * rho) - ((t - 90000000000 : Int) : Rat) * rho = w at *
  clear e1 e2 e3 k1 k2 k3 a b c
  grind
theorem grow0 {m t : Int} (hm : 0 ≤ m) (hm2 : m ≤ 85000000000) (h : m ≤ t) (ht : t ≤ 90000000000) : 38 / 1000 * (((t : Rat) - m) * rho) - 1 / 1000000000000000 ≤ sI t - sI m := by
  have q := fun (a b : Int) (h : a ≤ b) => Rat.mul_nonneg (show 0 ≤ (b : Rat) - a by have := castle h; grind) (Rat.le_of_lt rho_pos)
  rcases Int.lt_or_le m 45000000000 with h1 | h1
  · rcases Int.lt_or_le t 45000000000 with h2 | h2
    · have := grow_lo hm h h2
      have := q m t h
      grind
    · -- over the eighth
      have g1 := S_grow (x := (m : Rat) * rho) (y := oct) (arg_bd (r := m) (by omega) (by omega)) wn_oct (by
        have := castle (Int.le_of_lt h1)
        have := Rat.mul_le_mul_of_nonneg_right this (Rat.le_of_lt rho_pos)
        exact this)
      have g2 := grow_hi (m := 45000000000) (t := t) (by omega) (by omega) h2 ht
      have j := at_oct
      have e : sI 45000000000 = C oct := by rw [sI_hi (by omega), ← C_even]; congr 1; unfold oct; push_cast; grind
      rw [e] at g2
      rw [sI_lo hm h1]
      have e2 : oct - (m : Rat) * rho = (45000000000 - (m : Rat)) * rho := by unfold oct; grind
      have e3 : (((45000000000 : Int) : Rat)) = 45000000000 := rfl
      rw [e2] at g1
      rw [e3] at g2
      have q1 := q m 45000000000 (by omega)
      rw [e3] at q1
      have e4 : ((t : Rat) - m) * rho = ((t : Rat) - 45000000000) * rho + (45000000000 - (m : Rat)) * rho := by grind
      rw [e4]
      obtain ⟨_, _⟩ := j
      clear e e2 e3 e4 q
      generalize ((t : Rat) - 45000000000) * rho = u at *
      generalize (45000000000 - (m : Rat)) * rho = v at *
      generalize S ((m : Rat) * rho) = a at *
      generalize S oct = b at *
      generalize C oct = c at *
      grind
  · have := grow_hi h1 hm2 h ht
    grind
theorem sI_zero : sI 0 = 0 := by
  rw [sI_lo (by omega) (by omega)]
  have e : ((0 : Int) : Rat) * rho = 0 := by have : ((0 : Int) : Rat) = 0 := rfl; rw [this]; grind
  rw [e]
  simp only [S, PS, pev]
  grind
/-- of two latitudes, one of them not far north or south, the sine of the northern one is greater -/
theorem sin_grow {m t : Int} (hm : -90000000000 ≤ m) (h : m ≤ t) (ht : t ≤ 90000000000) (hn : (-85000000000 ≤ m ∧ m ≤ 85000000000) ∨ (-85000000000 ≤ t ∧ t ≤ 85000000000)) :
    38 / 1000 * (((t : Rat) - m) * rho) - 4 / 1000000000000000 ≤ sI t - sI m := by
  rcases Int.lt_or_le m 0 with h1 | h1
  · have o1 := (sI_odd (m := -m) (by omega) (by omega)).1
    rw [Int.neg_neg] at o1
    rcases Int.lt_or_le t 0 with h2 | h2
    · have o2 := (sI_odd (m := -t) (by omega) (by omega)).1
      rw [Int.neg_neg] at o2
      have g := grow0 (m := -t) (t := -m) (by omega) (by omega) (by omega) (by omega)
      have e : (((-m : Int) : Rat) - ((-t : Int) : Rat)) * rho = ((t : Rat) - m) * rho := by push_cast; grind
      rw [e] at g
      obtain ⟨_, _⟩ := o1
      obtain ⟨_, _⟩ := o2
      grind
    · have g1 := grow0 (m := 0) (t := -m) (by omega) (by omega) (by omega) (by omega)
      have g2 := grow0 (m := 0) (t := t) (by omega) (by omega) h2 ht
      rw [sI_zero] at g1 g2
      have e0 : ((0 : Int) : Rat) = 0 := rfl
      rw [e0] at g1 g2
      have e : (((-m : Int) : Rat) - 0) * rho + ((t : Rat) - 0) * rho = ((t : Rat) - m) * rho := by push_cast; grind
      rw [← e]
      obtain ⟨_, _⟩ := o1
      grind
  · have := grow0 h1 (by omega) h ht
    grind
/-- and so the float's -/
theorem sinP_grow {m t : Int} (hm : -90000000000 ≤ m) (h : m ≤ t) (ht : t ≤ 90000000000) (hn : (-85000000000 ≤ m ∧ m ≤ 85000000000) ∨ (-85000000000 ≤ t ∧ t ≤ 85000000000)) :
    38 / 1000 * (((t : Rat) - m) * rho) - 25 / 1000000000000000 ≤ vl (sinP t) - vl (sinP m) := by
  have g := sin_grow hm h ht hn
  obtain ⟨⟨_, e1⟩, _⟩ := trig_lat (a := m) hm (by omega)
  obtain ⟨⟨_, e2⟩, _⟩ := trig_lat (a := t) (by omega) ht
  obtain ⟨_, _⟩ := e1
  obtain ⟨_, _⟩ := e2
  grind
end Go.Fp.Tri

/- The logarithm of what is above by what is below: how it grows. -/
namespace Go.Fp.Tri
open Go.Fp Ieee
set_option maxRecDepth 20000

/-- (1 + s) / (1 - s), as floats -/
def ratW (s : Nat) : Nat := fdiv (fadd one1 s) (fsub one1 s)
theorem ratW_near2 {s : Nat} (fs : Fin s) (bs : Wn (vl s) (9999 / 10000)) : Fin (ratW s) ∧ 0 < vl (ratW s) ∧ Wn (vl (ratW s) * (1 - vl s) - (1 + vl s)) (42 / 10 * uu * (1 + vl s)) := by
  have u1 : uu = 1 / 9007199254740992 := uu_eq
  have het : eta ≤ uu / 1000000000000 := by
    have h1 : eta ≤ pw (-100) := pw_mono (by decide)
    have h2 : pw (-100) * 1267650600228229401496703205376 = 1 := by
      have h := pw_add (-100) 100
      rw [show (-100 + 100 : Int) = 0 by decide, pw_zero] at h
      have h3 : pw 100 = 1267650600228229401496703205376 := by have := pw_nat 100; exact this
      rw [h3] at h
      exact h.symm
    rw [u1]
    generalize pw (-100) = z at *
    grind
  have p0 : 1 / 10000 ≤ 1 + vl s := by have := bs.1; grind
  have q0 : 1 / 10000 ≤ 1 - vl s := by have := bs.2; grind
  have p2 : 1 + vl s ≤ 2 := by have := bs.2; grind
  have q2 : 1 - vl s ≤ 2 := by have := bs.1; grind
  obtain ⟨f1, e1⟩ := fadd_err v_one.1 fs (1 + vl s) (by rw [v_one.2]; constructor <;> grind) (big_le' (by grind))
  obtain ⟨f2, e2⟩ := fsub_err v_one.1 fs (1 - vl s) (by rw [v_one.2]; constructor <;> grind) (big_le' (by grind))
  rw [v_one.2] at e1 e2
  unfold ratW
  generalize fadd one1 s = a at *
  generalize fsub one1 s = b at *
  generalize 1 + vl s = p at *
  generalize 1 - vl s = q at *
  have ea : Wn (vl a - p) (uu * (p * (101 / 100))) := e1.mono (by rw [u1] at *; grind)
  have eb : Wn (vl b - q) (uu * (q * (101 / 100))) := e2.mono (by rw [u1] at *; grind)
  have a1 : p * (999 / 1000) ≤ vl a := by have := ea.1; rw [u1] at this; grind
  have a2 : vl a ≤ p * (1001 / 1000) := by have := ea.2; rw [u1] at this; grind
  have b1 : q * (999 / 1000) ≤ vl b := by have := eb.1; rw [u1] at this; grind
  have b2 : vl b ≤ q * (1001 / 1000) := by have := eb.2; rw [u1] at this; grind
  have b0 : vl b ≠ 0 := by grind
  obtain ⟨R, hR⟩ : ∃ R, R = vl a / vl b := ⟨_, rfl⟩
  have hRb : R * vl b = vl a := by rw [hR]; grind
  have R0 : 0 ≤ R := by
    have : vl b * 0 ≤ vl b * R := by grind
    exact le_of_scaled (by grind) this
  have R1 : R ≤ 30000 := by
    have : vl b * R ≤ vl b * 30000 := by grind
    exact le_of_scaled (by grind) this
  obtain ⟨f3, e3⟩ := fdiv_err f1 f2 b0 R (by rw [← hR]; constructor <;> grind) (big_le (by grind))
  rw [← hR] at e3
  have R2 : 1 / 100000 ≤ R := by
    have : vl b * (1 / 100000) ≤ vl b * R := by grind
    exact le_of_scaled (by grind) this
  have e3' : Wn (vl (fdiv a b) - R) (R * (201 / 100 * uu)) := e3.mono (by rw [u1] at *; grind)
  generalize fdiv a b = Y at *
  refine ⟨f3, ?_, ?_⟩
  · have := e3'.1
    rw [u1] at this
    grind
  · -- Y q - p = (Y - R) q + R (q - b) + (a - p)
    have Rq : R * q ≤ p * (101 / 100) := by
      have h1 := Rat.mul_le_mul_of_nonneg_left b1 R0
      grind
    have Rq0 : 0 ≤ R * q := Rat.mul_nonneg R0 (by grind)
    have t1 := wn_mul e3' (show Wn q q from ⟨by grind, by grind⟩)
    have t2 := wn_mul (show Wn R R from ⟨by grind, by grind⟩) eb
    have h := wn_add (wn_sub t1 t2) ea
    refine h.of ?_ ?_
    · grind
    · rw [u1]
      grind
theorem ratW_near {s : Nat} (fs : Fin s) (bs : Wn (vl s) (9999 / 10000)) : Fin (ratW s) ∧ 0 < vl (ratW s) ∧ Wn (vl (ratW s) * (1 - vl s) - (1 + vl s)) (8 * uu * (1 + vl s)) := by
  obtain ⟨f, p, w⟩ := ratW_near2 fs bs
  refine ⟨f, p, w.mono ?_⟩
  have := bs.1
  rw [uu_eq]
  grind
theorem place_bd (M : Nat) (k : Int) (v : Rat) (h1 : c0 ≤ vl M) (h2 : vl M < 2 * c0) (h3 : v = vl M * pw k) (h4 : 1 / 100000000 ≤ v) (h5 : v ≤ 100000000) : -40 ≤ k ∧ k ≤ 40 := by
  have hp := pw_pos k
  have c1 : 7 / 10 ≤ c0 := by unfold c0; grind
  have c2 : c0 ≤ 8 / 10 := by unfold c0; grind
  constructor
  · rcases Int.lt_or_le k (-40) with hk | hk
    · exfalso
      have e : pw k ≤ pw (-40) := pw_mono (by omega)
      have e2 : pw (-40) * 1099511627776 = 1 := by
        have h := pw_add (-40) 40
        rw [show (-40 + 40 : Int) = 0 by decide, pw_zero] at h
        have h3 : pw 40 = 1099511627776 := by have := pw_nat 40; exact this
        rw [h3] at h
        exact h.symm
      have t := Rat.mul_le_mul_of_nonneg_right (show vl M ≤ 2 by grind) (Rat.le_of_lt hp)
      generalize pw (-40) = z at *
      generalize pw k = w at *
      clear h1 h2
      grind
    · exact hk
  · rcases Int.lt_or_le 40 k with hk | hk
    · exfalso
      have e : pw 40 ≤ pw k := pw_mono (by omega)
      have h3' : pw 40 = 1099511627776 := by have := pw_nat 40; exact this
      rw [h3'] at e
      have t := Rat.mul_le_mul_of_nonneg_right (show 7 / 10 ≤ vl M by grind) (Rat.le_of_lt hp)
      generalize pw k = w at *
      clear h1 h2
      grind
    · exact hk
/-- what the logarithm grows by, at least -/
theorem lnW_lo {x y : Nat} (fx : Fin x) (fy : Fin y) (x0 : 0 < vl x) (h : vl x ≤ vl y) (xlo : 1 / 100000000 ≤ vl x) (yhi : vl y ≤ 100000000) :
    Fin (lnP x) ∧ Fin (lnP y) ∧ 67 / 100 * (vl y - vl x) - 4 / 100000000000000 * vl y ≤ vl y * (vl (lnP y) - vl (lnP x)) := by
  have y0 : 0 < vl y := by grind
  obtain ⟨M, k, e1, f1, l1, l2, v1⟩ := ln_form fx x0
  obtain ⟨M', k', e2, f2, l3, l4, v2⟩ := ln_form fy y0
  obtain ⟨ka, kb1⟩ := place_bd M k _ l1 l2 v1 xlo (by grind)
  obtain ⟨kc, kd⟩ := place_bd M' k' _ l3 l4 v2 (by grind) yhi
  obtain ⟨g1, g2⟩ := lnQ_err f1 ⟨l1, Rat.le_of_lt l2⟩ k ka kb1
  obtain ⟨g3, g4⟩ := lnQ_err f2 ⟨l3, Rat.le_of_lt l4⟩ k' kc kd
  have L := ell_lo l1 l2 l3 l4 (show vl M * pw k ≤ vl M' * pw k' by rw [← v1, ← v2]; exact h)
  rw [← v1, ← v2] at L
  rw [e1, e2]
  refine ⟨g1, g3, ?_⟩
  clear v1 v2 l1 l2 l3 l4
  generalize (k : Rat) * lam + AA (sm (vl M)) = A at *
  generalize (k' : Rat) * lam + AA (sm (vl M')) = B at *
  generalize vl (lnQ M k) = p at *
  generalize vl (lnQ M' k') = q at *
  have t : -(2 / 100000000000000) ≤ (q - p) - (B - A) := by
    obtain ⟨_, _⟩ := g2
    obtain ⟨_, _⟩ := g4
    grind
  have t2 := Rat.mul_le_mul_of_nonneg_left t (Rat.le_of_lt y0)
  generalize vl y = Y at *
  generalize vl x = X at *
  have e : Y * (q - p - (B - A)) = Y * (q - p) - Y * (B - A) := by grind
  rw [e] at t2
  generalize Y * (q - p) = u at *
  generalize Y * (B - A) = v at *
  clear g2 g4 t
  grind
/-- how great a logarithm is -/
theorem lnP_bd {x : Nat} (fx : Fin x) (xlo : 1 / 100000000 ≤ vl x) (xhi : vl x ≤ 100000000) : Fin (lnP x) ∧ Wn (vl (lnP x)) 29 := by
  have x0 : 0 < vl x := by grind
  obtain ⟨M, k, e1, f1, l1, l2, v1⟩ := ln_form fx x0
  obtain ⟨ka, kb⟩ := place_bd M k _ l1 l2 v1 xlo xhi
  have i1 : InM (vl M) := ⟨l1, Rat.le_of_lt l2⟩
  obtain ⟨g1, g2⟩ := lnQ_err f1 i1 k ka kb
  rw [e1]
  refine ⟨g1, ?_⟩
  have bk : Wn ((k : Int) : Rat) 40 := ⟨castle (a := -40) ka, castle (b := 40) kb⟩
  have bl : Wn lam (694 / 1000) := by obtain ⟨a, b⟩ := lam_bd; constructor <;> grind
  exact (wn_add g2 (wn_add (wn_mul bk bl) (AA_wn i1))).of (by clear v1 l1 l2 i1; grind) (by clear v1 l1 l2 i1; grind)
end Go.Fp.Tri

/- Square roots of any size. -/
namespace Go.Fp
open Ieee
set_option maxRecDepth 20000

theorem fsqrt_pos {x : Nat} (hx : Fin x) (h1 : 0 < vl x) (h2 : vl x ≤ pw 1000) : Fin (fsqrt x) ∧ 0 ≤ vl (fsqrt x) ∧ Wn (vl (fsqrt x) * vl (fsqrt x) - vl x) (8 * uu * vl x) := by
  obtain ⟨s, m, i, hx⟩ := hx
  rw [vl_of hx] at *
  have hs : s = false := by
    cases s
    · rfl
    · exfalso
      rw [vd_sign, if_pos rfl] at h1
      have := vd_nonneg m i
      grind
  subst hs
  have hm : m ≠ 0 := by
    rintro rfl
    rw [vd_false] at h1
    simp at h1
  obtain ⟨mo, hmo⟩ : ∃ k, k = 2 * 54 - m.log2 + ((i - ((2 * 54 - m.log2 : Nat) : Int)) % 2).toNat := ⟨_, rfl⟩
  have hev : (i - (mo : Int)) / 2 + (i - (mo : Int)) / 2 = i - (mo : Int) := by omega
  have hn : 2 ^ 108 ≤ m <<< mo := by
    have hne : m <<< mo ≠ 0 := by rw [Nat.shiftLeft_eq]; exact Nat.mul_ne_zero hm (by have := Nat.two_pow_pos mo; omega)
    rw [← Nat.le_log2 hne, log2_shift_le m mo hm]
    omega
  obtain ⟨W, b, hW, hb, hW54, hWn, hQ⟩ := root_parts (m <<< mo) hn
  obtain ⟨h, hh⟩ : ∃ h, h = (i - (mo : Int)) / 2 := ⟨_, rfl⟩
  have e : fsqrt x = D.nearest false (2 * W + b) (h - 1) := by
    unfold fsqrt Format.sqrt
    rw [hx]
    unfold Datum.root
    dsimp only
    rw [if_neg hm, if_neg (by decide)]
    have hD : 2 * (D.fractionBits + 2) = 2 * 54 := rfl
    rw [hD, ← hmo, hW, hb, ← hh]
    rfl
  rw [e]
  have hv : vd false m i = ((m <<< mo : Nat) : Rat) * pw h * pw h := by
    rw [vd_false, Nat.shiftLeft_eq, show i = (mo : Int) + (h + h) by omega, pw_add, pw_nat, pw_add]
    push_cast
    grind
  have hw0 := cast_pos (show W ≠ 0 by omega)
  have hb0 : (0 : Rat) ≤ (b : Rat) := by exact_mod_cast Nat.zero_le b
  have hq : vd false (2 * W + b) (h - 1) = ((W : Rat) + (b : Rat) / 2) * pw h := by
    rw [vd_false, show h - 1 = (-1) + h by omega, pw_add, pw_neg1]
    push_cast
    grind
  have hWs : (W : Rat) * 18014398509481984 ≤ ((m <<< mo : Nat) : Rat) := by
    have : W * 18014398509481984 ≤ W * W := Nat.mul_le_mul_left W hW54
    have h' : W * 18014398509481984 ≤ m <<< mo := Nat.le_trans this hWn
    exact_mod_cast h'
  have hN1 : (1 : Rat) * 18014398509481984 ≤ ((m <<< mo : Nat) : Rat) := by
    have h' : 1 * 18014398509481984 ≤ m <<< mo := Nat.le_trans (by decide) hn
    exact_mod_cast h'
  have hv0 := hv
  rw [hv] at h1 h2 ⊢
  have hph := pw_pos h
  generalize ((m <<< mo : Nat) : Rat) = N at *
  obtain ⟨Q, hQe⟩ : ∃ Q, Q = (W : Rat) + (b : Rat) / 2 := ⟨_, rfl⟩
  rw [← hQe] at hQ hq
  have hQ0 : 0 < Q := by rw [hQe]; grind
  obtain ⟨q, hqe⟩ : ∃ q, q = Q * pw h := ⟨_, rfl⟩
  rw [← hqe] at hq
  have hq0 : 0 < q := by rw [hqe]; exact Rat.mul_pos hQ0 hph
  obtain ⟨v, hve⟩ : ∃ v, v = N * pw h * pw h := ⟨_, rfl⟩
  rw [← hve] at h1 h2 ⊢
  -- the root's square is near
  have hqq : Wn (q * q - v) (uu * v) := by
    have hpp := Rat.mul_pos hph hph
    have e1 : q * q - v = (Q * Q - N) * (pw h * pw h) := by rw [hqe, hve]; grind
    have e2 : uu * v = (uu * N) * (pw h * pw h) := by rw [hve]; grind
    have hQ' : Wn (Q * Q - N) (uu * N) := hQ.mono (by rw [uu_eq]; grind)
    rw [e1, e2]
    obtain ⟨a1, a2⟩ := hQ'
    have m1 := Rat.mul_le_mul_of_nonneg_right a1 (Rat.le_of_lt hpp)
    have m2 := Rat.mul_le_mul_of_nonneg_right a2 (Rat.le_of_lt hpp)
    constructor <;> grind
  have huv : uu * v ≤ v / 1000 := by rw [uu_eq]; grind
  have hvlo : pw (-1074) ≤ v := by
    rw [hve, ← hv0, vd_false]
    have hm1 : (1 : Rat) ≤ (m : Rat) := by
      have := natcle (m := 1) (n := m) (by omega)
      exact this
    have hpi : pw (-1074) ≤ pw i := pw_mono (read_fields hx).2.1
    have hp0 := pw_pos i
    have := Rat.mul_le_mul_of_nonneg_right hm1 (Rat.le_of_lt hp0)
    generalize pw (-1074) = z at *
    generalize pw i = y at *
    grind
  have hqlo : pw (-538) ≤ q := by
    rcases Rat.le_total (a := pw (-538)) (b := q) with h' | h'
    · exact h'
    · exfalso
      have e1 : pw (-1074) = pw (-538) * pw (-538) * 4 := by
        rw [← pw_add]
        have : pw 2 = 4 := by have := pw_nat 2; exact this
        rw [← this, ← pw_add]
        congr 1
      have t1 := Rat.mul_le_mul_of_nonneg_left h' (Rat.le_of_lt hq0)
      have t2 := Rat.mul_le_mul_of_nonneg_right h' (Rat.le_of_lt (pw_pos (-538)))
      have hp := pw_pos (-538)
      have hpp := Rat.mul_pos hp hp
      have := hqq.1
      rw [e1] at hvlo
      generalize pw (-538) = z at *
      grind
  have hqhi : q ≤ pw 1001 := by
    have h1001 : pw 1001 = pw 1000 * 2 := by rw [show (1001 : Int) = 1000 + 1 by decide, pw_add, pw_one]
    have h1000 : 1 ≤ pw 1000 := by have := pw_mono (show (0 : Int) ≤ 1000 by decide); rw [pw_zero] at this; exact this
    rcases Rat.le_total (a := q) (b := 1) with h' | h'
    · rw [h1001]; generalize pw 1000 = z at *; grind
    · have := Rat.mul_le_mul_of_nonneg_left h' (Rat.le_of_lt hq0)
      have := hqq.2
      rw [h1001]; generalize pw 1000 = z at *; grind
  obtain ⟨m', p', hr, hp', hw⟩ := near_err false (2 * W + b) (h - 1) (vd_bound (by rw [hq]; exact Rat.le_trans hqhi (pw_mono (by decide))))
  rw [hq, ← vl_of hr] at hw
  have het : eta ≤ uu * q := by
    have e1 : eta ≤ uu * pw (-538) := by
      unfold eta uu
      rw [← pw_add]
      exact pw_mono (by decide)
    have e2 := Rat.mul_le_mul_of_nonneg_left hqlo (Rat.le_of_lt uu_pos)
    exact Rat.le_trans e1 e2
  refine ⟨⟨_, _, _, hr⟩, ?_, ?_⟩
  · have := hw.1
    rw [uu_eq] at *
    grind
  · generalize vl (D.nearest false (2 * W + b) (h - 1)) = r at *
    have hrq : Wn (r - q) (2 * uu * q) := hw.mono (by grind)
    have hrq2 : Wn (r + q) (3 * q) := by
      obtain ⟨a1, a2⟩ := hrq
      rw [uu_eq] at *
      constructor <;> grind
    have hm' := wn_mul hrq hrq2
    have e1 : (r - q) * (r + q) = r * r - q * q := by grind
    rw [e1] at hm'
    have e2 : 2 * uu * q * (3 * q) = 6 * (uu * (q * q)) := by grind
    rw [e2] at hm'
    have hu2 : uu * (q * q) ≤ uu * (v + v / 1000) := Rat.mul_le_mul_of_nonneg_left (by have := hqq.2; grind) (Rat.le_of_lt uu_pos)
    have e3 : uu * (v + v / 1000) = uu * v + uu * v / 1000 := by grind
    rw [e3] at hu2
    have huv0 : 0 ≤ uu * v := Rat.mul_nonneg (Rat.le_of_lt uu_pos) (by grind)
    have e4 : 8 * uu * v = 8 * (uu * v) := by grind
    rw [e4]
    obtain ⟨a1, a2⟩ := hqq
    obtain ⟨b1, b2⟩ := hm'
    generalize uu * v = y at *
    constructor <;> grind
end Go.Fp

/- The isometric latitude as a float grows. -/
namespace Go.Fp.Tri
open Go.Fp Ieee
set_option maxRecDepth 20000

theorem ratio_up {Y Y' p q p' q' D r ε : Rat} (hε : 0 ≤ ε) (hr : r * Y' = Y) (hr0 : 0 ≤ r) (q0 : 0 < q) (p0' : 0 < p') (q0' : 0 < q')
    (h1 : Y * q ≤ p * (1 + ε)) (h2 : p' * (1 - ε) ≤ Y' * q') (hK : q * p' - p * q' = 2 * D) (hD : 0 ≤ D) (hK4 : q * p' ≤ 4) : r * (1 - ε) ≤ (1 - D / 2) * (1 + ε) := by
  have K0 : 0 < q * p' := Rat.mul_pos q0 p0'
  have s1 : r * (p' * (1 - ε)) ≤ r * (Y' * q') := Rat.mul_le_mul_of_nonneg_left h2 hr0
  have e1 : r * (Y' * q') = Y * q' := by rw [← hr]; grind
  rw [e1] at s1
  have s2 : q * (r * (p' * (1 - ε))) ≤ q * (Y * q') := Rat.mul_le_mul_of_nonneg_left s1 (Rat.le_of_lt q0)
  have s3 : Y * q * q' ≤ p * (1 + ε) * q' := Rat.mul_le_mul_of_nonneg_right h1 (Rat.le_of_lt q0')
  have e2 : q * (Y * q') = Y * q * q' := by grind
  rw [e2] at s2
  have s4 := Rat.le_trans s2 s3
  have e3 : p * (1 + ε) * q' = (q * p' - 2 * D) * (1 + ε) := by
    have : p * q' = q * p' - 2 * D := by grind
    have h : p * (1 + ε) * q' = (p * q') * (1 + ε) := by grind
    rw [h, this]
  have e4 : q * (r * (p' * (1 - ε))) = (q * p') * (r * (1 - ε)) := by grind
  rw [e3, e4] at s4
  have s5 : (q * p' - 2 * D) ≤ (q * p') * (1 - D / 2) := by
    have := Rat.mul_le_mul_of_nonneg_right hK4 hD
    have e : (q * p') * (1 - D / 2) = q * p' - (q * p' * D) / 2 := by grind
    rw [e]
    grind
  have s6 := Rat.mul_le_mul_of_nonneg_right s5 (show 0 ≤ 1 + ε by clear s4 s5 s3 s2 s1 h1 h2; grind)
  have s7 := Rat.le_trans s4 s6
  have e5 : (q * p') * (1 - D / 2) * (1 + ε) = (q * p') * ((1 - D / 2) * (1 + ε)) := by grind
  rw [e5] at s7
  exact le_of_scaled K0 s7
theorem ratio_ok {Dd ε r : Rat} (hε : 0 ≤ ε) (hε2 : ε ≤ 1 / 1000000) (hD : 0 ≤ Dd) (h : r * (1 - ε) ≤ (1 - Dd / 2) * (1 + ε)) : r ≤ 1 - Dd / 2 + 3 * ε := by
  have u := Rat.mul_nonneg hε (show 0 ≤ 1 + Dd - 3 * ε by grind)
  have k : (1 - ε) * r ≤ (1 - ε) * (1 - Dd / 2 + 3 * ε) := by
    have e : (1 - ε) * (1 - Dd / 2 + 3 * ε) = (1 - Dd / 2) * (1 + ε) + ε * (1 + Dd - 3 * ε) := by grind
    rw [e, Rat.mul_comm]
    generalize (1 - Dd / 2) * (1 + ε) = a at *
    generalize ε * (1 + Dd - 3 * ε) = b at *
    clear e
    grind
  exact le_of_scaled (show 0 < 1 - ε by clear h k u; grind) k
set_option maxHeartbeats 1000000 in
theorem lnA_lo {s s' : Nat} (fs : Fin s) (fs' : Fin s') (bs : Wn (vl s) (9999 / 10000)) (bs' : Wn (vl s') (9999 / 10000)) (hD : 1 / 100000000000 ≤ vl s' - vl s) :
    Fin (lnP (ratW s)) ∧ Fin (lnP (ratW s')) ∧ 335 / 1000 * (vl s' - vl s) - 6 / 100000000000000 ≤ vl (lnP (ratW s')) - vl (lnP (ratW s)) := by
  have u1 : uu = 1 / 9007199254740992 := uu_eq
  obtain ⟨f1, y0, e1⟩ := ratW_near fs bs
  obtain ⟨f2, y0', e2⟩ := ratW_near fs' bs'
  have p0 : 1 / 10000 ≤ 1 + vl s := by have := bs.1; grind
  have q0 : 1 / 10000 ≤ 1 - vl s := by have := bs.2; grind
  have p0' : 1 / 10000 ≤ 1 + vl s' := by have := bs'.1; grind
  have q0' : 1 / 10000 ≤ 1 - vl s' := by have := bs'.2; grind
  have hp2 : 1 + vl s ≤ 2 := by have := bs.2; grind
  have hq2 : 1 - vl s ≤ 2 := by have := bs.1; grind
  have hp2' : 1 + vl s' ≤ 2 := by have := bs'.2; grind
  have hq2' : 1 - vl s' ≤ 2 := by have := bs'.1; grind
  have hK : (1 - vl s) * (1 + vl s') - (1 + vl s) * (1 - vl s') = 2 * (vl s' - vl s) := by grind
  have hDd : vl s' - vl s ≤ 2 := by grind
  generalize vl s' - vl s = Dd at *
  generalize 1 + vl s = p at *
  generalize 1 - vl s = q at *
  generalize 1 + vl s' = p' at *
  generalize 1 - vl s' = q' at *
  have hK4 : q * p' ≤ 4 := by
    have := Rat.mul_le_mul_of_nonneg_left hp2' (show 0 ≤ q by grind)
    grind
  obtain ⟨r, hr⟩ : ∃ r, r = vl (ratW s) / vl (ratW s') := ⟨_, rfl⟩
  have hrY : r * vl (ratW s') = vl (ratW s) := by rw [hr]; grind
  have r0 : 0 ≤ r := by
    have : vl (ratW s') * 0 ≤ vl (ratW s') * r := by grind
    exact le_of_scaled y0' this
  obtain ⟨ε, hε⟩ : ∃ ε, ε = 8 * uu := ⟨_, rfl⟩
  have hεb : ε ≤ 1 / 1000000000000000 := by rw [hε, u1]; grind
  have hε0 : 0 ≤ ε := by rw [hε, u1]; grind
  rw [← hε] at e1 e2
  have up := ratio_up hε0 hrY r0 (show 0 < q by clear hK hK4; grind) (show 0 < p' by clear hK hK4; grind) (show 0 < q' by clear hK hK4; grind) (by have := e1.2; clear hK hK4; grind) (by have := e2.1; clear hK hK4; grind) hK (by clear hK hK4; grind) hK4
  have rr := ratio_ok hε0 (by clear hK hK4; grind) (by clear hK hK4; grind) up
  clear up hK hK4 hr
  -- sizes of both
  have Yhi : ∀ (Y p q : Rat), 0 < Y → 1 / 10000 ≤ p → p ≤ 2 → 1 / 10000 ≤ q → q ≤ 2 → Wn (Y * q - p) (ε * p) → 1 / 100000 ≤ Y ∧ Y ≤ 30000 := by
    intro Y p q hY h1 h2 h3 h4 h5
    have hεp := Rat.mul_le_mul_of_nonneg_right hεb (show 0 ≤ p by grind)
    have t1 := Rat.mul_le_mul_of_nonneg_left h3 (Rat.le_of_lt hY)
    have t2 := Rat.mul_le_mul_of_nonneg_left h4 (Rat.le_of_lt hY)
    obtain ⟨g1, g2⟩ := h5
    generalize Y * q = w at *
    generalize ε * p = z at *
    constructor <;> grind
  obtain ⟨y1, y2⟩ := Yhi _ p q y0 p0 hp2 q0 hq2 e1
  obtain ⟨y3, y4⟩ := Yhi _ p' q' y0' p0' hp2' q0' hq2' e2
  have hle : vl (ratW s) ≤ vl (ratW s') := by
    rw [← hrY]
    have := Rat.mul_le_mul_of_nonneg_right (show r ≤ 1 by clear Yhi; grind) (Rat.le_of_lt y0')
    grind
  obtain ⟨g1, g2, g3⟩ := lnW_lo f1 f2 y0 hle (by grind) (by grind)
  refine ⟨g1, g2, ?_⟩
  clear Yhi e1 e2
  rw [← hrY] at g3
  have k : vl (ratW s') * (67 / 100 * (1 - r) - 4 / 100000000000000) ≤ vl (ratW s') * (vl (lnP (ratW s')) - vl (lnP (ratW s))) := by
    have e : vl (ratW s') * (67 / 100 * (1 - r) - 4 / 100000000000000) = 67 / 100 * (vl (ratW s') - r * vl (ratW s')) - 4 / 100000000000000 * vl (ratW s') := by grind
    rw [e]; exact g3
  have k2 := le_of_scaled y0' k
  clear k g3
  grind
theorem pw0_of {M Y : Rat} {k : Int} (h1 : c0 ≤ M) (h2 : M < 2 * c0) (h : Y = M * pw k) (y1 : 72 / 100 ≤ Y) (y2 : Y ≤ 14 / 10) : k = 0 := by
  have c1 : 707 / 1000 ≤ c0 := by unfold c0; grind
  have c2 : c0 ≤ 708 / 1000 := by unfold c0; grind
  have hp := pw_pos k
  rcases Int.lt_trichotomy k 0 with hk | hk | hk
  · exfalso
    have e : pw k ≤ pw (-1) := pw_mono (by omega)
    rw [pw_neg1] at e
    have t := Rat.mul_le_mul_of_nonneg_left e (show 0 ≤ M by clear h; grind)
    generalize M * pw k = w at *
    grind
  · exact hk
  · exfalso
    have e : pw 1 ≤ pw k := pw_mono (by omega)
    rw [pw_one] at e
    have t := Rat.mul_le_mul_of_nonneg_left e (show 0 ≤ M by clear h; grind)
    generalize M * pw k = w at *
    grind
/-- near one, the logarithm is the series itself -/
theorem lnA_small {t : Nat} (ft : Fin t) (bt : Wn (vl t) (142 / 1000)) : Fin (lnP (ratW t)) ∧ Wn (vl (lnP (ratW t)) - AA (vl t)) (2 / 100000000000000) := by
  have u1 : uu = 1 / 9007199254740992 := uu_eq
  obtain ⟨f1, y0, e1⟩ := ratW_near ft (bt.mono (by grind))
  obtain ⟨b1, b2⟩ := bt
  have hY : 74 / 100 ≤ vl (ratW t) ∧ vl (ratW t) ≤ 134 / 100 := by
    obtain ⟨g1, g2⟩ := e1
    have h0 : 0 < 1 - vl t := by grind
    constructor
    · have : (1 - vl t) * (74 / 100) ≤ (1 - vl t) * vl (ratW t) := by rw [u1] at *; grind
      exact le_of_scaled h0 this
    · have : (1 - vl t) * vl (ratW t) ≤ (1 - vl t) * (134 / 100) := by rw [u1] at *; grind
      exact le_of_scaled h0 this
  obtain ⟨M, k, eq, fM, l1, l2, v1⟩ := ln_form f1 y0
  have hk := pw0_of l1 l2 v1 (by grind) (by grind)
  subst hk
  rw [pw_zero, Rat.mul_one] at v1
  obtain ⟨g1, g2⟩ := lnQ_err fM ⟨l1, Rat.le_of_lt l2⟩ 0 (by omega) (by omega)
  rw [eq]
  refine ⟨g1, ?_⟩
  rw [← v1] at g2
  have e0 : (((0 : Int) : Rat)) * lam = 0 := by have : ((0 : Int) : Rat) = 0 := rfl; rw [this, Rat.zero_mul]
  rw [e0, Rat.zero_add] at g2
  have hs : Wn (sm (vl (ratW t)) - vl t) (7 * uu) := by
    refine wn_quot (c := vl (ratW t) + 1) (c0 := 17 / 10) (by grind) (by grind) ?_
    have e : (sm (vl (ratW t)) - vl t) * (vl (ratW t) + 1) = vl (ratW t) * (1 - vl t) - (1 + vl t) := by
      have : sm (vl (ratW t)) * (vl (ratW t) + 1) = vl (ratW t) - 1 := by unfold sm; grind
      have h : (sm (vl (ratW t)) - vl t) * (vl (ratW t) + 1) = sm (vl (ratW t)) * (vl (ratW t) + 1) - vl t * (vl (ratW t) + 1) := by grind
      rw [h, this]; grind
    rw [e]
    exact e1.mono (by rw [u1]; grind)
  have hA := AA_lip (sm_wn (m := vl (ratW t)) ⟨by rw [v1]; exact l1, by rw [v1]; exact Rat.le_of_lt l2⟩) (show Wn (vl t) (172 / 1000) from ⟨by grind, by grind⟩) hs
  exact (wn_add g2 hA).of (by grind) (by rw [u1]; grind)
end Go.Fp.Tri

/- The isometric latitude as a float: how great it is, and that it grows. -/
namespace Go.Fp.Tri
open Go.Fp Ieee
set_option maxRecDepth 20000

abbrev wTwo : Nat := 4611686018427387904
/-- the isometric latitude of a sine, with the eccentricity given -/
def isoW (e s : Nat) : Nat := fdiv (fsub (can (lnP (ratW s))) (fmul e (can (lnP (ratW (fmul e s)))))) wTwo
/-- sizes of what is above by what is below -/
theorem ratW_bd {s : Nat} (fs : Fin s) (bs : Wn (vl s) (9999 / 10000)) : 1 / 100000000 ≤ vl (ratW s) ∧ vl (ratW s) ≤ 100000000 := by
  have u1 : uu = 1 / 9007199254740992 := uu_eq
  obtain ⟨f1, y0, e1⟩ := ratW_near fs bs
  have p0 : 1 / 10000 ≤ 1 + vl s := by have := bs.1; grind
  have q0 : 1 / 10000 ≤ 1 - vl s := by have := bs.2; grind
  have p2 : 1 + vl s ≤ 2 := by have := bs.2; grind
  have q2 : 1 - vl s ≤ 2 := by have := bs.1; grind
  have hε : 8 * uu * (1 + vl s) ≤ (1 + vl s) / 1000 := by rw [u1]; grind
  have t1 := Rat.mul_le_mul_of_nonneg_left q2 (Rat.le_of_lt y0)
  have t2 := Rat.mul_le_mul_of_nonneg_left q0 (Rat.le_of_lt y0)
  obtain ⟨g1, g2⟩ := e1.mono hε
  generalize vl (ratW s) * (1 - vl s) = w at *
  generalize 1 + vl s = p at *
  clear q0 q2 hε
  constructor <;> grind
structure EccOk (e : Nat) : Prop where
  fe : Fin e
  e0 : 0 ≤ vl e
  e1 : vl e ≤ 1416 / 10000
theorem small_t {e s : Nat} (h : EccOk e) (fs : Fin s) (bs : Wn (vl s) (9999 / 10000)) : Fin (fmul e s) ∧ Wn (vl (fmul e s) - vl e * vl s) (2 * uu) ∧ Wn (vl (fmul e s)) (142 / 1000) := by
  have u1 : uu = 1 / 9007199254740992 := uu_eq
  have be : Wn (vl e) (1416 / 10000) := ⟨by have := h.e0; grind, h.e1⟩
  obtain ⟨f1, e1⟩ := mulE h.fe fs _ (wn_mul be bs) (by grind)
  exact ⟨f1, e1.mono (by rw [u1]; grind), (wn_add e1 (wn_mul be bs)).of (by grind) (by rw [u1]; grind)⟩
theorem isoW_near {e s : Nat} (h : EccOk e) (fs : Fin s) (bs : Wn (vl s) (9999 / 10000)) :
    Fin (isoW e s) ∧ Wn (vl (isoW e s) - 1 / 2 * (vl (lnP (ratW s)) - vl e * vl (lnP (ratW (fmul e s))))) (1 / 100000000000000) ∧ Wn (vl (isoW e s)) 15 := by
  have u1 : uu = 1 / 9007199254740992 := uu_eq
  obtain ⟨r1, r2⟩ := ratW_bd fs bs
  obtain ⟨f0, _, _⟩ := ratW_near fs bs
  obtain ⟨g1, b1⟩ := lnP_bd f0 r1 r2
  obtain ⟨ft, et, bt⟩ := small_t h fs bs
  obtain ⟨g2, b2⟩ := lnA_small ft bt
  have bA : Wn (AA (vl (fmul e s))) (3 / 10) := by
    have h1 := AA_lip (show Wn (vl (fmul e s)) (172 / 1000) from bt.mono (by grind)) (show Wn (0 : Rat) (172 / 1000) from ⟨by grind, by grind⟩) (D := 142 / 1000) (bt.of (by grind) Rat.le_refl)
    rw [AA_zero] at h1
    exact h1.of (by grind) (by grind)
  have b2' : Wn (vl (lnP (ratW (fmul e s)))) (31 / 100) := (wn_add b2 bA).of (by grind) (by grind)
  have be : Wn (vl e) (1416 / 10000) := ⟨by have := h.e0; grind, h.e1⟩
  unfold isoW
  rw [g1.can, g2.can]
  generalize lnP (ratW (fmul e s)) = L2 at *
  generalize lnP (ratW s) = L1 at *
  obtain ⟨f3, e3⟩ := mulE h.fe g2 _ (wn_mul be b2') (by grind)
  have b3 : Wn (vl (fmul e L2)) (1 / 10) := (wn_add e3 (wn_mul be b2')).of (by grind) (by rw [u1]; grind)
  generalize fmul e L2 = q at *
  obtain ⟨f4, e4⟩ := subE g1 f3 _ (wn_sub b1 b3) (by grind)
  have b4 : Wn (vl (fsub L1 q)) 2910 := (wn_add e4 (wn_sub b1 b3)).of (by grind) (by rw [u1]; grind)
  have b4' : Wn (vl (fsub L1 q)) (2912 / 100) := (wn_add e4 (wn_sub b1 b3)).of (by grind) (by rw [u1]; grind)
  generalize fsub L1 q = d at *
  obtain ⟨f5, e5⟩ := divE f4 v_two.1 (by rw [v_two.2]; grind) (1457 / 100) (by rw [v_two.2]; obtain ⟨_, _⟩ := b4'; constructor <;> grind) (by grind)
  rw [v_two.2] at e5
  refine ⟨f5, ?_, ?_⟩
  · obtain ⟨_, _⟩ := e5
    obtain ⟨_, _⟩ := e4
    obtain ⟨_, _⟩ := e3
    rw [u1] at *
    constructor <;> grind
  · obtain ⟨_, _⟩ := e5
    obtain ⟨_, _⟩ := b4'
    rw [u1] at *
    constructor <;> grind
/-- farther north is farther up -/
theorem isoW_grow {e s s' : Nat} (h : EccOk e) (fs : Fin s) (fs' : Fin s') (bs : Wn (vl s) (9999 / 10000)) (bs' : Wn (vl s') (9999 / 10000)) (hD : 1 / 100000000000 ≤ vl s' - vl s) :
    14 / 100 * (vl s' - vl s) - 8 / 100000000000000 ≤ vl (isoW e s') - vl (isoW e s) := by
  have u1 : uu = 1 / 9007199254740992 := uu_eq
  obtain ⟨_, n1, _⟩ := isoW_near h fs bs
  obtain ⟨_, n2, _⟩ := isoW_near h fs' bs'
  obtain ⟨_, _, l⟩ := lnA_lo fs fs' bs bs' hD
  obtain ⟨ft, et, bt⟩ := small_t h fs bs
  obtain ⟨ft', et', bt'⟩ := small_t h fs' bs'
  obtain ⟨_, a1⟩ := lnA_small ft bt
  obtain ⟨_, a2⟩ := lnA_small ft' bt'
  have e0 := h.e0
  have e1 := h.e1
  have be : Wn (vl e) (1416 / 10000) := ⟨by grind, e1⟩
  have bD : Wn (vl s' - vl s) (vl s' - vl s) := ⟨by grind, by grind⟩
  have td : Wn (vl (fmul e s') - vl (fmul e s)) (1416 / 10000 * (vl s' - vl s) + 4 * uu) := (wn_add (wn_sub et' et) (wn_mul be bD)).of (by grind) (by grind)
  have hA := AA_lip (bt'.mono (show (142 / 1000 : Rat) ≤ 172 / 1000 by grind)) (bt.mono (show (142 / 1000 : Rat) ≤ 172 / 1000 by grind)) td
  have hL := wn_add (wn_sub a2 a1) hA
  have hE := wn_mul be hL
  generalize AA (vl (fmul e s)) = A1 at *
  generalize AA (vl (fmul e s')) = A2 at *
  generalize vl (lnP (ratW (fmul e s))) = M1 at *
  generalize vl (lnP (ratW (fmul e s'))) = M2 at *
  generalize vl (lnP (ratW s)) = L1 at *
  generalize vl (lnP (ratW s')) = L2 at *
  have hE' : Wn (vl e * M2 - vl e * M1) (42 / 1000 * (vl s' - vl s) + 1 / 100000000000000) := hE.of (by grind) (by rw [u1]; grind)
  clear hE hL hA a1 a2 et et' bt bt' td be
  generalize vl s' - vl s = Dd at *
  generalize vl e * M2 = x2 at *
  generalize vl e * M1 = x1 at *
  obtain ⟨_, _⟩ := n1
  obtain ⟨_, _⟩ := n2
  obtain ⟨_, _⟩ := hE'
  grind
end Go.Fp.Tri

/- A latitude that is found by halves, of numbers that grow. -/
namespace Go.Fp.Tri
open Go.Fp Ieee
set_option maxRecDepth 20000

theorem C_89 : C (((-1000000000 : Int) : Rat) * rho) ≤ 99986 / 100000 := by decide +kernel
theorem sI_in0 {m : Int} (h0 : 0 ≤ m) (h1 : m ≤ 89000000000) : sI m ≤ 99986 / 100000 := by
  rcases Int.lt_or_le m 45000000000 with h | h
  · rw [sI_lo h0 h]
    have := (wn_S (arg_bd (r := m) (by omega) (by omega))).2
    grind
  · rw [sI_hi h]
    have r0 := rho_pos
    have a := castle (show m - 90000000000 ≤ -1000000000 by omega)
    have k := Rat.mul_le_mul_of_nonneg_right a (Rat.le_of_lt r0)
    have k2 : ((-1000000000 : Int) : Rat) * rho ≤ 0 := by unfold rho; decide +kernel
    have g := C_grow (arg_bd (r := m - 90000000000) (by omega) (by omega)) k k2
    have q : 0 ≤ (((-1000000000 : Int) : Rat) * rho - ((m - 90000000000 : Int) : Rat) * rho) * (-(((m - 90000000000 : Int) : Rat) * rho) - ((-1000000000 : Int) : Rat) * rho) := Rat.mul_nonneg (by grind) (by grind)
    have := C_89
    grind
theorem sin_in {m : Int} (h0 : -89000000000 ≤ m) (h1 : m ≤ 89000000000) : Fin (sinP m) ∧ Wn (vl (sinP m)) (9999 / 10000) := by
  obtain ⟨⟨f, e⟩, _⟩ := trig_lat (a := m) (by omega) (by omega)
  refine ⟨f, ?_⟩
  obtain ⟨e1, e2⟩ := e
  rcases Int.lt_or_le m 0 with h | h
  · have a := sI_in0 (m := -m) (by omega) (by omega)
    have b := sI_nonneg (m := -m) (by omega) (by omega)
    have o := (sI_odd (m := -m) (by omega) (by omega)).1
    rw [Int.neg_neg] at o
    obtain ⟨_, _⟩ := o
    constructor <;> grind
  · have a := sI_in0 h h1
    have b := sI_nonneg h (by omega)
    constructor <;> grind
/-- two latitudes so far from each other -/
def Apart (α β : Int) : Prop := -89000000000 ≤ α ∧ α + 50 ≤ β ∧ β ≤ 89000000000 ∧ ((-85000000000 ≤ α ∧ α ≤ 85000000000) ∨ (-85000000000 ≤ β ∧ β ≤ 85000000000))
theorem sin_apart {α β : Int} (h : Apart α β) : 33 / 1000000000000 ≤ vl (sinP β) - vl (sinP α) := by
  obtain ⟨h1, h2, h3, h4⟩ := h
  have g := sinP_grow (m := α) (t := β) (by omega) (by omega) (by omega) h4
  have a := castle (show 50 ≤ β - α by omega)
  have e : ((β - α : Int) : Rat) = (β : Rat) - α := by push_cast; rfl
  rw [e] at a
  have a' : (50 : Rat) ≤ (β : Rat) - α := a
  have t := Rat.mul_le_mul_of_nonneg_right a' (Rat.le_of_lt rho_pos)
  have r := rho_lo
  generalize ((β : Rat) - α) * rho = w at *
  grind
/-- the isometric latitude of a latitude -/
theorem iso_fin {e : Nat} (h : EccOk e) {m : Int} (h1 : -89000000000 ≤ m) (h2 : m ≤ 89000000000) : Fin (isoW e (sinP m)) ∧ Wn (vl (isoW e (sinP m))) 15 := by
  obtain ⟨f, b⟩ := sin_in h1 h2
  obtain ⟨g1, _, g3⟩ := isoW_near h f b
  exact ⟨g1, g3⟩
theorem iso_apart {e : Nat} (h : EccOk e) {α β : Int} (hab : Apart α β) : 4 / 1000000000000 ≤ vl (isoW e (sinP β)) - vl (isoW e (sinP α)) := by
  have d := sin_apart hab
  obtain ⟨h1, h2, h3, _⟩ := hab
  obtain ⟨f1, b1⟩ := sin_in (m := α) (by omega) (by omega)
  obtain ⟨f2, b2⟩ := sin_in (m := β) (by omega) (by omega)
  have := isoW_grow h f1 f2 b1 b2 (by grind)
  grind
end Go.Fp.Tri

/- The whole number nearest to a float. -/
namespace Go.Fp.Tri
open Go.Fp Ieee
set_option maxRecDepth 20000

theorem cut_near (s : Bool) (m : Nat) (i : Int) : Wn (((Toward.even.cut s (m <<< i.toNat) (-i).toNat : Nat) : Rat) - (m : Rat) * pw i) (1 / 2) := by
  have h := half_of (m <<< i.toNat) (-i).toNat
  rw [← cut_even s] at h
  generalize Toward.even.cut s (m <<< i.toNat) (-i).toNat = C at *
  obtain ⟨k, hk⟩ : ∃ k, k = (-i).toNat := ⟨_, rfl⟩
  rw [← hk] at h
  have e : ((m <<< i.toNat : Nat) : Rat) = (m : Rat) * pw i * pw k := by
    rw [Nat.shiftLeft_eq, Rat.natCast_mul, ← pw_nat]
    have : pw (i.toNat : Int) = pw i * pw k := by rw [← pw_add]; congr 1; omega
    rw [this]
    generalize pw i = a
    generalize pw (k : Int) = b
    grind
  rw [e] at h
  have hp := pw_pos (k : Int)
  refine wn_scaled hp ?_
  refine h.of ?_ ?_
  · generalize pw i = a at *
    generalize pw (k : Int) = b at *
    grind
  · generalize pw (k : Int) = b at *
    grind
end Go.Fp.Tri
namespace Go.Proofs.YtcppgbhjbmfldaaDoor
open Go.Fp Go.Fp.Tri Ieee
set_option maxRecDepth 20000
theorem nearV_err {x : Nat} (fx : Fp.Fin x) (bx : Wn (vl x) 1000000000000) : Wn (((nearV x : Int) : Rat) - vl x) (1 / 2) := by
  obtain ⟨s, m, i, hr⟩ := fx
  have hc := cut_near s m i
  rw [vl_of hr] at bx ⊢
  have hv : nearV x = if -9000000000000000000 ≤ signed s (Toward.even.cut s (m <<< i.toNat) (-i).toNat) 0 ∧ signed s (Toward.even.cut s (m <<< i.toNat) (-i).toNat) 0 ≤ 9000000000000000000 then signed s (Toward.even.cut s (m <<< i.toNat) (-i).toNat) 0 else 0 := by
    unfold nearV; rw [hr]
  rw [hv, signed0]
  generalize Toward.even.cut s (m <<< i.toNat) (-i).toNat = K at *
  have e : vd s m i = ((sg s : Int) : Rat) * ((m : Rat) * pw i) := by unfold vd; generalize pw i = z; grind
  rw [e] at bx ⊢
  generalize (m : Rat) * pw i = v at *
  have hb : (K : Rat) ≤ 1000000000001 := by
    cases s
    · rw [show ((sg false : Int) : Rat) = 1 from rfl] at bx
      obtain ⟨_, _⟩ := hc
      obtain ⟨_, _⟩ := bx
      grind
    · rw [show ((sg true : Int) : Rat) = -1 from rfl] at bx
      obtain ⟨_, _⟩ := hc
      obtain ⟨_, _⟩ := bx
      grind
  have hK : K ≤ 1000000000001 := by
    have h : (K : Rat) ≤ ((1000000000001 : Nat) : Rat) := hb
    exact Rat.natCast_le_natCast.1 h
  cases s
  · have e1 : sg false = 1 := rfl
    rw [e1, Int.one_mul, if_pos (by omega)]
    have : (((K : Nat) : Int) : Rat) = (K : Rat) := rfl
    rw [this]
    have e2 : (((1 : Int)) : Rat) = 1 := rfl
    rw [e2, Rat.one_mul]
    exact hc
  · have e1 : sg true = -1 := rfl
    rw [e1, if_pos (by omega)]
    have : ((-1 * (K : Int) : Int) : Rat) = -(K : Rat) := by push_cast; grind
    rw [this]
    have e2 : (((-1 : Int)) : Rat) = -1 := rfl
    rw [e2]
    obtain ⟨_, _⟩ := hc
    constructor <;> grind
end Go.Proofs.YtcppgbhjbmfldaaDoor

/- Relative errors of float operations on positive numbers. -/
namespace Go.Fp.Tri
open Go.Fp Ieee
set_option maxRecDepth 20000

/-- a float that stands for a positive number, but for so much of it -/
structure Rl (x : Nat) (v ε : Rat) : Prop where
  fx : Fin x
  v0 : 0 < v
  err : Wn (vl x - v) (v * ε)
theorem Rl.mono {x : Nat} {v ε δ : Rat} (h : Rl x v ε) (hle : ε ≤ δ) : Rl x v δ := ⟨h.fx, h.v0, h.err.mono (Rat.mul_le_mul_of_nonneg_left hle (Rat.le_of_lt h.v0))⟩
theorem Rl.exact {x : Nat} (fx : Fin x) (h : 0 < vl x) : Rl x (vl x) 0 := ⟨fx, h, by constructor <;> grind⟩
theorem Rl.e0 {x : Nat} {v ε : Rat} (h : Rl x v ε) : 0 ≤ ε := by
  have := h.err.nonneg
  have k : v * 0 ≤ v * ε := by grind
  exact le_of_scaled h.v0 k
theorem Rl.lo {x : Nat} {v ε : Rat} (h : Rl x v ε) (hε : ε ≤ 1 / 1000000000) : v * (999 / 1000) ≤ vl x := by
  have := Rat.mul_le_mul_of_nonneg_left hε (Rat.le_of_lt h.v0)
  have := h.err.1
  have := h.v0
  grind
theorem Rl.hi {x : Nat} {v ε : Rat} (h : Rl x v ε) (hε : ε ≤ 1 / 1000000000) : vl x ≤ v * (1001 / 1000) := by
  have := Rat.mul_le_mul_of_nonneg_left hε (Rat.le_of_lt h.v0)
  have := h.err.2
  have := h.v0
  grind
theorem Rl.pos {x : Nat} {v ε : Rat} (h : Rl x v ε) (hε : ε ≤ 1 / 1000000000) : 0 < vl x := by
  have := h.lo hε
  have := h.v0
  grind
theorem eta_small : eta ≤ uu / 1000000000000000000000000000000 := by
  have h1 : eta ≤ pw (-200) := pw_mono (by decide)
  have h2 : pw (-200) * 1606938044258990275541962092341162602522202993782792835301376 = 1 := by
    have h := pw_add (-200) 200
    rw [show (-200 + 200 : Int) = 0 by decide, pw_zero] at h
    have h3 : pw 200 = 1606938044258990275541962092341162602522202993782792835301376 := by have := pw_nat 200; exact this
    rw [h3] at h
    exact h.symm
  rw [uu_eq]
  generalize pw (-200) = z at *
  grind
/-- the sizes within which nothing is lost below -/
def Sz (v : Rat) : Prop := 1 / 10000000000000000000000000 ≤ v ∧ v ≤ 10000000000000000000000000
end Go.Fp.Tri
