/- The radius across the meridian, as a float, against what it ought to be. -/
import Derived.Test.YtfhpnkmpjijebaaDoorZG
import Derived.WalkLawsBesides
namespace Go.Fp.Tri
open Go.Fp Ieee
set_option maxRecDepth 20000

theorem big30 {B : Rat} (h : B ≤ 1000000000000000000000000000000) : B ≤ pw 1000 := by
  have h1 : pw 100 ≤ pw 1000 := pw_mono (by decide)
  have h2 : pw 100 = 1267650600228229401496703205376 := by have := pw_nat 100; exact this
  rw [h2] at h1
  generalize pw 1000 = z at *
  grind
theorem big30' {B : Rat} (h : B ≤ 1000000000000000000000000000000) : B ≤ pw 1022 := Rat.le_trans (big30 h) (pw_mono (by decide))
theorem mulB {x y : Nat} (hx : Fin x) (hy : Fin y) (B : Rat) (hB : Wn (vl x * vl y) B) (hB2 : B ≤ 1000000000000000000000000000000) : Fin (fmul x y) ∧ Wn (vl (fmul x y) - vl x * vl y) (uu * (B + 1)) := by
  obtain ⟨h1, h2⟩ := fmul_err hx hy B hB (big30' hB2)
  exact ⟨h1, h2.mono (by have := eta_le; grind)⟩
theorem fadd_nonneg {x y : Nat} (hx : Fin x) (hy : Fin y) (B : Rat) (hB : Wn (vl x + vl y) B) (hB2 : B ≤ pw 1022) (h : 0 ≤ vl x + vl y) : 0 ≤ vl (fadd x y) := by
  obtain ⟨s, m, i, hx⟩ := hx
  obtain ⟨t, n, j, hy⟩ := hy
  rw [vl_of hx, vl_of hy] at *
  have e1 := signed_vd s m i (min i j) (by omega)
  have e2 := signed_vd t n j (min i j) (by omega)
  have ht := vd_total (signed s m (i - min i j).toNat + signed t n (j - min i j).toNat) (s && t) (min i j)
  have hs : vd s m i + vd t n j = ((signed s m (i - min i j).toNat + signed t n (j - min i j).toNat : Int) : Rat) * pw (min i j) := by
    rw [← e1, ← e2]
    push_cast
    grind
  rw [hs, ← ht] at hB h
  have e : fadd x y = D.nearest (if signed s m (i - min i j).toNat + signed t n (j - min i j).toNat = 0 then s && t else signed s m (i - min i j).toNat + signed t n (j - min i j).toNat < 0) (signed s m (i - min i j).toNat + signed t n (j - min i j).toNat).natAbs (min i j) := by
    unfold fadd Format.add
    rw [hx, hy]; rfl
  rw [e]
  exact near_sign _ _ _ (vd_bound (Rat.le_trans (abs_vd _ _ _ B hB) hB2)) h
theorem wn_scaled {A x y : Rat} (hA : 0 < A) (h : Wn (A * x) (A * y)) : Wn x y := wn_quot (c := A) (c0 := A) hA Rat.le_refl (h.of (by grind) (by grind))
theorem v_two : Fin 4611686018427387904 ∧ vl 4611686018427387904 = 2 := vl_const (s := false) (m := 4503599627370496) (k := 51) (by decide +kernel) (by decide +kernel)

/-- an angle and its size, and its sign -/
def Sgn (t m : Int) (g : Rat) : Prop := (t = m ∧ g = 1) ∨ (t = -m ∧ g = -1)
theorem Sgn.sq {t m : Int} {g : Rat} (h : Sgn t m g) : g * g = 1 := by rcases h with ⟨_, rfl⟩ | ⟨_, rfl⟩ <;> grind
theorem Sgn.wn {t m : Int} {g : Rat} (h : Sgn t m g) {x E : Rat} (hx : Wn x E) : Wn (g * x) E := by
  obtain ⟨a, b⟩ := hx
  rcases h with ⟨_, rfl⟩ | ⟨_, rfl⟩ <;> constructor <;> grind
theorem Sgn.wn' {t m : Int} {g : Rat} (h : Sgn t m g) {x E : Rat} (hx : Wn (g * x) E) : Wn x E := by
  obtain ⟨a, b⟩ := hx
  rcases h with ⟨_, rfl⟩ | ⟨_, rfl⟩ <;> constructor <;> grind
theorem sc_sgn {t m : Int} {g : Rat} (h : Sgn t m g) (h0 : 0 ≤ m) (h1 : m ≤ 90000000000) :
    (Fin (sinP t) ∧ Wn (g * vl (sinP t) - sI m) (11 / 1000000000000000)) ∧ (Fin (cosP t) ∧ Wn (vl (cosP t) - cI m) (11 / 1000000000000000)) := by
  rcases h with ⟨rfl, rfl⟩ | ⟨rfl, rfl⟩
  · obtain ⟨⟨a, b⟩, ⟨c, d⟩⟩ := trig_lat (a := t) (by omega) h1
    exact ⟨⟨a, b.of (by grind) (by grind)⟩, ⟨c, d.mono (by grind)⟩⟩
  · obtain ⟨⟨a, b⟩, ⟨c, d⟩⟩ := trig_lat (a := -m) (by omega) (by omega)
    obtain ⟨o1, o2⟩ := sI_odd h0 h1
    obtain ⟨_, _⟩ := b
    obtain ⟨_, _⟩ := d
    obtain ⟨_, _⟩ := o1
    obtain ⟨_, _⟩ := o2
    refine ⟨⟨a, ?_⟩, ⟨c, ?_⟩⟩ <;> constructor <;> grind
theorem sin_zero : vl (sinP 0) = 0 := by
  have e : sinP 0 = 0 := by decide +kernel
  rw [e, v_0.2]
theorem sI_pos {m : Int} (h0 : 1 ≤ m) (h1 : m ≤ 90000000000) : 101 / 10000000000000 ≤ sI m := by
  have a : (1 : Rat) ≤ (m : Rat) := castle h0
  have r := rho_lo
  have := Rat.mul_le_mul_of_nonneg_right a (Rat.le_of_lt rho_pos)
  rcases sI_ge (show 0 ≤ m by omega) h1 with h | h <;> grind
theorem sin_nonneg {m : Int} (h0 : 0 ≤ m) (h1 : m ≤ 90000000000) : 0 ≤ vl (sinP m) := by
  rcases Int.lt_or_le 0 m with h | h
  · have a := sI_pos (show 1 ≤ m by omega) h1
    obtain ⟨⟨_, b⟩, _⟩ := sc_sgn (t := m) (m := m) (g := 1) (.inl ⟨rfl, rfl⟩) h0 h1
    have := b.1
    grind
  · obtain rfl : m = 0 := by omega
    rw [sin_zero]
    grind
end Go.Fp.Tri
namespace Go.Proofs.YtfhpnkmpjijebaaDoor
open Go.Fp Go.Fp.Tri
set_option maxRecDepth 20000
/-- a globe and a height for which the law promises something -/
structure Snd (a f high : Nat) : Prop where
  fa : Fp.Fin a
  a1 : 1000000 ≤ vl a
  a2 : vl a ≤ 10000000
  ff : Fp.Fin f
  f1 : 0 ≤ vl f
  f2 : vl f ≤ 10001 / 1000000
  fh : Fp.Fin high
  h1 : -10000 ≤ vl high
  h2 : vl high ≤ 1000000
variable {a f high : Nat}
theorem ecc_ok (s : Snd a f high) : Fp.Fin (eccP f) ∧ 0 ≤ vl (eccP f) ∧ vl (eccP f) ≤ 1 / 50 := by
  have f1 := s.f1
  have f2 := s.f2
  have u1 : uu = 1 / 9007199254740992 := uu_eq
  unfold eccP
  rw [s.ff.can, v_two.1.can]
  obtain ⟨g1, e1⟩ := subE v_two.1 s.ff 2 (by rw [v_two.2]; constructor <;> grind) (by grind)
  rw [v_two.2] at e1
  generalize fsub 4611686018427387904 f = y at *
  have p := Rat.mul_nonneg (show 0 ≤ 10001 / 1000000 - vl f by grind) (show 0 ≤ 2 - 10001 / 1000000 - vl f by grind)
  have p0 := Rat.mul_nonneg f1 (show 0 ≤ 2 - vl f by grind)
  have bf : Wn (vl f) (10001 / 1000000) := ⟨by grind, f2⟩
  have q := wn_mul bf e1
  have hy : 0 ≤ vl y := by have := e1.1; rw [u1] at this; grind
  have hB : Wn (vl f * vl y) (19903 / 1000000) := by
    rw [u1] at q
    obtain ⟨_, _⟩ := q
    constructor <;> grind
  obtain ⟨g2, e2⟩ := mulE s.ff g1 _ hB (by grind)
  refine ⟨g2, fmul_nonneg s.ff g1 _ hB (big_le' (by grind)) (Rat.mul_nonneg f1 hy), ?_⟩
  rw [u1] at e2
  have := e2.2
  have := hB.2
  grind
theorem oneE_ok (s : Snd a f high) : Fp.Fin (fsub (can cOne) (eccP f)) ∧ Wn (vl (fsub (can cOne) (eccP f)) - (1 - vl (eccP f))) (2 * uu) := by
  obtain ⟨h1, h2, h3⟩ := ecc_ok s
  rw [v_one.1.can]
  obtain ⟨g1, e1⟩ := subE v_one.1 h1 1 (by rw [v_one.2]; constructor <;> grind) (by grind)
  rw [v_one.2] at e1
  exact ⟨g1, e1.mono (by grind)⟩
set_option maxHeartbeats 1000000 in
theorem cross_near (s : Snd a f high) {t m : Int} {g : Rat} (hs : Sgn t m g) (h0 : 0 ≤ m) (h1 : m ≤ 90000000000) :
    Fp.Fin (crossP a f t) ∧ ∃ n, vl (crossP a f t) = vl a * n ∧ 99 / 100 ≤ n ∧ n ≤ 103 / 100 ∧ Wn (n * n * (1 - vl (eccP f) * (sI m * sI m)) - 1) (1 / 100000000000000) := by
  obtain ⟨ge, e0, e50⟩ := ecc_ok s
  obtain ⟨⟨gx, ex⟩, _⟩ := sc_sgn hs h0 h1
  have bs := wn_sI (m := m) (by omega) h1
  have s0 := sI_nonneg h0 h1
  have hg := hs.sq
  have u1 : uu = 1 / 9007199254740992 := uu_eq
  unfold crossP
  rw [s.fa.can, gx.can, v_one.1.can]
  have bgx : Wn (g * vl (sinP t)) (1002 / 1000) := (wn_add ex bs).of (by grind) (by grind)
  have bx : Wn (vl (sinP t)) (1002 / 1000) := hs.wn' bgx
  generalize sinP t = x at *
  generalize eccP f = E at *
  have be : Wn (vl E) (1 / 50) := ⟨by grind, e50⟩
  obtain ⟨f1, e1⟩ := mulE ge gx (21 / 1000) ((wn_mul be bx).mono (by grind)) (by grind)
  have b1 : Wn (vl (fmul E x)) (22 / 1000) := (wn_add e1 (wn_mul be bx)).of (by grind) (by rw [u1]; grind)
  obtain ⟨f2, e2⟩ := mulE f1 gx (23 / 1000) ((wn_mul b1 bx).mono (by grind)) (by grind)
  generalize fmul E x = q1 at *
  have d1 := wn_mul e1 bx
  have hxx := wn_mul ex (show Wn (g * vl x + sI m) (2003 / 1000) from (wn_add bgx bs).mono (by grind))
  have exx : (g * vl x - sI m) * (g * vl x + sI m) = vl x * vl x - sI m * sI m := by grind
  rw [exx] at hxx
  have d2 := wn_mul be hxx
  have d3 : Wn (vl (fmul q1 x) - vl E * (sI m * sI m)) (1 / 1000000000000000) := (wn_add (wn_add e2 d1) d2).of (by grind) (by rw [u1]; grind)
  have bss := wn_mul bs bs
  have bess := wn_mul be bss
  have ess0 : 0 ≤ vl E * (sI m * sI m) := Rat.mul_nonneg e0 (Rat.mul_nonneg s0 s0)
  generalize fmul q1 x = q2 at *
  generalize hG : 1 - vl E * (sI m * sI m) = G at *
  obtain ⟨f3, e3⟩ := subE v_one.1 f2 (103 / 100) (by rw [v_one.2]; obtain ⟨_, _⟩ := d3; obtain ⟨_, _⟩ := bess; constructor <;> grind) (by grind)
  rw [v_one.2] at e3
  have d4 : Wn (vl (fsub cOne q2) - G) (13 / 10000000000000000) := (wn_sub e3 d3).of (by grind) (by rw [u1]; grind)
  generalize fsub cOne q2 = q3 at *
  have lo3 : 979 / 1000 ≤ vl q3 := by have := d4.1; have := bess.2; grind
  have hi3 : vl q3 ≤ 1001 / 1000 := by have := d4.2; grind
  obtain ⟨f4, r0, e4⟩ := fsqrt_err f3 (by grind) (big_le (by grind))
  generalize fsqrt q3 = r at *
  have e4' : Wn (vl r * vl r - vl q3) (9 / 10000000000000000) := e4.mono (by rw [u1]; grind)
  have lor : 98 / 100 ≤ vl r := by
    rcases Rat.le_total (a := 98 / 100) (b := vl r) with h | h
    · exact h
    · exfalso
      have := Rat.mul_nonneg (show 0 ≤ 98 / 100 - vl r by grind) (show 0 ≤ 98 / 100 + vl r by grind)
      have := e4'.1
      grind
  have hir : vl r ≤ 1002 / 1000 := by
    rcases Rat.le_total (a := vl r) (b := 1002 / 1000) with h | h
    · exact h
    · exfalso
      have := Rat.mul_nonneg (show 0 ≤ vl r - 1002 / 1000 by grind) (show 0 ≤ vl r + 1002 / 1000 by grind)
      have := e4'.2
      grind
  have a1 := s.a1
  have a2 := s.a2
  have hA : 0 < vl a := by grind
  have hr0 : vl r ≠ 0 := by grind
  have hq : Wn (vl a / vl r) (vl a * (103 / 100)) := by
    refine wn_quot (c := vl r) (c0 := 98 / 100) (by grind) lor ?_
    have e : vl a / vl r * vl r = vl a := by grind
    rw [e]
    constructor <;> grind
  obtain ⟨f5, e5⟩ := divE s.fa f4 hr0 _ hq (by grind)
  refine ⟨f5, ?_⟩
  generalize fdiv a r = N at *
  obtain ⟨n, hn⟩ : ∃ n, n = vl N / vl a := ⟨_, rfl⟩
  have hN : vl N = vl a * n := by rw [hn]; grind
  have br : Wn (vl r) (1002 / 1000) := ⟨by grind, hir⟩
  have hnr : Wn (n * vl r - 1) (4 * uu) := by
    refine wn_scaled hA ?_
    have h := wn_mul e5 br
    refine h.of ?_ (by rw [u1]; grind)
    rw [hN]
    have e : vl a / vl r * vl r = vl a := by grind
    grind
  have nlo : 99 / 100 ≤ n := by
    rcases Rat.le_total (a := 99 / 100) (b := n) with h | h
    · exact h
    · exfalso
      have := Rat.mul_le_mul_of_nonneg_right h r0
      have := hnr.1
      rw [u1] at this
      grind
  have nhi : n ≤ 103 / 100 := by
    rcases Rat.le_total (a := n) (b := 103 / 100) with h | h
    · exact h
    · exfalso
      have := Rat.mul_le_mul_of_nonneg_right h r0
      have := hnr.2
      rw [u1] at this
      grind
  refine ⟨n, hN, nlo, nhi, ?_⟩
  have bnr : Wn (n * vl r + 1) (2001 / 1000) := (wn_add hnr (show Wn (2 : Rat) 2 from ⟨by grind, by grind⟩)).of (by grind) (by rw [u1]; grind)
  have h2 := wn_mul hnr bnr
  have bn : Wn n (103 / 100) := ⟨by grind, nhi⟩
  have h3 := wn_mul (wn_mul bn bn) (wn_add e4' d4)
  exact (wn_sub h2 h3).of (by grind) (by rw [u1]; grind)
end Go.Proofs.YtfhpnkmpjijebaaDoor

/- A number as what lies between two bounds, one twice the other, times a power of two. -/
namespace Go.Fp
open Ieee

theorem read_canon {x : Nat} {s : Bool} {m : Nat} {i : Int} (h : D.read x = .number s m i) : (m < 2 ^ 52 ∧ i = -1074) ∨ (2 ^ 52 ≤ m ∧ m < 2 ^ 53 ∧ -1074 ≤ i) := by
  unfold Format.read at h
  simp only [D_sign, D_inf, D_bin, D_least] at h
  split at h
  · cases h; left; omega
  · split at h
    · cases h; right; omega
    · split at h <;> cases h
/-- the root of one half, as the programs have it; twice that -/
abbrev cRoot : Nat := 4604544271217802189
abbrev cRoot2 : Nat := 4609047870845172685
abbrev CR : Nat := 6369051672525773
/-- within the bounds -/
def Mid (m : Nat) (j : Int) : Prop := CR * 2 ^ 1021 ≤ m * 2 ^ (j + 1074).toNat ∧ m * 2 ^ (j + 1074).toNat < CR * 2 ^ 1022
/-- the place at which a number lies within the bounds -/
def midJ (m : Nat) : Int := if m * 2 ^ (1073 - m.log2) < CR * 2 ^ 1021 then -(m.log2 : Int) else -(m.log2 : Int) - 1
end Go.Fp

/- The bits of a number's exponent, of its fraction. -/
namespace Go.Fp
open Ieee

theorem andNot_exp (x : Nat) (h : x / 2 ^ 63 % 2 = 0) : bits .andNot .u64 (x : Int) 9218868437227405312 = ((x % 2 ^ 52 : Nat) : Int) := by
  show IntKind.u64.wrap ((BitVec.ofInt 64 (x : Int) &&& ~~~BitVec.ofInt 64 9218868437227405312 : BitVec 64).toNat : Int) = ((x % 2 ^ 52 : Nat) : Int)
  have h2 : (BitVec.ofInt 64 (x : Int) &&& ~~~BitVec.ofInt 64 9218868437227405312) = (BitVec.ofNat 64 (x % 2 ^ 52)) := by
    apply BitVec.eq_of_getElem_eq
    intro i hi
    have hm : ∀ i, i < 64 → (BitVec.ofInt 64 9218868437227405312).getLsbD i = (decide (52 ≤ i) && decide (i < 63)) := by decide
    have hmi := hm i hi
    rw [BitVec.getLsbD_eq_getElem hi] at hmi
    rw [BitVec.getElem_and, BitVec.getElem_not, hmi]
    rw [← BitVec.getLsbD_eq_getElem, ← BitVec.getLsbD_eq_getElem]
    rw [BitVec.ofInt_natCast, BitVec.getLsbD_ofNat, BitVec.getLsbD_ofNat, Nat.testBit_mod_two_pow]
    by_cases h63 : i = 63
    · subst h63
      have : x.testBit 63 = false := by
        rw [Nat.testBit_eq_decide_div_mod_eq]; simp; omega
      simp [this]
    · by_cases h52 : 52 ≤ i
      · have : i < 63 := by omega
        simp [h52, this]
        intro _ h; omega
      · have : i < 52 := by omega
        simp [h52, hi, this]
  rw [h2, BitVec.toNat_ofNat, IntKind.wrap_u64]
  have : x % 2 ^ 52 < 2 ^ 52 := Nat.mod_lt _ (by decide)
  omega
/-- a number that is not small: its word's fields -/
theorem read_norm {x m : Nat} {i : Int} (h : D.read x = .number false m i) (hm : 2 ^ 52 ≤ m) : x / 2 ^ 63 % 2 = 0 ∧ m = 2 ^ 52 + x % 2 ^ 52 ∧ ((x / 2 ^ 52 % 2048 : Nat) : Int) = i + 1075 := by
  obtain ⟨hs, hr⟩ : (x / 2 ^ 63 % 2 == 1) = false ∧ ((x % 2 ^ 63 < 2 ^ 52 ∧ m = x % 2 ^ 63) ∨ (2 ^ 52 ≤ x % 2 ^ 63 ∧ x % 2 ^ 63 < 2047 * 2 ^ 52 ∧ m = 2 ^ 52 + x % 2 ^ 63 % 2 ^ 52 ∧ i = -1074 + (x % 2 ^ 63 / 2 ^ 52 - 1 : Nat))) := by
    unfold Format.read at h
    simp only [D_sign, D_inf, D_bin, D_least] at h
    by_cases h1 : x % 2 ^ 63 < 2 ^ 52
    · rw [if_pos h1, Datum.number.injEq] at h
      exact ⟨h.1, .inl ⟨h1, h.2.1.symm⟩⟩
    · rw [if_neg h1] at h
      by_cases h2 : x % 2 ^ 63 < 2047 * 2 ^ 52
      · rw [if_pos h2, Datum.number.injEq] at h
        exact ⟨h.1, .inr ⟨by omega, h2, h.2.1.symm, h.2.2.symm⟩⟩
      · rw [if_neg h2] at h
        split at h <;> cases h
  have hs' : ¬ (x / 2 ^ 63 % 2 = 1) := by
    intro e; rw [e] at hs; cases hs
  rcases hr with ⟨h1, h2⟩ | ⟨h1, h2, h3, h4⟩
  · omega
  · refine ⟨by omega, ?_, ?_⟩
    · rw [h3]; congr 1; omega
    · rw [h4]; omega

end Go.Fp

/- The logarithm: what it is; how two loops come to a number's middle. -/
namespace Go.Fp
open Ieee

end Go.Fp

/- The logarithm: what it is; a number made greater, if it is small. -/
namespace Go.Fp
open Ieee

abbrev cMin : Nat := 4503599627370496
abbrev c52 : Nat := 4841369599423283200
theorem cMin_read : D.read cMin = .number false (2 ^ 52) (-1074) := by decide +kernel
theorem abs_rd {x m : Nat} {i : Int} (h : D.read x = .number false m i) : D.read (absW x) = .number false m i := by
  have hs : (x / 2 ^ 63 % 2 == 1) = false := by
    unfold Format.read at h
    simp only [D_sign, D_inf, D_bin, D_least] at h
    split at h
    · rw [Datum.number.injEq] at h; exact h.1
    · split at h
      · rw [Datum.number.injEq] at h; exact h.1
      · split at h <;> cases h
  rw [← h]
  unfold absW Format.read
  simp only [D_sign, D_inf, D_bin, D_least]
  have e1 : x % 2 ^ 63 % 2 ^ 63 = x % 2 ^ 63 := by omega
  have e2 : (x % 2 ^ 63 / 2 ^ 63 % 2 == 1) = (x / 2 ^ 63 % 2 == 1) := by
    rw [hs]
    have : x % 2 ^ 63 / 2 ^ 63 % 2 = 0 := by omega
    rw [this]; rfl
  rw [e1, e2]
/-- a number that is not small stays -/
theorem big_abs {x m : Nat} {i : Int} (h : D.read x = .number false m i) (hm : 2 ^ 52 ≤ m) : ¬ D.order (absW x) cMin = some .lt := by
  obtain ⟨_, h1, _⟩ := read_fields h
  rw [order_sv (abs_rd h) cMin_read h1 (by decide), Option.some.injEq, compare_lt, signed_eq, signed_eq]
  have e : ((-1074 : Int) + 1074).toNat = 0 := by decide
  have hp := Nat.two_pow_pos (i + 1074).toNat
  have h2 : m ≤ m * 2 ^ (i + 1074).toNat := Nat.le_mul_of_pos_right _ hp
  rw [e]
  simp only [sg, Bool.false_eq_true, if_false, Int.one_mul, Nat.pow_zero]
  rw [← Int.natCast_mul]
  generalize m * 2 ^ (i + 1074).toNat = A at *
  omega
abbrev one1 : Nat := 4607182418800017408
abbrev lnHigh : Nat := 4604418534311723008
abbrev lnLow : Nat := 4461442080421002358
/-- the series' last terms -/
def lnS (z : Nat) : Nat → Nat
  | 0 => can 4586426698778222948
  | k + 1 => fadd (fdiv (can one1) (can (floatOfInt .f64 (21 - 2 * (k : Int))))) (fmul z (lnS z k))
def lnQ (M : Nat) (k : Int) : Nat :=
  fadd (fmul (can (floatOfInt .f64 k)) (can lnHigh)) (fadd (fmul (can two) (fmul (fdiv (fsub M (can one1)) (fadd M (can one1))) (lnS (fmul (fdiv (fsub M (can one1)) (fadd M (can one1))) (fdiv (fsub M (can one1)) (fadd M (can one1)))) 11))) (fmul (can (floatOfInt .f64 k)) (can lnLow)))
/-- the logarithm of a number -/
def lnP (x : Nat) : Nat := if isNan x = true ∨ D.order x 0 = some .lt then QN else if D.order x 0 = some .eq then 18442240474082181120 else match D.read x with
  | .number _ m i => lnQ (W m (midJ m)) (i - midJ m)
  | _ => x
end Go.Fp

/- The logarithm as a float: how far it is off its series. -/
namespace Go.Fp.Tri
open Go.Fp Ieee
set_option maxRecDepth 20000

/-- the terms, from the last one back -/
def Lp (z : Rat) : Nat → Rat
  | 0 => 1 / 23
  | k + 1 => 1 / ((21 - 2 * (k : Int) : Int) : Rat) + z * Lp z k
end Go.Fp.Tri

/- Rounding keeps the order. -/
namespace Go.Fp
open Ieee

theorem natle (n : Nat) : (0 : Rat) ≤ (n : Rat) := by exact_mod_cast Nat.zero_le n
theorem natcle {m n : Nat} (h : m ≤ n) : (m : Rat) ≤ (n : Rat) := by exact_mod_cast h
theorem half_mono {n n' : Nat} (P : Nat) (hP : 0 < P) (h : n ≤ n') : n / P + (if P < 2 * (n % P) ∨ P = 2 * (n % P) ∧ n / P % 2 = 1 then 1 else 0) ≤ n' / P + (if P < 2 * (n' % P) ∨ P = 2 * (n' % P) ∧ n' / P % 2 = 1 then 1 else 0) := by
  have e1 := Nat.div_add_mod n P
  have e2 := Nat.div_add_mod n' P
  have m1 := Nat.mod_lt n hP
  have m2 := Nat.mod_lt n' hP
  have hd : n / P ≤ n' / P := Nat.div_le_div_right h
  rcases Nat.lt_or_ge (n / P) (n' / P) with h1 | h1
  · split <;> split <;> omega
  · have h2 : n / P = n' / P := by omega
    rw [h2] at e1 ⊢
    have h3 : n % P ≤ n' % P := by omega
    split
    · rename_i hc
      rw [if_pos (by rcases hc with hc | ⟨hc, hq⟩ <;> rcases Nat.lt_or_ge (n % P) (n' % P) with h4 | h4 <;> first | (left; omega) | (right; exact ⟨by omega, hq⟩))]
      exact Nat.le_refl _
    · split <;> omega
theorem cut_mono (s : Bool) {n n' k : Nat} (h : n ≤ n') : Toward.even.cut s n k ≤ Toward.even.cut s n' k := by
  rw [cut_even, cut_even]
  exact half_mono _ (Nat.two_pow_pos k) h
/-- what a rounded number stands for: so many last places -/
theorem near_val (M : Nat) (base : Int) (hM : M ≠ 0) (hb : base + (M.log2 : Int) ≤ 1022) :
    vl (D.nearest false M base) = (Toward.even.cut false (M <<< (base - max (base + (M.log2 : Int) - 52) (-1074)).toNat) (max (base + (M.log2 : Int) - 52) (-1074) - base).toNat : Nat) * pw (max (base + (M.log2 : Int) - 52) (-1074)) := by
  unfold Format.nearest
  rw [if_neg hM]
  simp only [D_least, D_frac, D_bin]
  generalize hlast : max (base + (M.log2 : Int) - 52) (-1074) = last
  have h2 : -1074 ≤ last := by omega
  have h3 : last = -1074 ∨ last = base + (M.log2 : Int) - 52 := by omega
  obtain ⟨a, ha⟩ : ∃ a, a = (base - last).toNat := ⟨_, rfl⟩
  obtain ⟨k, hk⟩ : ∃ k, k = (last - base).toNat := ⟨_, rfl⟩
  rw [← ha, ← hk]
  have hl := log2_shift_le M a hM
  have hlt := lt_log2 (M <<< a)
  have hne : M <<< a ≠ 0 := by rw [Nat.shiftLeft_eq]; exact Nat.mul_ne_zero hM (by have := Nat.two_pow_pos a; omega)
  have hc53 : Toward.even.cut false (M <<< a) k ≤ 2 ^ 53 := cut_le false _ _ _ (Nat.lt_of_lt_of_le hlt (Nat.pow_le_pow_right (by decide) (by rw [hl]; omega)))
  have hc52 : (last - -1074).toNat = 0 ∨ 2 ^ 52 ≤ Toward.even.cut false (M <<< a) k := by
    rcases h3 with h3 | h3
    · left; omega
    · right
      refine cut_ge' false _ _ _ ?_
      rw [← Nat.le_log2 hne, hl]; omega
  generalize Toward.even.cut false (M <<< a) k = kept at *
  obtain ⟨m, p, hr, hp1, hp2⟩ := read_kept false (last - -1074).toNat kept hc53 hc52 (by omega)
  rw [vl_of hr]
  have hv : vd false m p = vd false kept last := by
    refine vd_shift false hp1 h2 ?_
    rw [hp2]
    congr 1
  rw [hv, vd_false]
theorem near_zero (base : Int) (s : Bool) : vl (D.nearest s 0 base) = 0 := by
  have e : D.nearest s 0 base = D.word s 0 := by unfold Format.nearest; rw [if_pos rfl]
  rw [e]
  have hr2 := read_word2 s (r := 0) (by omega)
  rw [if_pos (by omega)] at hr2
  rw [vl_of hr2]
  unfold vd
  simp
theorem near_pos (M : Nat) (base : Int) (hb : M = 0 ∨ base + (M.log2 : Int) ≤ 1022) : 0 ≤ vl (D.nearest false M base) := by
  rcases hb with rfl | hb
  · rw [near_zero]; exact Rat.le_refl
  · by_cases hM : M = 0
    · subst hM; rw [near_zero]; exact Rat.le_refl
    · rw [near_val M base hM hb]
      exact Rat.mul_nonneg (natle _) (Rat.le_of_lt (pw_pos _))
/-- at one base -/
theorem near_mono {M N : Nat} (base : Int) (h : M ≤ N) (hb : N = 0 ∨ base + (N.log2 : Int) ≤ 1022) : vl (D.nearest false M base) ≤ vl (D.nearest false N base) := by
  by_cases hM : M = 0
  · subst hM; rw [near_zero]; exact near_pos N base hb
  have hN : N ≠ 0 := by omega
  have hb' : base + (N.log2 : Int) ≤ 1022 := by rcases hb with h' | h' <;> first | exact absurd h' hN | exact h'
  have hll : M.log2 ≤ N.log2 := by
    rw [Nat.le_log2 hN]
    exact Nat.le_trans (Nat.log2_self_le hM) h
  rw [near_val M base hM (by omega), near_val N base hN hb']
  obtain ⟨lM, hlM⟩ : ∃ l, l = max (base + (M.log2 : Int) - 52) (-1074) := ⟨_, rfl⟩
  obtain ⟨lN, hlN⟩ : ∃ l, l = max (base + (N.log2 : Int) - 52) (-1074) := ⟨_, rfl⟩
  rw [← hlM, ← hlN]
  by_cases he : lM = lN
  · rw [he]
    have hc : Toward.even.cut false (M <<< (base - lN).toNat) (lN - base).toNat ≤ Toward.even.cut false (N <<< (base - lN).toNat) (lN - base).toNat := by
      refine cut_mono false ?_
      rw [Nat.shiftLeft_eq, Nat.shiftLeft_eq]
      exact Nat.mul_le_mul_right _ h
    exact Rat.mul_le_mul_of_nonneg_right (natcle hc) (Rat.le_of_lt (pw_pos _))
  · have hlt : M.log2 < N.log2 := by omega
    have hN52 : lN = base + (N.log2 : Int) - 52 := by omega
    -- above: at least the power of two; below: at most that
    have hneN : N <<< (base - lN).toNat ≠ 0 := by rw [Nat.shiftLeft_eq]; exact Nat.mul_ne_zero hN (by have := Nat.two_pow_pos (base - lN).toNat; omega)
    have kN : 2 ^ 52 ≤ Toward.even.cut false (N <<< (base - lN).toNat) (lN - base).toNat := by
      refine cut_ge' false _ _ _ ?_
      rw [← Nat.le_log2 hneN, log2_shift_le N _ hN]; omega
    have hltM := lt_log2 (M <<< (base - lM).toNat)
    obtain ⟨c, hc⟩ : ∃ c : Nat, c = (base + (M.log2 : Int) + 1 - lM).toNat := ⟨_, rfl⟩
    have kM : Toward.even.cut false (M <<< (base - lM).toNat) (lM - base).toNat ≤ 2 ^ c := by
      refine cut_le false _ _ _ (Nat.lt_of_lt_of_le hltM (Nat.pow_le_pow_right (by decide) ?_))
      rw [log2_shift_le M _ hM]; omega
    have t1 : ((Toward.even.cut false (M <<< (base - lM).toNat) (lM - base).toNat : Nat) : Rat) * pw lM ≤ pw (lM + c) := by
      have e : pw (lM + c) = ((2 ^ c : Nat) : Rat) * pw lM := by rw [← pw_nat, ← pw_add]; congr 1; omega
      rw [e]
      exact Rat.mul_le_mul_of_nonneg_right (natcle kM) (Rat.le_of_lt (pw_pos _))
    have t2 : pw (base + (N.log2 : Int)) ≤ ((Toward.even.cut false (N <<< (base - lN).toNat) (lN - base).toNat : Nat) : Rat) * pw lN := by
      have e : pw (base + (N.log2 : Int)) = ((2 ^ 52 : Nat) : Rat) * pw lN := by rw [← pw_nat, ← pw_add]; congr 1; omega
      rw [e]
      exact Rat.mul_le_mul_of_nonneg_right (natcle kN) (Rat.le_of_lt (pw_pos _))
    exact Rat.le_trans t1 (Rat.le_trans (pw_mono (by omega)) t2)
end Go.Fp

/- The logarithm as a float grows as it should. -/
namespace Go.Fp.Tri
open Go.Fp Ieee
set_option maxRecDepth 20000

end Go.Fp.Tri

/- The logarithm grows. -/
namespace Go.Fp.Tri
open Go.Fp Ieee
set_option maxRecDepth 20000

end Go.Fp.Tri
