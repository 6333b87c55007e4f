/- The radius across the meridian, as a float, against what it ought to be. -/
import Derived.Test.YteebbcdbkkliaaaDoorGG
import Derived.Test.YteebbcdbkkliaaaDoorZD
namespace Go.Fp.Tri
open Go.Fp Ieee
set_option maxRecDepth 20000

theorem big30 {B : Rat} (h : B ≤ 1000000000000000000000000000000) : B ≤ pw 1000 := by
  have h1 : pw 100 ≤ pw 1000 := pw_mono (by decide)
  have h2 : pw 100 = 1267650600228229401496703205376 := by have := pw_nat 100; exact this
  rw [h2] at h1
  generalize pw 1000 = z at *
  grind
theorem big30' {B : Rat} (h : B ≤ 1000000000000000000000000000000) : B ≤ pw 1022 := Rat.le_trans (big30 h) (pw_mono (by decide))
theorem mulB {x y : Nat} (hx : Fin x) (hy : Fin y) (B : Rat) (hB : Wn (vl x * vl y) B) (hB2 : B ≤ 1000000000000000000000000000000) : Fin (fmul x y) ∧ Wn (vl (fmul x y) - vl x * vl y) (uu * (B + 1)) := by
  obtain ⟨h1, h2⟩ := fmul_err hx hy B hB (big30' hB2)
  exact ⟨h1, h2.mono (by have := eta_le; grind)⟩
theorem addB {x y : Nat} (hx : Fin x) (hy : Fin y) (B : Rat) (hB : Wn (vl x + vl y) B) (hB2 : B ≤ 1000000000000000000000000000000) : Fin (fadd x y) ∧ Wn (vl (fadd x y) - (vl x + vl y)) (uu * (B + 1)) := by
  obtain ⟨h1, h2⟩ := fadd_err hx hy B hB (big30' hB2)
  exact ⟨h1, h2.mono (by have := eta_le; grind)⟩
theorem fadd_nonneg {x y : Nat} (hx : Fin x) (hy : Fin y) (B : Rat) (hB : Wn (vl x + vl y) B) (hB2 : B ≤ pw 1022) (h : 0 ≤ vl x + vl y) : 0 ≤ vl (fadd x y) := by
  obtain ⟨s, m, i, hx⟩ := hx
  obtain ⟨t, n, j, hy⟩ := hy
  rw [vl_of hx, vl_of hy] at *
  have e1 := signed_vd s m i (min i j) (by omega)
  have e2 := signed_vd t n j (min i j) (by omega)
  have ht := vd_total (signed s m (i - min i j).toNat + signed t n (j - min i j).toNat) (s && t) (min i j)
  have hs : vd s m i + vd t n j = ((signed s m (i - min i j).toNat + signed t n (j - min i j).toNat : Int) : Rat) * pw (min i j) := by
    rw [← e1, ← e2]
    push_cast
    grind
  rw [hs, ← ht] at hB h
  have e : fadd x y = D.nearest (if signed s m (i - min i j).toNat + signed t n (j - min i j).toNat = 0 then s && t else signed s m (i - min i j).toNat + signed t n (j - min i j).toNat < 0) (signed s m (i - min i j).toNat + signed t n (j - min i j).toNat).natAbs (min i j) := by
    unfold fadd Format.add
    rw [hx, hy]; rfl
  rw [e]
  exact near_sign _ _ _ (vd_bound (Rat.le_trans (abs_vd _ _ _ B hB) hB2)) h
theorem wn_scaled {A x y : Rat} (hA : 0 < A) (h : Wn (A * x) (A * y)) : Wn x y := wn_quot (c := A) (c0 := A) hA Rat.le_refl (h.of (by grind) (by grind))
theorem v_two : Fin 4611686018427387904 ∧ vl 4611686018427387904 = 2 := vl_const (s := false) (m := 4503599627370496) (k := 51) (by decide +kernel) (by decide +kernel)

/-- an angle and its size, and its sign -/
def Sgn (t m : Int) (g : Rat) : Prop := (t = m ∧ g = 1) ∨ (t = -m ∧ g = -1)
theorem Sgn.sq {t m : Int} {g : Rat} (h : Sgn t m g) : g * g = 1 := by rcases h with ⟨_, rfl⟩ | ⟨_, rfl⟩ <;> grind
theorem Sgn.wn {t m : Int} {g : Rat} (h : Sgn t m g) {x E : Rat} (hx : Wn x E) : Wn (g * x) E := by
  obtain ⟨a, b⟩ := hx
  rcases h with ⟨_, rfl⟩ | ⟨_, rfl⟩ <;> constructor <;> grind
theorem Sgn.wn' {t m : Int} {g : Rat} (h : Sgn t m g) {x E : Rat} (hx : Wn (g * x) E) : Wn x E := by
  obtain ⟨a, b⟩ := hx
  rcases h with ⟨_, rfl⟩ | ⟨_, rfl⟩ <;> constructor <;> grind
theorem sc_sgn {t m : Int} {g : Rat} (h : Sgn t m g) (h0 : 0 ≤ m) (h1 : m ≤ 90000000000) :
    (Fin (sinP t) ∧ Wn (g * vl (sinP t) - sI m) (11 / 1000000000000000)) ∧ (Fin (cosP t) ∧ Wn (vl (cosP t) - cI m) (11 / 1000000000000000)) := by
  rcases h with ⟨rfl, rfl⟩ | ⟨rfl, rfl⟩
  · obtain ⟨⟨a, b⟩, ⟨c, d⟩⟩ := trig_lat (a := t) (by omega) h1
    exact ⟨⟨a, b.of (by grind) (by grind)⟩, ⟨c, d.mono (by grind)⟩⟩
  · obtain ⟨⟨a, b⟩, ⟨c, d⟩⟩ := trig_lat (a := -m) (by omega) (by omega)
    obtain ⟨o1, o2⟩ := sI_odd h0 h1
    obtain ⟨_, _⟩ := b
    obtain ⟨_, _⟩ := d
    obtain ⟨_, _⟩ := o1
    obtain ⟨_, _⟩ := o2
    refine ⟨⟨a, ?_⟩, ⟨c, ?_⟩⟩ <;> constructor <;> grind
theorem sin_zero : vl (sinP 0) = 0 := by
  have e : sinP 0 = 0 := by decide +kernel
  rw [e, v_0.2]
theorem sI_pos {m : Int} (h0 : 1 ≤ m) (h1 : m ≤ 90000000000) : 101 / 10000000000000 ≤ sI m := by
  have a : (1 : Rat) ≤ (m : Rat) := castle h0
  have r := rho_lo
  have := Rat.mul_le_mul_of_nonneg_right a (Rat.le_of_lt rho_pos)
  rcases sI_ge (show 0 ≤ m by omega) h1 with h | h <;> grind
theorem cI_pos {m : Int} (h0 : 0 ≤ m) (h1 : m < 90000000000) : 101 / 10000000000000 ≤ cI m := by
  have a : (1 : Rat) ≤ ((90000000000 - m : Int) : Rat) := castle (a := 1) (by omega)
  have e : ((90000000000 - m : Int) : Rat) = 90000000000 - (m : Rat) := by push_cast; rfl
  rw [e] at a
  have r := rho_lo
  have := Rat.mul_le_mul_of_nonneg_right a (Rat.le_of_lt rho_pos)
  rcases cI_ge h0 (show m ≤ 90000000000 by omega) with h | h <;> grind
theorem sin_nonneg {m : Int} (h0 : 0 ≤ m) (h1 : m ≤ 90000000000) : 0 ≤ vl (sinP m) := by
  rcases Int.lt_or_le 0 m with h | h
  · have a := sI_pos (show 1 ≤ m by omega) h1
    obtain ⟨⟨_, b⟩, _⟩ := sc_sgn (t := m) (m := m) (g := 1) (.inl ⟨rfl, rfl⟩) h0 h1
    have := b.1
    grind
  · obtain rfl : m = 0 := by omega
    rw [sin_zero]
    grind
end Go.Fp.Tri
namespace Go.Proofs.YteebbcdbkkliaaaDoor
open Go.Fp Go.Fp.Tri
set_option maxRecDepth 20000
/-- a globe and a height for which the law promises something -/
structure Snd (a f high : Nat) : Prop where
  fa : Fp.Fin a
  a1 : 1000000 ≤ vl a
  a2 : vl a ≤ 10000000
  ff : Fp.Fin f
  f1 : 0 ≤ vl f
  f2 : vl f ≤ 10001 / 1000000
  fh : Fp.Fin high
  h1 : -10000 ≤ vl high
  h2 : vl high ≤ 1000000
variable {a f high : Nat}
theorem ecc_ok (s : Snd a f high) : Fp.Fin (eccP f) ∧ 0 ≤ vl (eccP f) ∧ vl (eccP f) ≤ 1 / 50 := by
  have f1 := s.f1
  have f2 := s.f2
  have u1 : uu = 1 / 9007199254740992 := uu_eq
  unfold eccP
  rw [s.ff.can, v_two.1.can]
  obtain ⟨g1, e1⟩ := subE v_two.1 s.ff 2 (by rw [v_two.2]; constructor <;> grind) (by grind)
  rw [v_two.2] at e1
  generalize fsub 4611686018427387904 f = y at *
  have p := Rat.mul_nonneg (show 0 ≤ 10001 / 1000000 - vl f by grind) (show 0 ≤ 2 - 10001 / 1000000 - vl f by grind)
  have p0 := Rat.mul_nonneg f1 (show 0 ≤ 2 - vl f by grind)
  have bf : Wn (vl f) (10001 / 1000000) := ⟨by grind, f2⟩
  have q := wn_mul bf e1
  have hy : 0 ≤ vl y := by have := e1.1; rw [u1] at this; grind
  have hB : Wn (vl f * vl y) (19903 / 1000000) := by
    rw [u1] at q
    obtain ⟨_, _⟩ := q
    constructor <;> grind
  obtain ⟨g2, e2⟩ := mulE s.ff g1 _ hB (by grind)
  refine ⟨g2, fmul_nonneg s.ff g1 _ hB (big_le' (by grind)) (Rat.mul_nonneg f1 hy), ?_⟩
  rw [u1] at e2
  have := e2.2
  have := hB.2
  grind
theorem oneE_ok (s : Snd a f high) : Fp.Fin (fsub (can cOne) (eccP f)) ∧ Wn (vl (fsub (can cOne) (eccP f)) - (1 - vl (eccP f))) (2 * uu) := by
  obtain ⟨h1, h2, h3⟩ := ecc_ok s
  rw [v_one.1.can]
  obtain ⟨g1, e1⟩ := subE v_one.1 h1 1 (by rw [v_one.2]; constructor <;> grind) (by grind)
  rw [v_one.2] at e1
  exact ⟨g1, e1.mono (by grind)⟩
set_option maxHeartbeats 1000000 in
theorem cross_near (s : Snd a f high) {t m : Int} {g : Rat} (hs : Sgn t m g) (h0 : 0 ≤ m) (h1 : m ≤ 90000000000) :
    Fp.Fin (crossP a f t) ∧ ∃ n, vl (crossP a f t) = vl a * n ∧ 99 / 100 ≤ n ∧ n ≤ 103 / 100 ∧ Wn (n * n * (1 - vl (eccP f) * (sI m * sI m)) - 1) (1 / 100000000000000) := by
  obtain ⟨ge, e0, e50⟩ := ecc_ok s
  obtain ⟨⟨gx, ex⟩, _⟩ := sc_sgn hs h0 h1
  have bs := wn_sI (m := m) (by omega) h1
  have s0 := sI_nonneg h0 h1
  have hg := hs.sq
  have u1 : uu = 1 / 9007199254740992 := uu_eq
  unfold crossP
  rw [s.fa.can, gx.can, v_one.1.can]
  have bgx : Wn (g * vl (sinP t)) (1002 / 1000) := (wn_add ex bs).of (by grind) (by grind)
  have bx : Wn (vl (sinP t)) (1002 / 1000) := hs.wn' bgx
  generalize sinP t = x at *
  generalize eccP f = E at *
  have be : Wn (vl E) (1 / 50) := ⟨by grind, e50⟩
  obtain ⟨f1, e1⟩ := mulE ge gx (21 / 1000) ((wn_mul be bx).mono (by grind)) (by grind)
  have b1 : Wn (vl (fmul E x)) (22 / 1000) := (wn_add e1 (wn_mul be bx)).of (by grind) (by rw [u1]; grind)
  obtain ⟨f2, e2⟩ := mulE f1 gx (23 / 1000) ((wn_mul b1 bx).mono (by grind)) (by grind)
  generalize fmul E x = q1 at *
  have d1 := wn_mul e1 bx
  have hxx := wn_mul ex (show Wn (g * vl x + sI m) (2003 / 1000) from (wn_add bgx bs).mono (by grind))
  have exx : (g * vl x - sI m) * (g * vl x + sI m) = vl x * vl x - sI m * sI m := by grind
  rw [exx] at hxx
  have d2 := wn_mul be hxx
  have d3 : Wn (vl (fmul q1 x) - vl E * (sI m * sI m)) (1 / 1000000000000000) := (wn_add (wn_add e2 d1) d2).of (by grind) (by rw [u1]; grind)
  have bss := wn_mul bs bs
  have bess := wn_mul be bss
  have ess0 : 0 ≤ vl E * (sI m * sI m) := Rat.mul_nonneg e0 (Rat.mul_nonneg s0 s0)
  generalize fmul q1 x = q2 at *
  generalize hG : 1 - vl E * (sI m * sI m) = G at *
  obtain ⟨f3, e3⟩ := subE v_one.1 f2 (103 / 100) (by rw [v_one.2]; obtain ⟨_, _⟩ := d3; obtain ⟨_, _⟩ := bess; constructor <;> grind) (by grind)
  rw [v_one.2] at e3
  have d4 : Wn (vl (fsub cOne q2) - G) (13 / 10000000000000000) := (wn_sub e3 d3).of (by grind) (by rw [u1]; grind)
  generalize fsub cOne q2 = q3 at *
  have lo3 : 979 / 1000 ≤ vl q3 := by have := d4.1; have := bess.2; grind
  have hi3 : vl q3 ≤ 1001 / 1000 := by have := d4.2; grind
  obtain ⟨f4, r0, e4⟩ := fsqrt_err f3 (by grind) (big_le (by grind))
  generalize fsqrt q3 = r at *
  have e4' : Wn (vl r * vl r - vl q3) (9 / 10000000000000000) := e4.mono (by rw [u1]; grind)
  have lor : 98 / 100 ≤ vl r := by
    rcases Rat.le_total (a := 98 / 100) (b := vl r) with h | h
    · exact h
    · exfalso
      have := Rat.mul_nonneg (show 0 ≤ 98 / 100 - vl r by grind) (show 0 ≤ 98 / 100 + vl r by grind)
      have := e4'.1
      grind
  have hir : vl r ≤ 1002 / 1000 := by
    rcases Rat.le_total (a := vl r) (b := 1002 / 1000) with h | h
    · exact h
    · exfalso
      have := Rat.mul_nonneg (show 0 ≤ vl r - 1002 / 1000 by grind) (show 0 ≤ vl r + 1002 / 1000 by grind)
      have := e4'.2
      grind
  have a1 := s.a1
  have a2 := s.a2
  have hA : 0 < vl a := by grind
  have hr0 : vl r ≠ 0 := by grind
  have hq : Wn (vl a / vl r) (vl a * (103 / 100)) := by
    refine wn_quot (c := vl r) (c0 := 98 / 100) (by grind) lor ?_
    have e : vl a / vl r * vl r = vl a := by grind
    rw [e]
    constructor <;> grind
  obtain ⟨f5, e5⟩ := divE s.fa f4 hr0 _ hq (by grind)
  refine ⟨f5, ?_⟩
  generalize fdiv a r = N at *
  obtain ⟨n, hn⟩ : ∃ n, n = vl N / vl a := ⟨_, rfl⟩
  have hN : vl N = vl a * n := by rw [hn]; grind
  have br : Wn (vl r) (1002 / 1000) := ⟨by grind, hir⟩
  have hnr : Wn (n * vl r - 1) (4 * uu) := by
    refine wn_scaled hA ?_
    have h := wn_mul e5 br
    refine h.of ?_ (by rw [u1]; grind)
    rw [hN]
    have e : vl a / vl r * vl r = vl a := by grind
    grind
  have nlo : 99 / 100 ≤ n := by
    rcases Rat.le_total (a := 99 / 100) (b := n) with h | h
    · exact h
    · exfalso
      have := Rat.mul_le_mul_of_nonneg_right h r0
      have := hnr.1
      rw [u1] at this
      grind
  have nhi : n ≤ 103 / 100 := by
    rcases Rat.le_total (a := n) (b := 103 / 100) with h | h
    · exact h
    · exfalso
      have := Rat.mul_le_mul_of_nonneg_right h r0
      have := hnr.2
      rw [u1] at this
      grind
  refine ⟨n, hN, nlo, nhi, ?_⟩
  have bnr : Wn (n * vl r + 1) (2001 / 1000) := (wn_add hnr (show Wn (2 : Rat) 2 from ⟨by grind, by grind⟩)).of (by grind) (by rw [u1]; grind)
  have h2 := wn_mul hnr bnr
  have bn : Wn n (103 / 100) := ⟨by grind, nhi⟩
  have h3 := wn_mul (wn_mul bn bn) (wn_add e4' d4)
  exact (wn_sub h2 h3).of (by grind) (by rw [u1]; grind)
end Go.Proofs.YteebbcdbkkliaaaDoor
