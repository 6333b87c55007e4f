/- The sine of a latitude grows. -/
import Derived.Test.YtfhpnkmpjijebaaDoorZH
namespace Go.Fp.Tri
open Go.Fp Ieee
set_option maxRecDepth 20000

def PSr : List Rat := [0, 0, 0, -inv 3, 0, inv 5, 0, -inv 7, 0, inv 9, 0, -inv 11, 0, inv 13, 0, -inv 15, 0, inv 17]
def Dr : List Rat := [0, 0, inv 4, -inv 6, inv 8, -inv 10, inv 12, -inv 14, inv 16]
theorem dr_bd : plip Dr (62 / 100) ≤ 54 / 1000 := by decide +kernel
theorem i2 : inv 2 = 1 / 2 := by decide +kernel
theorem C_split (x : Rat) : C x = 1 - 1 / 2 * (x * x) + pev Dr (x * x) := by simp only [C, PC, Dr, pev]; rw [i2]; grind
theorem C_grow {x y : Rat} (hx : Wn x (7855 / 10000)) (h : x ≤ y) (hy : y ≤ 0) : 446 / 1000 * ((y - x) * (-x - y)) ≤ C y - C x := by
  have hy' : Wn y (7855 / 10000) := ⟨by have := hx.1; grind, by grind⟩
  have q0 : 0 ≤ (y - x) * (-x - y) := Rat.mul_nonneg (by grind) (by grind)
  have e : x * x - y * y = (y - x) * (-x - y) := by grind
  have hd : Wn (x * x - y * y) ((y - x) * (-x - y)) := by rw [e]; exact ⟨by grind, by grind⟩
  have h1 := (wn_lip Dr ((wn_mul hx hx).mono (by grind)) ((wn_mul hy' hy').mono (by grind)) hd).mono (Rat.mul_le_mul_of_nonneg_left dr_bd q0)
  rw [C_split, C_split]
  obtain ⟨_, _⟩ := h1
  generalize pev Dr (x * x) = a at *
  generalize pev Dr (y * y) = b at *
  generalize (y - x) * (-x - y) = d at *
  clear hd
  grind
end Go.Fp.Tri

/- The logarithm of what is above by what is below: how it grows. -/
namespace Go.Fp.Tri
open Go.Fp Ieee
set_option maxRecDepth 20000

/-- (1 + s) / (1 - s), as floats -/
def ratW (s : Nat) : Nat := fdiv (fadd one1 s) (fsub one1 s)
end Go.Fp.Tri

/- Square roots of any size. -/
namespace Go.Fp
open Ieee
set_option maxRecDepth 20000

theorem fsqrt_pos {x : Nat} (hx : Fin x) (h1 : 0 < vl x) (h2 : vl x ≤ pw 1000) : Fin (fsqrt x) ∧ 0 ≤ vl (fsqrt x) ∧ Wn (vl (fsqrt x) * vl (fsqrt x) - vl x) (8 * uu * vl x) := by
  obtain ⟨s, m, i, hx⟩ := hx
  rw [vl_of hx] at *
  have hs : s = false := by
    cases s
    · rfl
    · exfalso
      rw [vd_sign, if_pos rfl] at h1
      have := vd_nonneg m i
      grind
  subst hs
  have hm : m ≠ 0 := by
    rintro rfl
    rw [vd_false] at h1
    simp at h1
  obtain ⟨mo, hmo⟩ : ∃ k, k = 2 * 54 - m.log2 + ((i - ((2 * 54 - m.log2 : Nat) : Int)) % 2).toNat := ⟨_, rfl⟩
  have hev : (i - (mo : Int)) / 2 + (i - (mo : Int)) / 2 = i - (mo : Int) := by omega
  have hn : 2 ^ 108 ≤ m <<< mo := by
    have hne : m <<< mo ≠ 0 := by rw [Nat.shiftLeft_eq]; exact Nat.mul_ne_zero hm (by have := Nat.two_pow_pos mo; omega)
    rw [← Nat.le_log2 hne, log2_shift_le m mo hm]
    omega
  obtain ⟨W, b, hW, hb, hW54, hWn, hQ⟩ := root_parts (m <<< mo) hn
  obtain ⟨h, hh⟩ : ∃ h, h = (i - (mo : Int)) / 2 := ⟨_, rfl⟩
  have e : fsqrt x = D.nearest false (2 * W + b) (h - 1) := by
    unfold fsqrt Format.sqrt
    rw [hx]
    unfold Datum.root
    dsimp only
    rw [if_neg hm, if_neg (by decide)]
    have hD : 2 * (D.fractionBits + 2) = 2 * 54 := rfl
    rw [hD, ← hmo, hW, hb, ← hh]
    rfl
  rw [e]
  have hv : vd false m i = ((m <<< mo : Nat) : Rat) * pw h * pw h := by
    rw [vd_false, Nat.shiftLeft_eq, show i = (mo : Int) + (h + h) by omega, pw_add, pw_nat, pw_add]
    push_cast
    grind
  have hw0 := cast_pos (show W ≠ 0 by omega)
  have hb0 : (0 : Rat) ≤ (b : Rat) := by exact_mod_cast Nat.zero_le b
  have hq : vd false (2 * W + b) (h - 1) = ((W : Rat) + (b : Rat) / 2) * pw h := by
    rw [vd_false, show h - 1 = (-1) + h by omega, pw_add, pw_neg1]
    push_cast
    grind
  have hWs : (W : Rat) * 18014398509481984 ≤ ((m <<< mo : Nat) : Rat) := by
    have : W * 18014398509481984 ≤ W * W := Nat.mul_le_mul_left W hW54
    have h' : W * 18014398509481984 ≤ m <<< mo := Nat.le_trans this hWn
    exact_mod_cast h'
  have hN1 : (1 : Rat) * 18014398509481984 ≤ ((m <<< mo : Nat) : Rat) := by
    have h' : 1 * 18014398509481984 ≤ m <<< mo := Nat.le_trans (by decide) hn
    exact_mod_cast h'
  have hv0 := hv
  rw [hv] at h1 h2 ⊢
  have hph := pw_pos h
  generalize ((m <<< mo : Nat) : Rat) = N at *
  obtain ⟨Q, hQe⟩ : ∃ Q, Q = (W : Rat) + (b : Rat) / 2 := ⟨_, rfl⟩
  rw [← hQe] at hQ hq
  have hQ0 : 0 < Q := by rw [hQe]; grind
  obtain ⟨q, hqe⟩ : ∃ q, q = Q * pw h := ⟨_, rfl⟩
  rw [← hqe] at hq
  have hq0 : 0 < q := by rw [hqe]; exact Rat.mul_pos hQ0 hph
  obtain ⟨v, hve⟩ : ∃ v, v = N * pw h * pw h := ⟨_, rfl⟩
  rw [← hve] at h1 h2 ⊢
  -- the root's square is near
  have hqq : Wn (q * q - v) (uu * v) := by
    have hpp := Rat.mul_pos hph hph
    have e1 : q * q - v = (Q * Q - N) * (pw h * pw h) := by rw [hqe, hve]; grind
    have e2 : uu * v = (uu * N) * (pw h * pw h) := by rw [hve]; grind
    have hQ' : Wn (Q * Q - N) (uu * N) := hQ.mono (by rw [uu_eq]; grind)
    rw [e1, e2]
    obtain ⟨a1, a2⟩ := hQ'
    have m1 := Rat.mul_le_mul_of_nonneg_right a1 (Rat.le_of_lt hpp)
    have m2 := Rat.mul_le_mul_of_nonneg_right a2 (Rat.le_of_lt hpp)
    constructor <;> grind
  have huv : uu * v ≤ v / 1000 := by rw [uu_eq]; grind
  have hvlo : pw (-1074) ≤ v := by
    rw [hve, ← hv0, vd_false]
    have hm1 : (1 : Rat) ≤ (m : Rat) := by
      have := natcle (m := 1) (n := m) (by omega)
      exact this
    have hpi : pw (-1074) ≤ pw i := pw_mono (read_fields hx).2.1
    have hp0 := pw_pos i
    have := Rat.mul_le_mul_of_nonneg_right hm1 (Rat.le_of_lt hp0)
    generalize pw (-1074) = z at *
    generalize pw i = y at *
    grind
  have hqlo : pw (-538) ≤ q := by
    rcases Rat.le_total (a := pw (-538)) (b := q) with h' | h'
    · exact h'
    · exfalso
      have e1 : pw (-1074) = pw (-538) * pw (-538) * 4 := by
        rw [← pw_add]
        have : pw 2 = 4 := by have := pw_nat 2; exact this
        rw [← this, ← pw_add]
        congr 1
      have t1 := Rat.mul_le_mul_of_nonneg_left h' (Rat.le_of_lt hq0)
      have t2 := Rat.mul_le_mul_of_nonneg_right h' (Rat.le_of_lt (pw_pos (-538)))
      have hp := pw_pos (-538)
      have hpp := Rat.mul_pos hp hp
      have := hqq.1
      rw [e1] at hvlo
      generalize pw (-538) = z at *
      grind
  have hqhi : q ≤ pw 1001 := by
    have h1001 : pw 1001 = pw 1000 * 2 := by rw [show (1001 : Int) = 1000 + 1 by decide, pw_add, pw_one]
    have h1000 : 1 ≤ pw 1000 := by have := pw_mono (show (0 : Int) ≤ 1000 by decide); rw [pw_zero] at this; exact this
    rcases Rat.le_total (a := q) (b := 1) with h' | h'
    · rw [h1001]; generalize pw 1000 = z at *; grind
    · have := Rat.mul_le_mul_of_nonneg_left h' (Rat.le_of_lt hq0)
      have := hqq.2
      rw [h1001]; generalize pw 1000 = z at *; grind
  obtain ⟨m', p', hr, hp', hw⟩ := near_err false (2 * W + b) (h - 1) (vd_bound (by rw [hq]; exact Rat.le_trans hqhi (pw_mono (by decide))))
  rw [hq, ← vl_of hr] at hw
  have het : eta ≤ uu * q := by
    have e1 : eta ≤ uu * pw (-538) := by
      unfold eta uu
      rw [← pw_add]
      exact pw_mono (by decide)
    have e2 := Rat.mul_le_mul_of_nonneg_left hqlo (Rat.le_of_lt uu_pos)
    exact Rat.le_trans e1 e2
  refine ⟨⟨_, _, _, hr⟩, ?_, ?_⟩
  · have := hw.1
    rw [uu_eq] at *
    grind
  · generalize vl (D.nearest false (2 * W + b) (h - 1)) = r at *
    have hrq : Wn (r - q) (2 * uu * q) := hw.mono (by grind)
    have hrq2 : Wn (r + q) (3 * q) := by
      obtain ⟨a1, a2⟩ := hrq
      rw [uu_eq] at *
      constructor <;> grind
    have hm' := wn_mul hrq hrq2
    have e1 : (r - q) * (r + q) = r * r - q * q := by grind
    rw [e1] at hm'
    have e2 : 2 * uu * q * (3 * q) = 6 * (uu * (q * q)) := by grind
    rw [e2] at hm'
    have hu2 : uu * (q * q) ≤ uu * (v + v / 1000) := Rat.mul_le_mul_of_nonneg_left (by have := hqq.2; grind) (Rat.le_of_lt uu_pos)
    have e3 : uu * (v + v / 1000) = uu * v + uu * v / 1000 := by grind
    rw [e3] at hu2
    have huv0 : 0 ≤ uu * v := Rat.mul_nonneg (Rat.le_of_lt uu_pos) (by grind)
    have e4 : 8 * uu * v = 8 * (uu * v) := by grind
    rw [e4]
    obtain ⟨a1, a2⟩ := hqq
    obtain ⟨b1, b2⟩ := hm'
    generalize uu * v = y at *
    constructor <;> grind
end Go.Fp

/- The isometric latitude as a float grows. -/
namespace Go.Fp.Tri
open Go.Fp Ieee
set_option maxRecDepth 20000

end Go.Fp.Tri

/- The isometric latitude as a float: how great it is, and that it grows. -/
namespace Go.Fp.Tri
open Go.Fp Ieee
set_option maxRecDepth 20000

abbrev wTwo : Nat := 4611686018427387904
/-- the isometric latitude of a sine, with the eccentricity given -/
def isoW (e s : Nat) : Nat := fdiv (fsub (can (lnP (ratW s))) (fmul e (can (lnP (ratW (fmul e s)))))) wTwo
structure EccOk (e : Nat) : Prop where
  fe : Fin e
  e0 : 0 ≤ vl e
  e1 : vl e ≤ 1416 / 10000
end Go.Fp.Tri

/- A latitude that is found by halves, of numbers that grow. -/
namespace Go.Fp.Tri
open Go.Fp Ieee
set_option maxRecDepth 20000

/-- two latitudes so far from each other -/
def Apart (α β : Int) : Prop := -89000000000 ≤ α ∧ α + 50 ≤ β ∧ β ≤ 89000000000 ∧ ((-85000000000 ≤ α ∧ α ≤ 85000000000) ∨ (-85000000000 ≤ β ∧ β ≤ 85000000000))
end Go.Fp.Tri

/- Walks of package path, and of the reference beside it: third, twice, reduced. -/
namespace Go.Proofs.YtfhpnkmpjijebaaDoor
open Go.RowKit Go.Fp Go.Rel
set_option maxRecDepth 20000

abbrev c16 : Nat := 4625196817309499392
abbrev c4 : Nat := 4616189618054758400
abbrev c3 : Nat := 4613937818241073152
abbrev c2 : Nat := 4611686018427387904
abbrev c1 : Nat := 4607182418800017408
def thirdP (f ca : Nat) : Nat := fmul (fmul (fdiv f (can c16)) ca) (fadd (can c4) (fmul f (fsub (can c4) (fmul (can c3) ca))))
def twiceP (x : Nat) : Nat := fsub (fmul (can c2) (fmul x x)) (can c1)

set_option maxHeartbeats 1000000 in
theorem twice_c (x : Nat) (w : World) : Calls Tryd.prog 43 #[.float .f64 x] w (FlR (twiceP (can x)) w) := by
  unfold twiceP
  go_enter Tryd.func43, Tryd.ntmps43
  go_wp2_with (first | (with_reducible refine upon_fl rfl ?_; intro r n hr))
  go_ret
  refine ⟨_, rfl, by simp only [*, fbin], ?_⟩
  repeat (first | exact Ext.refl _ | refine Ext.drewN ?_ _ | refine Ext.alloc ?_ _)
set_option maxHeartbeats 2000000 in
theorem third_c (a f ca : Nat) (w : World) : Calls Tryd.prog 29 #[globeV a f, .float .f64 ca] w (FlR (thirdP (can f) (can ca)) w) := by
  unfold thirdP
  go_enter Tryd.func29, Tryd.ntmps29
  go_wp2_with (first | (with_reducible refine upon_fl rfl ?_; intro r n hr))
  go_ret
  refine ⟨_, rfl, by simp only [*, fbin], ?_⟩
  repeat (first | exact Ext.refl _ | refine Ext.drewN ?_ _ | refine Ext.alloc ?_ _)

/-- reduced latitude: cosine and sine -/
def redX (lat : Int) : Nat := can (cosP lat)
def redY (f : Nat) (lat : Int) : Nat := fmul (fsub (can c1) (can f)) (can (sinP lat))
def redD (f : Nat) (lat : Int) : Nat := fsqrt (fadd (fmul (redX lat) (redX lat)) (fmul (redY f lat) (redY f lat)))
def RedR (f : Nat) (lat : Int) (w : World) (e : Ending) (w' : World) : Prop := ∃ c s, e = .returned (.tuple #[.float .f64 c, .float .f64 s]) ∧ can c = fdiv (redX lat) (redD f lat) ∧ can s = fdiv (redY f lat) (redD f lat) ∧ Ext w w'
def SpIntN (f : Int → Value) (args : Array Value) (v : Value) : Prop := ∃ a : Int, args = #[.int .i64 a] ∧ v = f a
theorem spIntN_iff (f : Int → Value) (a : Int) (v : Value) : SpIntN f #[.int .i64 a] v ↔ v = f a := by
  unfold SpIntN
  exact ⟨fun ⟨_, h, k⟩ => by simp at h; obtain rfl := h; exact k, fun h => ⟨_, rfl, h⟩⟩
theorem bareN {w w' v : World} (h : Ext w' v) (ho : w'.os = w.os) (ht : w'.tape = w.tape) (hp : w'.output = w.output) (hh : w'.heap = w.heap) : Ext w v :=
  ⟨h.os.trans ho, h.tape.trans ht, h.output.trans hp, by rw [← hh]; exact h.size, fun k hk => by rw [← hh]; exact h.block k (by rw [hh]; exact hk)⟩

set_option maxHeartbeats 4000000 in
theorem reduced_c (a f : Nat) (lat : Int) (w : World) : Calls Tryd.prog 17 #[globeV a f, .int .i64 lat] w (RedR f lat w) := by
  go_enter Tryd.func17, Tryd.ntmps17
  go_wp2_with fail
  have hb1 := Blk.new w #[.float .f64 a, .float .f64 f] 35
  have hw1 : Ext w (w.alloc (.cells #[.float .f64 a, .float .f64 f] 35)) := (Ext.refl w).alloc _
  refine wp_region_all (fun g args v => (g = 22 ∧ SpIntN (fun a => .float .f64 (cosP a)) args v) ∨ (g = 21 ∧ SpIntN (fun a => .float .f64 (sinP a)) args v)) (by kernel_rfl) (by kernel_rfl) ?_
  repeat (first
    | (refine wpR_op rfl (fun w1 hw K hK => ?_); have k1 := (hb1.ext hw.of_drew).cell; go_simp; refine hK _ ?_; clear hK K k1 hw w1)
    | (refine wpR_op rfl (fun w1 hw K hK => ?_); go_simp; refine rel_fl rfl ?_; intro r hr; refine hK _ ?_; clear hK K hw w1)
    | (refine wpR_op rfl (fun w1 hw K hK => ?_); go_simp; refine rel_call (ExR.call (cos_c _ _)) (fun v => ?_) (fun v hv => ?_); (simp [spIntN_iff]); subst hv; refine hK _ ?_; clear hK K hw w1)
    | (refine wpR_op rfl (fun w1 hw K hK => ?_); go_simp; refine rel_call (ExR.call (sin_c _ _)) (fun v => ?_) (fun v hv => ?_); (simp [spIntN_iff]); subst hv; refine hK _ ?_; clear hK K hw w1))
  refine wpR_nil ?_
  intro w2 hx2 _
  have hw2 := hw1.trans hx2.of_drew
  go_wp2_with (first
    | (with_reducible refine upon_fl rfl ?_; intro r n hr)
    | (go_at_call 23; refine (sqrt_c _ _).mono ?_; rintro e w3 ⟨rd, rfl, hrd, hx3⟩; have hw3 := hw2.trans (bareN hx3 rfl rfl rfl rfl)))
  go_ret2
  refine ⟨_, _, rfl, by simp only [redX, redY, redD, *, fbin], by simp only [redX, redY, redD, *, fbin], ?_⟩
  repeat (first | exact hw3 | refine Ext.drewN ?_ _)
end Go.Proofs.YtfhpnkmpjijebaaDoor

/- Walks: the reference's third, reduced; package path's off, the reference's off. -/
namespace Go.Proofs.YtfhpnkmpjijebaaDoor
open Go.RowKit Go.Fp Go.Rel
set_option maxRecDepth 20000

end Go.Proofs.YtfhpnkmpjijebaaDoor

/- Walks: what is taken off the arc: package path's off, the reference's. -/
namespace Go.Proofs.YtfhpnkmpjijebaaDoor
open Go.RowKit Go.Fp Go.Rel
set_option maxRecDepth 20000

abbrev c6 : Nat := 4618441417868443648
def offP (q ss cs cm : Nat) : Nat :=
  fmul (fmul q ss) (fadd cm (fmul (fdiv q (can c4)) (fsub (fmul cs (twiceP cm))
    (fmul (fmul (fdiv q (can c6)) cm) (fmul (fsub (fmul (can c4) (fmul ss ss)) (can c3)) (fsub (fmul (can c4) (fmul cm cm)) (can c3)))))))

set_option maxHeartbeats 8000000 in
theorem off_c (p q ss cs cm : Nat) (w : World) : Calls Tryd.prog 26 #[.agg #[.float .f64 p, .float .f64 q], .float .f64 ss, .float .f64 cs, .float .f64 cm] w (FlR (offP (can q) (can ss) (can cs) (can cm)) w) := by
  unfold offP
  go_enter Tryd.func26, Tryd.ntmps26
  go_wp2_with (first | (with_reducible refine upon_fl rfl ?_; intro r n hr))
  have hb1 := Blk.new w #[.float .f64 p, .float .f64 q] 59
  have hw1 : Ext w (w.alloc (.cells #[.float .f64 p, .float .f64 q] 59)) := (Ext.refl w).alloc _
  refine wp_region_all (fun g args v => g = 43 ∧ SpOne twiceP args v) (by kernel_rfl) (by kernel_rfl) ?_
  repeat (first
    | (refine wpR_op rfl (fun w1 hw K hK => ?_); have k1 := (hb1.ext (bareN hw rfl rfl rfl rfl)).cell; go_simp; refine hK _ ?_; clear hK K k1 hw w1)
    | (refine wpR_op rfl (fun w1 hw K hK => ?_); go_simp; refine rel_fl rfl ?_; intro r hr; refine hK _ ?_; clear hK K hw w1)
    | (refine wpR_op rfl (fun w1 hw K hK => ?_); go_simp; refine rel_call (FlR.call (twice_c _ _)) (fun v => ?_) (fun v hv => ?_); (simp [spOne_iff]); obtain ⟨rt, rfl, hrt⟩ := hv; refine hK _ ?_; clear hK K hw w1))
  refine wpR_nil ?_
  intro w2 hx2 _
  have hw2 := hw1.trans (bareN hx2 rfl rfl rfl rfl)
  go_wp2_with fail
  go_ret
  exact ⟨_, rfl, by simp only [*, fbin], hw2⟩

end Go.Proofs.YtfhpnkmpjijebaaDoor

/- Walks: the two series of a geodesic; the difference of longitudes: package path's, the reference's. -/
namespace Go.Proofs.YtfhpnkmpjijebaaDoor
open Go.RowKit Go.Fp Go.Rel
set_option maxRecDepth 20000

def uP (f ca : Nat) : Nat := fdiv (fmul ca (eccP f)) (fsub (can c1) (eccP f))
def ofP (u : Nat) : Nat := fadd (can c1) (fmul (fdiv u (can 4670232813583204352)) (fadd (can 4661225614328463360) (fmul u (fsub (fmul u (fsub (can 4644337115725824000) (fmul (can 4640361281679785984) u))) (can 4649966615260037120)))))
def ofQ (u : Nat) : Nat := fmul (fdiv u (can 4652218415073722368)) (fadd (can 4643211215818981376) (fmul u (fsub (fmul u (fsub (can 4634907704006017024) (fmul (can 4631811479262199808) u))) (can 4638707616191610880))))
def OfR (f ca : Nat) (w : World) (e : Ending) (w' : World) : Prop := ∃ p q, e = .returned (.agg #[.float .f64 p, .float .f64 q]) ∧ can p = ofP (uP f ca) ∧ can q = ofQ (uP f ca) ∧ Ext w w'
def OfS (f ca : Nat) (w : World) (e : Ending) (w' : World) : Prop := ∃ p q, e = .returned (.tuple #[.float .f64 p, .float .f64 q]) ∧ can p = ofP (uP f ca) ∧ can q = ofQ (uP f ca) ∧ Ext w w'

set_option maxHeartbeats 8000000 in
theorem of_c (a f ca : Nat) (w : World) : Calls Tryd.prog 25 #[globeV a f, .float .f64 ca] w (OfR f (can ca) w) := by
  go_enter Tryd.func25, Tryd.ntmps25
  go_wp2_with fail
  obtain ⟨hb1, hb2, hw1⟩ := ext2 (Ext.refl ((w.alloc (.cells #[.float .f64 a, .float .f64 f] 35)).alloc (.cells #[.float .f64 0, .float .f64 0] 59)))
  have hu : uP f (can ca) = fdiv (fmul (can ca) (eccP f)) (fsub (can c1) (eccP f)) := rfl
  have hsz : ((w.alloc (.cells #[.float .f64 a, .float .f64 f] 35)).alloc (.cells #[.float .f64 0, .float .f64 0] 59)).heap.size = w.heap.size + 1 + 1 := by rw [alloc_size, alloc_size]
  refine wp_region_all (fun g args v => g = 42 ∧ SpGl (fun _ f => eccP f) args v) (by kernel_rfl) (by kernel_rfl) ?_
  repeat (first
    | (refine wpR_op rfl (fun w1 hw K hK => ?_); have k1 := (hb1.ext (bareN hw rfl rfl rfl rfl)).cell; go_simp; refine hK _ ?_; clear hK K k1 hw w1)
    | (refine wpR_op rfl (fun w1 hw K hK => ?_); go_simp; refine rel_fl rfl ?_; intro r hr; refine hK _ ?_; clear hK K hw w1)
    | (refine wpR_op rfl (fun w1 hw K hK => ?_); go_simp; refine rel_call (FlR.call (ecc_c a f _)) (fun v => ?_) (fun v hv => ?_); (simp [spGl_iff']); obtain ⟨rt, rfl, hrt⟩ := hv; refine hK _ ?_; clear hK K hw w1))
  refine wpR_nil ?_
  intro w2 hx2 _
  replace hb2 := hb2.ext (bareN hx2 rfl rfl rfl rfl)
  have hw2 := hw1.trans (bareN hx2 rfl rfl rfl rfl)
  clear hb1 hx2 hsz
  go_wp2_with (first
    | (with_reducible refine upon_fl rfl ?_; intro r n hr)
    | (refine wpList_own rfl 59 _ _ rfl _ _ rfl rfl _ _ (show Blk _ _ _ _ from hb2) (by kernel_rfl) rfl (by simp [Value.oneCell']) ?_; intro w5 hb4 hk5 _; have hw5 : Ext w w5 := hk5 _ (by repeat (first | exact hw2 | refine Ext.drewN ?_ _)) (by omega); have k4 := hb4.cell; clear hb2 hk5))
  refine bodyPost_ret (v := .agg #[.float .f64 _, .float .f64 _]) (by simp [results, Tryd.results25, go_sem, k4]; exact ⟨rfl, rfl⟩) rfl ⟨_, _, rfl, ?_, ?_, hw5⟩
  all_goals simp only [ofP, ofQ, c1, *, fbin]

end Go.Proofs.YtfhpnkmpjijebaaDoor

/- Walks: the difference of longitudes on a globe: package path's, the reference's. -/
namespace Go.Proofs.YtfhpnkmpjijebaaDoor
open Go.RowKit Go.Fp Go.Rel
set_option maxRecDepth 20000

def longerP (f c sa o ss cs cm : Nat) : Nat := fmul (fmul (fmul (fsub (can c1) c) f) sa) (fadd o (fmul (fmul c ss) (fadd cm (fmul (fmul c cs) (twiceP cm)))))

set_option maxHeartbeats 8000000 in
theorem longer_c (a f c sa o ss cs cm : Nat) (w : World) : Calls Tryd.prog 28 #[globeV a f, .float .f64 c, .float .f64 sa, .float .f64 o, .float .f64 ss, .float .f64 cs, .float .f64 cm] w
    (FlR (longerP (can f) (can c) (can sa) (can o) (can ss) (can cs) (can cm)) w) := by
  unfold longerP
  go_enter Tryd.func28, Tryd.ntmps28
  go_wp2_with fail
  have hb1 := Blk.new w #[.float .f64 a, .float .f64 f] 35
  have hw1 : Ext w (w.alloc (.cells #[.float .f64 a, .float .f64 f] 35)) := (Ext.refl w).alloc _
  refine wp_region_all (fun g args v => g = 43 ∧ SpOne twiceP args v) (by kernel_rfl) (by kernel_rfl) ?_
  repeat (first
    | (refine wpR_op rfl (fun w1 hw K hK => ?_); have k1 := (hb1.ext (bareN hw rfl rfl rfl rfl)).cell; go_simp; refine hK _ ?_; clear hK K k1 hw w1)
    | (refine wpR_op rfl (fun w1 hw K hK => ?_); go_simp; refine rel_fl rfl ?_; intro r hr; refine hK _ ?_; clear hK K hw w1)
    | (refine wpR_op rfl (fun w1 hw K hK => ?_); go_simp; refine rel_call (FlR.call (twice_c _ _)) (fun v => ?_) (fun v hv => ?_); (simp [spOne_iff]); obtain ⟨rt, rfl, hrt⟩ := hv; refine hK _ ?_; clear hK K hw w1))
  refine wpR_nil ?_
  intro w2 hx2 _
  have hw2 := hw1.trans (bareN hx2 rfl rfl rfl rfl)
  go_wp2_with fail
  go_ret
  exact ⟨_, rfl, by simp only [c1, *, fbin], hw2⟩

end Go.Proofs.YtfhpnkmpjijebaaDoor
