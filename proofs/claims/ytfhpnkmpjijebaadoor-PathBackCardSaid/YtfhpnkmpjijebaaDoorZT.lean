/- The geodesic between two places: what it is; the one that the statements ask for by its numbers. -/
import Derived.Test.YtfhpnkmpjijebaaDoorZS
namespace Go.Proofs.YtfhpnkmpjijebaaDoor
open Go.RowKit Go.Fp Go.Rel
set_option maxRecDepth 20000

abbrev cPi : Nat := 4614256656552045848
abbrev mPi : Nat := 13837628693406821656
structure LineV where
  (a f : Nat) (lonA latA lonB latB : Int)
namespace LineV
variable (v : LineV) (x : Nat)
def cu1 : Nat := rcP v.f v.latA
def su1 : Nat := rsP v.f v.latA
def cu2 : Nat := rcP v.f v.latB
def su2 : Nat := rsP v.f v.latB
def all : Nat := radP (signP (normP v.lonB - normP v.lonA))
def sl : Nat := can (sinP (nearP x))
def cl : Nat := can (cosP (nearP x))
def t : Nat := fsub (fmul v.cu1 v.su2) (fmul (fmul v.su1 v.cu2) (cl x))
def w : Nat := fmul v.cu2 (sl x)
def ss : Nat := fsqrt (fadd (fmul (v.w x) (v.w x)) (fmul (v.t x) (v.t x)))
def cs : Nat := fadd (fmul v.su1 v.su2) (fmul (fmul v.cu1 v.cu2) (cl x))
def sa : Nat := if D.order (v.ss x) 0 = some .eq then 0 else fdiv (fmul (fmul v.cu1 v.cu2) (sl x)) (v.ss x)
def ca : Nat := fsub (can c1) (fmul (v.sa x) (v.sa x))
def cm : Nat := if D.order (v.ca x) 0 = some .eq then 0 else fsub (v.cs x) (fdiv (fmul (can c2) (fmul v.su1 v.su2)) (v.ca x))
def o : Nat := radP (angleP (v.ss x) (v.cs x)).1
def next : Nat := fadd v.all (longerP (can v.f) (thirdP (can v.f) (v.ca x)) (v.sa x) (v.o x) (v.ss x) (v.cs x) (v.cm x))
/-- too far round -/
def out : Bool := D.order x cPi == some .gt || D.order x mPi == some .lt
def close : Bool := (D.order (fsub (v.next x) x) c11 == some .lt || D.order (fsub (v.next x) x) c11 == some .eq) && (D.order (fsub (v.next x) x) m11 == some .gt || D.order (fsub (v.next x) x) m11 == some .eq)
def far : Nat := fmul (fmul (fmul (can v.a) (fsub (can c1) (can v.f))) (ofP (uP v.f (v.ca x)))) (fsub (v.o x) (offP (ofQ (uP v.f (v.ca x))) (v.ss x) (v.cs x) (v.cm x)))
def outA : Int := (angleP (v.w x) (v.t x)).1
def inA : Int := (angleP (fmul v.cu1 (sl x)) (fsub (fmul (fmul v.cu1 v.su2) (cl x)) (fmul v.su1 v.cu2))).1
/-- the difference of longitudes at which the line is taken, if one is found -/
def go : Nat → Nat → Option Nat
  | 0, _ => none
  | k + 1, x => if out x then none else if v.close x then (if out (v.next x) then none else some (v.next x)) else go k (v.next x)
end LineV

theorem order_canL (x : Nat) {c : Nat} (hc : isNan c = false) : D.order (can x) c = D.order x c := by
  have := order_can x c
  rwa [can_of_not hc] at this
theorem out_no {x : Nat} (h : LineV.out (can x) = false) : (FloatKind.f64.format.order x 4614256656552045848 == some Ordering.gt) = false ∧ (FloatKind.f64.format.order x 13837628693406821656 == some Ordering.lt) = false := by
  unfold LineV.out at h
  rw [order_canL x (by decide +kernel), order_canL x (by decide +kernel), Bool.or_eq_false_iff] at h
  exact h
theorem ite_ne {s X : Nat} (h : (FloatKind.f64.format.order s 0 != some Ordering.eq) = true) : (if D.order (can s) 0 = some .eq then 0 else X) = X := by
  have h0 : ¬ D.order s 0 = some .eq := by
    intro e
    have e2 : FloatKind.f64.format.order s 0 = some .eq := e
    rw [e2] at h; simp at h
  rw [order_canL s (by decide +kernel), if_neg h0]
theorem ite_eq {s X : Nat} (h : (FloatKind.f64.format.order s 0 != some Ordering.eq) = false) : (if D.order (can s) 0 = some .eq then 0 else X) = 0 := by
  have h0 : D.order s 0 = some .eq := by
    have e : FloatKind.f64.format.order s 0 = some .eq := by simpa using h
    exact e
  rw [order_canL s (by decide +kernel), if_pos h0]
theorem go_far {v : LineV} {x : Nat} (j : Nat) (ho : LineV.out x = false) (hc : v.close x = false) : v.go (j + 1) x = v.go j (v.next x) := by
  show (if LineV.out x then none else if v.close x then (if LineV.out (v.next x) then none else some (v.next x)) else v.go j (v.next x)) = _
  rw [ho, hc]; rfl
theorem go_near {v : LineV} {x : Nat} (j : Nat) (ho : LineV.out x = false) (hc : v.close x = true) : v.go (j + 1) x = if LineV.out (v.next x) then none else some (v.next x) := by
  show (if LineV.out x then none else if v.close x then (if LineV.out (v.next x) then none else some (v.next x)) else v.go j (v.next x)) = _
  rw [ho, hc]; rfl
theorem go_out {v : LineV} {x : Nat} (j : Nat) (ho : LineV.out x = true) : v.go j x = none := by
  cases j with
  | zero => rfl
  | succ j =>
    show (if LineV.out x then none else if v.close x then (if LineV.out (v.next x) then none else some (v.next x)) else v.go j (v.next x)) = _
    rw [ho]; rfl
/-- near enough: as package path asks -/
theorem close_of {v : LineV} {x d : Nat} (hd : can d = fsub (v.next x) x) : v.close x =
    ((FloatKind.f64.format.order d 4442235333156365461 == some Ordering.lt || FloatKind.f64.format.order d 4442235333156365461 == some Ordering.eq) &&
     (FloatKind.f64.format.order d 13665607370011141269 == some Ordering.gt || FloatKind.f64.format.order d 13665607370011141269 == some Ordering.eq)) := by
  unfold LineV.close
  rw [← hd, order_canL d (by decide +kernel), order_canL d (by decide +kernel)]
  rfl
def lined0 : LineV := ⟨4652007308841189376, 0, 0, 0, 90000000000, 0⟩
def linedB : Bool := match lined0.go 60 lined0.all with
  | some x => D.order (lined0.far x) 4654619748468785152 == some .gt && D.order (lined0.far x) 4654624146515296256 == some .lt
  | none => false
theorem lined_true : linedB = true := by decide +kernel
theorem lined_ok : okG lined0.a lined0.f = true := by decide +kernel
end Go.Proofs.YtfhpnkmpjijebaaDoor

/- The geodesic between two places at a difference of longitudes: its numbers as floats against what they ought to be. -/
namespace Go.Proofs.YtfhpnkmpjijebaaDoor
open Go.Fp Go.Fp.Tri
set_option maxRecDepth 20000
/-- a quotient by what is not nothing -/
theorem div_by {x d : Nat} {B : Rat} (fx : Fp.Fin x) (fd : Fp.Fin d) (d0 : 0 < vl d) (hB : Wn (vl x) (B * vl d)) (hB2 : B ≤ 1000000000000) :
    Fp.Fin (fdiv x d) ∧ Wn (vl d * vl (fdiv x d) - vl x) (vl d * (uu * (2 * B + 1))) := by
  have hq : Wn (vl x / vl d) B := by
    refine wn_div d0 ?_
    rw [Rat.div_mul_cancel (by grind)]
    exact hB
  obtain ⟨f, e⟩ := divE fx fd (by grind) _ hq hB2
  refine ⟨f, ?_⟩
  have m := wn_mul (wn_pos (Rat.le_of_lt d0)) e
  refine m.of ?_ Rat.le_refl
  have : vl d * (vl x / vl d) = vl x := by rw [Rat.mul_comm, Rat.div_mul_cancel (by grind)]
  rw [show vl d * (vl (fdiv x d) - vl x / vl d) = vl d * vl (fdiv x d) - vl d * (vl x / vl d) by grind, this]
abbrev CSv (v : LineV) (x : Nat) : Rat := vl v.su1 * vl v.su2 + vl v.cu1 * vl v.cu2 * (cis (nearP x)).re
/-- the first numbers -/
structure LineA (v : LineV) (x : Nat) : Prop where
  fsl : Fp.Fin (LineV.sl x)
  esl : Wn (vl (LineV.sl x) - (cis (nearP x)).im) (1 / 100000000000000)
  ft : Fp.Fin (v.t x)
  et : Wn (vl (v.t x) - (vl v.cu1 * vl v.su2 - vl v.su1 * vl v.cu2 * (cis (nearP x)).re)) (2 / 100000000000000)
  bt : Wn (vl (v.t x)) (101 / 100)
  fw : Fp.Fin (v.w x)
  ew : Wn (vl (v.w x) - vl v.cu2 * (cis (nearP x)).im) (2 / 100000000000000)
  bw : Wn (vl (v.w x)) (101 / 100)
  fcs : Fp.Fin (v.cs x)
  ecs : Wn (vl (v.cs x) - CSv v x) (2 / 100000000000000)
  bcs : Wn (vl (v.cs x)) (101 / 100)
  lag : Wn (vl (v.w x) * vl (v.w x) + vl (v.t x) * vl (v.t x) + vl (v.cs x) * vl (v.cs x) - 1) (2 / 10000000000000)
theorem prod_near {a b : Nat} {A B x y e : Rat} (fa : Fp.Fin a) (fb : Fp.Fin b) (ba : Wn (vl a) (102 / 100)) (bb : Wn (vl b) (102 / 100)) (bB : Wn B (102 / 100)) (ea : Wn (vl a - A) x) (eb : Wn (vl b - B) y) (he : 102 / 100 * x + 102 / 100 * y + 3 / 10000000000000000 ≤ e) :
    Fp.Fin (fmul a b) ∧ Wn (vl (fmul a b) - A * B) e := by
  have u1 : uu = 1 / 9007199254740992 := uu_eq
  obtain ⟨f, h⟩ := mulE fa fb _ (wn_mul ba bb) (by grind)
  have m1 := wn_mul ba eb
  have m2 := wn_mul ea bB
  exact ⟨f, (wn_add h (wn_add m1 m2)).of (by grind) (by rw [u1]; grind)⟩
theorem diff_sq {x y e B : Rat} (h : Wn (x - y) e) (hx : Wn x B) (hy : Wn y B) : Wn (x * x - y * y) (e * (2 * B)) := by
  have := wn_mul h (wn_add hx hy)
  exact this.of (by grind) (by grind)
set_option maxHeartbeats 4000000 in
theorem line_a {v : LineV} (h1 : RedOk v.f v.latA) (h2 : RedOk v.f v.latB) (x : Nat) : LineA v x := by
  have u1 : uu = 1 / 9007199254740992 := uu_eq
  obtain ⟨⟨fc, e1⟩, ⟨fs, e2⟩⟩ := cis_near (nearP x)
  have one := cis_one (nearP x)
  have bC := (cis_bd (nearP x)).re
  have bS := (cis_bd (nearP x)).im
  have fc1 : Fp.Fin v.cu1 := h1.fc
  have fs1 : Fp.Fin v.su1 := h1.fs
  have fc2 : Fp.Fin v.cu2 := h2.fc
  have fs2 : Fp.Fin v.su2 := h2.fs
  have bc1 : Wn (vl v.cu1) (1001 / 1000) := h1.bc
  have bs1 : Wn (vl v.su1) (9948 / 10000) := h1.bs
  have bc2 : Wn (vl v.cu2) (1001 / 1000) := h2.bc
  have bs2 : Wn (vl v.su2) (9948 / 10000) := h2.bs
  have n1 : Wn (vl v.cu1 * vl v.cu1 + vl v.su1 * vl v.su1 - 1) (1 / 100000000000000) := h1.one
  have n2 : Wn (vl v.cu2 * vl v.cu2 + vl v.su2 * vl v.su2 - 1) (1 / 100000000000000) := h2.one
  have esl : LineV.sl x = sinP (nearP x) := fs.can
  have ecl : LineV.cl x = cosP (nearP x) := fc.can
  have zero : ∀ y : Rat, Wn (y - y) 0 := fun y => ⟨by grind, by grind⟩
  have bcl : Wn (vl (cosP (nearP x))) (102 / 100) := (wn_add e1 bC).of (by grind) (by unfold tol; grind)
  have bsl : Wn (vl (sinP (nearP x))) (102 / 100) := (wn_add e2 bS).of (by grind) (by unfold tol; grind)
  unfold CSv at *
  have hw : v.w x = fmul v.cu2 (sinP (nearP x)) := by unfold LineV.w; rw [esl]
  have ht : v.t x = fsub (fmul v.cu1 v.su2) (fmul (fmul v.su1 v.cu2) (cosP (nearP x))) := by unfold LineV.t; rw [ecl]
  have hcs : v.cs x = fadd (fmul v.su1 v.su2) (fmul (fmul v.cu1 v.cu2) (cosP (nearP x))) := by unfold LineV.cs; rw [ecl]
  generalize hz : cis (nearP x) = z at *
  have k1 := prod_near (A := vl v.cu2) (B := z.im) fc2 fs (bc2.mono (by grind)) bsl (bS.mono (by grind)) (zero _) e2 (e := 11 / 1000000000000000) (by unfold tol; grind)
  have k2 := prod_near (A := vl v.cu1) (B := vl v.su2) fc1 fs2 (bc1.mono (by grind)) (bs2.mono (by grind)) (bs2.mono (by grind)) (zero _) (zero _) (e := 3 / 10000000000000000) (by grind)
  have k3 := prod_near (A := vl v.su1) (B := vl v.cu2) fs1 fc2 (bs1.mono (by grind)) (bc2.mono (by grind)) (bc2.mono (by grind)) (zero _) (zero _) (e := 3 / 10000000000000000) (by grind)
  have k4 := prod_near (A := vl v.su1) (B := vl v.su2) fs1 fs2 (bs1.mono (by grind)) (bs2.mono (by grind)) (bs2.mono (by grind)) (zero _) (zero _) (e := 3 / 10000000000000000) (by grind)
  have k5 := prod_near (A := vl v.cu1) (B := vl v.cu2) fc1 fc2 (bc1.mono (by grind)) (bc2.mono (by grind)) (bc2.mono (by grind)) (zero _) (zero _) (e := 3 / 10000000000000000) (by grind)
  have c12 := (wn_mul bc1 bc2)
  have s12 := (wn_mul bs1 bs2)
  have cs12 := (wn_mul bc1 bs2)
  have sc12 := (wn_mul bs1 bc2)
  have k6 := prod_near (A := vl v.su1 * vl v.cu2) (B := z.re) k3.1 fc ((wn_add k3.2 sc12).of (by grind) (by grind)) bcl (bC.mono (by grind)) k3.2 e1 (e := 12 / 1000000000000000) (by unfold tol; grind)
  have k7 := prod_near (A := vl v.cu1 * vl v.cu2) (B := z.re) k5.1 fc ((wn_add k5.2 c12).of (by grind) (by grind)) bcl (bC.mono (by grind)) k5.2 e1 (e := 12 / 1000000000000000) (by unfold tol; grind)
  -- sizes by the circle
  have C2 := rsq_nonneg z.re
  have S2 := rsq_nonneg z.im
  have Lag : Wn ((vl v.cu2 * z.im) * (vl v.cu2 * z.im) + (vl v.cu1 * vl v.su2 - vl v.su1 * vl v.cu2 * z.re) * (vl v.cu1 * vl v.su2 - vl v.su1 * vl v.cu2 * z.re) + (vl v.su1 * vl v.su2 + vl v.cu1 * vl v.cu2 * z.re) * (vl v.su1 * vl v.su2 + vl v.cu1 * vl v.cu2 * z.re) - 1) (4 / 100000000000000) := by
    have q0 := wn_mul (wn_mul bc2 bc2) one
    have q1 := wn_mul n1 (wn_mul bs2 bs2)
    have q2 := wn_mul n1 (wn_mul (wn_mul bc2 bc2) (wn_mul bC bC))
    have q3 := n2
    exact (wn_add (wn_add q0 q1) (wn_add q2 q3)).of (by grind) (by grind)
  generalize hγ1 : vl v.cu1 = γ1 at *
  generalize hσ1 : vl v.su1 = σ1 at *
  generalize hγ2 : vl v.cu2 = γ2 at *
  generalize hσ2 : vl v.su2 = σ2 at *
  obtain ⟨W, hW⟩ : ∃ W, W = γ2 * z.im := ⟨_, rfl⟩
  obtain ⟨T, hT⟩ : ∃ T, T = γ1 * σ2 - σ1 * γ2 * z.re := ⟨_, rfl⟩
  obtain ⟨X, hX⟩ : ∃ X, X = σ1 * σ2 + γ1 * γ2 * z.re := ⟨_, rfl⟩
  rw [← hW, ← hT, ← hX] at Lag
  have W2 := rsq_nonneg W
  have T2 := rsq_nonneg T
  have X2 := rsq_nonneg X
  have sz : ∀ y : Rat, y * y ≤ 1 + 4 / 100000000000000 → Wn y (1001 / 1000) := fun y h => ⟨by have := le_of_sq (a := -y) (b := 1001 / 1000) (by grind) (by grind); grind, le_of_sq (by grind) (by grind)⟩
  have bW := sz W (by have := Lag.2; grind)
  have bT := sz T (by have := Lag.2; grind)
  have bX := sz X (by have := Lag.2; grind)
  have at1 : Wn (vl (fmul v.cu1 v.su2) - vl (fmul (fmul v.su1 v.cu2) (cosP (nearP x))) - T) (13 / 1000000000000000) := (wn_sub k2.2 k6.2).of (by rw [hT]; grind) (by grind)
  have at2 : Wn (vl (fmul v.su1 v.su2) + vl (fmul (fmul v.cu1 v.cu2) (cosP (nearP x))) - X) (13 / 1000000000000000) := (wn_add k4.2 k7.2).of (by rw [hX]; grind) (by grind)
  obtain ⟨f1, g1⟩ := subE k2.1 k6.1 (1002 / 1000) ((wn_add at1 bT).of (by grind) (by grind)) (by grind)
  obtain ⟨f2, g2⟩ := addE k4.1 k7.1 (1002 / 1000) ((wn_add at2 bX).of (by grind) (by grind)) (by grind)
  rw [← ht] at f1 g1
  rw [← hcs] at f2 g2
  rw [← hw] at k1
  have et : Wn (vl (v.t x) - T) (2 / 100000000000000) := (wn_add g1 at1).of (by grind) (by rw [u1]; grind)
  have ecs : Wn (vl (v.cs x) - X) (2 / 100000000000000) := (wn_add g2 at2).of (by grind) (by rw [u1]; grind)
  have ew : Wn (vl (v.w x) - W) (2 / 100000000000000) := k1.2.of (by rw [hW]) (by grind)
  have bt : Wn (vl (v.t x)) (101 / 100) := (wn_add et bT).of (by grind) (by grind)
  have bcs : Wn (vl (v.cs x)) (101 / 100) := (wn_add ecs bX).of (by grind) (by grind)
  have bw : Wn (vl (v.w x)) (101 / 100) := (wn_add ew bW).of (by grind) (by grind)
  have d1 := diff_sq et bt (bT.mono (by grind))
  have d2 := diff_sq ew bw (bW.mono (by grind))
  have d3 := diff_sq ecs bcs (bX.mono (by grind))
  have lag := (wn_add (wn_add d1 (wn_add d2 d3)) Lag)
  exact ⟨by rw [esl]; exact fs, by rw [esl, hz]; exact e2, f1, by rw [hγ1, hσ1, hγ2, hσ2, hz]; exact et.of (by rw [hT]) Rat.le_refl, bt, k1.1, by rw [hγ2, hz]; exact ew.of (by rw [hW]) Rat.le_refl, bw, f2, by unfold CSv; rw [hγ1, hσ1, hγ2, hσ2, hz]; exact ecs.of (by rw [hX]) Rat.le_refl, bcs, lag.of (by grind) (by grind)⟩
end Go.Proofs.YtfhpnkmpjijebaaDoor

/- The geodesic between two places at a difference of longitudes: the arc, the azimuth's sine, as floats. -/
namespace Go.Proofs.YtfhpnkmpjijebaaDoor
open Go.Fp Go.Fp.Tri
set_option maxRecDepth 20000
abbrev oIv (v : LineV) (x : Nat) : Int := (angleP (v.ss x) (v.cs x)).1
theorem v_cRad : Fp.Fin (can cRad) ∧ vl (can cRad) = rho := by
  have e : can cRad = RAD := by decide +kernel
  rw [e]; exact v_rad
/-- an angle in radians -/
theorem rad_near {n B : Int} (h1 : -B ≤ n) (h2 : n ≤ B) (hB : B ≤ 360000000000) : Fp.Fin (radP n) ∧ Wn (vl (radP n) - (n : Rat) * rho) (1 / 1000000000000000) := by
  have u1 : uu = 1 / 9007199254740992 := uu_eq
  obtain ⟨f, e⟩ := vl_int n (by omega)
  have w := rho_int h1 h2
  have hb : (B : Rat) * rho ≤ 63 / 10 := by
    have := Rat.mul_le_mul_of_nonneg_right (castle hB) (Rat.le_of_lt rho_pos)
    have := rho_hi
    have e : ((360000000000 : Int) : Rat) = 360000000000 := rfl
    grind
  unfold radP
  rw [f.can]
  obtain ⟨g, h⟩ := mulE f v_cRad.1 (63 / 10) (by rw [e, v_cRad.2]; exact w.mono hb) (by grind)
  rw [e, v_cRad.2] at h
  exact ⟨g, h.mono (by rw [u1]; grind)⟩
theorem rabs_sqr (x : Rat) : rabs x * rabs x = x * x := by unfold rabs; split <;> grind
structure LineB (v : LineV) (x : Nat) : Prop where
  fss : Fp.Fin (v.ss x)
  r0 : 94 / 10000 ≤ vl (v.ss x)
  r1 : vl (v.ss x) ≤ 1001 / 1000
  er : Wn (vl (v.ss x) * vl (v.ss x) - (vl (v.w x) * vl (v.w x) + vl (v.t x) * vl (v.t x))) (2 / 1000000000000000)
  one : Wn (vl (v.ss x) * vl (v.ss x) + vl (v.cs x) * vl (v.cs x) - 1) (3 / 10000000000000)
  fsa : Fp.Fin (v.sa x)
  esa : Wn (vl (v.sa x) * vl (v.ss x) - vl v.cu1 * vl v.cu2 * (cis (nearP x)).im) (3 / 100000000000000)
  bsa : Wn (vl (v.sa x)) (100000001 / 100000000)
  fca : Fp.Fin (v.ca x)
  eca : Wn (vl (v.ca x) - (1 - vl (v.sa x) * vl (v.sa x))) (1 / 1000000000000000)
  ca0 : -(4 / 100000000) ≤ vl (v.ca x)
  ca1 : vl (v.ca x) ≤ 1000001 / 1000000
  o0 : 0 ≤ oIv v x
  o1 : oIv v x ≤ 180000000000
  oc : Wn ((cis (oIv v x)).re - vl (v.cs x)) (42 / 1000000000000)
  os : Wn ((cis (oIv v x)).im - vl (v.ss x)) (42 / 1000000000000)
  fo : Fp.Fin (v.o x)
  eo : Wn (vl (v.o x) - (oIv v x : Rat) * rho) (1 / 1000000000000000)
set_option maxHeartbeats 4000000 in
theorem line_b {v : LineV} (h1 : RedOk v.f v.latA) (h2 : RedOk v.f v.latB) {x : Nat} (hr : 9 / 100000 ≤ 1 - CSv v x * CSv v x) : LineB v x := by
  have u1 : uu = 1 / 9007199254740992 := uu_eq
  have A := line_a h1 h2 x
  have bC := (cis_bd (nearP x)).re
  have bS := (cis_bd (nearP x)).im
  have fc1 : Fp.Fin v.cu1 := h1.fc
  have fc2 : Fp.Fin v.cu2 := h2.fc
  have bc1 : Wn (vl v.cu1) (1001 / 1000) := h1.bc
  have bc2 : Wn (vl v.cu2) (1001 / 1000) := h2.bc
  have n1 : Wn (vl v.cu1 * vl v.cu1 + vl v.su1 * vl v.su1 - 1) (1 / 100000000000000) := h1.one
  have zero : ∀ y : Rat, Wn (y - y) 0 := fun y => ⟨by grind, by grind⟩
  obtain ⟨fsl, esl, ft, et, bt, fw, ew, bw, fcs, ecs, bcs, lag⟩ := A
  have bsl : Wn (vl (LineV.sl x)) (102 / 100) := (wn_add esl bS).of (by grind) (by grind)
  have k5 := prod_near (A := vl v.cu1) (B := vl v.cu2) fc1 fc2 (bc1.mono (by grind)) (bc2.mono (by grind)) (bc2.mono (by grind)) (zero _) (zero _) (e := 3 / 10000000000000000) (by grind)
  have k6 := prod_near (A := vl v.cu1 * vl v.cu2) (B := (cis (nearP x)).im) k5.1 fsl ((wn_add k5.2 (wn_mul bc1 bc2)).of (by grind) (by grind)) bsl (bS.mono (by grind)) k5.2 esl (e := 12 / 1000000000000000) (by grind)
  obtain ⟨fN, eN⟩ := k6
  have hss : v.ss x = fsqrt (fadd (fmul (v.w x) (v.w x)) (fmul (v.t x) (v.t x))) := rfl
  obtain ⟨f1, g1⟩ := mulE fw fw _ (wn_mul bw bw) (by grind)
  obtain ⟨f2, g2⟩ := mulE ft ft _ (wn_mul bt bt) (by grind)
  obtain ⟨f3, g3⟩ := addE f1 f2 3 ((wn_add (wn_add g1 g2) (wn_add (wn_mul bw bw) (wn_mul bt bt))).of (by grind) (by rw [u1]; grind)) (by grind)
  have g4 : Wn (vl (fadd (fmul (v.w x) (v.w x)) (fmul (v.t x) (v.t x))) - (vl (v.w x) * vl (v.w x) + vl (v.t x) * vl (v.t x))) (95 / 100000000000000000) := (wn_add g3 (wn_add g1 g2)).of (by grind) (by rw [u1]; grind)
  have dcs := diff_sq ecs (bcs.mono (show (101 / 100 : Rat) ≤ 102 / 100 by grind)) (show Wn (CSv v x) (102 / 100) from (wn_sub bcs ecs).of (by grind) (by grind))
  generalize hX : CSv v x = X at *
  have big : 8999 / 100000000 ≤ vl (v.w x) * vl (v.w x) + vl (v.t x) * vl (v.t x) := by
    have := lag.1
    have := dcs.2
    grind
  have lo : 8998 / 100000000 ≤ vl (fadd (fmul (v.w x) (v.w x)) (fmul (v.t x) (v.t x))) := by have := g4.1; grind
  have hi : vl (v.w x) * vl (v.w x) + vl (v.t x) * vl (v.t x) ≤ 1 + 2 / 10000000000000 := by have := lag.2; have := rsq_nonneg (vl (v.cs x)); grind
  obtain ⟨f4, r0, g5⟩ := fsqrt_pos f3 (by grind) (big_le (by have := g4.2; grind))
  rw [← hss] at f4 r0 g5
  generalize hr : vl (v.ss x) = r at *
  have er : Wn (r * r - (vl (v.w x) * vl (v.w x) + vl (v.t x) * vl (v.t x))) (2 / 1000000000000000) := by
    refine (wn_add (g5.mono (show _ ≤ 1 / 1000000000000000 from ?_)) g4).of (by grind) (by grind)
    rw [u1]; have := g4.2; grind
  have r1 : 94 / 10000 ≤ r := le_of_sq r0 (by have := er.1; grind)
  have r2 : r ≤ 1001 / 1000 := le_of_sq (by grind) (by have := er.2; grind)
  have one : Wn (r * r + vl (v.cs x) * vl (v.cs x) - 1) (3 / 10000000000000) := (wn_add er lag).of (by grind) (by grind)
  have rp : 0 < r := by grind
  have r9 := sq_le_sq (show (0 : Rat) ≤ 94 / 10000 by grind) r1
  -- the azimuth's sine
  have c1w : Wn (vl v.cu1 * vl (v.w x)) (1000000001 / 1000000000 * r) := by
    have q := wn_mul n1 (wn_mul bw bw)
    have s2 := rsq_nonneg (vl v.su1 * vl (v.w x))
    have t2 := rsq_nonneg (vl (v.t x))
    have up : vl v.cu1 * vl (v.w x) * (vl v.cu1 * vl (v.w x)) ≤ 1000000001 / 1000000000 * r * (1000000001 / 1000000000 * r) := by
      have := er.1
      have := q.2
      grind
    constructor
    · have := le_of_sq (a := -(vl v.cu1 * vl (v.w x))) (b := 1000000001 / 1000000000 * r) (by grind) (by grind)
      grind
    · exact le_of_sq (by grind) up
  have eN2 : Wn (vl (fmul (fmul v.cu1 v.cu2) (LineV.sl x))) (1000000002 / 1000000000 * r) := by
    have q := wn_mul bc1 ew
    exact (wn_add eN (wn_sub c1w q)).of (by grind) (by grind)
  have hsa : v.sa x = fdiv (fmul (fmul v.cu1 v.cu2) (LineV.sl x)) (v.ss x) := by
    unfold LineV.sa
    rw [if_neg]
    intro h
    have := (order_eq f4 v_0.1).1 h
    rw [v_0.2, hr] at this
    grind
  obtain ⟨f5, g6⟩ := div_by (B := 1000000002 / 1000000000) fN f4 (by rw [hr]; exact rp) (by rw [hr]; exact eN2) (by grind)
  rw [← hsa] at f5 g6
  rw [hr] at g6
  have g6' : Wn (r * vl (v.sa x) - vl (fmul (fmul v.cu1 v.cu2) (LineV.sl x))) (1 / 2000000000000000) := by
    refine g6.mono ?_
    have := Rat.mul_le_mul_of_nonneg_right r2 (show 0 ≤ uu * (2 * (1000000002 / 1000000000) + 1) by rw [u1]; grind)
    rw [u1] at *; grind
  have esa : Wn (vl (v.sa x) * r - vl v.cu1 * vl v.cu2 * (cis (nearP x)).im) (3 / 100000000000000) := (wn_add g6' eN).of (by grind) (by grind)
  have bsa : Wn (vl (v.sa x)) (100000001 / 100000000) := by
    refine wn_div rp ?_
    exact (wn_add g6' eN2).of (by grind) (by grind)
  have bsa2 : Wn (vl (v.sa x) * vl (v.sa x)) (100000003 / 100000000) := (wn_mul bsa bsa).mono (by grind)
  have sa2 := rsq_nonneg (vl (v.sa x))
  obtain ⟨f6, g7⟩ := mulE f5 f5 _ bsa2 (by grind)
  obtain ⟨f7, g8⟩ := subE v_c1.1 f6 (11 / 10) (by rw [v_c1.2]; have := g7.1; have := g7.2; have := bsa2.2; rw [u1] at *; constructor <;> grind) (by grind)
  have hca : v.ca x = fsub c1 (fmul (v.sa x) (v.sa x)) := by unfold LineV.ca; rw [c1_can]
  rw [← hca] at f7 g8
  rw [v_c1.2] at g8
  have eca : Wn (vl (v.ca x) - (1 - vl (v.sa x) * vl (v.sa x))) (1 / 1000000000000000) := (wn_sub g8 g7).of (by grind) (by rw [u1]; grind)
  -- the arc
  obtain ⟨o0, _, o1, oA⟩ := ang_all fcs f4 (.inr (by rw [hr]; grind)) (bcs.mono (by grind)) (by rw [hr]; constructor <;> grind)
  have o1 := o1 (by rw [hr]; grind)
  rw [hr] at oA
  have sumb : rabs (vl (v.cs x)) + rabs r ≤ 14143 / 10000 := by
    refine le_of_sq (by grind) ?_
    have a1 := rabs_sqr (vl (v.cs x))
    have a2 := rabs_sqr r
    have a3 := rsq_nonneg (rabs (vl (v.cs x)) - rabs r)
    have := one.2
    grind
  have oA' : Ang (angleP (v.ss x) (v.cs x)).1 (vl (v.cs x)) r (37 / 1000000000000) := ⟨oA.1.mono (by grind), by have := oA.2; grind⟩
  have one1 : Wn (1 * 1 - (vl (v.cs x) * vl (v.cs x) + r * r)) (3 / 10000000000000) := by obtain ⟨_, _⟩ := one; constructor <;> grind
  have br2 : Wn r 2 := ⟨by grind, by grind⟩
  obtain ⟨d1, d2⟩ := dir_of (R := 1) (e := 3 / 10000000000000) (k := 4 / 10000000000000) one1 (by decide +kernel) (bcs.mono (by grind)) br2 oA' (by decide +kernel) (by decide +kernel)
  obtain ⟨f8, g9⟩ := rad_near (n := (angleP (v.ss x) (v.cs x)).1) (B := 180000000000) (by omega) o1 (by omega)
  exact ⟨f4, by rw [hr]; exact r1, by rw [hr]; exact r2, by rw [hr]; exact er, by rw [hr]; exact one, f5, by rw [hr]; exact esa, bsa, f7, eca, by have := eca.1; have := bsa2.2; grind, by have := eca.2; grind, o0, o1, d1.of (by grind) (by grind), by rw [hr]; exact d2.of (by grind) (by grind), f8, g9⟩
end Go.Proofs.YtfhpnkmpjijebaaDoor

/- The geodesic at two differences of longitude: how far its arc and its azimuth are apart. -/
namespace Go.Fp.Tri
open Go.Fp
set_option maxRecDepth 20000
theorem S_q_lo {x : Rat} (h0 : 0 ≤ x) (h1 : x ≤ 1 / 10) : x * (9983 / 10000) ≤ S x := by
  have b := (wn_pev PSq (show Wn x (1 / 10) from ⟨by grind, h1⟩)).mono psq_bd
  have m := Rat.mul_le_mul_of_nonneg_left (show -(17 / 10000) ≤ pev PSq x by have := b.1; grind) h0
  rw [S_q]
  grind
theorem cis_far {D : Int} (h0 : 45000000000 ≤ D) (h1 : D ≤ 180000000000) : (cis D).re ≤ 9 / 10 := by
  obtain ⟨⟨_, e1⟩, _⟩ := cis_near D
  unfold tol at e1
  rcases Int.lt_or_le 90000000000 D with k | k
  · obtain ⟨_, ⟨_, e2⟩⟩ := trig_half (a := D) (by omega) (by omega)
    have p := cI_pm (m := D - 180000000000) (by omega) (by omega)
    unfold tol at e2
    have := e1.1
    have := e2.2
    grind
  · obtain ⟨_, ⟨_, e2⟩⟩ := trig_lat (a := D) (by omega) k
    rw [cI_hi h0] at e2
    have w := rho_int (d := D - 90000000000) (B := 45000000000) (by omega) (by omega)
    have hb : ((45000000000 : Int) : Rat) * rho ≤ 7855 / 10000 := by have := (arg_bd (r := 45000000000) (by omega) (by omega)).2; exact this
    have b := wn_S (w.mono hb)
    unfold tol at e2
    have := e1.1
    have := e2.2
    have := b.1
    grind
/-- two angles whose points are near each other -/
theorem ang_chord0 {a b : Int} {e : Rat} (h : a ≤ b) (hd : b - a ≤ 180000000000) (hM : MB ((cis b).sub (cis a)) e) (he : e ≤ 55 / 1000) : ((b - a : Int) : Rat) * rho ≤ 1003 / 1000 * e + 4 / 1000000000000 := by
  have e0 := hM.1
  have p := rho_pos
  have ad := cis_add a (b - a)
  rw [show a + (b - a) = b by omega] at ad
  have n := cis_one a
  have ba := cis_bd a
  have bd := cis_bd (b - a)
  have bc : MB (⟨(cis a).re, -(cis a).im⟩ : Cx) (1000001 / 1000000) := ⟨ba.1, by have := ba.2; show (cis a).re * (cis a).re + -(cis a).im * -(cis a).im ≤ _; grind⟩
  have q : MB ((cis (b - a)).sub Cx.one) (1000002 / 1000000 * e + 3 / 1000000000000) := by
    have t := (bc.mul (hM.sub ad)).add (MB.sc (bd.sub MB.one) (wn_neg n))
    have N1 := n.1
    refine (t.cast ?_).mono ?_
    · generalize cis a = u at *
      generalize cis (b - a) = d at *
      generalize cis b = v at *
      exact Cx.ext' (by simp; grind) (by simp; grind)
    · grind
  have qr := q.re
  have qi := q.im
  simp at qr qi
  by_cases k : b - a < 45000000000
  · have cd := cis_small (a := b - a) (by omega) k
    rw [cd] at qi
    change Wn (S (((b - a : Int) : Rat) * rho) - 0) _ at qi
    have x0 : 0 ≤ ((b - a : Int) : Rat) * rho := Rat.mul_nonneg (by exact_mod_cast (show (0 : Int) ≤ b - a by omega)) (Rat.le_of_lt p)
    have w := (rho_int (d := b - a) (B := 45000000000) (by omega) (by omega)).2
    have hb : ((45000000000 : Int) : Rat) * rho ≤ 7855 / 10000 := (arg_bd (r := 45000000000) (by omega) (by omega)).2
    have l := S_low x0 (by grind)
    generalize ((b - a : Int) : Rat) * rho = x at *
    have l2 := S_q_lo x0 (by have := qi.2; grind)
    have := qi.2
    grind
  · exfalso
    have := cis_far (D := b - a) (by omega) hd
    have := qr.1
    grind
theorem ang_chord {a b : Int} {e : Rat} (h0 : 0 ≤ a) (h1 : a ≤ 180000000000) (k0 : 0 ≤ b) (k1 : b ≤ 180000000000) (hM : MB ((cis b).sub (cis a)) e) (he : e ≤ 55 / 1000) : Wn ((b : Rat) * rho - (a : Rat) * rho) (1003 / 1000 * e + 4 / 1000000000000) := by
  have e0 := hM.1
  have p := Rat.le_of_lt rho_pos
  rcases Int.le_total a b with k | k
  · have := ang_chord0 k (by omega) hM he
    rw [Rat.intCast_sub] at this
    have := Rat.mul_le_mul_of_nonneg_right (castle k) p
    exact ⟨by grind, by grind⟩
  · have := ang_chord0 k (by omega) (hM.neg.cast (show ((cis b).sub (cis a)).neg = (cis a).sub (cis b) from Cx.ext' (by simp; grind) (by simp; grind))) he
    rw [Rat.intCast_sub] at this
    have := Rat.mul_le_mul_of_nonneg_right (castle k) p
    exact ⟨by grind, by grind⟩
end Go.Fp.Tri
namespace Go.Proofs.YtfhpnkmpjijebaaDoor
open Go.Fp Go.Fp.Tri
set_option maxRecDepth 20000
set_option maxHeartbeats 4000000 in
/-- two differences of longitude so near: the arcs, the azimuths' sines -/
theorem line_two {v : LineV} (h1 : RedOk v.f v.latA) (h2 : RedOk v.f v.latB) {x y : Nat} (A : LineA v x) (A' : LineA v y) (B : LineB v x) (B' : LineB v y) {δ : Rat} (hz : MB ((cis (nearP y)).sub (cis (nearP x))) δ) (hδ : δ ≤ 37 / 1000) :
    Wn (vl (v.ss y) - vl (v.ss x)) (1001 / 1000 * δ + 2 / 1000000000000) ∧ Wn (vl (v.cs y) - vl (v.cs x)) (1003 / 1000 * δ + 1 / 10000000000000) ∧
    Wn ((oIv v y : Rat) * rho - (oIv v x : Rat) * rho) (1425 / 1000 * δ + 14 / 100000000000) ∧
    Wn ((vl (v.sa y) - vl (v.sa x)) * vl (v.ss x)) (2005 / 1000 * δ + 3 / 1000000000000) := by
  have δ0 := hz.1
  have zr := hz.re
  have zi := hz.im
  have z2 := hz.2
  simp at zr zi z2
  have bc1 : Wn (vl v.cu1) (1001 / 1000) := h1.bc
  have bs1 : Wn (vl v.su1) (9948 / 10000) := h1.bs
  have bc2 : Wn (vl v.cu2) (1001 / 1000) := h2.bc
  -- the vector's change
  have dt : Wn (vl (v.t y) - vl (v.t x) + vl v.su1 * vl v.cu2 * ((cis (nearP y)).re - (cis (nearP x)).re)) (4 / 100000000000000) := (wn_sub A'.et A.et).of (by grind) (by grind)
  have dw : Wn (vl (v.w y) - vl (v.w x) - vl v.cu2 * ((cis (nearP y)).im - (cis (nearP x)).im)) (4 / 100000000000000) := (wn_sub A'.ew A.ew).of (by grind) (by grind)
  have dcs : Wn (vl (v.cs y) - vl (v.cs x) - vl v.cu1 * vl v.cu2 * ((cis (nearP y)).re - (cis (nearP x)).re)) (4 / 100000000000000) := (wn_sub A'.ecs A.ecs).of (by unfold CSv; grind) (by grind)
  have dsa : Wn (vl (v.sa y) * vl (v.ss y) - vl (v.sa x) * vl (v.ss x) - vl v.cu1 * vl v.cu2 * ((cis (nearP y)).im - (cis (nearP x)).im)) (6 / 100000000000000) := (wn_sub B'.esa B.esa).of (by grind) (by grind)
  generalize (cis (nearP y)).re - (cis (nearP x)).re = ΔC at *
  generalize (cis (nearP y)).im - (cis (nearP x)).im = ΔS at *
  have mV0 : MB (⟨-(vl v.su1 * vl v.cu2 * ΔC), vl v.cu2 * ΔS⟩ : Cx) (1001 / 1000 * δ) := by
    refine ⟨by grind, ?_⟩
    have a := mul_mono (rsq_nonneg (vl v.su1)) (show vl v.su1 * vl v.su1 ≤ 1 by have := (wn_mul bs1 bs1).2; grind) (rsq_nonneg ΔC) (Rat.le_refl)
    have b := mul_mono (rsq_nonneg (vl v.cu2)) (wn_mul bc2 bc2).2 (show 0 ≤ ΔC * ΔC + ΔS * ΔS by have := rsq_nonneg ΔC; have := rsq_nonneg ΔS; grind) z2
    have c := Rat.mul_le_mul_of_nonneg_left a (rsq_nonneg (vl v.cu2))
    simp only
    grind
  have mV : MB (⟨vl (v.t y) - vl (v.t x), vl (v.w y) - vl (v.w x)⟩ : Cx) (1001 / 1000 * δ + 1 / 10000000000000) := by
    have e := MB.of (z := (⟨vl (v.t y) - vl (v.t x) + vl v.su1 * vl v.cu2 * ΔC, vl (v.w y) - vl (v.w x) - vl v.cu2 * ΔS⟩ : Cx)) dt dw (show (0 : Rat) ≤ 1 / 10000000000000 by grind) (by grind)
    refine ((mV0.add e).cast (Cx.ext' (by simp; grind) (by simp; grind))).mono Rat.le_refl
  -- the sine of the arc
  have len : ∀ q : Nat, LineB v q → MB (⟨vl (v.t q), vl (v.w q)⟩ : Cx) (vl (v.ss q) + 1 / 2000000000000) := by
    intro q b
    have := b.r0
    refine ⟨by grind, ?_⟩
    have := b.er.1
    simp only
    grind
  have back : ∀ (q : Nat) (e : Rat), LineB v q → MB (⟨vl (v.t q), vl (v.w q)⟩ : Cx) e → vl (v.ss q) ≤ e + 1 / 2000000000000 := by
    intro q e b m
    have := b.r0
    have e0 := m.1
    have m2 := m.2
    simp only at m2
    have := b.er.2
    rcases Rat.le_total (a := e) (b := 1 / 100) with k | k
    · rcases Rat.le_total (a := vl (v.ss q)) (b := e + 1 / 2000000000000) with j | j
      · exact j
      · exfalso
        have c := Rat.mul_le_mul_of_nonneg_right j (show 0 ≤ vl (v.ss q) by grind)
        have d := Rat.mul_le_mul_of_nonneg_left j e0
        grind
    · refine le_of_sq (by grind) ?_
      grind
  have up : vl (v.ss y) ≤ vl (v.ss x) + 1 / 2000000000000 + (1001 / 1000 * δ + 1 / 10000000000000) + 1 / 2000000000000 :=
    back y _ B' (((len x B).add mV).cast (Cx.ext' (by simp; grind) (by simp; grind)))
  have dn : vl (v.ss x) ≤ vl (v.ss y) + 1 / 2000000000000 + (1001 / 1000 * δ + 1 / 10000000000000) + 1 / 2000000000000 :=
    back x _ B (((len y B').add mV.neg).cast (Cx.ext' (by simp; grind) (by simp; grind)))
  have er : Wn (vl (v.ss y) - vl (v.ss x)) (1001 / 1000 * δ + 2 / 1000000000000) := ⟨by grind, by grind⟩
  have ecs : Wn (vl (v.cs y) - vl (v.cs x)) (1003 / 1000 * δ + 1 / 10000000000000) := (wn_add dcs (wn_mul (wn_mul bc1 bc2) zr)).of (by grind) (by grind)
  refine ⟨er, ecs, ?_, ?_⟩
  · have m1 : MB (⟨vl (v.cs y) - vl (v.cs x), vl (v.ss y) - vl (v.ss x)⟩ : Cx) (1418 / 1000 * δ + 3 / 1000000000000) := MB.of ecs er (by grind) (by have := rsq_nonneg δ; grind)
    have m2 : MB (⟨(cis (oIv v y)).re - vl (v.cs y), (cis (oIv v y)).im - vl (v.ss y)⟩ : Cx) (6 / 100000000000) := MB.of B'.oc B'.os (by grind) (by grind)
    have m3 : MB (⟨(cis (oIv v x)).re - vl (v.cs x), (cis (oIv v x)).im - vl (v.ss x)⟩ : Cx) (6 / 100000000000) := MB.of B.oc B.os (by grind) (by grind)
    have m4 : MB ((cis (oIv v y)).sub (cis (oIv v x))) (1418 / 1000 * δ + 124 / 1000000000000) := (((m1.add m2).sub m3).cast (Cx.ext' (by simp; grind) (by simp; grind))).mono (by grind)
    exact (ang_chord B.o0 B.o1 B'.o0 B'.o1 m4 (by grind)).mono (by grind)
  · have a := wn_mul (wn_mul bc1 bc2) zi
    have b := wn_mul B'.bsa er
    exact (wn_sub (wn_add dsa a) b).of (by grind) (by grind)
end Go.Proofs.YtfhpnkmpjijebaaDoor

/- The geodesic at two differences of longitude a few nanodegrees apart: how far the azimuths are apart. -/
namespace Go.Proofs.YtfhpnkmpjijebaaDoor
open Go.Fp Go.Fp.Tri
set_option maxRecDepth 20000
/-- how fast the azimuth's sine grows: no faster than one, times the arc's sine -/
theorem slope_one {γ1 σ1 γ2 σ2 C S X : Rat} (n1 : Wn (γ1 * γ1 + σ1 * σ1 - 1) (1 / 100000000000000)) (n2 : Wn (γ2 * γ2 + σ2 * σ2 - 1) (1 / 100000000000000)) (n : Wn (C * C + S * S - 1) (1 / 1000000000000000))
    (bc1 : Wn γ1 (1001 / 1000)) (bs1 : Wn σ1 (9948 / 10000)) (bc2 : Wn γ2 (1001 / 1000)) (hX : X = σ1 * σ2 + γ1 * γ2 * C) (bX : Wn X (102 / 100)) (R0 : 0 ≤ 1 - X * X) :
    Wn ((1 - X * X) * (γ1 * γ2 * C) - (γ1 * γ2 * S) * (γ1 * γ2 * S) * X) (1 - X * X + 1 / 10000000000000) := by
  have bs1' : Wn (1 - σ1 * σ1) 1 := by have := rsq_nonneg σ1; have := (wn_mul bs1 bs1).2; constructor <;> grind
  have q : Wn (σ1 * σ1 + σ2 * σ2 - 2 * X * (σ1 * σ2) - (1 - X * X - (γ1 * γ2 * S) * (γ1 * γ2 * S))) (3 / 100000000000000) :=
    (wn_add (wn_mul n1 (wn_mul bc2 bc2)) (wn_add (wn_mul n2 bs1') (wn_mul n (wn_mul (wn_mul bc1 bc2) (wn_mul bc1 bc2))))).of (by rw [hX]; grind) (by grind)
  have qX := wn_mul q bX
  have e : (1 - X * X) * (γ1 * γ2 * C) - (γ1 * γ2 * S) * (γ1 * γ2 * S) * X = -((σ1 - X * σ2) * (σ2 - X * σ1)) - (σ1 * σ1 + σ2 * σ2 - 2 * X * (σ1 * σ2) - (1 - X * X - (γ1 * γ2 * S) * (γ1 * γ2 * S))) * X := by
    have : γ1 * γ2 * C = X - σ1 * σ2 := by rw [hX]; grind
    rw [this]; grind
  rw [e]
  have a2 := rsq_nonneg (γ1 * γ2 * S)
  generalize hE : σ1 * σ1 + σ2 * σ2 - 2 * X * (σ1 * σ2) - (1 - X * X - (γ1 * γ2 * S) * (γ1 * γ2 * S)) = E at *
  generalize (γ1 * γ2 * S) * (γ1 * γ2 * S) = aa at *
  -- R2 is not negative: it is the sum of squares
  have s0 := rsq_nonneg (σ1 - X * σ2)
  have s1 := rsq_nonneg (σ2 - X * σ1)
  have s2 := rsq_nonneg ((σ1 - X * σ2) + (σ2 - X * σ1))
  have s3 := rsq_nonneg ((σ1 - X * σ2) - (σ2 - X * σ1))
  have u1 : (σ1 - X * σ2) * (σ1 - X * σ2) = 1 - X * X - aa + E - σ2 * σ2 * (1 - X * X) := by grind
  have u2 : (σ2 - X * σ1) * (σ2 - X * σ1) = 1 - X * X - aa + E - σ1 * σ1 * (1 - X * X) := by grind
  have m1 := Rat.mul_nonneg (rsq_nonneg σ1) R0
  have m2 := Rat.mul_nonneg (rsq_nonneg σ2) R0
  generalize σ1 * σ1 * (1 - X * X) = w1 at *
  generalize σ2 * σ2 * (1 - X * X) = w2 at *
  have := q.1
  have := q.2
  have := qX.1
  have := qX.2
  generalize E * X = EX' at *
  constructor <;> grind
set_option maxHeartbeats 4000000 in
/-- a few nanodegrees on -/
theorem line_few {v : LineV} (h1 : RedOk v.f v.latA) (h2 : RedOk v.f v.latB) {x y : Nat} (A : LineA v x) (A' : LineA v y) (B : LineB v x) (B' : LineB v y) {d : Int} {b : Rat} (hd : nearP y = nearP x + d) (d1 : -3 ≤ d) (d2 : d ≤ 3)
    (hb : Wn ((d : Rat) * rho) b) : Wn ((vl (v.sa y) - vl (v.sa x)) * vl (v.ss x)) (10002 / 10000 * b + 75 / 10000000000000) := by
  have ch := cis_chord (a := nearP x) (d := d) (B := 3) (by omega) d2 (by omega)
  rw [← hd] at ch
  have hδ : ((3 : Int) : Rat) * rho * (1005 / 1000) + 3 / 1000000000000 ≤ 57 / 1000000000000 := by
    have := rho_hi
    have e : ((3 : Int) : Rat) = 3 := rfl
    rw [e]; grind
  have ch' := ch.mono hδ
  obtain ⟨er, _, _, es⟩ := line_two h1 h2 A A' B B' ch' (by grind)
  have li := cis_lin (a := nearP x) (d := d) (by omega) (by omega)
  rw [← hd] at li
  have lr := li.re
  have lm := li.im
  simp at lr lm
  have b3 : Wn ((d : Rat) * rho) (53 / 1000000000000) := by
    refine (rho_int (d := d) (B := 3) (by omega) d2).mono ?_
    have := rho_hi
    have e : ((3 : Int) : Rat) = 3 := rfl
    rw [e]; grind
  have bc1 : Wn (vl v.cu1) (1001 / 1000) := h1.bc
  have bs1 : Wn (vl v.su1) (9948 / 10000) := h1.bs
  have bc2 : Wn (vl v.cu2) (1001 / 1000) := h2.bc
  have bs2 : Wn (vl v.su2) (9948 / 10000) := h2.bs
  have n1 : Wn (vl v.cu1 * vl v.cu1 + vl v.su1 * vl v.su1 - 1) (1 / 100000000000000) := h1.one
  have n2 : Wn (vl v.cu2 * vl v.cu2 + vl v.su2 * vl v.su2 - 1) (1 / 100000000000000) := h2.one
  have n := cis_one (nearP x)
  have bC := (cis_bd (nearP x)).re
  have bS := (cis_bd (nearP x)).im
  have dt : Wn (vl (v.t y) - vl (v.t x) + vl v.su1 * vl v.cu2 * ((cis (nearP y)).re - (cis (nearP x)).re)) (4 / 100000000000000) := (wn_sub A'.et A.et).of (by grind) (by grind)
  have dw : Wn (vl (v.w y) - vl (v.w x) - vl v.cu2 * ((cis (nearP y)).im - (cis (nearP x)).im)) (4 / 100000000000000) := (wn_sub A'.ew A.ew).of (by grind) (by grind)
  have dsa : Wn (vl (v.sa y) * vl (v.ss y) - vl (v.sa x) * vl (v.ss x) - vl v.cu1 * vl v.cu2 * ((cis (nearP y)).im - (cis (nearP x)).im)) (6 / 100000000000000) := (wn_sub B'.esa B.esa).of (by grind) (by grind)
  obtain ⟨_, _, _, et, bt, _, ew, bw, _, ecs, bcs, _⟩ := A
  obtain ⟨_, r0, r1, er1, one, _, esa, bsa, _⟩ := B
  have er2 := B'.er
  have bsa' := B'.bsa
  have bX : Wn (CSv v x) (102 / 100) := (wn_sub bcs ecs).of (by grind) (by grind)
  unfold CSv at *
  generalize cis (nearP y) = z' at *
  generalize cis (nearP x) = z at *
  generalize (d : Rat) * rho = θ at *
  obtain ⟨ΔC, hC⟩ : ∃ ΔC, ΔC = z'.re - z.re := ⟨_, rfl⟩
  obtain ⟨ΔS, hS⟩ : ∃ ΔS, ΔS = z'.im - z.im := ⟨_, rfl⟩
  rw [← hC] at dt lr
  rw [← hS] at dw dsa lm
  have lr : Wn (ΔC + θ * z.im) (21 / 10000000000000) := lr.of (by grind) Rat.le_refl
  have lm : Wn (ΔS - θ * z.re) (21 / 10000000000000) := lm.of (by grind) Rat.le_refl
  generalize vl v.cu1 = γ1 at *
  generalize vl v.su1 = σ1 at *
  generalize vl v.cu2 = γ2 at *
  generalize vl v.su2 = σ2 at *
  generalize vl (v.t y) = t' at *
  generalize vl (v.t x) = t at *
  generalize vl (v.w y) = w' at *
  generalize vl (v.w x) = w at *
  generalize vl (v.ss y) = r' at *
  generalize vl (v.ss x) = r at *
  generalize vl (v.sa y) = s' at *
  generalize vl (v.sa x) = s at *
  generalize vl (v.cs x) = cs at *
  obtain ⟨X, hX⟩ : ∃ X, X = σ1 * σ2 + γ1 * γ2 * z.re := ⟨_, rfl⟩
  rw [← hX] at bX ecs
  have θr := wn_mul b3 bC
  have θi := wn_mul b3 bS
  have bΔC : Wn ΔC (56 / 1000000000000) := (wn_sub lr θi).of (by grind) (by grind)
  have bΔS : Wn ΔS (56 / 1000000000000) := (wn_add lm θr).of (by grind) (by grind)
  -- the vector's change, along itself
  have Dt : Wn (t' - t - θ * (σ1 * γ2 * z.im)) (22 / 10000000000000) := (wn_sub dt (wn_mul (wn_mul bs1 bc2) lr)).of (by grind) (by grind)
  have Dw : Wn (w' - w - θ * (γ2 * z.re)) (22 / 10000000000000) := (wn_add dw (wn_mul bc2 lm)).of (by grind) (by grind)
  have bDt : Wn (t' - t) (6 / 100000000000) := (wn_add Dt (wn_mul b3 (wn_mul (wn_mul bs1 bc2) bS))).of (by grind) (by grind)
  have bDw : Wn (w' - w) (6 / 100000000000) := (wn_add Dw (wn_mul b3 (wn_mul bc2 bC))).of (by grind) (by grind)
  have rp : 0 < r := by grind
  have big : ∀ q : Rat, q * q ≤ r * r + 2 / 1000000000000000 → Wn q (1001 / 1000 * r) := by
    intro q h
    have r9 := sq_le_sq (show (0 : Rat) ≤ 94 / 10000 by grind) r0
    exact ⟨by have := le_of_sq (a := -q) (b := 1001 / 1000 * r) (by grind) (by grind); grind, le_of_sq (by grind) (by grind)⟩
  have bwr := big w (by have := rsq_nonneg t; have := er1.1; grind)
  have btr := big t (by have := rsq_nonneg w; have := er1.1; grind)
  have e3 : Wn (γ2 * z.re + σ1 * t - γ1 * X) (4 / 100000000000000) := by
    have a := wn_mul bs1 et
    have b := wn_mul n1 (wn_mul bc2 bC)
    exact (wn_sub a b).of (by rw [hX]; grind) (by grind)
  have along : Wn (w * (w' - w) + t * (t' - t) - θ * (s * r * X)) (45 / 10000000000000 * r + 1 / 10000000000000000000) := by
    have a := wn_add (wn_mul bwr Dw) (wn_mul btr Dt)
    have b := wn_mul b3 (wn_mul (show Wn (w - γ2 * z.im) (2 / 100000000000000) from ew) bC)
    have c := wn_mul b3 (wn_mul (wn_mul bc2 bS) e3)
    have d := wn_mul b3 (wn_mul esa bX)
    have e : w * (w' - w) + t * (t' - t) - θ * (s * r * X) = (w * (w' - w - θ * (γ2 * z.re)) + t * (t' - t - θ * (σ1 * γ2 * z.im))) + θ * ((w - γ2 * z.im) * z.re) * γ2 + θ * (γ2 * z.im * (γ2 * z.re + σ1 * t - γ1 * X)) - θ * ((s * r - γ1 * γ2 * z.im) * X) := by grind
    rw [e]
    exact (wn_sub (wn_add (wn_add a (wn_mul b bc2)) c) d).mono (by grind)
  have q2 := wn_add (wn_mul bDw bDw) (wn_mul bDt bDt)
  have dr2 : Wn ((r' - r) * r - θ * (s * r * X)) (45 / 10000000000000 * r + 3 / 1000000000000000) := by
    have a := wn_sub er2 er1
    have b := wn_mul er er
    have e : (r' - r) * r - θ * (s * r * X) = 1 / 2 * ((r' * r' - (w' * w' + t' * t')) - (r * r - (w * w + t * t))) + (w * (w' - w) + t * (t' - t) - θ * (s * r * X)) + 1 / 2 * ((w' - w) * (w' - w) + (t' - t) * (t' - t)) - 1 / 2 * ((r' - r) * (r' - r)) := by grind
    have half : Wn (1 / 2 : Rat) (1 / 2) := ⟨by grind, by grind⟩
    rw [e]
    exact (wn_sub (wn_add (wn_add (wn_mul half a) along) (wn_mul half q2)) (wn_mul half b)).mono (by grind)
  have dr : Wn (r' - r - θ * (s * X)) (49 / 10000000000000) := wn_div rp (dr2.of (by grind) (by grind))
  have ds : Wn (s' - s) (13 / 1000000000) := wn_div rp (es.mono (by grind))
  -- the slope
  have R2 : Wn (1 - X * X - r * r) (4 / 10000000000000) := by
    have := diff_sq ecs (bcs.mono (show (101 / 100 : Rat) ≤ 102 / 100 by grind)) bX
    exact (wn_sub this one).of (by grind) (by grind)
  have r9 := sq_le_sq (show (0 : Rat) ≤ 94 / 10000 by grind) r0
  have sl := slope_one n1 n2 n bc1 bs1 bc2 hX bX (by have := R2.1; grind)
  have G : Wn (γ1 * γ2 * z.re - s * s * X) (10001 / 10000) := by
    have rr : 0 < r * r := by grind
    refine wn_div rr ?_
    have bcc := wn_mul (wn_mul bc1 bc2) bC
    have sr : Wn (s * r) (101 / 100) := (wn_mul bsa (show Wn r (1001 / 1000) from ⟨by grind, r1⟩)).mono (by grind)
    have sr2 : Wn (γ1 * γ2 * z.im) (102 / 100) := (wn_sub sr esa).of (by grind) (by grind)
    have p := wn_mul (diff_sq esa (sr.mono (show (101 / 100 : Rat) ≤ 102 / 100 by grind)) sr2) bX
    have k := wn_mul R2 bcc
    refine (wn_sub (wn_sub sl k) p).of (by grind) ?_
    have := R2.2
    grind
  have fin : Wn (θ * (γ1 * γ2 * z.re - s * s * X) + γ1 * γ2 * (ΔS - θ * z.re) - s' * (r' - r - θ * (s * X)) - θ * ((s' - s) * (s * X)) + (s' * r' - s * r - γ1 * γ2 * ΔS)) _ :=
    wn_add (wn_sub (wn_sub (wn_add (wn_mul hb G) (wn_mul (wn_mul bc1 bc2) lm)) (wn_mul bsa' dr)) (wn_mul b3 (wn_mul ds (wn_mul bsa bX)))) dsa
  have b0 := hb.nonneg
  exact fin.of (by grind) (by grind)
end Go.Proofs.YtfhpnkmpjijebaaDoor

/- The third flattening's coefficient, the middle's cosine, the longitude's lengthening, as floats. -/
namespace Go.Fp.Tri
open Go.Fp
set_option maxRecDepth 20000
theorem eta_tiny : eta ≤ 1 / 1000000000000000000000000000000000000000000000000000000000000000000 := by
  have h : eta ≤ pw (-230) := pw_mono (by decide)
  have e : pw (-230) * 1725436586697640946858688965569256363112777243042596638790631055949824 = 1 := by
    have h := pw_add (-230) 230
    rw [show (-230 + 230 : Int) = 0 by decide, pw_zero] at h
    have h3 : pw 230 = 1725436586697640946858688965569256363112777243042596638790631055949824 := by have := pw_nat 230; exact this
    rw [h3] at h
    exact h.symm
  grind
/-- what is at most half the least number is nothing -/
theorem vl_small {x : Nat} (hx : Fin x) (h : Wn (vl x) eta) : vl x = 0 := by
  obtain ⟨a, b, _, e, _⟩ := order_vl hx hx
  have e2 : pw (-1074) = 2 * eta := by
    have := pw_add (-1075) 1
    rw [show (-1075 + 1 : Int) = -1074 by decide, pw_one] at this
    unfold eta
    rw [this]; grind
  have p := eta_pos
  rw [e, e2] at h
  rw [e]
  have h1 : Wn (a : Rat) (1 / 2) := by
    refine wn_div p ?_
    obtain ⟨_, _⟩ := h
    constructor <;> grind
  have : a = 0 := by
    obtain ⟨l, u⟩ := h1
    have l2 : ¬ (a ≤ -1) := fun k => by have := castle k; have e : ((-1 : Int) : Rat) = -1 := rfl; rw [e] at this; grind
    have u2 : ¬ (1 ≤ a) := fun k => by have := castle k; have e : ((1 : Int) : Rat) = 1 := rfl; rw [e] at this; grind
    omega
  rw [this]
  simp
theorem rabs_le {x e : Rat} (h : Wn x e) : rabs x ≤ e := by have := h.1; have := h.2; unfold rabs; split <;> grind
theorem rabs_mul (x y : Rat) : rabs (x * y) = rabs x * rabs y := by
  have a : ∀ z : Rat, rabs z * rabs z = z * z := fun z => by unfold rabs; split <;> grind
  have e : rabs (x * y) * rabs (x * y) = rabs x * rabs y * (rabs x * rabs y) := by
    rw [a, show rabs x * rabs y * (rabs x * rabs y) = (rabs x * rabs x) * (rabs y * rabs y) by grind, a, a]; grind
  refine Rat.le_antisymm (le_of_sq (Rat.mul_nonneg (rabs_nonneg x) (rabs_nonneg y)) ?_) (le_of_sq (rabs_nonneg _) ?_)
  · rw [e]; exact Rat.le_refl
  · rw [e]; exact Rat.le_refl
/-- float operations, relatively -/
theorem mulA {x y : Nat} (hx : Fin x) (hy : Fin y) (h : rabs (vl x) * rabs (vl y) ≤ 1000000000000000000000000000000) : Fin (fmul x y) ∧ Wn (vl (fmul x y) - vl x * vl y) (uu * (rabs (vl x) * rabs (vl y)) + eta) := by
  have := fmul_err hx hy (rabs (vl x) * rabs (vl y)) (by rw [← rabs_mul]; exact wn_rabs _) (big30' h)
  exact this
end Go.Fp.Tri
namespace Go.Proofs.YtfhpnkmpjijebaaDoor
open Go.Fp Go.Fp.Tri
set_option maxRecDepth 20000
set_option maxHeartbeats 4000000 in
/-- the middle's cosine, times the azimuth's cosine squared -/
theorem cm_gen {cs p ca : Nat} (fcs : Fp.Fin cs) (fp : Fp.Fin p) (fca : Fp.Fin ca) (bcs : Wn (vl cs) (101 / 100)) (bp : Wn (vl p) 2) (bca : Wn (vl ca) (101 / 100)) (h0 : 1 / 4611686018427387904 ≤ rabs (vl ca)) :
    Fp.Fin (fsub cs (fdiv p ca)) ∧ Wn (vl (fsub cs (fdiv p ca))) 100000000000000000000 ∧ Wn (vl ca * vl (fsub cs (fdiv p ca)) - (vl ca * vl cs - vl p)) (2 / 1000000000000000) := by
  have u1 : uu = 1 / 9007199254740992 := uu_eq
  have eta0 := eta_pos
  have eta1 := eta_tiny
  have c0 : vl ca ≠ 0 := by
    intro e
    rw [e] at h0
    unfold rabs at h0
    rw [if_neg (by grind)] at h0
    grind
  obtain ⟨Q, hQ⟩ : ∃ Q, Q = vl p / vl ca := ⟨_, rfl⟩
  have hQ2 : Q * vl ca = vl p := by rw [hQ]; exact Rat.div_mul_cancel c0
  have hab : rabs Q * rabs (vl ca) = rabs (vl p) := by rw [← rabs_mul, hQ2]
  have q0 := rabs_nonneg Q
  have cb : rabs (vl ca) ≤ 101 / 100 := rabs_le bca
  have pb : rabs (vl p) ≤ 2 := rabs_le bp
  have Qb : rabs Q ≤ 9223372036854775808 := by
    have := Rat.mul_le_mul_of_nonneg_left h0 q0
    grind
  obtain ⟨f1, e1⟩ := fdiv_err fp fca c0 (rabs Q) (by rw [← hQ]; exact wn_rabs Q) (big30 (by grind))
  rw [← hQ] at e1
  have bq : Wn (vl (fdiv p ca)) (rabs Q + (2 * uu * rabs Q + eta)) := (wn_add e1 (wn_rabs Q)).of (by grind) (by grind)
  obtain ⟨f2, e2⟩ := fsub_err fcs f1 (2 + 2 * rabs Q) ((wn_sub bcs bq).of (by grind) (by rw [u1]; grind)) (big30' (by grind))
  have cw := wn_rabs (vl ca)
  have m1 := wn_mul cw e1
  have m2 := wn_mul cw e2
  refine ⟨f2, (wn_add e2 (wn_sub bcs bq)).of (by grind) (by rw [u1]; grind), (wn_sub m2 m1).of (by grind) ?_⟩
  have k : rabs (vl ca) * (uu * (2 + 2 * rabs Q) + eta) + rabs (vl ca) * (2 * uu * rabs Q + eta) = uu * (2 * rabs (vl ca) + 4 * (rabs Q * rabs (vl ca))) + 2 * (eta * rabs (vl ca)) := by grind
  rw [k, hab]
  have e3 := Rat.mul_le_mul_of_nonneg_left cb (Rat.le_of_lt eta0)
  rw [u1]
  grind
theorem v_c16 : Fp.Fin (can c16) ∧ vl (can c16) = 16 := by rw [show can c16 = c16 from can_of_not (by decide +kernel)]; exact vl_const (s := false) (m := 4503599627370496) (k := 48) (by decide +kernel) (by decide +kernel)
theorem v_c4 : Fp.Fin (can c4) ∧ vl (can c4) = 4 := by rw [show can c4 = c4 from can_of_not (by decide +kernel)]; exact vl_const (s := false) (m := 4503599627370496) (k := 50) (by decide +kernel) (by decide +kernel)
theorem v_c3 : Fp.Fin (can c3) ∧ vl (can c3) = 3 := by rw [show can c3 = c3 from can_of_not (by decide +kernel)]; exact vl_const (s := false) (m := 6755399441055744) (k := 51) (by decide +kernel) (by decide +kernel)
theorem v_c2 : Fp.Fin (can c2) ∧ vl (can c2) = 2 := by rw [show can c2 = c2 from can_of_not (by decide +kernel)]; exact vl_const (s := false) (m := 4503599627370496) (k := 51) (by decide +kernel) (by decide +kernel)
theorem v_cc1 : Fp.Fin (can c1) ∧ vl (can c1) = 1 := by rw [c1_can]; exact v_c1
set_option maxHeartbeats 4000000 in
/-- the third flattening's coefficient, over the azimuth's cosine squared -/
theorem third_gen {f ca : Nat} (ff : Fp.Fin f) (f0 : 0 ≤ vl f) (f1 : vl f ≤ 10001 / 1000000) (fca : Fp.Fin ca) (bca : Wn (vl ca) (1001 / 1000)) (h0 : vl ca = 0 ∨ 1 / 4611686018427387904 ≤ rabs (vl ca)) :
    ∃ κ : Rat, Fp.Fin (thirdP f ca) ∧ vl (thirdP f ca) = κ * vl ca ∧ Wn (κ - vl f / 16 * (4 + vl f * (4 - 3 * vl ca))) (1 / 10000000000000000) := by
  have u1 : uu = 1 / 9007199254740992 := uu_eq
  have eta0 := eta_pos
  have eta1 := eta_tiny
  have bf : Wn (vl f) (10001 / 1000000) := ⟨by grind, f1⟩
  have z16 := v_c16
  have z4 := v_c4
  have z3 := v_c3
  obtain ⟨g1, e1⟩ := fdiv_err ff z16.1 (by rw [z16.2]; grind) (1 / 1000) (by rw [z16.2]; constructor <;> grind) (big30 (by grind))
  rw [z16.2] at e1
  obtain ⟨g2, e2⟩ := mulE z3.1 fca 4 (by rw [z3.2]; obtain ⟨_, _⟩ := bca; constructor <;> grind) (by grind)
  rw [z3.2] at e2
  obtain ⟨g3, e3⟩ := subE z4.1 g2 8 (by rw [z4.2]; obtain ⟨_, _⟩ := bca; obtain ⟨_, _⟩ := e2; rw [u1] at *; constructor <;> grind) (by grind)
  rw [z4.2] at e3
  have b3 : Wn (vl (fsub (can c4) (fmul (can c3) ca))) (701 / 100) := by obtain ⟨_, _⟩ := bca; obtain ⟨_, _⟩ := e2; obtain ⟨_, _⟩ := e3; rw [u1] at *; constructor <;> grind
  obtain ⟨g4, e4⟩ := mulE ff g3 _ (wn_mul bf b3) (by grind)
  have b4 : Wn (vl (fmul f (fsub (can c4) (fmul (can c3) ca)))) (71 / 1000) := (wn_add e4 (wn_mul bf b3)).of (by grind) (by rw [u1]; grind)
  obtain ⟨g5, e5⟩ := addE z4.1 g4 5 (by rw [z4.2]; obtain ⟨_, _⟩ := b4; constructor <;> grind) (by grind)
  rw [z4.2] at e5
  have eg : Wn (vl (fadd (can c4) (fmul f (fsub (can c4) (fmul (can c3) ca)))) - (4 + vl f * (4 - 3 * vl ca))) (1 / 1000000000000000) := by
    have m := wn_mul bf (wn_sub e3 e2)
    exact (wn_add e5 (wn_add e4 m)).of (by grind) (by rw [u1]; grind)
  have bg : Wn (vl (fadd (can c4) (fmul f (fsub (can c4) (fmul (can c3) ca))))) (41 / 10) := by obtain ⟨_, _⟩ := e5; obtain ⟨_, _⟩ := b4; rw [u1] at *; constructor <;> grind
  have hth : thirdP f ca = fmul (fmul (fdiv f (can c16)) ca) (fadd (can c4) (fmul f (fsub (can c4) (fmul (can c3) ca)))) := rfl
  rw [hth]
  clear hth e5 e4 e3 e2 g2 g3 g4 b3 b4
  generalize fadd (can c4) (fmul f (fsub (can c4) (fmul (can c3) ca))) = g at *
  generalize 4 + vl f * (4 - 3 * vl ca) = g0 at *
  have e1' : Wn (vl (fdiv f (can c16)) - vl f / 16) (1 / 1000000000000000000) := e1.mono (by rw [u1]; grind)
  have b1 : Wn (vl (fdiv f (can c16))) (63 / 100000) := by obtain ⟨_, _⟩ := e1'; constructor <;> grind
  have r1 := rabs_le b1
  have rg := rabs_le bg
  have rc := rabs_le bca
  have n1 := rabs_nonneg (vl (fdiv f (can c16)))
  have ng := rabs_nonneg (vl g)
  have nc := rabs_nonneg (vl ca)
  generalize fdiv f (can c16) = k at *
  obtain ⟨g6, e6⟩ := mulA g1 fca (by have := mul_mono n1 r1 nc rc; grind)
  have r6 : rabs (vl (fmul k ca)) ≤ 7 / 10000 * rabs (vl ca) + eta := by
    have w := (wn_add e6 (wn_rabs (vl k * vl ca))).of (show _ = vl (fmul k ca) by grind) Rat.le_refl
    rw [rabs_mul] at w
    have := rabs_le w
    have := Rat.mul_le_mul_of_nonneg_right r1 nc
    rw [u1] at *
    grind
  have n6 := rabs_nonneg (vl (fmul k ca))
  obtain ⟨g7, e7⟩ := mulA g6 g5 (by have := mul_mono n6 (show rabs (vl (fmul k ca)) ≤ 1 by grind) ng rg; grind)
  rcases h0 with h | h
  · refine ⟨vl f / 16 * g0, g7, ?_, ⟨by grind, by grind⟩⟩
    have r0 : rabs 0 = 0 := by unfold rabs; rw [if_neg (show ¬ (0 : Rat) < 0 by grind)]
    rw [h, r0] at e6
    have z6 : vl (fmul k ca) = 0 := vl_small g6 (e6.of (by grind) (by grind))
    rw [z6, r0] at e7
    have : vl (fmul (fmul k ca) g) = 0 := vl_small g7 (e7.of (by grind) (by grind))
    rw [h]
    rw [this]; grind
  · have c0 : vl ca ≠ 0 := by
      intro e
      rw [e] at h
      unfold rabs at h
      rw [if_neg (by grind)] at h
      grind
    obtain ⟨κ, hκ⟩ : ∃ κ, κ = vl (fmul (fmul k ca) g) / vl ca := ⟨_, rfl⟩
    have hκ2 : κ * vl ca = vl (fmul (fmul k ca) g) := by rw [hκ]; exact Rat.div_mul_cancel c0
    refine ⟨κ, g7, hκ2.symm, ?_⟩
    have t : Wn ((κ - vl k * vl g) * vl ca) (1 / 100000000000000000 * rabs (vl ca)) := by
      have m := wn_mul e6 (wn_rabs (vl g))
      refine (wn_add e7 m).of (by rw [← hκ2]; grind) ?_
      have a1 := mul_mono n6 r6 ng rg
      have a2 := Rat.mul_le_mul_of_nonneg_right r1 nc
      have a3 := Rat.mul_le_mul_of_nonneg_left rg (show 0 ≤ uu * (rabs (vl k) * rabs (vl ca)) + eta by have := Rat.mul_nonneg n1 nc; rw [u1]; grind)
      rw [u1] at *
      grind
    have t2 : Wn (κ - vl k * vl g) (1 / 100000000000000000) := by
      have cp : 0 < rabs (vl ca) := by grind
      refine wn_div cp ?_
      have e := rabs_mul (κ - vl k * vl g) (vl ca)
      have l := rabs_le t
      rw [e] at l
      have w := wn_rabs (κ - vl k * vl g)
      have a1 := Rat.mul_le_mul_of_nonneg_right w.1 (Rat.le_of_lt cp)
      have a2 := Rat.mul_le_mul_of_nonneg_right w.2 (Rat.le_of_lt cp)
      exact ⟨by grind, by grind⟩
    have m1 := wn_mul e1' bg
    have m2 := wn_mul (show Wn (vl f / 16) (1 / 1000) from by constructor <;> grind) eg
    exact (wn_add t2 (wn_add m1 m2)).of (by grind) (by grind)
end Go.Proofs.YtfhpnkmpjijebaaDoor
