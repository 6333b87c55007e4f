/- What turns and grows at once: products, powers, small steps. -/
import Derived.Test.YtfhpnkmpjijebaaDoorZM
import Derived.LoopN
namespace Go.Fp.Tri
open Go.Fp
set_option maxRecDepth 20000

def Wv (m : Int) (y : Rat) : Cx := Cx.sc (EX y) (cis m)
theorem wn_pos {x : Rat} (h : 0 ≤ x) : Wn x x := ⟨by grind, Rat.le_refl⟩
theorem Wv_bd (m : Int) {y : Rat} (h : Wn y 7) : MB (Wv m y) (EX y * (1000001 / 1000000)) := (cis_bd m).sc (wn_pos (Rat.le_of_lt (EX_pos h)))
theorem Wv_add (m1 m2 : Int) {y1 y2 : Rat} (h1 : Wn y1 7) (h2 : Wn y2 7) (h3 : Wn (y1 + y2) 7) : MB ((Wv (m1 + m2) (y1 + y2)).sub ((Wv m1 y1).mul (Wv m2 y2))) (8 / 1000000000000 * EX (y1 + y2)) := by
  have p := EX_pos h3
  obtain ⟨_, e⟩ := EX_add h1 h2 h3
  have c := cis_add m1 m2
  have b := (cis_bd m1).mul (cis_bd m2)
  unfold Wv
  generalize EX (y1 + y2) = X at *
  generalize EX y1 = x1 at *
  generalize EX y2 = x2 at *
  have r := (c.sc (wn_pos (Rat.le_of_lt p))).add (b.sc (show Wn (X - x1 * x2) (5 / 1000000000000 * X) from ⟨by have := e.2; grind, by have := e.1; grind⟩))
  refine (r.cast ?_).mono ?_
  · exact Cx.ext' (by simp; grind) (by simp; grind)
  · grind
theorem Wv_zero : Wv 0 0 = Cx.one := by
  unfold Wv
  rw [EX_zero, cis_zero]
  exact Cx.ext' (by simp) (by simp)
/-- the inverse -/
def cinv (z : Cx) : Cx := ⟨z.re / (z.re * z.re + z.im * z.im), -z.im / (z.re * z.re + z.im * z.im)⟩
theorem cinv_mul {z : Cx} (h : 0 < z.re * z.re + z.im * z.im) : z.mul (cinv z) = Cx.one := by
  unfold cinv
  generalize hn : z.re * z.re + z.im * z.im = n at *
  have hn0 : n ≠ 0 := by grind
  refine Cx.ext' ?_ ?_
  · show z.re * (z.re / n) - z.im * (-z.im / n) = 1
    have e : z.re * (z.re / n) - z.im * (-z.im / n) = (z.re * z.re + z.im * z.im) / n := by grind
    rw [e, hn]
    grind
  · show z.re * (-z.im / n) + z.im * (z.re / n) = 0
    grind
/-- E, what it grows by being told -/
theorem Wv_norm (m : Int) {y : Rat} (h : Wn y 7) : 0 < (Wv m y).re * (Wv m y).re + (Wv m y).im * (Wv m y).im := by
  have p := EX_pos h
  have c := cis_one m
  unfold Wv
  show 0 < EX y * (cis m).re * (EX y * (cis m).re) + EX y * (cis m).im * (EX y * (cis m).im)
  have e : EX y * (cis m).re * (EX y * (cis m).re) + EX y * (cis m).im * (EX y * (cis m).im) = EX y * EX y * ((cis m).re * (cis m).re + (cis m).im * (cis m).im) := by grind
  rw [e]
  exact Rat.mul_pos (Rat.mul_pos p p) (by have := c.1; grind)
/-- the inverse is what turns and shrinks as much -/
theorem cinv_near (m : Int) {y K : Rat} (h : Wn y 7) (hk : EX (-y) ≤ K) : MB ((cinv (Wv m y)).sub (Wv (-m) (-y))) (9 / 1000000000000 * K) ∧ MB (cinv (Wv m y)) (K * (1000002 / 1000000)) := by
  have h' : Wn (-y) 7 := ⟨by have := h.2; grind, by have := h.1; grind⟩
  have a := Wv_add m (-m) h h' (by rw [show y + -y = 0 by grind]; constructor <;> grind)
  rw [show m + -m = 0 by omega, show y + -y = 0 by grind, Wv_zero, EX_zero] at a
  have f := cinv_mul (Wv_norm m h)
  have g := Wv_bd (-m) h'
  have p := EX_pos h'
  have g2 := g.mono (Rat.mul_le_mul_of_nonneg_right hk (show (0 : Rat) ≤ 1000001 / 1000000 by grind))
  -- the inverse is bounded by what it is near, up to a little of itself
  generalize hE : Wv m y = E at *
  generalize Wv (-m) (-y) = G at *
  generalize cinv E = Fi at *
  have e0 : Fi.sub G = Fi.mul (Cx.one.sub (E.mul G)) := by
    have h1 : Fi.mul (E.mul G) = G := by rw [← Cx.mul_assoc, Cx.mul_comm Fi E, f, Cx.one_mul]
    refine Cx.ext' ?_ ?_
    · have := congrArg Cx.re h1
      simp at this ⊢
      grind
    · have := congrArg Cx.im h1
      simp at this ⊢
      grind
  -- a first bound: |F| (1 - 8e-12) <= |G|
  have key : MB Fi (K * (1000002 / 1000000)) := by
    have hK : 0 ≤ K := by grind
    refine ⟨by grind, ?_⟩
    have e1 : Fi.mul (E.mul G) = G := by rw [← Cx.mul_assoc, Cx.mul_comm Fi E, f, Cx.one_mul]
    obtain ⟨x, hx⟩ : ∃ x, x = E.mul G := ⟨_, rfl⟩
    rw [← hx] at e1 a
    have ar := a.re
    simp at ar
    have n1 : (Fi.re * Fi.re + Fi.im * Fi.im) * (x.re * x.re + x.im * x.im) = G.re * G.re + G.im * G.im := by
      have h1 := congrArg Cx.re e1
      have h2 := congrArg Cx.im e1
      simp at h1 h2
      rw [← h1, ← h2]; grind
    have lo : 99999999 / 100000000 ≤ x.re * x.re + x.im * x.im := by
      have h1 := rsq_nonneg x.im
      have h2 : 999999999 / 1000000000 ≤ x.re := by have := ar.2; grind
      have h3 := sq_le_sq (show (0 : Rat) ≤ 999999999 / 1000000000 by grind) h2
      grind
    have n2 := g2.2
    have q := Rat.mul_le_mul_of_nonneg_left lo (show 0 ≤ Fi.re * Fi.re + Fi.im * Fi.im by have := rsq_nonneg Fi.re; have := rsq_nonneg Fi.im; grind)
    generalize Fi.re * Fi.re + Fi.im * Fi.im = nf at *
    generalize x.re * x.re + x.im * x.im = nx at *
    generalize G.re * G.re + G.im * G.im = ng at *
    have e2 : K * (1000001 / 1000000) * (K * (1000001 / 1000000)) = K * K * (1000002000001 / 1000000000000) := by grind
    have e3 : K * (1000002 / 1000000) * (K * (1000002 / 1000000)) = K * K * (1000004000004 / 1000000000000) := by grind
    rw [e2] at n2
    rw [e3]
    have kk := rsq_nonneg K
    generalize K * K = k2 at *
    grind
  refine ⟨?_, key⟩
  rw [e0]
  refine (key.mul a).mono ?_
  have hK : 0 ≤ K := by grind
  grind
/-- powers -/
theorem pow_near {X : Cx} {m : Int} {y K : Rat} (hX : MB (X.sub (Wv m y)) (9 / 1000000000000 * K)) (hXK : MB X (K * (1000002 / 1000000))) (hK : EX y ≤ K) (hy : Wn y (17 / 10)) :
    ∀ j : Nat, j ≤ 4 → MB ((npw X j).sub (Wv ((j : Int) * m) ((j : Rat) * y))) ((j : Rat) * (18 / 1000000000000) * rpw (K * (1000002 / 1000000)) j) ∧ EX ((j : Rat) * y) ≤ rpw (K * (1000002 / 1000000)) j
  | 0, _ => by
    have e1 : ((0 : Nat) : Int) * m = 0 := by simp
    have e2 : ((0 : Nat) : Rat) * y = 0 := by simp
    rw [e1, e2, Wv_zero, EX_zero]
    refine ⟨?_, Rat.le_refl⟩
    refine (MB.zero.cast ?_).mono ?_
    · exact Cx.ext' (by simp [npw]; grind) (by simp [npw]; grind)
    · simp
  | j + 1, hj => by
    obtain ⟨ih, ik⟩ := pow_near hX hXK hK hy j (by omega)
    have hj3 : (j : Rat) ≤ 3 := by exact_mod_cast (show j ≤ 3 by omega)
    have hj0 : (0 : Rat) ≤ (j : Rat) := by exact_mod_cast Nat.zero_le j
    have hy1 : Wn y 7 := hy.mono (by grind)
    have wj : Wn ((j : Rat) * y) (51 / 10) := (wn_mul (wn_pos hj0) hy).mono (by grind)
    have wj7 : Wn ((j : Rat) * y) 7 := wj.mono (by grind)
    have ws : Wn ((j : Rat) * y + y) 7 := (wn_add wj hy).mono (by grind)
    have e1 : ((j + 1 : Nat) : Int) * m = (j : Int) * m + m := by push_cast; rw [Int.add_mul, Int.one_mul]
    have e2 : ((j + 1 : Nat) : Rat) * y = (j : Rat) * y + y := by push_cast; grind
    rw [e1, e2]
    have a := Wv_add ((j : Int) * m) m wj7 hy1 ws
    have bj := Wv_bd ((j : Int) * m) wj7
    obtain ⟨pz, q⟩ := EX_add wj7 hy1 ws
    have p1 := EX_pos hy1
    have pj := EX_pos wj7
    have K0 : 0 < K := by grind
    have r0 : 0 < rpw (K * (1000002 / 1000000)) j := by grind
    -- how much it grows
    have grow : EX ((j : Rat) * y + y) ≤ rpw (K * (1000002 / 1000000)) (j + 1) := by
      have t := mul_mono (Rat.le_of_lt pj) ik (Rat.le_of_lt p1) hK
      show _ ≤ K * (1000002 / 1000000) * rpw (K * (1000002 / 1000000)) j
      obtain ⟨q1, q2⟩ := q
      generalize rpw (K * (1000002 / 1000000)) j = R at *
      generalize EX ((j : Rat) * y + y) = Z at *
      generalize EX ((j : Rat) * y) * EX y = z at *
      have hRK := Rat.mul_pos r0 K0
      have e3 : K * (1000002 / 1000000) * R = R * K * (1000002 / 1000000) := by grind
      rw [e3]
      generalize R * K = rk at *
      grind
    refine ⟨?_, grow⟩
    have s := ((ih.mul hXK).add (bj.mul hX)).sub a
    refine (s.cast ?_).mono ?_
    · generalize Wv ((j : Int) * m) ((j : Rat) * y) = w1
      generalize Wv m y = w2
      generalize Wv ((j : Int) * m + m) ((j : Rat) * y + y) = w3
      exact Cx.ext' (by simp [npw]; grind) (by simp [npw]; grind)
    · show _ ≤ ((j + 1 : Nat) : Rat) * (18 / 1000000000000) * (K * (1000002 / 1000000) * rpw (K * (1000002 / 1000000)) j)
      have grow' : EX ((j : Rat) * y + y) ≤ K * (1000002 / 1000000) * rpw (K * (1000002 / 1000000)) j := grow
      have e4 : ((j + 1 : Nat) : Rat) = (j : Rat) + 1 := by push_cast; rfl
      rw [e4]
      generalize rpw (K * (1000002 / 1000000)) j = R at *
      generalize EX ((j : Rat) * y + y) = Z at *
      generalize EX ((j : Rat) * y) = x at *
      have hRK := Rat.mul_pos r0 K0
      have t1 := Rat.mul_le_mul_of_nonneg_right ik (Rat.le_of_lt K0)
      generalize (j : Rat) = J at *
      have e5 : K * (1000002 / 1000000) * R = R * K * (1000002 / 1000000) := by grind
      rw [e5] at grow' ⊢
      have e6 : J * (18 / 1000000000000) * R * (K * (1000002 / 1000000)) = J * (18 / 1000000000000) * (R * K * (1000002 / 1000000)) := by grind
      rw [e6]
      have e7 : x * (1000001 / 1000000) * (9 / 1000000000000 * K) = x * K * (9000009 / 1000000000000000000) := by grind
      rw [e7]
      generalize R * K = rk at *
      generalize x * K = xk at *
      have e8 : (J + 1) * (18 / 1000000000000) * (rk * (1000002 / 1000000)) = J * (18 / 1000000000000) * (rk * (1000002 / 1000000)) + 18 / 1000000000000 * (rk * (1000002 / 1000000)) := by grind
      rw [e8]
      generalize J * (18 / 1000000000000) * (rk * (1000002 / 1000000)) = jj at *
      grind
end Go.Fp.Tri

/- Walk: the logarithm of package grain. -/
namespace Go.Proofs.YtfhpnkmpjijebaaDoor
open Go.RowKit Go.Fp Go.Rel Ieee
set_option maxRecDepth 20000

end Go.Proofs.YtfhpnkmpjijebaaDoor

/- Walk: the logarithm of package grain, of whatever number. -/
namespace Go.Proofs.YtfhpnkmpjijebaaDoor
open Go.RowKit Go.Fp Go.Rel Ieee
set_option maxRecDepth 20000

end Go.Proofs.YtfhpnkmpjijebaaDoor

/- Stores of one value into a block of one's own; the angle of a point, package path's. -/
namespace Go.Rel
open Go.RowKit
section
variable {P : Program}
theorem storeVar_one (w : World) (g : Nat) (t ty : TypeId) (old : Value) (k : FloatKind) (b : Nat) (hg : Blk w g t #[old]) (hi : (P.info? ty).map (·.size) = some 1) :
    (storeVar ty ⟨g, 0, none⟩ (.float k b)).run P w = .ok () (w.setRow g #[.float k b]) := by
  have := run_storeCells_from (P := P) g t [.float k b] 0 #[old] w hg (by simp) (by intro v hv; simp at hv; subst hv; rfl)
  cases hq : P.info? ty with
  | none => simp [hq] at hi
  | some i =>
    have hs : 1 = i.size := by simp [hq] at hi; omega
    simp [storeVar, sizeOf, typeInfo, hq, Value.cells, ← hs, this]

theorem wp_store_one {o : Oper} {a : Act} {w : World} {K : Act → World → Prop} {Q : Exit → Act → World → Prop} (ty : TypeId) (x y : Operand) (ho : o.op = .store ty x y)
    (g : Nat) (k : FloatKind) (b : Nat) (hx : a.eval x = .pointer (some ⟨g, 0, none⟩)) (hy : a.eval y = .float k b)
    (t : TypeId) (old : Value) (hg : Blk w g t #[old]) (hi : (P.info? ty).map (·.size) = some 1)
    (h : K (a.put o.dst undef) (w.setRow g #[.float k b])) : o.wp P a w K Q := by
  unfold Oper.wp execOp
  simp only [ho, hx, hy, Instr.storeAt, Instr.sureAddr, Sem.run_bind, Sem.run_pure, Result.andThen_ok, storeVar_one w g t ty old k b hg hi]
  exact h
/-- a float stored into a block of one's own -/
theorem wpList_ownF {ops : Array Oper} {rest : List Oper} {o : Oper} {a : Act} {w : World} {Q : Exit → Act → World → Prop} (hgd : o.guard = none) (ty : TypeId) (x y : Operand) (ho : o.op = .store ty x y)
    (g : Nat) (k : FloatKind) (b : Nat) (hx : a.eval x = .pointer (some ⟨g, 0, none⟩)) (hy : a.eval y = .float k b)
    (t : TypeId) (old : Value) (hg : Blk w g t #[old]) (hi : (P.info? ty).map (·.size) = some 1)
    (h : ∀ w', Blk w' g t #[.float k b] → (∀ b, Ext b w → b.heap.size ≤ g → Ext b w') → (∀ n, n ≠ g → w'.heap[n]? = w.heap[n]?) → w'.heap.size = w.heap.size → wpList P ops Q rest (a.put o.dst undef) w') : wpList P ops Q (o :: rest) a w := by
  refine wpList_plain hgd fun _ hK => wp_store_one ty x y ho g k b hx hy t old hg hi (hK _ _ (h _ ?_ ?_ ?_ ?_))
  · exact setRow_heap w g #[old] #[.float k b] t (0, 0) hg
  · intro b hb hbg
    refine ⟨hb.os, hb.tape, hb.output, ?_, fun k hk => ?_⟩
    · rw [show (w.setRow g _).heap.size = w.heap.size from by simp [World.setRow]]; exact hb.size
    · rw [setRow_other w g _ k (by omega)]; exact hb.block k hk
  · intro n hn
    exact setRow_other w g _ n hn
  · simp [World.setRow]
theorem Blk.same {w w' : World} {g n : Nat} {t : TypeId} {c : Array Value} (h : Blk w n t c) (hk : ∀ n, n ≠ g → w'.heap[n]? = w.heap[n]?) (hn : n ≠ g) : Blk w' n t c := by
  unfold Blk at *; rw [hk n hn]; exact h
end
end Go.Rel

namespace Go.Proofs.YtfhpnkmpjijebaaDoor
open Go.RowKit Go.Fp Go.Rel
set_option maxRecDepth 20000

theorem pathAngle_c (y x : Nat) (w : World) : Calls Tryd.prog 27 #[.float .f64 y, .float .f64 x] w (ExR (.int .i64 (angleP (can y) (can x)).1) w) := by
  have HA := Lib.hid (angle_c y x)
  generalize angleP (can y) (can x) = p at *
  go_enter Tryd.func27, Tryd.ntmps27
  go_wp2_with (first | (go_at_call 24; refine (HA.out _).mono ?_; rintro e w1 ⟨rfl, hx1⟩))
  go_ret
  exact ⟨rfl, hx1⟩

set_option maxHeartbeats 1000000 in
theorem pathLat_c (l : Int) (w : World) : Calls Tryd.prog 16 #[.int .i64 l] w (ExR (.bool (decide (l ≤ 90000000000 ∧ -90000000000 ≤ l))) w) := by
  generalize hd : decide (l ≤ 90000000000 ∧ -90000000000 ≤ l) = b
  have HD := Lib.hid hd
  clear hd
  go_enter Tryd.func16, Tryd.ntmps16
  go_wp2
  all_goals go_ret
  all_goals (have hd := HD.out; subst hd; refine ⟨?_, Ext.refl _⟩; congr 2; simp; omega)
end Go.Proofs.YtfhpnkmpjijebaaDoor

/- Walk: the exponential of package grain. -/
namespace Go.Proofs.YtfhpnkmpjijebaaDoor
open Go.RowKit Go.Fp Go.Rel
set_option maxRecDepth 20000

end Go.Proofs.YtfhpnkmpjijebaaDoor

/- Walks: the isometric latitude; the hyperbolic cosine and sine. -/
namespace Go.Proofs.YtfhpnkmpjijebaaDoor
open Go.RowKit Go.Fp Go.Rel
set_option maxRecDepth 20000

/-- half the logarithm of what a sine makes -/
def lnR (s : Nat) : Nat := can (lnP (fdiv (fadd (can 4607182418800017408) s) (fsub (can 4607182418800017408) s)))
def isoP (f : Nat) (lat : Int) : Nat :=
  fdiv (fsub (lnR (can (sinP lat))) (fmul (fsqrt (eccP f)) (lnR (fmul (fsqrt (eccP f)) (can (sinP lat)))))) (can 4611686018427387904)

def hypH (p : Nat) : Nat := fdiv (fadd p (fdiv (can 4607182418800017408) p)) (can 4611686018427387904)
def hypK (p : Nat) : Nat := fdiv (fsub p (fdiv (can 4607182418800017408) p)) (can 4611686018427387904)
def HyR (V : Nat) (w : World) (e : Ending) (w' : World) : Prop := ∃ h k, e = .returned (.tuple #[.float .f64 h, .float .f64 k]) ∧ can h = hypH (expP V) ∧ can k = hypK (expP V) ∧ Ext w w'
end Go.Proofs.YtfhpnkmpjijebaaDoor

/- Walk: the exponential of the reference. -/
namespace Go.Proofs.YtfhpnkmpjijebaaDoor
open Go.RowKit Go.Fp Go.Rel
set_option maxRecDepth 20000

/-- the product of the whole numbers up to one -/
def facP : Nat → Nat
  | 0 => 4607182418800017408
  | 1 => 4607182418800017408
  | k + 2 => fmul (facP (k + 1)) (can (floatOfInt .f64 ((k + 2 : Nat) : Int)))
def polyQ (r : Nat) : Nat → Nat
  | 0 => 0
  | k + 1 => polyP r k

end Go.Proofs.YtfhpnkmpjijebaaDoor

/- Walks: whose hyperbolic sine a number is; sine and cosine of an angle and a number beside it. -/
namespace Go.Proofs.YtfhpnkmpjijebaaDoor
open Go.RowKit Go.Fp Go.Rel
set_option maxRecDepth 20000

/-- the other sign -/
def negC (x : Nat) : Nat := can (Op.negFloat .f64 x)
/-- a complex number told but for which NaNs -/
def CxR (RE IM : Nat) (w : World) (e : Ending) (w' : World) : Prop := ∃ x y, e = .returned (.complex .f64 x y) ∧ can x = RE ∧ can y = IM ∧ Ext w w'
def sinRe (u : Int) (V : Nat) : Nat := fmul (can (sinP u)) (hypH (expP V))
def sinIm (u : Int) (V : Nat) : Nat := fmul (can (cosP u)) (hypK (expP V))
def cosRe (u : Int) (V : Nat) : Nat := fmul (can (cosP u)) (hypH (expP V))
def cosIm (u : Int) (V : Nat) : Nat := negC (fmul (can (sinP u)) (hypK (expP V)))
/-- whose hyperbolic sine a number is -/
def unP (X : Nat) : Nat := if D.order X 0 = some .lt then negC (can (lnP (fadd (negC X) (fsqrt (fadd (fmul X X) (can 4607182418800017408)))))) else can (lnP (fadd X (fsqrt (fadd (fmul X X) (can 4607182418800017408)))))
end Go.Proofs.YtfhpnkmpjijebaaDoor

/- Sines and cosines beside a number, as floats, against what turns and grows; small steps. -/
namespace Go.Fp.Tri
open Go.Fp
set_option maxRecDepth 20000

theorem cis_neg (m : Int) : MB ((cis (-m)).sub ⟨(cis m).re, -(cis m).im⟩) (3 / 1000000000000) := by
  have a := cis_add m (-m)
  rw [show m + -m = 0 by omega, cis_zero] at a
  have n := cis_one m
  have b := cis_bd m
  have b' := cis_bd (-m)
  have bc : MB (⟨(cis m).re, -(cis m).im⟩ : Cx) (1000001 / 1000000) := ⟨b.1, by have := b.2; show (cis m).re * (cis m).re + -(cis m).im * -(cis m).im ≤ _; grind⟩
  generalize cis m = c at *
  generalize cis (-m) = d at *
  obtain ⟨x, hx⟩ : ∃ x, x = c.re * c.re + c.im * c.im := ⟨_, rfl⟩
  rw [← hx] at n
  have r := (bc.mul a).neg.add ((b'.sc n).neg)
  refine (r.cast ?_).mono (by grind)
  refine Cx.ext' ?_ ?_
  · simp; rw [hx]; grind
  · simp; rw [hx]; grind
/-- twice the sine, times the root of minus one -/
def PP (m : Int) (y : Rat) : Cx := (Wv m (-y)).sub (Wv (-m) y)
theorem PP_near (m : Int) {y : Rat} (h : Wn y 7) : MB ((⟨(cis m).re * (EX (-y) - EX y), (cis m).im * (EX (-y) + EX y)⟩ : Cx).sub (PP m y)) (3 / 1000000000000 * EX y) := by
  have a := (cis_neg m).sc (wn_pos (Rat.le_of_lt (EX_pos h)))
  refine (a.cast ?_).mono (by grind)
  unfold PP Wv
  exact Cx.ext' (by simp; grind) (by simp; grind)
/-! small steps: by reckoning on the coefficients -/
def Q0re : List (List Rat) := qadd (qmul (inX PE) (inY PC)) [[-1]]
def Q0im : List (List Rat) := qmul (inX PE) (inY PS)
def Q1re : List (List Rat) := qadd (qmul (inX PE) (inY PC)) [[-1], [-1]]
def Q1im : List (List Rat) := qadd (qmul (inX PE) (inY PS)) [[0, -1]]
def Q2re : List (List Rat) := qadd (qmul (inX PE) (inY PC)) [[-1, 0, 1 / 2], [-1], [-(1 / 2)]]
def Q2im : List (List Rat) := qadd (qmul (inX PE) (inY PS)) [[0, -1], [0, -1]]
end Go.Fp.Tri
namespace Go.Proofs.YtfhpnkmpjijebaaDoor
open Go.Fp Go.Fp.Tri
set_option maxRecDepth 20000
/-- hyperbolic cosine and sine, as floats -/
theorem hyp_near {V : Nat} (fV : Fp.Fin V) (b : Wn (vl V) 5) : Fp.Fin (hypH (expP V)) ∧ Fp.Fin (hypK (expP V)) ∧ Wn (vl (hypH (expP V)) - (EX (vl V) + EX (-vl V)) / 2) (2 / 10000000000 * (EX (vl V) + EX (-vl V))) ∧ Wn (vl (hypK (expP V)) - (EX (vl V) - EX (-vl V)) / 2) (2 / 10000000000 * (EX (vl V) + EX (-vl V))) ∧
    EX (vl V) + EX (-vl V) ≤ 200000 ∧ 199 / 100 ≤ EX (vl V) + EX (-vl V) := by
  have u1 : uu = 1 / 9007199254740992 := uu_eq
  obtain ⟨fp, hp⟩ := exp_EX fV b
  have bn : Wn (-vl V) 5 := ⟨by have := b.2; grind, by have := b.1; grind⟩
  have n := EX_neg (b.mono (show (5 : Rat) ≤ 7 by grind))
  have x0 := EX_pos (b.mono (show (5 : Rat) ≤ 7 by grind))
  have y0 := EX_pos (bn.mono (show (5 : Rat) ≤ 7 by grind))
  have hb : ∀ y : Rat, Wn y 7 → EX y ≤ 50000 := by
    intro y hy
    obtain ⟨e1, e2⟩ := Ex_bd4 (arg16 hy)
    have a := sq_le_sq (show 0 ≤ Ex (y / 16) by grind) e2
    have c := sq_le_sq (rsq_nonneg _) a
    have d := sq_le_sq (rsq_nonneg _) c
    have e := sq_le_sq (rsq_nonneg _) d
    unfold EX sq4
    generalize Ex (y / 16) * Ex (y / 16) * (Ex (y / 16) * Ex (y / 16)) * (Ex (y / 16) * Ex (y / 16) * (Ex (y / 16) * Ex (y / 16))) = z at *
    grind
  have x1 := hb _ (b.mono (show (5 : Rat) ≤ 7 by grind))
  have y1 := hb _ (bn.mono (show (5 : Rat) ≤ 7 by grind))
  unfold hypH hypK
  rw [v_one.1.can, v_two.1.can]
  generalize EX (vl V) = X at *
  generalize EX (-vl V) = Y at *
  generalize expP V = p at *
  obtain ⟨n1, n2⟩ := n
  obtain ⟨_, hp1, hp2⟩ := hp
  have p0 : 0 < vl p := by grind
  have hXlo : 1 / 60000 ≤ X := by
    have t := Rat.mul_le_mul_of_nonneg_left y1 (Rat.le_of_lt x0)
    generalize X * Y = xy at *
    grind
  -- one over p
  have q0 : 1 / vl p * vl p = 1 := by grind
  have qb : 1 / vl p ≤ 70000 := by
    generalize 1 / vl p = Q at *
    refine le_of_scaled (R := vl p) p0 ?_
    grind
  have q1 : 0 < 1 / vl p := by
    rcases Rat.le_total (a := 1 / vl p) (b := 0) with h | h
    · exfalso
      have := Rat.mul_le_mul_of_nonneg_right h (Rat.le_of_lt p0)
      grind
    · by_cases e : 1 / vl p = 0
      · rw [e] at q0; grind
      · grind
  have qY : Wn (1 / vl p - Y) (12 / 100000000000 * Y) := by
    generalize 1 / vl p = Q at *
    -- (Q - Y) p X = X - X Y p
    have e1 : Y * X * vl p = X * Y * vl p := by grind
    have k1 := Rat.mul_le_mul_of_nonneg_right (show X * Y ≤ 1 + 5 / 1000000000000 by grind) (Rat.le_of_lt p0)
    have k2 := Rat.mul_le_mul_of_nonneg_right (show 1 - 5 / 1000000000000 ≤ X * Y by grind) (Rat.le_of_lt p0)
    have s1 : (X * vl p) * Q = X := by grind
    have pp := Rat.mul_pos x0 p0
    have e2 : (X * vl p) * Y = X * Y * vl p := by grind
    have hXp : X ≤ vl p * (1 + 11 / 100000000000) := by grind
    have hXp2 : vl p * (1 - 11 / 100000000000) ≤ X := by grind
    constructor
    · refine le_of_scaled pp ?_
      have e3 : X * vl p * -(12 / 100000000000 * Y) = -(12 / 100000000000 * (X * Y * vl p)) := by grind
      have e4 : X * vl p * (Q - Y) = X - X * Y * vl p := by grind
      rw [e3, e4]
      generalize X * Y * vl p = z at *
      grind
    · refine le_of_scaled pp ?_
      have e3 : X * vl p * (12 / 100000000000 * Y) = 12 / 100000000000 * (X * Y * vl p) := by grind
      have e4 : X * vl p * (Q - Y) = X - X * Y * vl p := by grind
      rw [e3, e4]
      generalize X * Y * vl p = z at *
      grind
  have L2 : 199 / 100 ≤ X + Y := by
    -- (X + Y)^2 >= 4 X Y
    refine le_of_sq (a := 199 / 100) (by grind) ?_
    have := rsq_nonneg (X - Y)
    have e : (X + Y) * (X + Y) = (X - Y) * (X - Y) + 4 * (X * Y) := by grind
    rw [e]
    generalize X * Y = xy at *
    grind
  obtain ⟨f1, d1⟩ := divE v_one.1 fp (ne_of_pos p0) 70000 (by rw [v_one.2]; exact ⟨by grind, qb⟩) (by grind)
  rw [v_one.2] at d1
  have e1 : Wn (vl (fdiv Fp.cOne p) - Y) (12 / 100000000000 * Y + uu * 140001) := (wn_add d1 qY).of (by grind) (by grind)
  have bX : X ≤ 50000 := x1
  obtain ⟨r1, r2⟩ := e1
  rw [u1] at r1 r2
  obtain ⟨f2, d2⟩ := addE fp f1 130000 (by constructor <;> grind) (by grind)
  obtain ⟨f3, d3⟩ := subE fp f1 130000 (by constructor <;> grind) (by grind)
  obtain ⟨s1, s2⟩ := d2
  obtain ⟨s3, s4⟩ := d3
  rw [u1] at s1 s2 s3 s4
  obtain ⟨f4, d4⟩ := divE f2 v_two.1 (by rw [v_two.2]; grind) 70000 (by rw [v_two.2]; constructor <;> grind) (by grind)
  obtain ⟨f5, d5⟩ := divE f3 v_two.1 (by rw [v_two.2]; grind) 70000 (by rw [v_two.2]; constructor <;> grind) (by grind)
  rw [v_two.2] at d4 d5
  obtain ⟨t1, t2⟩ := d4
  obtain ⟨t3, t4⟩ := d5
  rw [u1] at t1 t2 t3 t4
  refine ⟨f4, f5, ?_, ?_, by grind, L2⟩
  · constructor <;> grind
  · constructor <;> grind
end Go.Proofs.YtfhpnkmpjijebaaDoor
