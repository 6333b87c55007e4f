/- The longitude that comes back from the ball along the meridian. -/
import Derived.Test.YtfhpnkmpjijebaaDoorZR
namespace Go.Fp.Tri
open Go.Fp
set_option maxRecDepth 20000
def PQ : List Rat := [0, 0, -inv 3, 0, inv 5, 0, -inv 7, 0, inv 9, 0, -inv 11, 0, inv 13, 0, -inv 15, 0, inv 17]
theorem cI_pm {m : Int} (h1 : -90000000000 ≤ m) (h2 : m ≤ 90000000000) : -(1 / 1000000000000000) ≤ cI m := by
  rcases Int.lt_or_le m 0 with k | k
  · have o := (sI_odd (m := -m) (by omega) (by omega)).2
    rw [Int.neg_neg] at o
    have := cI_nonneg (m := -m) (by omega) (by omega)
    have := o.1
    grind
  · have := cI_nonneg (m := m) k h2
    grind
end Go.Fp.Tri
namespace Go.Proofs.YtfhpnkmpjijebaaDoor
open Go.Fp Go.Fp.Tri
set_option maxRecDepth 20000
end Go.Proofs.YtfhpnkmpjijebaaDoor

/- The isometric latitude: how large it is, how fast it grows. -/
namespace Go.Fp.Tri
open Go.Fp
set_option maxRecDepth 20000
theorem C_84 : C (((-5999000000 : Int) : Rat) * rho) ≤ 994525 / 1000000 := by decide +kernel
theorem sI_in84 {m : Int} (h0 : 0 ≤ m) (h1 : m ≤ 84001000000) : sI m ≤ 994525 / 1000000 := by
  rcases Int.lt_or_le m 45000000000 with h | h
  · rw [sI_lo h0 h]
    have := (wn_S (arg_bd (r := m) (by omega) (by omega))).2
    grind
  · rw [sI_hi h]
    have r0 := rho_pos
    have a := castle (show m - 90000000000 ≤ -5999000000 by omega)
    have k := Rat.mul_le_mul_of_nonneg_right a (Rat.le_of_lt r0)
    have k2 : ((-5999000000 : Int) : Rat) * rho ≤ 0 := by unfold rho; decide +kernel
    have g := C_grow (arg_bd (r := m - 90000000000) (by omega) (by omega)) k k2
    have q : 0 ≤ (((-5999000000 : Int) : Rat) * rho - ((m - 90000000000 : Int) : Rat) * rho) * (-(((m - 90000000000 : Int) : Rat) * rho) - ((-5999000000 : Int) : Rat) * rho) := Rat.mul_nonneg (by grind) (by grind)
    have := C_84
    grind
theorem sin_in84 {m : Int} (h0 : -84001000000 ≤ m) (h1 : m ≤ 84001000000) : Fin (sinP m) ∧ Wn (vl (sinP m)) (99453 / 100000) := by
  obtain ⟨⟨f, e⟩, _⟩ := trig_lat (a := m) (by omega) (by omega)
  refine ⟨f, ?_⟩
  obtain ⟨e1, e2⟩ := e
  rcases Int.lt_or_le m 0 with h | h
  · have a := sI_in84 (m := -m) (by omega) (by omega)
    have b := sI_nonneg (m := -m) (by omega) (by omega)
    have o := (sI_odd (m := -m) (by omega) (by omega)).1
    rw [Int.neg_neg] at o
    obtain ⟨_, _⟩ := o
    unfold tol at *
    constructor <;> grind
  · have a := sI_in84 h h1
    have b := sI_nonneg h (by omega)
    unfold tol at *
    constructor <;> grind
end Go.Fp.Tri
namespace Go.Proofs.YtfhpnkmpjijebaaDoor
open Go.Fp Go.Fp.Tri
set_option maxRecDepth 20000
end Go.Proofs.YtfhpnkmpjijebaaDoor

/- How fast the isometric latitude grows; the latitude that is found of an isometric latitude a little off. -/
namespace Go.Proofs.YtfhpnkmpjijebaaDoor
open Go.Fp Go.Fp.Tri
set_option maxRecDepth 20000
/-- cosine of a latitude up to 84 degrees -/
theorem cos_84 {m : Int} (h0 : -84001000000 ≤ m) (h1 : m ≤ 84001000000) : Fp.Fin (cosP m) ∧ 104 / 1000 ≤ vl (cosP m) ∧ vl (cosP m) ≤ 10001 / 10000 ∧ Wn (vl (cosP m) * vl (cosP m) + vl (sinP m) * vl (sinP m) - 1) (1 / 10000000000000) := by
  obtain ⟨fs, bs⟩ := sin_in84 h0 h1
  obtain ⟨⟨_, e1⟩, ⟨f, e2⟩⟩ := trig_lat (a := m) (by omega) (by omega)
  have one := one_I (m := m) (by omega) (by omega)
  have bc := wn_cI (m := m) (by omega) (by omega)
  have bS := wn_sI (m := m) (by omega) (by omega)
  have p := cI_pm (m := m) (by omega) (by omega)
  have k1 := wn_mul e2 (show Wn (vl (cosP m) + cI m) 3 from by obtain ⟨_, _⟩ := e2; obtain ⟨_, _⟩ := bc; unfold tol at *; constructor <;> grind)
  have k2 := wn_mul e1 (show Wn (vl (sinP m) + sI m) 3 from by obtain ⟨_, _⟩ := e1; obtain ⟨_, _⟩ := bS; unfold tol at *; constructor <;> grind)
  have n : Wn (vl (cosP m) * vl (cosP m) + vl (sinP m) * vl (sinP m) - 1) (1 / 10000000000000) := (wn_add (wn_add k1 k2) one).of (by grind) (by unfold tol; grind)
  have ss := (wn_mul bs bs).2
  have c0 : -(1 / 10000000000000) ≤ vl (cosP m) := by obtain ⟨_, _⟩ := e2; unfold tol at *; grind
  refine ⟨f, ?_, ?_, n⟩
  · rcases Rat.le_total (a := 104 / 1000) (b := vl (cosP m)) with k | k
    · exact k
    · exfalso
      have t := (wn_mul (show Wn (vl (cosP m)) (104 / 1000) from ⟨by grind, k⟩) (show Wn (vl (cosP m)) (104 / 1000) from ⟨by grind, k⟩)).2
      have := n.1
      grind
  · refine le_of_sq (by grind) ?_
    have := rsq_nonneg (vl (sinP m))
    have := n.2
    grind
end Go.Proofs.YtfhpnkmpjijebaaDoor

/- Where one comes to along a geodesic: what it is; several blocks of one's own. -/
namespace Go.Rel
open Go.RowKit
/-- several blocks -/
def Bks (w : World) : List (Nat × TypeId × Array Value) → Prop
  | [] => True
  | x :: l => Blk w x.1 x.2.1 x.2.2 ∧ Bks w l
theorem Bks.ext {w w' : World} : ∀ {l : List (Nat × TypeId × Array Value)} (_ : Bks w l) (_ : Ext w w'), Bks w' l
  | [], _, _ => trivial
  | _ :: _, h, hx => ⟨h.1.ext hx, Bks.ext h.2 hx⟩
theorem Blk.keep {w u : World} {n : Nat} {t : TypeId} {c : Array Value} (h : Blk w n t c) (o : Obj) (hs : ∀ k, k ≠ w.heap.size → u.heap[k]? = (w.alloc o).heap[k]?) : Blk u n t c :=
  (h.ext ((Ext.refl w).alloc o)).same hs (by have := h.lt; omega)
theorem Bks.keep {w u : World} : ∀ {l : List (Nat × TypeId × Array Value)} (_ : Bks w l) (o : Obj) (_ : ∀ k, k ≠ w.heap.size → u.heap[k]? = (w.alloc o).heap[k]?), Bks u l
  | [], _, _, _ => trivial
  | _ :: _, h, o, hs => ⟨h.1.keep o hs, Bks.keep h.2 o hs⟩
theorem Bks.same {w u : World} {g : Nat} : ∀ {l : List (Nat × TypeId × Array Value)} (_ : Bks w l) (_ : ∀ k, k ≠ g → u.heap[k]? = w.heap[k]?) (_ : ∀ x ∈ l, x.1 ≠ g), Bks u l
  | [], _, _, _ => trivial
  | x :: _, h, hs, hg => ⟨h.1.same hs (hg x (List.mem_cons_self)), Bks.same h.2 hs (fun y hy => hg y (List.mem_cons_of_mem _ hy))⟩
theorem Bks.cons {w : World} {n : Nat} {t : TypeId} {c : Array Value} {l : List (Nat × TypeId × Array Value)} (h : Blk w n t c) (k : Bks w l) : Bks w ((n, t, c) :: l) := ⟨h, k⟩
theorem Bks.fresh {w : World} : ∀ {l : List (Nat × TypeId × Array Value)} (_ : Bks w l), ∀ x ∈ l, x.1 < w.heap.size
  | [], _, _, hx => by cases hx
  | _ :: _, h, x, hx => by
    cases hx with
    | head => exact h.1.lt
    | tail _ hx => exact Bks.fresh h.2 x hx
end Go.Rel
namespace Go.Proofs.YtfhpnkmpjijebaaDoor
open Go.RowKit Go.Fp Go.Rel
set_option maxRecDepth 20000

def rcP (f : Nat) (lat : Int) : Nat := fdiv (redX lat) (redD f lat)
def rsP (f : Nat) (lat : Int) : Nat := fdiv (redY f lat) (redD f lat)
/-- an angle in radians -/
def radP (n : Int) : Nat := fmul (can (floatOfInt .f64 n)) (can cRad)
def oStep (s1 q first o : Nat) : Nat := fadd first (offP q (can (sinP (nearP o))) (can (cosP (nearP o))) (can (cosP (nearP (fadd (fmul (can c2) s1) o)))))
def oIt (s1 q first : Nat) : Nat → Nat
  | 0 => first
  | k + 1 => oStep s1 q first (oIt s1 q first k)
abbrev far2 : Nat := 4716133919349538816

/-- all that the two ways reckon, of a geodesic's beginning: cosine, sine of its reduced latitude; sine, cosine of its azimuth -/
structure ReachV where
  (a f : Nat) (lon lat out : Int) (far : Nat)
namespace ReachV
variable (v : ReachV)
def cu : Nat := rcP v.f v.lat
def su : Nat := rsP v.f v.lat
def sa1 : Nat := can (sinP v.out)
def ca1 : Nat := can (cosP v.out)
def s1 : Nat := radP (angleP v.su (fmul v.cu v.ca1)).1
def sa : Nat := fmul v.cu v.sa1
def ca : Nat := fsub (can c1) (fmul v.sa v.sa)
def p : Nat := ofP (uP v.f v.ca)
def q : Nat := ofQ (uP v.f v.ca)
def first : Nat := fdiv (can v.far) (fmul (fmul (can v.a) (fsub (can c1) (can v.f))) v.p)
def o : Nat := oIt v.s1 v.q v.first 60
def cm : Nat := can (cosP (nearP (fadd (fmul (can c2) v.s1) v.o)))
def ss : Nat := can (sinP (nearP v.o))
def cs : Nat := can (cosP (nearP v.o))
def t : Nat := fsub (fmul v.su v.ss) (fmul (fmul v.cu v.cs) v.ca1)
def north : Int × Bool := angleP (fadd (fmul v.su v.cs) (fmul (fmul v.cu v.ss) v.ca1)) (fmul (fsub (can c1) (can v.f)) (fsqrt (fadd (fmul v.sa v.sa) (fmul v.t v.t))))
def ang : Int := (angleP (fmul v.ss v.sa1) (fsub (fmul v.cu v.cs) (fmul (fmul v.su v.ss) v.ca1))).1
def l : Nat := radP (signP v.ang)
def east : Int := nearP (fsub v.l (longerP (can v.f) (thirdP (can v.f) v.ca) v.sa v.o v.ss v.cs v.cm))
end ReachV

/-- where one comes to, or the error's number -/
inductive ReachIs (v : ReachV) : Int → Int → Int → Prop
  | shape (h : okG v.a v.f = false) : ReachIs v 0 0 3
  | range1 (h : okG v.a v.f = true) (h1 : 90000000000 < v.lat) : ReachIs v 0 0 4
  | range2 (h : okG v.a v.f = true) (h1 : v.lat ≤ 90000000000) (h2 : v.lat < -90000000000) : ReachIs v 0 0 4
  | range3 (h : okG v.a v.f = true) (h1 : v.lat ≤ 90000000000) (h2 : -90000000000 ≤ v.lat) (h3 : btw v.far 0 far2 = false) : ReachIs v 0 0 4
  | none (h : okG v.a v.f = true) (h1 : v.lat ≤ 90000000000) (h2 : -90000000000 ≤ v.lat) (h3 : btw v.far 0 far2 = true) (h4 : v.north.2 = false) : ReachIs v 0 0 6
  | ok (h : okG v.a v.f = true) (h1 : v.lat ≤ 90000000000) (h2 : -90000000000 ≤ v.lat) (h3 : btw v.far 0 far2 = true) (h4 : v.north.2 = true) :
    ReachIs v (signP (normP v.lon + normP v.east)) (signP v.north.1) 0
def ReachR (A : Nat → Addr) (LON LAT k : Int) (w : World) (e : Ending) (w' : World) : Prop := ∃ v, e = .returned (.tuple #[placeV LON LAT, v]) ∧ ErrOf A k v ∧ Ext w w'
def ReachQ (LON LAT k : Int) (w : World) (e : Ending) (w' : World) : Prop := e = .returned (.tuple #[placeV LON LAT, .int .i64 k]) ∧ Ext w w'
end Go.Proofs.YtfhpnkmpjijebaaDoor

/- Reduced latitudes, as floats. -/
namespace Go.Proofs.YtfhpnkmpjijebaaDoor
open Go.Fp Go.Fp.Tri
set_option maxRecDepth 20000
theorem c1_can : can c1 = c1 := can_of_not (by decide +kernel)
theorem v_c1 : Fp.Fin c1 ∧ vl c1 = 1 := v_one
/-- a quotient by what is nearly one -/
theorem div_one {x d : Nat} (fx : Fp.Fin x) (fd : Fp.Fin d) (d0 : 98 / 100 ≤ vl d) (d1 : vl d ≤ 101 / 100) (bx : Wn (vl x) (101 / 100)) :
    Fp.Fin (fdiv x d) ∧ Wn (vl d * vl (fdiv x d) - vl x) (4 / 10000000000000000) := by
  have u1 : uu = 1 / 9007199254740992 := uu_eq
  have d2 : 0 < vl d := by grind
  have hq : Wn (vl x / vl d) (104 / 100) := by
    refine wn_div d2 ?_
    rw [Rat.div_mul_cancel (by grind)]
    obtain ⟨_, _⟩ := bx
    constructor <;> grind
  obtain ⟨f, e⟩ := divE fx fd (by grind) _ hq (by grind)
  refine ⟨f, ?_⟩
  have bd : Wn (vl d) (101 / 100) := ⟨by grind, d1⟩
  have m := wn_mul bd e
  refine m.of ?_ (by rw [u1]; grind)
  have : vl d * (vl x / vl d) = vl x := by rw [Rat.mul_comm, Rat.div_mul_cancel (by grind)]
  rw [show vl d * (vl (fdiv x d) - vl x / vl d) = vl d * vl (fdiv x d) - vl d * (vl x / vl d) by grind, this]
/-- what is to be known of a reduced latitude -/
structure RedOk (f : Nat) (lat : Int) : Prop where
  fc : Fp.Fin (rcP f lat)
  fs : Fp.Fin (rsP f lat)
  c0 : 103 / 1000 ≤ vl (rcP f lat)
  bc : Wn (vl (rcP f lat)) (1001 / 1000)
  bs : Wn (vl (rsP f lat)) (9948 / 10000)
  one : Wn (vl (rcP f lat) * vl (rcP f lat) + vl (rsP f lat) * vl (rsP f lat) - 1) (1 / 100000000000000)
  d0 : 989 / 1000 ≤ vl (redD f lat)
  d1 : vl (redD f lat) ≤ 10001 / 10000
  dd : Wn (vl (redD f lat) * vl (redD f lat) - ((cis lat).re * (cis lat).re + (1 - vl f) * (cis lat).im * ((1 - vl f) * (cis lat).im))) (8 / 100000000000000)
  dc : Wn (vl (redD f lat) * vl (rcP f lat) - (cis lat).re) (2 / 100000000000000)
  ds : Wn (vl (redD f lat) * vl (rsP f lat) - (1 - vl f) * (cis lat).im) (2 / 100000000000000)
set_option maxHeartbeats 4000000 in
theorem red_ok {f : Nat} (ff : Fp.Fin f) (f0 : 0 ≤ vl f) (f1 : vl f ≤ 10001 / 1000000) {lat : Int} (l1 : -80000000000 ≤ lat) (l2 : lat ≤ 80000000000) : RedOk f lat := by
  have u1 : uu = 1 / 9007199254740992 := uu_eq
  obtain ⟨fx, x0, x1, hn⟩ := cos_84 (m := lat) (by omega) (by omega)
  obtain ⟨⟨_, e1⟩, ⟨fy, e2⟩⟩ := cis_near lat
  have one := cis_one lat
  have bC := (cis_bd lat).re
  have bS := (cis_bd lat).im
  obtain ⟨g1, h1⟩ := subE v_one.1 ff 2 (by rw [v_one.2]; constructor <;> grind) (by grind)
  rw [v_one.2] at h1
  have bX : Wn (vl (cosP lat)) (10001 / 10000) := ⟨by grind, x1⟩
  have bY : Wn (vl (sinP lat)) (10001 / 10000) := (wn_add e2 bS).of (by grind) (by unfold tol; grind)
  have bg : Wn (vl (fsub cOne f)) (10001 / 10000) := by obtain ⟨_, _⟩ := h1; rw [u1] at *; constructor <;> grind
  obtain ⟨g2, h2⟩ := mulE g1 fy _ (wn_mul bg bY) (by grind)
  have eX : redX lat = cosP lat := by unfold redX; rw [fx.can]
  have eY : redY f lat = fmul (fsub cOne f) (sinP lat) := by unfold redY; rw [show can c1 = cOne from c1_can, ff.can, fy.can]
  generalize hy : fmul (fsub cOne f) (sinP lat) = y at *
  generalize fsub cOne f = g at *
  have hY : Wn (vl y - (1 - vl f) * (cis lat).im) (12 / 1000000000000000) := by
    have m1 := wn_mul h1 bY
    have m2 := wn_mul (show Wn (1 - vl f) 1 from by constructor <;> grind) e2
    refine (wn_add h2 (wn_add m1 m2)).of (by grind) ?_
    rw [u1]; unfold tol; grind
  have bY1 : Wn ((1 - vl f) * (cis lat).im) (1000001 / 1000000) := (wn_mul (show Wn (1 - vl f) 1 from by constructor <;> grind) bS).mono (by grind)
  have bY2 : Wn (vl y) (1001 / 1000) := (wn_add hY bY1).of (by grind) (by grind)
  obtain ⟨g3, h3⟩ := mulE fx fx _ (wn_mul bX bX) (by grind)
  obtain ⟨g4, h4⟩ := mulE g2 g2 _ (wn_mul bY2 bY2) (by grind)
  have dX := wn_mul e1 (show Wn (vl (cosP lat) + (cis lat).re) (2001 / 1000) from (wn_add bX bC).mono (by grind))
  have dY := wn_mul hY (show Wn (vl y + (1 - vl f) * (cis lat).im) (2002 / 1000) from (wn_add bY2 bY1).mono (by grind))
  have sX : Wn (vl (fmul (cosP lat) (cosP lat)) - (cis lat).re * (cis lat).re) (21 / 1000000000000000) := by
    refine (wn_add h3 dX).of (by grind) ?_
    rw [u1]; unfold tol; grind
  have sY : Wn (vl (fmul y y) - (1 - vl f) * (cis lat).im * ((1 - vl f) * (cis lat).im)) (25 / 1000000000000000) := by
    refine (wn_add h4 dY).of (by grind) ?_
    rw [u1]; grind
  obtain ⟨Q, hQ⟩ : ∃ Q, Q = (cis lat).re * (cis lat).re + (1 - vl f) * (cis lat).im * ((1 - vl f) * (cis lat).im) := ⟨_, rfl⟩
  have f2 : 9799 / 10000 ≤ (1 - vl f) * (1 - vl f) := by
    have := sq_le_sq (show (0 : Rat) ≤ 98999 / 100000 by grind) (show 98999 / 100000 ≤ 1 - vl f by grind)
    grind
  have f3 : (1 - vl f) * (1 - vl f) ≤ 1 := by
    have := sq_le_sq (show 0 ≤ 1 - vl f by grind) (show 1 - vl f ≤ 1 by grind)
    grind
  have S2 := rsq_nonneg (cis lat).im
  have Q0 : 97989 / 100000 ≤ Q := by
    have := Rat.mul_le_mul_of_nonneg_right f2 S2
    have := rsq_nonneg (cis lat).re
    have := one.1
    rw [hQ]; grind
  have Q1 : Q ≤ 1 + 1 / 1000000000000000 := by
    have := Rat.mul_le_mul_of_nonneg_right f3 S2
    have := one.2
    rw [hQ]; grind
  have hs0 : Wn (vl (fmul (cosP lat) (cosP lat)) + vl (fmul y y) - Q) (46 / 1000000000000000) := (wn_add sX sY).of (by rw [hQ]; grind) (by grind)
  obtain ⟨g5, h5⟩ := addE g3 g4 (1001 / 1000) (by obtain ⟨_, _⟩ := hs0; constructor <;> grind) (by grind)
  have hs : Wn (vl (fadd (fmul (cosP lat) (cosP lat)) (fmul y y)) - Q) (47 / 1000000000000000) := (wn_add h5 hs0).of (by grind) (by rw [u1]; grind)
  obtain ⟨g6, r0, h6⟩ := fsqrt_err g5 (by have := hs.1; grind) (big_le (by have := hs.2; grind))
  have eD : redD f lat = fsqrt (fadd (fmul (cosP lat) (cosP lat)) (fmul y y)) := by unfold redD; rw [eX, eY]
  have hd : Wn (vl (redD f lat) * vl (redD f lat) - Q) (50 / 1000000000000000) := by
    rw [eD]
    refine (wn_add (h6.mono (show _ ≤ 1 / 1000000000000000 from ?_)) hs).of (by grind) (by grind)
    rw [u1]; have := hs.2; grind
  rw [← eD] at g6 r0
  generalize hd' : redD f lat = d at *
  have d0 : 989 / 1000 ≤ vl d := le_of_sq r0 (by have := hd.1; grind)
  have d1 : vl d ≤ 10001 / 10000 := le_of_sq (by grind) (by have := hd.2; grind)
  have x2 : Wn (vl (cosP lat)) (101 / 100) := bX.mono (by grind)
  obtain ⟨k1, m1⟩ := div_one fx g6 (by grind) (by grind) x2
  obtain ⟨k2, m2⟩ := div_one g2 g6 (by grind) (by grind) (bY2.mono (by grind))
  have ec : rcP f lat = fdiv (cosP lat) d := by unfold rcP; rw [eX, hd']
  have es : rsP f lat = fdiv y d := by unfold rsP; rw [eY, hd']
  have dc : Wn (vl d * vl (rcP f lat) - (cis lat).re) (2 / 100000000000000) := by
    rw [ec]; exact (wn_add m1 e1).of (by grind) (by unfold tol; grind)
  have ds : Wn (vl d * vl (rsP f lat) - (1 - vl f) * (cis lat).im) (2 / 100000000000000) := by
    rw [es]; exact (wn_add m2 hY).of (by grind) (by grind)
  have d2 : 0 < vl d := by grind
  have dp := Rat.mul_pos d2 d2
  have c0 : 103 / 1000 ≤ vl (rcP f lat) := by
    refine le_of_scaled d2 ?_
    rw [ec]
    have := m1.1
    grind
  have q2 : Wn (vl d * vl (rcP f lat) * (vl d * vl (rcP f lat)) + vl d * vl (rsP f lat) * (vl d * vl (rsP f lat)) - vl d * vl d) (7 / 1000000000000000) := by
    rw [ec, es]
    have a1 := wn_mul m1 (show Wn (vl d * vl (fdiv (cosP lat) d) + vl (cosP lat)) (2002 / 1000) from (wn_add (m1.mono (show _ ≤ 1 / 100000000000000 by grind)) ((wn_add bX bX))).of (by grind) (by grind))
    have a2 := wn_mul m2 (show Wn (vl d * vl (fdiv y d) + vl y) (2003 / 1000) from (wn_add (m2.mono (show _ ≤ 1 / 100000000000000 by grind)) ((wn_add bY2 bY2))).of (by grind) (by grind))
    have h6' : Wn (vl d * vl d - vl (fadd (fmul (cosP lat) (cosP lat)) (fmul y y))) (1 / 1000000000000000) := by
      rw [← eD] at h6
      refine h6.mono ?_
      rw [u1]; have := hs.2; grind
    have t := wn_sub (wn_add a1 a2) (wn_add h6' (wn_add h5 (wn_add h3 h4)))
    refine t.of (by grind) ?_
    rw [u1]; grind
  have one' : Wn (vl (rcP f lat) * vl (rcP f lat) + vl (rsP f lat) * vl (rsP f lat) - 1) (1 / 100000000000000) := by
    refine wn_div dp (q2.of (by grind) ?_)
    have := sq_le_sq (show (0 : Rat) ≤ 989 / 1000 by grind) d0
    grind
  have bc : Wn (vl (rcP f lat)) (1001 / 1000) := by
    have := rsq_nonneg (vl (rsP f lat))
    exact ⟨by grind, le_of_sq (by grind) (by have := one'.2; grind)⟩
  have bs : Wn (vl (rsP f lat)) (9948 / 10000) := by
    have := sq_le_sq (show (0 : Rat) ≤ 103 / 1000 by grind) c0
    constructor
    · have := le_of_sq (a := -vl (rsP f lat)) (b := 9948 / 10000) (by grind) (by have := one'.2; grind)
      grind
    · exact le_of_sq (by grind) (by have := one'.2; grind)
  exact ⟨by rw [ec]; exact k1, by rw [es]; exact k2, c0, bc, bs, one', by rw [hd']; exact d0, by rw [hd']; exact d1, by rw [hd', ← hQ]; exact hd.mono (by grind), by rw [hd']; exact dc, by rw [hd']; exact ds⟩
end Go.Proofs.YtfhpnkmpjijebaaDoor

/- The geodesic between two places: what it is; when two steps are as good as one. -/
namespace Go.Fp
open Ieee
abbrev c11 : Nat := 4442235333156365461
abbrev m11 : Nat := 13665607370011141269
end Go.Fp
