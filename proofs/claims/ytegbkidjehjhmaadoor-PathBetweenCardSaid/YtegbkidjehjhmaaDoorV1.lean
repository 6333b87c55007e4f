/- Walks: globes: which are valid, their eccentricity; the same bits. -/
import Derived.Test.YtegbkidjehjhmaaDoorE4
import Derived.Test.YtegbkidjehjhmaaDoorG4
import Derived.Test.YtegbkidjehjhmaaDoorR3
namespace Go.Proofs.YtegbkidjehjhmaaDoor
open Go.RowKit Go.Fp Go.Rel
set_option maxRecDepth 20000

def btw (x lo hi : Nat) : Bool := fge x lo && fle x hi
/-- a globe that is one -/
def okG (a f : Nat) : Bool := btw a 4607182418800017408 4741671816366391296 && btw f 0 4598175219545276416
abbrev globeV (a f : Nat) : Value := .agg #[.float .f64 a, .float .f64 f]

set_option maxHeartbeats 1000000 in
theorem between_c (x lo hi : Nat) (w : World) : Calls Tryd.prog 67 #[.float .f64 x, .float .f64 lo, .float .f64 hi] w (ExR (.bool (btw x lo hi)) w) := by
  go_enter Tryd.func67, Tryd.ntmps67
  go_wp2
  all_goals go_ret
  all_goals (refine ⟨?_, Ext.refl _⟩; first | rfl | (have hD : FloatKind.f64.format = D := rfl; simp only [hD] at *; simp_all [btw, fge, fle]))

theorem valid_c {A : Nat → Addr} (a f : Nat) (w : World) (h8 : World8 A w) : Calls Tryd.prog 39 #[globeV a f] w (ExR (if okG a f then .nilIface else errV (A 3)) w) := by
  generalize hv : (if okG a f then Value.nilIface else errV (A 3)) = ev
  have HV := Lib.hid hv
  clear hv
  go_enter Tryd.func39, Tryd.ntmps39
  have kg : (w.alloc (.cells #[.float .f64 a, .float .f64 f] 42)).cell? ⟨3, 0, none⟩ = some (errV (A 3)) := (h8.ext ((Ext.refl w).alloc _)).errs.cell 3 (by decide)
  go_wp2
  all_goals (first | go_ret | (exfalso; simp_all; done))
  all_goals (have hv := HV.out; subst hv; clear HV; refine ⟨?_, (Ext.refl w).alloc _⟩; have hD : FloatKind.f64.format = D := rfl; simp only [hD] at *; simp_all [okG, btw, fge, fle]; try grind)

theorem globeError_c (a f : Nat) (w : World) : Calls Tryd.prog 22 #[globeV a f] w (ExR (.int .i64 (if okG a f then 0 else 3)) w) := by
  have tk : Hid True := trivial
  have hB1 := Lib.hid (between_c a 4607182418800017408 4741671816366391296)
  have hB2 := Lib.hid (between_c f 0 4598175219545276416)
  have hok : okG a f = (btw a 4607182418800017408 4741671816366391296 && btw f 0 4598175219545276416) := rfl
  rw [hok]
  clear hok
  generalize btw a 4607182418800017408 4741671816366391296 = b1 at *
  generalize btw f 0 4598175219545276416 = b2 at *
  cases b1 <;> cases b2
  all_goals
    go_enter Tryd.func22, Tryd.ntmps22
    go_wp2_with (first
      | (go_at_call 67; clear tk; refine (hB1.out _).mono ?_; rintro e w1 ⟨rfl, hx1⟩; obtain ⟨hb1, hxa⟩ := ext1 hx1; have c1 : w1.cell? ⟨w.heap.size, 1, none⟩ = some (.float .f64 f) := hb1.cell 1)
      | (go_at_call 67; refine (hB2.out _).mono ?_; rintro e w2 ⟨rfl, hx2⟩; have hxb := hxa.trans hx2))
    go_ret
    exact ⟨rfl, hxb⟩

/-- the square of the eccentricity -/
def eccP (f : Nat) : Nat := fmul (can f) (fsub (can 4611686018427387904) (can f))
set_option maxHeartbeats 1000000 in
theorem ecc_c (a f : Nat) (w : World) : Calls Tryd.prog 83 #[globeV a f] w (FlR (eccP f) w) := by
  unfold eccP
  go_enter Tryd.func83, Tryd.ntmps83
  go_wp2_with (first | (with_reducible refine upon_fl rfl ?_; intro r n hr))
  go_ret
  refine ⟨_, rfl, by simp only [*, fbin], ?_⟩
  repeat (first | exact Ext.refl _ | refine Ext.drewN ?_ _ | refine Ext.alloc ?_ _)
set_option maxHeartbeats 1000000 in
theorem squareOf_c (a f : Nat) (w : World) : Calls Tryd.prog 87 #[globeV a f] w (FlR (eccP f) w) := by
  unfold eccP
  go_enter Tryd.func87, Tryd.ntmps87
  go_wp2_with (first | (with_reducible refine upon_fl rfl ?_; intro r n hr))
  go_ret
  refine ⟨_, rfl, by simp only [*, fbin], ?_⟩
  repeat (first | exact Ext.refl _ | refine Ext.drewN ?_ _ | refine Ext.alloc ?_ _)

theorem order_self {x : Nat} (h : isNan x = false) : D.order x x = some .eq := by
  unfold isNan at h
  unfold Ieee.Format.order
  cases e : D.read x with
  | nan s t => rw [e] at h; simp [Ieee.Datum.isNaN] at h
  | infinity s => simp [Ieee.Datum.order]
  | number s m i => simp [Ieee.Datum.order]
/-- the same number, or both none -/
theorem sameBits_c (x y : Nat) (w : World) (h : can x = can y) : Calls Tryd.prog 17 #[.float .f64 x, .float .f64 y] w (ExR (.bool true) w) := by
  cases hn : isNan x
  · have e : x = y := by
      have hy : isNan y = false := by rw [← isNan_can y, ← h, isNan_can]; exact hn
      rw [can_of_not hn, can_of_not hy] at h; exact h
    subst e
    have h1 : FloatKind.f64.format.order x x = some .eq := order_self hn
    clear h hn
    go_enter Tryd.func17, Tryd.ntmps17
    go_wp2
    go_ret
    exact ⟨rfl, Ext.refl _⟩
  · have hy : isNan y = true := by rw [← isNan_can y, ← h, isNan_can]; exact hn
    have h1 : FloatKind.f64.format.order x x = none := order_l _ _ hn
    have h2 : FloatKind.f64.format.order y y = none := order_l _ _ hy
    clear h hn hy
    go_enter Tryd.func17, Tryd.ntmps17
    go_wp2
    go_ret
    exact ⟨rfl, Ext.refl _⟩
end Go.Proofs.YtegbkidjehjhmaaDoor
