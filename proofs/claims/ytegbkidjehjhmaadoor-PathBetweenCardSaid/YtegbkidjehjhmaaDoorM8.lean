/- The geodesic between two places: what it is; the one that the statements ask for by its numbers. -/
import Derived.Test.YtegbkidjehjhmaaDoorM7
namespace Go.Proofs.YtegbkidjehjhmaaDoor
open Go.RowKit Go.Fp Go.Rel
set_option maxRecDepth 20000

abbrev cPi : Nat := 4614256656552045848
abbrev mPi : Nat := 13837628693406821656
structure LineV where
  (a f : Nat) (lonA latA lonB latB : Int)
namespace LineV
variable (v : LineV) (x : Nat)
def cu1 : Nat := rcP v.f v.latA
def su1 : Nat := rsP v.f v.latA
def cu2 : Nat := rcP v.f v.latB
def su2 : Nat := rsP v.f v.latB
def all : Nat := radP (signP (normP v.lonB - normP v.lonA))
def sl : Nat := can (sinP (nearP x))
def cl : Nat := can (cosP (nearP x))
def t : Nat := fsub (fmul v.cu1 v.su2) (fmul (fmul v.su1 v.cu2) (cl x))
def w : Nat := fmul v.cu2 (sl x)
def ss : Nat := fsqrt (fadd (fmul (v.w x) (v.w x)) (fmul (v.t x) (v.t x)))
def cs : Nat := fadd (fmul v.su1 v.su2) (fmul (fmul v.cu1 v.cu2) (cl x))
def sa : Nat := if D.order (v.ss x) 0 = some .eq then 0 else fdiv (fmul (fmul v.cu1 v.cu2) (sl x)) (v.ss x)
def ca : Nat := fsub (can c1) (fmul (v.sa x) (v.sa x))
def cm : Nat := if D.order (v.ca x) 0 = some .eq then 0 else fsub (v.cs x) (fdiv (fmul (can c2) (fmul v.su1 v.su2)) (v.ca x))
def o : Nat := radP (angleP (v.ss x) (v.cs x)).1
def next : Nat := fadd v.all (longerP (can v.f) (thirdP (can v.f) (v.ca x)) (v.sa x) (v.o x) (v.ss x) (v.cs x) (v.cm x))
/-- too far round -/
def out : Bool := D.order x cPi == some .gt || D.order x mPi == some .lt
def close : Bool := (D.order (fsub (v.next x) x) c11 == some .lt || D.order (fsub (v.next x) x) c11 == some .eq) && (D.order (fsub (v.next x) x) m11 == some .gt || D.order (fsub (v.next x) x) m11 == some .eq)
def far : Nat := fmul (fmul (fmul (can v.a) (fsub (can c1) (can v.f))) (ofP (uP v.f (v.ca x)))) (fsub (v.o x) (offP (ofQ (uP v.f (v.ca x))) (v.ss x) (v.cs x) (v.cm x)))
def outA : Int := (angleP (v.w x) (v.t x)).1
def inA : Int := (angleP (fmul v.cu1 (sl x)) (fsub (fmul (fmul v.cu1 v.su2) (cl x)) (fmul v.su1 v.cu2))).1
/-- the difference of longitudes at which the line is taken, if one is found -/
def go : Nat → Nat → Option Nat
  | 0, _ => none
  | k + 1, x => if out x then none else if v.close x then (if out (v.next x) then none else some (v.next x)) else go k (v.next x)
end LineV

theorem order_canL (x : Nat) {c : Nat} (hc : isNan c = false) : D.order (can x) c = D.order x c := by
  have := order_can x c
  rwa [can_of_not hc] at this
theorem out_no {x : Nat} (h : LineV.out (can x) = false) : (FloatKind.f64.format.order x 4614256656552045848 == some Ordering.gt) = false ∧ (FloatKind.f64.format.order x 13837628693406821656 == some Ordering.lt) = false := by
  unfold LineV.out at h
  rw [order_canL x (by decide +kernel), order_canL x (by decide +kernel), Bool.or_eq_false_iff] at h
  exact h
theorem out_yes {x : Nat} (h : LineV.out (can x) = true) : (FloatKind.f64.format.order x 4614256656552045848 == some Ordering.gt) = true ∨
    (FloatKind.f64.format.order x 4614256656552045848 == some Ordering.gt) = false ∧ (FloatKind.f64.format.order x 13837628693406821656 == some Ordering.lt) = true := by
  unfold LineV.out at h
  rw [order_canL x (by decide +kernel), order_canL x (by decide +kernel), Bool.or_eq_true] at h
  cases h1 : (D.order x cPi == some Ordering.gt) with
  | true => exact .inl h1
  | false => rw [h1] at h; exact .inr ⟨h1, h.resolve_left (by simp)⟩
theorem ite_ne {s X : Nat} (h : (FloatKind.f64.format.order s 0 != some Ordering.eq) = true) : (if D.order (can s) 0 = some .eq then 0 else X) = X := by
  have h0 : ¬ D.order s 0 = some .eq := by
    intro e
    have e2 : FloatKind.f64.format.order s 0 = some .eq := e
    rw [e2] at h; simp at h
  rw [order_canL s (by decide +kernel), if_neg h0]
theorem ite_eq {s X : Nat} (h : (FloatKind.f64.format.order s 0 != some Ordering.eq) = false) : (if D.order (can s) 0 = some .eq then 0 else X) = 0 := by
  have h0 : D.order s 0 = some .eq := by
    have e : FloatKind.f64.format.order s 0 = some .eq := by simpa using h
    exact e
  rw [order_canL s (by decide +kernel), if_pos h0]
theorem go_far {v : LineV} {x : Nat} (j : Nat) (ho : LineV.out x = false) (hc : v.close x = false) : v.go (j + 1) x = v.go j (v.next x) := by
  show (if LineV.out x then none else if v.close x then (if LineV.out (v.next x) then none else some (v.next x)) else v.go j (v.next x)) = _
  rw [ho, hc]; rfl
theorem go_near {v : LineV} {x : Nat} (j : Nat) (ho : LineV.out x = false) (hc : v.close x = true) : v.go (j + 1) x = if LineV.out (v.next x) then none else some (v.next x) := by
  show (if LineV.out x then none else if v.close x then (if LineV.out (v.next x) then none else some (v.next x)) else v.go j (v.next x)) = _
  rw [ho, hc]; rfl
theorem go_out {v : LineV} {x : Nat} (j : Nat) (ho : LineV.out x = true) : v.go j x = none := by
  cases j with
  | zero => rfl
  | succ j =>
    show (if LineV.out x then none else if v.close x then (if LineV.out (v.next x) then none else some (v.next x)) else v.go j (v.next x)) = _
    rw [ho]; rfl
/-- near enough: as package path asks -/
theorem close_of {v : LineV} {x d : Nat} (hd : can d = fsub (v.next x) x) : v.close x =
    ((FloatKind.f64.format.order d 4442235333156365461 == some Ordering.lt || FloatKind.f64.format.order d 4442235333156365461 == some Ordering.eq) &&
     (FloatKind.f64.format.order d 13665607370011141269 == some Ordering.gt || FloatKind.f64.format.order d 13665607370011141269 == some Ordering.eq)) := by
  unfold LineV.close
  rw [← hd, order_canL d (by decide +kernel), order_canL d (by decide +kernel)]
  rfl
/-- near enough: as the reference asks -/
theorem close_of2 {v : LineV} {x d e : Nat} (hd : can d = fsub (v.next x) x) (he : can e = fsub x (v.next x)) : v.close x =
    ((FloatKind.f64.format.order d 4442235333156365461 == some Ordering.lt || FloatKind.f64.format.order d 4442235333156365461 == some Ordering.eq) &&
     (FloatKind.f64.format.order e 4442235333156365461 == some Ordering.lt || FloatKind.f64.format.order e 4442235333156365461 == some Ordering.eq)) := by
  rw [close_of hd]
  have h1 := close_back (v.next x) x .lt
  have h2 := close_back (v.next x) x .eq
  rw [← hd, ← he, order_canL d (by decide +kernel), order_canL e (by decide +kernel)] at h1 h2
  have e1 : (FloatKind.f64.format.order e 4442235333156365461 == some Ordering.lt) = (FloatKind.f64.format.order d 13665607370011141269 == some Ordering.gt) := by
    rw [Bool.eq_iff_iff, beq_iff_eq, beq_iff_eq]; exact h1
  have e2 : (FloatKind.f64.format.order e 4442235333156365461 == some Ordering.eq) = (FloatKind.f64.format.order d 13665607370011141269 == some Ordering.eq) := by
    rw [Bool.eq_iff_iff, beq_iff_eq, beq_iff_eq]; exact h2
  rw [e1, e2]
def lined0 : LineV := ⟨4652007308841189376, 0, 0, 0, 90000000000, 0⟩
def linedB : Bool := match lined0.go 60 lined0.all with
  | some x => D.order (lined0.far x) 4654619748468785152 == some .gt && D.order (lined0.far x) 4654624146515296256 == some .lt
  | none => false
theorem lined_true : linedB = true := by decide +kernel
theorem lined_ok : okG lined0.a lined0.f = true := by decide +kernel
end Go.Proofs.YtegbkidjehjhmaaDoor
