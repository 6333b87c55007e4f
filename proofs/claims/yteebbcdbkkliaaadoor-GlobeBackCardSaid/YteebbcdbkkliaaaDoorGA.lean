/- Polynomials over the rationals, in one and two variables, and their sizes; the addition law of the sine's and the cosine's polynomials, by reckoning on their coefficients. -/
import Derived.Test.YteebbcdbkkliaaaDoorJD
namespace Go.Fp.Tri
open Go.Fp
set_option maxRecDepth 20000
/-! polynomials over the rationals, in one and in two variables -/
/-- a polynomial's value -/
def pev : List Rat → Rat → Rat
  | [], _ => 0
  | c :: r, y => c + y * pev r y
def padd : List Rat → List Rat → List Rat
  | [], q => q
  | p, [] => p
  | a :: p, b :: q => (a + b) :: padd p q
def pscale (c : Rat) (p : List Rat) : List Rat := p.map (c * ·)
def pmul : List Rat → List Rat → List Rat
  | [], _ => []
  | c :: r, q => padd (pscale c q) (0 :: pmul r q)
theorem pev_add : ∀ (p q : List Rat) (y : Rat), pev (padd p q) y = pev p y + pev q y
  | [], q, y => by simp only [padd, pev]; grind
  | a :: p, [], y => by simp only [padd, pev]; grind
  | a :: p, b :: q, y => by
    simp only [padd, pev, pev_add p q y]
    grind
theorem pev_scale (c : Rat) : ∀ (p : List Rat) (y : Rat), pev (pscale c p) y = c * pev p y
  | [], y => by simp [pscale, pev]
  | a :: p, y => by
    have h := pev_scale c p y
    simp only [pscale, List.map_cons, pev] at *
    rw [h]
    grind
theorem pev_mul : ∀ (p q : List Rat) (y : Rat), pev (pmul p q) y = pev p y * pev q y
  | [], q, y => by simp [pmul, pev]
  | a :: p, q, y => by
    simp only [pmul, pev_add, pev_scale, pev, pev_mul p q y]
    grind
/-- in two variables: the coefficients are polynomials in the second -/
def qev : List (List Rat) → Rat → Rat → Rat
  | [], _, _ => 0
  | p :: r, x, y => pev p y + x * qev r x y
def qadd : List (List Rat) → List (List Rat) → List (List Rat)
  | [], q => q
  | p, [] => p
  | a :: p, b :: q => padd a b :: qadd p q
def qscale (c : List Rat) (p : List (List Rat)) : List (List Rat) := p.map (pmul c)
def qmul : List (List Rat) → List (List Rat) → List (List Rat)
  | [], _ => []
  | c :: r, q => qadd (qscale c q) ([] :: qmul r q)
theorem qev_add : ∀ (p q : List (List Rat)) (x y : Rat), qev (qadd p q) x y = qev p x y + qev q x y
  | [], q, x, y => by simp only [qadd, qev]; grind
  | a :: p, [], x, y => by simp only [qadd, qev]; grind
  | a :: p, b :: q, x, y => by
    simp only [qadd, qev, pev_add, qev_add p q x y]
    grind
theorem qev_scale (c : List Rat) : ∀ (p : List (List Rat)) (x y : Rat), qev (qscale c p) x y = pev c y * qev p x y
  | [], x, y => by simp [qscale, qev]
  | a :: p, x, y => by
    have h := qev_scale c p x y
    simp only [qscale, List.map_cons, qev, pev_mul] at *
    rw [h]
    grind
theorem qev_mul : ∀ (p q : List (List Rat)) (x y : Rat), qev (qmul p q) x y = qev p x y * qev q x y
  | [], q, x, y => by simp [qmul, qev]
  | a :: p, q, x, y => by
    simp only [qmul, qev_add, qev_scale, qev, pev, qev_mul p q x y]
    grind
/-- a polynomial in the first, in the second variable alone; one polynomial in another -/
def inX (p : List Rat) : List (List Rat) := p.map fun c => [c]
def inY (p : List Rat) : List (List Rat) := [p]
theorem qev_inX : ∀ (p : List Rat) (x y : Rat), qev (inX p) x y = pev p x
  | [], x, y => by simp [inX, qev, pev]
  | a :: p, x, y => by
    have h := qev_inX p x y
    simp only [inX, List.map_cons, qev, pev] at *
    rw [h]
    grind
theorem qev_inY (p : List Rat) (x y : Rat) : qev (inY p) x y = pev p y := by
  simp only [inY, qev]
  grind
def qcomp : List Rat → List (List Rat) → List (List Rat)
  | [], _ => []
  | c :: r, q => qadd [[c]] (qmul q (qcomp r q))
theorem qev_comp : ∀ (p : List Rat) (q : List (List Rat)) (x y : Rat), qev (qcomp p q) x y = pev p (qev q x y)
  | [], q, x, y => by simp [qcomp, qev, pev]
  | a :: p, q, x, y => by
    simp only [qcomp, qev_add, qev_mul, qev_comp p q x y, qev, pev]
    grind
def pneg (p : List Rat) : List Rat := pscale (-1) p
def qneg (p : List (List Rat)) : List (List Rat) := qscale [-1] p
theorem qev_neg (p : List (List Rat)) (x y : Rat) : qev (qneg p) x y = - qev p x y := by
  unfold qneg
  rw [qev_scale]
  simp only [pev]
  grind
/-! bounds -/
def rabs (c : Rat) : Rat := if c < 0 then -c else c
theorem wn_rabs (c : Rat) : Wn c (rabs c) := by
  unfold rabs Wn
  split <;> constructor <;> grind
def pbd : List Rat → Rat → Rat
  | [], _ => 0
  | c :: r, Y => rabs c + Y * pbd r Y
theorem wn_pev : ∀ (p : List Rat) {y Y : Rat}, Wn y Y → Wn (pev p y) (pbd p Y)
  | [], y, Y, h => by constructor <;> simp [pev, pbd]
  | c :: r, y, Y, h => wn_add (wn_rabs c) (wn_mul h (wn_pev r h))
def qbd : List (List Rat) → Rat → Rat → Rat
  | [], _, _ => 0
  | p :: r, X, Y => pbd p Y + X * qbd r X Y
theorem wn_qev : ∀ (p : List (List Rat)) {x y X Y : Rat}, Wn x X → Wn y Y → Wn (qev p x y) (qbd p X Y)
  | [], x, y, X, Y, h, k => by constructor <;> simp [qev, qbd]
  | c :: r, x, y, X, Y, h, k => wn_add (wn_pev c k) (wn_mul h (wn_qev r h k))

def fact : Nat → Nat
  | 0 => 1
  | n + 1 => (n + 1) * fact n
def inv (n : Nat) : Rat := 1 / (fact n : Nat)
/-- the sine's and the cosine's polynomial -/
def PS : List Rat := [0, 1, 0, -inv 3, 0, inv 5, 0, -inv 7, 0, inv 9, 0, -inv 11, 0, inv 13, 0, -inv 15, 0, inv 17]
def PC : List Rat := [1, 0, -inv 2, 0, inv 4, 0, -inv 6, 0, inv 8, 0, -inv 10, 0, inv 12, 0, -inv 14, 0, inv 16]
def XmY : List (List Rat) := [[0, -1], [1]]
/-- what the addition law lacks -/
def RemS : List (List Rat) := qadd (qadd (qmul (inX PS) (inY PC)) (qneg (qmul (inX PC) (inY PS)))) (qneg (qcomp PS XmY))
def RemC : List (List Rat) := qadd (qadd (qmul (inX PC) (inY PC)) (qmul (inX PS) (inY PS))) (qneg (qcomp PC XmY))
theorem remS_bd : qbd RemS (7855 / 10000) (7855 / 10000) ≤ 1 / 10000000000000 := by decide +kernel
theorem remC_bd : qbd RemC (7855 / 10000) (7855 / 10000) ≤ 6 / 10000000000000 := by decide +kernel
def S (x : Rat) : Rat := pev PS x
def C (x : Rat) : Rat := pev PC x
theorem add_S {x y : Rat} (hx : Wn x (7855 / 10000)) (hy : Wn y (7855 / 10000)) : Wn (S x * C y - C x * S y - S (x - y)) (1 / 10000000000000) := by
  have h := (wn_qev RemS hx hy).mono remS_bd
  have e : qev RemS x y = S x * C y - C x * S y - S (x - y) := by
    simp only [RemS, qev_add, qev_neg, qev_mul, qev_inX, qev_inY, qev_comp, S, C]
    have e2 : qev XmY x y = x - y := by simp only [XmY, qev, pev]; grind
    rw [e2]
    grind
  rw [← e]; exact h
theorem add_C {x y : Rat} (hx : Wn x (7855 / 10000)) (hy : Wn y (7855 / 10000)) : Wn (C x * C y + S x * S y - C (x - y)) (6 / 10000000000000) := by
  have h := (wn_qev RemC hx hy).mono remC_bd
  have e : qev RemC x y = C x * C y + S x * S y - C (x - y) := by
    simp only [RemC, qev_add, qev_neg, qev_mul, qev_inX, qev_inY, qev_comp, S, C]
    have e2 : qev XmY x y = x - y := by simp only [XmY, qev, pev]; grind
    rw [e2]
    grind
  rw [← e]; exact h
end Go.Fp.Tri
