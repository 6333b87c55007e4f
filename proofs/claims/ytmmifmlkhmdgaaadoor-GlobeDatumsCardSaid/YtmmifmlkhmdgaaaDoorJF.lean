/- From frame to frame and back: what both answer, and that one comes back. -/
import Derived.Test.YtmmifmlkhmdgaaaDoorJE
namespace Go.Fp
open Ieee

/-- within what is told, either side -/
def inn (x hi lo : Nat) : Bool := fge x lo && fle x hi
/-- a datum that is one -/
def okD (X Y Z A B C S : Nat) : Bool := inn X c1e5 m1e5 && inn Y c1e5 m1e5 && inn Z c1e5 m1e5 && inn A c1m3 m1m3 && inn B c1m3 m1m3 && inn C c1m3 m1m3 && inn S c1e3 m1e3
def okV (x y z : Nat) : Bool := inn x c1e10 m1e10 && inn y c1e10 m1e10 && inn z c1e10 m1e10
def nearV8 (x y z : Nat) : Bool := inn x c1e8 m1e8 && inn y c1e8 m1e8 && inn z c1e8 m1e8
def kD (S : Nat) : Nat := fadd cOne (fmul S c1m6)
def toX (X B C k x y z : Nat) : Nat := fadd X (fmul k (fadd (fsub x (fmul C y)) (fmul B z)))
def toY (Y A C k x y z : Nat) : Nat := fadd Y (fmul k (fsub (fadd (fmul C x) y) (fmul A z)))
def toZ (Z A B k x y z : Nat) : Nat := fadd Z (fmul k (fadd (fsub (fmul A y) (fmul B x)) z))
def coD (x X k : Nat) : Nat := fdiv (fsub x X) k
def nD (A B C : Nat) : Nat := fadd (fadd (fadd cOne (fmul A A)) (fmul B B)) (fmul C C)
def rowD (P Q R p q r n : Nat) : Nat := fdiv (fadd (fadd (fmul P p) (fmul Q q)) (fmul R r)) n
def frX (A B C p q r : Nat) : Nat := rowD (fadd cOne (fmul A A)) (fadd C (fmul A B)) (fsub (fmul A C) B) p q r (nD A B C)
def frY (A B C p q r : Nat) : Nat := rowD (fsub (fmul A B) C) (fadd cOne (fmul B B)) (fadd A (fmul B C)) p q r (nD A B C)
def frZ (A B C p q r : Nat) : Nat := rowD (fadd (fmul A C) B) (fsub (fmul B C) A) (fadd cOne (fmul C C)) p q r (nD A B C)

theorem inn_vl {x hi lo : Nat} {a b : Rat} (hhi : Fin hi ∧ vl hi = b) (hlo : Fin lo ∧ vl lo = a) (h : inn x hi lo = true) : Fin x ∧ a ≤ vl x ∧ vl x ≤ b := by
  unfold inn at h
  rw [Bool.and_eq_true] at h
  obtain ⟨h1, h2, h3⟩ := btw_vl hlo.1 hhi.1 h.1 h.2
  rw [hlo.2] at h2
  rw [hhi.2] at h3
  exact ⟨h1, h2, h3⟩
theorem inn_of {x hi lo : Nat} (hx : Fin x) (hhi : Fin hi) (hlo : Fin lo) (h1 : vl lo ≤ vl x) (h2 : vl x ≤ vl hi) : inn x hi lo = true := by
  unfold inn
  rw [Bool.and_eq_true]
  exact ⟨(fge_vl hx hlo).2 h1, (fle_vl hx hhi).2 h2⟩
theorem kD_ok {S : Nat} (h : inn S c1e3 m1e3 = true) : Fin (kD S) ∧ Wn (vl (kD S)) (1002 / 1000) ∧ 1 / 2 ≤ vl (kD S) := by
  obtain ⟨hS, s1, s2⟩ := inn_vl v_1e3 v_m1e3 h
  obtain ⟨f6, e6⟩ := v_1m6
  obtain ⟨f1, e1⟩ := v_one
  have b1 : Wn (vl S * vl c1m6) (1001 / 1000000) := by
    rw [e6]
    exact (wn_mul (⟨by grind, s2⟩ : Wn (vl S) 1000) (⟨by grind, Rat.le_refl⟩ : Wn (4722366482869645 / 4722366482869645213696 : Rat) (4722366482869645 / 4722366482869645213696))).mono (by grind)
  obtain ⟨g1, d1⟩ := mulE hS f6 _ b1 (by grind)
  rw [uu_eq] at d1
  obtain ⟨_, _⟩ := b1
  obtain ⟨_, _⟩ := d1
  have b2 : Wn (vl cOne + vl (fmul S c1m6)) 2 := by
    rw [e1]
    constructor <;> grind
  obtain ⟨g2, d2⟩ := addE f1 g1 _ b2 (by grind)
  rw [uu_eq, e1] at d2
  obtain ⟨_, _⟩ := d2
  unfold kD
  refine ⟨g2, ⟨?_, ?_⟩, ?_⟩ <;> grind
/-- a small product -/
theorem small {A B : Nat} (hA : Fin A) (hB : Fin B) (a : Wn (vl A) (1001 / 1000000)) (b : Wn (vl B) (1001 / 1000000)) : Fin (fmul A B) ∧ Wn (vl (fmul A B) - vl A * vl B) (2 / 10000000000000000) ∧ Wn (vl (fmul A B)) (2 / 1000000) := by
  have m := wn_mul a b
  obtain ⟨f, e⟩ := mulE hA hB (2 / 1000000) (m.mono (by grind)) (by grind)
  rw [uu_eq] at e
  obtain ⟨_, _⟩ := m
  obtain ⟨_, _⟩ := e
  refine ⟨f, ⟨?_, ?_⟩, ⟨?_, ?_⟩⟩ <;> grind
theorem big1 {A x : Nat} (hA : Fin A) (hx : Fin x) (a : Wn (vl A) (1001 / 1000000)) (b : Wn (vl x) 100000000) : Fin (fmul A x) ∧ Wn (vl (fmul A x) - vl A * vl x) (2 / 100000000000) ∧ Wn (vl (fmul A x)) 100101 := by
  have m := wn_mul a b
  obtain ⟨f, e⟩ := mulE hA hx 100100 (m.mono (by grind)) (by grind)
  rw [uu_eq] at e
  obtain ⟨_, _⟩ := m
  obtain ⟨_, _⟩ := e
  refine ⟨f, ⟨?_, ?_⟩, ⟨?_, ?_⟩⟩ <;> grind
/-- one as coefficient, with what is added -/
theorem onePlus {A : Nat} (hA : Fin A) (a : Wn (vl A) (1001 / 1000000)) : Fin (fadd cOne (fmul A A)) ∧ Wn (vl (fadd cOne (fmul A A)) - (1 + vl A * vl A)) (1 / 1000000000000000) ∧ Wn (vl (fadd cOne (fmul A A))) (1003 / 1000) := by
  obtain ⟨f1, e1⟩ := v_one
  obtain ⟨f, e, b⟩ := small hA hA a a
  obtain ⟨_, _⟩ := e
  obtain ⟨_, _⟩ := b
  obtain ⟨g, d⟩ := addE f1 f 2 (by rw [e1]; constructor <;> grind) (by grind)
  rw [uu_eq, e1] at d
  obtain ⟨_, _⟩ := d
  refine ⟨g, ⟨?_, ?_⟩, ⟨?_, ?_⟩⟩ <;> grind
theorem coPlus {A B C : Nat} (hA : Fin A) (hB : Fin B) (hC : Fin C) (a : Wn (vl A) (1001 / 1000000)) (b : Wn (vl B) (1001 / 1000000)) (c : Wn (vl C) (1001 / 1000000)) :
    (Fin (fadd C (fmul A B)) ∧ Wn (vl (fadd C (fmul A B)) - (vl C + vl A * vl B)) (1 / 1000000000000000) ∧ Wn (vl (fadd C (fmul A B))) (1003 / 1000)) ∧
    (Fin (fadd (fmul A B) C) ∧ Wn (vl (fadd (fmul A B) C) - (vl A * vl B + vl C)) (1 / 1000000000000000) ∧ Wn (vl (fadd (fmul A B) C)) (1003 / 1000)) ∧
    (Fin (fsub (fmul A B) C) ∧ Wn (vl (fsub (fmul A B) C) - (vl A * vl B - vl C)) (1 / 1000000000000000) ∧ Wn (vl (fsub (fmul A B) C)) (1003 / 1000)) := by
  obtain ⟨f, e, d⟩ := small hA hB a b
  obtain ⟨_, _⟩ := e
  obtain ⟨_, _⟩ := d
  obtain ⟨_, _⟩ := c
  refine ⟨?_, ?_, ?_⟩
  · obtain ⟨g, d⟩ := addE hC f 1 (by constructor <;> grind) (by grind)
    rw [uu_eq] at d
    obtain ⟨_, _⟩ := d
    refine ⟨g, ⟨?_, ?_⟩, ⟨?_, ?_⟩⟩ <;> grind
  · obtain ⟨g, d⟩ := addE f hC 1 (by constructor <;> grind) (by grind)
    rw [uu_eq] at d
    obtain ⟨_, _⟩ := d
    refine ⟨g, ⟨?_, ?_⟩, ⟨?_, ?_⟩⟩ <;> grind
  · obtain ⟨g, d⟩ := subE f hC 1 (by constructor <;> grind) (by grind)
    rw [uu_eq] at d
    obtain ⟨_, _⟩ := d
    refine ⟨g, ⟨?_, ?_⟩, ⟨?_, ?_⟩⟩ <;> grind
theorem nD_ok {A B C : Nat} (hA : Fin A) (hB : Fin B) (hC : Fin C) (a : Wn (vl A) (1001 / 1000000)) (b : Wn (vl B) (1001 / 1000000)) (c : Wn (vl C) (1001 / 1000000)) :
    Fin (nD A B C) ∧ Wn (vl (nD A B C) - (1 + vl A * vl A + vl B * vl B + vl C * vl C)) (2 / 1000000000000000) ∧ 1 / 2 ≤ vl (nD A B C) := by
  obtain ⟨f1, e1, b1⟩ := onePlus hA a
  obtain ⟨f2, e2, b2⟩ := small hB hB b b
  obtain ⟨f3, e3, b3⟩ := small hC hC c c
  have p : ∀ z : Rat, 0 ≤ z * z := fun z => by
    rcases Rat.le_total (a := 0) (b := z) with h | h
    · exact Rat.mul_nonneg h h
    · have := Rat.mul_nonneg (show 0 ≤ -z by grind) (show 0 ≤ -z by grind); grind
  have pa := p (vl A)
  have pb := p (vl B)
  have pc := p (vl C)
  obtain ⟨_, _⟩ := e1
  obtain ⟨_, _⟩ := e2
  obtain ⟨_, _⟩ := e3
  obtain ⟨_, _⟩ := b1
  obtain ⟨_, _⟩ := b2
  obtain ⟨_, _⟩ := b3
  obtain ⟨g4, d4⟩ := addE f1 f2 (11 / 10) (by constructor <;> grind) (by grind)
  rw [uu_eq] at d4
  obtain ⟨_, _⟩ := d4
  obtain ⟨g5, d5⟩ := addE g4 f3 (11 / 10) (by constructor <;> grind) (by grind)
  rw [uu_eq] at d5
  obtain ⟨_, _⟩ := d5
  unfold nD
  refine ⟨g5, ⟨?_, ?_⟩, ?_⟩ <;> grind
/-- the three sums of To -/
theorem sumX {B C x y z : Nat} (hB : Fin B) (hC : Fin C) (hx : Fin x) (hy : Fin y) (hz : Fin z) (b : Wn (vl B) (1001 / 1000000)) (c : Wn (vl C) (1001 / 1000000)) (bx : Wn (vl x) 100000000) (bY : Wn (vl y) 100000000) (bz : Wn (vl z) 100000000) :
    Fin (fadd (fsub x (fmul C y)) (fmul B z)) ∧ Wn (vl (fadd (fsub x (fmul C y)) (fmul B z)) - (vl x - vl C * vl y + vl B * vl z)) (1 / 20000000) ∧ Wn (vl x - vl C * vl y + vl B * vl z) 100210000 := by
  have mC := wn_mul c bY
  have mB := wn_mul b bz
  obtain ⟨f1, e1, d1⟩ := big1 hC hy c bY
  obtain ⟨f2, e2, d2⟩ := big1 hB hz b bz
  obtain ⟨_, _⟩ := bx
  obtain ⟨_, _⟩ := e1
  obtain ⟨_, _⟩ := e2
  obtain ⟨_, _⟩ := d1
  obtain ⟨_, _⟩ := d2
  obtain ⟨_, _⟩ := mC
  obtain ⟨_, _⟩ := mB
  obtain ⟨g1, h1⟩ := subE hx f1 100110000 (by constructor <;> grind) (by grind)
  rw [uu_eq] at h1
  obtain ⟨_, _⟩ := h1
  obtain ⟨g2, h2⟩ := addE g1 f2 100220000 (by constructor <;> grind) (by grind)
  rw [uu_eq] at h2
  obtain ⟨_, _⟩ := h2
  refine ⟨g2, ⟨?_, ?_⟩, ⟨?_, ?_⟩⟩ <;> grind
theorem sumY {A C x y z : Nat} (hA : Fin A) (hC : Fin C) (hx : Fin x) (hy : Fin y) (hz : Fin z) (a : Wn (vl A) (1001 / 1000000)) (c : Wn (vl C) (1001 / 1000000)) (bx : Wn (vl x) 100000000) (bY : Wn (vl y) 100000000) (bz : Wn (vl z) 100000000) :
    Fin (fsub (fadd (fmul C x) y) (fmul A z)) ∧ Wn (vl (fsub (fadd (fmul C x) y) (fmul A z)) - (vl C * vl x + vl y - vl A * vl z)) (1 / 20000000) ∧ Wn (vl C * vl x + vl y - vl A * vl z) 100210000 := by
  have mC := wn_mul c bx
  have mB := wn_mul a bz
  obtain ⟨f1, e1, d1⟩ := big1 hC hx c bx
  obtain ⟨f2, e2, d2⟩ := big1 hA hz a bz
  obtain ⟨_, _⟩ := bY
  obtain ⟨_, _⟩ := e1
  obtain ⟨_, _⟩ := e2
  obtain ⟨_, _⟩ := d1
  obtain ⟨_, _⟩ := d2
  obtain ⟨_, _⟩ := mC
  obtain ⟨_, _⟩ := mB
  obtain ⟨g1, h1⟩ := addE f1 hy 100110000 (by constructor <;> grind) (by grind)
  rw [uu_eq] at h1
  obtain ⟨_, _⟩ := h1
  obtain ⟨g2, h2⟩ := subE g1 f2 100220000 (by constructor <;> grind) (by grind)
  rw [uu_eq] at h2
  obtain ⟨_, _⟩ := h2
  refine ⟨g2, ⟨?_, ?_⟩, ⟨?_, ?_⟩⟩ <;> grind
theorem sumZ {A B x y z : Nat} (hA : Fin A) (hB : Fin B) (hx : Fin x) (hy : Fin y) (hz : Fin z) (a : Wn (vl A) (1001 / 1000000)) (b : Wn (vl B) (1001 / 1000000)) (bx : Wn (vl x) 100000000) (bY : Wn (vl y) 100000000) (bz : Wn (vl z) 100000000) :
    Fin (fadd (fsub (fmul A y) (fmul B x)) z) ∧ Wn (vl (fadd (fsub (fmul A y) (fmul B x)) z) - (vl A * vl y - vl B * vl x + vl z)) (1 / 20000000) ∧ Wn (vl A * vl y - vl B * vl x + vl z) 100210000 := by
  have mC := wn_mul a bY
  have mB := wn_mul b bx
  obtain ⟨f1, e1, d1⟩ := big1 hA hy a bY
  obtain ⟨f2, e2, d2⟩ := big1 hB hx b bx
  obtain ⟨_, _⟩ := bz
  obtain ⟨_, _⟩ := e1
  obtain ⟨_, _⟩ := e2
  obtain ⟨_, _⟩ := d1
  obtain ⟨_, _⟩ := d2
  obtain ⟨_, _⟩ := mC
  obtain ⟨_, _⟩ := mB
  obtain ⟨g1, h1⟩ := subE f1 f2 210000 (by constructor <;> grind) (by grind)
  rw [uu_eq] at h1
  obtain ⟨_, _⟩ := h1
  obtain ⟨g2, h2⟩ := addE g1 hz 100220000 (by constructor <;> grind) (by grind)
  rw [uu_eq] at h2
  obtain ⟨_, _⟩ := h2
  refine ⟨g2, ⟨?_, ?_⟩, ⟨?_, ?_⟩⟩ <;> grind
theorem inn5 {x : Nat} (hx : Fin x) (h : Wn (vl x) (4 / 1000000)) : inn x c1m5 m1m5 = true := by
  obtain ⟨_, _⟩ := h
  refine inn_of hx v_1m5.1 v_m1m5.1 ?_ ?_
  · rw [v_m1m5.2]; grind
  · rw [v_1m5.2]; grind
theorem inn10 {x : Nat} (hx : Fin x) (h : Wn (vl x) 101000000) : inn x c1e10 m1e10 = true := by
  obtain ⟨_, _⟩ := h
  refine inn_of hx v_1e10.1 v_m1e10.1 ?_ ?_
  · rw [v_m1e10.2]; grind
  · rw [v_1e10.2]; grind
theorem datum_back {X Y Z A B C S x y z : Nat} (hd : okD X Y Z A B C S = true) (hv : nearV8 x y z = true) :
    okV (toX X B C (kD S) x y z) (toY Y A C (kD S) x y z) (toZ Z A B (kD S) x y z) = true ∧
    inn (fsub (frX A B C (coD (toX X B C (kD S) x y z) X (kD S)) (coD (toY Y A C (kD S) x y z) Y (kD S)) (coD (toZ Z A B (kD S) x y z) Z (kD S))) x) c1m5 m1m5 = true ∧
    inn (fsub (frY A B C (coD (toX X B C (kD S) x y z) X (kD S)) (coD (toY Y A C (kD S) x y z) Y (kD S)) (coD (toZ Z A B (kD S) x y z) Z (kD S))) y) c1m5 m1m5 = true ∧
    inn (fsub (frZ A B C (coD (toX X B C (kD S) x y z) X (kD S)) (coD (toY Y A C (kD S) x y z) Y (kD S)) (coD (toZ Z A B (kD S) x y z) Z (kD S))) z) c1m5 m1m5 = true := by
  unfold okD at hd
  unfold nearV8 at hv
  simp only [Bool.and_eq_true] at hd hv
  obtain ⟨⟨⟨⟨⟨⟨dX, dY⟩, dZ⟩, dA⟩, dB⟩, dC⟩, dS⟩ := hd
  obtain ⟨⟨vx, vy⟩, vz⟩ := hv
  obtain ⟨hX, X1, X2⟩ := inn_vl v_1e5 v_m1e5 dX
  obtain ⟨hY, Y1, Y2⟩ := inn_vl v_1e5 v_m1e5 dY
  obtain ⟨hZ, Z1, Z2⟩ := inn_vl v_1e5 v_m1e5 dZ
  obtain ⟨hA, A1, A2⟩ := inn_vl v_1m3 v_m1m3 dA
  obtain ⟨hB, B1, B2⟩ := inn_vl v_1m3 v_m1m3 dB
  obtain ⟨hC, C1, C2⟩ := inn_vl v_1m3 v_m1m3 dC
  obtain ⟨hx, x1, x2⟩ := inn_vl v_1e8 v_m1e8 vx
  obtain ⟨hy, y1, y2⟩ := inn_vl v_1e8 v_m1e8 vy
  obtain ⟨hz, z1, z2⟩ := inn_vl v_1e8 v_m1e8 vz
  obtain ⟨hk, bk, bk0⟩ := kD_ok dS
  have bX : Wn (vl X) 100000 := ⟨by grind, X2⟩
  have bY : Wn (vl Y) 100000 := ⟨by grind, Y2⟩
  have bZ : Wn (vl Z) 100000 := ⟨by grind, Z2⟩
  have bA : Wn (vl A) (1001 / 1000000) := ⟨by grind, by grind⟩
  have bB : Wn (vl B) (1001 / 1000000) := ⟨by grind, by grind⟩
  have bC : Wn (vl C) (1001 / 1000000) := ⟨by grind, by grind⟩
  have bx : Wn (vl x) 100000000 := ⟨by grind, x2⟩
  have by' : Wn (vl y) 100000000 := ⟨by grind, y2⟩
  have bz : Wn (vl z) 100000000 := ⟨by grind, z2⟩
  clear dX dY dZ dA dB dC dS vx vy vz X1 X2 Y1 Y2 Z1 Z2 A1 A2 B1 B2 C1 C2 x1 x2 y1 y2 z1 z2
  generalize kD S = k at *
  obtain ⟨t1, u1, m1⟩ := sumX hB hC hx hy hz bB bC bx by' bz
  obtain ⟨t2, u2, m2⟩ := sumY hA hC hx hy hz bA bC bx by' bz
  obtain ⟨t3, u3, m3⟩ := sumZ hA hB hx hy hz bA bB bx by' bz
  obtain ⟨F1, E1, G1⟩ := toRow hX hk t1 bX bk m1 u1
  obtain ⟨F2, E2, G2⟩ := toRow hY hk t2 bY bk m2 u2
  obtain ⟨F3, E3, G3⟩ := toRow hZ hk t3 bZ bk m3 u3
  obtain ⟨p1, q1⟩ := fromCo F1 hX hk bX bk bk0 m1 E1
  obtain ⟨p2, q2⟩ := fromCo F2 hY hk bY bk bk0 m2 E2
  obtain ⟨p3, q3⟩ := fromCo F3 hZ hk bZ bk bk0 m3 E3
  obtain ⟨oA, oA1, oA2⟩ := onePlus hA bA
  obtain ⟨oB, oB1, oB2⟩ := onePlus hB bB
  obtain ⟨oC, oC1, oC2⟩ := onePlus hC bC
  obtain ⟨⟨n1, n2, n3⟩, _, ⟨n7, n8, n9⟩⟩ := coPlus hA hB hC bA bB bC
  obtain ⟨_, ⟨a4, a5, a6⟩, ⟨a7, a8, a9⟩⟩ := coPlus hA hC hB bA bC bB
  obtain ⟨⟨c1, c2, c3⟩, _, ⟨c7, c8, c9⟩⟩ := coPlus hB hC hA bB bC bA
  obtain ⟨hn, en, bn⟩ := nD_ok hA hB hC bA bB bC
  refine ⟨?_, ?_, ?_, ?_⟩
  · unfold okV toX toY toZ
    rw [inn10 F1 G1, inn10 F2 G2, inn10 F3 G3]
    rfl
  · obtain ⟨r1, r2⟩ := fromRow oA n1 a7 p1 p2 p3 hn hx oA2 oA1 n3 n2 a9 a8 m1 m2 m3 q1 q2 q3 bn en bx (by grind)
    exact inn5 r1 r2
  · obtain ⟨r1, r2⟩ := fromRow n7 oB c1 p1 p2 p3 hn hy n9 n8 oB2 oB1 c3 c2 m1 m2 m3 q1 q2 q3 bn en by' (by grind)
    exact inn5 r1 r2
  · obtain ⟨r1, r2⟩ := fromRow a4 c7 oC p1 p2 p3 hn hz a6 a5 c9 c8 oC2 oC1 m1 m2 m3 q1 q2 q3 bn en bz (by grind)
    exact inn5 r1 r2
end Go.Fp
