/- Sine and cosine of an angle, as plain functions on words. -/
import Derived.Test.YtegbkidjehjhmaaDoorFs
namespace Go.Fp

def RAD : Nat := 4445950764994258515
def one : Nat := 4607182418800017408
def KK : List Nat := [13818544856648471893, 4575957461383581969, 13774824197408792602, 4523617214285662004, 13716528800881525988, 4460272573143870729, 13648976655441704991, 4389130328383466826]
def DD : List Nat := [13826050856027422720, 4586165620538955093, 13787419979223755799, 4537941361671905306, 13732177094651715420, 4477122120089393304, 13666517717442657437, 4407590220077447199]

/-- c0 + z * (c1 + z * (..)): from the last one back -/
def hor (z : Nat) : List Nat → Nat
  | [] => 0
  | [c] => c
  | c :: d :: r => fadd c (fmul z (hor z (d :: r)))

/-- which quarter, and what is left -/
def quart (a : Int) : Int := (a + 45000000000) / 90000000000
def xOf (a : Int) : Nat := fmul (floatOfInt .f64 (a - quart a * 90000000000)) RAD
def zOf (a : Int) : Nat := fmul (xOf a) (xOf a)
def sOf (a : Int) : Nat := fmul (xOf a) (fadd one (fmul (zOf a) (hor (zOf a) KK)))
def cOf (a : Int) : Nat := fadd one (fmul (zOf a) (hor (zOf a) DD))

theorem tp_const {k : Int} (x : Nat) (s : Bool) (m : Nat) (p : Int) (hr : D.read x = .number s m p) (h : p + (m.log2 : Int) + 1 ≤ k) : Tp k x := ⟨s, m, p, hr, .inr h⟩

/-- closed: of a word, that it is in size below 2 ^ k -/
def tpB (k : Int) (x : Nat) : Bool := match D.read x with | .number _ m p => m == 0 || decide (p + (m.log2 : Int) + 1 ≤ k) | _ => false
theorem tp_of {k : Int} {x : Nat} (h : tpB k x = true) : Tp k x := by
  unfold tpB at h
  split at h
  · rename_i s m p hr
    simp only [Bool.or_eq_true, beq_iff_eq, decide_eq_true_eq] at h
    exact ⟨s, m, p, hr, h⟩
  · cases h

theorem tp_RAD : Tp (-35) RAD := tp_of (by decide +kernel)
theorem tp_one : Tp 1 one := tp_of (by decide +kernel)
theorem tp_KK : ∀ x ∈ KK, Tp 1 x := by
  have : KK.all (tpB 1) = true := by decide +kernel
  intro x hx; exact tp_of (List.all_eq_true.1 this x hx)
theorem tp_DD : ∀ x ∈ DD, Tp 1 x := by
  have : DD.all (tpB 1) = true := by decide +kernel
  intro x hx; exact tp_of (List.all_eq_true.1 this x hx)

theorem tp_x {a : Int} (_h0 : 0 ≤ a) (_h1 : a < 360000000000) : D.mul (floatOfInt .f64 (a - quart a * 90000000000)) RAD = some (xOf a) ∧ Tp 3 (xOf a) := by
  have h : (a - quart a * 90000000000).natAbs < 2 ^ 36 := by unfold quart; omega
  have := tp_mul (tp_ofInt _ 36 h (by omega)) tp_RAD (by omega) (by omega)
  exact ⟨this.1, this.2.mono (by omega)⟩
theorem tp_z {a : Int} (h0 : 0 ≤ a) (h1 : a < 360000000000) : D.mul (xOf a) (xOf a) = some (zOf a) ∧ Tp 7 (zOf a) := by
  have h := (tp_x h0 h1).2
  exact tp_mul h h (by omega) (by omega)

theorem tp_hor {z : Nat} (hz : Tp 7 z) : ∀ l : List Nat, l ≠ [] → l.length ≤ 20 → (∀ x ∈ l, Tp 1 x) → Tp (10 * l.length) (hor z l)
  | [], h, _, _ => absurd rfl h
  | [c], _, _, hl => (hl c (by simp)).mono (by simp)
  | c :: d :: r, _, hn, hl => by
    have ih := tp_hor hz (d :: r) (by simp) (by simp at hn ⊢; omega) (fun x hx => hl x (List.mem_cons_of_mem _ hx))
    have hc : Tp 1 c := hl c (by simp)
    simp only [List.length_cons] at hn ih ⊢
    have hm := (tp_mul hz ih (by omega) (by omega)).2
    have ha := (tp_add (a := 8 + 10 * ((r.length + 1 : Nat) : Int)) (hc.mono (by omega)) (hm.mono (by omega)) (by omega) (by omega)).2
    exact ha.mono (by omega)

/-- one step of the walk down: both operations are valid -/
theorem hor_step {z : Nat} (hz : Tp 7 z) (c d : Nat) (r : List Nat) (hn : r.length ≤ 10) (hl : ∀ x ∈ c :: d :: r, Tp 1 x) :
    D.mul z (hor z (d :: r)) = some (fmul z (hor z (d :: r))) ∧ D.add c (fmul z (hor z (d :: r))) = some (hor z (c :: d :: r)) := by
  have ih := tp_hor hz (d :: r) (by simp) (by simp; omega) (fun x hx => hl x (List.mem_cons_of_mem _ hx))
  have hc : Tp 1 c := hl c (by simp)
  simp only [List.length_cons] at ih
  have hm := tp_mul hz ih (by omega) (by omega)
  have ha := tp_add (a := 8 + 10 * ((r.length + 1 : Nat) : Int)) (hc.mono (by omega)) (hm.2.mono (by omega)) (by omega) (by omega)
  exact ⟨hm.1, ha.1⟩

theorem tp_s {a : Int} (h0 : 0 ≤ a) (h1 : a < 360000000000) : (D.mul (zOf a) (hor (zOf a) KK) = some (fmul (zOf a) (hor (zOf a) KK)) ∧ D.add one (fmul (zOf a) (hor (zOf a) KK)) = some (fadd one (fmul (zOf a) (hor (zOf a) KK))) ∧
    D.mul (xOf a) (fadd one (fmul (zOf a) (hor (zOf a) KK))) = some (sOf a)) ∧ Tp 100 (sOf a) := by
  have hz := (tp_z h0 h1).2
  have hh : Tp 80 (hor (zOf a) KK) := (tp_hor hz KK (by decide) (by decide) tp_KK).mono (by decide)
  have hm := tp_mul hz hh (by omega) (by omega)
  have ha := tp_add (a := 88) (tp_one.mono (by omega)) (hm.2.mono (by omega)) (by omega) (by omega)
  have hx := tp_mul (tp_x h0 h1).2 ha.2 (by omega) (by omega)
  exact ⟨⟨hm.1, ha.1, hx.1⟩, hx.2.mono (by omega)⟩
theorem tp_c {a : Int} (h0 : 0 ≤ a) (h1 : a < 360000000000) : (D.mul (zOf a) (hor (zOf a) DD) = some (fmul (zOf a) (hor (zOf a) DD)) ∧ D.add one (fmul (zOf a) (hor (zOf a) DD)) = some (cOf a)) ∧ Tp 100 (cOf a) := by
  have hz := (tp_z h0 h1).2
  have hh : Tp 80 (hor (zOf a) DD) := (tp_hor hz DD (by decide) (by decide) tp_DD).mono (by decide)
  have hm := tp_mul hz hh (by omega) (by omega)
  have ha := tp_add (a := 88) (tp_one.mono (by omega)) (hm.2.mono (by omega)) (by omega) (by omega)
  exact ⟨⟨hm.1, ha.1⟩, ha.2.mono (by omega)⟩

theorem kk_step {z : Nat} (hz : Tp 7 z) (k : Nat) (hk : k < 7) : ∃ m, D.mul z (hor z (KK.drop (k + 1))) = some m ∧ D.add (KK.getD k 0) m = some (hor z (KK.drop k)) := by
  have h : ∀ c d r, KK.drop k = c :: d :: r → KK.drop (k + 1) = d :: r → KK.getD k 0 = c → r.length ≤ 10 → ∃ m, D.mul z (hor z (KK.drop (k + 1))) = some m ∧ D.add (KK.getD k 0) m = some (hor z (KK.drop k)) := by
    intro c d r e1 e2 e3 hr
    have := hor_step hz c d r hr (fun x hx => tp_KK x (List.drop_subset k KK (by rw [e1]; exact hx)))
    rw [e1, e2, e3]
    exact ⟨_, this⟩
  match k, hk with
  | 0, _ => exact h _ _ _ rfl rfl rfl (by decide)
  | 1, _ => exact h _ _ _ rfl rfl rfl (by decide)
  | 2, _ => exact h _ _ _ rfl rfl rfl (by decide)
  | 3, _ => exact h _ _ _ rfl rfl rfl (by decide)
  | 4, _ => exact h _ _ _ rfl rfl rfl (by decide)
  | 5, _ => exact h _ _ _ rfl rfl rfl (by decide)
  | 6, _ => exact h _ _ _ rfl rfl rfl (by decide)
theorem dd_step {z : Nat} (hz : Tp 7 z) (k : Nat) (hk : k < 7) : ∃ m, D.mul z (hor z (DD.drop (k + 1))) = some m ∧ D.add (DD.getD k 0) m = some (hor z (DD.drop k)) := by
  have h : ∀ c d r, DD.drop k = c :: d :: r → DD.drop (k + 1) = d :: r → DD.getD k 0 = c → r.length ≤ 10 → ∃ m, D.mul z (hor z (DD.drop (k + 1))) = some m ∧ D.add (DD.getD k 0) m = some (hor z (DD.drop k)) := by
    intro c d r e1 e2 e3 hr
    have := hor_step hz c d r hr (fun x hx => tp_DD x (List.drop_subset k DD (by rw [e1]; exact hx)))
    rw [e1, e2, e3]
    exact ⟨_, this⟩
  match k, hk with
  | 0, _ => exact h _ _ _ rfl rfl rfl (by decide)
  | 1, _ => exact h _ _ _ rfl rfl rfl (by decide)
  | 2, _ => exact h _ _ _ rfl rfl rfl (by decide)
  | 3, _ => exact h _ _ _ rfl rfl rfl (by decide)
  | 4, _ => exact h _ _ _ rfl rfl rfl (by decide)
  | 5, _ => exact h _ _ _ rfl rfl rfl (by decide)
  | 6, _ => exact h _ _ _ rfl rfl rfl (by decide)

theorem quart_lo {a : Int} (h0 : 0 ≤ a) : 0 ≤ quart a := by unfold quart; omega
theorem quart_hi {a : Int} (h1 : a < 360000000000) : quart a ≤ 4 := by unfold quart; omega

/-- sine and cosine of a normed angle -/
def sinN (a : Int) : Nat := if quart a % 4 = 0 then sOf a else if quart a % 4 = 1 then cOf a else if quart a % 4 = 2 then Op.negFloat .f64 (sOf a) else Op.negFloat .f64 (cOf a)
def cosN (a : Int) : Nat := if quart a % 4 = 0 then cOf a else if quart a % 4 = 1 then Op.negFloat .f64 (sOf a) else if quart a % 4 = 2 then Op.negFloat .f64 (cOf a) else sOf a
def normP (a : Int) : Int := a % 360000000000
theorem normP_lo (a : Int) : 0 ≤ normP a := by unfold normP; omega
theorem normP_hi (a : Int) : normP a < 360000000000 := by unfold normP; omega
def sinP (a : Int) : Nat := sinN (normP a)
def cosP (a : Int) : Nat := cosN (normP a)

theorem quart4 (a : Int) : quart a % 4 = 0 ∨ quart a % 4 = 1 ∨ quart a % 4 = 2 ∨ quart a % 4 = 3 := by omega
/-- comparisons of words -/
def flt (x y : Nat) : Bool := D.order x y == some .lt
def feq (x y : Nat) : Bool := D.order x y == some .eq
def fgt (x y : Nat) : Bool := D.order x y == some .gt
def fle (x y : Nat) : Bool := D.order x y == some .lt || D.order x y == some .eq
def fge (x y : Nat) : Bool := D.order x y == some .gt || D.order x y == some .eq
def finP (x : Nat) : Bool := feq (fsub x x) 0

/-- the greatest one from lo on, below hi, at which p holds, found by halves -/
def bis (p : Int → Bool) : Nat → Int → Int → Int
  | 0, lo, _ => lo
  | n + 1, lo, hi => if 1 < hi - lo then (if p ((lo + hi) / 2) then bis p n ((lo + hi) / 2) hi else bis p n lo ((lo + hi) / 2)) else lo
def bisect (p : Int → Bool) (lo hi : Int) : Int := bis p (hi - lo).toNat lo hi
theorem bis_more (p : Int → Bool) : ∀ (n m : Nat) (lo hi : Int), (hi - lo).toNat ≤ n → (hi - lo).toNat ≤ m → bis p n lo hi = bis p m lo hi
  | 0, 0, _, _, _, _ => rfl
  | 0, m + 1, lo, hi, h, _ => by unfold bis; rw [if_neg (by omega)]
  | n + 1, 0, lo, hi, _, h => by unfold bis; rw [if_neg (by omega)]
  | n + 1, m + 1, lo, hi, h, h' => by
    unfold bis
    split
    · split
      · exact bis_more p n m _ _ (by omega) (by omega)
      · exact bis_more p n m _ _ (by omega) (by omega)
    · rfl
theorem bisect_done (p : Int → Bool) {lo hi : Int} (h : hi - lo ≤ 1) : bisect p lo hi = lo := by
  unfold bisect
  rw [bis_more p _ ((hi - lo).toNat + 1) lo hi (Nat.le_refl _) (by omega)]
  unfold bis
  rw [if_neg (by omega)]
theorem bisect_yes {p : Int → Bool} {lo hi : Int} (h : 1 < hi - lo) (hp : p ((lo + hi) / 2) = true) : bisect p lo hi = bisect p ((lo + hi) / 2) hi := by
  unfold bisect
  rw [bis_more p _ ((hi - lo).toNat + 1) lo hi (Nat.le_refl _) (by omega)]
  rw [bis.eq_2, if_pos h, if_pos hp]
  exact bis_more p _ _ _ _ (by omega) (by omega)
theorem bisect_no {p : Int → Bool} {lo hi : Int} (h : 1 < hi - lo) (hp : p ((lo + hi) / 2) = false) : bisect p lo hi = bisect p lo ((lo + hi) / 2) := by
  unfold bisect
  rw [bis_more p _ ((hi - lo).toNat + 1) lo hi (Nat.le_refl _) (by omega)]
  rw [bis.eq_2, if_pos h, if_neg (by simp [hp])]
  exact bis_more p _ _ _ _ (by omega) (by omega)

def absW (x : Nat) : Nat := x % 2 ^ 63
/-- the angle of a point, in the first quarter -/
def quad (u w : Nat) : Int := bisect (fun m => fle (fmul (sinP m) u) (fmul (cosP m) w)) 0 90000000001
def angleP (y x : Nat) : Int × Bool :=
  if !finP x || !finP y || (feq x 0 && feq y 0) then (0, false)
  else
    let r := quad (absW x) (absW y)
    if fge x 0 && fge y 0 then (r, true)
    else if fge y 0 then (180000000000 - r, true)
    else if flt x 0 then (180000000000 + r, true)
    else (normP (360000000000 - r), true)

/-- factorials, multiplied up on words -/
def facW : Nat → Nat
  | 0 => one
  | n + 1 => if n = 0 then one else fmul (facW n) (floatOfInt .f64 (n + 1 : Nat))
theorem fac_step (i : Nat) (h1 : 2 ≤ i) (h2 : i ≤ 17) : D.mul (facW (i - 1)) (floatOfInt .f64 (i : Int)) = some (facW i) := by
  have h : ∀ i < 18, 2 ≤ i → D.mul (facW (i - 1)) (floatOfInt .f64 ((i : Nat) : Int)) = some (facW i) := by decide +kernel
  exact h i (by omega) h1
def facS (k odd : Nat) : Nat := if k % 2 = 1 then Op.negFloat .f64 (facW (2 * k + odd)) else facW (2 * k + odd)
theorem fac_KK (k : Nat) (h1 : 1 ≤ k) (h2 : k ≤ 8) : D.div one (facS k 1) = some (KK.getD (k - 1) 0) := by
  have h : ∀ k < 9, 1 ≤ k → D.div one (facS k 1) = some (KK.getD (k - 1) 0) := by decide +kernel
  exact h k (by omega) h1
theorem fac_DD (k : Nat) (h1 : 1 ≤ k) (h2 : k ≤ 8) : D.div one (facS k 0) = some (DD.getD (k - 1) 0) := by
  have h : ∀ k < 9, 1 ≤ k → D.div one (facS k 0) = some (DD.getD (k - 1) 0) := by decide +kernel
  exact h k (by omega) h1
theorem tp_zero : Tp 0 0 := tp_of (by decide +kernel)
theorem kk_val {z : Nat} (hz : Tp 7 z) (k : Nat) (hk : k ≤ 8) : D.mul z (hor z (KK.drop k)) = some (fmul z (hor z (KK.drop k))) := by
  by_cases h8 : k = 8
  · subst h8
    exact (tp_mul hz (tp_zero.mono (b := 0) (by omega)) (by omega) (by omega)).1
  · have := tp_hor hz (KK.drop k) (by intro h; have := congrArg List.length h; simp [KK] at this; omega) (by simp [KK]; omega) (fun x hx => tp_KK x (List.drop_subset k KK hx))
    have hb : Tp 80 (hor z (KK.drop k)) := this.mono (by simp [KK]; omega)
    exact (tp_mul hz hb (by omega) (by omega)).1
theorem dd_val {z : Nat} (hz : Tp 7 z) (k : Nat) (hk : k ≤ 8) : D.mul z (hor z (DD.drop k)) = some (fmul z (hor z (DD.drop k))) := by
  by_cases h8 : k = 8
  · subst h8
    exact (tp_mul hz (tp_zero.mono (b := 0) (by omega)) (by omega) (by omega)).1
  · have := tp_hor hz (DD.drop k) (by intro h; have := congrArg List.length h; simp [DD] at this; omega) (by simp [DD]; omega) (fun x hx => tp_DD x (List.drop_subset k DD hx))
    have hb : Tp 80 (hor z (DD.drop k)) := this.mono (by simp [DD]; omega)
    exact (tp_mul hz hb (by omega) (by omega)).1
/-- a value told up to which NaN it is, that is none -/
theorem can_exact {r E : Nat} (h : can r = E) (hE : isNan E = false) : r = E := by
  cases hn : isNan r
  · rw [← h, can_of_not hn]
  · rw [can_of_nan hn] at h
    rw [← h] at hE
    exact absurd hE (by decide +kernel)
theorem quad_def (u w : Nat) : quad u w = bisect (fun m => fle (fmul (sinP m) u) (fmul (cosP m) w)) 0 90000000001 := rfl
attribute [irreducible] sinP cosP quad angleP
end Go.Fp
