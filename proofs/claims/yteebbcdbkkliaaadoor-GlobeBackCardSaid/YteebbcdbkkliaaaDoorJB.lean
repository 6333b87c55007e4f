/- Float operations as what they stand for, and how far each is off. -/
import Derived.Test.YteebbcdbkkliaaaDoorJA
namespace Go.Fp
open Ieee

/-- a word that stands for a number, and for which -/
def Fin (x : Nat) : Prop := ∃ s m j, D.read x = .number s m j
def vl (x : Nat) : Rat := match D.read x with
  | .number s m j => vd s m j
  | _ => 0
theorem vl_of {x : Nat} {s : Bool} {m : Nat} {j : Int} (h : D.read x = .number s m j) : vl x = vd s m j := by unfold vl; rw [h]
theorem Fin.can {x : Nat} (h : Fin x) : can x = x := by
  obtain ⟨s, m, j, h⟩ := h
  exact can_of_not (by unfold isNan; rw [h]; rfl)
theorem vd_bound {M : Nat} {base : Int} (h : vd false M base ≤ pw 1022) : M = 0 ∨ base + (M.log2 : Int) ≤ 1022 := by
  by_cases hM : M = 0
  · exact .inl hM
  · right
    rcases Int.lt_or_le 1022 (base + (M.log2 : Int)) with hgt | hle
    · exfalso
      have h1 : pw 1023 ≤ pw (base + (M.log2 : Int)) := pw_mono (by omega)
      have h2 : ((2 ^ M.log2 : Nat) : Rat) ≤ (M : Rat) := by exact_mod_cast Nat.log2_self_le hM
      rw [← pw_nat] at h2
      have h3 := Rat.mul_le_mul_of_nonneg_left h2 (Rat.le_of_lt (pw_pos base))
      rw [← pw_add] at h3
      rw [vd_false] at h
      have h4 : pw 1023 = pw 1022 * 2 := by rw [show (1023 : Int) = 1022 + 1 by decide, pw_add, pw_one]
      have h5 := pw_pos 1022
      generalize pw 1022 = z at *
      grind
    · exact hle
theorem vd_nonneg (M : Nat) (j : Int) : 0 ≤ vd false M j := by
  rw [vd_false]
  exact Rat.mul_nonneg (by exact_mod_cast Nat.zero_le M) (Rat.le_of_lt (pw_pos _))
/-- a rounded number -/
theorem rnd (s : Bool) (M : Nat) (base : Int) (B : Rat) (h1 : vd false M base ≤ B) (h2 : B ≤ pw 1022) : Fin (D.nearest s M base) ∧ Wn (vl (D.nearest s M base) - vd s M base) (uu * B + eta) := by
  obtain ⟨m, p, hr, hp, hw⟩ := near_err s M base (vd_bound (Rat.le_trans h1 h2))
  refine ⟨⟨_, _, _, hr⟩, ?_⟩
  rw [vl_of hr, vd_sign s m, vd_sign s M]
  have hu : uu * vd false M base ≤ uu * B := Rat.mul_le_mul_of_nonneg_left h1 (Rat.le_of_lt (pw_pos _))
  obtain ⟨a, b⟩ := hw
  cases s
  · simp only [Bool.false_eq_true, if_false]
    constructor <;> grind
  · simp only [if_true]
    constructor <;> grind

theorem signed_vd (s : Bool) (m : Nat) (i base : Int) (h : base ≤ i) : ((signed s m (i - base).toNat : Int) : Rat) * pw base = vd s m i := by
  rw [signed_eq]
  unfold vd
  have e : pw i = pw ((i - base).toNat : Int) * pw base := by rw [← pw_add]; congr 1; omega
  rw [e, pw_nat]
  push_cast
  grind
theorem vd_total (t : Int) (z : Bool) (base : Int) : vd (if t = 0 then z else t < 0) t.natAbs base = (t : Rat) * pw base := by
  unfold vd sg
  by_cases h0 : t = 0
  · subst h0
    simp
  · by_cases h1 : t < 0
    · simp only [if_neg h0, h1, decide_true, if_true]
      have : (t.natAbs : Int) = -t := by omega
      have h2 : ((t.natAbs : Nat) : Rat) = -(t : Rat) := by exact_mod_cast congrArg (fun z : Int => (z : Rat)) this
      rw [h2]
      push_cast
      grind
    · simp only [if_neg h0, h1, decide_false, Bool.false_eq_true, if_false]
      have : (t.natAbs : Int) = t := by omega
      have h2 : ((t.natAbs : Nat) : Rat) = (t : Rat) := by exact_mod_cast congrArg (fun z : Int => (z : Rat)) this
      rw [h2]
      push_cast
      grind
theorem abs_vd (s : Bool) (M : Nat) (base : Int) (B : Rat) (h : Wn (vd s M base) B) : vd false M base ≤ B := by
  rw [vd_sign] at h
  obtain ⟨a, b⟩ := h
  cases s
  · simp only [Bool.false_eq_true, if_false] at *; exact b
  · simp only [if_true] at *; grind
/-- a sum of data -/
theorem sum_err {d1 d2 : Datum} {s t : Bool} {m n : Nat} {i j : Int} (h1 : d1 = .number s m i) (h2 : d2 = .number t n j) (B : Rat) (hB : Wn (vd s m i + vd t n j) B) (hB2 : B ≤ pw 1022) :
    ∃ r, (d1.sum d2).map D.write = some r ∧ Fin r ∧ Wn (vl r - (vd s m i + vd t n j)) (uu * B + eta) := by
  subst h1 h2
  refine ⟨_, rfl, ?_⟩
  have e1 := signed_vd s m i (min i j) (by omega)
  have e2 := signed_vd t n j (min i j) (by omega)
  have ht := vd_total (signed s m (i - min i j).toNat + signed t n (j - min i j).toNat) (s && t) (min i j)
  have hs : vd s m i + vd t n j = ((signed s m (i - min i j).toNat + signed t n (j - min i j).toNat : Int) : Rat) * pw (min i j) := by
    rw [← e1, ← e2]
    push_cast
    grind
  rw [hs, ← ht] at hB
  rw [hs, ← ht]
  exact rnd _ _ _ B (abs_vd _ _ _ B hB) hB2
theorem fadd_err {x y : Nat} (hx : Fin x) (hy : Fin y) (B : Rat) (hB : Wn (vl x + vl y) B) (hB2 : B ≤ pw 1022) : Fin (fadd x y) ∧ Wn (vl (fadd x y) - (vl x + vl y)) (uu * B + eta) := by
  obtain ⟨s, m, i, hx⟩ := hx
  obtain ⟨t, n, j, hy⟩ := hy
  rw [vl_of hx, vl_of hy] at *
  obtain ⟨r, hr, h1, h2⟩ := sum_err hx hy B hB hB2
  have e : fadd x y = r := by
    unfold fadd Format.add
    rw [hr]; rfl
  rw [e]
  exact ⟨h1, h2⟩
theorem vd_not (s : Bool) (m : Nat) (j : Int) : vd (!s) m j = - vd s m j := by
  rw [vd_sign, vd_sign s]
  cases s <;> simp
theorem fsub_err {x y : Nat} (hx : Fin x) (hy : Fin y) (B : Rat) (hB : Wn (vl x - vl y) B) (hB2 : B ≤ pw 1022) : Fin (fsub x y) ∧ Wn (vl (fsub x y) - (vl x - vl y)) (uu * B + eta) := by
  obtain ⟨s, m, i, hx⟩ := hx
  obtain ⟨t, n, j, hy⟩ := hy
  rw [vl_of hx, vl_of hy] at *
  have ho : (D.read y).opposite = .number (!t) n j := by rw [hy]; rfl
  obtain ⟨r, hr, h1, h2⟩ := sum_err hx ho B (by rw [vd_not]; exact (show vd s m i - vd t n j = vd s m i + -vd t n j by grind) ▸ hB) hB2
  have e : fsub x y = r := by
    unfold fsub Format.sub
    rw [hr]; rfl
  rw [e]
  refine ⟨h1, ?_⟩
  rw [vd_not] at h2
  exact (show vl r - (vd s m i + -vd t n j) = vl r - (vd s m i - vd t n j) by grind) ▸ h2
theorem vd_mul (s t : Bool) (m n : Nat) (i j : Int) : vd (s ^^ t) (m * n) (i + j) = vd s m i * vd t n j := by
  have h : vd false (m * n) (i + j) = vd false m i * vd false n j := by
    rw [vd_false, vd_false, vd_false, pw_add]
    push_cast
    grind
  rw [vd_sign, h, vd_sign s, vd_sign t]
  cases s <;> cases t <;> simp <;> grind
theorem fmul_err {x y : Nat} (hx : Fin x) (hy : Fin y) (B : Rat) (hB : Wn (vl x * vl y) B) (hB2 : B ≤ pw 1022) : Fin (fmul x y) ∧ Wn (vl (fmul x y) - vl x * vl y) (uu * B + eta) := by
  obtain ⟨s, m, i, hx⟩ := hx
  obtain ⟨t, n, j, hy⟩ := hy
  rw [vl_of hx, vl_of hy] at *
  have e : fmul x y = D.nearest (s ^^ t) (m * n) (i + j) := by
    unfold fmul Format.mul
    rw [hx, hy]; rfl
  rw [e, ← vd_mul]
  rw [← vd_mul] at hB
  exact rnd _ _ _ B (abs_vd _ _ _ B hB) hB2
end Go.Fp
