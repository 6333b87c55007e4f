/- Walk: the logarithm of the reference. -/
import Derived.Test.YtmmifmlkhmdgaaaDoorZF
import Derived.Test.YtmmifmlkhmdgaaaDoorZC
namespace Go.Proofs.YtmmifmlkhmdgaaaDoor
open Go.RowKit Go.Fp Go.Rel Ieee
set_option maxRecDepth 20000

theorem sum_opp (s : Bool) (m : Nat) (i : Int) : (Datum.number s m i).sum (Datum.number s m i).opposite = some (.number false 0 i) := by
  cases s <;> simp [Datum.sum, Datum.opposite, signed] <;> omega
theorem finP_num {x m : Nat} {i : Int} {s : Bool} (h : D.read x = .number s m i) : finP x = true := by
  have e : D.sub x x = some 0 := by
    unfold Format.sub
    rw [h, sum_opp]
    show some (D.nearest false 0 i) = some 0
    unfold Format.nearest
    simp [Format.word]
  have e2 : fsub x x = 0 := by unfold fsub; rw [e]; rfl
  unfold finP
  rw [e2]
  decide +kernel
theorem finP_inf {x : Nat} {s : Bool} (h : D.read x = .infinity s) : finP x = false := by
  have e : D.sub x x = none := by
    unfold Format.sub
    rw [h]
    cases s <;> rfl
  have e2 : fsub x x = QN := by unfold fsub; rw [e]; rfl
  unfold finP
  rw [e2]
  decide +kernel

def cN (k : Nat) : Nat := floatOfInt .f64 (21 - 2 * (k : Int))
theorem cN_pos : ∀ k, k < 11 → D.order (cN k) 0 = some .gt := by decide +kernel
theorem cN_end : D.order (cN 11) 0 = some .lt := by decide +kernel
theorem cN_next : ∀ k, k < 11 → fsub (can (cN k)) (can two) = cN (k + 1) ∧ isNan (cN (k + 1)) = false := by decide +kernel
def cM : Value → Nat
  | .float _ x => if x = cN 0 then 12 else if x = cN 1 then 11 else if x = cN 2 then 10 else if x = cN 3 then 9 else if x = cN 4 then 8 else if x = cN 5 then 7 else if x = cN 6 then 6 else if x = cN 7 then 5 else if x = cN 8 then 4 else if x = cN 9 then 3 else if x = cN 10 then 2 else 1
  | _ => 0
theorem cM_less : ∀ k, k < 11 → cM (.float .f64 (cN (k + 1))) < cM (.float .f64 (cN k)) := by decide +kernel
theorem lnS_next (z k : Nat) : lnS z (k + 1) = fadd (fdiv (can one1) (can (cN k))) (fmul z (lnS z k)) := rfl
theorem can_num' {x c : Nat} (h : can x = c) (hc : isNan c = false) : x = c := by
  cases hn : isNan x with
  | false => rw [can_of_not hn] at h; exact h
  | true => rw [can_of_nan hn] at h; rw [← h, isNan_QN] at hc; cases hc

/-- at or above root two; below root one half -/
def hiB (m : Nat) (j : Int) : Prop := CR * 2 ^ 1022 ≤ m * 2 ^ (j + 1074).toNat
def loB (m : Nat) (j : Int) : Prop := m * 2 ^ (j + 1074).toNat < CR * 2 ^ 1021
theorem hi_lo {m : Nat} {j : Int} (h : hiB m j) (hlt : m < 2 ^ 53) : -53 ≤ j := lo_of_ge h hlt
theorem lo_hi {m : Nat} {j : Int} (h : loB m j) (h0 : m ≠ 0) : j < 0 := hi_of_lt h h0
theorem up_no {m : Nat} {j : Int} (h : hiB m j) (hj : -1073 ≤ j) : ¬ loB m (j - 1) := Nat.not_lt.2 (up_step h hj)
theorem down_no {m : Nat} {j : Int} (h : loB m j) (hj : -1074 ≤ j) : ¬ hiB m (j + 1) := Nat.not_le.2 (down_step h hj)
theorem mid_of {m : Nat} {j : Int} (h0 : m ≠ 0) (hlt : m < 2 ^ 53) (hj : -1074 ≤ j) (h1 : ¬ hiB m j) (h2 : ¬ loB m j) : j = midJ m := at_mid h0 hlt hj (Nat.not_le.1 h1) (Nat.not_lt.1 h2)
theorem up_ask {x m : Nat} {j : Int} (h : D.read x = D.read (W m j)) (hm : m ≠ 0) (hm2 : m < 2 ^ 53) (h1 : -1074 ≤ j) (h2 : j ≤ 971) :
    (hiB m j ∧ (FloatKind.f64.format.order x 4609047870845172685 = some .gt ∨ FloatKind.f64.format.order x 4609047870845172685 = some .eq)) ∨
    (¬ hiB m j ∧ (FloatKind.f64.format.order x 4609047870845172685 == some .gt) = false ∧ (FloatKind.f64.format.order x 4609047870845172685 == some .eq) = false) := by
  have g := ge_root2 h hm hm2 h1 h2
  by_cases hc : hiB m j
  · refine .inl ⟨hc, ?_⟩
    have := g.2 hc
    rw [Bool.or_eq_true, beq_iff_eq, beq_iff_eq] at this
    exact this
  · refine .inr ⟨hc, ?_⟩
    have := mt g.1 hc
    rw [Bool.not_eq_true, Bool.or_eq_false_iff] at this
    exact this
theorem down_ask {x m : Nat} {j : Int} (h : D.read x = D.read (W m j)) (hm : m ≠ 0) (hm2 : m < 2 ^ 53) (h1 : -1074 ≤ j) (h2 : j ≤ 971) :
    (loB m j ∧ FloatKind.f64.format.order x 4604544271217802189 = some .lt) ∨ (¬ loB m j ∧ (FloatKind.f64.format.order x 4604544271217802189 == some .lt) = false) := by
  have g := lt_root h hm hm2 h1 h2
  by_cases hc : loB m j
  · exact .inl ⟨hc, by have := g.2 hc; rwa [beq_iff_eq] at this⟩
  · exact .inr ⟨hc, by have := mt g.1 hc; rwa [Bool.not_eq_true] at this⟩
theorem half_to {r y m : Nat} {j : Int} (h : D.read r = D.read (W m j)) (h0 : m ≠ 0) (hlt : m < 2 ^ 53) (hh : hiB m j) (hj : j ≤ 971) (hy : can y = fdiv (can r) (can two)) : D.read y = D.read (W m (j - 1)) ∧ -1074 ≤ j - 1 := by
  have h1 := hi_lo hh hlt
  have hn : isNan r = false := by
    obtain ⟨m', p, hr, _⟩ := W_read h0 hlt (show -1074 ≤ j by omega) hj
    rw [nan_rd h]; unfold isNan; rw [hr]; rfl
  have hn2 : isNan (W m (j - 1)) = false := by
    obtain ⟨m', p, hr, _⟩ := W_read h0 hlt (show -1074 ≤ j - 1 by omega) (show j - 1 ≤ 971 by omega)
    unfold isNan; rw [hr]; rfl
  have e : y = W m (j - 1) := by
    refine can_num' ?_ hn2
    rw [hy, can_of_not hn, can_of_not (show isNan two = false by decide +kernel), step_half h h0 hlt (by omega) (by omega)]
  exact ⟨by rw [e], by omega⟩
theorem double_to {r y m : Nat} {j : Int} (h : D.read r = D.read (W m j)) (h0 : m ≠ 0) (hlt : m < 2 ^ 53) (hh : loB m j) (hj : -1074 ≤ j) (hy : can y = fmul (can r) (can two)) : D.read y = D.read (W m (j + 1)) ∧ j + 1 ≤ 971 := by
  have h1 := lo_hi hh h0
  have hn : isNan r = false := by
    obtain ⟨m', p, hr, _⟩ := W_read h0 hlt hj (show j ≤ 971 by omega)
    rw [nan_rd h]; unfold isNan; rw [hr]; rfl
  have hn2 : isNan (W m (j + 1)) = false := by
    obtain ⟨m', p, hr, _⟩ := W_read h0 hlt (show -1074 ≤ j + 1 by omega) (show j + 1 ≤ 971 by omega)
    unfold isNan; rw [hr]; rfl
  have e : y = W m (j + 1) := by
    refine can_num' ?_ hn2
    rw [hy, can_of_not hn, can_of_not (show isNan two = false by decide +kernel), step_double h h0 hlt (by omega) (by omega)]
  exact ⟨by rw [e], by omega⟩

end Go.Proofs.YtmmifmlkhmdgaaaDoor
