/- The geodesic between two places: what it is; when two steps are as good as one. -/
import Derived.Test.YtegbkidjehjhmaaDoorM3
namespace Go.Fp
open Ieee
/-- the word nearest to a number is a sign above a rung that does not hang on it -/
theorem nearest_word (N : Nat) (base : Int) : ∃ R, R ≤ D.infRung ∧ (∀ u, D.nearest u N base = D.word u R) ∧ (N = 0 → R = 0) := by
  by_cases h : N = 0
  · exact ⟨0, Nat.zero_le _, fun u => by unfold Format.nearest; rw [if_pos h], fun _ => rfl⟩
  · generalize hl : max (base + (N.log2 : Int) - (D.fractionBits : Int)) D.leastPlace = last
    refine ⟨min ((last - D.leastPlace).toNat * D.binade + Toward.even.cut false (N <<< (base - last).toNat) (last - base).toNat) D.infRung, Nat.min_le_right _ _, fun u => ?_, fun h2 => absurd h2 h⟩
    unfold Format.nearest
    rw [if_neg h]
    simp only [hl]
    rw [cut_even, cut_even]
/-- a difference and its counterpart -/
theorem sub_back (x y : Nat) : (isNan (fsub x y) = true ∧ isNan (fsub y x) = true) ∨ ∃ u u' R, R ≤ D.infRung ∧ fsub x y = D.word u R ∧ fsub y x = D.word u' R ∧ (R = 0 ∨ u' = !u) := by
  have hQ : isNan QN = true := isNan_QN
  have e1 : fsub x y = (((D.read x).sum (D.read y).opposite).map D.write).getD QN := by unfold fsub opt; rfl
  have e2 : fsub y x = (((D.read y).sum (D.read x).opposite).map D.write).getD QN := by unfold fsub opt; rfl
  rw [e1, e2]
  cases hx : D.read x with
  | nan s t => left; cases D.read y <;> exact ⟨hQ, hQ⟩
  | infinity s =>
    cases hy : D.read y with
    | nan => left; exact ⟨hQ, hQ⟩
    | infinity t =>
      cases s <;> cases t
      · left; exact ⟨hQ, hQ⟩
      · right; exact ⟨false, true, D.infRung, Nat.le_refl _, rfl, rfl, .inr rfl⟩
      · right; exact ⟨true, false, D.infRung, Nat.le_refl _, rfl, rfl, .inr rfl⟩
      · left; exact ⟨hQ, hQ⟩
    | number t n j => right; exact ⟨s, !s, D.infRung, Nat.le_refl _, rfl, rfl, .inr rfl⟩
  | number s m i =>
    cases hy : D.read y with
    | nan => left; exact ⟨hQ, hQ⟩
    | infinity t => right; exact ⟨!t, t, D.infRung, Nat.le_refl _, rfl, rfl, .inr (by simp)⟩
    | number t n j =>
      right
      have h1 : ((Datum.number s m i).sum (Datum.number t n j).opposite) = some (.number (if signed s m (i - min i j).toNat + signed (!t) n (j - min i j).toNat = 0 then s && !t else decide (signed s m (i - min i j).toNat + signed (!t) n (j - min i j).toNat < 0)) (signed s m (i - min i j).toNat + signed (!t) n (j - min i j).toNat).natAbs (min i j)) := rfl
      have h2 : ((Datum.number t n j).sum (Datum.number s m i).opposite) = some (.number (if signed t n (j - min j i).toNat + signed (!s) m (i - min j i).toNat = 0 then t && !s else decide (signed t n (j - min j i).toNat + signed (!s) m (i - min j i).toNat < 0)) (signed t n (j - min j i).toNat + signed (!s) m (i - min j i).toNat).natAbs (min j i)) := rfl
      rw [h1, h2, Int.min_comm j i]
      have hneg : signed t n (j - min i j).toNat + signed (!s) m (i - min i j).toNat = -(signed s m (i - min i j).toNat + signed (!t) n (j - min i j).toNat) := by
        rw [signed_not, signed_not]; omega
      rw [hneg, Int.natAbs_neg]
      generalize signed s m (i - min i j).toNat + signed (!t) n (j - min i j).toNat = T
      obtain ⟨R, hR, hw, h0⟩ := nearest_word T.natAbs (min i j)
      refine ⟨_, _, R, hR, hw _, hw _, ?_⟩
      by_cases hT : T = 0
      · left; exact h0 (by omega)
      · right
        rw [if_neg hT, if_neg (by omega)]
        by_cases hl : T < 0
        · rw [decide_eq_true hl, decide_eq_false (by omega)]; rfl
        · rw [decide_eq_false hl, decide_eq_true (by omega)]; rfl

abbrev c11 : Nat := 4442235333156365461
abbrev m11 : Nat := 13665607370011141269
theorem c11_read : ∃ n j, D.read c11 = .number false n j ∧ D.read m11 = .number true n j ∧ -1074 ≤ j := ⟨_, _, rfl, rfl, by decide +kernel⟩
theorem order_back {u : Bool} {R : Nat} (hR : R ≤ D.infRung) (o : Ordering) : D.order (D.word (!u) R) c11 = some o ↔ D.order (D.word u R) m11 = some o.swap := by
  obtain ⟨n, j, h1, h2, hj⟩ := c11_read
  by_cases hinf : R < 2047 * 2 ^ 52
  · have hr := fun s => read_word2 s hinf
    obtain ⟨m, p, hp, hr⟩ : ∃ m p, (-1074 : Int) ≤ p ∧ ∀ s, D.read (D.word s R) = .number s m p := by
      by_cases h : R < 2 ^ 52
      · exact ⟨R, -1074, by decide, fun s => by rw [hr s, if_pos h]⟩
      · exact ⟨2 ^ 52 + R % 2 ^ 52, -1074 + (R / 2 ^ 52 - 1 : Nat), by omega, fun s => by rw [hr s, if_neg h]⟩
    rw [order_sv (hr _) h1 hp hj, order_sv (hr _) h2 hp hj, signed_not]
    have e : signed true n (j + 1074).toNat = - signed false n (j + 1074).toNat := signed_not false n _
    rw [e]
    generalize signed u m (p + 1074).toNat = X
    generalize signed false n (j + 1074).toNat = C
    rw [Option.some.injEq, Option.some.injEq]
    cases o
    · rw [compare_lt]; show _ ↔ compare X (-C) = .gt; rw [compare_gt]; omega
    · rw [compare_eq]; show _ ↔ compare X (-C) = .eq; rw [compare_eq]; omega
    · rw [compare_gt]; show _ ↔ compare X (-C) = .lt; rw [compare_lt]; omega
  · have : R = D.infRung := by have := D_inf; omega
    subst this
    have hi : ∀ s, D.read (D.word s D.infRung) = .infinity s := fun s => by cases s <;> decide +kernel
    unfold Format.order
    rw [hi, hi, h1, h2]
    cases u <;> cases o <;> simp [Datum.order, Ordering.swap]
theorem order_word0 (u u' : Bool) (y : Nat) : D.order (D.word u 0) y = D.order (D.word u' 0) y := by
  have h : ∀ s, D.read (D.word s 0) = .number s 0 (-1074) := fun s => by rw [read_word2 s (by decide), if_pos (by decide)]
  unfold Format.order
  rw [h, h]
  cases D.read y with
  | nan => rfl
  | infinity => rfl
  | number t n j =>
    have hz : ∀ s k, signed s 0 k = 0 := fun s k => by rw [signed_eq]; simp
    show some (compare (signed u 0 _) _) = some (compare (signed u' 0 _) _)
    rw [hz, hz]
/-- below from one side is above from the other -/
theorem close_back (x y : Nat) (o : Ordering) : D.order (fsub y x) c11 = some o ↔ D.order (fsub x y) m11 = some o.swap := by
  rcases sub_back x y with ⟨h1, h2⟩ | ⟨u, u', R, hR, e1, e2, h⟩
  · rw [order_l _ _ h1, order_l _ _ h2]; simp
  · rw [e1, e2]
    rcases h with rfl | rfl
    · rw [order_word0 u' (!u)]; exact order_back hR o
    · exact order_back hR o
end Go.Fp
