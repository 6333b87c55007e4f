/- Plain laws: a difference is a sum with the other sign; sums change places. -/
import Derived.Test.YtddjppaccpioiaaDoorZG
namespace Go.Fp
open Ieee Go.Proofs.YtddjppaccpioiaaDoor
theorem sum_comm (a b : Datum) : Datum.sum a b = Datum.sum b a := by
  cases a <;> cases b <;> simp only [Datum.sum]
  case infinity.infinity s t => cases s <;> cases t <;> rfl
  case number.number s m i t n j =>
    rw [Int.min_comm j i, Int.add_comm (signed t n _) (signed s m _), Bool.and_comm t s]
theorem add_comm' (x y : Nat) : fadd x y = fadd y x := by
  unfold fadd Format.add
  rw [sum_comm]
theorem read_neg (y : Nat) : D.read (Op.negFloat .f64 y) = (D.read y).opposite := by
  obtain ⟨h1, h2⟩ := neg_parts y
  have hb : ((Op.negFloat .f64 y) / 2 ^ 63 % 2 == 1) = !(y / 2 ^ 63 % 2 == 1) := by
    rw [h2]
    rcases Nat.mod_two_eq_zero_or_one (y / 2 ^ 63) with h | h <;> rw [h] <;> rfl
  unfold Format.read
  simp only [D_sign, D_inf, D_bin, D_least]
  rw [h1, hb]
  split
  · rfl
  · split
    · rfl
    · split <;> rfl
theorem sub_neg (x y : Nat) : fsub x y = fadd x (Op.negFloat .f64 y) := by
  unfold fsub fadd Format.sub Format.add
  rw [read_neg]
theorem fadd_canR (x y : Nat) : fadd x (can y) = fadd x y := by
  rw [← fadd_can x (can y), can_can, fadd_can]
theorem sub_negC (x y : Nat) : fsub x y = fadd x (negC y) := by
  rw [sub_neg, ← fadd_canR]; rfl
end Go.Fp
