/- Digits of numbers: so many of them; a numeral behind zeros. -/
import Derived.Lib.ItoaNum
import Derived.Lib.Repeat
namespace Go.Fp
open Go.Lib
/-- so many digits of a number -/
def digs : Nat → Nat → List UInt8
  | 0, _ => []
  | w + 1, n => digs w (n / 10) ++ [UInt8.ofNat (48 + n % 10)]
theorem digs_length : ∀ w n, (digs w n).length = w
  | 0, _ => rfl
  | w + 1, n => by simp [digs, digs_length w]
theorem digs_take : ∀ k w n, (digs (w + k) n).take w = digs w (n / 10 ^ k)
  | 0, w, n => by simp [List.take_of_length_le (Nat.le_of_eq (digs_length w n))]
  | k + 1, w, n => by
    rw [← Nat.add_assoc, digs, List.take_append_of_le_length (by rw [digs_length]; omega), digs_take k w, Nat.pow_succ, Nat.mul_comm, Nat.div_div_eq_div_mul]
theorem repeat_snoc (x : UInt8) : ∀ c, repeatL [x] c ++ [x] = repeatL [x] (c + 1)
  | 0 => rfl
  | c + 1 => by show [x] ++ repeatL [x] c ++ [x] = _; rw [List.append_assoc, repeat_snoc x c]; rfl
theorem pad_eq : ∀ w n, 1 ≤ w → n < 10 ^ w → repeatL [48] (w - (decDigits n).length) ++ decDigits n = digs w n
  | 0, _, h, _ => absurd h (by decide)
  | 1, n, _, h => by
    rw [decDigits_one (by omega)]
    show [UInt8.ofNat (48 + n)] = [UInt8.ofNat (48 + n % 10)]
    rw [Nat.mod_eq_of_lt (by omega)]
  | w + 2, n, _, h => by
    by_cases h10 : n < 10
    · have h0 := pad_eq (w + 1) 0 (by omega) (Nat.pow_pos (by decide))
      rw [decDigits_one h10, digs, show n / 10 = 0 by omega, ← h0, decDigits_one (by decide)]
      show repeatL [48] (w + 1) ++ [UInt8.ofNat (48 + n)] = (repeatL [48] w ++ [48]) ++ _
      rw [repeat_snoc, Nat.mod_eq_of_lt h10]
    · have h1 := pad_eq (w + 1) (n / 10) (by omega) (by rw [Nat.pow_succ] at h; omega)
      rw [decDigits, dif_neg h10, digs, ← h1, List.length_append, List.length_singleton, ← List.append_assoc, show w + 2 - ((decDigits (n / 10)).length + 1) = w + 1 - (decDigits (n / 10)).length by omega]
theorem dec_le : ∀ w n, 1 ≤ w → n < 10 ^ w → (decDigits n).length ≤ w
  | 0, _, h, _ => absurd h (by decide)
  | 1, n, _, h => by rw [decDigits_one (by omega)]; simp
  | w + 2, n, _, h => by
    by_cases h10 : n < 10
    · rw [decDigits_one h10]; simp
    · have h1 := dec_le (w + 1) (n / 10) (by omega) (by rw [Nat.pow_succ] at h; omega)
      rw [decDigits, dif_neg h10, List.length_append, List.length_singleton]
      omega
theorem bytes_add (a b : List UInt8) : (⟨a.toArray⟩ ++ ⟨b.toArray⟩ : ByteArray) = ⟨(a ++ b).toArray⟩ := by
  apply ByteArray.ext
  simp
end Go.Fp
