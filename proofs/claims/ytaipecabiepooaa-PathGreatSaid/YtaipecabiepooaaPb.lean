/- Plain law: the angle between two places is that between the second and the first. -/
import Derived.Test.YtaipecabiepooaaT3
namespace Go.Fp
open Ieee

theorem word_div (s : Bool) {r : Nat} (h : r < 2 ^ 63) : (D.word s r / 2 ^ 63 % 2 == 1) = s := by
  unfold Format.word
  rw [D_sign]
  cases s
  · rw [if_neg (by simp), Nat.div_eq_of_lt h]; rfl
  · have : (2 ^ 63 + r) / 2 ^ 63 = 1 := by omega
    rw [if_pos rfl, this]; rfl

theorem read_word_is (s : Bool) {r : Nat} (h : r < 2 ^ 63) : D.read (D.word s r) =
    if r < 2 ^ 52 then .number s r (-1074) else if r < 2047 * 2 ^ 52 then .number s (2 ^ 52 + r % 2 ^ 52) (-1074 + (r / 2 ^ 52 - 1 : Nat)) else if r = 2047 * 2 ^ 52 then .infinity s else .nan s (r - 2047 * 2 ^ 52) := by
  have h1 := word_div s h
  have h2 := word_mod s h
  unfold Format.read
  simp only [D_sign, D_inf, D_bin, D_least]
  rw [h1, h2]

theorem sq_word (s t : Bool) {r : Nat} (h : r < 2 ^ 63) : fmul (D.word s r) (D.word s r) = fmul (D.word t r) (D.word t r) := by
  have key : ∀ s : Bool, D.mul (D.word s r) (D.word s r) = D.mul (D.word false r) (D.word false r) := by
    intro s
    unfold Format.mul
    rw [read_word_is s h, read_word_is false h]
    split
    · simp [Datum.product]
    · split
      · simp [Datum.product]
      · split
        · simp [Datum.product]
        · rfl
  unfold fmul
  rw [key s, key t]

theorem mul_comm' (x y : Nat) : fmul x y = fmul y x := by
  unfold fmul Format.mul
  cases D.read x <;> cases D.read y <;> simp [Datum.product, Bool.xor_comm, Nat.mul_comm, Int.add_comm]

theorem nearest_word (m : Nat) (p : Int) : ∃ r, r < 2 ^ 63 ∧ ∀ s, D.nearest s m p = D.word s r := by
  by_cases hm : m = 0
  · exact ⟨0, by decide, fun s => by unfold Format.nearest; rw [if_pos hm]⟩
  · refine ⟨min ((max (p + m.log2 - D.fractionBits) D.leastPlace - D.leastPlace).toNat * D.binade + Toward.even.cut false (m <<< (p - max (p + m.log2 - D.fractionBits) D.leastPlace).toNat) (max (p + m.log2 - D.fractionBits) D.leastPlace - p).toNat) D.infRung, ?_, fun s => ?_⟩
    · refine Nat.lt_of_le_of_lt (Nat.min_le_right _ _) ?_
      rw [D_inf]; decide
    · unfold Format.nearest
      rw [if_neg hm]
      rfl

theorem sub_swap {a b : Nat} {k : Int} (ha : Tp k a) (hb : Tp k b) : ∃ s t r, r < 2 ^ 63 ∧ fsub a b = D.word s r ∧ fsub b a = D.word t r := by
  obtain ⟨s, m, i, hr, _⟩ := ha
  obtain ⟨t, n, j, hr', _⟩ := hb
  have e1 : ∃ u, fsub a b = D.nearest u (signed s m (i - min i j).toNat + signed (!t) n (j - min i j).toNat).natAbs (min i j) := by
    unfold fsub opt Format.sub; rw [hr, hr']; exact ⟨_, rfl⟩
  have e2 : ∃ u, fsub b a = D.nearest u (signed t n (j - min j i).toNat + signed (!s) m (i - min j i).toNat).natAbs (min j i) := by
    unfold fsub opt Format.sub; rw [hr, hr']; exact ⟨_, rfl⟩
  obtain ⟨u, e1⟩ := e1
  obtain ⟨v, e2⟩ := e2
  rw [Int.min_comm j i] at e2
  have en : (signed s m (i - min i j).toNat + signed (!t) n (j - min i j).toNat).natAbs = (signed t n (j - min i j).toNat + signed (!s) m (i - min i j).toNat).natAbs := by
    have h1 : signed (!t) n (j - min i j).toNat = - signed t n (j - min i j).toNat := by cases t <;> simp [signed]
    have h2 : signed (!s) m (i - min i j).toNat = - signed s m (i - min i j).toNat := by cases s <;> simp [signed]
    rw [h1, h2]
    omega
  rw [en] at e1
  obtain ⟨r, hr, hw⟩ := nearest_word (signed t n (j - min i j).toNat + signed (!s) m (i - min i j).toNat).natAbs (min i j)
  exact ⟨u, v, r, hr, by rw [e1, hw], by rw [e2, hw]⟩

theorem sq_swap {a b : Nat} {k : Int} (ha : Tp k a) (hb : Tp k b) : fmul (fsub a b) (fsub a b) = fmul (fsub b a) (fsub b a) := by
  obtain ⟨s, t, r, hr, e1, e2⟩ := sub_swap ha hb
  rw [e1, e2]; exact sq_word s t hr
end Go.Fp
namespace Go.Proofs.Ytaipecabiepooaa
open Go.Fp

theorem cr_swap {px py pz qx qy qz : Nat} (h1 : Tp 201 px) (h2 : Tp 201 py) (h3 : Tp 201 pz) (h4 : Tp 201 qx) (h5 : Tp 201 qy) (h6 : Tp 201 qz) : crX px py pz qx qy qz = crX qx qy qz px py pz := by
  unfold crX lenP
  have m : ∀ {a b : Nat}, Tp 201 a → Tp 201 b → Tp 403 (fmul a b) := fun ha hb => (tp_mul ha hb (by omega) (by omega)).2
  rw [sq_swap (m h2 h6) (m h3 h5), sq_swap (m h3 h4) (m h1 h6), sq_swap (m h1 h5) (m h2 h4)]
  rw [mul_comm' qy pz, mul_comm' qz py, mul_comm' qz px, mul_comm' qx pz, mul_comm' qx py, mul_comm' qy px]
theorem do_swap (px py pz qx qy qz : Nat) : doX px py pz qx qy qz = doX qx qy qz px py pz := by
  unfold doX
  rw [mul_comm' px, mul_comm' py, mul_comm' pz]

theorem great_swap (lon lat lon' lat' : Int) : greatP lon lat lon' lat' = greatP lon' lat' lon lat := by
  unfold greatP ptZ
  rw [cr_swap (tp_ptX _ _) (tp_ptY _ _) ((tp_sinP lat).mono (by omega)) (tp_ptX _ _) (tp_ptY _ _) ((tp_sinP lat').mono (by omega)), do_swap]

theorem great_quarter : 89999999999 ≤ greatP 0 0 0 90000000000 ∧ greatP 0 0 0 90000000000 ≤ 90000000000 := by decide +kernel
end Go.Proofs.Ytaipecabiepooaa
