/- The operations on float64 words as total functions, NaNs told as one; sizes. -/
import Derived.WalkKit
import Derived.Deep.QuietTactic
import Derived.WalkLawsBesides
import Derived.Still
import Derived.StillTail
import Derived.Below
import Derived.Deep.Draws
import Derived.WalkSpells
import Derived.BigQuiet
import Derived.Lib.Hide
namespace Go.Fp
open Ieee

abbrev D : Format := double
def isNan (x : Nat) : Bool := (D.read x).isNaN
def QN : Nat := 0x7ff8000000000001
def can (x : Nat) : Nat := if isNan x then QN else x
def opt (o : Option Nat) : Nat := o.getD QN
def fadd (x y : Nat) : Nat := opt (D.add x y)
def fsub (x y : Nat) : Nat := opt (D.sub x y)
def fmul (x y : Nat) : Nat := opt (D.mul x y)
def fdiv (x y : Nat) : Nat := opt (D.div x y)
def fsqrt (x : Nat) : Nat := opt (D.sqrt x)

theorem isNan_QN : isNan QN = true := by decide +kernel

theorem rung_lt {r : Nat} (h : r ≤ D.infRung) : r < D.signWeight := Nat.lt_of_le_of_lt h (Format.infRung_lt D)

theorem isNan_word (s : Bool) {r : Nat} (h : r ≤ D.infRung) : isNan (D.word s r) = false := by
  have hr := rung_lt h
  have hm : D.word s r % D.signWeight = r := by
    unfold Format.word
    cases s
    · simp [Nat.mod_eq_of_lt hr]
    · simp [Nat.mod_eq_of_lt hr]
  unfold isNan Format.read
  simp only [hm]
  split
  · rfl
  · split
    · rfl
    · have : r = D.infRung := by omega
      simp [this, Datum.isNaN]

theorem isNan_write {d : Datum} (h : d.isNaN = false) : isNan (D.write d) = false := by
  cases d with
  | number s m p =>
    show isNan (D.nearest s m p) = false
    unfold Format.nearest
    dsimp only
    split
    · exact isNan_word s (Nat.zero_le _)
    · exact isNan_word s (Nat.min_le_right _ _)
  | infinity s => exact isNan_word s (Nat.le_refl _)
  | nan s t => cases h

theorem sum_nan {a b c : Datum} (h : a.sum b = some c) : c.isNaN = false := by
  cases a <;> cases b <;> simp only [Datum.sum] at h <;> first | (cases h; done) | skip
  · cases h; rfl
  · cases h; rfl
  · cases h; rfl
  · split at h <;> cases h; rfl

theorem product_nan {a b c : Datum} (h : a.product b = some c) : c.isNaN = false := by
  cases a <;> cases b <;> simp only [Datum.product] at h <;> first | (cases h; done) | skip
  · cases h; rfl
  · split at h <;> cases h; rfl
  · split at h <;> cases h; rfl
  · cases h; rfl

theorem quotient_nan {g : Nat} {a b c : Datum} (h : Datum.quotient g a b = some c) : c.isNaN = false := by
  cases a <;> cases b <;> simp only [Datum.quotient] at h <;> first | (cases h; done) | skip
  · split at h
    · split at h <;> cases h; rfl
    · cases h; rfl
  · cases h; rfl
  · cases h; rfl

theorem root_nan {g : Nat} {a c : Datum} (h : Datum.root g a = some c) : c.isNaN = false := by
  cases a <;> simp only [Datum.root] at h <;> first | (cases h; done) | skip
  · split at h
    · cases h; rfl
    · split at h <;> cases h; rfl
  · split at h <;> cases h; rfl

theorem map_write_nan {o : Option Datum} {r : Nat} (hn : ∀ c, o = some c → c.isNaN = false) (h : o.map D.write = some r) : isNan r = false := by
  cases o with
  | none => cases h
  | some c => cases h; exact isNan_write (hn c rfl)

theorem add_nan {x y r : Nat} (h : D.add x y = some r) : isNan r = false := map_write_nan (fun _ => sum_nan) h
theorem sub_nan {x y r : Nat} (h : D.sub x y = some r) : isNan r = false := map_write_nan (fun _ => sum_nan) h
theorem mul_nan {x y r : Nat} (h : D.mul x y = some r) : isNan r = false := map_write_nan (fun _ => product_nan) h
theorem div_nan {x y r : Nat} (h : D.div x y = some r) : isNan r = false := map_write_nan (fun _ => quotient_nan) h
theorem sqrt_nan {x r : Nat} (h : D.sqrt x = some r) : isNan r = false := map_write_nan (fun _ => root_nan) h

theorem read_nan {x : Nat} (h : isNan x = true) : ∃ s t, D.read x = .nan s t := by
  unfold isNan at h
  cases hd : D.read x with
  | nan s t => exact ⟨s, t, rfl⟩
  | number s m p => simp [hd, Datum.isNaN] at h
  | infinity s => simp [hd, Datum.isNaN] at h

theorem can_of_nan {x : Nat} (h : isNan x = true) : can x = QN := by simp [can, h]
theorem can_of_not {x : Nat} (h : isNan x = false) : can x = x := by simp [can, h]

theorem isNan_can (x : Nat) : isNan (can x) = isNan x := by
  cases h : isNan x
  · rw [can_of_not h]; exact h
  · rw [can_of_nan h]; exact isNan_QN
@[simp] theorem can_can (x : Nat) : can (can x) = can x := by
  cases h : isNan x
  · rw [can_of_not h, can_of_not h]
  · rw [can_of_nan h, can_of_nan isNan_QN]

/-- whatever looks at words by 'read' alone and answers none of a NaN does not tell a word from its canonical one -/
theorem bin_can {α : Type} (f : Nat → Nat → Option α) (hl : ∀ x y, isNan x = true → f x y = none) (hr : ∀ x y, isNan y = true → f x y = none) (x y : Nat) :
    f (can x) (can y) = f x y := by
  cases hx : isNan x
  · rw [can_of_not hx]
    cases hy : isNan y
    · rw [can_of_not hy]
    · rw [hr x _ (by rw [isNan_can]; exact hy), hr x y hy]
  · rw [hl _ _ (by rw [isNan_can]; exact hx), hl x y hx]

theorem add_l (x y : Nat) (h : isNan x = true) : D.add x y = none := by
  obtain ⟨s, t, e⟩ := read_nan h; simp [Format.add, e, Datum.sum]
theorem add_r (x y : Nat) (h : isNan y = true) : D.add x y = none := by
  obtain ⟨s, t, e⟩ := read_nan h; simp only [Format.add, e]; cases D.read x <;> rfl
theorem sub_l (x y : Nat) (h : isNan x = true) : D.sub x y = none := by
  obtain ⟨s, t, e⟩ := read_nan h; simp [Format.sub, e, Datum.sum]
theorem sub_r (x y : Nat) (h : isNan y = true) : D.sub x y = none := by
  obtain ⟨s, t, e⟩ := read_nan h; simp only [Format.sub, e]; cases D.read x <;> rfl
theorem mul_l (x y : Nat) (h : isNan x = true) : D.mul x y = none := by
  obtain ⟨s, t, e⟩ := read_nan h; simp [Format.mul, e, Datum.product]
theorem mul_r (x y : Nat) (h : isNan y = true) : D.mul x y = none := by
  obtain ⟨s, t, e⟩ := read_nan h; simp only [Format.mul, e]; cases D.read x <;> rfl
theorem div_l (x y : Nat) (h : isNan x = true) : D.div x y = none := by
  obtain ⟨s, t, e⟩ := read_nan h; simp [Format.div, e, Datum.quotient]
theorem div_r (x y : Nat) (h : isNan y = true) : D.div x y = none := by
  obtain ⟨s, t, e⟩ := read_nan h; simp only [Format.div, e]; cases D.read x <;> rfl
theorem sqrt_l (x : Nat) (h : isNan x = true) : D.sqrt x = none := by
  obtain ⟨s, t, e⟩ := read_nan h; simp [Format.sqrt, e, Datum.root]
theorem order_l (x y : Nat) (h : isNan x = true) : D.order x y = none := by
  obtain ⟨s, t, e⟩ := read_nan h; simp [Format.order, e, Datum.order]
theorem order_r (x y : Nat) (h : isNan y = true) : D.order x y = none := by
  obtain ⟨s, t, e⟩ := read_nan h; simp only [Format.order, e]; cases D.read x <;> rfl

theorem add_can (x y : Nat) : D.add (can x) (can y) = D.add x y := bin_can _ add_l add_r x y
theorem sub_can (x y : Nat) : D.sub (can x) (can y) = D.sub x y := bin_can _ sub_l sub_r x y
theorem mul_can (x y : Nat) : D.mul (can x) (can y) = D.mul x y := bin_can _ mul_l mul_r x y
theorem div_can (x y : Nat) : D.div (can x) (can y) = D.div x y := bin_can _ div_l div_r x y
theorem order_can (x y : Nat) : D.order (can x) (can y) = D.order x y := bin_can _ order_l order_r x y
theorem sqrt_can (x : Nat) : D.sqrt (can x) = D.sqrt x := by
  cases hx : isNan x
  · rw [can_of_not hx]
  · rw [sqrt_l _ (by rw [isNan_can]; exact hx), sqrt_l _ hx]

@[simp] theorem fadd_can (x y : Nat) : fadd (can x) (can y) = fadd x y := by unfold fadd; rw [add_can]
@[simp] theorem fsub_can (x y : Nat) : fsub (can x) (can y) = fsub x y := by unfold fsub; rw [sub_can]
@[simp] theorem fmul_can (x y : Nat) : fmul (can x) (can y) = fmul x y := by unfold fmul; rw [mul_can]
@[simp] theorem fdiv_can (x y : Nat) : fdiv (can x) (can y) = fdiv x y := by unfold fdiv; rw [div_can]
@[simp] theorem fsqrt_can (x : Nat) : fsqrt (can x) = fsqrt x := by unfold fsqrt; rw [sqrt_can]

theorem can_opt {o : Option Nat} (h : ∀ r, o = some r → isNan r = false) : can (opt o) = opt o := by
  cases o with
  | none => exact can_of_nan isNan_QN
  | some r => exact can_of_not (h r rfl)
@[simp] theorem can_fadd (x y : Nat) : can (fadd x y) = fadd x y := can_opt fun _ => add_nan
@[simp] theorem can_fsub (x y : Nat) : can (fsub x y) = fsub x y := can_opt fun _ => sub_nan
@[simp] theorem can_fmul (x y : Nat) : can (fmul x y) = fmul x y := can_opt fun _ => mul_nan
@[simp] theorem can_fdiv (x y : Nat) : can (fdiv x y) = fdiv x y := can_opt fun _ => div_nan
@[simp] theorem can_fsqrt (x : Nat) : can (fsqrt x) = fsqrt x := can_opt fun _ => sqrt_nan

/-- the bits that the tape gives where the language names none are a NaN's -/
theorem isNan_drawn (x y t : Nat) : isNan (Question.cut (.nanBits .f64 x y) t) = true := by
  have h : ∃ s, s < 2 ∧ ∃ q, q < 2 ^ 52 - 1 ∧ Question.cut (.nanBits .f64 x y) t = s * 2 ^ 63 + 0x7ff0000000000000 + 1 + q :=
    ⟨t % 2, Nat.mod_lt _ (by decide), (t / 2) % (2 ^ 52 - 1), Nat.mod_lt _ (by decide), rfl⟩
  obtain ⟨s, hs, q, hq, e⟩ := h
  rw [e]
  have e1 : D.signWeight = 2 ^ 63 := by decide +kernel
  have e2 : D.infRung = 0x7ff0000000000000 := by decide +kernel
  have e3 : D.binade = 2 ^ 52 := by decide +kernel
  unfold isNan Format.read
  simp only [e1, e2, e3]
  have hm : (s * 2 ^ 63 + 0x7ff0000000000000 + 1 + q) % 2 ^ 63 = 0x7ff0000000000000 + 1 + q := by omega
  rw [hm, if_neg (by omega), if_neg (by omega), if_neg (by omega)]
  rfl

section
variable {P : Program} (w : World)

/-- an operation on two floats: whatever they are, a float comes, told but for which NaN it is -/
theorem run_arith (op : BinOp) (x y : Nat) (o : Option Nat) (hn : ∀ r, o = some r → isNan r = false)
    (he : Op.floatArith op .f64 x y = (do match o with | some r => pure (.float .f64 r) | none => pure (.float .f64 (← choose (.nanBits .f64 x y))))) :
    ∃ r n, (Op.floatArith op .f64 x y).run P w = .ok (.float .f64 r) (w.drewN n) ∧ can r = opt o := by
  rw [he]
  cases o with
  | some r => exact ⟨r, 0, rfl, can_of_not (hn r rfl)⟩
  | none => exact ⟨_, 1, rfl, can_of_nan (isNan_drawn _ _ _)⟩

theorem run_fadd (x y : Nat) (t : TypeId) : ∃ r n, (binOp .add t (.float .f64 x) (.float .f64 y)).run P w = .ok (.float .f64 r) (w.drewN n) ∧ can r = fadd (can x) (can y) := by
  rw [fadd_can]; exact run_arith w .add x y _ (fun _ => add_nan) rfl
theorem run_fsub (x y : Nat) (t : TypeId) : ∃ r n, (binOp .sub t (.float .f64 x) (.float .f64 y)).run P w = .ok (.float .f64 r) (w.drewN n) ∧ can r = fsub (can x) (can y) := by
  rw [fsub_can]; exact run_arith w .sub x y _ (fun _ => sub_nan) rfl
theorem run_fmul (x y : Nat) (t : TypeId) : ∃ r n, (binOp .mul t (.float .f64 x) (.float .f64 y)).run P w = .ok (.float .f64 r) (w.drewN n) ∧ can r = fmul (can x) (can y) := by
  rw [fmul_can]; exact run_arith w .mul x y _ (fun _ => mul_nan) rfl
theorem run_fdiv (x y : Nat) (t : TypeId) : ∃ r n, (binOp .quo t (.float .f64 x) (.float .f64 y)).run P w = .ok (.float .f64 r) (w.drewN n) ∧ can r = fdiv (can x) (can y) := by
  rw [fdiv_can]; exact run_arith w .quo x y _ (fun _ => div_nan) rfl
end
attribute [irreducible] fadd fsub fmul fdiv fsqrt can isNan
end Go.Fp

/- Numbers whose size is below a power of two: no operation on them is invalid. -/
namespace Go.Fp
open Ieee

/-- a number, in size below 2 ^ k -/
def Tp (k : Int) (x : Nat) : Prop := ∃ s m p, D.read x = .number s m p ∧ (m = 0 ∨ p + (m.log2 : Int) + 1 ≤ k)

theorem Tp.mono {a b : Int} {x : Nat} (h : Tp a x) (hab : a ≤ b) : Tp b x := by
  obtain ⟨s, m, p, hr, h⟩ := h
  refine ⟨s, m, p, hr, ?_⟩
  rcases h with h | h
  · exact .inl h
  · exact .inr (by omega)

theorem D_sign : D.signWeight = 2 ^ 63 := by decide +kernel
theorem D_inf : D.infRung = 2047 * 2 ^ 52 := by decide +kernel
theorem D_bin : D.binade = 2 ^ 52 := by decide +kernel
theorem D_least : D.leastPlace = -1074 := by decide +kernel
theorem D_frac : (D.fractionBits : Int) = 52 := by decide +kernel

/-- the word of a sign and a rung -/
theorem word_mod (s : Bool) {r : Nat} (h : r < 2 ^ 63) : D.word s r % 2 ^ 63 = r := by
  unfold Format.word
  rw [D_sign]
  cases s <;> simp <;> omega

theorem read_word (s : Bool) {r : Nat} (h : r < 2047 * 2 ^ 52) : ∃ s', D.read (D.word s r) = if r < 2 ^ 52 then .number s' r (-1074) else .number s' (2 ^ 52 + r % 2 ^ 52) (-1074 + (r / 2 ^ 52 - 1 : Nat)) := by
  refine ⟨D.word s r / 2 ^ 63 % 2 == 1, ?_⟩
  unfold Format.read
  simp only [D_sign, D_inf, D_bin, D_least]
  rw [word_mod s (by omega)]
  by_cases h1 : r < 2 ^ 52
  · rw [if_pos h1, if_pos h1]
  · rw [if_neg h1, if_neg h1, if_pos h]

theorem log2_of {m k : Nat} (h0 : m ≠ 0) (h : m < 2 ^ (k + 1)) : m.log2 ≤ k := by
  have := (Nat.log2_lt h0 (k := k + 1)).2 h
  omega

theorem tp_word (s : Bool) {r : Nat} {k : Int} (hr : (r : Int) ≤ (k + 1023) * 2 ^ 52) (h0 : 0 ≤ k + 1022) (hk : k < 1023) : Tp (k + 1) (D.word s r) := by
  have hlt : r < 2047 * 2 ^ 52 := by omega
  obtain ⟨s', e⟩ := read_word s hlt
  split at e
  · rename_i h1
    refine ⟨s', r, -1074, e, ?_⟩
    by_cases hz : r = 0
    · exact .inl hz
    · have := log2_of (k := 51) hz h1
      exact .inr (by omega)
  · rename_i h1
    refine ⟨s', _, _, e, .inr ?_⟩
    have : (2 ^ 52 + r % 2 ^ 52).log2 ≤ 52 := log2_of (by omega) (by omega)
    omega

theorem lt_log2 (m : Nat) : m < 2 ^ (m.log2 + 1) := Nat.lt_log2_self

theorem log2_shift_le (m i : Nat) (h : m ≠ 0) : (m <<< i).log2 = m.log2 + i := by
  apply Nat.le_antisymm
  · have hne : m <<< i ≠ 0 := by rw [Nat.shiftLeft_eq]; exact Nat.mul_ne_zero h (by have := Nat.two_pow_pos i; omega)
    refine log2_of hne ?_
    rw [Nat.shiftLeft_eq, show m.log2 + i + 1 = (m.log2 + 1) + i by omega, Nat.pow_add]
    exact Nat.mul_lt_mul_of_pos_right (lt_log2 m) (Nat.two_pow_pos _)
  · have hne : m <<< i ≠ 0 := by rw [Nat.shiftLeft_eq]; exact Nat.mul_ne_zero h (by have := Nat.two_pow_pos i; omega)
    rw [Nat.le_log2 hne, Nat.shiftLeft_eq, Nat.pow_add]
    exact Nat.mul_le_mul_right _ (Nat.log2_self_le h)

/-- what is kept of a number has at most 53 digits, or is 2 ^ 53 -/
theorem cut_le (s : Bool) (n drop j : Nat) (h : n < 2 ^ (j + drop)) : Toward.even.cut s n drop ≤ 2 ^ j := by
  unfold Toward.cut
  by_cases hd : drop ≤ n.log2 + 2
  · rw [Nat.min_eq_left hd]
    have hg : (1 <<< drop : Nat) = 2 ^ drop := by rw [Nat.shiftLeft_eq, Nat.one_mul]
    simp only [hg]
    have h1 : n / 2 ^ drop < 2 ^ j := by
      rw [Nat.div_lt_iff_lt_mul (Nat.two_pow_pos _), ← Nat.pow_add]
      exact h
    have h2 : ∀ b : Bool, b.toNat ≤ 1 := fun b => by cases b <;> simp
    have := h2 ((decide (2 ^ drop < 2 * (n % 2 ^ drop)) || 2 ^ drop == 2 * (n % 2 ^ drop) && n / 2 ^ drop % 2 == 1))
    omega
  · have hd' : min drop (n.log2 + 2) = n.log2 + 2 := Nat.min_eq_right (by omega)
    rw [hd']
    have hg : (1 <<< (n.log2 + 2) : Nat) = 2 ^ (n.log2 + 2) := by rw [Nat.shiftLeft_eq, Nat.one_mul]
    simp only [hg]
    have hn := lt_log2 n
    have h4 : 2 ^ (n.log2 + 2) = 2 * 2 ^ (n.log2 + 1) := by rw [Nat.pow_succ, Nat.mul_comm]
    have h1 : n / 2 ^ (n.log2 + 2) = 0 := Nat.div_eq_of_lt (by omega)
    have h2 : n % 2 ^ (n.log2 + 2) = n := Nat.mod_eq_of_lt (by omega)
    rw [h1, h2]
    have h3 : (2 ^ (n.log2 + 2) < 2 * n) = False := by simp; omega
    have h5 : (2 ^ (n.log2 + 2) == 2 * n) = false := by simp; omega
    simp [h3, h5]

theorem tp_nearest (s : Bool) (m : Nat) (p k : Int) (h : m = 0 ∨ p + (m.log2 : Int) + 1 ≤ k) (h0 : -1000 ≤ k) (hk : k < 1023) : Tp (k + 1) (D.nearest s m p) := by
  unfold Format.nearest
  by_cases hm : m = 0
  · rw [if_pos hm]
    exact tp_word s (r := 0) (by omega) (by omega) hk
  · rw [if_neg hm]
    have h : p + (m.log2 : Int) + 1 ≤ k := by exact h.resolve_left hm
    simp only [D_least, D_frac, D_bin, D_inf]
    generalize hl : max (p + (m.log2 : Int) - 52) (-1074) = last
    have hl1 : p + (m.log2 : Int) - 52 ≤ last := by omega
    have hl2 : -1074 ≤ last := by omega
    have hl3 : last = p + (m.log2 : Int) - 52 ∨ last = -1074 := by omega
    have hc : Toward.even.cut s (m <<< (p - last).toNat) (last - p).toNat ≤ 2 ^ 53 := by
      refine cut_le _ _ _ _ ?_
      have hb := lt_log2 (m <<< (p - last).toNat)
      rw [log2_shift_le _ _ hm] at hb
      refine Nat.lt_of_lt_of_le hb (Nat.pow_le_pow_right (by decide) ?_)
      omega
    refine tp_word s ?_ (by omega) hk
    have h3 : (2 : Nat) ^ 53 = 2 * 2 ^ 52 := by decide
    generalize Toward.even.cut s (m <<< (p - last).toNat) (last - p).toNat = c at hc
    have h4 : (min ((last - -1074).toNat * 2 ^ 52 + c) (2047 * 2 ^ 52) : Nat) ≤ (last - -1074).toNat * 2 ^ 52 + c := Nat.min_le_left _ _
    omega

theorem log2_mul_le (m n : Nat) (hm : m ≠ 0) (hn : n ≠ 0) : (m * n).log2 ≤ m.log2 + n.log2 + 1 := by
  refine log2_of (Nat.mul_ne_zero hm hn) ?_
  have h1 := lt_log2 m
  have h2 := lt_log2 n
  rw [show m.log2 + n.log2 + 1 + 1 = (m.log2 + 1) + (n.log2 + 1) by omega, Nat.pow_add]
  exact Nat.mul_lt_mul_of_lt_of_lt h1 h2

theorem tp_mul {a b : Int} {x y : Nat} (hx : Tp a x) (hy : Tp b y) (h0 : -1000 ≤ a + b) (h1 : a + b < 1023) : D.mul x y = some (fmul x y) ∧ Tp (a + b + 1) (fmul x y) := by
  obtain ⟨s, m, i, hr, h⟩ := hx
  obtain ⟨t, n, j, hr', h'⟩ := hy
  have e : D.mul x y = some (D.nearest (s ^^ t) (m * n) (i + j)) := by
    unfold Format.mul; rw [hr, hr']; rfl
  have e2 : fmul x y = D.nearest (s ^^ t) (m * n) (i + j) := by unfold fmul opt; rw [e]; rfl
  refine ⟨by rw [e, e2], ?_⟩
  rw [e2]
  refine tp_nearest _ _ _ _ ?_ h0 h1
  by_cases hm : m = 0
  · exact .inl (by rw [hm, Nat.zero_mul])
  · by_cases hn : n = 0
    · exact .inl (by rw [hn, Nat.mul_zero])
    · have := log2_mul_le m n hm hn
      exact .inr (by omega)

theorem natAbs_signed (s : Bool) (m i : Nat) : (signed s m i).natAbs = m <<< i := by
  unfold signed; cases s
  · simp only [Bool.false_eq_true, if_false]; exact Int.natAbs_natCast _
  · simp only [if_true]; rw [Int.natAbs_neg]; exact Int.natAbs_natCast _

theorem tp_sum {a : Int} {s t : Bool} {m n : Nat} {i j : Int} (h : m = 0 ∨ i + (m.log2 : Int) + 1 ≤ a) (h' : n = 0 ∨ j + (n.log2 : Int) + 1 ≤ a) :
    (signed s m (i - min i j).toNat + signed t n (j - min i j).toNat).natAbs = 0 ∨
      min i j + ((signed s m (i - min i j).toNat + signed t n (j - min i j).toNat).natAbs.log2 : Int) + 1 ≤ a + 1 := by
  by_cases hz : (signed s m (i - min i j).toNat + signed t n (j - min i j).toNat).natAbs = 0
  · exact .inl hz
  · refine .inr ?_
    have ht : (signed s m (i - min i j).toNat + signed t n (j - min i j).toNat).natAbs ≤ m <<< (i - min i j).toNat + n <<< (j - min i j).toNat := by
      rw [← natAbs_signed s, ← natAbs_signed t]; exact Int.natAbs_add_le _ _
    -- both below 2 ^ (a - base), unless one is nought
    have hb : ∀ (m : Nat) (i' : Int), (m = 0 ∨ i' + (m.log2 : Int) + 1 ≤ a) → min i j ≤ i' → m <<< (i' - min i j).toNat < 2 ^ (a - min i j).toNat ∨ m = 0 := by
      intro m i' hm hi'
      by_cases h0 : m = 0
      · exact .inr h0
      · refine .inl ?_
        have hm : i' + (m.log2 : Int) + 1 ≤ a := by exact hm.resolve_left h0
        have := lt_log2 (m <<< (i' - min i j).toNat)
        rw [log2_shift_le _ _ h0] at this
        exact Nat.lt_of_lt_of_le this (Nat.pow_le_pow_right (by decide) (by omega))
    have hm := hb m i h (Int.min_le_left _ _)
    have hn := hb n j h' (Int.min_le_right _ _)
    have hp : 0 < 2 ^ (a - min i j).toNat := Nat.two_pow_pos _
    have hm' : m <<< (i - min i j).toNat < 2 ^ (a - min i j).toNat := by
      rcases hm with hm | hm
      · exact hm
      · rw [hm, Nat.zero_shiftLeft]; exact hp
    have hn' : n <<< (j - min i j).toNat < 2 ^ (a - min i j).toNat := by
      rcases hn with hn | hn
      · exact hn
      · rw [hn, Nat.zero_shiftLeft]; exact hp
    have hlt : (signed s m (i - min i j).toNat + signed t n (j - min i j).toNat).natAbs < 2 ^ ((a - min i j).toNat + 1) := by
      rw [Nat.pow_succ]; omega
    have hl := log2_of hz hlt
    -- one of the two is not nought, so a is not below the base
    have hne : min i j ≤ a := by
      rcases h with h | h
      · rcases h' with h' | h'
        · exfalso; apply hz; rw [h, h']; cases s <;> cases t <;> simp [signed]
        · have := Int.min_le_right i j; omega
      · have := Int.min_le_left i j; omega
    omega

theorem tp_add {a : Int} {x y : Nat} (hx : Tp a x) (hy : Tp a y) (h0 : -1000 ≤ a) (h1 : a < 1022) : D.add x y = some (fadd x y) ∧ Tp (a + 2) (fadd x y) := by
  obtain ⟨s, m, i, hr, h⟩ := hx
  obtain ⟨t, n, j, hr', h'⟩ := hy
  have e : ∃ u, D.add x y = some (D.nearest u (signed s m (i - min i j).toNat + signed t n (j - min i j).toNat).natAbs (min i j)) := by
    unfold Format.add; rw [hr, hr']; exact ⟨_, rfl⟩
  obtain ⟨u, e⟩ := e
  have e2 : fadd x y = D.nearest u (signed s m (i - min i j).toNat + signed t n (j - min i j).toNat).natAbs (min i j) := by unfold fadd opt; rw [e]; rfl
  refine ⟨by rw [e, e2], ?_⟩
  rw [e2, show a + 2 = (a + 1) + 1 by omega]
  exact tp_nearest _ _ _ _ (tp_sum h h') (by omega) (by omega)

theorem tp_ofInt (n : Int) (k : Nat) (h : n.natAbs < 2 ^ k) (hk : k < 1000) : Tp (k + 1) (floatOfInt .f64 n) := by
  show Tp (k + 1) (D.nearest _ n.natAbs 0)
  refine tp_nearest _ _ _ _ ?_ (by omega) (by omega)
  by_cases hz : n.natAbs = 0
  · exact .inl hz
  · have hk0 : k ≠ 0 := by rintro rfl; simp at h; omega
    have := log2_of (k := k - 1) hz (by rwa [show k - 1 + 1 = k by omega])
    exact .inr (by omega)

theorem Tp.fin {k : Int} {x : Nat} (h : Tp k x) : isNan x = false := by
  obtain ⟨s, m, p, hr, _⟩ := h
  unfold isNan; rw [hr]; rfl
theorem Tp.can {k : Int} {x : Nat} (h : Tp k x) : can x = x := can_of_not h.fin
end Go.Fp

/- Sine and cosine of an angle, as plain functions on words. -/
namespace Go.Fp

def RAD : Nat := 4445950764994258515
def one : Nat := 4607182418800017408
def KK : List Nat := [13818544856648471893, 4575957461383581969, 13774824197408792602, 4523617214285662004, 13716528800881525988, 4460272573143870729, 13648976655441704991, 4389130328383466826]
def DD : List Nat := [13826050856027422720, 4586165620538955093, 13787419979223755799, 4537941361671905306, 13732177094651715420, 4477122120089393304, 13666517717442657437, 4407590220077447199]

/-- c0 + z * (c1 + z * (..)): from the last one back -/
def hor (z : Nat) : List Nat → Nat
  | [] => 0
  | [c] => c
  | c :: d :: r => fadd c (fmul z (hor z (d :: r)))

/-- which quarter, and what is left -/
def quart (a : Int) : Int := (a + 45000000000) / 90000000000
def xOf (a : Int) : Nat := fmul (floatOfInt .f64 (a - quart a * 90000000000)) RAD
def zOf (a : Int) : Nat := fmul (xOf a) (xOf a)
def sOf (a : Int) : Nat := fmul (xOf a) (fadd one (fmul (zOf a) (hor (zOf a) KK)))
def cOf (a : Int) : Nat := fadd one (fmul (zOf a) (hor (zOf a) DD))

/-- closed: of a word, that it is in size below 2 ^ k -/
def tpB (k : Int) (x : Nat) : Bool := match D.read x with | .number _ m p => m == 0 || decide (p + (m.log2 : Int) + 1 ≤ k) | _ => false
theorem tp_of {k : Int} {x : Nat} (h : tpB k x = true) : Tp k x := by
  unfold tpB at h
  split at h
  · rename_i s m p hr
    simp only [Bool.or_eq_true, beq_iff_eq, decide_eq_true_eq] at h
    exact ⟨s, m, p, hr, h⟩
  · cases h

theorem tp_RAD : Tp (-35) RAD := tp_of (by decide +kernel)
theorem tp_one : Tp 1 one := tp_of (by decide +kernel)
theorem tp_KK : ∀ x ∈ KK, Tp 1 x := by
  have : KK.all (tpB 1) = true := by decide +kernel
  intro x hx; exact tp_of (List.all_eq_true.1 this x hx)
theorem tp_DD : ∀ x ∈ DD, Tp 1 x := by
  have : DD.all (tpB 1) = true := by decide +kernel
  intro x hx; exact tp_of (List.all_eq_true.1 this x hx)

theorem tp_x {a : Int} (_h0 : 0 ≤ a) (_h1 : a < 360000000000) : D.mul (floatOfInt .f64 (a - quart a * 90000000000)) RAD = some (xOf a) ∧ Tp 3 (xOf a) := by
  have h : (a - quart a * 90000000000).natAbs < 2 ^ 36 := by unfold quart; omega
  have := tp_mul (tp_ofInt _ 36 h (by omega)) tp_RAD (by omega) (by omega)
  exact ⟨this.1, this.2.mono (by omega)⟩
theorem tp_z {a : Int} (h0 : 0 ≤ a) (h1 : a < 360000000000) : D.mul (xOf a) (xOf a) = some (zOf a) ∧ Tp 7 (zOf a) := by
  have h := (tp_x h0 h1).2
  exact tp_mul h h (by omega) (by omega)

theorem tp_hor {z : Nat} (hz : Tp 7 z) : ∀ l : List Nat, l ≠ [] → l.length ≤ 20 → (∀ x ∈ l, Tp 1 x) → Tp (10 * l.length) (hor z l)
  | [], h, _, _ => absurd rfl h
  | [c], _, _, hl => (hl c (by simp)).mono (by simp)
  | c :: d :: r, _, hn, hl => by
    have ih := tp_hor hz (d :: r) (by simp) (by simp at hn ⊢; omega) (fun x hx => hl x (List.mem_cons_of_mem _ hx))
    have hc : Tp 1 c := hl c (by simp)
    simp only [List.length_cons] at hn ih ⊢
    have hm := (tp_mul hz ih (by omega) (by omega)).2
    have ha := (tp_add (a := 8 + 10 * ((r.length + 1 : Nat) : Int)) (hc.mono (by omega)) (hm.mono (by omega)) (by omega) (by omega)).2
    exact ha.mono (by omega)

/-- one step of the walk down: both operations are valid -/
theorem hor_step {z : Nat} (hz : Tp 7 z) (c d : Nat) (r : List Nat) (hn : r.length ≤ 10) (hl : ∀ x ∈ c :: d :: r, Tp 1 x) :
    D.mul z (hor z (d :: r)) = some (fmul z (hor z (d :: r))) ∧ D.add c (fmul z (hor z (d :: r))) = some (hor z (c :: d :: r)) := by
  have ih := tp_hor hz (d :: r) (by simp) (by simp; omega) (fun x hx => hl x (List.mem_cons_of_mem _ hx))
  have hc : Tp 1 c := hl c (by simp)
  simp only [List.length_cons] at ih
  have hm := tp_mul hz ih (by omega) (by omega)
  have ha := tp_add (a := 8 + 10 * ((r.length + 1 : Nat) : Int)) (hc.mono (by omega)) (hm.2.mono (by omega)) (by omega) (by omega)
  exact ⟨hm.1, ha.1⟩

theorem tp_s {a : Int} (h0 : 0 ≤ a) (h1 : a < 360000000000) : (D.mul (zOf a) (hor (zOf a) KK) = some (fmul (zOf a) (hor (zOf a) KK)) ∧ D.add one (fmul (zOf a) (hor (zOf a) KK)) = some (fadd one (fmul (zOf a) (hor (zOf a) KK))) ∧
    D.mul (xOf a) (fadd one (fmul (zOf a) (hor (zOf a) KK))) = some (sOf a)) ∧ Tp 100 (sOf a) := by
  have hz := (tp_z h0 h1).2
  have hh : Tp 80 (hor (zOf a) KK) := (tp_hor hz KK (by decide) (by decide) tp_KK).mono (by decide)
  have hm := tp_mul hz hh (by omega) (by omega)
  have ha := tp_add (a := 88) (tp_one.mono (by omega)) (hm.2.mono (by omega)) (by omega) (by omega)
  have hx := tp_mul (tp_x h0 h1).2 ha.2 (by omega) (by omega)
  exact ⟨⟨hm.1, ha.1, hx.1⟩, hx.2.mono (by omega)⟩
theorem tp_c {a : Int} (h0 : 0 ≤ a) (h1 : a < 360000000000) : (D.mul (zOf a) (hor (zOf a) DD) = some (fmul (zOf a) (hor (zOf a) DD)) ∧ D.add one (fmul (zOf a) (hor (zOf a) DD)) = some (cOf a)) ∧ Tp 100 (cOf a) := by
  have hz := (tp_z h0 h1).2
  have hh : Tp 80 (hor (zOf a) DD) := (tp_hor hz DD (by decide) (by decide) tp_DD).mono (by decide)
  have hm := tp_mul hz hh (by omega) (by omega)
  have ha := tp_add (a := 88) (tp_one.mono (by omega)) (hm.2.mono (by omega)) (by omega) (by omega)
  exact ⟨⟨hm.1, ha.1⟩, ha.2.mono (by omega)⟩

theorem kk_step {z : Nat} (hz : Tp 7 z) (k : Nat) (hk : k < 7) : ∃ m, D.mul z (hor z (KK.drop (k + 1))) = some m ∧ D.add (KK.getD k 0) m = some (hor z (KK.drop k)) := by
  have h : ∀ c d r, KK.drop k = c :: d :: r → KK.drop (k + 1) = d :: r → KK.getD k 0 = c → r.length ≤ 10 → ∃ m, D.mul z (hor z (KK.drop (k + 1))) = some m ∧ D.add (KK.getD k 0) m = some (hor z (KK.drop k)) := by
    intro c d r e1 e2 e3 hr
    have := hor_step hz c d r hr (fun x hx => tp_KK x (List.drop_subset k KK (by rw [e1]; exact hx)))
    rw [e1, e2, e3]
    exact ⟨_, this⟩
  match k, hk with
  | 0, _ => exact h _ _ _ rfl rfl rfl (by decide)
  | 1, _ => exact h _ _ _ rfl rfl rfl (by decide)
  | 2, _ => exact h _ _ _ rfl rfl rfl (by decide)
  | 3, _ => exact h _ _ _ rfl rfl rfl (by decide)
  | 4, _ => exact h _ _ _ rfl rfl rfl (by decide)
  | 5, _ => exact h _ _ _ rfl rfl rfl (by decide)
  | 6, _ => exact h _ _ _ rfl rfl rfl (by decide)
theorem dd_step {z : Nat} (hz : Tp 7 z) (k : Nat) (hk : k < 7) : ∃ m, D.mul z (hor z (DD.drop (k + 1))) = some m ∧ D.add (DD.getD k 0) m = some (hor z (DD.drop k)) := by
  have h : ∀ c d r, DD.drop k = c :: d :: r → DD.drop (k + 1) = d :: r → DD.getD k 0 = c → r.length ≤ 10 → ∃ m, D.mul z (hor z (DD.drop (k + 1))) = some m ∧ D.add (DD.getD k 0) m = some (hor z (DD.drop k)) := by
    intro c d r e1 e2 e3 hr
    have := hor_step hz c d r hr (fun x hx => tp_DD x (List.drop_subset k DD (by rw [e1]; exact hx)))
    rw [e1, e2, e3]
    exact ⟨_, this⟩
  match k, hk with
  | 0, _ => exact h _ _ _ rfl rfl rfl (by decide)
  | 1, _ => exact h _ _ _ rfl rfl rfl (by decide)
  | 2, _ => exact h _ _ _ rfl rfl rfl (by decide)
  | 3, _ => exact h _ _ _ rfl rfl rfl (by decide)
  | 4, _ => exact h _ _ _ rfl rfl rfl (by decide)
  | 5, _ => exact h _ _ _ rfl rfl rfl (by decide)
  | 6, _ => exact h _ _ _ rfl rfl rfl (by decide)

theorem quart_lo {a : Int} (h0 : 0 ≤ a) : 0 ≤ quart a := by unfold quart; omega
theorem quart_hi {a : Int} (h1 : a < 360000000000) : quart a ≤ 4 := by unfold quart; omega

/-- sine and cosine of a normed angle -/
def sinN (a : Int) : Nat := if quart a % 4 = 0 then sOf a else if quart a % 4 = 1 then cOf a else if quart a % 4 = 2 then Op.negFloat .f64 (sOf a) else Op.negFloat .f64 (cOf a)
def cosN (a : Int) : Nat := if quart a % 4 = 0 then cOf a else if quart a % 4 = 1 then Op.negFloat .f64 (sOf a) else if quart a % 4 = 2 then Op.negFloat .f64 (cOf a) else sOf a
def normP (a : Int) : Int := a % 360000000000
theorem normP_lo (a : Int) : 0 ≤ normP a := by unfold normP; omega
theorem normP_hi (a : Int) : normP a < 360000000000 := by unfold normP; omega
def sinP (a : Int) : Nat := sinN (normP a)
def cosP (a : Int) : Nat := cosN (normP a)

theorem quart4 (a : Int) : quart a % 4 = 0 ∨ quart a % 4 = 1 ∨ quart a % 4 = 2 ∨ quart a % 4 = 3 := by omega
/-- comparisons of words -/
def flt (x y : Nat) : Bool := D.order x y == some .lt
def feq (x y : Nat) : Bool := D.order x y == some .eq
def fgt (x y : Nat) : Bool := D.order x y == some .gt
def fle (x y : Nat) : Bool := D.order x y == some .lt || D.order x y == some .eq
def fge (x y : Nat) : Bool := D.order x y == some .gt || D.order x y == some .eq
def finP (x : Nat) : Bool := feq (fsub x x) 0

/-- the greatest one from lo on, below hi, at which p holds, found by halves -/
def bis (p : Int → Bool) : Nat → Int → Int → Int
  | 0, lo, _ => lo
  | n + 1, lo, hi => if 1 < hi - lo then (if p ((lo + hi) / 2) then bis p n ((lo + hi) / 2) hi else bis p n lo ((lo + hi) / 2)) else lo
def bisect (p : Int → Bool) (lo hi : Int) : Int := bis p (hi - lo).toNat lo hi
theorem bis_more (p : Int → Bool) : ∀ (n m : Nat) (lo hi : Int), (hi - lo).toNat ≤ n → (hi - lo).toNat ≤ m → bis p n lo hi = bis p m lo hi
  | 0, 0, _, _, _, _ => rfl
  | 0, m + 1, lo, hi, h, _ => by unfold bis; rw [if_neg (by omega)]
  | n + 1, 0, lo, hi, _, h => by unfold bis; rw [if_neg (by omega)]
  | n + 1, m + 1, lo, hi, h, h' => by
    unfold bis
    split
    · split
      · exact bis_more p n m _ _ (by omega) (by omega)
      · exact bis_more p n m _ _ (by omega) (by omega)
    · rfl
theorem bisect_done (p : Int → Bool) {lo hi : Int} (h : hi - lo ≤ 1) : bisect p lo hi = lo := by
  unfold bisect
  rw [bis_more p _ ((hi - lo).toNat + 1) lo hi (Nat.le_refl _) (by omega)]
  unfold bis
  rw [if_neg (by omega)]
theorem bisect_yes {p : Int → Bool} {lo hi : Int} (h : 1 < hi - lo) (hp : p ((lo + hi) / 2) = true) : bisect p lo hi = bisect p ((lo + hi) / 2) hi := by
  unfold bisect
  rw [bis_more p _ ((hi - lo).toNat + 1) lo hi (Nat.le_refl _) (by omega)]
  rw [bis.eq_2, if_pos h, if_pos hp]
  exact bis_more p _ _ _ _ (by omega) (by omega)
theorem bisect_no {p : Int → Bool} {lo hi : Int} (h : 1 < hi - lo) (hp : p ((lo + hi) / 2) = false) : bisect p lo hi = bisect p lo ((lo + hi) / 2) := by
  unfold bisect
  rw [bis_more p _ ((hi - lo).toNat + 1) lo hi (Nat.le_refl _) (by omega)]
  rw [bis.eq_2, if_pos h, if_neg (by simp [hp])]
  exact bis_more p _ _ _ _ (by omega) (by omega)

def absW (x : Nat) : Nat := x % 2 ^ 63
/-- the angle of a point, in the first quarter -/
def quad (u w : Nat) : Int := bisect (fun m => fle (fmul (sinP m) u) (fmul (cosP m) w)) 0 90000000001
def angleP (y x : Nat) : Int × Bool :=
  if !finP x || !finP y || (feq x 0 && feq y 0) then (0, false)
  else
    let r := quad (absW x) (absW y)
    if fge x 0 && fge y 0 then (r, true)
    else if fge y 0 then (180000000000 - r, true)
    else if flt x 0 then (180000000000 + r, true)
    else (normP (360000000000 - r), true)

/-- factorials, multiplied up on words -/
def facW : Nat → Nat
  | 0 => one
  | n + 1 => if n = 0 then one else fmul (facW n) (floatOfInt .f64 (n + 1 : Nat))
theorem fac_step (i : Nat) (h1 : 2 ≤ i) (h2 : i ≤ 17) : D.mul (facW (i - 1)) (floatOfInt .f64 (i : Int)) = some (facW i) := by
  have h : ∀ i < 18, 2 ≤ i → D.mul (facW (i - 1)) (floatOfInt .f64 ((i : Nat) : Int)) = some (facW i) := by decide +kernel
  exact h i (by omega) h1
def facS (k odd : Nat) : Nat := if k % 2 = 1 then Op.negFloat .f64 (facW (2 * k + odd)) else facW (2 * k + odd)
theorem fac_KK (k : Nat) (h1 : 1 ≤ k) (h2 : k ≤ 8) : D.div one (facS k 1) = some (KK.getD (k - 1) 0) := by
  have h : ∀ k < 9, 1 ≤ k → D.div one (facS k 1) = some (KK.getD (k - 1) 0) := by decide +kernel
  exact h k (by omega) h1
theorem fac_DD (k : Nat) (h1 : 1 ≤ k) (h2 : k ≤ 8) : D.div one (facS k 0) = some (DD.getD (k - 1) 0) := by
  have h : ∀ k < 9, 1 ≤ k → D.div one (facS k 0) = some (DD.getD (k - 1) 0) := by decide +kernel
  exact h k (by omega) h1
theorem tp_zero : Tp 0 0 := tp_of (by decide +kernel)
theorem kk_val {z : Nat} (hz : Tp 7 z) (k : Nat) (hk : k ≤ 8) : D.mul z (hor z (KK.drop k)) = some (fmul z (hor z (KK.drop k))) := by
  by_cases h8 : k = 8
  · subst h8
    exact (tp_mul hz (tp_zero.mono (b := 0) (by omega)) (by omega) (by omega)).1
  · have := tp_hor hz (KK.drop k) (by intro h; have := congrArg List.length h; simp [KK] at this; omega) (by simp [KK]; omega) (fun x hx => tp_KK x (List.drop_subset k KK hx))
    have hb : Tp 80 (hor z (KK.drop k)) := this.mono (by simp [KK]; omega)
    exact (tp_mul hz hb (by omega) (by omega)).1
theorem dd_val {z : Nat} (hz : Tp 7 z) (k : Nat) (hk : k ≤ 8) : D.mul z (hor z (DD.drop k)) = some (fmul z (hor z (DD.drop k))) := by
  by_cases h8 : k = 8
  · subst h8
    exact (tp_mul hz (tp_zero.mono (b := 0) (by omega)) (by omega) (by omega)).1
  · have := tp_hor hz (DD.drop k) (by intro h; have := congrArg List.length h; simp [DD] at this; omega) (by simp [DD]; omega) (fun x hx => tp_DD x (List.drop_subset k DD hx))
    have hb : Tp 80 (hor z (DD.drop k)) := this.mono (by simp [DD]; omega)
    exact (tp_mul hz hb (by omega) (by omega)).1
theorem quad_def (u w : Nat) : quad u w = bisect (fun m => fle (fmul (sinP m) u) (fmul (cosP m) w)) 0 90000000001 := rfl
attribute [irreducible] sinP cosP quad angleP
end Go.Fp

/- Regions that draw their order, walked once, where an operation's value need not be one and the same in every order. -/
namespace Go.Rel
open Go.RowKit

/-- all that was there is as it was -/
def Ext (w w' : World) : Prop := Below w.heap.size w w'
theorem Ext.refl (w : World) : Ext w w := Below.refl _ _
theorem Ext.trans {a b c : World} (h : Ext a b) (k : Ext b c) : Ext a c :=
  Below.trans h (Below.mono k h.size)

theorem Ext.drewN {a b : World} (h : Ext a b) (n : Nat) : Ext a (b.drewN n) := ⟨h.os, h.tape, h.output, h.size, h.block⟩
theorem Ext.drew {a b : World} (h : Ext a b) : Ext a b.drew := Below.drew h
theorem Ext.alloc {a b : World} (h : Ext a b) (o : Obj) : Ext a (b.alloc o) := Below.alloc h h.size o
theorem Ext.setCell {a b : World} (h : Ext a b) {p : Addr} (hp : a.heap.size ≤ p.block) (u : Value) : Ext a (b.setCell p u) := Below.setCell h hp u
theorem Ext.cell {a b : World} (h : Ext a b) (k o : Nat) (hk : k < a.heap.size) : b.cell? ⟨k, o, none⟩ = a.cell? ⟨k, o, none⟩ := Below.cell h (p := ⟨k, o, none⟩) hk
theorem Ext.frozen {a b : World} (h : Ext a b) (k o : Nat) (hk : k < a.heap.size) : b.frozen? ⟨k, o, none⟩ = a.frozen? ⟨k, o, none⟩ := Below.frozen h (p := ⟨k, o, none⟩) hk

/-- a call hands back this value; all that was there is as it was -/
def ExR (v : Value) (w : World) (e : Ending) (w' : World) : Prop := e = .returned v ∧ Ext w w'

section
variable {P : Program} {ops : Array Oper} {md : Region.Mode} {w0 : World} {F : FuncId → Array Value → Value → Prop}

/-- the operation goes through in every world that extends w0 -/
def Prog (P : Program) (F : FuncId → Array Value → Value → Prop) (w0 : World) (s : Sem Next) : Prop := ∀ w, Ext w0 w →
  match s.run P w with
  | .ok (.value _) w' => Ext w w'
  | .ok .skip w' => Ext w w'
  | .ok (.enter f args) w' => Ext w w' ∧ Calls P f args w' (fun e w'' => ∃ v, e = .returned v ∧ F f args v ∧ Ext w' w'')
  | _ => False

/-- v is what it can yield in such a world; w' comes behind that -/
def MayW (P : Program) (F : FuncId → Array Value → Value → Prop) (w0 : World) (s : Sem Next) (v : Value) (w' : World) : Prop := ∃ w, Ext w0 w ∧
  match s.run P w with
  | .ok (.value u) w2 => u = v ∧ Ext w2 w'
  | .ok .skip w2 => undef = v ∧ Ext w2 w'
  | .ok (.enter f args) w2 => F f args v ∧ Ext w2 w'
  | _ => False

theorem MayW.mono {s : Sem Next} {v : Value} {w w' : World} (h : MayW P F w0 s v w) (k : Ext w w') : MayW P F w0 s v w' := by
  obtain ⟨w1, h1, h2⟩ := h
  refine ⟨w1, h1, ?_⟩
  split at h2
  · exact ⟨h2.1, h2.2.trans k⟩
  · exact ⟨h2.1, h2.2.trans k⟩
  · exact ⟨h2.1, h2.2.trans k⟩
  · exact h2

def May (P : Program) (F : FuncId → Array Value → Value → Prop) (w0 : World) (s : Sem Next) (v : Value) : Prop := ∃ w', MayW P F w0 s v w'

theorem Prog.may {s : Sem Next} (h : Prog P F w0 s) : ∃ v, May P F w0 s v := by
  have h0 := h w0 (Ext.refl _)
  split at h0
  · rename_i v w' hr; exact ⟨v, w', w0, Ext.refl _, by rw [hr]; exact ⟨rfl, Ext.refl _⟩⟩
  · rename_i w' hr; exact ⟨undef, w', w0, Ext.refl _, by rw [hr]; exact ⟨rfl, Ext.refl _⟩⟩
  · rename_i f args w' hr
    obtain ⟨_, hc⟩ := h0
    obtain ⟨e, w'', _, ⟨v, _, hF, hx⟩, _⟩ := hc []
    exact ⟨v, w'', w0, Ext.refl _, by rw [hr]; exact ⟨hF, hx⟩⟩
  · exact h0.elim

abbrev Post := World → Prop

def rOp (P : Program) (ops : Array Oper) (F : FuncId → Array Value → Value → Prop) (w0 : World) (i : Nat) (K : Act → Post → Prop) (a : Act) (Φ : Post) : Prop :=
  match ops[i]? with
  | none => K a Φ
  | some o =>
    if Region.wanted o (yielded ops a.tmps) then
      Prog P F w0 (execOp a.eval o) ∧ ∀ v, May P F w0 (execOp a.eval o) v → K (a.put o.dst v) (fun w => Φ w ∧ MayW P F w0 (execOp a.eval o) v w)
    else K (a.put o.dst undef) Φ

/-- the walk in the text's order -/
def wpRel (P : Program) (ops : Array Oper) (F : FuncId → Array Value → Value → Prop) (w0 : World) (Q : Act → Post → Prop) : List Oper → Act → Post → Prop
  | [], a, Φ => Q a Φ
  | o :: rest, a, Φ =>
    if Region.wanted o (yielded ops a.tmps) then
      Prog P F w0 (execOp a.eval o) ∧ ∀ v, May P F w0 (execOp a.eval o) v → wpRel P ops F w0 Q rest (a.put o.dst v) (fun w => Φ w ∧ MayW P F w0 (execOp a.eval o) v w)
    else wpRel P ops F w0 Q rest (a.put o.dst undef) Φ

/-- a run of n operations in whatever order, then L -/
def wpAnyR (P : Program) (md : Region.Mode) (ops : Array Oper) (F : FuncId → Array Value → Value → Prop) (w0 : World) (n : Nat) (L : Array Bool → Act → Post → Prop) : Nat → Array Bool → Act → Post → Prop
  | 0, listed, a, Φ => L listed a Φ
  | f + 1, listed, a, Φ => Region.ready md ops listed ≠ [] ∧ ∀ i ∈ Region.ready md ops listed, i < n ∧ rOp P ops F w0 i (wpAnyR P md ops F w0 n L f (listed.setIfInBounds i true)) a Φ

theorem rOp_mono {i : Nat} {K K' : Act → Post → Prop} {a : Act} {Φ Φ' : Post} (hΦ : ∀ w, Φ' w → Φ w) (h : ∀ a Φ Φ', (∀ w, Φ' w → Φ w) → K a Φ → K' a Φ')
    (hh : rOp P ops F w0 i K a Φ) : rOp P ops F w0 i K' a Φ' := by
  unfold rOp at *
  split
  · rename_i ho; simp only [ho] at hh; exact h _ _ _ hΦ hh
  · rename_i o ho
    simp only [ho] at hh
    split
    · rename_i hw
      simp only [hw, if_true] at hh
      exact ⟨hh.1, fun v hv => h _ _ _ (fun w k => ⟨hΦ w k.1, k.2⟩) (hh.2 v hv)⟩
    · rename_i hw
      simp only [hw] at hh
      exact h _ _ _ hΦ hh

theorem wpAnyR_mono {n : Nat} {L : Array Bool → Act → Post → Prop} (hL : ∀ l a Φ Φ', (∀ w, Φ' w → Φ w) → L l a Φ → L l a Φ') :
    ∀ (f : Nat) (listed : Array Bool) (a : Act) (Φ Φ' : Post), (∀ w, Φ' w → Φ w) → wpAnyR P md ops F w0 n L f listed a Φ → wpAnyR P md ops F w0 n L f listed a Φ'
  | 0, listed, a, Φ, Φ', hΦ, h => hL listed a Φ Φ' hΦ h
  | f + 1, _, _, _, _, hΦ, h => ⟨h.1, fun i hi => ⟨(h.2 i hi).1, rOp_mono hΦ (fun a Φ Φ' k hh => wpAnyR_mono hL f _ a Φ Φ' k hh) (h.2 i hi).2⟩⟩

theorem wpOp_of_rOp {i : Nat} {a : Act} {K : Act → Post → Prop} {K' : Act → World → Prop} {Q' : Exit → Act → World → Prop} {w : World} {Φ : Post}
    (hw : Ext w0 w) (hΦ : Φ w) (hm : ∀ w w', Φ w → Ext w w' → Φ w')
    (h : ∀ a w' Φ', Ext w0 w' → Φ' w' → (∀ w w', Φ' w → Ext w w' → Φ' w') → K a Φ' → K' a w') (hh : rOp P ops F w0 i K a Φ) : wpOp P ops Q' i K' a w := by
  unfold rOp at hh
  unfold wpOp
  split
  · rename_i ho; simp only [ho] at hh; exact h _ _ _ hw hΦ hm hh
  · rename_i o ho
    simp only [ho] at hh
    split
    · rename_i hwd
      simp only [hwd, if_true] at hh
      obtain ⟨hp, hk⟩ := hh
      refine .inl ?_
      have hp1 := hp w hw
      have key : ∀ v w', May P F w0 (execOp a.eval o) v → Ext w w' → MayW P F w0 (execOp a.eval o) v w' → K' (a.put o.dst v) w' := fun v w' hc hx hC =>
        h _ _ (fun w => Φ w ∧ MayW P F w0 (execOp a.eval o) v w) (hw.trans hx) ⟨hm _ _ hΦ hx, hC⟩ (fun w w' k x => ⟨hm _ _ k.1 x, k.2.mono x⟩) (hk v hc)
      unfold Oper.wp
      cases hr : (execOp a.eval o).run P w with
      | ok x w' =>
        simp only [hr] at hp1
        cases x <;> simp only [Oper.upon] <;> first | (exact hp1.elim) | skip
        case value v =>
          have hC : MayW P F w0 (execOp a.eval o) v w' := ⟨w, hw, by rw [hr]; exact ⟨rfl, Ext.refl _⟩⟩
          exact key v w' ⟨w', hC⟩ hp1 hC
        case skip =>
          have hC : MayW P F w0 (execOp a.eval o) undef w' := ⟨w, hw, by rw [hr]; exact ⟨rfl, Ext.refl _⟩⟩
          exact key undef w' ⟨w', hC⟩ hp1 hC
        case enter f args =>
          refine hp1.2.mono ?_
          rintro e w'' ⟨v, rfl, hF, hx⟩
          have hC : MayW P F w0 (execOp a.eval o) v w'' := ⟨w, hw, by rw [hr]; exact ⟨hF, hx⟩⟩
          exact key v w'' ⟨w'', hC⟩ (hp1.1.trans hx) hC
      | halt x w' => simp only [hr] at hp1
    · rename_i hwd
      simp only [hwd] at hh
      exact h _ _ _ hw hΦ hm hh

theorem wpAny_of_rel {n g : Nat} {L : Array Bool → Act → Post → Prop} {Q' : Exit → Act → World → Prop}
    (hL : ∀ listed a w Φ, Ext w0 w → Φ w → L listed a Φ → wpAny P md ops Q' g listed a w) :
    ∀ (f : Nat) (listed : Array Bool) (a : Act) (w : World) (Φ : Post), Ext w0 w → Φ w → (∀ w w', Φ w → Ext w w' → Φ w') → wpAnyR P md ops F w0 n L f listed a Φ → wpAny P md ops Q' (f + g) listed a w
  | 0, listed, a, w, Φ, hw, hΦ, _, h => by rw [Nat.zero_add]; exact hL _ _ _ _ hw hΦ h
  | f + 1, listed, a, w, Φ, hw, hΦ, hm, h => by
    rw [show f + 1 + g = (f + g) + 1 by omega]
    exact ⟨fun h0 => absurd h0 h.1, fun i hi => wpOp_of_rOp hw hΦ hm (fun a' w' Φ' hw' hΦ' hm' h' => wpAny_of_rel hL f _ a' w' Φ' hw' hΦ' hm' h') (h.2 i hi).2⟩

/-- what an operation comes to in state a: the Sem term, or nothing -/
theorem rOp_first {n : Nat} {i : Nat} {oi : Oper} {L : Array Bool → Act → Post → Prop} (hi : ops[i]? = some oi) (hsel : ∀ (j : Nat) (o : Oper) cs b, ops[j]? = some o → o.op ≠ .select cs b)
    (hL : ∀ l a Φ Φ', (∀ w, Φ' w → Φ w) → L l a Φ → L l a Φ')
    (hready : ∀ listed, HeadInv md ops n listed → i ∈ Region.ready md ops listed → ∀ j ∈ Region.ready md ops listed, j < n)
    (hdone : ∀ listed a Φ, L listed a Φ → ∀ j ∈ Region.ready md ops listed, n ≤ j) :
    ∀ (f : Nat) (listed : Array Bool) (a : Act) (Φ : Post), HeadInv md ops n listed →
      (∀ j oj, ops[j]? = some oj → j ≠ i → listed.getD j true = false → (∀ e ∈ oj.after, Region.binds md e = true → e.on ≠ i) → oi.apart ops oj = true) →
      i ∈ Region.ready md ops listed → rOp P ops F w0 i (wpAnyR P md ops F w0 n L f (listed.setIfInBounds i true)) a Φ → wpAnyR P md ops F w0 n L (f + 1) listed a Φ := by
  intro f
  induction f with
  | zero =>
    intro listed a Φ inv _ hr H
    refine ⟨fun h => (by rw [h] at hr; cases hr), fun j hj => ⟨hready listed inv hr j hj, ?_⟩⟩
    by_cases hji : j = i
    · subst hji; exact H
    · exfalso
      have hjn := hready listed inv hr j hj
      have hex : ∃ a' Φ', wpAnyR P md ops F w0 n L 0 (listed.setIfInBounds i true) a' Φ' := by
        unfold rOp at H
        simp only [hi] at H
        split at H
        · obtain ⟨v, hv⟩ := H.1.may; exact ⟨_, _, H.2 v hv⟩
        · exact ⟨_, _, H⟩
      obtain ⟨a', Φ', h'⟩ := hex
      have := hdone _ _ _ h' j (ready_mono hj hji)
      omega
  | succ f ih =>
    intro listed a Φ inv hfree hr H
    have hun := (mem_ready.1 hr).1
    refine ⟨fun h => (by rw [h] at hr; cases hr), fun j hj => ⟨hready listed inv hr j hj, ?_⟩⟩
    by_cases hji : j = i
    · subst hji; exact H
    · have hjn := hready listed inv hr j hj
      obtain ⟨hjun, oj, hoj, hall⟩ := mem_ready.1 hj
      have hnot : ∀ e ∈ oj.after, Region.binds md e = true → e.on ≠ i := fun e he hb heq => by
        have h1 := hall e he hb
        rw [heq, getD_both hun] at h1
        cases h1
      have hap := hfree j oj hoj hji hjun hnot
      obtain ⟨h1, h2, h3⟩ := Oper.apart_spec hap
      have hfree' : ∀ k ok, ops[k]? = some ok → k ≠ i → (listed.setIfInBounds j true).getD k true = false →
          (∀ e ∈ ok.after, Region.binds md e = true → e.on ≠ i) → oi.apart ops ok = true := fun k ok hk hki hun' hno => by
        refine hfree k ok hk hki ?_ hno
        by_cases hjk : j = k
        · subst hjk; exact hjun
        · rw [getD_set_ne true hjk] at hun'; exact hun'
      have inv' := inv.set hj hjn
      have hr' := ready_mono hr (Ne.symm hji)
      -- the second one, seen behind the first
      have hjv : ∀ (v : Value) (Ψ : Post), wpAnyR P md ops F w0 n L (f + 1) (listed.setIfInBounds i true) (a.put oi.dst v) Ψ →
          rOp P ops F w0 j (wpAnyR P md ops F w0 n L f ((listed.setIfInBounds i true).setIfInBounds j true)) (a.put oi.dst v) Ψ := fun v Ψ h => (h.2 j (ready_mono hj hji)).2
      have ex_j : ∀ v, execOp (a.put oi.dst v).eval oj = execOp a.eval oj := fun v => execOp_put oj (fun cs b => hsel j oj cs b hoj) a oi.dst v h1
      have wa_j : ∀ v, Region.wanted oj (yielded ops (a.put oi.dst v).tmps) = Region.wanted oj (yielded ops a.tmps) := fun v => wanted_put oj a oi.dst v h1
      have ex_i : ∀ u, execOp (a.put oj.dst u).eval oi = execOp a.eval oi := fun u => execOp_put oi (fun cs b => hsel i oi cs b hi) a oj.dst u h3
      have wa_i : ∀ u, Region.wanted oi (yielded ops (a.put oj.dst u).tmps) = Region.wanted oi (yielded ops a.tmps) := fun u => wanted_put oi a oj.dst u h3
      unfold rOp at H
      simp only [hi] at H
      unfold rOp
      simp only [hoj]
      by_cases hwi : Region.wanted oi (yielded ops a.tmps) = true
      · simp only [hwi, if_true] at H
        obtain ⟨hpi, hki⟩ := H
        obtain ⟨v0, hv0⟩ := hpi.may
        have hj0 := hjv v0 _ (hki v0 hv0)
        unfold rOp at hj0
        simp only [hoj, wa_j, ex_j] at hj0
        by_cases hwj : Region.wanted oj (yielded ops a.tmps) = true
        · simp only [hwj, if_true] at hj0 ⊢
          refine ⟨hj0.1, fun u hu => ?_⟩
          refine ih (listed.setIfInBounds j true) (a.put oj.dst u) _ inv' hfree' hr' ?_
          unfold rOp
          simp only [hi, wa_i, ex_i, hwi, if_true]
          refine ⟨hpi, fun v hv => ?_⟩
          have hjv' := hjv v _ (hki v hv)
          unfold rOp at hjv'
          simp only [hoj, wa_j, ex_j, hwj, if_true] at hjv'
          have := hjv'.2 u hu
          rw [Array.setIfInBounds_comm _ _ hji]
          rw [← Act.put_comm a v u h2]
          exact wpAnyR_mono hL f _ _ _ _ (fun w k => ⟨⟨k.1.1, k.2⟩, k.1.2⟩) this
        · simp only [hwj] at hj0 ⊢
          refine ih (listed.setIfInBounds j true) (a.put oj.dst undef) _ inv' hfree' hr' ?_
          unfold rOp
          simp only [hi, wa_i, ex_i, hwi, if_true]
          refine ⟨hpi, fun v hv => ?_⟩
          have hjv' := hjv v _ (hki v hv)
          unfold rOp at hjv'
          simp only [hoj, wa_j, hwj] at hjv'
          rw [Array.setIfInBounds_comm _ _ hji]
          rw [← Act.put_comm a v undef h2]
          exact hjv'
      · simp only [hwi] at H
        have hj0 := hjv undef _ H
        unfold rOp at hj0
        simp only [hoj, wa_j, ex_j] at hj0
        by_cases hwj : Region.wanted oj (yielded ops a.tmps) = true
        · simp only [hwj, if_true] at hj0 ⊢
          refine ⟨hj0.1, fun u hu => ?_⟩
          refine ih (listed.setIfInBounds j true) (a.put oj.dst u) _ inv' hfree' hr' ?_
          unfold rOp
          simp only [hi, wa_i, hwi]
          have := hj0.2 u hu
          rw [Array.setIfInBounds_comm _ _ hji]
          rw [← Act.put_comm a undef u h2]
          exact this
        · simp only [hwj] at hj0 ⊢
          refine ih (listed.setIfInBounds j true) (a.put oj.dst undef) _ inv' hfree' hr' ?_
          unfold rOp
          simp only [hi, wa_i, hwi]
          rw [Array.setIfInBounds_comm _ _ hji]
          rw [← Act.put_comm a undef undef h2]
          exact hj0

theorem wpRel_lex {n g : Nat} {Q : Act → Post → Prop} (hQ : ∀ a Φ Φ', (∀ w, Φ' w → Φ w) → Q a Φ → Q a Φ') (hsel : Region.noSelect ops = true)
    (hready : ∀ listed i, i < n → HeadInv md ops n listed → i ∈ Region.ready md ops listed → ∀ j ∈ Region.ready md ops listed, j < n) :
    ∀ (l : List Oper) (k : Nat) (listed : Array Bool) (a : Act) (Φ : Post), (∀ j, j < l.length → l[j]? = ops[k + j]?) → k + l.length = n → HeadInv md ops n listed →
    Region.lexHead md ops g l.length k listed = true → wpRel P ops F w0 Q l a Φ →
    wpAnyR P md ops F w0 n (fun listed' a' Φ' => Region.seqB md ops g n listed' = true ∧ Q a' Φ') l.length listed a Φ
  | [], k, listed, a, Φ, _, hk, _, hB, h => by
    have : k = n := by simpa using hk
    subst this
    exact ⟨by simpa [Region.lexHead] using hB, h⟩
  | o :: l, k, listed, a, Φ, hl, hk, inv, hB, h => by
    have h0 : ops[k]? = some o := by simpa using (hl 0 (by simp)).symm
    simp only [List.length_cons, Region.lexHead, Bool.and_eq_true] at hB
    obtain ⟨⟨hr, hf⟩, hB'⟩ := hB
    have hkn : k < n := by simp only [List.length_cons] at hk; omega
    have hr' : k ∈ Region.ready md ops listed := by simpa using hr
    refine rOp_first h0 (Region.noSelect_spec hsel) (fun l a Φ Φ' k h => ⟨h.1, hQ _ _ _ k h.2⟩) (fun listed inv hi => hready listed k hkn inv hi) (fun listed' a' Φ' hL => seqB_ready hL.1) l.length listed a Φ inv
      (Region.free_spec h0 hf) hr' ?_
    have rest : ∀ a' Φ', wpRel P ops F w0 Q l a' Φ' → wpAnyR P md ops F w0 n (fun listed' a' Φ' => Region.seqB md ops g n listed' = true ∧ Q a' Φ') l.length (listed.setIfInBounds k true) a' Φ' := fun a' Φ' h' =>
      wpRel_lex hQ hsel hready l (k + 1) _ a' Φ' (fun j hj => by have := hl (j + 1) (by simp; omega); simpa [Nat.add_assoc, Nat.add_comm 1 j] using this) (by simp only [List.length_cons] at hk; omega) (inv.set hr' hkn) hB' h'
    unfold rOp
    simp only [h0]
    unfold wpRel at h
    split
    · rename_i hw; simp only [hw, if_true] at h; exact ⟨h.1, fun v hv => rest _ _ (h.2 v hv)⟩
    · rename_i hw; simp only [hw] at h; exact rest _ _ h

/-- asked of the region, closed -/
def relB (md : Region.Mode) (ops : Array Oper) (n : Nat) : Bool :=
  Region.noSelect ops && (n == ops.size || (decide (n < ops.size) && Region.sinkB md ops n && Region.chainB md ops n)) && Region.lexHead md ops (ops.size - n) n 0 (Array.replicate ops.size false)

theorem ready_lt {listed : Array Bool} {j : Nat} (hj : j ∈ Region.ready md ops listed) : j < ops.size := by
  obtain ⟨_, oj, hoj, _⟩ := mem_ready.1 hj
  exact (Array.getElem?_eq_some_iff.1 hoj).1

/-- THE FIRST n OPERATIONS IN WHATEVER ORDER, walked once in the text's; what is left of them stands in that order. -/
theorem wp_region_rel {id : Nat} {Q : Exit → Act → World → Prop} {a : Act} {w : World} {l : List Oper} (n : Nat) (F : FuncId → Array Value → Value → Prop) (hm : P.follows .mixedOrders = true) (hB : relB .any l.toArray n = true)
    (h : wpRel P l.toArray F w.drew (fun a' Φ => ∀ w', Ext w.drew w' → Φ w' → wpList P l.toArray Q (l.drop n) a' w') (l.take n) a (fun _ => True)) : (Code.region id l.toArray true).wp P Q a w := by
  simp only [relB, Bool.and_eq_true, Bool.or_eq_true, decide_eq_true_eq, beq_iff_eq] at hB
  obtain ⟨⟨hsel, hn⟩, hlex⟩ := hB
  have hn' : n ≤ l.length := by rcases hn with hn | hn <;> simp at hn <;> omega
  have htl : (l.take n).length = n := by simp; omega
  have hdl : (l.drop n).length = l.toArray.size - n := by simp
  have inv0 : HeadInv .any l.toArray n (Array.replicate l.toArray.size false) :=
    ⟨by simp, fun j oj _ hl => (by rw [getD_replicate_false] at hl; cases hl), fun t _ ht => getD_in (by simpa using ht) (getD_replicate_false _ _)⟩
  have hready : ∀ listed i, i < n → HeadInv .any l.toArray n listed → i ∈ Region.ready .any l.toArray listed → ∀ j ∈ Region.ready .any l.toArray listed, j < n := by
    intro listed i hi inv hir j hj
    rcases hn with hn | ⟨⟨hn, hs⟩, hc⟩
    · rw [hn]; exact ready_lt hj
    · rcases Nat.lt_or_ge j n with h | h
      · exact h
      · exact absurd hj (tail_waits hs hc hn inv _ i rfl hi (mem_ready.1 hir).1 j h)
  have H := wpRel_lex (md := .any) (g := l.toArray.size - n) (n := n) (P := P) (F := F) (w0 := w.drew) (Q := fun a' Φ => ∀ w', Ext w.drew w' → Φ w' → wpList P l.toArray Q (l.drop n) a' w')
    (fun a Φ Φ' k h w' hx hΦ => h w' hx (k _ hΦ)) hsel hready (l.take n) 0 _ a (fun _ => True) (fun j hj => by
    have hj' : j < n := by rw [htl] at hj; exact hj
    simp [hj']) (by simpa using htl) inv0 (by rw [htl]; exact hlex) h
  refine wp_region_any hm ?_
  have := wpAny_of_rel (Q' := Q) (g := l.toArray.size - n) (fun listed a' w' Φ hx hΦ hL => by
    have := wpAny_of_seq (md := .any) (Q' := Q) (l.drop n) n listed a' w' (fun j => by simp [List.getElem?_drop]) (by rw [hdl]; exact hL.1) (hL.2 w' hx hΦ)
    rwa [hdl] at this) _ _ _ w.drew _ (Ext.refl _) trivial (fun _ _ h _ => h) H
  have hsz : n + (l.toArray.size - n) = l.toArray.size := by
    have : l.toArray.size = l.length := by simp
    omega
  rw [htl, hsz] at this
  exact this

/-- What is asked of one operation, carried out in a world that extends the region's. -/
def relUpon (P : Program) (F : FuncId → Array Value → Value → Prop) (w : World) (K : Value → Prop) : Result Next → Prop
  | .ok (.value v) w' => Ext w w' ∧ K v
  | .ok .skip w' => Ext w w' ∧ K undef
  | .ok (.enter f args) w' => Ext w w' ∧ Calls P f args w' (fun e w'' => ∃ v, e = .returned v ∧ F f args v ∧ Ext w' w'') ∧ ∀ v, F f args v → K v
  | _ => False

@[go_sem] theorem Ext_self (w : World) : Ext w w = True := eq_true (Ext.refl w)
@[go_sem] theorem relUpon_value (w w' : World) (K : Value → Prop) (v : Value) : relUpon P F w K (.ok (.value v) w') = (Ext w w' ∧ K v) := rfl
@[go_sem] theorem relUpon_skip (w w' : World) (K : Value → Prop) : relUpon P F w K (.ok .skip w') = (Ext w w' ∧ K undef) := rfl

theorem prog_of_upon {s : Sem Next} {K : Value → Prop} (h : ∀ w, Ext w0 w → relUpon P F w K (s.run P w)) : Prog P F w0 s ∧ ∀ v, May P F w0 s v → K v := by
  refine ⟨fun w hw => ?_, fun v hv => ?_⟩
  · have h1 := h w hw
    unfold relUpon at h1
    split at h1
    · exact h1.1
    · exact h1.1
    · exact ⟨h1.1, h1.2.1⟩
    · exact h1.elim
  · obtain ⟨w', w, hw, h2⟩ := hv
    have h1 := h w hw
    unfold relUpon at h1
    split at h1
    · rename_i u w2 hr; rw [hr] at h2; rw [← h2.1]; exact h1.2
    · rename_i w2 hr; rw [hr] at h2; rw [← h2.1]; exact h1.2
    · rename_i f args w2 hr; rw [hr] at h2; exact h1.2.2 v h2.1
    · exact h1.elim

/-- the walk, as it is used: what is known of the worlds that come is kept only where it is asked for -/
def wpR (P : Program) (ops : Array Oper) (F : FuncId → Array Value → Value → Prop) (w0 : World) (Q : Act → Post → Prop) : List Oper → Act → Post → Prop
  | [], a, Φ => Q a Φ
  | o :: rest, a, Φ =>
    if Region.wanted o (yielded ops a.tmps) then
      Prog P F w0 (execOp a.eval o) ∧ ∃ G : Value → Post, (∀ v w, MayW P F w0 (execOp a.eval o) v w → G v w) ∧
        ∀ v, May P F w0 (execOp a.eval o) v → wpR P ops F w0 Q rest (a.put o.dst v) (fun w => Φ w ∧ G v w)
    else wpR P ops F w0 Q rest (a.put o.dst undef) Φ

theorem wpRel_of_wpR {Q : Act → Post → Prop} (hQ : ∀ a Φ Φ', (∀ w, Φ' w → Φ w) → Q a Φ → Q a Φ') : ∀ (l : List Oper) (a : Act) (Φ Φ' : Post), (∀ w, Φ' w → Φ w) → wpR P ops F w0 Q l a Φ → wpRel P ops F w0 Q l a Φ'
  | [], a, Φ, Φ', hΦ, h => hQ a Φ Φ' hΦ h
  | o :: l, a, Φ, Φ', hΦ, h => by
    unfold wpR at h
    unfold wpRel
    split
    · rename_i hw
      simp only [hw, if_true] at h
      obtain ⟨hp, G, hG, hk⟩ := h
      exact ⟨hp, fun v hv => wpRel_of_wpR hQ l _ _ _ (fun w k => ⟨hΦ w k.1, hG v w k.2⟩) (hk v hv)⟩
    · rename_i hw
      simp only [hw] at h
      exact wpRel_of_wpR hQ l _ _ _ hΦ h

theorem post_true (Φ : Post) : (fun w => Φ w ∧ True) = Φ := funext fun w => propext ⟨fun h => h.1, fun h => ⟨h, trivial⟩⟩

/-- one operation whose guard says yes -/
theorem wpR_want {Q : Act → Post → Prop} {a : Act} {o : Oper} {rest : List Oper} {Φ : Post} (hg : Region.wanted o (yielded ops a.tmps) = true)
    (h : ∀ w, Ext w0 w → ∀ K : Act → Prop, (∀ a, wpR P ops F w0 Q rest a Φ → K a) → relUpon P F w (fun v => K (a.put o.dst v)) ((execOp a.eval o).run P w)) :
    wpR P ops F w0 Q (o :: rest) a Φ := by
  unfold wpR
  rw [if_pos hg]
  have := prog_of_upon (K := fun v => wpR P ops F w0 Q rest (a.put o.dst v) Φ) (fun w hw => h w hw (fun a => wpR P ops F w0 Q rest a Φ) (fun a k => k))
  exact ⟨this.1, fun _ _ => True, fun _ _ _ => trivial, fun v hv => by rw [post_true]; exact this.2 v hv⟩
/-- one operation without a guard -/
theorem wpR_op {Q : Act → Post → Prop} {a : Act} {o : Oper} {rest : List Oper} {Φ : Post} (hg : o.guard = none)
    (h : ∀ w, Ext w0 w → ∀ K : Act → Prop, (∀ a, wpR P ops F w0 Q rest a Φ → K a) → relUpon P F w (fun v => K (a.put o.dst v)) ((execOp a.eval o).run P w)) :
    wpR P ops F w0 Q (o :: rest) a Φ := wpR_want (by simp [Region.wanted, hg]) h
theorem wpR_nil {Q : Act → Post → Prop} {a : Act} {Φ : Post} (h : Q a Φ) : wpR P ops F w0 Q [] a Φ := h

/-- block n holds these cells, none of them frozen -/
def Blk (w : World) (n : Nat) (t : TypeId) (cells : Array Value) : Prop := w.heap[n]? = some (.cells cells t (0, 0))
theorem Blk.lt {w : World} {n : Nat} {t : TypeId} {cs : Array Value} (h : Blk w n t cs) : n < w.heap.size := by
  unfold Blk at h
  exact (Array.getElem?_eq_some_iff.1 h).1
theorem Blk.ext {w w' : World} {n : Nat} {t : TypeId} {cs : Array Value} (h : Blk w n t cs) (hx : Ext w w') : Blk w' n t cs := by
  have hl := h.lt
  unfold Blk at *
  rw [hx.block n hl]; exact h
theorem Blk.cell {w : World} {n : Nat} {t : TypeId} {cs : Array Value} (h : Blk w n t cs) (i : Nat) : w.cell? ⟨n, i, none⟩ = cs[i]? := by
  unfold Blk at h
  simp [World.cell?, h]
theorem Blk.frozen {w : World} {n : Nat} {t : TypeId} {cs : Array Value} (h : Blk w n t cs) (i : Nat) : w.frozen? ⟨n, i, none⟩ = false := by
  unfold Blk at h
  simp [World.frozen?, h]

theorem Blk.new (w : World) (cs : Array Value) (t : TypeId) : Blk (w.alloc (.cells cs t)) w.heap.size t cs := by
  unfold Blk
  show (w.heap.push _)[w.heap.size]? = _
  simp
theorem Blk.other {w w' : World} {g n : Nat} {t : TypeId} {cs : Array Value} (h : Blk w n t cs) (ho : ∀ n, n ≠ g → w'.heap[n]? = w.heap[n]?) (hn : n ≠ g) : Blk w' n t cs := by
  unfold Blk at *
  rw [ho n hn]; exact h
theorem Blk.drewN {w : World} {n : Nat} {t : TypeId} {cs : Array Value} (h : Blk w n t cs) (k : Nat) : Blk (w.drewN k) n t cs := h
theorem Blk.drew {w : World} {n : Nat} {t : TypeId} {cs : Array Value} (h : Blk w n t cs) : Blk w.drew n t cs := h
theorem alloc_size (w : World) (o : Obj) : (w.alloc o).heap.size = w.heap.size + 1 := by
  show (w.heap.push _).size = _
  simp
theorem Ext.of_drew {w w' : World} (h : Ext w.drew w') : Ext w w' := ⟨h.os, h.tape, h.output, h.size, h.block⟩
/-- what is known behind a call, where the caller had laid one block, two .. -/
theorem ext1 {w w' : World} {c1 : Array Value} {t1 : TypeId} (h : Ext (w.alloc (.cells c1 t1)) w') : Blk w' w.heap.size t1 c1 ∧ Ext w w' :=
  ⟨(Blk.new w c1 t1).ext h, ((Ext.refl w).alloc _).trans h⟩
theorem ext2 {w w' : World} {c1 c2 : Array Value} {t1 t2 : TypeId} (h : Ext ((w.alloc (.cells c1 t1)).alloc (.cells c2 t2)) w') : Blk w' w.heap.size t1 c1 ∧ Blk w' (w.heap.size + 1) t2 c2 ∧ Ext w w' := by
  obtain ⟨h2, hx⟩ := ext1 h
  rw [alloc_size] at h2
  obtain ⟨h1, hy⟩ := ext1 hx
  exact ⟨h1, h2, hy⟩
theorem ext3 {w w' : World} {c1 c2 c3 : Array Value} {t1 t2 t3 : TypeId} (h : Ext (((w.alloc (.cells c1 t1)).alloc (.cells c2 t2)).alloc (.cells c3 t3)) w') : Blk w' w.heap.size t1 c1 ∧ Blk w' (w.heap.size + 1) t2 c2 ∧ Blk w' (w.heap.size + 1 + 1) t3 c3 ∧ Ext w w' := by
  obtain ⟨h3, hx⟩ := ext1 h
  rw [alloc_size, alloc_size] at h3
  obtain ⟨h1, h2, hy⟩ := ext2 hx
  exact ⟨h1, h2, h3, hy⟩

/-- THE WHOLE REGION in whatever order. -/
theorem wp_region_all {id : Nat} {Q : Exit → Act → World → Prop} {a : Act} {w : World} {l : List Oper} (F : FuncId → Array Value → Value → Prop) (hm : P.follows .mixedOrders = true) (hB : relB .any l.toArray l.length = true)
    (h : wpR P l.toArray F w.drew (fun a' Φ => ∀ w', Ext w.drew w' → Φ w' → Q .normal a' w') l a (fun _ => True)) : (Code.region id l.toArray true).wp P Q a w := by
  refine wp_region_rel l.length F hm hB ?_
  rw [List.take_length, List.drop_length]
  exact wpRel_of_wpR (fun a Φ Φ' k h w' hx hΦ => h w' hx (k _ hΦ)) _ _ _ _ (fun _ k => k) h
/-- ITS FIRST n OPERATIONS so, the others in the text's order. -/
theorem wp_region_head {id : Nat} {Q : Exit → Act → World → Prop} {a : Act} {w : World} {l : List Oper} (n : Nat) (F : FuncId → Array Value → Value → Prop) (hm : P.follows .mixedOrders = true) (hB : relB .any l.toArray n = true)
    (h : wpR P l.toArray F w.drew (fun a' Φ => ∀ w', Ext w.drew w' → Φ w' → wpList P l.toArray Q (l.drop n) a' w') (l.take n) a (fun _ => True)) : (Code.region id l.toArray true).wp P Q a w :=
  wp_region_rel n F hm hB (wpRel_of_wpR (fun a Φ Φ' k h w' hx hΦ => h w' hx (k _ hΦ)) _ _ _ _ (fun _ k => k) h)

theorem setRow_other (w : World) (g : Nat) (cs : Array Value) (k : Nat) (h : k ≠ g) : (w.setRow g cs).heap[k]? = w.heap[k]? := by
  simp only [World.setRow, Array.getElem?_modify]
  rw [if_neg (by omega)]

/-- a row of cells stored into a block of one's own: behind it the world is known by that block and by what else was there -/
theorem wpList_own {ops : Array Oper} {rest : List Oper} {o : Oper} {a : Act} {w : World} {Q : Exit → Act → World → Prop} (hgd : o.guard = none) (ty : TypeId) (x y : Operand) (ho : o.op = .store ty x y)
    (g : Nat) (cells : Array Value) (hx : a.eval x = .pointer (some ⟨g, 0, none⟩)) (hy : a.eval y = .agg cells)
    (t : TypeId) (old : Array Value) (hg : Blk w g t old) (hi : (P.info? ty).map (·.size) = some cells.size)
    (hold : old.size = cells.size) (h1 : cells.all (·.oneCell') = true)
    (h : ∀ w', Blk w' g t cells → (∀ b, Ext b w → b.heap.size ≤ g → Ext b w') → (∀ n, n ≠ g → w'.heap[n]? = w.heap[n]?) → wpList P ops Q rest (a.put o.dst undef) w') : wpList P ops Q (o :: rest) a w := by
  refine wpList_store_row hgd ty x y ho g cells hx hy t old hg hi hold h1 (h _ ?_ ?_ ?_)
  · exact setRow_heap w g old cells t (0, 0) hg
  · intro b hb hbg
    refine ⟨hb.os, hb.tape, hb.output, ?_, fun k hk => ?_⟩
    · rw [show (w.setRow g cells).heap.size = w.heap.size from by simp [World.setRow]]; exact hb.size
    · rw [setRow_other w g cells k (by omega)]; exact hb.block k hk
  · intro n hn
    exact setRow_other w g cells n hn
end
end Go.Rel

/- Regions that draw their order and lay two blocks: the two are not one. -/
namespace Go.Rel
open Go.RowKit

section
variable {P : Program} {ops : Array Oper} {md : Region.Mode} {w0 : World} {F : FuncId → Array Value → Value → Prop}

/-- operation i has been carried out -/
def Went (P : Program) (ops : Array Oper) (i : Nat) (a : Act) (w : World) (a' : Act) (w' : World) : Prop :=
  ∃ o v, ops[i]? = some o ∧ a' = a.put o.dst v ∧ Ext w w' ∧ (o.guard = none → ∀ u w2, (execOp a.eval o).run P w = .ok (.value u) w2 → v = u ∧ w' = w2)

/-- blocks laid by operations p and q -/
structure PairI (p q : Nat) (dp dq : Tmp) (listed : Array Bool) (a : Act) (w : World) : Prop where
  inp : dp < a.tmps.size
  inq : dq < a.tmps.size
  atp : listed.getD p false = true → ∃ n, a.tmps.getD dp undef = .pointer (some ⟨n, 0, none⟩) ∧ n < w.heap.size
  atq : listed.getD q false = true → ∃ n, a.tmps.getD dq undef = .pointer (some ⟨n, 0, none⟩) ∧ n < w.heap.size
  ne : listed.getD p false = true → listed.getD q false = true → a.tmps.getD dp undef ≠ a.tmps.getD dq undef

/-- closed: p lays into dp, q into dq, nobody else writes there -/
def pairB (ops : Array Oper) (p q : Nat) (dp dq : Tmp) : Bool :=
  decide (p ≠ q) && decide (dp ≠ dq) && (List.range ops.size).all fun k => match ops[k]? with
    | some o => (if k = p then o.dst == some dp && o.guard.isNone else o.dst != some dp) && (if k = q then o.dst == some dq && o.guard.isNone else o.dst != some dq)
    | none => false

theorem put_size (a : Act) (d : Option Tmp) (v : Value) : (a.put d v).tmps.size = a.tmps.size := by
  unfold Act.put; split <;> simp
theorem put_getD_same (a : Act) (d : Tmp) (v : Value) (h : d < a.tmps.size) : (a.put (some d) v).tmps.getD d undef = v := by
  simp [Act.put, h]
theorem put_getD_other (a : Act) (d : Option Tmp) (e : Tmp) (v : Value) (h : d ≠ some e) : (a.put d v).tmps.getD e undef = a.tmps.getD e undef := by
  unfold Act.put
  split
  · rename_i k
    have : k ≠ e := fun hk => h (by rw [hk])
    simp [Array.getElem?_setIfInBounds_ne this]
  · rfl

theorem PairI.step {p q : Nat} {dp dq : Tmp} (hB : pairB ops p q dp dq = true)
    (hrp : ∀ o, ops[p]? = some o → ∀ (a : Act) w, ∃ O, (execOp a.eval o).run P w = .ok (.value (.pointer (some ⟨w.heap.size, 0, none⟩))) (w.alloc O))
    (hrq : ∀ o, ops[q]? = some o → ∀ (a : Act) w, ∃ O, (execOp a.eval o).run P w = .ok (.value (.pointer (some ⟨w.heap.size, 0, none⟩))) (w.alloc O))
    (listed : Array Bool) (i : Nat) (a : Act) (w : World) (a' : Act) (w' : World) (h : PairI p q dp dq listed a w) (hst : Went P ops i a w a' w') :
    PairI p q dp dq (listed.setIfInBounds i true) a' w' := by
  obtain ⟨o, v, ho, rfl, hx, hv⟩ := hst
  simp only [pairB, Bool.and_eq_true, decide_eq_true_eq] at hB
  obtain ⟨⟨hpq, hd⟩, hall⟩ := hB
  have hil : i < ops.size := (Array.getElem?_eq_some_iff.1 ho).1
  have hi := List.all_eq_true.1 hall i (List.mem_range.2 hil)
  simp only [ho, Bool.and_eq_true] at hi
  obtain ⟨h1, h2⟩ := hi
  have hsz := hx.size
  by_cases hip : i = p
  · subst hip
    rw [if_pos rfl] at h1
    rw [if_neg hpq] at h2
    simp only [Bool.and_eq_true, beq_iff_eq, Option.isNone_iff_eq_none, bne_iff_ne, ne_eq] at h1 h2
    obtain ⟨O, hrun⟩ := hrp o ho a w
    obtain ⟨rfl, rfl⟩ := hv h1.2 _ _ hrun
    have ep : (a.put o.dst (.pointer (some ⟨w.heap.size, 0, none⟩))).tmps.getD dp undef = .pointer (some ⟨w.heap.size, 0, none⟩) := by rw [h1.1]; exact put_getD_same _ _ _ h.inp
    have eq : (a.put o.dst (.pointer (some ⟨w.heap.size, 0, none⟩))).tmps.getD dq undef = a.tmps.getD dq undef := put_getD_other _ _ _ _ h2
    have hlq : listed.getD q false = true → ∃ n, a.tmps.getD dq undef = .pointer (some ⟨n, 0, none⟩) ∧ n < w.heap.size := h.atq
    refine ⟨by rw [put_size]; exact h.inp, by rw [put_size]; exact h.inq, fun _ => ⟨_, ep, by rw [alloc_size]; omega⟩, fun hq => ?_, fun _ hq => ?_⟩
    · rw [getD_set_ne false hpq] at hq
      obtain ⟨n, e, hn⟩ := hlq hq
      exact ⟨n, by rw [eq, e], by rw [alloc_size]; omega⟩
    · rw [getD_set_ne false hpq] at hq
      obtain ⟨n, e, hn⟩ := hlq hq
      rw [ep, eq, e]
      intro hc
      injection hc with hc; injection hc with hc; injection hc with hc
      omega
  · by_cases hiq : i = q
    · subst hiq
      rw [if_neg hip] at h1
      rw [if_pos rfl] at h2
      simp only [Bool.and_eq_true, beq_iff_eq, Option.isNone_iff_eq_none, bne_iff_ne, ne_eq] at h1 h2
      obtain ⟨O, hrun⟩ := hrq o ho a w
      obtain ⟨rfl, rfl⟩ := hv h2.2 _ _ hrun
      have ep : (a.put o.dst (.pointer (some ⟨w.heap.size, 0, none⟩))).tmps.getD dq undef = .pointer (some ⟨w.heap.size, 0, none⟩) := by rw [h2.1]; exact put_getD_same _ _ _ h.inq
      have eq : (a.put o.dst (.pointer (some ⟨w.heap.size, 0, none⟩))).tmps.getD dp undef = a.tmps.getD dp undef := put_getD_other _ _ _ _ h1
      refine ⟨by rw [put_size]; exact h.inp, by rw [put_size]; exact h.inq, fun hp => ?_, fun _ => ⟨_, ep, by rw [alloc_size]; omega⟩, fun hp _ => ?_⟩
      · rw [getD_set_ne false hip] at hp
        obtain ⟨n, e, hn⟩ := h.atp hp
        exact ⟨n, by rw [eq, e], by rw [alloc_size]; omega⟩
      · rw [getD_set_ne false hip] at hp
        obtain ⟨n, e, hn⟩ := h.atp hp
        rw [ep, eq, e]
        intro hc
        injection hc with hc; injection hc with hc; injection hc with hc
        omega
    · rw [if_neg hip] at h1
      rw [if_neg hiq] at h2
      simp only [bne_iff_ne, ne_eq] at h1 h2
      have ep := put_getD_other a o.dst dp v h1
      have eq := put_getD_other a o.dst dq v h2
      refine ⟨by rw [put_size]; exact h.inp, by rw [put_size]; exact h.inq, fun hp => ?_, fun hq => ?_, fun hp hq => ?_⟩
      · rw [getD_set_ne false hip] at hp
        obtain ⟨n, e, hn⟩ := h.atp hp
        exact ⟨n, by rw [ep, e], by omega⟩
      · rw [getD_set_ne false hiq] at hq
        obtain ⟨n, e, hn⟩ := h.atq hq
        exact ⟨n, by rw [eq, e], by omega⟩
      · rw [getD_set_ne false hip] at hp
        rw [getD_set_ne false hiq] at hq
        rw [ep, eq]; exact h.ne hp hq

end
end Go.Rel

/- Regions that draw their order, walked once, where an operation may lean on what those whose values it takes have made: each value bears a word on the world (R). -/
namespace Go.Rel
open Go.RowKit

/-- a word on a value and a world that no later world takes back -/
structure Told (R : Value → World → Prop) : Prop where
  mono : ∀ v w w', R v w → Ext w w' → R v w'
  undef : ∀ w, R undef w

section
variable {P : Program} {ops : Array Oper} {md : Region.Mode} {w0 : World} {F : FuncId → Array Value → Value → Prop} {R : Value → World → Prop}

/-- the values that an operation takes are told -/
def needs (ops : Array Oper) (R : Value → World → Prop) (o : Oper) (a : Act) (w : World) : Prop := ∀ d ∈ o.looksAt ops, R (a.tmps.getD d undef) w
theorem needs_put {o : Oper} {a : Act} {dst : Option Tmp} (v : Value) (h : ∀ d, dst = some d → d ∉ o.looksAt ops) : needs ops R o (a.put dst v) = needs ops R o a := by
  funext w
  unfold needs
  refine propext ⟨fun k d hd => ?_, fun k d hd => ?_⟩
  · have := k d hd
    rwa [put_getD_other a dst d v (fun e => h d e hd)] at this
  · rw [put_getD_other a dst d v (fun e => h d e hd)]
    exact k d hd

def ProgD (P : Program) (F : FuncId → Array Value → Value → Prop) (R : Value → World → Prop) (w0 : World) (D : World → Prop) (s : Sem Next) : Prop := ∀ w, Ext w0 w → D w →
  match s.run P w with
  | .ok (.value v) w' => Ext w w' ∧ R v w'
  | .ok .skip w' => Ext w w'
  | .ok (.enter f args) w' => Ext w w' ∧ Calls P f args w' (fun e w'' => ∃ v, e = .returned v ∧ F f args v ∧ R v w'' ∧ Ext w' w'')
  | _ => False
def MayD (P : Program) (F : FuncId → Array Value → Value → Prop) (R : Value → World → Prop) (w0 : World) (D : World → Prop) (s : Sem Next) (v : Value) (w' : World) : Prop := ∃ w, Ext w0 w ∧ D w ∧
  match s.run P w with
  | .ok (.value u) w2 => u = v ∧ R v w2 ∧ Ext w2 w'
  | .ok .skip w2 => undef = v ∧ Ext w2 w'
  | .ok (.enter f args) w2 => F f args v ∧ ∃ w3, R v w3 ∧ Ext w2 w3 ∧ Ext w3 w'
  | _ => False
theorem MayD.mono {D : World → Prop} {s : Sem Next} {v : Value} {w w' : World} (h : MayD P F R w0 D s v w) (k : Ext w w') : MayD P F R w0 D s v w' := by
  obtain ⟨w1, h1, hD, h2⟩ := h
  refine ⟨w1, h1, hD, ?_⟩
  split at h2
  · exact ⟨h2.1, h2.2.1, h2.2.2.trans k⟩
  · exact ⟨h2.1, h2.2.trans k⟩
  · obtain ⟨hF, w3, hR, x, y⟩ := h2
    exact ⟨hF, w3, hR, x, y.trans k⟩
  · exact h2
theorem MayD.told {D : World → Prop} {s : Sem Next} {v : Value} {w : World} (hR : Told R) (h : MayD P F R w0 D s v w) : R v w := by
  obtain ⟨w1, h1, hD, h2⟩ := h
  split at h2
  · exact hR.mono _ _ _ h2.2.1 h2.2.2
  · rw [← h2.1]; exact hR.undef _
  · obtain ⟨hF, w3, hv, x, y⟩ := h2
    exact hR.mono _ _ _ hv y
  · exact h2.elim
/-- in a world in which it goes through it yields something -/
theorem ProgD.may {D : World → Prop} {s : Sem Next} (h : ProgD P F R w0 D s) {w : World} (hw : Ext w0 w) (hD : D w) : ∃ v w', Ext w w' ∧ MayD P F R w0 D s v w' := by
  have h0 := h w hw hD
  split at h0
  · rename_i v w' hr; exact ⟨v, w', h0.1, w, hw, hD, by rw [hr]; exact ⟨rfl, h0.2, Ext.refl _⟩⟩
  · rename_i w' hr; exact ⟨undef, w', h0, w, hw, hD, by rw [hr]; exact ⟨rfl, Ext.refl _⟩⟩
  · rename_i f args w' hr
    obtain ⟨hx0, hc⟩ := h0
    obtain ⟨e, w'', _, ⟨v, _, hF, hRv, hx⟩, _⟩ := hc []
    exact ⟨v, w'', hx0.trans hx, w, hw, hD, by rw [hr]; exact ⟨hF, w'', hRv, hx, Ext.refl _⟩⟩
  · exact h0.elim

/-- what is known ahead of an operation -/
structure St (R : Value → World → Prop) (w0 : World) (a : Act) (Φ : Post) : Prop where
  mono : ∀ w w', Φ w → Ext w w' → Φ w'
  all : ∀ w, Ext w0 w → Φ w → ∀ d, R (a.tmps.getD d undef) w
  live : ∃ w, Ext w0 w ∧ Φ w
theorem told_put {w : World} {a : Act} {dst : Option Tmp} {v : Value} (hR : Told R) (h : ∀ d, R (a.tmps.getD d undef) w) (hv : R v w) (d : Tmp) : R ((a.put dst v).tmps.getD d undef) w := by
  by_cases e : dst = some d
  · subst e
    by_cases hd : d < a.tmps.size
    · rw [put_getD_same a d v hd]; exact hv
    · have : (a.put (some d) v).tmps.getD d undef = undef := by simp [Act.put, hd]
      rw [this]; exact hR.undef _
  · rw [put_getD_other a dst d v e]; exact h d
theorem St.step {a : Act} {Φ : Post} {D : World → Prop} {s : Sem Next} {dst : Option Tmp} {v : Value} (hR : Told R) (h : St R w0 a Φ) (hl : ∃ w, Ext w0 w ∧ Φ w ∧ MayD P F R w0 D s v w) :
    St R w0 (a.put dst v) (fun w => Φ w ∧ MayD P F R w0 D s v w) where
  mono := fun w w' k x => ⟨h.mono _ _ k.1 x, k.2.mono x⟩
  all := fun w hw k d => told_put hR (h.all w hw k.1) (k.2.told hR) d
  live := hl
theorem St.skip {a : Act} {Φ : Post} {dst : Option Tmp} (hR : Told R) (h : St R w0 a Φ) : St R w0 (a.put dst undef) Φ where
  mono := h.mono
  all := fun w hw k d => told_put hR (h.all w hw k) (hR.undef w) d
  live := h.live
theorem St.need {a : Act} {Φ : Post} (h : St R w0 a Φ) (o : Oper) {w : World} (hw : Ext w0 w) (k : Φ w) : needs ops R o a w := fun d _ => h.all w hw k d
theorem St.may {a : Act} {Φ : Post} {o : Oper} (h : St R w0 a Φ) (hp : ProgD P F R w0 (needs ops R o a) (execOp a.eval o)) :
    ∃ v w, Ext w0 w ∧ Φ w ∧ MayD P F R w0 (needs ops R o a) (execOp a.eval o) v w := by
  obtain ⟨w, hw, hΦ⟩ := h.live
  obtain ⟨v, w', hx, hm⟩ := hp.may hw (h.need o hw hΦ)
  exact ⟨v, w', hw.trans hx, h.mono _ _ hΦ hx, hm⟩

def rOpD (P : Program) (ops : Array Oper) (F : FuncId → Array Value → Value → Prop) (R : Value → World → Prop) (w0 : World) (i : Nat) (K : Act → Post → Prop) (a : Act) (Φ : Post) : Prop :=
  match ops[i]? with
  | none => K a Φ
  | some o =>
    if Region.wanted o (yielded ops a.tmps) then
      ProgD P F R w0 (needs ops R o a) (execOp a.eval o) ∧ ∀ v, (∃ w, Ext w0 w ∧ Φ w ∧ MayD P F R w0 (needs ops R o a) (execOp a.eval o) v w) → K (a.put o.dst v) (fun w => Φ w ∧ MayD P F R w0 (needs ops R o a) (execOp a.eval o) v w)
    else K (a.put o.dst undef) Φ
def wpRelD (P : Program) (ops : Array Oper) (F : FuncId → Array Value → Value → Prop) (R : Value → World → Prop) (w0 : World) (Q : Act → Post → Prop) : List Oper → Act → Post → Prop
  | [], a, Φ => Q a Φ
  | o :: rest, a, Φ =>
    if Region.wanted o (yielded ops a.tmps) then
      ProgD P F R w0 (needs ops R o a) (execOp a.eval o) ∧ ∀ v, (∃ w, Ext w0 w ∧ Φ w ∧ MayD P F R w0 (needs ops R o a) (execOp a.eval o) v w) → wpRelD P ops F R w0 Q rest (a.put o.dst v) (fun w => Φ w ∧ MayD P F R w0 (needs ops R o a) (execOp a.eval o) v w)
    else wpRelD P ops F R w0 Q rest (a.put o.dst undef) Φ
def wpAnyD (P : Program) (md : Region.Mode) (ops : Array Oper) (F : FuncId → Array Value → Value → Prop) (R : Value → World → Prop) (w0 : World) (n : Nat) (L : Array Bool → Act → Post → Prop) : Nat → Array Bool → Act → Post → Prop
  | 0, listed, a, Φ => L listed a Φ
  | f + 1, listed, a, Φ => Region.ready md ops listed ≠ [] ∧ ∀ i ∈ Region.ready md ops listed, i < n ∧ rOpD P ops F R w0 i (wpAnyD P md ops F R w0 n L f (listed.setIfInBounds i true)) a Φ

theorem rOpD_mono {i : Nat} {K K' : Act → Post → Prop} {a : Act} {Φ Φ' : Post} (hΦ : ∀ w, Φ' w → Φ w) (h : ∀ a Φ Φ', (∀ w, Φ' w → Φ w) → K a Φ → K' a Φ')
    (hh : rOpD P ops F R w0 i K a Φ) : rOpD P ops F R w0 i K' a Φ' := by
  unfold rOpD at *
  split
  · rename_i ho; simp only [ho] at hh; exact h _ _ _ hΦ hh
  · rename_i o ho
    simp only [ho] at hh
    split
    · rename_i hw
      simp only [hw, if_true] at hh
      refine ⟨hh.1, fun v hv => h _ _ _ (fun w k => ⟨hΦ w k.1, k.2⟩) (hh.2 v ?_)⟩
      obtain ⟨w, x, y, z⟩ := hv
      exact ⟨w, x, hΦ w y, z⟩
    · rename_i hw
      simp only [hw] at hh
      exact h _ _ _ hΦ hh
theorem wpAnyD_mono {n : Nat} {L : Array Bool → Act → Post → Prop} (hL : ∀ l a Φ Φ', (∀ w, Φ' w → Φ w) → L l a Φ → L l a Φ') :
    ∀ (f : Nat) (listed : Array Bool) (a : Act) (Φ Φ' : Post), (∀ w, Φ' w → Φ w) → wpAnyD P md ops F R w0 n L f listed a Φ → wpAnyD P md ops F R w0 n L f listed a Φ'
  | 0, listed, a, Φ, Φ', hΦ, h => hL listed a Φ Φ' hΦ h
  | f + 1, _, _, _, _, hΦ, h => ⟨h.1, fun i hi => ⟨(h.2 i hi).1, rOpD_mono hΦ (fun a Φ Φ' k hh => wpAnyD_mono hL f _ a Φ Φ' k hh) (h.2 i hi).2⟩⟩

theorem wpOp_of_rOpD {i : Nat} {a : Act} {K : Act → Post → Prop} {K' : Act → World → Prop} {Q' : Exit → Act → World → Prop} {w : World} {Φ : Post} (hR : Told R)
    (hw : Ext w0 w) (hΦ : Φ w) (hs : St R w0 a Φ)
    (h : ∀ a w' Φ', Ext w0 w' → Φ' w' → St R w0 a Φ' → K a Φ' → K' a w') (hh : rOpD P ops F R w0 i K a Φ) : wpOp P ops Q' i K' a w := by
  unfold rOpD at hh
  unfold wpOp
  split
  · rename_i ho; simp only [ho] at hh; exact h _ _ _ hw hΦ hs hh
  · rename_i o ho
    simp only [ho] at hh
    split
    · rename_i hwd
      simp only [hwd, if_true] at hh
      obtain ⟨hp, hk⟩ := hh
      refine .inl ?_
      have hp1 := hp w hw (hs.need o hw hΦ)
      have key : ∀ v w', Ext w w' → MayD P F R w0 (needs ops R o a) (execOp a.eval o) v w' → K' (a.put o.dst v) w' := fun v w' hx hC =>
        have hl : ∃ w, Ext w0 w ∧ Φ w ∧ MayD P F R w0 (needs ops R o a) (execOp a.eval o) v w := ⟨w', hw.trans hx, hs.mono _ _ hΦ hx, hC⟩
        h _ _ _ (hw.trans hx) ⟨hs.mono _ _ hΦ hx, hC⟩ (hs.step hR hl) (hk v hl)
      unfold Oper.wp
      cases hr : (execOp a.eval o).run P w with
      | ok x w' =>
        simp only [hr] at hp1
        cases x <;> simp only [Oper.upon] <;> first | (exact hp1.elim) | skip
        case value v => exact key v w' hp1.1 ⟨w, hw, hs.need o hw hΦ, by rw [hr]; exact ⟨rfl, hp1.2, Ext.refl _⟩⟩
        case skip => exact key undef w' hp1 ⟨w, hw, hs.need o hw hΦ, by rw [hr]; exact ⟨rfl, Ext.refl _⟩⟩
        case enter f args =>
          refine hp1.2.mono ?_
          rintro e w'' ⟨v, rfl, hF, hRv, hx⟩
          exact key v w'' (hp1.1.trans hx) ⟨w, hw, hs.need o hw hΦ, by rw [hr]; exact ⟨hF, w'', hRv, hx, Ext.refl _⟩⟩
      | halt x w' => simp only [hr] at hp1
    · rename_i hwd
      simp only [hwd] at hh
      exact h _ _ _ hw hΦ (hs.skip hR) hh

theorem wpAny_of_relD {n g : Nat} {L : Array Bool → Act → Post → Prop} {Q' : Exit → Act → World → Prop} (hR : Told R)
    (hL : ∀ listed a w Φ, Ext w0 w → Φ w → L listed a Φ → wpAny P md ops Q' g listed a w) :
    ∀ (f : Nat) (listed : Array Bool) (a : Act) (w : World) (Φ : Post), Ext w0 w → Φ w → St R w0 a Φ → wpAnyD P md ops F R w0 n L f listed a Φ → wpAny P md ops Q' (f + g) listed a w
  | 0, listed, a, w, Φ, hw, hΦ, _, h => by rw [Nat.zero_add]; exact hL _ _ _ _ hw hΦ h
  | f + 1, listed, a, w, Φ, hw, hΦ, hm, h => by
    rw [show f + 1 + g = (f + g) + 1 by omega]
    exact ⟨fun h0 => absurd h0 h.1, fun i hi => wpOp_of_rOpD hR hw hΦ hm (fun a' w' Φ' hw' hΦ' hm' h' => wpAny_of_relD hR hL f _ a' w' Φ' hw' hΦ' hm' h') (h.2 i hi).2⟩

theorem rOpD_first {n : Nat} {i : Nat} {oi : Oper} {L : Array Bool → Act → Post → Prop} (hR : Told R) (hi : ops[i]? = some oi) (hsel : ∀ (j : Nat) (o : Oper) cs b, ops[j]? = some o → o.op ≠ .select cs b)
    (hL : ∀ l a Φ Φ', (∀ w, Φ' w → Φ w) → L l a Φ → L l a Φ')
    (hready : ∀ listed, HeadInv md ops n listed → i ∈ Region.ready md ops listed → ∀ j ∈ Region.ready md ops listed, j < n)
    (hdone : ∀ listed a Φ, L listed a Φ → ∀ j ∈ Region.ready md ops listed, n ≤ j) :
    ∀ (f : Nat) (listed : Array Bool) (a : Act) (Φ : Post), HeadInv md ops n listed →
      (∀ j oj, ops[j]? = some oj → j ≠ i → listed.getD j true = false → (∀ e ∈ oj.after, Region.binds md e = true → e.on ≠ i) → oi.apart ops oj = true) →
      i ∈ Region.ready md ops listed → St R w0 a Φ → rOpD P ops F R w0 i (wpAnyD P md ops F R w0 n L f (listed.setIfInBounds i true)) a Φ → wpAnyD P md ops F R w0 n L (f + 1) listed a Φ := by
  intro f
  induction f with
  | zero =>
    intro listed a Φ inv _ hr hs H
    refine ⟨fun h => (by rw [h] at hr; cases hr), fun j hj => ⟨hready listed inv hr j hj, ?_⟩⟩
    by_cases hji : j = i
    · subst hji; exact H
    · exfalso
      have hjn := hready listed inv hr j hj
      have hex : ∃ a' Φ', wpAnyD P md ops F R w0 n L 0 (listed.setIfInBounds i true) a' Φ' := by
        unfold rOpD at H
        simp only [hi] at H
        split at H
        · obtain ⟨v, w, hv⟩ := hs.may H.1; exact ⟨_, _, H.2 v ⟨w, hv⟩⟩
        · exact ⟨_, _, H⟩
      obtain ⟨a', Φ', h'⟩ := hex
      have := hdone _ _ _ h' j (ready_mono hj hji)
      omega
  | succ f ih =>
    intro listed a Φ inv hfree hr hs H
    have hun := (mem_ready.1 hr).1
    refine ⟨fun h => (by rw [h] at hr; cases hr), fun j hj => ⟨hready listed inv hr j hj, ?_⟩⟩
    by_cases hji : j = i
    · subst hji; exact H
    · have hjn := hready listed inv hr j hj
      obtain ⟨hjun, oj, hoj, hall⟩ := mem_ready.1 hj
      have hnot : ∀ e ∈ oj.after, Region.binds md e = true → e.on ≠ i := fun e he hb heq => by
        have h1 := hall e he hb
        rw [heq, getD_both hun] at h1
        cases h1
      have hap := hfree j oj hoj hji hjun hnot
      obtain ⟨h1, h2, h3⟩ := Oper.apart_spec hap
      have hfree' : ∀ k ok, ops[k]? = some ok → k ≠ i → (listed.setIfInBounds j true).getD k true = false →
          (∀ e ∈ ok.after, Region.binds md e = true → e.on ≠ i) → oi.apart ops ok = true := fun k ok hk hki hun' hno => by
        refine hfree k ok hk hki ?_ hno
        by_cases hjk : j = k
        · subst hjk; exact hjun
        · rw [getD_set_ne true hjk] at hun'; exact hun'
      have inv' := inv.set hj hjn
      have hr' := ready_mono hr (Ne.symm hji)
      have hjv : ∀ (v : Value) (Ψ : Post), wpAnyD P md ops F R w0 n L (f + 1) (listed.setIfInBounds i true) (a.put oi.dst v) Ψ →
          rOpD P ops F R w0 j (wpAnyD P md ops F R w0 n L f ((listed.setIfInBounds i true).setIfInBounds j true)) (a.put oi.dst v) Ψ := fun v Ψ h => (h.2 j (ready_mono hj hji)).2
      have ex_j : ∀ v, execOp (a.put oi.dst v).eval oj = execOp a.eval oj := fun v => execOp_put oj (fun cs b => hsel j oj cs b hoj) a oi.dst v h1
      have wa_j : ∀ v, Region.wanted oj (yielded ops (a.put oi.dst v).tmps) = Region.wanted oj (yielded ops a.tmps) := fun v => wanted_put oj a oi.dst v h1
      have ex_i : ∀ u, execOp (a.put oj.dst u).eval oi = execOp a.eval oi := fun u => execOp_put oi (fun cs b => hsel i oi cs b hi) a oj.dst u h3
      have wa_i : ∀ u, Region.wanted oi (yielded ops (a.put oj.dst u).tmps) = Region.wanted oi (yielded ops a.tmps) := fun u => wanted_put oi a oj.dst u h3
      have ne_j : ∀ v, needs ops R oj (a.put oi.dst v) = needs ops R oj a := fun v => needs_put v h1
      have ne_i : ∀ u, needs ops R oi (a.put oj.dst u) = needs ops R oi a := fun u => needs_put u h3
      unfold rOpD at H
      simp only [hi] at H
      unfold rOpD
      simp only [hoj]
      by_cases hwi : Region.wanted oi (yielded ops a.tmps) = true
      · simp only [hwi, if_true] at H
        obtain ⟨hpi, hki⟩ := H
        obtain ⟨v0, wv, hv0⟩ := hs.may hpi
        have hj0 := hjv v0 _ (hki v0 ⟨wv, hv0⟩)
        unfold rOpD at hj0
        simp only [hoj, wa_j, ex_j, ne_j] at hj0
        by_cases hwj : Region.wanted oj (yielded ops a.tmps) = true
        · simp only [hwj, if_true] at hj0 ⊢
          refine ⟨hj0.1, fun u hu => ?_⟩
          refine ih (listed.setIfInBounds j true) (a.put oj.dst u) _ inv' hfree' hr' (hs.step hR hu) ?_
          unfold rOpD
          simp only [hi, wa_i, ex_i, ne_i, hwi, if_true]
          refine ⟨hpi, fun v hv => ?_⟩
          obtain ⟨wl, l1, ⟨l2, l3⟩, l4⟩ := hv
          have hjv' := hjv v _ (hki v ⟨wl, l1, l2, l4⟩)
          unfold rOpD at hjv'
          simp only [hoj, wa_j, ex_j, ne_j, hwj, if_true] at hjv'
          have := hjv'.2 u ⟨wl, l1, ⟨l2, l4⟩, l3⟩
          rw [Array.setIfInBounds_comm _ _ hji]
          rw [← Act.put_comm a v u h2]
          exact wpAnyD_mono hL f _ _ _ _ (fun w k => ⟨⟨k.1.1, k.2⟩, k.1.2⟩) this
        · simp only [hwj] at hj0 ⊢
          refine ih (listed.setIfInBounds j true) (a.put oj.dst undef) _ inv' hfree' hr' (hs.skip hR) ?_
          unfold rOpD
          simp only [hi, wa_i, ex_i, ne_i, hwi, if_true]
          refine ⟨hpi, fun v hv => ?_⟩
          have hjv' := hjv v _ (hki v hv)
          unfold rOpD at hjv'
          simp only [hoj, wa_j, hwj] at hjv'
          rw [Array.setIfInBounds_comm _ _ hji]
          rw [← Act.put_comm a v undef h2]
          exact hjv'
      · simp only [hwi] at H
        have hj0 := hjv undef _ H
        unfold rOpD at hj0
        simp only [hoj, wa_j, ex_j, ne_j] at hj0
        by_cases hwj : Region.wanted oj (yielded ops a.tmps) = true
        · simp only [hwj, if_true] at hj0 ⊢
          refine ⟨hj0.1, fun u hu => ?_⟩
          refine ih (listed.setIfInBounds j true) (a.put oj.dst u) _ inv' hfree' hr' (hs.step hR hu) ?_
          unfold rOpD
          simp only [hi, wa_i, hwi]
          have := hj0.2 u hu
          rw [Array.setIfInBounds_comm _ _ hji]
          rw [← Act.put_comm a undef u h2]
          exact this
        · simp only [hwj] at hj0 ⊢
          refine ih (listed.setIfInBounds j true) (a.put oj.dst undef) _ inv' hfree' hr' (hs.skip hR) ?_
          unfold rOpD
          simp only [hi, wa_i, hwi]
          rw [Array.setIfInBounds_comm _ _ hji]
          rw [← Act.put_comm a undef undef h2]
          exact hj0

theorem wpRelD_lex {n g : Nat} {Q : Act → Post → Prop} (hR : Told R) (hQ : ∀ a Φ Φ', (∀ w, Φ' w → Φ w) → Q a Φ → Q a Φ') (hsel : Region.noSelect ops = true)
    (hready : ∀ listed i, i < n → HeadInv md ops n listed → i ∈ Region.ready md ops listed → ∀ j ∈ Region.ready md ops listed, j < n) :
    ∀ (l : List Oper) (k : Nat) (listed : Array Bool) (a : Act) (Φ : Post), (∀ j, j < l.length → l[j]? = ops[k + j]?) → k + l.length = n → HeadInv md ops n listed →
    Region.lexHead md ops g l.length k listed = true → St R w0 a Φ → wpRelD P ops F R w0 Q l a Φ →
    wpAnyD P md ops F R w0 n (fun listed' a' Φ' => Region.seqB md ops g n listed' = true ∧ Q a' Φ') l.length listed a Φ
  | [], k, listed, a, Φ, _, hk, _, hB, _, h => by
    have : k = n := by simpa using hk
    subst this
    exact ⟨by simpa [Region.lexHead] using hB, h⟩
  | o :: l, k, listed, a, Φ, hl, hk, inv, hB, hs, h => by
    have h0 : ops[k]? = some o := by simpa using (hl 0 (by simp)).symm
    simp only [List.length_cons, Region.lexHead, Bool.and_eq_true] at hB
    obtain ⟨⟨hr, hf⟩, hB'⟩ := hB
    have hkn : k < n := by simp only [List.length_cons] at hk; omega
    have hr' : k ∈ Region.ready md ops listed := by simpa using hr
    refine rOpD_first hR h0 (Region.noSelect_spec hsel) (fun l a Φ Φ' k h => ⟨h.1, hQ _ _ _ k h.2⟩) (fun listed inv hi => hready listed k hkn inv hi) (fun listed' a' Φ' hL => seqB_ready hL.1) l.length listed a Φ inv
      (Region.free_spec h0 hf) hr' hs ?_
    have rest : ∀ a' Φ', St R w0 a' Φ' → wpRelD P ops F R w0 Q l a' Φ' → wpAnyD P md ops F R w0 n (fun listed' a' Φ' => Region.seqB md ops g n listed' = true ∧ Q a' Φ') l.length (listed.setIfInBounds k true) a' Φ' := fun a' Φ' hs' h' =>
      wpRelD_lex hR hQ hsel hready l (k + 1) _ a' Φ' (fun j hj => by have := hl (j + 1) (by simp; omega); simpa [Nat.add_assoc, Nat.add_comm 1 j] using this) (by simp only [List.length_cons] at hk; omega) (inv.set hr' hkn) hB' hs' h'
    unfold rOpD
    simp only [h0]
    unfold wpRelD at h
    split
    · rename_i hw; simp only [hw, if_true] at h; exact ⟨h.1, fun v hv => rest _ _ (hs.step hR hv) (h.2 v hv)⟩
    · rename_i hw; simp only [hw] at h; exact rest _ _ (hs.skip hR) h

theorem wp_region_relD {id : Nat} {Q : Exit → Act → World → Prop} {a : Act} {w : World} {l : List Oper} (n : Nat) (F : FuncId → Array Value → Value → Prop) (R : Value → World → Prop) (hR : Told R) (hm : P.follows .mixedOrders = true) (hB : relB .any l.toArray n = true)
    (ha : ∀ d, R (a.tmps.getD d undef) w.drew)
    (h : wpRelD P l.toArray F R w.drew (fun a' Φ => ∀ w', Ext w.drew w' → Φ w' → wpList P l.toArray Q (l.drop n) a' w') (l.take n) a (fun _ => True)) : (Code.region id l.toArray true).wp P Q a w := by
  simp only [relB, Bool.and_eq_true, Bool.or_eq_true, decide_eq_true_eq, beq_iff_eq] at hB
  obtain ⟨⟨hsel, hn⟩, hlex⟩ := hB
  have hn' : n ≤ l.length := by rcases hn with hn | hn <;> simp at hn <;> omega
  have htl : (l.take n).length = n := by simp; omega
  have hdl : (l.drop n).length = l.toArray.size - n := by simp
  have inv0 : HeadInv .any l.toArray n (Array.replicate l.toArray.size false) :=
    ⟨by simp, fun j oj _ hl => (by rw [getD_replicate_false] at hl; cases hl), fun t _ ht => getD_in (by simpa using ht) (getD_replicate_false _ _)⟩
  have hready : ∀ listed i, i < n → HeadInv .any l.toArray n listed → i ∈ Region.ready .any l.toArray listed → ∀ j ∈ Region.ready .any l.toArray listed, j < n := by
    intro listed i hi inv hir j hj
    rcases hn with hn | ⟨⟨hn, hs⟩, hc⟩
    · rw [hn]; exact ready_lt hj
    · rcases Nat.lt_or_ge j n with h | h
      · exact h
      · exact absurd hj (tail_waits hs hc hn inv _ i rfl hi (mem_ready.1 hir).1 j h)
  have hs0 : St R w.drew a (fun _ => True) := ⟨fun _ _ _ _ => trivial, fun w' hw _ d => hR.mono _ _ _ (ha d) hw, ⟨w.drew, Ext.refl _, trivial⟩⟩
  have H := wpRelD_lex (md := .any) (g := l.toArray.size - n) (n := n) (P := P) (F := F) (w0 := w.drew) (Q := fun a' Φ => ∀ w', Ext w.drew w' → Φ w' → wpList P l.toArray Q (l.drop n) a' w') hR
    (fun a Φ Φ' k h w' hx hΦ => h w' hx (k _ hΦ)) hsel hready (l.take n) 0 _ a (fun _ => True) (fun j hj => by
    have hj' : j < n := by rw [htl] at hj; exact hj
    simp [hj']) (by simpa using htl) inv0 (by rw [htl]; exact hlex) hs0 h
  refine wp_region_any hm ?_
  have := wpAny_of_relD (Q' := Q) (g := l.toArray.size - n) hR (fun listed a' w' Φ hx hΦ hL => by
    have := wpAny_of_seq (md := .any) (Q' := Q) (l.drop n) n listed a' w' (fun j => by simp [List.getElem?_drop]) (by rw [hdl]; exact hL.1) (hL.2 w' hx hΦ)
    rwa [hdl] at this) _ _ _ w.drew _ (Ext.refl _) trivial hs0 H
  have hsz : n + (l.toArray.size - n) = l.toArray.size := by
    have : l.toArray.size = l.length := by simp
    omega
  rw [htl, hsz] at this
  exact this

/-- What is asked of one operation, carried out in a world that extends the region's and in which the values that it takes are told. -/
def relUponD (P : Program) (F : FuncId → Array Value → Value → Prop) (R : Value → World → Prop) (w : World) (K : Value → Prop) : Result Next → Prop
  | .ok (.value v) w' => Ext w w' ∧ R v w' ∧ K v
  | .ok .skip w' => Ext w w' ∧ K undef
  | .ok (.enter f args) w' => Ext w w' ∧ Calls P f args w' (fun e w'' => ∃ v, e = .returned v ∧ F f args v ∧ R v w'' ∧ Ext w' w'') ∧ ∀ v, F f args v → K v
  | _ => False
@[go_sem] theorem relUponD_value (w w' : World) (K : Value → Prop) (v : Value) : relUponD P F R w K (.ok (.value v) w') = (Ext w w' ∧ R v w' ∧ K v) := rfl
@[go_sem] theorem relUponD_skip (w w' : World) (K : Value → Prop) : relUponD P F R w K (.ok .skip w') = (Ext w w' ∧ K undef) := rfl

theorem progD_of_upon {D : World → Prop} {s : Sem Next} {K : Value → Prop} (h : ∀ w, Ext w0 w → D w → relUponD P F R w K (s.run P w)) : ProgD P F R w0 D s ∧ ∀ v w, MayD P F R w0 D s v w → K v := by
  refine ⟨fun w hw hD => ?_, fun v w' hv => ?_⟩
  · have h1 := h w hw hD
    unfold relUponD at h1
    split at h1
    · exact ⟨h1.1, h1.2.1⟩
    · exact h1.1
    · exact ⟨h1.1, h1.2.1⟩
    · exact h1.elim
  · obtain ⟨w, hw, hD, h2⟩ := hv
    have h1 := h w hw hD
    unfold relUponD at h1
    split at h1
    · rename_i u w2 hr; rw [hr] at h2; rw [← h2.1]; exact h1.2.2
    · rename_i w2 hr; rw [hr] at h2; rw [← h2.1]; exact h1.2
    · rename_i f args w2 hr; rw [hr] at h2; exact h1.2.2 v h2.1
    · exact h1.elim

/-- the walk, as it is used -/
def wpD (P : Program) (ops : Array Oper) (F : FuncId → Array Value → Value → Prop) (R : Value → World → Prop) (w0 : World) (Q : Act → Prop) : List Oper → Act → Prop
  | [], a => Q a
  | o :: rest, a =>
    if Region.wanted o (yielded ops a.tmps) then
      ProgD P F R w0 (needs ops R o a) (execOp a.eval o) ∧ ∀ v w, MayD P F R w0 (needs ops R o a) (execOp a.eval o) v w → wpD P ops F R w0 Q rest (a.put o.dst v)
    else wpD P ops F R w0 Q rest (a.put o.dst undef)
theorem wpRelD_of_wpD {Q : Act → Post → Prop} (hR : Told R) (hQ : ∀ a Φ Φ', (∀ w, Φ' w → Φ w) → Q a Φ → Q a Φ') : ∀ (l : List Oper) (a : Act) (Φ : Post), St R w0 a Φ → wpD P ops F R w0 (fun a => Q a (fun w => ∀ d, R (a.tmps.getD d undef) w)) l a →
    wpRelD P ops F R w0 (fun a Φ => (∀ w, Ext w0 w → Φ w → ∀ d, R (a.tmps.getD d undef) w) ∧ Q a (fun w => ∀ d, R (a.tmps.getD d undef) w)) l a Φ
  | [], a, Φ, hs, h => ⟨hs.all, h⟩
  | o :: l, a, Φ, hs, h => by
    unfold wpD at h
    unfold wpRelD
    split
    · rename_i hw
      simp only [hw, if_true] at h
      refine ⟨h.1, fun v hv => ?_⟩
      obtain ⟨wv, k1, k2, k3⟩ := hv
      exact wpRelD_of_wpD hR hQ l _ _ (hs.step hR ⟨wv, k1, k2, k3⟩) (h.2 v wv k3)
    · rename_i hw
      simp only [hw] at h
      exact wpRelD_of_wpD hR hQ l _ _ (hs.skip hR) h
/-- one operation -/
theorem wpD_op {Q : Act → Prop} {a : Act} {o : Oper} {rest : List Oper} (hg : o.guard = none)
    (h : ∀ w, Ext w0 w → needs ops R o a w → ∀ K : Act → Prop, (∀ a, wpD P ops F R w0 Q rest a → K a) → relUponD P F R w (fun v => K (a.put o.dst v)) ((execOp a.eval o).run P w)) :
    wpD P ops F R w0 Q (o :: rest) a := by
  unfold wpD
  rw [if_pos (by simp [Region.wanted, hg])]
  exact progD_of_upon (K := fun v => wpD P ops F R w0 Q rest (a.put o.dst v)) (fun w hw hD => h w hw hD (fun a => wpD P ops F R w0 Q rest a) (fun a k => k))
theorem wpD_nil {Q : Act → Prop} {a : Act} (h : Q a) : wpD P ops F R w0 Q [] a := h

/-- THE WHOLE REGION'S FIRST n OPERATIONS in whatever order, the others in the text's. -/
theorem wp_region_told {id : Nat} {Q : Exit → Act → World → Prop} {a : Act} {w : World} {l : List Oper} (n : Nat) (F : FuncId → Array Value → Value → Prop) (R : Value → World → Prop) (hR : Told R) (hm : P.follows .mixedOrders = true) (hB : relB .any l.toArray n = true)
    (ha : ∀ d, R (a.tmps.getD d undef) w.drew)
    (h : wpD P l.toArray F R w.drew (fun a' => ∀ w', Ext w.drew w' → (∀ d, R (a'.tmps.getD d undef) w') → wpList P l.toArray Q (l.drop n) a' w') (l.take n) a) : (Code.region id l.toArray true).wp P Q a w := by
  refine wp_region_relD n F R hR hm hB ha ?_
  have hs0 : St R w.drew a (fun _ => True) := ⟨fun _ _ _ _ => trivial, fun w' hw _ d => hR.mono _ _ _ (ha d) hw, ⟨w.drew, Ext.refl _, trivial⟩⟩
  have := wpRelD_of_wpD (Q := fun a' Φ => ∀ w', Ext w.drew w' → Φ w' → wpList P l.toArray Q (l.drop n) a' w') hR (fun a Φ Φ' k h w' hx hΦ => h w' hx (k _ hΦ)) (l.take n) a (fun _ => True) hs0 h
  have mono : ∀ (l' : List Oper) (a : Act) (Φ : Post) (Q Q' : Act → Post → Prop), (∀ a Φ, Q a Φ → Q' a Φ) → wpRelD P l.toArray F R w.drew Q l' a Φ → wpRelD P l.toArray F R w.drew Q' l' a Φ := by
    intro l'
    induction l' with
    | nil => intro a Φ Q Q' hQ h; exact hQ _ _ h
    | cons o l' ih =>
      intro a Φ Q Q' hQ h
      unfold wpRelD at h ⊢
      split
      · rename_i hw; simp only [hw, if_true] at h; exact ⟨h.1, fun v hv => ih _ _ _ _ hQ (h.2 v hv)⟩
      · rename_i hw; simp only [hw] at h; exact ih _ _ _ _ hQ h
  exact mono _ _ _ _ _ (fun a' Φ h w' hx hΦ => h.2 w' hx (h.1 w' hx hΦ)) this
end

/-- of slices made behind b: what they hold goes by their length -/
def SlR (b : Nat) (t : TypeId) (T : Nat → Array Value) : Value → World → Prop
  | .slice (some p) n _, w => b ≤ p.block → Blk w p.block t (T n)
  | _, _ => True
section
variable (b : Nat) (t : TypeId) (T : Nat → Array Value) (w : World)
@[go_sem] theorem slR_float (k : FloatKind) (x : Nat) : SlR b t T (.float k x) w = True := rfl
@[go_sem] theorem slR_int (k : IntKind) (x : Int) : SlR b t T (.int k x) w = True := rfl
@[go_sem] theorem slR_bool (x : Bool) : SlR b t T (.bool x) w = True := rfl
@[go_sem] theorem slR_pointer (p : Option Addr) : SlR b t T (.pointer p) w = True := rfl
@[go_sem] theorem slR_agg (c : Array Value) : SlR b t T (.agg c) w = True := rfl
@[go_sem] theorem slR_func (f : Fn) (x y : Array Value) : SlR b t T (.func f x y) w = True := rfl
@[go_sem] theorem slR_complex (k : FloatKind) (x y : Nat) : SlR b t T (.complex k x y) w = True := rfl
@[go_sem] theorem slR_undef : SlR b t T undef w = True := rfl
@[go_sem] theorem slR_nil : SlR b t T .nilIface w = True := rfl
@[go_sem] theorem slR_tuple (c : Array Value) : SlR b t T (.tuple c) w = True := rfl
theorem slR_slice (p : Addr) (n c : Nat) : SlR b t T (.slice (some p) n c) w = (b ≤ p.block → Blk w p.block t (T n)) := rfl
end
theorem told_slR (b : Nat) (t : TypeId) (T : Nat → Array Value) : Told (SlR b t T) where
  mono := fun v w w' h hx => by
    unfold SlR at *
    split
    · exact fun k => (h k).ext hx
    · trivial
  undef := fun _ => trivial
theorem told_all {R : Value → World → Prop} {a : Array Value} {w : World} (hu : R undef w) (h : ∀ v ∈ a.toList, R v w) (d : Tmp) : R (a.getD d undef) w := by
  by_cases hd : d < a.size
  · have : a.getD d undef = a[d] := by simp [hd]
    rw [this]
    exact h _ (by simp)
  · have : a.getD d undef = undef := by simp [hd]
    rw [this]; exact hu
end Go.Rel

/- What the walks lean on: stores of floats, the operations on floats, steps of a region that draws its order. -/
namespace Go.Fp
open Go.RowKit Go.Rel

section
variable {P : Program} {w : World}
@[go_sem] theorem run_store_float (a : Addr) (m : Mode) (k : FloatKind) (b : Nat) : (store a (.float k b) m).run P w = stored P w a (.float k b) m := run_store P w a _ m rfl
@[go_sem] theorem run_store_complex (a : Addr) (m : Mode) (k : FloatKind) (b c : Nat) : (store a (.complex k b c) m).run P w = stored P w a (.complex k b c) m := run_store P w a _ m rfl
end

@[go_sem] theorem alloc_drewN (w : World) (n : Nat) (o : Obj) : (w.drewN n).alloc o = (w.alloc o).drewN n := rfl
@[go_sem] theorem setCell_drewN (w : World) (n : Nat) (a : Addr) (v : Value) : (w.drewN n).setCell a v = (w.setCell a v).drewN n := rfl
@[go_sem] theorem unary_neg_float (k : FloatKind) (b : Nat) : Op.unary .neg (.float k b) = pure (.float k (Op.negFloat k b)) := rfl

/-- a call hands back this float, up to which NaN it is; all that was there is as it was -/
def FlR (E : Nat) (w : World) (e : Ending) (w' : World) : Prop := ∃ r, e = .returned (.float .f64 r) ∧ can r = E ∧ Ext w w'

/-- + - * / on words, by name -/
def fbin : BinOp → Nat → Nat → Nat
  | .add => fadd
  | .sub => fsub
  | .mul => fmul
  | _ => fdiv
def isArith : BinOp → Bool
  | .add | .sub | .mul | .quo => true
  | _ => false

theorem run_fl {P : Program} (w : World) {op : BinOp} (h : isArith op = true) (x y : Nat) (t : TypeId) :
    ∃ r n, (binOp op t (.float .f64 x) (.float .f64 y)).run P w = .ok (.float .f64 r) (w.drewN n) ∧ can r = fbin op (can x) (can y) := by
  cases op <;> first | (cases h; done) | skip
  · exact run_fadd w x y t
  · exact run_fsub w x y t
  · exact run_fmul w x y t
  · exact run_fdiv w x y t

theorem fin_of {x r : Nat} (h : can r = fbin .sub (can x) (can x)) : finP (can x) = (D.order r 0 == some .eq) := by
  have h0 : can 0 = 0 := can_of_not (by decide +kernel)
  have h1 : fsub (can x) (can x) = can r := h.symm
  unfold finP feq
  rw [h1]
  have := order_can r 0
  rw [h0] at this
  rw [this]

/-- one operation on floats in a walk: some word comes, told but for which NaN it is; perhaps a draw -/
theorem upon_fl {P : Program} {o : Oper} {a : Act} {K : Act → World → Prop} {Q : Exit → Act → World → Prop} {W : World} {t : TypeId} {op : BinOp} {x y : Nat} (hop : isArith op = true)
    (h : ∀ r n, can r = fbin op (can x) (can y) → o.upon P a K Q (.ok (.value (.float .f64 r)) (W.drewN n))) :
    o.upon P a K Q (((binOp op t (.float .f64 x) (.float .f64 y)).run P W).andThen fun v w' => .ok (.value v) w') := by
  obtain ⟨r, n, e, hr⟩ := run_fl (P := P) W hop x y t
  rw [e]
  exact h r n hr

/-- one operation on floats in a region that draws its order -/
theorem rel_fl {P : Program} {F : FuncId → Array Value → Value → Prop} {W : World} {K : Value → Prop} {t : TypeId} {op : BinOp} {x y : Nat} (hop : isArith op = true)
    (h : ∀ r, can r = fbin op (can x) (can y) → K (.float .f64 r)) : relUpon P F W K (((binOp op t (.float .f64 x) (.float .f64 y)).run P W).andThen fun v w' => .ok (.value v) w') := by
  obtain ⟨r, n, e, hr⟩ := run_fl (P := P) W hop x y t
  rw [e]
  exact ⟨(Ext.refl _).drewN _, h r hr⟩
/-- a call in such a region -/
theorem rel_call {P : Program} {F : FuncId → Array Value → Value → Prop} {W : World} {K : Value → Prop} {f : FuncId} {args : Array Value} {R : Value → Prop}
    (hc : Calls P f args W (fun e w' => ∃ v, e = .returned v ∧ R v ∧ Ext W w')) (hF : ∀ v, R v ↔ F f args v) (h : ∀ v, R v → K v) : relUpon P F W K (.ok (.enter f args) W) :=
  ⟨Ext.refl _, hc.mono fun _ _ ⟨v, he, hR, hx⟩ => ⟨v, he, (hF v).1 hR, hx⟩, fun v hv => h v ((hF v).2 hv)⟩

/-- the values that a contract tells -/
def isFl (E : Nat) (v : Value) : Prop := ∃ r, v = .float .f64 r ∧ can r = E
theorem FlR.call {P : Program} {f : FuncId} {args : Array Value} {E : Nat} {W : World} (h : Calls P f args W (FlR E W)) : Calls P f args W (fun e w' => ∃ v, e = .returned v ∧ isFl E v ∧ Ext W w') :=
  h.mono fun _ _ ⟨r, he, hr, hx⟩ => ⟨_, he, ⟨r, rfl, hr⟩, hx⟩
theorem ExR.call {P : Program} {f : FuncId} {args : Array Value} {v : Value} {W : World} (h : Calls P f args W (ExR v W)) : Calls P f args W (fun e w' => ∃ u, e = .returned u ∧ u = v ∧ Ext W w') :=
  h.mono fun _ _ ⟨he, hx⟩ => ⟨_, he, rfl, hx⟩

def SpTri (f : Nat → Nat → Nat → Nat) (args : Array Value) (v : Value) : Prop := ∃ x y z : Nat, args = #[.float .f64 x, .float .f64 y, .float .f64 z] ∧ isFl (f (can x) (can y) (can z)) v
theorem spTri_iff (f : Nat → Nat → Nat → Nat) (x y z : Nat) (v : Value) : SpTri f #[.float .f64 x, .float .f64 y, .float .f64 z] v ↔ isFl (f (can x) (can y) (can z)) v := by
  unfold SpTri
  exact ⟨fun ⟨_, _, _, h, k⟩ => by simp at h; obtain ⟨rfl, rfl, rfl⟩ := h; exact k, fun h => ⟨_, _, _, rfl, h⟩⟩
def SpOne (f : Nat → Nat) (args : Array Value) (v : Value) : Prop := ∃ x : Nat, args = #[.float .f64 x] ∧ isFl (f (can x)) v
theorem spOne_iff (f : Nat → Nat) (x : Nat) (v : Value) : SpOne f #[.float .f64 x] v ↔ isFl (f (can x)) v := by
  unfold SpOne
  exact ⟨fun ⟨_, h, k⟩ => by simp at h; obtain rfl := h; exact k, fun h => ⟨_, rfl, h⟩⟩

/-- a function without a body, whose entry is known -/
def Entry (P : Program) (f : FuncId) (e : Array Value → Sem Value) : Prop := ∀ args w, (callFunc f args).run P w = ((e args).run P w).andThen fun v w' => .ok (.value v) w'

theorem upon_sqrt {P : Program} {o : Oper} {a : Act} {K : Act → World → Prop} {Q : Exit → Act → World → Prop} {W : World} {f : FuncId} {x : Nat} (he : Entry P f Extern.MathSqrt.sqrt)
    (h : ∀ r n, can r = fsqrt (can x) → o.upon P a K Q (.ok (.value (.float .f64 r)) (W.drewN n))) : o.upon P a K Q ((callFunc f #[.float .f64 x]).run P W) := by
  rw [he]
  have e : Extern.MathSqrt.sqrt #[.float .f64 x] = (do match D.sqrt x with | some r => pure (.float .f64 r) | none => pure (.float .f64 (← choose (.nanBits .f64 x x)))) := rfl
  rw [e, fsqrt_can] at *
  unfold fsqrt at h
  cases hs : D.sqrt x with
  | some r => rw [hs] at h; exact h r 0 (can_of_not (sqrt_nan hs))
  | none => rw [hs] at h; exact h _ 1 (can_of_nan (isNan_drawn _ _ _))

theorem abs_bits (x : Nat) : (bits .andNot .u64 (x : Int) 9223372036854775808).toNat = x % 2 ^ 63 := by
  show (IntKind.u64.wrap ((BitVec.ofInt 64 (x : Int) &&& ~~~BitVec.ofInt 64 9223372036854775808 : BitVec 64).toNat : Int)).toNat = x % 2 ^ 63
  have h : (BitVec.ofInt 64 (x : Int) &&& ~~~BitVec.ofInt 64 9223372036854775808) = (BitVec.ofNat 64 (x % 2 ^ 63)) := by
    apply BitVec.eq_of_getElem_eq
    intro i hi
    have hm : ∀ i, i < 64 → (BitVec.ofInt 64 9223372036854775808).getLsbD i = decide (i = 63) := by decide
    have hmi := hm i hi
    rw [BitVec.getLsbD_eq_getElem hi] at hmi
    rw [BitVec.getElem_and, BitVec.getElem_not, hmi]
    rw [← BitVec.getLsbD_eq_getElem, ← BitVec.getLsbD_eq_getElem]
    rw [BitVec.ofInt_natCast, BitVec.getLsbD_ofNat, BitVec.getLsbD_ofNat, Nat.testBit_mod_two_pow]
    by_cases h63 : i = 63
    · subst h63; simp
    · simp [h63, hi]; omega
  rw [h, BitVec.toNat_ofNat, IntKind.wrap_u64]
  omega

end Go.Fp
