/- The operations on float64 words as total functions, NaNs told as one; sizes. -/
import Derived.WalkKit
import Derived.Deep.QuietTactic
import Derived.WalkLawsBesides
namespace Go.Fp
open Ieee

abbrev D : Format := double
def isNan (x : Nat) : Bool := (D.read x).isNaN
def QN : Nat := 0x7ff8000000000001
def can (x : Nat) : Nat := if isNan x then QN else x
def opt (o : Option Nat) : Nat := o.getD QN
def fadd (x y : Nat) : Nat := opt (D.add x y)
def fsub (x y : Nat) : Nat := opt (D.sub x y)
def fmul (x y : Nat) : Nat := opt (D.mul x y)
def fdiv (x y : Nat) : Nat := opt (D.div x y)
def fsqrt (x : Nat) : Nat := opt (D.sqrt x)

theorem isNan_QN : isNan QN = true := by decide +kernel

theorem rung_lt {r : Nat} (h : r ≤ D.infRung) : r < D.signWeight := Nat.lt_of_le_of_lt h (Format.infRung_lt D)

theorem isNan_word (s : Bool) {r : Nat} (h : r ≤ D.infRung) : isNan (D.word s r) = false := by
  have hr := rung_lt h
  have hm : D.word s r % D.signWeight = r := by
    unfold Format.word
    cases s
    · simp [Nat.mod_eq_of_lt hr]
    · simp [Nat.mod_eq_of_lt hr]
  unfold isNan Format.read
  simp only [hm]
  split
  · rfl
  · split
    · rfl
    · have : r = D.infRung := by omega
      simp [this, Datum.isNaN]

theorem isNan_write {d : Datum} (h : d.isNaN = false) : isNan (D.write d) = false := by
  cases d with
  | number s m p =>
    show isNan (D.nearest s m p) = false
    unfold Format.nearest
    dsimp only
    split
    · exact isNan_word s (Nat.zero_le _)
    · exact isNan_word s (Nat.min_le_right _ _)
  | infinity s => exact isNan_word s (Nat.le_refl _)
  | nan s t => cases h

theorem sum_nan {a b c : Datum} (h : a.sum b = some c) : c.isNaN = false := by
  cases a <;> cases b <;> simp only [Datum.sum] at h <;> first | (cases h; done) | skip
  · cases h; rfl
  · cases h; rfl
  · cases h; rfl
  · split at h <;> cases h; rfl

theorem product_nan {a b c : Datum} (h : a.product b = some c) : c.isNaN = false := by
  cases a <;> cases b <;> simp only [Datum.product] at h <;> first | (cases h; done) | skip
  · cases h; rfl
  · split at h <;> cases h; rfl
  · split at h <;> cases h; rfl
  · cases h; rfl

theorem quotient_nan {g : Nat} {a b c : Datum} (h : Datum.quotient g a b = some c) : c.isNaN = false := by
  cases a <;> cases b <;> simp only [Datum.quotient] at h <;> first | (cases h; done) | skip
  · split at h
    · split at h <;> cases h; rfl
    · cases h; rfl
  · cases h; rfl
  · cases h; rfl

theorem root_nan {g : Nat} {a c : Datum} (h : Datum.root g a = some c) : c.isNaN = false := by
  cases a <;> simp only [Datum.root] at h <;> first | (cases h; done) | skip
  · split at h
    · cases h; rfl
    · split at h <;> cases h; rfl
  · split at h <;> cases h; rfl

theorem map_write_nan {o : Option Datum} {r : Nat} (hn : ∀ c, o = some c → c.isNaN = false) (h : o.map D.write = some r) : isNan r = false := by
  cases o with
  | none => cases h
  | some c => cases h; exact isNan_write (hn c rfl)

theorem add_nan {x y r : Nat} (h : D.add x y = some r) : isNan r = false := map_write_nan (fun _ => sum_nan) h
theorem sub_nan {x y r : Nat} (h : D.sub x y = some r) : isNan r = false := map_write_nan (fun _ => sum_nan) h
theorem mul_nan {x y r : Nat} (h : D.mul x y = some r) : isNan r = false := map_write_nan (fun _ => product_nan) h
theorem div_nan {x y r : Nat} (h : D.div x y = some r) : isNan r = false := map_write_nan (fun _ => quotient_nan) h
theorem sqrt_nan {x r : Nat} (h : D.sqrt x = some r) : isNan r = false := map_write_nan (fun _ => root_nan) h

theorem read_nan {x : Nat} (h : isNan x = true) : ∃ s t, D.read x = .nan s t := by
  unfold isNan at h
  cases hd : D.read x with
  | nan s t => exact ⟨s, t, rfl⟩
  | number s m p => simp [hd, Datum.isNaN] at h
  | infinity s => simp [hd, Datum.isNaN] at h

theorem can_of_nan {x : Nat} (h : isNan x = true) : can x = QN := by simp [can, h]
theorem can_of_not {x : Nat} (h : isNan x = false) : can x = x := by simp [can, h]

theorem isNan_can (x : Nat) : isNan (can x) = isNan x := by
  cases h : isNan x
  · rw [can_of_not h]; exact h
  · rw [can_of_nan h]; exact isNan_QN
@[simp] theorem can_can (x : Nat) : can (can x) = can x := by
  cases h : isNan x
  · rw [can_of_not h, can_of_not h]
  · rw [can_of_nan h, can_of_nan isNan_QN]

/-- whatever looks at words by 'read' alone and answers none of a NaN does not tell a word from its canonical one -/
theorem bin_can {α : Type} (f : Nat → Nat → Option α) (hl : ∀ x y, isNan x = true → f x y = none) (hr : ∀ x y, isNan y = true → f x y = none) (x y : Nat) :
    f (can x) (can y) = f x y := by
  cases hx : isNan x
  · rw [can_of_not hx]
    cases hy : isNan y
    · rw [can_of_not hy]
    · rw [hr x _ (by rw [isNan_can]; exact hy), hr x y hy]
  · rw [hl _ _ (by rw [isNan_can]; exact hx), hl x y hx]

theorem add_l (x y : Nat) (h : isNan x = true) : D.add x y = none := by
  obtain ⟨s, t, e⟩ := read_nan h; simp [Format.add, e, Datum.sum]
theorem add_r (x y : Nat) (h : isNan y = true) : D.add x y = none := by
  obtain ⟨s, t, e⟩ := read_nan h; simp only [Format.add, e]; cases D.read x <;> rfl
theorem sub_l (x y : Nat) (h : isNan x = true) : D.sub x y = none := by
  obtain ⟨s, t, e⟩ := read_nan h; simp [Format.sub, e, Datum.sum]
theorem sub_r (x y : Nat) (h : isNan y = true) : D.sub x y = none := by
  obtain ⟨s, t, e⟩ := read_nan h; simp only [Format.sub, e]; cases D.read x <;> rfl
theorem mul_l (x y : Nat) (h : isNan x = true) : D.mul x y = none := by
  obtain ⟨s, t, e⟩ := read_nan h; simp [Format.mul, e, Datum.product]
theorem mul_r (x y : Nat) (h : isNan y = true) : D.mul x y = none := by
  obtain ⟨s, t, e⟩ := read_nan h; simp only [Format.mul, e]; cases D.read x <;> rfl
theorem div_l (x y : Nat) (h : isNan x = true) : D.div x y = none := by
  obtain ⟨s, t, e⟩ := read_nan h; simp [Format.div, e, Datum.quotient]
theorem div_r (x y : Nat) (h : isNan y = true) : D.div x y = none := by
  obtain ⟨s, t, e⟩ := read_nan h; simp only [Format.div, e]; cases D.read x <;> rfl
theorem sqrt_l (x : Nat) (h : isNan x = true) : D.sqrt x = none := by
  obtain ⟨s, t, e⟩ := read_nan h; simp [Format.sqrt, e, Datum.root]
theorem order_l (x y : Nat) (h : isNan x = true) : D.order x y = none := by
  obtain ⟨s, t, e⟩ := read_nan h; simp [Format.order, e, Datum.order]
theorem order_r (x y : Nat) (h : isNan y = true) : D.order x y = none := by
  obtain ⟨s, t, e⟩ := read_nan h; simp only [Format.order, e]; cases D.read x <;> rfl

theorem add_can (x y : Nat) : D.add (can x) (can y) = D.add x y := bin_can _ add_l add_r x y
theorem sub_can (x y : Nat) : D.sub (can x) (can y) = D.sub x y := bin_can _ sub_l sub_r x y
theorem mul_can (x y : Nat) : D.mul (can x) (can y) = D.mul x y := bin_can _ mul_l mul_r x y
theorem div_can (x y : Nat) : D.div (can x) (can y) = D.div x y := bin_can _ div_l div_r x y
theorem order_can (x y : Nat) : D.order (can x) (can y) = D.order x y := bin_can _ order_l order_r x y
theorem sqrt_can (x : Nat) : D.sqrt (can x) = D.sqrt x := by
  cases hx : isNan x
  · rw [can_of_not hx]
  · rw [sqrt_l _ (by rw [isNan_can]; exact hx), sqrt_l _ hx]

@[simp] theorem fadd_can (x y : Nat) : fadd (can x) (can y) = fadd x y := by unfold fadd; rw [add_can]
@[simp] theorem fsub_can (x y : Nat) : fsub (can x) (can y) = fsub x y := by unfold fsub; rw [sub_can]
@[simp] theorem fmul_can (x y : Nat) : fmul (can x) (can y) = fmul x y := by unfold fmul; rw [mul_can]
@[simp] theorem fdiv_can (x y : Nat) : fdiv (can x) (can y) = fdiv x y := by unfold fdiv; rw [div_can]
@[simp] theorem fsqrt_can (x : Nat) : fsqrt (can x) = fsqrt x := by unfold fsqrt; rw [sqrt_can]

theorem can_opt {o : Option Nat} (h : ∀ r, o = some r → isNan r = false) : can (opt o) = opt o := by
  cases o with
  | none => exact can_of_nan isNan_QN
  | some r => exact can_of_not (h r rfl)
@[simp] theorem can_fadd (x y : Nat) : can (fadd x y) = fadd x y := can_opt fun _ => add_nan
@[simp] theorem can_fsub (x y : Nat) : can (fsub x y) = fsub x y := can_opt fun _ => sub_nan
@[simp] theorem can_fmul (x y : Nat) : can (fmul x y) = fmul x y := can_opt fun _ => mul_nan
@[simp] theorem can_fdiv (x y : Nat) : can (fdiv x y) = fdiv x y := can_opt fun _ => div_nan
@[simp] theorem can_fsqrt (x : Nat) : can (fsqrt x) = fsqrt x := can_opt fun _ => sqrt_nan

/-- the bits that the tape gives where the language names none are a NaN's -/
theorem isNan_drawn (x y t : Nat) : isNan (Question.cut (.nanBits .f64 x y) t) = true := by
  have h : ∃ s, s < 2 ∧ ∃ q, q < 2 ^ 52 - 1 ∧ Question.cut (.nanBits .f64 x y) t = s * 2 ^ 63 + 0x7ff0000000000000 + 1 + q :=
    ⟨t % 2, Nat.mod_lt _ (by decide), (t / 2) % (2 ^ 52 - 1), Nat.mod_lt _ (by decide), rfl⟩
  obtain ⟨s, hs, q, hq, e⟩ := h
  rw [e]
  have e1 : D.signWeight = 2 ^ 63 := by decide +kernel
  have e2 : D.infRung = 0x7ff0000000000000 := by decide +kernel
  have e3 : D.binade = 2 ^ 52 := by decide +kernel
  unfold isNan Format.read
  simp only [e1, e2, e3]
  have hm : (s * 2 ^ 63 + 0x7ff0000000000000 + 1 + q) % 2 ^ 63 = 0x7ff0000000000000 + 1 + q := by omega
  rw [hm, if_neg (by omega), if_neg (by omega), if_neg (by omega)]
  rfl

section
variable {P : Program} (w : World)

/-- an operation on two floats: whatever they are, a float comes, told but for which NaN it is -/
theorem run_arith (op : BinOp) (x y : Nat) (o : Option Nat) (hn : ∀ r, o = some r → isNan r = false)
    (he : Op.floatArith op .f64 x y = (do match o with | some r => pure (.float .f64 r) | none => pure (.float .f64 (← choose (.nanBits .f64 x y))))) :
    ∃ r n, (Op.floatArith op .f64 x y).run P w = .ok (.float .f64 r) (w.drewN n) ∧ can r = opt o := by
  rw [he]
  cases o with
  | some r => exact ⟨r, 0, rfl, can_of_not (hn r rfl)⟩
  | none => exact ⟨_, 1, rfl, can_of_nan (isNan_drawn _ _ _)⟩

theorem run_fadd (x y : Nat) (t : TypeId) : ∃ r n, (binOp .add t (.float .f64 x) (.float .f64 y)).run P w = .ok (.float .f64 r) (w.drewN n) ∧ can r = fadd (can x) (can y) := by
  rw [fadd_can]; exact run_arith w .add x y _ (fun _ => add_nan) rfl
theorem run_fsub (x y : Nat) (t : TypeId) : ∃ r n, (binOp .sub t (.float .f64 x) (.float .f64 y)).run P w = .ok (.float .f64 r) (w.drewN n) ∧ can r = fsub (can x) (can y) := by
  rw [fsub_can]; exact run_arith w .sub x y _ (fun _ => sub_nan) rfl
theorem run_fmul (x y : Nat) (t : TypeId) : ∃ r n, (binOp .mul t (.float .f64 x) (.float .f64 y)).run P w = .ok (.float .f64 r) (w.drewN n) ∧ can r = fmul (can x) (can y) := by
  rw [fmul_can]; exact run_arith w .mul x y _ (fun _ => mul_nan) rfl
theorem run_fdiv (x y : Nat) (t : TypeId) : ∃ r n, (binOp .quo t (.float .f64 x) (.float .f64 y)).run P w = .ok (.float .f64 r) (w.drewN n) ∧ can r = fdiv (can x) (can y) := by
  rw [fdiv_can]; exact run_arith w .quo x y _ (fun _ => div_nan) rfl
end
attribute [irreducible] fadd fsub fmul fdiv fsqrt can isNan
end Go.Fp

/- Numbers whose size is below a power of two: no operation on them is invalid. -/
namespace Go.Fp
open Ieee

/-- a number, in size below 2 ^ k -/
def Tp (k : Int) (x : Nat) : Prop := ∃ s m p, D.read x = .number s m p ∧ (m = 0 ∨ p + (m.log2 : Int) + 1 ≤ k)

theorem Tp.mono {a b : Int} {x : Nat} (h : Tp a x) (hab : a ≤ b) : Tp b x := by
  obtain ⟨s, m, p, hr, h⟩ := h
  refine ⟨s, m, p, hr, ?_⟩
  rcases h with h | h
  · exact .inl h
  · exact .inr (by omega)

theorem D_sign : D.signWeight = 2 ^ 63 := by decide +kernel
theorem D_inf : D.infRung = 2047 * 2 ^ 52 := by decide +kernel
theorem D_bin : D.binade = 2 ^ 52 := by decide +kernel
theorem D_least : D.leastPlace = -1074 := by decide +kernel
theorem D_frac : (D.fractionBits : Int) = 52 := by decide +kernel

/-- the word of a sign and a rung -/
theorem word_mod (s : Bool) {r : Nat} (h : r < 2 ^ 63) : D.word s r % 2 ^ 63 = r := by
  unfold Format.word
  rw [D_sign]
  cases s <;> simp <;> omega

theorem read_word (s : Bool) {r : Nat} (h : r < 2047 * 2 ^ 52) : ∃ s', D.read (D.word s r) = if r < 2 ^ 52 then .number s' r (-1074) else .number s' (2 ^ 52 + r % 2 ^ 52) (-1074 + (r / 2 ^ 52 - 1 : Nat)) := by
  refine ⟨D.word s r / 2 ^ 63 % 2 == 1, ?_⟩
  unfold Format.read
  simp only [D_sign, D_inf, D_bin, D_least]
  rw [word_mod s (by omega)]
  by_cases h1 : r < 2 ^ 52
  · rw [if_pos h1, if_pos h1]
  · rw [if_neg h1, if_neg h1, if_pos h]

theorem log2_of {m k : Nat} (h0 : m ≠ 0) (h : m < 2 ^ (k + 1)) : m.log2 ≤ k := by
  have := (Nat.log2_lt h0 (k := k + 1)).2 h
  omega

theorem tp_word (s : Bool) {r : Nat} {k : Int} (hr : (r : Int) ≤ (k + 1023) * 2 ^ 52) (h0 : 0 ≤ k + 1022) (hk : k < 1023) : Tp (k + 1) (D.word s r) := by
  have hlt : r < 2047 * 2 ^ 52 := by omega
  obtain ⟨s', e⟩ := read_word s hlt
  split at e
  · rename_i h1
    refine ⟨s', r, -1074, e, ?_⟩
    by_cases hz : r = 0
    · exact .inl hz
    · have := log2_of (k := 51) hz h1
      exact .inr (by omega)
  · rename_i h1
    refine ⟨s', _, _, e, .inr ?_⟩
    have : (2 ^ 52 + r % 2 ^ 52).log2 ≤ 52 := log2_of (by omega) (by omega)
    omega

theorem lt_log2 (m : Nat) : m < 2 ^ (m.log2 + 1) := Nat.lt_log2_self

theorem log2_shift_le (m i : Nat) (h : m ≠ 0) : (m <<< i).log2 = m.log2 + i := by
  apply Nat.le_antisymm
  · have hne : m <<< i ≠ 0 := by rw [Nat.shiftLeft_eq]; exact Nat.mul_ne_zero h (by have := Nat.two_pow_pos i; omega)
    refine log2_of hne ?_
    rw [Nat.shiftLeft_eq, show m.log2 + i + 1 = (m.log2 + 1) + i by omega, Nat.pow_add]
    exact Nat.mul_lt_mul_of_pos_right (lt_log2 m) (Nat.two_pow_pos _)
  · have hne : m <<< i ≠ 0 := by rw [Nat.shiftLeft_eq]; exact Nat.mul_ne_zero h (by have := Nat.two_pow_pos i; omega)
    rw [Nat.le_log2 hne, Nat.shiftLeft_eq, Nat.pow_add]
    exact Nat.mul_le_mul_right _ (Nat.log2_self_le h)

/-- what is kept of a number has at most 53 digits, or is 2 ^ 53 -/
theorem cut_le (s : Bool) (n drop j : Nat) (h : n < 2 ^ (j + drop)) : Toward.even.cut s n drop ≤ 2 ^ j := by
  unfold Toward.cut
  by_cases hd : drop ≤ n.log2 + 2
  · rw [Nat.min_eq_left hd]
    have hg : (1 <<< drop : Nat) = 2 ^ drop := by rw [Nat.shiftLeft_eq, Nat.one_mul]
    simp only [hg]
    have h1 : n / 2 ^ drop < 2 ^ j := by
      rw [Nat.div_lt_iff_lt_mul (Nat.two_pow_pos _), ← Nat.pow_add]
      exact h
    have h2 : ∀ b : Bool, b.toNat ≤ 1 := fun b => by cases b <;> simp
    have := h2 ((decide (2 ^ drop < 2 * (n % 2 ^ drop)) || 2 ^ drop == 2 * (n % 2 ^ drop) && n / 2 ^ drop % 2 == 1))
    omega
  · have hd' : min drop (n.log2 + 2) = n.log2 + 2 := Nat.min_eq_right (by omega)
    rw [hd']
    have hg : (1 <<< (n.log2 + 2) : Nat) = 2 ^ (n.log2 + 2) := by rw [Nat.shiftLeft_eq, Nat.one_mul]
    simp only [hg]
    have hn := lt_log2 n
    have h4 : 2 ^ (n.log2 + 2) = 2 * 2 ^ (n.log2 + 1) := by rw [Nat.pow_succ, Nat.mul_comm]
    have h1 : n / 2 ^ (n.log2 + 2) = 0 := Nat.div_eq_of_lt (by omega)
    have h2 : n % 2 ^ (n.log2 + 2) = n := Nat.mod_eq_of_lt (by omega)
    rw [h1, h2]
    have h3 : (2 ^ (n.log2 + 2) < 2 * n) = False := by simp; omega
    have h5 : (2 ^ (n.log2 + 2) == 2 * n) = false := by simp; omega
    simp [h3, h5]

theorem tp_nearest (s : Bool) (m : Nat) (p k : Int) (h : m = 0 ∨ p + (m.log2 : Int) + 1 ≤ k) (h0 : -1000 ≤ k) (hk : k < 1023) : Tp (k + 1) (D.nearest s m p) := by
  unfold Format.nearest
  by_cases hm : m = 0
  · rw [if_pos hm]
    exact tp_word s (r := 0) (by omega) (by omega) hk
  · rw [if_neg hm]
    have h : p + (m.log2 : Int) + 1 ≤ k := by exact h.resolve_left hm
    simp only [D_least, D_frac, D_bin, D_inf]
    generalize hl : max (p + (m.log2 : Int) - 52) (-1074) = last
    have hl1 : p + (m.log2 : Int) - 52 ≤ last := by omega
    have hl2 : -1074 ≤ last := by omega
    have hl3 : last = p + (m.log2 : Int) - 52 ∨ last = -1074 := by omega
    have hc : Toward.even.cut s (m <<< (p - last).toNat) (last - p).toNat ≤ 2 ^ 53 := by
      refine cut_le _ _ _ _ ?_
      have hb := lt_log2 (m <<< (p - last).toNat)
      rw [log2_shift_le _ _ hm] at hb
      refine Nat.lt_of_lt_of_le hb (Nat.pow_le_pow_right (by decide) ?_)
      omega
    refine tp_word s ?_ (by omega) hk
    have h3 : (2 : Nat) ^ 53 = 2 * 2 ^ 52 := by decide
    generalize Toward.even.cut s (m <<< (p - last).toNat) (last - p).toNat = c at hc
    have h4 : (min ((last - -1074).toNat * 2 ^ 52 + c) (2047 * 2 ^ 52) : Nat) ≤ (last - -1074).toNat * 2 ^ 52 + c := Nat.min_le_left _ _
    omega

theorem log2_mul_le (m n : Nat) (hm : m ≠ 0) (hn : n ≠ 0) : (m * n).log2 ≤ m.log2 + n.log2 + 1 := by
  refine log2_of (Nat.mul_ne_zero hm hn) ?_
  have h1 := lt_log2 m
  have h2 := lt_log2 n
  rw [show m.log2 + n.log2 + 1 + 1 = (m.log2 + 1) + (n.log2 + 1) by omega, Nat.pow_add]
  exact Nat.mul_lt_mul_of_lt_of_lt h1 h2

theorem tp_mul {a b : Int} {x y : Nat} (hx : Tp a x) (hy : Tp b y) (h0 : -1000 ≤ a + b) (h1 : a + b < 1023) : D.mul x y = some (fmul x y) ∧ Tp (a + b + 1) (fmul x y) := by
  obtain ⟨s, m, i, hr, h⟩ := hx
  obtain ⟨t, n, j, hr', h'⟩ := hy
  have e : D.mul x y = some (D.nearest (s ^^ t) (m * n) (i + j)) := by
    unfold Format.mul; rw [hr, hr']; rfl
  have e2 : fmul x y = D.nearest (s ^^ t) (m * n) (i + j) := by unfold fmul opt; rw [e]; rfl
  refine ⟨by rw [e, e2], ?_⟩
  rw [e2]
  refine tp_nearest _ _ _ _ ?_ h0 h1
  by_cases hm : m = 0
  · exact .inl (by rw [hm, Nat.zero_mul])
  · by_cases hn : n = 0
    · exact .inl (by rw [hn, Nat.mul_zero])
    · have := log2_mul_le m n hm hn
      exact .inr (by omega)

theorem natAbs_signed (s : Bool) (m i : Nat) : (signed s m i).natAbs = m <<< i := by
  unfold signed; cases s
  · simp only [Bool.false_eq_true, if_false]; exact Int.natAbs_natCast _
  · simp only [if_true]; rw [Int.natAbs_neg]; exact Int.natAbs_natCast _

theorem tp_sum {a : Int} {s t : Bool} {m n : Nat} {i j : Int} (h : m = 0 ∨ i + (m.log2 : Int) + 1 ≤ a) (h' : n = 0 ∨ j + (n.log2 : Int) + 1 ≤ a) :
    (signed s m (i - min i j).toNat + signed t n (j - min i j).toNat).natAbs = 0 ∨
      min i j + ((signed s m (i - min i j).toNat + signed t n (j - min i j).toNat).natAbs.log2 : Int) + 1 ≤ a + 1 := by
  by_cases hz : (signed s m (i - min i j).toNat + signed t n (j - min i j).toNat).natAbs = 0
  · exact .inl hz
  · refine .inr ?_
    have ht : (signed s m (i - min i j).toNat + signed t n (j - min i j).toNat).natAbs ≤ m <<< (i - min i j).toNat + n <<< (j - min i j).toNat := by
      rw [← natAbs_signed s, ← natAbs_signed t]; exact Int.natAbs_add_le _ _
    -- both below 2 ^ (a - base), unless one is nought
    have hb : ∀ (m : Nat) (i' : Int), (m = 0 ∨ i' + (m.log2 : Int) + 1 ≤ a) → min i j ≤ i' → m <<< (i' - min i j).toNat < 2 ^ (a - min i j).toNat ∨ m = 0 := by
      intro m i' hm hi'
      by_cases h0 : m = 0
      · exact .inr h0
      · refine .inl ?_
        have hm : i' + (m.log2 : Int) + 1 ≤ a := by exact hm.resolve_left h0
        have := lt_log2 (m <<< (i' - min i j).toNat)
        rw [log2_shift_le _ _ h0] at this
        exact Nat.lt_of_lt_of_le this (Nat.pow_le_pow_right (by decide) (by omega))
    have hm := hb m i h (Int.min_le_left _ _)
    have hn := hb n j h' (Int.min_le_right _ _)
    have hp : 0 < 2 ^ (a - min i j).toNat := Nat.two_pow_pos _
    have hm' : m <<< (i - min i j).toNat < 2 ^ (a - min i j).toNat := by
      rcases hm with hm | hm
      · exact hm
      · rw [hm, Nat.zero_shiftLeft]; exact hp
    have hn' : n <<< (j - min i j).toNat < 2 ^ (a - min i j).toNat := by
      rcases hn with hn | hn
      · exact hn
      · rw [hn, Nat.zero_shiftLeft]; exact hp
    have hlt : (signed s m (i - min i j).toNat + signed t n (j - min i j).toNat).natAbs < 2 ^ ((a - min i j).toNat + 1) := by
      rw [Nat.pow_succ]; omega
    have hl := log2_of hz hlt
    -- one of the two is not nought, so a is not below the base
    have hne : min i j ≤ a := by
      rcases h with h | h
      · rcases h' with h' | h'
        · exfalso; apply hz; rw [h, h']; cases s <;> cases t <;> simp [signed]
        · have := Int.min_le_right i j; omega
      · have := Int.min_le_left i j; omega
    omega

theorem tp_add {a : Int} {x y : Nat} (hx : Tp a x) (hy : Tp a y) (h0 : -1000 ≤ a) (h1 : a < 1022) : D.add x y = some (fadd x y) ∧ Tp (a + 2) (fadd x y) := by
  obtain ⟨s, m, i, hr, h⟩ := hx
  obtain ⟨t, n, j, hr', h'⟩ := hy
  have e : ∃ u, D.add x y = some (D.nearest u (signed s m (i - min i j).toNat + signed t n (j - min i j).toNat).natAbs (min i j)) := by
    unfold Format.add; rw [hr, hr']; exact ⟨_, rfl⟩
  obtain ⟨u, e⟩ := e
  have e2 : fadd x y = D.nearest u (signed s m (i - min i j).toNat + signed t n (j - min i j).toNat).natAbs (min i j) := by unfold fadd opt; rw [e]; rfl
  refine ⟨by rw [e, e2], ?_⟩
  rw [e2, show a + 2 = (a + 1) + 1 by omega]
  exact tp_nearest _ _ _ _ (tp_sum h h') (by omega) (by omega)

theorem tp_ofInt (n : Int) (k : Nat) (h : n.natAbs < 2 ^ k) (hk : k < 1000) : Tp (k + 1) (floatOfInt .f64 n) := by
  show Tp (k + 1) (D.nearest _ n.natAbs 0)
  refine tp_nearest _ _ _ _ ?_ (by omega) (by omega)
  by_cases hz : n.natAbs = 0
  · exact .inl hz
  · have hk0 : k ≠ 0 := by rintro rfl; simp at h; omega
    have := log2_of (k := k - 1) hz (by rwa [show k - 1 + 1 = k by omega])
    exact .inr (by omega)

theorem Tp.fin {k : Int} {x : Nat} (h : Tp k x) : isNan x = false := by
  obtain ⟨s, m, p, hr, _⟩ := h
  unfold isNan; rw [hr]; rfl
theorem Tp.can {k : Int} {x : Nat} (h : Tp k x) : can x = x := can_of_not h.fin
end Go.Fp

/- Sine and cosine of an angle, as plain functions on words. -/
namespace Go.Fp

def RAD : Nat := 4445950764994258515
def one : Nat := 4607182418800017408
def KK : List Nat := [13818544856648471893, 4575957461383581969, 13774824197408792602, 4523617214285662004, 13716528800881525988, 4460272573143870729, 13648976655441704991, 4389130328383466826]
def DD : List Nat := [13826050856027422720, 4586165620538955093, 13787419979223755799, 4537941361671905306, 13732177094651715420, 4477122120089393304, 13666517717442657437, 4407590220077447199]

/-- c0 + z * (c1 + z * (..)): from the last one back -/
def hor (z : Nat) : List Nat → Nat
  | [] => 0
  | [c] => c
  | c :: d :: r => fadd c (fmul z (hor z (d :: r)))

/-- which quarter, and what is left -/
def quart (a : Int) : Int := (a + 45000000000) / 90000000000
def xOf (a : Int) : Nat := fmul (floatOfInt .f64 (a - quart a * 90000000000)) RAD
def zOf (a : Int) : Nat := fmul (xOf a) (xOf a)
def sOf (a : Int) : Nat := fmul (xOf a) (fadd one (fmul (zOf a) (hor (zOf a) KK)))
def cOf (a : Int) : Nat := fadd one (fmul (zOf a) (hor (zOf a) DD))

/-- closed: of a word, that it is in size below 2 ^ k -/
def tpB (k : Int) (x : Nat) : Bool := match D.read x with | .number _ m p => m == 0 || decide (p + (m.log2 : Int) + 1 ≤ k) | _ => false
theorem tp_of {k : Int} {x : Nat} (h : tpB k x = true) : Tp k x := by
  unfold tpB at h
  split at h
  · rename_i s m p hr
    simp only [Bool.or_eq_true, beq_iff_eq, decide_eq_true_eq] at h
    exact ⟨s, m, p, hr, h⟩
  · cases h

theorem tp_RAD : Tp (-35) RAD := tp_of (by decide +kernel)
theorem tp_one : Tp 1 one := tp_of (by decide +kernel)
theorem tp_KK : ∀ x ∈ KK, Tp 1 x := by
  have : KK.all (tpB 1) = true := by decide +kernel
  intro x hx; exact tp_of (List.all_eq_true.1 this x hx)
theorem tp_DD : ∀ x ∈ DD, Tp 1 x := by
  have : DD.all (tpB 1) = true := by decide +kernel
  intro x hx; exact tp_of (List.all_eq_true.1 this x hx)

theorem tp_x {a : Int} (_h0 : 0 ≤ a) (_h1 : a < 360000000000) : D.mul (floatOfInt .f64 (a - quart a * 90000000000)) RAD = some (xOf a) ∧ Tp 3 (xOf a) := by
  have h : (a - quart a * 90000000000).natAbs < 2 ^ 36 := by unfold quart; omega
  have := tp_mul (tp_ofInt _ 36 h (by omega)) tp_RAD (by omega) (by omega)
  exact ⟨this.1, this.2.mono (by omega)⟩
theorem tp_z {a : Int} (h0 : 0 ≤ a) (h1 : a < 360000000000) : D.mul (xOf a) (xOf a) = some (zOf a) ∧ Tp 7 (zOf a) := by
  have h := (tp_x h0 h1).2
  exact tp_mul h h (by omega) (by omega)

theorem tp_hor {z : Nat} (hz : Tp 7 z) : ∀ l : List Nat, l ≠ [] → l.length ≤ 20 → (∀ x ∈ l, Tp 1 x) → Tp (10 * l.length) (hor z l)
  | [], h, _, _ => absurd rfl h
  | [c], _, _, hl => (hl c (by simp)).mono (by simp)
  | c :: d :: r, _, hn, hl => by
    have ih := tp_hor hz (d :: r) (by simp) (by simp at hn ⊢; omega) (fun x hx => hl x (List.mem_cons_of_mem _ hx))
    have hc : Tp 1 c := hl c (by simp)
    simp only [List.length_cons] at hn ih ⊢
    have hm := (tp_mul hz ih (by omega) (by omega)).2
    have ha := (tp_add (a := 8 + 10 * ((r.length + 1 : Nat) : Int)) (hc.mono (by omega)) (hm.mono (by omega)) (by omega) (by omega)).2
    exact ha.mono (by omega)

/-- one step of the walk down: both operations are valid -/
theorem hor_step {z : Nat} (hz : Tp 7 z) (c d : Nat) (r : List Nat) (hn : r.length ≤ 10) (hl : ∀ x ∈ c :: d :: r, Tp 1 x) :
    D.mul z (hor z (d :: r)) = some (fmul z (hor z (d :: r))) ∧ D.add c (fmul z (hor z (d :: r))) = some (hor z (c :: d :: r)) := by
  have ih := tp_hor hz (d :: r) (by simp) (by simp; omega) (fun x hx => hl x (List.mem_cons_of_mem _ hx))
  have hc : Tp 1 c := hl c (by simp)
  simp only [List.length_cons] at ih
  have hm := tp_mul hz ih (by omega) (by omega)
  have ha := tp_add (a := 8 + 10 * ((r.length + 1 : Nat) : Int)) (hc.mono (by omega)) (hm.2.mono (by omega)) (by omega) (by omega)
  exact ⟨hm.1, ha.1⟩

theorem tp_s {a : Int} (h0 : 0 ≤ a) (h1 : a < 360000000000) : (D.mul (zOf a) (hor (zOf a) KK) = some (fmul (zOf a) (hor (zOf a) KK)) ∧ D.add one (fmul (zOf a) (hor (zOf a) KK)) = some (fadd one (fmul (zOf a) (hor (zOf a) KK))) ∧
    D.mul (xOf a) (fadd one (fmul (zOf a) (hor (zOf a) KK))) = some (sOf a)) ∧ Tp 100 (sOf a) := by
  have hz := (tp_z h0 h1).2
  have hh : Tp 80 (hor (zOf a) KK) := (tp_hor hz KK (by decide) (by decide) tp_KK).mono (by decide)
  have hm := tp_mul hz hh (by omega) (by omega)
  have ha := tp_add (a := 88) (tp_one.mono (by omega)) (hm.2.mono (by omega)) (by omega) (by omega)
  have hx := tp_mul (tp_x h0 h1).2 ha.2 (by omega) (by omega)
  exact ⟨⟨hm.1, ha.1, hx.1⟩, hx.2.mono (by omega)⟩
theorem tp_c {a : Int} (h0 : 0 ≤ a) (h1 : a < 360000000000) : (D.mul (zOf a) (hor (zOf a) DD) = some (fmul (zOf a) (hor (zOf a) DD)) ∧ D.add one (fmul (zOf a) (hor (zOf a) DD)) = some (cOf a)) ∧ Tp 100 (cOf a) := by
  have hz := (tp_z h0 h1).2
  have hh : Tp 80 (hor (zOf a) DD) := (tp_hor hz DD (by decide) (by decide) tp_DD).mono (by decide)
  have hm := tp_mul hz hh (by omega) (by omega)
  have ha := tp_add (a := 88) (tp_one.mono (by omega)) (hm.2.mono (by omega)) (by omega) (by omega)
  exact ⟨⟨hm.1, ha.1⟩, ha.2.mono (by omega)⟩

theorem kk_step {z : Nat} (hz : Tp 7 z) (k : Nat) (hk : k < 7) : ∃ m, D.mul z (hor z (KK.drop (k + 1))) = some m ∧ D.add (KK.getD k 0) m = some (hor z (KK.drop k)) := by
  have h : ∀ c d r, KK.drop k = c :: d :: r → KK.drop (k + 1) = d :: r → KK.getD k 0 = c → r.length ≤ 10 → ∃ m, D.mul z (hor z (KK.drop (k + 1))) = some m ∧ D.add (KK.getD k 0) m = some (hor z (KK.drop k)) := by
    intro c d r e1 e2 e3 hr
    have := hor_step hz c d r hr (fun x hx => tp_KK x (List.drop_subset k KK (by rw [e1]; exact hx)))
    rw [e1, e2, e3]
    exact ⟨_, this⟩
  match k, hk with
  | 0, _ => exact h _ _ _ rfl rfl rfl (by decide)
  | 1, _ => exact h _ _ _ rfl rfl rfl (by decide)
  | 2, _ => exact h _ _ _ rfl rfl rfl (by decide)
  | 3, _ => exact h _ _ _ rfl rfl rfl (by decide)
  | 4, _ => exact h _ _ _ rfl rfl rfl (by decide)
  | 5, _ => exact h _ _ _ rfl rfl rfl (by decide)
  | 6, _ => exact h _ _ _ rfl rfl rfl (by decide)
theorem dd_step {z : Nat} (hz : Tp 7 z) (k : Nat) (hk : k < 7) : ∃ m, D.mul z (hor z (DD.drop (k + 1))) = some m ∧ D.add (DD.getD k 0) m = some (hor z (DD.drop k)) := by
  have h : ∀ c d r, DD.drop k = c :: d :: r → DD.drop (k + 1) = d :: r → DD.getD k 0 = c → r.length ≤ 10 → ∃ m, D.mul z (hor z (DD.drop (k + 1))) = some m ∧ D.add (DD.getD k 0) m = some (hor z (DD.drop k)) := by
    intro c d r e1 e2 e3 hr
    have := hor_step hz c d r hr (fun x hx => tp_DD x (List.drop_subset k DD (by rw [e1]; exact hx)))
    rw [e1, e2, e3]
    exact ⟨_, this⟩
  match k, hk with
  | 0, _ => exact h _ _ _ rfl rfl rfl (by decide)
  | 1, _ => exact h _ _ _ rfl rfl rfl (by decide)
  | 2, _ => exact h _ _ _ rfl rfl rfl (by decide)
  | 3, _ => exact h _ _ _ rfl rfl rfl (by decide)
  | 4, _ => exact h _ _ _ rfl rfl rfl (by decide)
  | 5, _ => exact h _ _ _ rfl rfl rfl (by decide)
  | 6, _ => exact h _ _ _ rfl rfl rfl (by decide)

theorem quart_lo {a : Int} (h0 : 0 ≤ a) : 0 ≤ quart a := by unfold quart; omega
theorem quart_hi {a : Int} (h1 : a < 360000000000) : quart a ≤ 4 := by unfold quart; omega

/-- sine and cosine of a normed angle -/
def sinN (a : Int) : Nat := if quart a % 4 = 0 then sOf a else if quart a % 4 = 1 then cOf a else if quart a % 4 = 2 then Op.negFloat .f64 (sOf a) else Op.negFloat .f64 (cOf a)
def cosN (a : Int) : Nat := if quart a % 4 = 0 then cOf a else if quart a % 4 = 1 then Op.negFloat .f64 (sOf a) else if quart a % 4 = 2 then Op.negFloat .f64 (cOf a) else sOf a
def normP (a : Int) : Int := a % 360000000000
theorem normP_lo (a : Int) : 0 ≤ normP a := by unfold normP; omega
theorem normP_hi (a : Int) : normP a < 360000000000 := by unfold normP; omega
def sinP (a : Int) : Nat := sinN (normP a)
def cosP (a : Int) : Nat := cosN (normP a)

theorem quart4 (a : Int) : quart a % 4 = 0 ∨ quart a % 4 = 1 ∨ quart a % 4 = 2 ∨ quart a % 4 = 3 := by omega
/-- comparisons of words -/
def flt (x y : Nat) : Bool := D.order x y == some .lt
def feq (x y : Nat) : Bool := D.order x y == some .eq
def fgt (x y : Nat) : Bool := D.order x y == some .gt
def fle (x y : Nat) : Bool := D.order x y == some .lt || D.order x y == some .eq
def fge (x y : Nat) : Bool := D.order x y == some .gt || D.order x y == some .eq
def finP (x : Nat) : Bool := feq (fsub x x) 0

/-- the greatest one from lo on, below hi, at which p holds, found by halves -/
def bis (p : Int → Bool) : Nat → Int → Int → Int
  | 0, lo, _ => lo
  | n + 1, lo, hi => if 1 < hi - lo then (if p ((lo + hi) / 2) then bis p n ((lo + hi) / 2) hi else bis p n lo ((lo + hi) / 2)) else lo
def bisect (p : Int → Bool) (lo hi : Int) : Int := bis p (hi - lo).toNat lo hi
theorem bis_more (p : Int → Bool) : ∀ (n m : Nat) (lo hi : Int), (hi - lo).toNat ≤ n → (hi - lo).toNat ≤ m → bis p n lo hi = bis p m lo hi
  | 0, 0, _, _, _, _ => rfl
  | 0, m + 1, lo, hi, h, _ => by unfold bis; rw [if_neg (by omega)]
  | n + 1, 0, lo, hi, _, h => by unfold bis; rw [if_neg (by omega)]
  | n + 1, m + 1, lo, hi, h, h' => by
    unfold bis
    split
    · split
      · exact bis_more p n m _ _ (by omega) (by omega)
      · exact bis_more p n m _ _ (by omega) (by omega)
    · rfl
theorem bisect_done (p : Int → Bool) {lo hi : Int} (h : hi - lo ≤ 1) : bisect p lo hi = lo := by
  unfold bisect
  rw [bis_more p _ ((hi - lo).toNat + 1) lo hi (Nat.le_refl _) (by omega)]
  unfold bis
  rw [if_neg (by omega)]
theorem bisect_yes {p : Int → Bool} {lo hi : Int} (h : 1 < hi - lo) (hp : p ((lo + hi) / 2) = true) : bisect p lo hi = bisect p ((lo + hi) / 2) hi := by
  unfold bisect
  rw [bis_more p _ ((hi - lo).toNat + 1) lo hi (Nat.le_refl _) (by omega)]
  rw [bis.eq_2, if_pos h, if_pos hp]
  exact bis_more p _ _ _ _ (by omega) (by omega)
theorem bisect_no {p : Int → Bool} {lo hi : Int} (h : 1 < hi - lo) (hp : p ((lo + hi) / 2) = false) : bisect p lo hi = bisect p lo ((lo + hi) / 2) := by
  unfold bisect
  rw [bis_more p _ ((hi - lo).toNat + 1) lo hi (Nat.le_refl _) (by omega)]
  rw [bis.eq_2, if_pos h, if_neg (by simp [hp])]
  exact bis_more p _ _ _ _ (by omega) (by omega)

def absW (x : Nat) : Nat := x % 2 ^ 63
/-- the angle of a point, in the first quarter -/
def quad (u w : Nat) : Int := bisect (fun m => fle (fmul (sinP m) u) (fmul (cosP m) w)) 0 90000000001
def angleP (y x : Nat) : Int × Bool :=
  if !finP x || !finP y || (feq x 0 && feq y 0) then (0, false)
  else
    let r := quad (absW x) (absW y)
    if fge x 0 && fge y 0 then (r, true)
    else if fge y 0 then (180000000000 - r, true)
    else if flt x 0 then (180000000000 + r, true)
    else (normP (360000000000 - r), true)

/-- factorials, multiplied up on words -/
def facW : Nat → Nat
  | 0 => one
  | n + 1 => if n = 0 then one else fmul (facW n) (floatOfInt .f64 (n + 1 : Nat))
theorem fac_step (i : Nat) (h1 : 2 ≤ i) (h2 : i ≤ 17) : D.mul (facW (i - 1)) (floatOfInt .f64 (i : Int)) = some (facW i) := by
  have h : ∀ i < 18, 2 ≤ i → D.mul (facW (i - 1)) (floatOfInt .f64 ((i : Nat) : Int)) = some (facW i) := by decide +kernel
  exact h i (by omega) h1
def facS (k odd : Nat) : Nat := if k % 2 = 1 then Op.negFloat .f64 (facW (2 * k + odd)) else facW (2 * k + odd)
theorem fac_KK (k : Nat) (h1 : 1 ≤ k) (h2 : k ≤ 8) : D.div one (facS k 1) = some (KK.getD (k - 1) 0) := by
  have h : ∀ k < 9, 1 ≤ k → D.div one (facS k 1) = some (KK.getD (k - 1) 0) := by decide +kernel
  exact h k (by omega) h1
theorem fac_DD (k : Nat) (h1 : 1 ≤ k) (h2 : k ≤ 8) : D.div one (facS k 0) = some (DD.getD (k - 1) 0) := by
  have h : ∀ k < 9, 1 ≤ k → D.div one (facS k 0) = some (DD.getD (k - 1) 0) := by decide +kernel
  exact h k (by omega) h1
theorem tp_zero : Tp 0 0 := tp_of (by decide +kernel)
theorem kk_val {z : Nat} (hz : Tp 7 z) (k : Nat) (hk : k ≤ 8) : D.mul z (hor z (KK.drop k)) = some (fmul z (hor z (KK.drop k))) := by
  by_cases h8 : k = 8
  · subst h8
    exact (tp_mul hz (tp_zero.mono (b := 0) (by omega)) (by omega) (by omega)).1
  · have := tp_hor hz (KK.drop k) (by intro h; have := congrArg List.length h; simp [KK] at this; omega) (by simp [KK]; omega) (fun x hx => tp_KK x (List.drop_subset k KK hx))
    have hb : Tp 80 (hor z (KK.drop k)) := this.mono (by simp [KK]; omega)
    exact (tp_mul hz hb (by omega) (by omega)).1
theorem dd_val {z : Nat} (hz : Tp 7 z) (k : Nat) (hk : k ≤ 8) : D.mul z (hor z (DD.drop k)) = some (fmul z (hor z (DD.drop k))) := by
  by_cases h8 : k = 8
  · subst h8
    exact (tp_mul hz (tp_zero.mono (b := 0) (by omega)) (by omega) (by omega)).1
  · have := tp_hor hz (DD.drop k) (by intro h; have := congrArg List.length h; simp [DD] at this; omega) (by simp [DD]; omega) (fun x hx => tp_DD x (List.drop_subset k DD hx))
    have hb : Tp 80 (hor z (DD.drop k)) := this.mono (by simp [DD]; omega)
    exact (tp_mul hz hb (by omega) (by omega)).1
/-- a value told up to which NaN it is, that is none -/
theorem can_exact {r E : Nat} (h : can r = E) (hE : isNan E = false) : r = E := by
  cases hn : isNan r
  · rw [← h, can_of_not hn]
  · rw [can_of_nan hn] at h
    rw [← h] at hE
    exact absurd hE (by decide +kernel)
theorem quad_def (u w : Nat) : quad u w = bisect (fun m => fle (fmul (sinP m) u) (fmul (cosP m) w)) 0 90000000001 := rfl
attribute [irreducible] sinP cosP quad angleP
end Go.Fp
