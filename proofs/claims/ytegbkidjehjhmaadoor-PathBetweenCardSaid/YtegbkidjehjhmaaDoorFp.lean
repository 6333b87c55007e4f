/- The operations on float64 words as total functions, NaNs told as one; sizes. -/
import Derived.WalkKit
import Derived.Deep.QuietTactic
import Derived.WalkLawsBesides
namespace Go.Fp
open Ieee

abbrev D : Format := double
def isNan (x : Nat) : Bool := (D.read x).isNaN
def QN : Nat := 0x7ff8000000000001
def can (x : Nat) : Nat := if isNan x then QN else x
def opt (o : Option Nat) : Nat := o.getD QN
def fadd (x y : Nat) : Nat := opt (D.add x y)
def fsub (x y : Nat) : Nat := opt (D.sub x y)
def fmul (x y : Nat) : Nat := opt (D.mul x y)
def fdiv (x y : Nat) : Nat := opt (D.div x y)
def fsqrt (x : Nat) : Nat := opt (D.sqrt x)

theorem isNan_QN : isNan QN = true := by decide +kernel

theorem rung_lt {r : Nat} (h : r ≤ D.infRung) : r < D.signWeight := Nat.lt_of_le_of_lt h (Format.infRung_lt D)

theorem isNan_word (s : Bool) {r : Nat} (h : r ≤ D.infRung) : isNan (D.word s r) = false := by
  have hr := rung_lt h
  have hm : D.word s r % D.signWeight = r := by
    unfold Format.word
    cases s
    · simp [Nat.mod_eq_of_lt hr]
    · simp [Nat.mod_eq_of_lt hr]
  unfold isNan Format.read
  simp only [hm]
  split
  · rfl
  · split
    · rfl
    · have : r = D.infRung := by omega
      simp [this, Datum.isNaN]

theorem isNan_write {d : Datum} (h : d.isNaN = false) : isNan (D.write d) = false := by
  cases d with
  | number s m p =>
    show isNan (D.nearest s m p) = false
    unfold Format.nearest
    dsimp only
    split
    · exact isNan_word s (Nat.zero_le _)
    · exact isNan_word s (Nat.min_le_right _ _)
  | infinity s => exact isNan_word s (Nat.le_refl _)
  | nan s t => cases h

theorem sum_nan {a b c : Datum} (h : a.sum b = some c) : c.isNaN = false := by
  cases a <;> cases b <;> simp only [Datum.sum] at h <;> first | (cases h; done) | skip
  · cases h; rfl
  · cases h; rfl
  · cases h; rfl
  · split at h <;> cases h; rfl

theorem product_nan {a b c : Datum} (h : a.product b = some c) : c.isNaN = false := by
  cases a <;> cases b <;> simp only [Datum.product] at h <;> first | (cases h; done) | skip
  · cases h; rfl
  · split at h <;> cases h; rfl
  · split at h <;> cases h; rfl
  · cases h; rfl

theorem quotient_nan {g : Nat} {a b c : Datum} (h : Datum.quotient g a b = some c) : c.isNaN = false := by
  cases a <;> cases b <;> simp only [Datum.quotient] at h <;> first | (cases h; done) | skip
  · split at h
    · split at h <;> cases h; rfl
    · cases h; rfl
  · cases h; rfl
  · cases h; rfl

theorem root_nan {g : Nat} {a c : Datum} (h : Datum.root g a = some c) : c.isNaN = false := by
  cases a <;> simp only [Datum.root] at h <;> first | (cases h; done) | skip
  · split at h
    · cases h; rfl
    · split at h <;> cases h; rfl
  · split at h <;> cases h; rfl

theorem map_write_nan {o : Option Datum} {r : Nat} (hn : ∀ c, o = some c → c.isNaN = false) (h : o.map D.write = some r) : isNan r = false := by
  cases o with
  | none => cases h
  | some c => cases h; exact isNan_write (hn c rfl)

theorem add_nan {x y r : Nat} (h : D.add x y = some r) : isNan r = false := map_write_nan (fun _ => sum_nan) h
theorem sub_nan {x y r : Nat} (h : D.sub x y = some r) : isNan r = false := map_write_nan (fun _ => sum_nan) h
theorem mul_nan {x y r : Nat} (h : D.mul x y = some r) : isNan r = false := map_write_nan (fun _ => product_nan) h
theorem div_nan {x y r : Nat} (h : D.div x y = some r) : isNan r = false := map_write_nan (fun _ => quotient_nan) h
theorem sqrt_nan {x r : Nat} (h : D.sqrt x = some r) : isNan r = false := map_write_nan (fun _ => root_nan) h

theorem read_nan {x : Nat} (h : isNan x = true) : ∃ s t, D.read x = .nan s t := by
  unfold isNan at h
  cases hd : D.read x with
  | nan s t => exact ⟨s, t, rfl⟩
  | number s m p => simp [hd, Datum.isNaN] at h
  | infinity s => simp [hd, Datum.isNaN] at h

theorem can_of_nan {x : Nat} (h : isNan x = true) : can x = QN := by simp [can, h]
theorem can_of_not {x : Nat} (h : isNan x = false) : can x = x := by simp [can, h]

theorem can_cases (P : Nat → Prop) (x : Nat) (h1 : isNan x = false → P x) (h2 : isNan x = true → P QN) : P (can x) := by
  cases h : isNan x
  · rw [can_of_not h]; exact h1 h
  · rw [can_of_nan h]; exact h2 h

theorem isNan_can (x : Nat) : isNan (can x) = isNan x := by
  cases h : isNan x
  · rw [can_of_not h]; exact h
  · rw [can_of_nan h]; exact isNan_QN
@[simp] theorem can_can (x : Nat) : can (can x) = can x := by
  cases h : isNan x
  · rw [can_of_not h, can_of_not h]
  · rw [can_of_nan h, can_of_nan isNan_QN]

/-- whatever looks at words by 'read' alone and answers none of a NaN does not tell a word from its canonical one -/
theorem bin_can {α : Type} (f : Nat → Nat → Option α) (hl : ∀ x y, isNan x = true → f x y = none) (hr : ∀ x y, isNan y = true → f x y = none) (x y : Nat) :
    f (can x) (can y) = f x y := by
  cases hx : isNan x
  · rw [can_of_not hx]
    cases hy : isNan y
    · rw [can_of_not hy]
    · rw [hr x _ (by rw [isNan_can]; exact hy), hr x y hy]
  · rw [hl _ _ (by rw [isNan_can]; exact hx), hl x y hx]

theorem add_l (x y : Nat) (h : isNan x = true) : D.add x y = none := by
  obtain ⟨s, t, e⟩ := read_nan h; simp [Format.add, e, Datum.sum]
theorem add_r (x y : Nat) (h : isNan y = true) : D.add x y = none := by
  obtain ⟨s, t, e⟩ := read_nan h; simp only [Format.add, e]; cases D.read x <;> rfl
theorem sub_l (x y : Nat) (h : isNan x = true) : D.sub x y = none := by
  obtain ⟨s, t, e⟩ := read_nan h; simp [Format.sub, e, Datum.sum]
theorem sub_r (x y : Nat) (h : isNan y = true) : D.sub x y = none := by
  obtain ⟨s, t, e⟩ := read_nan h; simp only [Format.sub, e]; cases D.read x <;> rfl
theorem mul_l (x y : Nat) (h : isNan x = true) : D.mul x y = none := by
  obtain ⟨s, t, e⟩ := read_nan h; simp [Format.mul, e, Datum.product]
theorem mul_r (x y : Nat) (h : isNan y = true) : D.mul x y = none := by
  obtain ⟨s, t, e⟩ := read_nan h; simp only [Format.mul, e]; cases D.read x <;> rfl
theorem div_l (x y : Nat) (h : isNan x = true) : D.div x y = none := by
  obtain ⟨s, t, e⟩ := read_nan h; simp [Format.div, e, Datum.quotient]
theorem div_r (x y : Nat) (h : isNan y = true) : D.div x y = none := by
  obtain ⟨s, t, e⟩ := read_nan h; simp only [Format.div, e]; cases D.read x <;> rfl
theorem sqrt_l (x : Nat) (h : isNan x = true) : D.sqrt x = none := by
  obtain ⟨s, t, e⟩ := read_nan h; simp [Format.sqrt, e, Datum.root]
theorem order_l (x y : Nat) (h : isNan x = true) : D.order x y = none := by
  obtain ⟨s, t, e⟩ := read_nan h; simp [Format.order, e, Datum.order]
theorem order_r (x y : Nat) (h : isNan y = true) : D.order x y = none := by
  obtain ⟨s, t, e⟩ := read_nan h; simp only [Format.order, e]; cases D.read x <;> rfl

theorem add_can (x y : Nat) : D.add (can x) (can y) = D.add x y := bin_can _ add_l add_r x y
theorem sub_can (x y : Nat) : D.sub (can x) (can y) = D.sub x y := bin_can _ sub_l sub_r x y
theorem mul_can (x y : Nat) : D.mul (can x) (can y) = D.mul x y := bin_can _ mul_l mul_r x y
theorem div_can (x y : Nat) : D.div (can x) (can y) = D.div x y := bin_can _ div_l div_r x y
theorem order_can (x y : Nat) : D.order (can x) (can y) = D.order x y := bin_can _ order_l order_r x y
theorem sqrt_can (x : Nat) : D.sqrt (can x) = D.sqrt x := by
  cases hx : isNan x
  · rw [can_of_not hx]
  · rw [sqrt_l _ (by rw [isNan_can]; exact hx), sqrt_l _ hx]

@[simp] theorem fadd_can (x y : Nat) : fadd (can x) (can y) = fadd x y := by unfold fadd; rw [add_can]
@[simp] theorem fsub_can (x y : Nat) : fsub (can x) (can y) = fsub x y := by unfold fsub; rw [sub_can]
@[simp] theorem fmul_can (x y : Nat) : fmul (can x) (can y) = fmul x y := by unfold fmul; rw [mul_can]
@[simp] theorem fdiv_can (x y : Nat) : fdiv (can x) (can y) = fdiv x y := by unfold fdiv; rw [div_can]
@[simp] theorem fsqrt_can (x : Nat) : fsqrt (can x) = fsqrt x := by unfold fsqrt; rw [sqrt_can]

theorem can_opt {o : Option Nat} (h : ∀ r, o = some r → isNan r = false) : can (opt o) = opt o := by
  cases o with
  | none => exact can_of_nan isNan_QN
  | some r => exact can_of_not (h r rfl)
@[simp] theorem can_fadd (x y : Nat) : can (fadd x y) = fadd x y := can_opt fun _ => add_nan
@[simp] theorem can_fsub (x y : Nat) : can (fsub x y) = fsub x y := can_opt fun _ => sub_nan
@[simp] theorem can_fmul (x y : Nat) : can (fmul x y) = fmul x y := can_opt fun _ => mul_nan
@[simp] theorem can_fdiv (x y : Nat) : can (fdiv x y) = fdiv x y := can_opt fun _ => div_nan
@[simp] theorem can_fsqrt (x : Nat) : can (fsqrt x) = fsqrt x := can_opt fun _ => sqrt_nan

/-- the bits that the tape gives where the language names none are a NaN's -/
theorem isNan_drawn (x y t : Nat) : isNan (Question.cut (.nanBits .f64 x y) t) = true := by
  have h : ∃ s, s < 2 ∧ ∃ q, q < 2 ^ 52 - 1 ∧ Question.cut (.nanBits .f64 x y) t = s * 2 ^ 63 + 0x7ff0000000000000 + 1 + q :=
    ⟨t % 2, Nat.mod_lt _ (by decide), (t / 2) % (2 ^ 52 - 1), Nat.mod_lt _ (by decide), rfl⟩
  obtain ⟨s, hs, q, hq, e⟩ := h
  rw [e]
  have e1 : D.signWeight = 2 ^ 63 := by decide +kernel
  have e2 : D.infRung = 0x7ff0000000000000 := by decide +kernel
  have e3 : D.binade = 2 ^ 52 := by decide +kernel
  unfold isNan Format.read
  simp only [e1, e2, e3]
  have hm : (s * 2 ^ 63 + 0x7ff0000000000000 + 1 + q) % 2 ^ 63 = 0x7ff0000000000000 + 1 + q := by omega
  rw [hm, if_neg (by omega), if_neg (by omega), if_neg (by omega)]
  rfl

section
variable {P : Program} (w : World)

/-- an operation on two floats: whatever they are, a float comes, told but for which NaN it is -/
theorem run_arith (op : BinOp) (x y : Nat) (o : Option Nat) (hn : ∀ r, o = some r → isNan r = false)
    (he : Op.floatArith op .f64 x y = (do match o with | some r => pure (.float .f64 r) | none => pure (.float .f64 (← choose (.nanBits .f64 x y))))) :
    ∃ r n, (Op.floatArith op .f64 x y).run P w = .ok (.float .f64 r) (w.drewN n) ∧ can r = opt o := by
  rw [he]
  cases o with
  | some r => exact ⟨r, 0, rfl, can_of_not (hn r rfl)⟩
  | none => exact ⟨_, 1, rfl, can_of_nan (isNan_drawn _ _ _)⟩

theorem run_fadd (x y : Nat) (t : TypeId) : ∃ r n, (binOp .add t (.float .f64 x) (.float .f64 y)).run P w = .ok (.float .f64 r) (w.drewN n) ∧ can r = fadd (can x) (can y) := by
  rw [fadd_can]; exact run_arith w .add x y _ (fun _ => add_nan) rfl
theorem run_fsub (x y : Nat) (t : TypeId) : ∃ r n, (binOp .sub t (.float .f64 x) (.float .f64 y)).run P w = .ok (.float .f64 r) (w.drewN n) ∧ can r = fsub (can x) (can y) := by
  rw [fsub_can]; exact run_arith w .sub x y _ (fun _ => sub_nan) rfl
theorem run_fmul (x y : Nat) (t : TypeId) : ∃ r n, (binOp .mul t (.float .f64 x) (.float .f64 y)).run P w = .ok (.float .f64 r) (w.drewN n) ∧ can r = fmul (can x) (can y) := by
  rw [fmul_can]; exact run_arith w .mul x y _ (fun _ => mul_nan) rfl
theorem run_fdiv (x y : Nat) (t : TypeId) : ∃ r n, (binOp .quo t (.float .f64 x) (.float .f64 y)).run P w = .ok (.float .f64 r) (w.drewN n) ∧ can r = fdiv (can x) (can y) := by
  rw [fdiv_can]; exact run_arith w .quo x y _ (fun _ => div_nan) rfl
end
attribute [irreducible] fadd fsub fmul fdiv fsqrt can isNan
end Go.Fp
