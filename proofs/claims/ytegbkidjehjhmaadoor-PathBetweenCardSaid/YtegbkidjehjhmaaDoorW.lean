/- What the walks lean on: stores of floats, the operations on floats, steps of a region that draws its order. -/
import Derived.Test.YtegbkidjehjhmaaDoorPs
import Derived.Test.YtegbkidjehjhmaaDoorRel
import Derived.WalkKit
import Derived.WalkSpells
import Derived.WalkLawsBesides
import Derived.Deep.QuietTactic
import Derived.BigQuiet
import Derived.Lib.Hide
namespace Go.Fp
open Go.RowKit Go.Rel

section
variable {P : Program} {w : World}
@[go_sem] theorem run_store_float (a : Addr) (m : Mode) (k : FloatKind) (b : Nat) : (store a (.float k b) m).run P w = stored P w a (.float k b) m := run_store P w a _ m rfl
@[go_sem] theorem run_store_complex (a : Addr) (m : Mode) (k : FloatKind) (b c : Nat) : (store a (.complex k b c) m).run P w = stored P w a (.complex k b c) m := run_store P w a _ m rfl
end

@[go_sem] theorem alloc_drewN (w : World) (n : Nat) (o : Obj) : (w.drewN n).alloc o = (w.alloc o).drewN n := rfl
@[go_sem] theorem setCell_drewN (w : World) (n : Nat) (a : Addr) (v : Value) : (w.drewN n).setCell a v = (w.setCell a v).drewN n := rfl
@[go_sem] theorem unary_neg_float (k : FloatKind) (b : Nat) : Op.unary .neg (.float k b) = pure (.float k (Op.negFloat k b)) := rfl

/-- a call hands back this float, up to which NaN it is; all that was there is as it was -/
def FlR (E : Nat) (w : World) (e : Ending) (w' : World) : Prop := ∃ r, e = .returned (.float .f64 r) ∧ can r = E ∧ Ext w w'

/-- + - * / on words, by name -/
def fbin : BinOp → Nat → Nat → Nat
  | .add => fadd
  | .sub => fsub
  | .mul => fmul
  | _ => fdiv
def isArith : BinOp → Bool
  | .add | .sub | .mul | .quo => true
  | _ => false

theorem run_fl {P : Program} (w : World) {op : BinOp} (h : isArith op = true) (x y : Nat) (t : TypeId) :
    ∃ r n, (binOp op t (.float .f64 x) (.float .f64 y)).run P w = .ok (.float .f64 r) (w.drewN n) ∧ can r = fbin op (can x) (can y) := by
  cases op <;> first | (cases h; done) | skip
  · exact run_fadd w x y t
  · exact run_fsub w x y t
  · exact run_fmul w x y t
  · exact run_fdiv w x y t

theorem fin_of {x r : Nat} (h : can r = fbin .sub (can x) (can x)) : finP (can x) = (D.order r 0 == some .eq) := by
  have h0 : can 0 = 0 := can_of_not (by decide +kernel)
  have h1 : fsub (can x) (can x) = can r := h.symm
  unfold finP feq
  rw [h1]
  have := order_can r 0
  rw [h0] at this
  rw [this]

/-- one operation on floats in a walk: some word comes, told but for which NaN it is; perhaps a draw -/
theorem upon_fl {P : Program} {o : Oper} {a : Act} {K : Act → World → Prop} {Q : Exit → Act → World → Prop} {W : World} {t : TypeId} {op : BinOp} {x y : Nat} (hop : isArith op = true)
    (h : ∀ r n, can r = fbin op (can x) (can y) → o.upon P a K Q (.ok (.value (.float .f64 r)) (W.drewN n))) :
    o.upon P a K Q (((binOp op t (.float .f64 x) (.float .f64 y)).run P W).andThen fun v w' => .ok (.value v) w') := by
  obtain ⟨r, n, e, hr⟩ := run_fl (P := P) W hop x y t
  rw [e]
  exact h r n hr

/-- one operation on floats in a region that draws its order -/
theorem rel_fl {P : Program} {F : FuncId → Array Value → Value → Prop} {W : World} {K : Value → Prop} {t : TypeId} {op : BinOp} {x y : Nat} (hop : isArith op = true)
    (h : ∀ r, can r = fbin op (can x) (can y) → K (.float .f64 r)) : relUpon P F W K (((binOp op t (.float .f64 x) (.float .f64 y)).run P W).andThen fun v w' => .ok (.value v) w') := by
  obtain ⟨r, n, e, hr⟩ := run_fl (P := P) W hop x y t
  rw [e]
  exact ⟨(Ext.refl _).drewN _, h r hr⟩
/-- a call in such a region -/
theorem rel_call {P : Program} {F : FuncId → Array Value → Value → Prop} {W : World} {K : Value → Prop} {f : FuncId} {args : Array Value} {R : Value → Prop}
    (hc : Calls P f args W (fun e w' => ∃ v, e = .returned v ∧ R v ∧ Ext W w')) (hF : ∀ v, R v ↔ F f args v) (h : ∀ v, R v → K v) : relUpon P F W K (.ok (.enter f args) W) :=
  ⟨Ext.refl _, hc.mono fun _ _ ⟨v, he, hR, hx⟩ => ⟨v, he, (hF v).1 hR, hx⟩, fun v hv => h v ((hF v).2 hv)⟩

/-- the values that a contract tells -/
def isFl (E : Nat) (v : Value) : Prop := ∃ r, v = .float .f64 r ∧ can r = E
theorem FlR.call {P : Program} {f : FuncId} {args : Array Value} {E : Nat} {W : World} (h : Calls P f args W (FlR E W)) : Calls P f args W (fun e w' => ∃ v, e = .returned v ∧ isFl E v ∧ Ext W w') :=
  h.mono fun _ _ ⟨r, he, hr, hx⟩ => ⟨_, he, ⟨r, rfl, hr⟩, hx⟩
theorem ExR.call {P : Program} {f : FuncId} {args : Array Value} {v : Value} {W : World} (h : Calls P f args W (ExR v W)) : Calls P f args W (fun e w' => ∃ u, e = .returned u ∧ u = v ∧ Ext W w') :=
  h.mono fun _ _ ⟨he, hx⟩ => ⟨_, he, rfl, hx⟩

def SpTri (f : Nat → Nat → Nat → Nat) (args : Array Value) (v : Value) : Prop := ∃ x y z : Nat, args = #[.float .f64 x, .float .f64 y, .float .f64 z] ∧ isFl (f (can x) (can y) (can z)) v
theorem spTri_iff (f : Nat → Nat → Nat → Nat) (x y z : Nat) (v : Value) : SpTri f #[.float .f64 x, .float .f64 y, .float .f64 z] v ↔ isFl (f (can x) (can y) (can z)) v := by
  unfold SpTri
  exact ⟨fun ⟨_, _, _, h, k⟩ => by simp at h; obtain ⟨rfl, rfl, rfl⟩ := h; exact k, fun h => ⟨_, _, _, rfl, h⟩⟩
def SpOne (f : Nat → Nat) (args : Array Value) (v : Value) : Prop := ∃ x : Nat, args = #[.float .f64 x] ∧ isFl (f (can x)) v
theorem spOne_iff (f : Nat → Nat) (x : Nat) (v : Value) : SpOne f #[.float .f64 x] v ↔ isFl (f (can x)) v := by
  unfold SpOne
  exact ⟨fun ⟨_, h, k⟩ => by simp at h; obtain rfl := h; exact k, fun h => ⟨_, rfl, h⟩⟩

/-- a function without a body, whose entry is known -/
def Entry (P : Program) (f : FuncId) (e : Array Value → Sem Value) : Prop := ∀ args w, (callFunc f args).run P w = ((e args).run P w).andThen fun v w' => .ok (.value v) w'

theorem upon_sqrt {P : Program} {o : Oper} {a : Act} {K : Act → World → Prop} {Q : Exit → Act → World → Prop} {W : World} {f : FuncId} {x : Nat} (he : Entry P f Extern.MathSqrt.sqrt)
    (h : ∀ r n, can r = fsqrt (can x) → o.upon P a K Q (.ok (.value (.float .f64 r)) (W.drewN n))) : o.upon P a K Q ((callFunc f #[.float .f64 x]).run P W) := by
  rw [he]
  have e : Extern.MathSqrt.sqrt #[.float .f64 x] = (do match D.sqrt x with | some r => pure (.float .f64 r) | none => pure (.float .f64 (← choose (.nanBits .f64 x x)))) := rfl
  rw [e, fsqrt_can] at *
  unfold fsqrt at h
  cases hs : D.sqrt x with
  | some r => rw [hs] at h; exact h r 0 (can_of_not (sqrt_nan hs))
  | none => rw [hs] at h; exact h _ 1 (can_of_nan (isNan_drawn _ _ _))

theorem abs_bits (x : Nat) : (bits .andNot .u64 (x : Int) 9223372036854775808).toNat = x % 2 ^ 63 := by
  show (IntKind.u64.wrap ((BitVec.ofInt 64 (x : Int) &&& ~~~BitVec.ofInt 64 9223372036854775808 : BitVec 64).toNat : Int)).toNat = x % 2 ^ 63
  have h : (BitVec.ofInt 64 (x : Int) &&& ~~~BitVec.ofInt 64 9223372036854775808) = (BitVec.ofNat 64 (x % 2 ^ 63)) := by
    apply BitVec.eq_of_getElem_eq
    intro i hi
    have hm : ∀ i, i < 64 → (BitVec.ofInt 64 9223372036854775808).getLsbD i = decide (i = 63) := by decide
    have hmi := hm i hi
    rw [BitVec.getLsbD_eq_getElem hi] at hmi
    rw [BitVec.getElem_and, BitVec.getElem_not, hmi]
    rw [← BitVec.getLsbD_eq_getElem, ← BitVec.getLsbD_eq_getElem]
    rw [BitVec.ofInt_natCast, BitVec.getLsbD_ofNat, BitVec.getLsbD_ofNat, Nat.testBit_mod_two_pow]
    by_cases h63 : i = 63
    · subst h63; simp
    · simp [h63, hi]; omega
  rw [h, BitVec.toNat_ofNat, IntKind.wrap_u64]
  omega

/-- the world goes on by draws -/
theorem drewN0 (w : World) : w = w.drewN 0 := rfl
end Go.Fp
