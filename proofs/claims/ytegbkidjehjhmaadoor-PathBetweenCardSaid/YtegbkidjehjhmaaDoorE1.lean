/- The sentinels of package api: what a world holds of them; errors.Is and errors.As at them. -/
import Derived.Test.YtegbkidjehjhmaaDoorProg
import Derived.Test.YtegbkidjehjhmaaDoorW
import Derived.WalkKit
import Derived.LaidEql
import Derived.Stop.Asserts
import Derived.RowKitTokens
namespace Go.Proofs.YtegbkidjehjhmaaDoor
open Go.RowKit Go.Fp Go.Rel Go.Extern.Stop Go.Stop Go.Extern
set_option maxRecDepth 20000

/-- the error value of the sentinel whose object lies at a -/
abbrev errV (a : Addr) : Value := .iface 216 (.pointer (some a))

/-- THE SENTINELS: the variable g, of those in gs, holds a pointer to an object of its own. -/
structure Errs (gs : List Nat) (A : Nat → Addr) (w : World) : Prop where
  cell : ∀ g ∈ gs, w.cell? ⟨g, 0, none⟩ = some (errV (A g))
  blk : ∀ g ∈ gs, ∃ c t, w.heap[(A g).block]? = some (.cells c t (0, 0))
  inj : ∀ g ∈ gs, ∀ h ∈ gs, A g = A h → g = h
/-- errors' own variable: the type 'error' -/
def ErrT (w : World) : Prop := w.cell? ⟨9, 0, none⟩ = some (.iface 179 (.agg #[.pointer (some ⟨14, 39, none⟩)]))

theorem heap_lt {w : World} {n : Nat} {o : Obj} (h : w.heap[n]? = some o) : n < w.heap.size := by
  rcases Nat.lt_or_ge n w.heap.size with h' | h'
  · exact h'
  · rw [Array.getElem?_eq_none h'] at h; cases h
theorem cell_lt {w : World} {n o : Nat} {v : Value} (h : w.cell? ⟨n, o, none⟩ = some v) : n < w.heap.size := by
  rcases Nat.lt_or_ge n w.heap.size with h' | h'
  · exact h'
  · simp [World.cell?, Array.getElem?_eq_none h'] at h
theorem Errs.ext {gs : List Nat} {A : Nat → Addr} {w w' : World} (h : Errs gs A w) (hx : Ext w w') : Errs gs A w' where
  cell g hg := by rw [hx.cell g 0 (cell_lt (h.cell g hg))]; exact h.cell g hg
  blk g hg := by
    obtain ⟨c, t, e⟩ := h.blk g hg
    exact ⟨c, t, by rw [hx.block _ (heap_lt e)]; exact e⟩
  inj := h.inj
theorem ErrT.ext {w w' : World} (h : ErrT w) (hx : Ext w w') : ErrT w' := by
  unfold ErrT at h ⊢
  rw [hx.cell _ 0 (cell_lt h)]; exact h

theorem typeOf_entry : Entry Tryd.prog 108 ReflectliteType.typeOf := fun args w => run_callFunc_extern Tryd.func108 (by kernel_rfl) (by kernel_rfl) (by kernel_rfl) (by kernel_rfl) args w
theorem comparable_entry : Entry Tryd.prog 181 (ReflectliteType.method fun t => do Rtype.noPackHeld "Comparable" t; pure (.bool (← typeInfo t).comparable)) := fun args w => run_callFunc_extern Tryd.func181 (by kernel_rfl) (by kernel_rfl) (by kernel_rfl) (by kernel_rfl) args w
theorem isTypeOf (v : Value) (w : World) : (callFunc 108 #[.iface 216 v]).run Tryd.prog w = .ok (.value (.iface 179 (.agg #[.pointer (some ⟨14, 216, none⟩)]))) w := by rw [typeOf_entry]; kernel_rfl
theorem isComparable (w : World) : (callFunc 181 #[.agg #[.pointer (some ⟨14, 216, none⟩)]]).run Tryd.prog w = .ok (.value (.bool true)) w := by rw [comparable_entry]; kernel_rfl
theorem isMethodComparable (v : Value) (w : World) : (Go.method 352 179 v "Comparable").run Tryd.prog w = .ok (181, v) w := by kernel_rfl
theorem isComp : (Tryd.prog.info? 216).map (·.comparable) = some true := by kernel_rfl
theorem isSize : (Tryd.prog.info? 236).map (·.size) = some 1 := by kernel_rfl
theorem noIsE (v : Value) (xT : TypeId) (w : World) : (Instr.typeAssert (.iface 216 v) xT 189 true).run Tryd.prog w = .ok (.tuple #[.nilIface, .bool false]) w := run_typeAssert_lacksB Tryd.underlying189 (by kernel_rfl) (by kernel_rfl) v xT w
theorem noAsE (v : Value) (xT : TypeId) (w : World) : (Instr.typeAssert (.iface 216 v) xT 183 true).run Tryd.prog w = .ok (.tuple #[.nilIface, .bool false]) w := run_typeAssert_lacksB Tryd.underlying183 (by kernel_rfl) (by kernel_rfl) v xT w
theorem noUnwrapE (v : Value) (xT : TypeId) (w : World) : (Instr.typeAssert (.iface 216 v) xT 186 true).run Tryd.prog w = .ok (.tuple #[.nilIface, .bool false]) w := run_typeAssert_lacksB Tryd.underlying186 (by kernel_rfl) (by kernel_rfl) v xT w
theorem noUnwrapsE (v : Value) (xT : TypeId) (w : World) : (Instr.typeAssert (.iface 216 v) xT 187 true).run Tryd.prog w = .ok (.tuple #[.nilIface, .bool false]) w := run_typeAssert_lacksB Tryd.underlying187 (by kernel_rfl) (by kernel_rfl) v xT w

/-- errors.Is(x, x). -/
theorem is_same (a : Addr) (w : World) : Calls Tryd.prog 91 #[errV a, errV a] w fun e w' => e = .returned (.bool true) ∧ w' = w := by
  obtain ⟨i, hi, hcmp⟩ := Option.map_eq_some_iff.1 isComp
  obtain ⟨j, hj, hjs⟩ := Option.map_eq_some_iff.1 isSize
  have tT := isTypeOf
  have cT := isComparable
  have mR := isMethodComparable
  have heq := run_eql_iface_ptr_same (P := Tryd.prog) w a Tryd.underlying39 Tryd.underlying216 hi hcmp hj
  go_enter Tryd.func91, Tryd.ntmps91
  go_wp2
  refine wp_loop_rounds 1 ?_
  rw [rounds_succ]
  go_wp2
  go_ret
  exact ⟨rfl, rfl⟩

/-- errors.Is(x, y), two sentinels. -/
theorem is_other (a b : Addr) (ca cb : Array Value) (ta tb : TypeId) (w : World) (hne : a ≠ b) (ha : w.heap[a.block]? = some (.cells ca ta (0, 0))) (hb : w.heap[b.block]? = some (.cells cb tb (0, 0))) :
    Calls Tryd.prog 91 #[errV a, errV b] w fun e w' => e = .returned (.bool false) ∧ w' = w := by
  obtain ⟨i, hi, hcmp⟩ := Option.map_eq_some_iff.1 isComp
  obtain ⟨j, hj, hjs⟩ := Option.map_eq_some_iff.1 isSize
  have tT := isTypeOf
  have cT := isComparable
  have mR := isMethodComparable
  have nE := noIsE
  have uE := noUnwrapE
  have vE := noUnwrapsE
  have heq := run_eql_iface_ptr_other (P := Tryd.prog) w Tryd.underlying39 Tryd.underlying216 hi hcmp hj (by rw [hjs]; decide) hne ha hb
  go_enter Tryd.func91, Tryd.ntmps91
  go_wp2
  refine wp_loop_rounds 1 ?_
  rw [rounds_succ]
  go_wp2
  go_ret
  exact ⟨rfl, rfl⟩
end Go.Proofs.YtegbkidjehjhmaaDoor
