/- errors.As at a sentinel: it misses. plain.Code and the laws' coded at nil and at each sentinel. -/
import Derived.Test.YtdgaeodkffhciaaDoorE1
namespace Go.Proofs.YtdgaeodkffhciaaDoor
open Go.RowKit Go.Fp Go.Rel Go.Extern.Stop Go.Stop Go.Extern
set_option maxRecDepth 20000

theorem valueOf_entry : Entry Tryd.prog 88 (fun args => ReflectliteValue.unpack (args.getD 0 (.tuple #[]))) := fun args w => @run_callFunc_extern Tryd.prog 88 _ (fun args => ReflectliteValue.unpack (args.getD 0 (.tuple #[]))) Tryd.func88 (by kernel_rfl) (by kernel_rfl) (by kernel_rfl) (by kernel_rfl) args w
theorem type_entry : Entry Tryd.prog 89 (ReflectliteValue.methodAny (ReflectliteValue.valueError "reflectlite.Value.Type" 0) fun t _ _ _ => ReflectliteType.toType t) := fun args w => run_callFunc_extern Tryd.func89 (by kernel_rfl) (by kernel_rfl) (by kernel_rfl) (by kernel_rfl) args w
theorem isNil_entry : Entry Tryd.prog 90 (ReflectliteValue.method (ReflectliteValue.valueError "reflectlite.Value.IsNil" 0) ReflectliteValue.isNil) := fun args w => run_callFunc_extern Tryd.func90 (by kernel_rfl) (by kernel_rfl) (by kernel_rfl) (by kernel_rfl) args w
theorem kind_entry : Entry Tryd.prog 121 (ReflectliteType.abiMethod fun t => do pure (.int .u8 (← Rtype.kind t))) := fun args w => run_callFunc_extern Tryd.func121 (by kernel_rfl) (by kernel_rfl) (by kernel_rfl) (by kernel_rfl) args w
theorem elem_entry : Entry Tryd.prog 132 (ReflectliteType.method ReflectliteType.elem) := fun args w => run_callFunc_extern Tryd.func132 (by kernel_rfl) (by kernel_rfl) (by kernel_rfl) (by kernel_rfl) args w
theorem implements_entry : Entry Tryd.prog 133 (ReflectliteType.relation "Implements" ReflectliteType.implements_) := fun args w => run_callFunc_extern Tryd.func133 (by kernel_rfl) (by kernel_rfl) (by kernel_rfl) (by kernel_rfl) args w
theorem assignable_entry : Entry Tryd.prog 130 (ReflectliteType.relation "AssignableTo" ReflectliteType.assignableTo) := fun args w => run_callFunc_extern Tryd.func130 (by kernel_rfl) (by kernel_rfl) (by kernel_rfl) (by kernel_rfl) args w

/-- the type value of t -/
abbrev tyV (t : TypeId) : Value := .agg #[.pointer (some ⟨10, t, none⟩)]
theorem valueOfPP (t : Addr) (w : World) : (callFunc 88 #[.iface 123 (.pointer (some t))]).run Tryd.prog w
    = .ok (.value (.agg #[.pointer (some ⟨10, 123, none⟩), .pointer (some ⟨w.heap.size, 0, none⟩), .int .u64 150])) (w.alloc (.cells #[.pointer (some t)] 123)) := by rw [valueOf_entry]; kernel_rfl
theorem typePP (a : Addr) (w : World) : (callFunc 89 #[.agg #[.pointer (some ⟨10, 123, none⟩), .pointer (some a), .int .u64 150]]).run Tryd.prog w = .ok (.value (.iface 152 (tyV 123))) w := by rw [type_entry]; kernel_rfl
theorem kindPP (w : World) : (callFunc 121 #[.pointer (some ⟨10, 123, none⟩)]).run Tryd.prog w = .ok (.value (.int .u8 22)) w := by rw [kind_entry]; kernel_rfl
theorem kindP (w : World) : (callFunc 121 #[.pointer (some ⟨10, 121, none⟩)]).run Tryd.prog w = .ok (.value (.int .u8 22)) w := by rw [kind_entry]; kernel_rfl
theorem elemPP (w : World) : (callFunc 132 #[tyV 123]).run Tryd.prog w = .ok (.value (.iface 152 (tyV 121))) w := by rw [elem_entry]; kernel_rfl
theorem implP (w : World) : (callFunc 133 #[tyV 121, .iface 152 (tyV 28)]).run Tryd.prog w = .ok (.value (.bool true)) w := by rw [implements_entry]; kernel_rfl
theorem assignE (w : World) : (callFunc 130 #[tyV 169, .iface 152 (tyV 121)]).run Tryd.prog w = .ok (.value (.bool false)) w := by rw [assignable_entry]; kernel_rfl
theorem methKind (h : Value) (w : World) : (Go.method 309 152 (.agg #[h]) "Kind").run Tryd.prog w = .ok (121, h) w := by kernel_rfl
theorem methElem (h : Value) (w : World) : (Go.method 309 152 (.agg #[h]) "Elem").run Tryd.prog w = .ok (132, .agg #[h]) w := by kernel_rfl
theorem methImpl (h : Value) (w : World) : (Go.method 309 152 (.agg #[h]) "Implements").run Tryd.prog w = .ok (133, .agg #[h]) w := by kernel_rfl
theorem methAssign (h : Value) (w : World) : (Go.method 309 152 (.agg #[h]) "AssignableTo").run Tryd.prog w = .ok (130, .agg #[h]) w := by kernel_rfl

theorem rlm (z : Sem Value) (f : TypeId → Addr → Nat → Nat → Sem Value) (v : Value) :
    ReflectliteValue.method z f #[v] = (do match ← ReflectliteValue.parts v with | none => z | some (t, a, fl) => f t a fl (fl % 32)) := rfl
theorem partsPP (a : Addr) (w : World) : (ReflectliteValue.parts (.agg #[.pointer (some ⟨10, 123, none⟩), .pointer (some a), .int .u64 150])).run Tryd.prog w = .ok (some (123, a, 150)) w := by kernel_rfl
theorem isNilPP (a p : Addr) (W : World) (ha : W.cell? a = some (.pointer (some p))) :
    (callFunc 90 #[.agg #[.pointer (some ⟨10, 123, none⟩), .pointer (some a), .int .u64 150]]).run Tryd.prog W = .ok (.value (.bool false)) W := by
  rw [isNil_entry, rlm]
  simp only [Sem.run_bind, partsPP, Result.andThen]
  simp [ReflectliteValue.isNil, loadVar, isAgg, underlying, Tryd.underlying123, ha, Result.andThen]

set_option maxHeartbeats 4000000 in
/-- errors.As(a sentinel, &f), f a *api.Fault: it misses. -/
theorem as_miss (a t : Addr) (w : World) (hg : ErrT w) : Calls Tryd.prog 75 #[errV a, .iface 123 (.pointer (some t))] w (ExR (.bool false) w) := by
  have tO := isTypeOf
  have mA := methAssign
  have aE := assignE
  have f6 := valueOfPP
  have f7 := typePP
  have mK := methKind
  have mE := methElem
  have mI := methImpl
  have k27 := kindPP
  have k25 := kindP
  have e27 := elemPP
  have i25 := implP
  have nA := noAsE
  have uE := noUnwrapE
  have vE := noUnwrapsE
  have n8 := isNilPP ⟨w.heap.size, 0, none⟩ t ((w.alloc (.cells #[.pointer (some t)] 123)).alloc (.cells #[.pointer (some ⟨10, 123, none⟩), .pointer (some ⟨w.heap.size, 0, none⟩), .int .u64 150] 136)) (by simp)
  have hg2 : ((w.alloc (.cells #[.pointer (some t)] 123)).alloc (.cells #[.pointer (some ⟨10, 123, none⟩), .pointer (some ⟨w.heap.size, 0, none⟩), .int .u64 150] 136)).cell? ⟨9, 0, none⟩ = some (.iface 152 (.agg #[.pointer (some ⟨10, 28, none⟩)])) :=
    hg.ext (((Ext.refl w).alloc _).alloc _)
  go_enter Tryd.func75, Tryd.ntmps75
  go_wp2
  refine wp_loop_rounds 1 ?_
  rw [rounds_succ]
  go_wp2
  go_ret
  refine ⟨rfl, ?_⟩
  repeat (first | exact Ext.refl _ | refine Ext.alloc ?_ _ | refine Ext.setCell ?_ (by simp) _)
end Go.Proofs.YtdgaeodkffhciaaDoor
