/- errors.As at a sentinel: it misses. plain.Code and the laws' coded at nil and at each sentinel. -/
import Derived.Test.YtegbkidjehjhmaaDoorE1
namespace Go.Proofs.YtegbkidjehjhmaaDoor
open Go.RowKit Go.Fp Go.Rel Go.Extern.Stop Go.Stop Go.Extern
set_option maxRecDepth 20000

theorem valueOf_entry : Entry Tryd.prog 104 (fun args => ReflectliteValue.unpack (args.getD 0 (.tuple #[]))) := fun args w => @run_callFunc_extern Tryd.prog 104 _ (fun args => ReflectliteValue.unpack (args.getD 0 (.tuple #[]))) Tryd.func104 (by kernel_rfl) (by kernel_rfl) (by kernel_rfl) (by kernel_rfl) args w
theorem type_entry : Entry Tryd.prog 105 (ReflectliteValue.methodAny (ReflectliteValue.valueError "reflectlite.Value.Type" 0) fun t _ _ _ => ReflectliteType.toType t) := fun args w => run_callFunc_extern Tryd.func105 (by kernel_rfl) (by kernel_rfl) (by kernel_rfl) (by kernel_rfl) args w
theorem isNil_entry : Entry Tryd.prog 106 (ReflectliteValue.method (ReflectliteValue.valueError "reflectlite.Value.IsNil" 0) ReflectliteValue.isNil) := fun args w => run_callFunc_extern Tryd.func106 (by kernel_rfl) (by kernel_rfl) (by kernel_rfl) (by kernel_rfl) args w
theorem kind_entry : Entry Tryd.prog 170 (ReflectliteType.abiMethod fun t => do pure (.int .u8 (← Rtype.kind t))) := fun args w => run_callFunc_extern Tryd.func170 (by kernel_rfl) (by kernel_rfl) (by kernel_rfl) (by kernel_rfl) args w
theorem elem_entry : Entry Tryd.prog 182 (ReflectliteType.method ReflectliteType.elem) := fun args w => run_callFunc_extern Tryd.func182 (by kernel_rfl) (by kernel_rfl) (by kernel_rfl) (by kernel_rfl) args w
theorem implements_entry : Entry Tryd.prog 183 (ReflectliteType.relation "Implements" ReflectliteType.implements_) := fun args w => run_callFunc_extern Tryd.func183 (by kernel_rfl) (by kernel_rfl) (by kernel_rfl) (by kernel_rfl) args w
theorem assignable_entry : Entry Tryd.prog 180 (ReflectliteType.relation "AssignableTo" ReflectliteType.assignableTo) := fun args w => run_callFunc_extern Tryd.func180 (by kernel_rfl) (by kernel_rfl) (by kernel_rfl) (by kernel_rfl) args w

/-- the type value of t -/
abbrev tyV (t : TypeId) : Value := .agg #[.pointer (some ⟨14, t, none⟩)]
theorem valueOfPP (t : Addr) (w : World) : (callFunc 104 #[.iface 137 (.pointer (some t))]).run Tryd.prog w
    = .ok (.value (.agg #[.pointer (some ⟨14, 137, none⟩), .pointer (some ⟨w.heap.size, 0, none⟩), .int .u64 150])) (w.alloc (.cells #[.pointer (some t)] 137)) := by rw [valueOf_entry]; kernel_rfl
theorem typePP (a : Addr) (w : World) : (callFunc 105 #[.agg #[.pointer (some ⟨14, 137, none⟩), .pointer (some a), .int .u64 150]]).run Tryd.prog w = .ok (.value (.iface 179 (tyV 137))) w := by rw [type_entry]; kernel_rfl
theorem kindPP (w : World) : (callFunc 170 #[.pointer (some ⟨14, 137, none⟩)]).run Tryd.prog w = .ok (.value (.int .u8 22)) w := by rw [kind_entry]; kernel_rfl
theorem kindP (w : World) : (callFunc 170 #[.pointer (some ⟨14, 122, none⟩)]).run Tryd.prog w = .ok (.value (.int .u8 22)) w := by rw [kind_entry]; kernel_rfl
theorem elemPP (w : World) : (callFunc 182 #[tyV 137]).run Tryd.prog w = .ok (.value (.iface 179 (tyV 122))) w := by rw [elem_entry]; kernel_rfl
theorem implP (w : World) : (callFunc 183 #[tyV 122, .iface 179 (tyV 39)]).run Tryd.prog w = .ok (.value (.bool true)) w := by rw [implements_entry]; kernel_rfl
theorem assignE (w : World) : (callFunc 180 #[tyV 216, .iface 179 (tyV 122)]).run Tryd.prog w = .ok (.value (.bool false)) w := by rw [assignable_entry]; kernel_rfl
theorem methKind (h : Value) (w : World) : (Go.method 352 179 (.agg #[h]) "Kind").run Tryd.prog w = .ok (170, h) w := by kernel_rfl
theorem methElem (h : Value) (w : World) : (Go.method 352 179 (.agg #[h]) "Elem").run Tryd.prog w = .ok (182, .agg #[h]) w := by kernel_rfl
theorem methImpl (h : Value) (w : World) : (Go.method 352 179 (.agg #[h]) "Implements").run Tryd.prog w = .ok (183, .agg #[h]) w := by kernel_rfl
theorem methAssign (h : Value) (w : World) : (Go.method 352 179 (.agg #[h]) "AssignableTo").run Tryd.prog w = .ok (180, .agg #[h]) w := by kernel_rfl

theorem rlm (z : Sem Value) (f : TypeId → Addr → Nat → Nat → Sem Value) (v : Value) :
    ReflectliteValue.method z f #[v] = (do match ← ReflectliteValue.parts v with | none => z | some (t, a, fl) => f t a fl (fl % 32)) := rfl
theorem partsPP (a : Addr) (w : World) : (ReflectliteValue.parts (.agg #[.pointer (some ⟨14, 137, none⟩), .pointer (some a), .int .u64 150])).run Tryd.prog w = .ok (some (137, a, 150)) w := by kernel_rfl
theorem isNilPP (a p : Addr) (W : World) (ha : W.cell? a = some (.pointer (some p))) :
    (callFunc 106 #[.agg #[.pointer (some ⟨14, 137, none⟩), .pointer (some a), .int .u64 150]]).run Tryd.prog W = .ok (.value (.bool false)) W := by
  rw [isNil_entry, rlm]
  simp only [Sem.run_bind, partsPP, Result.andThen]
  simp [ReflectliteValue.isNil, loadVar, isAgg, underlying, Tryd.underlying137, ha, Result.andThen]

set_option maxHeartbeats 4000000 in
/-- errors.As(a sentinel, &f), f a *api.Fault: it misses. -/
theorem as_miss (a t : Addr) (w : World) (hg : ErrT w) : Calls Tryd.prog 90 #[errV a, .iface 137 (.pointer (some t))] w (ExR (.bool false) w) := by
  have tO := isTypeOf
  have mA := methAssign
  have aE := assignE
  have f6 := valueOfPP
  have f7 := typePP
  have mK := methKind
  have mE := methElem
  have mI := methImpl
  have k27 := kindPP
  have k25 := kindP
  have e27 := elemPP
  have i25 := implP
  have nA := noAsE
  have uE := noUnwrapE
  have vE := noUnwrapsE
  have n8 := isNilPP ⟨w.heap.size, 0, none⟩ t ((w.alloc (.cells #[.pointer (some t)] 137)).alloc (.cells #[.pointer (some ⟨14, 137, none⟩), .pointer (some ⟨w.heap.size, 0, none⟩), .int .u64 150] 153)) (by simp)
  have hg2 : ((w.alloc (.cells #[.pointer (some t)] 137)).alloc (.cells #[.pointer (some ⟨14, 137, none⟩), .pointer (some ⟨w.heap.size, 0, none⟩), .int .u64 150] 153)).cell? ⟨9, 0, none⟩ = some (.iface 179 (.agg #[.pointer (some ⟨14, 39, none⟩)])) :=
    hg.ext (((Ext.refl w).alloc _).alloc _)
  go_enter Tryd.func90, Tryd.ntmps90
  go_wp2
  refine wp_loop_rounds 1 ?_
  rw [rounds_succ]
  go_wp2
  go_ret
  refine ⟨rfl, ?_⟩
  repeat (first | exact Ext.refl _ | refine Ext.alloc ?_ _ | refine Ext.setCell ?_ (by simp) _)
end Go.Proofs.YtegbkidjehjhmaaDoor
