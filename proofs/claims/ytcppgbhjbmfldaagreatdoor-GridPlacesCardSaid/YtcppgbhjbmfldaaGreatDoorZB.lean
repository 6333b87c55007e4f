/- The sentinels of package api: what a world holds of them; errors.Is and errors.As at them. -/
import Derived.Test.YtcppgbhjbmfldaaGreatDoorZA
import Derived.Test.YtcppgbhjbmfldaaGreatDoorProg
import Derived.WalkKit
import Derived.LaidEql
import Derived.Stop.Asserts
import Derived.RowKitTokens
import Derived.Test.YtcppgbhjbmfldaaGreatDoorRows
import Derived.Stop.LaidErr
import Derived.LaidHandle
import Derived.LaidMore
import Derived.ProofKit
import Derived.OpenShut
import Derived.Lib.SmallJoins
import Derived.Carry
import Derived.Laws.Cover2
namespace Go.Proofs.YtcppgbhjbmfldaaGreatDoor
open Go.RowKit Go.Fp Go.Rel Go.Extern.Stop Go.Stop Go.Extern
set_option maxRecDepth 20000

/-- the error value of the sentinel whose object lies at a -/
abbrev errV (a : Addr) : Value := .iface 169 (.pointer (some a))

/-- THE SENTINELS: the variable g, of those in gs, holds a pointer to an object of its own. -/
structure Errs (gs : List Nat) (A : Nat → Addr) (w : World) : Prop where
  cell : ∀ g ∈ gs, w.cell? ⟨g, 0, none⟩ = some (errV (A g))
  blk : ∀ g ∈ gs, ∃ c t, w.heap[(A g).block]? = some (.cells c t (0, 0))
  inj : ∀ g ∈ gs, ∀ h ∈ gs, A g = A h → g = h
/-- errors' own variable: the type 'error' -/
def ErrT (w : World) : Prop := w.cell? ⟨9, 0, none⟩ = some (.iface 148 (.agg #[.pointer (some ⟨10, 29, none⟩)]))

theorem heap_lt {w : World} {n : Nat} {o : Obj} (h : w.heap[n]? = some o) : n < w.heap.size := by
  rcases Nat.lt_or_ge n w.heap.size with h' | h'
  · exact h'
  · rw [Array.getElem?_eq_none h'] at h; cases h
theorem cell_lt {w : World} {n o : Nat} {v : Value} (h : w.cell? ⟨n, o, none⟩ = some v) : n < w.heap.size := by
  rcases Nat.lt_or_ge n w.heap.size with h' | h'
  · exact h'
  · simp [World.cell?, Array.getElem?_eq_none h'] at h
theorem Errs.ext {gs : List Nat} {A : Nat → Addr} {w w' : World} (h : Errs gs A w) (hx : Ext w w') : Errs gs A w' where
  cell g hg := by rw [hx.cell g 0 (cell_lt (h.cell g hg))]; exact h.cell g hg
  blk g hg := by
    obtain ⟨c, t, e⟩ := h.blk g hg
    exact ⟨c, t, by rw [hx.block _ (heap_lt e)]; exact e⟩
  inj := h.inj
theorem ErrT.ext {w w' : World} (h : ErrT w) (hx : Ext w w') : ErrT w' := by
  unfold ErrT at h ⊢
  rw [hx.cell _ 0 (cell_lt h)]; exact h

theorem typeOf_entry : Entry Tryz.prog 83 ReflectliteType.typeOf := fun args w => run_callFunc_extern Tryz.func83 (by kernel_rfl) (by kernel_rfl) (by kernel_rfl) (by kernel_rfl) args w
theorem comparable_entry : Entry Tryz.prog 139 (ReflectliteType.method fun t => do Rtype.noPackHeld "Comparable" t; pure (.bool (← typeInfo t).comparable)) := fun args w => run_callFunc_extern Tryz.func139 (by kernel_rfl) (by kernel_rfl) (by kernel_rfl) (by kernel_rfl) args w
theorem isTypeOf (v : Value) (w : World) : (callFunc 83 #[.iface 169 v]).run Tryz.prog w = .ok (.value (.iface 148 (.agg #[.pointer (some ⟨10, 169, none⟩)]))) w := by rw [typeOf_entry]; kernel_rfl
theorem isComparable (w : World) : (callFunc 139 #[.agg #[.pointer (some ⟨10, 169, none⟩)]]).run Tryz.prog w = .ok (.value (.bool true)) w := by rw [comparable_entry]; kernel_rfl
theorem isMethodComparable (v : Value) (w : World) : (Go.method 310 148 v "Comparable").run Tryz.prog w = .ok (139, v) w := by kernel_rfl
theorem isComp : (Tryz.prog.info? 169).map (·.comparable) = some true := by kernel_rfl
theorem isSize : (Tryz.prog.info? 194).map (·.size) = some 1 := by kernel_rfl
theorem noIsE (v : Value) (xT : TypeId) (w : World) : (Instr.typeAssert (.iface 169 v) xT 158 true).run Tryz.prog w = .ok (.tuple #[.nilIface, .bool false]) w := run_typeAssert_lacksB Tryz.underlying158 (by kernel_rfl) (by kernel_rfl) v xT w
theorem noAsE (v : Value) (xT : TypeId) (w : World) : (Instr.typeAssert (.iface 169 v) xT 152 true).run Tryz.prog w = .ok (.tuple #[.nilIface, .bool false]) w := run_typeAssert_lacksB Tryz.underlying152 (by kernel_rfl) (by kernel_rfl) v xT w
theorem noUnwrapE (v : Value) (xT : TypeId) (w : World) : (Instr.typeAssert (.iface 169 v) xT 155 true).run Tryz.prog w = .ok (.tuple #[.nilIface, .bool false]) w := run_typeAssert_lacksB Tryz.underlying155 (by kernel_rfl) (by kernel_rfl) v xT w
theorem noUnwrapsE (v : Value) (xT : TypeId) (w : World) : (Instr.typeAssert (.iface 169 v) xT 156 true).run Tryz.prog w = .ok (.tuple #[.nilIface, .bool false]) w := run_typeAssert_lacksB Tryz.underlying156 (by kernel_rfl) (by kernel_rfl) v xT w

/-- errors.Is(x, x). -/
theorem is_same (a : Addr) (w : World) : Calls Tryz.prog 50 #[errV a, errV a] w fun e w' => e = .returned (.bool true) ∧ w' = w := by
  obtain ⟨i, hi, hcmp⟩ := Option.map_eq_some_iff.1 isComp
  obtain ⟨j, hj, hjs⟩ := Option.map_eq_some_iff.1 isSize
  have tT := isTypeOf
  have cT := isComparable
  have mR := isMethodComparable
  have heq := run_eql_iface_ptr_same (P := Tryz.prog) w a Tryz.underlying29 Tryz.underlying169 hi hcmp hj
  go_enter Tryz.func50, Tryz.ntmps50
  go_wp2
  refine wp_loop_rounds 1 ?_
  rw [rounds_succ]
  go_wp2
  go_ret
  exact ⟨rfl, rfl⟩

/-- errors.Is(x, y), two sentinels. -/
theorem is_other (a b : Addr) (ca cb : Array Value) (ta tb : TypeId) (w : World) (hne : a ≠ b) (ha : w.heap[a.block]? = some (.cells ca ta (0, 0))) (hb : w.heap[b.block]? = some (.cells cb tb (0, 0))) :
    Calls Tryz.prog 50 #[errV a, errV b] w fun e w' => e = .returned (.bool false) ∧ w' = w := by
  obtain ⟨i, hi, hcmp⟩ := Option.map_eq_some_iff.1 isComp
  obtain ⟨j, hj, hjs⟩ := Option.map_eq_some_iff.1 isSize
  have tT := isTypeOf
  have cT := isComparable
  have mR := isMethodComparable
  have nE := noIsE
  have uE := noUnwrapE
  have vE := noUnwrapsE
  have heq := run_eql_iface_ptr_other (P := Tryz.prog) w Tryz.underlying29 Tryz.underlying169 hi hcmp hj (by rw [hjs]; decide) hne ha hb
  go_enter Tryz.func50, Tryz.ntmps50
  go_wp2
  refine wp_loop_rounds 1 ?_
  rw [rounds_succ]
  go_wp2
  go_ret
  exact ⟨rfl, rfl⟩
end Go.Proofs.YtcppgbhjbmfldaaGreatDoor

/- errors.As at a sentinel: it misses. plain.Code and the laws' coded at nil and at each sentinel. -/
namespace Go.Proofs.YtcppgbhjbmfldaaGreatDoor
open Go.RowKit Go.Fp Go.Rel Go.Extern.Stop Go.Stop Go.Extern
set_option maxRecDepth 20000

theorem valueOf_entry : Entry Tryz.prog 79 (fun args => ReflectliteValue.unpack (args.getD 0 (.tuple #[]))) := fun args w => @run_callFunc_extern Tryz.prog 79 _ (fun args => ReflectliteValue.unpack (args.getD 0 (.tuple #[]))) Tryz.func79 (by kernel_rfl) (by kernel_rfl) (by kernel_rfl) (by kernel_rfl) args w
theorem type_entry : Entry Tryz.prog 80 (ReflectliteValue.methodAny (ReflectliteValue.valueError "reflectlite.Value.Type" 0) fun t _ _ _ => ReflectliteType.toType t) := fun args w => run_callFunc_extern Tryz.func80 (by kernel_rfl) (by kernel_rfl) (by kernel_rfl) (by kernel_rfl) args w
theorem isNil_entry : Entry Tryz.prog 81 (ReflectliteValue.method (ReflectliteValue.valueError "reflectlite.Value.IsNil" 0) ReflectliteValue.isNil) := fun args w => run_callFunc_extern Tryz.func81 (by kernel_rfl) (by kernel_rfl) (by kernel_rfl) (by kernel_rfl) args w
theorem kind_entry : Entry Tryz.prog 128 (ReflectliteType.abiMethod fun t => do pure (.int .u8 (← Rtype.kind t))) := fun args w => run_callFunc_extern Tryz.func128 (by kernel_rfl) (by kernel_rfl) (by kernel_rfl) (by kernel_rfl) args w
theorem elem_entry : Entry Tryz.prog 140 (ReflectliteType.method ReflectliteType.elem) := fun args w => run_callFunc_extern Tryz.func140 (by kernel_rfl) (by kernel_rfl) (by kernel_rfl) (by kernel_rfl) args w
theorem implements_entry : Entry Tryz.prog 141 (ReflectliteType.relation "Implements" ReflectliteType.implements_) := fun args w => run_callFunc_extern Tryz.func141 (by kernel_rfl) (by kernel_rfl) (by kernel_rfl) (by kernel_rfl) args w
theorem assignable_entry : Entry Tryz.prog 138 (ReflectliteType.relation "AssignableTo" ReflectliteType.assignableTo) := fun args w => run_callFunc_extern Tryz.func138 (by kernel_rfl) (by kernel_rfl) (by kernel_rfl) (by kernel_rfl) args w

/-- the type value of t -/
abbrev tyV (t : TypeId) : Value := .agg #[.pointer (some ⟨10, t, none⟩)]
theorem valueOfPP (t : Addr) (w : World) : (callFunc 79 #[.iface 104 (.pointer (some t))]).run Tryz.prog w
    = .ok (.value (.agg #[.pointer (some ⟨10, 104, none⟩), .pointer (some ⟨w.heap.size, 0, none⟩), .int .u64 150])) (w.alloc (.cells #[.pointer (some t)] 104)) := by rw [valueOf_entry]; kernel_rfl
theorem typePP (a : Addr) (w : World) : (callFunc 80 #[.agg #[.pointer (some ⟨10, 104, none⟩), .pointer (some a), .int .u64 150]]).run Tryz.prog w = .ok (.value (.iface 148 (tyV 104))) w := by rw [type_entry]; kernel_rfl
theorem kindPP (w : World) : (callFunc 128 #[.pointer (some ⟨10, 104, none⟩)]).run Tryz.prog w = .ok (.value (.int .u8 22)) w := by rw [kind_entry]; kernel_rfl
theorem kindP (w : World) : (callFunc 128 #[.pointer (some ⟨10, 102, none⟩)]).run Tryz.prog w = .ok (.value (.int .u8 22)) w := by rw [kind_entry]; kernel_rfl
theorem elemPP (w : World) : (callFunc 140 #[tyV 104]).run Tryz.prog w = .ok (.value (.iface 148 (tyV 102))) w := by rw [elem_entry]; kernel_rfl
theorem implP (w : World) : (callFunc 141 #[tyV 102, .iface 148 (tyV 29)]).run Tryz.prog w = .ok (.value (.bool true)) w := by rw [implements_entry]; kernel_rfl
theorem assignE (w : World) : (callFunc 138 #[tyV 169, .iface 148 (tyV 102)]).run Tryz.prog w = .ok (.value (.bool false)) w := by rw [assignable_entry]; kernel_rfl
theorem methKind (h : Value) (w : World) : (Go.method 310 148 (.agg #[h]) "Kind").run Tryz.prog w = .ok (128, h) w := by kernel_rfl
theorem methElem (h : Value) (w : World) : (Go.method 310 148 (.agg #[h]) "Elem").run Tryz.prog w = .ok (140, .agg #[h]) w := by kernel_rfl
theorem methImpl (h : Value) (w : World) : (Go.method 310 148 (.agg #[h]) "Implements").run Tryz.prog w = .ok (141, .agg #[h]) w := by kernel_rfl
theorem methAssign (h : Value) (w : World) : (Go.method 310 148 (.agg #[h]) "AssignableTo").run Tryz.prog w = .ok (138, .agg #[h]) w := by kernel_rfl

theorem rlm (z : Sem Value) (f : TypeId → Addr → Nat → Nat → Sem Value) (v : Value) :
    ReflectliteValue.method z f #[v] = (do match ← ReflectliteValue.parts v with | none => z | some (t, a, fl) => f t a fl (fl % 32)) := rfl
theorem partsPP (a : Addr) (w : World) : (ReflectliteValue.parts (.agg #[.pointer (some ⟨10, 104, none⟩), .pointer (some a), .int .u64 150])).run Tryz.prog w = .ok (some (104, a, 150)) w := by kernel_rfl
theorem isNilPP (a p : Addr) (W : World) (ha : W.cell? a = some (.pointer (some p))) :
    (callFunc 81 #[.agg #[.pointer (some ⟨10, 104, none⟩), .pointer (some a), .int .u64 150]]).run Tryz.prog W = .ok (.value (.bool false)) W := by
  rw [isNil_entry, rlm]
  simp only [Sem.run_bind, partsPP, Result.andThen]
  simp [ReflectliteValue.isNil, loadVar, isAgg, underlying, Tryz.underlying104, ha, Result.andThen]

set_option maxHeartbeats 4000000 in
/-- errors.As(a sentinel, &f), f a *api.Fault: it misses. -/
theorem as_miss (a t : Addr) (w : World) (hg : ErrT w) : Calls Tryz.prog 49 #[errV a, .iface 104 (.pointer (some t))] w (ExR (.bool false) w) := by
  have tO := isTypeOf
  have mA := methAssign
  have aE := assignE
  have f6 := valueOfPP
  have f7 := typePP
  have mK := methKind
  have mE := methElem
  have mI := methImpl
  have k27 := kindPP
  have k25 := kindP
  have e27 := elemPP
  have i25 := implP
  have nA := noAsE
  have uE := noUnwrapE
  have vE := noUnwrapsE
  have n8 := isNilPP ⟨w.heap.size, 0, none⟩ t ((w.alloc (.cells #[.pointer (some t)] 104)).alloc (.cells #[.pointer (some ⟨10, 104, none⟩), .pointer (some ⟨w.heap.size, 0, none⟩), .int .u64 150] 125)) (by simp)
  have hg2 : ((w.alloc (.cells #[.pointer (some t)] 104)).alloc (.cells #[.pointer (some ⟨10, 104, none⟩), .pointer (some ⟨w.heap.size, 0, none⟩), .int .u64 150] 125)).cell? ⟨9, 0, none⟩ = some (.iface 148 (.agg #[.pointer (some ⟨10, 29, none⟩)])) :=
    hg.ext (((Ext.refl w).alloc _).alloc _)
  go_enter Tryz.func49, Tryz.ntmps49
  go_wp2
  refine wp_loop_rounds 1 ?_
  rw [rounds_succ]
  go_wp2
  go_ret
  refine ⟨rfl, ?_⟩
  repeat (first | exact Ext.refl _ | refine Ext.alloc ?_ _ | refine Ext.setCell ?_ (by simp) _)
end Go.Proofs.YtcppgbhjbmfldaaGreatDoor

/- plain.Code and the laws' coded: at nil, and at each sentinel. -/
namespace Go.Proofs.YtcppgbhjbmfldaaGreatDoor
open Go.RowKit Go.Fp Go.Rel Go.Extern.Stop Go.Stop Go.Extern
set_option maxRecDepth 20000

/-- the eight sentinels, in the order in which plain.Code asks -/
abbrev g8 : List Nat := [2, 3, 4, 0, 5, 6, 7, 8]

theorem is_no {A : Nat → Addr} {w : World} (h : Errs g8 A w) {g k : Nat} (hg : g ∈ g8) (hk : k ∈ g8) (hne : g ≠ k) : Calls Tryz.prog 50 #[errV (A g), errV (A k)] w fun e w' => e = .returned (.bool false) ∧ w' = w := by
  obtain ⟨c, t, e⟩ := h.blk g hg
  obtain ⟨c', t', e'⟩ := h.blk k hk
  exact is_other _ _ _ _ _ _ w (fun e => hne (h.inj g hg k hk e)) e e'

theorem code_nil (w : World) : Calls Tryz.prog 25 #[.nilIface] w (ExR (.tuple #[.int .i64 0, .int .i64 (-1)]) w) := by
  go_enter Tryz.func25, Tryz.ntmps25
  go_wp2
  go_ret2
  exact ⟨rfl, Ext.refl _⟩

set_option maxHeartbeats 4000000 in
theorem code_bound {A : Nat → Addr} {w : World} (h : Errs g8 A w) (ht : ErrT w) : Calls Tryz.prog 25 #[errV (A 3)] w (ExR (.tuple #[.int .i64 2, .int .i64 (-1)]) w) := by
  go_enter Tryz.func25, Tryz.ntmps25
  go_wp2_with (first | (go_at_call 49; refine (as_miss _ _ _ ?_).mono ?_; (exact ht.ext ((Ext.refl w).alloc _)); rintro e w' ⟨rfl, hx⟩; replace hx := ((Ext.refl w).alloc _).trans hx; have E := h.ext hx; have c0 := E.cell 2 (by simp); have c1 := E.cell 3 (by simp); have c2 := E.cell 4 (by simp); have c3 := E.cell 0 (by simp); have c4 := E.cell 5 (by simp); have c5 := E.cell 6 (by simp); have c6 := E.cell 7 (by simp); have c7 := E.cell 8 (by simp)))
  refine wp_loop_rounds 2 ?_
  have E' := E.ext ((Ext.refl w').alloc (.cells #[errV (A 2), errV (A 3), errV (A 4), errV (A 0), errV (A 5), errV (A 6), errV (A 7), errV (A 8)] 29))
  rw [rounds_succ]
  go_wp2_with (first | (go_at_call 50; refine (is_no E' (g := 3) (k := 2) (by simp) (by simp) (by decide)).mono ?_; rintro e w2 ⟨rfl, rfl⟩))
  rw [rounds_succ]
  go_wp2_with (first | (go_at_call 50; refine (is_same _ _).mono ?_; rintro e w2 ⟨rfl, rfl⟩))
  go_ret2
  exact ⟨rfl, hx.alloc _⟩

set_option maxHeartbeats 4000000 in
theorem code_shape {A : Nat → Addr} {w : World} (h : Errs g8 A w) (ht : ErrT w) : Calls Tryz.prog 25 #[errV (A 4)] w (ExR (.tuple #[.int .i64 3, .int .i64 (-1)]) w) := by
  go_enter Tryz.func25, Tryz.ntmps25
  go_wp2_with (first | (go_at_call 49; refine (as_miss _ _ _ ?_).mono ?_; (exact ht.ext ((Ext.refl w).alloc _)); rintro e w' ⟨rfl, hx⟩; replace hx := ((Ext.refl w).alloc _).trans hx; have E := h.ext hx; have c0 := E.cell 2 (by simp); have c1 := E.cell 3 (by simp); have c2 := E.cell 4 (by simp); have c3 := E.cell 0 (by simp); have c4 := E.cell 5 (by simp); have c5 := E.cell 6 (by simp); have c6 := E.cell 7 (by simp); have c7 := E.cell 8 (by simp)))
  refine wp_loop_rounds 3 ?_
  have E' := E.ext ((Ext.refl w').alloc (.cells #[errV (A 2), errV (A 3), errV (A 4), errV (A 0), errV (A 5), errV (A 6), errV (A 7), errV (A 8)] 29))
  rw [rounds_succ]
  go_wp2_with (first | (go_at_call 50; refine (is_no E' (g := 4) (k := 2) (by simp) (by simp) (by decide)).mono ?_; rintro e w2 ⟨rfl, rfl⟩))
  rw [rounds_succ]
  go_wp2_with (first | (go_at_call 50; refine (is_no E' (g := 4) (k := 3) (by simp) (by simp) (by decide)).mono ?_; rintro e w2 ⟨rfl, rfl⟩))
  rw [rounds_succ]
  go_wp2_with (first | (go_at_call 50; refine (is_same _ _).mono ?_; rintro e w2 ⟨rfl, rfl⟩))
  go_ret2
  exact ⟨rfl, hx.alloc _⟩

set_option maxHeartbeats 4000000 in
theorem code_range {A : Nat → Addr} {w : World} (h : Errs g8 A w) (ht : ErrT w) : Calls Tryz.prog 25 #[errV (A 0)] w (ExR (.tuple #[.int .i64 4, .int .i64 (-1)]) w) := by
  go_enter Tryz.func25, Tryz.ntmps25
  go_wp2_with (first | (go_at_call 49; refine (as_miss _ _ _ ?_).mono ?_; (exact ht.ext ((Ext.refl w).alloc _)); rintro e w' ⟨rfl, hx⟩; replace hx := ((Ext.refl w).alloc _).trans hx; have E := h.ext hx; have c0 := E.cell 2 (by simp); have c1 := E.cell 3 (by simp); have c2 := E.cell 4 (by simp); have c3 := E.cell 0 (by simp); have c4 := E.cell 5 (by simp); have c5 := E.cell 6 (by simp); have c6 := E.cell 7 (by simp); have c7 := E.cell 8 (by simp)))
  refine wp_loop_rounds 4 ?_
  have E' := E.ext ((Ext.refl w').alloc (.cells #[errV (A 2), errV (A 3), errV (A 4), errV (A 0), errV (A 5), errV (A 6), errV (A 7), errV (A 8)] 29))
  rw [rounds_succ]
  go_wp2_with (first | (go_at_call 50; refine (is_no E' (g := 0) (k := 2) (by simp) (by simp) (by decide)).mono ?_; rintro e w2 ⟨rfl, rfl⟩))
  rw [rounds_succ]
  go_wp2_with (first | (go_at_call 50; refine (is_no E' (g := 0) (k := 3) (by simp) (by simp) (by decide)).mono ?_; rintro e w2 ⟨rfl, rfl⟩))
  rw [rounds_succ]
  go_wp2_with (first | (go_at_call 50; refine (is_no E' (g := 0) (k := 4) (by simp) (by simp) (by decide)).mono ?_; rintro e w2 ⟨rfl, rfl⟩))
  rw [rounds_succ]
  go_wp2_with (first | (go_at_call 50; refine (is_same _ _).mono ?_; rintro e w2 ⟨rfl, rfl⟩))
  go_ret2
  exact ⟨rfl, hx.alloc _⟩

set_option maxHeartbeats 4000000 in
theorem code_name {A : Nat → Addr} {w : World} (h : Errs g8 A w) (ht : ErrT w) : Calls Tryz.prog 25 #[errV (A 5)] w (ExR (.tuple #[.int .i64 5, .int .i64 (-1)]) w) := by
  go_enter Tryz.func25, Tryz.ntmps25
  go_wp2_with (first | (go_at_call 49; refine (as_miss _ _ _ ?_).mono ?_; (exact ht.ext ((Ext.refl w).alloc _)); rintro e w' ⟨rfl, hx⟩; replace hx := ((Ext.refl w).alloc _).trans hx; have E := h.ext hx; have c0 := E.cell 2 (by simp); have c1 := E.cell 3 (by simp); have c2 := E.cell 4 (by simp); have c3 := E.cell 0 (by simp); have c4 := E.cell 5 (by simp); have c5 := E.cell 6 (by simp); have c6 := E.cell 7 (by simp); have c7 := E.cell 8 (by simp)))
  refine wp_loop_rounds 5 ?_
  have E' := E.ext ((Ext.refl w').alloc (.cells #[errV (A 2), errV (A 3), errV (A 4), errV (A 0), errV (A 5), errV (A 6), errV (A 7), errV (A 8)] 29))
  rw [rounds_succ]
  go_wp2_with (first | (go_at_call 50; refine (is_no E' (g := 5) (k := 2) (by simp) (by simp) (by decide)).mono ?_; rintro e w2 ⟨rfl, rfl⟩))
  rw [rounds_succ]
  go_wp2_with (first | (go_at_call 50; refine (is_no E' (g := 5) (k := 3) (by simp) (by simp) (by decide)).mono ?_; rintro e w2 ⟨rfl, rfl⟩))
  rw [rounds_succ]
  go_wp2_with (first | (go_at_call 50; refine (is_no E' (g := 5) (k := 4) (by simp) (by simp) (by decide)).mono ?_; rintro e w2 ⟨rfl, rfl⟩))
  rw [rounds_succ]
  go_wp2_with (first | (go_at_call 50; refine (is_no E' (g := 5) (k := 0) (by simp) (by simp) (by decide)).mono ?_; rintro e w2 ⟨rfl, rfl⟩))
  rw [rounds_succ]
  go_wp2_with (first | (go_at_call 50; refine (is_same _ _).mono ?_; rintro e w2 ⟨rfl, rfl⟩))
  go_ret2
  exact ⟨rfl, hx.alloc _⟩

set_option maxHeartbeats 4000000 in
theorem code_none {A : Nat → Addr} {w : World} (h : Errs g8 A w) (ht : ErrT w) : Calls Tryz.prog 25 #[errV (A 6)] w (ExR (.tuple #[.int .i64 6, .int .i64 (-1)]) w) := by
  go_enter Tryz.func25, Tryz.ntmps25
  go_wp2_with (first | (go_at_call 49; refine (as_miss _ _ _ ?_).mono ?_; (exact ht.ext ((Ext.refl w).alloc _)); rintro e w' ⟨rfl, hx⟩; replace hx := ((Ext.refl w).alloc _).trans hx; have E := h.ext hx; have c0 := E.cell 2 (by simp); have c1 := E.cell 3 (by simp); have c2 := E.cell 4 (by simp); have c3 := E.cell 0 (by simp); have c4 := E.cell 5 (by simp); have c5 := E.cell 6 (by simp); have c6 := E.cell 7 (by simp); have c7 := E.cell 8 (by simp)))
  refine wp_loop_rounds 6 ?_
  have E' := E.ext ((Ext.refl w').alloc (.cells #[errV (A 2), errV (A 3), errV (A 4), errV (A 0), errV (A 5), errV (A 6), errV (A 7), errV (A 8)] 29))
  rw [rounds_succ]
  go_wp2_with (first | (go_at_call 50; refine (is_no E' (g := 6) (k := 2) (by simp) (by simp) (by decide)).mono ?_; rintro e w2 ⟨rfl, rfl⟩))
  rw [rounds_succ]
  go_wp2_with (first | (go_at_call 50; refine (is_no E' (g := 6) (k := 3) (by simp) (by simp) (by decide)).mono ?_; rintro e w2 ⟨rfl, rfl⟩))
  rw [rounds_succ]
  go_wp2_with (first | (go_at_call 50; refine (is_no E' (g := 6) (k := 4) (by simp) (by simp) (by decide)).mono ?_; rintro e w2 ⟨rfl, rfl⟩))
  rw [rounds_succ]
  go_wp2_with (first | (go_at_call 50; refine (is_no E' (g := 6) (k := 0) (by simp) (by simp) (by decide)).mono ?_; rintro e w2 ⟨rfl, rfl⟩))
  rw [rounds_succ]
  go_wp2_with (first | (go_at_call 50; refine (is_no E' (g := 6) (k := 5) (by simp) (by simp) (by decide)).mono ?_; rintro e w2 ⟨rfl, rfl⟩))
  rw [rounds_succ]
  go_wp2_with (first | (go_at_call 50; refine (is_same _ _).mono ?_; rintro e w2 ⟨rfl, rfl⟩))
  go_ret2
  exact ⟨rfl, hx.alloc _⟩

end Go.Proofs.YtcppgbhjbmfldaaGreatDoor

/- plain.Code and the laws' coded, at an error of a known number. -/
namespace Go.Proofs.YtcppgbhjbmfldaaGreatDoor
open Go.RowKit Go.Fp Go.Rel Go.Extern.Stop Go.Stop Go.Extern
set_option maxRecDepth 20000

/-- the error value of a number: nil, or a sentinel -/
inductive ErrOf (A : Nat → Addr) : Int → Value → Prop
  | nil : ErrOf A 0 .nilIface
  | bound : ErrOf A 2 (errV (A 3))
  | shape : ErrOf A 3 (errV (A 4))
  | range : ErrOf A 4 (errV (A 0))
  | name : ErrOf A 5 (errV (A 5))
  | none : ErrOf A 6 (errV (A 6))

/-- what a world holds for the laws: the eight sentinels, errors' own variable -/
structure World8 (A : Nat → Addr) (w : World) : Prop where
  errs : Errs g8 A w
  type : ErrT w
theorem World8.ext {A : Nat → Addr} {w w' : World} (h : World8 A w) (hx : Ext w w') : World8 A w' := ⟨h.errs.ext hx, h.type.ext hx⟩

theorem code_c {A : Nat → Addr} {w : World} (h : World8 A w) {k : Int} {v : Value} (hv : ErrOf A k v) : Calls Tryz.prog 25 #[v] w (ExR (.tuple #[.int .i64 k, .int .i64 (-1)]) w) := by
  cases hv with
  | nil => exact code_nil w
  | bound => exact code_bound h.errs h.type
  | shape => exact code_shape h.errs h.type
  | range => exact code_range h.errs h.type
  | name => exact code_name h.errs h.type
  | none => exact code_none h.errs h.type

set_option maxHeartbeats 4000000 in
theorem coded_c {A : Nat → Addr} {w : World} (h : World8 A w) {k : Int} {v : Value} (hv : ErrOf A k v) (m : Int) : Calls Tryz.prog 7 #[v, .int .i64 m] w (ExR (.bool (decide (k = m))) w) := by
  go_enter Tryz.func7, Tryz.ntmps7
  go_wp2_with (first | (go_at_call 25; refine (code_c h hv).mono ?_; rintro e w' ⟨rfl, hx⟩))
  go_ret
  exact ⟨rfl, hx⟩
end Go.Proofs.YtcppgbhjbmfldaaGreatDoor

/- What a row's list of variables gives a walk: the sentinels (each an object of its own), errors' own variable; a start that meets the list. -/
namespace Go.Proofs.YtcppgbhjbmfldaaGreatDoor
open Go.RowKit Go.ChangeShapes Go.Rel
set_option maxRecDepth 20000

theorem own : ownKnob Tryz.prog.godebug = none := by kernel_rfl
theorem starES : "*" ++ "errors.errorString" = "*errors.errorString" := by decide
theorem rowES (u : TypeId) (h : Tryz.prog.typeName? 3 u = some "*errors.errorString") : u = 169 :=
  typeName_ptr_named (nm := "errors.errorString") (by rw [starES]; kernel_rfl) (by kernel_rfl) (by decide) u (by rw [starES]; exact h)
theorem cellsES : Tryz.prog.cellsOf 194 = 1 := by kernel_rfl
theorem cellsStr : Tryz.prog.cellsOf 9 = 1 := by kernel_rfl

/-- a sentinel's datum -/
abbrev errD (text : List UInt8) : DataW Unit := .iface "*errors.errorString" (.ptr (.agg [.lit (.string text)]))
abbrev sents (L : List (Nat × String × List UInt8)) : List (String × DataW Unit) := L.map fun x => (x.2.1, errD x.2.2)
def Rows1 (W : World) (ps : List MemPlace) : Prop := ∀ b off, MemPlace.cell b off ∈ ps →
    (∃ c t, W.heap[b]? = some (.cells c t (0, 0))) ∧ ∀ u v, W.cell? ⟨b, off, none⟩ = some (.iface u v) → Value.okWide Tryz.prog W .any 0 u v
def Glob (x : Nat × String × List UInt8) : Prop := Tryz.prog.globalNamed x.2.1 = some x.1 ∧ (Tryz.prog.globals[x.1]?).map (·.type) = some 29

theorem sent_head {x : Nat × String × List UInt8} {W : World} {p : List MemPlace} {g : Nat} {t : TypeId} {cs : Array Value} {f : Nat} (hx : Glob x)
    (hg : Tryz.prog.globalNamed x.2.1 = some g) (ht : (Tryz.prog.globals[g]?).map (·.type) = some t) (hv : W.var? Tryz.prog x.2.1 = some cs)
    (hd : DataW.trod (fun _ => ()) Tryz.prog W 0 (fun _ => true) false f t cs.toList = some (errD x.2.2, p)) (hr : Rows1 W (MemPlace.row ⟨g, 0, none⟩ cs.size ++ p)) :
    ∃ a, W.cell? ⟨x.1, 0, none⟩ = some (errV a) ∧ (∃ c t, W.heap[a.block]? = some (.cells c t (0, 0))) ∧ MemPlace.cell a.block a.off ∈ p := by
  obtain rfl := Option.some.inj (hx.1.symm.trans hg)
  obtain rfl := Option.some.inj (hx.2.symm.trans ht)
  obtain ⟨l⟩ := cs
  have ok : ∀ u v, l = [.iface u v] → Value.okWide Tryz.prog W .any 0 u v := fun u v e => by
    subst e
    exact (hr x.1 0 (by simp [MemPlace.row])).2 u v (by simpa using World.var?_cell hg hv 0)
  obtain ⟨a, s, rfl, hc, hs, hz, rfl⟩ := errorString_of_trod Tryz.underlying29 rowES Tryz.underlying169 Tryz.underlying194 rfl rfl Tryz.underlying9 cellsES cellsStr hd ok
  exact ⟨a, by simpa using World.var?_cell hg hv 0, (hr a.block a.off (by simp [MemPlace.row])).1, by simp [MemPlace.row]⟩

theorem sents_each {W : World} : ∀ (L : List (Nat × String × List UInt8)) (ps : List MemPlace), (∀ x ∈ L, Glob x) → DataW.LaidVars Tryz.prog W (sents L) ps → Rows1 W ps →
    ∀ x ∈ L, ∃ a, W.cell? ⟨x.1, 0, none⟩ = some (errV a) ∧ (∃ c t, W.heap[a.block]? = some (.cells c t (0, 0))) ∧ MemPlace.cell a.block a.off ∈ ps
  | [], _, _, _, _ => by simp
  | y :: L, ps, hL, h, hr => by
    obtain ⟨g, t, cs, f, p, q, hg, ht, hv, hd, hq, rfl⟩ := h
    intro x hx
    rcases List.mem_cons.1 hx with rfl | hx
    · obtain ⟨a, h1, h2, h3⟩ := sent_head (hL _ (List.mem_cons_self ..)) hg ht hv hd (fun b off hm => hr b off (List.mem_append_left _ hm))
      exact ⟨a, h1, h2, List.mem_append_left _ (List.mem_append_right _ h3)⟩
    · obtain ⟨a, h1, h2, h3⟩ := sents_each L q (fun x hx => hL x (List.mem_cons_of_mem _ hx)) hq (fun b off hm => hr b off (List.mem_append_right _ hm)) x hx
      exact ⟨a, h1, h2, List.mem_append_right _ h3⟩

theorem errV_inj {a b : Addr} (h : (some (errV a) : Option Value) = some (errV b)) : a = b := by
  simp [errV] at h
  exact h

theorem sents_inj {W : World} : ∀ (L : List (Nat × String × List UInt8)) (ps : List MemPlace), (∀ x ∈ L, Glob x) → DataW.LaidVars Tryz.prog W (sents L) ps → Rows1 W ps → ps.Nodup →
    ∀ x ∈ L, ∀ y ∈ L, ∀ a, W.cell? ⟨x.1, 0, none⟩ = some (errV a) → W.cell? ⟨y.1, 0, none⟩ = some (errV a) → x.1 = y.1
  | [], _, _, _, _, _ => by simp
  | z :: L, ps, hL, h, hr, hn => by
    obtain ⟨g, t, cs, f, p, q, hg, ht, hv, hd, hq, rfl⟩ := h
    obtain ⟨a0, k1, k2, k3⟩ := sent_head (hL _ (List.mem_cons_self ..)) hg ht hv hd (fun b off hm => hr b off (List.mem_append_left _ hm))
    have hq' : Rows1 W q := fun b off hm => hr b off (List.mem_append_right _ hm)
    have hL' : ∀ x ∈ L, Glob x := fun x hx => hL x (List.mem_cons_of_mem _ hx)
    have hn' := List.nodup_append.1 hn
    have away : ∀ y ∈ L, W.cell? ⟨y.1, 0, none⟩ ≠ some (errV a0) := fun y hy e => by
      obtain ⟨b, h1, _, h3⟩ := sents_each L q hL' hq hq' y hy
      have hb : b = a0 := errV_inj (h1.symm.trans e)
      subst hb
      exact hn'.2.2 _ (List.mem_append_right _ k3) _ h3 rfl
    intro x hx y hy a ha hb
    rcases List.mem_cons.1 hx with rfl | hx' <;> rcases List.mem_cons.1 hy with rfl | hy'
    · rfl
    · have := errV_inj (ha.symm.trans k1)
      subst this
      exact absurd hb (away y hy')
    · have := errV_inj (hb.symm.trans k1)
      subst this
      exact absurd ha (away x hx')
    · exact sents_inj L q hL' hq hq' hn'.2.1 x hx' y hy' a ha hb

/-- where the object of a sentinel lies -/
def sentAt (W : World) (g : Nat) : Addr := match W.cell? ⟨g, 0, none⟩ with | some (.iface _ (.pointer (some a))) => a | _ => ⟨0, 0, none⟩

theorem errs_of_laid {W : World} (L : List (Nat × String × List UInt8)) (hL : ∀ x ∈ L, Glob x) (h : laidMet Tryz.prog (sents L) W) : Errs (L.map (·.1)) (sentAt W) W := by
  obtain ⟨ps, hv, hn, hr⟩ := h
  have each := sents_each L ps hL hv hr
  have at_ : ∀ x ∈ L, ∀ a, W.cell? ⟨x.1, 0, none⟩ = some (errV a) → sentAt W x.1 = a := fun x _ a e => by
    simp only [sentAt, e]
  refine ⟨fun g hg => ?_, fun g hg => ?_, fun g hg k hk e => ?_⟩
  · obtain ⟨x, hx, rfl⟩ := List.mem_map.1 hg
    obtain ⟨a, h1, _, _⟩ := each x hx
    rw [at_ x hx a h1]; exact h1
  · obtain ⟨x, hx, rfl⟩ := List.mem_map.1 hg
    obtain ⟨a, h1, h2, _⟩ := each x hx
    rw [at_ x hx a h1]; exact h2
  · obtain ⟨x, hx, rfl⟩ := List.mem_map.1 hg
    obtain ⟨y, hy, rfl⟩ := List.mem_map.1 hk
    obtain ⟨a, h1, _, _⟩ := each x hx
    obtain ⟨b, k1, _, _⟩ := each y hy
    rw [at_ x hx a h1, at_ y hy b k1] at e
    subst e
    exact sents_inj L ps hL hv hr hn x hx y hy a h1 k1
end Go.Proofs.YtcppgbhjbmfldaaGreatDoor

/- The list that most rows of this seat bear: errors' own variable and the eight sentinels; a start that meets it. -/
namespace Go.Proofs.YtcppgbhjbmfldaaGreatDoor
open Go.RowKit Go.ChangeShapes Go.Rel
set_option maxRecDepth 20000

/-- the list, as the rows have it -/
abbrev laid9 : List (String × DataW Unit) := [("errors.errorType", Rows.laid_errors_errorType), ("mercator/api.ErrText", Rows.laid_mercator_api_ErrText), ("mercator/api.ErrBound", Rows.laid_mercator_api_ErrBound), ("mercator/api.ErrShape", Rows.laid_mercator_api_ErrShape), ("mercator/api.ErrRange", Rows.laid_mercator_api_ErrRange), ("mercator/api.ErrName", Rows.laid_mercator_api_ErrName), ("mercator/api.ErrNone", Rows.laid_mercator_api_ErrNone), ("mercator/api.ErrOrder", Rows.laid_mercator_api_ErrOrder), ("mercator/api.ErrFile", Rows.laid_mercator_api_ErrFile)]
abbrev L8 : List (Nat × String × List UInt8) := [(2, "mercator/api.ErrText", [109, 101, 114, 99, 97, 116, 111, 114, 58, 32, 116, 101, 120, 116]), (3, "mercator/api.ErrBound", [109, 101, 114, 99, 97, 116, 111, 114, 58, 32, 98, 111, 117, 110, 100]), (4, "mercator/api.ErrShape", [109, 101, 114, 99, 97, 116, 111, 114, 58, 32, 115, 104, 97, 112, 101]), (0, "mercator/api.ErrRange", [109, 101, 114, 99, 97, 116, 111, 114, 58, 32, 114, 97, 110, 103, 101]), (5, "mercator/api.ErrName", [109, 101, 114, 99, 97, 116, 111, 114, 58, 32, 110, 97, 109, 101]), (6, "mercator/api.ErrNone", [109, 101, 114, 99, 97, 116, 111, 114, 58, 32, 110, 111, 110, 101]), (7, "mercator/api.ErrOrder", [109, 101, 114, 99, 97, 116, 111, 114, 58, 32, 111, 114, 100, 101, 114]), (8, "mercator/api.ErrFile", [109, 101, 114, 99, 97, 116, 111, 114, 58, 32, 102, 105, 108, 101])]
theorem glob8 : ∀ x ∈ L8, Glob x := by
  intro x hx
  simp only [L8, List.mem_cons, List.not_mem_nil, or_false] at hx
  rcases hx with rfl | rfl | rfl | rfl | rfl | rfl | rfl | rfl <;> exact ⟨by kernel_rfl, by kernel_rfl⟩

theorem gType : Tryz.prog.globalNamed "errors.errorType" = some 9 := by kernel_rfl
theorem rtRow : (Tryz.prog.cutTypes.find? (·.1 == "internal/reflectlite.rtype")).map (·.2) = some 148 := by kernel_rfl
theorem oneRow : ((List.range 210).filter fun t => Tryz.prog.rowNamed t [101, 114, 114, 111, 114]) = [29] := by kernel_rfl
theorem typesSize : Tryz.prog.types.size = 210 := by kernel_rfl

theorem errT_of_laid {W : World} (h : handlesMet Tryz.prog [("errors.errorType", Rows.laid_errors_errorType)] W) : ErrT W := by
  obtain ⟨name, u, ty, e1, e2, e3, e4, e5⟩ := h _ (List.mem_singleton.2 rfl)
  have en : name = [101, 114, 114, 111, 114] := (Option.some.inj e1).symm
  subst en
  obtain rfl := Option.some.inj (rtRow.symm.trans e2)
  have hm : ty ∈ (List.range 210).filter fun t => Tryz.prog.rowNamed t [101, 114, 114, 111, 114] := List.mem_filter.2 ⟨List.mem_range.2 (by rw [← typesSize]; exact e3), e4⟩
  rw [oneRow] at hm
  obtain rfl := List.mem_singleton.1 hm
  have hh : typeHandle Tryz.prog 29 = .pointer (some ⟨10, 29, none⟩) := by kernel_rfl
  rw [hh] at e5
  simpa [ErrT] using World.var?_cell gType e5 0

theorem world8_of_laid {W : World} (h : laidMetH Tryz.prog laid9 W) : World8 (sentAt W) W := by
  have h' : laidMet Tryz.prog (sents L8) W ∧ handlesMet Tryz.prog [("errors.errorType", Rows.laid_errors_errorType)] W := h
  exact ⟨errs_of_laid L8 glob8 h'.1, errT_of_laid h'.2⟩

/-- The door's own heap meets the list. -/
theorem door9 (os : Os) (args : Array Value) : laidMetH Tryz.prog laid9 ((World.doorLaid Tryz.prog 400 os).forCall (fun _ _ => 0) ⟨#[], args, []⟩).memory :=
  laidMetH_of_parts3 (fuel := 8) (laidMet_of_run' 8 (by kernel_rfl) (by kernel_rfl)) (by kernel_rfl) (by kernel_rfl)
end Go.Proofs.YtcppgbhjbmfldaaGreatDoor

/- Opening the laws' arguments: boxes, spots. -/
namespace Go.Proofs.YtcppgbhjbmfldaaGreatDoor
open Go.ChangeShapes Go.WideShapes Go.ChangeAt Go.RowKit Go.Joins
set_option maxRecDepth 20000

theorem laidOut : laidOutB Tryz.prog = true := by kernel_rfl
theorem cells1 : Tryz.prog.cellsOf 3 = 1 := by kernel_rfl
section
variable {H : Type} {enc : TypeId × Value → H} {w : World} {base : Nat} {sp : Nat → Bool} {held : Bool}
theorem int_bound {n : Int} (h : (Lit.int .i64 n).wf = true) : -9223372036854775808 ≤ n ∧ n ≤ 9223372036854775807 := by
  have hmin : IntKind.i64.min = -9223372036854775808 := rfl
  have hmax : IntKind.i64.max = 9223372036854775807 := rfl
  simp only [Lit.wf, Bool.and_eq_true, decide_eq_true_eq] at h
  omega
end
end Go.Proofs.YtcppgbhjbmfldaaGreatDoor

/- Opening the laws' arguments: globes, vectors, places. -/
namespace Go.Proofs.YtcppgbhjbmfldaaGreatDoor
open Go.ChangeShapes Go.WideShapes Go.ChangeAt Go.RowKit Go.Joins
set_option maxRecDepth 20000

theorem cellsGlobe : Tryz.prog.cellsOf 58 = 2 := by kernel_rfl
theorem cellsPlace : Tryz.prog.cellsOf 23 = 2 := by kernel_rfl

section
variable {H : Type} {enc : TypeId × Value → H} {w : World} {base : Nat} {sp : Nat → Bool} {held : Bool}
theorem trod_float1 {P : Program} {fuel : Nat} {t : TypeId} {k : FloatKind} {cs : List Value} {x : DataW H × List MemPlace} (ht : P.underlying t = some (.float k)) (h : DataW.trod enc P w base sp held fuel t cs = some x) : ∃ n, cs = [.float k n] ∧ x.2 = [] := by
  cases fuel with
  | zero => simp [DataW.trod] at h
  | succ n =>
    unfold DataW.trod at h
    rw [ht] at h
    split at h <;> simp_all
    rw [← h.2]
theorem open_fl {r : Reach} {b0 : Nat} {v : Value} {d : DataW H} {ps : List MemPlace} (hval : Value.okWide Tryz.prog w r b0 41 v) (hd : DataW.Trod enc Tryz.prog w base sp held 41 v d ps) : ∃ a : Nat, v = .float .f64 a ∧ ps = [] := by
  obtain ⟨a, h1, _, h2, _⟩ := open_float Tryz.underlying41 hval hd
  exact ⟨a, h1, h2⟩
theorem open_globe {r : Reach} {b0 : Nat} {v : Value} {d : DataW H} {ps : List MemPlace} (hval : Value.okWide Tryz.prog w r b0 58 v) (hd : DataW.Trod enc Tryz.prog w base sp held 58 v d ps) :
    ∃ a f : Nat, v = .agg #[.float .f64 a, .float .f64 f] ∧ ps = [] := by
  obtain ⟨c0, c1, y0, y1, m, rfl, rfl, rfl, h0, h1⟩ := open_agg2 Tryz.underlying58 (by kernel_rfl) cellsGlobe hval hd
  obtain ⟨a, e0, k0⟩ := trod_float1 Tryz.underlying41 h0
  obtain ⟨b, e1, k1⟩ := trod_float1 Tryz.underlying41 h1
  simp at e0 e1
  exact ⟨a, b, by rw [e0, e1], by rw [k0, k1]; rfl⟩
theorem open_place {r : Reach} {b0 : Nat} {v : Value} {d : DataW H} {ps : List MemPlace} (hval : Value.okWide Tryz.prog w r b0 23 v) (hd : DataW.Trod enc Tryz.prog w base sp held 23 v d ps) :
    ∃ lon lat : Int, v = .agg #[.int .i64 lon, .int .i64 lat] ∧ ps = [] := by
  obtain ⟨c0, c1, y0, y1, m, rfl, rfl, rfl, h0, h1⟩ := open_agg2 Tryz.underlying23 (by kernel_rfl) cellsPlace hval hd
  obtain ⟨a, e0, rfl, _⟩ := DataW.trod_int Tryz.underlying3 h0
  obtain ⟨b, e1, rfl, _⟩ := DataW.trod_int Tryz.underlying3 h1
  simp at e0 e1
  exact ⟨a, b, by rw [e0, e1], rfl⟩
end
end Go.Proofs.YtcppgbhjbmfldaaGreatDoor
