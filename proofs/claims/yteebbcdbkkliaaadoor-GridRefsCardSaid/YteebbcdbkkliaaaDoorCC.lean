/- errors.Is at a Fault around a sentinel: through its Unwrap. -/
import Derived.Test.YteebbcdbkkliaaaDoorZB
namespace Go.Proofs.YteebbcdbkkliaaaDoor
open Go.RowKit Go.Fp Go.Rel Go.Extern.Stop Go.Stop Go.Extern
set_option maxRecDepth 20000

/-- an error value that is a Fault: a pointer to its block -/
abbrev fltV (n : Nat) : Value := .iface 79 (.pointer (some ⟨n, 0, none⟩))
theorem noIsF (v : Value) (xT : TypeId) (w : World) : (Instr.typeAssert (.iface 79 v) xT 136 true).run Tryd.prog w = .ok (.tuple #[.nilIface, .bool false]) w := run_typeAssert_lacksB Tryd.underlying136 (by kernel_rfl) (by kernel_rfl) v xT w
theorem hasUnwrapF (v : Value) (xT : TypeId) (w : World) : (Instr.typeAssert (.iface 79 v) xT 133 true).run Tryd.prog w = .ok (.tuple #[.iface 79 v, .bool true]) w := run_typeAssert_hasB Tryd.underlying133 (by kernel_rfl) v xT w
theorem methUnwrapF (v : Value) (w : World) : (Go.method 297 79 v "Unwrap").run Tryd.prog w = .ok (111, v) w := by kernel_rfl
theorem eqlF (v : Value) (b : Addr) (w : World) : (binOp .eql 31 (.iface 79 v) (errV b)).run Tryd.prog w = .ok (.bool false) w := run_eql_iface_types 79 161 v _ Tryd.underlying31 (by decide) w
theorem unwrap_c (n : Nat) (v : Value) (w : World) (h : w.cell? ⟨n, 1, none⟩ = some v) : Calls Tryd.prog 111 #[.pointer (some ⟨n, 0, none⟩)] w fun e w' => e = .returned v ∧ w' = w := by
  go_enter Tryd.func111, Tryd.ntmps111
  go_wp2
  go_ret
  exact ⟨rfl, rfl⟩

/-- errors.Is(a Fault around x, x) -/
theorem isF_same (n : Nat) (a : Addr) (w : World) (h : w.cell? ⟨n, 1, none⟩ = some (errV a)) : Calls Tryd.prog 54 #[fltV n, errV a] w fun e w' => e = .returned (.bool true) ∧ w' = w := by
  obtain ⟨i, hi, hcmp⟩ := Option.map_eq_some_iff.1 isComp
  obtain ⟨j, hj, hjs⟩ := Option.map_eq_some_iff.1 isSize
  have tT := isTypeOf
  have cT := isComparable
  have mR := isMethodComparable
  have nF := noIsF
  have uF := hasUnwrapF
  have mF := methUnwrapF
  have qF := eqlF
  have heq := run_eql_iface_ptr_same (P := Tryd.prog) w a Tryd.underlying31 Tryd.underlying161 hi hcmp hj
  have HU := Lib.hid (unwrap_c n (errV a) w h)
  go_enter Tryd.func54, Tryd.ntmps54
  go_wp2
  refine wp_loop_rounds 2 ?_
  rw [rounds_succ]
  go_wp2_with (first | (go_at_call 111; refine (HU.out).mono ?_; rintro e w2 ⟨rfl, rfl⟩))
  rw [rounds_succ]
  go_wp2
  go_ret
  exact ⟨rfl, rfl⟩
/-- errors.Is(a Fault around x, y), x and y two sentinels -/
theorem isF_other (n : Nat) (a b : Addr) (ca cb : Array Value) (ta tb : TypeId) (w : World) (h : w.cell? ⟨n, 1, none⟩ = some (errV a)) (hne : a ≠ b) (ha : w.heap[a.block]? = some (.cells ca ta (0, 0))) (hb : w.heap[b.block]? = some (.cells cb tb (0, 0))) :
    Calls Tryd.prog 54 #[fltV n, errV b] w fun e w' => e = .returned (.bool false) ∧ w' = w := by
  obtain ⟨i, hi, hcmp⟩ := Option.map_eq_some_iff.1 isComp
  obtain ⟨j, hj, hjs⟩ := Option.map_eq_some_iff.1 isSize
  have tT := isTypeOf
  have cT := isComparable
  have mR := isMethodComparable
  have nF := noIsF
  have uF := hasUnwrapF
  have mF := methUnwrapF
  have qF := eqlF
  have nE := noIsE
  have uE := noUnwrapE
  have vE := noUnwrapsE
  have heq := run_eql_iface_ptr_other (P := Tryd.prog) w Tryd.underlying31 Tryd.underlying161 hi hcmp hj (by rw [hjs]; decide) hne ha hb
  have HU := Lib.hid (unwrap_c n (errV a) w h)
  go_enter Tryd.func54, Tryd.ntmps54
  go_wp2
  refine wp_loop_rounds 2 ?_
  rw [rounds_succ]
  go_wp2_with (first | (go_at_call 111; refine (HU.out).mono ?_; rintro e w2 ⟨rfl, rfl⟩))
  rw [rounds_succ]
  go_wp2
  go_ret
  exact ⟨rfl, rfl⟩
end Go.Proofs.YteebbcdbkkliaaaDoor
