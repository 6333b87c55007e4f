/- Walks: math.Floor; how RoundToEven is met. -/
import Derived.Test.YtegbkidjehjhmaaDoorN6
namespace Go.Proofs.YtegbkidjehjhmaaDoor
open Go.RowKit Go.Fp Go.Rel
set_option maxRecDepth 20000

def IntR (way : Ieee.Toward) (x r : Nat) : Prop := isNan x = true ∧ isNan r = true ∨ isNan x = false ∧ r = D.write ((D.read x).integral way)
theorem upon_int {P : Program} {o : Oper} {a : Act} {K : Act → World → Prop} {Q : Exit → Act → World → Prop} {W : World} {f : FuncId} {x : Nat} {nm : String} {way : Ieee.Toward} (he : Entry P f (Extern.MathFloor.toIntegral nm way))
    (h : ∀ r n, IntR way x r → o.upon P a K Q (.ok (.value (.float .f64 r)) (W.drewN n))) : o.upon P a K Q ((callFunc f #[.float .f64 x]).run P W) := by
  rw [he]
  obtain ⟨r, n, e, hr⟩ := int_any (P := P) W nm way x
  rw [e]
  exact h r n hr
theorem round_entry : Entry Tryd.prog 78 (Extern.MathFloor.toIntegral "math.RoundToEven" .even) := fun args w => run_callFunc_extern Tryd.func78 (by kernel_rfl) (by kernel_rfl) (by kernel_rfl) (by kernel_rfl) args w
theorem floor_entry : Entry Tryd.prog 102 (Extern.MathFloor.toIntegral "math.archFloor" .down) := fun args w => run_callFunc_extern Tryd.func102 (by kernel_rfl) (by kernel_rfl) (by kernel_rfl) (by kernel_rfl) args w
set_option maxHeartbeats 1000000 in
theorem floor_c (x : Nat) (w : World) : Calls Tryd.prog 86 #[.float .f64 x] w fun e w' => ∃ r, e = .returned (.float .f64 r) ∧ IntR .down x r ∧ Ext w w' := by
  go_enter Tryd.func86, Tryd.ntmps86
  go_wp2_with (first | (with_reducible refine upon_int floor_entry ?_; intro r n hr))
  go_ret
  exact ⟨_, rfl, hr, (Ext.refl _).drewN _⟩
end Go.Proofs.YtegbkidjehjhmaaDoor
