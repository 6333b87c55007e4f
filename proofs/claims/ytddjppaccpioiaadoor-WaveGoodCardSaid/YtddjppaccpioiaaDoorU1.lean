/- Walks: sums of complex numbers; a number times one; the reference's plus. -/
import Derived.Test.YtddjppaccpioiaaDoorHN
import Derived.Test.YtddjppaccpioiaaDoorHL
namespace Go.Rel
open Go.RowKit Go.Fp
theorem run_carith' {P : Program} (w : World) {op : BinOp} (h : isArith op = true) (x y : Nat) : ∃ r n, (Op.Complex.arith op .f64 x y).run P w = .ok r (w.drewN n) ∧ can r = fbin op (can x) (can y) := by
  obtain ⟨r, n, e, hr⟩ := run_fl (P := P) w h x y 0
  refine ⟨r, n, ?_, hr⟩
  have e2 : (binOp op 0 (.float .f64 x) (.float .f64 y)).run P w = (Op.floatArith op .f64 x y).run P w := by cases op <;> first | (cases h; done) | rfl
  rw [e2] at e
  simp [Op.Complex.arith, e]
def isSum : BinOp → Bool
  | .add => true
  | .sub => true
  | _ => false
theorem run_cx {P : Program} (w : World) {op : BinOp} (h : isSum op = true) (a b c d : Nat) (t : TypeId) :
    ∃ x y n, (binOp op t (.complex .f64 a b) (.complex .f64 c d)).run P w = .ok (.complex .f64 x y) (w.drewN n) ∧ can x = fbin op (can a) (can c) ∧ can y = fbin op (can b) (can d) := by
  have h' : isArith op = true := by cases op <;> first | (cases h; done) | rfl
  obtain ⟨x, n, e1, hx⟩ := run_carith' (P := P) w h' a c
  obtain ⟨y, m, e2, hy⟩ := run_carith' (P := P) (w.drewN n) h' b d
  refine ⟨x, y, n + m, ?_, hx, hy⟩
  cases op <;> first | (cases h; done) | skip
  all_goals
    simp [binOp, Op.complexOp, e1, e2]
theorem upon_cx {P : Program} {o : Oper} {a : Act} {K : Act → World → Prop} {Q : Exit → Act → World → Prop} {W : World} {t : TypeId} {op : BinOp} {p q r s : Nat} (hop : isSum op = true)
    (h : ∀ x y n, can x = fbin op (can p) (can r) → can y = fbin op (can q) (can s) → o.upon P a K Q (.ok (.value (.complex .f64 x y)) (W.drewN n))) :
    o.upon P a K Q (((binOp op t (.complex .f64 p q) (.complex .f64 r s)).run P W).andThen fun v w' => .ok (.value v) w') := by
  obtain ⟨x, y, n, e, hx, hy⟩ := run_cx (P := P) W hop p q r s t
  rw [e]
  exact h x y n hx hy
theorem rel_cx {P : Program} {F : FuncId → Array Value → Value → Prop} {W : World} {K : Value → Prop} {t : TypeId} {op : BinOp} {p q r s : Nat} (hop : isSum op = true)
    (h : ∀ x y, can x = fbin op (can p) (can r) → can y = fbin op (can q) (can s) → K (.complex .f64 x y)) : relUpon P F W K (((binOp op t (.complex .f64 p q) (.complex .f64 r s)).run P W).andThen fun v w' => .ok (.value v) w') := by
  obtain ⟨x, y, n, e, hx, hy⟩ := run_cx (P := P) W hop p q r s t
  rw [e]
  exact ⟨(Ext.refl _).drewN _, h x y hx hy⟩
end Go.Rel
namespace Go.Proofs.YtddjppaccpioiaaDoor
open Go.RowKit Go.Fp Go.Rel
set_option maxRecDepth 20000

theorem times_c (f x y : Nat) (w : World) : Calls Tryd.prog 60 #[.float .f64 f, .complex .f64 x y] w (CxR (fmul (can f) (can x)) (fmul (can f) (can y)) w) := by
  go_enter Tryd.func60, Tryd.ntmps60
  go_wp2_with (first
    | (with_reducible refine upon_fl rfl ?_; intro r n hr))
  go_ret
  exact ⟨_, _, rfl, by simp only [*, fbin], by simp only [*, fbin], by repeat (first | exact Ext.refl _ | refine Ext.drewN ?_ _)⟩
def SpPlus (args : Array Value) (v : Value) : Prop := ∃ x y z : Nat, args = #[.float .f64 x, .float .f64 y, .float .f64 z] ∧ isFl (fadd (can x) (fmul (can y) (can z))) v
theorem spPlus_iff (x y z : Nat) (v : Value) : SpPlus #[.float .f64 x, .float .f64 y, .float .f64 z] v ↔ isFl (fadd (can x) (fmul (can y) (can z))) v := by
  unfold SpPlus
  exact ⟨fun ⟨_, _, _, h, k⟩ => by simp at h; obtain ⟨rfl, rfl, rfl⟩ := h; exact k, fun h => ⟨_, _, _, rfl, h⟩⟩
def PairR (X Y : Nat) (w : World) (e : Ending) (w' : World) : Prop := ∃ x y, e = .returned (.agg #[.float .f64 x, .float .f64 y]) ∧ can x = X ∧ can y = Y ∧ Ext w w'
end Go.Proofs.YtddjppaccpioiaaDoor
