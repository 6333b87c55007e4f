/- Stores of one value into a block of one's own; the angle of a point, package path's. -/
import Derived.Test.YtegbkidjehjhmaaDoorNB
import Derived.Test.YtegbkidjehjhmaaDoorV6
namespace Go.Rel
open Go.RowKit
section
variable {P : Program}
theorem storeVar_one (w : World) (g : Nat) (t ty : TypeId) (old : Value) (k : FloatKind) (b : Nat) (hg : Blk w g t #[old]) (hi : (P.info? ty).map (·.size) = some 1) :
    (storeVar ty ⟨g, 0, none⟩ (.float k b)).run P w = .ok () (w.setRow g #[.float k b]) := by
  have := run_storeCells_from (P := P) g t [.float k b] 0 #[old] w hg (by simp) (by intro v hv; simp at hv; subst hv; rfl)
  cases hq : P.info? ty with
  | none => simp [hq] at hi
  | some i =>
    have hs : 1 = i.size := by simp [hq] at hi; omega
    simp [storeVar, sizeOf, typeInfo, hq, Value.cells, ← hs, this]

theorem wp_store_one {o : Oper} {a : Act} {w : World} {K : Act → World → Prop} {Q : Exit → Act → World → Prop} (ty : TypeId) (x y : Operand) (ho : o.op = .store ty x y)
    (g : Nat) (k : FloatKind) (b : Nat) (hx : a.eval x = .pointer (some ⟨g, 0, none⟩)) (hy : a.eval y = .float k b)
    (t : TypeId) (old : Value) (hg : Blk w g t #[old]) (hi : (P.info? ty).map (·.size) = some 1)
    (h : K (a.put o.dst undef) (w.setRow g #[.float k b])) : o.wp P a w K Q := by
  unfold Oper.wp execOp
  simp only [ho, hx, hy, Instr.storeAt, Instr.sureAddr, Sem.run_bind, Sem.run_pure, Result.andThen_ok, storeVar_one w g t ty old k b hg hi]
  exact h
/-- a float stored into a block of one's own -/
theorem wpList_ownF {ops : Array Oper} {rest : List Oper} {o : Oper} {a : Act} {w : World} {Q : Exit → Act → World → Prop} (hgd : o.guard = none) (ty : TypeId) (x y : Operand) (ho : o.op = .store ty x y)
    (g : Nat) (k : FloatKind) (b : Nat) (hx : a.eval x = .pointer (some ⟨g, 0, none⟩)) (hy : a.eval y = .float k b)
    (t : TypeId) (old : Value) (hg : Blk w g t #[old]) (hi : (P.info? ty).map (·.size) = some 1)
    (h : ∀ w', Blk w' g t #[.float k b] → (∀ b, Ext b w → b.heap.size ≤ g → Ext b w') → (∀ n, n ≠ g → w'.heap[n]? = w.heap[n]?) → w'.heap.size = w.heap.size → wpList P ops Q rest (a.put o.dst undef) w') : wpList P ops Q (o :: rest) a w := by
  refine wpList_plain hgd fun _ hK => wp_store_one ty x y ho g k b hx hy t old hg hi (hK _ _ (h _ ?_ ?_ ?_ ?_))
  · exact setRow_heap w g #[old] #[.float k b] t (0, 0) hg
  · intro b hb hbg
    refine ⟨hb.os, hb.tape, hb.output, ?_, fun k hk => ?_⟩
    · rw [show (w.setRow g _).heap.size = w.heap.size from by simp [World.setRow]]; exact hb.size
    · rw [setRow_other w g _ k (by omega)]; exact hb.block k hk
  · intro n hn
    exact setRow_other w g _ n hn
  · simp [World.setRow]
theorem Blk.same {w w' : World} {g n : Nat} {t : TypeId} {c : Array Value} (h : Blk w n t c) (hk : ∀ n, n ≠ g → w'.heap[n]? = w.heap[n]?) (hn : n ≠ g) : Blk w' n t c := by
  unfold Blk at *; rw [hk n hn]; exact h
end
end Go.Rel

namespace Go.Proofs.YtegbkidjehjhmaaDoor
open Go.RowKit Go.Fp Go.Rel
set_option maxRecDepth 20000

theorem pathAngle_c (y x : Nat) (w : World) : Calls Tryd.prog 51 #[.float .f64 y, .float .f64 x] w (ExR (.int .i64 (angleP (can y) (can x)).1) w) := by
  have HA := Lib.hid (angle_c y x)
  generalize angleP (can y) (can x) = p at *
  go_enter Tryd.func51, Tryd.ntmps51
  go_wp2_with (first | (go_at_call 48; refine (HA.out _).mono ?_; rintro e w1 ⟨rfl, hx1⟩))
  go_ret
  exact ⟨rfl, hx1⟩

set_option maxHeartbeats 1000000 in
theorem pathLat_c (l : Int) (w : World) : Calls Tryd.prog 40 #[.int .i64 l] w (ExR (.bool (decide (l ≤ 90000000000 ∧ -90000000000 ≤ l))) w) := by
  generalize hd : decide (l ≤ 90000000000 ∧ -90000000000 ≤ l) = b
  have HD := Lib.hid hd
  clear hd
  go_enter Tryd.func40, Tryd.ntmps40
  go_wp2
  all_goals go_ret
  all_goals (have hd := HD.out; subst hd; refine ⟨?_, Ext.refl _⟩; congr 2; simp; omega)
end Go.Proofs.YtegbkidjehjhmaaDoor
