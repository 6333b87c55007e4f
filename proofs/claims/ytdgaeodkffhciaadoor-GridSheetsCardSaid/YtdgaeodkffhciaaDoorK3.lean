/- Opening the laws' arguments: boxes, spots. -/
import Derived.Test.YtdgaeodkffhciaaDoorRows
import Derived.ProofKit
import Derived.OpenShut
import Derived.Lib.SmallJoins
import Derived.Carry
namespace Go.Proofs.YtdgaeodkffhciaaDoor
open Go.ChangeShapes Go.WideShapes Go.ChangeAt Go.RowKit Go.Joins
set_option maxRecDepth 20000

theorem laidOut : laidOutB Tryd.prog = true := by kernel_rfl
theorem cells1 : Tryd.prog.cellsOf 3 = 1 := by kernel_rfl
theorem cellsSpot : Tryd.prog.cellsOf 23 = 2 := by kernel_rfl
theorem cellsBox : Tryd.prog.cellsOf 25 = 4 := by kernel_rfl

section
variable {H : Type} {enc : TypeId × Value → H} {w : World} {base : Nat} {sp : Nat → Bool} {held : Bool}
theorem int_bound {n : Int} (h : (Lit.int .i64 n).wf = true) : -9223372036854775808 ≤ n ∧ n ≤ 9223372036854775807 := by
  have hmin : IntKind.i64.min = -9223372036854775808 := rfl
  have hmax : IntKind.i64.max = 9223372036854775807 := rfl
  simp only [Lit.wf, Bool.and_eq_true, decide_eq_true_eq] at h
  omega
theorem trod_spot {fuel : Nat} {c0 c1 : Value} {x : DataW H × List MemPlace} (h : DataW.trod enc Tryd.prog w base sp held fuel 23 [c0, c1] = some x) : ∃ a b : Int, c0 = .int .i64 a ∧ c1 = .int .i64 b ∧ x.2 = [] := by
  obtain ⟨y0, y1, m, rfl, _, h0, h1⟩ := trod_struct2 Tryd.underlying23 h
  simp only [cells1, List.drop_zero, List.drop_succ_cons, List.take_succ_cons, List.take_zero] at h0 h1
  obtain ⟨a, e0, rfl, _⟩ := DataW.trod_int Tryd.underlying3 h0
  obtain ⟨b, e1, rfl, _⟩ := DataW.trod_int Tryd.underlying3 h1
  simp at e0 e1
  exact ⟨a, b, e0, e1, rfl⟩
theorem open_spot {r : Reach} {b0 : Nat} {v : Value} {d : DataW H} {ps : List MemPlace} (hval : Value.okWide Tryd.prog w r b0 23 v) (hd : DataW.Trod enc Tryd.prog w base sp held 23 v d ps) :
    ∃ a b : Int, v = .agg #[.int .i64 a, .int .i64 b] ∧ ps = [] := by
  obtain ⟨cs, rfl, hsz⟩ := okWide_struct Tryd.underlying23 hval
  obtain ⟨c0, c1, rfl⟩ := array2 (hsz.trans cellsSpot)
  obtain ⟨fuel, hf⟩ := hd
  obtain ⟨a, b, rfl, rfl, h⟩ := trod_spot (by simpa [Value.cells] using hf)
  exact ⟨a, b, rfl, h⟩
theorem open_box {r : Reach} {b0 : Nat} {v : Value} {d : DataW H} {ps : List MemPlace} (hval : Value.okWide Tryd.prog w r b0 25 v) (hd : DataW.Trod enc Tryd.prog w base sp held 25 v d ps) :
    ∃ lx ly hx hy : Int, v = .agg #[.int .i64 lx, .int .i64 ly, .int .i64 hx, .int .i64 hy] ∧ ps = [] := by
  obtain ⟨cs, rfl, hsz⟩ := okWide_struct Tryd.underlying25 hval
  obtain ⟨c0, c1, c2, c3, rfl⟩ := array4 (hsz.trans cellsBox)
  obtain ⟨fuel, hf⟩ := hd
  obtain ⟨y0, y1, m, e, _, h0, h1⟩ := trod_struct2 Tryd.underlying25 hf
  simp only [Value.cells, cellsSpot, List.drop_zero, List.drop_succ_cons, List.take_succ_cons, List.take_zero] at h0 h1
  obtain ⟨a, b, rfl, rfl, k0⟩ := trod_spot h0
  obtain ⟨c, d', rfl, rfl, k1⟩ := trod_spot h1
  simp only [Prod.mk.injEq] at e
  exact ⟨a, b, c, d', rfl, by rw [e.2, k0, k1]; rfl⟩
end
end Go.Proofs.YtdgaeodkffhciaaDoor
