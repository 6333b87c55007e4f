/- Opening the laws' arguments: papers, strips, points of paper. -/
import Derived.Test.YtddjppaccpioiaaDoorZB
import Derived.Deep.Strs
import Derived.Lib.SmallJoins
namespace Go.Proofs.YtddjppaccpioiaaDoor
open Go.ChangeShapes Go.WideShapes Go.ChangeAt Go.RowKit Go.Joins
set_option maxRecDepth 20000

theorem array5 {α : Type} {cs : Array α} (h : cs.size = 5) : ∃ c0 c1 c2 c3 c4, cs = #[c0, c1, c2, c3, c4] := by
  obtain ⟨l⟩ := cs
  match l, h with
  | [c0, c1, c2, c3, c4], _ => exact ⟨c0, c1, c2, c3, c4, rfl⟩
theorem cellsInt : Tryd.prog.cellsOf 3 = 1 := by kernel_rfl
theorem cellsFl : Tryd.prog.cellsOf 22 = 1 := by kernel_rfl
theorem cellsPaper : Tryd.prog.cellsOf 69 = 5 := by kernel_rfl
theorem cellsStrip : Tryd.prog.cellsOf 46 = 4 := by kernel_rfl
theorem cellsFlat : Tryd.prog.cellsOf 53 = 2 := by kernel_rfl

section
variable {H : Type} {enc : TypeId × Value → H} {w : World} {base : Nat} {sp : Nat → Bool} {held : Bool}
theorem trod_globe {fuel : Nat} {c0 c1 : Value} {x : DataW H × List MemPlace} (h : DataW.trod enc Tryd.prog w base sp held fuel 24 [c0, c1] = some x) : ∃ a b : Nat, c0 = .float .f64 a ∧ c1 = .float .f64 b ∧ x.2 = [] := by
  obtain ⟨y0, y1, m, rfl, _, h0, h1⟩ := trod_struct2 Tryd.underlying24 h
  simp only [cellsFl, List.drop_zero, List.drop_succ_cons, List.take_succ_cons, List.take_zero] at h0 h1
  obtain ⟨a, e0, k0⟩ := trod_float1 Tryd.underlying22 h0
  obtain ⟨b, e1, k1⟩ := trod_float1 Tryd.underlying22 h1
  simp at e0 e1
  exact ⟨a, b, e0, e1, by simp [k0, k1]⟩
theorem open_paper {r : Reach} {b0 : Nat} {v : Value} {d : DataW H} {ps : List MemPlace} (hval : Value.okWide Tryd.prog w r b0 69 v) (hd : DataW.Trod enc Tryd.prog w base sp held 69 v d ps) :
    ∃ (a f : Nat) (s : ByteArray) (mid : Int) (sc : Nat), v = .agg #[.float .f64 a, .float .f64 f, .string s, .int .i64 mid, .float .f64 sc] ∧ ps = [] := by
  obtain ⟨cs, rfl, hsz⟩ := okWide_struct Tryd.underlying69 hval
  obtain ⟨c0, c1, c2, c3, c4, rfl⟩ := array5 (hsz.trans cellsPaper)
  obtain ⟨fuel, hf⟩ := hd
  obtain ⟨y0, y1, y2, y3, m, e, _, h0, h1, h2, h3⟩ := trod_struct4 Tryd.underlying69 hf
  simp only [Value.cells, cellsGlobe, cellsStr, cellsInt, cellsFl, List.drop_zero, List.drop_succ_cons, List.take_succ_cons, List.take_zero] at h0 h1 h2 h3
  obtain ⟨a, f, rfl, rfl, k0⟩ := trod_globe h0
  obtain ⟨s, e1, rfl, _⟩ := DataW.trod_string Tryd.underlying9 h1
  obtain ⟨i, e2, rfl, _⟩ := DataW.trod_int Tryd.underlying3 h2
  obtain ⟨q, e3, k3⟩ := trod_float1 Tryd.underlying22 h3
  simp at e1 e2 e3
  simp only [Prod.mk.injEq] at e
  exact ⟨a, f, s, i, q, by rw [e1, e2, e3], by rw [e.2, k0, k3]; rfl⟩
theorem open_strip {r : Reach} {b0 : Nat} {v : Value} {d : DataW H} {ps : List MemPlace} (hval : Value.okWide Tryd.prog w r b0 46 v) (hd : DataW.Trod enc Tryd.prog w base sp held 46 v d ps) :
    ∃ (a f : Nat) (mid : Int) (sc : Nat), v = .agg #[.float .f64 a, .float .f64 f, .int .i64 mid, .float .f64 sc] ∧ ps = [] := by
  obtain ⟨cs, rfl, hsz⟩ := okWide_struct Tryd.underlying46 hval
  obtain ⟨c0, c1, c2, c3, rfl⟩ := array4 (hsz.trans cellsStrip)
  obtain ⟨fuel, hf⟩ := hd
  obtain ⟨y0, y1, y2, m, e, _, h0, h1, h2⟩ := _root_.Go.Deep.trod_struct3 Tryd.underlying46 hf
  simp only [Value.cells, cellsGlobe, cellsInt, cellsFl, List.drop_zero, List.drop_succ_cons, List.take_succ_cons, List.take_zero] at h0 h1 h2
  obtain ⟨a, f, rfl, rfl, k0⟩ := trod_globe h0
  obtain ⟨i, e1, rfl, _⟩ := DataW.trod_int Tryd.underlying3 h1
  obtain ⟨q, e2, k2⟩ := trod_float1 Tryd.underlying22 h2
  simp at e1 e2
  simp only [Prod.mk.injEq] at e
  exact ⟨a, f, i, q, by rw [e1, e2], by rw [e.2, k0, k2]; rfl⟩
theorem open_flat {r : Reach} {b0 : Nat} {v : Value} {d : DataW H} {ps : List MemPlace} (hval : Value.okWide Tryd.prog w r b0 53 v) (hd : DataW.Trod enc Tryd.prog w base sp held 53 v d ps) :
    ∃ x y : Nat, v = .agg #[.float .f64 x, .float .f64 y] ∧ ps = [] := by
  obtain ⟨c0, c1, y0, y1, m, rfl, rfl, rfl, h0, h1⟩ := open_agg2 Tryd.underlying53 (by kernel_rfl) cellsFlat hval hd
  obtain ⟨a, e0, k0⟩ := trod_float1 Tryd.underlying22 h0
  obtain ⟨b, e1, k1⟩ := trod_float1 Tryd.underlying22 h1
  simp at e0 e1
  exact ⟨a, b, by rw [e0, e1], by rw [k0, k1]; rfl⟩
end
end Go.Proofs.YtddjppaccpioiaaDoor
