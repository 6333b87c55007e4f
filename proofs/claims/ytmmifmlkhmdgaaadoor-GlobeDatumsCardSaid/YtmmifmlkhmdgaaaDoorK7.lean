/- Opening a datum. -/
import Derived.Test.YtmmifmlkhmdgaaaDoorZB
import Derived.Lib.SmallJoins
namespace Go.Proofs.YtmmifmlkhmdgaaaDoor
open Go.ChangeShapes Go.WideShapes Go.ChangeAt Go.RowKit Go.Joins Go.Rel
set_option maxRecDepth 20000

theorem cellsFlD : Tryd.prog.cellsOf 22 = 1 := by kernel_rfl
theorem cellsDatum : Tryd.prog.cellsOf 43 = 7 := by kernel_rfl
theorem array7 {α : Type} {cs : Array α} (h : cs.size = 7) : ∃ c0 c1 c2 c3 c4 c5 c6, cs = #[c0, c1, c2, c3, c4, c5, c6] := by
  obtain ⟨l⟩ := cs
  match l, h with
  | [c0, c1, c2, c3, c4, c5, c6], _ => exact ⟨c0, c1, c2, c3, c4, c5, c6, rfl⟩
theorem list7 {α : Type} {l : List α} (h : l.length = 7) : ∃ c0 c1 c2 c3 c4 c5 c6, l = [c0, c1, c2, c3, c4, c5, c6] := by
  match l, h with
  | [c0, c1, c2, c3, c4, c5, c6], _ => exact ⟨c0, c1, c2, c3, c4, c5, c6, rfl⟩
section
variable {H : Type} {enc : TypeId × Value → H} {w : World} {base : Nat} {sp : Nat → Bool} {held : Bool}
theorem open_datum {r : Reach} {b0 : Nat} {v : Value} {d : DataW H} {ps : List MemPlace} (hval : Value.okWide Tryd.prog w r b0 43 v) (hd : DataW.Trod enc Tryd.prog w base sp held 43 v d ps) :
    ∃ X Y Z A B C S : Nat, v = .agg #[.float .f64 X, .float .f64 Y, .float .f64 Z, .float .f64 A, .float .f64 B, .float .f64 C, .float .f64 S] ∧ ps = [] := by
  obtain ⟨cs, rfl, hsz⟩ := okWide_struct Tryd.underlying43 hval
  obtain ⟨c0, c1, c2, c3, c4, c5, c6, rfl⟩ := array7 (hsz.trans cellsDatum)
  obtain ⟨fuel, hf⟩ := hd
  obtain ⟨xs, n, _, e, _, hlen, hg⟩ := DataW.trod_struct Tryd.underlying43 hf
  obtain ⟨y0, y1, y2, y3, y4, y5, y6, rfl⟩ := list7 hlen
  have h0 := hg 0 _ rfl
  have h1 := hg 1 _ rfl
  have h2 := hg 2 _ rfl
  have h3 := hg 3 _ rfl
  have h4 := hg 4 _ rfl
  have h5 := hg 5 _ rfl
  have h6 := hg 6 _ rfl
  clear hg
  simp only [Value.cells, List.getElem?_cons_zero, List.getElem?_cons_succ] at h0 h1 h2 h3 h4 h5 h6
  obtain ⟨a0, e0, k0⟩ := trod_float1 Tryd.underlying22 h0
  obtain ⟨a1, e1, k1⟩ := trod_float1 Tryd.underlying22 h1
  obtain ⟨a2, e2, k2⟩ := trod_float1 Tryd.underlying22 h2
  obtain ⟨a3, e3, k3⟩ := trod_float1 Tryd.underlying22 h3
  obtain ⟨a4, e4, k4⟩ := trod_float1 Tryd.underlying22 h4
  obtain ⟨a5, e5, k5⟩ := trod_float1 Tryd.underlying22 h5
  obtain ⟨a6, e6, k6⟩ := trod_float1 Tryd.underlying22 h6
  simp [cellsFlD] at e0 e1 e2 e3 e4 e5 e6
  simp only [Prod.mk.injEq] at e
  exact ⟨a0, a1, a2, a3, a4, a5, a6, by rw [e0, e1, e2, e3, e4, e5, e6], by rw [e.2]; simp [k0, k1, k2, k3, k4, k5, k6]⟩
end
end Go.Proofs.YtmmifmlkhmdgaaaDoor
