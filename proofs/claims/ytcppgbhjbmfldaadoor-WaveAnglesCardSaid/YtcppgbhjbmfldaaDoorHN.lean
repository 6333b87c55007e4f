/- Walks: the numbers of a series, the reference's. -/
import Derived.Test.YtcppgbhjbmfldaaDoorZQ
import Derived.Test.YtcppgbhjbmfldaaDoorZU
import Derived.Test.YtcppgbhjbmfldaaDoorZU
import Derived.Deep.AppendLies
namespace Go.Proofs.YtcppgbhjbmfldaaDoor
open Go.RowKit Go.Fp Go.Rel
set_option maxRecDepth 20000

theorem zero_add : ∀ c ∈ [4597374579611521661, 4600639689341365271, 13828173981566040240, 13791923578851126295, 13822510526320350913, 13809880788793911511], fadd (can c) 0 = can c ∧ fadd (can c) 9223372036854775808 = can c := by decide +kernel
/-- four floats in a row -/
def Fl4 (w : World) (g y0 y1 y2 y3 : Nat) : Prop := w.cell? ⟨g, 0, none⟩ = some (.float .f64 y0) ∧ w.cell? ⟨g, 1, none⟩ = some (.float .f64 y1) ∧ w.cell? ⟨g, 2, none⟩ = some (.float .f64 y2) ∧ w.cell? ⟨g, 3, none⟩ = some (.float .f64 y3)
theorem Fl4.block {w w' : World} {g y0 y1 y2 y3 : Nat} (h : Fl4 w g y0 y1 y2 y3) (hb : w'.heap[g]? = w.heap[g]?) : Fl4 w' g y0 y1 y2 y3 := by
  obtain ⟨h0, h1, h2, h3⟩ := h
  exact ⟨(World.cell?_of_block (a := ⟨g, 0, none⟩) hb).trans h0, (World.cell?_of_block (a := ⟨g, 1, none⟩) hb).trans h1, (World.cell?_of_block (a := ⟨g, 2, none⟩) hb).trans h2, (World.cell?_of_block (a := ⟨g, 3, none⟩) hb).trans h3⟩
theorem Fl4.lt {w : World} {g y0 y1 y2 y3 : Nat} (h : Fl4 w g y0 y1 y2 y3) : g < w.heap.size := World.block_lt_of_cell? w _ h.1
theorem Fl4.ext {w w' : World} {g y0 y1 y2 y3 : Nat} (h : Fl4 w g y0 y1 y2 y3) (hx : Ext w w') : Fl4 w' g y0 y1 y2 y3 := h.block (hx.block g h.lt)
theorem Fl4.set {w : World} {g y0 y1 y2 y3 n i : Nat} {v : Value} (h : Fl4 w g y0 y1 y2 y3) (hn : g ≠ n) : Fl4 (w.setCell ⟨n, i, none⟩ v) g y0 y1 y2 y3 := h.block (setCell_other2 _ _ _ _ _ hn)
def NumR (a f : Nat) (w : World) (e : Ending) (w' : World) : Prop := ∃ r ga ca gb cb y0 y1 y2 y3 x0 x1 x2 x3, e = .returned (.agg #[.float .f64 r, .slice (some ⟨ga, 0, none⟩) 4 ca, .slice (some ⟨gb, 0, none⟩) 4 cb]) ∧ can r = radS a f ∧
  (can y0 = rowS tabA cA4 f 0 ∧ can y1 = rowS tabA cA4 f 1 ∧ can y2 = rowS tabA cA4 f 2 ∧ can y3 = rowS tabA cA4 f 3) ∧ (can x0 = rowS tabB cB4 f 0 ∧ can x1 = rowS tabB cB4 f 1 ∧ can x2 = rowS tabB cB4 f 2 ∧ can x3 = rowS tabB cB4 f 3) ∧
  Fl4 w' ga y0 y1 y2 y3 ∧ Fl4 w' gb x0 x1 x2 x3 ∧ Ext w w'
end Go.Proofs.YtcppgbhjbmfldaaDoor
