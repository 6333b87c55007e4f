/- Walks: the numbers of a series, package wave's. -/
import Derived.Test.YtcppgbhjbmfldaaDoorZQ
namespace Go.Proofs.YtcppgbhjbmfldaaDoor
open Go.RowKit Go.Fp Go.Rel
set_option maxRecDepth 20000

theorem ext_set1 {w b : World} (h : Ext w b) (i : Nat) (v : Value) : Ext w (b.setCell ⟨w.heap.size + 1, i, none⟩ v) := h.setCell (by show w.heap.size ≤ w.heap.size + 1; omega) v
theorem ext_set2 {w b : World} (h : Ext w b) (i : Nat) (v : Value) : Ext w (b.setCell ⟨w.heap.size + 1 + 1, i, none⟩ v) := h.setCell (by show w.heap.size ≤ w.heap.size + 1 + 1; omega) v
end Go.Proofs.YtcppgbhjbmfldaaDoor
