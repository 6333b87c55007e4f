/- Walks: the numbers of a series of a globe that is none. -/
import Derived.Test.YtmmifmlkhmdgaaaGreatDoorHK
import Derived.Test.YtmmifmlkhmdgaaaGreatDoorZD
import Derived.Test.YtmmifmlkhmdgaaaGreatDoorZB
namespace Go.Proofs.YtmmifmlkhmdgaaaGreatDoor
open Go.RowKit Go.Fp Go.Rel
set_option maxRecDepth 20000

theorem ext_setA {w b : World} (h : Ext w b) (i : Nat) (v : Value) : Ext w (b.setCell ⟨w.heap.size + 1, i, none⟩ v) := h.setCell (by show w.heap.size ≤ w.heap.size + 1; omega) v
theorem ext_setB {w b : World} (h : Ext w b) (i : Nat) (v : Value) : Ext w (b.setCell ⟨w.heap.size + 1 + 1, i, none⟩ v) := h.setCell (by show w.heap.size ≤ w.heap.size + 1 + 1; omega) v
set_option maxHeartbeats 4000000 in
theorem series_bad {A : Nat → Addr} (a f : Nat) (w : World) (h8 : World8 A w) (hg : okG a f = false) :
    Calls Tryz.prog 20 #[globeV a f] w (ExR (.tuple #[.float .f64 0, .agg #[.float .f64 0, .float .f64 0, .float .f64 0, .float .f64 0], .agg #[.float .f64 0, .float .f64 0, .float .f64 0, .float .f64 0], errV (A 1)]) w) := by
  have HV0 := fun w h => valid_c (A := A) a f w h
  simp only [hg, Bool.false_eq_true, if_false] at HV0
  have HV := Lib.hid HV0
  clear HV0
  go_enter Tryz.func20, Tryz.ntmps20
  go_wp2_with (first
    | (go_at_call 47; go_must (refine (HV.out _ (h8.ext ((((Ext.refl w).alloc _).alloc _).alloc _))).mono ?_; rintro e w1 ⟨rfl, hx⟩; obtain ⟨hb1, hb2, hb3, hw⟩ := ext3 hx; clear hx; have c2 := hb2.cell; have c3 := hb3.cell; have f2 := hb2.frozen; have f3 := hb3.frozen)))
  go_region
  all_goals go_wp2_with fail
  all_goals exact bodyPost_ret (v := .tuple #[.float .f64 0, .agg #[.float .f64 0, .float .f64 0, .float .f64 0, .float .f64 0], .agg #[.float .f64 0, .float .f64 0, .float .f64 0, .float .f64 0], errV (A 1)]) (by simp [results, Tryz.results20, go_sem, c2, c3]) rfl ⟨rfl, (by repeat (first | (with_reducible exact hw) | (with_reducible refine ext_setA ?_ _ _) | (with_reducible refine ext_setB ?_ _ _) | (with_reducible refine Ext.drew ?_)))⟩
end Go.Proofs.YtmmifmlkhmdgaaaGreatDoor
