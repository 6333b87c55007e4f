/- Walks: which references are valid; part of a number; the square in which a reference lies. -/
import Derived.Test.YteebbcdbkkliaaaDoorDC
import Derived.Test.YteebbcdbkkliaaaDoorZB
namespace Go.Proofs.YteebbcdbkkliaaaDoor
open Go.RowKit Go.Fp Go.Rel Go.Lib
set_option maxRecDepth 20000

/-- what a world holds for package grid -/
structure WorldG (A : Nat → Addr) (w : World) : Prop where
  rng : w.cell? ⟨0, 0, none⟩ = some (errV (A 0))
  shp : w.cell? ⟨2, 0, none⟩ = some (errV (A 2))
  tab : TabOk w
theorem WorldG.ext {A : Nat → Addr} {w w' : World} (h : WorldG A w) (hx : Ext w w') : WorldG A w' :=
  ⟨by rw [hx.cell _ 0 (cell_lt h.rng)]; exact h.rng, by rw [hx.cell _ 0 (cell_lt h.shp)]; exact h.shp, h.tab.ext hx⟩
abbrev refV (z : Int) (s : Bool) (e n : Int) : Value := .agg #[.int .i64 z, .bool s, .int .i64 e, .int .i64 n]
/-- a reference that is one -/
def OkRef (z e n : Int) : Prop := 1 ≤ z ∧ z ≤ 60 ∧ 0 ≤ e ∧ e ≤ 999999 ∧ 0 ≤ n ∧ n ≤ 9999999

set_option maxHeartbeats 4000000 in
theorem refValid_ok (z : Int) (s : Bool) (e n : Int) (h : OkRef z e n) (w : World) : Calls Tryd.prog 20 #[refV z s e n] w (ExR .nilIface w) := by
  obtain ⟨h1, h2, h3, h4, h5, h6⟩ := h
  go_enter Tryd.func20, Tryd.ntmps20
  go_wp2_with fail
  go_ret
  exact ⟨rfl, (Ext.refl w).alloc _⟩
set_option maxHeartbeats 4000000 in
theorem refValid_bad {A : Nat → Addr} (z : Int) (s : Bool) (e n : Int) (h : ¬ OkRef z e n) (w : World) (hW : WorldG A w) : Calls Tryd.prog 20 #[refV z s e n] w (ExR (errV (A 0)) w) := by
  have HH := Lib.hid h
  clear h
  have kg := (hW.ext ((Ext.refl w).alloc (.cells #[.int .i64 z, .bool s, .int .i64 e, .int .i64 n] 49))).rng
  go_enter Tryd.func20, Tryd.ntmps20
  go_wp2_with fail
  all_goals (first | go_ret | (exfalso; omega))
  all_goals first
    | exact ⟨rfl, (Ext.refl w).alloc _⟩
    | (exfalso; refine HH.out ⟨?_, ?_, ?_, ?_, ?_, ?_⟩ <;> omega)
set_option maxHeartbeats 4000000 in
theorem refError_ok (z : Int) (s : Bool) (e n : Int) (h : OkRef z e n) (w : World) : Calls Tryd.prog 42 #[refV z s e n] w (ExR (.int .i64 0) w) := by
  obtain ⟨h1, h2, h3, h4, h5, h6⟩ := h
  go_enter Tryd.func42, Tryd.ntmps42
  go_wp2_with fail
  go_ret
  exact ⟨rfl, (Ext.refl w).alloc _⟩
set_option maxHeartbeats 4000000 in
theorem refError_bad (z : Int) (s : Bool) (e n : Int) (h : ¬ OkRef z e n) (w : World) : Calls Tryd.prog 42 #[refV z s e n] w (ExR (.int .i64 4) w) := by
  have HH := Lib.hid h
  clear h
  go_enter Tryd.func42, Tryd.ntmps42
  go_wp2_with fail
  all_goals (first | go_ret | (exfalso; omega))
  all_goals first
    | exact ⟨rfl, (Ext.refl w).alloc _⟩
    | (exfalso; refine HH.out ⟨?_, ?_, ?_, ?_, ?_, ?_⟩ <;> omega)
    | (exfalso; refine HH.out ?_; unfold OkRef; simp_all; done)
    | trace_state
end Go.Proofs.YteebbcdbkkliaaaDoor
