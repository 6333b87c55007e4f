/- Walk: grid.Sheets. -/
import Derived.Test.YtdgaeodkffhciaaDoorQ1
import Derived.Test.YtdgaeodkffhciaaDoorQ3
import Derived.Test.YtdgaeodkffhciaaDoorE4
import Derived.Test.YtdgaeodkffhciaaDoorL2
import Derived.Test.YtdgaeodkffhciaaDoorL5
import Derived.BigQuiet
namespace Go.Proofs.YtdgaeodkffhciaaDoor
open Go.RowKit Go.Rel
set_option maxRecDepth 20000

/-- arguments that make sheets -/
def okS (wide high lap : Int) : Bool := decide (1 ≤ wide) && decide (wide ≤ 33554432) && decide (1 ≤ high) && decide (high ≤ 33554432) && decide (0 ≤ lap) && decide (lap ≤ 16777216)
theorem okS_true {wide high lap : Int} (h : okS wide high lap = true) : 1 ≤ wide ∧ wide ≤ 33554432 ∧ 1 ≤ high ∧ high ≤ 33554432 ∧ 0 ≤ lap ∧ lap ≤ 16777216 := by
  simp only [okS, Bool.and_eq_true, decide_eq_true_eq] at h; omega
theorem okS_false {wide high lap : Int} (h : okS wide high lap = false) : wide < 1 ∨ 33554432 < wide ∨ high < 1 ∨ 33554432 < high ∨ lap < 0 ∨ 16777216 < lap := by
  simp only [okS, Bool.and_eq_false_iff, decide_eq_false_iff_not] at h; omega

abbrev sheetsV : Value := .slice none 0 0
set_option maxHeartbeats 4000000 in
theorem sheets_shape0 {A : Nat → Addr} (lx ly hx hy wide high lap : Int) (w : World) (h8 : World8 A w) (hb : boxP lx ly hx hy = false) :
    Calls Tryd.prog 15 #[boxV lx ly hx hy, .int .i64 wide, .int .i64 high, .int .i64 lap] w (ExR (.tuple #[.slice none 0 0, errV (A 0)]) w) := by
  go_enter Tryd.func15, Tryd.ntmps15
  go_wp2_with (first | (go_at_call 37; refine (right_c lx ly hx hy _).mono ?_; rintro e w1 ⟨rfl, hx1⟩; obtain ⟨hb1, hxx⟩ := ext1 hx1; rw [hb]; have kg := (h8.ext hxx).errs.cell 0 (by decide)))
  go_region
  all_goals go_wp2
  all_goals go_ret2
  all_goals exact ⟨rfl, (by repeat (first | exact Ext.refl _ | assumption | refine Ext.drew ?_ | refine Ext.alloc ?_ _))⟩

set_option maxHeartbeats 8000000 in
theorem sheets_shape1 {A : Nat → Addr} (lx ly hx hy wide high lap : Int) (w : World) (h8 : World8 A w) (hb : boxP lx ly hx hy = true) (hs : okS wide high lap = false) :
    Calls Tryd.prog 15 #[boxV lx ly hx hy, .int .i64 wide, .int .i64 high, .int .i64 lap] w (ExR (.tuple #[.slice none 0 0, errV (A 0)]) w) := by
  have hbad := okS_false hs
  have HB : Hid (wide < 1 ∨ 33554432 < wide ∨ high < 1 ∨ 33554432 < high ∨ lap < 0 ∨ 16777216 < lap) := hbad
  clear hbad hs
  go_enter Tryd.func15, Tryd.ntmps15
  go_wp2_with (first | (go_at_call 37; refine (right_c lx ly hx hy _).mono ?_; rintro e w1 ⟨rfl, hx1⟩; obtain ⟨hb1, hxx⟩ := ext1 hx1; rw [hb]; have kg := (h8.ext hxx).errs.cell 0 (by decide)))
  all_goals first
    | (exfalso; have := HB.out; omega)
    | (go_region
       all_goals go_wp2
       all_goals go_ret2
       all_goals exact ⟨rfl, (by repeat (first | exact Ext.refl _ | assumption | refine Ext.drew ?_ | refine Ext.alloc ?_ _))⟩)
end Go.Proofs.YtdgaeodkffhciaaDoor
