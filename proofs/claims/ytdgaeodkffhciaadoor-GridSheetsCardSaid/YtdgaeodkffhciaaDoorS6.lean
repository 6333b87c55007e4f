/- The walk of the law GridSheets, where there are no sheets. Printed by gen_sheets.py. -/
import Derived.Test.YtdgaeodkffhciaaDoorS5
import Derived.Test.YtdgaeodkffhciaaDoorVA
import Derived.BigQuiet
namespace Go.Proofs.YtdgaeodkffhciaaDoor
open Go.RowKit Go.Rel
set_option maxRecDepth 20000

set_option maxHeartbeats 20000000 in
theorem gs_bad {A : Nat → Addr} (lx ly XH hy wide high lap px py : Int) (w : World) (h8 : World8 A w) {k : Int} {ev : Value} (hk : 0 < k) (hev : ErrOf A k ev)
    (HS : Hid (∀ w, World8 A w → Calls Tryd.prog 15 #[boxV lx ly XH hy, .int .i64 wide, .int .i64 high, .int .i64 lap] w (ExR (.tuple #[.slice none 0 0, ev]) w)))
    (HO : Hid (∀ w, Calls Tryd.prog 16 #[boxV lx ly XH hy, .int .i64 wide, .int .i64 high, .int .i64 lap] w (ExR (.tuple #[.slice none 0 0, .int .i64 k]) w))) :
    Calls Tryd.prog 4 #[boxV lx ly XH hy, .int .i64 wide, .int .i64 high, .int .i64 lap, .agg #[.int .i64 px, .int .i64 py]] w (ExR (.bool true) w) := by
  go_enter Tryd.func4, Tryd.ntmps4
  go_wp2_with (first
    | (go_at_call 14; refine (zoned_c _).mono ?_; rintro e w1 ⟨rfl, hx⟩; obtain ⟨hbB, hbP, hw⟩ := ext2 hx; clear hx; have cB := hbB.cell; have cP := hbP.cell)
    | (go_at_call 15; refine (HS.out _ (h8.ext hw)).mono ?_; rintro e w1 ⟨rfl, hx⟩; replace hbB := hbB.ext (bareE hx rfl rfl rfl rfl); replace hbP := hbP.ext (bareE hx rfl rfl rfl rfl); replace hw := hw.trans (bareE hx rfl rfl rfl rfl); try clear cB cP; have cB := hbB.cell; have cP := hbP.cell; clear hx)
    | (go_at_call 16; refine (HO.out _).mono ?_; rintro e w1 ⟨rfl, hx⟩; replace hbB := hbB.ext (bareE hx rfl rfl rfl rfl); replace hbP := hbP.ext (bareE hx rfl rfl rfl rfl); replace hw := hw.trans (bareE hx rfl rfl rfl rfl); try clear cB cP; have cB := hbB.cell; have cP := hbP.cell; clear hx)
    | (go_at_call 11; refine (coded_c (h8.ext hw) hev _).mono ?_; rintro e w1 ⟨rfl, hx⟩; replace hbB := hbB.ext (bareE hx rfl rfl rfl rfl); replace hbP := hbP.ext (bareE hx rfl rfl rfl rfl); replace hw := hw.trans (bareE hx rfl rfl rfl rfl); try clear cB cP; have cB := hbB.cell; have cP := hbP.cell; clear hx)
    | (go_at_call 17; refine (on_nil px py 0 _).mono ?_; rintro e w1 ⟨rfl, hx⟩; replace hbB := hbB.ext (bareE hx rfl rfl rfl rfl); replace hbP := hbP.ext (bareE hx rfl rfl rfl rfl); replace hw := hw.trans (bareE hx rfl rfl rfl rfl); try clear cB cP; have cB := hbB.cell; have cP := hbP.cell; clear hx))
  refine wp_loop_rounds 1 ?_
  rw [rounds_succ]
  go_wp2_with (first
    | (go_at_call 14; refine (zoned_c _).mono ?_; rintro e w1 ⟨rfl, hx⟩; obtain ⟨hbB, hbP, hw⟩ := ext2 hx; clear hx; have cB := hbB.cell; have cP := hbP.cell)
    | (go_at_call 15; refine (HS.out _ (h8.ext hw)).mono ?_; rintro e w1 ⟨rfl, hx⟩; replace hbB := hbB.ext (bareE hx rfl rfl rfl rfl); replace hbP := hbP.ext (bareE hx rfl rfl rfl rfl); replace hw := hw.trans (bareE hx rfl rfl rfl rfl); try clear cB cP; have cB := hbB.cell; have cP := hbP.cell; clear hx)
    | (go_at_call 16; refine (HO.out _).mono ?_; rintro e w1 ⟨rfl, hx⟩; replace hbB := hbB.ext (bareE hx rfl rfl rfl rfl); replace hbP := hbP.ext (bareE hx rfl rfl rfl rfl); replace hw := hw.trans (bareE hx rfl rfl rfl rfl); try clear cB cP; have cB := hbB.cell; have cP := hbP.cell; clear hx)
    | (go_at_call 11; refine (coded_c (h8.ext hw) hev _).mono ?_; rintro e w1 ⟨rfl, hx⟩; replace hbB := hbB.ext (bareE hx rfl rfl rfl rfl); replace hbP := hbP.ext (bareE hx rfl rfl rfl rfl); replace hw := hw.trans (bareE hx rfl rfl rfl rfl); try clear cB cP; have cB := hbB.cell; have cP := hbP.cell; clear hx)
    | (go_at_call 17; refine (on_nil px py 0 _).mono ?_; rintro e w1 ⟨rfl, hx⟩; replace hbB := hbB.ext (bareE hx rfl rfl rfl rfl); replace hbP := hbP.ext (bareE hx rfl rfl rfl rfl); replace hw := hw.trans (bareE hx rfl rfl rfl rfl); try clear cB cP; have cB := hbB.cell; have cP := hbP.cell; clear hx))
  refine wp_loop_rounds 1 ?_
  rw [rounds_succ]
  go_wp2
  all_goals go_ret
  all_goals exact ⟨by simp [hk], hw⟩
end Go.Proofs.YtdgaeodkffhciaaDoor
