/- Walk: grid.Sheets: too many of them. -/
import Derived.Test.YtdgaeodkffhciaaDoorS1
namespace Go.Proofs.YtdgaeodkffhciaaDoor
open Go.RowKit Go.Rel
set_option maxRecDepth 20000

/-- how many sheets -/
def howMany (lx ly hx hy wide high : Int) : Nat := many ly hy high * many lx hx wide
theorem prod_bound {p q : Int} (h1 : 0 ≤ p) (h2 : p ≤ 33554432) (h3 : 0 ≤ q) (h4 : q ≤ 33554432) : 0 ≤ (p + 1) * (q + 1) ∧ (p + 1) * (q + 1) ≤ 1125899973951489 := by
  have a : 0 ≤ (p + 1) * (q + 1) := Int.mul_nonneg (by omega) (by omega)
  have b : (p + 1) * (q + 1) ≤ 33554433 * 33554433 := Int.mul_le_mul (by omega) (by omega) (by omega) (by omega)
  omega
theorem howMany_eq {lx ly hx hy wide high : Int} (h1 : lx ≤ hx) (h2 : ly ≤ hy) (h3 : 0 < wide) (h4 : 0 < high) : (howMany lx ly hx hy wide high : Int) = ((hx - lx).tdiv wide + 1) * ((hy - ly).tdiv high + 1) := by
  unfold howMany
  rw [Int.natCast_mul, (many_spec h1 h3).1, (many_spec h2 h4).1, Int.mul_comm]

set_option maxHeartbeats 8000000 in
theorem sheets_bound {A : Nat → Addr} (lx ly hx hy wide high lap : Int) (w : World) (h8 : World8 A w) (hb : boxP lx ly hx hy = true) (hs : okS wide high lap = true) (hm : 4000 < howMany lx ly hx hy wide high) :
    Calls Tryd.prog 15 #[boxV lx ly hx hy, .int .i64 wide, .int .i64 high, .int .i64 lap] w (ExR (.tuple #[.slice none 0 0, errV (A 1)]) w) := by
  obtain ⟨⟨x1, x2⟩, ⟨y1, y2⟩, ⟨u1, u2⟩, ⟨v1, v2⟩, xh, yh⟩ := box_in hb
  obtain ⟨s1, s2, s3, s4, s5, s6⟩ := okS_true hs
  obtain ⟨p1, p2⟩ := many_le xh (show 0 < wide by omega)
  obtain ⟨p3, p4⟩ := many_le yh (show 0 < high by omega)
  have hq : 4000 < ((hx - lx).tdiv wide + 1) * ((hy - ly).tdiv high + 1) := by
    rw [← howMany_eq xh yh (by omega) (by omega)]; omega
  obtain ⟨q1, q2⟩ := prod_bound p1 (by omega) p3 (by omega)
  have n1 : ¬ wide = 0 := by omega
  have n2 : ¬ high = 0 := by omega
  clear hm hs
  go_enter Tryd.func15, Tryd.ntmps15
  go_wp2_with (first | (go_at_call 37; refine (right_c lx ly hx hy _).mono ?_; rintro e w1 ⟨rfl, hx1⟩; obtain ⟨hb1, hxx⟩ := ext1 hx1; rw [hb]))
  refine wp_region_all (fun _ _ _ => False) (by kernel_rfl) (by kernel_rfl) ?_
  repeat (first
    | (refine wpR_op rfl (fun w1 hw K hK => ?_); have c1 := (hb1.ext hw.of_drew).cell; go_simp; refine hK _ ?_; clear hK K c1 hw w1))
  refine wpR_nil ?_
  intro w2 hx2 _
  have hw2 := hxx.trans hx2.of_drew
  have kg := (h8.ext hw2).errs.cell 1 (by decide)
  go_wp2
  go_region
  all_goals go_wp2
  all_goals go_ret2
  all_goals exact ⟨rfl, (by repeat (first | exact Ext.refl _ | assumption | refine Ext.drew ?_ | refine Ext.alloc ?_ _))⟩
end Go.Proofs.YtdgaeodkffhciaaDoor
