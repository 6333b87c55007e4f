/- Walk: grid.Lines's closure: the first and the last line's number. -/
import Derived.Test.YtdgaeodkffhciaaDoorProg
import Derived.Test.YtdgaeodkffhciaaDoorW
import Derived.Test.YtdgaeodkffhciaaDoorQ1
import Derived.WalkKit
namespace Go.Proofs.YtdgaeodkffhciaaDoor
open Go.RowKit Go.Rel
set_option maxRecDepth 20000

set_option maxHeartbeats 4000000 in
theorem span_c (low high s : Int) (w : World) (p : Addr) (hs : 0 < s) (hs2 : s ≤ 9223372036854775807) (l1 : low ≤ 16777216) (l2 : -16777216 ≤ low) (h1 : high ≤ 16777216) (h2 : -16777216 ≤ high)
    (hp : w.cell? p = some (.int .i64 s)) :
    Calls Tryd.prog 38 #[.int .i64 low, .int .i64 high, .pointer (some p)] w (ExR (.tuple #[.int .i64 (ceilP low s), .int .i64 (floorP high s)]) w) := by
  obtain ⟨t1, t2, t3, t4⟩ := tdiv_le hs 16777216 l1 l2
  obtain ⟨u1, u2, u3, u4⟩ := tdiv_le hs 16777216 h1 h2
  have ec := ceil_tdiv (a := low) hs
  have ef := floor_tdiv (a := high) hs
  have hne : ¬ s = 0 := by omega
  generalize ceilP low s = c at *
  generalize floorP high s = f at *
  by_cases hb : low.tdiv s * s < low <;> by_cases hd : high < high.tdiv s * s
  all_goals
    simp only [hb, hd, if_true, if_false] at ec ef
    subst ec ef
    go_enter Tryd.func38, Tryd.ntmps38
    go_wp2
    all_goals (try (go_region; all_goals go_wp2))
    all_goals go_ret2
    all_goals exact ⟨rfl, (by repeat (first | exact Ext.refl _ | refine Ext.drew ?_ | refine Ext.alloc ?_ _))⟩
end Go.Proofs.YtdgaeodkffhciaaDoor
