/- The walk of the law PathGreat. -/
import Derived.Test.YtaipecabiepooaaPb
namespace Go.Proofs.Ytaipecabiepooaa
open Go.RowKit Go.Fp Go.Rel

set_option maxHeartbeats 4000000 in
theorem pathGreat_walk (lon lat lon' lat' : Int) (w : World) : Calls Try.prog 3 #[.agg #[.int .i64 lon, .int .i64 lat], .agg #[.int .i64 lon', .int .i64 lat']] w (ExR (.bool true) w) := by
  have HG1 := Lib.hid (great_c 0 0 0 90000000000)
  have HG2 := Lib.hid (great_c lon lat lon' lat')
  have HG3 := Lib.hid (great_c lon' lat' lon lat)
  have HG4 := Lib.hid (greatOf_c lon lat lon' lat')
  rw [great_swap lon' lat' lon lat] at HG3
  obtain ⟨hlo, hhi⟩ := great_quarter
  generalize greatP 0 0 0 90000000000 = q at *
  generalize greatP lon lat lon' lat' = g at *
  go_enter Try.func3, Try.ntmps3
  go_wp2_with fail
  refine (HG1.out _).mono ?_
  rintro e w1 ⟨rfl, hx1⟩
  obtain ⟨hb1, hb2, hw0⟩ := ext2 hx1
  clear hx1
  have c1 := hb1.cell
  have c2 := hb2.cell
  go_wp2_with fail
  refine (HG2.out _).mono ?_
  rintro e w2 ⟨rfl, hx⟩
  replace hb1 := hb1.ext hx
  replace hb2 := hb2.ext hx
  replace hw0 := hw0.trans hx
  clear hx c1 c2
  have c1 := hb1.cell
  have c2 := hb2.cell
  go_wp2_with fail
  refine (HG4.out _).mono ?_
  rintro e w3 ⟨rfl, hx⟩
  replace hb1 := hb1.ext hx
  replace hb2 := hb2.ext hx
  replace hw0 := hw0.trans hx
  clear hx c1 c2
  have c1 := hb1.cell
  have c2 := hb2.cell
  go_wp2_with fail
  refine (HG3.out _).mono ?_
  rintro e w4 ⟨rfl, hx⟩
  replace hw0 := hw0.trans hx
  clear hx c1 c2 hb1 hb2
  go_wp2_with fail
  go_ret
  exact ⟨rfl, hw0⟩
end Go.Proofs.Ytaipecabiepooaa
