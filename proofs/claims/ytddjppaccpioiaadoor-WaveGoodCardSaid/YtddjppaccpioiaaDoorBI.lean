/- The walk of the statement WaveGood, joined; the list of its row, a start that meets it. -/
import Derived.Test.YtddjppaccpioiaaDoorBH
import Derived.Test.YtddjppaccpioiaaDoorZB
import Derived.Test.YtddjppaccpioiaaDoorZB
namespace Go.Proofs.YtddjppaccpioiaaDoor
open Go.ChangeShapes Go.WideShapes Go.ChangeAt Go.RowKit Go.Joins Go.Rel Go.Fp Go.Fp.Tri
set_option maxRecDepth 20000

theorem waveGood_walk (a f : Nat) (mid : Int) (sc : Nat) (lon lat : Int) (w : World) : Calls Tryd.prog 5 #[stripV a f mid sc, placeU lon lat] w (ExR (.bool true) w) := by
  cases hm : mildB a f with
  | false => exact waveGood_1 a f mid sc lon lat w hm
  | true =>
    rcases strP_cases (okG a f) sc with hp | hp
    · by_cases hl : 84000000000 < lat
      · exact waveGood_3 a f mid sc lon lat w hm hp hl
      by_cases hl2 : lat < -84000000000
      · exact waveGood_4 a f mid sc lon lat w hm hp hl hl2
      by_cases hg : 30000000000 < (if apartP lon mid < 0 then -apartP lon mid else apartP lon mid)
      · exact waveGood_5 a f mid sc lon lat w hm hp hl hl2 hg
      have amid := asked_mid hm hp (show -84000000000 ≤ lat by omega) (show lat ≤ 84000000000 by omega) hg
      have e1 : ((499950 : Int) : Rat) = 499950 := rfl
      have e2 : ((1950 : Int) : Rat) = 1950 := rfl
      obtain ⟨X, Y, lo, la, n1, n2, told⟩ := told_wave amid hp v_5e5.1 (by rw [v_5e5.2, e1]; grind) (by grind) (by rw [v_5e5.2]; grind) (by rw [v_5e5.2]; grind)
      cases hf : fle f c004 with
      | false => exact waveGood_in a f mid sc lon lat w hm hp hl hl2 hg told (.inr (.inr ⟨hf, rfl⟩))
      | true =>
        by_cases h6 : (if apartP lon mid < 0 then -apartP lon mid else apartP lon mid) ≤ 6000000000
        · have asml := asked_small (mid := mid) (lon := lon) hm hp (show -84000000000 ≤ lat by omega) (show lat ≤ 84000000000 by omega) hf (by omega)
          obtain ⟨X, Y, lo, la, n1, n2, told⟩ := told_wave asml hp v_2000.1 (by rw [v_2000.2, e2]; grind) (by grind) (by rw [v_2000.2]; grind) (by rw [v_2000.2]; grind)
          exact waveGood_in a f mid sc lon lat w hm hp hl hl2 hg told (.inl ⟨hf, h6, rfl⟩)
        · exact waveGood_in a f mid sc lon lat w hm hp hl hl2 hg told (.inr (.inl ⟨hf, h6, rfl⟩))
    · exact waveGood_2 a f mid sc lon lat w hm hp
/-- the list, as the row has it -/
abbrev laid2 : List (String × DataW Unit) := [("mercator/api.ErrShape", Rows.laid_mercator_api_ErrShape), ("mercator/api.ErrRange", Rows.laid_mercator_api_ErrRange)]
/-- The door's own heap meets the list. -/
theorem door2 (os : Os) (args : Array Value) : laidMetH Tryd.prog laid2 ((World.doorLaid Tryd.prog 400 os).forCall (fun _ _ => 0) ⟨#[], args, []⟩).memory :=
  show laidMet Tryd.prog laid2 _ from laidMet_of_run' 8 (by kernel_rfl) (by kernel_rfl)
end Go.Proofs.YtddjppaccpioiaaDoor
