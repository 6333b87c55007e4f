/- The walk of the statement FlatGood, joined; the list of its row, a start that meets it. -/
import Derived.Test.YtddjppaccpioiaaDoorF7
import Derived.Test.YtddjppaccpioiaaDoorF8
import Derived.Test.YtddjppaccpioiaaDoorF9
import Derived.Test.YtddjppaccpioiaaDoorIA
import Derived.Test.YtddjppaccpioiaaDoorZB
import Derived.Test.YtddjppaccpioiaaDoorZB
namespace Go.Proofs.YtddjppaccpioiaaDoor
open Go.ChangeShapes Go.WideShapes Go.ChangeAt Go.RowKit Go.Joins Go.Rel Go.Fp Go.Fp.Tri
set_option maxRecDepth 20000

theorem flatGood_walk (a f : Nat) (s : ByteArray) (mid : Int) (sc : Nat) (lon lat north : Int) (w : World) : Calls Tryd.prog 6 #[paperV a f s mid sc, placeW lon lat, .int .i64 north] w (ExR (.bool true) w) := by
  cases hm : mildB a f with
  | false => exact flatGood_1 s a f mid sc lon lat north w hm
  | true =>
    obtain ⟨n, hK⟩ := kind_some s
    rcases papP_cases (okG a f) n sc with ⟨hp, h3⟩ | hp | hp
    · by_cases hl : 85000000000 < lat
      · exact flatGood_3 hK a f mid sc lon lat north w hm hp hl
      by_cases hl2 : lat < -85000000000
      · exact flatGood_4 hK a f mid sc lon lat north w hm hp hl hl2
      cases hs : (FloatKind.f64.format.order sc cHalf == some .lt) with
      | true => exact flatGood_5 hK a f mid sc lon lat north w hm hp hl hl2 hs
      | false =>
        cases hs2 : (FloatKind.f64.format.order sc cTwoS == some .gt) with
        | true => exact flatGood_6 hK a f mid sc lon lat north w hm hp hl hl2 hs hs2
        | false =>
          cases hK with
          | mer =>
            by_cases hg : 170000000000 < (if apartP lon mid < 0 then -apartP lon mid else apartP lon mid)
            · exact flatGood_8mer a f mid sc lon lat north w hm hp hl hl2 hs hs2 hg
            · exact flatGood_mer a f mid sc lon lat north w hm hp hl hl2 hs hs2 hg
          | equ =>
            by_cases hg : 170000000000 < (if apartP lon mid < 0 then -apartP lon mid else apartP lon mid)
            · exact flatGood_8equ a f mid sc lon lat north w hm hp hl hl2 hs hs2 hg
            · exact flatGood_equ a f mid sc lon lat north w hm hp hl hl2 hs hs2 hg
          | pol =>
            by_cases hl3 : lat < 1000000000
            · exact flatGood_7 a f mid sc lon lat north w hm hp hl hl2 hs hs2 hl3
            by_cases hg : 170000000000 < (if apartP lon mid < 0 then -apartP lon mid else apartP lon mid)
            · exact flatGood_8pol a f mid sc lon lat north w hm hp hl hl2 hs hs2 hl3 hg
            · exact flatGood_pol a f mid sc lon lat north w hm hp hl hl2 hs hs2 hl3 hg
          | not _ _ _ => exact absurd rfl h3
    · exact flatGood_2 hK a f mid sc lon lat north w hm (by omega)
    · exact flatGood_2 hK a f mid sc lon lat north w hm (by omega)
/-- the list, as the row has it -/
abbrev laid3 : List (String × DataW Unit) := [("mercator/api.ErrShape", Rows.laid_mercator_api_ErrShape), ("mercator/api.ErrRange", Rows.laid_mercator_api_ErrRange), ("mercator/api.ErrName", Rows.laid_mercator_api_ErrName)]
/-- The door's own heap meets the list. -/
theorem door3 (os : Os) (args : Array Value) : laidMetH Tryd.prog laid3 ((World.doorLaid Tryd.prog 400 os).forCall (fun _ _ => 0) ⟨#[], args, []⟩).memory :=
  show laidMet Tryd.prog laid3 _ from laidMet_of_run' 8 (by kernel_rfl) (by kernel_rfl)
end Go.Proofs.YtddjppaccpioiaaDoor
