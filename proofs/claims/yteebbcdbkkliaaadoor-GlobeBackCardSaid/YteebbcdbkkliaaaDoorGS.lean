/- The walk of the statement GlobeBack: where it promises nothing; joined. -/
import Derived.Test.YteebbcdbkkliaaaDoorGR
namespace Go.Proofs.YteebbcdbkkliaaaDoor
open Go.RowKit Go.Fp Go.Fp.Tri Go.Rel
set_option maxRecDepth 20000

set_option maxHeartbeats 4000000 in
theorem back_out1 (a f : Nat) (lon lat : Int) (high : Nat) (w : World) (b1 : fge a c1e6 = false) : Calls Tryd.prog 3 #[globeV a f, placeV lon lat, .float .f64 high] w (ExR (.bool true) w) := by
  have G1 : (FloatKind.f64.format.order a c1e6 == some .gt || FloatKind.f64.format.order a c1e6 == some .eq) = false := b1
  clear b1
  go_enter Tryd.func3, Tryd.ntmps3
  go_wp2_with (first
    | (go_at_call 5; go_must (refine (round0_c _).mono ?_; rintro e w1 ⟨rfl, hx1⟩; obtain ⟨g1, g2, hw⟩ := ext2 hx1; clear hx1; have k1 := g1.cell; have k2 := g2.cell)))
  all_goals go_ret
  all_goals exact ⟨rfl, hw⟩
set_option maxHeartbeats 4000000 in
theorem back_out2 (a f : Nat) (lon lat : Int) (high : Nat) (w : World) (b1 : fge a c1e6 = true) (b2 : fle a c1e7 = false) : Calls Tryd.prog 3 #[globeV a f, placeV lon lat, .float .f64 high] w (ExR (.bool true) w) := by
  have G1 : (FloatKind.f64.format.order a c1e6 == some .gt || FloatKind.f64.format.order a c1e6 == some .eq) = true := b1
  have G2 : (FloatKind.f64.format.order a c1e7 == some .lt || FloatKind.f64.format.order a c1e7 == some .eq) = false := b2
  clear b1 b2
  go_enter Tryd.func3, Tryd.ntmps3
  go_wp2_with (first
    | (go_at_call 5; go_must (refine (round0_c _).mono ?_; rintro e w1 ⟨rfl, hx1⟩; obtain ⟨g1, g2, hw⟩ := ext2 hx1; clear hx1; have k1 := g1.cell; have k2 := g2.cell)))
  all_goals go_ret
  all_goals exact ⟨rfl, hw⟩
set_option maxHeartbeats 4000000 in
theorem back_out3 (a f : Nat) (lon lat : Int) (high : Nat) (w : World) (b1 : fge a c1e6 = true) (b2 : fle a c1e7 = true) (b3 : fge f 0 = false) : Calls Tryd.prog 3 #[globeV a f, placeV lon lat, .float .f64 high] w (ExR (.bool true) w) := by
  have G1 : (FloatKind.f64.format.order a c1e6 == some .gt || FloatKind.f64.format.order a c1e6 == some .eq) = true := b1
  have G2 : (FloatKind.f64.format.order a c1e7 == some .lt || FloatKind.f64.format.order a c1e7 == some .eq) = true := b2
  have G3 : (FloatKind.f64.format.order f 0 == some .gt || FloatKind.f64.format.order f 0 == some .eq) = false := b3
  clear b1 b2 b3
  go_enter Tryd.func3, Tryd.ntmps3
  go_wp2_with (first
    | (go_at_call 5; go_must (refine (round0_c _).mono ?_; rintro e w1 ⟨rfl, hx1⟩; obtain ⟨g1, g2, hw⟩ := ext2 hx1; clear hx1; have k1 := g1.cell; have k2 := g2.cell)))
  all_goals go_ret
  all_goals exact ⟨rfl, hw⟩
set_option maxHeartbeats 4000000 in
theorem back_out4 (a f : Nat) (lon lat : Int) (high : Nat) (w : World) (b1 : fge a c1e6 = true) (b2 : fle a c1e7 = true) (b3 : fge f 0 = true) (b4 : fle f c01 = false) : Calls Tryd.prog 3 #[globeV a f, placeV lon lat, .float .f64 high] w (ExR (.bool true) w) := by
  have G1 : (FloatKind.f64.format.order a c1e6 == some .gt || FloatKind.f64.format.order a c1e6 == some .eq) = true := b1
  have G2 : (FloatKind.f64.format.order a c1e7 == some .lt || FloatKind.f64.format.order a c1e7 == some .eq) = true := b2
  have G3 : (FloatKind.f64.format.order f 0 == some .gt || FloatKind.f64.format.order f 0 == some .eq) = true := b3
  have G4 : (FloatKind.f64.format.order f c01 == some .lt || FloatKind.f64.format.order f c01 == some .eq) = false := b4
  clear b1 b2 b3 b4
  go_enter Tryd.func3, Tryd.ntmps3
  go_wp2_with (first
    | (go_at_call 5; go_must (refine (round0_c _).mono ?_; rintro e w1 ⟨rfl, hx1⟩; obtain ⟨g1, g2, hw⟩ := ext2 hx1; clear hx1; have k1 := g1.cell; have k2 := g2.cell)))
  all_goals go_ret
  all_goals exact ⟨rfl, hw⟩
set_option maxHeartbeats 4000000 in
theorem back_out5 (a f : Nat) (lon lat : Int) (high : Nat) (w : World) (b1 : fge a c1e6 = true) (b2 : fle a c1e7 = true) (b3 : fge f 0 = true) (b4 : fle f c01 = true) (b5 : fge high m1e4 = false) : Calls Tryd.prog 3 #[globeV a f, placeV lon lat, .float .f64 high] w (ExR (.bool true) w) := by
  have G1 : (FloatKind.f64.format.order a c1e6 == some .gt || FloatKind.f64.format.order a c1e6 == some .eq) = true := b1
  have G2 : (FloatKind.f64.format.order a c1e7 == some .lt || FloatKind.f64.format.order a c1e7 == some .eq) = true := b2
  have G3 : (FloatKind.f64.format.order f 0 == some .gt || FloatKind.f64.format.order f 0 == some .eq) = true := b3
  have G4 : (FloatKind.f64.format.order f c01 == some .lt || FloatKind.f64.format.order f c01 == some .eq) = true := b4
  have G5 : (FloatKind.f64.format.order high m1e4 == some .gt || FloatKind.f64.format.order high m1e4 == some .eq) = false := b5
  clear b1 b2 b3 b4 b5
  go_enter Tryd.func3, Tryd.ntmps3
  go_wp2_with (first
    | (go_at_call 5; go_must (refine (round0_c _).mono ?_; rintro e w1 ⟨rfl, hx1⟩; obtain ⟨g1, g2, hw⟩ := ext2 hx1; clear hx1; have k1 := g1.cell; have k2 := g2.cell)))
  all_goals go_ret
  all_goals exact ⟨rfl, hw⟩
set_option maxHeartbeats 4000000 in
theorem back_out6 (a f : Nat) (lon lat : Int) (high : Nat) (w : World) (b1 : fge a c1e6 = true) (b2 : fle a c1e7 = true) (b3 : fge f 0 = true) (b4 : fle f c01 = true) (b5 : fge high m1e4 = true) (b6 : fle high c1e6 = false) : Calls Tryd.prog 3 #[globeV a f, placeV lon lat, .float .f64 high] w (ExR (.bool true) w) := by
  have G1 : (FloatKind.f64.format.order a c1e6 == some .gt || FloatKind.f64.format.order a c1e6 == some .eq) = true := b1
  have G2 : (FloatKind.f64.format.order a c1e7 == some .lt || FloatKind.f64.format.order a c1e7 == some .eq) = true := b2
  have G3 : (FloatKind.f64.format.order f 0 == some .gt || FloatKind.f64.format.order f 0 == some .eq) = true := b3
  have G4 : (FloatKind.f64.format.order f c01 == some .lt || FloatKind.f64.format.order f c01 == some .eq) = true := b4
  have G5 : (FloatKind.f64.format.order high m1e4 == some .gt || FloatKind.f64.format.order high m1e4 == some .eq) = true := b5
  have G6 : (FloatKind.f64.format.order high c1e6 == some .lt || FloatKind.f64.format.order high c1e6 == some .eq) = false := b6
  clear b1 b2 b3 b4 b5 b6
  go_enter Tryd.func3, Tryd.ntmps3
  go_wp2_with (first
    | (go_at_call 5; go_must (refine (round0_c _).mono ?_; rintro e w1 ⟨rfl, hx1⟩; obtain ⟨g1, g2, hw⟩ := ext2 hx1; clear hx1; have k1 := g1.cell; have k2 := g2.cell)))
  all_goals go_ret
  all_goals exact ⟨rfl, hw⟩
set_option maxHeartbeats 4000000 in
theorem back_out7 (a f : Nat) (lon lat : Int) (high : Nat) (w : World) (b1 : fge a c1e6 = true) (b2 : fle a c1e7 = true) (b3 : fge f 0 = true) (b4 : fle f c01 = true) (b5 : fge high m1e4 = true) (b6 : fle high c1e6 = true) (h : 89000000000 < lat) : Calls Tryd.prog 3 #[globeV a f, placeV lon lat, .float .f64 high] w (ExR (.bool true) w) := by
  have G1 : (FloatKind.f64.format.order a c1e6 == some .gt || FloatKind.f64.format.order a c1e6 == some .eq) = true := b1
  have G2 : (FloatKind.f64.format.order a c1e7 == some .lt || FloatKind.f64.format.order a c1e7 == some .eq) = true := b2
  have G3 : (FloatKind.f64.format.order f 0 == some .gt || FloatKind.f64.format.order f 0 == some .eq) = true := b3
  have G4 : (FloatKind.f64.format.order f c01 == some .lt || FloatKind.f64.format.order f c01 == some .eq) = true := b4
  have G5 : (FloatKind.f64.format.order high m1e4 == some .gt || FloatKind.f64.format.order high m1e4 == some .eq) = true := b5
  have G6 : (FloatKind.f64.format.order high c1e6 == some .lt || FloatKind.f64.format.order high c1e6 == some .eq) = true := b6
  clear b1 b2 b3 b4 b5 b6
  go_enter Tryd.func3, Tryd.ntmps3
  go_wp2_with (first
    | (go_at_call 5; go_must (refine (round0_c _).mono ?_; rintro e w1 ⟨rfl, hx1⟩; obtain ⟨g1, g2, hw⟩ := ext2 hx1; clear hx1; have k1 := g1.cell; have k2 := g2.cell)))
  all_goals go_ret
  all_goals exact ⟨rfl, hw⟩
set_option maxHeartbeats 4000000 in
theorem back_out8 (a f : Nat) (lon lat : Int) (high : Nat) (w : World) (b1 : fge a c1e6 = true) (b2 : fle a c1e7 = true) (b3 : fge f 0 = true) (b4 : fle f c01 = true) (b5 : fge high m1e4 = true) (b6 : fle high c1e6 = true) (h0 : ¬ 89000000000 < lat) (h : lat < -89000000000) : Calls Tryd.prog 3 #[globeV a f, placeV lon lat, .float .f64 high] w (ExR (.bool true) w) := by
  have G1 : (FloatKind.f64.format.order a c1e6 == some .gt || FloatKind.f64.format.order a c1e6 == some .eq) = true := b1
  have G2 : (FloatKind.f64.format.order a c1e7 == some .lt || FloatKind.f64.format.order a c1e7 == some .eq) = true := b2
  have G3 : (FloatKind.f64.format.order f 0 == some .gt || FloatKind.f64.format.order f 0 == some .eq) = true := b3
  have G4 : (FloatKind.f64.format.order f c01 == some .lt || FloatKind.f64.format.order f c01 == some .eq) = true := b4
  have G5 : (FloatKind.f64.format.order high m1e4 == some .gt || FloatKind.f64.format.order high m1e4 == some .eq) = true := b5
  have G6 : (FloatKind.f64.format.order high c1e6 == some .lt || FloatKind.f64.format.order high c1e6 == some .eq) = true := b6
  clear b1 b2 b3 b4 b5 b6
  go_enter Tryd.func3, Tryd.ntmps3
  go_wp2_with (first
    | (go_at_call 5; go_must (refine (round0_c _).mono ?_; rintro e w1 ⟨rfl, hx1⟩; obtain ⟨g1, g2, hw⟩ := ext2 hx1; clear hx1; have k1 := g1.cell; have k2 := g2.cell)))
  all_goals go_ret
  all_goals exact ⟨rfl, hw⟩
theorem globeBack_walk (a f : Nat) (lon lat : Int) (high : Nat) (w : World) : Calls Tryd.prog 3 #[globeV a f, placeV lon lat, .float .f64 high] w (ExR (.bool true) w) := by
  cases b1 : fge a c1e6 with
  | false => exact back_out1 a f lon lat high w b1
  | true =>
  cases b2 : fle a c1e7 with
  | false => exact back_out2 a f lon lat high w b1 b2
  | true =>
  cases b3 : fge f 0 with
  | false => exact back_out3 a f lon lat high w b1 b2 b3
  | true =>
  cases b4 : fle f c01 with
  | false => exact back_out4 a f lon lat high w b1 b2 b3 b4
  | true =>
  cases b5 : fge high m1e4 with
  | false => exact back_out5 a f lon lat high w b1 b2 b3 b4 b5
  | true =>
  cases b6 : fle high c1e6 with
  | false => exact back_out6 a f lon lat high w b1 b2 b3 b4 b5 b6
  | true =>
  rcases Int.lt_or_le 89000000000 lat with h | h
  · exact back_out7 a f lon lat high w b1 b2 b3 b4 b5 b6 h
  · rcases Int.lt_or_le lat (-89000000000) with h' | h'
    · exact back_out8 a f lon lat high w b1 b2 b3 b4 b5 b6 (by omega) h'
    · exact globeBack_in a f lon lat high w b1 b2 b3 b4 b5 b6 h' h
end Go.Proofs.YteebbcdbkkliaaaDoor
