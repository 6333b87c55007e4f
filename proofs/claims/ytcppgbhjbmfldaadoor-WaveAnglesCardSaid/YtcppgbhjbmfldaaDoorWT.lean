/- The walk of the statement WaveAngles: its early ends. Printed by gen_wawalk.py. -/
import Derived.Test.YtcppgbhjbmfldaaDoorWS
namespace Go.Proofs.YtcppgbhjbmfldaaDoor
open Go.RowKit Go.Fp Go.Fp.Tri Go.Rel
set_option maxRecDepth 20000
abbrev c6e6 : Nat := 4708200461918797824
abbrev c7e6 : Nat := 4709274203742797824
abbrev c004 : Nat := 4571261708172110332
def isB (a f : Nat) : Bool := fge a c6e6 && fle a c7e6 && fge f 0 && fle f c004
set_option maxHeartbeats 4000000 in
theorem wa_not1 (a f : Nat) (mid : Int) (sc : Nat) (lon lat : Int) (w : World) (G1 : (FloatKind.f64.format.order a c6e6 == some .gt || FloatKind.f64.format.order a c6e6 == some .eq) = false) : Calls Tryd.prog 4 #[stripV a f mid sc, placeU lon lat] w (ExR (.bool true) w) := by
  go_enter Tryd.func4, Tryd.ntmps4
  go_wp2_with (first
    | (go_at_call 12; go_must (refine (waved_c0 (A := fun _ => ⟨0, 0, none⟩) _ ⟨⟩).mono ?_; rintro e w1 ⟨rfl, hx⟩; obtain ⟨hb1, hb2, hw⟩ := ext2 hx; have c1 := hb1.cell; have c2 := hb2.cell; clear hx)))
  all_goals go_ret
  all_goals exact ⟨rfl, hw⟩
set_option maxHeartbeats 4000000 in
theorem wa_not2 (a f : Nat) (mid : Int) (sc : Nat) (lon lat : Int) (w : World) (G1 : (FloatKind.f64.format.order a c6e6 == some .gt || FloatKind.f64.format.order a c6e6 == some .eq) = true) (G2 : (FloatKind.f64.format.order a c7e6 == some .lt || FloatKind.f64.format.order a c7e6 == some .eq) = false) : Calls Tryd.prog 4 #[stripV a f mid sc, placeU lon lat] w (ExR (.bool true) w) := by
  go_enter Tryd.func4, Tryd.ntmps4
  go_wp2_with (first
    | (go_at_call 12; go_must (refine (waved_c0 (A := fun _ => ⟨0, 0, none⟩) _ ⟨⟩).mono ?_; rintro e w1 ⟨rfl, hx⟩; obtain ⟨hb1, hb2, hw⟩ := ext2 hx; have c1 := hb1.cell; have c2 := hb2.cell; clear hx)))
  all_goals go_ret
  all_goals exact ⟨rfl, hw⟩
set_option maxHeartbeats 4000000 in
theorem wa_not3 (a f : Nat) (mid : Int) (sc : Nat) (lon lat : Int) (w : World) (G1 : (FloatKind.f64.format.order a c6e6 == some .gt || FloatKind.f64.format.order a c6e6 == some .eq) = true) (G2 : (FloatKind.f64.format.order a c7e6 == some .lt || FloatKind.f64.format.order a c7e6 == some .eq) = true) (G3 : (FloatKind.f64.format.order f 0 == some .gt || FloatKind.f64.format.order f 0 == some .eq) = false) : Calls Tryd.prog 4 #[stripV a f mid sc, placeU lon lat] w (ExR (.bool true) w) := by
  go_enter Tryd.func4, Tryd.ntmps4
  go_wp2_with (first
    | (go_at_call 12; go_must (refine (waved_c0 (A := fun _ => ⟨0, 0, none⟩) _ ⟨⟩).mono ?_; rintro e w1 ⟨rfl, hx⟩; obtain ⟨hb1, hb2, hw⟩ := ext2 hx; have c1 := hb1.cell; have c2 := hb2.cell; clear hx)))
  all_goals go_ret
  all_goals exact ⟨rfl, hw⟩
set_option maxHeartbeats 4000000 in
theorem wa_not4 (a f : Nat) (mid : Int) (sc : Nat) (lon lat : Int) (w : World) (G1 : (FloatKind.f64.format.order a c6e6 == some .gt || FloatKind.f64.format.order a c6e6 == some .eq) = true) (G2 : (FloatKind.f64.format.order a c7e6 == some .lt || FloatKind.f64.format.order a c7e6 == some .eq) = true) (G3 : (FloatKind.f64.format.order f 0 == some .gt || FloatKind.f64.format.order f 0 == some .eq) = true) (G4 : (FloatKind.f64.format.order f c004 == some .lt || FloatKind.f64.format.order f c004 == some .eq) = false) : Calls Tryd.prog 4 #[stripV a f mid sc, placeU lon lat] w (ExR (.bool true) w) := by
  go_enter Tryd.func4, Tryd.ntmps4
  go_wp2_with (first
    | (go_at_call 12; go_must (refine (waved_c0 (A := fun _ => ⟨0, 0, none⟩) _ ⟨⟩).mono ?_; rintro e w1 ⟨rfl, hx⟩; obtain ⟨hb1, hb2, hw⟩ := ext2 hx; have c1 := hb1.cell; have c2 := hb2.cell; clear hx)))
  all_goals go_ret
  all_goals exact ⟨rfl, hw⟩
set_option maxHeartbeats 4000000 in
theorem wa_out1 (a f : Nat) (mid : Int) (sc : Nat) (lon lat : Int) (w : World) (G1 : (FloatKind.f64.format.order a c6e6 == some .gt || FloatKind.f64.format.order a c6e6 == some .eq) = true) (G2 : (FloatKind.f64.format.order a c7e6 == some .lt || FloatKind.f64.format.order a c7e6 == some .eq) = true) (G3 : (FloatKind.f64.format.order f 0 == some .gt || FloatKind.f64.format.order f 0 == some .eq) = true) (G4 : (FloatKind.f64.format.order f c004 == some .lt || FloatKind.f64.format.order f c004 == some .eq) = true) (hp : strP (okG a f) sc = 3) : Calls Tryd.prog 4 #[stripV a f mid sc, placeU lon lat] w (ExR (.bool true) w) := by
  have HP := Lib.hid (fun w => stripError_c a f mid sc w)
  rw [hp] at HP
  have HX := Lib.hid (apart_c lon mid)
  generalize (if apartP lon mid < 0 then -apartP lon mid else apartP lon mid) = g at *
  go_enter Tryd.func4, Tryd.ntmps4
  go_wp2_with (first
    | (go_at_call 12; go_must (refine (waved_c0 (A := fun _ => ⟨0, 0, none⟩) _ ⟨⟩).mono ?_; rintro e w1 ⟨rfl, hx⟩; obtain ⟨hb1, hb2, hw⟩ := ext2 hx; have c1 := hb1.cell; have c2 := hb2.cell; clear hx))
    | (go_at_call 13; go_must (refine (HP.out _).mono ?_; rintro e wz ⟨rfl, hx⟩; replace hb1 := hb1.ext hx; replace hb2 := hb2.ext hx; replace hw := hw.trans hx; clear hx c1 c2; have c1 := hb1.cell; have c2 := hb2.cell))
    | (go_at_call 14; go_must (refine (HX.out _).mono ?_; rintro e w2 ⟨rfl, hx⟩; replace hb1 := hb1.ext hx; replace hb2 := hb2.ext hx; replace hw := hw.trans hx; clear hx c1 c2; have c1 := hb1.cell; have c2 := hb2.cell)))
  all_goals go_ret
  all_goals exact ⟨rfl, hw⟩
set_option maxHeartbeats 4000000 in
theorem wa_out2 (a f : Nat) (mid : Int) (sc : Nat) (lon lat : Int) (w : World) (G1 : (FloatKind.f64.format.order a c6e6 == some .gt || FloatKind.f64.format.order a c6e6 == some .eq) = true) (G2 : (FloatKind.f64.format.order a c7e6 == some .lt || FloatKind.f64.format.order a c7e6 == some .eq) = true) (G3 : (FloatKind.f64.format.order f 0 == some .gt || FloatKind.f64.format.order f 0 == some .eq) = true) (G4 : (FloatKind.f64.format.order f c004 == some .lt || FloatKind.f64.format.order f c004 == some .eq) = true) (hp : strP (okG a f) sc = 0) (hl : 70000000000 < lat) : Calls Tryd.prog 4 #[stripV a f mid sc, placeU lon lat] w (ExR (.bool true) w) := by
  have HP := Lib.hid (fun w => stripError_c a f mid sc w)
  rw [hp] at HP
  have HX := Lib.hid (apart_c lon mid)
  generalize (if apartP lon mid < 0 then -apartP lon mid else apartP lon mid) = g at *
  go_enter Tryd.func4, Tryd.ntmps4
  go_wp2_with (first
    | (go_at_call 12; go_must (refine (waved_c0 (A := fun _ => ⟨0, 0, none⟩) _ ⟨⟩).mono ?_; rintro e w1 ⟨rfl, hx⟩; obtain ⟨hb1, hb2, hw⟩ := ext2 hx; have c1 := hb1.cell; have c2 := hb2.cell; clear hx))
    | (go_at_call 13; go_must (refine (HP.out _).mono ?_; rintro e wz ⟨rfl, hx⟩; replace hb1 := hb1.ext hx; replace hb2 := hb2.ext hx; replace hw := hw.trans hx; clear hx c1 c2; have c1 := hb1.cell; have c2 := hb2.cell))
    | (go_at_call 14; go_must (refine (HX.out _).mono ?_; rintro e w2 ⟨rfl, hx⟩; replace hb1 := hb1.ext hx; replace hb2 := hb2.ext hx; replace hw := hw.trans hx; clear hx c1 c2; have c1 := hb1.cell; have c2 := hb2.cell)))
  all_goals go_ret
  all_goals exact ⟨rfl, hw⟩
set_option maxHeartbeats 4000000 in
theorem wa_out3 (a f : Nat) (mid : Int) (sc : Nat) (lon lat : Int) (w : World) (G1 : (FloatKind.f64.format.order a c6e6 == some .gt || FloatKind.f64.format.order a c6e6 == some .eq) = true) (G2 : (FloatKind.f64.format.order a c7e6 == some .lt || FloatKind.f64.format.order a c7e6 == some .eq) = true) (G3 : (FloatKind.f64.format.order f 0 == some .gt || FloatKind.f64.format.order f 0 == some .eq) = true) (G4 : (FloatKind.f64.format.order f c004 == some .lt || FloatKind.f64.format.order f c004 == some .eq) = true) (hp : strP (okG a f) sc = 0) (hl : ¬ 70000000000 < lat) (hl2 : lat < -70000000000) : Calls Tryd.prog 4 #[stripV a f mid sc, placeU lon lat] w (ExR (.bool true) w) := by
  have HP := Lib.hid (fun w => stripError_c a f mid sc w)
  rw [hp] at HP
  have HX := Lib.hid (apart_c lon mid)
  generalize (if apartP lon mid < 0 then -apartP lon mid else apartP lon mid) = g at *
  go_enter Tryd.func4, Tryd.ntmps4
  go_wp2_with (first
    | (go_at_call 12; go_must (refine (waved_c0 (A := fun _ => ⟨0, 0, none⟩) _ ⟨⟩).mono ?_; rintro e w1 ⟨rfl, hx⟩; obtain ⟨hb1, hb2, hw⟩ := ext2 hx; have c1 := hb1.cell; have c2 := hb2.cell; clear hx))
    | (go_at_call 13; go_must (refine (HP.out _).mono ?_; rintro e wz ⟨rfl, hx⟩; replace hb1 := hb1.ext hx; replace hb2 := hb2.ext hx; replace hw := hw.trans hx; clear hx c1 c2; have c1 := hb1.cell; have c2 := hb2.cell))
    | (go_at_call 14; go_must (refine (HX.out _).mono ?_; rintro e w2 ⟨rfl, hx⟩; replace hb1 := hb1.ext hx; replace hb2 := hb2.ext hx; replace hw := hw.trans hx; clear hx c1 c2; have c1 := hb1.cell; have c2 := hb2.cell)))
  all_goals go_ret
  all_goals exact ⟨rfl, hw⟩
set_option maxHeartbeats 4000000 in
theorem wa_out4 (a f : Nat) (mid : Int) (sc : Nat) (lon lat : Int) (w : World) (G1 : (FloatKind.f64.format.order a c6e6 == some .gt || FloatKind.f64.format.order a c6e6 == some .eq) = true) (G2 : (FloatKind.f64.format.order a c7e6 == some .lt || FloatKind.f64.format.order a c7e6 == some .eq) = true) (G3 : (FloatKind.f64.format.order f 0 == some .gt || FloatKind.f64.format.order f 0 == some .eq) = true) (G4 : (FloatKind.f64.format.order f c004 == some .lt || FloatKind.f64.format.order f c004 == some .eq) = true) (hp : strP (okG a f) sc = 0) (hl : ¬ 70000000000 < lat) (hl2 : ¬ lat < -70000000000) (hg : 6000000000 < (if apartP lon mid < 0 then -apartP lon mid else apartP lon mid)) : Calls Tryd.prog 4 #[stripV a f mid sc, placeU lon lat] w (ExR (.bool true) w) := by
  have HP := Lib.hid (fun w => stripError_c a f mid sc w)
  rw [hp] at HP
  have HX := Lib.hid (apart_c lon mid)
  generalize (if apartP lon mid < 0 then -apartP lon mid else apartP lon mid) = g at *
  go_enter Tryd.func4, Tryd.ntmps4
  go_wp2_with (first
    | (go_at_call 12; go_must (refine (waved_c0 (A := fun _ => ⟨0, 0, none⟩) _ ⟨⟩).mono ?_; rintro e w1 ⟨rfl, hx⟩; obtain ⟨hb1, hb2, hw⟩ := ext2 hx; have c1 := hb1.cell; have c2 := hb2.cell; clear hx))
    | (go_at_call 13; go_must (refine (HP.out _).mono ?_; rintro e wz ⟨rfl, hx⟩; replace hb1 := hb1.ext hx; replace hb2 := hb2.ext hx; replace hw := hw.trans hx; clear hx c1 c2; have c1 := hb1.cell; have c2 := hb2.cell))
    | (go_at_call 14; go_must (refine (HX.out _).mono ?_; rintro e w2 ⟨rfl, hx⟩; replace hb1 := hb1.ext hx; replace hb2 := hb2.ext hx; replace hw := hw.trans hx; clear hx c1 c2; have c1 := hb1.cell; have c2 := hb2.cell)))
  all_goals go_ret
  all_goals exact ⟨rfl, hw⟩
end Go.Proofs.YtcppgbhjbmfldaaDoor
