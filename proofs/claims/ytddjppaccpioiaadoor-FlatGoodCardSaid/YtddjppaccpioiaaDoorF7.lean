/- The walk of the statement FlatGood: where it promises nothing. Printed by gen_flatlaw.py. -/
import Derived.Test.YtddjppaccpioiaaDoorZO
namespace Go.Proofs.YtddjppaccpioiaaDoor
open Go.RowKit Go.Fp Go.Fp.Tri Go.Rel
set_option maxRecDepth 20000

set_option maxHeartbeats 4000000 in
theorem flatGood_1 (s : ByteArray) (a f : Nat) (mid : Int) (sc : Nat) (lon lat north : Int) (w : World) (hm : mildB a f = false) : Calls Tryd.prog 6 #[paperV a f s mid sc, placeW lon lat, .int .i64 north] w (ExR (.bool true) w) := by
  have HM := Lib.hid (mild_c a f)
  rw [hm] at HM
  go_enter Tryd.func6, Tryd.ntmps6
  go_wp2_with (first
    | (go_at_call 28; go_must (refine (drawn0_c (A := fun _ => ⟨0, 0, none⟩) _ ⟨⟩).mono ?_; rintro e w1 ⟨rfl, hx⟩; obtain ⟨hb1, hb2, hw⟩ := ext2 hx; have c1 := hb1.cell; have c2 := hb2.cell; clear hx))
    | (go_at_call 25; go_must (refine (HM.out _).mono ?_; rintro e w2 ⟨rfl, hx⟩; replace hb1 := hb1.ext hx; replace hb2 := hb2.ext hx; replace hw := hw.trans hx; clear hx c1 c2; have c1 := hb1.cell; have c2 := hb2.cell)))
  all_goals go_ret
  all_goals exact ⟨rfl, hw⟩
set_option maxHeartbeats 4000000 in
theorem flatGood_2 {s : ByteArray} {n : Nat} (hK : KindIs s n) (a f : Nat) (mid : Int) (sc : Nat) (lon lat north : Int) (w : World) (hm : mildB a f = true) (hp : 0 < papP (okG a f) n sc) : Calls Tryd.prog 6 #[paperV a f s mid sc, placeW lon lat, .int .i64 north] w (ExR (.bool true) w) := by
  have HM := Lib.hid (mild_c a f)
  rw [hm] at HM
  have HP := Lib.hid (fun w => paperError_c hK a f mid sc w)
  generalize papP (okG a f) n sc = k at *
  clear hK
  go_enter Tryd.func6, Tryd.ntmps6
  go_wp2_with (first
    | (go_at_call 28; go_must (refine (drawn0_c (A := fun _ => ⟨0, 0, none⟩) _ ⟨⟩).mono ?_; rintro e w1 ⟨rfl, hx⟩; obtain ⟨hb1, hb2, hw⟩ := ext2 hx; have c1 := hb1.cell; have c2 := hb2.cell; clear hx))
    | (go_at_call 25; go_must (refine (HM.out _).mono ?_; rintro e w2 ⟨rfl, hx⟩; replace hb1 := hb1.ext hx; replace hb2 := hb2.ext hx; replace hw := hw.trans hx; clear hx c1 c2; have c1 := hb1.cell; have c2 := hb2.cell))
    | (go_at_call 29; go_must (refine (HP.out _).mono ?_; rintro e w2 ⟨rfl, hx⟩; replace hb1 := hb1.ext hx; replace hb2 := hb2.ext hx; replace hw := hw.trans hx; clear hx c1 c2; have c1 := hb1.cell; have c2 := hb2.cell)))
  all_goals go_ret
  all_goals exact ⟨rfl, hw⟩
set_option maxHeartbeats 4000000 in
theorem flatGood_3 {s : ByteArray} {n : Nat} (hK : KindIs s n) (a f : Nat) (mid : Int) (sc : Nat) (lon lat north : Int) (w : World) (hm : mildB a f = true) (hp : papP (okG a f) n sc = 0) (hl : 85000000000 < lat) : Calls Tryd.prog 6 #[paperV a f s mid sc, placeW lon lat, .int .i64 north] w (ExR (.bool true) w) := by
  have HM := Lib.hid (mild_c a f)
  rw [hm] at HM
  have HP := Lib.hid (fun w => paperError_c hK a f mid sc w)
  rw [hp] at HP
  clear hK hp hm
  go_enter Tryd.func6, Tryd.ntmps6
  go_wp2_with (first
    | (go_at_call 28; go_must (refine (drawn0_c (A := fun _ => ⟨0, 0, none⟩) _ ⟨⟩).mono ?_; rintro e w1 ⟨rfl, hx⟩; obtain ⟨hb1, hb2, hw⟩ := ext2 hx; have c1 := hb1.cell; have c2 := hb2.cell; clear hx))
    | (go_at_call 25; go_must (refine (HM.out _).mono ?_; rintro e w2 ⟨rfl, hx⟩; replace hb1 := hb1.ext hx; replace hb2 := hb2.ext hx; replace hw := hw.trans hx; clear hx c1 c2; have c1 := hb1.cell; have c2 := hb2.cell))
    | (go_at_call 29; go_must (refine (HP.out _).mono ?_; rintro e w2 ⟨rfl, hx⟩; replace hb1 := hb1.ext hx; replace hb2 := hb2.ext hx; replace hw := hw.trans hx; clear hx c1 c2; have c1 := hb1.cell; have c2 := hb2.cell)))
  all_goals go_ret
  all_goals exact ⟨rfl, hw⟩
set_option maxHeartbeats 4000000 in
theorem flatGood_4 {s : ByteArray} {n : Nat} (hK : KindIs s n) (a f : Nat) (mid : Int) (sc : Nat) (lon lat north : Int) (w : World) (hm : mildB a f = true) (hp : papP (okG a f) n sc = 0) (hl : ¬ 85000000000 < lat) (hl2 : lat < -85000000000) : Calls Tryd.prog 6 #[paperV a f s mid sc, placeW lon lat, .int .i64 north] w (ExR (.bool true) w) := by
  have HM := Lib.hid (mild_c a f)
  rw [hm] at HM
  have HP := Lib.hid (fun w => paperError_c hK a f mid sc w)
  rw [hp] at HP
  clear hK hp hm
  go_enter Tryd.func6, Tryd.ntmps6
  go_wp2_with (first
    | (go_at_call 28; go_must (refine (drawn0_c (A := fun _ => ⟨0, 0, none⟩) _ ⟨⟩).mono ?_; rintro e w1 ⟨rfl, hx⟩; obtain ⟨hb1, hb2, hw⟩ := ext2 hx; have c1 := hb1.cell; have c2 := hb2.cell; clear hx))
    | (go_at_call 25; go_must (refine (HM.out _).mono ?_; rintro e w2 ⟨rfl, hx⟩; replace hb1 := hb1.ext hx; replace hb2 := hb2.ext hx; replace hw := hw.trans hx; clear hx c1 c2; have c1 := hb1.cell; have c2 := hb2.cell))
    | (go_at_call 29; go_must (refine (HP.out _).mono ?_; rintro e w2 ⟨rfl, hx⟩; replace hb1 := hb1.ext hx; replace hb2 := hb2.ext hx; replace hw := hw.trans hx; clear hx c1 c2; have c1 := hb1.cell; have c2 := hb2.cell)))
  all_goals go_ret
  all_goals exact ⟨rfl, hw⟩
set_option maxHeartbeats 4000000 in
theorem flatGood_5 {s : ByteArray} {n : Nat} (hK : KindIs s n) (a f : Nat) (mid : Int) (sc : Nat) (lon lat north : Int) (w : World) (hm : mildB a f = true) (hp : papP (okG a f) n sc = 0) (hl : ¬ 85000000000 < lat) (hl2 : ¬ lat < -85000000000) (hs : (FloatKind.f64.format.order sc cHalf == some .lt) = true) : Calls Tryd.prog 6 #[paperV a f s mid sc, placeW lon lat, .int .i64 north] w (ExR (.bool true) w) := by
  have HM := Lib.hid (mild_c a f)
  rw [hm] at HM
  have HP := Lib.hid (fun w => paperError_c hK a f mid sc w)
  rw [hp] at HP
  clear hK hp hm
  go_enter Tryd.func6, Tryd.ntmps6
  go_wp2_with (first
    | (go_at_call 28; go_must (refine (drawn0_c (A := fun _ => ⟨0, 0, none⟩) _ ⟨⟩).mono ?_; rintro e w1 ⟨rfl, hx⟩; obtain ⟨hb1, hb2, hw⟩ := ext2 hx; have c1 := hb1.cell; have c2 := hb2.cell; clear hx))
    | (go_at_call 25; go_must (refine (HM.out _).mono ?_; rintro e w2 ⟨rfl, hx⟩; replace hb1 := hb1.ext hx; replace hb2 := hb2.ext hx; replace hw := hw.trans hx; clear hx c1 c2; have c1 := hb1.cell; have c2 := hb2.cell))
    | (go_at_call 29; go_must (refine (HP.out _).mono ?_; rintro e w2 ⟨rfl, hx⟩; replace hb1 := hb1.ext hx; replace hb2 := hb2.ext hx; replace hw := hw.trans hx; clear hx c1 c2; have c1 := hb1.cell; have c2 := hb2.cell)))
  all_goals go_ret
  all_goals exact ⟨rfl, hw⟩
set_option maxHeartbeats 4000000 in
theorem flatGood_6 {s : ByteArray} {n : Nat} (hK : KindIs s n) (a f : Nat) (mid : Int) (sc : Nat) (lon lat north : Int) (w : World) (hm : mildB a f = true) (hp : papP (okG a f) n sc = 0) (hl : ¬ 85000000000 < lat) (hl2 : ¬ lat < -85000000000) (hs : (FloatKind.f64.format.order sc cHalf == some .lt) = false) (hs2 : (FloatKind.f64.format.order sc cTwoS == some .gt) = true) : Calls Tryd.prog 6 #[paperV a f s mid sc, placeW lon lat, .int .i64 north] w (ExR (.bool true) w) := by
  have HM := Lib.hid (mild_c a f)
  rw [hm] at HM
  have HP := Lib.hid (fun w => paperError_c hK a f mid sc w)
  rw [hp] at HP
  clear hK hp hm
  go_enter Tryd.func6, Tryd.ntmps6
  go_wp2_with (first
    | (go_at_call 28; go_must (refine (drawn0_c (A := fun _ => ⟨0, 0, none⟩) _ ⟨⟩).mono ?_; rintro e w1 ⟨rfl, hx⟩; obtain ⟨hb1, hb2, hw⟩ := ext2 hx; have c1 := hb1.cell; have c2 := hb2.cell; clear hx))
    | (go_at_call 25; go_must (refine (HM.out _).mono ?_; rintro e w2 ⟨rfl, hx⟩; replace hb1 := hb1.ext hx; replace hb2 := hb2.ext hx; replace hw := hw.trans hx; clear hx c1 c2; have c1 := hb1.cell; have c2 := hb2.cell))
    | (go_at_call 29; go_must (refine (HP.out _).mono ?_; rintro e w2 ⟨rfl, hx⟩; replace hb1 := hb1.ext hx; replace hb2 := hb2.ext hx; replace hw := hw.trans hx; clear hx c1 c2; have c1 := hb1.cell; have c2 := hb2.cell)))
  all_goals go_ret
  all_goals exact ⟨rfl, hw⟩
set_option maxHeartbeats 4000000 in
theorem flatGood_7 (a f : Nat) (mid : Int) (sc : Nat) (lon lat north : Int) (w : World) (hm : mildB a f = true) (hp : papP (okG a f) 2 sc = 0) (hl : ¬ 85000000000 < lat) (hl2 : ¬ lat < -85000000000) (hs : (FloatKind.f64.format.order sc cHalf == some .lt) = false) (hs2 : (FloatKind.f64.format.order sc cTwoS == some .gt) = false) (hl3 : lat < 1000000000) : Calls Tryd.prog 6 #[paperV a f sPol mid sc, placeW lon lat, .int .i64 north] w (ExR (.bool true) w) := by
  have HM := Lib.hid (mild_c a f)
  rw [hm] at HM
  have HP := Lib.hid (fun w => paperError_c KindIs.pol a f mid sc w)
  rw [hp] at HP
  clear hp hm
  go_enter Tryd.func6, Tryd.ntmps6
  go_wp2_with (first
    | (go_at_call 28; go_must (refine (drawn0_c (A := fun _ => ⟨0, 0, none⟩) _ ⟨⟩).mono ?_; rintro e w1 ⟨rfl, hx⟩; obtain ⟨hb1, hb2, hw⟩ := ext2 hx; have c1 := hb1.cell; have c2 := hb2.cell; clear hx))
    | (go_at_call 25; go_must (refine (HM.out _).mono ?_; rintro e w2 ⟨rfl, hx⟩; replace hb1 := hb1.ext hx; replace hb2 := hb2.ext hx; replace hw := hw.trans hx; clear hx c1 c2; have c1 := hb1.cell; have c2 := hb2.cell))
    | (go_at_call 29; go_must (refine (HP.out _).mono ?_; rintro e w2 ⟨rfl, hx⟩; replace hb1 := hb1.ext hx; replace hb2 := hb2.ext hx; replace hw := hw.trans hx; clear hx c1 c2; have c1 := hb1.cell; have c2 := hb2.cell)))
  all_goals go_ret
  all_goals exact ⟨rfl, hw⟩
set_option maxHeartbeats 4000000 in
theorem flatGood_8mer (a f : Nat) (mid : Int) (sc : Nat) (lon lat north : Int) (w : World) (hm : mildB a f = true) (hp : papP (okG a f) 0 sc = 0) (hl : ¬ 85000000000 < lat) (hl2 : ¬ lat < -85000000000) (hs : (FloatKind.f64.format.order sc cHalf == some .lt) = false) (hs2 : (FloatKind.f64.format.order sc cTwoS == some .gt) = false) (hg : 170000000000 < (if apartP lon mid < 0 then -apartP lon mid else apartP lon mid)) : Calls Tryd.prog 6 #[paperV a f sMer mid sc, placeW lon lat, .int .i64 north] w (ExR (.bool true) w) := by
  have HM := Lib.hid (mild_c a f)
  rw [hm] at HM
  have HP := Lib.hid (fun w => paperError_c KindIs.mer a f mid sc w)
  rw [hp] at HP
  have HX := Lib.hid (apart_c lon mid)
  generalize (if apartP lon mid < 0 then -apartP lon mid else apartP lon mid) = g at *
  clear hp hm
  go_enter Tryd.func6, Tryd.ntmps6
  go_wp2_with (first
    | (go_at_call 28; go_must (refine (drawn0_c (A := fun _ => ⟨0, 0, none⟩) _ ⟨⟩).mono ?_; rintro e w1 ⟨rfl, hx⟩; obtain ⟨hb1, hb2, hw⟩ := ext2 hx; have c1 := hb1.cell; have c2 := hb2.cell; clear hx))
    | (go_at_call 25; go_must (refine (HM.out _).mono ?_; rintro e w2 ⟨rfl, hx⟩; replace hb1 := hb1.ext hx; replace hb2 := hb2.ext hx; replace hw := hw.trans hx; clear hx c1 c2; have c1 := hb1.cell; have c2 := hb2.cell))
    | (go_at_call 29; go_must (refine (HP.out _).mono ?_; rintro e w2 ⟨rfl, hx⟩; replace hb1 := hb1.ext hx; replace hb2 := hb2.ext hx; replace hw := hw.trans hx; clear hx c1 c2; have c1 := hb1.cell; have c2 := hb2.cell))
    | (go_at_call 16; go_must (refine (HX.out _).mono ?_; rintro e wz ⟨rfl, hx⟩; replace hb1 := hb1.ext hx; replace hb2 := hb2.ext hx; replace hw := hw.trans hx; clear hx c1 c2; have c1 := hb1.cell; have c2 := hb2.cell)))
  all_goals go_ret
  all_goals exact ⟨rfl, hw⟩
set_option maxHeartbeats 4000000 in
theorem flatGood_8equ (a f : Nat) (mid : Int) (sc : Nat) (lon lat north : Int) (w : World) (hm : mildB a f = true) (hp : papP (okG a f) 1 sc = 0) (hl : ¬ 85000000000 < lat) (hl2 : ¬ lat < -85000000000) (hs : (FloatKind.f64.format.order sc cHalf == some .lt) = false) (hs2 : (FloatKind.f64.format.order sc cTwoS == some .gt) = false) (hg : 170000000000 < (if apartP lon mid < 0 then -apartP lon mid else apartP lon mid)) : Calls Tryd.prog 6 #[paperV a f sEqu mid sc, placeW lon lat, .int .i64 north] w (ExR (.bool true) w) := by
  have HM := Lib.hid (mild_c a f)
  rw [hm] at HM
  have HP := Lib.hid (fun w => paperError_c KindIs.equ a f mid sc w)
  rw [hp] at HP
  have HX := Lib.hid (apart_c lon mid)
  generalize (if apartP lon mid < 0 then -apartP lon mid else apartP lon mid) = g at *
  clear hp hm
  go_enter Tryd.func6, Tryd.ntmps6
  go_wp2_with (first
    | (go_at_call 28; go_must (refine (drawn0_c (A := fun _ => ⟨0, 0, none⟩) _ ⟨⟩).mono ?_; rintro e w1 ⟨rfl, hx⟩; obtain ⟨hb1, hb2, hw⟩ := ext2 hx; have c1 := hb1.cell; have c2 := hb2.cell; clear hx))
    | (go_at_call 25; go_must (refine (HM.out _).mono ?_; rintro e w2 ⟨rfl, hx⟩; replace hb1 := hb1.ext hx; replace hb2 := hb2.ext hx; replace hw := hw.trans hx; clear hx c1 c2; have c1 := hb1.cell; have c2 := hb2.cell))
    | (go_at_call 29; go_must (refine (HP.out _).mono ?_; rintro e w2 ⟨rfl, hx⟩; replace hb1 := hb1.ext hx; replace hb2 := hb2.ext hx; replace hw := hw.trans hx; clear hx c1 c2; have c1 := hb1.cell; have c2 := hb2.cell))
    | (go_at_call 16; go_must (refine (HX.out _).mono ?_; rintro e wz ⟨rfl, hx⟩; replace hb1 := hb1.ext hx; replace hb2 := hb2.ext hx; replace hw := hw.trans hx; clear hx c1 c2; have c1 := hb1.cell; have c2 := hb2.cell)))
  all_goals go_ret
  all_goals exact ⟨rfl, hw⟩
set_option maxHeartbeats 4000000 in
theorem flatGood_8pol (a f : Nat) (mid : Int) (sc : Nat) (lon lat north : Int) (w : World) (hm : mildB a f = true) (hp : papP (okG a f) 2 sc = 0) (hl : ¬ 85000000000 < lat) (hl2 : ¬ lat < -85000000000) (hs : (FloatKind.f64.format.order sc cHalf == some .lt) = false) (hs2 : (FloatKind.f64.format.order sc cTwoS == some .gt) = false) (hl3 : ¬ lat < 1000000000) (hg : 170000000000 < (if apartP lon mid < 0 then -apartP lon mid else apartP lon mid)) : Calls Tryd.prog 6 #[paperV a f sPol mid sc, placeW lon lat, .int .i64 north] w (ExR (.bool true) w) := by
  have HM := Lib.hid (mild_c a f)
  rw [hm] at HM
  have HP := Lib.hid (fun w => paperError_c KindIs.pol a f mid sc w)
  rw [hp] at HP
  have HX := Lib.hid (apart_c lon mid)
  generalize (if apartP lon mid < 0 then -apartP lon mid else apartP lon mid) = g at *
  clear hp hm
  go_enter Tryd.func6, Tryd.ntmps6
  go_wp2_with (first
    | (go_at_call 28; go_must (refine (drawn0_c (A := fun _ => ⟨0, 0, none⟩) _ ⟨⟩).mono ?_; rintro e w1 ⟨rfl, hx⟩; obtain ⟨hb1, hb2, hw⟩ := ext2 hx; have c1 := hb1.cell; have c2 := hb2.cell; clear hx))
    | (go_at_call 25; go_must (refine (HM.out _).mono ?_; rintro e w2 ⟨rfl, hx⟩; replace hb1 := hb1.ext hx; replace hb2 := hb2.ext hx; replace hw := hw.trans hx; clear hx c1 c2; have c1 := hb1.cell; have c2 := hb2.cell))
    | (go_at_call 29; go_must (refine (HP.out _).mono ?_; rintro e w2 ⟨rfl, hx⟩; replace hb1 := hb1.ext hx; replace hb2 := hb2.ext hx; replace hw := hw.trans hx; clear hx c1 c2; have c1 := hb1.cell; have c2 := hb2.cell))
    | (go_at_call 16; go_must (refine (HX.out _).mono ?_; rintro e wz ⟨rfl, hx⟩; replace hb1 := hb1.ext hx; replace hb2 := hb2.ext hx; replace hw := hw.trans hx; clear hx c1 c2; have c1 := hb1.cell; have c2 := hb2.cell)))
  all_goals go_ret
  all_goals exact ⟨rfl, hw⟩
end Go.Proofs.YtddjppaccpioiaaDoor
