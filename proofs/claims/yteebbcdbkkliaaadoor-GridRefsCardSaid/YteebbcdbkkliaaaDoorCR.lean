/- The walk of the statement GridRefs: the zone is none. -/
import Derived.Test.YteebbcdbkkliaaaDoorCK
namespace Go.Proofs.YteebbcdbkkliaaaDoor
open Go.RowKit Go.Fp Go.Rel Go.Lib
set_option maxRecDepth 20000

set_option maxHeartbeats 8000000 in
theorem gr_hi_0_0 {A : Nat → Addr} (lon zone z : Int) (s : Bool) (e n : Int) (T : ByteArray) (many : Int) (S Q : ByteArray) (z2 : Int) (s2 : Bool) (e2 n2 k o : Int) (hsm : T.size ≤ 200) (hz : 60 < zone) (w : World) (hW : WorldG A w) (hT : TextG A w) (h8 : World8 A w)
    (HTx : Hid (∀ w, WorldG A w → Calls Tryd.prog 18 #[refV z s e n] w (ExR (.tuple #[.string S, .nilIface]) w)))
    (HRT : Hid (∀ w, Calls Tryd.prog 19 #[refV z s e n] w (ExR (.tuple #[.string S, .int .i64 0]) w)))
    (HVa : Hid (∀ w, WorldG A w → Calls Tryd.prog 20 #[refV z s e n] w (ExR .nilIface w)))
    (HRd : Hid (∀ w, WorldG A w → TextG A w → Calls Tryd.prog 21 #[.string T] w (RdR A (refV z2 s2 e2 n2) k o w)))
    (HRo : Hid (∀ w, Calls Tryd.prog 22 #[.string T] w (ExR (.tuple #[refV z2 s2 e2 n2, faultW k o]) w)))
    (HSq : Hid (∀ w, WorldG A w → Calls Tryd.prog 24 #[refV z s e n, .int .i64 many] w (ExR (.tuple #[.string Q, .nilIface]) w)))
    (HSt : Hid (∀ w, Calls Tryd.prog 25 #[refV z s e n, .int .i64 many] w (ExR (.tuple #[.string Q, .int .i64 0]) w)))
    (HIn : Hid (∀ w, WorldG A w → Calls Tryd.prog 26 #[refV z s e n, .string Q] w (ExR (.bool true) w)))
    (HRp : Hid (∀ w, WorldG A w → TextG A w → Calls Tryd.prog 21 #[.string S] w (ExR (.tuple #[refV z s e n, .nilIface]) w)))
    : Calls Tryd.prog 4 #[.int .i64 lon, .int .i64 zone, refV z s e n, .string T, .int .i64 many] w (ExR (.bool true) w) := by
  have HZa := Lib.hid (zone_c lon)
  have HZb := Lib.hid (zoneOf_c lon)
  generalize zoneP lon = zl at *
  have e1 : ¬ (200 : Int) < (T.size : Int) := by omega
  clear hsm
  have HMi : Hid (∀ w, WorldG A w → Calls Tryd.prog 13 #[.int .i64 zone] w (ExR (.tuple #[.int .i64 0, errV (A 0)]) w)) := Lib.hid (fun w hW => middle_bad zone (by omega) w hW)
  have hz0 : ¬ zone < 1 := by omega
  have tk0 : Hid True := trivial
  go_enter Tryd.func4, Tryd.ntmps4
  go_wp2_with (first
    | (go_at_call 12; go_must (refine (zoned_c _).mono ?_; rintro e w1 ⟨rfl, hx⟩; obtain ⟨hb1, hw⟩ := ext1 hx; clear hx; have c1 := hb1.cell))
    | (go_at_call 13; go_must (refine (HMi.out _ (hW.ext hw)).mono ?_; rintro e w2 ⟨rfl, hx⟩; replace hw := hw.trans hx; replace hb1 := hb1.ext hx; clear hx c1; have c1 := hb1.cell))
    | (go_at_call 14; clear tk0; go_must (refine (coded_c (h8.ext hw) .range _).mono ?_; rintro e w3 ⟨rfl, hx⟩; replace hw := hw.trans hx; replace hb1 := hb1.ext hx; clear hx c1; have c1 := hb1.cell))
    | (go_at_call 14; go_must (refine (coded_c (h8.ext hw) .nil _).mono ?_; rintro e w3 ⟨rfl, hx⟩; replace hw := hw.trans hx; replace hb1 := hb1.ext hx; clear hx c1; have c1 := hb1.cell))
    | (go_at_call 15; go_must (refine (HZa.out _).mono ?_; rintro e w4 ⟨rfl, hx⟩; replace hw := hw.trans hx; replace hb1 := hb1.ext hx; clear hx c1; have c1 := hb1.cell))
    | (go_at_call 16; go_must (refine (HZb.out _).mono ?_; rintro e w5 ⟨rfl, hx⟩; replace hw := hw.trans hx; replace hb1 := hb1.ext hx; clear hx c1; have c1 := hb1.cell))
    | (go_at_call 17; go_must (refine (gref_c _ _ _ _ _).mono ?_; rintro e w6 ⟨rfl, hx⟩; replace hw := hw.trans hx; replace hb1 := hb1.ext hx; clear hx c1; have c1 := hb1.cell))
    | (go_at_call 18; go_must (refine (HTx.out _ (hW.ext hw)).mono ?_; rintro e w7 ⟨rfl, hx⟩; replace hw := hw.trans hx; replace hb1 := hb1.ext hx; clear hx c1; have c1 := hb1.cell))
    | (go_at_call 19; go_must (refine (HRT.out _).mono ?_; rintro e w8 ⟨rfl, hx⟩; replace hw := hw.trans hx; replace hb1 := hb1.ext hx; clear hx c1; have c1 := hb1.cell))
    | (go_at_call 20; go_must (refine (HVa.out _ (hW.ext hw)).mono ?_; rintro e w9 ⟨rfl, hx⟩; replace hw := hw.trans hx; replace hb1 := hb1.ext hx; clear hx c1; have c1 := hb1.cell))
    | (go_at_call 21; go_must (refine (HRd.out _ (hW.ext hw) (hT.ext' hw)).mono ?_; rintro e w10 ⟨v, rfl, hv, hx⟩; replace hw := hw.trans hx; replace hb1 := hb1.ext hx; clear hx c1; have c1 := hb1.cell; have hsz := hw.size; have hlt := hb1.lt))
    | (go_at_call 22; go_must (refine (HRo.out _).mono ?_; rintro e w11 ⟨rfl, hx⟩; obtain ⟨hb2, hx⟩ := ext1 hx; replace hv := hv.ext hx; replace hw := hw.trans hx; replace hb1 := hb1.ext hx; clear hx c1; have c1 := hb1.cell; have c2 := hb2.cell))
    | (go_at_call 23; go_must (refine (faulted_c (h8.ext ((hw.alloc _).alloc _)) (hv.ext (((Ext.refl _).alloc _).alloc _))).mono ?_; rintro e w12 ⟨rfl, hx⟩; obtain ⟨hb3, hb4, hx⟩ := ext2 hx; replace hw := hw.trans hx; replace hb1 := hb1.ext hx; replace hb2 := hb2.ext hx; clear hx c1 c2; have c1 := hb1.cell; have c2 := hb2.cell)))
  clear c1 c2 hb4 HTx HRT HVa HRd HRo HZa HZb hv
  refine wp_region_all (fun g args v => g = 17 ∧ args = #[refV z2 s2 e2 n2] ∧ v = refV z2 s2 e2 n2) (by kernel_rfl) (by kernel_rfl) ?_
  repeat (first
    | (refine wpR_op rfl (fun w1 hw K hK => ?_); go_simp; refine hK _ ?_; clear hK K hw w1)
    | (refine wpR_want rfl (fun w6 hw9 K hK => ?_); have k1 := (hb2.ext hw9.of_drew).cell; have k2 := (hb3.ext hw9.of_drew).cell; go_simp; refine hK _ ?_; clear hK K k1 k2 hw9 w6)
    | (refine wpR_want rfl (fun w6 hw9 K hK => ?_); go_simp; refine rel_call (ExR.call (gref_c _ _ _ _ _)) (fun v => ?_) (fun v hv => ?_); (simp); subst hv; refine hK _ ?_; clear hK K hw9 w6))
  refine wpR_nil ?_
  intro w13 hx13 _
  have hx := hx13.of_drew
  clear hx13
  replace hw := hw.trans hx
  replace hb1 := hb1.ext hx
  replace hb2 := hb2.ext hx
  clear hb3 hx
  have c1 := hb1.cell
  have c2 := hb2.cell
  go_wp2_with (first
    | (go_at_call 17; go_must (refine (gref_c _ _ _ _ _).mono ?_; rintro e w6 ⟨rfl, hx⟩; replace hw := hw.trans hx; replace hb1 := hb1.ext hx; replace hb2 := hb2.ext hx; clear hx c1 c2; have c1 := hb1.cell; have c2 := hb2.cell))
    | (go_at_call 14; go_must (refine (coded_c (h8.ext hw) .nil _).mono ?_; rintro e w3 ⟨rfl, hx⟩; replace hw := hw.trans hx; replace hb1 := hb1.ext hx; replace hb2 := hb2.ext hx; clear hx c1 c2; have c1 := hb1.cell; have c2 := hb2.cell))
    | (go_at_call 24; go_must (refine (HSq.out _ (hW.ext hw)).mono ?_; rintro e w14 ⟨rfl, hx⟩; replace hw := hw.trans hx; replace hb1 := hb1.ext hx; replace hb2 := hb2.ext hx; clear hx c1 c2; have c1 := hb1.cell; have c2 := hb2.cell))
    | (go_at_call 25; go_must (refine (HSt.out _).mono ?_; rintro e w15 ⟨rfl, hx⟩; replace hw := hw.trans hx; replace hb1 := hb1.ext hx; replace hb2 := hb2.ext hx; clear hx c1 c2; have c1 := hb1.cell; have c2 := hb2.cell))
    | (go_at_call 26; go_must (refine (HIn.out _ (hW.ext hw)).mono ?_; rintro e w16 ⟨rfl, hx⟩; replace hw := hw.trans hx; replace hb1 := hb1.ext hx; replace hb2 := hb2.ext hx; clear hx c1 c2; have c1 := hb1.cell; have c2 := hb2.cell))
    | (go_at_call 21; go_must (refine (HRp.out _ (hW.ext hw) (hT.ext' hw)).mono ?_; rintro e w17 ⟨rfl, hx⟩; replace hw := hw.trans hx; replace hb1 := hb1.ext hx; replace hb2 := hb2.ext hx; clear hx c1 c2; have c1 := hb1.cell; have c2 := hb2.cell))
    | (refine wpList_own rfl 49 _ _ rfl _ _ rfl rfl _ _ hb2 (by kernel_rfl) rfl (by simp [Value.oneCell']) ?_; intro w18 hb5 hk5 ho5; replace hw : Ext w w18 := hk5 _ hw hsz; replace hb1 := hb1.other ho5 (Nat.ne_of_lt hlt); clear c1 c2 hb2 hk5 ho5))
  refine wp_region_all (fun g args v => g = 17 ∧ args = #[refV z s e n] ∧ v = refV z s e n) (by kernel_rfl) (by kernel_rfl) ?_
  repeat (first
    | (refine wpR_op rfl (fun w1 hw K hK => ?_); go_simp; refine hK _ ?_; clear hK K hw w1)
    | (refine wpR_want rfl (fun w6 hw9 K hK => ?_); have k1 := (hb1.ext hw9.of_drew).cell; have k2 := (hb5.ext hw9.of_drew).cell; go_simp; refine hK _ ?_; clear hK K k1 k2 hw9 w6)
    | (refine wpR_want rfl (fun w6 hw9 K hK => ?_); go_simp; refine rel_call (ExR.call (gref_c _ _ _ _ _)) (fun v => ?_) (fun v hv => ?_); (simp); subst hv; refine hK _ ?_; clear hK K hw9 w6))
  refine wpR_nil ?_
  intro w13 hx13 _
  have hx := hx13.of_drew
  clear hx13
  replace hw := hw.trans hx
  clear hb1 hb5
  go_wp2_with fail
  go_ret
  exact ⟨rfl, hw⟩
set_option maxHeartbeats 8000000 in
theorem gr_hi_0_3 {A : Nat → Addr} (lon zone z : Int) (s : Bool) (e n : Int) (T : ByteArray) (many : Int) (S Q : ByteArray) (z2 : Int) (s2 : Bool) (e2 n2 k o : Int) (hsm : T.size ≤ 200) (hz : 60 < zone) (w : World) (hW : WorldG A w) (hT : TextG A w) (h8 : World8 A w)
    (HTx : Hid (∀ w, WorldG A w → Calls Tryd.prog 18 #[refV z s e n] w (ExR (.tuple #[.string S, .nilIface]) w)))
    (HRT : Hid (∀ w, Calls Tryd.prog 19 #[refV z s e n] w (ExR (.tuple #[.string S, .int .i64 0]) w)))
    (HVa : Hid (∀ w, WorldG A w → Calls Tryd.prog 20 #[refV z s e n] w (ExR .nilIface w)))
    (HRd : Hid (∀ w, WorldG A w → TextG A w → Calls Tryd.prog 21 #[.string T] w (RdR A (refV z2 s2 e2 n2) k o w)))
    (HRo : Hid (∀ w, Calls Tryd.prog 22 #[.string T] w (ExR (.tuple #[refV z2 s2 e2 n2, faultW k o]) w)))
    (HSq : Hid (∀ w, WorldG A w → Calls Tryd.prog 24 #[refV z s e n, .int .i64 many] w (ExR (.tuple #[.string Q, (errV (A 2))]) w)))
    (HSt : Hid (∀ w, Calls Tryd.prog 25 #[refV z s e n, .int .i64 many] w (ExR (.tuple #[.string Q, .int .i64 3]) w)))
    (HRp : Hid (∀ w, WorldG A w → TextG A w → Calls Tryd.prog 21 #[.string S] w (ExR (.tuple #[refV z s e n, .nilIface]) w)))
    : Calls Tryd.prog 4 #[.int .i64 lon, .int .i64 zone, refV z s e n, .string T, .int .i64 many] w (ExR (.bool true) w) := by
  have HZa := Lib.hid (zone_c lon)
  have HZb := Lib.hid (zoneOf_c lon)
  generalize zoneP lon = zl at *
  have e1 : ¬ (200 : Int) < (T.size : Int) := by omega
  clear hsm
  have HMi : Hid (∀ w, WorldG A w → Calls Tryd.prog 13 #[.int .i64 zone] w (ExR (.tuple #[.int .i64 0, errV (A 0)]) w)) := Lib.hid (fun w hW => middle_bad zone (by omega) w hW)
  have hz0 : ¬ zone < 1 := by omega
  have tk0 : Hid True := trivial
  go_enter Tryd.func4, Tryd.ntmps4
  go_wp2_with (first
    | (go_at_call 12; go_must (refine (zoned_c _).mono ?_; rintro e w1 ⟨rfl, hx⟩; obtain ⟨hb1, hw⟩ := ext1 hx; clear hx; have c1 := hb1.cell))
    | (go_at_call 13; go_must (refine (HMi.out _ (hW.ext hw)).mono ?_; rintro e w2 ⟨rfl, hx⟩; replace hw := hw.trans hx; replace hb1 := hb1.ext hx; clear hx c1; have c1 := hb1.cell))
    | (go_at_call 14; clear tk0; go_must (refine (coded_c (h8.ext hw) .range _).mono ?_; rintro e w3 ⟨rfl, hx⟩; replace hw := hw.trans hx; replace hb1 := hb1.ext hx; clear hx c1; have c1 := hb1.cell))
    | (go_at_call 14; go_must (refine (coded_c (h8.ext hw) .nil _).mono ?_; rintro e w3 ⟨rfl, hx⟩; replace hw := hw.trans hx; replace hb1 := hb1.ext hx; clear hx c1; have c1 := hb1.cell))
    | (go_at_call 15; go_must (refine (HZa.out _).mono ?_; rintro e w4 ⟨rfl, hx⟩; replace hw := hw.trans hx; replace hb1 := hb1.ext hx; clear hx c1; have c1 := hb1.cell))
    | (go_at_call 16; go_must (refine (HZb.out _).mono ?_; rintro e w5 ⟨rfl, hx⟩; replace hw := hw.trans hx; replace hb1 := hb1.ext hx; clear hx c1; have c1 := hb1.cell))
    | (go_at_call 17; go_must (refine (gref_c _ _ _ _ _).mono ?_; rintro e w6 ⟨rfl, hx⟩; replace hw := hw.trans hx; replace hb1 := hb1.ext hx; clear hx c1; have c1 := hb1.cell))
    | (go_at_call 18; go_must (refine (HTx.out _ (hW.ext hw)).mono ?_; rintro e w7 ⟨rfl, hx⟩; replace hw := hw.trans hx; replace hb1 := hb1.ext hx; clear hx c1; have c1 := hb1.cell))
    | (go_at_call 19; go_must (refine (HRT.out _).mono ?_; rintro e w8 ⟨rfl, hx⟩; replace hw := hw.trans hx; replace hb1 := hb1.ext hx; clear hx c1; have c1 := hb1.cell))
    | (go_at_call 20; go_must (refine (HVa.out _ (hW.ext hw)).mono ?_; rintro e w9 ⟨rfl, hx⟩; replace hw := hw.trans hx; replace hb1 := hb1.ext hx; clear hx c1; have c1 := hb1.cell))
    | (go_at_call 21; go_must (refine (HRd.out _ (hW.ext hw) (hT.ext' hw)).mono ?_; rintro e w10 ⟨v, rfl, hv, hx⟩; replace hw := hw.trans hx; replace hb1 := hb1.ext hx; clear hx c1; have c1 := hb1.cell; have hsz := hw.size; have hlt := hb1.lt))
    | (go_at_call 22; go_must (refine (HRo.out _).mono ?_; rintro e w11 ⟨rfl, hx⟩; obtain ⟨hb2, hx⟩ := ext1 hx; replace hv := hv.ext hx; replace hw := hw.trans hx; replace hb1 := hb1.ext hx; clear hx c1; have c1 := hb1.cell; have c2 := hb2.cell))
    | (go_at_call 23; go_must (refine (faulted_c (h8.ext ((hw.alloc _).alloc _)) (hv.ext (((Ext.refl _).alloc _).alloc _))).mono ?_; rintro e w12 ⟨rfl, hx⟩; obtain ⟨hb3, hb4, hx⟩ := ext2 hx; replace hw := hw.trans hx; replace hb1 := hb1.ext hx; replace hb2 := hb2.ext hx; clear hx c1 c2; have c1 := hb1.cell; have c2 := hb2.cell)))
  clear c1 c2 hb4 HTx HRT HVa HRd HRo HZa HZb hv
  refine wp_region_all (fun g args v => g = 17 ∧ args = #[refV z2 s2 e2 n2] ∧ v = refV z2 s2 e2 n2) (by kernel_rfl) (by kernel_rfl) ?_
  repeat (first
    | (refine wpR_op rfl (fun w1 hw K hK => ?_); go_simp; refine hK _ ?_; clear hK K hw w1)
    | (refine wpR_want rfl (fun w6 hw9 K hK => ?_); have k1 := (hb2.ext hw9.of_drew).cell; have k2 := (hb3.ext hw9.of_drew).cell; go_simp; refine hK _ ?_; clear hK K k1 k2 hw9 w6)
    | (refine wpR_want rfl (fun w6 hw9 K hK => ?_); go_simp; refine rel_call (ExR.call (gref_c _ _ _ _ _)) (fun v => ?_) (fun v hv => ?_); (simp); subst hv; refine hK _ ?_; clear hK K hw9 w6))
  refine wpR_nil ?_
  intro w13 hx13 _
  have hx := hx13.of_drew
  clear hx13
  replace hw := hw.trans hx
  replace hb1 := hb1.ext hx
  replace hb2 := hb2.ext hx
  clear hb3 hx
  have c1 := hb1.cell
  have c2 := hb2.cell
  go_wp2_with (first
    | (go_at_call 17; go_must (refine (gref_c _ _ _ _ _).mono ?_; rintro e w6 ⟨rfl, hx⟩; replace hw := hw.trans hx; replace hb1 := hb1.ext hx; replace hb2 := hb2.ext hx; clear hx c1 c2; have c1 := hb1.cell; have c2 := hb2.cell))
    | (go_at_call 14; go_must (refine (coded_c (h8.ext hw) .shape _).mono ?_; rintro e w3 ⟨rfl, hx⟩; replace hw := hw.trans hx; replace hb1 := hb1.ext hx; replace hb2 := hb2.ext hx; clear hx c1 c2; have c1 := hb1.cell; have c2 := hb2.cell))
    | (go_at_call 24; go_must (refine (HSq.out _ (hW.ext hw)).mono ?_; rintro e w14 ⟨rfl, hx⟩; replace hw := hw.trans hx; replace hb1 := hb1.ext hx; replace hb2 := hb2.ext hx; clear hx c1 c2; have c1 := hb1.cell; have c2 := hb2.cell))
    | (go_at_call 25; go_must (refine (HSt.out _).mono ?_; rintro e w15 ⟨rfl, hx⟩; replace hw := hw.trans hx; replace hb1 := hb1.ext hx; replace hb2 := hb2.ext hx; clear hx c1 c2; have c1 := hb1.cell; have c2 := hb2.cell))
    | (go_at_call 21; go_must (refine (HRp.out _ (hW.ext hw) (hT.ext' hw)).mono ?_; rintro e w17 ⟨rfl, hx⟩; replace hw := hw.trans hx; replace hb1 := hb1.ext hx; replace hb2 := hb2.ext hx; clear hx c1 c2; have c1 := hb1.cell; have c2 := hb2.cell))
    | (refine wpList_own rfl 49 _ _ rfl _ _ rfl rfl _ _ hb2 (by kernel_rfl) rfl (by simp [Value.oneCell']) ?_; intro w18 hb5 hk5 ho5; replace hw : Ext w w18 := hk5 _ hw hsz; replace hb1 := hb1.other ho5 (Nat.ne_of_lt hlt); clear c1 c2 hb2 hk5 ho5))
  refine wp_region_all (fun g args v => g = 17 ∧ args = #[refV z s e n] ∧ v = refV z s e n) (by kernel_rfl) (by kernel_rfl) ?_
  repeat (first
    | (refine wpR_op rfl (fun w1 hw K hK => ?_); go_simp; refine hK _ ?_; clear hK K hw w1)
    | (refine wpR_want rfl (fun w6 hw9 K hK => ?_); have k1 := (hb1.ext hw9.of_drew).cell; have k2 := (hb5.ext hw9.of_drew).cell; go_simp; refine hK _ ?_; clear hK K k1 k2 hw9 w6)
    | (refine wpR_want rfl (fun w6 hw9 K hK => ?_); go_simp; refine rel_call (ExR.call (gref_c _ _ _ _ _)) (fun v => ?_) (fun v hv => ?_); (simp); subst hv; refine hK _ ?_; clear hK K hw9 w6))
  refine wpR_nil ?_
  intro w13 hx13 _
  have hx := hx13.of_drew
  clear hx13
  replace hw := hw.trans hx
  clear hb1 hb5
  go_wp2_with fail
  go_ret
  exact ⟨rfl, hw⟩
set_option maxHeartbeats 8000000 in
theorem gr_hi_4_4 {A : Nat → Addr} (lon zone z : Int) (s : Bool) (e n : Int) (T : ByteArray) (many : Int) (S Q : ByteArray) (z2 : Int) (s2 : Bool) (e2 n2 k o : Int) (hsm : T.size ≤ 200) (hz : 60 < zone) (w : World) (hW : WorldG A w) (hT : TextG A w) (h8 : World8 A w)
    (HTx : Hid (∀ w, WorldG A w → Calls Tryd.prog 18 #[refV z s e n] w (ExR (.tuple #[.string S, (errV (A 0))]) w)))
    (HRT : Hid (∀ w, Calls Tryd.prog 19 #[refV z s e n] w (ExR (.tuple #[.string S, .int .i64 4]) w)))
    (HVa : Hid (∀ w, WorldG A w → Calls Tryd.prog 20 #[refV z s e n] w (ExR (errV (A 0)) w)))
    (HRd : Hid (∀ w, WorldG A w → TextG A w → Calls Tryd.prog 21 #[.string T] w (RdR A (refV z2 s2 e2 n2) k o w)))
    (HRo : Hid (∀ w, Calls Tryd.prog 22 #[.string T] w (ExR (.tuple #[refV z2 s2 e2 n2, faultW k o]) w)))
    (HSq : Hid (∀ w, WorldG A w → Calls Tryd.prog 24 #[refV z s e n, .int .i64 many] w (ExR (.tuple #[.string Q, (errV (A 0))]) w)))
    (HSt : Hid (∀ w, Calls Tryd.prog 25 #[refV z s e n, .int .i64 many] w (ExR (.tuple #[.string Q, .int .i64 4]) w)))
    : Calls Tryd.prog 4 #[.int .i64 lon, .int .i64 zone, refV z s e n, .string T, .int .i64 many] w (ExR (.bool true) w) := by
  have HZa := Lib.hid (zone_c lon)
  have HZb := Lib.hid (zoneOf_c lon)
  generalize zoneP lon = zl at *
  have e1 : ¬ (200 : Int) < (T.size : Int) := by omega
  clear hsm
  have HMi : Hid (∀ w, WorldG A w → Calls Tryd.prog 13 #[.int .i64 zone] w (ExR (.tuple #[.int .i64 0, errV (A 0)]) w)) := Lib.hid (fun w hW => middle_bad zone (by omega) w hW)
  have hz0 : ¬ zone < 1 := by omega
  have tk0 : Hid True := trivial
  go_enter Tryd.func4, Tryd.ntmps4
  go_wp2_with (first
    | (go_at_call 12; go_must (refine (zoned_c _).mono ?_; rintro e w1 ⟨rfl, hx⟩; obtain ⟨hb1, hw⟩ := ext1 hx; clear hx; have c1 := hb1.cell))
    | (go_at_call 13; go_must (refine (HMi.out _ (hW.ext hw)).mono ?_; rintro e w2 ⟨rfl, hx⟩; replace hw := hw.trans hx; replace hb1 := hb1.ext hx; clear hx c1; have c1 := hb1.cell))
    | (go_at_call 14; clear tk0; go_must (refine (coded_c (h8.ext hw) .range _).mono ?_; rintro e w3 ⟨rfl, hx⟩; replace hw := hw.trans hx; replace hb1 := hb1.ext hx; clear hx c1; have c1 := hb1.cell))
    | (go_at_call 14; go_must (refine (coded_c (h8.ext hw) .range _).mono ?_; rintro e w3 ⟨rfl, hx⟩; replace hw := hw.trans hx; replace hb1 := hb1.ext hx; clear hx c1; have c1 := hb1.cell))
    | (go_at_call 15; go_must (refine (HZa.out _).mono ?_; rintro e w4 ⟨rfl, hx⟩; replace hw := hw.trans hx; replace hb1 := hb1.ext hx; clear hx c1; have c1 := hb1.cell))
    | (go_at_call 16; go_must (refine (HZb.out _).mono ?_; rintro e w5 ⟨rfl, hx⟩; replace hw := hw.trans hx; replace hb1 := hb1.ext hx; clear hx c1; have c1 := hb1.cell))
    | (go_at_call 17; go_must (refine (gref_c _ _ _ _ _).mono ?_; rintro e w6 ⟨rfl, hx⟩; replace hw := hw.trans hx; replace hb1 := hb1.ext hx; clear hx c1; have c1 := hb1.cell))
    | (go_at_call 18; go_must (refine (HTx.out _ (hW.ext hw)).mono ?_; rintro e w7 ⟨rfl, hx⟩; replace hw := hw.trans hx; replace hb1 := hb1.ext hx; clear hx c1; have c1 := hb1.cell))
    | (go_at_call 19; go_must (refine (HRT.out _).mono ?_; rintro e w8 ⟨rfl, hx⟩; replace hw := hw.trans hx; replace hb1 := hb1.ext hx; clear hx c1; have c1 := hb1.cell))
    | (go_at_call 20; go_must (refine (HVa.out _ (hW.ext hw)).mono ?_; rintro e w9 ⟨rfl, hx⟩; replace hw := hw.trans hx; replace hb1 := hb1.ext hx; clear hx c1; have c1 := hb1.cell))
    | (go_at_call 21; go_must (refine (HRd.out _ (hW.ext hw) (hT.ext' hw)).mono ?_; rintro e w10 ⟨v, rfl, hv, hx⟩; replace hw := hw.trans hx; replace hb1 := hb1.ext hx; clear hx c1; have c1 := hb1.cell; have hsz := hw.size; have hlt := hb1.lt))
    | (go_at_call 22; go_must (refine (HRo.out _).mono ?_; rintro e w11 ⟨rfl, hx⟩; obtain ⟨hb2, hx⟩ := ext1 hx; replace hv := hv.ext hx; replace hw := hw.trans hx; replace hb1 := hb1.ext hx; clear hx c1; have c1 := hb1.cell; have c2 := hb2.cell))
    | (go_at_call 23; go_must (refine (faulted_c (h8.ext ((hw.alloc _).alloc _)) (hv.ext (((Ext.refl _).alloc _).alloc _))).mono ?_; rintro e w12 ⟨rfl, hx⟩; obtain ⟨hb3, hb4, hx⟩ := ext2 hx; replace hw := hw.trans hx; replace hb1 := hb1.ext hx; replace hb2 := hb2.ext hx; clear hx c1 c2; have c1 := hb1.cell; have c2 := hb2.cell)))
  clear c1 c2 hb4 HTx HRT HVa HRd HRo HZa HZb hv
  refine wp_region_all (fun g args v => g = 17 ∧ args = #[refV z2 s2 e2 n2] ∧ v = refV z2 s2 e2 n2) (by kernel_rfl) (by kernel_rfl) ?_
  repeat (first
    | (refine wpR_op rfl (fun w1 hw K hK => ?_); go_simp; refine hK _ ?_; clear hK K hw w1)
    | (refine wpR_want rfl (fun w6 hw9 K hK => ?_); have k1 := (hb2.ext hw9.of_drew).cell; have k2 := (hb3.ext hw9.of_drew).cell; go_simp; refine hK _ ?_; clear hK K k1 k2 hw9 w6)
    | (refine wpR_want rfl (fun w6 hw9 K hK => ?_); go_simp; refine rel_call (ExR.call (gref_c _ _ _ _ _)) (fun v => ?_) (fun v hv => ?_); (simp); subst hv; refine hK _ ?_; clear hK K hw9 w6))
  refine wpR_nil ?_
  intro w13 hx13 _
  have hx := hx13.of_drew
  clear hx13
  replace hw := hw.trans hx
  replace hb1 := hb1.ext hx
  replace hb2 := hb2.ext hx
  clear hb3 hx
  have c1 := hb1.cell
  have c2 := hb2.cell
  go_wp2_with (first
    | (go_at_call 17; go_must (refine (gref_c _ _ _ _ _).mono ?_; rintro e w6 ⟨rfl, hx⟩; replace hw := hw.trans hx; replace hb1 := hb1.ext hx; replace hb2 := hb2.ext hx; clear hx c1 c2; have c1 := hb1.cell; have c2 := hb2.cell))
    | (go_at_call 14; go_must (refine (coded_c (h8.ext hw) .range _).mono ?_; rintro e w3 ⟨rfl, hx⟩; replace hw := hw.trans hx; replace hb1 := hb1.ext hx; replace hb2 := hb2.ext hx; clear hx c1 c2; have c1 := hb1.cell; have c2 := hb2.cell))
    | (go_at_call 24; go_must (refine (HSq.out _ (hW.ext hw)).mono ?_; rintro e w14 ⟨rfl, hx⟩; replace hw := hw.trans hx; replace hb1 := hb1.ext hx; replace hb2 := hb2.ext hx; clear hx c1 c2; have c1 := hb1.cell; have c2 := hb2.cell))
    | (go_at_call 25; go_must (refine (HSt.out _).mono ?_; rintro e w15 ⟨rfl, hx⟩; replace hw := hw.trans hx; replace hb1 := hb1.ext hx; replace hb2 := hb2.ext hx; clear hx c1 c2; have c1 := hb1.cell; have c2 := hb2.cell)))
  go_ret
  exact ⟨rfl, hw⟩
end Go.Proofs.YteebbcdbkkliaaaDoor
