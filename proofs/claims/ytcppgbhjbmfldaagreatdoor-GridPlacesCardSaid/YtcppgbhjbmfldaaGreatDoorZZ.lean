/- The walk of the statement GridPlaces. -/
import Derived.Test.YtcppgbhjbmfldaaGreatDoorZY
import Derived.Test.YtcppgbhjbmfldaaGreatDoorCX
import Derived.Test.YtcppgbhjbmfldaaGreatDoorCV
import Derived.Test.YtcppgbhjbmfldaaGreatDoorDN
import Derived.Test.YtcppgbhjbmfldaaGreatDoorBP
namespace Go.Proofs.YtcppgbhjbmfldaaGreatDoor
open Go.RowKit Go.Fp Go.Rel
set_option maxRecDepth 20000

def SpAp (la lat n1 lo lon n2 : Int) (args : Array Value) (v : Value) : Prop := (args = #[.int .i64 la, .int .i64 lat] ∧ v = .int .i64 n1) ∨ (args = #[.int .i64 lo, .int .i64 lon] ∧ v = .int .i64 n2)
theorem spAp_a {la lat n1 lo lon n2 : Int} (h : la = lo → lat = lon → n1 = n2) (v : Value) : SpAp la lat n1 lo lon n2 #[.int .i64 la, .int .i64 lat] v ↔ v = .int .i64 n1 := by
  unfold SpAp
  constructor
  · rintro (⟨_, h2⟩ | ⟨h1, h2⟩)
    · exact h2
    · simp at h1
      rw [h h1.1 h1.2]; exact h2
  · exact fun h => .inl ⟨rfl, h⟩
theorem spAp_o {la lat n1 lo lon n2 : Int} (h : la = lo → lat = lon → n1 = n2) (v : Value) : SpAp la lat n1 lo lon n2 #[.int .i64 lo, .int .i64 lon] v ↔ v = .int .i64 n2 := by
  unfold SpAp
  constructor
  · rintro (⟨h1, h2⟩ | ⟨_, h2⟩)
    · simp at h1
      rw [← h h1.1.symm h1.2.symm]; exact h2
    · exact h2
  · exact fun h => .inr ⟨rfl, h⟩
set_option maxHeartbeats 16000000 in
theorem gp_bad {A : Nat → Addr} (lon lat z : Int) (s : Bool) (e n z0 : Int) (s0 : Bool) (e0 n0 k lo la k2 : Int) (hk : 0 < k) (w : World) (h8 : World8 A w)
    (HRO : Hid (∀ w, World8 A w → Calls Tryz.prog 5 #[placeU lon lat] w (fun e w' => ∃ v, e = .returned (.tuple #[refV z0 s0 e0 n0, v]) ∧ ErrOf A k v ∧ Ext w w')))
    (HRA : Hid (∀ w, Calls Tryz.prog 6 #[placeU lon lat] w (ExR (.tuple #[refV z0 s0 e0 n0, .int .i64 k]) w)))
    (HPL : Hid (∀ w, World8 A w → Calls Tryz.prog 9 #[refV z s e n] w (fun e w' => ∃ v, e = .returned (.tuple #[placeU lo la, v]) ∧ ErrOf A k2 v ∧ Ext w w')))
    (HPA : Hid (∀ w, Calls Tryz.prog 10 #[refV z s e n] w (ExR (.tuple #[placeU lo la, .int .i64 k2]) w))) :
    Calls Tryz.prog 3 #[placeU lon lat, refV z s e n] w (ExR (.bool true) w) := by
  have tk : Hid True := trivial
  go_enter Tryz.func3, Tryz.ntmps3
  go_wp2_with (first
    | (go_at_call 4; go_must (refine (zoned_c _).mono ?_; rintro e w1 ⟨rfl, hx⟩; obtain ⟨hb1, hb2, hw⟩ := ext2 hx; clear hx; have c1 := hb1.cell; have c2 := hb2.cell))
    | (go_at_call 5; go_must (refine (HRO.out _ (h8.ext hw)).mono ?_; rintro e w2 ⟨v1, rfl, hv1, hx⟩; have HV1 := Lib.hid hv1; replace hw := hw.trans hx; replace hb1 := hb1.ext hx; replace hb2 := hb2.ext hx; clear hx hv1 c1 c2; have c1 := hb1.cell; have c2 := hb2.cell; have c1a := (fun o => (hb1.ext ((Ext.refl w2).alloc o)).cell)))
    | (go_at_call 6; go_must (refine (HRA.out _).mono ?_; rintro e w3 ⟨rfl, hx⟩; obtain ⟨hb6, hx'⟩ := ext1 hx; replace hw := hw.trans hx'; replace hb1 := hb1.ext hx'; replace hb2 := hb2.ext hx'; clear hx hx' c1 c2 c1a; have c1 := hb1.cell; have c2 := hb2.cell))
    | (go_at_call 7; clear tk; go_must (refine (coded_c (h8.ext (hw.alloc _)) HV1.out k).mono ?_; rintro e w4 ⟨rfl, hx⟩; obtain ⟨hb8, hx'⟩ := ext1 hx; replace hw := hw.trans hx'; replace hb1 := hb1.ext hx'; replace hb2 := hb2.ext hx'; replace hb6 := hb6.ext hx'; clear hx hx' c1 c2; have c1 := hb1.cell; have c2 := hb2.cell))
    | (go_at_call 8; go_must (refine (gref_c _ _ _ _ _).mono ?_; rintro e w5 ⟨rfl, hx⟩; replace hw := hw.trans hx; replace hb1 := hb1.ext hx; replace hb2 := hb2.ext hx; replace hb6 := hb6.ext hx; replace hb8 := hb8.ext hx; clear hx c1 c2; have c1 := hb1.cell; have c2 := hb2.cell))
    | (go_at_call 9; go_must (refine (HPL.out _ (h8.ext hw)).mono ?_; rintro e w6 ⟨v2, rfl, hv2, hx⟩; have HV2 := Lib.hid hv2; replace hw := hw.trans hx; replace hb1 := hb1.ext hx; replace hb2 := hb2.ext hx; replace hb6 := hb6.ext hx; replace hb8 := hb8.ext hx; clear hx hv2 c1 c2; have c1 := hb1.cell; have c2 := hb2.cell; have c2a := (fun o => (hb2.ext ((Ext.refl w6).alloc o)).cell)))
    | (go_at_call 10; go_must (refine (HPA.out _).mono ?_; rintro e w7 ⟨rfl, hx⟩; obtain ⟨hb11, hx'⟩ := ext1 hx; replace hw := hw.trans hx'; replace hb1 := hb1.ext hx'; replace hb2 := hb2.ext hx'; replace hb6 := hb6.ext hx'; replace hb8 := hb8.ext hx'; clear hx hx' c1 c2 c2a; have c1 := hb1.cell; have c2 := hb2.cell))
    | (go_at_call 7; go_must (refine (coded_c (h8.ext (hw.alloc _)) HV2.out k2).mono ?_; rintro e w8 ⟨rfl, hx⟩; obtain ⟨hb12, hx'⟩ := ext1 hx; replace hw := hw.trans hx'; replace hb6 := hb6.ext hx'; replace hb8 := hb8.ext hx'; replace hb11 := hb11.ext hx'; clear hx hx' c1 c2 hb1 hb2)))
  refine wp_region_all (fun g args v => g = 8 ∧ args = #[refV z0 s0 e0 n0] ∧ v = refV z0 s0 e0 n0) (by kernel_rfl) (by kernel_rfl) ?_
  repeat (first
    | (refine wpR_op rfl (fun w1 hw K hK => ?_); go_simp; refine hK _ ?_; clear hK K hw w1)
    | (refine wpR_want rfl (fun w6 hw9 K hK => ?_); have k1 := (hb6.ext hw9.of_drew).cell; have k2 := (hb8.ext hw9.of_drew).cell; have k3 := (hb11.ext hw9.of_drew).cell; have k4 := (hb12.ext hw9.of_drew).cell; go_simp; refine hK _ ?_; clear hK K k1 k2 k3 k4 hw9 w6)
    | (refine wpR_want rfl (fun w6 hw9 K hK => ?_); go_simp; refine rel_call (ExR.call (gref_c _ _ _ _ _)) (fun v => ?_) (fun v hv => ?_); (simp); subst hv; refine hK _ ?_; clear hK K hw9 w6))
  refine wpR_nil ?_
  intro w13 hx13 _
  have hx := hx13.of_drew
  clear hx13
  replace hw := hw.trans hx
  clear hx
  go_wp2_with fail
  go_ret
  exact ⟨rfl, hw⟩
set_option maxHeartbeats 16000000 in
theorem gp_ok {A : Nat → Addr} (lon lat z : Int) (s : Bool) (e n z0 : Int) (s0 : Bool) (e0 n0 lo la k2 lo2 la2 n1 n2 : Int) (told : ToldP lon lat lo2 la2 n1 n2) (w : World) (h8 : World8 A w)
    (HRO : Hid (∀ w, World8 A w → Calls Tryz.prog 5 #[placeU lon lat] w (fun e w' => ∃ v, e = .returned (.tuple #[refV z0 s0 e0 n0, v]) ∧ ErrOf A 0 v ∧ Ext w w')))
    (HRA : Hid (∀ w, Calls Tryz.prog 6 #[placeU lon lat] w (ExR (.tuple #[refV z0 s0 e0 n0, .int .i64 0]) w)))
    (HPL : Hid (∀ w, World8 A w → Calls Tryz.prog 9 #[refV z s e n] w (fun e w' => ∃ v, e = .returned (.tuple #[placeU lo la, v]) ∧ ErrOf A k2 v ∧ Ext w w')))
    (HPA : Hid (∀ w, Calls Tryz.prog 10 #[refV z s e n] w (ExR (.tuple #[placeU lo la, .int .i64 k2]) w)))
    (HBK : Hid (∀ w, World8 A w → Calls Tryz.prog 9 #[refV z0 s0 e0 n0] w (fun e w' => ∃ v, e = .returned (.tuple #[placeU lo2 la2, v]) ∧ ErrOf A 0 v ∧ Ext w w'))) :
    Calls Tryz.prog 3 #[placeU lon lat, refV z s e n] w (ExR (.bool true) w) := by
  have HT := Lib.hid told
  clear told
  have tk : Hid True := trivial
  go_enter Tryz.func3, Tryz.ntmps3
  go_wp2_with (first
    | (go_at_call 4; go_must (refine (zoned_c _).mono ?_; rintro e w1 ⟨rfl, hx⟩; obtain ⟨hb1, hb2, hw⟩ := ext2 hx; clear hx; have c1 := hb1.cell; have c2 := hb2.cell))
    | (go_at_call 5; go_must (refine (HRO.out _ (h8.ext hw)).mono ?_; rintro e w2 ⟨v1, rfl, hv1, hx⟩; have HV1 := Lib.hid hv1; replace hw := hw.trans hx; replace hb1 := hb1.ext hx; replace hb2 := hb2.ext hx; clear hx hv1 c1 c2; have c1 := hb1.cell; have c2 := hb2.cell; have c1a := (fun o => (hb1.ext ((Ext.refl w2).alloc o)).cell)))
    | (go_at_call 6; go_must (refine (HRA.out _).mono ?_; rintro e w3 ⟨rfl, hx⟩; obtain ⟨hb6, hx'⟩ := ext1 hx; replace hw := hw.trans hx'; replace hb1 := hb1.ext hx'; replace hb2 := hb2.ext hx'; clear hx hx' c1 c2 c1a; have c1 := hb1.cell; have c2 := hb2.cell))
    | (go_at_call 7; clear tk; go_must (refine (coded_c (h8.ext (hw.alloc _)) HV1.out 0).mono ?_; rintro e w4 ⟨rfl, hx⟩; obtain ⟨hb8, hx'⟩ := ext1 hx; replace hw := hw.trans hx'; replace hb1 := hb1.ext hx'; replace hb2 := hb2.ext hx'; replace hb6 := hb6.ext hx'; clear hx hx' c1 c2; have c1 := hb1.cell; have c2 := hb2.cell))
    | (go_at_call 8; go_must (refine (gref_c _ _ _ _ _).mono ?_; rintro e w5 ⟨rfl, hx⟩; replace hw := hw.trans hx; replace hb1 := hb1.ext hx; replace hb2 := hb2.ext hx; replace hb6 := hb6.ext hx; replace hb8 := hb8.ext hx; clear hx c1 c2; have c1 := hb1.cell; have c2 := hb2.cell))
    | (go_at_call 9; go_must (refine (HPL.out _ (h8.ext hw)).mono ?_; rintro e w6 ⟨v2, rfl, hv2, hx⟩; have HV2 := Lib.hid hv2; replace hw := hw.trans hx; replace hb1 := hb1.ext hx; replace hb2 := hb2.ext hx; replace hb6 := hb6.ext hx; replace hb8 := hb8.ext hx; clear hx hv2 c1 c2; have c1 := hb1.cell; have c2 := hb2.cell; have c2a := (fun o => (hb2.ext ((Ext.refl w6).alloc o)).cell)))
    | (go_at_call 10; go_must (refine (HPA.out _).mono ?_; rintro e w7 ⟨rfl, hx⟩; obtain ⟨hb11, hx'⟩ := ext1 hx; replace hw := hw.trans hx'; replace hb1 := hb1.ext hx'; replace hb2 := hb2.ext hx'; replace hb6 := hb6.ext hx'; replace hb8 := hb8.ext hx'; clear hx hx' c1 c2 c2a; have c1 := hb1.cell; have c2 := hb2.cell))
    | (go_at_call 7; go_must (refine (coded_c (h8.ext (hw.alloc _)) HV2.out k2).mono ?_; rintro e w8 ⟨rfl, hx⟩; obtain ⟨hb12, hx'⟩ := ext1 hx; replace hw := hw.trans hx'; replace hb1 := hb1.ext hx'; replace hb6 := hb6.ext hx'; replace hb8 := hb8.ext hx'; replace hb11 := hb11.ext hx'; clear hx hx' c1 c2 hb2)))
  refine wp_region_all (fun g args v => g = 8 ∧ args = #[refV z0 s0 e0 n0] ∧ v = refV z0 s0 e0 n0) (by kernel_rfl) (by kernel_rfl) ?_
  repeat (first
    | (refine wpR_op rfl (fun w1 hw K hK => ?_); go_simp; refine hK _ ?_; clear hK K hw w1)
    | (refine wpR_want rfl (fun w6 hw9 K hK => ?_); have k1 := (hb6.ext hw9.of_drew).cell; have k2 := (hb8.ext hw9.of_drew).cell; have k3 := (hb11.ext hw9.of_drew).cell; have k4 := (hb12.ext hw9.of_drew).cell; go_simp; refine hK _ ?_; clear hK K k1 k2 k3 k4 hw9 w6)
    | (refine wpR_want rfl (fun w6 hw9 K hK => ?_); go_simp; refine rel_call (ExR.call (gref_c _ _ _ _ _)) (fun v => ?_) (fun v hv => ?_); (simp); subst hv; refine hK _ ?_; clear hK K hw9 w6))
  refine wpR_nil ?_
  intro w13 hx13 _
  have hx := hx13.of_drew
  clear hx13
  replace hw := hw.trans hx
  replace hb1 := hb1.ext hx
  replace hb6 := hb6.ext hx
  clear hx hb8 hb11 hb12
  have c6 := hb6.cell
  have HS := Lib.hid HT.out.same
  have hm1 := HT.out.m1
  go_wp2_with (first
    | (go_at_call 9; go_must (refine (HBK.out _ (h8.ext hw)).mono ?_; rintro e w14 ⟨v3, rfl, hv3, hx⟩; cases hv3; replace hw := hw.trans hx; replace hb1 := hb1.ext hx; clear hx c6 hb6)))
  have hQ := Blk.new w14 #[.int .i64 lo2, .int .i64 la2] 23
  replace hb1 := hb1.ext ((Ext.refl w14).alloc (.cells #[.int .i64 lo2, .int .i64 la2] 23))
  replace hw := hw.alloc (.cells #[.int .i64 lo2, .int .i64 la2] 23)
  have tk1 : Hid True := trivial
  refine wp_region_all (fun g args v => (g = 11 ∧ SpAp la2 lat n1 lo2 lon n2 args v) ∨ (g = 12 ∧ args = #[.int .i64 lat] ∧ v = .float .f64 (cosP lat))) (by kernel_rfl) (by kernel_rfl) ?_
  repeat (first
    | (refine wpR_op rfl (fun w9 hw9 K hK => ?_); go_simp; (with_reducible refine hK _ ?_); clear hK K hw9 w9)
    | (refine wpR_want rfl (fun w9 hw9 K hK => ?_); have k1 := (hb1.ext hw9.of_drew).cell; have k2 := (hQ.ext hw9.of_drew).cell; go_simp; (with_reducible refine hK _ ?_); clear hK K k1 k2 hw9 w9)
    | (refine wpR_want rfl (fun w9 hw9 K hK => ?_); go_simp; (with_reducible refine rel_fl rfl ?_); intro r hr; have hq := HT.out.m2 r hr; (with_reducible refine hK _ ?_); clear hK K hw9 w9)
    | (refine wpR_want rfl (fun w9 hw9 K hK => ?_); clear tk1; go_simp; (with_reducible refine rel_call (ExR.call (HT.out.ala _)) (fun v => ?_) (fun v hv => ?_)); (simp [spAp_a HS.out]); subst hv; refine hK _ ?_; clear hK K hw9 w9)
    | (refine wpR_want rfl (fun w9 hw9 K hK => ?_); go_simp; (with_reducible refine rel_call (ExR.call (HT.out.alo _)) (fun v => ?_) (fun v hv => ?_)); (simp [spAp_o HS.out]); subst hv; refine hK _ ?_; clear hK K hw9 w9)
    | (refine wpR_want rfl (fun w9 hw9 K hK => ?_); go_simp; (with_reducible refine rel_call (ExR.call (HT.out.cos _)) (fun v => ?_) (fun v hv => ?_)); (simp); subst hv; refine hK _ ?_; clear hK K hw9 w9))
  refine wpR_nil ?_
  intro w8 hx8 _
  replace hw := hw.trans hx8.of_drew
  clear hx8 hb1 hQ
  go_wp2_with fail
  go_ret
  exact ⟨rfl, hw⟩
end Go.Proofs.YtcppgbhjbmfldaaGreatDoor

/- The walk of the statement GridPlaces, joined. -/
namespace Go.Proofs.YtcppgbhjbmfldaaGreatDoor
open Go.RowKit Go.Fp Go.Rel
set_option maxRecDepth 20000

theorem gridPlaces_walk {A : Nat → Addr} (lon lat z : Int) (s : Bool) (e n : Int) (w : World) (h8 : World8 A w) : Calls Tryz.prog 3 #[placeU lon lat, refV z s e n] w (ExR (.bool true) w) := by
  -- the reference's place
  obtain ⟨lo, la, k2, HPL, HPA⟩ : ∃ lo la k2 : Int, Hid (∀ w, World8 A w → Calls Tryz.prog 9 #[refV z s e n] w (fun e w' => ∃ v, e = .returned (.tuple #[placeU lo la, v]) ∧ ErrOf A k2 v ∧ Ext w w')) ∧ Hid (∀ w, Calls Tryz.prog 10 #[refV z s e n] w (ExR (.tuple #[placeU lo la, .int .i64 k2]) w)) := by
    by_cases hr : OkRef z e n
    · obtain ⟨K, lo, la, hF, hO⟩ := from_offS gA gF ((6 * z - 183) * 1000000000) gS (pX e) (pY s n)
      exact ⟨lo, la, K, Lib.hid (fun w h8 => gplace_in z s e n hr K lo la (fun w h8 => hF A w h8) w h8), Lib.hid (fun w => placeAt_in z s e n hr K lo la hO w)⟩
    · exact ⟨0, 0, 4, Lib.hid (fun w h8 => (gplace_bad z s e n hr w h8).mono (fun _ _ ⟨he, hx⟩ => ⟨_, he, .range, hx⟩)), Lib.hid (fun w => placeAt_bad z s e n hr w)⟩
  by_cases ho : lat < -80000000000 ∨ 84000000000 < lat
  · exact gp_bad lon lat z s e n 0 false 0 0 4 lo la k2 (by decide) w h8 (Lib.hid (fun w h8 => (refOf_out lon lat w h8 ho).mono (fun _ _ ⟨he, hx⟩ => ⟨_, he, .range, hx⟩))) (Lib.hid (fun w => refAt_out lon lat w ho)) HPL HPA
  · have l1 : -80000000000 ≤ lat := by omega
    have l2 : lat ≤ 84000000000 := by omega
    have H := told_grid (lon := lon) l1 l2
    by_cases hok : OkRef (zoneP lon) (gE lon lat) (gN lon lat)
    · obtain ⟨lo2, la2, n1, n2, told, hB⟩ := back_grid (A := A) l1 l2 hok
      have a1 := fun w h8 => refOf_in (A := A) lon lat _ _ _ _ _ _ _ l1 l2 H 0 (.inl ⟨rfl, hok⟩) w h8
      have a2 := fun w => refAt_in lon lat _ _ _ _ _ _ _ l1 l2 H 0 (.inl ⟨rfl, hok⟩) w
      simp only [if_true] at a1 a2
      exact gp_ok lon lat z s e n (zoneP lon) (decide (lat < 0)) (gE lon lat) (gN lon lat) lo la k2 lo2 la2 n1 n2 told w h8 (Lib.hid a1) (Lib.hid a2) HPL HPA (Lib.hid (fun w h8 => gplace_in (zoneP lon) (decide (lat < 0)) (gE lon lat) (gN lon lat) hok 0 lo2 la2 hB w h8))
    · have a1 := fun w h8 => refOf_in (A := A) lon lat _ _ _ _ _ _ _ l1 l2 H 4 (.inr ⟨rfl, hok⟩) w h8
      have a2 := fun w => refAt_in lon lat _ _ _ _ _ _ _ l1 l2 H 4 (.inr ⟨rfl, hok⟩) w
      have e4 : ¬ (4 : Int) = 0 := by decide
      simp only [if_neg e4] at a1 a2
      exact gp_bad lon lat z s e n 0 false 0 0 4 lo la k2 (by decide) w h8 (Lib.hid a1) (Lib.hid a2) HPL HPA
end Go.Proofs.YtcppgbhjbmfldaaGreatDoor
