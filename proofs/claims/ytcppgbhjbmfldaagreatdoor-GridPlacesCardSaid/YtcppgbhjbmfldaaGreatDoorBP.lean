/- What the walk of the statement GridPlaces is told of the way back. apart_c and cosLat_c from BG. -/
import Derived.Test.YtcppgbhjbmfldaaGreatDoorZY
namespace Go.Proofs.YtcppgbhjbmfldaaGreatDoor
open Go.RowKit Go.Fp Go.Fp.Tri Go.Rel
set_option maxRecDepth 20000
set_option maxHeartbeats 4000000 in
theorem apart_c (p q : Int) (w : World) : Calls Tryz.prog 11 #[.int .i64 p, .int .i64 q] w (ExR (.int .i64 (if apartP p q < 0 then -apartP p q else apartP p q)) w) := by
  obtain ⟨p0, p1⟩ := norm_range p
  obtain ⟨q0, q1⟩ := norm_range q
  have HA : Hid (signP (normP p - normP q) = apartP p q) := Lib.hid rfl
  have HN := Lib.hid (fun w => normOf_c p w)
  have HM := Lib.hid (fun w => normOf_c q w)
  have HS := Lib.hid (signedAngle_c (normP p - normP q))
  rw [HA.out] at HS
  have hr : -360000000000 ≤ apartP p q ∧ apartP p q ≤ 360000000000 := by
    unfold apartP signP
    have := norm_range (normP p - normP q)
    split <;> omega
  clear HA
  generalize apartP p q = d at *
  generalize normP p = x at *
  generalize normP q = y at *
  obtain ⟨r0, r1⟩ := hr
  have tk : Hid True := trivial
  by_cases hd : d < 0
  · rw [if_pos hd]
    go_enter Tryz.func11, Tryz.ntmps11
    go_wp2_with (first
      | (go_at_call 29; clear tk; go_must (refine (HN.out _).mono ?_; rintro e w1 ⟨rfl, rfl⟩))
      | (go_at_call 29; go_must (refine (HM.out _).mono ?_; rintro e w1 ⟨rfl, rfl⟩))
      | (go_at_call 28; go_must (refine (HS.out _).mono ?_; rintro e w2 ⟨rfl, hx⟩)))
    go_ret
    exact ⟨rfl, hx⟩
  · rw [if_neg hd]
    go_enter Tryz.func11, Tryz.ntmps11
    go_wp2_with (first
      | (go_at_call 29; clear tk; go_must (refine (HN.out _).mono ?_; rintro e w1 ⟨rfl, rfl⟩))
      | (go_at_call 29; go_must (refine (HM.out _).mono ?_; rintro e w1 ⟨rfl, rfl⟩))
      | (go_at_call 28; go_must (refine (HS.out _).mono ?_; rintro e w2 ⟨rfl, hx⟩)))
    go_ret
    exact ⟨rfl, hx⟩
theorem cosLat_c (a : Int) (w : World) : Calls Tryz.prog 12 #[.int .i64 a] w (ExR (.float .f64 (cosP a)) w) := by
  go_enter Tryz.func12, Tryz.ntmps12
  go_wp2_with (first
    | (go_at_call 30; go_must (refine (sincos_c _ _).mono ?_; rintro e w1 ⟨rfl, rfl⟩)))
  go_ret
  exact ⟨rfl, Ext.refl _⟩
theorem v_2e4 : Fp.Fin 4671226772094713856 ∧ vl 4671226772094713856 = 20000 := vl_const (s := false) (m := 5497558138880000) (k := 38) (by decide +kernel) (by decide +kernel)
theorem int_pt {N : Int} {k V : Rat} (h1 : -1000000000 ≤ N) (h2 : N ≤ 1000000000) {c : Int} (hc : (c : Rat) = k) (c1 : 0 ≤ c) (c2 : c ≤ 10000000) (h : Wn ((N : Rat) - k - V) (500001 / 1000000)) : Fp.Fin (floatOfInt .f64 (N - c)) ∧ Wn (vl (floatOfInt .f64 (N - c)) - V) (500001 / 1000000) := by
  obtain ⟨fi, ei⟩ := vl_int (N - c) (by omega)
  refine ⟨fi, ?_⟩
  rw [ei]
  push_cast
  rw [hc]
  exact h
theorem pt_near {lon lat : Int} (l1 : -80000000000 ≤ lat) (l2 : lat ≤ 84000000000) (hok : OkRef (zoneP lon) (gE lon lat) (gN lon lat)) :
    (Fp.Fin (pX (gE lon lat)) ∧ Wn (vl (pX (gE lon lat)) - vl (gX lon lat)) (500001 / 1000000)) ∧ (Fp.Fin (pY (decide (lat < 0)) (gN lon lat)) ∧ Wn (vl (pY (decide (lat < 0)) (gN lon lat)) - vl (gY lon lat)) (500001 / 1000000)) := by
  obtain ⟨_, _, a1, a2, b1, b2⟩ := hok
  obtain ⟨⟨fX, bX⟩, ⟨fY, bY⟩⟩ := gX_at (lon := lon) l1 l2
  obtain ⟨_, _, n1⟩ := whole_near fX bX v_g5e5.1 v_g5e5.2 (by grind) (by grind)
  obtain ⟨_, _, n2⟩ := whole_near fY bY v_g1e7.1 v_g1e7.2 (by grind) (by grind)
  have n3 := nearV_err fY (bY.mono (by grind))
  refine ⟨int_pt (c := 500000) (by omega) (by omega) rfl (by decide) (by decide) n1, ?_⟩
  unfold pY
  unfold gN at *
  by_cases h : lat < 0
  · rw [if_pos h] at *
    rw [if_pos (by simpa using h)]
    exact int_pt (c := 10000000) (by omega) (by omega) rfl (by decide) (by decide) n2
  · rw [if_neg h] at *
    rw [if_neg (by simpa using h)]
    have := int_pt (c := 0) (k := 0) (V := vl (gY lon lat)) (N := nearV (gY lon lat)) (by omega) (by omega) rfl (by decide) (by decide) (n3.of (by grind) (by grind))
    rw [Int.sub_zero] at this
    exact this
/-- all that the walk is told of the way back -/
structure ToldP (lon lat lo la n1 n2 : Int) : Prop where
  ala : ∀ w, Calls Tryz.prog 11 #[.int .i64 la, .int .i64 lat] w (ExR (.int .i64 n1) w)
  alo : ∀ w, Calls Tryz.prog 11 #[.int .i64 lo, .int .i64 lon] w (ExR (.int .i64 n2) w)
  cos : ∀ w, Calls Tryz.prog 12 #[.int .i64 lat] w (ExR (.float .f64 (cosP lat)) w)
  same : la = lo → lat = lon → n1 = n2
  m1 : n1 ≤ 20000
  m2 : ∀ r, can r = fmul (can (floatOfInt .f64 n2)) (can (cosP lat)) → (FloatKind.f64.format.order r 4671226772094713856 == some .lt || FloatKind.f64.format.order r 4671226772094713856 == some .eq) = true
theorem back_grid {A : Nat → Addr} {lon lat : Int} (l1 : -80000000000 ≤ lat) (l2 : lat ≤ 84000000000) (hok : OkRef (zoneP lon) (gE lon lat) (gN lon lat)) : ∃ lo la n1 n2, ToldP lon lat lo la n1 n2 ∧
    ∀ w, World8 A w → Calls Tryz.prog 26 #[stripV gA gF ((6 * zoneP lon - 183) * 1000000000) gS, flatU (pX (gE lon lat)) (pY (decide (lat < 0)) (gN lon lat))] w (fun e w' => ∃ v, e = .returned (.tuple #[placeU lo la, v]) ∧ ErrOf A 0 v ∧ Ext w w') := by
  have u1 : uu = 1 / 9007199254740992 := uu_eq
  obtain ⟨t1, t2⟩ := zone_off lon
  obtain ⟨⟨fx, bx⟩, ⟨fy, bY⟩⟩ := pt_near l1 l2 hok
  obtain ⟨hi, hlat, hlon⟩ := grid_back l1 l2 t1 t2 fx fy bx bY
  generalize pX (gE lon lat) = x at *
  generalize pY (decide (lat < 0)) (gN lon lat) = y at *
  obtain ⟨rr, hrr⟩ := lat_some (isoP gF) (fT gA gF gS x y) _ (-89000000000) 89000000001 (Nat.le_refl _)
  obtain ⟨b1, b2⟩ := hlat rr hrr
  obtain ⟨fc, c0, c1, _⟩ := cos_84 (m := lat) (by omega) (by omega)
  have e1 : apartP rr lat = rr - lat := by
    unfold apartP signP normP
    split <;> omega
  have r2 : ∀ z : Int, -180000000000 ≤ z → z ≤ 180000000000 → 0 ≤ (if z < 0 then -z else z) ∧ (if z < 0 then -z else z) ≤ 180000000000 := by intro z h1 h2; split <;> omega
  have r3 := r2 (apartP (fLon gA gF gS ((6 * zoneP lon - 183) * 1000000000) x y) lon) (by unfold apartP; exact (signP_range _).1) (by unfold apartP; exact (signP_range _).2)
  have n1b : 0 ≤ (if apartP rr lat < 0 then -apartP rr lat else apartP rr lat) ∧ (if apartP rr lat < 0 then -apartP rr lat else apartP rr lat) ≤ 20000 := by rw [e1]; split <;> omega
  refine ⟨fLon gA gF gS ((6 * zoneP lon - 183) * 1000000000) x y, rr, _, _, ⟨apart_c _ _, apart_c _ _, cosLat_c lat, fun h1 h2 => by rw [h1, h2], n1b.2, ?_⟩, ?_⟩
  · generalize (if apartP (fLon gA gF gS ((6 * zoneP lon - 183) * 1000000000) x y) lon < 0 then -apartP (fLon gA gF gS ((6 * zoneP lon - 183) * 1000000000) x y) lon else apartP (fLon gA gF gS ((6 * zoneP lon - 183) * 1000000000) x y) lon) = n at *
    intro r hr
    obtain ⟨fi, ei⟩ := vl_int n (by omega)
    rw [fi.can, fc.can] at hr
    have t0 := castle r3.1
    have e0 : ((0 : Int) : Rat) = 0 := rfl
    rw [e0] at t0
    have nk := Rat.mul_nonneg t0 (show 0 ≤ vl (cosP lat) by grind)
    obtain ⟨f2, e2⟩ := mulE fi fc 10700 (by rw [ei]; exact ⟨by grind, hlon⟩) (by grind)
    obtain rfl := real_eq hr f2
    have := (fle_vl f2 v_2e4.1).2 (by
      rw [v_2e4.2]
      rw [ei] at e2
      obtain ⟨_, e3⟩ := e2
      rw [u1] at e3
      grind)
    exact this
  · intro w h8
    exact (sfrom_ok gA gF ((6 * zoneP lon - 183) * 1000000000) gS x y rr w h8 grid_fine hi hrr).mono (fun _ _ ⟨he, hx⟩ => ⟨_, he, .nil, hx⟩)
end Go.Proofs.YtcppgbhjbmfldaaGreatDoor
