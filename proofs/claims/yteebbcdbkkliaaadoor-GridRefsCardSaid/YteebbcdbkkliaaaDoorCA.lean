/- Walks: zones, a zone's middle, a reference as package grid has it. -/
import Derived.Test.YteebbcdbkkliaaaDoorDD
import Derived.Test.YteebbcdbkkliaaaDoorZD
namespace Go.Proofs.YteebbcdbkkliaaaDoor
open Go.RowKit Go.Fp Go.Rel Go.Lib
set_option maxRecDepth 20000

/-- the zone of an angle -/
def zoneP (a : Int) : Int := if signP a = 180000000000 then 1 else (signP a + 180000000000) / 6000000000 + 1
theorem sign_range (a : Int) : -180000000000 < signP a ∧ signP a ≤ 180000000000 := by
  have h := norm_range a
  unfold signP
  split <;> omega
set_option maxHeartbeats 4000000 in
theorem zone_c (a : Int) (w : World) : Calls Tryd.prog 15 #[.int .i64 a] w (ExR (.int .i64 (zoneP a)) w) := by
  obtain ⟨n1, n2⟩ := sign_range a
  have HN := Lib.hid (signed_c a)
  unfold zoneP
  generalize signP a = l at *
  by_cases h : l = 180000000000
  · rw [if_pos h]
    subst h
    go_enter Tryd.func15, Tryd.ntmps15
    go_wp2_with (first | (go_at_call 36; go_must (refine (HN.out _).mono ?_; rintro e w1 ⟨rfl, hx⟩)))
    go_ret
    exact ⟨rfl, hx⟩
  · rw [if_neg h]
    go_enter Tryd.func15, Tryd.ntmps15
    go_wp2_with (first | (go_at_call 36; go_must (refine (HN.out _).mono ?_; rintro e w1 ⟨rfl, hx⟩)))
    go_ret
    refine ⟨?_, hx⟩
    first | rfl | (congr 1; omega)

set_option maxHeartbeats 4000000 in
theorem zoneOf_c (a : Int) (w : World) : Calls Tryd.prog 16 #[.int .i64 a] w (ExR (.int .i64 (zoneP a)) w) := by
  obtain ⟨n1, n2⟩ := sign_range a
  have HN := Lib.hid (signedAngle_c a)
  unfold zoneP
  generalize signP a = l at *
  by_cases h : l = 180000000000
  · rw [if_pos h]
    subst h
    go_enter Tryd.func16, Tryd.ntmps16
    go_wp2_with (first | (go_at_call 37; go_must (refine (HN.out _).mono ?_; rintro e w1 ⟨rfl, hx⟩)))
    go_ret
    exact ⟨rfl, hx⟩
  · rw [if_neg h]
    obtain ⟨q, hq⟩ : ∃ q : Nat, (q : Int) = (l + 180000000000) / 6000000000 := ⟨((l + 180000000000) / 6000000000).toNat, by omega⟩
    rw [← hq]
    have q1 : 6000000000 * (q : Int) ≤ l + 180000000000 := by omega
    have q2 : l + 180000000000 < 6000000000 * (q : Int) + 6000000000 := by omega
    have q3 : q < 60 := by omega
    clear hq
    have h2 : ¬ 2 * l = 360000000000 := by omega
    go_enter Tryd.func16, Tryd.ntmps16
    go_wp2_with (first | (go_at_call 37; go_must (refine (HN.out _).mono ?_; rintro e w1 ⟨rfl, hx⟩)))
    go_loopw [4] (fun zv wr => ∃ (k : Nat), zv = .int .i64 ((k : Int) + 1) ∧ k ≤ q ∧ Ext w wr) (fun zv _ => q + 1 - (RowKit.intOf zv).toNat)
    case atStart => exact ⟨0, rfl, by omega, hx⟩
    case round =>
      obtain ⟨k, rfl, hk, hw⟩ := hrel
      rcases Nat.lt_or_ge k q with hlt | hge
      · have hge2 : (6 * ((k : Int) + 1) - 180) * 1000000000 ≤ l := by omega
        go_wp2_with fail
        go_roundw
        case rel => exact ⟨k + 1, by simp, by omega, hw⟩
        all_goals (simp [RowKit.intOf]; omega)
      · obtain rfl : k = q := by omega
        have hge2 : ¬ (6 * ((k : Int) + 1) - 180) * 1000000000 ≤ l := by omega
        go_wp2_with fail
        go_ret
        exact ⟨rfl, hw⟩

set_option maxHeartbeats 4000000 in
theorem middle_ok (z : Int) (h1 : 1 ≤ z) (h2 : z ≤ 60) (w : World) : Calls Tryd.prog 13 #[.int .i64 z] w (ExR (.tuple #[.int .i64 ((6 * z - 183) * 1000000000), .nilIface]) w) := by
  go_enter Tryd.func13, Tryd.ntmps13
  go_wp2_with fail
  exact bodyPost_ret (v := .tuple #[.int .i64 ((6 * z - 183) * 1000000000), .nilIface]) (by simp [results, Tryd.results13, go_sem]) rfl ⟨rfl, Ext.refl _⟩
set_option maxHeartbeats 4000000 in
theorem middle_bad {A : Nat → Addr} (z : Int) (h : ¬ (1 ≤ z ∧ z ≤ 60)) (w : World) (hW : WorldG A w) : Calls Tryd.prog 13 #[.int .i64 z] w (ExR (.tuple #[.int .i64 0, errV (A 0)]) w) := by
  have kg := hW.rng
  by_cases h1 : z < 1
  · clear h
    go_enter Tryd.func13, Tryd.ntmps13
    go_wp2_with fail
    go_region
    all_goals go_wp2_with fail
    all_goals exact bodyPost_ret (v := .tuple #[.int .i64 0, errV (A 0)]) (by simp [results, Tryd.results13, go_sem]) rfl ⟨rfl, (by repeat (first | exact Ext.refl _ | refine Ext.drew ?_))⟩
  · have h2 : 60 < z := by omega
    clear h
    go_enter Tryd.func13, Tryd.ntmps13
    go_wp2_with fail
    go_region
    all_goals go_wp2_with fail
    all_goals exact bodyPost_ret (v := .tuple #[.int .i64 0, errV (A 0)]) (by simp [results, Tryd.results13, go_sem]) rfl ⟨rfl, (by repeat (first | exact Ext.refl _ | refine Ext.drew ?_))⟩

set_option maxHeartbeats 4000000 in
theorem zoned_c (w : World) : Calls Tryd.prog 12 #[] w (ExR (.bool true) w) := by
  go_enter Tryd.func12, Tryd.ntmps12
  go_wp2_with (first
    | (go_at_call 13; go_must (refine (middle_ok 31 (by decide) (by decide) _).mono ?_; rintro e w1 ⟨rfl, hx⟩))
    | (go_at_call 15; go_must (refine (zone_c _ _).mono ?_; rintro e w2 ⟨rfl, hx2⟩)))
  go_ret
  exact ⟨by first | rfl | (simp; decide), hx.trans hx2⟩

set_option maxHeartbeats 4000000 in
theorem gref_c (z : Int) (s : Bool) (e n : Int) (w : World) : Calls Tryd.prog 17 #[refV z s e n] w (ExR (refV z s e n) w) := by
  go_enter Tryd.func17, Tryd.ntmps17
  go_wp2_with fail
  exact bodyPost_ret (v := refV z s e n) (by simp [results, Tryd.results17, go_sem]) rfl ⟨rfl, by repeat (first | exact Ext.refl _ | refine Ext.alloc ?_ _ | refine Ext.setCell ?_ (by simp) _)⟩
end Go.Proofs.YteebbcdbkkliaaaDoor
