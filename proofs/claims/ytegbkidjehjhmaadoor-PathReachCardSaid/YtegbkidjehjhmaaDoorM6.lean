/- Walk: where one comes to along a geodesic, package path's, with the cases in which there is none. -/
import Derived.Test.YtegbkidjehjhmaaDoorM5
namespace Go.Proofs.YtegbkidjehjhmaaDoor
open Go.RowKit Go.Fp Go.Rel
set_option maxRecDepth 20000

set_option maxHeartbeats 4000000 in
theorem reach_shape {A : Nat → Addr} (a f : Nat) (lon lat out : Int) (far : Nat) (w : World) (h8 : World8 A w) (h : okG a f = false) :
    Calls Tryd.prog 18 #[globeV a f, placeV lon lat, .int .i64 out, .float .f64 far] w (ReachR A 0 0 3 w) := by
  have HV : Hid (∀ w, World8 A w → Calls Tryd.prog 39 #[globeV a f] w (ExR (errV (A 3)) w)) := fun w h' => by simpa [h] using valid_c a f w h'
  clear h
  go_enter Tryd.func18, Tryd.ntmps18
  go_wp2_with (first
    | (go_at_call 39; refine (HV.out _ (h8.ext (by repeat (first | exact Ext.refl _ | refine Ext.alloc ?_ _)))).mono ?_; rintro e w1 ⟨rfl, hx1⟩; obtain ⟨hb1, hb2, hb3, hw1⟩ := ext3 hx1)
    | (refine wpList_own rfl 35 _ _ rfl _ _ rfl rfl _ _ hb3 (by kernel_rfl) rfl (by simp [Value.oneCell']) ?_; intro w2 hb4 hk2 _; have hw2 : Ext w w2 := hk2 _ hw1 (by omega); have c4 := hb4.cell; clear hb3 hk2))
  exact bodyPost_ret (v := .tuple #[placeV 0 0, errV (A 3)]) (by simp [results, Tryd.results18, go_sem, c4]) rfl ⟨_, rfl, .shape, hw2⟩

set_option maxHeartbeats 8000000 in
theorem reach_range {A : Nat → Addr} (a f : Nat) (lon lat out : Int) (far : Nat) (w : World) (h8 : World8 A w) (h : okG a f = true) (hr : FarV lat far) :
    Calls Tryd.prog 18 #[globeV a f, placeV lon lat, .int .i64 out, .float .f64 far] w (ReachR A 0 0 4 w) := by
  have HV : Hid (∀ w, World8 A w → Calls Tryd.prog 39 #[globeV a f] w (ExR .nilIface w)) := fun w h' => by simpa [h] using valid_c a f w h'
  clear h
  have hc : (decide (lat ≤ 90000000000 ∧ -90000000000 ≤ lat) = false) ∨ (decide (lat ≤ 90000000000 ∧ -90000000000 ≤ lat) = true ∧ btw far 0 far2 = false) := by
    rcases hr with hr | ⟨h1, h2⟩ | ⟨h1, h2, h3⟩
    · exact .inl (decide_eq_false (by omega))
    · exact .inl (decide_eq_false (by omega))
    · exact .inr ⟨decide_eq_true ⟨h1, h2⟩, h3⟩
  clear hr
  have HL := Lib.hid (fun w => pathLat_c lat w)
  generalize decide (lat ≤ 90000000000 ∧ -90000000000 ≤ lat) = dl at *
  rcases hc with rfl | ⟨rfl, h3⟩
  rotate_left
  · rcases btw_false h3 with (o1 | o1) | ⟨o1 | o1, o2 | o2⟩
    all_goals
      clear h3
      go_enter Tryd.func18, Tryd.ntmps18
      go_wp2_with (first
        | (go_at_call 39; refine (HV.out _ (h8.ext (by repeat (first | exact Ext.refl _ | refine Ext.alloc ?_ _)))).mono ?_; rintro e w1 ⟨rfl, hx1⟩; obtain ⟨hb1, hb2, hb3, hw1⟩ := ext3 hx1; have c2 := hb2.cell)
        | (go_at_call 40; go_must (refine (HL.out _).mono ?_; rintro e v1 ⟨rfl, hx⟩; clear c2; replace hb3 := hb3.ext hx; replace hw1 := hw1.trans hx; clear hx)))
      have hl0 := cell_lt (h8.errs.cell 0 (by decide))
      have kg := (h8.ext hw1).errs.cell 0 (by decide)
      have hne : ¬ (0 = w.heap.size + 1 + 1) := by omega
      have hne' : ¬ (w.heap.size + 1 + 1 = 0) := by omega
      have c3 := hb3.cell
      have f3 := hb3.frozen
      have hlt := hb3.lt
      clear hb1 hb2 hx1 HV
      go_region
      all_goals go_wp2
      all_goals exact bodyPost_ret (v := .tuple #[placeV 0 0, errV (A 0)]) (by simp [results, Tryd.results18, go_sem, c3]) rfl ⟨_, rfl, .range, (by repeat (first | exact hw1 | refine Ext.drew ?_ | refine Ext.setCell ?_ (by simp; omega) _))⟩
  all_goals
    go_enter Tryd.func18, Tryd.ntmps18
    go_wp2_with (first
      | (go_at_call 39; refine (HV.out _ (h8.ext (by repeat (first | exact Ext.refl _ | refine Ext.alloc ?_ _)))).mono ?_; rintro e w1 ⟨rfl, hx1⟩; obtain ⟨hb1, hb2, hb3, hw1⟩ := ext3 hx1; have c2 := hb2.cell)
      | (go_at_call 40; go_must (refine (HL.out _).mono ?_; rintro e v1 ⟨rfl, hx⟩; clear c2; replace hb3 := hb3.ext hx; replace hw1 := hw1.trans hx; clear hx)))
    have hl0 := cell_lt (h8.errs.cell 0 (by decide))
    have kg := (h8.ext hw1).errs.cell 0 (by decide)
    have hne : ¬ (0 = w.heap.size + 1 + 1) := by omega
    have hne' : ¬ (w.heap.size + 1 + 1 = 0) := by omega
    have c3 := hb3.cell
    have f3 := hb3.frozen
    have hlt := hb3.lt
    clear hb1 hb2 hx1 HV
    go_region
    all_goals go_wp2
    all_goals exact bodyPost_ret (v := .tuple #[placeV 0 0, errV (A 0)]) (by simp [results, Tryd.results18, go_sem, c3]) rfl ⟨_, rfl, .range, (by repeat (first | exact hw1 | refine Ext.drew ?_ | refine Ext.setCell ?_ (by simp; omega) _))⟩

theorem reach_c {A : Nat → Addr} {v : ReachV} {x y k : Int} (h : ReachIs v x y k) (w : World) (h8 : World8 A w) :
    Calls Tryd.prog 18 #[globeV v.a v.f, placeV v.lon v.lat, .int .i64 v.out, .float .f64 v.far] w (ReachR A x y k w) := by
  cases h with
  | shape h => exact reach_shape _ _ _ _ _ _ w h8 h
  | range1 h h1 => exact reach_range _ _ _ _ _ _ w h8 h (.inl h1)
  | range2 h h1 h2 => exact reach_range _ _ _ _ _ _ w h8 h (.inr (.inl ⟨h1, h2⟩))
  | range3 h h1 h2 h3 => exact reach_range _ _ _ _ _ _ w h8 h (.inr (.inr ⟨h1, h2, h3⟩))
  | none h h1 h2 h3 h4 => have := reach_ok v w h8 h h1 h2 h3; rw [h4] at this; exact this
  | ok h h1 h2 h3 h4 => have := reach_ok v w h8 h h1 h2 h3; rw [h4] at this; exact this
end Go.Proofs.YtegbkidjehjhmaaDoor
