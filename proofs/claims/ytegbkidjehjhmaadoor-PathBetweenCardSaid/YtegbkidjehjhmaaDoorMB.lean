/- Walks: the geodesic between two places, the cases in which there is none; the two contracts. -/
import Derived.Test.YtegbkidjehjhmaaDoorMA
namespace Go.Proofs.YtegbkidjehjhmaaDoor
open Go.RowKit Go.Fp Go.Rel
set_option maxRecDepth 20000

/-- why two places are refused -/
def RangeL (p q : Int) : Prop := 90000000000 < p ∨ (p ≤ 90000000000 ∧ p < -90000000000) ∨ (p ≤ 90000000000 ∧ -90000000000 ≤ p ∧ 90000000000 < q) ∨ (p ≤ 90000000000 ∧ -90000000000 ≤ p ∧ q ≤ 90000000000 ∧ q < -90000000000)
/-- the line, or the error's number -/
inductive LineIs (v : LineV) : Nat → Int → Int → Int → Prop
  | shape (h : okG v.a v.f = false) : LineIs v 0 0 0 3
  | range (h : okG v.a v.f = true) (hr : RangeL v.latA v.latB) : LineIs v 0 0 0 4
  | none (h : okG v.a v.f = true) (h1 : v.latA ≤ 90000000000) (h2 : -90000000000 ≤ v.latA) (h3 : v.latB ≤ 90000000000) (h4 : -90000000000 ≤ v.latB) (hg : v.go 60 v.all = Option.none) : LineIs v 0 0 0 6
  | ok (h : okG v.a v.f = true) (h1 : v.latA ≤ 90000000000) (h2 : -90000000000 ≤ v.latA) (h3 : v.latB ≤ 90000000000) (h4 : -90000000000 ≤ v.latB) (x : Nat) (hg : v.go 60 v.all = some x) : LineIs v (v.far x) (v.outA x) (v.inA x) 0
theorem line_some (v : LineV) : ∃ far o i k, LineIs v far o i k := by
  cases h : okG v.a v.f
  · exact ⟨_, _, _, _, .shape h⟩
  rcases Int.lt_or_le 90000000000 v.latA with h1 | h1
  · exact ⟨_, _, _, _, .range h (.inl h1)⟩
  rcases Int.lt_or_le v.latA (-90000000000) with h2 | h2
  · exact ⟨_, _, _, _, .range h (.inr (.inl ⟨h1, h2⟩))⟩
  rcases Int.lt_or_le 90000000000 v.latB with h3 | h3
  · exact ⟨_, _, _, _, .range h (.inr (.inr (.inl ⟨h1, h2, h3⟩)))⟩
  rcases Int.lt_or_le v.latB (-90000000000) with h4 | h4
  · exact ⟨_, _, _, _, .range h (.inr (.inr (.inr ⟨h1, h2, h3, h4⟩)))⟩
  cases hg : v.go 60 v.all with
  | none => exact ⟨_, _, _, _, .none h h1 h2 h3 h4 hg⟩
  | some x => exact ⟨_, _, _, _, .ok h h1 h2 h3 h4 x hg⟩

set_option maxHeartbeats 4000000 in
theorem lineOf_shape (a f : Nat) (lonA latA lonB latB : Int) (w : World) (h : okG a f = false) :
    Calls Tryd.prog 15 #[globeV a f, placeV lonA latA, placeV lonB latB] w (LineQ 0 0 0 3 w) := by
  have HG : Hid (∀ w, Calls Tryd.prog 22 #[globeV a f] w (ExR (.int .i64 3) w)) := fun w => by simpa [h] using globeError_c a f w
  clear h
  go_enter Tryd.func15, Tryd.ntmps15
  go_wp2_with (first
    | (go_at_call 22; refine (HG.out _).mono ?_; rintro e w1 ⟨rfl, hx1⟩; obtain ⟨hB, hw1⟩ := ext4 hx1)
    | (refine wpList_own rfl 44 _ _ rfl _ _ rfl rfl _ _ (show Blk _ _ _ _ from hB.2.2.2.1) (by kernel_rfl) rfl (by simp [Value.oneCell']) ?_; go_must (intro w2 hb4 hk2 _; have hw2 : Ext w w2 := hk2 w hw1 (by omega); have c4 := hb4.cell; clear hk2)))
  exact bodyPost_ret (v := .tuple #[lineV 0 0 0, .int .i64 3]) (by simp [results, Tryd.results15, go_sem, c4]) rfl ⟨0, rfl, can0, hw2⟩

set_option maxHeartbeats 8000000 in
theorem lineOf_range (a f : Nat) (lonA latA lonB latB : Int) (w : World) (h : okG a f = true) (hr : RangeL latA latB) :
    Calls Tryd.prog 15 #[globeV a f, placeV lonA latA, placeV lonB latB] w (LineQ 0 0 0 4 w) := by
  have HG : Hid (∀ w, Calls Tryd.prog 22 #[globeV a f] w (ExR (.int .i64 0) w)) := fun w => by simpa [h] using globeError_c a f w
  clear h
  rcases hr with hr | ⟨h1, h2⟩ | ⟨h1, h2, h3⟩ | ⟨h1, h2, h3, h4⟩
  all_goals
    go_enter Tryd.func15, Tryd.ntmps15
    go_wp2_with (first
      | (go_at_call 22; refine (HG.out _).mono ?_; rintro e w1 ⟨rfl, hx1⟩; obtain ⟨hB, hw1⟩ := ext4 hx1; have kc := And.intro hB.2.1.cell hB.2.2.1.cell)
      | (refine wpList_own rfl 44 _ _ rfl _ _ rfl rfl _ _ (show Blk _ _ _ _ from hB.2.2.2.1) (by kernel_rfl) rfl (by simp [Value.oneCell']) ?_; go_must (intro w2 hb4 hk2 _; have hw2 : Ext w w2 := hk2 w hw1 (by omega); have c4 := hb4.cell; clear kc hk2)))
    exact bodyPost_ret (v := .tuple #[lineV 0 0 0, .int .i64 4]) (by simp [results, Tryd.results15, go_sem, c4]) rfl ⟨0, rfl, can0, hw2⟩

theorem lineOf_c {v : LineV} {far : Nat} {o i k : Int} (h : LineIs v far o i k) (w : World) :
    Calls Tryd.prog 15 #[globeV v.a v.f, placeV v.lonA v.latA, placeV v.lonB v.latB] w (LineQ far o i k w) := by
  cases h with
  | shape h => exact lineOf_shape _ _ _ _ _ _ w h
  | range h hr => exact lineOf_range _ _ _ _ _ _ w h hr
  | none h h1 h2 h3 h4 hg => exact lineOf_ok v w h h1 h2 h3 h4 _ hg _ (fun _ _ _ h => h) (fun _ e => by cases e)
  | ok h h1 h2 h3 h4 x hg => exact lineOf_ok v w h h1 h2 h3 h4 _ hg _ (fun e => by cases e) (fun _ e _ _ h => by cases e; exact h)

set_option maxHeartbeats 4000000 in
theorem between_shape {A : Nat → Addr} (a f : Nat) (lonA latA lonB latB : Int) (w : World) (h8 : World8 A w) (h : okG a f = false) :
    Calls Tryd.prog 13 #[globeV a f, placeV lonA latA, placeV lonB latB] w (LineR A 0 0 0 3 w) := by
  have HV : Hid (∀ w, World8 A w → Calls Tryd.prog 39 #[globeV a f] w (ExR (errV (A 3)) w)) := fun w h' => by simpa [h] using valid_c a f w h'
  clear h
  go_enter Tryd.func13, Tryd.ntmps13
  go_wp2_with (first
    | (go_at_call 39; refine (HV.out _ (h8.ext (by repeat (first | exact Ext.refl _ | refine Ext.alloc ?_ _)))).mono ?_; rintro e w1 ⟨rfl, hx1⟩; obtain ⟨hB, hw1⟩ := ext4 hx1)
    | (refine wpList_own rfl 37 _ _ rfl _ _ rfl rfl _ _ (show Blk _ _ _ _ from hB.2.2.2.1) (by kernel_rfl) rfl (by simp [Value.oneCell']) ?_; go_must (intro w2 hb4 hk2 _; have hw2 : Ext w w2 := hk2 w hw1 (by omega); have c4 := hb4.cell; clear hk2)))
  exact bodyPost_ret (v := .tuple #[lineV 0 0 0, errV (A 3)]) (by simp [results, Tryd.results13, go_sem, c4]) rfl ⟨0, _, rfl, can0, .shape, hw2⟩

set_option maxHeartbeats 8000000 in
theorem between_range {A : Nat → Addr} (a f : Nat) (lonA latA lonB latB : Int) (w : World) (h8 : World8 A w) (h : okG a f = true) (hr : RangeL latA latB) :
    Calls Tryd.prog 13 #[globeV a f, placeV lonA latA, placeV lonB latB] w (LineR A 0 0 0 4 w) := by
  have HV : Hid (∀ w, World8 A w → Calls Tryd.prog 39 #[globeV a f] w (ExR .nilIface w)) := fun w h' => by simpa [h] using valid_c a f w h'
  clear h
  have hc : (decide (latA ≤ 90000000000 ∧ -90000000000 ≤ latA) = false) ∨ (decide (latA ≤ 90000000000 ∧ -90000000000 ≤ latA) = true ∧ decide (latB ≤ 90000000000 ∧ -90000000000 ≤ latB) = false) := by
    rcases hr with hr | ⟨h1, h2⟩ | ⟨h1, h2, h3⟩ | ⟨h1, h2, h3, h4⟩
    · exact .inl (decide_eq_false (by omega))
    · exact .inl (decide_eq_false (by omega))
    · exact .inr ⟨decide_eq_true ⟨h1, h2⟩, decide_eq_false (by omega)⟩
    · exact .inr ⟨decide_eq_true ⟨h1, h2⟩, decide_eq_false (by omega)⟩
  clear hr
  have HLA := Lib.hid (fun w => pathLat_c latA w)
  have HLB := Lib.hid (fun w => pathLat_c latB w)
  have tl : Hid True := trivial
  generalize decide (latA ≤ 90000000000 ∧ -90000000000 ≤ latA) = dA at *
  generalize decide (latB ≤ 90000000000 ∧ -90000000000 ≤ latB) = dB at *
  rcases hc with rfl | ⟨rfl, rfl⟩
  all_goals
    go_enter Tryd.func13, Tryd.ntmps13
    go_wp2_with (first
      | (go_at_call 39; refine (HV.out _ (h8.ext (by repeat (first | exact Ext.refl _ | refine Ext.alloc ?_ _)))).mono ?_; rintro e w1 ⟨rfl, hx1⟩; obtain ⟨hB, hw1⟩ := ext4 hx1; have kc := And.intro hB.2.1.cell hB.2.2.1.cell)
      | (go_at_call 40; clear tl; go_must (refine (HLA.out _).mono ?_; rintro e v1 ⟨rfl, hx⟩; clear kc; replace hB := hB.ext hx; replace hw1 := hw1.trans hx; clear hx; have kc := And.intro hB.2.1.cell hB.2.2.1.cell))
      | (go_at_call 40; go_must (refine (HLB.out _).mono ?_; rintro e v1 ⟨rfl, hx⟩; clear kc; replace hB := hB.ext hx; replace hw1 := hw1.trans hx; clear hx; have kc := And.intro hB.2.1.cell hB.2.2.1.cell)))
    have hl0 := cell_lt (h8.errs.cell 0 (by decide))
    have kg := (h8.ext hw1).errs.cell 0 (by decide)
    have hne : ¬ (0 = w.heap.size + 1 + 1 + 1) := by omega
    have hne' : ¬ (w.heap.size + 1 + 1 + 1 = 0) := by omega
    have hR := hB.2.2.2.1
    have c3 := hR.cell
    have f3 := hR.frozen
    have hlt := hR.lt
    clear kc hB hx1 HV
    go_region
    all_goals go_wp2
    all_goals exact bodyPost_ret (v := .tuple #[lineV 0 0 0, errV (A 0)]) (by simp [results, Tryd.results13, go_sem, c3]) rfl ⟨0, _, rfl, can0, .range, (by repeat (first | exact hw1 | refine Ext.drew ?_ | refine Ext.setCell ?_ (by simp; omega) _))⟩

theorem between_c' {A : Nat → Addr} {v : LineV} {far : Nat} {o i k : Int} (h : LineIs v far o i k) (w : World) (h8 : World8 A w) :
    Calls Tryd.prog 13 #[globeV v.a v.f, placeV v.lonA v.latA, placeV v.lonB v.latB] w (LineR A far o i k w) := by
  cases h with
  | shape h => exact between_shape _ _ _ _ _ _ w h8 h
  | range h hr => exact between_range _ _ _ _ _ _ w h8 h hr
  | none h h1 h2 h3 h4 hg => exact between_ok v w h8 h h1 h2 h3 h4 _ hg _ (fun _ _ _ h => h) (fun _ e => by cases e)
  | ok h h1 h2 h3 h4 x hg => exact between_ok v w h8 h h1 h2 h3 h4 _ hg _ (fun e => by cases e) (fun _ e _ _ h => by cases e; exact h)

end Go.Proofs.YtegbkidjehjhmaaDoor
