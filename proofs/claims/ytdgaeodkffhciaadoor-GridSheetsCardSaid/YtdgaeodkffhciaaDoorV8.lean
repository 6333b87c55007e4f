/- Walks: the vector of a place on a globe, the reference's. -/
import Derived.Test.YtdgaeodkffhciaaDoorV7
namespace Go.Proofs.YtdgaeodkffhciaaDoor
open Go.RowKit Go.Fp Go.Rel
set_option maxRecDepth 20000

def VecQ (X Y Z : Nat) (k : Int) (w : World) (e : Ending) (w' : World) : Prop :=
  ∃ x y z, e = .returned (.tuple #[vecV x y z, .int .i64 k]) ∧ can x = X ∧ can y = Y ∧ can z = Z ∧ Ext w w'

set_option maxHeartbeats 4000000 in
theorem vecOf_shape (a f : Nat) (lon lat : Int) (high : Nat) (w : World) (h : okG a f = false) :
    Calls Tryd.prog 28 #[globeV a f, placeV lon lat, .float .f64 high] w (VecQ 0 0 0 3 w) := by
  have HG : Hid (∀ w, Calls Tryd.prog 21 #[globeV a f] w (ExR (.int .i64 3) w)) := fun w => by simpa [h] using globeError_c a f w
  clear h
  go_enter Tryd.func28, Tryd.ntmps28
  go_wp2_with (first
    | (go_at_call 21; refine (HG.out _).mono ?_; rintro e w1 ⟨rfl, hx1⟩; obtain ⟨hb1, hb2, hb3, hw1⟩ := ext3 hx1)
    | (refine wpList_own rfl 66 _ _ rfl _ _ rfl rfl _ _ hb3 (by kernel_rfl) rfl (by simp [Value.oneCell']) ?_; intro w2 hb4 hk2 _; have hw2 : Ext w w2 := hk2 _ hw1 (by omega); have c4 := hb4.cell; clear hb3 hk2))
  exact bodyPost_ret (v := .tuple #[vecV 0 0 0, .int .i64 3]) (by simp [results, Tryd.results28, go_sem, c4]) rfl ⟨0, 0, 0, rfl, can0, can0, can0, hw2⟩

set_option maxHeartbeats 8000000 in
theorem vecOf_range (a f : Nat) (lon lat : Int) (high : Nat) (w : World) (h : okG a f = true) (hr : RangeV lat high) :
    Calls Tryd.prog 28 #[globeV a f, placeV lon lat, .float .f64 high] w (VecQ 0 0 0 4 w) := by
  have HG : Hid (∀ w, Calls Tryd.prog 21 #[globeV a f] w (ExR (.int .i64 0) w)) := fun w => by simpa [h] using globeError_c a f w
  have HB := Lib.hid (between_c high cLo cHi)
  clear h
  have hr' : 90000000000 < lat ∨ (lat ≤ 90000000000 ∧ lat < -90000000000) ∨ (lat ≤ 90000000000 ∧ -90000000000 ≤ lat ∧ btw high cLo cHi = false) := hr
  clear hr
  generalize btw high cLo cHi = b at *
  rcases hr' with hr | ⟨h1, h2⟩ | ⟨h1, h2, rfl⟩
  all_goals
    go_enter Tryd.func28, Tryd.ntmps28
    go_wp2_with (first
      | (go_at_call 21; refine (HG.out _).mono ?_; rintro e w1 ⟨rfl, hx1⟩; obtain ⟨hb1, hb2, hb3, hw1⟩ := ext3 hx1)
      | (go_at_call 42; refine (HB.out _).mono ?_; rintro e w2 ⟨rfl, hx2⟩; replace hb2 := hb2.ext hx2; replace hb3 := hb3.ext hx2; have hw2 := hw1.trans hx2; have c2 := hb2.cell)
      | (refine wpList_own rfl 66 _ _ rfl _ _ rfl rfl _ _ hb3 (by kernel_rfl) rfl (by simp [Value.oneCell']) ?_; intro w3 hb4 hk3 _; have hw3 : Ext w w3 := hk3 _ hw2 (by omega); have c4 := hb4.cell; clear hb3 hk3 c2))
    exact bodyPost_ret (v := .tuple #[vecV 0 0 0, .int .i64 4]) (by simp [results, Tryd.results28, go_sem, c4]) rfl ⟨0, 0, 0, rfl, can0, can0, can0, hw3⟩

set_option maxHeartbeats 16000000 in
theorem vecOf_ok (a f : Nat) (lon lat : Int) (high : Nat) (w : World) (h : okG a f = true) (h1 : lat ≤ 90000000000) (h2 : -90000000000 ≤ lat) (h3 : btw high cLo cHi = true) :
    Calls Tryd.prog 28 #[globeV a f, placeV lon lat, .float .f64 high] w
      (VecQ (fmul (vecD a f lat high) (can (cosP lon))) (fmul (vecD a f lat high) (can (sinP lon))) (vecZ a f lat high) 0 w) := by
  have HG : Hid (∀ w, Calls Tryd.prog 21 #[globeV a f] w (ExR (.int .i64 0) w)) := fun w => by simpa [h] using globeError_c a f w
  have HB : Hid (∀ w, Calls Tryd.prog 42 #[.float .f64 high, .float .f64 cLo, .float .f64 cHi] w (ExR (.bool true) w)) := fun w => by rw [← h3]; exact between_c high cLo cHi w
  have tk : Hid True := trivial
  clear h h3
  unfold vecD vecZ
  go_enter Tryd.func28, Tryd.ntmps28
  go_wp2_with (first
    | (go_at_call 21; refine (HG.out _).mono ?_; rintro e w1 ⟨rfl, hx1⟩; obtain ⟨hb1, hb2, hb3, hw1⟩ := ext3 hx1)
    | (go_at_call 42; refine (HB.out _).mono ?_; rintro e w2 ⟨rfl, hx2⟩; replace hb1 := hb1.ext hx2; replace hb2 := hb2.ext hx2; replace hb3 := hb3.ext hx2; have hw2 := hw1.trans hx2; have c1 := hb1.cell; have c2 := hb2.cell)
    | (go_at_call 25; refine (crossOf_c a f lat _).mono ?_; rintro e w3 ⟨rn, rfl, hrn, hx3⟩; clear c1 c2; replace hb1 := hb1.ext hx3; replace hb2 := hb2.ext hx3; replace hb3 := hb3.ext hx3; have hw3 := hw2.trans hx3; have c1 := hb1.cell; have c2 := hb2.cell)
    | (go_at_call 46; clear tk; refine (sincos_c lat _).mono ?_; rintro e w' ⟨rfl, rfl⟩)
    | (go_at_call 46; refine (sincos_c lon _).mono ?_; rintro e w' ⟨rfl, rfl⟩)
    | (go_at_call 47; refine (squareOf_c a f _).mono ?_; rintro e w4 ⟨rs, rfl, hrs, hx4⟩; replace hx4 : Ext w3 w4 := (by first | exact hx4.of_drewN | exact hx4.of_drewN.of_drewN); clear c1 c2; replace hb3 := hb3.ext hx4; have hw4 := hw3.trans hx4)
    | (with_reducible refine upon_fl rfl ?_; intro r n hr)
    | (refine wpList_own rfl 66 _ _ rfl _ _ rfl rfl _ _ (show Blk _ _ _ _ from hb3) (by kernel_rfl) rfl (by simp [Value.oneCell']) ?_; intro w5 hb4 hk5 _; have hw5 : Ext w w5 := hk5 _ (by repeat (first | exact hw4 | refine Ext.drewN ?_ _)) (by omega); have c4 := hb4.cell; clear hb3 hk5))
  refine bodyPost_ret (v := .tuple #[vecV _ _ _, .int .i64 0]) (by simp [results, Tryd.results28, go_sem, c4]; exact ⟨rfl, rfl, rfl⟩) rfl ⟨_, _, _, rfl, ?_, ?_, ?_, hw5⟩
  all_goals simp only [*, fbin]

theorem vec_c {A : Nat → Addr} {a f : Nat} {lon lat : Int} {high x y z : Nat} {k : Int} (h : VecIs a f lon lat high x y z k) (w : World) (h8 : World8 A w) :
    Calls Tryd.prog 27 #[globeV a f, placeV lon lat, .float .f64 high] w (VecR A x y z k w) := by
  cases h with
  | shape h => exact vec_shape a f lon lat high w h8 h
  | range1 h h1 => exact vec_range a f lon lat high w h8 h (.inl h1)
  | range2 h h1 h2 => exact vec_range a f lon lat high w h8 h (.inr (.inl ⟨h1, h2⟩))
  | range3 h h1 h2 h3 => exact vec_range a f lon lat high w h8 h (.inr (.inr ⟨h1, h2, h3⟩))
  | ok h h1 h2 h3 => exact vec_ok a f lon lat high w h8 h h1 h2 h3
theorem vecOf_c {a f : Nat} {lon lat : Int} {high x y z : Nat} {k : Int} (h : VecIs a f lon lat high x y z k) (w : World) :
    Calls Tryd.prog 28 #[globeV a f, placeV lon lat, .float .f64 high] w (VecQ x y z k w) := by
  cases h with
  | shape h => exact vecOf_shape a f lon lat high w h
  | range1 h h1 => exact vecOf_range a f lon lat high w h (.inl h1)
  | range2 h h1 h2 => exact vecOf_range a f lon lat high w h (.inr (.inl ⟨h1, h2⟩))
  | range3 h h1 h2 h3 => exact vecOf_range a f lon lat high w h (.inr (.inr ⟨h1, h2, h3⟩))
  | ok h h1 h2 h3 => exact vecOf_ok a f lon lat high w h h1 h2 h3
end Go.Proofs.YtdgaeodkffhciaaDoor
