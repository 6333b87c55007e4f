/- Walks: the place of a vector on a globe, the reference's. Printed by gen_placeof.py. -/
import Derived.Test.YtdgaeodkffhciaaDoorVB1
import Derived.Test.YtdgaeodkffhciaaDoorVB2
import Derived.Test.YtdgaeodkffhciaaDoorVB3
import Derived.Test.YtdgaeodkffhciaaDoorVB4
namespace Go.Proofs.YtdgaeodkffhciaaDoor
open Go.RowKit Go.Fp Go.Rel
set_option maxRecDepth 20000

def PlaceQ (lon lat : Int) (H : Nat) (k : Int) (w : World) (e : Ending) (w' : World) : Prop :=
  ∃ h, e = .returned (.tuple #[placeV lon lat, .float .f64 h, .int .i64 k]) ∧ can h = H ∧ Ext w w'
def SpBtw (args : Array Value) (v : Value) : Prop := ∃ p q r : Nat, args = #[.float .f64 p, .float .f64 q, .float .f64 r] ∧ v = .bool (btw p q r)
theorem spBtw_iff (p q r : Nat) (v : Value) : SpBtw #[.float .f64 p, .float .f64 q, .float .f64 r] v ↔ v = .bool (btw p q r) := by
  unfold SpBtw
  exact ⟨fun ⟨_, _, _, h, k⟩ => by simp at h; obtain ⟨rfl, rfl, rfl⟩ := h; exact k, fun h => ⟨_, _, _, rfl, h⟩⟩
theorem bareE2 {w w' v : World} (h : Ext v w') (ho : w.os = w'.os) (ht : w.tape = w'.tape) (hp : w.output = w'.output) (hh : w.heap = w'.heap) : Ext v w :=
  ⟨ho.trans h.os, ht.trans h.tape, hp.trans h.output, by rw [hh]; exact h.size, fun k hk => by rw [hh]; exact h.block k hk⟩
theorem btw_of {p q : Nat} {X Y c : Nat} (hp : can p = X) (hq : can q = Y) : btw p q c = btw X Y c := by
  subst hp hq
  unfold btw fge fle
  have h1 : D.order p q = D.order (can p) (can q) := (order_can p q).symm
  have h2 : D.order p c = D.order (can p) c := by
    rw [← order_can p c, ← order_can (can p) c, can_can]
  rw [h1, h2]

set_option maxHeartbeats 8000000 in
theorem placeOf_shape (a f x y z : Nat) (w : World) (h : okG a f = false) :
    Calls Tryd.prog 31 #[globeV a f, vecV x y z] w (PlaceQ 0 0 0 3 w) := by
  have HG : Hid (∀ w, Calls Tryd.prog 21 #[globeV a f] w (ExR (.int .i64 3) w)) := fun w => by simpa [h] using globeError_c a f w
  clear h
  go_enter Tryd.func31, Tryd.ntmps31
  go_wp2_with (first
    | (go_at_call 21; refine (HG.out _).mono ?_; rintro e w1 ⟨rfl, hx⟩; obtain ⟨hb1, hb2, hb3, hw⟩ := ext3 hx; clear hx; have c1 := hb1.cell; have c2 := hb2.cell)
    | (refine wpList_own rfl 64 _ _ rfl _ _ rfl rfl _ _ (show Blk _ _ _ _ from hb3) (by kernel_rfl) rfl (by simp [Value.oneCell']) ?_; intro w2 hb4 hk2 _; have hw2 : Ext w w2 := hk2 _ (bareE2 hw rfl rfl rfl rfl) (by omega); have c4 := hb4.cell; clear hb3 hk2; try clear c1 c2))
  exact bodyPost_ret (v := .tuple #[placeV 0 0, .float .f64 0, .int .i64 3]) (by simp [results, Tryd.results31, go_sem, c4]) rfl ⟨0, rfl, can0, hw2⟩

set_option maxHeartbeats 8000000 in
theorem placeOf_range (a f x y z : Nat) (w : World) (h : okG a f = true) (h1 : btw (lenP (can x) (can y) (can z)) (halfP a) cTop = false) :
    Calls Tryd.prog 31 #[globeV a f, vecV x y z] w (PlaceQ 0 0 0 4 w) := by
  have HG : Hid (∀ w, Calls Tryd.prog 21 #[globeV a f] w (ExR (.int .i64 0) w)) := fun w => by simpa [h] using globeError_c a f w
  clear h
  have HL := Lib.hid (lengthOf_c x y z)
  unfold halfP at h1
  generalize lenP (can x) (can y) (can z) = L at *
  generalize hH : fdiv (can a) (can cTwo) = H at *
  go_enter Tryd.func31, Tryd.ntmps31
  go_wp2_with (first
    | (go_at_call 21; refine (HG.out _).mono ?_; rintro e w1 ⟨rfl, hx⟩; obtain ⟨hb1, hb2, hb3, hw⟩ := ext3 hx; clear hx; have c1 := hb1.cell; have c2 := hb2.cell))
  clear c1 c2
  refine wp_region_all (fun g args v => (g = 54 ∧ args = #[vecV x y z] ∧ isFl L v) ∨ (g = 42 ∧ SpBtw args v)) (by kernel_rfl) (by kernel_rfl) ?_
  repeat (first
    | (refine wpR_op rfl (fun w1 hq K hK => ?_); have c1 := (hb1.ext (bareE hq rfl rfl rfl rfl)).cell; have c2 := (hb2.ext (bareE hq rfl rfl rfl rfl)).cell; go_simp; refine hK _ ?_; clear hK K c1 c2 hq w1)
    | (refine wpR_op rfl (fun w1 hq K hK => ?_); go_simp; refine rel_fl rfl ?_; intro rh hrh; refine hK _ ?_; clear hK K hq w1)
    | (refine wpR_op rfl (fun w1 hq K hK => ?_); go_simp; refine rel_call (FlR.call (HL.out _)) (fun v => ?_) (fun v hv => ?_); (simp); obtain ⟨rL, rfl, hrL⟩ := hv; refine hK _ ?_; clear hK K hq w1)
    | (refine wpR_op rfl (fun w1 hq K hK => ?_); go_simp; refine rel_call (ExR.call (between_c _ _ _ _)) (fun v => ?_) (fun v hv => ?_); (simp [spBtw_iff]); subst hv; rw [btw_of hrL (hrh.trans hH), h1]; refine hK _ ?_; clear hK K hq w1))
  refine wpR_nil ?_
  intro w3 hx _
  replace hb1 := hb1.ext (bareE hx rfl rfl rfl rfl)
  replace hb2 := hb2.ext (bareE hx rfl rfl rfl rfl)
  replace hb3 := hb3.ext (bareE hx rfl rfl rfl rfl)
  replace hw := hw.trans (bareE hx rfl rfl rfl rfl)
  clear hx h1 HL HG
  have c1 := hb1.cell
  have c2 := hb2.cell
  go_wp2_with (first
    | (refine wpList_own rfl 64 _ _ rfl _ _ rfl rfl _ _ (show Blk _ _ _ _ from hb3) (by kernel_rfl) rfl (by simp [Value.oneCell']) ?_; intro w2 hb4 hk2 _; have hw2 : Ext w w2 := hk2 _ (bareE2 hw rfl rfl rfl rfl) (by omega); have c4 := hb4.cell; clear hb3 hk2; try clear c1 c2))
  exact bodyPost_ret (v := .tuple #[placeV 0 0, .float .f64 0, .int .i64 4]) (by simp [results, Tryd.results31, go_sem, c4]) rfl ⟨0, rfl, can0, hw2⟩

set_option maxHeartbeats 40000000 in
theorem placeOf_ok (a f x y z : Nat) (w : World) (h : okG a f = true) (h1 : btw (lenP (can x) (can y) (can z)) (halfP a) cTop = true) :
    Calls Tryd.prog 31 #[globeV a f, vecV x y z] w
      (PlaceQ (angS (can y) (can x)) (iterT a f z (rootP x y) 8) (highP a f z (rootP x y) (iterT a f z (rootP x y) 8)) 0 w) := by
  have HG : Hid (∀ w, Calls Tryd.prog 21 #[globeV a f] w (ExR (.int .i64 0) w)) := fun w => by simpa [h] using globeError_c a f w
  clear h
  have HL := Lib.hid (lengthOf_c x y z)
  unfold halfP at h1
  generalize lenP (can x) (can y) (can z) = L at *
  generalize hH : fdiv (can a) (can cTwo) = H at *
  have hP : rootP x y = fsqrt (fadd (fmul (can x) (can x)) (fmul (can y) (can y))) := rfl
  generalize rootP x y = P at *
  go_enter Tryd.func31, Tryd.ntmps31
  go_wp2_with (first
    | (go_at_call 21; refine (HG.out _).mono ?_; rintro e w1 ⟨rfl, hx⟩; obtain ⟨hb1, hb2, hb3, hw⟩ := ext3 hx; clear hx; have c1 := hb1.cell; have c2 := hb2.cell))
  clear c1 c2
  refine wp_region_all (fun g args v => (g = 54 ∧ args = #[vecV x y z] ∧ isFl L v) ∨ (g = 42 ∧ SpBtw args v)) (by kernel_rfl) (by kernel_rfl) ?_
  repeat (first
    | (refine wpR_op rfl (fun w1 hq K hK => ?_); have c1 := (hb1.ext (bareE hq rfl rfl rfl rfl)).cell; have c2 := (hb2.ext (bareE hq rfl rfl rfl rfl)).cell; go_simp; refine hK _ ?_; clear hK K c1 c2 hq w1)
    | (refine wpR_op rfl (fun w1 hq K hK => ?_); go_simp; refine rel_fl rfl ?_; intro rh hrh; refine hK _ ?_; clear hK K hq w1)
    | (refine wpR_op rfl (fun w1 hq K hK => ?_); go_simp; refine rel_call (FlR.call (HL.out _)) (fun v => ?_) (fun v hv => ?_); (simp); obtain ⟨rL, rfl, hrL⟩ := hv; refine hK _ ?_; clear hK K hq w1)
    | (refine wpR_op rfl (fun w1 hq K hK => ?_); go_simp; refine rel_call (ExR.call (between_c _ _ _ _)) (fun v => ?_) (fun v hv => ?_); (simp [spBtw_iff]); subst hv; rw [btw_of hrL (hrh.trans hH), h1]; refine hK _ ?_; clear hK K hq w1))
  refine wpR_nil ?_
  intro w3 hx _
  replace hb1 := hb1.ext (bareE hx rfl rfl rfl rfl)
  replace hb2 := hb2.ext (bareE hx rfl rfl rfl rfl)
  replace hb3 := hb3.ext (bareE hx rfl rfl rfl rfl)
  replace hw := hw.trans (bareE hx rfl rfl rfl rfl)
  clear hx h1 HL HG
  have c1 := hb1.cell
  have c2 := hb2.cell
  go_wp2_with (first
    | (go_at_call 47; refine (squareOf_c a f _).mono ?_; rintro e w1 ⟨rs, rfl, hrs, hx⟩; replace hb1 := hb1.ext (bareE hx rfl rfl rfl rfl); replace hb2 := hb2.ext (bareE hx rfl rfl rfl rfl); replace hb3 := hb3.ext (bareE hx rfl rfl rfl rfl); replace hw := hw.trans (bareE hx rfl rfl rfl rfl); try clear c1 c2; have c1 := hb1.cell; have c2 := hb2.cell; clear hx)
    | (go_at_call 55; refine (plus_c _ _ _ _).mono ?_; rintro e w1 ⟨rp, rfl, hrp, hx⟩; replace hb1 := hb1.ext (bareE hx rfl rfl rfl rfl); replace hb2 := hb2.ext (bareE hx rfl rfl rfl rfl); replace hb3 := hb3.ext (bareE hx rfl rfl rfl rfl); replace hw := hw.trans (bareE hx rfl rfl rfl rfl); try clear c1 c2; have c1 := hb1.cell; have c2 := hb2.cell; clear hx)
    | (go_at_call 44; refine (sqrt_c _ _).mono ?_; rintro e w1 ⟨rP, rfl, hrP, hx⟩; replace hb1 := hb1.ext (bareE hx rfl rfl rfl rfl); replace hb2 := hb2.ext (bareE hx rfl rfl rfl rfl); replace hb3 := hb3.ext (bareE hx rfl rfl rfl rfl); replace hw := hw.trans (bareE hx rfl rfl rfl rfl); try clear c1 c2; have c1 := hb1.cell; have c2 := hb2.cell; clear hx; have hP9 : can rP = P := (by simp only [*, fbin]); clear hrP hP)
    | (go_at_call 57; refine (refAngle_c _ _ _).mono ?_; rintro e w1 ⟨rfl, hx⟩; replace hb1 := hb1.ext (bareE hx rfl rfl rfl rfl); replace hb2 := hb2.ext (bareE hx rfl rfl rfl rfl); replace hb3 := hb3.ext (bareE hx rfl rfl rfl rfl); replace hw := hw.trans (bareE hx rfl rfl rfl rfl); try clear c1 c2; have c1 := hb1.cell; have c2 := hb2.cell; clear hx)
    | (go_at_call 56; refine (signedAngle_c _ _).mono ?_; rintro e w1 ⟨rfl, hx⟩; replace hb1 := hb1.ext (bareE hx rfl rfl rfl rfl); replace hb2 := hb2.ext (bareE hx rfl rfl rfl rfl); replace hb3 := hb3.ext (bareE hx rfl rfl rfl rfl); replace hw := hw.trans (bareE hx rfl rfl rfl rfl); try clear c1 c2; have c1 := hb1.cell; have c2 := hb2.cell; clear hx)
    | ((with_reducible refine upon_fl rfl ?_); intro r n hr))
  clear c1 c2
  go_loopw [11, 12] (fun t i wr => ∃ k : Nat, k ≤ 8 ∧ i = .int .i64 k ∧ t = .int .i64 (iterT a f z P k) ∧ Ext w wr ∧ Blk wr w.heap.size 50 #[.float .f64 a, .float .f64 f] ∧ Blk wr (w.heap.size + 1) 66 #[.float .f64 x, .float .f64 y, .float .f64 z] ∧
    Blk wr (w.heap.size + 1 + 1) 64 #[.int .i64 0, .int .i64 0]) (fun _ i _ => 8 - (intOf i).toNat)
  case atStart => exact ⟨0, by omega, rfl, by simp only [iterT, firstT, angS, cOne, *, fbin], hw, hb1, hb2, hb3⟩
  case round =>
    clear hw hb1 hb2 hb3
    obtain ⟨k, hk, rfl, rfl, hw, hb1, hb2, hb3⟩ := hrel
    obtain ⟨t, ht⟩ : ∃ t, t = iterT a f z P k := ⟨_, rfl⟩
    rw [← ht]
    have HT := Lib.hid ht
    clear ht
    have c1 := hb1.cell
    have c2 := hb2.cell
    by_cases hk8 : k < 8
    · go_wp2_with (first
        | (go_at_call 46; refine (sincos_c t _).mono ?_; rintro e w1 ⟨rfl, rfl⟩)
        | (go_at_call 25; refine (crossOf_c a f t _).mono ?_; rintro e w1 ⟨rc, rfl, hrc, hx⟩; replace hb1 := hb1.ext (bareE hx rfl rfl rfl rfl); replace hb2 := hb2.ext (bareE hx rfl rfl rfl rfl); replace hb3 := hb3.ext (bareE hx rfl rfl rfl rfl); replace hw := hw.trans (bareE hx rfl rfl rfl rfl); try clear c1 c2; have c1 := hb1.cell; have c2 := hb2.cell; clear hx)
        | (go_at_call 55; refine (plus_c _ _ _ _).mono ?_; rintro e w1 ⟨rp, rfl, hrp, hx⟩; replace hb1 := hb1.ext (bareE hx rfl rfl rfl rfl); replace hb2 := hb2.ext (bareE hx rfl rfl rfl rfl); replace hb3 := hb3.ext (bareE hx rfl rfl rfl rfl); replace hw := hw.trans (bareE hx rfl rfl rfl rfl); try clear c1 c2; have c1 := hb1.cell; have c2 := hb2.cell; clear hx)
        | (go_at_call 57; refine (refAngle_c _ _ _).mono ?_; rintro e w1 ⟨rfl, hx⟩; replace hb1 := hb1.ext (bareE hx rfl rfl rfl rfl); replace hb2 := hb2.ext (bareE hx rfl rfl rfl rfl); replace hb3 := hb3.ext (bareE hx rfl rfl rfl rfl); replace hw := hw.trans (bareE hx rfl rfl rfl rfl); try clear c1 c2; have c1 := hb1.cell; have c2 := hb2.cell; clear hx)
        | (go_at_call 56; refine (signedAngle_c _ _).mono ?_; rintro e w1 ⟨rfl, hx⟩; replace hb1 := hb1.ext (bareE hx rfl rfl rfl rfl); replace hb2 := hb2.ext (bareE hx rfl rfl rfl rfl); replace hb3 := hb3.ext (bareE hx rfl rfl rfl rfl); replace hw := hw.trans (bareE hx rfl rfl rfl rfl); try clear c1 c2; have c1 := hb1.cell; have c2 := hb2.cell; clear hx)
        | ((with_reducible refine upon_fl rfl ?_); intro r n hr))
      go_roundw
      case rel => exact ⟨k + 1, by omega, by simp, by simp only [iterT, stepT, angS, ← HT.out, *, fbin], hw, hb1, hb2, hb3⟩
      case measure => simp [intOf]; omega
    · have hk9 : k = 8 := by omega
      subst hk9
      by_cases ha : t ≤ 45000000000 ∧ -45000000000 ≤ t
      · have HF : Hid (highP a f z P t = highFlat a f P t) := if_pos ha
        obtain ⟨ha1, ha2⟩ := ha
        go_wp2_with (first
          | (go_at_call 46; refine (sincos_c t _).mono ?_; rintro e w1 ⟨rfl, rfl⟩)
          | (go_at_call 25; refine (crossOf_c a f t _).mono ?_; rintro e w1 ⟨rc, rfl, hrc, hx⟩; replace hb1 := hb1.ext (bareE hx rfl rfl rfl rfl); replace hb2 := hb2.ext (bareE hx rfl rfl rfl rfl); replace hb3 := hb3.ext (bareE hx rfl rfl rfl rfl); replace hw := hw.trans (bareE hx rfl rfl rfl rfl); try clear c1 c2; have c1 := hb1.cell; have c2 := hb2.cell; clear hx)
          | (go_at_call 57; refine (refAngle_c _ _ _).mono ?_; rintro e w1 ⟨rfl, hx⟩; replace hb1 := hb1.ext (bareE hx rfl rfl rfl rfl); replace hb2 := hb2.ext (bareE hx rfl rfl rfl rfl); replace hb3 := hb3.ext (bareE hx rfl rfl rfl rfl); replace hw := hw.trans (bareE hx rfl rfl rfl rfl); try clear c1 c2; have c1 := hb1.cell; have c2 := hb2.cell; clear hx)
          | (go_at_call 56; refine (signedAngle_c _ _).mono ?_; rintro e w1 ⟨rfl, hx⟩; replace hb1 := hb1.ext (bareE hx rfl rfl rfl rfl); replace hb2 := hb2.ext (bareE hx rfl rfl rfl rfl); replace hb3 := hb3.ext (bareE hx rfl rfl rfl rfl); replace hw := hw.trans (bareE hx rfl rfl rfl rfl); try clear c1 c2; have c1 := hb1.cell; have c2 := hb2.cell; clear hx)
          | (refine wpList_own rfl 64 _ _ rfl _ _ rfl rfl _ _ (show Blk _ _ _ _ from hb3) (by kernel_rfl) rfl (by simp [Value.oneCell']) ?_; intro w2 hb4 hk2 _; have hw2 : Ext w w2 := hk2 _ (bareE2 hw rfl rfl rfl rfl) (by omega); have c4 := hb4.cell; clear hb3 hk2; try clear c1 c2)
          | ((with_reducible refine upon_fl rfl ?_); intro r n hr))
        exact bodyPost_ret (v := .tuple #[placeV (angS (can y) (can x)) t, .float .f64 _, .int .i64 0]) (by simp [results, Tryd.results31, go_sem, c4, angS]; rfl) rfl ⟨_, by rw [← HT.out], by rw [← HT.out, HF.out]; simp only [highFlat, *, fbin], hw2⟩
      · have HF : Hid (highP a f z P t = highSteep a f z t) := if_neg ha
        rcases (show 45000000000 < t ∨ t ≤ 45000000000 ∧ t < -45000000000 by omega) with ha1 | ⟨ha1, ha2⟩
        all_goals
          clear ha
          go_wp2_with (first
            | (go_at_call 46; refine (sincos_c t _).mono ?_; rintro e w1 ⟨rfl, rfl⟩)
            | (go_at_call 25; refine (crossOf_c a f t _).mono ?_; rintro e w1 ⟨rc, rfl, hrc, hx⟩; replace hb1 := hb1.ext (bareE hx rfl rfl rfl rfl); replace hb2 := hb2.ext (bareE hx rfl rfl rfl rfl); replace hb3 := hb3.ext (bareE hx rfl rfl rfl rfl); replace hw := hw.trans (bareE hx rfl rfl rfl rfl); try clear c1 c2; have c1 := hb1.cell; have c2 := hb2.cell; clear hx)
            | (go_at_call 48; refine (less_c _ _ _ _).mono ?_; rintro e w1 ⟨rl, rfl, hrl, hx⟩; replace hb1 := hb1.ext (bareE hx rfl rfl rfl rfl); replace hb2 := hb2.ext (bareE hx rfl rfl rfl rfl); replace hb3 := hb3.ext (bareE hx rfl rfl rfl rfl); replace hw := hw.trans (bareE hx rfl rfl rfl rfl); try clear c1 c2; have c1 := hb1.cell; have c2 := hb2.cell; clear hx)
            | (go_at_call 57; refine (refAngle_c _ _ _).mono ?_; rintro e w1 ⟨rfl, hx⟩; replace hb1 := hb1.ext (bareE hx rfl rfl rfl rfl); replace hb2 := hb2.ext (bareE hx rfl rfl rfl rfl); replace hb3 := hb3.ext (bareE hx rfl rfl rfl rfl); replace hw := hw.trans (bareE hx rfl rfl rfl rfl); try clear c1 c2; have c1 := hb1.cell; have c2 := hb2.cell; clear hx)
            | (go_at_call 56; refine (signedAngle_c _ _).mono ?_; rintro e w1 ⟨rfl, hx⟩; replace hb1 := hb1.ext (bareE hx rfl rfl rfl rfl); replace hb2 := hb2.ext (bareE hx rfl rfl rfl rfl); replace hb3 := hb3.ext (bareE hx rfl rfl rfl rfl); replace hw := hw.trans (bareE hx rfl rfl rfl rfl); try clear c1 c2; have c1 := hb1.cell; have c2 := hb2.cell; clear hx)
            | (refine wpList_own rfl 64 _ _ rfl _ _ rfl rfl _ _ (show Blk _ _ _ _ from hb3) (by kernel_rfl) rfl (by simp [Value.oneCell']) ?_; intro w2 hb4 hk2 _; have hw2 : Ext w w2 := hk2 _ (bareE2 hw rfl rfl rfl rfl) (by omega); have c4 := hb4.cell; clear hb3 hk2; try clear c1 c2)
            | ((with_reducible refine upon_fl rfl ?_); intro r n hr))
          exact bodyPost_ret (v := .tuple #[placeV (angS (can y) (can x)) t, .float .f64 _, .int .i64 0]) (by simp [results, Tryd.results31, go_sem, c4, angS]; rfl) rfl ⟨_, by rw [← HT.out], by rw [← HT.out, HF.out]; simp only [highSteep, cOne, *, fbin], hw2⟩

theorem place_c {A : Nat → Addr} {a f x y z : Nat} {lon lat : Int} {h : Nat} {k : Int} (hp : PlaceIs a f x y z lon lat h k) (w : World) (h8 : World8 A w) :
    Calls Tryd.prog 30 #[globeV a f, vecV x y z] w (PlaceR A lon lat h k w) := by
  cases hp with
  | shape h => exact place_shape a f x y z w h8 h
  | range h h1 => exact place_range a f x y z w h8 h h1
  | ok h h1 =>
    obtain ⟨o1 | o1, o2 | o2⟩ := btw_true h1
    · exact place_ok1 a f x y z w h8 h o1 o2
    · exact place_ok2 a f x y z w h8 h o1 o2
    · exact place_ok3 a f x y z w h8 h o1 o2
    · exact place_ok4 a f x y z w h8 h o1 o2
theorem placeOf_c {a f x y z : Nat} {lon lat : Int} {h : Nat} {k : Int} (hp : PlaceIs a f x y z lon lat h k) (w : World) :
    Calls Tryd.prog 31 #[globeV a f, vecV x y z] w (PlaceQ lon lat h k w) := by
  cases hp with
  | shape h => exact placeOf_shape a f x y z w h
  | range h h1 => exact placeOf_range a f x y z w h h1
  | ok h h1 => exact placeOf_ok a f x y z w h h1
end Go.Proofs.YtdgaeodkffhciaaDoor
