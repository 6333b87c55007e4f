/- The walk of the law GridLines. Printed by gen_gridlines.py. -/
import Derived.Test.YtdgaeodkffhciaaDoorProg
import Derived.Test.YtdgaeodkffhciaaDoorW
import Derived.Test.YtdgaeodkffhciaaDoorE4
import Derived.Test.YtdgaeodkffhciaaDoorL2
import Derived.Test.YtdgaeodkffhciaaDoorL5
import Derived.Test.YtdgaeodkffhciaaDoorL6
import Derived.Test.YtdgaeodkffhciaaDoorL8
import Derived.WalkKit
namespace Go.Proofs.YtdgaeodkffhciaaDoor
open Go.RowKit Go.Rel
set_option maxRecDepth 20000

theorem first_len : (floorP 10 5 - ceilP 0 5 + 1).toNat = 3 ∧ (floorP 4 5 - ceilP 0 5 + 1).toNat = 1 := by decide
theorem first_few : floorP 10 5 - ceilP 0 5 < 4000 ∧ floorP 4 5 - ceilP 0 5 < 4000 := by decide
theorem first_box : boxP 0 0 10 4 = true := by decide
theorem nil_len {w : World} {ad : Option Addr} {n cap : Nat} {l : List Int} (h : IntsAt w (.slice ad n cap) l) : l.length = n := by
  obtain ⟨b, c, ⟨rfl, h⟩ | ⟨h, _⟩⟩ := h
  · simp at h; simp [h.2.1]
  · simp at h; exact h.2.1.symm

set_option maxHeartbeats 8000000 in
theorem gl_nobox {A : Nat → Addr} (lx ly hx hy s : Int) (w : World) (h8 : World8 A w) (hb : boxP lx ly hx hy = false) :
    Calls Tryd.prog 3 #[boxV lx ly hx hy, .int .i64 s] w (ExR (.bool true) w) := by
  have tk : Hid True := trivial
  go_enter Tryd.func3, Tryd.ntmps3
  go_wp2_with (first
      | (go_at_call 9; clear tk; refine (lines_ok 0 0 10 4 5 _ first_box (by decide) (by decide) first_few.1 first_few.2).mono ?_; rintro e w1 ⟨ad, n, cap, ad', n', cap', rfl, _, _, hn, hn', hx1⟩; obtain ⟨hb1, hxa⟩ := ext1 hx1; rw [first_len.1] at hn; rw [first_len.2] at hn'; subst hn hn';
         have b0 : w1.cell? ⟨w.heap.size, 0, none⟩ = some (.int .i64 lx) := hb1.cell 0; have b1 : w1.cell? ⟨w.heap.size, 1, none⟩ = some (.int .i64 ly) := hb1.cell 1;
         have b2 : w1.cell? ⟨w.heap.size, 2, none⟩ = some (.int .i64 hx) := hb1.cell 2; have b3 : w1.cell? ⟨w.heap.size, 3, none⟩ = some (.int .i64 hy) := hb1.cell 3)
      | (go_at_call 9; refine (lines_shape0 lx ly hx hy s _ (h8.ext hxa) hb).mono ?_; rintro e w2 ⟨rfl, hx2⟩; have hb2 := hb1.ext hx2; have hxb : Ext w w2 := hxa.trans hx2;
         have d0 : w2.cell? ⟨w.heap.size, 0, none⟩ = some (.int .i64 lx) := hb2.cell 0; have d1 : w2.cell? ⟨w.heap.size, 1, none⟩ = some (.int .i64 ly) := hb2.cell 1;
         have d2 : w2.cell? ⟨w.heap.size, 2, none⟩ = some (.int .i64 hx) := hb2.cell 2; have d3 : w2.cell? ⟨w.heap.size, 3, none⟩ = some (.int .i64 hy) := hb2.cell 3)
      | (go_at_call 10; refine (isBox_c lx ly hx hy _).mono ?_; rintro e w3 ⟨rfl, hx3⟩; rw [hb]; have hb3 := hb2.ext hx3; have hxc : Ext w w3 := hxb.trans hx3;
         have e0 : w3.cell? ⟨w.heap.size, 0, none⟩ = some (.int .i64 lx) := hb3.cell 0; have e1 : w3.cell? ⟨w.heap.size, 1, none⟩ = some (.int .i64 ly) := hb3.cell 1;
         have e2 : w3.cell? ⟨w.heap.size, 2, none⟩ = some (.int .i64 hx) := hb3.cell 2; have e3 : w3.cell? ⟨w.heap.size, 3, none⟩ = some (.int .i64 hy) := hb3.cell 3)
      | (go_at_call 11; refine (coded_c (h8.ext hxc) ErrOf.shape _).mono ?_; rintro e w9 ⟨rfl, hx9⟩; have hxz : Ext w w9 := hxc.trans hx9))
  go_ret
  exact ⟨rfl, hxz⟩

set_option maxHeartbeats 8000000 in
theorem gl_nostep {A : Nat → Addr} (lx ly hx hy s : Int) (w : World) (h8 : World8 A w) (hb : boxP lx ly hx hy = true) (hs : s < 1) :
    Calls Tryd.prog 3 #[boxV lx ly hx hy, .int .i64 s] w (ExR (.bool true) w) := by
  have tk : Hid True := trivial
  go_enter Tryd.func3, Tryd.ntmps3
  go_wp2_with (first
      | (go_at_call 9; clear tk; refine (lines_ok 0 0 10 4 5 _ first_box (by decide) (by decide) first_few.1 first_few.2).mono ?_; rintro e w1 ⟨ad, n, cap, ad', n', cap', rfl, _, _, hn, hn', hx1⟩; obtain ⟨hb1, hxa⟩ := ext1 hx1; rw [first_len.1] at hn; rw [first_len.2] at hn'; subst hn hn';
         have b0 : w1.cell? ⟨w.heap.size, 0, none⟩ = some (.int .i64 lx) := hb1.cell 0; have b1 : w1.cell? ⟨w.heap.size, 1, none⟩ = some (.int .i64 ly) := hb1.cell 1;
         have b2 : w1.cell? ⟨w.heap.size, 2, none⟩ = some (.int .i64 hx) := hb1.cell 2; have b3 : w1.cell? ⟨w.heap.size, 3, none⟩ = some (.int .i64 hy) := hb1.cell 3)
      | (go_at_call 9; refine (lines_shape1 lx ly hx hy s _ (h8.ext hxa) hb hs).mono ?_; rintro e w2 ⟨rfl, hx2⟩; have hb2 := hb1.ext hx2; have hxb : Ext w w2 := hxa.trans hx2;
         have d0 : w2.cell? ⟨w.heap.size, 0, none⟩ = some (.int .i64 lx) := hb2.cell 0; have d1 : w2.cell? ⟨w.heap.size, 1, none⟩ = some (.int .i64 ly) := hb2.cell 1;
         have d2 : w2.cell? ⟨w.heap.size, 2, none⟩ = some (.int .i64 hx) := hb2.cell 2; have d3 : w2.cell? ⟨w.heap.size, 3, none⟩ = some (.int .i64 hy) := hb2.cell 3)
      | (go_at_call 10; refine (isBox_c lx ly hx hy _).mono ?_; rintro e w3 ⟨rfl, hx3⟩; rw [hb]; have hb3 := hb2.ext hx3; have hxc : Ext w w3 := hxb.trans hx3;
         have e0 : w3.cell? ⟨w.heap.size, 0, none⟩ = some (.int .i64 lx) := hb3.cell 0; have e1 : w3.cell? ⟨w.heap.size, 1, none⟩ = some (.int .i64 ly) := hb3.cell 1;
         have e2 : w3.cell? ⟨w.heap.size, 2, none⟩ = some (.int .i64 hx) := hb3.cell 2; have e3 : w3.cell? ⟨w.heap.size, 3, none⟩ = some (.int .i64 hy) := hb3.cell 3)
      | (go_at_call 11; refine (coded_c (h8.ext hxc) ErrOf.shape _).mono ?_; rintro e w9 ⟨rfl, hx9⟩; have hxz : Ext w w9 := hxc.trans hx9))
  go_ret
  exact ⟨rfl, hxz⟩

set_option maxHeartbeats 8000000 in
theorem gl_big_ok {A : Nat → Addr} (lx ly hx hy s : Int) (w : World) (h8 : World8 A w) (hb : boxP lx ly hx hy = true) (hs : 0 < s) (hsb : 1099511627776 < s) (hs2 : s ≤ 9223372036854775807) (hm : floorP hx s - ceilP lx s < 4000) (hm' : floorP hy s - ceilP ly s < 4000) :
    Calls Tryd.prog 3 #[boxV lx ly hx hy, .int .i64 s] w (ExR (.bool true) w) := by
  have tk : Hid True := trivial
  have hs1 : ¬ s < 1 := by omega
  go_enter Tryd.func3, Tryd.ntmps3
  go_wp2_with (first
      | (go_at_call 9; clear tk; refine (lines_ok 0 0 10 4 5 _ first_box (by decide) (by decide) first_few.1 first_few.2).mono ?_; rintro e w1 ⟨ad, n, cap, ad', n', cap', rfl, _, _, hn, hn', hx1⟩; obtain ⟨hb1, hxa⟩ := ext1 hx1; rw [first_len.1] at hn; rw [first_len.2] at hn'; subst hn hn';
         have b0 : w1.cell? ⟨w.heap.size, 0, none⟩ = some (.int .i64 lx) := hb1.cell 0; have b1 : w1.cell? ⟨w.heap.size, 1, none⟩ = some (.int .i64 ly) := hb1.cell 1;
         have b2 : w1.cell? ⟨w.heap.size, 2, none⟩ = some (.int .i64 hx) := hb1.cell 2; have b3 : w1.cell? ⟨w.heap.size, 3, none⟩ = some (.int .i64 hy) := hb1.cell 3)
      | (go_at_call 9; refine (lines_ok lx ly hx hy s _ hb hs hs2 hm hm').mono ?_; rintro e w2 ⟨ad2, n2, cap2, ad2', n2', cap2', rfl, I2, I2', hn2, hn2', hx2⟩; have hb2 := hb1.ext hx2; have hxb : Ext w w2 := hxa.trans hx2;
         have d0 : w2.cell? ⟨w.heap.size, 0, none⟩ = some (.int .i64 lx) := hb2.cell 0; have d1 : w2.cell? ⟨w.heap.size, 1, none⟩ = some (.int .i64 ly) := hb2.cell 1;
         have d2 : w2.cell? ⟨w.heap.size, 2, none⟩ = some (.int .i64 hx) := hb2.cell 2; have d3 : w2.cell? ⟨w.heap.size, 3, none⟩ = some (.int .i64 hy) := hb2.cell 3)
      | (go_at_call 10; refine (isBox_c lx ly hx hy _).mono ?_; rintro e w3 ⟨rfl, hx3⟩; rw [hb]; have hb3 := hb2.ext hx3; have hxc : Ext w w3 := hxb.trans hx3;
         have e0 : w3.cell? ⟨w.heap.size, 0, none⟩ = some (.int .i64 lx) := hb3.cell 0; have e1 : w3.cell? ⟨w.heap.size, 1, none⟩ = some (.int .i64 ly) := hb3.cell 1;
         have e2 : w3.cell? ⟨w.heap.size, 2, none⟩ = some (.int .i64 hx) := hb3.cell 2; have e3 : w3.cell? ⟨w.heap.size, 3, none⟩ = some (.int .i64 hy) := hb3.cell 3))
  go_ret
  exact ⟨rfl, hxc⟩

set_option maxHeartbeats 8000000 in
theorem gl_big_bound {A : Nat → Addr} (lx ly hx hy s : Int) (w : World) (h8 : World8 A w) (hb : boxP lx ly hx hy = true) (hs : 0 < s) (hsb : 1099511627776 < s) (hs2 : s ≤ 9223372036854775807) (hm : 4000 ≤ floorP hx s - ceilP lx s ∨ 4000 ≤ floorP hy s - ceilP ly s) :
    Calls Tryd.prog 3 #[boxV lx ly hx hy, .int .i64 s] w (ExR (.bool true) w) := by
  have tk : Hid True := trivial
  have hs1 : ¬ s < 1 := by omega
  go_enter Tryd.func3, Tryd.ntmps3
  go_wp2_with (first
      | (go_at_call 9; clear tk; refine (lines_ok 0 0 10 4 5 _ first_box (by decide) (by decide) first_few.1 first_few.2).mono ?_; rintro e w1 ⟨ad, n, cap, ad', n', cap', rfl, _, _, hn, hn', hx1⟩; obtain ⟨hb1, hxa⟩ := ext1 hx1; rw [first_len.1] at hn; rw [first_len.2] at hn'; subst hn hn';
         have b0 : w1.cell? ⟨w.heap.size, 0, none⟩ = some (.int .i64 lx) := hb1.cell 0; have b1 : w1.cell? ⟨w.heap.size, 1, none⟩ = some (.int .i64 ly) := hb1.cell 1;
         have b2 : w1.cell? ⟨w.heap.size, 2, none⟩ = some (.int .i64 hx) := hb1.cell 2; have b3 : w1.cell? ⟨w.heap.size, 3, none⟩ = some (.int .i64 hy) := hb1.cell 3)
      | (go_at_call 9; refine (lines_bound lx ly hx hy s _ (h8.ext hxa) hb hs hs2 hm).mono ?_; rintro e w2 ⟨rfl, hx2⟩; have hb2 := hb1.ext hx2; have hxb : Ext w w2 := hxa.trans hx2;
         have d0 : w2.cell? ⟨w.heap.size, 0, none⟩ = some (.int .i64 lx) := hb2.cell 0; have d1 : w2.cell? ⟨w.heap.size, 1, none⟩ = some (.int .i64 ly) := hb2.cell 1;
         have d2 : w2.cell? ⟨w.heap.size, 2, none⟩ = some (.int .i64 hx) := hb2.cell 2; have d3 : w2.cell? ⟨w.heap.size, 3, none⟩ = some (.int .i64 hy) := hb2.cell 3)
      | (go_at_call 10; refine (isBox_c lx ly hx hy _).mono ?_; rintro e w3 ⟨rfl, hx3⟩; rw [hb]; have hb3 := hb2.ext hx3; have hxc : Ext w w3 := hxb.trans hx3;
         have e0 : w3.cell? ⟨w.heap.size, 0, none⟩ = some (.int .i64 lx) := hb3.cell 0; have e1 : w3.cell? ⟨w.heap.size, 1, none⟩ = some (.int .i64 ly) := hb3.cell 1;
         have e2 : w3.cell? ⟨w.heap.size, 2, none⟩ = some (.int .i64 hx) := hb3.cell 2; have e3 : w3.cell? ⟨w.heap.size, 3, none⟩ = some (.int .i64 hy) := hb3.cell 3))
  go_ret
  exact ⟨rfl, hxc⟩

set_option maxHeartbeats 8000000 in
theorem gl_bound_x {A : Nat → Addr} (lx ly hx hy s : Int) (w : World) (h8 : World8 A w) (hb : boxP lx ly hx hy = true) (hs : 0 < s) (hsm : s ≤ 1099511627776) (hm : 4000 ≤ floorP hx s - ceilP lx s) :
    Calls Tryd.prog 3 #[boxV lx ly hx hy, .int .i64 s] w (ExR (.bool true) w) := by
  have tk : Hid True := trivial
  obtain ⟨⟨x1, x2⟩, ⟨y1, y2⟩, ⟨u1, u2⟩, ⟨v1, v2⟩, _, _⟩ := box_in hb
  have tk2 : Hid True := trivial
  have hs1 : ¬ s < 1 := by omega
  have hs3 : ¬ 1099511627776 < s := by omega
  go_enter Tryd.func3, Tryd.ntmps3
  go_wp2_with (first
      | (go_at_call 9; clear tk; refine (lines_ok 0 0 10 4 5 _ first_box (by decide) (by decide) first_few.1 first_few.2).mono ?_; rintro e w1 ⟨ad, n, cap, ad', n', cap', rfl, _, _, hn, hn', hx1⟩; obtain ⟨hb1, hxa⟩ := ext1 hx1; rw [first_len.1] at hn; rw [first_len.2] at hn'; subst hn hn';
         have b0 : w1.cell? ⟨w.heap.size, 0, none⟩ = some (.int .i64 lx) := hb1.cell 0; have b1 : w1.cell? ⟨w.heap.size, 1, none⟩ = some (.int .i64 ly) := hb1.cell 1;
         have b2 : w1.cell? ⟨w.heap.size, 2, none⟩ = some (.int .i64 hx) := hb1.cell 2; have b3 : w1.cell? ⟨w.heap.size, 3, none⟩ = some (.int .i64 hy) := hb1.cell 3)
      | (go_at_call 9; refine (lines_bound lx ly hx hy s _ (h8.ext hxa) hb hs (by omega) (Or.inl hm)).mono ?_; rintro e w2 ⟨rfl, hx2⟩; have hb2 := hb1.ext hx2; have hxb : Ext w w2 := hxa.trans hx2;
         have d0 : w2.cell? ⟨w.heap.size, 0, none⟩ = some (.int .i64 lx) := hb2.cell 0; have d1 : w2.cell? ⟨w.heap.size, 1, none⟩ = some (.int .i64 ly) := hb2.cell 1;
         have d2 : w2.cell? ⟨w.heap.size, 2, none⟩ = some (.int .i64 hx) := hb2.cell 2; have d3 : w2.cell? ⟨w.heap.size, 3, none⟩ = some (.int .i64 hy) := hb2.cell 3)
      | (go_at_call 10; refine (isBox_c lx ly hx hy _).mono ?_; rintro e w3 ⟨rfl, hx3⟩; rw [hb]; have hb3 := hb2.ext hx3; have hxc : Ext w w3 := hxb.trans hx3;
         have e0 : w3.cell? ⟨w.heap.size, 0, none⟩ = some (.int .i64 lx) := hb3.cell 0; have e1 : w3.cell? ⟨w.heap.size, 1, none⟩ = some (.int .i64 ly) := hb3.cell 1;
         have e2 : w3.cell? ⟨w.heap.size, 2, none⟩ = some (.int .i64 hx) := hb3.cell 2; have e3 : w3.cell? ⟨w.heap.size, 3, none⟩ = some (.int .i64 hy) := hb3.cell 3)
      | (go_at_call 12; clear tk2; refine (multiples_c lx hx s _ hs hsm x1 x2 u1 u2).mono ?_; rintro e w4 ⟨v4, m4, rfl, o4, hx4, q1, q2, q3⟩; obtain ⟨ad4, cap4, rfl⟩ := owns_slice o4; have I4 := ints_of_owns o4; clear o4; have hb4 := hb3.ext hx4; have hxd : Ext w w4 := hxc.trans hx4;
         have f1 : w4.cell? ⟨w.heap.size, 1, none⟩ = some (.int .i64 ly) := hb4.cell 1; have f3 : w4.cell? ⟨w.heap.size, 3, none⟩ = some (.int .i64 hy) := hb4.cell 3; have g4 : 4000 < m4 := by omega)
      | (go_at_call 12; refine (multiples_c ly hy s _ hs hsm y1 y2 v1 v2).mono ?_; rintro e w5 ⟨v5, m5, rfl, o5, hx5, r1, r2, r3⟩; obtain ⟨ad5, cap5, rfl⟩ := owns_slice o5; have I5 := ints_of_owns o5; clear o5; have hxe : Ext w w5 := hxd.trans hx5)
      | (go_at_call 11; refine (coded_c (h8.ext hxe) ErrOf.bound _).mono ?_; rintro e w9 ⟨rfl, hx9⟩; have hxz : Ext w w9 := hxe.trans hx9))
  go_ret
  exact ⟨rfl, hxz⟩

set_option maxHeartbeats 8000000 in
theorem gl_bound_y {A : Nat → Addr} (lx ly hx hy s : Int) (w : World) (h8 : World8 A w) (hb : boxP lx ly hx hy = true) (hs : 0 < s) (hsm : s ≤ 1099511627776) (hm0 : floorP hx s - ceilP lx s < 4000) (hm : 4000 ≤ floorP hy s - ceilP ly s) :
    Calls Tryd.prog 3 #[boxV lx ly hx hy, .int .i64 s] w (ExR (.bool true) w) := by
  have tk : Hid True := trivial
  obtain ⟨⟨x1, x2⟩, ⟨y1, y2⟩, ⟨u1, u2⟩, ⟨v1, v2⟩, _, _⟩ := box_in hb
  have tk2 : Hid True := trivial
  have hs1 : ¬ s < 1 := by omega
  have hs3 : ¬ 1099511627776 < s := by omega
  go_enter Tryd.func3, Tryd.ntmps3
  go_wp2_with (first
      | (go_at_call 9; clear tk; refine (lines_ok 0 0 10 4 5 _ first_box (by decide) (by decide) first_few.1 first_few.2).mono ?_; rintro e w1 ⟨ad, n, cap, ad', n', cap', rfl, _, _, hn, hn', hx1⟩; obtain ⟨hb1, hxa⟩ := ext1 hx1; rw [first_len.1] at hn; rw [first_len.2] at hn'; subst hn hn';
         have b0 : w1.cell? ⟨w.heap.size, 0, none⟩ = some (.int .i64 lx) := hb1.cell 0; have b1 : w1.cell? ⟨w.heap.size, 1, none⟩ = some (.int .i64 ly) := hb1.cell 1;
         have b2 : w1.cell? ⟨w.heap.size, 2, none⟩ = some (.int .i64 hx) := hb1.cell 2; have b3 : w1.cell? ⟨w.heap.size, 3, none⟩ = some (.int .i64 hy) := hb1.cell 3)
      | (go_at_call 9; refine (lines_bound lx ly hx hy s _ (h8.ext hxa) hb hs (by omega) (Or.inr hm)).mono ?_; rintro e w2 ⟨rfl, hx2⟩; have hb2 := hb1.ext hx2; have hxb : Ext w w2 := hxa.trans hx2;
         have d0 : w2.cell? ⟨w.heap.size, 0, none⟩ = some (.int .i64 lx) := hb2.cell 0; have d1 : w2.cell? ⟨w.heap.size, 1, none⟩ = some (.int .i64 ly) := hb2.cell 1;
         have d2 : w2.cell? ⟨w.heap.size, 2, none⟩ = some (.int .i64 hx) := hb2.cell 2; have d3 : w2.cell? ⟨w.heap.size, 3, none⟩ = some (.int .i64 hy) := hb2.cell 3)
      | (go_at_call 10; refine (isBox_c lx ly hx hy _).mono ?_; rintro e w3 ⟨rfl, hx3⟩; rw [hb]; have hb3 := hb2.ext hx3; have hxc : Ext w w3 := hxb.trans hx3;
         have e0 : w3.cell? ⟨w.heap.size, 0, none⟩ = some (.int .i64 lx) := hb3.cell 0; have e1 : w3.cell? ⟨w.heap.size, 1, none⟩ = some (.int .i64 ly) := hb3.cell 1;
         have e2 : w3.cell? ⟨w.heap.size, 2, none⟩ = some (.int .i64 hx) := hb3.cell 2; have e3 : w3.cell? ⟨w.heap.size, 3, none⟩ = some (.int .i64 hy) := hb3.cell 3)
      | (go_at_call 12; clear tk2; refine (multiples_c lx hx s _ hs hsm x1 x2 u1 u2).mono ?_; rintro e w4 ⟨v4, m4, rfl, o4, hx4, q1, q2, q3⟩; obtain ⟨ad4, cap4, rfl⟩ := owns_slice o4; have I4 := ints_of_owns o4; clear o4; have hb4 := hb3.ext hx4; have hxd : Ext w w4 := hxc.trans hx4;
         have f1 : w4.cell? ⟨w.heap.size, 1, none⟩ = some (.int .i64 ly) := hb4.cell 1; have f3 : w4.cell? ⟨w.heap.size, 3, none⟩ = some (.int .i64 hy) := hb4.cell 3; have g4 : ¬ 4000 < m4 := by omega)
      | (go_at_call 12; refine (multiples_c ly hy s _ hs hsm y1 y2 v1 v2).mono ?_; rintro e w5 ⟨v5, m5, rfl, o5, hx5, r1, r2, r3⟩; obtain ⟨ad5, cap5, rfl⟩ := owns_slice o5; have I5 := ints_of_owns o5; clear o5; have hxe : Ext w w5 := hxd.trans hx5; have g5 : 4000 < m5 := by omega)
      | (go_at_call 11; refine (coded_c (h8.ext hxe) ErrOf.bound _).mono ?_; rintro e w9 ⟨rfl, hx9⟩; have hxz : Ext w w9 := hxe.trans hx9))
  go_ret
  exact ⟨rfl, hxz⟩

set_option maxHeartbeats 8000000 in
theorem gl_ok {A : Nat → Addr} (lx ly hx hy s : Int) (w : World) (h8 : World8 A w) (hb : boxP lx ly hx hy = true) (hs : 0 < s) (hsm : s ≤ 1099511627776) (hm : floorP hx s - ceilP lx s < 4000) (hm' : floorP hy s - ceilP ly s < 4000) :
    Calls Tryd.prog 3 #[boxV lx ly hx hy, .int .i64 s] w (ExR (.bool true) w) := by
  have tk : Hid True := trivial
  obtain ⟨⟨x1, x2⟩, ⟨y1, y2⟩, ⟨u1, u2⟩, ⟨v1, v2⟩, _, _⟩ := box_in hb
  have tk2 : Hid True := trivial
  have hs1 : ¬ s < 1 := by omega
  have hs3 : ¬ 1099511627776 < s := by omega
  have tk3 : Hid True := trivial
  go_enter Tryd.func3, Tryd.ntmps3
  go_wp2_with (first
      | (go_at_call 9; clear tk; refine (lines_ok 0 0 10 4 5 _ first_box (by decide) (by decide) first_few.1 first_few.2).mono ?_; rintro e w1 ⟨ad, n, cap, ad', n', cap', rfl, _, _, hn, hn', hx1⟩; obtain ⟨hb1, hxa⟩ := ext1 hx1; rw [first_len.1] at hn; rw [first_len.2] at hn'; subst hn hn';
         have b0 : w1.cell? ⟨w.heap.size, 0, none⟩ = some (.int .i64 lx) := hb1.cell 0; have b1 : w1.cell? ⟨w.heap.size, 1, none⟩ = some (.int .i64 ly) := hb1.cell 1;
         have b2 : w1.cell? ⟨w.heap.size, 2, none⟩ = some (.int .i64 hx) := hb1.cell 2; have b3 : w1.cell? ⟨w.heap.size, 3, none⟩ = some (.int .i64 hy) := hb1.cell 3)
      | (go_at_call 9; refine (lines_ok lx ly hx hy s _ hb hs (by omega) hm hm').mono ?_; rintro e w2 ⟨ad2, n2, cap2, ad2', n2', cap2', rfl, I2, I2', hn2, hn2', hx2⟩; have hj2 : Hid (n2 = _) := hn2; have hj2' : Hid (n2' = _) := hn2'; clear hn2 hn2'; have hb2 := hb1.ext hx2; have hxb : Ext w w2 := hxa.trans hx2;
         have d0 : w2.cell? ⟨w.heap.size, 0, none⟩ = some (.int .i64 lx) := hb2.cell 0; have d1 : w2.cell? ⟨w.heap.size, 1, none⟩ = some (.int .i64 ly) := hb2.cell 1;
         have d2 : w2.cell? ⟨w.heap.size, 2, none⟩ = some (.int .i64 hx) := hb2.cell 2; have d3 : w2.cell? ⟨w.heap.size, 3, none⟩ = some (.int .i64 hy) := hb2.cell 3)
      | (go_at_call 10; refine (isBox_c lx ly hx hy _).mono ?_; rintro e w3 ⟨rfl, hx3⟩; rw [hb]; have hb3 := hb2.ext hx3; have hxc : Ext w w3 := hxb.trans hx3;
         have e0 : w3.cell? ⟨w.heap.size, 0, none⟩ = some (.int .i64 lx) := hb3.cell 0; have e1 : w3.cell? ⟨w.heap.size, 1, none⟩ = some (.int .i64 ly) := hb3.cell 1;
         have e2 : w3.cell? ⟨w.heap.size, 2, none⟩ = some (.int .i64 hx) := hb3.cell 2; have e3 : w3.cell? ⟨w.heap.size, 3, none⟩ = some (.int .i64 hy) := hb3.cell 3)
      | (go_at_call 12; clear tk2; refine (multiples_c lx hx s _ hs hsm x1 x2 u1 u2).mono ?_; rintro e w4 ⟨v4, m4, rfl, o4, hx4, q1, q2, q3⟩; obtain ⟨ad4, cap4, rfl⟩ := owns_slice o4; have I4 := ints_of_owns o4; clear o4; have hb4 := hb3.ext hx4; have hxd : Ext w w4 := hxc.trans hx4;
         have f1 : w4.cell? ⟨w.heap.size, 1, none⟩ = some (.int .i64 ly) := hb4.cell 1; have f3 : w4.cell? ⟨w.heap.size, 3, none⟩ = some (.int .i64 hy) := hb4.cell 3; have g4 : ¬ 4000 < m4 := by omega)
      | (go_at_call 12; refine (multiples_c ly hy s _ hs hsm y1 y2 v1 v2).mono ?_; rintro e w5 ⟨v5, m5, rfl, o5, hx5, r1, r2, r3⟩; obtain ⟨ad5, cap5, rfl⟩ := owns_slice o5; have I5 := ints_of_owns o5; clear o5; have hxe : Ext w w5 := hxd.trans hx5; have g5 : ¬ 4000 < m5 := (by omega); have z4 : n2 = m4 := (by have := hj2.out; omega); have z5 : n2' = m5 := (by have := hj2'.out; omega); subst z4 z5; clear hj2 hj2')
      | (go_at_call 13; clear tk3; refine (same_c _ _ _ _ _ (by rw [run_length]; omega) ((((I2.ext hx3).ext hx4).ext hx5)) (I4.ext hx5)).mono ?_; rintro e w6 ⟨rfl, hx6⟩; have hxf : Ext w w6 := hxe.trans hx6)
      | (go_at_call 13; refine (same_c _ _ _ _ _ (by rw [run_length]; omega) (((((I2'.ext hx3).ext hx4).ext hx5)).ext hx6) (I5.ext hx6)).mono ?_; rintro e w7 ⟨rfl, hx7⟩; have hxz : Ext w w7 := hxf.trans hx7))
  go_ret
  refine ⟨by simp, hxz⟩

theorem gridLines_walk {A : Nat → Addr} (lx ly hx hy s : Int) (w : World) (h8 : World8 A w) (hs2 : s ≤ 9223372036854775807) :
    Calls Tryd.prog 3 #[boxV lx ly hx hy, .int .i64 s] w (ExR (.bool true) w) := by
  cases hb : boxP lx ly hx hy
  · exact gl_nobox lx ly hx hy s w h8 hb
  rcases Int.lt_or_le s 1 with h1 | h1
  · exact gl_nostep lx ly hx hy s w h8 hb h1
  have hs : 0 < s := by omega
  rcases Int.lt_or_le 1099511627776 s with h2 | h2
  · rcases Int.lt_or_le (floorP hx s - ceilP lx s) 4000 with h3 | h3
    · rcases Int.lt_or_le (floorP hy s - ceilP ly s) 4000 with h4 | h4
      · exact gl_big_ok lx ly hx hy s w h8 hb hs h2 hs2 h3 h4
      · exact gl_big_bound lx ly hx hy s w h8 hb hs h2 hs2 (Or.inr h4)
    · exact gl_big_bound lx ly hx hy s w h8 hb hs h2 hs2 (Or.inl h3)
  rcases Int.lt_or_le (floorP hx s - ceilP lx s) 4000 with h3 | h3
  · rcases Int.lt_or_le (floorP hy s - ceilP ly s) 4000 with h4 | h4
    · exact gl_ok lx ly hx hy s w h8 hb hs h2 h3 h4
    · exact gl_bound_y lx ly hx hy s w h8 hb hs h2 h3 h4
  · exact gl_bound_x lx ly hx hy s w h8 hb hs h2 h3
end Go.Proofs.YtdgaeodkffhciaaDoor
