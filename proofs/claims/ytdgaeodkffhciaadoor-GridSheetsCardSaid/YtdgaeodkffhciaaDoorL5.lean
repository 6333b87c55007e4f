/- Walk: grid.Lines. -/
import Derived.Test.YtdgaeodkffhciaaDoorProg
import Derived.Test.YtdgaeodkffhciaaDoorW
import Derived.Test.YtdgaeodkffhciaaDoorQ2
import Derived.Test.YtdgaeodkffhciaaDoorE4
import Derived.Test.YtdgaeodkffhciaaDoorL2
import Derived.Test.YtdgaeodkffhciaaDoorL3
import Derived.Test.YtdgaeodkffhciaaDoorL4
import Derived.WalkKit
namespace Go.Proofs.YtdgaeodkffhciaaDoor
open Go.RowKit Go.Rel
set_option maxRecDepth 20000

theorem mf_span (first : Array Value) (cap : Array Value) (w : World) : (Instr.makeFunc (.func 38) first cap).run Tryd.prog w = .ok (.func (.func 38) first cap) w := rfl

theorem lines_shape0 {A : Nat → Addr} (lx ly hx hy s : Int) (w : World) (h8 : World8 A w) (hb : boxP lx ly hx hy = false) :
    Calls Tryd.prog 9 #[boxV lx ly hx hy, .int .i64 s] w (ExR (.tuple #[.slice none 0 0, .slice none 0 0, errV (A 0)]) w) := by
  go_enter Tryd.func9, Tryd.ntmps9
  go_wp2_with (first | (go_at_call 37; refine (right_c lx ly hx hy _).mono ?_; rintro e w1 ⟨rfl, hx1⟩; obtain ⟨hb1, hb2, hxx⟩ := ext2 hx1; rw [hb]; have kg := (h8.ext hxx).errs.cell 0 (by decide)))
  go_region
  all_goals go_wp2
  all_goals go_ret3
  all_goals exact ⟨rfl, (by repeat (first | exact Ext.refl _ | assumption | refine Ext.drew ?_ | refine Ext.alloc ?_ _))⟩

theorem lines_shape1 {A : Nat → Addr} (lx ly hx hy s : Int) (w : World) (h8 : World8 A w) (hb : boxP lx ly hx hy = true) (hs : s < 1) :
    Calls Tryd.prog 9 #[boxV lx ly hx hy, .int .i64 s] w (ExR (.tuple #[.slice none 0 0, .slice none 0 0, errV (A 0)]) w) := by
  go_enter Tryd.func9, Tryd.ntmps9
  go_wp2_with (first | (go_at_call 37; refine (right_c lx ly hx hy _).mono ?_; rintro e w1 ⟨rfl, hx1⟩; obtain ⟨hb1, hb2, hxx⟩ := ext2 hx1; rw [hb]; have kg := (h8.ext hxx).errs.cell 0 (by decide); have k1 : w1.cell? ⟨w.heap.size + 1, 0, none⟩ = some (.int .i64 s) := hb2.cell 0))
  go_region
  all_goals go_wp2
  all_goals go_ret3
  all_goals exact ⟨rfl, (by repeat (first | exact Ext.refl _ | assumption | refine Ext.drew ?_ | refine Ext.alloc ?_ _))⟩

theorem box_in {lx ly hx hy : Int} (h : boxP lx ly hx hy = true) : (lx ≤ 16777216 ∧ -16777216 ≤ lx) ∧ (ly ≤ 16777216 ∧ -16777216 ≤ ly) ∧ (hx ≤ 16777216 ∧ -16777216 ≤ hx) ∧ (hy ≤ 16777216 ∧ -16777216 ≤ hy) ∧ lx ≤ hx ∧ ly ≤ hy := by
  simp only [boxP, inP, Bool.and_eq_true, decide_eq_true_eq] at h
  omega

set_option maxHeartbeats 4000000 in
theorem lines_bound {A : Nat → Addr} (lx ly hx hy s : Int) (w : World) (h8 : World8 A w) (hb : boxP lx ly hx hy = true) (hs : 0 < s) (hs2 : s ≤ 9223372036854775807)
    (hmany : 4000 ≤ floorP hx s - ceilP lx s ∨ 4000 ≤ floorP hy s - ceilP ly s) :
    Calls Tryd.prog 9 #[boxV lx ly hx hy, .int .i64 s] w (ExR (.tuple #[.slice none 0 0, .slice none 0 0, errV (A 1)]) w) := by
  obtain ⟨⟨x1, x2⟩, ⟨y1, y2⟩, ⟨u1, u2⟩, ⟨v1, v2⟩, _, _⟩ := box_in hb
  obtain ⟨p1, p2⟩ := ceil_bound hs x1 x2
  obtain ⟨p3, p4⟩ := ceil_bound hs y1 y2
  obtain ⟨p5, p6⟩ := floor_bound hs u1 u2
  obtain ⟨p7, p8⟩ := floor_bound hs v1 v2
  have mf := mf_span
  have tk : Hid True := trivial
  have hs' : ¬ s < 1 := by omega
  by_cases hm : 4000 ≤ floorP hx s - ceilP lx s
  · clear hmany
    go_enter Tryd.func9, Tryd.ntmps9
    go_wp2_with (first
      | (go_at_call 37; refine (right_c lx ly hx hy _).mono ?_; rintro e w1 ⟨rfl, hx1⟩; obtain ⟨hb1, hb2, hxx⟩ := ext2 hx1; rw [hb];
         have k1 : w1.cell? ⟨w.heap.size + 1, 0, none⟩ = some (.int .i64 s) := hb2.cell 0; have b0 : w1.cell? ⟨w.heap.size, 0, none⟩ = some (.int .i64 lx) := hb1.cell 0;
         have b2 : w1.cell? ⟨w.heap.size, 2, none⟩ = some (.int .i64 hx) := hb1.cell 2)
      | (go_at_call 38; clear tk; refine (span_c lx hx s _ _ hs hs2 x1 x2 u1 u2 (by assumption)).mono ?_; rintro e w2 ⟨rfl, hx2⟩; have hb1' := hb1.ext hx2; have hb2' := hb2.ext hx2;
         have k2 : w2.cell? ⟨w.heap.size + 1, 0, none⟩ = some (.int .i64 s) := hb2'.cell 0;
         have d1 : w2.cell? ⟨w.heap.size, 1, none⟩ = some (.int .i64 ly) := hb1'.cell 1; have d3 : w2.cell? ⟨w.heap.size, 3, none⟩ = some (.int .i64 hy) := hb1'.cell 3)
      | (go_at_call 38; refine (span_c ly hy s _ _ hs hs2 y1 y2 v1 v2 (by assumption)).mono ?_; rintro e w3 ⟨rfl, hx3⟩; have hw3 : Ext w w3 := (hxx.trans hx2).trans hx3; have kg := (h8.ext hw3).errs.cell 1 (by decide)))
    go_region
    all_goals go_wp2
    all_goals go_ret3
    all_goals exact ⟨rfl, (by repeat (first | exact Ext.refl _ | assumption | refine Ext.drew ?_ | refine Ext.alloc ?_ _))⟩
  · have hm2 : 4000 ≤ floorP hy s - ceilP ly s := by omega
    clear hmany
    go_enter Tryd.func9, Tryd.ntmps9
    go_wp2_with (first
      | (go_at_call 37; refine (right_c lx ly hx hy _).mono ?_; rintro e w1 ⟨rfl, hx1⟩; obtain ⟨hb1, hb2, hxx⟩ := ext2 hx1; rw [hb];
         have k1 : w1.cell? ⟨w.heap.size + 1, 0, none⟩ = some (.int .i64 s) := hb2.cell 0; have b0 : w1.cell? ⟨w.heap.size, 0, none⟩ = some (.int .i64 lx) := hb1.cell 0;
         have b2 : w1.cell? ⟨w.heap.size, 2, none⟩ = some (.int .i64 hx) := hb1.cell 2)
      | (go_at_call 38; clear tk; refine (span_c lx hx s _ _ hs hs2 x1 x2 u1 u2 (by assumption)).mono ?_; rintro e w2 ⟨rfl, hx2⟩; have hb1' := hb1.ext hx2; have hb2' := hb2.ext hx2;
         have k2 : w2.cell? ⟨w.heap.size + 1, 0, none⟩ = some (.int .i64 s) := hb2'.cell 0;
         have d1 : w2.cell? ⟨w.heap.size, 1, none⟩ = some (.int .i64 ly) := hb1'.cell 1; have d3 : w2.cell? ⟨w.heap.size, 3, none⟩ = some (.int .i64 hy) := hb1'.cell 3)
      | (go_at_call 38; refine (span_c ly hy s _ _ hs hs2 y1 y2 v1 v2 (by assumption)).mono ?_; rintro e w3 ⟨rfl, hx3⟩; have hw3 : Ext w w3 := (hxx.trans hx2).trans hx3; have kg := (h8.ext hw3).errs.cell 1 (by decide)))
    go_region
    all_goals go_wp2
    all_goals go_ret3
    all_goals exact ⟨rfl, (by repeat (first | exact Ext.refl _ | assumption | refine Ext.drew ?_ | refine Ext.alloc ?_ _))⟩

end Go.Proofs.YtdgaeodkffhciaaDoor
