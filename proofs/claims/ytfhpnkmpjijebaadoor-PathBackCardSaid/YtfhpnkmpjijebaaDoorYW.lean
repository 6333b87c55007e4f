/- The walk of the statement PathBack: where it promises nothing; joined. Printed by gen_pathback.py. -/
import Derived.Test.YtfhpnkmpjijebaaDoorYX
namespace Go.Proofs.YtfhpnkmpjijebaaDoor
open Go.RowKit Go.Fp Go.Fp.Tri Go.Rel
set_option maxRecDepth 20000
set_option maxHeartbeats 8000000 in
theorem pathBack_out1 (a f : Nat) (lonA latA lonB latB n : Int) (w : World) (hn : n = greatP lonA latA lonB latB) (b1 : fge a c6e6 = false) : Calls Tryd.prog 3 #[globeV a f, placeV lonA latA, placeV lonB latB] w (ExR (.bool true) w) := by
  have HG : Hid (∀ w, Calls Tryd.prog 5 #[placeV lonA latA, placeV lonB latB] w (ExR (.int .i64 n) w)) := Lib.hid (by rw [hn]; exact greatOf_c lonA latA lonB latB)
  clear hn
  have G1 : (FloatKind.f64.format.order a c6e6 == some .gt || FloatKind.f64.format.order a c6e6 == some .eq) = false := b1
  clear b1
  go_enter Tryd.func3, Tryd.ntmps3
  go_wp2_with (first
    | (go_at_call 4; go_must (refine (lined_c0 (A := fun _ => ⟨0, 0, none⟩) _).mono ?_; rintro e w1 ⟨rfl, hx1⟩; obtain ⟨g1, g2, g3, hw⟩ := ext3 hx1; clear hx1; have hB : Bks w1 [(w.heap.size, 24, #[Value.float .f64 a, Value.float .f64 f]), (w.heap.size + 1, 26, #[Value.int .i64 lonA, Value.int .i64 latA]), (w.heap.size + 1 + 1, 26, #[Value.int .i64 lonB, Value.int .i64 latB])] := ⟨g1, g2, g3, trivial⟩; clear g1 g2 g3; have kc := And.intro hB.1.cell (And.intro hB.2.1.cell hB.2.2.1.cell)))
    | (go_at_call 5; go_must (refine (HG.out _).mono ?_; rintro e wg ⟨rfl, hx⟩; clear kc; replace hB := hB.ext (bareN hx rfl rfl rfl rfl); replace hw := hw.trans (bareN hx rfl rfl rfl rfl); clear hx; have kc := And.intro hB.1.cell (And.intro hB.2.1.cell hB.2.2.1.cell))))
  all_goals go_ret
  all_goals exact ⟨rfl, hw⟩
set_option maxHeartbeats 8000000 in
theorem pathBack_out2 (a f : Nat) (lonA latA lonB latB n : Int) (w : World) (hn : n = greatP lonA latA lonB latB) (b1 : fge a c6e6 = true) (b2 : fle a c65 = false) : Calls Tryd.prog 3 #[globeV a f, placeV lonA latA, placeV lonB latB] w (ExR (.bool true) w) := by
  have HG : Hid (∀ w, Calls Tryd.prog 5 #[placeV lonA latA, placeV lonB latB] w (ExR (.int .i64 n) w)) := Lib.hid (by rw [hn]; exact greatOf_c lonA latA lonB latB)
  clear hn
  have G1 : (FloatKind.f64.format.order a c6e6 == some .gt || FloatKind.f64.format.order a c6e6 == some .eq) = true := b1
  have G2 : (FloatKind.f64.format.order a c65 == some .lt || FloatKind.f64.format.order a c65 == some .eq) = false := b2
  clear b1 b2
  go_enter Tryd.func3, Tryd.ntmps3
  go_wp2_with (first
    | (go_at_call 4; go_must (refine (lined_c0 (A := fun _ => ⟨0, 0, none⟩) _).mono ?_; rintro e w1 ⟨rfl, hx1⟩; obtain ⟨g1, g2, g3, hw⟩ := ext3 hx1; clear hx1; have hB : Bks w1 [(w.heap.size, 24, #[Value.float .f64 a, Value.float .f64 f]), (w.heap.size + 1, 26, #[Value.int .i64 lonA, Value.int .i64 latA]), (w.heap.size + 1 + 1, 26, #[Value.int .i64 lonB, Value.int .i64 latB])] := ⟨g1, g2, g3, trivial⟩; clear g1 g2 g3; have kc := And.intro hB.1.cell (And.intro hB.2.1.cell hB.2.2.1.cell)))
    | (go_at_call 5; go_must (refine (HG.out _).mono ?_; rintro e wg ⟨rfl, hx⟩; clear kc; replace hB := hB.ext (bareN hx rfl rfl rfl rfl); replace hw := hw.trans (bareN hx rfl rfl rfl rfl); clear hx; have kc := And.intro hB.1.cell (And.intro hB.2.1.cell hB.2.2.1.cell))))
  all_goals go_ret
  all_goals exact ⟨rfl, hw⟩
set_option maxHeartbeats 8000000 in
theorem pathBack_out3 (a f : Nat) (lonA latA lonB latB n : Int) (w : World) (hn : n = greatP lonA latA lonB latB) (b1 : fge a c6e6 = true) (b2 : fle a c65 = true) (b3 : fge f 0 = false) : Calls Tryd.prog 3 #[globeV a f, placeV lonA latA, placeV lonB latB] w (ExR (.bool true) w) := by
  have HG : Hid (∀ w, Calls Tryd.prog 5 #[placeV lonA latA, placeV lonB latB] w (ExR (.int .i64 n) w)) := Lib.hid (by rw [hn]; exact greatOf_c lonA latA lonB latB)
  clear hn
  have G1 : (FloatKind.f64.format.order a c6e6 == some .gt || FloatKind.f64.format.order a c6e6 == some .eq) = true := b1
  have G2 : (FloatKind.f64.format.order a c65 == some .lt || FloatKind.f64.format.order a c65 == some .eq) = true := b2
  have G3 : (FloatKind.f64.format.order f 0 == some .gt || FloatKind.f64.format.order f 0 == some .eq) = false := b3
  clear b1 b2 b3
  go_enter Tryd.func3, Tryd.ntmps3
  go_wp2_with (first
    | (go_at_call 4; go_must (refine (lined_c0 (A := fun _ => ⟨0, 0, none⟩) _).mono ?_; rintro e w1 ⟨rfl, hx1⟩; obtain ⟨g1, g2, g3, hw⟩ := ext3 hx1; clear hx1; have hB : Bks w1 [(w.heap.size, 24, #[Value.float .f64 a, Value.float .f64 f]), (w.heap.size + 1, 26, #[Value.int .i64 lonA, Value.int .i64 latA]), (w.heap.size + 1 + 1, 26, #[Value.int .i64 lonB, Value.int .i64 latB])] := ⟨g1, g2, g3, trivial⟩; clear g1 g2 g3; have kc := And.intro hB.1.cell (And.intro hB.2.1.cell hB.2.2.1.cell)))
    | (go_at_call 5; go_must (refine (HG.out _).mono ?_; rintro e wg ⟨rfl, hx⟩; clear kc; replace hB := hB.ext (bareN hx rfl rfl rfl rfl); replace hw := hw.trans (bareN hx rfl rfl rfl rfl); clear hx; have kc := And.intro hB.1.cell (And.intro hB.2.1.cell hB.2.2.1.cell))))
  all_goals go_ret
  all_goals exact ⟨rfl, hw⟩
set_option maxHeartbeats 8000000 in
theorem pathBack_out4 (a f : Nat) (lonA latA lonB latB n : Int) (w : World) (hn : n = greatP lonA latA lonB latB) (b1 : fge a c6e6 = true) (b2 : fle a c65 = true) (b3 : fge f 0 = true) (b4 : fle f c01 = false) : Calls Tryd.prog 3 #[globeV a f, placeV lonA latA, placeV lonB latB] w (ExR (.bool true) w) := by
  have HG : Hid (∀ w, Calls Tryd.prog 5 #[placeV lonA latA, placeV lonB latB] w (ExR (.int .i64 n) w)) := Lib.hid (by rw [hn]; exact greatOf_c lonA latA lonB latB)
  clear hn
  have G1 : (FloatKind.f64.format.order a c6e6 == some .gt || FloatKind.f64.format.order a c6e6 == some .eq) = true := b1
  have G2 : (FloatKind.f64.format.order a c65 == some .lt || FloatKind.f64.format.order a c65 == some .eq) = true := b2
  have G3 : (FloatKind.f64.format.order f 0 == some .gt || FloatKind.f64.format.order f 0 == some .eq) = true := b3
  have G4 : (FloatKind.f64.format.order f c01 == some .lt || FloatKind.f64.format.order f c01 == some .eq) = false := b4
  clear b1 b2 b3 b4
  go_enter Tryd.func3, Tryd.ntmps3
  go_wp2_with (first
    | (go_at_call 4; go_must (refine (lined_c0 (A := fun _ => ⟨0, 0, none⟩) _).mono ?_; rintro e w1 ⟨rfl, hx1⟩; obtain ⟨g1, g2, g3, hw⟩ := ext3 hx1; clear hx1; have hB : Bks w1 [(w.heap.size, 24, #[Value.float .f64 a, Value.float .f64 f]), (w.heap.size + 1, 26, #[Value.int .i64 lonA, Value.int .i64 latA]), (w.heap.size + 1 + 1, 26, #[Value.int .i64 lonB, Value.int .i64 latB])] := ⟨g1, g2, g3, trivial⟩; clear g1 g2 g3; have kc := And.intro hB.1.cell (And.intro hB.2.1.cell hB.2.2.1.cell)))
    | (go_at_call 5; go_must (refine (HG.out _).mono ?_; rintro e wg ⟨rfl, hx⟩; clear kc; replace hB := hB.ext (bareN hx rfl rfl rfl rfl); replace hw := hw.trans (bareN hx rfl rfl rfl rfl); clear hx; have kc := And.intro hB.1.cell (And.intro hB.2.1.cell hB.2.2.1.cell))))
  all_goals go_ret
  all_goals exact ⟨rfl, hw⟩
set_option maxHeartbeats 8000000 in
theorem pathBack_out5 (a f : Nat) (lonA latA lonB latB n : Int) (w : World) (hn : n = greatP lonA latA lonB latB) (b1 : fge a c6e6 = true) (b2 : fle a c65 = true) (b3 : fge f 0 = true) (b4 : fle f c01 = true) (n1 : n < 1000000000) : Calls Tryd.prog 3 #[globeV a f, placeV lonA latA, placeV lonB latB] w (ExR (.bool true) w) := by
  have HG : Hid (∀ w, Calls Tryd.prog 5 #[placeV lonA latA, placeV lonB latB] w (ExR (.int .i64 n) w)) := Lib.hid (by rw [hn]; exact greatOf_c lonA latA lonB latB)
  clear hn
  have G1 : (FloatKind.f64.format.order a c6e6 == some .gt || FloatKind.f64.format.order a c6e6 == some .eq) = true := b1
  have G2 : (FloatKind.f64.format.order a c65 == some .lt || FloatKind.f64.format.order a c65 == some .eq) = true := b2
  have G3 : (FloatKind.f64.format.order f 0 == some .gt || FloatKind.f64.format.order f 0 == some .eq) = true := b3
  have G4 : (FloatKind.f64.format.order f c01 == some .lt || FloatKind.f64.format.order f c01 == some .eq) = true := b4
  clear b1 b2 b3 b4
  go_enter Tryd.func3, Tryd.ntmps3
  go_wp2_with (first
    | (go_at_call 4; go_must (refine (lined_c0 (A := fun _ => ⟨0, 0, none⟩) _).mono ?_; rintro e w1 ⟨rfl, hx1⟩; obtain ⟨g1, g2, g3, hw⟩ := ext3 hx1; clear hx1; have hB : Bks w1 [(w.heap.size, 24, #[Value.float .f64 a, Value.float .f64 f]), (w.heap.size + 1, 26, #[Value.int .i64 lonA, Value.int .i64 latA]), (w.heap.size + 1 + 1, 26, #[Value.int .i64 lonB, Value.int .i64 latB])] := ⟨g1, g2, g3, trivial⟩; clear g1 g2 g3; have kc := And.intro hB.1.cell (And.intro hB.2.1.cell hB.2.2.1.cell)))
    | (go_at_call 5; go_must (refine (HG.out _).mono ?_; rintro e wg ⟨rfl, hx⟩; clear kc; replace hB := hB.ext (bareN hx rfl rfl rfl rfl); replace hw := hw.trans (bareN hx rfl rfl rfl rfl); clear hx; have kc := And.intro hB.1.cell (And.intro hB.2.1.cell hB.2.2.1.cell))))
  all_goals go_ret
  all_goals exact ⟨rfl, hw⟩
set_option maxHeartbeats 8000000 in
theorem pathBack_out6 (a f : Nat) (lonA latA lonB latB n : Int) (w : World) (hn : n = greatP lonA latA lonB latB) (b1 : fge a c6e6 = true) (b2 : fle a c65 = true) (b3 : fge f 0 = true) (b4 : fle f c01 = true) (n1 : 1000000000 ≤ n) (n2 : 170000000000 < n) : Calls Tryd.prog 3 #[globeV a f, placeV lonA latA, placeV lonB latB] w (ExR (.bool true) w) := by
  have HG : Hid (∀ w, Calls Tryd.prog 5 #[placeV lonA latA, placeV lonB latB] w (ExR (.int .i64 n) w)) := Lib.hid (by rw [hn]; exact greatOf_c lonA latA lonB latB)
  clear hn
  have G1 : (FloatKind.f64.format.order a c6e6 == some .gt || FloatKind.f64.format.order a c6e6 == some .eq) = true := b1
  have G2 : (FloatKind.f64.format.order a c65 == some .lt || FloatKind.f64.format.order a c65 == some .eq) = true := b2
  have G3 : (FloatKind.f64.format.order f 0 == some .gt || FloatKind.f64.format.order f 0 == some .eq) = true := b3
  have G4 : (FloatKind.f64.format.order f c01 == some .lt || FloatKind.f64.format.order f c01 == some .eq) = true := b4
  clear b1 b2 b3 b4
  go_enter Tryd.func3, Tryd.ntmps3
  go_wp2_with (first
    | (go_at_call 4; go_must (refine (lined_c0 (A := fun _ => ⟨0, 0, none⟩) _).mono ?_; rintro e w1 ⟨rfl, hx1⟩; obtain ⟨g1, g2, g3, hw⟩ := ext3 hx1; clear hx1; have hB : Bks w1 [(w.heap.size, 24, #[Value.float .f64 a, Value.float .f64 f]), (w.heap.size + 1, 26, #[Value.int .i64 lonA, Value.int .i64 latA]), (w.heap.size + 1 + 1, 26, #[Value.int .i64 lonB, Value.int .i64 latB])] := ⟨g1, g2, g3, trivial⟩; clear g1 g2 g3; have kc := And.intro hB.1.cell (And.intro hB.2.1.cell hB.2.2.1.cell)))
    | (go_at_call 5; go_must (refine (HG.out _).mono ?_; rintro e wg ⟨rfl, hx⟩; clear kc; replace hB := hB.ext (bareN hx rfl rfl rfl rfl); replace hw := hw.trans (bareN hx rfl rfl rfl rfl); clear hx; have kc := And.intro hB.1.cell (And.intro hB.2.1.cell hB.2.2.1.cell))))
  all_goals go_ret
  all_goals exact ⟨rfl, hw⟩
set_option maxHeartbeats 8000000 in
theorem pathBack_out7 (a f : Nat) (lonA latA lonB latB n : Int) (w : World) (hn : n = greatP lonA latA lonB latB) (b1 : fge a c6e6 = true) (b2 : fle a c65 = true) (b3 : fge f 0 = true) (b4 : fle f c01 = true) (n1 : 1000000000 ≤ n) (n2 : n ≤ 170000000000) (p2 : 80000000000 < latA) : Calls Tryd.prog 3 #[globeV a f, placeV lonA latA, placeV lonB latB] w (ExR (.bool true) w) := by
  have HG : Hid (∀ w, Calls Tryd.prog 5 #[placeV lonA latA, placeV lonB latB] w (ExR (.int .i64 n) w)) := Lib.hid (by rw [hn]; exact greatOf_c lonA latA lonB latB)
  clear hn
  have G1 : (FloatKind.f64.format.order a c6e6 == some .gt || FloatKind.f64.format.order a c6e6 == some .eq) = true := b1
  have G2 : (FloatKind.f64.format.order a c65 == some .lt || FloatKind.f64.format.order a c65 == some .eq) = true := b2
  have G3 : (FloatKind.f64.format.order f 0 == some .gt || FloatKind.f64.format.order f 0 == some .eq) = true := b3
  have G4 : (FloatKind.f64.format.order f c01 == some .lt || FloatKind.f64.format.order f c01 == some .eq) = true := b4
  clear b1 b2 b3 b4
  go_enter Tryd.func3, Tryd.ntmps3
  go_wp2_with (first
    | (go_at_call 4; go_must (refine (lined_c0 (A := fun _ => ⟨0, 0, none⟩) _).mono ?_; rintro e w1 ⟨rfl, hx1⟩; obtain ⟨g1, g2, g3, hw⟩ := ext3 hx1; clear hx1; have hB : Bks w1 [(w.heap.size, 24, #[Value.float .f64 a, Value.float .f64 f]), (w.heap.size + 1, 26, #[Value.int .i64 lonA, Value.int .i64 latA]), (w.heap.size + 1 + 1, 26, #[Value.int .i64 lonB, Value.int .i64 latB])] := ⟨g1, g2, g3, trivial⟩; clear g1 g2 g3; have kc := And.intro hB.1.cell (And.intro hB.2.1.cell hB.2.2.1.cell)))
    | (go_at_call 5; go_must (refine (HG.out _).mono ?_; rintro e wg ⟨rfl, hx⟩; clear kc; replace hB := hB.ext (bareN hx rfl rfl rfl rfl); replace hw := hw.trans (bareN hx rfl rfl rfl rfl); clear hx; have kc := And.intro hB.1.cell (And.intro hB.2.1.cell hB.2.2.1.cell))))
  all_goals go_ret
  all_goals exact ⟨rfl, hw⟩
set_option maxHeartbeats 8000000 in
theorem pathBack_out8 (a f : Nat) (lonA latA lonB latB n : Int) (w : World) (hn : n = greatP lonA latA lonB latB) (b1 : fge a c6e6 = true) (b2 : fle a c65 = true) (b3 : fge f 0 = true) (b4 : fle f c01 = true) (n1 : 1000000000 ≤ n) (n2 : n ≤ 170000000000) (p2 : latA ≤ 80000000000) (p1 : latA < -80000000000) : Calls Tryd.prog 3 #[globeV a f, placeV lonA latA, placeV lonB latB] w (ExR (.bool true) w) := by
  have HG : Hid (∀ w, Calls Tryd.prog 5 #[placeV lonA latA, placeV lonB latB] w (ExR (.int .i64 n) w)) := Lib.hid (by rw [hn]; exact greatOf_c lonA latA lonB latB)
  clear hn
  have G1 : (FloatKind.f64.format.order a c6e6 == some .gt || FloatKind.f64.format.order a c6e6 == some .eq) = true := b1
  have G2 : (FloatKind.f64.format.order a c65 == some .lt || FloatKind.f64.format.order a c65 == some .eq) = true := b2
  have G3 : (FloatKind.f64.format.order f 0 == some .gt || FloatKind.f64.format.order f 0 == some .eq) = true := b3
  have G4 : (FloatKind.f64.format.order f c01 == some .lt || FloatKind.f64.format.order f c01 == some .eq) = true := b4
  clear b1 b2 b3 b4
  go_enter Tryd.func3, Tryd.ntmps3
  go_wp2_with (first
    | (go_at_call 4; go_must (refine (lined_c0 (A := fun _ => ⟨0, 0, none⟩) _).mono ?_; rintro e w1 ⟨rfl, hx1⟩; obtain ⟨g1, g2, g3, hw⟩ := ext3 hx1; clear hx1; have hB : Bks w1 [(w.heap.size, 24, #[Value.float .f64 a, Value.float .f64 f]), (w.heap.size + 1, 26, #[Value.int .i64 lonA, Value.int .i64 latA]), (w.heap.size + 1 + 1, 26, #[Value.int .i64 lonB, Value.int .i64 latB])] := ⟨g1, g2, g3, trivial⟩; clear g1 g2 g3; have kc := And.intro hB.1.cell (And.intro hB.2.1.cell hB.2.2.1.cell)))
    | (go_at_call 5; go_must (refine (HG.out _).mono ?_; rintro e wg ⟨rfl, hx⟩; clear kc; replace hB := hB.ext (bareN hx rfl rfl rfl rfl); replace hw := hw.trans (bareN hx rfl rfl rfl rfl); clear hx; have kc := And.intro hB.1.cell (And.intro hB.2.1.cell hB.2.2.1.cell))))
  all_goals go_ret
  all_goals exact ⟨rfl, hw⟩
set_option maxHeartbeats 8000000 in
theorem pathBack_out9 (a f : Nat) (lonA latA lonB latB n : Int) (w : World) (hn : n = greatP lonA latA lonB latB) (b1 : fge a c6e6 = true) (b2 : fle a c65 = true) (b3 : fge f 0 = true) (b4 : fle f c01 = true) (n1 : 1000000000 ≤ n) (n2 : n ≤ 170000000000) (p2 : latA ≤ 80000000000) (p1 : -80000000000 ≤ latA) (q2 : 80000000000 < latB) : Calls Tryd.prog 3 #[globeV a f, placeV lonA latA, placeV lonB latB] w (ExR (.bool true) w) := by
  have HG : Hid (∀ w, Calls Tryd.prog 5 #[placeV lonA latA, placeV lonB latB] w (ExR (.int .i64 n) w)) := Lib.hid (by rw [hn]; exact greatOf_c lonA latA lonB latB)
  clear hn
  have G1 : (FloatKind.f64.format.order a c6e6 == some .gt || FloatKind.f64.format.order a c6e6 == some .eq) = true := b1
  have G2 : (FloatKind.f64.format.order a c65 == some .lt || FloatKind.f64.format.order a c65 == some .eq) = true := b2
  have G3 : (FloatKind.f64.format.order f 0 == some .gt || FloatKind.f64.format.order f 0 == some .eq) = true := b3
  have G4 : (FloatKind.f64.format.order f c01 == some .lt || FloatKind.f64.format.order f c01 == some .eq) = true := b4
  clear b1 b2 b3 b4
  go_enter Tryd.func3, Tryd.ntmps3
  go_wp2_with (first
    | (go_at_call 4; go_must (refine (lined_c0 (A := fun _ => ⟨0, 0, none⟩) _).mono ?_; rintro e w1 ⟨rfl, hx1⟩; obtain ⟨g1, g2, g3, hw⟩ := ext3 hx1; clear hx1; have hB : Bks w1 [(w.heap.size, 24, #[Value.float .f64 a, Value.float .f64 f]), (w.heap.size + 1, 26, #[Value.int .i64 lonA, Value.int .i64 latA]), (w.heap.size + 1 + 1, 26, #[Value.int .i64 lonB, Value.int .i64 latB])] := ⟨g1, g2, g3, trivial⟩; clear g1 g2 g3; have kc := And.intro hB.1.cell (And.intro hB.2.1.cell hB.2.2.1.cell)))
    | (go_at_call 5; go_must (refine (HG.out _).mono ?_; rintro e wg ⟨rfl, hx⟩; clear kc; replace hB := hB.ext (bareN hx rfl rfl rfl rfl); replace hw := hw.trans (bareN hx rfl rfl rfl rfl); clear hx; have kc := And.intro hB.1.cell (And.intro hB.2.1.cell hB.2.2.1.cell))))
  all_goals go_ret
  all_goals exact ⟨rfl, hw⟩
set_option maxHeartbeats 8000000 in
theorem pathBack_out10 (a f : Nat) (lonA latA lonB latB n : Int) (w : World) (hn : n = greatP lonA latA lonB latB) (b1 : fge a c6e6 = true) (b2 : fle a c65 = true) (b3 : fge f 0 = true) (b4 : fle f c01 = true) (n1 : 1000000000 ≤ n) (n2 : n ≤ 170000000000) (p2 : latA ≤ 80000000000) (p1 : -80000000000 ≤ latA) (q2 : latB ≤ 80000000000) (q1 : latB < -80000000000) : Calls Tryd.prog 3 #[globeV a f, placeV lonA latA, placeV lonB latB] w (ExR (.bool true) w) := by
  have HG : Hid (∀ w, Calls Tryd.prog 5 #[placeV lonA latA, placeV lonB latB] w (ExR (.int .i64 n) w)) := Lib.hid (by rw [hn]; exact greatOf_c lonA latA lonB latB)
  clear hn
  have G1 : (FloatKind.f64.format.order a c6e6 == some .gt || FloatKind.f64.format.order a c6e6 == some .eq) = true := b1
  have G2 : (FloatKind.f64.format.order a c65 == some .lt || FloatKind.f64.format.order a c65 == some .eq) = true := b2
  have G3 : (FloatKind.f64.format.order f 0 == some .gt || FloatKind.f64.format.order f 0 == some .eq) = true := b3
  have G4 : (FloatKind.f64.format.order f c01 == some .lt || FloatKind.f64.format.order f c01 == some .eq) = true := b4
  clear b1 b2 b3 b4
  go_enter Tryd.func3, Tryd.ntmps3
  go_wp2_with (first
    | (go_at_call 4; go_must (refine (lined_c0 (A := fun _ => ⟨0, 0, none⟩) _).mono ?_; rintro e w1 ⟨rfl, hx1⟩; obtain ⟨g1, g2, g3, hw⟩ := ext3 hx1; clear hx1; have hB : Bks w1 [(w.heap.size, 24, #[Value.float .f64 a, Value.float .f64 f]), (w.heap.size + 1, 26, #[Value.int .i64 lonA, Value.int .i64 latA]), (w.heap.size + 1 + 1, 26, #[Value.int .i64 lonB, Value.int .i64 latB])] := ⟨g1, g2, g3, trivial⟩; clear g1 g2 g3; have kc := And.intro hB.1.cell (And.intro hB.2.1.cell hB.2.2.1.cell)))
    | (go_at_call 5; go_must (refine (HG.out _).mono ?_; rintro e wg ⟨rfl, hx⟩; clear kc; replace hB := hB.ext (bareN hx rfl rfl rfl rfl); replace hw := hw.trans (bareN hx rfl rfl rfl rfl); clear hx; have kc := And.intro hB.1.cell (And.intro hB.2.1.cell hB.2.2.1.cell))))
  all_goals go_ret
  all_goals exact ⟨rfl, hw⟩
theorem pathBack_walk (a f : Nat) (lonA latA lonB latB : Int) (w : World) : Calls Tryd.prog 3 #[globeV a f, placeV lonA latA, placeV lonB latB] w (ExR (.bool true) w) := by
  obtain ⟨n, hn⟩ : ∃ n, n = greatP lonA latA lonB latB := ⟨_, rfl⟩
  cases b1 : fge a c6e6
  · exact pathBack_out1 a f lonA latA lonB latB n w hn b1
  cases b2 : fle a c65
  · exact pathBack_out2 a f lonA latA lonB latB n w hn b1 b2
  cases b3 : fge f 0
  · exact pathBack_out3 a f lonA latA lonB latB n w hn b1 b2 b3
  cases b4 : fle f c01
  · exact pathBack_out4 a f lonA latA lonB latB n w hn b1 b2 b3 b4
  rcases Int.lt_or_le n (1000000000) with n1 | n1
  · exact pathBack_out5 a f lonA latA lonB latB n w hn b1 b2 b3 b4 n1
  rcases Int.lt_or_le 170000000000 n with n2 | n2
  · exact pathBack_out6 a f lonA latA lonB latB n w hn b1 b2 b3 b4 n1 n2
  rcases Int.lt_or_le 80000000000 latA with p2 | p2
  · exact pathBack_out7 a f lonA latA lonB latB n w hn b1 b2 b3 b4 n1 n2 p2
  rcases Int.lt_or_le latA (-80000000000) with p1 | p1
  · exact pathBack_out8 a f lonA latA lonB latB n w hn b1 b2 b3 b4 n1 n2 p2 p1
  rcases Int.lt_or_le 80000000000 latB with q2 | q2
  · exact pathBack_out9 a f lonA latA lonB latB n w hn b1 b2 b3 b4 n1 n2 p2 p1 q2
  rcases Int.lt_or_le latB (-80000000000) with q1 | q1
  · exact pathBack_out10 a f lonA latA lonB latB n w hn b1 b2 b3 b4 n1 n2 p2 p1 q2 q1
  exact pathBack_in a f lonA latA lonB latB n w b1 b2 b3 b4 hn n1 n2 p1 p2 q1 q2
end Go.Proofs.YtfhpnkmpjijebaaDoor
