/- Walks: Far, row, to and from the other frame, the reference's. Printed by gen_datum2.py. -/
import Derived.Test.YtmmifmlkhmdgaaaDoorJI
namespace Go.Proofs.YtmmifmlkhmdgaaaDoor
open Go.RowKit Go.Fp Go.Rel
set_option maxRecDepth 20000

def SpPl (args : Array Value) (v : Value) : Prop := ∃ x y z : Nat, args = #[.float .f64 x, .float .f64 y, .float .f64 z] ∧ isFl (fadd (can x) (fmul (can y) (can z))) v
theorem spPl_iff (x y z : Nat) (v : Value) : SpPl #[.float .f64 x, .float .f64 y, .float .f64 z] v ↔ isFl (fadd (can x) (fmul (can y) (can z))) v := by
  unfold SpPl
  exact ⟨fun ⟨_, _, _, h, k⟩ => by simp at h; obtain ⟨rfl, rfl, rfl⟩ := h; exact k, fun h => ⟨_, _, _, rfl, h⟩⟩
def SpLe (args : Array Value) (v : Value) : Prop := ∃ x y z : Nat, args = #[.float .f64 x, .float .f64 y, .float .f64 z] ∧ isFl (fsub (can x) (fmul (can y) (can z))) v
theorem spLe_iff (x y z : Nat) (v : Value) : SpLe #[.float .f64 x, .float .f64 y, .float .f64 z] v ↔ isFl (fsub (can x) (fmul (can y) (can z))) v := by
  unfold SpLe
  exact ⟨fun ⟨_, _, _, h, k⟩ => by simp at h; obtain ⟨rfl, rfl, rfl⟩ := h; exact k, fun h => ⟨_, _, _, rfl, h⟩⟩
def SpRow (args : Array Value) (v : Value) : Prop := ∃ p q r x y z n : Nat, args = #[.float .f64 p, .float .f64 q, .float .f64 r, vecU x y z, .float .f64 n] ∧ isFl (rowD (can p) (can q) (can r) (can x) (can y) (can z) (can n)) v
theorem spRow_iff (p q r x y z n : Nat) (v : Value) : SpRow #[.float .f64 p, .float .f64 q, .float .f64 r, vecU x y z, .float .f64 n] v ↔ isFl (rowD (can p) (can q) (can r) (can x) (can y) (can z) (can n)) v := by
  unfold SpRow
  exact ⟨fun ⟨_, _, _, _, _, _, _, h, k⟩ => by simp at h; obtain ⟨rfl, rfl, rfl, ⟨rfl, rfl, rfl⟩, rfl⟩ := h; exact k, fun h => ⟨_, _, _, _, _, _, _, rfl, h⟩⟩

set_option maxHeartbeats 8000000 in
theorem far_c (x y z : Nat) (w : World) : Calls Tryd.prog 20 #[vecU x y z] w (ExR (.bool (!okV x y z)) w) := by
  unfold okV
  have G1 := fun w => between_c x m1e10 c1e10 w
  have G2 := fun w => between_c y m1e10 c1e10 w
  have G3 := fun w => between_c z m1e10 c1e10 w
  simp only [btw_inn] at G1 G2 G3
  generalize inn x c1e10 m1e10 = b1 at *
  generalize inn y c1e10 m1e10 = b2 at *
  generalize inn z c1e10 m1e10 = b3 at *
  have H1 := Lib.hid G1
  have H2 := Lib.hid G2
  have H3 := Lib.hid G3
  clear G1 G2 G3
  have tkF : Hid True := trivial
  cases b1 <;> cases b2 <;> cases b3
  all_goals
    go_enter Tryd.func20, Tryd.ntmps20
    go_wp2_with (first
      | (go_at_call 62; clear tkF; (with_reducible refine (H1.out _).mono ?_); go_must (rintro e w1 ⟨rfl, hx⟩; obtain ⟨hb1, hw⟩ := ext1 hx; clear hx; have c1 := hb1.cell))
      | (go_at_call 62; (with_reducible refine (H2.out _).mono ?_); go_must (rintro e w2 ⟨rfl, hx⟩; replace hw := hw.trans (bareN hx rfl rfl rfl rfl); replace hb1 := hb1.ext (bareN hx rfl rfl rfl rfl); clear hx c1; have c1 := hb1.cell))
      | (go_at_call 62; (with_reducible refine (H3.out _).mono ?_); go_must (rintro e w2 ⟨rfl, hx⟩; replace hw := hw.trans (bareN hx rfl rfl rfl rfl); replace hb1 := hb1.ext (bareN hx rfl rfl rfl rfl); clear hx c1; have c1 := hb1.cell)))
    go_ret
    exact ⟨rfl, hw⟩

set_option maxHeartbeats 4000000 in
theorem drow_c (p q r x y z n : Nat) (w : World) : Calls Tryd.prog 67 #[.float .f64 p, .float .f64 q, .float .f64 r, vecU x y z, .float .f64 n] w (FlR (rowD (can p) (can q) (can r) (can x) (can y) (can z) (can n)) w) := by
  have tk : Hid True := trivial
  have k1 : ∀ o m i, ((w.alloc o).drewN m).cell? ⟨w.heap.size, i, none⟩ = (w.alloc o).cell? ⟨w.heap.size, i, none⟩ := fun _ _ _ => rfl
  go_enter Tryd.func67, Tryd.ntmps67
  go_wp2_with (first
    | (go_at_call 65; clear tk; go_must (refine (plus_c _ _ _ _).mono ?_; rintro e w1 ⟨s1, rfl, hs1, hx⟩; obtain ⟨hb1, hw⟩ := ext1 (show Ext (w.alloc (.cells #[.float .f64 x, .float .f64 y, .float .f64 z] 29)) w1 from bareN hx rfl rfl rfl rfl); clear hx; have c1 := hb1.cell))
    | (go_at_call 65; go_must (refine (plus_c _ _ _ _).mono ?_; rintro e w2 ⟨s2, rfl, hs2, hx⟩; replace hw := hw.trans (bareN hx rfl rfl rfl rfl); replace hb1 := hb1.ext (bareN hx rfl rfl rfl rfl); clear hx c1; have c1 := hb1.cell))
    | (with_reducible refine upon_fl rfl ?_; intro r n hr))
  go_ret
  refine ⟨_, rfl, ?_, by repeat (first | exact hw | refine Ext.drewN ?_ _)⟩
  simp only [*, fbin, rowD]

set_option maxHeartbeats 16000000 in
theorem toOther_c (X Y Z A B C S x y z : Nat) (w : World) : Calls Tryd.prog 22 #[datV X Y Z A B C S, vecU x y z] w (VeR (toX (can X) (can B) (can C) (kD (can S)) (can x) (can y) (can z)) (toY (can Y) (can A) (can C) (kD (can S)) (can x) (can y) (can z)) (toZ (can Z) (can A) (can B) (kD (can S)) (can x) (can y) (can z)) w) := by
  obtain ⟨hb1, hb2, hb3, hw⟩ := ext3 (Ext.refl (((w.alloc (.cells #[.float .f64 X, .float .f64 Y, .float .f64 Z, .float .f64 A, .float .f64 B, .float .f64 C, .float .f64 S] 43)).alloc (.cells #[.float .f64 x, .float .f64 y, .float .f64 z] 29)).alloc (.cells #[.float .f64 0, .float .f64 0, .float .f64 0] 29)))
  go_enter Tryd.func22, Tryd.ntmps22
  go_wp2_with (first
    | (with_reducible refine upon_fl rfl ?_; intro r n hr))
  refine wp_region_all (fun g args v => (g = 65 ∧ SpPl args v) ∨ (g = 66 ∧ SpLe args v)) (by kernel_rfl) (by kernel_rfl) ?_
  repeat (first
    | (refine wpR_op rfl (fun w9 hw9 K hK => ?_); have k0 := (hb1.ext (bareN hw9 rfl rfl rfl rfl)).cell; have k1 := (hb2.ext (bareN hw9 rfl rfl rfl rfl)).cell; go_simp; refine hK _ ?_; clear hK K k0 k1 hw9 w9)
    | (refine wpR_op rfl (fun w9 hw9 K hK => ?_); go_simp; refine rel_fl rfl ?_; intro r hr; refine hK _ ?_; clear hK K hw9 w9)
    | (refine wpR_op rfl (fun w9 hw9 K hK => ?_); go_simp; refine rel_call (FlR.call (plus_c _ _ _ _)) (fun v => ?_) (fun v hv => ?_); (simp [spPl_iff]); obtain ⟨r, rfl, hr⟩ := hv; refine hK _ ?_; clear hK K hw9 w9)
    | (refine wpR_op rfl (fun w9 hw9 K hK => ?_); go_simp; refine rel_call (FlR.call (less_c _ _ _ _)) (fun v => ?_) (fun v hv => ?_); (simp [spLe_iff]); obtain ⟨r, rfl, hr⟩ := hv; refine hK _ ?_; clear hK K hw9 w9))
  refine wpR_nil ?_
  intro w8 hx8 _
  replace hw := hw.trans (bareN hx8 rfl rfl rfl rfl)
  replace hb1 := hb1.ext (bareN hx8 rfl rfl rfl rfl)
  replace hb2 := hb2.ext (bareN hx8 rfl rfl rfl rfl)
  replace hb3 := hb3.ext (bareN hx8 rfl rfl rfl rfl)
  clear hx8
  have cc := And.intro hb1.cell (And.intro hb2.cell (hb3.cell))
  go_wp2_with (first
    | (go_at_call 66; go_must (refine (less_c _ _ _ _).mono ?_; rintro e w1 ⟨l1, rfl, hl1, hx⟩; replace hw := hw.trans (bareN hx rfl rfl rfl rfl); replace hb1 := hb1.ext (bareN hx rfl rfl rfl rfl); replace hb2 := hb2.ext (bareN hx rfl rfl rfl rfl); replace hb3 := hb3.ext (bareN hx rfl rfl rfl rfl); clear cc hx; have cc := And.intro hb1.cell (And.intro hb2.cell hb3.cell)))
    | (with_reducible refine upon_fl rfl ?_; intro r n hr))
  clear cc
  refine wp_region_all (fun g args v => (g = 65 ∧ SpPl args v) ∨ (g = 66 ∧ SpLe args v)) (by kernel_rfl) (by kernel_rfl) ?_
  repeat (first
    | (refine wpR_op rfl (fun w9 hw9 K hK => ?_); have k0 := (hb1.ext (bareN hw9 rfl rfl rfl rfl)).cell; have k1 := (hb2.ext (bareN hw9 rfl rfl rfl rfl)).cell; go_simp; refine hK _ ?_; clear hK K k0 k1 hw9 w9)
    | (refine wpR_op rfl (fun w9 hw9 K hK => ?_); go_simp; refine rel_fl rfl ?_; intro r hr; refine hK _ ?_; clear hK K hw9 w9)
    | (refine wpR_op rfl (fun w9 hw9 K hK => ?_); go_simp; refine rel_call (FlR.call (plus_c _ _ _ _)) (fun v => ?_) (fun v hv => ?_); (simp [spPl_iff]); obtain ⟨r, rfl, hr⟩ := hv; refine hK _ ?_; clear hK K hw9 w9)
    | (refine wpR_op rfl (fun w9 hw9 K hK => ?_); go_simp; refine rel_call (FlR.call (less_c _ _ _ _)) (fun v => ?_) (fun v hv => ?_); (simp [spLe_iff]); obtain ⟨r, rfl, hr⟩ := hv; refine hK _ ?_; clear hK K hw9 w9))
  refine wpR_nil ?_
  intro w8 hx8 _
  replace hw := hw.trans (bareN hx8 rfl rfl rfl rfl)
  replace hb1 := hb1.ext (bareN hx8 rfl rfl rfl rfl)
  replace hb2 := hb2.ext (bareN hx8 rfl rfl rfl rfl)
  replace hb3 := hb3.ext (bareN hx8 rfl rfl rfl rfl)
  clear hx8
  have cc := And.intro hb1.cell (And.intro hb2.cell (hb3.cell))
  go_wp2_with fail
  clear cc
  have tkA : Hid True := trivial
  have tkB : Hid True := trivial
  refine wp_region_head 16 (fun g args v => (g = 65 ∧ SpPl args v)) (by kernel_rfl) (by kernel_rfl) ?_
  simp only [List.take_succ_cons, List.take_zero, List.drop_succ_cons, List.drop_zero]
  repeat (first
    | (refine wpR_op rfl (fun w9 hw9 K hK => ?_); have k0 := (hb1.ext (bareN hw9 rfl rfl rfl rfl)).cell; go_simp; refine hK _ ?_; clear hK K k0 hw9 w9)
    | (refine wpR_op rfl (fun w9 hw9 K hK => ?_); clear tkA; go_simp; refine rel_call (FlR.call (plus_c _ _ _ _)) (fun v => ?_) (fun v hv => ?_); (simp [spPl_iff]); obtain ⟨vA, rfl, hvA⟩ := hv; refine hK _ ?_; clear hK K hw9 w9)
    | (refine wpR_op rfl (fun w9 hw9 K hK => ?_); clear tkB; go_simp; refine rel_call (FlR.call (plus_c _ _ _ _)) (fun v => ?_) (fun v hv => ?_); (simp [spPl_iff]); obtain ⟨vB, rfl, hvB⟩ := hv; refine hK _ ?_; clear hK K hw9 w9)
    | (refine wpR_op rfl (fun w9 hw9 K hK => ?_); go_simp; refine rel_call (FlR.call (plus_c _ _ _ _)) (fun v => ?_) (fun v hv => ?_); (simp [spPl_iff]); obtain ⟨vC, rfl, hvC⟩ := hv; refine hK _ ?_; clear hK K hw9 w9))
  refine wpR_nil ?_
  intro w8 hx8 _
  replace hw := hw.trans (bareN hx8 rfl rfl rfl rfl)
  replace hb3 := hb3.ext (bareN hx8 rfl rfl rfl rfl)
  clear hx8 hb1 hb2
  go_wp2_with (first
    | (refine wpList_own rfl 29 _ _ rfl _ _ rfl rfl _ _ hb3 (by kernel_rfl) rfl (by simp [Value.oneCell']) ?_; go_must (intro u bn en sn; replace hw := en w (by repeat (first | exact hw | refine Ext.drewN ?_ _)) (by omega); have kc := bn.cell; clear sn en hb3)))
  refine bodyPost_ret (v := vecU vA vB vC) (by simp [results, Tryd.results22, go_sem, kc]) rfl ⟨vA, vB, vC, rfl, ?_, ?_, ?_, hw⟩
  all_goals simp only [*, fbin, toX, toY, toZ, kD, can_one', can_m6]

set_option maxHeartbeats 16000000 in
theorem fromOther_c (X Y Z A B C S x y z : Nat) (w : World) : Calls Tryd.prog 23 #[datV X Y Z A B C S, vecU x y z] w (VeR (frX (can A) (can B) (can C) (coD (can x) (can X) (kD (can S))) (coD (can y) (can Y) (kD (can S))) (coD (can z) (can Z) (kD (can S)))) (frY (can A) (can B) (can C) (coD (can x) (can X) (kD (can S))) (coD (can y) (can Y) (kD (can S))) (coD (can z) (can Z) (kD (can S)))) (frZ (can A) (can B) (can C) (coD (can x) (can X) (kD (can S))) (coD (can y) (can Y) (kD (can S))) (coD (can z) (can Z) (kD (can S)))) w) := by
  obtain ⟨hb1, hb2, hb3, hw⟩ := ext3 (Ext.refl (((w.alloc (.cells #[.float .f64 X, .float .f64 Y, .float .f64 Z, .float .f64 A, .float .f64 B, .float .f64 C, .float .f64 S] 43)).alloc (.cells #[.float .f64 x, .float .f64 y, .float .f64 z] 29)).alloc (.cells #[.float .f64 0, .float .f64 0, .float .f64 0] 29)))
  go_enter Tryd.func23, Tryd.ntmps23
  go_wp2_with (first
    | (with_reducible refine upon_fl rfl ?_; intro r n hr))
  rename_i q1 m1 g1 q2 m2 g2 q3 m3 g3 q4 m4 g4 q5 m5 g5 q6 m6 g6 q7 m7 g7 KK hKK
  obtain ⟨w3, hw3⟩ : ∃ w3, w3 = (((w.alloc (.cells #[.float .f64 X, .float .f64 Y, .float .f64 Z, .float .f64 A, .float .f64 B, .float .f64 C, .float .f64 S] 43)).alloc (.cells #[.float .f64 x, .float .f64 y, .float .f64 z] 29)).alloc (.cells #[.float .f64 0, .float .f64 0, .float .f64 0] 29)) := ⟨_, rfl⟩
  have hsz : w3.heap.size = w.heap.size + 1 + 1 + 1 := by rw [hw3]; simp
  rw [← hw3] at hb1 hb2 hb3 hw ⊢
  obtain ⟨wk, hwk⟩ : ∃ wk, wk = ((w3.alloc (.cells #[.float .f64 q4, .float .f64 q6, .float .f64 r] 29)).drewN (m1 + m2 + m3 + m4 + m5 + m6 + m7 + n)) := ⟨_, rfl⟩
  rw [← hwk]
  have e4 : Ext (w3.alloc (.cells #[.float .f64 q4, .float .f64 q6, .float .f64 r] 29)) wk := by rw [hwk]; exact (Ext.refl _).drewN _
  obtain ⟨hbP, e3⟩ := ext1 e4
  rw [hsz] at hbP
  replace hb1 := hb1.ext e3
  replace hb2 := hb2.ext e3
  replace hb3 := hb3.ext e3
  replace hw := hw.trans e3
  have EP : Hid (can q4 = coD (can x) (can X) (kD (can S)) ∧ can q6 = coD (can y) (can Y) (kD (can S)) ∧ can r = coD (can z) (can Z) (kD (can S))) := Lib.hid ⟨by simp only [*, fbin, coD, kD, can_one', can_m6], by simp only [*, fbin, coD, kD, can_one', can_m6], by simp only [*, fbin, coD, kD, can_one', can_m6]⟩
  clear hwk hw3 e4 e3 hsz g1 g2 g3 g4 g5 g6 g7 hr
  generalize r = q8 at *
  have cc := And.intro hb1.cell (And.intro hb2.cell (And.intro hb3.cell hbP.cell))
  clear cc
  refine wp_region_all (fun g args v => (g = 65 ∧ SpPl args v)) (by kernel_rfl) (by kernel_rfl) ?_
  repeat (first
    | (refine wpR_op rfl (fun w9 hw9 K hK => ?_); have k0 := (hb1.ext (bareN hw9 rfl rfl rfl rfl)).cell; go_simp; refine hK _ ?_; clear hK K k0 hw9 w9)
    | (refine wpR_op rfl (fun w9 hw9 K hK => ?_); go_simp; refine rel_fl rfl ?_; intro r hr; refine hK _ ?_; clear hK K hw9 w9)
    | (refine wpR_op rfl (fun w9 hw9 K hK => ?_); go_simp; refine rel_call (FlR.call (plus_c _ _ _ _)) (fun v => ?_) (fun v hv => ?_); (simp [spPl_iff]); obtain ⟨r, rfl, hr⟩ := hv; refine hK _ ?_; clear hK K hw9 w9))
  refine wpR_nil ?_
  intro w8 hx8 _
  replace hw := hw.trans (bareN hx8 rfl rfl rfl rfl)
  replace hb1 := hb1.ext (bareN hx8 rfl rfl rfl rfl)
  replace hb2 := hb2.ext (bareN hx8 rfl rfl rfl rfl)
  replace hb3 := hb3.ext (bareN hx8 rfl rfl rfl rfl)
  replace hbP := hbP.ext (bareN hx8 rfl rfl rfl rfl)
  clear hx8
  have cc := And.intro hb1.cell (And.intro hb2.cell (And.intro hb3.cell (hbP.cell)))
  go_wp2_with (first
    | (with_reducible refine upon_fl rfl ?_; intro r n hr))
  clear cc
  refine wp_region_all (fun g args v => (g = 65 ∧ SpPl args v) ∨ (g = 67 ∧ SpRow args v)) (by kernel_rfl) (by kernel_rfl) ?_
  repeat (first
    | (refine wpR_op rfl (fun w9 hw9 K hK => ?_); have k0 := (hb1.ext (bareN hw9 rfl rfl rfl rfl)).cell; have k1 := (hbP.ext (bareN hw9 rfl rfl rfl rfl)).cell; go_simp; refine hK _ ?_; clear hK K k0 k1 hw9 w9)
    | (refine wpR_op rfl (fun w9 hw9 K hK => ?_); go_simp; refine rel_fl rfl ?_; intro r hr; refine hK _ ?_; clear hK K hw9 w9)
    | (refine wpR_op rfl (fun w9 hw9 K hK => ?_); go_simp; refine rel_call (FlR.call (plus_c _ _ _ _)) (fun v => ?_) (fun v hv => ?_); (simp [spPl_iff]); obtain ⟨r, rfl, hr⟩ := hv; refine hK _ ?_; clear hK K hw9 w9)
    | (refine wpR_op rfl (fun w9 hw9 K hK => ?_); go_simp; refine rel_call (FlR.call (drow_c _ _ _ _ _ _ _ _)) (fun v => ?_) (fun v hv => ?_); (simp [spRow_iff]); obtain ⟨vX, rfl, hvX⟩ := hv; refine hK _ ?_; clear hK K hw9 w9))
  refine wpR_nil ?_
  intro w8 hx8 _
  replace hw := hw.trans (bareN hx8 rfl rfl rfl rfl)
  replace hb1 := hb1.ext (bareN hx8 rfl rfl rfl rfl)
  replace hb2 := hb2.ext (bareN hx8 rfl rfl rfl rfl)
  replace hb3 := hb3.ext (bareN hx8 rfl rfl rfl rfl)
  replace hbP := hbP.ext (bareN hx8 rfl rfl rfl rfl)
  clear hx8
  have cc := And.intro hb1.cell (And.intro hb2.cell (And.intro hb3.cell (hbP.cell)))
  go_wp2_with fail
  clear cc
  refine wp_region_all (fun g args v => (g = 65 ∧ SpPl args v) ∨ (g = 67 ∧ SpRow args v)) (by kernel_rfl) (by kernel_rfl) ?_
  repeat (first
    | (refine wpR_op rfl (fun w9 hw9 K hK => ?_); have k0 := (hb1.ext (bareN hw9 rfl rfl rfl rfl)).cell; have k1 := (hbP.ext (bareN hw9 rfl rfl rfl rfl)).cell; go_simp; refine hK _ ?_; clear hK K k0 k1 hw9 w9)
    | (refine wpR_op rfl (fun w9 hw9 K hK => ?_); go_simp; refine rel_fl rfl ?_; intro r hr; refine hK _ ?_; clear hK K hw9 w9)
    | (refine wpR_op rfl (fun w9 hw9 K hK => ?_); go_simp; refine rel_call (FlR.call (plus_c _ _ _ _)) (fun v => ?_) (fun v hv => ?_); (simp [spPl_iff]); obtain ⟨r, rfl, hr⟩ := hv; refine hK _ ?_; clear hK K hw9 w9)
    | (refine wpR_op rfl (fun w9 hw9 K hK => ?_); go_simp; refine rel_call (FlR.call (drow_c _ _ _ _ _ _ _ _)) (fun v => ?_) (fun v hv => ?_); (simp [spRow_iff]); obtain ⟨vY, rfl, hvY⟩ := hv; refine hK _ ?_; clear hK K hw9 w9))
  refine wpR_nil ?_
  intro w8 hx8 _
  replace hw := hw.trans (bareN hx8 rfl rfl rfl rfl)
  replace hb1 := hb1.ext (bareN hx8 rfl rfl rfl rfl)
  replace hb2 := hb2.ext (bareN hx8 rfl rfl rfl rfl)
  replace hb3 := hb3.ext (bareN hx8 rfl rfl rfl rfl)
  replace hbP := hbP.ext (bareN hx8 rfl rfl rfl rfl)
  clear hx8
  have cc := And.intro hb1.cell (And.intro hb2.cell (And.intro hb3.cell (hbP.cell)))
  go_wp2_with fail
  clear cc
  refine wp_region_all (fun g args v => (g = 65 ∧ SpPl args v) ∨ (g = 67 ∧ SpRow args v)) (by kernel_rfl) (by kernel_rfl) ?_
  repeat (first
    | (refine wpR_op rfl (fun w9 hw9 K hK => ?_); have k0 := (hb1.ext (bareN hw9 rfl rfl rfl rfl)).cell; have k1 := (hbP.ext (bareN hw9 rfl rfl rfl rfl)).cell; go_simp; refine hK _ ?_; clear hK K k0 k1 hw9 w9)
    | (refine wpR_op rfl (fun w9 hw9 K hK => ?_); go_simp; refine rel_fl rfl ?_; intro r hr; refine hK _ ?_; clear hK K hw9 w9)
    | (refine wpR_op rfl (fun w9 hw9 K hK => ?_); go_simp; refine rel_call (FlR.call (plus_c _ _ _ _)) (fun v => ?_) (fun v hv => ?_); (simp [spPl_iff]); obtain ⟨r, rfl, hr⟩ := hv; refine hK _ ?_; clear hK K hw9 w9)
    | (refine wpR_op rfl (fun w9 hw9 K hK => ?_); go_simp; refine rel_call (FlR.call (drow_c _ _ _ _ _ _ _ _)) (fun v => ?_) (fun v hv => ?_); (simp [spRow_iff]); obtain ⟨vZ, rfl, hvZ⟩ := hv; refine hK _ ?_; clear hK K hw9 w9))
  refine wpR_nil ?_
  intro w8 hx8 _
  replace hw := hw.trans (bareN hx8 rfl rfl rfl rfl)
  replace hb3 := hb3.ext (bareN hx8 rfl rfl rfl rfl)
  clear hx8
  have cc := hb3.cell
  clear hb1 hb2 hbP cc
  go_wp2_with (first
    | (refine wpList_own rfl 29 _ _ rfl _ _ rfl rfl _ _ hb3 (by kernel_rfl) rfl (by simp [Value.oneCell']) ?_; go_must (intro u bn en sn; replace hw := en w (by repeat (first | exact hw | refine Ext.drewN ?_ _)) (by omega); have kc := bn.cell; clear sn en hb3)))
  obtain ⟨EP1, EP2, EP3⟩ := EP.out
  refine bodyPost_ret (v := vecU vX vY vZ) (by simp [results, Tryd.results23, go_sem, kc]) rfl ⟨vX, vY, vZ, rfl, ?_, ?_, ?_, hw⟩
  all_goals simp only [*, fbin, frX, frY, frZ, nD, can_one']
end Go.Proofs.YtmmifmlkhmdgaaaDoor
