/- Walks: of which place a point of a strip is: package wave's From. Printed by gen_wavefrom.py. -/
import Derived.Test.YtddjppaccpioiaaDoorUD
import Derived.Test.YtddjppaccpioiaaDoorZN
namespace Go.Proofs.YtddjppaccpioiaaDoor
open Go.RowKit Go.Fp Go.Rel
set_option maxRecDepth 20000

set_option maxHeartbeats 8000000 in
theorem sfrom_shape {A : Nat → Addr} (a f : Nat) (mid : Int) (sc x y : Nat) (w : World) (h8 : World8 A w) (hk : strP (okG a f) sc = 3) :
    Calls Tryd.prog 26 #[stripV a f mid sc, flatU x y] w (ExR (.tuple #[placeU 0 0, errV (A 2)]) w) := by
  have HC0 := fun w h8 => svalid_c (A := A) a f mid sc w h8
  simp only [hk] at HC0
  have HC := Lib.hid HC0
  clear hk HC0
  go_enter Tryd.func26, Tryd.ntmps26
  go_wp2_with (first
    | (go_at_call 64; go_must (refine (HC.out _ (h8.ext (by repeat (first | exact Ext.refl _ | refine Ext.alloc ?_ _)))).mono ?_; rintro e w1 ⟨v, rfl, hv, hx⟩; cases hv; obtain ⟨hb1, hb2, hb3, hw⟩ := ext3 hx; clear hx))
    | (refine wpList_own rfl 26 _ _ rfl _ _ rfl rfl _ _ hb3 (by kernel_rfl) rfl (by simp [Value.oneCell']) ?_; go_must (intro u bn en sn; replace hw := en w (by repeat (first | exact hw | refine Ext.drewN ?_ _)) (by omega); have kc := bn.cell; clear sn en hb3)))
  exact bodyPost_ret (v := .tuple #[placeU 0 0, errV (A 2)]) (by simp [results, Tryd.results26, go_sem, kc]) rfl ⟨rfl, hw⟩

theorem inS_cases (R x y : Nat) : inS R x y = true ∧ inX1 R x = true ∧ inX2 R x = true ∧ inY1 R y = true ∧ inY2 R y = true ∨ inS R x y = false ∧ (inX1 R x = false ∨ inX1 R x = true ∧ inX2 R x = false ∨ inX1 R x = true ∧ inX2 R x = true ∧ inY1 R y = false ∨ inX1 R x = true ∧ inX2 R x = true ∧ inY1 R y = true ∧ inY2 R y = false) := by
  unfold inS
  cases inX1 R x <;> cases inX2 R x <;> cases inY1 R y <;> cases inY2 R y <;> simp
set_option maxHeartbeats 16000000 in
theorem sfrom_out {A : Nat → Addr} (a f : Nat) (mid : Int) (sc x y : Nat) (w : World) (h8 : World8 A w) (hk : strP (okG a f) sc = 0) (hi : inS (rS a f sc) x y = false) :
    Calls Tryd.prog 26 #[stripV a f mid sc, flatU x y] w (ExR (.tuple #[placeU 0 0, errV (A 0)]) w) := by
  have HC := Lib.hid (fun w h8 => svalid_ok (A := A) a f mid sc hk w h8)
  have HS := Lib.hid (fun w h8 => series_ok (A := A) a f w h8 (strP_ok hk).1)
  have P1 := Lib.hid (fun r (h : can r = rS a f sc) => ordX1 x h)
  have P2 := Lib.hid (fun r (h : can r = rS a f sc) => ordX2 x h)
  have P3 := Lib.hid (fun r q (h : can r = rS a f sc) hq => ordY1 (q := q) y h hq)
  have P4 := Lib.hid (fun r q (h : can r = rS a f sc) hq => ordY2 (q := q) y h hq)
  have hq0 : (inX1 (rS a f sc) x = false ∨ inX1 (rS a f sc) x = true ∧ inX2 (rS a f sc) x = false ∨ inX1 (rS a f sc) x = true ∧ inX2 (rS a f sc) x = true ∧ inY1 (rS a f sc) y = false ∨ inX1 (rS a f sc) x = true ∧ inX2 (rS a f sc) x = true ∧ inY1 (rS a f sc) y = true ∧ inY2 (rS a f sc) y = false) := by
    rcases inS_cases (rS a f sc) x y with ⟨h, _⟩ | ⟨_, h⟩
    · rw [h] at hi; cases hi
    · exact h
  have RS : rS a f sc = fmul (radS a f) (can sc) := rfl
  have HRS := Lib.hid RS
  clear hk hi RS
  generalize rS a f sc = R at *
  generalize inX1 R x = b1 at *
  generalize inX2 R x = b2 at *
  generalize inY1 R y = b3 at *
  generalize inY2 R y = b4 at *
  have tk1 : Hid True := trivial
  have tk2 : Hid True := trivial
  rcases hq0 with rfl | ⟨rfl, rfl⟩ | ⟨rfl, rfl, rfl⟩ | ⟨rfl, rfl, rfl, rfl⟩
  all_goals
    go_enter Tryd.func26, Tryd.ntmps26
    go_wp2_with (first
      | (go_at_call 64; go_must (refine (HC.out _ (h8.ext (by repeat (first | exact Ext.refl _ | refine Ext.alloc ?_ _)))).mono ?_; rintro e w1 ⟨rfl, hx⟩; obtain ⟨hb1, hb2, hb3, hw⟩ := ext3 hx; clear hx; have c1 := hb1.cell; have c2 := hb2.cell))
      | (go_at_call 59; go_must (refine (HS.out _ (h8.ext hw)).mono ?_; rintro e w2 ⟨r0, y0, y1, y2, y3, x0, x1, x2, x3, rfl, hr0, _, _, hx⟩; replace hw := hw.trans hx; replace hb1 := hb1.ext hx; replace hb2 := hb2.ext hx; replace hb3 := hb3.ext hx; clear hx c1 c2; have hr0' := Lib.hid hr0; clear hr0; have kgF : ∀ o o', ((w2.alloc o).alloc o').cell? ⟨0, 0, none⟩ = some (errV (A 0)) := (fun o o' => (h8.ext ((hw.alloc o).alloc o')).errs.cell 0 (by decide)); have k1F : ∀ o o' i, ((w2.alloc o).alloc o').cell? ⟨w.heap.size, i, none⟩ = #[Value.float .f64 a, Value.float .f64 f, Value.int .i64 mid, Value.float .f64 sc][i]? := (fun o o' i => (hb1.ext (((Ext.refl w2).alloc o).alloc o')).cell i); have k2F : ∀ o o' i, ((w2.alloc o).alloc o').cell? ⟨w.heap.size + 1, i, none⟩ = #[Value.float .f64 x, Value.float .f64 y][i]? := (fun o o' i => (hb2.ext (((Ext.refl w2).alloc o).alloc o')).cell i); have k3F : ∀ o o' i, ((w2.alloc o).alloc o').cell? ⟨w.heap.size + 1 + 1, i, none⟩ = #[Value.int .i64 0, Value.int .i64 0][i]? := (fun o o' i => (hb3.ext (((Ext.refl w2).alloc o).alloc o')).cell i); have f3F : ∀ o o' i, ((w2.alloc o).alloc o').frozen? ⟨w.heap.size + 1 + 1, i, none⟩ = false := (fun o o' i => (hb3.ext (((Ext.refl w2).alloc o).alloc o')).frozen i)))
      | (clear tk1; (with_reducible refine upon_fl rfl ?_); go_must (intro r nr hr; have hr' : can r = R := (by rw [HRS.out, hr, hr0'.out]; rfl); clear hr; have Q1 := (P1.out r hr').symm; have Q2 := (P2.out r hr').symm; clear P1 P2; have HR' := Lib.hid hr'; clear hr'))
      | (clear tk2; (with_reducible refine upon_fl rfl ?_); go_must (intro q nq hq; have Q3 := (P3.out r q HR'.out hq).symm; clear P3 hq))
      | ((with_reducible refine upon_fl rfl ?_); go_must (intro q2 nq2 hq2; have Q4 := (P4.out r q2 HR'.out hq2).symm; clear P4 hq2)))
    go_region
    all_goals go_wp2_with fail
    all_goals first
      | exact bodyPost_ret (v := .tuple #[placeU 0 0, errV (A 0)]) (by simp [results, Tryd.results26, go_sem, k3F]) rfl ⟨rfl, (by repeat (first | (with_reducible exact hw) | (with_reducible refine ext_set2 ?_ _ _) | (with_reducible refine Ext.drew ?_) | (with_reducible refine Ext.drewN ?_ _) | (with_reducible refine Ext.alloc ?_ _)))⟩
      | trace_state
end Go.Proofs.YtddjppaccpioiaaDoor
