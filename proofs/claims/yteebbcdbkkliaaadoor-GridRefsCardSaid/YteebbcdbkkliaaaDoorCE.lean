/- plain.Code and the laws' faulted, at a Fault. -/
import Derived.Test.YteebbcdbkkliaaaDoorCD
namespace Go.Proofs.YteebbcdbkkliaaaDoor
open Go.RowKit Go.Fp Go.Rel Go.Extern.Stop Go.Stop Go.Extern
set_option maxRecDepth 20000

set_option maxHeartbeats 4000000 in
theorem as_hit2 (n : Nat) (w : World) (hg : ErrT w) : Calls Tryd.prog 53 #[fltV n, .iface 92 (.pointer (some ⟨w.heap.size, 0, none⟩))] (w.alloc (.cells #[.pointer none] 79)) fun ev w' => ev = .returned (.bool true) ∧ Ext w w' ∧ w'.cell? ⟨w.heap.size, 0, none⟩ = some (.pointer (some ⟨n, 0, none⟩)) := by
  refine (as_hit ⟨n, 0, none⟩ ⟨w.heap.size, 0, none⟩ (.pointer none) _ (hg.ext ((Ext.refl w).alloc _)) (by simp) (by simp)).mono ?_
  rintro e w' ⟨rfl, rfl⟩
  refine ⟨rfl, ?_, ?_⟩
  · repeat (first | exact Ext.refl _ | refine Ext.alloc ?_ _ | refine Ext.setCell ?_ (by simp) _)
  · refine World.cell?_setCell_same' _ _ _ ?_
    rw [World.cell?_alloc_lt _ _ _ (by simp; omega), World.cell?_alloc_lt _ _ _ (by simp; omega), World.cell?_alloc_lt _ _ _ (by simp; omega), World.cell?_alloc_lt _ _ _ (by simp)]
    simp

set_option maxHeartbeats 4000000 in
theorem code_faultT {A : Nat → Addr} {w : World} (h : World8 A w) (n : Nat) (o : Int) (hb : Blk w n 81 #[.int .i64 o, errV (A 1)]) :
    Calls Tryd.prog 40 #[fltV n] w (ExR (.tuple #[.int .i64 1, .int .i64 o]) w) := by
  go_enter Tryd.func40, Tryd.ntmps40
  go_wp2_with (first | (go_at_call 53; refine (as_hit2 n w h.type).mono ?_; rintro e w' ⟨rfl, hx, hc⟩; have hb' := hb.ext hx; have k0 := hb'.cell; have E := h.errs.ext hx; have c0 := E.cell 1 (by simp); have c1 := E.cell 4 (by simp); have c2 := E.cell 2 (by simp); have c3 := E.cell 0 (by simp); have c4 := E.cell 5 (by simp); have c5 := E.cell 6 (by simp); have c6 := E.cell 7 (by simp); have c7 := E.cell 8 (by simp)))
  refine wp_loop_rounds 1 ?_
  have hb2 := hb'.ext ((Ext.refl w').alloc (.cells #[errV (A 1), errV (A 4), errV (A 2), errV (A 0), errV (A 5), errV (A 6), errV (A 7), errV (A 8)] 31))
  have u := hb2.cell 1
  clear k0
  rw [rounds_succ]
  go_wp2_with (first | (go_at_call 54; refine (isF_same n _ _ u).mono ?_; rintro e w2 ⟨rfl, rfl⟩))
  go_ret2
  exact ⟨rfl, hx.alloc _⟩

theorem isF_no {A : Nat → Addr} {w : World} (h : Errs g8 A w) {g k n : Nat} (u : w.cell? ⟨n, 1, none⟩ = some (errV (A g))) (hg : g ∈ g8) (hk : k ∈ g8) (hne : g ≠ k) : Calls Tryd.prog 54 #[fltV n, errV (A k)] w fun e w' => e = .returned (.bool false) ∧ w' = w := by
  obtain ⟨c, t, e⟩ := h.blk g hg
  obtain ⟨c', t', e'⟩ := h.blk k hk
  exact isF_other n _ _ _ _ _ _ w u (fun e => hne (h.inj g hg k hk e)) e e'
set_option maxHeartbeats 4000000 in
theorem code_faultR {A : Nat → Addr} {w : World} (h : World8 A w) (n : Nat) (o : Int) (hb : Blk w n 81 #[.int .i64 o, errV (A 0)]) :
    Calls Tryd.prog 40 #[fltV n] w (ExR (.tuple #[.int .i64 4, .int .i64 o]) w) := by
  go_enter Tryd.func40, Tryd.ntmps40
  go_wp2_with (first | (go_at_call 53; refine (as_hit2 n w h.type).mono ?_; rintro e w' ⟨rfl, hx, hc⟩; have hb' := hb.ext hx; have k0 := hb'.cell; have E := h.errs.ext hx; have c0 := E.cell 1 (by simp); have c1 := E.cell 4 (by simp); have c2 := E.cell 2 (by simp); have c3 := E.cell 0 (by simp); have c4 := E.cell 5 (by simp); have c5 := E.cell 6 (by simp); have c6 := E.cell 7 (by simp); have c7 := E.cell 8 (by simp)))
  refine wp_loop_rounds 4 ?_
  have hb2 := hb'.ext ((Ext.refl w').alloc (.cells #[errV (A 1), errV (A 4), errV (A 2), errV (A 0), errV (A 5), errV (A 6), errV (A 7), errV (A 8)] 31))
  have E' := E.ext ((Ext.refl w').alloc (.cells #[errV (A 1), errV (A 4), errV (A 2), errV (A 0), errV (A 5), errV (A 6), errV (A 7), errV (A 8)] 31))
  have u := hb2.cell 1
  clear k0
  rw [rounds_succ]
  go_wp2_with (first | (go_at_call 54; refine (isF_no E' (g := 0) (k := 1) u (by simp) (by simp) (by decide)).mono ?_; rintro e w2 ⟨rfl, rfl⟩))
  rw [rounds_succ]
  go_wp2_with (first | (go_at_call 54; refine (isF_no E' (g := 0) (k := 4) u (by simp) (by simp) (by decide)).mono ?_; rintro e w2 ⟨rfl, rfl⟩))
  rw [rounds_succ]
  go_wp2_with (first | (go_at_call 54; refine (isF_no E' (g := 0) (k := 2) u (by simp) (by simp) (by decide)).mono ?_; rintro e w2 ⟨rfl, rfl⟩))
  rw [rounds_succ]
  go_wp2_with (first | (go_at_call 54; refine (isF_same n _ _ u).mono ?_; rintro e w2 ⟨rfl, rfl⟩))
  go_ret2
  exact ⟨rfl, hx.alloc _⟩

/-- what a fault value says: its number and its place; nil where there is none -/
inductive FltOf (A : Nat → Addr) (w : World) : Int → Int → Value → Prop
  | nil : FltOf A w 0 (-1) .nilIface
  | text (n : Nat) (o : Int) (hb : Blk w n 81 #[.int .i64 o, errV (A 1)]) : FltOf A w 1 o (fltV n)
  | range (n : Nat) (o : Int) (hb : Blk w n 81 #[.int .i64 o, errV (A 0)]) : FltOf A w 4 o (fltV n)
theorem FltOf.ext {A : Nat → Addr} {w w' : World} {k o : Int} {v : Value} (h : FltOf A w k o v) (hx : Ext w w') : FltOf A w' k o v := by
  cases h with
  | nil => exact .nil
  | text n o hb => exact .text n o (hb.ext hx)
  | range n o hb => exact .range n o (hb.ext hx)
theorem code_flt {A : Nat → Addr} {w : World} (h : World8 A w) {k o : Int} {v : Value} (hv : FltOf A w k o v) : Calls Tryd.prog 40 #[v] w (ExR (.tuple #[.int .i64 k, .int .i64 o]) w) := by
  cases hv with
  | nil => exact code_nil w
  | text n o hb => exact code_faultT h n o hb
  | range n o hb => exact code_faultR h n o hb
set_option maxHeartbeats 4000000 in
theorem faulted_c {A : Nat → Addr} {w : World} (h : World8 A w) {k o : Int} {v : Value} (hv : FltOf A w k o v) :
    Calls Tryd.prog 23 #[v, .agg #[.int .i64 k, .int .i64 o]] w (ExR (.bool true) w) := by
  have HC := Lib.hid (code_flt (h.ext ((Ext.refl w).alloc (.cells #[.int .i64 k, .int .i64 o] 58))) (hv.ext ((Ext.refl w).alloc (.cells #[.int .i64 k, .int .i64 o] 58))))
  clear hv
  by_cases hk : k = 0
  · subst hk
    go_enter Tryd.func23, Tryd.ntmps23
    go_wp2_with (first | (go_at_call 40; go_must (refine (HC.out).mono ?_; rintro e w1 ⟨rfl, hx⟩; obtain ⟨hb1, hw⟩ := ext1 hx; clear hx; have c1 := hb1.cell)))
    go_ret
    exact ⟨rfl, hw⟩
  · go_enter Tryd.func23, Tryd.ntmps23
    go_wp2_with (first | (go_at_call 40; go_must (refine (HC.out).mono ?_; rintro e w1 ⟨rfl, hx⟩; obtain ⟨hb1, hw⟩ := ext1 hx; clear hx; have c1 := hb1.cell)))
    go_ret
    exact ⟨by simp, hw⟩
end Go.Proofs.YteebbcdbkkliaaaDoor
