/- plain.Code and the laws' coded: at nil, and at each sentinel. -/
import Derived.Test.YtegbkidjehjhmaaDoorE2
namespace Go.Proofs.YtegbkidjehjhmaaDoor
open Go.RowKit Go.Fp Go.Rel Go.Extern.Stop Go.Stop Go.Extern
set_option maxRecDepth 20000

/-- the eight sentinels, in the order in which plain.Code asks -/
abbrev g8 : List Nat := [2, 5, 3, 0, 6, 1, 7, 8]

theorem is_no {A : Nat → Addr} {w : World} (h : Errs g8 A w) {g k : Nat} (hg : g ∈ g8) (hk : k ∈ g8) (hne : g ≠ k) : Calls Tryd.prog 91 #[errV (A g), errV (A k)] w fun e w' => e = .returned (.bool false) ∧ w' = w := by
  obtain ⟨c, t, e⟩ := h.blk g hg
  obtain ⟨c', t', e'⟩ := h.blk k hk
  exact is_other _ _ _ _ _ _ w (fun e => hne (h.inj g hg k hk e)) e e'

theorem code_nil (w : World) : Calls Tryd.prog 65 #[.nilIface] w (ExR (.tuple #[.int .i64 0, .int .i64 (-1)]) w) := by
  go_enter Tryd.func65, Tryd.ntmps65
  go_wp2
  go_ret2
  exact ⟨rfl, Ext.refl _⟩

set_option maxHeartbeats 4000000 in
theorem code_bound {A : Nat → Addr} {w : World} (h : Errs g8 A w) (ht : ErrT w) : Calls Tryd.prog 65 #[errV (A 5)] w (ExR (.tuple #[.int .i64 2, .int .i64 (-1)]) w) := by
  go_enter Tryd.func65, Tryd.ntmps65
  go_wp2_with (first | (go_at_call 90; refine (as_miss _ _ _ ?_).mono ?_; (exact ht.ext ((Ext.refl w).alloc _)); rintro e w' ⟨rfl, hx⟩; replace hx := ((Ext.refl w).alloc _).trans hx; have E := h.ext hx; have c0 := E.cell 2 (by simp); have c1 := E.cell 5 (by simp); have c2 := E.cell 3 (by simp); have c3 := E.cell 0 (by simp); have c4 := E.cell 6 (by simp); have c5 := E.cell 1 (by simp); have c6 := E.cell 7 (by simp); have c7 := E.cell 8 (by simp)))
  refine wp_loop_rounds 2 ?_
  have E' := E.ext ((Ext.refl w').alloc (.cells #[errV (A 2), errV (A 5), errV (A 3), errV (A 0), errV (A 6), errV (A 1), errV (A 7), errV (A 8)] 39))
  rw [rounds_succ]
  go_wp2_with (first | (go_at_call 91; refine (is_no E' (g := 5) (k := 2) (by simp) (by simp) (by decide)).mono ?_; rintro e w2 ⟨rfl, rfl⟩))
  rw [rounds_succ]
  go_wp2_with (first | (go_at_call 91; refine (is_same _ _).mono ?_; rintro e w2 ⟨rfl, rfl⟩))
  go_ret2
  exact ⟨rfl, hx.alloc _⟩

set_option maxHeartbeats 4000000 in
theorem code_shape {A : Nat → Addr} {w : World} (h : Errs g8 A w) (ht : ErrT w) : Calls Tryd.prog 65 #[errV (A 3)] w (ExR (.tuple #[.int .i64 3, .int .i64 (-1)]) w) := by
  go_enter Tryd.func65, Tryd.ntmps65
  go_wp2_with (first | (go_at_call 90; refine (as_miss _ _ _ ?_).mono ?_; (exact ht.ext ((Ext.refl w).alloc _)); rintro e w' ⟨rfl, hx⟩; replace hx := ((Ext.refl w).alloc _).trans hx; have E := h.ext hx; have c0 := E.cell 2 (by simp); have c1 := E.cell 5 (by simp); have c2 := E.cell 3 (by simp); have c3 := E.cell 0 (by simp); have c4 := E.cell 6 (by simp); have c5 := E.cell 1 (by simp); have c6 := E.cell 7 (by simp); have c7 := E.cell 8 (by simp)))
  refine wp_loop_rounds 3 ?_
  have E' := E.ext ((Ext.refl w').alloc (.cells #[errV (A 2), errV (A 5), errV (A 3), errV (A 0), errV (A 6), errV (A 1), errV (A 7), errV (A 8)] 39))
  rw [rounds_succ]
  go_wp2_with (first | (go_at_call 91; refine (is_no E' (g := 3) (k := 2) (by simp) (by simp) (by decide)).mono ?_; rintro e w2 ⟨rfl, rfl⟩))
  rw [rounds_succ]
  go_wp2_with (first | (go_at_call 91; refine (is_no E' (g := 3) (k := 5) (by simp) (by simp) (by decide)).mono ?_; rintro e w2 ⟨rfl, rfl⟩))
  rw [rounds_succ]
  go_wp2_with (first | (go_at_call 91; refine (is_same _ _).mono ?_; rintro e w2 ⟨rfl, rfl⟩))
  go_ret2
  exact ⟨rfl, hx.alloc _⟩

set_option maxHeartbeats 4000000 in
theorem code_range {A : Nat → Addr} {w : World} (h : Errs g8 A w) (ht : ErrT w) : Calls Tryd.prog 65 #[errV (A 0)] w (ExR (.tuple #[.int .i64 4, .int .i64 (-1)]) w) := by
  go_enter Tryd.func65, Tryd.ntmps65
  go_wp2_with (first | (go_at_call 90; refine (as_miss _ _ _ ?_).mono ?_; (exact ht.ext ((Ext.refl w).alloc _)); rintro e w' ⟨rfl, hx⟩; replace hx := ((Ext.refl w).alloc _).trans hx; have E := h.ext hx; have c0 := E.cell 2 (by simp); have c1 := E.cell 5 (by simp); have c2 := E.cell 3 (by simp); have c3 := E.cell 0 (by simp); have c4 := E.cell 6 (by simp); have c5 := E.cell 1 (by simp); have c6 := E.cell 7 (by simp); have c7 := E.cell 8 (by simp)))
  refine wp_loop_rounds 4 ?_
  have E' := E.ext ((Ext.refl w').alloc (.cells #[errV (A 2), errV (A 5), errV (A 3), errV (A 0), errV (A 6), errV (A 1), errV (A 7), errV (A 8)] 39))
  rw [rounds_succ]
  go_wp2_with (first | (go_at_call 91; refine (is_no E' (g := 0) (k := 2) (by simp) (by simp) (by decide)).mono ?_; rintro e w2 ⟨rfl, rfl⟩))
  rw [rounds_succ]
  go_wp2_with (first | (go_at_call 91; refine (is_no E' (g := 0) (k := 5) (by simp) (by simp) (by decide)).mono ?_; rintro e w2 ⟨rfl, rfl⟩))
  rw [rounds_succ]
  go_wp2_with (first | (go_at_call 91; refine (is_no E' (g := 0) (k := 3) (by simp) (by simp) (by decide)).mono ?_; rintro e w2 ⟨rfl, rfl⟩))
  rw [rounds_succ]
  go_wp2_with (first | (go_at_call 91; refine (is_same _ _).mono ?_; rintro e w2 ⟨rfl, rfl⟩))
  go_ret2
  exact ⟨rfl, hx.alloc _⟩

set_option maxHeartbeats 4000000 in
theorem code_name {A : Nat → Addr} {w : World} (h : Errs g8 A w) (ht : ErrT w) : Calls Tryd.prog 65 #[errV (A 6)] w (ExR (.tuple #[.int .i64 5, .int .i64 (-1)]) w) := by
  go_enter Tryd.func65, Tryd.ntmps65
  go_wp2_with (first | (go_at_call 90; refine (as_miss _ _ _ ?_).mono ?_; (exact ht.ext ((Ext.refl w).alloc _)); rintro e w' ⟨rfl, hx⟩; replace hx := ((Ext.refl w).alloc _).trans hx; have E := h.ext hx; have c0 := E.cell 2 (by simp); have c1 := E.cell 5 (by simp); have c2 := E.cell 3 (by simp); have c3 := E.cell 0 (by simp); have c4 := E.cell 6 (by simp); have c5 := E.cell 1 (by simp); have c6 := E.cell 7 (by simp); have c7 := E.cell 8 (by simp)))
  refine wp_loop_rounds 5 ?_
  have E' := E.ext ((Ext.refl w').alloc (.cells #[errV (A 2), errV (A 5), errV (A 3), errV (A 0), errV (A 6), errV (A 1), errV (A 7), errV (A 8)] 39))
  rw [rounds_succ]
  go_wp2_with (first | (go_at_call 91; refine (is_no E' (g := 6) (k := 2) (by simp) (by simp) (by decide)).mono ?_; rintro e w2 ⟨rfl, rfl⟩))
  rw [rounds_succ]
  go_wp2_with (first | (go_at_call 91; refine (is_no E' (g := 6) (k := 5) (by simp) (by simp) (by decide)).mono ?_; rintro e w2 ⟨rfl, rfl⟩))
  rw [rounds_succ]
  go_wp2_with (first | (go_at_call 91; refine (is_no E' (g := 6) (k := 3) (by simp) (by simp) (by decide)).mono ?_; rintro e w2 ⟨rfl, rfl⟩))
  rw [rounds_succ]
  go_wp2_with (first | (go_at_call 91; refine (is_no E' (g := 6) (k := 0) (by simp) (by simp) (by decide)).mono ?_; rintro e w2 ⟨rfl, rfl⟩))
  rw [rounds_succ]
  go_wp2_with (first | (go_at_call 91; refine (is_same _ _).mono ?_; rintro e w2 ⟨rfl, rfl⟩))
  go_ret2
  exact ⟨rfl, hx.alloc _⟩

set_option maxHeartbeats 4000000 in
theorem code_none {A : Nat → Addr} {w : World} (h : Errs g8 A w) (ht : ErrT w) : Calls Tryd.prog 65 #[errV (A 1)] w (ExR (.tuple #[.int .i64 6, .int .i64 (-1)]) w) := by
  go_enter Tryd.func65, Tryd.ntmps65
  go_wp2_with (first | (go_at_call 90; refine (as_miss _ _ _ ?_).mono ?_; (exact ht.ext ((Ext.refl w).alloc _)); rintro e w' ⟨rfl, hx⟩; replace hx := ((Ext.refl w).alloc _).trans hx; have E := h.ext hx; have c0 := E.cell 2 (by simp); have c1 := E.cell 5 (by simp); have c2 := E.cell 3 (by simp); have c3 := E.cell 0 (by simp); have c4 := E.cell 6 (by simp); have c5 := E.cell 1 (by simp); have c6 := E.cell 7 (by simp); have c7 := E.cell 8 (by simp)))
  refine wp_loop_rounds 6 ?_
  have E' := E.ext ((Ext.refl w').alloc (.cells #[errV (A 2), errV (A 5), errV (A 3), errV (A 0), errV (A 6), errV (A 1), errV (A 7), errV (A 8)] 39))
  rw [rounds_succ]
  go_wp2_with (first | (go_at_call 91; refine (is_no E' (g := 1) (k := 2) (by simp) (by simp) (by decide)).mono ?_; rintro e w2 ⟨rfl, rfl⟩))
  rw [rounds_succ]
  go_wp2_with (first | (go_at_call 91; refine (is_no E' (g := 1) (k := 5) (by simp) (by simp) (by decide)).mono ?_; rintro e w2 ⟨rfl, rfl⟩))
  rw [rounds_succ]
  go_wp2_with (first | (go_at_call 91; refine (is_no E' (g := 1) (k := 3) (by simp) (by simp) (by decide)).mono ?_; rintro e w2 ⟨rfl, rfl⟩))
  rw [rounds_succ]
  go_wp2_with (first | (go_at_call 91; refine (is_no E' (g := 1) (k := 0) (by simp) (by simp) (by decide)).mono ?_; rintro e w2 ⟨rfl, rfl⟩))
  rw [rounds_succ]
  go_wp2_with (first | (go_at_call 91; refine (is_no E' (g := 1) (k := 6) (by simp) (by simp) (by decide)).mono ?_; rintro e w2 ⟨rfl, rfl⟩))
  rw [rounds_succ]
  go_wp2_with (first | (go_at_call 91; refine (is_same _ _).mono ?_; rintro e w2 ⟨rfl, rfl⟩))
  go_ret2
  exact ⟨rfl, hx.alloc _⟩

end Go.Proofs.YtegbkidjehjhmaaDoor
