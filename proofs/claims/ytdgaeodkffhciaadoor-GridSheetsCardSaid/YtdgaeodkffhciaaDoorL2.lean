/- Walks: grid.Right, mercatorref2.IsBox. Printed by gen_right.py. -/
import Derived.Test.YtdgaeodkffhciaaDoorProg
import Derived.Test.YtdgaeodkffhciaaDoorW
namespace Go.Proofs.YtdgaeodkffhciaaDoor
open Go.RowKit Go.Rel
set_option maxRecDepth 20000

/-- a box's value -/
abbrev boxV (lx ly hx hy : Int) : Value := .agg #[.int .i64 lx, .int .i64 ly, .int .i64 hx, .int .i64 hy]
def inP (n : Int) : Bool := decide (n ≤ 16777216) && decide (-16777216 ≤ n)
def boxP (lx ly hx hy : Int) : Bool := inP lx && inP ly && inP hx && inP hy && decide (lx ≤ hx) && decide (ly ≤ hy)
theorem inP_hi {n : Int} (h : 16777216 < n) : inP n = false := by simp [inP]; omega
theorem inP_lo {n : Int} (h : n < -16777216) : inP n = false := by simp [inP]; omega
theorem inP_in {n : Int} (h : ¬ 16777216 < n) (k : ¬ n < -16777216) : inP n = true := by simp [inP]; omega

set_option maxHeartbeats 4000000 in
theorem right_c (lx ly hx hy : Int) (w : World) : Calls Tryd.prog 37 #[boxV lx ly hx hy] w (ExR (.bool (boxP lx ly hx hy)) w) := by
  go_enter Tryd.func37, Tryd.ntmps37
  go_wp2
  refine wp_loop_rounds 5 ?_
  by_cases a0 : 16777216 < lx
  · have e0 := inP_hi a0
    rw [rounds_succ]
    go_wp2
    go_ret
    refine ⟨?_, ?_⟩
    · simp [boxP, *] <;> omega
    · repeat (first | exact Ext.refl _ | refine Ext.alloc ?_ _ | refine Ext.setCell ?_ (by simp) _)
  by_cases b0 : lx < -16777216
  · have e0 := inP_lo b0
    rw [rounds_succ]
    go_wp2
    go_ret
    refine ⟨?_, ?_⟩
    · simp [boxP, *] <;> omega
    · repeat (first | exact Ext.refl _ | refine Ext.alloc ?_ _ | refine Ext.setCell ?_ (by simp) _)
  have e0 := inP_in a0 b0
  rw [rounds_succ]
  go_wp2
  by_cases a1 : 16777216 < ly
  · have e1 := inP_hi a1
    rw [rounds_succ]
    go_wp2
    go_ret
    refine ⟨?_, ?_⟩
    · simp [boxP, *] <;> omega
    · repeat (first | exact Ext.refl _ | refine Ext.alloc ?_ _ | refine Ext.setCell ?_ (by simp) _)
  by_cases b1 : ly < -16777216
  · have e1 := inP_lo b1
    rw [rounds_succ]
    go_wp2
    go_ret
    refine ⟨?_, ?_⟩
    · simp [boxP, *] <;> omega
    · repeat (first | exact Ext.refl _ | refine Ext.alloc ?_ _ | refine Ext.setCell ?_ (by simp) _)
  have e1 := inP_in a1 b1
  rw [rounds_succ]
  go_wp2
  by_cases a2 : 16777216 < hx
  · have e2 := inP_hi a2
    rw [rounds_succ]
    go_wp2
    go_ret
    refine ⟨?_, ?_⟩
    · simp [boxP, *] <;> omega
    · repeat (first | exact Ext.refl _ | refine Ext.alloc ?_ _ | refine Ext.setCell ?_ (by simp) _)
  by_cases b2 : hx < -16777216
  · have e2 := inP_lo b2
    rw [rounds_succ]
    go_wp2
    go_ret
    refine ⟨?_, ?_⟩
    · simp [boxP, *] <;> omega
    · repeat (first | exact Ext.refl _ | refine Ext.alloc ?_ _ | refine Ext.setCell ?_ (by simp) _)
  have e2 := inP_in a2 b2
  rw [rounds_succ]
  go_wp2
  by_cases a3 : 16777216 < hy
  · have e3 := inP_hi a3
    rw [rounds_succ]
    go_wp2
    go_ret
    refine ⟨?_, ?_⟩
    · simp [boxP, *] <;> omega
    · repeat (first | exact Ext.refl _ | refine Ext.alloc ?_ _ | refine Ext.setCell ?_ (by simp) _)
  by_cases b3 : hy < -16777216
  · have e3 := inP_lo b3
    rw [rounds_succ]
    go_wp2
    go_ret
    refine ⟨?_, ?_⟩
    · simp [boxP, *] <;> omega
    · repeat (first | exact Ext.refl _ | refine Ext.alloc ?_ _ | refine Ext.setCell ?_ (by simp) _)
  have e3 := inP_in a3 b3
  rw [rounds_succ]
  go_wp2
  by_cases c0 : lx ≤ hx
  · rw [rounds_succ]
    go_wp2
    go_ret
    refine ⟨?_, ?_⟩
    · simp [boxP, *] <;> omega
    · repeat (first | exact Ext.refl _ | refine Ext.alloc ?_ _ | refine Ext.setCell ?_ (by simp) _)
  · rw [rounds_succ]
    go_wp2
    go_ret
    refine ⟨?_, ?_⟩
    · simp [boxP, *] <;> omega
    · repeat (first | exact Ext.refl _ | refine Ext.alloc ?_ _ | refine Ext.setCell ?_ (by simp) _)

set_option maxHeartbeats 4000000 in
theorem isBox_c (lx ly hx hy : Int) (w : World) : Calls Tryd.prog 10 #[boxV lx ly hx hy] w (ExR (.bool (boxP lx ly hx hy)) w) := by
  go_enter Tryd.func10, Tryd.ntmps10
  go_wp2
  refine wp_loop_rounds 5 ?_
  by_cases a0 : 16777216 < lx
  · have e0 := inP_hi a0
    rw [rounds_succ]
    go_wp2
    go_ret
    refine ⟨?_, ?_⟩
    · simp [boxP, *] <;> omega
    · repeat (first | exact Ext.refl _ | refine Ext.alloc ?_ _ | refine Ext.setCell ?_ (by simp) _)
  by_cases b0 : lx < -16777216
  · have e0 := inP_lo b0
    rw [rounds_succ]
    go_wp2
    go_ret
    refine ⟨?_, ?_⟩
    · simp [boxP, *] <;> omega
    · repeat (first | exact Ext.refl _ | refine Ext.alloc ?_ _ | refine Ext.setCell ?_ (by simp) _)
  have e0 := inP_in a0 b0
  rw [rounds_succ]
  go_wp2
  by_cases a1 : 16777216 < ly
  · have e1 := inP_hi a1
    rw [rounds_succ]
    go_wp2
    go_ret
    refine ⟨?_, ?_⟩
    · simp [boxP, *] <;> omega
    · repeat (first | exact Ext.refl _ | refine Ext.alloc ?_ _ | refine Ext.setCell ?_ (by simp) _)
  by_cases b1 : ly < -16777216
  · have e1 := inP_lo b1
    rw [rounds_succ]
    go_wp2
    go_ret
    refine ⟨?_, ?_⟩
    · simp [boxP, *] <;> omega
    · repeat (first | exact Ext.refl _ | refine Ext.alloc ?_ _ | refine Ext.setCell ?_ (by simp) _)
  have e1 := inP_in a1 b1
  rw [rounds_succ]
  go_wp2
  by_cases a2 : 16777216 < hx
  · have e2 := inP_hi a2
    rw [rounds_succ]
    go_wp2
    go_ret
    refine ⟨?_, ?_⟩
    · simp [boxP, *] <;> omega
    · repeat (first | exact Ext.refl _ | refine Ext.alloc ?_ _ | refine Ext.setCell ?_ (by simp) _)
  by_cases b2 : hx < -16777216
  · have e2 := inP_lo b2
    rw [rounds_succ]
    go_wp2
    go_ret
    refine ⟨?_, ?_⟩
    · simp [boxP, *] <;> omega
    · repeat (first | exact Ext.refl _ | refine Ext.alloc ?_ _ | refine Ext.setCell ?_ (by simp) _)
  have e2 := inP_in a2 b2
  rw [rounds_succ]
  go_wp2
  by_cases a3 : 16777216 < hy
  · have e3 := inP_hi a3
    rw [rounds_succ]
    go_wp2
    go_ret
    refine ⟨?_, ?_⟩
    · simp [boxP, *] <;> omega
    · repeat (first | exact Ext.refl _ | refine Ext.alloc ?_ _ | refine Ext.setCell ?_ (by simp) _)
  by_cases b3 : hy < -16777216
  · have e3 := inP_lo b3
    rw [rounds_succ]
    go_wp2
    go_ret
    refine ⟨?_, ?_⟩
    · simp [boxP, *] <;> omega
    · repeat (first | exact Ext.refl _ | refine Ext.alloc ?_ _ | refine Ext.setCell ?_ (by simp) _)
  have e3 := inP_in a3 b3
  rw [rounds_succ]
  go_wp2
  by_cases c0 : lx ≤ hx
  · rw [rounds_succ]
    go_wp2
    go_ret
    refine ⟨?_, ?_⟩
    · simp [boxP, *] <;> omega
    · repeat (first | exact Ext.refl _ | refine Ext.alloc ?_ _ | refine Ext.setCell ?_ (by simp) _)
  · rw [rounds_succ]
    go_wp2
    go_ret
    refine ⟨?_, ?_⟩
    · simp [boxP, *] <;> omega
    · repeat (first | exact Ext.refl _ | refine Ext.alloc ?_ _ | refine Ext.setCell ?_ (by simp) _)

end Go.Proofs.YtdgaeodkffhciaaDoor
