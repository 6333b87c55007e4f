/- Walk: mercatorlaw2.sameInts. -/
import Derived.Test.YtdgaeodkffhciaaDoorProg
import Derived.Test.YtdgaeodkffhciaaDoorW
import Derived.Test.YtdgaeodkffhciaaDoorQ2
import Derived.WalkKit
import Derived.BigQuiet
namespace Go.Proofs.YtdgaeodkffhciaaDoor
open Go.RowKit Go.Rel
set_option maxRecDepth 20000

theorem same_ne (ad bd : Option Addr) (n m cap cap' : Nat) (w : World) (h : n ≠ m) :
    Calls Tryd.prog 13 #[.slice ad n cap, .slice bd m cap'] w (ExR (.bool false) w) := by
  have h1 : ((n : Int) == (m : Int)) = false := by simp; omega
  go_enter Tryd.func13, Tryd.ntmps13
  go_wp2
  go_ret
  exact ⟨rfl, Ext.refl _⟩
theorem same_zero (ad bd : Option Addr) (cap cap' : Nat) (w : World) :
    Calls Tryd.prog 13 #[.slice ad 0 cap, .slice bd 0 cap'] w (ExR (.bool true) w) := by
  go_enter Tryd.func13, Tryd.ntmps13
  go_wp2
  refine wp_loop_rounds 1 ?_
  rw [rounds_succ]
  go_wp2
  go_ret
  exact ⟨rfl, Ext.refl _⟩

theorem take_step {l m : List Int} {k : Nat} (hk : k < l.length) (hm : k < m.length) (h : l.take k = m.take k) : l.take (k + 1) = m.take (k + 1) ↔ l[k] = m[k] := by
  rw [List.take_add_one, List.take_add_one, List.getElem?_eq_getElem hk, List.getElem?_eq_getElem hm, h]
  simp only [Option.toList_some, List.append_cancel_left_eq, List.cons.injEq, and_true]

set_option maxHeartbeats 4000000 in
theorem same_row (b b' n cap cap' : Nat) (l m : List Int) (w : World) (hn : n ≤ 9007199254740992) (hl : l.length = n) (hm : m.length = n)
    (h1 : ∀ i, i < n → w.cell? ⟨b, i, none⟩ = some (.int .i64 (l.getD i 0))) (h2 : ∀ i, i < n → w.cell? ⟨b', i, none⟩ = some (.int .i64 (m.getD i 0))) :
    Calls Tryd.prog 13 #[.slice (some ⟨b, 0, none⟩) n cap, .slice (some ⟨b', 0, none⟩) n cap'] w (ExR (.bool (decide (l = m))) w) := by
  go_enter Tryd.func13, Tryd.ntmps13
  go_wp2
  go_loopw [5] (fun i wr => ∃ k : Nat, k ≤ n ∧ i = .int .i64 k ∧ l.take k = m.take k ∧ Ext w wr) (fun i _ => n - (intOf i).toNat)
  case atStart => exact ⟨0, Nat.zero_le _, rfl, rfl, Ext.refl _⟩
  case round =>
    obtain ⟨k, hk, rfl, hpre, hx⟩ := hrel
    by_cases hkn : k < n
    · have c1 : wr.cell? ⟨b, k, none⟩ = some (.int .i64 (l.getD k 0)) := by rw [hx.cell b k (World.block_lt_of_cell? w _ (h1 k hkn))]; exact h1 k hkn
      have c2 : wr.cell? ⟨b', k, none⟩ = some (.int .i64 (m.getD k 0)) := by rw [hx.cell b' k (World.block_lt_of_cell? w _ (h2 k hkn))]; exact h2 k hkn
      have e1 : l.getD k 0 = l[k]'(by omega) := by simp [show k < l.length by omega]
      have e2 : m.getD k 0 = m[k]'(by omega) := by simp [show k < m.length by omega]
      have hstep := take_step (show k < l.length by omega) (show k < m.length by omega) hpre
      rw [← e1, ← e2] at hstep
      generalize l.getD k 0 = x at *
      generalize m.getD k 0 = y at *
      have i1 : (0 : Int) ≤ (k : Int) ∧ (k : Int) < (n : Int) := by omega
      by_cases hxy : x = y
      · have hq := hstep.2 hxy
        subst hxy
        clear e1 e2 hstep h1 h2
        go_wp2
        go_quiet (fail)
        go_wp2
        go_roundw
        case rel => exact ⟨k + 1, by omega, by simp, hq, by exact Ext.drewN hx _⟩
        case measure => simp [intOf]; omega
      · have hq : ¬ l = m := fun e => hxy (hstep.1 (by rw [e]))
        clear e1 e2 hstep h1 h2
        go_wp2
        go_quiet (fail)
        go_wp2
        go_ret
        refine ⟨by simp [hq], ?_⟩
        exact Ext.drewN hx _
    · have hkn' : k = n := by omega
      have hq : l = m := by rw [← List.take_length (l := l), ← List.take_length (l := m), hl, hm, ← hkn']; exact hpre
      go_wp2
      go_ret
      exact ⟨by simp [hq], hx⟩

theorem same_c (v v' : Value) (l m : List Int) (w : World) (hn : m.length ≤ 9007199254740992) (h : IntsAt w v l) (h' : IntsAt w v' m) :
    Calls Tryd.prog 13 #[v, v'] w (ExR (.bool (decide (l = m))) w) := by
  obtain ⟨b, cap, ⟨hl, rfl⟩ | ⟨rfl, hc⟩⟩ := h <;> obtain ⟨b', cap', ⟨hm, rfl⟩ | ⟨rfl, hc'⟩⟩ := h'
  · subst hl hm
    simpa using same_zero none none cap cap' w
  · subst hl
    by_cases hm : m.length = 0
    · have := List.length_eq_zero_iff.1 hm
      subst this
      simpa using same_zero none _ cap cap' w
    · have hne : ¬ ([] : List Int) = m := by rintro rfl; simp at hm
      simpa [hne] using same_ne none (some ⟨b', 0, none⟩) 0 m.length cap cap' w (by omega)
  · subst hm
    by_cases hl : l.length = 0
    · have := List.length_eq_zero_iff.1 hl
      subst this
      simpa using same_zero _ none cap cap' w
    · have hne : ¬ l = [] := by rintro rfl; simp at hl
      simpa [hne] using same_ne (some ⟨b, 0, none⟩) none l.length 0 cap cap' w hl
  · by_cases hlm : l.length = m.length
    · rw [hlm]
      exact same_row b b' m.length cap cap' l m w hn hlm rfl (fun i hi => hc i (by omega)) hc'
    · have hne : ¬ l = m := by rintro rfl; exact hlm rfl
      simpa [hne] using same_ne (some ⟨b, 0, none⟩) (some ⟨b', 0, none⟩) l.length m.length cap cap' w hlm
end Go.Proofs.YtdgaeodkffhciaaDoor
