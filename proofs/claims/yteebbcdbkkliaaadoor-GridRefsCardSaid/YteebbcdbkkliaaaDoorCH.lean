/- Walks: reading a reference's text: package grid's ReadRef. -/
import Derived.Test.YteebbcdbkkliaaaDoorCG
import Derived.Deep.RegionHeld3
namespace Go.Proofs.YteebbcdbkkliaaaDoor
open Go.RowKit Go.Fp Go.Rel Go.Lib
set_option maxRecDepth 20000

/-- the form of a reference's text: the byte that stands for a place -/
def kindB (i : Nat) : Nat := if i = 2 then 78 else if i = 3 ∨ i = 10 then 32 else 48
def okI (t : ByteArray) (i : Nat) : Prop := i < t.size ∧ (if i = 2 then byt t i = 78 ∨ byt t i = 83 else if i = 3 ∨ i = 10 then byt t i = 32 else 48 ≤ byt t i ∧ byt t i ≤ 57)
def part (i : Nat) : Nat := if i < 2 then 0 else if i < 4 then 1 else if i < 11 then 2 else 3
def vals (t : ByteArray) (i : Nat) : Array Value := #[.int .i64 (num t 0 (min i 2) : Nat), .int .i64 (0 : Nat), .int .i64 (num t 4 (min (i - 4) 6) : Nat), .int .i64 (num t 11 (min (i - 11) 7) : Nat)]
def valAt (t : ByteArray) (i : Nat) : Nat := if i < 2 then num t 0 (min i 2) else if i < 4 then 0 else if i < 11 then num t 4 (min (i - 4) 6) else num t 11 (min (i - 11) 7)
theorem vals_at (t : ByteArray) (i : Nat) : (vals t i)[part i]? = some (.int .i64 (valAt t i : Nat)) := by
  unfold vals part valAt
  split
  · rfl
  · split
    · rfl
    · split <;> rfl
theorem vals_digit (t : ByteArray) (i : Nat) (h : i < 18) (h2 : i ≠ 2) (h3 : i ≠ 3) (h10 : i ≠ 10) : (vals t i).setIfInBounds (part i) (.int .i64 ((valAt t i * 10 + (byt t i - 48) : Nat) : Int)) = vals t (i + 1) := by
  rcases i with _ | _ | _ | _ | _ | _ | _ | _ | _ | _ | _ | _ | _ | _ | _ | _ | _ | _ | i
  all_goals first | (exfalso; omega) | rfl
theorem vals_else (t : ByteArray) (i : Nat) (h : i = 2 ∨ i = 3 ∨ i = 10) : vals t i = vals t (i + 1) := by
  rcases h with rfl | rfl | rfl <;> rfl
theorem part_same (i : Nat) (h1 : i ≠ 1) (h3 : i ≠ 3) (h10 : i ≠ 10) : part (i + 1) = part i := by
  unfold part
  (repeat' split) <;> omega
theorem part_lt (i : Nat) : (part i : Int) < 4 := by
  unfold part
  (repeat' split) <;> omega
theorem okI_dig {t : ByteArray} {i : Nat} (h : okI t i) (h2 : i ≠ 2) (h3 : i ≠ 3) (h10 : i ≠ 10) : dig t i := by
  unfold okI at h
  rw [if_neg h2, if_neg (by omega)] at h
  exact h
theorem valAt_lt (t : ByteArray) (i : Nat) (h : i < 18) (hok : ∀ j < i, okI t j) : valAt t i < 10000000 := by
  have H : ∀ f m, m ≤ 7 → (∀ j < m, dig t (f + j)) → num t f m < 10000000 := fun f m hm hd =>
    Nat.lt_of_lt_of_le (num_lt t f m hd) (Nat.le_trans (Nat.pow_le_pow_right (by decide) hm) (by decide))
  unfold valAt
  split
  · exact H _ _ (by omega) (fun j hj => okI_dig (hok _ (by omega)) (by omega) (by omega) (by omega))
  · split
    · decide
    · split
      · exact H _ _ (by omega) (fun j hj => okI_dig (hok _ (by omega)) (by omega) (by omega) (by omega))
      · exact H _ _ (by omega) (fun j hj => okI_dig (hok _ (by omega)) (by omega) (by omega) (by omega))
theorem form_all : ∀ i : Fin 18, byt { data := #[48, 48, 78, 32, 48, 48, 48, 48, 48, 48, 32, 48, 48, 48, 48, 48, 48, 48] } i.1 = kindB i.1 := by decide +kernel
theorem form_at (i : Nat) (h : i < 18) (w : World) : (Instr.index 9 (.string { data := #[48, 48, 78, 32, 48, 48, 48, 48, 48, 48, 32, 48, 48, 48, 48, 48, 48, 48] }) (.int .i64 (i : Int))).run Tryd.prog w = .ok (.int .u8 (kindB i)) w := by
  rw [idx _ i (by exact h) w, form_all ⟨i, h⟩]

def TextG (A : Nat → Addr) (w : World) : Prop := w.cell? ⟨1, 0, none⟩ = some (errV (A 1))
theorem TextG.ext {A : Nat → Addr} {w w' : World} (h : TextG A w) (hx : Ext w w') : w'.cell? ⟨1, 0, none⟩ = some (errV (A 1)) := by
  rw [hx.cell _ 0 (cell_lt h)]; exact h
/-- what reading a text gives: a reference, and what its error says -/
def RdR (A : Nat → Addr) (ref : Value) (k o : Int) (w : World) (e : Ending) (w' : World) : Prop := ∃ v, e = .returned (.tuple #[ref, v]) ∧ FltOf A w' k o v ∧ Ext w w'
theorem keepT {A : Nat → Addr} {w W : World} {n : Nat} {t : TypeId} (hT : TextG A w) (hx : Ext w W) (hb : Blk W n t #[.int .i64 0, .bool false, .int .i64 0, .int .i64 0]) :
    W.cell? ⟨1, 0, none⟩ = some (errV (A 1)) ∧ W.cell? ⟨n, 0, none⟩ = some (.int .i64 0) ∧ W.cell? ⟨n, 1, none⟩ = some (.bool false) ∧ W.cell? ⟨n, 2, none⟩ = some (.int .i64 0) ∧ W.cell? ⟨n, 3, none⟩ = some (.int .i64 0) ∧ W.frozen? ⟨n, 0, none⟩ = false ∧ W.frozen? ⟨n, 1, none⟩ = false ∧ W.frozen? ⟨n, 2, none⟩ = false ∧ W.frozen? ⟨n, 3, none⟩ = false :=
  ⟨hT.ext hx, hb.cell 0, hb.cell 1, hb.cell 2, hb.cell 3, hb.frozen 0, hb.frozen 1, hb.frozen 2, hb.frozen 3⟩
theorem blk_zero4 {w : World} {n : Nat} {t : TypeId} (h : Blk w n t #[.int .i64 0, .bool false, .int .i64 0, .int .i64 0]) :
    Blk ((((w.setCell ⟨n, 0, none⟩ (.int .i64 0)).setCell ⟨n, 1, none⟩ (.bool false)).setCell ⟨n, 2, none⟩ (.int .i64 0)).setCell ⟨n, 3, none⟩ (.int .i64 0)) n t #[.int .i64 0, .bool false, .int .i64 0, .int .i64 0] := by
  simpa using blk_set' (i := 3) (.int .i64 0) (blk_set' (i := 2) (.int .i64 0) (blk_set' (i := 1) (.bool false) (blk_set' (i := 0) (.int .i64 0) h)))
theorem blk_alloc {w : World} {n : Nat} {t : TypeId} {cs : Array Value} {o : Obj} (h : Blk w n t cs) : Blk (w.alloc o) n t cs := h.ext ((Ext.refl w).alloc o)
set_option maxHeartbeats 8000000 in
theorem readRef_walk {A : Nat → Addr} (t : ByteArray) (w : World) (hW : WorldG A w) (hT : TextG A w) (ref : Value) (k o : Int)
    (hbad : Hid (∀ N < 18, (∀ j < N, okI t j) → ¬ okI t N → ref = refV 0 false 0 0 ∧ k = 1 ∧ o = min (N : Int) t.size))
    (HLONG : Hid ((∀ j < 18, okI t j) → 18 < t.size → ref = refV 0 false 0 0 ∧ k = 1 ∧ o = 18))
    (HGOOD : Hid ((∀ j < 18, okI t j) → ¬ 18 < t.size → (¬ OkRef (num t 0 2) (num t 4 6) (num t 11 7) → ref = refV 0 false 0 0 ∧ k = 4 ∧ o = 0) ∧ (OkRef (num t 0 2) (num t 4 6) (num t 11 7) → ref = refV (num t 0 2) (decide (byt t 2 = 83)) (num t 4 6) (num t 11 7) ∧ k = 0 ∧ o = -1))) :
    Calls Tryd.prog 21 #[.string t] w (RdR A ref k o w) := by
  go_enter Tryd.func21, Tryd.ntmps21
  go_wp2_with fail
  have hR0 : Blk ((w.alloc (.cells #[.int .i64 0, .bool false, .int .i64 0, .int .i64 0] 49)).alloc (.cells #[.int .i64 0, .int .i64 0, .int .i64 0, .int .i64 0] 78)) w.heap.size 49 #[.int .i64 0, .bool false, .int .i64 0, .int .i64 0] := (Blk.new w _ _).ext ((Ext.refl _).alloc _)
  go_loopw [5, 10] (fun kv iv wr => ∃ (i : Nat), kv = .int .i64 (part i : Nat) ∧ iv = .int .i64 (i : Nat) ∧ i ≤ 18 ∧ (∀ j < i, okI t j) ∧ Ext w wr ∧ Blk wr w.heap.size 49 #[.int .i64 0, .bool false, .int .i64 0, .int .i64 0] ∧ Blk wr (w.heap.size + 1) 78 (vals t i)) (fun kv iv _ => 18 - (RowKit.intOf iv).toNat)
  case atStart => exact ⟨0, rfl, rfl, by omega, fun j hj => by omega, ((Ext.refl w).alloc _).alloc _, hR0, by have := Blk.new (w.alloc (.cells #[.int .i64 0, .bool false, .int .i64 0, .int .i64 0] 49)) #[.int .i64 0, .int .i64 0, .int .i64 0, .int .i64 0] 78; simpa [vals, num] using this⟩
  case round =>
    obtain ⟨i, rfl, rfl, hi, hok, hwr, hR, hV⟩ := hrel
    clear hR0
    rcases Nat.lt_or_ge i 18 with h18 | h18
    · have e1 : (i : Int) < 18 := by omega
      have FX := form_at i h18
      have hsz := hwr.size
      have OK := Lib.hid hok
      have VL := Lib.hid (valAt_lt t i h18 hok)
      by_cases hgood : okI t i
      · have OK1 : Hid (∀ j < i + 1, okI t j) := Lib.hid (fun j hj => by
          rcases Nat.lt_or_ge j i with h' | h'
          · exact OK.out j h'
          · obtain rfl : j = i := by omega
            exact hgood)
        clear hok
        by_cases hel : i = 2 ∨ i = 3 ∨ i = 10
        · have VE := Lib.hid (vals_else t i hel)
          obtain ⟨d1, d2⟩ := hgood
          rcases hel with rfl | rfl | rfl
          · rw [if_pos rfl] at d2
            rcases d2 with d2 | d2
            · have IX : ∀ w, (Instr.index 9 (.string t) (.int .i64 2)).run Tryd.prog w = .ok (.int .u8 78) w := fun w => by have := idx t 2 d1 w; rw [d2] at this; exact this
              have FX2 : ∀ w, (Instr.index 9 (.string { data := #[48, 48, 78, 32, 48, 48, 48, 48, 48, 48, 32, 48, 48, 48, 48, 48, 48, 48] }) (.int .i64 2)).run Tryd.prog w = .ok (.int .u8 78) w := fun w => form_at 2 (by decide) w
              have e2 : (2 : Int) < (t.size : Int) := by omega
              clear d1 d2 VL FX h18 e1
              go_wp2_with fail
              exact ⟨⟨3, rfl, rfl, by omega, OK1.out, hwr, hR, by rw [← VE.out]; exact hV⟩, by simp [RowKit.intOf]⟩
            · have IX : ∀ w, (Instr.index 9 (.string t) (.int .i64 2)).run Tryd.prog w = .ok (.int .u8 83) w := fun w => by have := idx t 2 d1 w; rw [d2] at this; exact this
              have FX2 : ∀ w, (Instr.index 9 (.string { data := #[48, 48, 78, 32, 48, 48, 48, 48, 48, 48, 32, 48, 48, 48, 48, 48, 48, 48] }) (.int .i64 2)).run Tryd.prog w = .ok (.int .u8 78) w := fun w => form_at 2 (by decide) w
              have e2 : (2 : Int) < (t.size : Int) := by omega
              clear d1 d2 VL FX h18 e1
              go_wp2_with fail
              exact ⟨⟨3, rfl, rfl, by omega, OK1.out, hwr, hR, by rw [← VE.out]; exact hV⟩, by simp [RowKit.intOf]⟩
          · rw [if_neg (by decide), if_pos (by decide)] at d2
            have IX : ∀ w, (Instr.index 9 (.string t) (.int .i64 3)).run Tryd.prog w = .ok (.int .u8 32) w := fun w => by have := idx t 3 d1 w; rw [d2] at this; exact this
            have FX2 : ∀ w, (Instr.index 9 (.string { data := #[48, 48, 78, 32, 48, 48, 48, 48, 48, 48, 32, 48, 48, 48, 48, 48, 48, 48] }) (.int .i64 3)).run Tryd.prog w = .ok (.int .u8 32) w := fun w => form_at 3 (by decide) w
            have e2 : (3 : Int) < (t.size : Int) := by omega
            clear d1 d2 VL FX h18 e1
            go_wp2_with fail
            exact ⟨⟨4, by simp [part, wrap64], rfl, by omega, OK1.out, hwr, hR, by rw [← VE.out]; exact hV⟩, by simp [RowKit.intOf]⟩
          · rw [if_neg (by decide), if_pos (by decide)] at d2
            have IX : ∀ w, (Instr.index 9 (.string t) (.int .i64 10)).run Tryd.prog w = .ok (.int .u8 32) w := fun w => by have := idx t 10 d1 w; rw [d2] at this; exact this
            have FX2 : ∀ w, (Instr.index 9 (.string { data := #[48, 48, 78, 32, 48, 48, 48, 48, 48, 48, 32, 48, 48, 48, 48, 48, 48, 48] }) (.int .i64 10)).run Tryd.prog w = .ok (.int .u8 32) w := fun w => form_at 10 (by decide) w
            have e2 : (10 : Int) < (t.size : Int) := by omega
            clear d1 d2 VL FX h18 e1
            go_wp2_with fail
            exact ⟨⟨11, by simp [part, wrap64], rfl, by omega, OK1.out, hwr, hR, by rw [← VE.out]; exact hV⟩, by simp [RowKit.intOf]⟩
        · obtain ⟨d1, d2, d3⟩ := okI_dig hgood (by omega) (by omega) (by omega)
          by_cases h1 : i = 1
          · subst h1
            have IX : ∀ w, (Instr.index 9 (.string t) (.int .i64 1)).run Tryd.prog w = .ok (.int .u8 (byt t 1)) w := fun w => idx t 1 d1 w
            have FX2 : ∀ w, (Instr.index 9 (.string { data := #[48, 48, 78, 32, 48, 48, 48, 48, 48, 48, 32, 48, 48, 48, 48, 48, 48, 48] }) (.int .i64 1)).run Tryd.prog w = .ok (.int .u8 48) w := fun w => by have := form_at 1 h18 w; rw [show kindB 1 = 48 by unfold kindB; rw [if_neg (by omega), if_neg (by omega)]] at this; exact this
            have e2 : 1 < (t.size : Int) := by omega
            have VD := Lib.hid (vals_digit t 1 h18 (by omega) (by omega) (by omega))
            have cV : wr.cell? ⟨w.heap.size + 1, part 1, none⟩ = some (.int .i64 (valAt t 1 : Nat)) := by rw [hV.cell, vals_at]
            have fV : wr.frozen? ⟨w.heap.size + 1, part 1, none⟩ = false := hV.frozen _
            have PE : part 2 = part 1 + 1 := rfl
            have k4 : (part 1 : Int) < 4 := part_lt 1
            have vb := VL.out
            clear hgood d1 FX
            generalize byt t 1 = b at *
            generalize valAt t 1 = v at *
            generalize part 1 = k at *
            have W1 : IntKind.u8.wrap ((b : Int) - 48) = (b : Int) - 48 := IntWalk.u8_in _ ⟨by omega, by omega⟩
            have e3 : (48 : Int) ≤ (b : Int) := by omega
            have e4 : (b : Int) ≤ 57 := by omega
            clear hel
            have PE2 := Lib.hid PE
            clear PE
            go_wp2_with fail
            refine ⟨⟨2, by rw [PE2.out]; rfl, by simp, by omega, OK1.out, hwr.setCell (show w.heap.size ≤ w.heap.size + 1 by omega) _, blk_far _ hR (by omega), ?_⟩, by simp [RowKit.intOf]⟩
            have HVk := blk_set' (i := k) (.int .i64 ((v * 10 + (b - 48) : Nat) : Int)) hV
            rw [VD.out] at HVk
            have E : ((v * 10 + (b - 48) : Nat) : Int) = (v : Int) * 10 + ((b : Int) - 48) := by omega
            rw [E] at HVk
            exact HVk
          · have IX : ∀ w, (Instr.index 9 (.string t) (.int .i64 (i : Int))).run Tryd.prog w = .ok (.int .u8 (byt t i)) w := fun w => idx t i d1 w
            have FX2 : ∀ w, (Instr.index 9 (.string { data := #[48, 48, 78, 32, 48, 48, 48, 48, 48, 48, 32, 48, 48, 48, 48, 48, 48, 48] }) (.int .i64 (i : Int))).run Tryd.prog w = .ok (.int .u8 48) w := fun w => by have := form_at i h18 w; rw [show kindB i = 48 by unfold kindB; rw [if_neg (by omega), if_neg (by omega)]] at this; exact this
            have e2 : (i : Int) < (t.size : Int) := by omega
            have VD := Lib.hid (vals_digit t i h18 (by omega) (by omega) (by omega))
            have cV : wr.cell? ⟨w.heap.size + 1, part i, none⟩ = some (.int .i64 (valAt t i : Nat)) := by rw [hV.cell, vals_at]
            have fV : wr.frozen? ⟨w.heap.size + 1, part i, none⟩ = false := hV.frozen _
            have PE := part_same i h1 (by omega) (by omega)
            have k4 : (part i : Int) < 4 := part_lt i
            have vb := VL.out
            clear hgood d1 FX
            generalize byt t i = b at *
            generalize valAt t i = v at *
            generalize part i = k at *
            have W1 : IntKind.u8.wrap ((b : Int) - 48) = (b : Int) - 48 := IntWalk.u8_in _ ⟨by omega, by omega⟩
            have e3 : (48 : Int) ≤ (b : Int) := by omega
            have e4 : (b : Int) ≤ 57 := by omega
            have e5 : ((i : Int) == 1) = false := beq_eq_false_iff_ne.2 (by omega)
            have e6 : ¬ (i : Int) = 1 := by omega
            clear hel
            have PE2 := Lib.hid PE
            clear PE
            go_wp2_with fail
            refine ⟨⟨i + 1, by rw [PE2.out], by simp, by omega, OK1.out, hwr.setCell (show w.heap.size ≤ w.heap.size + 1 by omega) _, blk_far _ hR (by omega), ?_⟩, by simp [RowKit.intOf]; omega⟩
            have HVk := blk_set' (i := k) (.int .i64 ((v * 10 + (b - 48) : Nat) : Int)) hV
            rw [VD.out] at HVk
            have E : ((v * 10 + (b - 48) : Nat) : Int) = (v : Int) * 10 + ((b : Int) - 48) := by omega
            rw [E] at HVk
            exact HVk
      · obtain ⟨rfl, rfl, rfl⟩ := hbad.out i h18 hok hgood
        have VL2 := VL
        clear hok VL
        have kT := hT.ext hwr
        by_cases hs : i < t.size
        · by_cases hel : i = 2 ∨ i = 3 ∨ i = 10
          · rcases hel with rfl | rfl | rfl
            · have IX : ∀ w, (Instr.index 9 (.string t) (.int .i64 2)).run Tryd.prog w = .ok (.int .u8 (byt t 2)) w := fun w => idx t 2 hs w
              have FX2 : ∀ w, (Instr.index 9 (.string { data := #[48, 48, 78, 32, 48, 48, 48, 48, 48, 48, 32, 48, 48, 48, 48, 48, 48, 48] }) (.int .i64 2)).run Tryd.prog w = .ok (.int .u8 78) w := fun w => form_at 2 (by decide) w
              have e2 : (2 : Int) < (t.size : Int) := by omega
              have e7 : ((byt t 2 : Int) == 78) = false := beq_eq_false_iff_ne.2 (fun h => hgood ⟨hs, by rw [if_pos rfl]; omega⟩)
              have e8 : ((byt t 2 : Int) == 83) = false := beq_eq_false_iff_ne.2 (fun h => hgood ⟨hs, by rw [if_pos rfl]; omega⟩)
              generalize byt t 2 = b at *
              clear FX hgood hs
              go_wp2_with fail
              have cR := hR.cell
              have fR := hR.frozen
              have kl := hR.lt
              have kl2 : 1 < wr.heap.size := cell_lt kT
              have HR2 := Lib.hid hR
              clear hR
              have q2 : 1 ≠ w.heap.size := by have := cell_lt hT; omega
              have q3 : w.heap.size ≠ 1 := by omega
              have q0 : w.heap.size ≠ wr.heap.size := by omega
              go_region
              all_goals go_wp2_with fail
              have H1 := blk_alloc (o := .cells #[.int .i64 (min (2 : Int) t.size), errV (A 1)] 81) (blk_zero4 HR2.out)
              have kc := H1.cell
              have kN : Blk (((((wr.setCell ⟨w.heap.size, 0, none⟩ (.int .i64 0)).setCell ⟨w.heap.size, 1, none⟩ (.bool false)).setCell ⟨w.heap.size, 2, none⟩ (.int .i64 0)).setCell ⟨w.heap.size, 3, none⟩ (.int .i64 0)).alloc (.cells #[.int .i64 (min (2 : Int) t.size), errV (A 1)] 81)) wr.heap.size 81 #[.int .i64 (min (2 : Int) t.size), errV (A 1)] := by
                have := Blk.new ((((wr.setCell ⟨w.heap.size, 0, none⟩ (.int .i64 0)).setCell ⟨w.heap.size, 1, none⟩ (.bool false)).setCell ⟨w.heap.size, 2, none⟩ (.int .i64 0)).setCell ⟨w.heap.size, 3, none⟩ (.int .i64 0)) #[.int .i64 (min (2 : Int) t.size), errV (A 1)] 81
                simpa using this
              exact bodyPost_ret (v := .tuple #[refV 0 false 0 0, fltV wr.heap.size]) (by simp [results, Tryd.results21, go_sem, kc]) rfl ⟨_, rfl, .text _ _ kN.drew, by repeat (first | exact hwr | refine Ext.drew ?_ | refine Ext.alloc ?_ _ | refine Ext.setCell ?_ (Nat.le_refl _) _)⟩
            · have IX : ∀ w, (Instr.index 9 (.string t) (.int .i64 3)).run Tryd.prog w = .ok (.int .u8 (byt t 3)) w := fun w => idx t 3 hs w
              have FX2 : ∀ w, (Instr.index 9 (.string { data := #[48, 48, 78, 32, 48, 48, 48, 48, 48, 48, 32, 48, 48, 48, 48, 48, 48, 48] }) (.int .i64 3)).run Tryd.prog w = .ok (.int .u8 32) w := fun w => form_at 3 (by decide) w
              have e2 : (3 : Int) < (t.size : Int) := by omega
              have e7 : ((byt t 3 : Int) == 32) = false := beq_eq_false_iff_ne.2 (fun h => hgood ⟨hs, by rw [if_neg (by decide), if_pos (by decide)]; omega⟩)
              generalize byt t 3 = b at *
              clear FX hgood hs
              go_wp2_with fail
              have cR := hR.cell
              have fR := hR.frozen
              have kl := hR.lt
              have kl2 : 1 < wr.heap.size := cell_lt kT
              have HR2 := Lib.hid hR
              clear hR
              have q2 : 1 ≠ w.heap.size := by have := cell_lt hT; omega
              have q3 : w.heap.size ≠ 1 := by omega
              have q0 : w.heap.size ≠ wr.heap.size := by omega
              go_region
              all_goals go_wp2_with fail
              have H1 := blk_alloc (o := .cells #[.int .i64 (min (3 : Int) t.size), errV (A 1)] 81) (blk_zero4 HR2.out)
              have kc := H1.cell
              have kN : Blk (((((wr.setCell ⟨w.heap.size, 0, none⟩ (.int .i64 0)).setCell ⟨w.heap.size, 1, none⟩ (.bool false)).setCell ⟨w.heap.size, 2, none⟩ (.int .i64 0)).setCell ⟨w.heap.size, 3, none⟩ (.int .i64 0)).alloc (.cells #[.int .i64 (min (3 : Int) t.size), errV (A 1)] 81)) wr.heap.size 81 #[.int .i64 (min (3 : Int) t.size), errV (A 1)] := by
                have := Blk.new ((((wr.setCell ⟨w.heap.size, 0, none⟩ (.int .i64 0)).setCell ⟨w.heap.size, 1, none⟩ (.bool false)).setCell ⟨w.heap.size, 2, none⟩ (.int .i64 0)).setCell ⟨w.heap.size, 3, none⟩ (.int .i64 0)) #[.int .i64 (min (3 : Int) t.size), errV (A 1)] 81
                simpa using this
              exact bodyPost_ret (v := .tuple #[refV 0 false 0 0, fltV wr.heap.size]) (by simp [results, Tryd.results21, go_sem, kc]) rfl ⟨_, rfl, .text _ _ kN.drew, by repeat (first | exact hwr | refine Ext.drew ?_ | refine Ext.alloc ?_ _ | refine Ext.setCell ?_ (Nat.le_refl _) _)⟩
            · have IX : ∀ w, (Instr.index 9 (.string t) (.int .i64 10)).run Tryd.prog w = .ok (.int .u8 (byt t 10)) w := fun w => idx t 10 hs w
              have FX2 : ∀ w, (Instr.index 9 (.string { data := #[48, 48, 78, 32, 48, 48, 48, 48, 48, 48, 32, 48, 48, 48, 48, 48, 48, 48] }) (.int .i64 10)).run Tryd.prog w = .ok (.int .u8 32) w := fun w => form_at 10 (by decide) w
              have e2 : (10 : Int) < (t.size : Int) := by omega
              have e7 : ((byt t 10 : Int) == 32) = false := beq_eq_false_iff_ne.2 (fun h => hgood ⟨hs, by rw [if_neg (by decide), if_pos (by decide)]; omega⟩)
              generalize byt t 10 = b at *
              clear FX hgood hs
              go_wp2_with fail
              have cR := hR.cell
              have fR := hR.frozen
              have kl := hR.lt
              have kl2 : 1 < wr.heap.size := cell_lt kT
              have HR2 := Lib.hid hR
              clear hR
              have q2 : 1 ≠ w.heap.size := by have := cell_lt hT; omega
              have q3 : w.heap.size ≠ 1 := by omega
              have q0 : w.heap.size ≠ wr.heap.size := by omega
              go_region
              all_goals go_wp2_with fail
              have H1 := blk_alloc (o := .cells #[.int .i64 (min (10 : Int) t.size), errV (A 1)] 81) (blk_zero4 HR2.out)
              have kc := H1.cell
              have kN : Blk (((((wr.setCell ⟨w.heap.size, 0, none⟩ (.int .i64 0)).setCell ⟨w.heap.size, 1, none⟩ (.bool false)).setCell ⟨w.heap.size, 2, none⟩ (.int .i64 0)).setCell ⟨w.heap.size, 3, none⟩ (.int .i64 0)).alloc (.cells #[.int .i64 (min (10 : Int) t.size), errV (A 1)] 81)) wr.heap.size 81 #[.int .i64 (min (10 : Int) t.size), errV (A 1)] := by
                have := Blk.new ((((wr.setCell ⟨w.heap.size, 0, none⟩ (.int .i64 0)).setCell ⟨w.heap.size, 1, none⟩ (.bool false)).setCell ⟨w.heap.size, 2, none⟩ (.int .i64 0)).setCell ⟨w.heap.size, 3, none⟩ (.int .i64 0)) #[.int .i64 (min (10 : Int) t.size), errV (A 1)] 81
                simpa using this
              exact bodyPost_ret (v := .tuple #[refV 0 false 0 0, fltV wr.heap.size]) (by simp [results, Tryd.results21, go_sem, kc]) rfl ⟨_, rfl, .text _ _ kN.drew, by repeat (first | exact hwr | refine Ext.drew ?_ | refine Ext.alloc ?_ _ | refine Ext.setCell ?_ (Nat.le_refl _) _)⟩
          · have d := Lib.hid (show byt t i < 48 ∨ 57 < byt t i by
              rcases Nat.lt_or_ge (byt t i) 48 with h | h
              · exact .inl h
              · rcases Nat.lt_or_ge 57 (byt t i) with h' | h'
                · exact .inr h'
                · exact absurd ⟨hs, by rw [if_neg (by omega), if_neg (by omega)]; exact ⟨h, h'⟩⟩ hgood)
            have IX := idx t i hs
            rw [show kindB i = 48 by unfold kindB; rw [if_neg (by omega), if_neg (by omega)]] at FX
            have e2 : (i : Int) < (t.size : Int) := by omega
            have cV : wr.cell? ⟨w.heap.size + 1, part i, none⟩ = some (.int .i64 (valAt t i : Nat)) := by rw [hV.cell, vals_at]
            have fV : wr.frozen? ⟨w.heap.size + 1, part i, none⟩ = false := hV.frozen _
            have k4 : (part i : Int) < 4 := part_lt i
            have vb := VL2.out
            have bb := byt_lt t i
            clear hgood hs hel
            generalize byt t i = b at *
            generalize valAt t i = v at *
            generalize part i = k at *
            obtain ⟨x, hx⟩ : ∃ x : Int, x = ((b : Int) - 48) % 256 := ⟨_, rfl⟩
            have x0 : 0 ≤ x := by omega
            have x1 : x < 256 := by omega
            have W1 : IntKind.u8.wrap ((b : Int) - 48) = x := by rw [IntKind.wrap_u8]; omega
            have W2 : ((b : Int) - 48) % 256 = x := hx.symm
            have dd := d.out
            clear hx d
            rcases dd with dd | dd
            · have e3 : ¬ (48 : Int) ≤ (b : Int) := by omega
              go_wp2_with fail
              obtain ⟨wr2, hwr2⟩ : ∃ W, W = wr.setCell ⟨w.heap.size + 1, k, none⟩ (.int .i64 ((v : Int) * 10 + x)) := ⟨_, rfl⟩
              rw [← hwr2]
              have hx2 : Ext w wr2 := by rw [hwr2]; exact hwr.setCell (show w.heap.size ≤ w.heap.size + 1 by omega) _
              have hR2 : Blk wr2 w.heap.size 49 #[.int .i64 0, .bool false, .int .i64 0, .int .i64 0] := by rw [hwr2]; exact blk_far _ hR (by omega)
              have kT2 := hT.ext hx2
              clear hwr2 hV hR kT cV fV hwr
              have cR := hR2.cell
              have fR := hR2.frozen
              have kl := hR2.lt
              have kl2 : 1 < wr2.heap.size := cell_lt kT2
              have HR2 := Lib.hid hR2
              clear hR2
              have q2 : 1 ≠ w.heap.size := by have := cell_lt hT; omega
              have q3 : w.heap.size ≠ 1 := by omega
              have q0 : w.heap.size ≠ wr2.heap.size := by omega
              go_region
              all_goals go_wp2_with fail
              have H1 := blk_alloc (o := .cells #[.int .i64 (min (i : Int) t.size), errV (A 1)] 81) (blk_zero4 HR2.out)
              have kc := H1.cell
              have kN : Blk (((((wr2.setCell ⟨w.heap.size, 0, none⟩ (.int .i64 0)).setCell ⟨w.heap.size, 1, none⟩ (.bool false)).setCell ⟨w.heap.size, 2, none⟩ (.int .i64 0)).setCell ⟨w.heap.size, 3, none⟩ (.int .i64 0)).alloc (.cells #[.int .i64 (min (i : Int) t.size), errV (A 1)] 81)) wr2.heap.size 81 #[.int .i64 (min (i : Int) t.size), errV (A 1)] := by
                have := Blk.new ((((wr2.setCell ⟨w.heap.size, 0, none⟩ (.int .i64 0)).setCell ⟨w.heap.size, 1, none⟩ (.bool false)).setCell ⟨w.heap.size, 2, none⟩ (.int .i64 0)).setCell ⟨w.heap.size, 3, none⟩ (.int .i64 0)) #[.int .i64 (min (i : Int) t.size), errV (A 1)] 81
                simpa using this
              exact bodyPost_ret (v := .tuple #[refV 0 false 0 0, fltV wr2.heap.size]) (by simp [results, Tryd.results21, go_sem, kc]) rfl ⟨_, rfl, .text _ _ kN.drew, by repeat (first | exact hx2 | refine Ext.drew ?_ | refine Ext.alloc ?_ _ | refine Ext.setCell ?_ (Nat.le_refl _) _)⟩
            · have e3 : (48 : Int) ≤ (b : Int) := by omega
              have e4 : ¬ (b : Int) ≤ 57 := by omega
              go_wp2_with fail
              obtain ⟨wr2, hwr2⟩ : ∃ W, W = wr.setCell ⟨w.heap.size + 1, k, none⟩ (.int .i64 ((v : Int) * 10 + x)) := ⟨_, rfl⟩
              rw [← hwr2]
              have hx2 : Ext w wr2 := by rw [hwr2]; exact hwr.setCell (show w.heap.size ≤ w.heap.size + 1 by omega) _
              have hR2 : Blk wr2 w.heap.size 49 #[.int .i64 0, .bool false, .int .i64 0, .int .i64 0] := by rw [hwr2]; exact blk_far _ hR (by omega)
              have kT2 := hT.ext hx2
              clear hwr2 hV hR kT cV fV hwr
              have cR := hR2.cell
              have fR := hR2.frozen
              have kl := hR2.lt
              have kl2 : 1 < wr2.heap.size := cell_lt kT2
              have HR2 := Lib.hid hR2
              clear hR2
              have q2 : 1 ≠ w.heap.size := by have := cell_lt hT; omega
              have q3 : w.heap.size ≠ 1 := by omega
              have q0 : w.heap.size ≠ wr2.heap.size := by omega
              go_region
              all_goals go_wp2_with fail
              have H1 := blk_alloc (o := .cells #[.int .i64 (min (i : Int) t.size), errV (A 1)] 81) (blk_zero4 HR2.out)
              have kc := H1.cell
              have kN : Blk (((((wr2.setCell ⟨w.heap.size, 0, none⟩ (.int .i64 0)).setCell ⟨w.heap.size, 1, none⟩ (.bool false)).setCell ⟨w.heap.size, 2, none⟩ (.int .i64 0)).setCell ⟨w.heap.size, 3, none⟩ (.int .i64 0)).alloc (.cells #[.int .i64 (min (i : Int) t.size), errV (A 1)] 81)) wr2.heap.size 81 #[.int .i64 (min (i : Int) t.size), errV (A 1)] := by
                have := Blk.new ((((wr2.setCell ⟨w.heap.size, 0, none⟩ (.int .i64 0)).setCell ⟨w.heap.size, 1, none⟩ (.bool false)).setCell ⟨w.heap.size, 2, none⟩ (.int .i64 0)).setCell ⟨w.heap.size, 3, none⟩ (.int .i64 0)) #[.int .i64 (min (i : Int) t.size), errV (A 1)] 81
                simpa using this
              exact bodyPost_ret (v := .tuple #[refV 0 false 0 0, fltV wr2.heap.size]) (by simp [results, Tryd.results21, go_sem, kc]) rfl ⟨_, rfl, .text _ _ kN.drew, by repeat (first | exact hx2 | refine Ext.drew ?_ | refine Ext.alloc ?_ _ | refine Ext.setCell ?_ (Nat.le_refl _) _)⟩
        · have e2 : ¬ (i : Int) < (t.size : Int) := by omega
          clear FX hgood
          go_wp2_with fail
          have cR := hR.cell
          have fR := hR.frozen
          have kl := hR.lt
          have kl2 : 1 < wr.heap.size := cell_lt kT
          have HR2 := Lib.hid hR
          clear hR
          have q2 : 1 ≠ w.heap.size := by have := cell_lt hT; omega
          have q3 : w.heap.size ≠ 1 := by omega
          have q0 : w.heap.size ≠ wr.heap.size := by omega
          go_region
          all_goals go_wp2_with fail
          have H1 := blk_alloc (o := .cells #[.int .i64 (min (i : Int) t.size), errV (A 1)] 81) (blk_zero4 HR2.out)
          have kc := H1.cell
          have kN : Blk (((((wr.setCell ⟨w.heap.size, 0, none⟩ (.int .i64 0)).setCell ⟨w.heap.size, 1, none⟩ (.bool false)).setCell ⟨w.heap.size, 2, none⟩ (.int .i64 0)).setCell ⟨w.heap.size, 3, none⟩ (.int .i64 0)).alloc (.cells #[.int .i64 (min (i : Int) t.size), errV (A 1)] 81)) wr.heap.size 81 #[.int .i64 (min (i : Int) t.size), errV (A 1)] := by
            have := Blk.new ((((wr.setCell ⟨w.heap.size, 0, none⟩ (.int .i64 0)).setCell ⟨w.heap.size, 1, none⟩ (.bool false)).setCell ⟨w.heap.size, 2, none⟩ (.int .i64 0)).setCell ⟨w.heap.size, 3, none⟩ (.int .i64 0)) #[.int .i64 (min (i : Int) t.size), errV (A 1)] 81
            simpa using this
          exact bodyPost_ret (v := .tuple #[refV 0 false 0 0, fltV wr.heap.size]) (by simp [results, Tryd.results21, go_sem, kc]) rfl ⟨_, rfl, .text _ _ kN.drew, by repeat (first | exact hwr | refine Ext.drew ?_ | refine Ext.alloc ?_ _ | refine Ext.setCell ?_ (Nat.le_refl _) _)⟩
    · obtain rfl : i = 18 := by omega
      have GOOD := HGOOD.out hok
      have LONG := HLONG.out hok
      have SZ : 2 < t.size := (hok 2 (by omega)).1
      clear hbad HGOOD HLONG hok h18 hi
      have kT := hT.ext hwr
      by_cases hl : 18 < t.size
      · obtain ⟨rfl, rfl, rfl⟩ := LONG hl
        have e2 : (18 : Int) < (t.size : Int) := by omega
        clear GOOD LONG
        go_wp2_with fail
        have cR := hR.cell
        have fR := hR.frozen
        have kl := hR.lt
        have kl2 : 1 < wr.heap.size := cell_lt kT
        have HR2 := Lib.hid hR
        clear hR
        have q2 : 1 ≠ w.heap.size := by have := cell_lt hT; omega
        have q3 : w.heap.size ≠ 1 := by omega
        have q0 : w.heap.size ≠ wr.heap.size := by omega
        go_region
        all_goals go_wp2_with fail
        have H1 := blk_alloc (o := .cells #[.int .i64 18, errV (A 1)] 81) (blk_zero4 HR2.out)
        have kc := H1.cell
        have kN : Blk (((((wr.setCell ⟨w.heap.size, 0, none⟩ (.int .i64 0)).setCell ⟨w.heap.size, 1, none⟩ (.bool false)).setCell ⟨w.heap.size, 2, none⟩ (.int .i64 0)).setCell ⟨w.heap.size, 3, none⟩ (.int .i64 0)).alloc (.cells #[.int .i64 18, errV (A 1)] 81)) wr.heap.size 81 #[.int .i64 18, errV (A 1)] := by
          have := Blk.new ((((wr.setCell ⟨w.heap.size, 0, none⟩ (.int .i64 0)).setCell ⟨w.heap.size, 1, none⟩ (.bool false)).setCell ⟨w.heap.size, 2, none⟩ (.int .i64 0)).setCell ⟨w.heap.size, 3, none⟩ (.int .i64 0)) #[.int .i64 18, errV (A 1)] 81
          simpa using this
        exact bodyPost_ret (v := .tuple #[refV 0 false 0 0, fltV wr.heap.size]) (by simp [results, Tryd.results21, go_sem, kc]) rfl ⟨_, rfl, .text _ _ kN.drew, by repeat (first | exact hwr | refine Ext.drew ?_ | refine Ext.alloc ?_ _ | refine Ext.setCell ?_ (Nat.le_refl _) _)⟩
      · obtain ⟨g1, g2⟩ := GOOD hl
        have e2 : ¬ (18 : Int) < (t.size : Int) := by omega
        have V0 := hV.cell 0
        have V2 := hV.cell 2
        have V3 := hV.cell 3
        have IX : ∀ w, (Instr.index 9 (.string t) (.int .i64 2)).run Tryd.prog w = .ok (.int .u8 (byt t 2)) w := fun w => idx t 2 SZ w
        have e3 : ((byt t 2 : Int) == 83) = decide (byt t 2 = 83) := by by_cases h : byt t 2 = 83 <;> simp [h] <;> omega
        have kl3 := hV.lt
        rw [show (vals t 18)[0]? = some (.int .i64 (num t 0 2 : Nat)) from rfl] at V0
        rw [show (vals t 18)[2]? = some (.int .i64 (num t 4 6 : Nat)) from rfl] at V2
        rw [show (vals t 18)[3]? = some (.int .i64 (num t 11 7 : Nat)) from rfl] at V3
        generalize byt t 2 = c at *
        generalize num t 0 2 = m1 at *
        generalize num t 4 6 = m2 at *
        generalize num t 11 7 = m3 at *
        generalize decide (c = 83) = sb at *
        clear GOOD LONG
        have HV2 := Lib.hid hV
        clear hV
        go_wp2_with fail
        go_region
        have kT3 := hT.ext (hwr.alloc (.cells #[.int .i64 m1, .bool sb, .int .i64 m2, .int .i64 m3] 49)).drew
        by_cases hok2 : OkRef m1 m2 m3
        · obtain ⟨rfl, rfl, rfl⟩ := g2 hok2
          have HV := Lib.hid (fun w => refValid_ok m1 sb m2 m3 hok2 w)
          clear g1 g2 hok2
          go_wp2_with (first
            | (go_at_call 20; go_must (refine (HV.out _).mono ?_; rintro e w7 ⟨rfl, hx⟩; obtain ⟨hb3, hw7⟩ := ext1 (show Ext (wr.alloc _) w7 from bareN hx rfl rfl rfl rfl); replace hR := hR.ext hw7; replace hwr := hwr.trans hw7; clear hx; have cR := hR.cell; have fR := hR.frozen; have c3 := hb3.cell)))
          have H1 := blk_set' (i := 3) (.int .i64 m3) (blk_set' (i := 2) (.int .i64 m2) (blk_set' (i := 1) (.bool sb) (blk_set' (i := 0) (.int .i64 m1) hR)))
          simp at H1
          have kc := H1.cell
          exact bodyPost_ret (v := .tuple #[refV m1 sb m2 m3, .nilIface]) (by simp [results, Tryd.results21, go_sem, kc]) rfl ⟨_, rfl, .nil, by repeat (first | exact hwr | refine Ext.drew ?_ | refine Ext.alloc ?_ _ | refine Ext.setCell ?_ (Nat.le_refl _) _)⟩
        · obtain ⟨rfl, rfl, rfl⟩ := g1 hok2
          have HV := Lib.hid (fun w hW => refValid_bad (A := A) m1 sb m2 m3 hok2 w hW)
          clear g1 g2 hok2
          go_wp2_with (first
            | (go_at_call 20; go_must (refine (HV.out _ (hW.ext (by repeat (first | exact hwr | refine Ext.drew ?_ | refine Ext.alloc ?_ _)))).mono ?_; rintro e w7 ⟨rfl, hx⟩; obtain ⟨hb3, hw7⟩ := ext1 (show Ext (wr.alloc _) w7 from bareN hx rfl rfl rfl rfl); replace hR := hR.ext hw7; replace hwr := hwr.trans hw7; clear hx; have c3 := hb3.cell)))
          have cR := hR.cell
          have fR := hR.frozen
          have kl := hR.lt
          have kT4 := (hW.ext hwr).rng
          have kl2 : 0 < w7.heap.size := cell_lt kT4
          have HR2 := Lib.hid hR
          clear hR
          have q2 : 0 ≠ w.heap.size := by have := cell_lt hW.rng; omega
          have q3 : w.heap.size ≠ 0 := by omega
          have q0 : w.heap.size ≠ w7.heap.size := by omega
          go_region
          all_goals go_wp2_with fail
          have H1 := blk_alloc (o := .cells #[.int .i64 0, errV (A 0)] 81) (blk_zero4 HR2.out)
          have kc := H1.cell
          have kN : Blk (((((w7.setCell ⟨w.heap.size, 0, none⟩ (.int .i64 0)).setCell ⟨w.heap.size, 1, none⟩ (.bool false)).setCell ⟨w.heap.size, 2, none⟩ (.int .i64 0)).setCell ⟨w.heap.size, 3, none⟩ (.int .i64 0)).alloc (.cells #[.int .i64 0, errV (A 0)] 81)) w7.heap.size 81 #[.int .i64 0, errV (A 0)] := by
            have := Blk.new ((((w7.setCell ⟨w.heap.size, 0, none⟩ (.int .i64 0)).setCell ⟨w.heap.size, 1, none⟩ (.bool false)).setCell ⟨w.heap.size, 2, none⟩ (.int .i64 0)).setCell ⟨w.heap.size, 3, none⟩ (.int .i64 0)) #[.int .i64 0, errV (A 0)] 81
            simpa using this
          exact bodyPost_ret (v := .tuple #[refV 0 false 0 0, fltV w7.heap.size]) (by simp [results, Tryd.results21, go_sem, kc]) rfl ⟨_, rfl, .range _ _ kN.drew, by repeat (first | exact hwr | refine Ext.drew ?_ | refine Ext.alloc ?_ _ | refine Ext.setCell ?_ (Nat.le_refl _) _)⟩
end Go.Proofs.YteebbcdbkkliaaaDoor
