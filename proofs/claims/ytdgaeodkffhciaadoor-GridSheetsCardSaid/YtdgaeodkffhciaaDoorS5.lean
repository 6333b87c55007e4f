/- Walks: zoned; grid.On. Printed by gen_on.py. -/
import Derived.Test.YtdgaeodkffhciaaDoorQ4
import Derived.Test.YtdgaeodkffhciaaDoorS4
import Derived.Test.YtdgaeodkffhciaaDoorV5
namespace Go.Proofs.YtdgaeodkffhciaaDoor
open Go.RowKit Go.Rel
set_option maxRecDepth 20000

theorem middle_c (w : World) : Calls Tryd.prog 40 #[.int .i64 31] w (ExR (.tuple #[.int .i64 3000000000, .nilIface]) w) := by
  go_enter Tryd.func40, Tryd.ntmps40
  go_wp2
  go_ret2
  exact ⟨rfl, Ext.refl _⟩
theorem signP_three : signP 3000000000 = 3000000000 := by decide
theorem zone_c (w : World) : Calls Tryd.prog 41 #[.int .i64 3000000000] w (ExR (.int .i64 31) w) := by
  have HS : Hid (∀ w, Calls Tryd.prog 53 #[.int .i64 3000000000] w (ExR (.int .i64 3000000000) w)) := fun w => by have := signed_c 3000000000 w; rw [signP_three] at this; exact this
  go_enter Tryd.func41, Tryd.ntmps41
  go_wp2_with (first | (go_at_call 53; refine (HS.out _).mono ?_; rintro e w1 ⟨rfl, hx1⟩))
  go_ret
  exact ⟨rfl, hx1⟩
theorem zoned_c (w : World) : Calls Tryd.prog 14 #[] w (ExR (.bool true) w) := by
  go_enter Tryd.func14, Tryd.ntmps14
  go_wp2_with (first
    | (go_at_call 40; refine (middle_c _).mono ?_; rintro e w1 ⟨rfl, hx1⟩)
    | (go_at_call 41; refine (zone_c _).mono ?_; rintro e w2 ⟨rfl, hx2⟩))
  go_ret
  exact ⟨rfl, hx1.trans hx2⟩

theorem on_nil (px py : Int) (cap : Nat) (w : World) : Calls Tryd.prog 17 #[.slice none 0 cap, .agg #[.int .i64 px, .int .i64 py]] w (ExR (.slice none 0 0) w) := by
  go_enter Tryd.func17, Tryd.ntmps17
  go_wp2
  refine wp_loop_rounds 1 ?_
  rw [rounds_succ]
  go_wp2
  go_ret
  exact ⟨rfl, (by repeat (first | exact Ext.refl _ | refine Ext.alloc ?_ _))⟩

theorem sheet_cells {w : World} {b : Nat} {S : List Sh} {k : Nat} (hk : k < S.length) (h : ∀ i j (hi : i < S.length), j < 6 → w.cell? ⟨b, i * 6 + j, none⟩ = (S[i]).cells[j]?) :
    w.cell? ⟨b, k * 6, none⟩ = some (.int .i64 (S.getD k sh0).col) ∧ w.cell? ⟨b, k * 6 + 1, none⟩ = some (.int .i64 (S.getD k sh0).row) ∧ w.cell? ⟨b, k * 6 + 2, none⟩ = some (.int .i64 (S.getD k sh0).x0) ∧
    w.cell? ⟨b, k * 6 + 3, none⟩ = some (.int .i64 (S.getD k sh0).y0) ∧ w.cell? ⟨b, k * 6 + 4, none⟩ = some (.int .i64 (S.getD k sh0).x1) ∧ w.cell? ⟨b, k * 6 + 5, none⟩ = some (.int .i64 (S.getD k sh0).y1) := by
  have e : S.getD k sh0 = S[k] := by rw [List.getD_eq_getElem?_getD, List.getElem?_eq_getElem hk]; rfl
  rw [e]
  exact ⟨h k 0 hk (by omega), h k 1 hk (by omega), h k 2 hk (by omega), h k 3 hk (by omega), h k 4 hk (by omega), h k 5 hk (by omega)⟩

set_option maxHeartbeats 20000000 in
theorem on_row (px py : Int) (b n cap : Nat) (S : List Sh) (w : World) (hn : S.length = n) (hn4 : n ≤ 4000) (hS : ∀ i j (hi : i < S.length), j < 6 → w.cell? ⟨b, i * 6 + j, none⟩ = (S[i]).cells[j]?) :
    Calls Tryd.prog 17 #[.slice (some ⟨b, 0, none⟩) n cap, .agg #[.int .i64 px, .int .i64 py]] w fun e w' => ∃ ad m cap', e = .returned (.slice ad m cap') ∧ IntsAt w' (.slice ad m cap') (hitsTo px py S n) ∧ Ext w w' := by
  obtain ⟨i0, hi, hz0, hz1, hz2⟩ := info_parts infoInt
  have HS := Lib.hid hS
  have HN := Lib.hid hn
  clear hS hn
  go_enter Tryd.func17, Tryd.ntmps17
  go_wp2
  have hw1 : Ext w (w.alloc (.cells #[.int .i64 px, .int .i64 py] 23)) := (Ext.refl w).alloc _
  have hb1 : Blk (w.alloc (.cells #[.int .i64 px, .int .i64 py] 23)) w.heap.size 23 #[.int .i64 px, .int .i64 py] := Blk.new _ _ _
  have hz1' : (w.alloc (.cells #[.int .i64 px, .int .i64 py] 23)).heap.size = w.heap.size + 1 := alloc_size _ _
  generalize w.alloc (.cells #[.int .i64 px, .int .i64 py] 23) = w1 at *
  have HZ := Lib.hid hz1'
  clear hz1'
  go_loopw [5, 11] (fun v i wr => ∃ k : Nat, k ≤ n ∧ i = .int .i64 k ∧ wr.ownsRow (w.heap.size + 1) 3 1 v (hitsTo px py S k).length (ints (hitsTo px py S k)) ∧ Ext w1 wr) (fun _ i _ => n - (intOf i).toNat)
  case atStart => exact ⟨0, by omega, rfl, World.ownsRow_nil _ _ _ _, Ext.refl _⟩
  case round =>
    obtain ⟨k, hk, rfl, hown, hx⟩ := hrel
    obtain ⟨ad, cap', rfl⟩ := owns_slice hown
    have hlen := hits_len px py S k
    have hsz : w.heap.size + 1 ≤ wr.heap.size := by have := hx.size; have := HZ.out; omega
    have hnx : Below (w.heap.size + 1) w1 wr := by rw [← HZ.out]; exact hx
    by_cases hkn : k < n
    · have hS' : ∀ i j (hi : i < S.length), j < 6 → wr.cell? ⟨b, i * 6 + j, none⟩ = (S[i]).cells[j]? := fun i j hi hj => by
        have h0 := HS.out i j hi hj
        have hl : (S[i]).cells.length = 6 := rfl
        rw [List.getElem?_eq_getElem (by rw [hl]; exact hj)] at h0
        rw [(hw1.trans hx).cell b _ (cell_some_lt h0), HS.out i j hi hj]
      obtain ⟨d0, d1, d2, d3, d4, d5⟩ := sheet_cells (show k < S.length by rw [HN.out]; exact hkn) hS'
      have cP := (hb1.ext hx).cell
      have lP := (hb1.ext hx).lt
      have lS := cell_some_lt d0
      have i1 : (0 : Int) ≤ (k : Int) ∧ (k : Int) < (n : Int) := by omega
      clear hS'
      have hyes := @hits_yes px py S k
      have hno := @hits_no px py S k
      have HY := Lib.hid hyes
      have HNO := Lib.hid hno
      clear hyes hno
      have HI : Hid (InSh px py (S.getD k sh0) ↔ (S.getD k sh0).x0 ≤ px ∧ px ≤ (S.getD k sh0).x1 ∧ (S.getD k sh0).y0 ≤ py ∧ py ≤ (S.getD k sh0).y1) := Iff.rfl
      generalize S.getD k sh0 = s at *
      obtain ⟨scol, srow, sx0, sy0, sx1, sy1⟩ := s
      simp only at d0 d1 d2 d3 d4 d5
      rcases (show ¬ sx0 ≤ px ∨ (sx0 ≤ px ∧ ¬ px ≤ sx1) ∨ (sx0 ≤ px ∧ px ≤ sx1 ∧ ¬ sy0 ≤ py) ∨ (sx0 ≤ px ∧ px ≤ sx1 ∧ sy0 ≤ py ∧ ¬ py ≤ sy1) ∨ (sx0 ≤ px ∧ px ≤ sx1 ∧ sy0 ≤ py ∧ py ≤ sy1) from by omega) with g | ⟨g, g2⟩ | ⟨g, g2, g3⟩ | ⟨g, g2, g3, g4⟩ | ⟨g, g2, g3, g4⟩
      · have hz : hitsTo px py S (k + 1) = hitsTo px py S k := HNO.out (fun h => by have := HI.out.1 h; simp only at this; omega)
        have HH := Lib.hid hz
        clear hz
        go_wp2
        go_roundw
        case rel => exact ⟨k + 1, by omega, by simp, by rw [HH.out]; exact (hown.alloc _).alloc _, (hx.alloc _).alloc _⟩
        case measure => simp [intOf]; omega
      · have hz : hitsTo px py S (k + 1) = hitsTo px py S k := HNO.out (fun h => by have := HI.out.1 h; simp only at this; omega)
        have HH := Lib.hid hz
        clear hz
        go_wp2
        go_roundw
        case rel => exact ⟨k + 1, by omega, by simp, by rw [HH.out]; exact (hown.alloc _).alloc _, (hx.alloc _).alloc _⟩
        case measure => simp [intOf]; omega
      · have hz : hitsTo px py S (k + 1) = hitsTo px py S k := HNO.out (fun h => by have := HI.out.1 h; simp only at this; omega)
        have HH := Lib.hid hz
        clear hz
        go_wp2
        go_roundw
        case rel => exact ⟨k + 1, by omega, by simp, by rw [HH.out]; exact (hown.alloc _).alloc _, (hx.alloc _).alloc _⟩
        case measure => simp [intOf]; omega
      · have hz : hitsTo px py S (k + 1) = hitsTo px py S k := HNO.out (fun h => by have := HI.out.1 h; simp only at this; omega)
        have HH := Lib.hid hz
        clear hz
        go_wp2
        go_roundw
        case rel => exact ⟨k + 1, by omega, by simp, by rw [HH.out]; exact (hown.alloc _).alloc _, (hx.alloc _).alloc _⟩
        case measure => simp [intOf]; omega
      · have hz : hitsTo px py S (k + 1) = hitsTo px py S k ++ [(k : Int)] := HY.out (HI.out.2 (by simp only; omega))
        have HH := Lib.hid hz
        clear hz
        go_wp2_with (first
          | (at_builtin; refine wpList_append_own _ rfl _ _ 26 rfl (w.heap.size + 1) 3 i0 (.int .i64 0) 1 8 Tryd.underlying26 hi hz0 hz1 hz2 rfl (by decide) _ _ _ rfl (((hown.alloc _).alloc _).alloc _) ⟨wr.heap.size + 1 + 1, 0, none⟩ 1 1 [.int .i64 (k : Int)] rfl rfl ?c1 ?c2 ?c3 ?c4 ?c5 ?_)
          | go_in)
        case c2 => first | rfl | (intro u hu; simp at hu; subst hu; rfl)
        case c3 => unfold maxLen; omega
        case c4 => omega
        case c5 => first | omega | (simp; omega)
        · intro v' w6 hown' hgrow _
          have R1 := rel_grow hsz ((((Below.refl _ wr).alloc hsz _).alloc (by simp; omega) _).alloc (by simp; omega) _) hown hnx hgrow
          have R2 : Ext w1 w6 := by have := R1; rw [← HZ.out] at this; exact this
          have R3 : w6.ownsRow (w.heap.size + 1) 3 1 v' (hitsTo px py S (k + 1)).length (ints (hitsTo px py S (k + 1))) := by
            rw [HH.out, List.length_append]; simpa [ints] using hown'
          clear hown' hgrow hown R1 hnx
          go_wp2
          go_roundw
          case rel => exact ⟨k + 1, by omega, by simp, R3, R2⟩
          case measure => simp [intOf]; omega
    · have hI := ints_of_owns hown
      have hkn' : Hid (k = n) := by show k = n; omega
      go_wp2
      go_ret
      refine ⟨_, _, _, rfl, ?_, hw1.trans hx⟩
      rw [← hkn'.out]
      exact hI
end Go.Proofs.YtdgaeodkffhciaaDoor
