/- The walk of the law GridSheets, where there are sheets. Printed by gen_sheets.py. -/
import Derived.Test.YtdgaeodkffhciaaDoorS5
import Derived.Test.YtdgaeodkffhciaaDoorVA
import Derived.BigQuiet
namespace Go.Proofs.YtdgaeodkffhciaaDoor
open Go.RowKit Go.Rel
set_option maxRecDepth 20000

/-- the cells of the k-th sheet of a row of sheets -/
structure ShC (w : World) (b k : Nat) (s : Sh) : Prop where
  c0 : w.cell? ⟨b, k * 6, none⟩ = some (.int .i64 s.col)
  c1 : w.cell? ⟨b, k * 6 + 1, none⟩ = some (.int .i64 s.row)
  c2 : w.cell? ⟨b, k * 6 + 2, none⟩ = some (.int .i64 s.x0)
  c3 : w.cell? ⟨b, k * 6 + 3, none⟩ = some (.int .i64 s.y0)
  c4 : w.cell? ⟨b, k * 6 + 4, none⟩ = some (.int .i64 s.x1)
  c5 : w.cell? ⟨b, k * 6 + 5, none⟩ = some (.int .i64 s.y1)
theorem ShC.ext {w w' : World} {b k : Nat} {s : Sh} (h : ShC w b k s) (hx : Ext w w') : ShC w' b k s := by
  have hl := cell_some_lt h.c0
  exact ⟨by rw [hx.cell b _ hl]; exact h.c0, by rw [hx.cell b _ hl]; exact h.c1, by rw [hx.cell b _ hl]; exact h.c2, by rw [hx.cell b _ hl]; exact h.c3, by rw [hx.cell b _ hl]; exact h.c4, by rw [hx.cell b _ hl]; exact h.c5⟩
/-- a row of sheets in memory -/
def RowC (w : World) (b : Nat) (S : List Sh) : Prop := ∀ k, k < S.length → ShC w b k (S.getD k sh0)
theorem RowC.ext {w w' : World} {b : Nat} {S : List Sh} (h : RowC w b S) (hx : Ext w w') : RowC w' b S := fun k hk => (h k hk).ext hx
theorem RowC.raw {w : World} {b : Nat} {S : List Sh} (h : RowC w b S) : ∀ i j (hi : i < S.length), j < 6 → w.cell? ⟨b, i * 6 + j, none⟩ = (S[i]).cells[j]? := fun i j hi hj => by
  have e : S.getD i sh0 = S[i] := by rw [List.getD_eq_getElem?_getD, List.getElem?_eq_getElem hi]; rfl
  have := h i hi
  rw [e] at this
  match j, hj with
  | 0, _ => exact this.c0
  | 1, _ => exact this.c1
  | 2, _ => exact this.c2
  | 3, _ => exact this.c3
  | 4, _ => exact this.c4
  | 5, _ => exact this.c5
theorem sheets_block {w : World} {ad : Option Addr} {m cap : Nat} {S : List Sh} (h : SheetsAt w (.slice ad m cap) S) (hne : S ≠ []) : ∃ b, ad = some ⟨b, 0, none⟩ ∧ m = S.length ∧ RowC w b S := by
  obtain ⟨b, c, ⟨h, _⟩ | ⟨h, hc⟩⟩ := h
  · exact absurd h hne
  · simp only [Value.slice.injEq] at h
    refine ⟨b, h.1, h.2.1, fun k hk => ?_⟩
    obtain ⟨d0, d1, d2, d3, d4, d5⟩ := sheet_cells hk hc
    exact ⟨d0, d1, d2, d3, d4, d5⟩
theorem ints_block {w : World} {ad : Option Addr} {m cap : Nat} {l : List Int} (h : IntsAt w (.slice ad m cap) l) (hne : l.length ≠ 0) : ∃ b, ad = some ⟨b, 0, none⟩ ∧ ∀ i, i < l.length → w.cell? ⟨b, i, none⟩ = some (.int .i64 (l.getD i 0)) := by
  obtain ⟨b, c, ⟨rfl, _⟩ | ⟨h, hc⟩⟩ := h
  · exact absurd rfl hne
  · simp only [Value.slice.injEq] at h
    exact ⟨b, h.1, hc⟩
theorem ints_len {w : World} {ad : Option Addr} {n cap : Nat} {l : List Int} (h : IntsAt w (.slice ad n cap) l) : l.length = n := by
  obtain ⟨b, c, ⟨rfl, h⟩ | ⟨h, _⟩⟩ := h
  · simp at h; simp [h.2.1]
  · simp at h; exact h.2.1.symm

set_option maxHeartbeats 60000000 in
theorem gs_ok {A : Nat → Addr} (lx ly XH hy wide high lap px py : Int) (w : World) (h8 : World8 A w) (S : List Sh) (n : Nat) (hn : S.length = n) (hn0 : 0 < n) (hn4 : n ≤ 4000)
    (HS : Hid (∀ w, Calls Tryd.prog 15 #[boxV lx ly XH hy, .int .i64 wide, .int .i64 high, .int .i64 lap] w fun e w' => ∃ b cap, e = .returned (.tuple #[.slice (some ⟨b, 0, none⟩) n cap, .nilIface]) ∧ RowC w' b S ∧ Ext w w'))
    (HO : Hid (∀ w, Calls Tryd.prog 16 #[boxV lx ly XH hy, .int .i64 wide, .int .i64 high, .int .i64 lap] w fun e w' => ∃ b cap, e = .returned (.tuple #[.slice (some ⟨b, 0, none⟩) n cap, .int .i64 0]) ∧ RowC w' b S ∧ Ext w w'))
    (HC : Hid (lx ≤ px → px ≤ XH → ly ≤ py → py ≤ hy → hitsTo px py S n ≠ [])) :
    Calls Tryd.prog 4 #[boxV lx ly XH hy, .int .i64 wide, .int .i64 high, .int .i64 lap, .agg #[.int .i64 px, .int .i64 py]] w (ExR (.bool true) w) := by
  have HN := Lib.hid hn
  clear hn
  obtain ⟨i0, hi, hz0, hz1, hz2⟩ := info_parts infoInt
  go_enter Tryd.func4, Tryd.ntmps4
  go_wp2_with (first
    | (go_at_call 14; refine (zoned_c _).mono ?_; rintro e w1 ⟨rfl, hx⟩; obtain ⟨hbB, hbP, hw⟩ := ext2 hx; clear hx; have cB := hbB.cell; have cP := hbP.cell)
    | (go_at_call 15; refine (HS.out _).mono ?_; rintro e w1 ⟨b1, cap1, rfl, hr1, hx⟩; replace hbB := hbB.ext (bareE hx rfl rfl rfl rfl); replace hbP := hbP.ext (bareE hx rfl rfl rfl rfl); replace hw := hw.trans (bareE hx rfl rfl rfl rfl); try clear cB cP; have cB := hbB.cell; have cP := hbP.cell; clear hx)
    | (go_at_call 16; refine (HO.out _).mono ?_; rintro e w1 ⟨b2, cap2, rfl, hr2, hx⟩; replace hr1 := hr1.ext (bareE hx rfl rfl rfl rfl); replace hbB := hbB.ext (bareE hx rfl rfl rfl rfl); replace hbP := hbP.ext (bareE hx rfl rfl rfl rfl); replace hw := hw.trans (bareE hx rfl rfl rfl rfl); try clear cB cP; have cB := hbB.cell; have cP := hbP.cell; clear hx)
    | (go_at_call 11; refine (coded_c (h8.ext hw) .nil _).mono ?_; rintro e w1 ⟨rfl, hx⟩; replace hr1 := hr1.ext (bareE hx rfl rfl rfl rfl); replace hr2 := hr2.ext (bareE hx rfl rfl rfl rfl); replace hbB := hbB.ext (bareE hx rfl rfl rfl rfl); replace hbP := hbP.ext (bareE hx rfl rfl rfl rfl); replace hw := hw.trans (bareE hx rfl rfl rfl rfl); try clear cB cP; have cB := hbB.cell; have cP := hbP.cell; clear hx))
  clear cB cP
  obtain ⟨w2, hw2⟩ : ∃ w2, w2 = w1 := ⟨_, rfl⟩
  rw [← hw2] at hbB hbP hr1 hr2 hw ⊢
  clear hw2
  go_loopw [17, 18] (fun v i wr => ∃ k : Nat, k ≤ n ∧ i = .int .i64 k ∧ wr.ownsRow w2.heap.size 3 1 v (hitsTo px py S k).length (ints (hitsTo px py S k)) ∧ Ext w2 wr) (fun _ i _ => n - (intOf i).toNat)
  case atStart => exact ⟨0, by omega, rfl, World.ownsRow_nil _ _ _ _, Ext.refl _⟩
  case round =>
    obtain ⟨k, hk, rfl, hown, hx⟩ := hrel
    obtain ⟨ad, cap', rfl⟩ := owns_slice hown
    have hlen := hits_len px py S k
    by_cases hkn : k < n
    · have sd1 := (hr1.ext hx) k (by rw [HN.out]; exact hkn)
      have sd2 := (hr2.ext hx) k (by rw [HN.out]; exact hkn)
      have bP := hbP.ext hx
      have i1 : (0 : Int) ≤ (k : Int) ∧ (k : Int) < (n : Int) := by omega
      have HY := Lib.hid (@hits_yes px py S k)
      have HNO := Lib.hid (@hits_no px py S k)
      have HI : Hid (InSh px py (S.getD k sh0) ↔ (S.getD k sh0).x0 ≤ px ∧ px ≤ (S.getD k sh0).x1 ∧ (S.getD k sh0).y0 ≤ py ∧ py ≤ (S.getD k sh0).y1) := Iff.rfl
      generalize S.getD k sh0 = s at *
      obtain ⟨scol, srow, sx0, sy0, sx1, sy1⟩ := s
      go_wp2_with fail
      refine wp_region_all (fun _ _ _ => False) (by kernel_rfl) (by kernel_rfl) ?_
      repeat (first
        | (refine wpR_op rfl (fun w1 hq K hK => ?_); have hE := hq.of_drew; obtain ⟨d0, d1, d2, d3, d4, d5⟩ := sd1.ext hE; obtain ⟨f0, f1, f2, f3, f4, f5⟩ := sd2.ext hE; have cP := (bP.ext hE).cell; clear hE; go_simp; refine hK _ ?_; clear hK K d0 d1 d2 d3 d4 d5 f0 f1 f2 f3 f4 f5 cP hq w1)
        | (refine wpR_want rfl (fun w1 hq K hK => ?_); have hE := hq.of_drew; obtain ⟨d0, d1, d2, d3, d4, d5⟩ := sd1.ext hE; obtain ⟨f0, f1, f2, f3, f4, f5⟩ := sd2.ext hE; have cP := (bP.ext hE).cell; clear hE; go_simp; refine hK _ ?_; clear hK K d0 d1 d2 d3 d4 d5 f0 f1 f2 f3 f4 f5 cP hq w1)
        | (refine wpR_pass rfl ?_))
      refine wpR_nil ?_
      intro w9 hx9 _
      replace hx9 := hx9.of_drew
      replace hown := owns_ext hown hx9
      replace hx := hx.trans hx9
      replace sd1 := sd1.ext hx9
      replace sd2 := sd2.ext hx9
      replace bP := bP.ext hx9
      clear hx9
      go_wp2_with fail
      clear sd1
      rcases (show ¬ sx0 ≤ px ∨ (sx0 ≤ px ∧ ¬ px ≤ sx1) ∨ (sx0 ≤ px ∧ px ≤ sx1) from by omega) with g | ⟨g, g2⟩ | ⟨g, g2⟩
      all_goals
        have f2 := sd2.c2
        have f4 := sd2.c4
        have cP := bP.cell
        go_quiet (fail)
        have hxq : Ext w9 (w9.drewN nq) := (Ext.refl _).drewN _
        clear f2 f4 cP
        generalize w9.drewN nq = w10 at *
        replace hown := owns_ext hown hxq
        replace hx := hx.trans hxq
        replace sd2 := sd2.ext hxq
        replace bP := bP.ext hxq
        clear hxq
        go_wp2_with fail
      all_goals rcases (show ¬ sy0 ≤ py ∨ (sy0 ≤ py ∧ ¬ py ≤ sy1) ∨ (sy0 ≤ py ∧ py ≤ sy1) from by omega) with g3 | ⟨g3, g4⟩ | ⟨g3, g4⟩
      rotate_left 8
      · have hz : hitsTo px py S (k + 1) = hitsTo px py S k ++ [(k : Int)] := HY.out (HI.out.2 (by first | omega | (simp only; omega)))
        have HH := Lib.hid hz
        clear hz
        have f3 := sd2.c3
        have f5 := sd2.c5
        have cP := bP.cell
        go_quiet (fail)
        have hxq : Ext w10 (w10.drewN nq) := (Ext.refl _).drewN _
        clear f3 f5 cP
        generalize w10.drewN nq = w11 at *
        replace hown := owns_ext hown hxq
        replace hx := hx.trans hxq
        replace sd2 := sd2.ext hxq
        replace bP := bP.ext hxq
        clear hxq
        have hsz := hx.size
        go_wp2_with (first
          | (at_builtin; refine wpList_append_own _ rfl _ _ 26 rfl w2.heap.size 3 i0 (.int .i64 0) 1 8 Tryd.underlying26 hi hz0 hz1 hz2 rfl (by decide) _ _ _ rfl (hown.alloc _) ⟨w11.heap.size, 0, none⟩ 1 1 [.int .i64 (k : Int)] rfl rfl ?c1 ?c2 ?c3 ?c4 ?c5 ?_)
          | go_in)
        case c1 =>
          intro j u hj
          match j, hj with
          | 0, hj => simp at hj; subst hj; simp [Addr.add]
        case c2 => first | rfl | (intro u hu; simp at hu; subst hu; rfl)
        case c3 => unfold maxLen; omega
        case c4 => omega
        case c5 => first | omega | (simp; omega)
        · intro v' w6 hown' hgrow _
          have R2 : Ext w2 w6 := rel_grow hsz ((Below.refl _ w11).alloc hsz _) hown hx hgrow
          have R3 : w6.ownsRow w2.heap.size 3 1 v' (hitsTo px py S (k + 1)).length (ints (hitsTo px py S (k + 1))) := by
            rw [HH.out, List.length_append]; simpa [ints] using hown'
          clear hown' hgrow hown
          go_wp2
          go_roundw
          case rel => exact ⟨k + 1, by omega, by simp, R3, R2⟩
          case measure => simp [intOf]; omega
      all_goals
        have hz : hitsTo px py S (k + 1) = hitsTo px py S k := HNO.out (fun h => by have := HI.out.1 h; first | omega | (simp only at this; omega))
        have HH := Lib.hid hz
        clear hz
        have f3 := sd2.c3
        have f5 := sd2.c5
        have cP := bP.cell
        go_quiet (fail)
        have hxq : Ext w10 (w10.drewN nq) := (Ext.refl _).drewN _
        clear f3 f5 cP
        generalize w10.drewN nq = w11 at *
        replace hown := owns_ext hown hxq
        replace hx := hx.trans hxq
        replace sd2 := sd2.ext hxq
        replace bP := bP.ext hxq
        clear hxq
        go_wp2_with fail
        go_roundw
        case rel => exact ⟨k + 1, by omega, by simp, by rw [HH.out]; exact hown, hx⟩
        case measure => simp [intOf]; omega
    · have hkn' : k = n := by omega
      subst hkn'
      have hI := ints_of_owns hown
      have hr1' := hr1.ext hx
      have hwr := hw.trans hx
      have bB := hbB.ext hx
      have bP := hbP.ext hx
      have cP := bP.cell
      clear hown hr1 hr2 HS HO
      go_wp2_with (first
        | (go_at_call 17; refine (on_row px py b1 k cap1 S _ HN.out hn4 hr1'.raw).mono ?_; rintro e w8 ⟨ad8, m8, cap8, rfl, hI8, hx8⟩; have hm8 := ints_len hI8; subst hm8))
      clear cP
      replace hI := hI.ext hx8
      replace bB := bB.ext hx8
      replace bP := bP.ext hx8
      replace hwr := hwr.trans hx8
      have HQ : Hid (lx ≤ px → px ≤ XH → ly ≤ py → py ≤ hy → hitsTo px py S k ≠ []) := HC.out
      clear HC HN hr1' hx hx8
      generalize hitsTo px py S k = L at *
      by_cases hL : L.length = 0
      · have hnil : L = [] := List.length_eq_zero_iff.1 hL
        have cB := bB.cell
        have cP := bP.cell
        have hno := fun a b c d => HQ.out a b c d hnil
        clear hnil
        rcases (show ¬ lx ≤ px ∨ (lx ≤ px ∧ ¬ px ≤ XH) ∨ (lx ≤ px ∧ px ≤ XH ∧ ¬ ly ≤ py) ∨ (lx ≤ px ∧ px ≤ XH ∧ ly ≤ py ∧ ¬ py ≤ hy) from by
          by_cases a : lx ≤ px
          · by_cases b : px ≤ XH
            · by_cases c : ly ≤ py
              · by_cases d : py ≤ hy
                · exact (hno a b c d).elim
                · exact .inr (.inr (.inr ⟨a, b, c, d⟩))
              · exact .inr (.inr (.inl ⟨a, b, c⟩))
            · exact .inr (.inl ⟨a, b⟩)
          · exact .inl a) with g | ⟨g, g2⟩ | ⟨g, g2, g3⟩ | ⟨g, g2, g3, g4⟩
        all_goals
          clear hno
          refine wp_loop_rounds 1 ?_
          rw [rounds_succ]
          go_wp2
          go_ret
          exact ⟨by simp, hwr⟩
      · obtain ⟨p1, rfl, hc1⟩ := ints_block hI8 hL
        obtain ⟨p2, rfl, hc2⟩ := ints_block hI hL
        have H1 := Lib.hid hc1
        have H2 := Lib.hid hc2
        have hpos : 0 < (L.length : Int) := by omega
        clear hc1 hc2 HQ hL hI hI8
        go_loopw [22] (fun i wr => ∃ j : Nat, j ≤ L.length ∧ i = .int .i64 j ∧ Ext w8 wr) (fun i _ => L.length - (intOf i).toNat)
        case atStart => exact ⟨0, by omega, rfl, Ext.refl _⟩
        case round =>
          obtain ⟨j, hj, rfl, hxj⟩ := hrel
          by_cases hjl : j < L.length
          · have e1 : wr.cell? ⟨p1, j, none⟩ = some (.int .i64 (L.getD j 0)) := by rw [hxj.cell p1 j (World.block_lt_of_cell? w8 _ (H1.out j hjl))]; exact H1.out j hjl
            have e2 : wr.cell? ⟨p2, j, none⟩ = some (.int .i64 (L.getD j 0)) := by rw [hxj.cell p2 j (World.block_lt_of_cell? w8 _ (H2.out j hjl))]; exact H2.out j hjl
            have i1 : (0 : Int) ≤ (j : Int) ∧ (j : Int) < (L.length : Int) := by omega
            generalize L.getD j 0 = z at *
            go_wp2
            go_quiet (fail)
            go_wp2
            go_roundw
            case rel => exact ⟨j + 1, by omega, by simp, by exact Ext.drewN hxj _⟩
            case measure => simp [intOf]; omega
          · have cB := (bB.ext hxj).cell
            have cP := (bP.ext hxj).cell
            rcases (show ¬ lx ≤ px ∨ (lx ≤ px ∧ ¬ px ≤ XH) ∨ (lx ≤ px ∧ px ≤ XH ∧ ¬ ly ≤ py) ∨ (lx ≤ px ∧ px ≤ XH ∧ ly ≤ py ∧ ¬ py ≤ hy) ∨ (lx ≤ px ∧ px ≤ XH ∧ ly ≤ py ∧ py ≤ hy) from by omega) with g | ⟨g, g2⟩ | ⟨g, g2, g3⟩ | ⟨g, g2, g3, g4⟩ | ⟨g, g2, g3, g4⟩
            all_goals
              go_wp2
              go_ret
              exact ⟨by first | (simp; done) | (simp; omega), hwr.trans hxj⟩
end Go.Proofs.YtdgaeodkffhciaaDoor
