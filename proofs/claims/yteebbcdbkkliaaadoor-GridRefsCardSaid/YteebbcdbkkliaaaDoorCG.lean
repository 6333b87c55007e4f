/- Walks: reading a reference's text: the reference's RefOfText. -/
import Derived.Test.YteebbcdbkkliaaaDoorCF
namespace Go.Proofs.YteebbcdbkkliaaaDoor
open Go.RowKit Go.Fp Go.Rel Go.Lib
set_option maxRecDepth 20000

abbrev faultW (k o : Int) : Value := .agg #[.int .i64 k, .int .i64 o]
def six (A1 A2 A3 A4 A5 A6 : Int) (i : Nat) : Int := [A1, A2, A3, A4, A5, A6].getD i 0
theorem six_at (A1 A2 A3 A4 A5 A6 : Int) (i : Nat) (h : i < 6) : (#[.int .i64 A1, .int .i64 A2, .int .i64 A3, .int .i64 A4, .int .i64 A5, .int .i64 A6] : Array Value)[i]? = some (.int .i64 (six A1 A2 A3 A4 A5 A6 i)) := by
  rcases i with _ | _ | _ | _ | _ | _ | i
  all_goals first | rfl | omega

theorem setCell_other' (w : World) (n i k : Nat) (v : Value) (h : k ≠ n) : (w.setCell ⟨n, i, none⟩ v).heap[k]? = w.heap[k]? := Below.heap_setCell _ _ _ _ h
theorem blk_set' {w : World} {n i : Nat} {t : TypeId} {cs : Array Value} (v : Value) (h : Blk w n t cs) : Blk (w.setCell ⟨n, i, none⟩ v) n t (cs.setIfInBounds i v) := by
  unfold Blk at *
  simp [World.setCell, Array.getElem?_modify, h]
theorem blk_far {w : World} {n m i : Nat} {t : TypeId} {cs : Array Value} (v : Value) (h : Blk w n t cs) (hne : n ≠ m) : Blk (w.setCell ⟨m, i, none⟩ v) n t cs := by
  unfold Blk at *
  rw [setCell_other' _ _ _ _ _ hne]; exact h
/-- what two stores into two blocks leave: a reference and a fault -/
theorem fin_six {w wr : World} {n : Nat} {t t' : TypeId} {a b c d x y u0 u1 u2 u3 v0 v1 : Value} (hw : Ext w wr) (h1 : Blk wr n t #[a, b, c, d]) (h2 : Blk wr (n + 1) t' #[x, y]) (hn : w.heap.size ≤ n) :
    Ext w ((((((wr.setCell ⟨n, 0, none⟩ u0).setCell ⟨n, 1, none⟩ u1).setCell ⟨n, 2, none⟩ u2).setCell ⟨n, 3, none⟩ u3).setCell ⟨n + 1, 0, none⟩ v0).setCell ⟨n + 1, 1, none⟩ v1) ∧
    Blk ((((((wr.setCell ⟨n, 0, none⟩ u0).setCell ⟨n, 1, none⟩ u1).setCell ⟨n, 2, none⟩ u2).setCell ⟨n, 3, none⟩ u3).setCell ⟨n + 1, 0, none⟩ v0).setCell ⟨n + 1, 1, none⟩ v1) n t #[u0, u1, u2, u3] ∧
    Blk ((((((wr.setCell ⟨n, 0, none⟩ u0).setCell ⟨n, 1, none⟩ u1).setCell ⟨n, 2, none⟩ u2).setCell ⟨n, 3, none⟩ u3).setCell ⟨n + 1, 0, none⟩ v0).setCell ⟨n + 1, 1, none⟩ v1) (n + 1) t' #[v0, v1] := by
  refine ⟨(((((hw.setCell hn _).setCell hn _).setCell hn _).setCell hn _).setCell (by show _ ≤ n + 1; omega) _).setCell (by show _ ≤ n + 1; omega) _, ?_, ?_⟩
  · refine blk_far _ (blk_far _ ?_ (by omega)) (by omega)
    simpa using blk_set' (i := 3) u3 (blk_set' (i := 2) u2 (blk_set' (i := 1) u1 (blk_set' (i := 0) u0 h1)))
  · simpa using blk_set' (i := 1) v1 (blk_set' (i := 0) v0 (blk_far (i := 3) u3 (blk_far (i := 2) u2 (blk_far (i := 1) u1 (blk_far (i := 0) u0 h2 (by omega)) (by omega)) (by omega)) (by omega)))

set_option maxHeartbeats 8000000 in
theorem refOf_walk (t : ByteArray) (V1 A1 A2 A3 V2 A4 A5 V3 A6 : Int)
    (HZ : Hid (∀ w, Calls Tryd.prog 44 #[.string t, .int .i64 0, .int .i64 2] w (ExR (.tuple #[.int .i64 V1, .int .i64 A1]) w)))
    (HH : Hid (∀ w, Calls Tryd.prog 45 #[.string t, .int .i64 2, .int .u8 78, .int .u8 83] w (ExR (.int .i64 A2) w)))
    (HS : Hid (∀ w, Calls Tryd.prog 45 #[.string t, .int .i64 3, .int .u8 32, .int .u8 32] w (ExR (.int .i64 A3) w)))
    (HE : Hid (∀ w, Calls Tryd.prog 44 #[.string t, .int .i64 4, .int .i64 6] w (ExR (.tuple #[.int .i64 V2, .int .i64 A4]) w)))
    (HQ : Hid (∀ w, Calls Tryd.prog 45 #[.string t, .int .i64 10, .int .u8 32, .int .u8 32] w (ExR (.int .i64 A5) w)))
    (HN : Hid (∀ w, Calls Tryd.prog 44 #[.string t, .int .i64 11, .int .i64 7] w (ExR (.tuple #[.int .i64 V3, .int .i64 A6]) w)))
    (s : Bool) (K : Int) (HK : Hid (∀ w, Calls Tryd.prog 42 #[refV V1 s V2 V3] w (ExR (.int .i64 K) w)))
    (R : Value)
    (hbad : Hid (∀ p < 6, (∀ j < p, six A1 A2 A3 A4 A5 A6 j < 0) → 0 ≤ six A1 A2 A3 A4 A5 A6 p → six A1 A2 A3 A4 A5 A6 p ≤ t.size ∧ R = .tuple #[refV 0 false 0 0, faultW 1 (six A1 A2 A3 A4 A5 A6 p)]))
    (hlong : Hid ((∀ j < 6, six A1 A2 A3 A4 A5 A6 j < 0) → 18 < t.size → R = .tuple #[refV 0 false 0 0, faultW 1 18]))
    (hgood : Hid ((∀ j < 6, six A1 A2 A3 A4 A5 A6 j < 0) → ¬ 18 < t.size → 2 < t.size ∧ s = ((byt t 2 : Int) == 83) ∧ (0 < K → R = .tuple #[refV 0 false 0 0, faultW 4 0]) ∧ (¬ 0 < K → R = .tuple #[refV V1 s V2 V3, faultW 0 (-1)])))
    (w : World) : Calls Tryd.prog 22 #[.string t] w (ExR R w) := by
  have tk1 : Hid True := trivial
  have tk2 : Hid True := trivial
  have tk3 : Hid True := trivial
  have tk4 : Hid True := trivial
  go_enter Tryd.func22, Tryd.ntmps22
  go_wp2_with (first
    | (go_at_call 44; clear tk1; go_must (refine (HZ.out _).mono ?_; rintro e w1 ⟨rfl, hx⟩; obtain ⟨hb1, hb2, hw⟩ := ext2 hx; clear hx))
    | (go_at_call 44; clear tk2; go_must (refine (HE.out _).mono ?_; rintro e w2 ⟨rfl, hx⟩; replace hw := hw.trans hx; replace hb1 := hb1.ext hx; replace hb2 := hb2.ext hx; clear hx))
    | (go_at_call 44; go_must (refine (HN.out _).mono ?_; rintro e w3 ⟨rfl, hx⟩; replace hw := hw.trans hx; replace hb1 := hb1.ext hx; replace hb2 := hb2.ext hx; clear hx))
    | (go_at_call 45; clear tk3; go_must (refine (HH.out _).mono ?_; rintro e w4 ⟨rfl, hx⟩; replace hw := hw.trans hx; replace hb1 := hb1.ext hx; replace hb2 := hb2.ext hx; clear hx))
    | (go_at_call 45; clear tk4; go_must (refine (HS.out _).mono ?_; rintro e w5 ⟨rfl, hx⟩; replace hw := hw.trans hx; replace hb1 := hb1.ext hx; replace hb2 := hb2.ext hx; clear hx))
    | (go_at_call 45; go_must (refine (HQ.out _).mono ?_; rintro e w6 ⟨rfl, hx⟩; replace hw := hw.trans hx; replace hb1 := hb1.ext hx; replace hb2 := hb2.ext hx; clear hx)))
  have hbA := Blk.new w3 #[.int .i64 A1, .int .i64 A2, .int .i64 A3, .int .i64 A4, .int .i64 A5, .int .i64 A6] 3
  have hlt := hb2.lt
  replace hb1 := hb1.ext ((Ext.refl w3).alloc (.cells #[.int .i64 A1, .int .i64 A2, .int .i64 A3, .int .i64 A4, .int .i64 A5, .int .i64 A6] 3))
  replace hb2 := hb2.ext ((Ext.refl w3).alloc (.cells #[.int .i64 A1, .int .i64 A2, .int .i64 A3, .int .i64 A4, .int .i64 A5, .int .i64 A6] 3))
  replace hw := hw.alloc (.cells #[.int .i64 A1, .int .i64 A2, .int .i64 A3, .int .i64 A4, .int .i64 A5, .int .i64 A6] 3)
  go_loopw [14] (fun iv wr => ∃ (i : Nat), iv = .int .i64 i ∧ i ≤ 6 ∧ (∀ j < i, six A1 A2 A3 A4 A5 A6 j < 0) ∧ Ext w wr ∧ Blk wr w.heap.size 43 #[.int .i64 0, .bool false, .int .i64 0, .int .i64 0] ∧ Blk wr (w.heap.size + 1) 58 #[.int .i64 0, .int .i64 0] ∧ Blk wr w3.heap.size 3 #[.int .i64 A1, .int .i64 A2, .int .i64 A3, .int .i64 A4, .int .i64 A5, .int .i64 A6]) (fun iv _ => 6 - (RowKit.intOf iv).toNat)
  case atStart => exact ⟨0, rfl, by omega, fun j hj => by omega, hw, hb1, hb2, hbA⟩
  case round =>
    obtain ⟨i, rfl, hi, hpre, hwr, hR, hF, hA⟩ := hrel
    clear hw hb1 hb2 hbA
    have hsz := hwr.size
    generalize w3.heap.size = nA at *
    have PRE := Lib.hid hpre
    clear hpre
    rcases Nat.lt_or_ge i 6 with h6 | h6
    · have e1 : (i : Int) < 6 := by omega
      have cA : wr.cell? ⟨nA, i, none⟩ = some (.int .i64 (six A1 A2 A3 A4 A5 A6 i)) := by rw [hA.cell i, six_at _ _ _ _ _ _ i h6]
      have BAD := hbad.out i h6 PRE.out
      have NX : Hid (six A1 A2 A3 A4 A5 A6 i < 0 → ∀ j < i + 1, six A1 A2 A3 A4 A5 A6 j < 0) := Lib.hid (fun h j hj => by
        rcases Nat.lt_or_ge j i with h' | h'
        · exact PRE.out j h'
        · obtain rfl : j = i := by omega
          exact h)
      generalize six A1 A2 A3 A4 A5 A6 i = a at *
      rcases Int.lt_or_le a 0 with ha | ha
      · have e2 : ¬ 0 ≤ a := by omega
        have NX2 := Lib.hid (NX.out ha)
        clear BAD NX
        go_wp2_with fail
        go_roundw
        case rel => exact ⟨i + 1, by simp, by omega, NX2.out, hwr, hR, hF, hA⟩
        all_goals (simp [RowKit.intOf]; omega)
      · obtain ⟨B1, B2⟩ := BAD ha
        subst B2
        have e2 : ¬ (t.size : Int) < a := by omega
        clear NX hbad hlong hgood
        have cR := hR.cell
        have fR := hR.frozen
        have cF := hF.cell
        have fF := hF.frozen
        go_wp2_with fail
        obtain ⟨hx, k1, k2⟩ := fin_six (u0 := .int .i64 0) (u1 := .bool false) (u2 := .int .i64 0) (u3 := .int .i64 0) (v0 := .int .i64 1) (v1 := .int .i64 a) hwr hR hF (Nat.le_refl _)
        have kc := k1.cell
        have kc2 := k2.cell
        exact bodyPost_ret (v := .tuple #[refV 0 false 0 0, faultW 1 a]) (by simp [results, Tryd.results22, go_sem, kc, kc2]) rfl ⟨rfl, hx⟩
    · obtain rfl : i = 6 := by omega
      have LONG := hlong.out PRE.out
      have GOOD := hgood.out PRE.out
      clear hbad hlong hgood PRE hA
      by_cases hl : 18 < t.size
      · have RR := LONG hl
        subst RR
        have e2 : (18 : Int) < (t.size : Int) := by omega
        clear GOOD LONG
        have cR := hR.cell
        have fR := hR.frozen
        have cF := hF.cell
        have fF := hF.frozen
        go_wp2_with fail
        obtain ⟨hx, k1, k2⟩ := fin_six (u0 := .int .i64 0) (u1 := .bool false) (u2 := .int .i64 0) (u3 := .int .i64 0) (v0 := .int .i64 1) (v1 := .int .i64 18) hwr hR hF (Nat.le_refl _)
        have kc := k1.cell
        have kc2 := k2.cell
        exact bodyPost_ret (v := .tuple #[refV 0 false 0 0, faultW 1 18]) (by simp [results, Tryd.results22, go_sem, kc, kc2]) rfl ⟨rfl, hx⟩
      · obtain ⟨g1, g2, g3, g4⟩ := GOOD hl
        have e2 : ¬ (18 : Int) < (t.size : Int) := by omega
        have IX : ∀ w, (Instr.index 9 (.string t) (.int .i64 2)).run Tryd.prog w = .ok (.int .u8 (byt t 2)) w := fun w => idx t 2 g1 w
        have e3 : ((byt t 2 : Int) == 83) = s := g2.symm
        have hlt2 := hF.lt
        generalize byt t 2 = c at *
        clear LONG g2 hl
        have cR := hR.cell
        have fR := hR.frozen
        have cF := hF.cell
        have fF := hF.frozen
        by_cases hk : 0 < K
        · have RR := g3 hk
          subst RR
          clear g3 g4
          go_wp2_with (first
            | (go_at_call 42; go_must (refine (HK.out _).mono ?_; rintro e w7 ⟨rfl, hx⟩; obtain ⟨hb3, hw7⟩ := ext1 hx; replace hR := hR.ext hw7; replace hF := hF.ext hw7; replace hwr := hwr.trans hw7; clear cR fR cF fF hx; have cR := hR.cell; have fR := hR.frozen; have cF := hF.cell; have fF := hF.frozen; have c3 := hb3.cell)))
          obtain ⟨hx, k1, k2⟩ := fin_six (u0 := .int .i64 0) (u1 := .bool false) (u2 := .int .i64 0) (u3 := .int .i64 0) (v0 := .int .i64 4) (v1 := .int .i64 0) hwr hR hF (Nat.le_refl _)
          have kc := k1.cell
          have kc2 := k2.cell
          exact bodyPost_ret (v := .tuple #[refV 0 false 0 0, faultW 4 0]) (by simp [results, Tryd.results22, go_sem, kc, kc2]) rfl ⟨rfl, hx⟩
        · have RR := g4 (by omega)
          subst RR
          clear g3 g4
          go_wp2_with (first
            | (go_at_call 42; go_must (refine (HK.out _).mono ?_; rintro e w7 ⟨rfl, hx⟩; obtain ⟨hb3, hw7⟩ := ext1 hx; replace hR := hR.ext hw7; replace hF := hF.ext hw7; replace hwr := hwr.trans hw7; clear cR fR cF fF hx; have cR := hR.cell; have fR := hR.frozen; have cF := hF.cell; have fF := hF.frozen; have c3 := hb3.cell)))
          obtain ⟨hx, k1, k2⟩ := fin_six (u0 := .int .i64 V1) (u1 := .bool s) (u2 := .int .i64 V2) (u3 := .int .i64 V3) (v0 := .int .i64 0) (v1 := .int .i64 (-1)) hwr hR hF (Nat.le_refl _)
          have kc := k1.cell
          have kc2 := k2.cell
          exact bodyPost_ret (v := .tuple #[refV V1 s V2 V3, faultW 0 (-1)]) (by simp [results, Tryd.results22, go_sem, kc, kc2]) rfl ⟨rfl, hx⟩
end Go.Proofs.YteebbcdbkkliaaaDoor
