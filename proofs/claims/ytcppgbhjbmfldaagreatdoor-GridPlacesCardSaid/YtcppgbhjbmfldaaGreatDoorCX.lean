/- Walks: of which reference a place is: package grid's RefOf. -/
import Derived.Test.YtcppgbhjbmfldaaGreatDoorCU
namespace Go.Proofs.YtcppgbhjbmfldaaGreatDoor
open Go.RowKit Go.Fp Go.Rel
set_option maxRecDepth 20000

set_option maxHeartbeats 4000000 in
theorem refOf_out {A : Nat → Addr} (lon lat : Int) (w : World) (h8 : World8 A w) (h : lat < -80000000000 ∨ 84000000000 < lat) : Calls Tryz.prog 5 #[placeU lon lat] w (ExR (.tuple #[refV 0 false 0 0, errV (A 0)]) w) := by
  have kg := (h8.ext (((Ext.refl w).alloc (.cells #[.int .i64 lon, .int .i64 lat] 23)).alloc (.cells #[.int .i64 0, .bool false, .int .i64 0, .int .i64 0] 27))).errs.cell 0 (by decide)
  have hl := cell_lt (h8.errs.cell 0 (by decide))
  clear h8
  rcases h with h | h
  all_goals
    go_enter Tryz.func5, Tryz.ntmps5
    go_wp2_with fail
    go_region
    all_goals go_wp2_with fail
    all_goals exact bodyPost_ret (v := .tuple #[refV 0 false 0 0, errV (A 0)]) (by simp [results, Tryz.results5, go_sem]) rfl ⟨rfl, by repeat (first | exact Ext.refl _ | refine Ext.drew ?_ | refine Ext.alloc ?_ _ | refine Ext.setCell ?_ (by simp) _)⟩
theorem set_lat {w wc : World} {nb nr q : Nat} {tF tQ tR : TypeId} {x0 x1 y a b c d v : Value} {cs : Array Value} (hw : Ext w wc) (hF : Blk wc nb tF #[x0, x1]) (hQ : Blk wc q tQ cs) (hR : Blk wc nr tR #[a, b, c, d]) (s1 : w.heap.size ≤ nb) (s2 : w.heap.size ≤ nr) (q1 : q < nb) (q2 : nb < nr) :
    Ext w ((wc.setCell ⟨nb, 1, none⟩ y).setCell ⟨nr, 3, none⟩ v) ∧ Blk ((wc.setCell ⟨nb, 1, none⟩ y).setCell ⟨nr, 3, none⟩ v) q tQ cs ∧ Blk ((wc.setCell ⟨nb, 1, none⟩ y).setCell ⟨nr, 3, none⟩ v) nr tR #[a, b, c, v] := by
  refine ⟨(hw.setCell s1 _).setCell s2 _, ?_, ?_⟩
  · unfold Blk at *
    rw [setCell_other' _ _ _ _ _ (by omega), setCell_other' _ _ _ _ _ (by omega)]; exact hQ
  · have h : Blk (wc.setCell ⟨nb, 1, none⟩ y) nr tR #[a, b, c, d] := by
      unfold Blk at *
      rw [setCell_other' _ _ _ _ _ (by omega)]; exact hR
    simpa using blk_set' (i := 3) v h
theorem set_last' {w wc : World} {nr q : Nat} {tQ tR : TypeId} {a b c d v : Value} {cs : Array Value} (hw : Ext w wc) (hQ : Blk wc q tQ cs) (hR : Blk wc nr tR #[a, b, c, d]) (s2 : w.heap.size ≤ nr) (q2 : q < nr) :
    Ext w (wc.setCell ⟨nr, 3, none⟩ v) ∧ Blk (wc.setCell ⟨nr, 3, none⟩ v) q tQ cs ∧ Blk (wc.setCell ⟨nr, 3, none⟩ v) nr tR #[a, b, c, v] := by
  refine ⟨hw.setCell s2 _, ?_, ?_⟩
  · unfold Blk at *
    rw [setCell_other' _ _ _ _ _ (by omega)]; exact hQ
  · simpa using blk_set' (i := 3) v hR
theorem cellsP2 {w' : World} {n : Nat} {p q : Int} {tP : TypeId} {l : List (Nat × TypeId × Array Value)} (h : Bks w' ((n, tP, #[Value.int .i64 p, Value.int .i64 q]) :: l)) : w'.cell? ⟨n, 0, none⟩ = some (.int .i64 p) ∧ w'.cell? ⟨n, 1, none⟩ = some (.int .i64 q) := ⟨h.1.cell 0, h.1.cell 1⟩
set_option maxHeartbeats 16000000 in
theorem refOf_in {A : Nat → Addr} (lon lat z E Nn : Int) (X Y Xe Yn : Nat) (l1 : -80000000000 ≤ lat) (l2 : lat ≤ 84000000000) (H : ToldR lon lat z E Nn X Y Xe Yn) (k : Int) (hk : k = 0 ∧ OkRef z E Nn ∨ k = 4 ∧ ¬ OkRef z E Nn) (w : World) (h8 : World8 A w) :
    Calls Tryz.prog 5 #[placeU lon lat] w (fun e w' => ∃ v, e = .returned (.tuple #[if k = 0 then refV z (decide (lat < 0)) E Nn else refV 0 false 0 0, v]) ∧ ErrOf A k v ∧ Ext w w') := by
  have HT := Lib.hid H
  have HS := Lib.hid (fun w h8 => gstrip_c (A := A) z H.z1 H.z2 w h8)
  have H8 := Lib.hid h8
  have HV : Hid (∀ w, World8 A w → Calls Tryz.prog 18 #[refV z (decide (lat < 0)) E Nn] w (ExR (if k = 0 then .nilIface else errV (A 0)) w)) := by
    rcases hk with ⟨rfl, h⟩ | ⟨rfl, h⟩
    · exact Lib.hid (fun w _ => refValid_ok _ _ _ _ h w)
    · exact Lib.hid (fun w h8 => refValid_bad _ _ _ _ h w h8)
  obtain ⟨RV, hRV⟩ : ∃ RV, RV = if k = 0 then refV z (decide (lat < 0)) E Nn else refV 0 false 0 0 := ⟨_, rfl⟩
  rw [← hRV]
  have hK : Hid ((k = 0 ∨ k = 4) ∧ RV = if k = 0 then refV z (decide (lat < 0)) E Nn else refV 0 false 0 0) := Lib.hid ⟨by rcases hk with ⟨h, _⟩ | ⟨h, _⟩; exact .inl h; exact .inr h, hRV⟩
  have hl0 := cell_lt (h8.errs.cell 0 (by decide))
  have HL := Lib.hid hl0
  clear H h8 hk hl0 hRV
  go_enter Tryz.func5, Tryz.ntmps5
  go_wp2_with (first
    | (go_at_call 14; go_must (refine (HT.out.gz _).mono ?_; rintro e w1 ⟨rfl, hx⟩; obtain ⟨hb1, hb2, hw⟩ := ext2 hx; clear hx)))
  have hB : Bks w1 [(w.heap.size, 23, #[Value.int .i64 lon, Value.int .i64 lat]), (w.heap.size + 1, 27, #[Value.int .i64 0, Value.bool false, Value.int .i64 0, Value.int .i64 0])] := ⟨hb1, hb2, trivial⟩
  clear hb1 hb2
  have kc := hB.1.cell
  have kl := hB.1.lt
  go_cut [5, 6] (fun s1 s2 wx => ∃ (nb : Nat), s1 = .pointer (some ⟨nb, 0, none⟩) ∧ s2 = .nilIface ∧ (∀ x ∈ ([(w.heap.size, 23, #[Value.int .i64 lon, Value.int .i64 lat]), (w.heap.size + 1, 27, #[Value.int .i64 0, Value.bool false, Value.int .i64 0, Value.int .i64 0])] : List (Nat × TypeId × Array Value)), x.1 < nb) ∧ Ext w wx ∧ Bks wx [(w.heap.size, 23, #[Value.int .i64 lon, Value.int .i64 lat]), (w.heap.size + 1, 27, #[Value.int .i64 0, Value.bool false, Value.int .i64 0, Value.int .i64 0])] ∧ Blk wx nb 48 #[.float .f64 X, .float .f64 Y])
  case first =>
    have fr1 := Lib.hid hB.fresh
    go_region_held3 (fun w' => w'.cell? ⟨w.heap.size, 0, none⟩ = some (.int .i64 lon) ∧ w'.cell? ⟨w.heap.size, 1, none⟩ = some (.int .i64 lat))
      (first | (refine cellsP2 (Bks.ext hB3 ?_); (repeat (first | exact Ext.refl _ | refine Ext.drew ?_ | refine Ext.alloc ?_ _)); done) | (refine cellsP2 (Bks.ext hB2 ?_); (repeat (first | exact Ext.refl _ | refine Ext.drew ?_ | refine Ext.alloc ?_ _)); done) | (refine cellsP2 (Bks.ext hB ?_); (repeat (first | exact Ext.refl _ | refine Ext.drew ?_ | refine Ext.alloc ?_ _)); done) | (exact cellsP2 (fin_two (hw.trans (hE.trans hF)) hB3 hz fr2.out (hw.trans hE).size).2.1) | (refine cellsP2 (Bks.ext (fin_two (hw.trans (hE.trans hF)) hB3 hz fr2.out (hw.trans hE).size).2.1 ?_); exact Ext.drew (Ext.refl _)) | (exact cellsP2 (fin_two (hw.trans (hE.trans hF)) hB3 hz fr1.out hw.size).2.1) | (refine cellsP2 (Bks.ext (fin_two (hw.trans (hE.trans hF)) hB3 hz fr1.out hw.size).2.1 ?_); exact Ext.drew (Ext.refl _)))
      (first
      | (go_at_call 15; refine (HS.out _ (H8.out.ext (by repeat (first | exact hw | refine Ext.drew ?_ | refine Ext.alloc ?_ _)))).mono ?_; rintro e w2 ⟨rfl, hx⟩; have hE : Ext w1 w2 := (by first | exact (ext1 hx.of_drew).2 | exact hx.of_drew | exact bareN hx rfl rfl rfl rfl); (first | (have hz := (ext1 hx.of_drew).1) | skip); clear kc kl; have hB2 := hB.ext hE; have fr2 := Lib.hid hB2.fresh; have kc := hB2.1.cell; have kl := hB2.1.lt)
      | (go_at_call 16; (refine (HT.out.too A _ (H8.out.ext (by repeat (first | exact hw.trans hE | refine Ext.drew ?_ | refine Ext.alloc ?_ _)))).mono ?_; rintro e w3 ⟨rfl, hx'⟩; have hF : Ext w2 w3 := (by first | exact bareN hx' rfl rfl rfl rfl | exact bareN (ext1 hx').2 rfl rfl rfl rfl); (first | (have hz := (ext1 hx').1) | (replace hz := hz.ext hF) | skip); have hB3 := hB2.ext hF; clear kc; (first | (have cZ := hz.cell; have fZ := hz.frozen) | skip))))
    all_goals
      have hL3 : Ext w w3 := (hw.trans hE).trans hF
      have s1 : w.heap.size ≤ w1.heap.size := hw.size
      have s2 : w.heap.size ≤ w2.heap.size := (hw.trans hE).size
      (try go_wp2_with fail)
      go_meet
      first
        | exact ⟨w3.heap.size, rfl, rfl, hB3.fresh, fin_new hL3 hB3⟩
        | exact ⟨w2.heap.size, rfl, rfl, fr2.out, fin_two hL3 hB3 hz fr2.out s2⟩
        | exact ⟨w1.heap.size, rfl, rfl, fr1.out, fin_two hL3 hB3 hz fr1.out s1⟩
  case rest =>
    clear hB hw kc kl
    obtain ⟨nb, rfl, rfl, hfr, hw, hBb, hP⟩ := hcut
    have nb1 : w.heap.size + 1 < nb := hfr _ (List.mem_cons_of_mem _ List.mem_cons_self)
    clear hfr
    have hB : Bks wc [(w.heap.size, 23, #[Value.int .i64 lon, Value.int .i64 lat]), (nb, 48, #[Value.float .f64 X, Value.float .f64 Y]), (w.heap.size + 1, 27, #[Value.int .i64 0, Value.bool false, Value.int .i64 0, Value.int .i64 0])] := ⟨hBb.1, hP, hBb.2.1, trivial⟩
    clear hBb hP
    have kc := And.intro hB.1.cell hB.2.1.cell
    have kl := And.intro hB.1.lt hB.2.1.lt
    have XE := HT.out.xe
    obtain ⟨re, hre⟩ : ∃ re, re = D.write ((D.read Xe).integral .even) := ⟨_, rfl⟩
    have XR : ∀ W, (callFunc 17 #[.float .f64 Xe]).run Tryz.prog W = .ok (.value (.float .f64 re)) W := fun W => by
      rw [round_entry, int_run W _ _ _ HT.out.xq, hre]; rfl
    have XC := HT.out.er re (.inr ⟨HT.out.xq, hre⟩)
    have HRE := Lib.hid hre
    clear hre
    go_wp2_with fail
    go_cut [7] (fun s1 wx => ∃ (nr : Nat), s1 = .pointer (some ⟨nr, 0, none⟩) ∧ (∀ x ∈ ([(w.heap.size, 23, #[Value.int .i64 lon, Value.int .i64 lat]), (nb, 48, #[Value.float .f64 X, Value.float .f64 Y]), (w.heap.size + 1, 27, #[Value.int .i64 0, Value.bool false, Value.int .i64 0, Value.int .i64 0])] : List (Nat × TypeId × Array Value)), x.1 < nr) ∧ Ext w wx ∧ Bks wx [(w.heap.size, 23, #[Value.int .i64 lon, Value.int .i64 lat]), (nb, 48, #[Value.float .f64 X, Value.float .f64 Y]), (w.heap.size + 1, 27, #[Value.int .i64 0, Value.bool false, Value.int .i64 0, Value.int .i64 0])] ∧ Blk wx nr 27 #[.int .i64 z, .bool (decide (lat < 0)), .int .i64 E, .int .i64 0])
    case first =>
      have fr1 := Lib.hid hB.fresh
      go_region_held3 (fun w' => w'.cell? ⟨w.heap.size, 0, none⟩ = some (.int .i64 lon) ∧ w'.cell? ⟨w.heap.size, 1, none⟩ = some (.int .i64 lat) ∧ w'.cell? ⟨nb, 0, none⟩ = some (.float .f64 X) ∧ w'.cell? ⟨nb, 1, none⟩ = some (.float .f64 Y))
        (first | (refine cellsRA (Bks.ext hB ?_); (repeat (first | exact Ext.refl _ | refine Ext.drew ?_ | refine Ext.alloc ?_ _)); done) | (exact cellsRA (fin_four hw hB hz fr1.out hw.size).2.1))
        (fail)
      all_goals
        (try go_wp2_with fail)
        go_meet
        exact ⟨wc.heap.size, rfl, hB.fresh, Ext.drew (hw.alloc _), Bks.ext hB (Ext.drew ((Ext.refl _).alloc _)), (Blk.new _ _ _).ext (Ext.drew (Ext.refl _))⟩
    case rest =>
      clear hB hw kc kl XR XC XE HRE
      obtain ⟨nr, rfl, hfr, hw, hB, hR⟩ := hcut
      have n1 : nb < nr := hfr _ (List.mem_cons_of_mem _ List.mem_cons_self)
      have n2 : w.heap.size + 1 < nr := hfr _ (List.mem_cons_of_mem _ (List.mem_cons_of_mem _ List.mem_cons_self))
      clear hfr
      have kr := hR.cell
      have fr := hR.frozen
      have kf := hB.2.1.cell
      have ff := hB.2.1.frozen
      by_cases h0 : lat < 0
      · rw [decide_eq_true h0] at *
        have YN := HT.out.yn
        have YQ := HT.out.yq
        have NR := HT.out.nr
        rw [if_pos h0] at YQ NR
        obtain ⟨rn, hrn⟩ : ∃ rn, rn = D.write ((D.read Yn).integral .even) := ⟨_, rfl⟩
        have XR : ∀ W, (callFunc 17 #[.float .f64 Yn]).run Tryz.prog W = .ok (.value (.float .f64 rn)) W := fun W => by
          rw [round_entry, int_run W _ _ _ YQ, hrn]; rfl
        have XC := NR rn (.inr ⟨YQ, hrn⟩)
        clear NR YQ hrn
        rcases hK.out with ⟨rfl | rfl, hR0⟩
        · rw [if_pos rfl] at HV hR0
          subst hR0
          clear hK
          go_wp2_with (first
            | (go_at_call 18; go_must (refine (HV.out _ (H8.out.ext (set_lat hw hB.2.1 hB.2.2.1 hR (by omega) (by omega) nb1 n1).1)).mono ?_; rintro e w5 ⟨rfl, hx⟩; obtain ⟨g1, g2, g3⟩ := set_lat (y := .float .f64 Yn) (v := .int .i64 Nn) hw hB.2.1 hB.2.2.1 hR (by omega) (by omega) nb1 n1; replace hw := g1.trans hx; replace hQ := g2.ext hx; replace hR := g3.ext hx; clear g1 g2 g3 kr fr kf ff hB hx; have kr := hR.cell; have fr := hR.frozen; have kq := hQ.cell; have fq := hQ.frozen)))
          obtain ⟨hx, k2⟩ := set_four (u := .int .i64 z) (v := .bool true) (x := .int .i64 E) (y := .int .i64 Nn) hw hQ (by omega)
          have kc := k2.cell
          exact bodyPost_ret (v := .tuple #[refV z true E Nn, .nilIface]) (by simp [results, Tryz.results5, go_sem, kc]) rfl ⟨.nilIface, rfl, .nil, hx⟩
        · rw [if_neg (by decide)] at HV hR0
          subst hR0
          clear hK
          go_wp2_with (first
            | (go_at_call 18; go_must (refine (HV.out _ (H8.out.ext (set_lat hw hB.2.1 hB.2.2.1 hR (by omega) (by omega) nb1 n1).1)).mono ?_; rintro e w5 ⟨rfl, hx⟩; obtain ⟨g1, g2, g3⟩ := set_lat (y := .float .f64 Yn) (v := .int .i64 Nn) hw hB.2.1 hB.2.2.1 hR (by omega) (by omega) nb1 n1; replace hw := g1.trans hx; replace hQ := g2.ext hx; clear g1 g2 g3 kr fr kf ff hB hx)))
          have kg := (H8.out.ext hw).errs.cell 0 (by decide)
          have cR := hQ.cell
          have fR := hQ.frozen
          have kl := hQ.lt
          have kl2 : 0 < w5.heap.size := cell_lt kg
          have q2 : 0 ≠ w.heap.size + 1 := by have := HL.out; omega
          have q3 : w.heap.size + 1 ≠ 0 := q2.symm
          have HQ := Lib.hid hQ
          have HW := Lib.hid hw
          clear hQ hw
          go_region
          all_goals go_wp2_with fail
          all_goals
            obtain ⟨hx, k2⟩ := set_four (u := .int .i64 0) (v := .bool false) (x := .int .i64 0) (y := .int .i64 0) HW.out HQ.out (by omega)
            have kc := k2.cell
            exact bodyPost_ret (v := .tuple #[refV 0 false 0 0, errV (A 0)]) (by simp [results, Tryz.results5, go_sem, kc]) rfl ⟨_, rfl, .range, by repeat (first | exact hx | refine Ext.drew ?_)⟩
      · rw [decide_eq_false h0] at *
        have YQ := HT.out.yq
        have NR := HT.out.nr
        rw [if_neg h0] at YQ NR
        obtain ⟨rn, hrn⟩ : ∃ rn, rn = D.write ((D.read Y).integral .even) := ⟨_, rfl⟩
        have XR : ∀ W, (callFunc 17 #[.float .f64 Y]).run Tryz.prog W = .ok (.value (.float .f64 rn)) W := fun W => by
          rw [round_entry, int_run W _ _ _ YQ, hrn]; rfl
        have XC := NR rn (.inr ⟨YQ, hrn⟩)
        clear NR YQ hrn
        rcases hK.out with ⟨rfl | rfl, hR0⟩
        · rw [if_pos rfl] at HV hR0
          subst hR0
          clear hK
          go_wp2_with (first
            | (go_at_call 18; go_must (refine (HV.out _ (H8.out.ext (set_last' hw hB.2.2.1 hR (by omega) n2).1)).mono ?_; rintro e w5 ⟨rfl, hx⟩; obtain ⟨g1, g2, g3⟩ := set_last' (v := .int .i64 Nn) hw hB.2.2.1 hR (by omega) n2; replace hw := g1.trans hx; replace hQ := g2.ext hx; replace hR := g3.ext hx; clear g1 g2 g3 kr fr kf ff hB hx; have kr := hR.cell; have fr := hR.frozen; have kq := hQ.cell; have fq := hQ.frozen)))
          obtain ⟨hx, k2⟩ := set_four (u := .int .i64 z) (v := .bool false) (x := .int .i64 E) (y := .int .i64 Nn) hw hQ (by omega)
          have kc := k2.cell
          exact bodyPost_ret (v := .tuple #[refV z false E Nn, .nilIface]) (by simp [results, Tryz.results5, go_sem, kc]) rfl ⟨.nilIface, rfl, .nil, hx⟩
        · rw [if_neg (by decide)] at HV hR0
          subst hR0
          clear hK
          go_wp2_with (first
            | (go_at_call 18; go_must (refine (HV.out _ (H8.out.ext (set_last' hw hB.2.2.1 hR (by omega) n2).1)).mono ?_; rintro e w5 ⟨rfl, hx⟩; obtain ⟨g1, g2, g3⟩ := set_last' (v := .int .i64 Nn) hw hB.2.2.1 hR (by omega) n2; replace hw := g1.trans hx; replace hQ := g2.ext hx; clear g1 g2 g3 kr fr kf ff hB hx)))
          have kg := (H8.out.ext hw).errs.cell 0 (by decide)
          have cR := hQ.cell
          have fR := hQ.frozen
          have kl := hQ.lt
          have kl2 : 0 < w5.heap.size := cell_lt kg
          have q2 : 0 ≠ w.heap.size + 1 := by have := HL.out; omega
          have q3 : w.heap.size + 1 ≠ 0 := q2.symm
          have HQ := Lib.hid hQ
          have HW := Lib.hid hw
          clear hQ hw
          go_region
          all_goals go_wp2_with fail
          all_goals
            obtain ⟨hx, k2⟩ := set_four (u := .int .i64 0) (v := .bool false) (x := .int .i64 0) (y := .int .i64 0) HW.out HQ.out (by omega)
            have kc := k2.cell
            exact bodyPost_ret (v := .tuple #[refV 0 false 0 0, errV (A 0)]) (by simp [results, Tryz.results5, go_sem, kc]) rfl ⟨_, rfl, .range, by repeat (first | exact hx | refine Ext.drew ?_)⟩
end Go.Proofs.YtcppgbhjbmfldaaGreatDoor
