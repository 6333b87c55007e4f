/- Walks: of which reference a place is: the reference's RefAt, where it lies on the grid. -/
import Derived.Test.YtcppgbhjbmfldaaGreatDoorCU
namespace Go.Proofs.YtcppgbhjbmfldaaGreatDoor
open Go.RowKit Go.Fp Go.Rel
set_option maxRecDepth 20000

theorem set_last {w w7 : World} {n q : Nat} {t t' : TypeId} {a b c d y : Value} {cs : Array Value} (hw : Ext w w7) (hq : Blk w7 q t' cs) (h : Blk w7 n t #[a, b, c, d]) (sz : w.heap.size ≤ n) (hne : q < n) :
    Ext w (w7.setCell ⟨n, 3, none⟩ y) ∧ Blk (w7.setCell ⟨n, 3, none⟩ y) q t' cs ∧ Blk (w7.setCell ⟨n, 3, none⟩ y) n t #[a, b, c, y] := by
  refine ⟨hw.setCell sz _, ?_, ?_⟩
  · unfold Blk at *
    rw [setCell_other' _ _ _ _ _ (Nat.ne_of_lt hne)]; exact hq
  · simpa using blk_set' (i := 3) y h
set_option maxHeartbeats 16000000 in
theorem refAt_in (lon lat z E Nn : Int) (X Y Xe Yn : Nat) (l1 : -80000000000 ≤ lat) (l2 : lat ≤ 84000000000) (H : ToldR lon lat z E Nn X Y Xe Yn) (k : Int) (hk : k = 0 ∧ OkRef z E Nn ∨ k = 4 ∧ ¬ OkRef z E Nn) (w : World) :
    Calls Tryz.prog 6 #[placeU lon lat] w (ExR (.tuple #[if k = 0 then refV z (decide (lat < 0)) E Nn else refV 0 false 0 0, .int .i64 k]) w) := by
  have HT := Lib.hid H
  have HS := Lib.hid (fun w => stripOf_c z H.z1 H.z2 w)
  have HE : Hid (∀ w, Calls Tryz.prog 24 #[refV z (decide (lat < 0)) E Nn] w (ExR (.int .i64 k) w)) := by
    rcases hk with ⟨rfl, h⟩ | ⟨rfl, h⟩
    · exact Lib.hid (refError_ok _ _ _ _ h)
    · exact Lib.hid (refError_bad _ _ _ _ h)
  obtain ⟨R, hR⟩ : ∃ R, R = if k = 0 then refV z (decide (lat < 0)) E Nn else refV 0 false 0 0 := ⟨_, rfl⟩
  rw [← hR]
  have HK := Lib.hid (And.intro hk hR)
  clear hk hR
  clear H
  go_enter Tryz.func6, Tryz.ntmps6
  go_wp2_with (first
    | (go_at_call 20; go_must (refine (HT.out.zn _).mono ?_; rintro e w1 ⟨rfl, hx⟩; obtain ⟨hb1, hb2, hw⟩ := ext2 hx; clear hx))
    | (go_at_call 19; go_must (refine (HS.out _).mono ?_; rintro e w2 ⟨rfl, hx⟩; replace hb1 := hb1.ext hx; replace hb2 := hb2.ext hx; replace hw := hw.trans hx; clear hx; have c1 := hb1.cell; have c2 := hb2.cell; have m1 := hb1.lt; have m2 := hb2.lt))
    | (go_at_call 21; go_must (refine (HT.out.tn _).mono ?_; rintro e w3 ⟨d, u, t, v, rfl, ho, hx⟩; have HO := Lib.hid ho; clear ho; obtain ⟨hb3, hx'⟩ := ext1 hx; replace hb1 := hb1.ext hx'; replace hb2 := hb2.ext hx'; replace hw := hw.trans hx'; clear hx hx' c1 c2 m1 m2; have c1 := hb1.cell; have c2 := hb2.cell; have c3 := hb3.cell; have m1 := hb1.lt; have m2 := hb2.lt; have m3 := hb3.lt))
    | (go_at_call 22; go_must (refine (HO.out _).mono ?_; rintro e w4 ⟨rfl, hx⟩; obtain ⟨hb4, hx'⟩ := ext1 hx; replace hb1 := hb1.ext hx'; replace hb2 := hb2.ext hx'; replace hw := hw.trans hx'; clear hx hx' c1 c2 c3 m1 m2 m3; have c1 := hb1.cell; have c2 := hb2.cell; have m1 := hb1.lt; have m2 := hb2.lt; have m4 := hb4.lt)))
  obtain ⟨wz, hwz⟩ : ∃ wz, wz = w4.alloc (Obj.cells #[Value.float .f64 X, Value.float .f64 Y] 48) := ⟨_, rfl⟩
  rw [← hwz]
  have hE0 : Ext w4 wz := by rw [hwz]; exact (Ext.refl _).alloc _
  have hbF : Blk wz w4.heap.size 48 #[Value.float .f64 X, Value.float .f64 Y] := by rw [hwz]; exact Blk.new _ _ _
  replace hb2 := hb2.ext hE0
  have hB0 : Bks wz [(w.heap.size, 23, #[Value.int .i64 lon, Value.int .i64 lat]), (w4.heap.size, 48, #[Value.float .f64 X, Value.float .f64 Y]), (w.heap.size + 1, 25, #[Value.int .i64 0, Value.bool false, Value.int .i64 0, Value.int .i64 0])] := ⟨hb1.ext hE0, hbF, hb2, trivial⟩
  replace hw := hw.trans hE0
  generalize w4.heap.size = nf at *
  clear hb1 hb2 hb3 hb4 hbF c1 c2 m1 m2 m4 hE0 hwz HO HS
  have hB : Bks wz [(w.heap.size, 23, #[Value.int .i64 lon, Value.int .i64 lat]), (nf, 48, #[Value.float .f64 X, Value.float .f64 Y]), (w.heap.size + 1, 25, #[Value.int .i64 0, Value.bool false, Value.int .i64 0, Value.int .i64 0])] := hB0
  clear hB0
  have kc := And.intro hB.1.cell hB.2.1.cell
  have kl := And.intro hB.1.lt hB.2.1.lt
  have XE := HT.out.xe
  go_cut [8] (fun s1 wx => ∃ (nr : Nat), s1 = .pointer (some ⟨nr, 0, none⟩) ∧ (∀ x ∈ ([(w.heap.size, 23, #[Value.int .i64 lon, Value.int .i64 lat]), (nf, 48, #[Value.float .f64 X, Value.float .f64 Y]), (w.heap.size + 1, 25, #[Value.int .i64 0, Value.bool false, Value.int .i64 0, Value.int .i64 0])] : List (Nat × TypeId × Array Value)), x.1 < nr) ∧ Ext w wx ∧ Bks wx [(w.heap.size, 23, #[Value.int .i64 lon, Value.int .i64 lat]), (nf, 48, #[Value.float .f64 X, Value.float .f64 Y]), (w.heap.size + 1, 25, #[Value.int .i64 0, Value.bool false, Value.int .i64 0, Value.int .i64 0])] ∧ Blk wx nr 25 #[.int .i64 z, .bool (decide (lat < 0)), .int .i64 E, .int .i64 0])
  case first =>
    have fr1 := Lib.hid hB.fresh
    go_region_held3 (fun w' => w'.cell? ⟨w.heap.size, 0, none⟩ = some (.int .i64 lon) ∧ w'.cell? ⟨w.heap.size, 1, none⟩ = some (.int .i64 lat) ∧ w'.cell? ⟨nf, 0, none⟩ = some (.float .f64 X) ∧ w'.cell? ⟨nf, 1, none⟩ = some (.float .f64 Y))
      (first | (refine cellsRA (Bks.ext hB3 ?_); (repeat (first | exact Ext.refl _ | refine Ext.drew ?_ | refine Ext.alloc ?_ _)); done) | (refine cellsRA (Bks.ext hB2 ?_); (repeat (first | exact Ext.refl _ | refine Ext.drew ?_ | refine Ext.alloc ?_ _)); done) | (refine cellsRA (Bks.ext hB ?_); (repeat (first | exact Ext.refl _ | refine Ext.drew ?_ | refine Ext.alloc ?_ _)); done) | (exact cellsRA (fin_four (hw.trans (hE.trans hF)) hB3 hz fr2.out (hw.trans hE).size).2.1) | (refine cellsRA (Bks.ext (fin_four (hw.trans (hE.trans hF)) hB3 hz fr2.out (hw.trans hE).size).2.1 ?_); exact Ext.drew (Ext.refl _)) | (exact cellsRA (fin_four (hw.trans (hE.trans hF)) hB3 hz fr1.out hw.size).2.1) | (refine cellsRA (Bks.ext (fin_four (hw.trans (hE.trans hF)) hB3 hz fr1.out hw.size).2.1 ?_); exact Ext.drew (Ext.refl _)))
      (first
      | (go_at_call 20; refine (HT.out.zn _).mono ?_; rintro e w5 ⟨rfl, hx⟩; have hE : Ext wz w5 := (by first | exact (ext1 hx.of_drew).2 | exact hx.of_drew | exact bareN hx rfl rfl rfl rfl); (first | (have hz := (ext1 hx.of_drew).1) | skip); clear kc kl; have hB2 := hB.ext hE; have fr2 := Lib.hid hB2.fresh; have kc := And.intro hB2.1.cell hB2.2.1.cell; have kl := And.intro hB2.1.lt hB2.2.1.lt)
      | (go_at_call 23; refine (HT.out.ev _).mono ?_; rintro e w6 ⟨rfl, hx'⟩; have hF : Ext w5 w6 := (by first | exact bareN hx' rfl rfl rfl rfl | exact bareN (ext1 hx').2 rfl rfl rfl rfl); (first | (have hz := (ext1 hx').1) | (replace hz := hz.ext hF) | skip); have hB3 := hB2.ext hF; clear kc; (first | (have cZ := hz.cell; have fZ := hz.frozen) | skip)))
    all_goals
      have hL3 : Ext w w6 := (hw.trans hE).trans hF
      have s1 : w.heap.size ≤ wz.heap.size := hw.size
      have s2 : w.heap.size ≤ w5.heap.size := (hw.trans hE).size
      (try go_wp2_with fail)
      go_meet
      first
        | exact ⟨w6.heap.size, rfl, hB3.fresh, fin_new hL3 hB3⟩
        | exact ⟨w5.heap.size, rfl, fr2.out, fin_four hL3 hB3 hz fr2.out s2⟩
        | exact ⟨wz.heap.size, rfl, fr1.out, fin_four hL3 hB3 hz fr1.out s1⟩
  case rest =>
    clear hB hw kc kl
    obtain ⟨nr, rfl, hfr, hw, hB, hR⟩ := hcut
    have n1 : nf < nr := hfr _ (List.mem_cons_of_mem _ List.mem_cons_self)
    have n2 : w.heap.size + 1 < nr := hfr _ (List.mem_cons_of_mem _ (List.mem_cons_of_mem _ List.mem_cons_self))
    have sz : w.heap.size ≤ nr := by omega
    clear hfr
    have YN := HT.out.yn
    have NV := HT.out.nv
    have kr := hR.cell
    have kc := hB.2.1.cell
    by_cases h0 : lat < 0
    · rw [decide_eq_true h0] at *
      rw [if_pos h0] at NV
      have NV' := Lib.hid NV
      clear NV
      rcases HK.out with ⟨⟨rfl, hok⟩ | ⟨rfl, hok⟩, hR0⟩
      all_goals
        clear hok
        first | rw [if_pos rfl] at hR0 | rw [if_neg (by decide)] at hR0
        subst hR0
        clear HK
        go_wp2_with (first
          | (go_at_call 23; go_must (refine (NV'.out _).mono ?_; rintro e w7 ⟨rfl, hx⟩; replace hw := hw.trans hx; replace hB := hB.ext hx; replace hR := hR.ext hx; clear hx kr kc; have kr := hR.cell; have fr := hR.frozen; have kc := hB.2.1.cell))
          | (go_at_call 24; go_must (refine (HE.out _).mono ?_; rintro e w8 ⟨rfl, hx⟩; obtain ⟨hw8, hQ8, hR8⟩ := set_last (y := .int .i64 Nn) hw hB.2.2.1 hR sz n2; replace hw := hw8.trans hx; replace hQ := hQ8.ext hx; replace hR := hR8.ext hx; clear hx hw8 hQ8 hR8 kr kc fr hB; have kr := hR.cell; have kq := hQ.cell; have fq := hQ.frozen)))
        first
          | (obtain ⟨hx, k2⟩ := set_four (u := .int .i64 z) (v := .bool true) (x := .int .i64 E) (y := .int .i64 Nn) hw hQ (by omega); have kc := k2.cell; exact bodyPost_ret (v := .tuple #[refV z true E Nn, .int .i64 0]) (by simp [results, Tryz.results6, go_sem, kc]) rfl ⟨rfl, hx⟩)
          | (obtain ⟨hx, k2⟩ := set_four (u := .int .i64 0) (v := .bool false) (x := .int .i64 0) (y := .int .i64 0) hw hQ (by omega); have kc := k2.cell; exact bodyPost_ret (v := .tuple #[refV 0 false 0 0, .int .i64 4]) (by simp [results, Tryz.results6, go_sem, kc]) rfl ⟨rfl, hx⟩)
    · rw [decide_eq_false h0] at *
      rw [if_neg h0] at NV
      have NV' := Lib.hid NV
      clear NV
      rcases HK.out with ⟨⟨rfl, hok⟩ | ⟨rfl, hok⟩, hR0⟩
      all_goals
        clear hok
        first | rw [if_pos rfl] at hR0 | rw [if_neg (by decide)] at hR0
        subst hR0
        clear HK
        go_wp2_with (first
          | (go_at_call 23; go_must (refine (NV'.out _).mono ?_; rintro e w7 ⟨rfl, hx⟩; replace hw := hw.trans hx; replace hB := hB.ext hx; replace hR := hR.ext hx; clear hx kr kc; have kr := hR.cell; have fr := hR.frozen; have kc := hB.2.1.cell))
          | (go_at_call 24; go_must (refine (HE.out _).mono ?_; rintro e w8 ⟨rfl, hx⟩; obtain ⟨hw8, hQ8, hR8⟩ := set_last (y := .int .i64 Nn) hw hB.2.2.1 hR sz n2; replace hw := hw8.trans hx; replace hQ := hQ8.ext hx; replace hR := hR8.ext hx; clear hx hw8 hQ8 hR8 kr kc fr hB; have kr := hR.cell; have kq := hQ.cell; have fq := hQ.frozen)))
        first
          | (obtain ⟨hx, k2⟩ := set_four (u := .int .i64 z) (v := .bool false) (x := .int .i64 E) (y := .int .i64 Nn) hw hQ (by omega); have kc := k2.cell; exact bodyPost_ret (v := .tuple #[refV z false E Nn, .int .i64 0]) (by simp [results, Tryz.results6, go_sem, kc]) rfl ⟨rfl, hx⟩)
          | (obtain ⟨hx, k2⟩ := set_four (u := .int .i64 0) (v := .bool false) (x := .int .i64 0) (y := .int .i64 0) hw hQ (by omega); have kc := k2.cell; exact bodyPost_ret (v := .tuple #[refV 0 false 0 0, .int .i64 4]) (by simp [results, Tryz.results6, go_sem, kc]) rfl ⟨rfl, hx⟩)
end Go.Proofs.YtcppgbhjbmfldaaGreatDoor
