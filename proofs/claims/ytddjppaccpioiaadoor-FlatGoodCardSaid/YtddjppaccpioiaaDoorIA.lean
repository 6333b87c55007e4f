/- The walk of the statement FlatGood, where it promises something. Printed by gen_flatlaw.py. -/
import Derived.Test.YtddjppaccpioiaaDoorF8
namespace Go.Proofs.YtddjppaccpioiaaDoor
open Go.RowKit Go.Fp Go.Fp.Tri Go.Rel
set_option maxRecDepth 20000

set_option maxHeartbeats 40000000 in
theorem flatGood_pol (a f : Nat) (mid : Int) (sc : Nat) (lon lat north : Int) (w : World) (hm : mildB a f = true) (hp : papP (okG a f) 2 sc = 0) (hl : ¬ 85000000000 < lat) (hl2 : ¬ lat < -85000000000) (hs : (FloatKind.f64.format.order sc cHalf == some .lt) = false) (hs2 : (FloatKind.f64.format.order sc cTwoS == some .gt) = false) (hl3 : ¬ lat < 1000000000) (hg : ¬ 170000000000 < (if apartP lon mid < 0 then -apartP lon mid else apartP lon mid)) : Calls Tryd.prog 6 #[paperV a f sPol mid sc, placeW lon lat, .int .i64 north] w (ExR (.bool true) w) := by
  have hfit : Fit a f sc := fit_of hm (papP_ok hp).2.2 (beq_eq_false_iff_ne.1 hs) (beq_eq_false_iff_ne.1 hs2)
  obtain ⟨X, Y, lo, la, al, ac, n1, n2, told⟩ := told_pol hfit hp mid lon (lat := lat) (by omega) (by omega)
  have HT := Lib.hid told
  clear told hfit
  have HM := Lib.hid (mild_c a f)
  rw [hm] at HM
  have HP := Lib.hid (fun w => paperError_c KindIs.pol a f mid sc w)
  rw [hp] at HP
  have HX := Lib.hid (apart_c lon mid)
  generalize (if apartP lon mid < 0 then -apartP lon mid else apartP lon mid) = g at *
  clear hp hm
  go_enter Tryd.func6, Tryd.ntmps6
  go_wp2_with (first
    | (go_at_call 28; go_must (refine (drawn0_c (A := fun _ => ⟨0, 0, none⟩) _ ⟨⟩).mono ?_; rintro e w1 ⟨rfl, hx⟩; obtain ⟨hb1, hb2, hw⟩ := ext2 hx; have c1 := hb1.cell; have c2 := hb2.cell; clear hx))
    | (go_at_call 25; go_must (refine (HM.out _).mono ?_; rintro e w2 ⟨rfl, hx⟩; replace hb1 := hb1.ext hx; replace hb2 := hb2.ext hx; replace hw := hw.trans hx; clear hx c1 c2; have c1 := hb1.cell; have c2 := hb2.cell))
    | (go_at_call 29; go_must (refine (HP.out _).mono ?_; rintro e w2 ⟨rfl, hx⟩; replace hb1 := hb1.ext hx; replace hb2 := hb2.ext hx; replace hw := hw.trans hx; clear hx c1 c2; have c1 := hb1.cell; have c2 := hb2.cell))
    | (go_at_call 16; go_must (refine (HX.out _).mono ?_; rintro e wz ⟨rfl, hx⟩; replace hb1 := hb1.ext hx; replace hb2 := hb2.ext hx; replace hw := hw.trans hx; clear hx c1 c2; have c1 := hb1.cell; have c2 := hb2.cell)))
  have hB : Bks wz [(w.heap.size, 69, #[Value.float .f64 a, Value.float .f64 f, Value.string sPol, Value.int .i64 mid, Value.float .f64 sc]), (w.heap.size + 1, 26, #[Value.int .i64 lon, Value.int .i64 lat])] := ⟨hb1, hb2, trivial⟩
  clear hb1 hb2 c1 c2 HM HP HX
  have kc := And.intro hB.1.cell hB.2.1.cell
  have kl := And.intro hB.1.lt hB.2.1.lt
  go_cut [10, 11] (fun s1 s2 wx => ∃ (nb : Nat), s1 = .pointer (some ⟨nb, 0, none⟩) ∧ s2 = .nilIface ∧ Ext w wx ∧ Bks wx [(w.heap.size, 69, #[Value.float .f64 a, Value.float .f64 f, Value.string sPol, Value.int .i64 mid, Value.float .f64 sc]), (w.heap.size + 1, 26, #[Value.int .i64 lon, Value.int .i64 lat])] ∧ Blk wx nb 53 #[.float .f64 X, .float .f64 Y])
  case first =>
    have fr1 := Lib.hid hB.fresh
    go_region_held3 (fun w' => w'.cell? ⟨w.heap.size, 0, none⟩ = some (.float .f64 a) ∧ w'.cell? ⟨w.heap.size, 1, none⟩ = some (.float .f64 f) ∧ w'.cell? ⟨w.heap.size, 2, none⟩ = some (.string sPol) ∧ w'.cell? ⟨w.heap.size, 3, none⟩ = some (.int .i64 mid) ∧ w'.cell? ⟨w.heap.size, 4, none⟩ = some (.float .f64 sc) ∧ w'.cell? ⟨w.heap.size + 1, 0, none⟩ = some (.int .i64 lon) ∧ w'.cell? ⟨w.heap.size + 1, 1, none⟩ = some (.int .i64 lat))
      (first | (refine cellsPA (Bks.ext hB3 ?_); (repeat (first | exact Ext.refl _ | refine Ext.drew ?_ | refine Ext.alloc ?_ _)); done) | (refine cellsPA (Bks.ext hB2 ?_); (repeat (first | exact Ext.refl _ | refine Ext.drew ?_ | refine Ext.alloc ?_ _)); done) | (refine cellsPA (Bks.ext hB ?_); (repeat (first | exact Ext.refl _ | refine Ext.drew ?_ | refine Ext.alloc ?_ _)); done) | (exact cellsPA (fin_two (hw.trans (hE.trans hF)) hB3 hz fr2.out (hw.trans hE).size).2.1) | (refine cellsPA (Bks.ext (fin_two (hw.trans (hE.trans hF)) hB3 hz fr2.out (hw.trans hE).size).2.1 ?_); exact Ext.drew (Ext.refl _)) | (exact cellsPA (fin_two (hw.trans (hE.trans hF)) hB3 hz fr1.out hw.size).2.1) | (refine cellsPA (Bks.ext (fin_two (hw.trans (hE.trans hF)) hB3 hz fr1.out hw.size).2.1 ?_); exact Ext.drew (Ext.refl _)))
      (first
      | (go_at_call 30; refine (paper_c a f sPol mid sc _).mono ?_; rintro e w2 ⟨rfl, hx⟩; have hE : Ext wz w2 := (by first | exact (ext1 hx.of_drew).2 | exact hx.of_drew | exact bareN hx rfl rfl rfl rfl); (first | (have hz := (ext1 hx.of_drew).1) | skip); clear kc kl; have hB2 := hB.ext hE; have fr2 := Lib.hid hB2.fresh; have kc := And.intro hB2.1.cell hB2.2.1.cell; have kl := And.intro hB2.1.lt hB2.2.1.lt)
      | (go_at_call 31; refine (HT.out.too _).mono ?_; rintro e w3 ⟨rfl, hx'⟩; have hF : Ext w2 w3 := (by first | exact bareN hx' rfl rfl rfl rfl | exact bareN (ext1 hx').2 rfl rfl rfl rfl); (first | (have hz := (ext1 hx').1) | (replace hz := hz.ext hF) | skip); have hB3 := hB2.ext hF; clear kc; (first | (have cZ := hz.cell; have fZ := hz.frozen) | skip)))
    all_goals
      have hL3 : Ext w w3 := (hw.trans hE).trans hF
      have s1 : w.heap.size ≤ wz.heap.size := hw.size
      have s2 : w.heap.size ≤ w2.heap.size := (hw.trans hE).size
      (try go_wp2_with fail)
      go_meet
      first
        | exact ⟨w3.heap.size, rfl, rfl, fin_new hL3 hB3⟩
        | exact ⟨w2.heap.size, rfl, rfl, fin_two hL3 hB3 hz fr2.out s2⟩
        | exact ⟨wz.heap.size, rfl, rfl, fin_two hL3 hB3 hz fr1.out s1⟩
  case rest =>
    clear hB hw kc kl
    obtain ⟨nb, rfl, rfl, hw, hBb, hP⟩ := hcut
    have hB : Bks wc [(w.heap.size, 69, #[Value.float .f64 a, Value.float .f64 f, Value.string sPol, Value.int .i64 mid, Value.float .f64 sc]), (w.heap.size + 1, 26, #[Value.int .i64 lon, Value.int .i64 lat]), (nb, 53, #[Value.float .f64 X, Value.float .f64 Y])] := ⟨hBb.1, hBb.2.1, hP, trivial⟩
    clear hBb hP
    have kc := And.intro hB.1.cell (And.intro hB.2.1.cell hB.2.2.1.cell)
    have kl := And.intro hB.1.lt (And.intro hB.2.1.lt hB.2.2.1.lt)
    go_wp2_with fail
    go_cut [11, 12] (fun s1 s2 wx => ∃ (nq : Nat), s1 = .nilIface ∧ s2 = .pointer (some ⟨nq, 0, none⟩) ∧ Ext w wx ∧ Bks wx [(w.heap.size, 69, #[Value.float .f64 a, Value.float .f64 f, Value.string sPol, Value.int .i64 mid, Value.float .f64 sc]), (w.heap.size + 1, 26, #[Value.int .i64 lon, Value.int .i64 lat]), (nb, 53, #[Value.float .f64 X, Value.float .f64 Y])] ∧ Blk wx nq 26 #[.int .i64 lo, .int .i64 la])
    case first =>
      have fr1 := Lib.hid hB.fresh
      go_region_held3 (fun w' => w'.cell? ⟨w.heap.size, 0, none⟩ = some (.float .f64 a) ∧ w'.cell? ⟨w.heap.size, 1, none⟩ = some (.float .f64 f) ∧ w'.cell? ⟨w.heap.size, 2, none⟩ = some (.string sPol) ∧ w'.cell? ⟨w.heap.size, 3, none⟩ = some (.int .i64 mid) ∧ w'.cell? ⟨w.heap.size, 4, none⟩ = some (.float .f64 sc) ∧ w'.cell? ⟨nb, 0, none⟩ = some (.float .f64 X) ∧ w'.cell? ⟨nb, 1, none⟩ = some (.float .f64 Y))
        (first | (refine cellsPF (Bks.ext hB3 ?_); (repeat (first | exact Ext.refl _ | refine Ext.drew ?_ | refine Ext.alloc ?_ _)); done) | (refine cellsPF (Bks.ext hB2 ?_); (repeat (first | exact Ext.refl _ | refine Ext.drew ?_ | refine Ext.alloc ?_ _)); done) | (refine cellsPF (Bks.ext hB ?_); (repeat (first | exact Ext.refl _ | refine Ext.drew ?_ | refine Ext.alloc ?_ _)); done) | (exact cellsPF (fin_two (hw.trans (hE.trans hF)) hB3 hz fr2.out (hw.trans hE).size).2.1) | (refine cellsPF (Bks.ext (fin_two (hw.trans (hE.trans hF)) hB3 hz fr2.out (hw.trans hE).size).2.1 ?_); exact Ext.drew (Ext.refl _)) | (exact cellsPF (fin_two (hw.trans (hE.trans hF)) hB3 hz fr1.out hw.size).2.1) | (refine cellsPF (Bks.ext (fin_two (hw.trans (hE.trans hF)) hB3 hz fr1.out hw.size).2.1 ?_); exact Ext.drew (Ext.refl _)))
        (first
        | (go_at_call 30; refine (paper_c a f sPol mid sc _).mono ?_; rintro e w2 ⟨rfl, hx⟩; have hE : Ext wc w2 := (by first | exact (ext1 hx.of_drew).2 | exact hx.of_drew | exact bareN hx rfl rfl rfl rfl); (first | (have hz := (ext1 hx.of_drew).1) | skip); clear kc kl; have hB2 := hB.ext hE; have fr2 := Lib.hid hB2.fresh; have kc := And.intro hB2.1.cell (And.intro hB2.2.1.cell hB2.2.2.1.cell); have kl := And.intro hB2.1.lt (And.intro hB2.2.1.lt hB2.2.2.1.lt))
        | (go_at_call 32; refine (HT.out.frm _).mono ?_; rintro e w3 ⟨rfl, hx'⟩; have hF : Ext w2 w3 := (by first | exact bareN hx' rfl rfl rfl rfl | exact bareN (ext1 hx').2 rfl rfl rfl rfl); (first | (have hz := (ext1 hx').1) | (replace hz := hz.ext hF) | skip); have hB3 := hB2.ext hF; clear kc; (first | (have cZ := hz.cell; have fZ := hz.frozen) | skip)))
      all_goals
        have hL3 : Ext w w3 := (hw.trans hE).trans hF
        have s1 : w.heap.size ≤ wc.heap.size := hw.size
        have s2 : w.heap.size ≤ w2.heap.size := (hw.trans hE).size
        (try go_wp2_with fail)
        go_meet
        first
          | exact ⟨w3.heap.size, rfl, rfl, fin_new hL3 hB3⟩
          | exact ⟨w2.heap.size, rfl, rfl, fin_two hL3 hB3 hz fr2.out s2⟩
          | exact ⟨wc.heap.size, rfl, rfl, fin_two hL3 hB3 hz fr1.out s1⟩
    case rest =>
      clear hB hw kc kl
      obtain ⟨nq, rfl, rfl, hw, hBb, hP⟩ := hcut
      have hB : Bks wc [(w.heap.size, 69, #[Value.float .f64 a, Value.float .f64 f, Value.string sPol, Value.int .i64 mid, Value.float .f64 sc]), (w.heap.size + 1, 26, #[Value.int .i64 lon, Value.int .i64 lat]), (nb, 53, #[Value.float .f64 X, Value.float .f64 Y]), (nq, 26, #[Value.int .i64 lo, Value.int .i64 la])] := ⟨hBb.1, hBb.2.1, hBb.2.2.1, hP, trivial⟩
      clear hBb hP
      have kc := And.intro hB.1.cell (And.intro hB.2.1.cell (And.intro hB.2.2.1.cell hB.2.2.2.1.cell))
      have n15 := HT.out.n150
      have HS := Lib.hid HT.out.same
      have tk1 : Hid True := trivial
      go_wp2_with (first
        | (go_at_call 27; go_must (refine (HT.out.cos _).mono ?_; rintro e w2 ⟨rfl, hx⟩; have hxx := hx; clear kc; replace hB := hB.ext hxx; replace hw := hw.trans hxx; clear hx hxx; have kc := And.intro hB.1.cell (And.intro hB.2.1.cell (And.intro hB.2.2.1.cell hB.2.2.2.1.cell))))
        | ((with_reducible refine upon_fl rfl ?_); intro r nn hr; have hmo : (FloatKind.f64.format.order (floatOfInt .f64 n2) r == some .gt) = false := HT.out.mostP rfl r hr; clear hr)
        | (go_at_call 16; clear tk1; go_must (refine (HT.out.ala _).mono ?_; rintro e w2 ⟨rfl, hx⟩; have hxx := (Ext.drewN (Ext.refl _) _).trans hx; clear kc; replace hB := hB.ext hxx; replace hw := hw.trans hxx; clear hx hxx; have kc := And.intro hB.1.cell (And.intro hB.2.1.cell (And.intro hB.2.2.1.cell hB.2.2.2.1.cell))))
        | (go_at_call 16; go_must (refine (HT.out.alo _).mono ?_; rintro e w2 ⟨rfl, hx⟩; have hxx := hx; clear kc; replace hB := hB.ext hxx; replace hw := hw.trans hxx; clear hx hxx; have kc := And.intro hB.1.cell (And.intro hB.2.1.cell (And.intro hB.2.2.1.cell hB.2.2.2.1.cell)))))
      refine wp_region_all (fun g args v => (g = 30 ∧ v = paperV a f sPol mid sc) ∨ (g = 33 ∧ v = .tuple #[.float .f64 al, .float .f64 ac, .nilIface])) (by kernel_rfl) (by kernel_rfl) ?_
      repeat (first
        | (refine wpR_op rfl (fun w9 hw9 K hK => ?_); have k1 := (hB.1.ext (bareN hw9 rfl rfl rfl rfl)).cell; have k2 := (hB.2.1.ext (bareN hw9 rfl rfl rfl rfl)).cell; go_simp; (with_reducible refine hK _ ?_); clear hK K k1 k2 hw9 w9)
        | (refine wpR_op rfl (fun w9 hw9 K hK => ?_); go_simp; (with_reducible refine rel_call (ExR.call (paper_c a f sPol mid sc _)) (fun v => ?_) (fun v hv => ?_)); (simp); subst hv; (with_reducible refine hK _ ?_); clear hK K hw9 w9)
        | (refine wpR_op rfl (fun w9 hw9 K hK => ?_); go_simp; (with_reducible refine rel_call (ExR.call (HT.out.str _)) (fun v => ?_) (fun v hv => ?_)); (simp); subst hv; (with_reducible refine hK _ ?_); clear hK K hw9 w9))
      refine wpR_nil ?_
      intro w8 hx8 _
      clear kc
      replace hw := hw.trans (bareN hx8 rfl rfl rfl rfl)
      replace hB := hB.ext (bareN hx8 rfl rfl rfl rfl)
      clear hx8
      have kc := And.intro hB.1.cell (And.intro hB.2.1.cell (And.intro hB.2.2.1.cell hB.2.2.2.1.cell))
      have tk2 : Hid True := trivial
      go_wp2_with (first
        | ((with_reducible refine upon_fl rfl ?_); intro r nn hr; (first | (have hs1 : Hid (can r = fsub (can al) (can ac)) := Lib.hid hr) | (have hs2 : Hid (can r = fmul (can c12) (can ac)) := Lib.hid hr) | (have hs3 : Hid (can r = fmul (can al) (can ac)) := Lib.hid hr) | (have hs4 := Lib.hid hr)); clear hr)
        | (go_at_call 22; clear tk2; go_must (refine (HT.out.shape (by decide) _ _ hs1.out hs2.out _).mono ?_; rintro e w2 ⟨rfl, hx⟩; have hxx := (Ext.drewN (Ext.refl _) _).trans hx; clear kc; replace hB := hB.ext hxx; replace hw := hw.trans hxx; clear hx hxx; have kc := And.intro hB.1.cell (And.intro hB.2.1.cell (And.intro hB.2.2.1.cell hB.2.2.2.1.cell))))
        | (go_at_call 22; go_must (refine (within_c _ _ _).mono ?_; rintro e wq ⟨rfl, hx⟩; generalize (fle _ _ && fge _ _) = bb; have hxx := (Ext.drewN (Ext.refl _) _).trans hx; clear kc; replace hB := hB.ext hxx; replace hw := hw.trans hxx; clear hx hxx; have kc := And.intro hB.1.cell (And.intro hB.2.1.cell (And.intro hB.2.2.1.cell hB.2.2.2.1.cell)))))
      all_goals go_ret
      all_goals exact ⟨rfl, hw⟩
end Go.Proofs.YtddjppaccpioiaaDoor
