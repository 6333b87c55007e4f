/- The walk of the statement WaveAngles. Printed by gen_wawalk.py. -/
import Derived.Test.YtcppgbhjbmfldaaDoorWT
namespace Go.Proofs.YtcppgbhjbmfldaaDoor
open Go.RowKit Go.Fp Go.Fp.Tri Go.Rel
set_option maxRecDepth 20000
/-- all that the walk is told -/
structure ToldN (a f : Nat) (mid : Int) (sc : Nat) (lon lat E tu : Int) (sq s1 c1 a1 a2 ww b1 b2 b3 b4 X0 Y0 X1 Y1 X2 Y2 nx ny rx ry n1 n2 lg r1 r2 r3 dd t2 p1 p2 p3 t1 q1 q2 q3 scl sn cn len cr e1 e2 mm f1 f2 f3 f4 g1 g2 g3 h1 h2 : Nat) : Prop where
  sqc : ∀ w, Calls Tryd.prog 15 #[globeV a f] w (ExR (.float .f64 sq) w)
  sic : ∀ w, Calls Tryd.prog 16 #[.int .i64 lat] w (ExR (.tuple #[.float .f64 s1, .float .f64 c1]) w)
  a1e : ∀ t w, (binOp .mul t (.float .f64 sq) (.float .f64 s1)).run Tryd.prog w = .ok (.float .f64 a1) w
  a2e : ∀ t w, (binOp .mul t (.float .f64 a1) (.float .f64 s1)).run Tryd.prog w = .ok (.float .f64 a2) w
  wwe : ∀ t w, (binOp .sub t (.float .f64 4607182418800017408) (.float .f64 a2)).run Tryd.prog w = .ok (.float .f64 ww) w
  b1e : ∀ t w, (binOp .sub t (.float .f64 4607182418800017408) (.float .f64 sq)).run Tryd.prog w = .ok (.float .f64 b1) w
  b2e : ∀ t w, (binOp .mul t (.float .f64 4711630319722168320) (.float .f64 b1)).run Tryd.prog w = .ok (.float .f64 b2) w
  b3e : ∀ t w, (binOp .mul t (.float .f64 ww) (.float .f64 c1)).run Tryd.prog w = .ok (.float .f64 b3) w
  b4e : ∀ t w, (binOp .quo t (.float .f64 b2) (.float .f64 b3)).run Tryd.prog w = .ok (.float .f64 b4) w
  nxe : ∀ t w, (binOp .sub t (.float .f64 X1) (.float .f64 X0)).run Tryd.prog w = .ok (.float .f64 nx) w
  nye : ∀ t w, (binOp .sub t (.float .f64 Y1) (.float .f64 Y0)).run Tryd.prog w = .ok (.float .f64 ny) w
  rxe : ∀ t w, (binOp .sub t (.float .f64 X2) (.float .f64 X0)).run Tryd.prog w = .ok (.float .f64 rx) w
  rye : ∀ t w, (binOp .sub t (.float .f64 Y2) (.float .f64 Y0)).run Tryd.prog w = .ok (.float .f64 ry) w
  n1e : ∀ t w, (binOp .mul t (.float .f64 nx) (.float .f64 nx)).run Tryd.prog w = .ok (.float .f64 n1) w
  n2e : ∀ t w, (binOp .mul t (.float .f64 ny) (.float .f64 ny)).run Tryd.prog w = .ok (.float .f64 n2) w
  lge : ∀ t w, (binOp .add t (.float .f64 n1) (.float .f64 n2)).run Tryd.prog w = .ok (.float .f64 lg) w
  r1e : ∀ t w, (binOp .mul t (.float .f64 rx) (.float .f64 rx)).run Tryd.prog w = .ok (.float .f64 r1) w
  r2e : ∀ t w, (binOp .mul t (.float .f64 ry) (.float .f64 ry)).run Tryd.prog w = .ok (.float .f64 r2) w
  r3e : ∀ t w, (binOp .add t (.float .f64 r1) (.float .f64 r2)).run Tryd.prog w = .ok (.float .f64 r3) w
  dde : ∀ t w, (binOp .sub t (.float .f64 r3) (.float .f64 lg)).run Tryd.prog w = .ok (.float .f64 dd) w
  t2e : ∀ t w, (binOp .mul t (.float .f64 4566758108544739836) (.float .f64 lg)).run Tryd.prog w = .ok (.float .f64 t2) w
  p1e : ∀ t w, (binOp .mul t (.float .f64 nx) (.float .f64 rx)).run Tryd.prog w = .ok (.float .f64 p1) w
  p2e : ∀ t w, (binOp .mul t (.float .f64 ny) (.float .f64 ry)).run Tryd.prog w = .ok (.float .f64 p2) w
  p3e : ∀ t w, (binOp .add t (.float .f64 p1) (.float .f64 p2)).run Tryd.prog w = .ok (.float .f64 p3) w
  t1e : ∀ t w, (binOp .mul t (.float .f64 4562254508917369340) (.float .f64 lg)).run Tryd.prog w = .ok (.float .f64 t1) w
  q1e : ∀ t w, (binOp .mul t (.float .f64 rx) (.float .f64 ny)).run Tryd.prog w = .ok (.float .f64 q1) w
  q2e : ∀ t w, (binOp .mul t (.float .f64 ry) (.float .f64 nx)).run Tryd.prog w = .ok (.float .f64 q2) w
  q3e : ∀ t w, (binOp .sub t (.float .f64 q1) (.float .f64 q2)).run Tryd.prog w = .ok (.float .f64 q3) w
  e1e : ∀ t w, (binOp .mul t (.float .f64 cr) (.float .f64 b1)).run Tryd.prog w = .ok (.float .f64 e1) w
  e2e : ∀ t w, (binOp .quo t (.float .f64 e1) (.float .f64 ww)).run Tryd.prog w = .ok (.float .f64 e2) w
  mme : ∀ t w, (binOp .mul t (.float .f64 e2) (.float .f64 4550571152424010128)).run Tryd.prog w = .ok (.float .f64 mm) w
  f1e : ∀ t w, (binOp .mul t (.float .f64 nx) (.float .f64 cn)).run Tryd.prog w = .ok (.float .f64 f1) w
  f2e : ∀ t w, (binOp .mul t (.float .f64 ny) (.float .f64 sn)).run Tryd.prog w = .ok (.float .f64 f2) w
  f3e : ∀ t w, (binOp .add t (.float .f64 f1) (.float .f64 f2)).run Tryd.prog w = .ok (.float .f64 f3) w
  f4e : ∀ t w, (binOp .mul t (.float .f64 4562254508917369340) (.float .f64 len)).run Tryd.prog w = .ok (.float .f64 f4) w
  g1e : ∀ t w, (binOp .mul t (.float .f64 ny) (.float .f64 cn)).run Tryd.prog w = .ok (.float .f64 g1) w
  g2e : ∀ t w, (binOp .mul t (.float .f64 nx) (.float .f64 sn)).run Tryd.prog w = .ok (.float .f64 g2) w
  g3e : ∀ t w, (binOp .sub t (.float .f64 g1) (.float .f64 g2)).run Tryd.prog w = .ok (.float .f64 g3) w
  h1e : ∀ t w, (binOp .mul t (.float .f64 scl) (.float .f64 mm)).run Tryd.prog w = .ok (.float .f64 h1) w
  h2e : ∀ t w, (binOp .sub t (.float .f64 len) (.float .f64 h1)).run Tryd.prog w = .ok (.float .f64 h2) w
  cve : ∀ w, (convert 22 3 (.float .f64 b4)).run Tryd.prog w = .ok (.int .i64 E) w
  to0 : ∀ w, Calls Tryd.prog 18 #[stripV a f mid sc, placeU lon lat] w (ExR (.tuple #[flatU X0 Y0, .nilIface]) w)
  to1 : ∀ w, Calls Tryd.prog 18 #[stripV a f mid sc, placeU lon (lat + 10000000)] w (ExR (.tuple #[flatU X1 Y1, .nilIface]) w)
  to2 : ∀ w, Calls Tryd.prog 18 #[stripV a f mid sc, placeU (normP lon + E) lat] w (ExR (.tuple #[flatU X2 Y2, .nilIface]) w)
  wl : IntKind.i64.wrap (lat + 10000000) = lat + 10000000
  we : IntKind.i64.wrap (normP lon + E) = normP lon + E
  wi1 : ∀ w, Calls Tryd.prog 20 #[.float .f64 dd, .float .f64 t2] w (ExR (.bool true) w)
  wi2 : ∀ w, Calls Tryd.prog 20 #[.float .f64 p3, .float .f64 t1] w (ExR (.bool true) w)
  wi3 : ∀ w, Calls Tryd.prog 20 #[.float .f64 f3, .float .f64 f4] w (ExR (.bool true) w)
  wi4 : ∀ w, Calls Tryd.prog 20 #[.float .f64 h2, .float .f64 f4] w (ExR (.bool true) w)
  gt1 : (FloatKind.f64.format.order q3 0 == some .gt) = true
  gt2 : (FloatKind.f64.format.order g3 0 == some .gt) = true
  trn : ∀ w, Calls Tryd.prog 21 #[stripV a f mid sc, placeU lon lat] w (ExR (.tuple #[.float .f64 scl, .int .i64 tu, .nilIface]) w)
  sct : ∀ w, Calls Tryd.prog 16 #[.int .i64 tu] w (ExR (.tuple #[.float .f64 sn, .float .f64 cn]) w)
  lnc : ∀ w, Calls Tryd.prog 11 #[.agg #[.float .f64 nx, .float .f64 ny, .float .f64 0]] w (ExR (.float .f64 len) w)
  crc : ∀ w, Calls Tryd.prog 22 #[globeV a f, .int .i64 lat] w (ExR (.float .f64 cr) w)
theorem cellsSB {w' : World} {n a f sc : Nat} {mid p q : Int} {tG tP : TypeId} {l : List (Nat × TypeId × Array Value)} (h : Bks w' ((n, tG, #[Value.float .f64 a, Value.float .f64 f, Value.int .i64 mid, Value.float .f64 sc]) :: (n + 1, tP, #[Value.int .i64 p, Value.int .i64 q]) :: l)) :
    w'.cell? ⟨n, 0, none⟩ = some (.float .f64 a) ∧ w'.cell? ⟨n, 1, none⟩ = some (.float .f64 f) ∧ w'.cell? ⟨n, 2, none⟩ = some (.int .i64 mid) ∧ w'.cell? ⟨n, 3, none⟩ = some (.float .f64 sc) ∧ w'.cell? ⟨n + 1, 0, none⟩ = some (.int .i64 p) ∧ w'.cell? ⟨n + 1, 1, none⟩ = some (.int .i64 q) :=
  ⟨h.1.cell 0, h.1.cell 1, h.1.cell 2, h.1.cell 3, h.2.1.cell 0, h.2.1.cell 1⟩
set_option maxHeartbeats 100000000 in
theorem wa_in (a f : Nat) (mid : Int) (sc : Nat) (lon lat E tu : Int) (sq s1 c1 a1 a2 ww b1 b2 b3 b4 X0 Y0 X1 Y1 X2 Y2 nx ny rx ry n1 n2 lg r1 r2 r3 dd t2 p1 p2 p3 t1 q1 q2 q3 scl sn cn len cr e1 e2 mm f1 f2 f3 f4 g1 g2 g3 h1 h2 : Nat) (w : World) (G1 : (FloatKind.f64.format.order a c6e6 == some .gt || FloatKind.f64.format.order a c6e6 == some .eq) = true) (G2 : (FloatKind.f64.format.order a c7e6 == some .lt || FloatKind.f64.format.order a c7e6 == some .eq) = true) (G3 : (FloatKind.f64.format.order f 0 == some .gt || FloatKind.f64.format.order f 0 == some .eq) = true) (G4 : (FloatKind.f64.format.order f c004 == some .lt || FloatKind.f64.format.order f c004 == some .eq) = true) (hp : strP (okG a f) sc = 0) (hl : ¬ 70000000000 < lat) (hl2 : ¬ lat < -70000000000) (hg : ¬ 6000000000 < (if apartP lon mid < 0 then -apartP lon mid else apartP lon mid))
    (told : ToldN a f mid sc lon lat E tu sq s1 c1 a1 a2 ww b1 b2 b3 b4 X0 Y0 X1 Y1 X2 Y2 nx ny rx ry n1 n2 lg r1 r2 r3 dd t2 p1 p2 p3 t1 q1 q2 q3 scl sn cn len cr e1 e2 mm f1 f2 f3 f4 g1 g2 g3 h1 h2) : Calls Tryd.prog 4 #[stripV a f mid sc, placeU lon lat] w (ExR (.bool true) w) := by
  have HT := Lib.hid told
  clear told
  have HP := Lib.hid (fun w => stripError_c a f mid sc w)
  rw [hp] at HP
  clear hp
  have HX := Lib.hid (apart_c lon mid)
  generalize (if apartP lon mid < 0 then -apartP lon mid else apartP lon mid) = g at *
  have a1e := HT.out.a1e
  have a2e := HT.out.a2e
  have wwe := HT.out.wwe
  have b1e := HT.out.b1e
  have b2e := HT.out.b2e
  have b3e := HT.out.b3e
  have b4e := HT.out.b4e
  have cve := HT.out.cve
  go_enter Tryd.func4, Tryd.ntmps4
  go_wp2_with (first
    | (go_at_call 12; go_must (refine (waved_c0 (A := fun _ => ⟨0, 0, none⟩) _ ⟨⟩).mono ?_; rintro e w1 ⟨rfl, hx⟩; obtain ⟨hb1, hb2, hw⟩ := ext2 hx; have c1 := hb1.cell; have c2 := hb2.cell; clear hx))
    | (go_at_call 13; go_must (refine (HP.out _).mono ?_; rintro e wz ⟨rfl, hx⟩; replace hb1 := hb1.ext hx; replace hb2 := hb2.ext hx; replace hw := hw.trans hx; clear hx c1 c2; have c1 := hb1.cell; have c2 := hb2.cell))
    | (go_at_call 14; go_must (refine (HX.out _).mono ?_; rintro e w2 ⟨rfl, hx⟩; replace hb1 := hb1.ext hx; replace hb2 := hb2.ext hx; replace hw := hw.trans hx; clear hx c1 c2; have c1 := hb1.cell; have c2 := hb2.cell))
    | (go_at_call 15; go_must (refine (HT.out.sqc _).mono ?_; rintro e w3 ⟨rfl, hx⟩; replace hb1 := hb1.ext hx; replace hb2 := hb2.ext hx; replace hw := hw.trans hx; clear hx c1 c2; have c1 := hb1.cell; have c2 := hb2.cell))
    | (go_at_call 16; go_must (refine (HT.out.sic _).mono ?_; rintro e wq ⟨rfl, hx⟩; replace hb1 := hb1.ext hx; replace hb2 := hb2.ext hx; replace hw := hw.trans hx; clear hx c1 c2; have c1 := hb1.cell; have c2 := hb2.cell)))
  have hB : Bks wq [(w.heap.size, 46, #[Value.float .f64 a, Value.float .f64 f, Value.int .i64 mid, Value.float .f64 sc]), (w.heap.size + 1, 26, #[Value.int .i64 lon, Value.int .i64 lat])] := ⟨hb1, hb2, trivial⟩
  clear hb1 hb2 c1 c2 HP HX hl hl2 hg G1 G2 G3 G4 a1e a2e wwe b1e b2e b3e b4e cve
  have kc := And.intro hB.1.cell (hB.2.1.cell)
  have kl := And.intro hB.1.lt (hB.2.1.lt)
  go_cut [12, 13] (fun s1 s2 wx => ∃ (nb : Nat), s1 = .pointer (some ⟨nb, 0, none⟩) ∧ s2 = .nilIface ∧ Ext w wx ∧ Bks wx [(w.heap.size, 46, #[Value.float .f64 a, Value.float .f64 f, Value.int .i64 mid, Value.float .f64 sc]), (w.heap.size + 1, 26, #[Value.int .i64 lon, Value.int .i64 lat])] ∧ Blk wx nb 53 #[.float .f64 X0, .float .f64 Y0])
  case first =>
    as_aux_lemma =>
    have fr1 := Lib.hid hB.fresh
    go_region_held3 (fun w' => w'.cell? ⟨w.heap.size, 0, none⟩ = some (.float .f64 a) ∧ w'.cell? ⟨w.heap.size, 1, none⟩ = some (.float .f64 f) ∧ w'.cell? ⟨w.heap.size, 2, none⟩ = some (.int .i64 mid) ∧ w'.cell? ⟨w.heap.size, 3, none⟩ = some (.float .f64 sc) ∧ w'.cell? ⟨w.heap.size + 1, 0, none⟩ = some (.int .i64 lon) ∧ w'.cell? ⟨w.heap.size + 1, 1, none⟩ = some (.int .i64 lat))
      (first | (refine cellsSB (Bks.ext hB3 ?_); (repeat (first | exact Ext.refl _ | refine Ext.drew ?_ | refine Ext.alloc ?_ _)); done) | (refine cellsSB (Bks.ext hB2 ?_); (repeat (first | exact Ext.refl _ | refine Ext.drew ?_ | refine Ext.alloc ?_ _)); done) | (refine cellsSB (Bks.ext hB ?_); (repeat (first | exact Ext.refl _ | refine Ext.drew ?_ | refine Ext.alloc ?_ _)); done) | (exact cellsSB (fin_two (hw.trans (hE.trans hF)) hB3 hz fr2.out (hw.trans hE).size).2.1) | (refine cellsSB (Bks.ext (fin_two (hw.trans (hE.trans hF)) hB3 hz fr2.out (hw.trans hE).size).2.1 ?_); exact Ext.drew (Ext.refl _)) | (exact cellsSB (fin_two (hw.trans (hE.trans hF)) hB3 hz fr1.out hw.size).2.1) | (refine cellsSB (Bks.ext (fin_two (hw.trans (hE.trans hF)) hB3 hz fr1.out hw.size).2.1 ?_); exact Ext.drew (Ext.refl _)))
      (first
      | (go_at_call 17; refine (strip_c a f mid sc _).mono ?_; rintro e w2 ⟨rfl, hx⟩; have hE : Ext wq w2 := (by first | exact (ext1 hx.of_drew).2 | exact hx.of_drew | exact bareN hx rfl rfl rfl rfl); (first | (have hz := (ext1 hx.of_drew).1) | skip); clear kc kl; have hB2 := hB.ext hE; have fr2 := Lib.hid hB2.fresh; have kc := And.intro hB2.1.cell (hB2.2.1.cell); have kl := And.intro hB2.1.lt (hB2.2.1.lt))
      | (go_at_call 18; refine (HT.out.to0 _).mono ?_; rintro e w3 ⟨rfl, hx'⟩; have hF : Ext w2 w3 := (by first | exact bareN hx' rfl rfl rfl rfl | exact bareN (ext1 hx').2 rfl rfl rfl rfl); (first | (have hz := (ext1 hx').1) | (replace hz := hz.ext hF) | skip); have hB3 := hB2.ext hF; clear kc; (first | (have cZ := hz.cell; have fZ := hz.frozen) | skip)))
    all_goals
      have hL3 : Ext w w3 := (hw.trans hE).trans hF
      have s1 : w.heap.size ≤ wq.heap.size := hw.size
      have s2 : w.heap.size ≤ w2.heap.size := (hw.trans hE).size
      (try go_wp2_with fail)
      go_meet
      first
        | exact ⟨w3.heap.size, rfl, rfl, fin_new hL3 hB3⟩
        | exact ⟨w2.heap.size, rfl, rfl, fin_two hL3 hB3 hz fr2.out s2⟩
        | exact ⟨wq.heap.size, rfl, rfl, fin_two hL3 hB3 hz fr1.out s1⟩
  case rest =>
    as_aux_lemma =>
    clear hB hw kc kl
    obtain ⟨n12, rfl, rfl, hw, hBb, hP⟩ := hcut
    have hB : Bks wc [(w.heap.size, 46, #[Value.float .f64 a, Value.float .f64 f, Value.int .i64 mid, Value.float .f64 sc]), (w.heap.size + 1, 26, #[Value.int .i64 lon, Value.int .i64 lat]), (n12, 53, #[Value.float .f64 X0, Value.float .f64 Y0])] := ⟨hBb.1, hBb.2.1, hP, trivial⟩
    clear hBb hP
    have kc := And.intro hB.1.cell (hB.2.1.cell)
    have kl := And.intro hB.1.lt (And.intro hB.2.1.lt (hB.2.2.1.lt))
    have wl := HT.out.wl
    have we := HT.out.we
    go_wp2_with fail
    go_cut [14, 15] (fun s1 s2 wx => ∃ (nb : Nat), s1 = .pointer (some ⟨nb, 0, none⟩) ∧ s2 = .nilIface ∧ Ext w wx ∧ Bks wx [(w.heap.size, 46, #[Value.float .f64 a, Value.float .f64 f, Value.int .i64 mid, Value.float .f64 sc]), (w.heap.size + 1, 26, #[Value.int .i64 lon, Value.int .i64 lat]), (n12, 53, #[Value.float .f64 X0, Value.float .f64 Y0])] ∧ Blk wx nb 53 #[.float .f64 X1, .float .f64 Y1])
    case first =>
      as_aux_lemma =>
      have fr1 := Lib.hid hB.fresh
      go_region_held3 (fun w' => w'.cell? ⟨w.heap.size, 0, none⟩ = some (.float .f64 a) ∧ w'.cell? ⟨w.heap.size, 1, none⟩ = some (.float .f64 f) ∧ w'.cell? ⟨w.heap.size, 2, none⟩ = some (.int .i64 mid) ∧ w'.cell? ⟨w.heap.size, 3, none⟩ = some (.float .f64 sc) ∧ w'.cell? ⟨w.heap.size + 1, 0, none⟩ = some (.int .i64 lon) ∧ w'.cell? ⟨w.heap.size + 1, 1, none⟩ = some (.int .i64 lat))
        (first | (refine cellsSB (Bks.ext hB3 ?_); (repeat (first | exact Ext.refl _ | refine Ext.drew ?_ | refine Ext.alloc ?_ _)); done) | (refine cellsSB (Bks.ext hB2 ?_); (repeat (first | exact Ext.refl _ | refine Ext.drew ?_ | refine Ext.alloc ?_ _)); done) | (refine cellsSB (Bks.ext hB ?_); (repeat (first | exact Ext.refl _ | refine Ext.drew ?_ | refine Ext.alloc ?_ _)); done) | (exact cellsSB (fin_two (hw.trans (hE.trans hF)) hB3 hz fr2.out (hw.trans hE).size).2.1) | (refine cellsSB (Bks.ext (fin_two (hw.trans (hE.trans hF)) hB3 hz fr2.out (hw.trans hE).size).2.1 ?_); exact Ext.drew (Ext.refl _)) | (exact cellsSB (fin_two (hw.trans (hE.trans hF)) hB3 hz fr1.out hw.size).2.1) | (refine cellsSB (Bks.ext (fin_two (hw.trans (hE.trans hF)) hB3 hz fr1.out hw.size).2.1 ?_); exact Ext.drew (Ext.refl _)))
        (first
        | (go_at_call 17; refine (strip_c a f mid sc _).mono ?_; rintro e w2 ⟨rfl, hx⟩; have hE : Ext wc w2 := (by first | exact (ext1 hx.of_drew).2 | exact hx.of_drew | exact bareN hx rfl rfl rfl rfl); (first | (have hz := (ext1 hx.of_drew).1) | skip); clear kc kl; have hB2 := hB.ext hE; have fr2 := Lib.hid hB2.fresh; have kc := And.intro hB2.1.cell (hB2.2.1.cell); have kl := And.intro hB2.1.lt (And.intro hB2.2.1.lt (hB2.2.2.1.lt)))
        | (go_at_call 18; refine (HT.out.to1 _).mono ?_; rintro e w3 ⟨rfl, hx'⟩; have hF : Ext w2 w3 := (by first | exact bareN hx' rfl rfl rfl rfl | exact bareN (ext1 hx').2 rfl rfl rfl rfl); (first | (have hz := (ext1 hx').1) | (replace hz := hz.ext hF) | skip); have hB3 := hB2.ext hF; clear kc; (first | (have cZ := hz.cell; have fZ := hz.frozen) | skip)))
      all_goals
        have hL3 : Ext w w3 := (hw.trans hE).trans hF
        have s1 : w.heap.size ≤ wc.heap.size := hw.size
        have s2 : w.heap.size ≤ w2.heap.size := (hw.trans hE).size
        (try go_wp2_with fail)
        go_meet
        first
          | exact ⟨w3.heap.size, rfl, rfl, fin_new hL3 hB3⟩
          | exact ⟨w2.heap.size, rfl, rfl, fin_two hL3 hB3 hz fr2.out s2⟩
          | exact ⟨wc.heap.size, rfl, rfl, fin_two hL3 hB3 hz fr1.out s1⟩
    case rest =>
      as_aux_lemma =>
      clear hB hw kc kl
      obtain ⟨n14, rfl, rfl, hw, hBb, hP⟩ := hcut
      have hB : Bks wc [(w.heap.size, 46, #[Value.float .f64 a, Value.float .f64 f, Value.int .i64 mid, Value.float .f64 sc]), (w.heap.size + 1, 26, #[Value.int .i64 lon, Value.int .i64 lat]), (n12, 53, #[Value.float .f64 X0, Value.float .f64 Y0]), (n14, 53, #[Value.float .f64 X1, Value.float .f64 Y1])] := ⟨hBb.1, hBb.2.1, hBb.2.2.1, hP, trivial⟩
      clear hBb hP
      have kc := And.intro hB.1.cell (hB.2.1.cell)
      have kl := And.intro hB.1.lt (And.intro hB.2.1.lt (And.intro hB.2.2.1.lt (hB.2.2.2.1.lt)))
      go_wp2_with fail
      go_cut [16, 17] (fun s1 s2 wx => ∃ (nb : Nat), s1 = .pointer (some ⟨nb, 0, none⟩) ∧ s2 = .nilIface ∧ Ext w wx ∧ Bks wx [(w.heap.size, 46, #[Value.float .f64 a, Value.float .f64 f, Value.int .i64 mid, Value.float .f64 sc]), (w.heap.size + 1, 26, #[Value.int .i64 lon, Value.int .i64 lat]), (n12, 53, #[Value.float .f64 X0, Value.float .f64 Y0]), (n14, 53, #[Value.float .f64 X1, Value.float .f64 Y1])] ∧ Blk wx nb 53 #[.float .f64 X2, .float .f64 Y2])
      case first =>
        as_aux_lemma =>
        have fr1 := Lib.hid hB.fresh
        go_region_held3 (fun w' => w'.cell? ⟨w.heap.size, 0, none⟩ = some (.float .f64 a) ∧ w'.cell? ⟨w.heap.size, 1, none⟩ = some (.float .f64 f) ∧ w'.cell? ⟨w.heap.size, 2, none⟩ = some (.int .i64 mid) ∧ w'.cell? ⟨w.heap.size, 3, none⟩ = some (.float .f64 sc) ∧ w'.cell? ⟨w.heap.size + 1, 0, none⟩ = some (.int .i64 lon) ∧ w'.cell? ⟨w.heap.size + 1, 1, none⟩ = some (.int .i64 lat))
          (first | (refine cellsSB (Bks.ext hB3 ?_); (repeat (first | exact Ext.refl _ | refine Ext.drew ?_ | refine Ext.alloc ?_ _)); done) | (refine cellsSB (Bks.ext hB2 ?_); (repeat (first | exact Ext.refl _ | refine Ext.drew ?_ | refine Ext.alloc ?_ _)); done) | (refine cellsSB (Bks.ext hB ?_); (repeat (first | exact Ext.refl _ | refine Ext.drew ?_ | refine Ext.alloc ?_ _)); done) | (exact cellsSB (fin_two (hw.trans (hE.trans hF)) hB3 hz fr2.out (hw.trans hE).size).2.1) | (refine cellsSB (Bks.ext (fin_two (hw.trans (hE.trans hF)) hB3 hz fr2.out (hw.trans hE).size).2.1 ?_); exact Ext.drew (Ext.refl _)) | (exact cellsSB (fin_two (hw.trans (hE.trans hF)) hB3 hz fr1.out hw.size).2.1) | (refine cellsSB (Bks.ext (fin_two (hw.trans (hE.trans hF)) hB3 hz fr1.out hw.size).2.1 ?_); exact Ext.drew (Ext.refl _)))
          (first
          | (go_at_call 17; refine (strip_c a f mid sc _).mono ?_; rintro e w2 ⟨rfl, hx⟩; have hE : Ext wc w2 := (by first | exact (ext1 hx.of_drew).2 | exact hx.of_drew | exact bareN hx rfl rfl rfl rfl); (first | (have hz := (ext1 hx.of_drew).1) | skip); clear kc kl; have hB2 := hB.ext hE; have fr2 := Lib.hid hB2.fresh; have kc := And.intro hB2.1.cell (hB2.2.1.cell); have kl := And.intro hB2.1.lt (And.intro hB2.2.1.lt (And.intro hB2.2.2.1.lt (hB2.2.2.2.1.lt))))
          | (go_at_call 19; refine (normOf_c _ _).mono ?_; rintro e w9 ⟨rfl, rfl⟩)
          | (go_at_call 18; refine (HT.out.to2 _).mono ?_; rintro e w3 ⟨rfl, hx'⟩; have hF : Ext w2 w3 := (by first | exact bareN hx' rfl rfl rfl rfl | exact bareN (ext1 hx').2 rfl rfl rfl rfl); (first | (have hz := (ext1 hx').1) | (replace hz := hz.ext hF) | skip); have hB3 := hB2.ext hF; clear kc; (first | (have cZ := hz.cell; have fZ := hz.frozen) | skip)))
        all_goals
          have hL3 : Ext w w3 := (hw.trans hE).trans hF
          have s1 : w.heap.size ≤ wc.heap.size := hw.size
          have s2 : w.heap.size ≤ w2.heap.size := (hw.trans hE).size
          (try go_wp2_with fail)
          go_meet
          first
            | exact ⟨w3.heap.size, rfl, rfl, fin_new hL3 hB3⟩
            | exact ⟨w2.heap.size, rfl, rfl, fin_two hL3 hB3 hz fr2.out s2⟩
            | exact ⟨wc.heap.size, rfl, rfl, fin_two hL3 hB3 hz fr1.out s1⟩
      case rest =>
        as_aux_lemma =>
        clear hB hw kc kl
        obtain ⟨n16, rfl, rfl, hw, hBb, hP⟩ := hcut
        have hB : Bks wc [(w.heap.size, 46, #[Value.float .f64 a, Value.float .f64 f, Value.int .i64 mid, Value.float .f64 sc]), (w.heap.size + 1, 26, #[Value.int .i64 lon, Value.int .i64 lat]), (n12, 53, #[Value.float .f64 X0, Value.float .f64 Y0]), (n14, 53, #[Value.float .f64 X1, Value.float .f64 Y1]), (n16, 53, #[Value.float .f64 X2, Value.float .f64 Y2])] := ⟨hBb.1, hBb.2.1, hBb.2.2.1, hBb.2.2.2.1, hP, trivial⟩
        clear hBb hP wl we
        have kc := And.intro hB.1.cell (And.intro hB.2.1.cell (And.intro hB.2.2.1.cell (And.intro hB.2.2.2.1.cell (hB.2.2.2.2.1.cell))))
        have kl := And.intro hB.1.lt (And.intro hB.2.1.lt (And.intro hB.2.2.1.lt (And.intro hB.2.2.2.1.lt (hB.2.2.2.2.1.lt))))
        have nxe := HT.out.nxe
        have nye := HT.out.nye
        have rxe := HT.out.rxe
        have rye := HT.out.rye
        have n1e := HT.out.n1e
        have n2e := HT.out.n2e
        have lge := HT.out.lge
        have r1e := HT.out.r1e
        have r2e := HT.out.r2e
        have r3e := HT.out.r3e
        have dde := HT.out.dde
        have t2e := HT.out.t2e
        have p1e := HT.out.p1e
        have p2e := HT.out.p2e
        have p3e := HT.out.p3e
        have t1e := HT.out.t1e
        have q1e := HT.out.q1e
        have q2e := HT.out.q2e
        have q3e := HT.out.q3e
        have gt1 := HT.out.gt1
        have tk1 : Hid True := trivial
        go_wp2_with (first
          | (go_at_call 20; clear tk1; go_must (refine (HT.out.wi1 _).mono ?_; rintro e w3 ⟨rfl, hx⟩; replace hB := hB.ext hx; replace hw := hw.trans hx; clear hx kc; have kc := And.intro hB.1.cell (And.intro hB.2.1.cell (And.intro hB.2.2.1.cell (And.intro hB.2.2.2.1.cell (hB.2.2.2.2.1.cell))))))
          | (go_at_call 20; go_must (refine (HT.out.wi2 _).mono ?_; rintro e w4 ⟨rfl, hx⟩; replace hB := hB.ext hx; replace hw := hw.trans hx; clear hx kc; have kc := And.intro hB.1.cell (And.intro hB.2.1.cell (And.intro hB.2.2.1.cell (And.intro hB.2.2.2.1.cell (hB.2.2.2.2.1.cell)))))))
        clear kc kl nxe nye rxe rye n1e n2e lge r1e r2e r3e dde t2e p1e p2e p3e t1e q1e q2e q3e gt1
        have kc := And.intro hB.1.cell (hB.2.1.cell)
        have kl := And.intro hB.1.lt (And.intro hB.2.1.lt (And.intro hB.2.2.1.lt (And.intro hB.2.2.2.1.lt (hB.2.2.2.2.1.lt))))
        go_cut [24, 25, 26] (fun s1 s2 s3 wx => s1 = .float .f64 scl ∧ s2 = .int .i64 tu ∧ s3 = .nilIface ∧ Ext w wx ∧ Bks wx [(w.heap.size, 46, #[Value.float .f64 a, Value.float .f64 f, Value.int .i64 mid, Value.float .f64 sc]), (w.heap.size + 1, 26, #[Value.int .i64 lon, Value.int .i64 lat]), (n12, 53, #[Value.float .f64 X0, Value.float .f64 Y0]), (n14, 53, #[Value.float .f64 X1, Value.float .f64 Y1]), (n16, 53, #[Value.float .f64 X2, Value.float .f64 Y2])])
        case first =>
          as_aux_lemma =>
          go_region_held3 (fun w' => w'.cell? ⟨w.heap.size, 0, none⟩ = some (.float .f64 a) ∧ w'.cell? ⟨w.heap.size, 1, none⟩ = some (.float .f64 f) ∧ w'.cell? ⟨w.heap.size, 2, none⟩ = some (.int .i64 mid) ∧ w'.cell? ⟨w.heap.size, 3, none⟩ = some (.float .f64 sc) ∧ w'.cell? ⟨w.heap.size + 1, 0, none⟩ = some (.int .i64 lon) ∧ w'.cell? ⟨w.heap.size + 1, 1, none⟩ = some (.int .i64 lat))
            (first | (refine cellsSB (Bks.ext hB3 ?_); (repeat (first | exact Ext.refl _ | refine Ext.drew ?_ | refine Ext.alloc ?_ _)); done) | (refine cellsSB (Bks.ext hB2 ?_); (repeat (first | exact Ext.refl _ | refine Ext.drew ?_ | refine Ext.alloc ?_ _)); done) | (refine cellsSB (Bks.ext hB ?_); (repeat (first | exact Ext.refl _ | refine Ext.drew ?_ | refine Ext.alloc ?_ _)); done))
            (first
            | (go_at_call 17; refine (strip_c a f mid sc _).mono ?_; rintro e w2 ⟨rfl, hx⟩; have hE : Ext w4 w2 := (by first | exact hx.of_drew | exact bareN hx rfl rfl rfl rfl); clear kc kl; have hB2 := hB.ext hE; have kc := And.intro hB2.1.cell (hB2.2.1.cell); have kl := And.intro hB2.1.lt (And.intro hB2.2.1.lt (And.intro hB2.2.2.1.lt (And.intro hB2.2.2.2.1.lt (hB2.2.2.2.2.1.lt)))))
            | (go_at_call 21; refine (HT.out.trn _).mono ?_; rintro e w3 ⟨rfl, hx'⟩; have hF : Ext w2 w3 := (by first | exact bareN hx' rfl rfl rfl rfl); have hB3 := hB2.ext hF; clear kc; have kc := And.intro hB3.1.cell (hB3.2.1.cell)))
          all_goals
            have hL3 : Ext w w3 := (hw.trans hE).trans hF
            (try go_wp2_with fail)
            go_meet
            exact ⟨rfl, rfl, rfl, by repeat (first | exact hL3 | refine Ext.drew ?_), Bks.ext hB3 (by repeat (first | exact Ext.refl _ | refine Ext.drew ?_))⟩
        case rest =>
          as_aux_lemma =>
          clear hB hw kc kl
          obtain ⟨rfl, rfl, rfl, hw, hB⟩ := hcut
          have kc := And.intro hB.1.cell (hB.2.1.cell)
          have kl := And.intro hB.1.lt (hB.2.1.lt)
          have b1e := HT.out.b1e
          have e1e := HT.out.e1e
          have e2e := HT.out.e2e
          have mme := HT.out.mme
          have f1e := HT.out.f1e
          have f2e := HT.out.f2e
          have f3e := HT.out.f3e
          have f4e := HT.out.f4e
          have g1e := HT.out.g1e
          have g2e := HT.out.g2e
          have g3e := HT.out.g3e
          have h1e := HT.out.h1e
          have h2e := HT.out.h2e
          have gt2 := HT.out.gt2
          have tk2 : Hid True := trivial
          go_wp2_with (first
            | (go_at_call 16; go_must (refine (HT.out.sct _).mono ?_; rintro e w5 ⟨rfl, hx⟩; replace hB := hB.ext hx; replace hw := hw.trans hx; clear hx kc; have kc := And.intro hB.1.cell (hB.2.1.cell)))
            | (go_at_call 11; go_must (refine (HT.out.lnc _).mono ?_; rintro e w6 ⟨rfl, hx⟩; replace hB := hB.ext hx; replace hw := hw.trans hx; clear hx kc; have kc := And.intro hB.1.cell (hB.2.1.cell)))
            | (go_at_call 22; go_must (refine (HT.out.crc _).mono ?_; rintro e w7 ⟨rfl, hx⟩; replace hB := hB.ext hx; replace hw := hw.trans hx; clear hx kc; have kc := And.intro hB.1.cell (hB.2.1.cell)))
            | (go_at_call 20; clear tk2; go_must (refine (HT.out.wi3 _).mono ?_; rintro e w8 ⟨rfl, hx⟩; replace hB := hB.ext hx; replace hw := hw.trans hx; clear hx kc; have kc := And.intro hB.1.cell (hB.2.1.cell)))
            | (go_at_call 20; go_must (refine (HT.out.wi4 _).mono ?_; rintro e w9 ⟨rfl, hx⟩; replace hB := hB.ext hx; replace hw := hw.trans hx; clear hx kc; have kc := And.intro hB.1.cell (hB.2.1.cell))))
          go_ret
          exact ⟨rfl, hw⟩
end Go.Proofs.YtcppgbhjbmfldaaDoor
