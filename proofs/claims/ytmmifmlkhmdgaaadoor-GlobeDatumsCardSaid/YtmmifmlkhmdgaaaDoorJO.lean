/- The walk of the statement GlobeDatums, where datum and vector are right. Printed by gen_datumlaw.py. -/
import Derived.Test.YtmmifmlkhmdgaaaDoorJN
namespace Go.Proofs.YtmmifmlkhmdgaaaDoor
open Go.RowKit Go.Fp Go.Rel
set_option maxRecDepth 20000

theorem okD_can {X Y Z A B C S : Nat} (h : okD X Y Z A B C S = true) : can X = X ∧ can Y = Y ∧ can Z = Z ∧ can A = A ∧ can B = B ∧ can C = C ∧ can S = S := by
  unfold okD at h
  simp only [Bool.and_eq_true] at h
  obtain ⟨⟨⟨⟨⟨⟨h1, h2⟩, h3⟩, h4⟩, h5⟩, h6⟩, h7⟩ := h
  exact ⟨(inn_vl v_1e5 v_m1e5 h1).1.can, (inn_vl v_1e5 v_m1e5 h2).1.can, (inn_vl v_1e5 v_m1e5 h3).1.can, (inn_vl v_1m3 v_m1m3 h4).1.can, (inn_vl v_1m3 v_m1m3 h5).1.can, (inn_vl v_1m3 v_m1m3 h6).1.can, (inn_vl v_1e3 v_m1e3 h7).1.can⟩
theorem okV_can {x y z : Nat} (h : okV x y z = true) : can x = x ∧ can y = y ∧ can z = z ∧ isNan x = false ∧ isNan y = false ∧ isNan z = false := by
  unfold okV at h
  simp only [Bool.and_eq_true] at h
  obtain ⟨⟨h1, h2⟩, h3⟩ := h
  have f1 := (inn_vl v_1e10 v_m1e10 h1).1
  have f2 := (inn_vl v_1e10 v_m1e10 h2).1
  have f3 := (inn_vl v_1e10 v_m1e10 h3).1
  exact ⟨f1.can, f2.can, f3.can, notNan_fin f1, notNan_fin f2, notNan_fin f3⟩
theorem inn5_fin {x : Nat} (h : inn x c1m5 m1m5 = true) : isNan x = false := notNan_fin (inn_vl v_1m5 v_m1m5 h).1
/-- there and back -/
theorem back_at {A0 : Nat → Addr} {X Y Z A B C S x y z : Nat} (hd : okD X Y Z A B C S = true) (hv : okV x y z = true) (h1 : inn x c1e8 m1e8 = true) (h2 : inn y c1e8 m1e8 = true) (h3 : inn z c1e8 m1e8 = true) (a1 a2 a3 : Nat)
    (e1 : can a1 = toX (can X) (can B) (can C) (kD (can S)) (can x) (can y) (can z)) (e2 : can a2 = toY (can Y) (can A) (can C) (kD (can S)) (can x) (can y) (can z)) (e3 : can a3 = toZ (can Z) (can A) (can B) (kD (can S)) (can x) (can y) (can z)) :
    ∃ SX SY SZ, (∀ w, World8 A0 w → Calls Tryd.prog 16 #[datV X Y Z A B C S, vecU a1 a2 a3] w (fun e w' => ∃ c1 c2 c3 e1, e = .returned (.tuple #[vecU c1 c2 c3, e1]) ∧ ErrOf A0 0 e1 ∧ can c1 = SX ∧ can c2 = SY ∧ can c3 = SZ ∧ Ext w w')) ∧
      (∀ r, can r = fbin BinOp.sub SX (can x) → ∀ w, Calls Tryd.prog 13 #[.float .f64 r, .float .f64 c1m5] w (ExR (.bool true) w)) ∧
      (∀ r, can r = fbin BinOp.sub SY (can y) → ∀ w, Calls Tryd.prog 13 #[.float .f64 r, .float .f64 c1m5] w (ExR (.bool true) w)) ∧
      (∀ r, can r = fbin BinOp.sub SZ (can z) → ∀ w, Calls Tryd.prog 13 #[.float .f64 r, .float .f64 c1m5] w (ExR (.bool true) w)) := by
  obtain ⟨k1, k2, k3, k4⟩ := datum_back hd (x := x) (y := y) (z := z) (by unfold nearV8; rw [h1, h2, h3]; rfl)
  obtain ⟨cX, cY, cZ, cA, cB, cC, cS⟩ := okD_can hd
  obtain ⟨cx, cy, cz, _, _, _⟩ := okV_can hv
  obtain ⟨_, _, _, n1, n2, n3⟩ := okV_can k1
  rw [cX, cB, cC, cS, cx, cy, cz] at e1
  rw [cY, cA, cC, cS, cx, cy, cz] at e2
  rw [cZ, cA, cB, cS, cx, cy, cz] at e3
  obtain rfl := of_can e1 n1
  obtain rfl := of_can e2 n2
  obtain rfl := of_can e3 n3
  refine ⟨_, _, _, fun w h8 => VeE.at (A0 := A0) (dfrom_ok X Y Z A B C S _ _ _ w h8 hd k1), ?_, ?_, ?_⟩
  · intro r hr w
    rw [cA, cB, cC, cx] at hr
    have := of_can hr (inn5_fin k2)
    have hl := lwithin_c r c1m5 m1m5 neg_1m5 w
    rw [this] at hl ⊢
    rw [show inn (fbin BinOp.sub _ _) c1m5 m1m5 = true from k2] at hl
    exact hl
  · intro r hr w
    rw [cA, cB, cC, cy] at hr
    have := of_can hr (inn5_fin k3)
    have hl := lwithin_c r c1m5 m1m5 neg_1m5 w
    rw [this] at hl ⊢
    rw [show inn (fbin BinOp.sub _ _) c1m5 m1m5 = true from k3] at hl
    exact hl
  · intro r hr w
    rw [cA, cB, cC, cz] at hr
    have := of_can hr (inn5_fin k4)
    have hl := lwithin_c r c1m5 m1m5 neg_1m5 w
    rw [this] at hl ⊢
    rw [show inn (fbin BinOp.sub _ _) c1m5 m1m5 = true from k4] at hl
    exact hl

set_option maxHeartbeats 32000000 in
theorem datums_ok {A0 : Nat → Addr} (X Y Z A B C S x y z : Nat) (w : World) (h8 : World8 A0 w) (hd : okD X Y Z A B C S = true) (hv : okV x y z = true) :
    Calls Tryd.prog 4 #[datV X Y Z A B C S, vecU x y z] w (ExR (.bool true) w) := by
  have HT := Lib.hid (fun (w : World) (h8 : World8 A0 w) => VeE.at (A0 := A0) (dto_ok X Y Z A B C S x y z w h8 hd hv))
  have HF := Lib.hid (fun (w : World) (h8 : World8 A0 w) => VeE.at (A0 := A0) (dfrom_ok X Y Z A B C S x y z w h8 hd hv))
  have HV0 := fun (w : World) (h8 : World8 A0 w) => dvalid_c (A0 := A0) X Y Z A B C S w h8
  have HE0 := fun (w : World) => datumError_c X Y Z A B C S w
  have HR0 := fun (w : World) => far_c x y z w
  have HBK := Lib.hid (back_at (A0 := A0) (X := X) (Y := Y) (Z := Z) (A := A) (B := B) (C := C) (S := S) (x := x) (y := y) (z := z) hd hv)
  have HTO := Lib.hid (fun (w : World) => toOther_c X Y Z A B C S x y z w)
  have HFO0 := fun (w : World) => fromOther_c X Y Z A B C S x y z w
  obtain ⟨cX, cY, cZ, _, _, _, cS⟩ := okD_can hd
  obtain ⟨cx, cy, cz, _, _, _⟩ := okV_can hv
  rw [hd] at HV0 HE0
  rw [hv] at HR0
  rw [cX, cY, cZ, cS, cx, cy, cz] at HFO0
  simp only [show dK true = 0 from rfl, Bool.not_true] at HV0 HE0 HR0
  have HV := Lib.hid HV0
  have HE := Lib.hid HE0
  have HFar := Lib.hid HR0
  have HFO := Lib.hid HFO0
  have HX := Lib.hid (fun (w : World) => lwithin_c x c1e8 m1e8 neg_1e8 w)
  have HY := Lib.hid (fun (w : World) => lwithin_c y c1e8 m1e8 neg_1e8 w)
  have HZ := Lib.hid (fun (w : World) => lwithin_c z c1e8 m1e8 neg_1e8 w)
  have H8 := Lib.hid h8
  clear HV0 HE0 HR0 HFO0 h8 hd hv cX cY cZ cS cx cy cz
  generalize toX (can X) (can B) (can C) (kD (can S)) (can x) (can y) (can z) = PX at *
  generalize toY (can Y) (can A) (can C) (kD (can S)) (can x) (can y) (can z) = PY at *
  generalize toZ (can Z) (can A) (can B) (kD (can S)) (can x) (can y) (can z) = PZ at *
  generalize frX (can A) (can B) (can C) (coD x X (kD S)) (coD y Y (kD S)) (coD z Z (kD S)) = QX at *
  generalize frY (can A) (can B) (can C) (coD x X (kD S)) (coD y Y (kD S)) (coD z Z (kD S)) = QY at *
  generalize frZ (can A) (can B) (can C) (coD x X (kD S)) (coD y Y (kD S)) (coD z Z (kD S)) = QZ at *
  generalize inn x c1e8 m1e8 = bx at *
  generalize inn y c1e8 m1e8 = by' at *
  generalize inn z c1e8 m1e8 = bz at *
  obtain ⟨n1, n2, n3, n4⟩ := datum_num
  have H0 : Hid (∀ w, World8 A0 w → Calls Tryd.prog 14 #[datV cFive 0 0 0 0 0 0, vecU cOne 0 0] w (fun e w' => ∃ b2 b3, e = .returned (.tuple #[vecU cSix b2 b3, .nilIface]) ∧ Ext w w')) := Lib.hid (fun w h8 => (dto_ok (A0 := A0) cFive 0 0 0 0 0 0 cOne 0 0 w h8 n1 n2).mono (fun _ _ ⟨a, b, c, he, ha, _, _, hx⟩ => ⟨b, c, by rw [he, of_can (ha.trans n3) n4], hx⟩))
  have q6 : FloatKind.f64.format.order cSix cSix = some .eq := by kernel_rfl
  clear n1 n2 n3 n4
  go_enter Tryd.func4, Tryd.ntmps4
  go_wp2_with (first
    | (go_at_call 14; go_must (refine (H0.out _ (H8.out.ext (by repeat (first | exact Ext.refl _ | refine Ext.alloc ?_ _)))).mono ?_; rintro e w1 ⟨b2, b3, rfl, hx⟩; obtain ⟨hb1, hb2, hw⟩ := ext2 hx; clear hx)))
  obtain ⟨wa, hwa⟩ : ∃ wa, wa = w1.alloc (.cells #[.float .f64 cSix, .float .f64 b2, .float .f64 b3] 29) := ⟨_, rfl⟩
  have e1 : Ext w1 wa := by rw [hwa]; exact (Ext.refl _).alloc _
  have hz : Blk wa w1.heap.size 29 #[.float .f64 cSix, .float .f64 b2, .float .f64 b3] := by rw [hwa]; exact Blk.new _ _ _
  rw [← hwa]
  obtain ⟨nx, hnx⟩ : ∃ nx, nx = w1.heap.size := ⟨_, rfl⟩
  have fr1 : Hid (∀ pp ∈ ([(w.heap.size, 43, #[Value.float .f64 X, Value.float .f64 Y, Value.float .f64 Z, Value.float .f64 A, Value.float .f64 B, Value.float .f64 C, Value.float .f64 S]), (w.heap.size + 1, 29, #[Value.float .f64 x, Value.float .f64 y, Value.float .f64 z])] : List (Nat × TypeId × Array Value)), pp.1 < nx) := Lib.hid (by rw [hnx]; exact Bks.fresh (w := w1) ⟨hb1, hb2, trivial⟩)
  have sx : w.heap.size ≤ nx := by rw [hnx]; exact hw.size
  rw [← hnx] at hz ⊢
  have hB : Bks wa [(w.heap.size, 43, #[Value.float .f64 X, Value.float .f64 Y, Value.float .f64 Z, Value.float .f64 A, Value.float .f64 B, Value.float .f64 C, Value.float .f64 S]), (w.heap.size + 1, 29, #[Value.float .f64 x, Value.float .f64 y, Value.float .f64 z])] := ⟨hb1.ext e1, hb2.ext e1, trivial⟩
  replace hw := hw.trans e1
  clear hb1 hb2 hwa e1 q6 hnx
  have kc := And.intro hB.1.cell hB.2.1.cell
  have kl := And.intro hB.1.lt hB.2.1.lt
  have cz := hz.cell
  have fz := hz.frozen
  go_cut [6] (fun s6 wx => ∃ (a1 a2 a3 : Nat) (e1 : Value), s6 = e1 ∧ ErrOf A0 (0 : Int) e1 ∧ can a1 = PX ∧ can a2 = PY ∧ can a3 = PZ ∧ Ext w wx ∧ Bks wx [(w.heap.size, 43, #[Value.float .f64 X, Value.float .f64 Y, Value.float .f64 Z, Value.float .f64 A, Value.float .f64 B, Value.float .f64 C, Value.float .f64 S]), (w.heap.size + 1, 29, #[Value.float .f64 x, Value.float .f64 y, Value.float .f64 z]), (nx, 29, #[Value.float .f64 a1, Value.float .f64 a2, Value.float .f64 a3])])
  case first =>
    clear cz fz
    go_region_held3 (fun w' => w'.cell? ⟨w.heap.size, 0, none⟩ = some (.float .f64 X) ∧ w'.cell? ⟨w.heap.size, 1, none⟩ = some (.float .f64 Y) ∧ w'.cell? ⟨w.heap.size, 2, none⟩ = some (.float .f64 Z) ∧ w'.cell? ⟨w.heap.size, 3, none⟩ = some (.float .f64 A) ∧ w'.cell? ⟨w.heap.size, 4, none⟩ = some (.float .f64 B) ∧ w'.cell? ⟨w.heap.size, 5, none⟩ = some (.float .f64 C) ∧ w'.cell? ⟨w.heap.size, 6, none⟩ = some (.float .f64 S) ∧ w'.cell? ⟨w.heap.size + 1, 0, none⟩ = some (.float .f64 x) ∧ w'.cell? ⟨w.heap.size + 1, 1, none⟩ = some (.float .f64 y) ∧ w'.cell? ⟨w.heap.size + 1, 2, none⟩ = some (.float .f64 z))
      (first | (refine cells2 (Bks.ext hB3 ?_); (repeat (first | exact Ext.refl _ | refine Ext.drew ?_ | refine Ext.alloc ?_ _)); done) | (refine cells2 (Bks.ext hB2 ?_); (repeat (first | exact Ext.refl _ | refine Ext.drew ?_ | refine Ext.alloc ?_ _)); done) | (refine cells2 (Bks.ext hB ?_); (repeat (first | exact Ext.refl _ | refine Ext.drew ?_ | refine Ext.alloc ?_ _)); done) | (exact cells2 (fin_three (hw.trans (hE.trans hF)) hB3 hz fr1.out sx).2.1) | (refine cells2 (Bks.ext (fin_three (hw.trans (hE.trans hF)) hB3 hz fr1.out sx).2.1 ?_); exact Ext.drew (Ext.refl _)))
      (first
      | (go_at_call 15; refine (datum_c X Y Z A B C S _).mono ?_; rintro e w2 ⟨rfl, hx⟩; have hE : Ext wa w2 := (by first | exact hx.of_drew | exact bareN hx rfl rfl rfl rfl); clear kc kl; have hB2 := hB.ext hE; replace hz := hz.ext hE; have kc := And.intro hB2.1.cell hB2.2.1.cell; have kl := And.intro hB2.1.lt hB2.2.1.lt)
      | (go_at_call 14; (refine (HT.out w2 (H8.out.ext (hw.trans hE))).mono ?_; rintro e w3 ⟨c1, c2, c3, v2, rfl, hv2, hc1, hc2, hc3, hx'⟩; have hF : Ext w2 w3 := bareN hx' rfl rfl rfl rfl; replace hz := hz.ext hF; have hB3 := hB2.ext hF; clear kc; have cZ := hz.cell; have fZ := hz.frozen)))
    all_goals
      have hL3 : Ext w w3 := (hw.trans hE).trans hF
      (try go_wp2_with fail)
      go_meet
      exact ⟨c1, c2, c3, _, rfl, hv2, hc1, hc2, hc3, (fin_three hL3 hB3 hz fr1.out sx).1, (fin_three hL3 hB3 hz fr1.out sx).2.1.1, (fin_three hL3 hB3 hz fr1.out sx).2.1.2.1, (fin_three hL3 hB3 hz fr1.out sx).2.2, trivial⟩
  case rest =>
    clear hB hw kc kl cz fz hz fr1 sx
    obtain ⟨a1, a2, a3, e1, rfl, hv1, ha1, ha2, ha3, hw, hB⟩ := hcut
    have HA := Lib.hid (And.intro ha1 (And.intro ha2 ha3))
    clear ha1 ha2 ha3
    have kc := And.intro hB.1.cell (And.intro hB.2.1.cell hB.2.2.1.cell)
    have kl := And.intro hB.1.lt (And.intro hB.2.1.lt hB.2.2.1.lt)
    go_wp2_with fail
    go_cut [7, 8] (fun s1 s2 wx => ∃ (ny b1 b2 b3 : Nat) (e2 : Value), s1 = .pointer (some ⟨ny, 0, none⟩) ∧ s2 = e2 ∧ ErrOf A0 (0 : Int) e2 ∧ can b1 = QX ∧ can b2 = QY ∧ can b3 = QZ ∧ Ext w wx ∧ Bks wx [(w.heap.size, 43, #[Value.float .f64 X, Value.float .f64 Y, Value.float .f64 Z, Value.float .f64 A, Value.float .f64 B, Value.float .f64 C, Value.float .f64 S]), (w.heap.size + 1, 29, #[Value.float .f64 x, Value.float .f64 y, Value.float .f64 z]), (nx, 29, #[Value.float .f64 a1, Value.float .f64 a2, Value.float .f64 a3])] ∧ Blk wx ny 29 #[.float .f64 b1, .float .f64 b2, .float .f64 b3])
    case first =>
      have fr1 := Lib.hid hB.fresh
      go_region_held3 (fun w' => w'.cell? ⟨w.heap.size, 0, none⟩ = some (.float .f64 X) ∧ w'.cell? ⟨w.heap.size, 1, none⟩ = some (.float .f64 Y) ∧ w'.cell? ⟨w.heap.size, 2, none⟩ = some (.float .f64 Z) ∧ w'.cell? ⟨w.heap.size, 3, none⟩ = some (.float .f64 A) ∧ w'.cell? ⟨w.heap.size, 4, none⟩ = some (.float .f64 B) ∧ w'.cell? ⟨w.heap.size, 5, none⟩ = some (.float .f64 C) ∧ w'.cell? ⟨w.heap.size, 6, none⟩ = some (.float .f64 S) ∧ w'.cell? ⟨w.heap.size + 1, 0, none⟩ = some (.float .f64 x) ∧ w'.cell? ⟨w.heap.size + 1, 1, none⟩ = some (.float .f64 y) ∧ w'.cell? ⟨w.heap.size + 1, 2, none⟩ = some (.float .f64 z) ∧ w'.cell? ⟨nx, 0, none⟩ = some (.float .f64 a1) ∧ w'.cell? ⟨nx, 1, none⟩ = some (.float .f64 a2) ∧ w'.cell? ⟨nx, 2, none⟩ = some (.float .f64 a3))
        (first | (refine cells3 (Bks.ext hB3 ?_); (repeat (first | exact Ext.refl _ | refine Ext.drew ?_ | refine Ext.alloc ?_ _)); done) | (refine cells3 (Bks.ext hB2 ?_); (repeat (first | exact Ext.refl _ | refine Ext.drew ?_ | refine Ext.alloc ?_ _)); done) | (refine cells3 (Bks.ext hB ?_); (repeat (first | exact Ext.refl _ | refine Ext.drew ?_ | refine Ext.alloc ?_ _)); done) | (exact cells3 (fin_three (hw.trans (hE.trans hF)) hB3 hz fr2.out (hw.trans hE).size).2.1) | (refine cells3 (Bks.ext (fin_three (hw.trans (hE.trans hF)) hB3 hz fr2.out (hw.trans hE).size).2.1 ?_); exact Ext.drew (Ext.refl _)) | (exact cells3 (fin_three (hw.trans (hE.trans hF)) hB3 hz fr1.out hw.size).2.1) | (refine cells3 (Bks.ext (fin_three (hw.trans (hE.trans hF)) hB3 hz fr1.out hw.size).2.1 ?_); exact Ext.drew (Ext.refl _)))
        (first
        | (go_at_call 15; refine (datum_c X Y Z A B C S _).mono ?_; rintro e w2 ⟨rfl, hx⟩; have hE : Ext wc w2 := (by first | exact (ext1 hx.of_drew).2 | exact hx.of_drew | exact bareN hx rfl rfl rfl rfl); (first | (have hz := (ext1 hx.of_drew).1) | skip); clear kc kl; have hB2 := hB.ext hE; have fr2 := Lib.hid hB2.fresh; have kc := And.intro hB2.1.cell (And.intro hB2.2.1.cell hB2.2.2.1.cell); have kl := And.intro hB2.1.lt (And.intro hB2.2.1.lt hB2.2.2.1.lt))
        | (go_at_call 16; ((first | (refine (HF.out w2 (H8.out.ext (hw.trans hE))).mono ?_) | (refine (HF.out _ (H8.out.ext ((hw.trans hE).alloc _))).mono ?_)); rintro e w3 ⟨c1, c2, c3, v2, rfl, hv2, hc1, hc2, hc3, hx'⟩; have hF : Ext w2 w3 := (by first | exact bareN hx' rfl rfl rfl rfl | exact bareN (ext1 hx').2 rfl rfl rfl rfl); (first | (have hz := (ext1 hx').1) | (replace hz := hz.ext hF) | skip); have hB3 := hB2.ext hF; clear kc; (first | (have cZ := hz.cell; have fZ := hz.frozen) | skip))))
      all_goals
        have hL3 : Ext w w3 := (hw.trans hE).trans hF
        have s1 : w.heap.size ≤ wc.heap.size := hw.size
        have s2 : w.heap.size ≤ w2.heap.size := (hw.trans hE).size
        (try go_wp2_with fail)
        go_meet
        first
          | exact ⟨w3.heap.size, c1, c2, c3, _, rfl, rfl, hv2, hc1, hc2, hc3, fin_new hL3 hB3⟩
          | exact ⟨w2.heap.size, c1, c2, c3, _, rfl, rfl, hv2, hc1, hc2, hc3, fin_three hL3 hB3 hz fr2.out s2⟩
          | exact ⟨wc.heap.size, c1, c2, c3, _, rfl, rfl, hv2, hc1, hc2, hc3, fin_three hL3 hB3 hz fr1.out s1⟩
    case rest =>
      clear hB hw kc kl
      obtain ⟨ny, b1, b2, b3, e2, rfl, rfl, hv2, hb1', hb2', hb3', hw, hB, hP⟩ := hcut
      have HB := Lib.hid (And.intro hb1' (And.intro hb2' hb3'))
      clear hb1' hb2' hb3'
      have kc := And.intro hB.1.cell (And.intro hB.2.1.cell (And.intro hB.2.2.1.cell hP.cell))
      go_wp2_with (first
        | (go_at_call 17; go_must (refine (HE.out _).mono ?_; rintro e wb ⟨rfl, hx⟩; clear kc; replace hB := hB.ext (bareN hx rfl rfl rfl rfl); replace hP := hP.ext (bareN hx rfl rfl rfl rfl); replace hw := hw.trans (bareN hx rfl rfl rfl rfl); clear hx; have kc := And.intro hB.1.cell (And.intro hB.2.1.cell (And.intro hB.2.2.1.cell hP.cell))))
        | (go_at_call 15; go_must (refine (datum_c X Y Z A B C S _).mono ?_; rintro e wb ⟨rfl, hx⟩; clear kc; replace hB := hB.ext (bareN hx rfl rfl rfl rfl); replace hP := hP.ext (bareN hx rfl rfl rfl rfl); replace hw := hw.trans (bareN hx rfl rfl rfl rfl); clear hx; have kc := And.intro hB.1.cell (And.intro hB.2.1.cell (And.intro hB.2.2.1.cell hP.cell))))
        | (go_at_call 19; go_must (refine (HV.out _ (H8.out.ext hw)).mono ?_; rintro e wb ⟨v3, rfl, hv3, hx⟩; clear kc; replace hB := hB.ext (bareN hx rfl rfl rfl rfl); replace hP := hP.ext (bareN hx rfl rfl rfl rfl); replace hw := hw.trans (bareN hx rfl rfl rfl rfl); clear hx; have kc := And.intro hB.1.cell (And.intro hB.2.1.cell (And.intro hB.2.2.1.cell hP.cell))))
        | (go_at_call 20; go_must (refine (HFar.out _).mono ?_; rintro e wb ⟨rfl, hx⟩; clear kc; replace hB := hB.ext (bareN hx rfl rfl rfl rfl); replace hP := hP.ext (bareN hx rfl rfl rfl rfl); replace hw := hw.trans (bareN hx rfl rfl rfl rfl); clear hx; have kc := And.intro hB.1.cell (And.intro hB.2.1.cell (And.intro hB.2.2.1.cell hP.cell))))
        | (go_at_call 18; (first | (with_reducible refine (coded_c (H8.out.ext hw) hv3 0).mono ?_) | (with_reducible refine (coded_c (H8.out.ext hw) hv1 0).mono ?_) | (with_reducible refine (coded_c (H8.out.ext hw) hv2 0).mono ?_)); go_must (rintro e wb ⟨rfl, hx⟩; simp only [decide_true]; clear kc; replace hB := hB.ext (bareN hx rfl rfl rfl rfl); replace hP := hP.ext (bareN hx rfl rfl rfl rfl); replace hw := hw.trans (bareN hx rfl rfl rfl rfl); clear hx; have kc := And.intro hB.1.cell (And.intro hB.2.1.cell (And.intro hB.2.2.1.cell hP.cell)))))
      clear kc
      refine wp_region_all (fun g args v => (g = 22 ∧ isV3 PX PY PZ v) ∨ (g = 21 ∧ v = .bool true)) (by kernel_rfl) (by kernel_rfl) ?_
      repeat (first
        | (refine wpR_op rfl (fun w9 hw9 K hK => ?_); have kb := hB.ext (bareN hw9 rfl rfl rfl rfl); have kd := And.intro kb.1.cell (And.intro kb.2.1.cell (And.intro kb.2.2.1.cell (hP.ext (bareN hw9 rfl rfl rfl rfl)).cell)); clear kb; go_simp; refine hK _ ?_; clear hK K kd hw9 w9)
        | (refine wpR_op rfl (fun w9 hw9 K hK => ?_); go_simp; refine rel_call (VeR.call (HTO.out _)) (fun v => ?_) (fun v hv => ?_); (simp); obtain ⟨o1, o2, o3, rfl, ho1, ho2, ho3⟩ := hv; refine hK _ ?_; clear hK K hw9 w9)
        | (refine wpR_op rfl (fun w9 hw9 K hK => ?_); go_simp; refine rel_call (ExR.call (sameVec_c a1 a2 a3 o1 o2 o3 _ (HA.out.1.trans ho1.symm) (HA.out.2.1.trans ho2.symm) (HA.out.2.2.trans ho3.symm))) (fun v => ?_) (fun v hv => ?_); (simp); subst hv; refine hK _ ?_; clear hK K hw9 w9))
      refine wpR_nil ?_
      intro wb hx8 _
      replace hw := hw.trans (bareN hx8 rfl rfl rfl rfl)
      replace hB := hB.ext (bareN hx8 rfl rfl rfl rfl)
      replace hP := hP.ext (bareN hx8 rfl rfl rfl rfl)
      clear hx8
      have kc := And.intro hB.1.cell (And.intro hB.2.1.cell (And.intro hB.2.2.1.cell hP.cell))
      go_wp2_with fail
      clear kc
      refine wp_region_all (fun g args v => (g = 23 ∧ isV3 QX QY QZ v) ∨ (g = 21 ∧ v = .bool true)) (by kernel_rfl) (by kernel_rfl) ?_
      repeat (first
        | (refine wpR_op rfl (fun w9 hw9 K hK => ?_); have kb := hB.ext (bareN hw9 rfl rfl rfl rfl); have kd := And.intro kb.1.cell (And.intro kb.2.1.cell (And.intro kb.2.2.1.cell (hP.ext (bareN hw9 rfl rfl rfl rfl)).cell)); clear kb; go_simp; refine hK _ ?_; clear hK K kd hw9 w9)
        | (refine wpR_op rfl (fun w9 hw9 K hK => ?_); go_simp; refine rel_call (VeR.call (HFO.out _)) (fun v => ?_) (fun v hv => ?_); (simp); obtain ⟨q1, q2, q3, rfl, hq1, hq2, hq3⟩ := hv; refine hK _ ?_; clear hK K hw9 w9)
        | (refine wpR_op rfl (fun w9 hw9 K hK => ?_); go_simp; refine rel_call (ExR.call (sameVec_c b1 b2 b3 q1 q2 q3 _ (HB.out.1.trans hq1.symm) (HB.out.2.1.trans hq2.symm) (HB.out.2.2.trans hq3.symm))) (fun v => ?_) (fun v hv => ?_); (simp); subst hv; refine hK _ ?_; clear hK K hw9 w9))
      refine wpR_nil ?_
      intro wb hx8 _
      replace hw := hw.trans (bareN hx8 rfl rfl rfl rfl)
      replace hB := hB.ext (bareN hx8 rfl rfl rfl rfl)
      replace hP := hP.ext (bareN hx8 rfl rfl rfl rfl)
      clear hx8
      have kc := And.intro hB.1.cell (And.intro hB.2.1.cell (And.intro hB.2.2.1.cell hP.cell))
      cases bx
      case false =>
        go_wp2_with (first
          | (go_at_call 13; (first | (with_reducible refine (HX.out _).mono ?_) | (with_reducible refine (HY.out _).mono ?_) | (with_reducible refine (HZ.out _).mono ?_)); go_must (rintro e wb ⟨rfl, hx⟩; clear kc; replace hB := hB.ext (bareN hx rfl rfl rfl rfl); replace hP := hP.ext (bareN hx rfl rfl rfl rfl); replace hw := hw.trans (bareN hx rfl rfl rfl rfl); clear hx; have kc := And.intro hB.1.cell (And.intro hB.2.1.cell (And.intro hB.2.2.1.cell hP.cell)))))
        go_ret
        exact ⟨rfl, hw⟩
      case true =>
        cases by'
        case false =>
          go_wp2_with (first
            | (go_at_call 13; (first | (with_reducible refine (HX.out _).mono ?_) | (with_reducible refine (HY.out _).mono ?_) | (with_reducible refine (HZ.out _).mono ?_)); go_must (rintro e wb ⟨rfl, hx⟩; clear kc; replace hB := hB.ext (bareN hx rfl rfl rfl rfl); replace hP := hP.ext (bareN hx rfl rfl rfl rfl); replace hw := hw.trans (bareN hx rfl rfl rfl rfl); clear hx; have kc := And.intro hB.1.cell (And.intro hB.2.1.cell (And.intro hB.2.2.1.cell hP.cell)))))
          go_ret
          exact ⟨rfl, hw⟩
        case true =>
          cases bz
          case false =>
            go_wp2_with (first
              | (go_at_call 13; (first | (with_reducible refine (HX.out _).mono ?_) | (with_reducible refine (HY.out _).mono ?_) | (with_reducible refine (HZ.out _).mono ?_)); go_must (rintro e wb ⟨rfl, hx⟩; clear kc; replace hB := hB.ext (bareN hx rfl rfl rfl rfl); replace hP := hP.ext (bareN hx rfl rfl rfl rfl); replace hw := hw.trans (bareN hx rfl rfl rfl rfl); clear hx; have kc := And.intro hB.1.cell (And.intro hB.2.1.cell (And.intro hB.2.2.1.cell hP.cell)))))
            go_ret
            exact ⟨rfl, hw⟩
          case true =>
            go_wp2_with (first
              | (go_at_call 13; (first | (with_reducible refine (HX.out _).mono ?_) | (with_reducible refine (HY.out _).mono ?_) | (with_reducible refine (HZ.out _).mono ?_)); go_must (rintro e wb ⟨rfl, hx⟩; clear kc; replace hB := hB.ext (bareN hx rfl rfl rfl rfl); replace hP := hP.ext (bareN hx rfl rfl rfl rfl); replace hw := hw.trans (bareN hx rfl rfl rfl rfl); clear hx; have kc := And.intro hB.1.cell (And.intro hB.2.1.cell (And.intro hB.2.2.1.cell hP.cell)))))
            obtain ⟨SX, SY, SZ, g1, g2, g3, g4⟩ := HBK.out (by simp) (by simp) (by simp) a1 a2 a3 HA.out.1 HA.out.2.1 HA.out.2.2
            have HG := Lib.hid g1
            have W1 := Lib.hid g2
            have W2 := Lib.hid g3
            have W3 := Lib.hid g4
            clear g1 g2 g3 g4 HBK HX HY HZ
            clear kc hv1 hv2
            have kc := And.intro hB.1.cell (And.intro hB.2.1.cell hB.2.2.1.cell)
            have kl := And.intro hB.1.lt (And.intro hB.2.1.lt hB.2.2.1.lt)
            go_cut [19, 6] (fun s1 s2 wx => ∃ (nw d1 d2 d3 : Nat) (e3 : Value), s1 = .pointer (some ⟨nw, 0, none⟩) ∧ s2 = e3 ∧ ErrOf A0 (0 : Int) e3 ∧ can d1 = SX ∧ can d2 = SY ∧ can d3 = SZ ∧ Ext w wx ∧ Bks wx [(w.heap.size, 43, #[Value.float .f64 X, Value.float .f64 Y, Value.float .f64 Z, Value.float .f64 A, Value.float .f64 B, Value.float .f64 C, Value.float .f64 S]), (w.heap.size + 1, 29, #[Value.float .f64 x, Value.float .f64 y, Value.float .f64 z]), (nx, 29, #[Value.float .f64 a1, Value.float .f64 a2, Value.float .f64 a3])] ∧ Blk wx nw 29 #[.float .f64 d1, .float .f64 d2, .float .f64 d3])
            case first =>
              have fr1 := Lib.hid hB.fresh
              go_region_held3 (fun w' => w'.cell? ⟨w.heap.size, 0, none⟩ = some (.float .f64 X) ∧ w'.cell? ⟨w.heap.size, 1, none⟩ = some (.float .f64 Y) ∧ w'.cell? ⟨w.heap.size, 2, none⟩ = some (.float .f64 Z) ∧ w'.cell? ⟨w.heap.size, 3, none⟩ = some (.float .f64 A) ∧ w'.cell? ⟨w.heap.size, 4, none⟩ = some (.float .f64 B) ∧ w'.cell? ⟨w.heap.size, 5, none⟩ = some (.float .f64 C) ∧ w'.cell? ⟨w.heap.size, 6, none⟩ = some (.float .f64 S) ∧ w'.cell? ⟨w.heap.size + 1, 0, none⟩ = some (.float .f64 x) ∧ w'.cell? ⟨w.heap.size + 1, 1, none⟩ = some (.float .f64 y) ∧ w'.cell? ⟨w.heap.size + 1, 2, none⟩ = some (.float .f64 z) ∧ w'.cell? ⟨nx, 0, none⟩ = some (.float .f64 a1) ∧ w'.cell? ⟨nx, 1, none⟩ = some (.float .f64 a2) ∧ w'.cell? ⟨nx, 2, none⟩ = some (.float .f64 a3))
                (first | (refine cells3 (Bks.ext hB3 ?_); (repeat (first | exact Ext.refl _ | refine Ext.drew ?_ | refine Ext.alloc ?_ _)); done) | (refine cells3 (Bks.ext hB2 ?_); (repeat (first | exact Ext.refl _ | refine Ext.drew ?_ | refine Ext.alloc ?_ _)); done) | (refine cells3 (Bks.ext hB ?_); (repeat (first | exact Ext.refl _ | refine Ext.drew ?_ | refine Ext.alloc ?_ _)); done) | (exact cells3 (fin_three (hw.trans (hE.trans hF)) hB3 hz fr2.out (hw.trans hE).size).2.1) | (refine cells3 (Bks.ext (fin_three (hw.trans (hE.trans hF)) hB3 hz fr2.out (hw.trans hE).size).2.1 ?_); exact Ext.drew (Ext.refl _)) | (exact cells3 (fin_three (hw.trans (hE.trans hF)) hB3 hz fr1.out hw.size).2.1) | (refine cells3 (Bks.ext (fin_three (hw.trans (hE.trans hF)) hB3 hz fr1.out hw.size).2.1 ?_); exact Ext.drew (Ext.refl _)))
                (first
                | (go_at_call 15; refine (datum_c X Y Z A B C S _).mono ?_; rintro e w2 ⟨rfl, hx⟩; have hE : Ext wb w2 := (by first | exact (ext1 hx.of_drew).2 | exact hx.of_drew | exact bareN hx rfl rfl rfl rfl); (first | (have hz := (ext1 hx.of_drew).1) | skip); clear kc kl; have hB2 := hB.ext hE; have fr2 := Lib.hid hB2.fresh; have kc := And.intro hB2.1.cell (And.intro hB2.2.1.cell hB2.2.2.1.cell); have kl := And.intro hB2.1.lt (And.intro hB2.2.1.lt hB2.2.2.1.lt))
                | (go_at_call 16; ((first | (refine (HG.out w2 (H8.out.ext (hw.trans hE))).mono ?_) | (refine (HG.out _ (H8.out.ext ((hw.trans hE).alloc _))).mono ?_)); rintro e w3 ⟨c1, c2, c3, v2, rfl, hv2, hc1, hc2, hc3, hx'⟩; have hF : Ext w2 w3 := (by first | exact bareN hx' rfl rfl rfl rfl | exact bareN (ext1 hx').2 rfl rfl rfl rfl); (first | (have hz := (ext1 hx').1) | (replace hz := hz.ext hF) | skip); have hB3 := hB2.ext hF; clear kc; (first | (have cZ := hz.cell; have fZ := hz.frozen) | skip))))
              all_goals
                have hL3 : Ext w w3 := (hw.trans hE).trans hF
                have s1 : w.heap.size ≤ wb.heap.size := hw.size
                have s2 : w.heap.size ≤ w2.heap.size := (hw.trans hE).size
                (try go_wp2_with fail)
                go_meet
                first
                  | exact ⟨w3.heap.size, c1, c2, c3, _, rfl, rfl, hv2, hc1, hc2, hc3, fin_new hL3 hB3⟩
                  | exact ⟨w2.heap.size, c1, c2, c3, _, rfl, rfl, hv2, hc1, hc2, hc3, fin_three hL3 hB3 hz fr2.out s2⟩
                  | exact ⟨wb.heap.size, c1, c2, c3, _, rfl, rfl, hv2, hc1, hc2, hc3, fin_three hL3 hB3 hz fr1.out s1⟩
            case rest =>
              clear hB hw kc kl hP
              obtain ⟨nw, d1, d2, d3, e3, rfl, rfl, hv3', hd1, hd2, hd3, hw, hB, hP⟩ := hcut
              cases hv3'
              have kc := And.intro hB.1.cell (And.intro hB.2.1.cell (And.intro hB.2.2.1.cell hP.cell))
              go_wp2_with (first
                | (go_at_call 13; (first | (refine (W1.out _ (hr.trans (by rw [hd1])) _).mono ?_) | (refine (W2.out _ (hr.trans (by rw [hd2])) _).mono ?_) | (refine (W3.out _ (hr.trans (by rw [hd3])) _).mono ?_)); go_must (rintro e wb ⟨rfl, hx⟩; clear hr; clear kc; replace hB := hB.ext (bareN hx rfl rfl rfl rfl); replace hP := hP.ext (bareN hx rfl rfl rfl rfl); replace hw := hw.trans (bareN hx rfl rfl rfl rfl); clear hx; have kc := And.intro hB.1.cell (And.intro hB.2.1.cell (And.intro hB.2.2.1.cell hP.cell))))
                | (with_reducible refine upon_fl rfl ?_; intro r n hr))
              go_ret
              exact ⟨rfl, hw⟩

theorem globeDatums_walk {A0 : Nat → Addr} (X Y Z A B C S x y z : Nat) (w : World) (h8 : World8 A0 w) : Calls Tryd.prog 4 #[datV X Y Z A B C S, vecU x y z] w (ExR (.bool true) w) := by
  rcases dvK_cases (okD X Y Z A B C S) (okV x y z) with ⟨_, h1, h2⟩ | ⟨h, h1⟩ | ⟨h, h1, h2⟩
  · exact datums_ok X Y Z A B C S x y z w h8 h1 h2
  · exact datums_bad3 X Y Z A B C S x y z w h8 h1 h
  · exact datums_bad4 X Y Z A B C S x y z w h8 h1 h2 h
end Go.Proofs.YtmmifmlkhmdgaaaDoor
