/- The walk of the statement WaveTo. Printed by gen_waveto.py. -/
import Derived.Test.YtmmifmlkhmdgaaaGreatDoorBL
namespace Go.Proofs.YtmmifmlkhmdgaaaGreatDoor
open Go.RowKit Go.Fp Go.Rel
set_option maxRecDepth 20000

/-- the cells of a strip and of a place -/
theorem cellsS {w' : World} {n a f sc : Nat} {mid r t : Int} {tG tP : TypeId} (h : Bks w' [(n, tG, #[Value.float .f64 a, Value.float .f64 f, Value.int .i64 mid, Value.float .f64 sc]), (n + 1, tP, #[Value.int .i64 r, Value.int .i64 t])]) :
    w'.cell? ⟨n, 0, none⟩ = some (.float .f64 a) ∧ w'.cell? ⟨n, 1, none⟩ = some (.float .f64 f) ∧ w'.cell? ⟨n, 2, none⟩ = some (.int .i64 mid) ∧ w'.cell? ⟨n, 3, none⟩ = some (.float .f64 sc) ∧ w'.cell? ⟨n + 1, 0, none⟩ = some (.int .i64 r) ∧ w'.cell? ⟨n + 1, 1, none⟩ = some (.int .i64 t) :=
  ⟨h.1.cell 0, h.1.cell 1, h.1.cell 2, h.1.cell 3, h.2.1.cell 0, h.2.1.cell 1⟩
def isTurn (A : Nat → Addr) (K : Int) (M : Nat) (TA : Int) (v : Value) : Prop := ∃ m v3, v = .tuple #[.float .f64 m, .int .i64 TA, v3] ∧ ErrOf A K v3 ∧ can m = M
def isPt (A : Nat → Addr) (K : Int) (X Y : Nat) (e : Ending) (W w' : World) : Prop := ∃ x1 y1 v2, e = .returned (.tuple #[flatU x1 y1, v2]) ∧ ErrOf A K v2 ∧ can x1 = X ∧ can y1 = Y ∧ Ext W w'
theorem lookK_pos (g : Bool) (sc : Nat) (lat off : Int) : lookK (strP g sc) lat off = 0 ∧ strP g sc = 0 ∨ 0 < lookK (strP g sc) lat off := by
  rcases strP_cases g sc with h | h
  · rw [h]
    unfold lookK
    rw [if_neg (by decide)]
    split
    · exact .inr (by decide)
    · exact .inl ⟨rfl, rfl⟩
  · rw [h]
    unfold lookK
    rw [if_pos (by decide)]
    exact .inr (by decide)
theorem of_can0 {m : Nat} (h : can m = 0) : m = 0 := by
  cases hn : isNan m
  · rwa [can_of_not hn] at h
  · rw [can_of_nan hn] at h; exact absurd h (by decide)
def isPtV (X Y : Nat) (v : Value) : Prop := ∃ x y, v = flatU x y ∧ can x = X ∧ can y = Y

set_option maxHeartbeats 8000000 in
theorem waveTo_bad {A : Nat → Addr} (a f : Nat) (mid : Int) (sc : Nat) (lon lat : Int) (w : World) (h8 : World8 A w) (hk : 0 < lookK (strP (okG a f) sc) lat (signP (dS mid lon))) :
    Calls Tryz.prog 4 #[stripV a f mid sc, placeU lon lat] w (ExR (.bool true) w) := by
  obtain ⟨g, hE, hL, hTR0⟩ := look_bad (A := A) a f mid sc lon lat (by omega)
  have HW := Lib.hid (fun w h8 => waved_c (A := A) w h8)
  have HV := Lib.hid (fun (w : World) (h : World8 A w) => svalid_c a f mid sc w h)
  have HSE := Lib.hid (fun (w : World) => stripError_c a f mid sc w)
  have HTR := Lib.hid hTR0
  obtain ⟨ke, hke⟩ : ∃ ke, ke = lookK (strP (okG a f) sc) lat (signP (dS mid lon)) := ⟨_, rfl⟩
  have HT : Hid (∀ w, World8 A w → Calls Tryz.prog 12 #[stripV a f mid sc, placeU lon lat] w (fun e w' => ∃ x1 y1 v2, e = .returned (.tuple #[flatU x1 y1, v2]) ∧ ErrOf A ke v2 ∧ can x1 = 0 ∧ can y1 = 0 ∧ Ext w w')) := Lib.hid (fun w h8 => (sto_bad a f mid sc lon lat g hL w h8).mono (fun _ _ ⟨he, hx⟩ => ⟨0, 0, _, he, by rw [hke]; exact hE, can0, can0, hx⟩))
  have HU : Hid (∀ w, World8 A w → Calls Tryz.prog 13 #[stripV a f mid sc, placeU lon lat] w (fun e w' => ∃ v, e = .returned v ∧ isTurn A ke 0 0 v ∧ Ext w w')) := Lib.hid (fun w h8 => (turn_bad a f mid sc lon lat g hL w h8).mono (fun _ _ ⟨he, hx⟩ => ⟨_, he, ⟨0, _, rfl, by rw [hke]; exact hE, can0⟩, hx⟩))
  rw [← hke] at HTR hk
  clear hE hL hTR0 hke
  generalize strP (okG a f) sc = kp at *
  have H8 := Lib.hid h8
  clear h8
  go_enter Tryz.func4, Tryz.ntmps4
  go_wp2_with (first
    | (go_at_call 5; go_must (refine (HW.out _ (H8.out.ext (by repeat (first | exact Ext.refl _ | refine Ext.alloc ?_ _)))).mono ?_; rintro e w1 ⟨rfl, hx⟩; obtain ⟨hb1, hb2, hw⟩ := ext2 hx; clear hx)))
  refine wp_region_all (fun g args v => (g = 6 ∧ v = stripV a f mid sc) ∨ (g = 10 ∧ ErrOf A kp v) ∨ (g = 11 ∧ v = .int .i64 kp) ∨ (g = 9 ∧ v = .bool true)) (by kernel_rfl) (by kernel_rfl) ?_
  repeat (first
    | (refine wpR_op rfl (fun w9 hw9 K hK => ?_); have k1 := (hb1.ext (bareN hw9 rfl rfl rfl rfl)).cell; go_simp; refine hK _ ?_; clear hK K k1 hw9 w9)
    | (refine wpR_op rfl (fun w9 hw9 K hK => ?_); go_simp; refine rel_call (ExR.call (strip_c a f mid sc _)) (fun v => ?_) (fun v hv => ?_); (simp); subst hv; refine hK _ ?_; clear hK K hw9 w9)
    | (refine wpR_op rfl (fun w9 hw9 K hK => ?_); go_simp; refine rel_call (HV.out _ (H8.out.ext (hw.trans (bareN hw9 rfl rfl rfl rfl)))) (fun v => ?_) (fun v1 hv1 => ?_); (simp); refine hK _ ?_; clear hK K hw9 w9)
    | (refine wpR_op rfl (fun w9 hw9 K hK => ?_); go_simp; refine rel_call (ExR.call (HSE.out _)) (fun v => ?_) (fun v hv => ?_); (simp); subst hv; refine hK _ ?_; clear hK K hw9 w9)
    | (refine wpR_op rfl (fun w9 hw9 K hK => ?_); go_simp; refine rel_call (ExR.call (coded_c (H8.out.ext (hw.trans (bareN hw9 rfl rfl rfl rfl))) hv1 _)) (fun v => ?_) (fun v hv => ?_); (simp); subst hv; rw [decide_eq_true (rfl : kp = kp)]; refine hK _ ?_; clear hK K hw9 w9))
  refine wpR_nil ?_
  intro w1 hx8 _
  replace hw := hw.trans (bareN hx8 rfl rfl rfl rfl)
  replace hb2 := hb2.ext (bareN hx8 rfl rfl rfl rfl)
  replace hb1 := hb1.ext (bareN hx8 rfl rfl rfl rfl)
  clear hx8
  have hB : Bks w1 [(w.heap.size, 26, #[Value.float .f64 a, Value.float .f64 f, Value.int .i64 mid, Value.float .f64 sc]), (w.heap.size + 1, 31, #[Value.int .i64 lon, Value.int .i64 lat])] := ⟨hb1, hb2, trivial⟩
  clear hb1 hb2
  have kc := And.intro hB.1.cell hB.2.1.cell
  have kl := And.intro hB.1.lt hB.2.1.lt
  go_wp2_with fail
  go_cut [7, 8] (fun s1 s2 wx => ∃ (nb x1 y1 : Nat) (v2 : Value), s1 = .pointer (some ⟨nb, 0, none⟩) ∧ s2 = v2 ∧ ErrOf A ke v2 ∧ can x1 = 0 ∧ can y1 = 0 ∧ Ext w wx ∧ Bks wx [(w.heap.size, 26, #[Value.float .f64 a, Value.float .f64 f, Value.int .i64 mid, Value.float .f64 sc]), (w.heap.size + 1, 31, #[Value.int .i64 lon, Value.int .i64 lat])] ∧ Blk wx nb 28 #[.float .f64 x1, .float .f64 y1])
  case first =>
    have fr1 := Lib.hid hB.fresh
    go_region_held3 (fun w' => w'.cell? ⟨w.heap.size, 0, none⟩ = some (.float .f64 a) ∧ w'.cell? ⟨w.heap.size, 1, none⟩ = some (.float .f64 f) ∧ w'.cell? ⟨w.heap.size, 2, none⟩ = some (.int .i64 mid) ∧ w'.cell? ⟨w.heap.size, 3, none⟩ = some (.float .f64 sc) ∧ w'.cell? ⟨w.heap.size + 1, 0, none⟩ = some (.int .i64 lon) ∧ w'.cell? ⟨w.heap.size + 1, 1, none⟩ = some (.int .i64 lat))
      (first | (refine cellsS (Bks.ext hB3 ?_); (repeat (first | exact Ext.refl _ | refine Ext.drew ?_ | refine Ext.alloc ?_ _)); done) | (refine cellsS (Bks.ext hB2 ?_); (repeat (first | exact Ext.refl _ | refine Ext.drew ?_ | refine Ext.alloc ?_ _)); done) | (refine cellsS (Bks.ext hB ?_); (repeat (first | exact Ext.refl _ | refine Ext.drew ?_ | refine Ext.alloc ?_ _)); done) | (exact cellsS (fin_two (hw.trans (hE.trans hF)) hB3 hz fr2.out (hw.trans hE).size).2.1) | (refine cellsS (Bks.ext (fin_two (hw.trans (hE.trans hF)) hB3 hz fr2.out (hw.trans hE).size).2.1 ?_); exact Ext.drew (Ext.refl _)) | (exact cellsS (fin_two (hw.trans (hE.trans hF)) hB3 hz fr1.out hw.size).2.1) | (refine cellsS (Bks.ext (fin_two (hw.trans (hE.trans hF)) hB3 hz fr1.out hw.size).2.1 ?_); exact Ext.drew (Ext.refl _)))
      (first
      | (go_at_call 6; refine (strip_c a f mid sc _).mono ?_; rintro e w2 ⟨rfl, hx⟩; have hE : Ext w1 w2 := (by first | exact (ext1 hx.of_drew).2 | exact hx.of_drew | exact bareN hx rfl rfl rfl rfl); (first | (have hz := (ext1 hx.of_drew).1) | skip); clear kc kl; have hB2 := hB.ext hE; have fr2 := Lib.hid hB2.fresh; have kc := And.intro hB2.1.cell hB2.2.1.cell; have kl := And.intro hB2.1.lt hB2.2.1.lt)
      | (go_at_call 12; ((first | (refine (HT.out w2 (H8.out.ext (hw.trans hE))).mono ?_) | (refine (HT.out _ (H8.out.ext ((hw.trans hE).alloc _))).mono ?_)); rintro e w3 ⟨x1, y1, v2, rfl, hv2, hx1, hy1, hx'⟩; have hF : Ext w2 w3 := (by first | exact bareN hx' rfl rfl rfl rfl | exact bareN (ext1 hx').2 rfl rfl rfl rfl); (first | (have hz := (ext1 hx').1) | (replace hz := hz.ext hF) | skip); have hB3 := hB2.ext hF; clear kc; (first | (have cZ := hz.cell; have fZ := hz.frozen) | skip))))
    all_goals
      have hL3 : Ext w w3 := (hw.trans hE).trans hF
      have s1 : w.heap.size ≤ w1.heap.size := hw.size
      have s2 : w.heap.size ≤ w2.heap.size := (hw.trans hE).size
      (try go_wp2_with fail)
      go_meet
      first
        | exact ⟨w3.heap.size, x1, y1, _, rfl, rfl, hv2, hx1, hy1, fin_new hL3 hB3⟩
        | exact ⟨w2.heap.size, x1, y1, _, rfl, rfl, hv2, hx1, hy1, fin_two hL3 hB3 hz fr2.out s2⟩
        | exact ⟨w1.heap.size, x1, y1, _, rfl, rfl, hv2, hx1, hy1, fin_two hL3 hB3 hz fr1.out s1⟩
  case rest =>
    clear hB hw kc kl
    obtain ⟨nb, x1, y1, v2, rfl, rfl, hv2, hx1, hy1, hw, hB, hP⟩ := hcut
    go_wp2_with fail
    refine wp_region_all (fun g args v => (g = 6 ∧ v = stripV a f mid sc) ∨ (g = 13 ∧ isTurn A ke 0 0 v)) (by kernel_rfl) (by kernel_rfl) ?_
    repeat (first
      | (refine wpR_want rfl (fun w9 hw9 K hK => ?_); have kb := hB.ext (bareN hw9 rfl rfl rfl rfl); have kd := And.intro kb.1.cell kb.2.1.cell; clear kb; go_simp; refine hK _ ?_; clear hK K kd hw9 w9)
      | (refine wpR_want rfl (fun w9 hw9 K hK => ?_); go_simp; refine rel_call (ExR.call (strip_c a f mid sc _)) (fun v => ?_) (fun v hv => ?_); (simp); subst hv; refine hK _ ?_; clear hK K hw9 w9)
      | (refine wpR_want rfl (fun w9 hw9 K hK => ?_); go_simp; refine rel_call (HU.out _ (H8.out.ext (hw.trans (bareN hw9 rfl rfl rfl rfl)))) (fun v => ?_) (fun v hv => ?_); (simp); obtain ⟨m1, v3, rfl, hv3, hm1⟩ := hv; refine hK _ ?_; clear hK K hw9 w9))
    refine wpR_nil ?_
    intro w7 hx7 _
    replace hw := hw.trans (bareN hx7 rfl rfl rfl rfl)
    replace hB := hB.ext (bareN hx7 rfl rfl rfl rfl)
    replace hP := hP.ext (bareN hx7 rfl rfl rfl rfl)
    clear hx7
    have kc := And.intro hB.1.cell (And.intro hB.2.1.cell hP.cell)
    obtain rfl := of_can0 hx1
    obtain rfl := of_can0 hy1
    obtain rfl := of_can0 hm1
    clear hx1 hy1 hm1
    have q0 : FloatKind.f64.format.order 0 0 = some .eq := by kernel_rfl
    have tkC : Hid True := trivial
    go_wp2_with (first
      | (go_at_call 14; go_must (refine (HTR.out _).mono ?_; rintro e v4 ⟨rfl, hx⟩; clear kc; replace hB := hB.ext (bareN hx rfl rfl rfl rfl); replace hP := hP.ext (bareN hx rfl rfl rfl rfl); replace hw := hw.trans (bareN hx rfl rfl rfl rfl); clear hx; have kc := And.intro hB.1.cell (And.intro hB.2.1.cell hP.cell); have kf : ∀ o i, (v4.alloc o).cell? ⟨nb, i, none⟩ = #[Value.float .f64 0, Value.float .f64 0][i]? := (fun o i => (hP.ext ((Ext.refl v4).alloc o)).cell i)))
      | (go_at_call 9; clear tkC; go_must (refine (coded_c (H8.out.ext (by repeat (first | exact hw | refine Ext.alloc ?_ _))) hv2 _).mono ?_; rintro e v5 ⟨rfl, hx⟩; rw [decide_eq_true (rfl : ke = ke)]; obtain ⟨hT, hx'⟩ := ext1 hx; clear kc kf hx; replace hB := hB.ext hx'; replace hP := hP.ext hx'; replace hw := hw.trans hx'; clear hx'; have kc := And.intro hB.1.cell (And.intro hB.2.1.cell (And.intro hP.cell hT.cell))))
      | (go_at_call 9; go_must (refine (coded_c (H8.out.ext hw) hv3 _).mono ?_; rintro e v5 ⟨rfl, hx⟩; rw [decide_eq_true (rfl : ke = ke)]; clear kc; replace hB := hB.ext (bareN hx rfl rfl rfl rfl); replace hP := hP.ext (bareN hx rfl rfl rfl rfl); replace hT := hT.ext (bareN hx rfl rfl rfl rfl); replace hw := hw.trans (bareN hx rfl rfl rfl rfl); clear hx; have kc := And.intro hB.1.cell (And.intro hB.2.1.cell (And.intro hP.cell hT.cell))))
      | (go_at_call 15; go_must (refine (sameFlatU_c 0 0 0 0 rfl rfl _).mono ?_; rintro e v5 ⟨rfl, hx⟩; clear kc; replace hB := hB.ext (bareN hx rfl rfl rfl rfl); replace hP := hP.ext (bareN hx rfl rfl rfl rfl); replace hT := hT.ext (bareN hx rfl rfl rfl rfl); replace hw := hw.trans (bareN hx rfl rfl rfl rfl); clear hx; have kc := And.intro hB.1.cell (And.intro hB.2.1.cell (And.intro hP.cell hT.cell)))))
    go_ret
    exact ⟨rfl, hw⟩

set_option maxHeartbeats 8000000 in
theorem waveTo_ok {A : Nat → Addr} (a f : Nat) (mid : Int) (sc : Nat) (lon lat : Int) (w : World) (h8 : World8 A w) (hk : strP (okG a f) sc = 0) (hl : lookK 0 lat (signP (dS mid lon)) = 0) :
    Calls Tryz.prog 4 #[stripV a f mid sc, placeU lon lat] w (ExR (.bool true) w) := by
  have HW := Lib.hid (fun w h8 => waved_c (A := A) w h8)
  have HV := Lib.hid (fun (w : World) (h : World8 A w) => svalid_c a f mid sc w h)
  have HSE := Lib.hid (fun (w : World) => stripError_c a f mid sc w)
  have HTR := Lib.hid (fun (w : World) => turned_ok a f mid sc lon lat w hk hl)
  obtain ⟨u1, u2⟩ : -180000000000 ≤ uS f lat (dS mid lon) ∧ uS f lat (dS mid lon) ≤ 180000000000 := signP_range _
  have HO := Lib.hid (fun (t v : Nat) (ht : can t = tS f lat) (hv : can v = vS f lat (dS mid lon)) (w : World) => (show Calls Tryz.prog 16 #[stripV a f mid sc, wideV t (dS mid lon) (uS f lat (dS mid lon)) v] w (fun e w' => ∃ v', e = .returned v' ∧ isPtV (stripX a f sc (uS f lat (dS mid lon)) (vS f lat (dS mid lon))) (stripY a f sc (uS f lat (dS mid lon)) (vS f lat (dS mid lon))) v' ∧ Ext w w') from (onStrip_c a f mid sc t (dS mid lon) (uS f lat (dS mid lon)) v w (strP_ok hk).1 u1 u2).mono (fun _ _ ⟨x, y, he, hx, hy, hw⟩ => ⟨_, he, ⟨x, y, rfl, by rw [hx, hv], by rw [hy, hv]⟩, hw⟩)))
  have HD := Lib.hid (fun (t v : Nat) (ht : can t = tS f lat) (hv : can v = vS f lat (dS mid lon)) (w : World) => (show Calls Tryz.prog 17 #[stripV a f mid sc, placeU lon lat, wideV t (dS mid lon) (uS f lat (dS mid lon)) v] w (fun e w' => ∃ m, e = .returned (.tuple #[.float .f64 m, .int .i64 (turnA f (dS mid lon) (uS f lat (dS mid lon)) (tS f lat) (vS f lat (dS mid lon)))]) ∧ can m = turnM a f sc lat (dS mid lon) (uS f lat (dS mid lon)) (tS f lat) (vS f lat (dS mid lon)) ∧ Ext w w') from ht ▸ hv ▸ turnedOf_c a f mid sc lon lat t (dS mid lon) (uS f lat (dS mid lon)) v w (strP_ok hk).1 u1 u2))
  have HT : Hid (∀ w, World8 A w → Calls Tryz.prog 12 #[stripV a f mid sc, placeU lon lat] w (fun e w' => ∃ x1 y1 v2, e = .returned (.tuple #[flatU x1 y1, v2]) ∧ ErrOf A 0 v2 ∧ can x1 = stripX a f sc (uS f lat (dS mid lon)) (vS f lat (dS mid lon)) ∧ can y1 = stripY a f sc (uS f lat (dS mid lon)) (vS f lat (dS mid lon)) ∧ Ext w w')) := Lib.hid (fun w h8 => (sto_ok a f mid sc lon lat w h8 hk hl).mono (fun _ _ ⟨x, y, he, hx, hy, hw⟩ => ⟨x, y, _, he, .nil, hx, hy, hw⟩))
  have HU : Hid (∀ w, World8 A w → Calls Tryz.prog 13 #[stripV a f mid sc, placeU lon lat] w (fun e w' => ∃ v, e = .returned v ∧ isTurn A 0 (turnM a f sc lat (dS mid lon) (uS f lat (dS mid lon)) (tS f lat) (vS f lat (dS mid lon))) (turnA f (dS mid lon) (uS f lat (dS mid lon)) (tS f lat) (vS f lat (dS mid lon))) v ∧ Ext w w')) := Lib.hid (fun w h8 => (turn_ok a f mid sc lon lat w h8 hk hl).mono (fun _ _ ⟨m, he, hm, hw⟩ => ⟨_, he, ⟨m, _, rfl, .nil, hm⟩, hw⟩))
  clear hl hk u1 u2
  generalize stripX a f sc (uS f lat (dS mid lon)) (vS f lat (dS mid lon)) = X at *
  generalize stripY a f sc (uS f lat (dS mid lon)) (vS f lat (dS mid lon)) = Y at *
  generalize turnM a f sc lat (dS mid lon) (uS f lat (dS mid lon)) (tS f lat) (vS f lat (dS mid lon)) = M at *
  generalize turnA f (dS mid lon) (uS f lat (dS mid lon)) (tS f lat) (vS f lat (dS mid lon)) = TA at *
  generalize vS f lat (dS mid lon) = V at *
  generalize uS f lat (dS mid lon) = U at *
  generalize dS mid lon = dd at *
  generalize tS f lat = T at *
  generalize strP (okG a f) sc = kp at *
  have H8 := Lib.hid h8
  clear h8
  go_enter Tryz.func4, Tryz.ntmps4
  go_wp2_with (first
    | (go_at_call 5; go_must (refine (HW.out _ (H8.out.ext (by repeat (first | exact Ext.refl _ | refine Ext.alloc ?_ _)))).mono ?_; rintro e w1 ⟨rfl, hx⟩; obtain ⟨hb1, hb2, hw⟩ := ext2 hx; clear hx)))
  refine wp_region_all (fun g args v => (g = 6 ∧ v = stripV a f mid sc) ∨ (g = 10 ∧ ErrOf A kp v) ∨ (g = 11 ∧ v = .int .i64 kp) ∨ (g = 9 ∧ v = .bool true)) (by kernel_rfl) (by kernel_rfl) ?_
  repeat (first
    | (refine wpR_op rfl (fun w9 hw9 K hK => ?_); have k1 := (hb1.ext (bareN hw9 rfl rfl rfl rfl)).cell; go_simp; refine hK _ ?_; clear hK K k1 hw9 w9)
    | (refine wpR_op rfl (fun w9 hw9 K hK => ?_); go_simp; refine rel_call (ExR.call (strip_c a f mid sc _)) (fun v => ?_) (fun v hv => ?_); (simp); subst hv; refine hK _ ?_; clear hK K hw9 w9)
    | (refine wpR_op rfl (fun w9 hw9 K hK => ?_); go_simp; refine rel_call (HV.out _ (H8.out.ext (hw.trans (bareN hw9 rfl rfl rfl rfl)))) (fun v => ?_) (fun v1 hv1 => ?_); (simp); refine hK _ ?_; clear hK K hw9 w9)
    | (refine wpR_op rfl (fun w9 hw9 K hK => ?_); go_simp; refine rel_call (ExR.call (HSE.out _)) (fun v => ?_) (fun v hv => ?_); (simp); subst hv; refine hK _ ?_; clear hK K hw9 w9)
    | (refine wpR_op rfl (fun w9 hw9 K hK => ?_); go_simp; refine rel_call (ExR.call (coded_c (H8.out.ext (hw.trans (bareN hw9 rfl rfl rfl rfl))) hv1 _)) (fun v => ?_) (fun v hv => ?_); (simp); subst hv; rw [decide_eq_true (rfl : kp = kp)]; refine hK _ ?_; clear hK K hw9 w9))
  refine wpR_nil ?_
  intro w1 hx8 _
  replace hw := hw.trans (bareN hx8 rfl rfl rfl rfl)
  replace hb2 := hb2.ext (bareN hx8 rfl rfl rfl rfl)
  replace hb1 := hb1.ext (bareN hx8 rfl rfl rfl rfl)
  clear hx8
  have hB : Bks w1 [(w.heap.size, 26, #[Value.float .f64 a, Value.float .f64 f, Value.int .i64 mid, Value.float .f64 sc]), (w.heap.size + 1, 31, #[Value.int .i64 lon, Value.int .i64 lat])] := ⟨hb1, hb2, trivial⟩
  clear hb1 hb2
  have kc := And.intro hB.1.cell hB.2.1.cell
  have kl := And.intro hB.1.lt hB.2.1.lt
  go_wp2_with fail
  go_cut [7, 8] (fun s1 s2 wx => ∃ (nb x1 y1 : Nat) (v2 : Value), s1 = .pointer (some ⟨nb, 0, none⟩) ∧ s2 = v2 ∧ ErrOf A (0 : Int) v2 ∧ can x1 = X ∧ can y1 = Y ∧ Ext w wx ∧ Bks wx [(w.heap.size, 26, #[Value.float .f64 a, Value.float .f64 f, Value.int .i64 mid, Value.float .f64 sc]), (w.heap.size + 1, 31, #[Value.int .i64 lon, Value.int .i64 lat])] ∧ Blk wx nb 28 #[.float .f64 x1, .float .f64 y1])
  case first =>
    have fr1 := Lib.hid hB.fresh
    go_region_held3 (fun w' => w'.cell? ⟨w.heap.size, 0, none⟩ = some (.float .f64 a) ∧ w'.cell? ⟨w.heap.size, 1, none⟩ = some (.float .f64 f) ∧ w'.cell? ⟨w.heap.size, 2, none⟩ = some (.int .i64 mid) ∧ w'.cell? ⟨w.heap.size, 3, none⟩ = some (.float .f64 sc) ∧ w'.cell? ⟨w.heap.size + 1, 0, none⟩ = some (.int .i64 lon) ∧ w'.cell? ⟨w.heap.size + 1, 1, none⟩ = some (.int .i64 lat))
      (first | (refine cellsS (Bks.ext hB3 ?_); (repeat (first | exact Ext.refl _ | refine Ext.drew ?_ | refine Ext.alloc ?_ _)); done) | (refine cellsS (Bks.ext hB2 ?_); (repeat (first | exact Ext.refl _ | refine Ext.drew ?_ | refine Ext.alloc ?_ _)); done) | (refine cellsS (Bks.ext hB ?_); (repeat (first | exact Ext.refl _ | refine Ext.drew ?_ | refine Ext.alloc ?_ _)); done) | (exact cellsS (fin_two (hw.trans (hE.trans hF)) hB3 hz fr2.out (hw.trans hE).size).2.1) | (refine cellsS (Bks.ext (fin_two (hw.trans (hE.trans hF)) hB3 hz fr2.out (hw.trans hE).size).2.1 ?_); exact Ext.drew (Ext.refl _)) | (exact cellsS (fin_two (hw.trans (hE.trans hF)) hB3 hz fr1.out hw.size).2.1) | (refine cellsS (Bks.ext (fin_two (hw.trans (hE.trans hF)) hB3 hz fr1.out hw.size).2.1 ?_); exact Ext.drew (Ext.refl _)))
      (first
      | (go_at_call 6; refine (strip_c a f mid sc _).mono ?_; rintro e w2 ⟨rfl, hx⟩; have hE : Ext w1 w2 := (by first | exact (ext1 hx.of_drew).2 | exact hx.of_drew | exact bareN hx rfl rfl rfl rfl); (first | (have hz := (ext1 hx.of_drew).1) | skip); clear kc kl; have hB2 := hB.ext hE; have fr2 := Lib.hid hB2.fresh; have kc := And.intro hB2.1.cell hB2.2.1.cell; have kl := And.intro hB2.1.lt hB2.2.1.lt)
      | (go_at_call 12; ((first | (refine (HT.out w2 (H8.out.ext (hw.trans hE))).mono ?_) | (refine (HT.out _ (H8.out.ext ((hw.trans hE).alloc _))).mono ?_)); rintro e w3 ⟨x1, y1, v2, rfl, hv2, hx1, hy1, hx'⟩; have hF : Ext w2 w3 := (by first | exact bareN hx' rfl rfl rfl rfl | exact bareN (ext1 hx').2 rfl rfl rfl rfl); (first | (have hz := (ext1 hx').1) | (replace hz := hz.ext hF) | skip); have hB3 := hB2.ext hF; clear kc; (first | (have cZ := hz.cell; have fZ := hz.frozen) | skip))))
    all_goals
      have hL3 : Ext w w3 := (hw.trans hE).trans hF
      have s1 : w.heap.size ≤ w1.heap.size := hw.size
      have s2 : w.heap.size ≤ w2.heap.size := (hw.trans hE).size
      (try go_wp2_with fail)
      go_meet
      first
        | exact ⟨w3.heap.size, x1, y1, _, rfl, rfl, hv2, hx1, hy1, fin_new hL3 hB3⟩
        | exact ⟨w2.heap.size, x1, y1, _, rfl, rfl, hv2, hx1, hy1, fin_two hL3 hB3 hz fr2.out s2⟩
        | exact ⟨w1.heap.size, x1, y1, _, rfl, rfl, hv2, hx1, hy1, fin_two hL3 hB3 hz fr1.out s1⟩
  case rest =>
    clear hB hw kc kl
    obtain ⟨nb, x1, y1, v2, rfl, rfl, hv2, hx1, hy1, hw, hB, hP⟩ := hcut
    go_wp2_with fail
    refine wp_region_all (fun g args v => (g = 6 ∧ v = stripV a f mid sc) ∨ (g = 13 ∧ isTurn A (0 : Int) M TA v)) (by kernel_rfl) (by kernel_rfl) ?_
    repeat (first
      | (refine wpR_want rfl (fun w9 hw9 K hK => ?_); have kb := hB.ext (bareN hw9 rfl rfl rfl rfl); have kd := And.intro kb.1.cell kb.2.1.cell; clear kb; go_simp; refine hK _ ?_; clear hK K kd hw9 w9)
      | (refine wpR_want rfl (fun w9 hw9 K hK => ?_); go_simp; refine rel_call (ExR.call (strip_c a f mid sc _)) (fun v => ?_) (fun v hv => ?_); (simp); subst hv; refine hK _ ?_; clear hK K hw9 w9)
      | (refine wpR_want rfl (fun w9 hw9 K hK => ?_); go_simp; refine rel_call (HU.out _ (H8.out.ext (hw.trans (bareN hw9 rfl rfl rfl rfl)))) (fun v => ?_) (fun v hv => ?_); (simp); obtain ⟨m1, v3, rfl, hv3, hm1⟩ := hv; refine hK _ ?_; clear hK K hw9 w9))
    refine wpR_nil ?_
    intro w7 hx7 _
    replace hw := hw.trans (bareN hx7 rfl rfl rfl rfl)
    replace hB := hB.ext (bareN hx7 rfl rfl rfl rfl)
    replace hP := hP.ext (bareN hx7 rfl rfl rfl rfl)
    clear hx7
    have kc := And.intro hB.1.cell (And.intro hB.2.1.cell hP.cell)
    have tkC : Hid True := trivial
    go_wp2_with (first
      | (go_at_call 14; go_must (refine (HTR.out _).mono ?_; rintro e v4 ⟨t1, vv, rfl, ht1, hvv, hx⟩; clear kc; replace hB := hB.ext (bareN hx rfl rfl rfl rfl); replace hP := hP.ext (bareN hx rfl rfl rfl rfl); replace hw := hw.trans (bareN hx rfl rfl rfl rfl); clear hx; have kc := And.intro hB.1.cell (And.intro hB.2.1.cell hP.cell); have HTT := Lib.hid (And.intro ht1 hvv); clear ht1 hvv; have kf : ∀ o i, (v4.alloc o).cell? ⟨nb, i, none⟩ = #[Value.float .f64 x1, Value.float .f64 y1][i]? := (fun o i => (hP.ext ((Ext.refl v4).alloc o)).cell i)))
      | (go_at_call 9; clear tkC; go_must (refine (coded_c (H8.out.ext (by repeat (first | exact hw | refine Ext.alloc ?_ _))) hv2 _).mono ?_; rintro e v5 ⟨rfl, hx⟩; rw [decide_eq_true (rfl : (0 : Int) = (0 : Int))]; obtain ⟨hT, hx'⟩ := ext1 hx; clear kc kf hx; replace hB := hB.ext hx'; replace hP := hP.ext hx'; replace hw := hw.trans hx'; clear hx'; have kc := And.intro hB.1.cell (And.intro hB.2.1.cell (And.intro hP.cell hT.cell))))
      | (go_at_call 9; go_must (refine (coded_c (H8.out.ext hw) hv3 _).mono ?_; rintro e v5 ⟨rfl, hx⟩; rw [decide_eq_true (rfl : (0 : Int) = (0 : Int))]; clear kc; replace hB := hB.ext (bareN hx rfl rfl rfl rfl); replace hP := hP.ext (bareN hx rfl rfl rfl rfl); replace hT := hT.ext (bareN hx rfl rfl rfl rfl); replace hw := hw.trans (bareN hx rfl rfl rfl rfl); clear hx; have kc := And.intro hB.1.cell (And.intro hB.2.1.cell (And.intro hP.cell hT.cell)))))
    clear kc
    refine wp_region_all (fun g args v => (g = 16 ∧ isPtV X Y v) ∨ (g = 15 ∧ v = .bool true)) (by kernel_rfl) (by kernel_rfl) ?_
    repeat (first
      | (refine wpR_want rfl (fun w9 hw9 K hK => ?_); have kb := hB.ext (bareN hw9 rfl rfl rfl rfl); have kd := And.intro kb.1.cell (And.intro kb.2.1.cell (And.intro (hP.ext (bareN hw9 rfl rfl rfl rfl)).cell (hT.ext (bareN hw9 rfl rfl rfl rfl)).cell)); clear kb; go_simp; refine hK _ ?_; clear hK K kd hw9 w9)
      | (refine wpR_want rfl (fun w9 hw9 K hK => ?_); go_simp; refine rel_call (HO.out t1 vv HTT.out.1 HTT.out.2 _) (fun v => ?_) (fun v hv => ?_); (simp); obtain ⟨x2, y2, rfl, hx2, hy2⟩ := hv; refine hK _ ?_; clear hK K hw9 w9)
      | (refine wpR_want rfl (fun w9 hw9 K hK => ?_); go_simp; refine rel_call (ExR.call (sameFlatU_c x1 y1 x2 y2 (hx1.trans hx2.symm) (hy1.trans hy2.symm) _)) (fun v => ?_) (fun v hv => ?_); (simp); subst hv; refine hK _ ?_; clear hK K hw9 w9))
    refine wpR_nil ?_
    intro w7 hx _
    have kc : Hid True := trivial
    clear kc; replace hB := hB.ext (bareN hx rfl rfl rfl rfl); replace hP := hP.ext (bareN hx rfl rfl rfl rfl); replace hT := hT.ext (bareN hx rfl rfl rfl rfl); replace hw := hw.trans (bareN hx rfl rfl rfl rfl); clear hx; have kc := And.intro hB.1.cell (And.intro hB.2.1.cell (And.intro hP.cell hT.cell))
    go_wp2_with (first
      | (go_at_call 17; go_must (refine (HD.out t1 vv HTT.out.1 HTT.out.2 _).mono ?_; rintro e v5 ⟨m2, rfl, hm2, hx⟩; clear kc; replace hB := hB.ext (bareN hx rfl rfl rfl rfl); replace hP := hP.ext (bareN hx rfl rfl rfl rfl); replace hT := hT.ext (bareN hx rfl rfl rfl rfl); replace hw := hw.trans (bareN hx rfl rfl rfl rfl); clear hx; have kc := And.intro hB.1.cell (And.intro hB.2.1.cell (And.intro hP.cell hT.cell))))
      | (go_at_call 18; go_must (refine (sameBits_c _ _ _ (hm1.trans hm2.symm)).mono ?_; rintro e v5 ⟨rfl, hx⟩; clear kc; replace hB := hB.ext (bareN hx rfl rfl rfl rfl); replace hP := hP.ext (bareN hx rfl rfl rfl rfl); replace hT := hT.ext (bareN hx rfl rfl rfl rfl); replace hw := hw.trans (bareN hx rfl rfl rfl rfl); clear hx; have kc := And.intro hB.1.cell (And.intro hB.2.1.cell (And.intro hP.cell hT.cell)))))
    go_ret
    exact ⟨rfl, hw⟩

theorem waveTo_walk {A : Nat → Addr} (a f : Nat) (mid : Int) (sc : Nat) (lon lat : Int) (w : World) (h8 : World8 A w) : Calls Tryz.prog 4 #[stripV a f mid sc, placeU lon lat] w (ExR (.bool true) w) := by
  rcases lookK_pos (okG a f) sc lat (signP (dS mid lon)) with ⟨h1, h2⟩ | h
  · rw [h2] at h1
    exact waveTo_ok a f mid sc lon lat w h8 h2 h1
  · exact waveTo_bad a f mid sc lon lat w h8 h
end Go.Proofs.YtmmifmlkhmdgaaaGreatDoor
