/- The walk of the statement FlatTo. -/
import Derived.Test.YtkfeiciopehhnaaGreatDoorBK
namespace Go.Proofs.YtkfeiciopehhnaaGreatDoor
open Go.RowKit Go.Fp Go.Rel
set_option maxRecDepth 20000

def isFlat (X Y : Nat) (v : Value) : Prop := ∃ x y, v = flatV x y ∧ can x = X ∧ can y = Y
theorem FlatQ.call {P : Program} {f : FuncId} {args : Array Value} {X Y : Nat} {W : World} (h : Calls P f args W (FlatQ X Y W)) : Calls P f args W (fun e w' => ∃ v, e = .returned v ∧ isFlat X Y v ∧ Ext W w') :=
  h.mono fun _ _ ⟨x, y, he, hx, hy, hw⟩ => ⟨_, he, ⟨x, y, rfl, hx, hy⟩, hw⟩
/-- the cells of a paper and of a place -/
theorem cellsP {w' : World} {n a f sc : Nat} {s : ByteArray} {mid r t : Int} {tG tP : TypeId} (h : Bks w' [(n, tG, #[Value.float .f64 a, Value.float .f64 f, Value.string s, Value.int .i64 mid, Value.float .f64 sc]), (n + 1, tP, #[Value.int .i64 r, Value.int .i64 t])]) :
    w'.cell? ⟨n, 0, none⟩ = some (.float .f64 a) ∧ w'.cell? ⟨n, 1, none⟩ = some (.float .f64 f) ∧ w'.cell? ⟨n, 2, none⟩ = some (.string s) ∧ w'.cell? ⟨n, 3, none⟩ = some (.int .i64 mid) ∧ w'.cell? ⟨n, 4, none⟩ = some (.float .f64 sc) ∧ w'.cell? ⟨n + 1, 0, none⟩ = some (.int .i64 r) ∧ w'.cell? ⟨n + 1, 1, none⟩ = some (.int .i64 t) :=
  ⟨h.1.cell 0, h.1.cell 1, h.1.cell 2, h.1.cell 3, h.1.cell 4, h.2.1.cell 0, h.2.1.cell 1⟩
theorem chkP_cases (g : Bool) (n sc : Nat) (lat : Int) : 0 < chkP (papP g n sc) n lat ∨ chkP (papP g n sc) n lat = 0 ∧ n ≠ 3 := by
  rcases papP_cases g n sc with ⟨h, h3⟩ | h | h
  · rw [h]
    unfold chkP
    rw [if_neg (by decide)]
    split
    · exact .inl (by decide)
    · split
      · exact .inl (by decide)
      · exact .inr ⟨rfl, h3⟩
  · rw [h]; exact .inl (by unfold chkP; rw [if_pos (by decide)]; decide)
  · rw [h]; exact .inl (by unfold chkP; rw [if_pos (by decide)]; decide)
set_option maxHeartbeats 8000000 in
theorem flatTo_bad {A : Nat → Addr} {s : ByteArray} {n : Nat} (hK : KindIs s n) (a f : Nat) (mid : Int) (sc : Nat) (lon lat : Int) (w : World) (h8 : World8 A w) (hk : 0 < chkP (papP (okG a f) n sc) n lat) :
    Calls Tryz.prog 4 #[paperV a f s mid sc, placeW lon lat] w (ExR (.bool true) w) := by
  have HV := Lib.hid (fun (w : World) (h : World8 A w) => pvalid_c hK a f mid sc w h)
  have HPE := Lib.hid (fun (w : World) => paperError_c hK a f mid sc w)
  have HPL := Lib.hid (fun (w : World) => placeError_c hK a f mid sc lon lat w)
  have HT := Lib.hid (fun (w : World) (h : World8 A w) => to_bad hK a f mid sc lon lat w h hk)
  generalize chkP (papP (okG a f) n sc) n lat = ke at *
  generalize papP (okG a f) n sc = kp at *
  have H8 := Lib.hid h8
  clear hK h8
  go_enter Tryz.func4, Tryz.ntmps4
  go_wp2_with (first
    | (go_at_call 13; go_must (refine (drawn_c _ (H8.out.ext (by repeat (first | exact Ext.refl _ | refine Ext.alloc ?_ _)))).mono ?_; rintro e w1 ⟨rfl, hx⟩; obtain ⟨hb1, hb2, hw⟩ := ext2 hx; clear hx)))
  refine wp_region_all (fun g args v => (g = 14 ∧ v = paperV a f s mid sc) ∨ (g = 15 ∧ ErrOf A kp v) ∨ (g = 16 ∧ v = .int .i64 kp) ∨ (g = 12 ∧ v = .bool true)) (by kernel_rfl) (by kernel_rfl) ?_
  repeat (first
    | (refine wpR_op rfl (fun w9 hw9 K hK => ?_); have k1 := (hb1.ext (bareN hw9 rfl rfl rfl rfl)).cell; go_simp; refine hK _ ?_; clear hK K k1 hw9 w9)
    | (refine wpR_op rfl (fun w9 hw9 K hK => ?_); go_simp; refine rel_call (ExR.call (paper_c a f s mid sc _)) (fun v => ?_) (fun v hv => ?_); (simp); subst hv; refine hK _ ?_; clear hK K hw9 w9)
    | (refine wpR_op rfl (fun w9 hw9 K hK => ?_); go_simp; refine rel_call (HV.out _ (H8.out.ext (hw.trans (bareN hw9 rfl rfl rfl rfl)))) (fun v => ?_) (fun v1 hv1 => ?_); (simp); refine hK _ ?_; clear hK K hw9 w9)
    | (refine wpR_op rfl (fun w9 hw9 K hK => ?_); go_simp; refine rel_call (ExR.call (HPE.out _)) (fun v => ?_) (fun v hv => ?_); (simp); subst hv; refine hK _ ?_; clear hK K hw9 w9)
    | (refine wpR_op rfl (fun w9 hw9 K hK => ?_); go_simp; refine rel_call (ExR.call (coded_c (H8.out.ext (hw.trans (bareN hw9 rfl rfl rfl rfl))) hv1 _)) (fun v => ?_) (fun v hv => ?_); (simp); subst hv; rw [decide_eq_true (rfl : kp = kp)]; refine hK _ ?_; clear hK K hw9 w9))
  refine wpR_nil ?_
  intro w1 hx8 _
  replace hw := hw.trans (bareN hx8 rfl rfl rfl rfl)
  replace hb2 := hb2.ext (bareN hx8 rfl rfl rfl rfl)
  replace hb1 := hb1.ext (bareN hx8 rfl rfl rfl rfl)
  clear hx8
  have hB : Bks w1 [(w.heap.size, 45, #[Value.float .f64 a, Value.float .f64 f, Value.string s, Value.int .i64 mid, Value.float .f64 sc]), (w.heap.size + 1, 31, #[Value.int .i64 lon, Value.int .i64 lat])] := ⟨hb1, hb2, trivial⟩
  clear hb1 hb2
  have kc := And.intro hB.1.cell hB.2.1.cell
  have kl := And.intro hB.1.lt hB.2.1.lt
  go_wp2_with fail
  go_cut [7, 8] (fun s1 s2 wx => ∃ (nb x1 y1 : Nat) (v2 : Value), s1 = .pointer (some ⟨nb, 0, none⟩) ∧ s2 = v2 ∧ ErrOf A ke v2 ∧ can x1 = 0 ∧ can y1 = 0 ∧ Ext w wx ∧ Bks wx [(w.heap.size, 45, #[Value.float .f64 a, Value.float .f64 f, Value.string s, Value.int .i64 mid, Value.float .f64 sc]), (w.heap.size + 1, 31, #[Value.int .i64 lon, Value.int .i64 lat])] ∧ Blk wx nb 28 #[.float .f64 x1, .float .f64 y1])
  case first =>
    have fr1 := Lib.hid hB.fresh
    go_region_held3 (fun w' => w'.cell? ⟨w.heap.size, 0, none⟩ = some (.float .f64 a) ∧ w'.cell? ⟨w.heap.size, 1, none⟩ = some (.float .f64 f) ∧ w'.cell? ⟨w.heap.size, 2, none⟩ = some (.string s) ∧ w'.cell? ⟨w.heap.size, 3, none⟩ = some (.int .i64 mid) ∧ w'.cell? ⟨w.heap.size, 4, none⟩ = some (.float .f64 sc) ∧ w'.cell? ⟨w.heap.size + 1, 0, none⟩ = some (.int .i64 lon) ∧ w'.cell? ⟨w.heap.size + 1, 1, none⟩ = some (.int .i64 lat))
      (first | (refine cellsP (Bks.ext hB3 ?_); (repeat (first | exact Ext.refl _ | refine Ext.drew ?_ | refine Ext.alloc ?_ _)); done) | (refine cellsP (Bks.ext hB2 ?_); (repeat (first | exact Ext.refl _ | refine Ext.drew ?_ | refine Ext.alloc ?_ _)); done) | (refine cellsP (Bks.ext hB ?_); (repeat (first | exact Ext.refl _ | refine Ext.drew ?_ | refine Ext.alloc ?_ _)); done) | (exact cellsP (fin_two (hw.trans (hE.trans hF)) hB3 hz fr2.out (hw.trans hE).size).2.1) | (refine cellsP (Bks.ext (fin_two (hw.trans (hE.trans hF)) hB3 hz fr2.out (hw.trans hE).size).2.1 ?_); exact Ext.drew (Ext.refl _)) | (exact cellsP (fin_two (hw.trans (hE.trans hF)) hB3 hz fr1.out hw.size).2.1) | (refine cellsP (Bks.ext (fin_two (hw.trans (hE.trans hF)) hB3 hz fr1.out hw.size).2.1 ?_); exact Ext.drew (Ext.refl _)))
      (first
      | (go_at_call 14; refine (paper_c a f s mid sc _).mono ?_; rintro e w2 ⟨rfl, hx⟩; have hE : Ext w1 w2 := (by first | exact (ext1 hx.of_drew).2 | exact hx.of_drew | exact bareN hx rfl rfl rfl rfl); (first | (have hz := (ext1 hx.of_drew).1) | skip); clear kc kl; have hB2 := hB.ext hE; have fr2 := Lib.hid hB2.fresh; have kc := And.intro hB2.1.cell hB2.2.1.cell; have kl := And.intro hB2.1.lt hB2.2.1.lt)
      | (go_at_call 17; ((first | (refine (HT.out w2 (H8.out.ext (hw.trans hE))).mono ?_) | (refine (HT.out _ (H8.out.ext ((hw.trans hE).alloc _))).mono ?_)); rintro e w3 ⟨x1, y1, v2, rfl, hv2, hx1, hy1, hx'⟩; have hF : Ext w2 w3 := (by first | exact bareN hx' rfl rfl rfl rfl | exact bareN (ext1 hx').2 rfl rfl rfl rfl); (first | (have hz := (ext1 hx').1) | (replace hz := hz.ext hF) | skip); have hB3 := hB2.ext hF; clear kc; (first | (have cZ := hz.cell; have fZ := hz.frozen) | skip))))
    all_goals
      have hL3 : Ext w w3 := (hw.trans hE).trans hF
      have s1 : w.heap.size ≤ w1.heap.size := hw.size
      have s2 : w.heap.size ≤ w2.heap.size := (hw.trans hE).size
      (try go_wp2_with fail)
      go_meet
      first
        | exact ⟨w3.heap.size, x1, y1, _, rfl, rfl, hv2, hx1, hy1, fin_new hL3 hB3⟩
        | exact ⟨w2.heap.size, x1, y1, _, rfl, rfl, hv2, hx1, hy1, fin_two hL3 hB3 hz fr2.out s2⟩
        | exact ⟨w1.heap.size, x1, y1, _, rfl, rfl, hv2, hx1, hy1, fin_two hL3 hB3 hz fr1.out s1⟩
  case rest =>
    clear hB hw kc kl
    obtain ⟨nb, x1, y1, v2, rfl, rfl, hv2, hx1, hy1, hw, hB, hP⟩ := hcut
    have kc := And.intro hB.1.cell (And.intro hB.2.1.cell hP.cell)
    go_wp2_with (first
      | (go_at_call 18; go_must (refine (HPL.out _).mono ?_; rintro e v3 ⟨rfl, hx⟩; clear kc; replace hB := hB.ext hx; replace hP := hP.ext hx; replace hw := hw.trans hx; clear hx; have kc := And.intro hB.1.cell (And.intro hB.2.1.cell hP.cell)))
      | (go_at_call 12; go_must (refine (coded_c (H8.out.ext hw) hv2 _).mono ?_; rintro e v3 ⟨rfl, hx⟩; rw [decide_eq_true (rfl : ke = ke)]; clear kc; replace hB := hB.ext hx; replace hP := hP.ext hx; replace hw := hw.trans hx; clear hx; have kc := And.intro hB.1.cell (And.intro hB.2.1.cell hP.cell)))
      | (go_at_call 19; go_must (refine (sameFlat_c x1 y1 0 0 (hx1.trans can0.symm) (hy1.trans can0.symm) _).mono ?_; rintro e v3 ⟨rfl, hx⟩; clear kc; replace hB := hB.ext hx; replace hP := hP.ext hx; replace hw := hw.trans hx; clear hx; have kc := And.intro hB.1.cell (And.intro hB.2.1.cell hP.cell))))
    all_goals go_ret
    all_goals exact ⟨rfl, hw⟩
set_option maxHeartbeats 8000000 in
theorem flatTo_ok {A : Nat → Addr} {s : ByteArray} {n : Nat} (hK : KindIs s n) (a f : Nat) (mid : Int) (sc : Nat) (lon lat : Int) (w : World) (h8 : World8 A w) (hk : chkP (papP (okG a f) n sc) n lat = 0) (h3 : n ≠ 3) :
    Calls Tryz.prog 4 #[paperV a f s mid sc, placeW lon lat] w (ExR (.bool true) w) := by
  have HV := Lib.hid (fun (w : World) (h : World8 A w) => pvalid_c hK a f mid sc w h)
  have HPE := Lib.hid (fun (w : World) => paperError_c hK a f mid sc w)
  have HPL := Lib.hid (fun (w : World) => placeError_c hK a f mid sc lon lat w)
  have HT := Lib.hid (fun (w : World) (h : World8 A w) => to_ok hK a f mid sc lon lat w h hk h3)
  have HF := Lib.hid (fun (w : World) => flatOf_c hK a f mid sc lon lat w h3)
  rw [hk] at HPL
  generalize flatX n a f sc mid lon lat = X at *
  generalize flatY n a f sc mid lon lat = Y at *
  clear hk h3
  generalize papP (okG a f) n sc = kp at *
  have H8 := Lib.hid h8
  clear hK h8
  go_enter Tryz.func4, Tryz.ntmps4
  go_wp2_with (first
    | (go_at_call 13; go_must (refine (drawn_c _ (H8.out.ext (by repeat (first | exact Ext.refl _ | refine Ext.alloc ?_ _)))).mono ?_; rintro e w1 ⟨rfl, hx⟩; obtain ⟨hb1, hb2, hw⟩ := ext2 hx; clear hx)))
  refine wp_region_all (fun g args v => (g = 14 ∧ v = paperV a f s mid sc) ∨ (g = 15 ∧ ErrOf A kp v) ∨ (g = 16 ∧ v = .int .i64 kp) ∨ (g = 12 ∧ v = .bool true)) (by kernel_rfl) (by kernel_rfl) ?_
  repeat (first
    | (refine wpR_op rfl (fun w9 hw9 K hK => ?_); have k1 := (hb1.ext (bareN hw9 rfl rfl rfl rfl)).cell; go_simp; refine hK _ ?_; clear hK K k1 hw9 w9)
    | (refine wpR_op rfl (fun w9 hw9 K hK => ?_); go_simp; refine rel_call (ExR.call (paper_c a f s mid sc _)) (fun v => ?_) (fun v hv => ?_); (simp); subst hv; refine hK _ ?_; clear hK K hw9 w9)
    | (refine wpR_op rfl (fun w9 hw9 K hK => ?_); go_simp; refine rel_call (HV.out _ (H8.out.ext (hw.trans (bareN hw9 rfl rfl rfl rfl)))) (fun v => ?_) (fun v1 hv1 => ?_); (simp); refine hK _ ?_; clear hK K hw9 w9)
    | (refine wpR_op rfl (fun w9 hw9 K hK => ?_); go_simp; refine rel_call (ExR.call (HPE.out _)) (fun v => ?_) (fun v hv => ?_); (simp); subst hv; refine hK _ ?_; clear hK K hw9 w9)
    | (refine wpR_op rfl (fun w9 hw9 K hK => ?_); go_simp; refine rel_call (ExR.call (coded_c (H8.out.ext (hw.trans (bareN hw9 rfl rfl rfl rfl))) hv1 _)) (fun v => ?_) (fun v hv => ?_); (simp); subst hv; rw [decide_eq_true (rfl : kp = kp)]; refine hK _ ?_; clear hK K hw9 w9))
  refine wpR_nil ?_
  intro w1 hx8 _
  replace hw := hw.trans (bareN hx8 rfl rfl rfl rfl)
  replace hb2 := hb2.ext (bareN hx8 rfl rfl rfl rfl)
  replace hb1 := hb1.ext (bareN hx8 rfl rfl rfl rfl)
  clear hx8
  have hB : Bks w1 [(w.heap.size, 45, #[Value.float .f64 a, Value.float .f64 f, Value.string s, Value.int .i64 mid, Value.float .f64 sc]), (w.heap.size + 1, 31, #[Value.int .i64 lon, Value.int .i64 lat])] := ⟨hb1, hb2, trivial⟩
  clear hb1 hb2
  have kc := And.intro hB.1.cell hB.2.1.cell
  have kl := And.intro hB.1.lt hB.2.1.lt
  go_wp2_with fail
  go_cut [7, 8] (fun s1 s2 wx => ∃ (nb x1 y1 : Nat) (v2 : Value), s1 = .pointer (some ⟨nb, 0, none⟩) ∧ s2 = v2 ∧ ErrOf A (0 : Int) v2 ∧ can x1 = X ∧ can y1 = Y ∧ Ext w wx ∧ Bks wx [(w.heap.size, 45, #[Value.float .f64 a, Value.float .f64 f, Value.string s, Value.int .i64 mid, Value.float .f64 sc]), (w.heap.size + 1, 31, #[Value.int .i64 lon, Value.int .i64 lat])] ∧ Blk wx nb 28 #[.float .f64 x1, .float .f64 y1])
  case first =>
    have fr1 := Lib.hid hB.fresh
    go_region_held3 (fun w' => w'.cell? ⟨w.heap.size, 0, none⟩ = some (.float .f64 a) ∧ w'.cell? ⟨w.heap.size, 1, none⟩ = some (.float .f64 f) ∧ w'.cell? ⟨w.heap.size, 2, none⟩ = some (.string s) ∧ w'.cell? ⟨w.heap.size, 3, none⟩ = some (.int .i64 mid) ∧ w'.cell? ⟨w.heap.size, 4, none⟩ = some (.float .f64 sc) ∧ w'.cell? ⟨w.heap.size + 1, 0, none⟩ = some (.int .i64 lon) ∧ w'.cell? ⟨w.heap.size + 1, 1, none⟩ = some (.int .i64 lat))
      (first | (refine cellsP (Bks.ext hB3 ?_); (repeat (first | exact Ext.refl _ | refine Ext.drew ?_ | refine Ext.alloc ?_ _)); done) | (refine cellsP (Bks.ext hB2 ?_); (repeat (first | exact Ext.refl _ | refine Ext.drew ?_ | refine Ext.alloc ?_ _)); done) | (refine cellsP (Bks.ext hB ?_); (repeat (first | exact Ext.refl _ | refine Ext.drew ?_ | refine Ext.alloc ?_ _)); done) | (exact cellsP (fin_two (hw.trans (hE.trans hF)) hB3 hz fr2.out (hw.trans hE).size).2.1) | (refine cellsP (Bks.ext (fin_two (hw.trans (hE.trans hF)) hB3 hz fr2.out (hw.trans hE).size).2.1 ?_); exact Ext.drew (Ext.refl _)) | (exact cellsP (fin_two (hw.trans (hE.trans hF)) hB3 hz fr1.out hw.size).2.1) | (refine cellsP (Bks.ext (fin_two (hw.trans (hE.trans hF)) hB3 hz fr1.out hw.size).2.1 ?_); exact Ext.drew (Ext.refl _)))
      (first
      | (go_at_call 14; refine (paper_c a f s mid sc _).mono ?_; rintro e w2 ⟨rfl, hx⟩; have hE : Ext w1 w2 := (by first | exact (ext1 hx.of_drew).2 | exact hx.of_drew | exact bareN hx rfl rfl rfl rfl); (first | (have hz := (ext1 hx.of_drew).1) | skip); clear kc kl; have hB2 := hB.ext hE; have fr2 := Lib.hid hB2.fresh; have kc := And.intro hB2.1.cell hB2.2.1.cell; have kl := And.intro hB2.1.lt hB2.2.1.lt)
      | (go_at_call 17; ((first | (refine (HT.out w2 (H8.out.ext (hw.trans hE))).mono ?_) | (refine (HT.out _ (H8.out.ext ((hw.trans hE).alloc _))).mono ?_)); rintro e w3 ⟨x1, y1, v2, rfl, hv2, hx1, hy1, hx'⟩; have hF : Ext w2 w3 := (by first | exact bareN hx' rfl rfl rfl rfl | exact bareN (ext1 hx').2 rfl rfl rfl rfl); (first | (have hz := (ext1 hx').1) | (replace hz := hz.ext hF) | skip); have hB3 := hB2.ext hF; clear kc; (first | (have cZ := hz.cell; have fZ := hz.frozen) | skip))))
    all_goals
      have hL3 : Ext w w3 := (hw.trans hE).trans hF
      have s1 : w.heap.size ≤ w1.heap.size := hw.size
      have s2 : w.heap.size ≤ w2.heap.size := (hw.trans hE).size
      (try go_wp2_with fail)
      go_meet
      first
        | exact ⟨w3.heap.size, x1, y1, _, rfl, rfl, hv2, hx1, hy1, fin_new hL3 hB3⟩
        | exact ⟨w2.heap.size, x1, y1, _, rfl, rfl, hv2, hx1, hy1, fin_two hL3 hB3 hz fr2.out s2⟩
        | exact ⟨w1.heap.size, x1, y1, _, rfl, rfl, hv2, hx1, hy1, fin_two hL3 hB3 hz fr1.out s1⟩
  case rest =>
    clear hB hw kc kl
    obtain ⟨nb, x1, y1, v2, rfl, rfl, hv2, hx1, hy1, hw, hB, hP⟩ := hcut
    have kc := And.intro hB.1.cell (And.intro hB.2.1.cell hP.cell)
    go_wp2_with (first
      | (go_at_call 18; go_must (refine (HPL.out _).mono ?_; rintro e v3 ⟨rfl, hx⟩; clear kc; replace hB := hB.ext hx; replace hP := hP.ext hx; replace hw := hw.trans hx; clear hx; have kc := And.intro hB.1.cell (And.intro hB.2.1.cell hP.cell)))
      | (go_at_call 12; go_must (refine (coded_c (H8.out.ext hw) hv2 _).mono ?_; rintro e v3 ⟨rfl, hx⟩; rw [decide_eq_true (rfl : (0 : Int) = (0 : Int))]; clear kc; replace hB := hB.ext hx; replace hP := hP.ext hx; replace hw := hw.trans hx; clear hx; have kc := And.intro hB.1.cell (And.intro hB.2.1.cell hP.cell)))
      | (go_at_call 19; go_must (refine (sameFlat_c x1 y1 x2 y2 (hx1.trans hx2.symm) (hy1.trans hy2.symm) _).mono ?_; rintro e v3 ⟨rfl, hx⟩; clear kc; replace hB := hB.ext hx; replace hP := hP.ext hx; replace hw := hw.trans hx; clear hx; have kc := And.intro hB.1.cell (And.intro hB.2.1.cell hP.cell))))
    refine wp_region_all (fun g args v => (g = 20 ∧ isFlat X Y v) ∨ (g = 19 ∧ v = .bool true)) (by kernel_rfl) (by kernel_rfl) ?_
    repeat (first
      | (refine wpR_want rfl (fun w9 hw9 K hK => ?_); have kb := hB.ext (bareN hw9 rfl rfl rfl rfl); have kd := And.intro kb.1.cell (And.intro kb.2.1.cell (hP.ext (bareN hw9 rfl rfl rfl rfl)).cell); clear kb; go_simp; refine hK _ ?_; clear hK K kd hw9 w9)
      | (refine wpR_want rfl (fun w9 hw9 K hK => ?_); go_simp; refine rel_call (FlatQ.call (HF.out _)) (fun v => ?_) (fun v hv => ?_); (simp); obtain ⟨x2, y2, rfl, hx2, hy2⟩ := hv; refine hK _ ?_; clear hK K hw9 w9)
      | (refine wpR_want rfl (fun w9 hw9 K hK => ?_); go_simp; refine rel_call (ExR.call (sameFlat_c x1 y1 x2 y2 (hx1.trans hx2.symm) (hy1.trans hy2.symm) _)) (fun v => ?_) (fun v hv => ?_); (simp); subst hv; refine hK _ ?_; clear hK K hw9 w9))
    refine wpR_nil ?_
    intro w7 hx7 _
    replace hw := hw.trans (bareN hx7 rfl rfl rfl rfl)
    go_wp2_with fail
    go_ret
    exact ⟨rfl, hw⟩

theorem flatTo_walk {A : Nat → Addr} (a f : Nat) (s : ByteArray) (mid : Int) (sc : Nat) (lon lat : Int) (w : World) (h8 : World8 A w) : Calls Tryz.prog 4 #[paperV a f s mid sc, placeW lon lat] w (ExR (.bool true) w) := by
  obtain ⟨n, hK⟩ := kind_some s
  rcases chkP_cases (okG a f) n sc lat with hk | ⟨hk, h3⟩
  · exact flatTo_bad hK a f mid sc lon lat w h8 hk
  · exact flatTo_ok hK a f mid sc lon lat w h8 hk h3
end Go.Proofs.YtkfeiciopehhnaaGreatDoor
