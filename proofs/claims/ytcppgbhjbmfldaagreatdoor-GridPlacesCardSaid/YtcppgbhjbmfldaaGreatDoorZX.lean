/- Walks: the numbers of a series of a globe that is none. -/
import Derived.Test.YtcppgbhjbmfldaaGreatDoorZW
namespace Go.Proofs.YtcppgbhjbmfldaaGreatDoor
open Go.RowKit Go.Fp Go.Rel
set_option maxRecDepth 20000

theorem ext_setA {w b : World} (h : Ext w b) (i : Nat) (v : Value) : Ext w (b.setCell ⟨w.heap.size + 1, i, none⟩ v) := h.setCell (by show w.heap.size ≤ w.heap.size + 1; omega) v
theorem ext_setB {w b : World} (h : Ext w b) (i : Nat) (v : Value) : Ext w (b.setCell ⟨w.heap.size + 1 + 1, i, none⟩ v) := h.setCell (by show w.heap.size ≤ w.heap.size + 1 + 1; omega) v
set_option maxHeartbeats 4000000 in
theorem series_bad {A : Nat → Addr} (a f : Nat) (w : World) (h8 : World8 A w) (hg : okG a f = false) :
    Calls Tryz.prog 34 #[globeV a f] w (ExR (.tuple #[.float .f64 0, .agg #[.float .f64 0, .float .f64 0, .float .f64 0, .float .f64 0], .agg #[.float .f64 0, .float .f64 0, .float .f64 0, .float .f64 0], errV (A 4)]) w) := by
  have HV0 := fun w h => valid_c (A := A) a f w h
  simp only [hg, Bool.false_eq_true, if_false] at HV0
  have HV := Lib.hid HV0
  clear HV0
  go_enter Tryz.func34, Tryz.ntmps34
  go_wp2_with (first
    | (go_at_call 65; go_must (refine (HV.out _ (h8.ext ((((Ext.refl w).alloc _).alloc _).alloc _))).mono ?_; rintro e w1 ⟨rfl, hx⟩; obtain ⟨hb1, hb2, hb3, hw⟩ := ext3 hx; clear hx; have c2 := hb2.cell; have c3 := hb3.cell; have f2 := hb2.frozen; have f3 := hb3.frozen)))
  go_region
  all_goals go_wp2_with fail
  all_goals exact bodyPost_ret (v := .tuple #[.float .f64 0, .agg #[.float .f64 0, .float .f64 0, .float .f64 0, .float .f64 0], .agg #[.float .f64 0, .float .f64 0, .float .f64 0, .float .f64 0], errV (A 4)]) (by simp [results, Tryz.results34, go_sem, c2, c3]) rfl ⟨rfl, (by repeat (first | (with_reducible exact hw) | (with_reducible refine ext_setA ?_ _ _) | (with_reducible refine ext_setB ?_ _ _) | (with_reducible refine Ext.drew ?_)))⟩
end Go.Proofs.YtcppgbhjbmfldaaGreatDoor

/- Walks: a place that is on no strip: package wave's look, To and Turned, the reference's TurnednessOf. -/
namespace Go.Proofs.YtcppgbhjbmfldaaGreatDoor
open Go.RowKit Go.Fp Go.Rel
set_option maxRecDepth 20000

/-- an error of a number that is not none -/
def BadR (A : Nat → Addr) (K : Int) (f : Value → Value) (w : World) (e : Ending) (w' : World) : Prop := ∃ v, e = .returned (f v) ∧ ErrOf A K v ∧ v ≠ .nilIface ∧ Ext w w'
theorem shape_not {A : Nat → Addr} {g : Nat} : errV (A g) ≠ .nilIface := by intro h; cases h
theorem look_far {lat off : Int} (h : lookK 0 lat off ≠ 0) : lookK 0 lat off = 4 ∧ (89000000000 < lat ∨ lat < -89000000000 ∨ 45000000000 < off ∨ off < -45000000000) := by
  unfold lookK at *
  rw [if_neg (by decide)] at *
  split
  · rename_i hc; exact ⟨rfl, hc⟩
  · rename_i hc; rw [if_neg hc] at h; exact absurd rfl h

/-- the error value that a bad place brings -/
def BadAt (A : Nat → Addr) (K : Int) (g : Nat) : Prop := ErrOf A K (errV (A g))

set_option maxHeartbeats 8000000 in
theorem look_shape {A : Nat → Addr} (a f : Nat) (mid : Int) (sc : Nat) (lon lat : Int) (w : World) (h8 : World8 A w) (hk : strP (okG a f) sc = 3) :
    Calls Tryz.prog 33 #[stripV a f mid sc, placeU lon lat] w (ExR (.tuple #[wideV 0 0 0 0, errV (A 4)]) w) := by
  have HC0 := fun w h8 => svalid_c (A := A) a f mid sc w h8
  simp only [hk] at HC0
  have HC := Lib.hid HC0
  clear hk HC0
  go_enter Tryz.func33, Tryz.ntmps33
  go_wp2_with (first
    | (go_at_call 51; go_must (refine (HC.out _ (h8.ext (by repeat (first | exact Ext.refl _ | refine Ext.alloc ?_ _)))).mono ?_; rintro e w1 ⟨v, rfl, hv, hx⟩; cases hv; obtain ⟨hb1, hb2, hb3, hw⟩ := ext3 hx; clear hx))
    | (refine wpList_own rfl 78 _ _ rfl _ _ rfl rfl _ _ hb3 (by kernel_rfl) rfl (by simp [Value.oneCell']) ?_; go_must (intro u bn en sn; replace hw := en w (by repeat (first | exact hw | refine Ext.drewN ?_ _)) (by omega); have kc := bn.cell; clear sn en hb3)))
  exact bodyPost_ret (v := .tuple #[wideV 0 0 0 0, errV (A 4)]) (by simp [results, Tryz.results33, go_sem, kc]) rfl ⟨rfl, hw⟩

set_option maxHeartbeats 8000000 in
theorem look_range {A : Nat → Addr} (a f : Nat) (mid : Int) (sc : Nat) (lon lat : Int) (w : World) (h8 : World8 A w) (hk : strP (okG a f) sc = 0) (hl : lookK 0 lat (signP (dS mid lon)) ≠ 0) :
    Calls Tryz.prog 33 #[stripV a f mid sc, placeU lon lat] w (ExR (.tuple #[wideV 0 0 0 0, errV (A 0)]) w) := by
  have HC := Lib.hid (fun w h8 => svalid_ok (A := A) a f mid sc hk w h8)
  clear hk
  have W1 := dS_wrap mid lon
  obtain ⟨d, hd⟩ : ∃ d, d = dS mid lon := ⟨_, rfl⟩
  rw [← hd] at W1 hl
  obtain ⟨off, hoff⟩ : ∃ o, o = signP d := ⟨_, rfl⟩
  have W2 := hoff.symm
  rw [← hoff] at hl
  have HH := Lib.hid (look_far hl).2
  clear hl hoff hd
  go_enter Tryz.func33, Tryz.ntmps33
  go_wp2_with (first
    | (go_at_call 51; go_must (refine (HC.out _ (h8.ext (by repeat (first | exact Ext.refl _ | refine Ext.alloc ?_ _)))).mono ?_; rintro e w1 ⟨rfl, hx⟩; obtain ⟨hb1, hb2, hb3, hw⟩ := ext3 hx; have c1 := hb1.cell; have c2 := hb2.cell; clear hx)))
  clear c1 c2
  refine wp_region_all (fun g args v => g = 57 ∧ SpI normP args v) (by kernel_rfl) (by kernel_rfl) ?_
  repeat (first
    | (refine wpR_op rfl (fun w9 hw9 K hK => ?_); have k1 := (hb1.ext (bareN hw9 rfl rfl rfl rfl)).cell; have k2 := (hb2.ext (bareN hw9 rfl rfl rfl rfl)).cell; go_simp; refine hK _ ?_; clear hK K k1 k2 hw9 w9)
    | (refine wpR_op rfl (fun w9 hw9 K hK => ?_); go_simp; refine rel_call (call_same (norm_c _ _)) (fun v => ?_) (fun v hv => ?_); (simp [spI_iff]); subst hv; refine hK _ ?_; clear hK K hw9 w9))
  refine wpR_nil ?_
  intro w8 hx8 _
  replace hw := hw.trans (bareN hx8 rfl rfl rfl rfl)
  replace hb3 := hb3.ext (bareN hx8 rfl rfl rfl rfl)
  replace hb2 := hb2.ext (bareN hx8 rfl rfl rfl rfl)
  clear hx8 hb1
  have c2 := hb2.cell
  have kg := (h8.ext hw).errs.cell 0 (by decide)
  go_wp2_with (first
    | (go_at_call 31; go_must (refine (signed_c _ _).mono ?_; rintro e w2 ⟨rfl, hx⟩; replace hw := hw.trans (bareN hx rfl rfl rfl rfl); replace hb3 := hb3.ext (bareN hx rfl rfl rfl rfl); replace hb2 := hb2.ext (bareN hx rfl rfl rfl rfl); clear c2 hx; have c2 := hb2.cell; clear kg; have kg := (h8.ext hw).errs.cell 0 (by decide); have c3 := hb3.cell; have f3 := hb3.frozen))
    | (refine wpList_own rfl 78 _ _ rfl _ _ rfl rfl _ _ hb3 (by kernel_rfl) rfl (by simp [Value.oneCell']) ?_; go_must (intro u bn en sn; replace hw := en w (by repeat (first | exact hw | refine Ext.drewN ?_ _)) (by omega); have kc := bn.cell; clear sn en hb3)))
  all_goals (first | (exfalso; have := HH.out; omega) | skip)
  all_goals go_region
  all_goals go_wp2_with fail
  all_goals first
    | exact bodyPost_ret (v := .tuple #[wideV 0 0 0 0, errV (A 0)]) (by simp [results, Tryz.results33, go_sem, c3]) rfl ⟨rfl, (by repeat (first | (with_reducible exact hw) | (with_reducible refine ext_setB ?_ _ _) | (with_reducible refine Ext.drew ?_)))⟩
    | trace_state

set_option maxHeartbeats 8000000 in
theorem turned_shape (a f : Nat) (mid : Int) (sc : Nat) (lon lat : Int) (w : World) (hk : strP (okG a f) sc = 3) :
    Calls Tryz.prog 21 #[stripV a f mid sc, placeU lon lat] w (ExR (.tuple #[wideV 0 0 0 0, .int .i64 3]) w) := by
  have HC := Lib.hid (stripError_c a f mid sc)
  rw [hk] at HC
  clear hk
  go_enter Tryz.func21, Tryz.ntmps21
  go_wp2_with (first
    | (go_at_call 38; go_must (refine (HC.out _).mono ?_; rintro e w1 ⟨rfl, hx⟩; obtain ⟨hb1, hb2, hb3, hw⟩ := ext3 hx; clear hx))
    | (refine wpList_own rfl 63 _ _ rfl _ _ rfl rfl _ _ hb3 (by kernel_rfl) rfl (by simp [Value.oneCell']) ?_; go_must (intro u bn en sn; replace hw := en w (by repeat (first | exact hw | refine Ext.drewN ?_ _)) (by omega); have kc := bn.cell; clear sn en hb3)))
  exact bodyPost_ret (v := .tuple #[wideV 0 0 0 0, .int .i64 3]) (by simp [results, Tryz.results21, go_sem, kc]) rfl ⟨rfl, hw⟩

set_option maxHeartbeats 8000000 in
theorem turned_range (a f : Nat) (mid : Int) (sc : Nat) (lon lat : Int) (w : World) (hk : strP (okG a f) sc = 0) (hl : lookK 0 lat (signP (dS mid lon)) ≠ 0) :
    Calls Tryz.prog 21 #[stripV a f mid sc, placeU lon lat] w (ExR (.tuple #[wideV 0 0 0 0, .int .i64 4]) w) := by
  have HC := Lib.hid (stripError_c a f mid sc)
  rw [hk] at HC
  clear hk
  have W1 := dS_wrap mid lon
  obtain ⟨d, hd⟩ : ∃ d, d = dS mid lon := ⟨_, rfl⟩
  rw [← hd] at W1 hl
  obtain ⟨off, hoff⟩ : ∃ o, o = signP d := ⟨_, rfl⟩
  have W2 := hoff.symm
  rw [← hoff] at hl
  have HH := Lib.hid (look_far hl).2
  clear hl hoff hd
  go_enter Tryz.func21, Tryz.ntmps21
  go_wp2_with (first
    | (go_at_call 38; go_must (refine (HC.out _).mono ?_; rintro e w1 ⟨rfl, hx⟩; obtain ⟨hb1, hb2, hb3, hw⟩ := ext3 hx; have c1 := hb1.cell; have c2 := hb2.cell; clear hx)))
  clear c1 c2
  refine wp_region_all (fun g args v => g = 29 ∧ SpI normP args v) (by kernel_rfl) (by kernel_rfl) ?_
  repeat (first
    | (refine wpR_op rfl (fun w9 hw9 K hK => ?_); have k1 := (hb1.ext (bareN hw9 rfl rfl rfl rfl)).cell; have k2 := (hb2.ext (bareN hw9 rfl rfl rfl rfl)).cell; go_simp; refine hK _ ?_; clear hK K k1 k2 hw9 w9)
    | (refine wpR_op rfl (fun w9 hw9 K hK => ?_); go_simp; refine rel_call (call_same (normOf_c _ _)) (fun v => ?_) (fun v hv => ?_); (simp [spI_iff]); subst hv; refine hK _ ?_; clear hK K hw9 w9))
  refine wpR_nil ?_
  intro w8 hx8 _
  replace hw := hw.trans (bareN hx8 rfl rfl rfl rfl)
  replace hb3 := hb3.ext (bareN hx8 rfl rfl rfl rfl)
  replace hb2 := hb2.ext (bareN hx8 rfl rfl rfl rfl)
  clear hx8 hb1
  have c2 := hb2.cell
  go_wp2_with (first
    | (go_at_call 28; go_must (refine (signedAngle_c _ _).mono ?_; rintro e w2 ⟨rfl, hx⟩; replace hw := hw.trans (bareN hx rfl rfl rfl rfl); replace hb3 := hb3.ext (bareN hx rfl rfl rfl rfl); replace hb2 := hb2.ext (bareN hx rfl rfl rfl rfl); clear c2 hx; have c2 := hb2.cell))
    | (refine wpList_own rfl 63 _ _ rfl _ _ rfl rfl _ _ hb3 (by kernel_rfl) rfl (by simp [Value.oneCell']) ?_; go_must (intro u bn en sn; replace hw := en w (by repeat (first | exact hw | refine Ext.drewN ?_ _)) (by omega); have kc := bn.cell; clear sn en hb3)))
  all_goals (first | (exact bodyPost_ret (v := .tuple #[wideV 0 0 0 0, .int .i64 4]) (by simp [results, Tryz.results21, go_sem, kc]) rfl ⟨rfl, hw⟩) | (exfalso; have := HH.out; omega))

/-- a bad place: look's error -/
theorem look_bad {A : Nat → Addr} (a f : Nat) (mid : Int) (sc : Nat) (lon lat : Int) (h : lookK (strP (okG a f) sc) lat (signP (dS mid lon)) ≠ 0) : ∃ g, ErrOf A (lookK (strP (okG a f) sc) lat (signP (dS mid lon))) (errV (A g)) ∧
    (∀ w, World8 A w → Calls Tryz.prog 33 #[stripV a f mid sc, placeU lon lat] w (ExR (.tuple #[wideV 0 0 0 0, errV (A g)]) w)) ∧
    (∀ w, Calls Tryz.prog 21 #[stripV a f mid sc, placeU lon lat] w (ExR (.tuple #[wideV 0 0 0 0, .int .i64 (lookK (strP (okG a f) sc) lat (signP (dS mid lon)))]) w)) := by
  rcases strP_cases (okG a f) sc with hk | hk
  · rw [hk] at h ⊢
    have h4 := (look_far h).1
    rw [h4]
    exact ⟨0, .range, fun w h8 => look_range a f mid sc lon lat w h8 hk h, fun w => turned_range a f mid sc lon lat w hk h⟩
  · rw [hk]
    have h3 : lookK 3 lat (signP (dS mid lon)) = 3 := by unfold lookK; rw [if_pos (by decide)]
    rw [h3]
    exact ⟨4, .shape, fun w h8 => look_shape a f mid sc lon lat w h8 hk, fun w => turned_shape a f mid sc lon lat w hk⟩

set_option maxHeartbeats 4000000 in
theorem sto_bad {A : Nat → Addr} (a f : Nat) (mid : Int) (sc : Nat) (lon lat : Int) (g : Nat) (HL0 : ∀ w, World8 A w → Calls Tryz.prog 33 #[stripV a f mid sc, placeU lon lat] w (ExR (.tuple #[wideV 0 0 0 0, errV (A g)]) w)) (w : World) (h8 : World8 A w) :
    Calls Tryz.prog 16 #[stripV a f mid sc, placeU lon lat] w (ExR (.tuple #[flatU 0 0, errV (A g)]) w) := by
  have HL := Lib.hid HL0
  clear HL0
  go_enter Tryz.func16, Tryz.ntmps16
  go_wp2_with (first
    | (go_at_call 33; go_must (refine (HL.out _ (h8.ext (by repeat (first | exact Ext.refl _ | refine Ext.alloc ?_ _)))).mono ?_; rintro e w1 ⟨rfl, hx⟩; obtain ⟨hb1, hb2, hb3, hw⟩ := ext3 hx; replace hb3 := hb3.ext ((Ext.refl w1).alloc (.cells #[.float .f64 0, .int .i64 0, .int .i64 0, .float .f64 0] 78)); replace hw := hw.trans ((Ext.refl w1).alloc (.cells #[.float .f64 0, .int .i64 0, .int .i64 0, .float .f64 0] 78)); clear hx))
    | (refine wpList_own rfl 48 _ _ rfl _ _ rfl rfl _ _ hb3 (by kernel_rfl) rfl (by simp [Value.oneCell']) ?_; go_must (intro u bn en sn; replace hw := en w (by repeat (first | exact hw | refine Ext.drewN ?_ _)) (by omega); have kc := bn.cell; clear sn en hb3)))
  exact bodyPost_ret (v := .tuple #[flatU 0 0, errV (A g)]) (by simp [results, Tryz.results16, go_sem, kc]) rfl ⟨rfl, hw⟩

end Go.Proofs.YtcppgbhjbmfldaaGreatDoor

/- Walk: a place's point on a strip, the reference's. -/
namespace Go.Proofs.YtcppgbhjbmfldaaGreatDoor
open Go.RowKit Go.Fp Go.Rel
set_option maxRecDepth 20000

def isPair (X Y : Nat) (v : Value) : Prop := ∃ x y, v = .agg #[.float .f64 x, .float .f64 y] ∧ can x = X ∧ can y = Y
theorem PairR.call {P : Program} {f : FuncId} {args : Array Value} {X Y : Nat} {W : World} (h : Calls P f args W (PairR X Y W)) : Calls P f args W (fun e w' => ∃ v, e = .returned v ∧ isPair X Y v ∧ Ext W w') :=
  h.mono fun _ _ ⟨x, y, he, hx, hy, hw⟩ => ⟨_, he, ⟨x, y, rfl, hx, hy⟩, hw⟩
def SpPP (args : Array Value) (v : Value) : Prop := ∃ zr zi f wr wi : Nat, args = #[.agg #[.float .f64 zr, .float .f64 zi], .float .f64 f, .agg #[.float .f64 wr, .float .f64 wi]] ∧ isPair (fadd (can zr) (fmul (can f) (can wr))) (fadd (can zi) (fmul (can f) (can wi))) v
theorem spPP_iff (zr zi f wr wi : Nat) (v : Value) : SpPP #[.agg #[.float .f64 zr, .float .f64 zi], .float .f64 f, .agg #[.float .f64 wr, .float .f64 wi]] v ↔ isPair (fadd (can zr) (fmul (can f) (can wr))) (fadd (can zi) (fmul (can f) (can wi))) v := by
  unfold SpPP
  exact ⟨fun ⟨_, _, _, _, _, h, k⟩ => by simp at h; obtain ⟨⟨rfl, rfl⟩, rfl, rfl, rfl⟩ := h; exact k, fun h => ⟨_, _, _, _, _, rfl, h⟩⟩
theorem fl4_pick {T : Nat → List Nat} {c f g y0 y1 y2 y3 : Nat} (h : can y0 = rowS T c f 0 ∧ can y1 = rowS T c f 1 ∧ can y2 = rowS T c f 2 ∧ can y3 = rowS T c f 3) (k : Nat) (hk : k < 4) :
    ∃ y, can y = rowS T c f k ∧ ∀ w, Fl4 w g y0 y1 y2 y3 → w.cell? ⟨g, k, none⟩ = some (.float .f64 y) := by
  obtain ⟨h0, h1, h2, h3⟩ := h
  rcases k with _ | _ | _ | _ | k
  · exact ⟨y0, h0, fun w h => h.1⟩
  · exact ⟨y1, h1, fun w h => h.2.1⟩
  · exact ⟨y2, h2, fun w h => h.2.2.1⟩
  · exact ⟨y3, h3, fun w h => h.2.2.2⟩
  · omega

set_option maxHeartbeats 16000000 in
theorem onStrip_c (a f : Nat) (mid : Int) (sc t : Nat) (d u : Int) (v : Nat) (w : World) (hg : okG a f = true) (u1 : -180000000000 ≤ u) (u2 : u ≤ 180000000000) :
    Calls Tryz.prog 22 #[stripV a f mid sc, wideV t d u v] w (fun e w' => ∃ x y, e = .returned (flatU x y) ∧ can x = stripX a f sc u (can v) ∧ can y = stripY a f sc u (can v) ∧ Ext w w') := by
  have HN := Lib.hid (fun w => numbersOf_c a f w hg)
  clear hg
  go_enter Tryz.func22, Tryz.ntmps22
  go_wp2_with (first
    | (go_at_call 45; go_must (refine (HN.out _).mono ?_; rintro e w1 ⟨r', ga, ca, gb, cb, y0, y1, y2, y3, z0, z1, z2, z3, rfl, hr', hA', hB', hfa, hfb, hx⟩; obtain ⟨hb1, hb2, hb3, hw⟩ := ext3 hx; have sz3 := hb3.lt; have hga := hfa.lt; have HR := Lib.hid hr'; have HA := Lib.hid hA'; clear hx hr' hA' hB' hfb; have k1 : ∀ o i, (w1.alloc o).cell? ⟨w.heap.size + 1, i, none⟩ = #[Value.float .f64 t, Value.int .i64 d, Value.int .i64 u, Value.float .f64 v][i]? := (fun o i => (hb2.ext ((Ext.refl w1).alloc o)).cell i); have k2 : ∀ o n i, ((w1.alloc o).drewN n).cell? ⟨w.heap.size + 1, i, none⟩ = #[Value.float .f64 t, Value.int .i64 d, Value.int .i64 u, Value.float .f64 v][i]? := (fun o n i => (hb2.ext (((Ext.refl w1).alloc o).drewN n)).cell i)))
    | (with_reducible refine upon_fl rfl ?_; intro rz nz hrz))
  obtain ⟨wk, hwk⟩ : ∃ wk, wk = (((w1.alloc (.cells #[.float .f64 r', .slice (some ⟨ga, 0, none⟩) 4 ca, .slice (some ⟨gb, 0, none⟩) 4 cb] 95)).alloc (.cells #[.float .f64 rz, .float .f64 v] 98)).drewN nz) := ⟨_, rfl⟩
  rw [← hwk]
  have e3 : Ext ((w1.alloc (.cells #[.float .f64 r', .slice (some ⟨ga, 0, none⟩) 4 ca, .slice (some ⟨gb, 0, none⟩) 4 cb] 95)).alloc (.cells #[.float .f64 rz, .float .f64 v] 98)) wk := by rw [hwk]; exact (Ext.refl _).drewN _
  obtain ⟨hbN, hbZ, e1⟩ := ext2 e3
  replace hw := hw.trans e1
  replace hb1 := hb1.ext e1
  replace hb2 := hb2.ext e1
  replace hb3 := hb3.ext e1
  replace hfa := hfa.ext e1
  have RZ := Lib.hid hrz
  clear hwk e3 e1 hrz k1 k2
  go_loopw [7] (fun iv wr => ∃ (k x y : Nat), iv = .int .i64 ((k : Int) + 1) ∧ k ≤ 4 ∧ can x = zRe tabA cA4 f u (can v) (fmul (can (floatOfInt .f64 u)) (can cRadS)) k ∧ can y = zIm tabA cA4 f u (can v) (can v) k ∧ Ext w wr ∧ Blk wr w.heap.size 60 #[.float .f64 a, .float .f64 f, .int .i64 mid, .float .f64 sc] ∧ Blk wr (w.heap.size + 1) 63 #[.float .f64 t, .int .i64 d, .int .i64 u, .float .f64 v] ∧ Blk wr (w.heap.size + 1 + 1) 48 #[.float .f64 0, .float .f64 0] ∧ Blk wr w1.heap.size 95 #[.float .f64 r', .slice (some ⟨ga, 0, none⟩) 4 ca, .slice (some ⟨gb, 0, none⟩) 4 cb] ∧ Fl4 wr ga y0 y1 y2 y3 ∧ Blk wr (w1.heap.size + 1) 98 #[.float .f64 x, .float .f64 y]) (fun iv _ => 5 - (RowKit.intOf iv).toNat)
  case atStart => exact ⟨0, _, _, rfl, by omega, RZ.out, rfl, hw, hb1, hb2, hb3, hbN, hfa, hbZ⟩
  case round =>
    clear hw hb1 hb2 hb3 hbN hfa hbZ
    obtain ⟨k, x, y, rfl, hk, hx, hy, hw, hb1, hb2, hb3, hbN, hfa, hbZ⟩ := hrel
    have HX := Lib.hid hx
    have HY := Lib.hid hy
    clear hx hy
    have c1 := hb1.cell
    have c2 := hb2.cell
    have hlt' : Hid True := trivial
    rcases Nat.lt_or_ge k 4 with hlt | hge
    · obtain ⟨m1, m2⟩ := mul_range k hlt u u1 u2
      obtain ⟨J, hJ⟩ : ∃ J : Int, J = (k : Int) + 1 := ⟨_, rfl⟩
      obtain ⟨J2, hJ2⟩ : ∃ J2 : Int, J2 = 2 * J := ⟨_, rfl⟩
      obtain ⟨M, hM⟩ : ∃ M : Int, M = J2 * u := ⟨_, rfl⟩
      have WA : IntKind.i64.wrap (J + 1) = J + 1 := IntWalk.i64_in _ ⟨by omega, by omega⟩
      have WB : IntKind.i64.wrap (2 * J) = J2 := by rw [hJ2]; exact IntWalk.i64_in _ ⟨by omega, by omega⟩
      have hM2 : M = 2 * ((k : Int) + 1) * u := by rw [hM, hJ2, hJ]
      have WC : IntKind.i64.wrap (J2 * u) = M := by rw [← hM]; exact IntWalk.i64_in _ ⟨by rw [hM2]; omega, by rw [hM2]; omega⟩
      have K1 : (k : Int) < 4 := by omega
      have K2 : J ≤ 4 := by omega
      have WD : IntKind.i64.wrap (J - 1) = (k : Int) := by rw [hJ]; rw [IntWalk.i64_in _ ⟨by omega, by omega⟩]; omega
      obtain ⟨ua, hua, FA⟩ := fl4_pick (g := ga) HA.out k hlt
      rw [← hJ]
      have HM := Lib.hid hM2
      have HJ0 := Lib.hid hJ
      have HJ : Hid (J2 = 2 * ((k : Int) + 1)) := Lib.hid (by rw [hJ2, hJ])
      clear hM hM2 hJ hJ2 m1 m2 RZ
      go_wp2_with (first
        | (go_at_call 46; go_must (refine (sineOf_c _ _ _).mono ?_; rintro e w2 ⟨pa, pb, pc, pd, rfl, hpa, hpb, hpc, hpd, hx⟩; have hx' : Ext wr w2 := bareN hx rfl rfl rfl rfl; have e2 := (((hx'.alloc (.cells #[.float .f64 pa, .float .f64 pb] 98)).alloc (.cells #[.float .f64 pc, .float .f64 pd] 98))); have hbX := (Blk.new w2 #[.float .f64 pa, .float .f64 pb] 98).ext ((Ext.refl _).alloc (.cells #[.float .f64 pc, .float .f64 pd] 98)); replace hw := hw.trans e2; replace hb1 := hb1.ext e2; replace hb2 := hb2.ext e2; replace hb3 := hb3.ext e2; replace hbN := hbN.ext e2; replace hfa := hfa.ext e2; replace hbZ := hbZ.ext e2; clear hx hx' c1 c2))
        | (with_reducible refine upon_fl rfl ?_; intro rv nv hrv))
      refine wp_region_head 9 (fun g args v => g = 47 ∧ SpPP args v) (by kernel_rfl) (by kernel_rfl) ?_
      simp only [List.take_succ_cons, List.take_zero, List.drop_succ_cons, List.drop_zero]
      repeat (first
        | (refine wpR_op rfl (fun w9 hw9 K hK => ?_); have k2 := (hbZ.ext (bareN hw9 rfl rfl rfl rfl)).cell; have k3 := (hbN.ext (bareN hw9 rfl rfl rfl rfl)).cell; have k4 := FA w9 (hfa.ext (bareN hw9 rfl rfl rfl rfl)); have k5 := (hbX.ext (bareN hw9 rfl rfl rfl rfl)).cell; go_simp; refine hK _ ?_; clear hK K k2 k3 k4 k5 hw9 w9)
        | (refine wpR_op rfl (fun w9 hw9 K hK => ?_); go_simp; refine rel_call (PairR.call (plusP_c _ _ _ _ _ _)) (fun v => ?_) (fun v hv => ?_); (simp [spPP_iff]); obtain ⟨zx, zy, rfl, hzx, hzy⟩ := hv; refine hK _ ?_; clear hK K hw9 w9))
      refine wpR_nil ?_
      intro w8 hx8 _
      replace hw := hw.trans (bareN hx8 rfl rfl rfl rfl)
      replace hb1 := hb1.ext (bareN hx8 rfl rfl rfl rfl)
      replace hb2 := hb2.ext (bareN hx8 rfl rfl rfl rfl)
      replace hb3 := hb3.ext (bareN hx8 rfl rfl rfl rfl)
      replace hbN := hbN.ext (bareN hx8 rfl rfl rfl rfl)
      replace hfa := hfa.ext (bareN hx8 rfl rfl rfl rfl)
      replace hbZ := hbZ.ext (bareN hx8 rfl rfl rfl rfl)
      clear hx8 hbX
      refine wpList_own rfl 98 _ _ rfl _ _ rfl rfl _ _ hbZ (by kernel_rfl) rfl (by simp [Value.oneCell']) ?_
      intro w7 bn en sn
      replace hw := en w hw (by omega)
      replace hb1 := hb1.same sn (by omega)
      replace hb2 := hb2.same sn (by omega)
      replace hb3 := hb3.same sn (by omega)
      replace hbN := hbN.same sn (by omega)
      replace hfa := hfa.block (sn ga (by omega))
      clear en sn hbZ
      go_wp2_with fail
      go_roundw
      case rel =>
        refine ⟨k + 1, zx, zy, by rw [HJ0.out]; simp, by omega, ?_, ?_, hw, hb1, hb2, hb3, hbN, hfa, bn⟩
        · rw [hzx, HX.out, hpa, hrv, hua, HM.out, HJ.out]; rfl
        · rw [hzy, HY.out, hpb, hrv, hua, HM.out, HJ.out]; rfl
      case measure =>
        have hj := HJ0.out
        simp [RowKit.intOf]; omega
    · have h4 : k = 4 := by omega
      subst h4
      have cN := hbN.cell
      have cZ := hbZ.cell
      go_wp2_with (first
        | (refine wpList_own rfl 48 _ _ rfl _ _ rfl rfl _ _ hb3 (by kernel_rfl) rfl (by simp [Value.oneCell']) ?_; go_must (intro wz bn en sn; replace hw := en w (by repeat (first | exact hw | refine Ext.drewN ?_ _)) (by omega); have kc := bn.cell; clear sn en hb3))
        | (clear RZ; with_reducible refine upon_fl rfl ?_; intro R nR hR)
        | (clear hlt'; with_reducible refine upon_fl rfl ?_; intro fx nx hfx)
        | (with_reducible refine upon_fl rfl ?_; intro fy ny hfy))
      refine bodyPost_ret (v := flatU fx fy) (by simp [results, Tryz.results22, go_sem, kc]) rfl ⟨fx, fy, rfl, ?_, ?_, hw⟩
      · rw [hfx, hR, HR.out, HY.out]; rfl
      · rw [hfy, hR, HR.out, HX.out]; rfl
end Go.Proofs.YtcppgbhjbmfldaaGreatDoor
