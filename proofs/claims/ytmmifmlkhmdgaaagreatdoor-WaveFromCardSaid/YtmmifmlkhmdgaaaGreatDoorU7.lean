/- Walks: a place that is on no strip: package wave's look, To and Turned, the reference's TurnednessOf. -/
import Derived.Test.YtmmifmlkhmdgaaaGreatDoorU4
import Derived.Test.YtmmifmlkhmdgaaaGreatDoorHS
namespace Go.Proofs.YtmmifmlkhmdgaaaGreatDoor
open Go.RowKit Go.Fp Go.Rel
set_option maxRecDepth 20000

/-- an error of a number that is not none -/
def BadR (A : Nat → Addr) (K : Int) (f : Value → Value) (w : World) (e : Ending) (w' : World) : Prop := ∃ v, e = .returned (f v) ∧ ErrOf A K v ∧ v ≠ .nilIface ∧ Ext w w'
theorem shape_not {A : Nat → Addr} {g : Nat} : errV (A g) ≠ .nilIface := by intro h; cases h
theorem look_far {lat off : Int} (h : lookK 0 lat off ≠ 0) : lookK 0 lat off = 4 ∧ (89000000000 < lat ∨ lat < -89000000000 ∨ 45000000000 < off ∨ off < -45000000000) := by
  unfold lookK at *
  rw [if_neg (by decide)] at *
  split
  · rename_i hc; exact ⟨rfl, hc⟩
  · rename_i hc; rw [if_neg hc] at h; exact absurd rfl h

/-- the error value that a bad place brings -/
def BadAt (A : Nat → Addr) (K : Int) (g : Nat) : Prop := ErrOf A K (errV (A g))

set_option maxHeartbeats 8000000 in
theorem look_shape {A : Nat → Addr} (a f : Nat) (mid : Int) (sc : Nat) (lon lat : Int) (w : World) (h8 : World8 A w) (hk : strP (okG a f) sc = 3) :
    Calls Tryz.prog 49 #[stripV a f mid sc, placeU lon lat] w (ExR (.tuple #[wideV 0 0 0 0, errV (A 1)]) w) := by
  have HC0 := fun w h8 => svalid_c (A := A) a f mid sc w h8
  simp only [hk] at HC0
  have HC := Lib.hid HC0
  clear hk HC0
  go_enter Tryz.func49, Tryz.ntmps49
  go_wp2_with (first
    | (go_at_call 10; go_must (refine (HC.out _ (h8.ext (by repeat (first | exact Ext.refl _ | refine Ext.alloc ?_ _)))).mono ?_; rintro e w1 ⟨v, rfl, hv, hx⟩; cases hv; obtain ⟨hb1, hb2, hb3, hw⟩ := ext3 hx; clear hx))
    | (refine wpList_own rfl 94 _ _ rfl _ _ rfl rfl _ _ hb3 (by kernel_rfl) rfl (by simp [Value.oneCell']) ?_; go_must (intro u bn en sn; replace hw := en w (by repeat (first | exact hw | refine Ext.drewN ?_ _)) (by omega); have kc := bn.cell; clear sn en hb3)))
  exact bodyPost_ret (v := .tuple #[wideV 0 0 0 0, errV (A 1)]) (by simp [results, Tryz.results49, go_sem, kc]) rfl ⟨rfl, hw⟩

set_option maxHeartbeats 8000000 in
theorem look_range {A : Nat → Addr} (a f : Nat) (mid : Int) (sc : Nat) (lon lat : Int) (w : World) (h8 : World8 A w) (hk : strP (okG a f) sc = 0) (hl : lookK 0 lat (signP (dS mid lon)) ≠ 0) :
    Calls Tryz.prog 49 #[stripV a f mid sc, placeU lon lat] w (ExR (.tuple #[wideV 0 0 0 0, errV (A 0)]) w) := by
  have HC := Lib.hid (fun w h8 => svalid_ok (A := A) a f mid sc hk w h8)
  clear hk
  have W1 := dS_wrap mid lon
  obtain ⟨d, hd⟩ : ∃ d, d = dS mid lon := ⟨_, rfl⟩
  rw [← hd] at W1 hl
  obtain ⟨off, hoff⟩ : ∃ o, o = signP d := ⟨_, rfl⟩
  have W2 := hoff.symm
  rw [← hoff] at hl
  have HH := Lib.hid (look_far hl).2
  clear hl hoff hd
  go_enter Tryz.func49, Tryz.ntmps49
  go_wp2_with (first
    | (go_at_call 10; go_must (refine (HC.out _ (h8.ext (by repeat (first | exact Ext.refl _ | refine Ext.alloc ?_ _)))).mono ?_; rintro e w1 ⟨rfl, hx⟩; obtain ⟨hb1, hb2, hb3, hw⟩ := ext3 hx; have c1 := hb1.cell; have c2 := hb2.cell; clear hx)))
  clear c1 c2
  refine wp_region_all (fun g args v => g = 30 ∧ SpI normP args v) (by kernel_rfl) (by kernel_rfl) ?_
  repeat (first
    | (refine wpR_op rfl (fun w9 hw9 K hK => ?_); have k1 := (hb1.ext (bareN hw9 rfl rfl rfl rfl)).cell; have k2 := (hb2.ext (bareN hw9 rfl rfl rfl rfl)).cell; go_simp; refine hK _ ?_; clear hK K k1 k2 hw9 w9)
    | (refine wpR_op rfl (fun w9 hw9 K hK => ?_); go_simp; refine rel_call (call_same (norm_c _ _)) (fun v => ?_) (fun v hv => ?_); (simp [spI_iff]); subst hv; refine hK _ ?_; clear hK K hw9 w9))
  refine wpR_nil ?_
  intro w8 hx8 _
  replace hw := hw.trans (bareN hx8 rfl rfl rfl rfl)
  replace hb3 := hb3.ext (bareN hx8 rfl rfl rfl rfl)
  replace hb2 := hb2.ext (bareN hx8 rfl rfl rfl rfl)
  clear hx8 hb1
  have c2 := hb2.cell
  have kg := (h8.ext hw).errs.cell 0 (by decide)
  go_wp2_with (first
    | (go_at_call 29; go_must (refine (signed_c _ _).mono ?_; rintro e w2 ⟨rfl, hx⟩; replace hw := hw.trans (bareN hx rfl rfl rfl rfl); replace hb3 := hb3.ext (bareN hx rfl rfl rfl rfl); replace hb2 := hb2.ext (bareN hx rfl rfl rfl rfl); clear c2 hx; have c2 := hb2.cell; clear kg; have kg := (h8.ext hw).errs.cell 0 (by decide); have c3 := hb3.cell; have f3 := hb3.frozen))
    | (refine wpList_own rfl 94 _ _ rfl _ _ rfl rfl _ _ hb3 (by kernel_rfl) rfl (by simp [Value.oneCell']) ?_; go_must (intro u bn en sn; replace hw := en w (by repeat (first | exact hw | refine Ext.drewN ?_ _)) (by omega); have kc := bn.cell; clear sn en hb3)))
  all_goals (first | (exfalso; have := HH.out; omega) | skip)
  all_goals go_region
  all_goals go_wp2_with fail
  all_goals first
    | exact bodyPost_ret (v := .tuple #[wideV 0 0 0 0, errV (A 0)]) (by simp [results, Tryz.results49, go_sem, c3]) rfl ⟨rfl, (by repeat (first | (with_reducible exact hw) | (with_reducible refine ext_setB ?_ _ _) | (with_reducible refine Ext.drew ?_)))⟩
    | trace_state

set_option maxHeartbeats 8000000 in
theorem turned_shape (a f : Nat) (mid : Int) (sc : Nat) (lon lat : Int) (w : World) (hk : strP (okG a f) sc = 3) :
    Calls Tryz.prog 14 #[stripV a f mid sc, placeU lon lat] w (ExR (.tuple #[wideV 0 0 0 0, .int .i64 3]) w) := by
  have HC := Lib.hid (stripError_c a f mid sc)
  rw [hk] at HC
  clear hk
  go_enter Tryz.func14, Tryz.ntmps14
  go_wp2_with (first
    | (go_at_call 11; go_must (refine (HC.out _).mono ?_; rintro e w1 ⟨rfl, hx⟩; obtain ⟨hb1, hb2, hb3, hw⟩ := ext3 hx; clear hx))
    | (refine wpList_own rfl 51 _ _ rfl _ _ rfl rfl _ _ hb3 (by kernel_rfl) rfl (by simp [Value.oneCell']) ?_; go_must (intro u bn en sn; replace hw := en w (by repeat (first | exact hw | refine Ext.drewN ?_ _)) (by omega); have kc := bn.cell; clear sn en hb3)))
  exact bodyPost_ret (v := .tuple #[wideV 0 0 0 0, .int .i64 3]) (by simp [results, Tryz.results14, go_sem, kc]) rfl ⟨rfl, hw⟩

set_option maxHeartbeats 8000000 in
theorem turned_range (a f : Nat) (mid : Int) (sc : Nat) (lon lat : Int) (w : World) (hk : strP (okG a f) sc = 0) (hl : lookK 0 lat (signP (dS mid lon)) ≠ 0) :
    Calls Tryz.prog 14 #[stripV a f mid sc, placeU lon lat] w (ExR (.tuple #[wideV 0 0 0 0, .int .i64 4]) w) := by
  have HC := Lib.hid (stripError_c a f mid sc)
  rw [hk] at HC
  clear hk
  have W1 := dS_wrap mid lon
  obtain ⟨d, hd⟩ : ∃ d, d = dS mid lon := ⟨_, rfl⟩
  rw [← hd] at W1 hl
  obtain ⟨off, hoff⟩ : ∃ o, o = signP d := ⟨_, rfl⟩
  have W2 := hoff.symm
  rw [← hoff] at hl
  have HH := Lib.hid (look_far hl).2
  clear hl hoff hd
  go_enter Tryz.func14, Tryz.ntmps14
  go_wp2_with (first
    | (go_at_call 11; go_must (refine (HC.out _).mono ?_; rintro e w1 ⟨rfl, hx⟩; obtain ⟨hb1, hb2, hb3, hw⟩ := ext3 hx; have c1 := hb1.cell; have c2 := hb2.cell; clear hx)))
  clear c1 c2
  refine wp_region_all (fun g args v => g = 43 ∧ SpI normP args v) (by kernel_rfl) (by kernel_rfl) ?_
  repeat (first
    | (refine wpR_op rfl (fun w9 hw9 K hK => ?_); have k1 := (hb1.ext (bareN hw9 rfl rfl rfl rfl)).cell; have k2 := (hb2.ext (bareN hw9 rfl rfl rfl rfl)).cell; go_simp; refine hK _ ?_; clear hK K k1 k2 hw9 w9)
    | (refine wpR_op rfl (fun w9 hw9 K hK => ?_); go_simp; refine rel_call (call_same (normOf_c _ _)) (fun v => ?_) (fun v hv => ?_); (simp [spI_iff]); subst hv; refine hK _ ?_; clear hK K hw9 w9))
  refine wpR_nil ?_
  intro w8 hx8 _
  replace hw := hw.trans (bareN hx8 rfl rfl rfl rfl)
  replace hb3 := hb3.ext (bareN hx8 rfl rfl rfl rfl)
  replace hb2 := hb2.ext (bareN hx8 rfl rfl rfl rfl)
  clear hx8 hb1
  have c2 := hb2.cell
  go_wp2_with (first
    | (go_at_call 41; go_must (refine (signedAngle_c _ _).mono ?_; rintro e w2 ⟨rfl, hx⟩; replace hw := hw.trans (bareN hx rfl rfl rfl rfl); replace hb3 := hb3.ext (bareN hx rfl rfl rfl rfl); replace hb2 := hb2.ext (bareN hx rfl rfl rfl rfl); clear c2 hx; have c2 := hb2.cell))
    | (refine wpList_own rfl 51 _ _ rfl _ _ rfl rfl _ _ hb3 (by kernel_rfl) rfl (by simp [Value.oneCell']) ?_; go_must (intro u bn en sn; replace hw := en w (by repeat (first | exact hw | refine Ext.drewN ?_ _)) (by omega); have kc := bn.cell; clear sn en hb3)))
  all_goals (first | (exact bodyPost_ret (v := .tuple #[wideV 0 0 0 0, .int .i64 4]) (by simp [results, Tryz.results14, go_sem, kc]) rfl ⟨rfl, hw⟩) | (exfalso; have := HH.out; omega))

/-- a bad place: look's error -/
theorem look_bad {A : Nat → Addr} (a f : Nat) (mid : Int) (sc : Nat) (lon lat : Int) (h : lookK (strP (okG a f) sc) lat (signP (dS mid lon)) ≠ 0) : ∃ g, ErrOf A (lookK (strP (okG a f) sc) lat (signP (dS mid lon))) (errV (A g)) ∧
    (∀ w, World8 A w → Calls Tryz.prog 49 #[stripV a f mid sc, placeU lon lat] w (ExR (.tuple #[wideV 0 0 0 0, errV (A g)]) w)) ∧
    (∀ w, Calls Tryz.prog 14 #[stripV a f mid sc, placeU lon lat] w (ExR (.tuple #[wideV 0 0 0 0, .int .i64 (lookK (strP (okG a f) sc) lat (signP (dS mid lon)))]) w)) := by
  rcases strP_cases (okG a f) sc with hk | hk
  · rw [hk] at h ⊢
    have h4 := (look_far h).1
    rw [h4]
    exact ⟨0, .range, fun w h8 => look_range a f mid sc lon lat w h8 hk h, fun w => turned_range a f mid sc lon lat w hk h⟩
  · rw [hk]
    have h3 : lookK 3 lat (signP (dS mid lon)) = 3 := by unfold lookK; rw [if_pos (by decide)]
    rw [h3]
    exact ⟨1, .shape, fun w h8 => look_shape a f mid sc lon lat w h8 hk, fun w => turned_shape a f mid sc lon lat w hk⟩

set_option maxHeartbeats 4000000 in
theorem sto_bad {A : Nat → Addr} (a f : Nat) (mid : Int) (sc : Nat) (lon lat : Int) (g : Nat) (HL0 : ∀ w, World8 A w → Calls Tryz.prog 49 #[stripV a f mid sc, placeU lon lat] w (ExR (.tuple #[wideV 0 0 0 0, errV (A g)]) w)) (w : World) (h8 : World8 A w) :
    Calls Tryz.prog 12 #[stripV a f mid sc, placeU lon lat] w (ExR (.tuple #[flatU 0 0, errV (A g)]) w) := by
  have HL := Lib.hid HL0
  clear HL0
  go_enter Tryz.func12, Tryz.ntmps12
  go_wp2_with (first
    | (go_at_call 49; go_must (refine (HL.out _ (h8.ext (by repeat (first | exact Ext.refl _ | refine Ext.alloc ?_ _)))).mono ?_; rintro e w1 ⟨rfl, hx⟩; obtain ⟨hb1, hb2, hb3, hw⟩ := ext3 hx; replace hb3 := hb3.ext ((Ext.refl w1).alloc (.cells #[.float .f64 0, .int .i64 0, .int .i64 0, .float .f64 0] 94)); replace hw := hw.trans ((Ext.refl w1).alloc (.cells #[.float .f64 0, .int .i64 0, .int .i64 0, .float .f64 0] 94)); clear hx))
    | (refine wpList_own rfl 28 _ _ rfl _ _ rfl rfl _ _ hb3 (by kernel_rfl) rfl (by simp [Value.oneCell']) ?_; go_must (intro u bn en sn; replace hw := en w (by repeat (first | exact hw | refine Ext.drewN ?_ _)) (by omega); have kc := bn.cell; clear sn en hb3)))
  exact bodyPost_ret (v := .tuple #[flatU 0 0, errV (A g)]) (by simp [results, Tryz.results12, go_sem, kc]) rfl ⟨rfl, hw⟩

set_option maxHeartbeats 4000000 in
theorem turn_bad {A : Nat → Addr} (a f : Nat) (mid : Int) (sc : Nat) (lon lat : Int) (g : Nat) (HL0 : ∀ w, World8 A w → Calls Tryz.prog 49 #[stripV a f mid sc, placeU lon lat] w (ExR (.tuple #[wideV 0 0 0 0, errV (A g)]) w)) (w : World) (h8 : World8 A w) :
    Calls Tryz.prog 13 #[stripV a f mid sc, placeU lon lat] w (ExR (.tuple #[.float .f64 0, .int .i64 0, errV (A g)]) w) := by
  have HL := Lib.hid HL0
  clear HL0
  go_enter Tryz.func13, Tryz.ntmps13
  go_wp2_with (first
    | (go_at_call 49; go_must (refine (HL.out _ (h8.ext (by repeat (first | exact Ext.refl _ | refine Ext.alloc ?_ _)))).mono ?_; rintro e w1 ⟨rfl, hx⟩; obtain ⟨hb1, hb2, hw⟩ := ext2 hx; clear hx)))
  exact bodyPost_ret (v := .tuple #[.float .f64 0, .int .i64 0, errV (A g)]) (by simp [results, Tryz.results13, go_sem]) rfl ⟨rfl, hw.alloc _⟩
end Go.Proofs.YtmmifmlkhmdgaaaGreatDoor
