/- Walks: a reference as text: package grid's and the reference's. -/
import Derived.Test.YteebbcdbkkliaaaDoorDI
import Derived.Test.YteebbcdbkkliaaaDoorCA
namespace Go.Proofs.YteebbcdbkkliaaaDoor
open Go.RowKit Go.Fp Go.Rel Go.Lib
set_option maxRecDepth 20000

/-- a reference's text -/
def textS (z : Nat) (s : Bool) (e n : Nat) : List UInt8 := digs 2 z ++ [if s then 83 else 78] ++ [32] ++ digs 6 e ++ [32] ++ digs 7 n
theorem textS_length (z : Nat) (s : Bool) (e n : Nat) : (textS z s e n).length = 18 := by
  simp [textS, digs_length]
def SpT (z e n : Int) (P1 P2 P3 : ByteArray) (args : Array Value) (v : Value) : Prop :=
  (args = #[.int .i64 z, .int .i64 2] ∧ v = .string P1) ∨ (args = #[.int .i64 e, .int .i64 6] ∧ v = .string P2) ∨ (args = #[.int .i64 n, .int .i64 7] ∧ v = .string P3)
theorem spT_z (z e n : Int) (P1 P2 P3 : ByteArray) (v : Value) : SpT z e n P1 P2 P3 #[.int .i64 z, .int .i64 2] v ↔ v = .string P1 := by simp [SpT]
theorem spT_e (z e n : Int) (P1 P2 P3 : ByteArray) (v : Value) : SpT z e n P1 P2 P3 #[.int .i64 e, .int .i64 6] v ↔ v = .string P2 := by simp [SpT]
theorem spT_n (z e n : Int) (P1 P2 P3 : ByteArray) (v : Value) : SpT z e n P1 P2 P3 #[.int .i64 n, .int .i64 7] v ↔ v = .string P3 := by simp [SpT]

set_option maxHeartbeats 8000000 in
theorem text_ok {A : Nat → Addr} (z : Nat) (s : Bool) (e n : Nat) (hz : 1 ≤ z) (hz' : z ≤ 60) (he : e ≤ 999999) (hn : n ≤ 9999999) (w : World) (hW : WorldG A w) :
    Calls Tryd.prog 18 #[refV z s e n] w (ExR (.tuple #[.string ⟨(textS z s e n).toArray⟩, .nilIface]) w) := by
  have HV := Lib.hid (fun w => refValid_ok z s e n ⟨by omega, by omega, by omega, by omega, by omega, by omega⟩ w)
  obtain ⟨P1, hP1⟩ : ∃ T : ByteArray, T = ⟨(digs 2 z).toArray⟩ := ⟨_, rfl⟩
  obtain ⟨P2, hP2⟩ : ∃ T : ByteArray, T = ⟨(digs 6 e).toArray⟩ := ⟨_, rfl⟩
  obtain ⟨P3, hP3⟩ : ∃ T : ByteArray, T = ⟨(digs 7 n).toArray⟩ := ⟨_, rfl⟩
  have z1 : P1.size = 2 := by rw [hP1]; show (digs 2 z).toArray.size = _; rw [List.size_toArray, digs_length]
  have z2 : P2.size = 6 := by rw [hP2]; show (digs 6 e).toArray.size = _; rw [List.size_toArray, digs_length]
  have z3 : P3.size = 7 := by rw [hP3]; show (digs 7 n).toArray.size = _; rw [List.size_toArray, digs_length]
  have HP1 : Hid (∀ w, TabOk w → Calls Tryd.prog 41 #[.int .i64 z, .int .i64 2] w (ExR (.string P1) w)) := Lib.hid (fun w ht => by rw [hP1]; exact digits_c z 2 (by decide) (by omega) (by decide) w ht)
  have HP2 : Hid (∀ w, TabOk w → Calls Tryd.prog 41 #[.int .i64 e, .int .i64 6] w (ExR (.string P2) w)) := Lib.hid (fun w ht => by rw [hP2]; exact digits_c e 6 (by decide) (by omega) (by decide) w ht)
  have HP3 : Hid (∀ w, TabOk w → Calls Tryd.prog 41 #[.int .i64 n, .int .i64 7] w (ExR (.string P3) w)) := Lib.hid (fun w ht => by rw [hP3]; exact digits_c n 7 (by decide) (by omega) (by decide) w ht)
  obtain ⟨S, hS⟩ : ∃ S : ByteArray, S = ⟨(textS z s e n).toArray⟩ := ⟨_, rfl⟩
  rw [← hS]
  have HS : Hid (S = P1 ++ ⟨#[if s then 83 else 78]⟩ ++ ⟨#[32]⟩ ++ P2 ++ ⟨#[32]⟩ ++ P3) := by
    show S = _
    rw [hS, hP1, hP2, hP3]
    apply ByteArray.ext
    cases s <;> simp [textS]
  clear hS hP1 hP2 hP3
  have L1 : ¬ 9223372036854775807 < P1.size + 1 := by omega
  have L2 : ¬ 9223372036854775807 < P1.size + 1 + 1 := by omega
  have L3 : ¬ 9223372036854775807 < P1.size + 1 + 1 + P2.size := by omega
  have L4 : ¬ 9223372036854775807 < P1.size + 1 + 1 + P2.size + 1 := by omega
  have L5 : ¬ 9223372036854775807 < P1.size + 1 + 1 + P2.size + 1 + P3.size := by omega
  clear z1 z2 z3
  cases s with
  | false =>
    simp only [Bool.false_eq_true, if_false] at HS
    go_enter Tryd.func18, Tryd.ntmps18
    go_wp2_with (first
      | (go_at_call 20; go_must (refine (HV.out _).mono ?_; rintro e w1 ⟨rfl, hx⟩; obtain ⟨hb1, hw⟩ := ext1 hx; clear hx; have c1 := hb1.cell)))
    clear c1
    have ht := (hW.ext hw).tab
    refine wp_region_all (fun g args v => g = 41 ∧ SpT z e n P1 P2 P3 args v) (by kernel_rfl) (by kernel_rfl) ?_
    have tk1 : Hid True := trivial
    have tk2 : Hid True := trivial
    have tk3 : Hid True := trivial
    repeat (first
      | (refine wpR_op rfl (fun w9 hw9 K hK => ?_); have k1 := (hb1.ext (bareN hw9 rfl rfl rfl rfl)).cell; go_simp; (with_reducible refine hK _ ?_); clear hK K k1 hw9 w9)
      | (refine wpR_op rfl (fun w9 hw9 K hK => ?_); clear tk1; go_simp; (with_reducible refine rel_call (ExR.call (HP1.out _ (ht.ext (bareN hw9 rfl rfl rfl rfl)))) (fun v => ?_) (fun v hv => ?_)); (simp [spT_z]); subst hv; refine hK _ ?_; clear hK K hw9 w9)
      | (refine wpR_op rfl (fun w9 hw9 K hK => ?_); clear tk2; go_simp; (with_reducible refine rel_call (ExR.call (HP2.out _ (ht.ext (bareN hw9 rfl rfl rfl rfl)))) (fun v => ?_) (fun v hv => ?_)); (simp [spT_e]); subst hv; refine hK _ ?_; clear hK K hw9 w9)
      | (refine wpR_op rfl (fun w9 hw9 K hK => ?_); clear tk3; go_simp; (with_reducible refine rel_call (ExR.call (HP3.out _ (ht.ext (bareN hw9 rfl rfl rfl rfl)))) (fun v => ?_) (fun v hv => ?_)); (simp [spT_n]); subst hv; refine hK _ ?_; clear hK K hw9 w9))
    refine wpR_nil ?_
    intro w8 hx8 _
    go_wp2_with fail
    refine bodyPost_ret (v := .tuple #[.string (P1 ++ ⟨#[78]⟩ ++ ⟨#[32]⟩ ++ P2 ++ ⟨#[32]⟩ ++ P3), .nilIface]) (by simp [results, Tryd.results18, go_sem]) rfl ⟨by rw [HS.out], hw.trans (bareN hx8 rfl rfl rfl rfl)⟩
  | true =>
    simp only [if_true] at HS
    go_enter Tryd.func18, Tryd.ntmps18
    go_wp2_with (first
      | (go_at_call 20; go_must (refine (HV.out _).mono ?_; rintro e w1 ⟨rfl, hx⟩; obtain ⟨hb1, hw⟩ := ext1 hx; clear hx; have c1 := hb1.cell)))
    clear c1
    have ht := (hW.ext hw).tab
    refine wp_region_all (fun g args v => g = 41 ∧ SpT z e n P1 P2 P3 args v) (by kernel_rfl) (by kernel_rfl) ?_
    have tk1 : Hid True := trivial
    have tk2 : Hid True := trivial
    have tk3 : Hid True := trivial
    repeat (first
      | (refine wpR_op rfl (fun w9 hw9 K hK => ?_); have k1 := (hb1.ext (bareN hw9 rfl rfl rfl rfl)).cell; go_simp; (with_reducible refine hK _ ?_); clear hK K k1 hw9 w9)
      | (refine wpR_op rfl (fun w9 hw9 K hK => ?_); clear tk1; go_simp; (with_reducible refine rel_call (ExR.call (HP1.out _ (ht.ext (bareN hw9 rfl rfl rfl rfl)))) (fun v => ?_) (fun v hv => ?_)); (simp [spT_z]); subst hv; refine hK _ ?_; clear hK K hw9 w9)
      | (refine wpR_op rfl (fun w9 hw9 K hK => ?_); clear tk2; go_simp; (with_reducible refine rel_call (ExR.call (HP2.out _ (ht.ext (bareN hw9 rfl rfl rfl rfl)))) (fun v => ?_) (fun v hv => ?_)); (simp [spT_e]); subst hv; refine hK _ ?_; clear hK K hw9 w9)
      | (refine wpR_op rfl (fun w9 hw9 K hK => ?_); clear tk3; go_simp; (with_reducible refine rel_call (ExR.call (HP3.out _ (ht.ext (bareN hw9 rfl rfl rfl rfl)))) (fun v => ?_) (fun v hv => ?_)); (simp [spT_n]); subst hv; refine hK _ ?_; clear hK K hw9 w9))
    refine wpR_nil ?_
    intro w8 hx8 _
    go_wp2_with fail
    refine bodyPost_ret (v := .tuple #[.string (P1 ++ ⟨#[83]⟩ ++ ⟨#[32]⟩ ++ P2 ++ ⟨#[32]⟩ ++ P3), .nilIface]) (by simp [results, Tryd.results18, go_sem]) rfl ⟨by rw [HS.out], hw.trans (bareN hx8 rfl rfl rfl rfl)⟩
set_option maxHeartbeats 8000000 in
theorem refText_ok (z : Nat) (s : Bool) (e n : Nat) (hz : 1 ≤ z) (hz' : z ≤ 60) (he : e ≤ 999999) (hn : n ≤ 9999999) (w : World) :
    Calls Tryd.prog 19 #[refV z s e n] w (ExR (.tuple #[.string ⟨(textS z s e n).toArray⟩, .int .i64 0]) w) := by
  have HV := Lib.hid (fun w => refError_ok z s e n ⟨by omega, by omega, by omega, by omega, by omega, by omega⟩ w)
  obtain ⟨P1, hP1⟩ : ∃ T : ByteArray, T = ⟨(digs 2 z).toArray⟩ := ⟨_, rfl⟩
  obtain ⟨P2, hP2⟩ : ∃ T : ByteArray, T = ⟨(digs 6 e).toArray⟩ := ⟨_, rfl⟩
  obtain ⟨P3, hP3⟩ : ∃ T : ByteArray, T = ⟨(digs 7 n).toArray⟩ := ⟨_, rfl⟩
  have z1 : P1.size = 2 := by rw [hP1]; show (digs 2 z).toArray.size = _; rw [List.size_toArray, digs_length]
  have z2 : P2.size = 6 := by rw [hP2]; show (digs 6 e).toArray.size = _; rw [List.size_toArray, digs_length]
  have z3 : P3.size = 7 := by rw [hP3]; show (digs 7 n).toArray.size = _; rw [List.size_toArray, digs_length]
  have HP1 : Hid (∀ w, Ext w w → Calls Tryd.prog 43 #[.int .i64 z, .int .i64 2] w (ExR (.string P1) w)) := Lib.hid (fun w _ => by rw [hP1]; exact refDigits_c z 2 (by decide) (by omega) w)
  have HP2 : Hid (∀ w, Ext w w → Calls Tryd.prog 43 #[.int .i64 e, .int .i64 6] w (ExR (.string P2) w)) := Lib.hid (fun w _ => by rw [hP2]; exact refDigits_c e 6 (by decide) (by omega) w)
  have HP3 : Hid (∀ w, Ext w w → Calls Tryd.prog 43 #[.int .i64 n, .int .i64 7] w (ExR (.string P3) w)) := Lib.hid (fun w _ => by rw [hP3]; exact refDigits_c n 7 (by decide) (by omega) w)
  obtain ⟨S, hS⟩ : ∃ S : ByteArray, S = ⟨(textS z s e n).toArray⟩ := ⟨_, rfl⟩
  rw [← hS]
  have HS : Hid (S = P1 ++ ⟨#[if s then 83 else 78, 32]⟩ ++ P2 ++ ⟨#[32]⟩ ++ P3) := by
    show S = _
    rw [hS, hP1, hP2, hP3]
    apply ByteArray.ext
    cases s <;> simp [textS]
  clear hS hP1 hP2 hP3
  have L1 : ¬ 9223372036854775807 < P1.size + 2 := by omega
  have L2 : ¬ 9223372036854775807 < P1.size + 2 + P2.size := by omega
  have L3 : ¬ 9223372036854775807 < P1.size + 2 + P2.size + 1 := by omega
  have L4 : ¬ 9223372036854775807 < P1.size + 2 + P2.size + 1 + P3.size := by omega
  clear z1 z2 z3
  cases s with
  | false =>
    simp only [Bool.false_eq_true, if_false] at HS
    go_enter Tryd.func19, Tryd.ntmps19
    go_wp2_with (first
      | (go_at_call 42; go_must (refine (HV.out _).mono ?_; rintro e w1 ⟨rfl, hx⟩; obtain ⟨hb1, hw⟩ := ext1 hx; clear hx; have c1 := hb1.cell)))
    clear c1
    refine wp_region_all (fun g args v => g = 43 ∧ SpT z e n P1 P2 P3 args v) (by kernel_rfl) (by kernel_rfl) ?_
    have tk1 : Hid True := trivial
    have tk2 : Hid True := trivial
    have tk3 : Hid True := trivial
    repeat (first
      | (refine wpR_op rfl (fun w9 hw9 K hK => ?_); have k1 := (hb1.ext (bareN hw9 rfl rfl rfl rfl)).cell; go_simp; (with_reducible refine hK _ ?_); clear hK K k1 hw9 w9)
      | (refine wpR_op rfl (fun w9 hw9 K hK => ?_); clear tk1; go_simp; (with_reducible refine rel_call (ExR.call (HP1.out _ (Ext.refl _))) (fun v => ?_) (fun v hv => ?_)); (simp [spT_z]); subst hv; refine hK _ ?_; clear hK K hw9 w9)
      | (refine wpR_op rfl (fun w9 hw9 K hK => ?_); clear tk2; go_simp; (with_reducible refine rel_call (ExR.call (HP2.out _ (Ext.refl _))) (fun v => ?_) (fun v hv => ?_)); (simp [spT_e]); subst hv; refine hK _ ?_; clear hK K hw9 w9)
      | (refine wpR_op rfl (fun w9 hw9 K hK => ?_); clear tk3; go_simp; (with_reducible refine rel_call (ExR.call (HP3.out _ (Ext.refl _))) (fun v => ?_) (fun v hv => ?_)); (simp [spT_n]); subst hv; refine hK _ ?_; clear hK K hw9 w9))
    refine wpR_nil ?_
    intro w8 hx8 _
    go_wp2_with fail
    refine bodyPost_ret (v := .tuple #[.string (P1 ++ ⟨#[78, 32]⟩ ++ P2 ++ ⟨#[32]⟩ ++ P3), .int .i64 0]) (by simp [results, Tryd.results19, go_sem]) rfl ⟨by rw [HS.out], hw.trans (bareN hx8 rfl rfl rfl rfl)⟩
  | true =>
    simp only [if_true] at HS
    go_enter Tryd.func19, Tryd.ntmps19
    go_wp2_with (first
      | (go_at_call 42; go_must (refine (HV.out _).mono ?_; rintro e w1 ⟨rfl, hx⟩; obtain ⟨hb1, hw⟩ := ext1 hx; clear hx; have c1 := hb1.cell)))
    clear c1
    refine wp_region_all (fun g args v => g = 43 ∧ SpT z e n P1 P2 P3 args v) (by kernel_rfl) (by kernel_rfl) ?_
    have tk1 : Hid True := trivial
    have tk2 : Hid True := trivial
    have tk3 : Hid True := trivial
    repeat (first
      | (refine wpR_op rfl (fun w9 hw9 K hK => ?_); have k1 := (hb1.ext (bareN hw9 rfl rfl rfl rfl)).cell; go_simp; (with_reducible refine hK _ ?_); clear hK K k1 hw9 w9)
      | (refine wpR_op rfl (fun w9 hw9 K hK => ?_); clear tk1; go_simp; (with_reducible refine rel_call (ExR.call (HP1.out _ (Ext.refl _))) (fun v => ?_) (fun v hv => ?_)); (simp [spT_z]); subst hv; refine hK _ ?_; clear hK K hw9 w9)
      | (refine wpR_op rfl (fun w9 hw9 K hK => ?_); clear tk2; go_simp; (with_reducible refine rel_call (ExR.call (HP2.out _ (Ext.refl _))) (fun v => ?_) (fun v hv => ?_)); (simp [spT_e]); subst hv; refine hK _ ?_; clear hK K hw9 w9)
      | (refine wpR_op rfl (fun w9 hw9 K hK => ?_); clear tk3; go_simp; (with_reducible refine rel_call (ExR.call (HP3.out _ (Ext.refl _))) (fun v => ?_) (fun v hv => ?_)); (simp [spT_n]); subst hv; refine hK _ ?_; clear hK K hw9 w9))
    refine wpR_nil ?_
    intro w8 hx8 _
    go_wp2_with fail
    refine bodyPost_ret (v := .tuple #[.string (P1 ++ ⟨#[83, 32]⟩ ++ P2 ++ ⟨#[32]⟩ ++ P3), .int .i64 0]) (by simp [results, Tryd.results19, go_sem]) rfl ⟨by rw [HS.out], hw.trans (bareN hx8 rfl rfl rfl rfl)⟩
set_option maxHeartbeats 4000000 in
theorem text_bad {A : Nat → Addr} (z : Int) (s : Bool) (e n : Int) (h : ¬ OkRef z e n) (w : World) (hW : WorldG A w) :
    Calls Tryd.prog 18 #[refV z s e n] w (ExR (.tuple #[.string ⟨#[]⟩, errV (A 0)]) w) := by
  have HV := Lib.hid (fun w hW => refValid_bad (A := A) z s e n h w hW)
  clear h
  go_enter Tryd.func18, Tryd.ntmps18
  go_wp2_with (first
    | (go_at_call 20; go_must (refine (HV.out _ (hW.ext ((Ext.refl w).alloc _))).mono ?_; rintro e w1 ⟨rfl, hx⟩; obtain ⟨hb1, hw⟩ := ext1 hx; clear hx; have c1 := hb1.cell)))
  refine bodyPost_ret (v := .tuple #[.string ⟨#[]⟩, errV (A 0)]) (by simp [results, Tryd.results18, go_sem]) rfl ⟨rfl, hw⟩
set_option maxHeartbeats 4000000 in
theorem refText_bad (z : Int) (s : Bool) (e n : Int) (h : ¬ OkRef z e n) (w : World) :
    Calls Tryd.prog 19 #[refV z s e n] w (ExR (.tuple #[.string ⟨#[]⟩, .int .i64 4]) w) := by
  have HV := Lib.hid (fun w => refError_bad z s e n h w)
  clear h
  go_enter Tryd.func19, Tryd.ntmps19
  go_wp2_with (first
    | (go_at_call 42; go_must (refine (HV.out _).mono ?_; rintro e w1 ⟨rfl, hx⟩; obtain ⟨hb1, hw⟩ := ext1 hx; clear hx; have c1 := hb1.cell)))
  refine bodyPost_ret (v := .tuple #[.string ⟨#[]⟩, .int .i64 4]) (by simp [results, Tryd.results19, go_sem]) rfl ⟨rfl, hw⟩
end Go.Proofs.YteebbcdbkkliaaaDoor
