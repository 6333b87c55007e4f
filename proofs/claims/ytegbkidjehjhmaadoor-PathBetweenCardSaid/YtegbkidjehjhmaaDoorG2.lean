/- Walks of package grain: parts. -/
import Derived.Test.YtegbkidjehjhmaaDoorG1
import Derived.Test.YtegbkidjehjhmaaDoorPs
namespace Go.Proofs.YtegbkidjehjhmaaDoor
open Go.RowKit Go.Fp Go.Rel

def partsV (a : Int) : Value := .tuple #[.int .i64 (quart (normP a) % 4), .float .f64 (sOf (normP a)), .float .f64 (cOf (normP a))]


theorem floatOf_x (b : Int) : floatOfInt .f64 (b - (b + 45000000000) / 90000000000 * 90000000000) = floatOfInt .f64 (b - quart b * 90000000000) := rfl

set_option maxHeartbeats 1000000 in
theorem parts_c (a : Int) (w : World) : Calls Tryd.prog 79 #[.int .i64 a] w fun e w' => e = .returned (partsV a) ∧ Ext w w' := by
  have hlo := normP_lo a
  have hhi := normP_hi a
  unfold partsV
  have HN := norm_c a
  generalize normP a = b at *
  have hx := (tp_x hlo hhi).1
  have hz := (tp_z hlo hhi).1
  unfold quart at hx
  have hopx : ∀ t w, (binOp .mul t (.float .f64 (floatOfInt .f64 (b - (b + 45000000000) / 90000000000 * 90000000000))) (.float .f64 4445950764994258515)).run Tryd.prog w = .ok (.float .f64 (xOf b)) w := fun t w => run_float_arith w .mul t .f64 _ _ _ hx
  have hopz : ∀ t w, (binOp .mul t (.float .f64 (xOf b)) (.float .f64 (xOf b))).run Tryd.prog w = .ok (.float .f64 (zOf b)) w := fun t w => run_float_arith w .mul t .f64 _ _ _ hz
  have HN' := Lib.hid HN
  clear HN hx hz
  go_enter Tryd.func79, Tryd.ntmps79
  go_wp2_with (first | (go_at_call 43; refine (HN'.out _).mono ?_; rintro e w' ⟨rfl, rfl⟩))
  go_quiet (fail)
  go_wp2_with fail
  go_loopw [3, 4, 9] (fun s c i wr => ∃ k : Nat, k ≤ 7 ∧ i = .int .i64 ((k : Int) - 1) ∧ s = .float .f64 (hor (zOf b) (KK.drop k)) ∧ c = .float .f64 (hor (zOf b) (DD.drop k)) ∧ Ext w wr ∧
      (∀ j, j < 8 → wr.cell? ⟨w.heap.size, j, none⟩ = some (.float .f64 (KK.getD j 0))) ∧ (∀ j, j < 8 → wr.cell? ⟨w.heap.size + 1, j, none⟩ = some (.float .f64 (DD.getD j 0)))) (fun _ _ i _ => (intOf i + 1).toNat)
  case atStart =>
    refine ⟨7, by omega, rfl, rfl, rfl, ?_, ?_, ?_⟩
    · repeat (first | exact Ext.refl _ | refine Ext.drewN ?_ _ | refine Ext.drew ?_ | refine Ext.alloc ?_ _)
    · intro j hj
      match j, hj with
      | 0, _ | 1, _ | 2, _ | 3, _ | 4, _ | 5, _ | 6, _ | 7, _ => go_simp; rfl
    · intro j hj
      match j, hj with
      | 0, _ | 1, _ | 2, _ | 3, _ | 4, _ | 5, _ | 6, _ | 7, _ => go_simp; rfl
  case round =>
    obtain ⟨k, hk, rfl, rfl, rfl, hext, hkk, hdd⟩ := hrel
    match k, hk with
    | 0, _ =>
      clear hkk hdd
      have e0 : (((0 : Nat) : Int) - 1) = -1 := rfl
      rw [e0]
      obtain ⟨⟨hs1, hs2, hs3⟩, _⟩ := tp_s hlo hhi
      obtain ⟨⟨hc1, hc2⟩, _⟩ := tp_c hlo hhi
      have hopa : ∀ t w, (binOp .mul t (.float .f64 (zOf b)) (.float .f64 (hor (zOf b) (KK.drop 0)))).run Tryd.prog w = .ok (.float .f64 (fmul (zOf b) (hor (zOf b) KK))) w := fun t w => run_float_arith w .mul t .f64 _ _ _ hs1
      have hopb : ∀ t w, (binOp .add t (.float .f64 4607182418800017408) (.float .f64 (fmul (zOf b) (hor (zOf b) KK)))).run Tryd.prog w = .ok (.float .f64 (fadd one (fmul (zOf b) (hor (zOf b) KK)))) w := fun t w => run_float_arith w .add t .f64 _ _ _ hs2
      have hopc : ∀ t w, (binOp .mul t (.float .f64 (xOf b)) (.float .f64 (fadd one (fmul (zOf b) (hor (zOf b) KK))))).run Tryd.prog w = .ok (.float .f64 (sOf b)) w := fun t w => run_float_arith w .mul t .f64 _ _ _ hs3
      have hopd : ∀ t w, (binOp .mul t (.float .f64 (zOf b)) (.float .f64 (hor (zOf b) (DD.drop 0)))).run Tryd.prog w = .ok (.float .f64 (fmul (zOf b) (hor (zOf b) DD))) w := fun t w => run_float_arith w .mul t .f64 _ _ _ hc1
      have hope : ∀ t w, (binOp .add t (.float .f64 4607182418800017408) (.float .f64 (fmul (zOf b) (hor (zOf b) DD)))).run Tryd.prog w = .ok (.float .f64 (cOf b)) w := fun t w => run_float_arith w .add t .f64 _ _ _ hc2
      clear hs1 hs2 hs3 hc1 hc2 hopx hopz
      generalize fmul (zOf b) (hor (zOf b) KK) = v1 at *
      generalize fadd one v1 = v2 at *
      generalize fmul (zOf b) (hor (zOf b) DD) = v3 at *
      generalize hor (zOf b) (KK.drop 0) = v4 at *
      generalize hor (zOf b) (DD.drop 0) = v5 at *
      go_wp2_with fail
      go_ret3
      exact ⟨rfl, hext⟩
    | k + 1, hk =>
      have e1 : (((k + 1 : Nat) : Int) - 1) = (k : Int) := by omega
      rw [e1]
      have hc1 := hkk k (by omega)
      have hc2 := hdd k (by omega)
      have hz2 := (tp_z hlo hhi).2
      obtain ⟨m1, f1, f2⟩ := kk_step hz2 k (by omega)
      obtain ⟨m2, f3, f4⟩ := dd_step hz2 k (by omega)
      clear hz2 hopx hopz
      have hopa : ∀ t w, (binOp .mul t (.float .f64 (zOf b)) (.float .f64 (hor (zOf b) (KK.drop (k + 1))))).run Tryd.prog w = .ok (.float .f64 m1) w := fun t w => run_float_arith w .mul t .f64 _ _ _ f1
      have hopb : ∀ t w, (binOp .add t (.float .f64 (KK.getD k 0)) (.float .f64 m1)).run Tryd.prog w = .ok (.float .f64 (hor (zOf b) (KK.drop k))) w := fun t w => run_float_arith w .add t .f64 _ _ _ f2
      have hopc : ∀ t w, (binOp .mul t (.float .f64 (zOf b)) (.float .f64 (hor (zOf b) (DD.drop (k + 1))))).run Tryd.prog w = .ok (.float .f64 m2) w := fun t w => run_float_arith w .mul t .f64 _ _ _ f3
      have hopd : ∀ t w, (binOp .add t (.float .f64 (DD.getD k 0)) (.float .f64 m2)).run Tryd.prog w = .ok (.float .f64 (hor (zOf b) (DD.drop k))) w := fun t w => run_float_arith w .add t .f64 _ _ _ f4
      clear f1 f2 f3 f4
      generalize KK.getD k 0 = c1 at *
      generalize DD.getD k 0 = c2 at *
      have HK := Lib.hid hkk
      have HD := Lib.hid hdd
      clear hkk hdd
      generalize hor (zOf b) (KK.drop (k + 1)) = s1 at *
      generalize hor (zOf b) (DD.drop (k + 1)) = s2 at *
      generalize hs3 : hor (zOf b) (KK.drop k) = s3 at *
      generalize hs4 : hor (zOf b) (DD.drop k) = s4 at *
      have HS3 := Lib.hid hs3
      have HS4 := Lib.hid hs4
      clear hs3 hs4
      go_wp2_with fail
      go_quiet (fail)
      go_wp2_with fail
      go_roundw
      case rel => exact ⟨k, by omega, rfl, by rw [HS3.out], by rw [HS4.out], hext.drewN _, HK.out, HD.out⟩
      case measure => simp [intOf]
end Go.Proofs.YtegbkidjehjhmaaDoor
