/- Walks of package grain: Norm, parts, Sin, Cos. -/
import Derived.Test.YtcppgbhjbmfldaaGreatDoorZB
import Derived.Test.YtcppgbhjbmfldaaGreatDoorProg
namespace Go.Proofs.YtcppgbhjbmfldaaGreatDoor
open Go.RowKit Go.Fp Go.Rel

theorem ret_int {k : IntKind} {a b : Int} (h : a = b) : Ending.returned (.int k a) = .returned (.int k b) := by rw [h]

theorem norm_neg {a : Int} (h : a.tmod 360000000000 < 0) : wrap64 (a.tmod 360000000000 + 360000000000) = normP a := by
  unfold normP
  have h1 : a.tmod 360000000000 = -((-a) % 360000000000) := by
    rcases Int.le_total 0 a with h0 | h0
    · have := Int.tmod_nonneg 360000000000 h0; omega
    · rw [← Int.neg_neg a, Int.neg_tmod, Int.tmod_eq_emod_of_nonneg (by omega)]; simp
  rw [IntWalk.wrap64_in _ (by omega)]
  omega
theorem norm_pos {a : Int} (h : 0 ≤ a.tmod 360000000000) : a.tmod 360000000000 = normP a := by
  unfold normP
  rcases Int.le_total 0 a with h0 | h0
  · exact Int.tmod_eq_emod_of_nonneg h0
  · have h1 : a.tmod 360000000000 = -((-a) % 360000000000) := by
      rw [← Int.neg_neg a, Int.neg_tmod, Int.tmod_eq_emod_of_nonneg (by omega)]; simp
    omega

set_option maxHeartbeats 400000 in
theorem norm_c (a : Int) (w : World) : Calls Tryz.prog 57 #[.int .i64 a] w fun e w' => e = .returned (.int .i64 (normP a)) ∧ w = w' := by
  go_enter Tryz.func57, Tryz.ntmps57
  go_wp2
  · go_ret; exact ⟨ret_int (norm_neg (by assumption)), rfl⟩
  · go_ret; exact ⟨ret_int (norm_pos (by assumption)), rfl⟩
end Go.Proofs.YtcppgbhjbmfldaaGreatDoor

/- Walks of package grain: parts. -/
namespace Go.Proofs.YtcppgbhjbmfldaaGreatDoor
open Go.RowKit Go.Fp Go.Rel

def partsV (a : Int) : Value := .tuple #[.int .i64 (quart (normP a) % 4), .float .f64 (sOf (normP a)), .float .f64 (cOf (normP a))]


theorem floatOf_x (b : Int) : floatOfInt .f64 (b - (b + 45000000000) / 90000000000 * 90000000000) = floatOfInt .f64 (b - quart b * 90000000000) := rfl

set_option maxHeartbeats 1000000 in
theorem parts_c (a : Int) (w : World) : Calls Tryz.prog 86 #[.int .i64 a] w fun e w' => e = .returned (partsV a) ∧ Ext w w' := by
  have hlo := normP_lo a
  have hhi := normP_hi a
  unfold partsV
  have HN := norm_c a
  generalize normP a = b at *
  have hx := (tp_x hlo hhi).1
  have hz := (tp_z hlo hhi).1
  unfold quart at hx
  have hopx : ∀ t w, (binOp .mul t (.float .f64 (floatOfInt .f64 (b - (b + 45000000000) / 90000000000 * 90000000000))) (.float .f64 4445950764994258515)).run Tryz.prog w = .ok (.float .f64 (xOf b)) w := fun t w => run_float_arith w .mul t .f64 _ _ _ hx
  have hopz : ∀ t w, (binOp .mul t (.float .f64 (xOf b)) (.float .f64 (xOf b))).run Tryz.prog w = .ok (.float .f64 (zOf b)) w := fun t w => run_float_arith w .mul t .f64 _ _ _ hz
  have HN' := Lib.hid HN
  clear HN hx hz
  go_enter Tryz.func86, Tryz.ntmps86
  go_wp2_with (first | (go_at_call 57; refine (HN'.out _).mono ?_; rintro e w' ⟨rfl, rfl⟩))
  go_quiet (fail)
  go_wp2_with fail
  go_loopw [3, 4, 9] (fun s c i wr => ∃ k : Nat, k ≤ 7 ∧ i = .int .i64 ((k : Int) - 1) ∧ s = .float .f64 (hor (zOf b) (KK.drop k)) ∧ c = .float .f64 (hor (zOf b) (DD.drop k)) ∧ Ext w wr ∧
      (∀ j, j < 8 → wr.cell? ⟨w.heap.size, j, none⟩ = some (.float .f64 (KK.getD j 0))) ∧ (∀ j, j < 8 → wr.cell? ⟨w.heap.size + 1, j, none⟩ = some (.float .f64 (DD.getD j 0)))) (fun _ _ i _ => (intOf i + 1).toNat)
  case atStart =>
    refine ⟨7, by omega, rfl, rfl, rfl, ?_, ?_, ?_⟩
    · repeat (first | exact Ext.refl _ | refine Ext.drewN ?_ _ | refine Ext.drew ?_ | refine Ext.alloc ?_ _)
    · intro j hj
      match j, hj with
      | 0, _ | 1, _ | 2, _ | 3, _ | 4, _ | 5, _ | 6, _ | 7, _ => go_simp; rfl
    · intro j hj
      match j, hj with
      | 0, _ | 1, _ | 2, _ | 3, _ | 4, _ | 5, _ | 6, _ | 7, _ => go_simp; rfl
  case round =>
    obtain ⟨k, hk, rfl, rfl, rfl, hext, hkk, hdd⟩ := hrel
    match k, hk with
    | 0, _ =>
      clear hkk hdd
      have e0 : (((0 : Nat) : Int) - 1) = -1 := rfl
      rw [e0]
      obtain ⟨⟨hs1, hs2, hs3⟩, _⟩ := tp_s hlo hhi
      obtain ⟨⟨hc1, hc2⟩, _⟩ := tp_c hlo hhi
      have hopa : ∀ t w, (binOp .mul t (.float .f64 (zOf b)) (.float .f64 (hor (zOf b) (KK.drop 0)))).run Tryz.prog w = .ok (.float .f64 (fmul (zOf b) (hor (zOf b) KK))) w := fun t w => run_float_arith w .mul t .f64 _ _ _ hs1
      have hopb : ∀ t w, (binOp .add t (.float .f64 4607182418800017408) (.float .f64 (fmul (zOf b) (hor (zOf b) KK)))).run Tryz.prog w = .ok (.float .f64 (fadd one (fmul (zOf b) (hor (zOf b) KK)))) w := fun t w => run_float_arith w .add t .f64 _ _ _ hs2
      have hopc : ∀ t w, (binOp .mul t (.float .f64 (xOf b)) (.float .f64 (fadd one (fmul (zOf b) (hor (zOf b) KK))))).run Tryz.prog w = .ok (.float .f64 (sOf b)) w := fun t w => run_float_arith w .mul t .f64 _ _ _ hs3
      have hopd : ∀ t w, (binOp .mul t (.float .f64 (zOf b)) (.float .f64 (hor (zOf b) (DD.drop 0)))).run Tryz.prog w = .ok (.float .f64 (fmul (zOf b) (hor (zOf b) DD))) w := fun t w => run_float_arith w .mul t .f64 _ _ _ hc1
      have hope : ∀ t w, (binOp .add t (.float .f64 4607182418800017408) (.float .f64 (fmul (zOf b) (hor (zOf b) DD)))).run Tryz.prog w = .ok (.float .f64 (cOf b)) w := fun t w => run_float_arith w .add t .f64 _ _ _ hc2
      clear hs1 hs2 hs3 hc1 hc2 hopx hopz
      generalize fmul (zOf b) (hor (zOf b) KK) = v1 at *
      generalize fadd one v1 = v2 at *
      generalize fmul (zOf b) (hor (zOf b) DD) = v3 at *
      generalize hor (zOf b) (KK.drop 0) = v4 at *
      generalize hor (zOf b) (DD.drop 0) = v5 at *
      go_wp2_with fail
      go_ret3
      exact ⟨rfl, hext⟩
    | k + 1, hk =>
      have e1 : (((k + 1 : Nat) : Int) - 1) = (k : Int) := by omega
      rw [e1]
      have hc1 := hkk k (by omega)
      have hc2 := hdd k (by omega)
      have hz2 := (tp_z hlo hhi).2
      obtain ⟨m1, f1, f2⟩ := kk_step hz2 k (by omega)
      obtain ⟨m2, f3, f4⟩ := dd_step hz2 k (by omega)
      clear hz2 hopx hopz
      have hopa : ∀ t w, (binOp .mul t (.float .f64 (zOf b)) (.float .f64 (hor (zOf b) (KK.drop (k + 1))))).run Tryz.prog w = .ok (.float .f64 m1) w := fun t w => run_float_arith w .mul t .f64 _ _ _ f1
      have hopb : ∀ t w, (binOp .add t (.float .f64 (KK.getD k 0)) (.float .f64 m1)).run Tryz.prog w = .ok (.float .f64 (hor (zOf b) (KK.drop k))) w := fun t w => run_float_arith w .add t .f64 _ _ _ f2
      have hopc : ∀ t w, (binOp .mul t (.float .f64 (zOf b)) (.float .f64 (hor (zOf b) (DD.drop (k + 1))))).run Tryz.prog w = .ok (.float .f64 m2) w := fun t w => run_float_arith w .mul t .f64 _ _ _ f3
      have hopd : ∀ t w, (binOp .add t (.float .f64 (DD.getD k 0)) (.float .f64 m2)).run Tryz.prog w = .ok (.float .f64 (hor (zOf b) (DD.drop k))) w := fun t w => run_float_arith w .add t .f64 _ _ _ f4
      clear f1 f2 f3 f4
      generalize KK.getD k 0 = c1 at *
      generalize DD.getD k 0 = c2 at *
      have HK := Lib.hid hkk
      have HD := Lib.hid hdd
      clear hkk hdd
      generalize hor (zOf b) (KK.drop (k + 1)) = s1 at *
      generalize hor (zOf b) (DD.drop (k + 1)) = s2 at *
      generalize hs3 : hor (zOf b) (KK.drop k) = s3 at *
      generalize hs4 : hor (zOf b) (DD.drop k) = s4 at *
      have HS3 := Lib.hid hs3
      have HS4 := Lib.hid hs4
      clear hs3 hs4
      go_wp2_with fail
      go_quiet (fail)
      go_wp2_with fail
      go_roundw
      case rel => exact ⟨k, by omega, rfl, by rw [HS3.out], by rw [HS4.out], hext.drewN _, HK.out, HD.out⟩
      case measure => simp [intOf]
end Go.Proofs.YtcppgbhjbmfldaaGreatDoor

/- Walks of package grain: Sin, Cos. -/
namespace Go.Proofs.YtcppgbhjbmfldaaGreatDoor
open Go.RowKit Go.Fp Go.Rel

set_option maxHeartbeats 1000000 in
theorem sin_c (a : Int) (w : World) : Calls Tryz.prog 56 #[.int .i64 a] w (ExR (.float .f64 (sinP a)) w) := by
  unfold sinP sinN
  have HP := parts_c a
  unfold partsV at HP
  have h4 := quart4 (normP a)
  generalize quart (normP a) % 4 = q at *
  generalize sOf (normP a) = s at *
  generalize cOf (normP a) = c at *
  have HP' := Lib.hid HP
  clear HP
  rcases h4 with rfl | rfl | rfl | rfl
  all_goals
    go_enter Tryz.func56, Tryz.ntmps56
    go_wp2_with (first | (go_at_call 86; refine (HP'.out _).mono ?_; rintro e w' ⟨rfl, hx⟩))
    go_ret
    exact ⟨rfl, hx⟩
set_option maxHeartbeats 1000000 in
theorem cos_c (a : Int) (w : World) : Calls Tryz.prog 54 #[.int .i64 a] w (ExR (.float .f64 (cosP a)) w) := by
  unfold cosP cosN
  have HP := parts_c a
  unfold partsV at HP
  have h4 := quart4 (normP a)
  generalize quart (normP a) % 4 = q at *
  generalize sOf (normP a) = s at *
  generalize cOf (normP a) = c at *
  have HP' := Lib.hid HP
  clear HP
  rcases h4 with rfl | rfl | rfl | rfl
  all_goals
    go_enter Tryz.func54, Tryz.ntmps54
    go_wp2_with (first | (go_at_call 86; refine (HP'.out _).mono ?_; rintro e w' ⟨rfl, hx⟩))
    go_ret
    exact ⟨rfl, hx⟩
end Go.Proofs.YtcppgbhjbmfldaaGreatDoor

/- Walks of package grain: finite, Length, Angle; of package math: Sqrt, Abs. -/
namespace Go.Proofs.YtcppgbhjbmfldaaGreatDoor
set_option maxRecDepth 20000
open Go.RowKit Go.Fp Go.Rel

set_option maxHeartbeats 1000000 in
theorem fin_c (x : Nat) (w : World) : Calls Tryz.prog 87 #[.float .f64 x] w (ExR (.bool (finP (can x))) w) := by
  go_enter Tryz.func87, Tryz.ntmps87
  go_wp2_with (first | (with_reducible refine upon_fl rfl ?_; intro r n hr))
  go_ret
  refine ⟨?_, (Ext.refl _).drewN _⟩
  rw [fin_of hr]
  rfl

theorem sqrt_entry : Entry Tryz.prog 73 Extern.MathSqrt.sqrt := fun args w => run_callFunc_extern Tryz.func73 (by kernel_rfl) (by kernel_rfl) (by kernel_rfl) (by kernel_rfl) args w

set_option maxHeartbeats 1000000 in
theorem sqrt_c (x : Nat) (w : World) : Calls Tryz.prog 41 #[.float .f64 x] w (FlR (fsqrt (can x)) w) := by
  go_enter Tryz.func41, Tryz.ntmps41
  go_wp2_with (first | (refine upon_sqrt sqrt_entry ?_; intro r n hr))
  go_ret
  exact ⟨_, rfl, hr, (Ext.refl _).drewN _⟩

theorem bits_entry : Entry Tryz.prog 104 Extern.MathFloatBits.float64bits := fun args w => run_callFunc_extern Tryz.func104 (by kernel_rfl) (by kernel_rfl) (by kernel_rfl) (by kernel_rfl) args w
theorem frombits_entry : Entry Tryz.prog 94 Extern.MathFloatBits.float64frombits := fun args w => run_callFunc_extern Tryz.func94 (by kernel_rfl) (by kernel_rfl) (by kernel_rfl) (by kernel_rfl) args w

set_option maxHeartbeats 1000000 in
theorem abs_c (x : Nat) (w : World) : Calls Tryz.prog 88 #[.float .f64 x] w fun e w' => e = .returned (.float .f64 (absW x)) ∧ w = w' := by
  have h1 : ∀ (x : Nat) (w : World), (callFunc 104 #[.float .f64 x]).run Tryz.prog w = .ok (.value (.int .u64 x)) w := fun x w => bits_entry _ w
  have h2 : ∀ (n : Int) (w : World), (callFunc 94 #[.int .u64 n]).run Tryz.prog w = .ok (.value (.float .f64 n.toNat)) w := fun n w => frombits_entry _ w
  go_enter Tryz.func88, Tryz.ntmps88
  go_wp2
  go_ret
  refine ⟨?_, rfl⟩
  have := abs_bits x
  unfold absW
  rw [← this]
  rfl
end Go.Proofs.YtcppgbhjbmfldaaGreatDoor

/- Walks of package mercatorref1: NormOf, series. -/
namespace Go.Proofs.YtcppgbhjbmfldaaGreatDoor
set_option maxRecDepth 20000
open Go.RowKit Go.Fp Go.Rel

set_option maxHeartbeats 400000 in
theorem normOf_c (a : Int) (w : World) : Calls Tryz.prog 29 #[.int .i64 a] w fun e w' => e = .returned (.int .i64 (normP a)) ∧ w = w' := by
  go_enter Tryz.func29, Tryz.ntmps29
  go_wp2
  · go_ret; exact ⟨ret_int (norm_neg (by assumption)), rfl⟩
  · go_ret; exact ⟨ret_int (norm_pos (by assumption)), rfl⟩

theorem hor_one (z : Nat) {l : List Nat} {c : Nat} (h : l = [c]) : hor z l = c := by rw [h]; rfl
theorem hv_of {z s m : Nat} (h : D.mul z s = some m) : fmul z s = m := by unfold fmul opt; rw [h]; rfl

set_option maxHeartbeats 4000000 in
theorem series_sin (z : Nat) (hz : Tp 7 z) (w : World) : Calls Tryz.prog 63 #[.float .f64 z, .int .i64 1] w fun e w' => e = .returned (.float .f64 (fadd one (fmul z (hor z KK)))) ∧ w = w' := by
  have hfin : D.add one (fmul z (hor z KK)) = some (fadd one (fmul z (hor z KK))) := by
    have hh : Tp 80 (hor z KK) := (tp_hor hz KK (by decide) (by decide) tp_KK).mono (by decide)
    have hm := tp_mul hz hh (by omega) (by omega)
    exact (tp_add (a := 88) (tp_one.mono (by omega)) (hm.2.mono (by omega)) (by omega) (by omega)).1
  generalize fadd one (fmul z (hor z KK)) = fin at *
  have Hfin := Lib.hid hfin
  have HZ := Lib.hid hz
  clear hfin hz
  go_enter Tryz.func63, Tryz.ntmps63
  go_wp2_with fail
  go_loop [5, 6] (fun s k => ∃ k0 : Nat, k0 ≤ 8 ∧ k = .int .i64 (k0 : Int) ∧ s = .float .f64 (hor z (KK.drop k0))) (fun _ k => (intOf k).toNat)
  case atStart => exact ⟨8, by omega, rfl, rfl⟩
  case round =>
    obtain ⟨k, hk, rfl, rfl⟩ := hrel
    have hv := kk_val HZ.out k hk
    have hop : ∀ t w, (binOp .mul t (.float .f64 z) (.float .f64 (hor z (KK.drop k)))).run Tryz.prog w = .ok (.float .f64 (fmul z (hor z (KK.drop k)))) w := fun t w => run_float_arith w .mul t .f64 _ _ _ hv
    clear hv
    by_cases hk0 : k = 0
    · subst hk0
      have hf : ∀ t w, (binOp .add t (.float .f64 4607182418800017408) (.float .f64 (fmul z (hor z (KK.drop 0))))).run Tryz.prog w = .ok (.float .f64 fin) w := fun t w => run_float_arith w .add t .f64 _ _ _ Hfin.out
      generalize fmul z (hor z (KK.drop 0)) = v1 at *
      generalize hor z (KK.drop 0) = v2 at *
      go_wp2_with fail
      go_ret
      exact ⟨rfl, rfl⟩
    · have hk1 : 1 ≤ k := by omega
      have hd := fac_KK k hk1 hk
      have hg : 1 ≤ (k : Int) := by omega
      have hg8 : (k : Int) ≤ 8 := by omega
      go_wp2_with fail
      go_loop [7, 8] (fun f i => ∃ j : Nat, 2 ≤ j ∧ j ≤ 2 * k + 1 + 1 ∧ i = .int .i64 (j : Int) ∧ f = .float .f64 (facW (j - 1))) (fun _ i => 2 * k + 1 + 1 - (intOf i).toNat)
      case atStart => exact ⟨2, by omega, by omega, rfl, rfl⟩
      case round =>
        obtain ⟨j, hj1, hj2, rfl, rfl⟩ := hrel
        by_cases hj : j ≤ 2 * k + 1
        · have hs := fac_step j hj1 (by omega)
          have hopf : ∀ t w, (binOp .mul t (.float .f64 (facW (j - 1))) (.float .f64 (floatOfInt .f64 (j : Int)))).run Tryz.prog w = .ok (.float .f64 (facW j)) w := fun t w => run_float_arith w .mul t .f64 _ _ _ hs
          clear hs
          have hjj : (j : Int) ≤ 2 * (k : Int) + 1 := by omega
          go_wp2_with fail
          go_round
          case rel => exact ⟨j + 1, by omega, by omega, by go_num, rfl⟩
          case measure => simp only [intOf]; omega
        · have hj3 : j = 2 * k + 1 + 1 := by omega
          have hjj : ¬ (j : Int) ≤ 2 * (k : Int) + 1 := by omega
          have ef : facW (j - 1) = facW (2 * k + 1) := by rw [hj3]; rfl
          rw [ef]
          clear ef hj3
          have HD : Hid (D.div one (facS k 1) = some (KK.getD (k - 1) 0)) := hd
          clear hd
          by_cases hp : k % 2 = 1
          · have hpi : ((k : Int) % 2 == 1) = true := by rw [beq_iff_eq]; omega
            have hd := HD.out
            unfold facS at hd
            rw [if_pos hp] at hd
            have hopd : ∀ t w, (binOp .quo t (.float .f64 4607182418800017408) (.float .f64 (Op.negFloat .f64 (facW (2 * k + 1))))).run Tryz.prog w = .ok (.float .f64 (KK.getD (k - 1) 0)) w := fun t w => run_float_arith w .quo t .f64 _ _ _ hd
            have hk8 : ((k : Int) == 8) = false := by rw [beq_eq_false_iff_ne]; omega
            obtain ⟨m, f1, f2⟩ := kk_step HZ.out (k - 1) (by omega)
            rw [show k - 1 + 1 = k by omega] at f1
            have f3 := hv_of f1
            have hopa : ∀ t w, (binOp .add t (.float .f64 (KK.getD (k - 1) 0)) (.float .f64 (fmul z (hor z (KK.drop k))))).run Tryz.prog w = .ok (.float .f64 (hor z (KK.drop (k - 1)))) w := fun t w => run_float_arith w .add t .f64 _ _ _ (by rw [f3]; exact f2)
            clear hd f1 f2 f3
            generalize facW (2 * k + 1) = fw at *
            generalize KK.getD (k - 1) 0 = kc at *
            generalize fmul z (hor z (KK.drop k)) = zs at *
            generalize hor z (KK.drop k) = s0 at *
            generalize hs1 : hor z (KK.drop (k - 1)) = s1 at *
            have HS := Lib.hid hs1
            clear hs1 HD
            go_wp2_with fail
            go_round
            case rel => exact ⟨k - 1, by omega, by go_num, by rw [HS.out]⟩
            case measure => simp only [intOf]; omega
          · have hpi : ((k : Int) % 2 == 1) = false := by rw [beq_eq_false_iff_ne]; omega
            have hd := HD.out
            unfold facS at hd
            rw [if_neg hp] at hd
            have hopd : ∀ t w, (binOp .quo t (.float .f64 4607182418800017408) (.float .f64 (facW (2 * k + 1)))).run Tryz.prog w = .ok (.float .f64 (KK.getD (k - 1) 0)) w := fun t w => run_float_arith w .quo t .f64 _ _ _ hd
            clear hd
            by_cases h8 : k = 8
            · subst h8
              generalize fmul z (hor z (KK.drop 8)) = zs at *
              generalize hor z (KK.drop 8) = s0 at *
              generalize facW (2 * 8 + 1) = fw at *
              generalize hkc : KK.getD (8 - 1) 0 = kc at *
              have HS := Lib.hid hkc
              clear hkc HD
              go_wp2_with fail
              go_round
              case rel => exact ⟨7, by omega, by go_num, by rw [← HS.out]; rfl⟩
              case measure => simp only [intOf]; omega
            · have hk8 : ((k : Int) == 8) = false := by rw [beq_eq_false_iff_ne]; omega
              obtain ⟨m, f1, f2⟩ := kk_step HZ.out (k - 1) (by omega)
              rw [show k - 1 + 1 = k by omega] at f1
              have f3 := hv_of f1
              have hopa : ∀ t w, (binOp .add t (.float .f64 (KK.getD (k - 1) 0)) (.float .f64 (fmul z (hor z (KK.drop k))))).run Tryz.prog w = .ok (.float .f64 (hor z (KK.drop (k - 1)))) w := fun t w => run_float_arith w .add t .f64 _ _ _ (by rw [f3]; exact f2)
              clear f1 f2 f3
              generalize facW (2 * k + 1) = fw at *
              generalize KK.getD (k - 1) 0 = kc at *
              generalize fmul z (hor z (KK.drop k)) = zs at *
              generalize hor z (KK.drop k) = s0 at *
              generalize hs1 : hor z (KK.drop (k - 1)) = s1 at *
              have HS := Lib.hid hs1
              clear hs1 HD
              go_wp2_with fail
              go_round
              case rel => exact ⟨k - 1, by omega, by go_num, by rw [HS.out]⟩
              case measure => simp only [intOf]; omega

set_option maxHeartbeats 4000000 in
theorem series_cos (z : Nat) (hz : Tp 7 z) (w : World) : Calls Tryz.prog 63 #[.float .f64 z, .int .i64 0] w fun e w' => e = .returned (.float .f64 (fadd one (fmul z (hor z DD)))) ∧ w = w' := by
  have hfin : D.add one (fmul z (hor z DD)) = some (fadd one (fmul z (hor z DD))) := by
    have hh : Tp 80 (hor z DD) := (tp_hor hz DD (by decide) (by decide) tp_DD).mono (by decide)
    have hm := tp_mul hz hh (by omega) (by omega)
    exact (tp_add (a := 88) (tp_one.mono (by omega)) (hm.2.mono (by omega)) (by omega) (by omega)).1
  generalize fadd one (fmul z (hor z DD)) = fin at *
  have Hfin := Lib.hid hfin
  have HZ := Lib.hid hz
  clear hfin hz
  go_enter Tryz.func63, Tryz.ntmps63
  go_wp2_with fail
  go_loop [5, 6] (fun s k => ∃ k0 : Nat, k0 ≤ 8 ∧ k = .int .i64 (k0 : Int) ∧ s = .float .f64 (hor z (DD.drop k0))) (fun _ k => (intOf k).toNat)
  case atStart => exact ⟨8, by omega, rfl, rfl⟩
  case round =>
    obtain ⟨k, hk, rfl, rfl⟩ := hrel
    have hv := dd_val HZ.out k hk
    have hop : ∀ t w, (binOp .mul t (.float .f64 z) (.float .f64 (hor z (DD.drop k)))).run Tryz.prog w = .ok (.float .f64 (fmul z (hor z (DD.drop k)))) w := fun t w => run_float_arith w .mul t .f64 _ _ _ hv
    clear hv
    by_cases hk0 : k = 0
    · subst hk0
      have hf : ∀ t w, (binOp .add t (.float .f64 4607182418800017408) (.float .f64 (fmul z (hor z (DD.drop 0))))).run Tryz.prog w = .ok (.float .f64 fin) w := fun t w => run_float_arith w .add t .f64 _ _ _ Hfin.out
      generalize fmul z (hor z (DD.drop 0)) = v1 at *
      generalize hor z (DD.drop 0) = v2 at *
      go_wp2_with fail
      go_ret
      exact ⟨rfl, rfl⟩
    · have hk1 : 1 ≤ k := by omega
      have hd := fac_DD k hk1 hk
      have hg : 1 ≤ (k : Int) := by omega
      have hg8 : (k : Int) ≤ 8 := by omega
      go_wp2_with fail
      go_loop [7, 8] (fun f i => ∃ j : Nat, 2 ≤ j ∧ j ≤ 2 * k + 0 + 1 ∧ i = .int .i64 (j : Int) ∧ f = .float .f64 (facW (j - 1))) (fun _ i => 2 * k + 0 + 1 - (intOf i).toNat)
      case atStart => exact ⟨2, by omega, by omega, rfl, rfl⟩
      case round =>
        obtain ⟨j, hj1, hj2, rfl, rfl⟩ := hrel
        by_cases hj : j ≤ 2 * k + 0
        · have hs := fac_step j hj1 (by omega)
          have hopf : ∀ t w, (binOp .mul t (.float .f64 (facW (j - 1))) (.float .f64 (floatOfInt .f64 (j : Int)))).run Tryz.prog w = .ok (.float .f64 (facW j)) w := fun t w => run_float_arith w .mul t .f64 _ _ _ hs
          clear hs
          have hjj : (j : Int) ≤ 2 * (k : Int) + 0 := by omega
          go_wp2_with fail
          go_round
          case rel => exact ⟨j + 1, by omega, by omega, by go_num, rfl⟩
          case measure => simp only [intOf]; omega
        · have hj3 : j = 2 * k + 0 + 1 := by omega
          have hjj : ¬ (j : Int) ≤ 2 * (k : Int) + 0 := by omega
          have ef : facW (j - 1) = facW (2 * k + 0) := by rw [hj3]; rfl
          rw [ef]
          clear ef hj3
          have HD : Hid (D.div one (facS k 0) = some (DD.getD (k - 1) 0)) := hd
          clear hd
          by_cases hp : k % 2 = 1
          · have hpi : ((k : Int) % 2 == 1) = true := by rw [beq_iff_eq]; omega
            have hd := HD.out
            unfold facS at hd
            rw [if_pos hp] at hd
            have hopd : ∀ t w, (binOp .quo t (.float .f64 4607182418800017408) (.float .f64 (Op.negFloat .f64 (facW (2 * k + 0))))).run Tryz.prog w = .ok (.float .f64 (DD.getD (k - 1) 0)) w := fun t w => run_float_arith w .quo t .f64 _ _ _ hd
            have hk8 : ((k : Int) == 8) = false := by rw [beq_eq_false_iff_ne]; omega
            obtain ⟨m, f1, f2⟩ := dd_step HZ.out (k - 1) (by omega)
            rw [show k - 1 + 1 = k by omega] at f1
            have f3 := hv_of f1
            have hopa : ∀ t w, (binOp .add t (.float .f64 (DD.getD (k - 1) 0)) (.float .f64 (fmul z (hor z (DD.drop k))))).run Tryz.prog w = .ok (.float .f64 (hor z (DD.drop (k - 1)))) w := fun t w => run_float_arith w .add t .f64 _ _ _ (by rw [f3]; exact f2)
            clear hd f1 f2 f3
            generalize facW (2 * k + 0) = fw at *
            generalize DD.getD (k - 1) 0 = kc at *
            generalize fmul z (hor z (DD.drop k)) = zs at *
            generalize hor z (DD.drop k) = s0 at *
            generalize hs1 : hor z (DD.drop (k - 1)) = s1 at *
            have HS := Lib.hid hs1
            clear hs1 HD
            go_wp2_with fail
            go_round
            case rel => exact ⟨k - 1, by omega, by go_num, by rw [HS.out]⟩
            case measure => simp only [intOf]; omega
          · have hpi : ((k : Int) % 2 == 1) = false := by rw [beq_eq_false_iff_ne]; omega
            have hd := HD.out
            unfold facS at hd
            rw [if_neg hp] at hd
            have hopd : ∀ t w, (binOp .quo t (.float .f64 4607182418800017408) (.float .f64 (facW (2 * k + 0)))).run Tryz.prog w = .ok (.float .f64 (DD.getD (k - 1) 0)) w := fun t w => run_float_arith w .quo t .f64 _ _ _ hd
            clear hd
            by_cases h8 : k = 8
            · subst h8
              generalize fmul z (hor z (DD.drop 8)) = zs at *
              generalize hor z (DD.drop 8) = s0 at *
              generalize facW (2 * 8 + 0) = fw at *
              generalize hkc : DD.getD (8 - 1) 0 = kc at *
              have HS := Lib.hid hkc
              clear hkc HD
              go_wp2_with fail
              go_round
              case rel => exact ⟨7, by omega, by go_num, by rw [← HS.out]; rfl⟩
              case measure => simp only [intOf]; omega
            · have hk8 : ((k : Int) == 8) = false := by rw [beq_eq_false_iff_ne]; omega
              obtain ⟨m, f1, f2⟩ := dd_step HZ.out (k - 1) (by omega)
              rw [show k - 1 + 1 = k by omega] at f1
              have f3 := hv_of f1
              have hopa : ∀ t w, (binOp .add t (.float .f64 (DD.getD (k - 1) 0)) (.float .f64 (fmul z (hor z (DD.drop k))))).run Tryz.prog w = .ok (.float .f64 (hor z (DD.drop (k - 1)))) w := fun t w => run_float_arith w .add t .f64 _ _ _ (by rw [f3]; exact f2)
              clear f1 f2 f3
              generalize facW (2 * k + 0) = fw at *
              generalize DD.getD (k - 1) 0 = kc at *
              generalize fmul z (hor z (DD.drop k)) = zs at *
              generalize hor z (DD.drop k) = s0 at *
              generalize hs1 : hor z (DD.drop (k - 1)) = s1 at *
              have HS := Lib.hid hs1
              clear hs1 HD
              go_wp2_with fail
              go_round
              case rel => exact ⟨k - 1, by omega, by go_num, by rw [HS.out]⟩
              case measure => simp only [intOf]; omega
end Go.Proofs.YtcppgbhjbmfldaaGreatDoor

/- Walks of package mercatorref1: SinCos, Finite, Plus, Less, LengthOf. -/
namespace Go.Proofs.YtcppgbhjbmfldaaGreatDoor
set_option maxRecDepth 20000
open Go.RowKit Go.Fp Go.Rel

/-- a call hands back two floats -/
def TwoR (a b : Nat) (w : World) (e : Ending) (w' : World) : Prop := e = .returned (.tuple #[.float .f64 a, .float .f64 b]) ∧ w = w'

set_option maxHeartbeats 2000000 in
theorem sincos_c (a : Int) (w : World) : Calls Tryz.prog 30 #[.int .i64 a] w (TwoR (sinP a) (cosP a) w) := by
  unfold sinP cosP sinN cosN
  have hlo := normP_lo a
  have hhi := normP_hi a
  have HN := normOf_c a
  generalize normP a = b at *
  have hx := (tp_x hlo hhi).1
  have hz := (tp_z hlo hhi).1
  have hz7 := (tp_z hlo hhi).2
  obtain ⟨⟨_, _, hs3⟩, _⟩ := tp_s hlo hhi
  have HS1 := Lib.hid (series_sin (zOf b) hz7)
  have HS0 := Lib.hid (series_cos (zOf b) hz7)
  have hc0 : fadd one (fmul (zOf b) (hor (zOf b) DD)) = cOf b := rfl
  rw [hc0] at HS0
  clear hc0
  have h4 := quart4 b
  have hq0 := quart_lo hlo
  have hq1 := quart_hi hhi
  have hopx : ∀ t w, (binOp .mul t (.float .f64 (floatOfInt .f64 (b - quart b * 90000000000))) (.float .f64 4445950764994258515)).run Tryz.prog w = .ok (.float .f64 (xOf b)) w := fun t w => run_float_arith w .mul t .f64 _ _ _ hx
  have hopz : ∀ t w, (binOp .mul t (.float .f64 (xOf b)) (.float .f64 (xOf b))).run Tryz.prog w = .ok (.float .f64 (zOf b)) w := fun t w => run_float_arith w .mul t .f64 _ _ _ hz
  have hops : ∀ t w, (binOp .mul t (.float .f64 (xOf b)) (.float .f64 (fadd one (fmul (zOf b) (hor (zOf b) KK))))).run Tryz.prog w = .ok (.float .f64 (sOf b)) w := fun t w => run_float_arith w .mul t .f64 _ _ _ hs3
  have HQ : Hid (quart b = (b + 45000000000) / 90000000000) := rfl
  have HN' := Lib.hid HN
  clear HN hx hz hz7 hs3
  generalize fadd one (fmul (zOf b) (hor (zOf b) KK)) = sr at *
  generalize zOf b = z at *
  generalize xOf b = x at *
  generalize sOf b = s at *
  generalize cOf b = c at *
  generalize quart b = q at *
  generalize hR1 : (if q % 4 = 0 then s else if q % 4 = 1 then c else if q % 4 = 2 then Op.negFloat FloatKind.f64 s else Op.negFloat FloatKind.f64 c) = R1 at *
  generalize hR2 : (if q % 4 = 0 then c else if q % 4 = 1 then Op.negFloat FloatKind.f64 s else if q % 4 = 2 then Op.negFloat FloatKind.f64 c else s) = R2 at *
  have HR1 := Lib.hid hR1
  have HR2 := Lib.hid hR2
  clear hR1 hR2
  go_enter Tryz.func30, Tryz.ntmps30
  go_wp2_with (first | (go_at_call 29; refine (HN'.out _).mono ?_; rintro e w' ⟨rfl, rfl⟩))
  go_loop [0, 4] (fun v k => ∃ j : Int, 0 ≤ j ∧ j ≤ q ∧ k = .int .i64 j ∧ v = .int .i64 (b - j * 90000000000)) (fun v _ => (intOf v + 45000000000).toNat)
  case atStart => exact ⟨0, by omega, hq0, rfl, by rw [Int.zero_mul, Int.sub_zero]⟩
  case round =>
    obtain ⟨j, hj0, hj1, rfl, rfl⟩ := hrel
    have hq := HQ.out
    by_cases hj : 45000000000 ≤ b - j * 90000000000
    · have hjq : j + 1 ≤ q := by omega
      clear hq
      go_wp2_with fail
      go_round
      case rel => exact ⟨j + 1, by omega, hjq, rfl, by go_num⟩
      case measure => simp only [intOf]; omega
    · have hjq : j = q := by omega
      clear hq
      subst hjq
      clear hj1
      rcases h4 with h4 | h4 | h4 | h4
      all_goals
        go_wp2_with fail
        refine (HS1.out _).mono ?_
        rintro e w' ⟨rfl, rfl⟩
        go_wp2_with fail
        refine (HS0.out _).mono ?_
        rintro e w' ⟨rfl, rfl⟩
        go_wp2_with fail
        go_ret2
        refine ⟨?_, rfl⟩
        rw [← HR1.out, ← HR2.out]
        simp only [h4]
        rfl
end Go.Proofs.YtcppgbhjbmfldaaGreatDoor

/- Walks of package grain: Angle. -/
namespace Go.Proofs.YtcppgbhjbmfldaaGreatDoor
set_option maxRecDepth 20000
open Go.RowKit Go.Fp Go.Rel

theorem fin_num {x : Nat} (h : finP (can x) = true) : can x = x := by
  cases hn : isNan x
  · exact can_of_not hn
  · rw [can_of_nan hn] at h
    exact absurd h (by decide +kernel)

/-- a call hands back an int and a bool -/
def AnR (p : Int × Bool) (w : World) (e : Ending) (w' : World) : Prop := e = .returned (.tuple #[.int .i64 p.1, .bool p.2]) ∧ Ext w w'

def TrueB (b : Bool) : Prop := b = true

set_option maxHeartbeats 1000000 in
theorem angle_no1 (y x : Nat) (w : World) (hx : finP (can x) = false) : Calls Tryz.prog 55 #[.float .f64 y, .float .f64 x] w (AnR (0, false) w) := by
  have HF := fin_c x
  rw [hx] at HF
  have HF' := Lib.hid HF
  clear HF hx
  go_enter Tryz.func55, Tryz.ntmps55
  go_wp2_with (first | (go_at_call 87; refine (HF'.out _).mono ?_; rintro e w' ⟨rfl, hx⟩))
  go_ret2
  exact ⟨rfl, hx⟩
set_option maxHeartbeats 1000000 in
theorem angle_no2 (y x : Nat) (w : World) (hx : finP (can x) = true) (hy : finP (can y) = false) : Calls Tryz.prog 55 #[.float .f64 y, .float .f64 x] w (AnR (0, false) w) := by
  have HF := fin_c x
  rw [hx] at HF
  have HF' := Lib.hid HF
  have HG := fin_c y
  rw [hy] at HG
  have HG' := Lib.hid HG
  clear HF hx HG hy
  go_enter Tryz.func55, Tryz.ntmps55
  go_wp2_with fail
  refine (HF'.out _).mono ?_
  rintro e w' ⟨rfl, hx⟩
  go_wp2_with fail
  refine (HG'.out _).mono ?_
  rintro e w'' ⟨rfl, hx'⟩
  go_wp2_with fail
  go_ret2
  exact ⟨rfl, hx.trans hx'⟩
set_option maxHeartbeats 1000000 in
theorem angle_no3 (y x : Nat) (w : World) (hx : finP (can x) = true) (hy : finP (can y) = true) (hx0 : (D.order x 0 == some .eq) = true) (hy0 : (D.order y 0 == some .eq) = true) :
    Calls Tryz.prog 55 #[.float .f64 y, .float .f64 x] w (AnR (0, false) w) := by
  have HF := fin_c x
  rw [hx] at HF
  have HF' := Lib.hid HF
  have HG := fin_c y
  rw [hy] at HG
  have HG' := Lib.hid HG
  clear HF hx HG hy
  have hx0' : (FloatKind.f64.format.order x 0 == some .eq) = true := hx0
  have hy0' : (FloatKind.f64.format.order y 0 == some .eq) = true := hy0
  clear hx0 hy0
  go_enter Tryz.func55, Tryz.ntmps55
  go_wp2_with fail
  refine (HF'.out _).mono ?_
  rintro e w' ⟨rfl, hx⟩
  go_wp2_with fail
  refine (HG'.out _).mono ?_
  rintro e w'' ⟨rfl, hx'⟩
  go_wp2_with fail
  go_ret2
  exact ⟨rfl, hx.trans hx'⟩
end Go.Proofs.YtcppgbhjbmfldaaGreatDoor

/- Walks of package grain: Angle, where there is one. -/
namespace Go.Proofs.YtcppgbhjbmfldaaGreatDoor
set_option maxRecDepth 20000
open Go.RowKit Go.Fp Go.Rel

theorem ang_yes {qq lo hi : Int} {X Y r1 r2 : Nat} (hb : TrueB (decide (qq = bisect (fun m => fle (fmul (sinP m) X) (fmul (cosP m) Y)) lo hi))) (hd : 1 < hi - lo)
    (t : (FloatKind.f64.format.order r1 r2 == some Ordering.lt) = true ∨ (FloatKind.f64.format.order r1 r2 == some Ordering.eq) = true)
    (h1 : can r1 = fbin BinOp.mul (can (sinP ((lo + hi) / 2))) (can X)) (h2 : can r2 = fbin BinOp.mul (can (cosP ((lo + hi) / 2))) (can Y)) :
    TrueB (decide (qq = bisect (fun m => fle (fmul (sinP m) X) (fmul (cosP m) Y)) ((lo + hi) / 2) hi)) := by
  have hp : fle (fmul (sinP ((lo + hi) / 2)) X) (fmul (cosP ((lo + hi) / 2)) Y) = true := by
    have e1 : fmul (sinP ((lo + hi) / 2)) X = can r1 := by rw [h1]; exact (fmul_can _ _).symm
    have e2 : fmul (cosP ((lo + hi) / 2)) Y = can r2 := by rw [h2]; exact (fmul_can _ _).symm
    rw [e1, e2]; unfold fle; rw [order_can]
    rw [Bool.or_eq_true]; exact t
  unfold TrueB at *
  rw [decide_eq_true_eq] at *
  rw [hb]
  exact bisect_yes hd hp
theorem ang_no {qq lo hi : Int} {X Y r1 r2 : Nat} (hb : TrueB (decide (qq = bisect (fun m => fle (fmul (sinP m) X) (fmul (cosP m) Y)) lo hi))) (hd : 1 < hi - lo)
    (t : (FloatKind.f64.format.order r1 r2 == some Ordering.lt) = false ∧ (FloatKind.f64.format.order r1 r2 == some Ordering.eq) = false)
    (h1 : can r1 = fbin BinOp.mul (can (sinP ((lo + hi) / 2))) (can X)) (h2 : can r2 = fbin BinOp.mul (can (cosP ((lo + hi) / 2))) (can Y)) :
    TrueB (decide (qq = bisect (fun m => fle (fmul (sinP m) X) (fmul (cosP m) Y)) lo ((lo + hi) / 2))) := by
  have hp : fle (fmul (sinP ((lo + hi) / 2)) X) (fmul (cosP ((lo + hi) / 2)) Y) = false := by
    have e1 : fmul (sinP ((lo + hi) / 2)) X = can r1 := by rw [h1]; exact (fmul_can _ _).symm
    have e2 : fmul (cosP ((lo + hi) / 2)) Y = can r2 := by rw [h2]; exact (fmul_can _ _).symm
    rw [e1, e2]; unfold fle; rw [order_can]
    rw [Bool.or_eq_false_iff]; exact t
  unfold TrueB at *
  rw [decide_eq_true_eq] at *
  rw [hb]
  exact bisect_no hd hp
theorem ang_end {qq lo hi : Int} {p : Int → Bool} (hb : TrueB (decide (qq = bisect p lo hi))) (hd : ¬ 1 < hi - lo) : qq = lo := by
  unfold TrueB at hb
  rw [decide_eq_true_eq] at hb
  rw [hb]
  exact bisect_done p (by omega)

set_option maxHeartbeats 8000000 in
theorem angle_yes (y x : Nat) (w : World) (hx : finP (can x) = true) (hy : finP (can y) = true) (ox oy : Ordering) (hox : FloatKind.f64.format.order x 0 = some ox) (hoy : FloatKind.f64.format.order y 0 = some oy) (hne : ¬ (ox = .eq ∧ oy = .eq)) :
    Calls Tryz.prog 55 #[.float .f64 y, .float .f64 x] w (AnR (angleP (can y) (can x)) w) := by
  have HF := fin_c x
  have HG := fin_c y
  have hcx := fin_num hx
  have hcy := fin_num hy
  have HA : angleP (can y) (can x) = angleP y x := by rw [hcx, hcy]
  have HP : angleP y x = if fge x 0 && fge y 0 then (quad (absW x) (absW y), true) else if fge y 0 then (180000000000 - quad (absW x) (absW y), true) else if flt x 0 then (180000000000 + quad (absW x) (absW y), true) else (normP (360000000000 - quad (absW x) (absW y)), true) := by
    unfold angleP
    rw [hcx] at hx
    rw [hcy] at hy
    have h3 : (feq x 0 && feq y 0) = false := by
      unfold feq
      rw [show D.order x 0 = some ox from hox, show D.order y 0 = some oy from hoy]
      cases ox <;> cases oy <;> simp_all
    rw [hx, hy, h3]
    rfl
  rw [HA, HP]
  rw [hx] at HF
  rw [hy] at HG
  have HF' := Lib.hid HF
  have HG' := Lib.hid HG
  unfold fge flt
  rw [show D.order x 0 = some ox from hox, show D.order y 0 = some oy from hoy]
  clear HF HG HA HP hx hy
  have HU : quad (absW x) (absW y) = bisect (fun m => fle (fmul (sinP m) (absW x)) (fmul (cosP m) (absW y))) 0 90000000001 := quad_def _ _
  generalize quad (absW x) (absW y) = qq at *
  have HU' := Lib.hid HU
  have HX := Lib.hid hcx
  have HY := Lib.hid hcy
  clear HU hcx hcy
  cases ox <;> cases oy
  any_goals (exfalso; exact hne ⟨rfl, rfl⟩)
  all_goals clear hne
  all_goals
    go_enter Tryz.func55, Tryz.ntmps55
    go_wp2_with fail
    refine (HF'.out _).mono ?_
    rintro e w1 ⟨rfl, hx1⟩
    go_wp2_with fail
    refine (HG'.out _).mono ?_
    rintro e w2 ⟨rfl, hx2⟩
    go_wp2_with (first | (go_at_call 88; refine (abs_c _ _).mono ?_; rintro e w' ⟨rfl, rfl⟩))
    have hw := hx1.trans hx2
    clear hx1 hx2 HF' HG'
    go_loopw [8, 9] (fun l h wr => ∃ lo hi : Int, l = .int .i64 lo ∧ h = .int .i64 hi ∧ 0 ≤ lo ∧ lo < hi ∧ hi ≤ 90000000001 ∧ TrueB (decide (qq = bisect (fun m => fle (fmul (sinP m) (absW x)) (fmul (cosP m) (absW y))) lo hi)) ∧ Ext w wr) (fun l h _ => (intOf h - intOf l).toNat)
    case atStart => exact ⟨0, 90000000001, rfl, rfl, by omega, by omega, by omega, decide_eq_true HU'.out, hw⟩
    case round =>
      clear hw
      obtain ⟨lo, hi, rfl, rfl, h1, h2, h3, hb, hxw⟩ := hrel
      by_cases hd : 1 < hi - lo
      · go_wp2_with (first | (go_at_call 56; refine (sin_c _ _).mono ?_; rintro e w' ⟨rfl, hxs⟩) | (go_at_call 54; refine (cos_c _ _).mono ?_; rintro e w' ⟨rfl, hxc⟩) | (with_reducible refine upon_fl rfl ?_; intro r n hr))
        · go_roundw
          case rel => exact ⟨_, _, rfl, rfl, by omega, by omega, by omega, ang_yes hb hd (by assumption) (by assumption) (by assumption), ((hxw.trans hxs).drewN _).trans (hxc.drewN _)⟩
          case measure => simp only [intOf]; omega
        · go_roundw
          case rel => exact ⟨_, _, rfl, rfl, by omega, by omega, by omega, ang_no hb hd (by assumption) (by assumption) (by assumption), ((hxw.trans hxs).drewN _).trans (hxc.drewN _)⟩
          case measure => simp only [intOf]; omega
      · have := ang_end hb hd
        subst this
        clear hb
        go_wp2_with (first | (go_at_call 57; refine (norm_c _ _).mono ?_; rintro e w' ⟨rfl, rfl⟩))
        go_ret2
        exact ⟨rfl, hxw⟩
end Go.Proofs.YtcppgbhjbmfldaaGreatDoor

/- Walks of package grain: Angle, whole; Length. -/
namespace Go.Proofs.YtcppgbhjbmfldaaGreatDoor
set_option maxRecDepth 20000
open Go.RowKit Go.Fp Go.Rel

theorem order_some {x : Nat} (h : isNan x = false) : ∃ o, D.order x 0 = some o := by
  unfold isNan at h
  unfold Ieee.Format.order
  have e : D.read 0 = .number false 0 (-1074) := by decide +kernel
  rw [e]
  cases hd : D.read x with
  | nan s t => rw [hd] at h; cases h
  | number s m p => exact ⟨_, rfl⟩
  | infinity s => exact ⟨_, rfl⟩

theorem angle_c (y x : Nat) (w : World) : Calls Tryz.prog 55 #[.float .f64 y, .float .f64 x] w (AnR (angleP (can y) (can x)) w) := by
  cases hx : finP (can x) with
  | false =>
    have e : angleP (can y) (can x) = (0, false) := by unfold angleP; rw [hx]; rfl
    rw [e]; exact angle_no1 y x w hx
  | true =>
    cases hy : finP (can y) with
    | false =>
      have e : angleP (can y) (can x) = (0, false) := by unfold angleP; rw [hx, hy]; rfl
      rw [e]; exact angle_no2 y x w hx hy
    | true =>
      have hcx := fin_num hx
      have hcy := fin_num hy
      have hnx : isNan x = false := by
        cases hn : isNan x
        · rfl
        · rw [can_of_nan hn] at hx; exact absurd hx (by decide +kernel)
      have hny : isNan y = false := by
        cases hn : isNan y
        · rfl
        · rw [can_of_nan hn] at hy; exact absurd hy (by decide +kernel)
      obtain ⟨ox, hox⟩ := order_some hnx
      obtain ⟨oy, hoy⟩ := order_some hny
      by_cases hne : ox = .eq ∧ oy = .eq
      · obtain ⟨rfl, rfl⟩ := hne
        have hx0 : (D.order x 0 == some .eq) = true := by rw [hox]; rfl
        have hy0 : (D.order y 0 == some .eq) = true := by rw [hoy]; rfl
        have e : angleP (can y) (can x) = (0, false) := by
          unfold angleP feq
          rw [hx, hy, hcx, hcy, hx0, hy0]; rfl
        rw [e]; exact angle_no3 y x w hx hy hx0 hy0
      · exact angle_yes y x w hx hy ox oy hox hoy hne

/-- the root of x * x + y * y + z * z -/
def lenP (x y z : Nat) : Nat := fsqrt (fadd (fadd (fmul x x) (fmul y y)) (fmul z z))

end Go.Proofs.YtcppgbhjbmfldaaGreatDoor

/- Walks of package mercatorref1: Finite, Plus, Less, LengthOf. -/
namespace Go.Proofs.YtcppgbhjbmfldaaGreatDoor
set_option maxRecDepth 20000
open Go.RowKit Go.Fp Go.Rel

set_option maxHeartbeats 1000000 in
theorem finR_c (x : Nat) (w : World) : Calls Tryz.prog 97 #[.float .f64 x] w (ExR (.bool (finP (can x))) w) := by
  go_enter Tryz.func97, Tryz.ntmps97
  go_wp2_with (first | (with_reducible refine upon_fl rfl ?_; intro r n hr))
  go_ret
  refine ⟨?_, (Ext.refl _).drewN _⟩
  rw [fin_of hr]
  rfl
set_option maxHeartbeats 1000000 in
theorem plus_c (x y z : Nat) (w : World) : Calls Tryz.prog 42 #[.float .f64 x, .float .f64 y, .float .f64 z] w (FlR (fadd (can x) (fmul (can y) (can z))) w) := by
  go_enter Tryz.func42, Tryz.ntmps42
  go_wp2_with (first | (with_reducible refine upon_fl rfl ?_; intro r n hr))
  go_ret
  refine ⟨_, rfl, by simp only [*, fbin], ?_⟩
  exact (Ext.refl _).drewN _
set_option maxHeartbeats 1000000 in
theorem less_c (x y z : Nat) (w : World) : Calls Tryz.prog 71 #[.float .f64 x, .float .f64 y, .float .f64 z] w (FlR (fsub (can x) (fmul (can y) (can z))) w) := by
  go_enter Tryz.func71, Tryz.ntmps71
  go_wp2_with (first | (with_reducible refine upon_fl rfl ?_; intro r n hr))
  go_ret
  refine ⟨_, rfl, by simp only [*, fbin], ?_⟩
  exact (Ext.refl _).drewN _

end Go.Proofs.YtcppgbhjbmfldaaGreatDoor

/- Plain laws: the reference's angle of a point is the program's: sizes by sign or by bit; zeros of either sign. -/
namespace Go.Fp
open Ieee

def refAbs (x : Nat) : Nat := if flt x 0 then Op.negFloat .f64 x else x

theorem read_mod (x y : Nat) (h1 : x / 2 ^ 63 % 2 = y / 2 ^ 63 % 2) (h2 : x % 2 ^ 63 = y % 2 ^ 63) : D.read x = D.read y := by
  unfold Format.read
  simp only [D_sign]
  rw [h1, h2]

theorem neg_parts (x : Nat) : (Op.negFloat .f64 x) % 2 ^ 63 = x % 2 ^ 63 ∧ (Op.negFloat .f64 x) / 2 ^ 63 % 2 = 1 - x / 2 ^ 63 % 2 := by
  have e : Op.negFloat .f64 x = x ^^^ 2 ^ 63 := rfl
  rw [e]
  constructor
  · apply Nat.eq_of_testBit_eq
    intro i
    rw [Nat.testBit_mod_two_pow, Nat.testBit_mod_two_pow, Nat.testBit_xor, Nat.testBit_two_pow]
    by_cases h : i < 63
    · have h6 : ¬ 63 = i := by omega
      simp [h, h6]
    · simp [h]
  · have h : (x ^^^ 2 ^ 63).testBit 63 = !(x.testBit 63) := by
      rw [Nat.testBit_xor, Nat.testBit_two_pow]; simp
    rw [Nat.testBit_eq_decide_div_mod_eq, Nat.testBit_eq_decide_div_mod_eq] at h
    have h1 : (x ^^^ 2 ^ 63) / 2 ^ 63 % 2 < 2 := Nat.mod_lt _ (by decide)
    have h2 : x / 2 ^ 63 % 2 < 2 := Nat.mod_lt _ (by decide)
    generalize (x ^^^ 2 ^ 63) / 2 ^ 63 % 2 = a at *
    generalize x / 2 ^ 63 % 2 = b at *
    have ha : a = 0 ∨ a = 1 := by omega
    have hb : b = 0 ∨ b = 1 := by omega
    rcases ha with rfl | rfl <;> rcases hb with rfl | rfl <;> simp at h <;> rfl

theorem abs_parts (x : Nat) : absW x % 2 ^ 63 = x % 2 ^ 63 ∧ absW x / 2 ^ 63 % 2 = 0 := by
  unfold absW
  constructor
  · omega
  · have : x % 2 ^ 63 < 2 ^ 63 := Nat.mod_lt _ (by decide)
    rw [Nat.div_eq_of_lt this]

theorem read_sign {x : Nat} {s : Bool} {m : Nat} {p : Int} (h : D.read x = .number s m p) : (s = true ↔ x / 2 ^ 63 % 2 = 1) := by
  unfold Format.read at h
  simp only [D_sign] at h
  split at h
  · cases h; simp
  · split at h
    · cases h; simp
    · split at h <;> cases h
theorem read_sign_inf {x : Nat} {s : Bool} (h : D.read x = .infinity s) : (s = true ↔ x / 2 ^ 63 % 2 = 1) := by
  unfold Format.read at h
  simp only [D_sign] at h
  split at h
  · cases h
  · split at h
    · cases h
    · split at h <;> cases h; simp
theorem read_zero {x : Nat} {s : Bool} {p : Int} (h : D.read x = .number s 0 p) : x % 2 ^ 63 = 0 ∧ p = -1074 := by
  unfold Format.read at h
  simp only [D_sign, D_bin, D_least] at h
  split at h
  · injection h with _ h1 h2; exact ⟨h1, h2.symm⟩
  · split at h
    · injection h with _ h _; omega
    · split at h <;> cases h
theorem read0 : D.read 0 = .number false 0 (-1074) := by decide +kernel

/-- a size told by the sign's bit and one told by '<': the same, or both nought -/
theorem refAbs_read {x : Nat} (hn : isNan x = false) : D.read (refAbs x) = D.read (absW x) ∨ (∃ s, D.read (refAbs x) = .number s 0 (-1074)) ∧ ∃ s, D.read (absW x) = .number s 0 (-1074) := by
  unfold refAbs
  have hap := abs_parts x
  have hnp := neg_parts x
  cases hf : flt x 0
  · -- not below 0
    rw [if_neg (by simp)]
    by_cases hs : x / 2 ^ 63 % 2 = 1
    · refine .inr ?_
      cases hd : D.read x with
      | nan s t => unfold isNan at hn; rw [hd] at hn; cases hn
      | infinity s =>
        have := (read_sign_inf hd).2 hs
        subst this
        unfold flt Format.order at hf
        rw [hd, read0] at hf
        simp [Datum.order] at hf
      | number s m p =>
        have := (read_sign hd).2 hs
        subst this
        have hm : m = 0 := by
          unfold flt Format.order at hf
          rw [hd, read0] at hf
          simp only [Datum.order] at hf
          by_cases hm : m = 0
          · exact hm
          · exfalso
            have h1 : signed true m (p - min p (-1074)).toNat < signed false 0 (-1074 - min p (-1074)).toNat := by
              unfold signed
              simp only [if_true, Bool.false_eq_true, if_false, Nat.zero_shiftLeft]
              have : 0 < m <<< (p - min p (-1074)).toNat := by
                rw [Nat.shiftLeft_eq]; exact Nat.mul_pos (by omega) (Nat.two_pow_pos _)
              omega
            rw [Int.compare_eq_lt.2 h1] at hf
            simp at hf
        subst hm
        obtain ⟨hz, hp⟩ := read_zero hd
        subst hp
        refine ⟨⟨true, rfl⟩, false, ?_⟩
        have : absW x = 0 := by unfold absW; exact hz
        rw [this]; exact read0
    · refine .inl (read_mod _ _ ?_ hap.1.symm)
      have : x / 2 ^ 63 % 2 < 2 := Nat.mod_lt _ (by decide)
      omega
  · rw [if_pos rfl]
    refine .inl (read_mod _ _ ?_ (by rw [hnp.1, hap.1]))
    have hs : x / 2 ^ 63 % 2 = 1 := by
      cases hd : D.read x with
      | nan s t => unfold isNan at hn; rw [hd] at hn; cases hn
      | infinity s =>
        refine (read_sign_inf hd).1 ?_
        unfold flt Format.order at hf
        rw [hd, read0] at hf
        cases s
        · simp [Datum.order] at hf
        · rfl
      | number s m p =>
        refine (read_sign hd).1 ?_
        unfold flt Format.order at hf
        rw [hd, read0] at hf
        cases s
        · exfalso
          simp only [Datum.order, signed, Bool.false_eq_true, if_false, Nat.zero_shiftLeft] at hf
          have h1 : ¬ ((m <<< (p - min p (-1074)).toNat : Nat) : Int) < ((0 : Nat) : Int) := Int.not_lt.2 (Int.natCast_nonneg _)
          simp only [beq_iff_eq, Option.some.injEq] at hf
          exact h1 (Int.compare_eq_lt.1 hf)
        · rfl
    rw [hnp.2, hap.2]; omega

theorem order_read {a b : Nat} (h : D.read a = D.read b) (t : Nat) : D.order a t = D.order b t ∧ D.order t a = D.order t b := by
  unfold Format.order; rw [h]; exact ⟨rfl, rfl⟩
theorem order_nought {a b : Nat} {s t : Bool} (ha : D.read a = .number s 0 (-1074)) (hb : D.read b = .number t 0 (-1074)) (u : Nat) : D.order a u = D.order b u ∧ D.order u a = D.order u b := by
  unfold Format.order
  rw [ha, hb]
  cases D.read u with
  | nan _ _ => exact ⟨rfl, rfl⟩
  | infinity _ => exact ⟨rfl, rfl⟩
  | number q m p => constructor <;> simp [Datum.order, signed]

theorem fmul_read {u u' : Nat} (s : Nat) (h : D.read u = D.read u') : fmul s u = fmul s u' := by
  unfold fmul Format.mul; rw [h]
theorem fmul_nought {s u : Nat} {k : Int} {t : Bool} (hs : Tp k s) (h : D.read u = .number t 0 (-1074)) : ∃ q, D.read (fmul s u) = .number q 0 (-1074) := by
  obtain ⟨s1, m, p, hr, _⟩ := hs
  have e : fmul s u = D.nearest (s1 ^^ t) (m * 0) (p + -1074) := by
    unfold fmul opt Format.mul; rw [hr, h]; rfl
  rw [e]
  have e2 : D.nearest (s1 ^^ t) (m * 0) (p + -1074) = D.word (s1 ^^ t) 0 := by
    unfold Format.nearest; rw [if_pos (Nat.mul_zero m)]
  rw [e2]
  obtain ⟨q, hq⟩ := read_word (s1 ^^ t) (r := 0) (by decide)
  exact ⟨q, by rw [hq]; rfl⟩

theorem tp_neg {k : Int} {x : Nat} (h : Tp k x) : Tp k (Op.negFloat .f64 x) := by
  obtain ⟨s, m, p, hr, h⟩ := h
  have hnp := neg_parts x
  refine ⟨!s, m, p, ?_, h⟩
  unfold Format.read at hr ⊢
  simp only [D_sign] at hr ⊢
  rw [hnp.1, hnp.2]
  have h2 : x / 2 ^ 63 % 2 < 2 := Nat.mod_lt _ (by decide)
  have hb : (1 - x / 2 ^ 63 % 2 == 1) = !(x / 2 ^ 63 % 2 == 1) := by
    by_cases h3 : x / 2 ^ 63 % 2 = 1
    · simp [h3]
    · have : x / 2 ^ 63 % 2 = 0 := by omega
      simp [this]
  rw [hb]
  split at hr
  · rename_i h5; rw [if_pos h5]; cases hr; rfl
  · rename_i h5
    rw [if_neg h5]
    split at hr
    · rename_i h6; rw [if_pos h6]; cases hr; rfl
    · split at hr <;> cases hr

theorem tp_sinP (a : Int) : Tp 100 (sinP a) := by
  have h1 := (tp_s (normP_lo a) (normP_hi a)).2
  have h2 := (tp_c (normP_lo a) (normP_hi a)).2
  unfold sinP sinN
  split
  · exact h1
  · split
    · exact h2
    · split
      · exact tp_neg h1
      · exact tp_neg h2
theorem tp_cosP (a : Int) : Tp 100 (cosP a) := by
  have h1 := (tp_s (normP_lo a) (normP_hi a)).2
  have h2 := (tp_c (normP_lo a) (normP_hi a)).2
  unfold cosP cosN
  split
  · exact h2
  · split
    · exact tp_neg h1
    · split
      · exact tp_neg h2
      · exact h1

theorem fle_both {s c x y : Nat} {k : Int} (hs : Tp k s) (hc : Tp k c) (hx : isNan x = false) (hy : isNan y = false) :
    fle (fmul s (refAbs x)) (fmul c (refAbs y)) = fle (fmul s (absW x)) (fmul c (absW y)) := by
  have hl : ∀ t, D.order (fmul s (refAbs x)) t = D.order (fmul s (absW x)) t := by
    intro t
    rcases refAbs_read hx with h | ⟨⟨q, h⟩, q', h'⟩
    · rw [fmul_read s h]
    · obtain ⟨r, hr⟩ := fmul_nought hs h
      obtain ⟨r', hr'⟩ := fmul_nought hs h'
      exact (order_nought hr hr' t).1
  have hr : ∀ t, D.order t (fmul c (refAbs y)) = D.order t (fmul c (absW y)) := by
    intro t
    rcases refAbs_read hy with h | ⟨⟨q, h⟩, q', h'⟩
    · rw [fmul_read c h]
    · obtain ⟨r, hr⟩ := fmul_nought hc h
      obtain ⟨r', hr'⟩ := fmul_nought hc h'
      exact (order_nought hr hr' t).2
  unfold fle
  rw [hl, hr]

theorem quad_ref {x y : Nat} (hx : isNan x = false) (hy : isNan y = false) : quad (absW x) (absW y) = bisect (fun m => fle (fmul (sinP m) (refAbs x)) (fmul (cosP m) (refAbs y))) 0 90000000001 := by
  unfold quad
  congr 1
  funext m
  exact (fle_both (tp_sinP m) (tp_cosP m) hx hy).symm
end Go.Fp

/- Walks of package mercatorref1: AngleOf. -/
namespace Go.Proofs.YtcppgbhjbmfldaaGreatDoor
set_option maxRecDepth 20000
open Go.RowKit Go.Fp Go.Rel

theorem ang_yes' {qq lo hi : Int} {X Y X' Y' r1 r2 : Nat} (hX : X' = X) (hY : Y' = Y) (hb : TrueB (decide (qq = bisect (fun m => fle (fmul (sinP m) X) (fmul (cosP m) Y)) lo hi))) (hd : 1 < hi - lo)
    (t : (FloatKind.f64.format.order r1 r2 == some Ordering.lt) = true ∨ (FloatKind.f64.format.order r1 r2 == some Ordering.eq) = true)
    (h1 : can r1 = fbin BinOp.mul (can (sinP ((lo + hi) / 2))) (can X')) (h2 : can r2 = fbin BinOp.mul (can (cosP ((lo + hi) / 2))) (can Y')) :
    TrueB (decide (qq = bisect (fun m => fle (fmul (sinP m) X) (fmul (cosP m) Y)) ((lo + hi) / 2) hi)) := by
  subst hX; subst hY; exact ang_yes hb hd t h1 h2
theorem ang_no' {qq lo hi : Int} {X Y X' Y' r1 r2 : Nat} (hX : X' = X) (hY : Y' = Y) (hb : TrueB (decide (qq = bisect (fun m => fle (fmul (sinP m) X) (fmul (cosP m) Y)) lo hi))) (hd : 1 < hi - lo)
    (t : (FloatKind.f64.format.order r1 r2 == some Ordering.lt) = false ∧ (FloatKind.f64.format.order r1 r2 == some Ordering.eq) = false)
    (h1 : can r1 = fbin BinOp.mul (can (sinP ((lo + hi) / 2))) (can X')) (h2 : can r2 = fbin BinOp.mul (can (cosP ((lo + hi) / 2))) (can Y')) :
    TrueB (decide (qq = bisect (fun m => fle (fmul (sinP m) X) (fmul (cosP m) Y)) lo ((lo + hi) / 2))) := by
  subst hX; subst hY; exact ang_no hb hd t h1 h2

set_option maxHeartbeats 1000000 in
theorem angleOf_no1 (y x : Nat) (w : World) (hx : finP (can x) = false) : Calls Tryz.prog 74 #[.float .f64 y, .float .f64 x] w (AnR (0, false) w) := by
  have HF := finR_c x
  have HG := finR_c y
  rw [hx] at HF
  have HF' := Lib.hid HF
  have HG' := Lib.hid HG
  clear HF HG hx
  go_enter Tryz.func74, Tryz.ntmps74
  go_wp2_with fail
  refine (HF'.out _).mono ?_
  rintro e w1 ⟨rfl, hx1⟩
  go_wp2_with fail
  refine (HG'.out _).mono ?_
  rintro e w2 ⟨rfl, hx2⟩
  go_wp2_with fail
  go_ret2
  exact ⟨rfl, hx1.trans hx2⟩
set_option maxHeartbeats 1000000 in
theorem angleOf_no2 (y x : Nat) (w : World) (hx : finP (can x) = true) (hy : finP (can y) = false) : Calls Tryz.prog 74 #[.float .f64 y, .float .f64 x] w (AnR (0, false) w) := by
  have HF := finR_c x
  have HG := finR_c y
  rw [hx] at HF
  rw [hy] at HG
  have HF' := Lib.hid HF
  have HG' := Lib.hid HG
  clear HF HG hx hy
  go_enter Tryz.func74, Tryz.ntmps74
  go_wp2_with fail
  refine (HF'.out _).mono ?_
  rintro e w1 ⟨rfl, hx1⟩
  go_wp2_with fail
  refine (HG'.out _).mono ?_
  rintro e w2 ⟨rfl, hx2⟩
  go_wp2_with fail
  go_ret2
  exact ⟨rfl, hx1.trans hx2⟩
set_option maxHeartbeats 1000000 in
theorem angleOf_no3 (y x : Nat) (w : World) (hx : finP (can x) = true) (hy : finP (can y) = true) (hx0 : (D.order x 0 == some .eq) = true) (hy0 : (D.order y 0 == some .eq) = true) :
    Calls Tryz.prog 74 #[.float .f64 y, .float .f64 x] w (AnR (0, false) w) := by
  have HF := finR_c x
  have HG := finR_c y
  rw [hx] at HF
  rw [hy] at HG
  have HF' := Lib.hid HF
  have HG' := Lib.hid HG
  clear HF HG hx hy
  have hx0' : (FloatKind.f64.format.order x 0 == some .eq) = true := hx0
  have hy0' : (FloatKind.f64.format.order y 0 == some .eq) = true := hy0
  clear hx0 hy0
  go_enter Tryz.func74, Tryz.ntmps74
  go_wp2_with fail
  refine (HF'.out _).mono ?_
  rintro e w1 ⟨rfl, hx1⟩
  go_wp2_with fail
  refine (HG'.out _).mono ?_
  rintro e w2 ⟨rfl, hx2⟩
  go_wp2_with fail
  go_ret2
  exact ⟨rfl, hx1.trans hx2⟩

set_option maxHeartbeats 8000000 in
theorem angleOf_yes (y x : Nat) (w : World) (hx : finP (can x) = true) (hy : finP (can y) = true) (ox oy : Ordering) (hox : FloatKind.f64.format.order x 0 = some ox) (hoy : FloatKind.f64.format.order y 0 = some oy) (hne : ¬ (ox = .eq ∧ oy = .eq)) :
    Calls Tryz.prog 74 #[.float .f64 y, .float .f64 x] w (AnR (angleP (can y) (can x)) w) := by
  have HF := finR_c x
  have HG := finR_c y
  have hcx := fin_num hx
  have hcy := fin_num hy
  have HA : angleP (can y) (can x) = angleP y x := by rw [hcx, hcy]
  have HP : angleP y x = if fge x 0 && fge y 0 then (quad (absW x) (absW y), true) else if fge y 0 then (180000000000 - quad (absW x) (absW y), true) else if flt x 0 then (180000000000 + quad (absW x) (absW y), true) else (normP (360000000000 - quad (absW x) (absW y)), true) := by
    unfold angleP
    rw [hcx] at hx
    rw [hcy] at hy
    have h3 : (feq x 0 && feq y 0) = false := by
      unfold feq
      rw [show D.order x 0 = some ox from hox, show D.order y 0 = some oy from hoy]
      cases ox <;> cases oy <;> simp_all
    rw [hx, hy, h3]
    rfl
  rw [HA, HP]
  rw [hx] at HF
  rw [hy] at HG
  have HF' := Lib.hid HF
  have HG' := Lib.hid HG
  unfold fge flt
  rw [show D.order x 0 = some ox from hox, show D.order y 0 = some oy from hoy]
  clear HF HG HA HP hx hy
  have hnx : isNan x = false := by
    cases hn : isNan x
    · rfl
    · rw [can_of_nan hn] at hcx; rw [← hcx] at hox; exact absurd hox (by rw [show FloatKind.f64.format.order QN 0 = none from by decide +kernel]; simp)
  have hny : isNan y = false := by
    cases hn : isNan y
    · rfl
    · rw [can_of_nan hn] at hcy; rw [← hcy] at hoy; exact absurd hoy (by rw [show FloatKind.f64.format.order QN 0 = none from by decide +kernel]; simp)
  have HU := quad_ref hnx hny
  have hux : refAbs x = if D.order x 0 == some .lt then Op.negFloat .f64 x else x := rfl
  have huy : refAbs y = if D.order y 0 == some .lt then Op.negFloat .f64 y else y := rfl
  rw [show D.order x 0 = some ox from hox] at hux
  rw [show D.order y 0 = some oy from hoy] at huy
  clear hnx hny
  generalize refAbs x = ux at *
  generalize refAbs y = uy at *
  generalize quad (absW x) (absW y) = qq at *
  have HU' := Lib.hid HU
  have HX := Lib.hid hcx
  have HY := Lib.hid hcy
  clear HU hcx hcy
  have HUX : Hid (ux = if (some ox == some Ordering.lt) = true then Op.negFloat .f64 x else x) := hux
  have HUY : Hid (uy = if (some oy == some Ordering.lt) = true then Op.negFloat .f64 y else y) := huy
  clear hux huy
  cases ox <;> cases oy
  any_goals (exfalso; exact hne ⟨rfl, rfl⟩)
  all_goals clear hne
  all_goals
    go_enter Tryz.func74, Tryz.ntmps74
    go_wp2_with fail
    refine (HF'.out _).mono ?_
    rintro e w1 ⟨rfl, hx1⟩
    go_wp2_with fail
    refine (HG'.out _).mono ?_
    rintro e w2 ⟨rfl, hx2⟩
    go_wp2_with fail
    have hw := hx1.trans hx2
    clear hx1 hx2 HF' HG'
    go_loopw [10, 11] (fun l h wr => ∃ lo hi : Int, l = .int .i64 lo ∧ h = .int .i64 hi ∧ 0 ≤ lo ∧ lo < hi ∧ hi ≤ 90000000001 ∧ TrueB (decide (qq = bisect (fun m => fle (fmul (sinP m) ux) (fmul (cosP m) uy)) lo hi)) ∧ Ext w wr) (fun l h _ => (intOf h - intOf l).toNat)
    case atStart => exact ⟨0, 90000000001, rfl, rfl, by omega, by omega, by omega, decide_eq_true HU'.out, hw⟩
    case round =>
      clear hw
      obtain ⟨lo, hi, rfl, rfl, h1, h2, h3, hb, hxw⟩ := hrel
      by_cases hd : 1 < hi - lo
      · go_wp2_with (first | (go_at_call 30; refine (sincos_c _ _).mono ?_; rintro e w' ⟨rfl, rfl⟩) | (with_reducible refine upon_fl rfl ?_; intro r n hr))
        · go_roundw
          case rel => exact ⟨_, _, rfl, rfl, by omega, by omega, by omega, ang_yes' HUX.out.symm HUY.out.symm hb hd (by assumption) (by assumption) (by assumption), hxw.drewN _⟩
          case measure => simp only [intOf]; omega
        · go_roundw
          case rel => exact ⟨_, _, rfl, rfl, by omega, by omega, by omega, ang_no' HUX.out.symm HUY.out.symm hb hd (by assumption) (by assumption) (by assumption), hxw.drewN _⟩
          case measure => simp only [intOf]; omega
      · have := ang_end hb hd
        subst this
        clear hb
        go_wp2_with (first | (go_at_call 29; refine (normOf_c _ _).mono ?_; rintro e w' ⟨rfl, rfl⟩))
        go_ret2
        exact ⟨rfl, hxw⟩

theorem angleOf_c (y x : Nat) (w : World) : Calls Tryz.prog 74 #[.float .f64 y, .float .f64 x] w (AnR (angleP (can y) (can x)) w) := by
  cases hx : finP (can x) with
  | false =>
    have e : angleP (can y) (can x) = (0, false) := by unfold angleP; rw [hx]; rfl
    rw [e]; exact angleOf_no1 y x w hx
  | true =>
    cases hy : finP (can y) with
    | false =>
      have e : angleP (can y) (can x) = (0, false) := by unfold angleP; rw [hx, hy]; rfl
      rw [e]; exact angleOf_no2 y x w hx hy
    | true =>
      have hcx := fin_num hx
      have hcy := fin_num hy
      have hnx : isNan x = false := by
        cases hn : isNan x
        · rfl
        · rw [can_of_nan hn] at hx; exact absurd hx (by decide +kernel)
      have hny : isNan y = false := by
        cases hn : isNan y
        · rfl
        · rw [can_of_nan hn] at hy; exact absurd hy (by decide +kernel)
      obtain ⟨ox, hox⟩ := order_some hnx
      obtain ⟨oy, hoy⟩ := order_some hny
      by_cases hne : ox = .eq ∧ oy = .eq
      · obtain ⟨rfl, rfl⟩ := hne
        have hx0 : (D.order x 0 == some .eq) = true := by rw [hox]; rfl
        have hy0 : (D.order y 0 == some .eq) = true := by rw [hoy]; rfl
        have e : angleP (can y) (can x) = (0, false) := by
          unfold angleP feq
          rw [hx, hy, hcx, hcy, hx0, hy0]; rfl
        rw [e]; exact angleOf_no3 y x w hx hy hx0 hy0
      · exact angleOf_yes y x w hx hy ox oy hox hoy hne
end Go.Proofs.YtcppgbhjbmfldaaGreatDoor
