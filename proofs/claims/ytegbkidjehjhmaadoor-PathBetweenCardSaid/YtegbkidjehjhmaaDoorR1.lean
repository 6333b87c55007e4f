/- Walks of package mercatorref1: NormOf, series. -/
import Derived.Test.YtegbkidjehjhmaaDoorG1
namespace Go.Proofs.YtegbkidjehjhmaaDoor
set_option maxRecDepth 20000
open Go.RowKit Go.Fp Go.Rel

set_option maxHeartbeats 400000 in
theorem normOf_c (a : Int) (w : World) : Calls Tryd.prog 56 #[.int .i64 a] w fun e w' => e = .returned (.int .i64 (normP a)) ∧ w = w' := by
  go_enter Tryd.func56, Tryd.ntmps56
  go_wp2
  · go_ret; exact ⟨ret_int (norm_neg (by assumption)), rfl⟩
  · go_ret; exact ⟨ret_int (norm_pos (by assumption)), rfl⟩

theorem hor_one (z : Nat) {l : List Nat} {c : Nat} (h : l = [c]) : hor z l = c := by rw [h]; rfl
theorem hv_of {z s m : Nat} (h : D.mul z s = some m) : fmul z s = m := by unfold fmul opt; rw [h]; rfl

set_option maxHeartbeats 4000000 in
theorem series_sin (z : Nat) (hz : Tp 7 z) (w : World) : Calls Tryd.prog 85 #[.float .f64 z, .int .i64 1] w fun e w' => e = .returned (.float .f64 (fadd one (fmul z (hor z KK)))) ∧ w = w' := by
  have hfin : D.add one (fmul z (hor z KK)) = some (fadd one (fmul z (hor z KK))) := by
    have hh : Tp 80 (hor z KK) := (tp_hor hz KK (by decide) (by decide) tp_KK).mono (by decide)
    have hm := tp_mul hz hh (by omega) (by omega)
    exact (tp_add (a := 88) (tp_one.mono (by omega)) (hm.2.mono (by omega)) (by omega) (by omega)).1
  generalize fadd one (fmul z (hor z KK)) = fin at *
  have Hfin := Lib.hid hfin
  have HZ := Lib.hid hz
  clear hfin hz
  go_enter Tryd.func85, Tryd.ntmps85
  go_wp2_with fail
  go_loop [5, 6] (fun s k => ∃ k0 : Nat, k0 ≤ 8 ∧ k = .int .i64 (k0 : Int) ∧ s = .float .f64 (hor z (KK.drop k0))) (fun _ k => (intOf k).toNat)
  case atStart => exact ⟨8, by omega, rfl, rfl⟩
  case round =>
    obtain ⟨k, hk, rfl, rfl⟩ := hrel
    have hv := kk_val HZ.out k hk
    have hop : ∀ t w, (binOp .mul t (.float .f64 z) (.float .f64 (hor z (KK.drop k)))).run Tryd.prog w = .ok (.float .f64 (fmul z (hor z (KK.drop k)))) w := fun t w => run_float_arith w .mul t .f64 _ _ _ hv
    clear hv
    by_cases hk0 : k = 0
    · subst hk0
      have hf : ∀ t w, (binOp .add t (.float .f64 4607182418800017408) (.float .f64 (fmul z (hor z (KK.drop 0))))).run Tryd.prog w = .ok (.float .f64 fin) w := fun t w => run_float_arith w .add t .f64 _ _ _ Hfin.out
      generalize fmul z (hor z (KK.drop 0)) = v1 at *
      generalize hor z (KK.drop 0) = v2 at *
      go_wp2_with fail
      go_ret
      exact ⟨rfl, rfl⟩
    · have hk1 : 1 ≤ k := by omega
      have hd := fac_KK k hk1 hk
      have hg : 1 ≤ (k : Int) := by omega
      have hg8 : (k : Int) ≤ 8 := by omega
      go_wp2_with fail
      go_loop [7, 8] (fun f i => ∃ j : Nat, 2 ≤ j ∧ j ≤ 2 * k + 1 + 1 ∧ i = .int .i64 (j : Int) ∧ f = .float .f64 (facW (j - 1))) (fun _ i => 2 * k + 1 + 1 - (intOf i).toNat)
      case atStart => exact ⟨2, by omega, by omega, rfl, rfl⟩
      case round =>
        obtain ⟨j, hj1, hj2, rfl, rfl⟩ := hrel
        by_cases hj : j ≤ 2 * k + 1
        · have hs := fac_step j hj1 (by omega)
          have hopf : ∀ t w, (binOp .mul t (.float .f64 (facW (j - 1))) (.float .f64 (floatOfInt .f64 (j : Int)))).run Tryd.prog w = .ok (.float .f64 (facW j)) w := fun t w => run_float_arith w .mul t .f64 _ _ _ hs
          clear hs
          have hjj : (j : Int) ≤ 2 * (k : Int) + 1 := by omega
          go_wp2_with fail
          go_round
          case rel => exact ⟨j + 1, by omega, by omega, by go_num, rfl⟩
          case measure => simp only [intOf]; omega
        · have hj3 : j = 2 * k + 1 + 1 := by omega
          have hjj : ¬ (j : Int) ≤ 2 * (k : Int) + 1 := by omega
          have ef : facW (j - 1) = facW (2 * k + 1) := by rw [hj3]; rfl
          rw [ef]
          clear ef hj3
          have HD : Hid (D.div one (facS k 1) = some (KK.getD (k - 1) 0)) := hd
          clear hd
          by_cases hp : k % 2 = 1
          · have hpi : ((k : Int) % 2 == 1) = true := by rw [beq_iff_eq]; omega
            have hd := HD.out
            unfold facS at hd
            rw [if_pos hp] at hd
            have hopd : ∀ t w, (binOp .quo t (.float .f64 4607182418800017408) (.float .f64 (Op.negFloat .f64 (facW (2 * k + 1))))).run Tryd.prog w = .ok (.float .f64 (KK.getD (k - 1) 0)) w := fun t w => run_float_arith w .quo t .f64 _ _ _ hd
            have hk8 : ((k : Int) == 8) = false := by rw [beq_eq_false_iff_ne]; omega
            obtain ⟨m, f1, f2⟩ := kk_step HZ.out (k - 1) (by omega)
            rw [show k - 1 + 1 = k by omega] at f1
            have f3 := hv_of f1
            have hopa : ∀ t w, (binOp .add t (.float .f64 (KK.getD (k - 1) 0)) (.float .f64 (fmul z (hor z (KK.drop k))))).run Tryd.prog w = .ok (.float .f64 (hor z (KK.drop (k - 1)))) w := fun t w => run_float_arith w .add t .f64 _ _ _ (by rw [f3]; exact f2)
            clear hd f1 f2 f3
            generalize facW (2 * k + 1) = fw at *
            generalize KK.getD (k - 1) 0 = kc at *
            generalize fmul z (hor z (KK.drop k)) = zs at *
            generalize hor z (KK.drop k) = s0 at *
            generalize hs1 : hor z (KK.drop (k - 1)) = s1 at *
            have HS := Lib.hid hs1
            clear hs1 HD
            go_wp2_with fail
            go_round
            case rel => exact ⟨k - 1, by omega, by go_num, by rw [HS.out]⟩
            case measure => simp only [intOf]; omega
          · have hpi : ((k : Int) % 2 == 1) = false := by rw [beq_eq_false_iff_ne]; omega
            have hd := HD.out
            unfold facS at hd
            rw [if_neg hp] at hd
            have hopd : ∀ t w, (binOp .quo t (.float .f64 4607182418800017408) (.float .f64 (facW (2 * k + 1)))).run Tryd.prog w = .ok (.float .f64 (KK.getD (k - 1) 0)) w := fun t w => run_float_arith w .quo t .f64 _ _ _ hd
            clear hd
            by_cases h8 : k = 8
            · subst h8
              generalize fmul z (hor z (KK.drop 8)) = zs at *
              generalize hor z (KK.drop 8) = s0 at *
              generalize facW (2 * 8 + 1) = fw at *
              generalize hkc : KK.getD (8 - 1) 0 = kc at *
              have HS := Lib.hid hkc
              clear hkc HD
              go_wp2_with fail
              go_round
              case rel => exact ⟨7, by omega, by go_num, by rw [← HS.out]; rfl⟩
              case measure => simp only [intOf]; omega
            · have hk8 : ((k : Int) == 8) = false := by rw [beq_eq_false_iff_ne]; omega
              obtain ⟨m, f1, f2⟩ := kk_step HZ.out (k - 1) (by omega)
              rw [show k - 1 + 1 = k by omega] at f1
              have f3 := hv_of f1
              have hopa : ∀ t w, (binOp .add t (.float .f64 (KK.getD (k - 1) 0)) (.float .f64 (fmul z (hor z (KK.drop k))))).run Tryd.prog w = .ok (.float .f64 (hor z (KK.drop (k - 1)))) w := fun t w => run_float_arith w .add t .f64 _ _ _ (by rw [f3]; exact f2)
              clear f1 f2 f3
              generalize facW (2 * k + 1) = fw at *
              generalize KK.getD (k - 1) 0 = kc at *
              generalize fmul z (hor z (KK.drop k)) = zs at *
              generalize hor z (KK.drop k) = s0 at *
              generalize hs1 : hor z (KK.drop (k - 1)) = s1 at *
              have HS := Lib.hid hs1
              clear hs1 HD
              go_wp2_with fail
              go_round
              case rel => exact ⟨k - 1, by omega, by go_num, by rw [HS.out]⟩
              case measure => simp only [intOf]; omega

set_option maxHeartbeats 4000000 in
theorem series_cos (z : Nat) (hz : Tp 7 z) (w : World) : Calls Tryd.prog 85 #[.float .f64 z, .int .i64 0] w fun e w' => e = .returned (.float .f64 (fadd one (fmul z (hor z DD)))) ∧ w = w' := by
  have hfin : D.add one (fmul z (hor z DD)) = some (fadd one (fmul z (hor z DD))) := by
    have hh : Tp 80 (hor z DD) := (tp_hor hz DD (by decide) (by decide) tp_DD).mono (by decide)
    have hm := tp_mul hz hh (by omega) (by omega)
    exact (tp_add (a := 88) (tp_one.mono (by omega)) (hm.2.mono (by omega)) (by omega) (by omega)).1
  generalize fadd one (fmul z (hor z DD)) = fin at *
  have Hfin := Lib.hid hfin
  have HZ := Lib.hid hz
  clear hfin hz
  go_enter Tryd.func85, Tryd.ntmps85
  go_wp2_with fail
  go_loop [5, 6] (fun s k => ∃ k0 : Nat, k0 ≤ 8 ∧ k = .int .i64 (k0 : Int) ∧ s = .float .f64 (hor z (DD.drop k0))) (fun _ k => (intOf k).toNat)
  case atStart => exact ⟨8, by omega, rfl, rfl⟩
  case round =>
    obtain ⟨k, hk, rfl, rfl⟩ := hrel
    have hv := dd_val HZ.out k hk
    have hop : ∀ t w, (binOp .mul t (.float .f64 z) (.float .f64 (hor z (DD.drop k)))).run Tryd.prog w = .ok (.float .f64 (fmul z (hor z (DD.drop k)))) w := fun t w => run_float_arith w .mul t .f64 _ _ _ hv
    clear hv
    by_cases hk0 : k = 0
    · subst hk0
      have hf : ∀ t w, (binOp .add t (.float .f64 4607182418800017408) (.float .f64 (fmul z (hor z (DD.drop 0))))).run Tryd.prog w = .ok (.float .f64 fin) w := fun t w => run_float_arith w .add t .f64 _ _ _ Hfin.out
      generalize fmul z (hor z (DD.drop 0)) = v1 at *
      generalize hor z (DD.drop 0) = v2 at *
      go_wp2_with fail
      go_ret
      exact ⟨rfl, rfl⟩
    · have hk1 : 1 ≤ k := by omega
      have hd := fac_DD k hk1 hk
      have hg : 1 ≤ (k : Int) := by omega
      have hg8 : (k : Int) ≤ 8 := by omega
      go_wp2_with fail
      go_loop [7, 8] (fun f i => ∃ j : Nat, 2 ≤ j ∧ j ≤ 2 * k + 0 + 1 ∧ i = .int .i64 (j : Int) ∧ f = .float .f64 (facW (j - 1))) (fun _ i => 2 * k + 0 + 1 - (intOf i).toNat)
      case atStart => exact ⟨2, by omega, by omega, rfl, rfl⟩
      case round =>
        obtain ⟨j, hj1, hj2, rfl, rfl⟩ := hrel
        by_cases hj : j ≤ 2 * k + 0
        · have hs := fac_step j hj1 (by omega)
          have hopf : ∀ t w, (binOp .mul t (.float .f64 (facW (j - 1))) (.float .f64 (floatOfInt .f64 (j : Int)))).run Tryd.prog w = .ok (.float .f64 (facW j)) w := fun t w => run_float_arith w .mul t .f64 _ _ _ hs
          clear hs
          have hjj : (j : Int) ≤ 2 * (k : Int) + 0 := by omega
          go_wp2_with fail
          go_round
          case rel => exact ⟨j + 1, by omega, by omega, by go_num, rfl⟩
          case measure => simp only [intOf]; omega
        · have hj3 : j = 2 * k + 0 + 1 := by omega
          have hjj : ¬ (j : Int) ≤ 2 * (k : Int) + 0 := by omega
          have ef : facW (j - 1) = facW (2 * k + 0) := by rw [hj3]; rfl
          rw [ef]
          clear ef hj3
          have HD : Hid (D.div one (facS k 0) = some (DD.getD (k - 1) 0)) := hd
          clear hd
          by_cases hp : k % 2 = 1
          · have hpi : ((k : Int) % 2 == 1) = true := by rw [beq_iff_eq]; omega
            have hd := HD.out
            unfold facS at hd
            rw [if_pos hp] at hd
            have hopd : ∀ t w, (binOp .quo t (.float .f64 4607182418800017408) (.float .f64 (Op.negFloat .f64 (facW (2 * k + 0))))).run Tryd.prog w = .ok (.float .f64 (DD.getD (k - 1) 0)) w := fun t w => run_float_arith w .quo t .f64 _ _ _ hd
            have hk8 : ((k : Int) == 8) = false := by rw [beq_eq_false_iff_ne]; omega
            obtain ⟨m, f1, f2⟩ := dd_step HZ.out (k - 1) (by omega)
            rw [show k - 1 + 1 = k by omega] at f1
            have f3 := hv_of f1
            have hopa : ∀ t w, (binOp .add t (.float .f64 (DD.getD (k - 1) 0)) (.float .f64 (fmul z (hor z (DD.drop k))))).run Tryd.prog w = .ok (.float .f64 (hor z (DD.drop (k - 1)))) w := fun t w => run_float_arith w .add t .f64 _ _ _ (by rw [f3]; exact f2)
            clear hd f1 f2 f3
            generalize facW (2 * k + 0) = fw at *
            generalize DD.getD (k - 1) 0 = kc at *
            generalize fmul z (hor z (DD.drop k)) = zs at *
            generalize hor z (DD.drop k) = s0 at *
            generalize hs1 : hor z (DD.drop (k - 1)) = s1 at *
            have HS := Lib.hid hs1
            clear hs1 HD
            go_wp2_with fail
            go_round
            case rel => exact ⟨k - 1, by omega, by go_num, by rw [HS.out]⟩
            case measure => simp only [intOf]; omega
          · have hpi : ((k : Int) % 2 == 1) = false := by rw [beq_eq_false_iff_ne]; omega
            have hd := HD.out
            unfold facS at hd
            rw [if_neg hp] at hd
            have hopd : ∀ t w, (binOp .quo t (.float .f64 4607182418800017408) (.float .f64 (facW (2 * k + 0)))).run Tryd.prog w = .ok (.float .f64 (DD.getD (k - 1) 0)) w := fun t w => run_float_arith w .quo t .f64 _ _ _ hd
            clear hd
            by_cases h8 : k = 8
            · subst h8
              generalize fmul z (hor z (DD.drop 8)) = zs at *
              generalize hor z (DD.drop 8) = s0 at *
              generalize facW (2 * 8 + 0) = fw at *
              generalize hkc : DD.getD (8 - 1) 0 = kc at *
              have HS := Lib.hid hkc
              clear hkc HD
              go_wp2_with fail
              go_round
              case rel => exact ⟨7, by omega, by go_num, by rw [← HS.out]; rfl⟩
              case measure => simp only [intOf]; omega
            · have hk8 : ((k : Int) == 8) = false := by rw [beq_eq_false_iff_ne]; omega
              obtain ⟨m, f1, f2⟩ := dd_step HZ.out (k - 1) (by omega)
              rw [show k - 1 + 1 = k by omega] at f1
              have f3 := hv_of f1
              have hopa : ∀ t w, (binOp .add t (.float .f64 (DD.getD (k - 1) 0)) (.float .f64 (fmul z (hor z (DD.drop k))))).run Tryd.prog w = .ok (.float .f64 (hor z (DD.drop (k - 1)))) w := fun t w => run_float_arith w .add t .f64 _ _ _ (by rw [f3]; exact f2)
              clear f1 f2 f3
              generalize facW (2 * k + 0) = fw at *
              generalize DD.getD (k - 1) 0 = kc at *
              generalize fmul z (hor z (DD.drop k)) = zs at *
              generalize hor z (DD.drop k) = s0 at *
              generalize hs1 : hor z (DD.drop (k - 1)) = s1 at *
              have HS := Lib.hid hs1
              clear hs1 HD
              go_wp2_with fail
              go_round
              case rel => exact ⟨k - 1, by omega, by go_num, by rw [HS.out]⟩
              case measure => simp only [intOf]; omega
end Go.Proofs.YtegbkidjehjhmaaDoor
