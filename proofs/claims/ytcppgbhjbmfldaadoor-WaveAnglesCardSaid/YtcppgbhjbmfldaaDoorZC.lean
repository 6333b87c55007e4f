/- Walks of package grain: Norm, parts, Sin, Cos. -/
import Derived.Test.YtcppgbhjbmfldaaDoorZB
import Derived.Test.YtcppgbhjbmfldaaDoorProg
namespace Go.Proofs.YtcppgbhjbmfldaaDoor
open Go.RowKit Go.Fp Go.Rel

theorem ret_int {k : IntKind} {a b : Int} (h : a = b) : Ending.returned (.int k a) = .returned (.int k b) := by rw [h]

theorem norm_neg {a : Int} (h : a.tmod 360000000000 < 0) : wrap64 (a.tmod 360000000000 + 360000000000) = normP a := by
  unfold normP
  have h1 : a.tmod 360000000000 = -((-a) % 360000000000) := by
    rcases Int.le_total 0 a with h0 | h0
    · have := Int.tmod_nonneg 360000000000 h0; omega
    · rw [← Int.neg_neg a, Int.neg_tmod, Int.tmod_eq_emod_of_nonneg (by omega)]; simp
  rw [IntWalk.wrap64_in _ (by omega)]
  omega
theorem norm_pos {a : Int} (h : 0 ≤ a.tmod 360000000000) : a.tmod 360000000000 = normP a := by
  unfold normP
  rcases Int.le_total 0 a with h0 | h0
  · exact Int.tmod_eq_emod_of_nonneg h0
  · have h1 : a.tmod 360000000000 = -((-a) % 360000000000) := by
      rw [← Int.neg_neg a, Int.neg_tmod, Int.tmod_eq_emod_of_nonneg (by omega)]; simp
    omega

set_option maxHeartbeats 400000 in
theorem norm_c (a : Int) (w : World) : Calls Tryd.prog 31 #[.int .i64 a] w fun e w' => e = .returned (.int .i64 (normP a)) ∧ w = w' := by
  go_enter Tryd.func31, Tryd.ntmps31
  go_wp2
  · go_ret; exact ⟨ret_int (norm_neg (by assumption)), rfl⟩
  · go_ret; exact ⟨ret_int (norm_pos (by assumption)), rfl⟩
end Go.Proofs.YtcppgbhjbmfldaaDoor

/- Walks of package grain: parts. -/
namespace Go.Proofs.YtcppgbhjbmfldaaDoor
open Go.RowKit Go.Fp Go.Rel

def partsV (a : Int) : Value := .tuple #[.int .i64 (quart (normP a) % 4), .float .f64 (sOf (normP a)), .float .f64 (cOf (normP a))]


set_option maxHeartbeats 1000000 in
theorem parts_c (a : Int) (w : World) : Calls Tryd.prog 55 #[.int .i64 a] w fun e w' => e = .returned (partsV a) ∧ Ext w w' := by
  have hlo := normP_lo a
  have hhi := normP_hi a
  unfold partsV
  have HN := norm_c a
  generalize normP a = b at *
  have hx := (tp_x hlo hhi).1
  have hz := (tp_z hlo hhi).1
  unfold quart at hx
  have hopx : ∀ t w, (binOp .mul t (.float .f64 (floatOfInt .f64 (b - (b + 45000000000) / 90000000000 * 90000000000))) (.float .f64 4445950764994258515)).run Tryd.prog w = .ok (.float .f64 (xOf b)) w := fun t w => run_float_arith w .mul t .f64 _ _ _ hx
  have hopz : ∀ t w, (binOp .mul t (.float .f64 (xOf b)) (.float .f64 (xOf b))).run Tryd.prog w = .ok (.float .f64 (zOf b)) w := fun t w => run_float_arith w .mul t .f64 _ _ _ hz
  have HN' := Lib.hid HN
  clear HN hx hz
  go_enter Tryd.func55, Tryd.ntmps55
  go_wp2_with (first | (go_at_call 31; refine (HN'.out _).mono ?_; rintro e w' ⟨rfl, rfl⟩))
  go_quiet (fail)
  go_wp2_with fail
  go_loopw [3, 4, 9] (fun s c i wr => ∃ k : Nat, k ≤ 7 ∧ i = .int .i64 ((k : Int) - 1) ∧ s = .float .f64 (hor (zOf b) (KK.drop k)) ∧ c = .float .f64 (hor (zOf b) (DD.drop k)) ∧ Ext w wr ∧
      (∀ j, j < 8 → wr.cell? ⟨w.heap.size, j, none⟩ = some (.float .f64 (KK.getD j 0))) ∧ (∀ j, j < 8 → wr.cell? ⟨w.heap.size + 1, j, none⟩ = some (.float .f64 (DD.getD j 0)))) (fun _ _ i _ => (intOf i + 1).toNat)
  case atStart =>
    refine ⟨7, by omega, rfl, rfl, rfl, ?_, ?_, ?_⟩
    · repeat (first | exact Ext.refl _ | refine Ext.drewN ?_ _ | refine Ext.drew ?_ | refine Ext.alloc ?_ _)
    · intro j hj
      match j, hj with
      | 0, _ | 1, _ | 2, _ | 3, _ | 4, _ | 5, _ | 6, _ | 7, _ => go_simp; rfl
    · intro j hj
      match j, hj with
      | 0, _ | 1, _ | 2, _ | 3, _ | 4, _ | 5, _ | 6, _ | 7, _ => go_simp; rfl
  case round =>
    obtain ⟨k, hk, rfl, rfl, rfl, hext, hkk, hdd⟩ := hrel
    match k, hk with
    | 0, _ =>
      clear hkk hdd
      have e0 : (((0 : Nat) : Int) - 1) = -1 := rfl
      rw [e0]
      obtain ⟨⟨hs1, hs2, hs3⟩, _⟩ := tp_s hlo hhi
      obtain ⟨⟨hc1, hc2⟩, _⟩ := tp_c hlo hhi
      have hopa : ∀ t w, (binOp .mul t (.float .f64 (zOf b)) (.float .f64 (hor (zOf b) (KK.drop 0)))).run Tryd.prog w = .ok (.float .f64 (fmul (zOf b) (hor (zOf b) KK))) w := fun t w => run_float_arith w .mul t .f64 _ _ _ hs1
      have hopb : ∀ t w, (binOp .add t (.float .f64 4607182418800017408) (.float .f64 (fmul (zOf b) (hor (zOf b) KK)))).run Tryd.prog w = .ok (.float .f64 (fadd one (fmul (zOf b) (hor (zOf b) KK)))) w := fun t w => run_float_arith w .add t .f64 _ _ _ hs2
      have hopc : ∀ t w, (binOp .mul t (.float .f64 (xOf b)) (.float .f64 (fadd one (fmul (zOf b) (hor (zOf b) KK))))).run Tryd.prog w = .ok (.float .f64 (sOf b)) w := fun t w => run_float_arith w .mul t .f64 _ _ _ hs3
      have hopd : ∀ t w, (binOp .mul t (.float .f64 (zOf b)) (.float .f64 (hor (zOf b) (DD.drop 0)))).run Tryd.prog w = .ok (.float .f64 (fmul (zOf b) (hor (zOf b) DD))) w := fun t w => run_float_arith w .mul t .f64 _ _ _ hc1
      have hope : ∀ t w, (binOp .add t (.float .f64 4607182418800017408) (.float .f64 (fmul (zOf b) (hor (zOf b) DD)))).run Tryd.prog w = .ok (.float .f64 (cOf b)) w := fun t w => run_float_arith w .add t .f64 _ _ _ hc2
      clear hs1 hs2 hs3 hc1 hc2 hopx hopz
      generalize fmul (zOf b) (hor (zOf b) KK) = v1 at *
      generalize fadd one v1 = v2 at *
      generalize fmul (zOf b) (hor (zOf b) DD) = v3 at *
      generalize hor (zOf b) (KK.drop 0) = v4 at *
      generalize hor (zOf b) (DD.drop 0) = v5 at *
      go_wp2_with fail
      go_ret3
      exact ⟨rfl, hext⟩
    | k + 1, hk =>
      have e1 : (((k + 1 : Nat) : Int) - 1) = (k : Int) := by omega
      rw [e1]
      have hc1 := hkk k (by omega)
      have hc2 := hdd k (by omega)
      have hz2 := (tp_z hlo hhi).2
      obtain ⟨m1, f1, f2⟩ := kk_step hz2 k (by omega)
      obtain ⟨m2, f3, f4⟩ := dd_step hz2 k (by omega)
      clear hz2 hopx hopz
      have hopa : ∀ t w, (binOp .mul t (.float .f64 (zOf b)) (.float .f64 (hor (zOf b) (KK.drop (k + 1))))).run Tryd.prog w = .ok (.float .f64 m1) w := fun t w => run_float_arith w .mul t .f64 _ _ _ f1
      have hopb : ∀ t w, (binOp .add t (.float .f64 (KK.getD k 0)) (.float .f64 m1)).run Tryd.prog w = .ok (.float .f64 (hor (zOf b) (KK.drop k))) w := fun t w => run_float_arith w .add t .f64 _ _ _ f2
      have hopc : ∀ t w, (binOp .mul t (.float .f64 (zOf b)) (.float .f64 (hor (zOf b) (DD.drop (k + 1))))).run Tryd.prog w = .ok (.float .f64 m2) w := fun t w => run_float_arith w .mul t .f64 _ _ _ f3
      have hopd : ∀ t w, (binOp .add t (.float .f64 (DD.getD k 0)) (.float .f64 m2)).run Tryd.prog w = .ok (.float .f64 (hor (zOf b) (DD.drop k))) w := fun t w => run_float_arith w .add t .f64 _ _ _ f4
      clear f1 f2 f3 f4
      generalize KK.getD k 0 = c1 at *
      generalize DD.getD k 0 = c2 at *
      have HK := Lib.hid hkk
      have HD := Lib.hid hdd
      clear hkk hdd
      generalize hor (zOf b) (KK.drop (k + 1)) = s1 at *
      generalize hor (zOf b) (DD.drop (k + 1)) = s2 at *
      generalize hs3 : hor (zOf b) (KK.drop k) = s3 at *
      generalize hs4 : hor (zOf b) (DD.drop k) = s4 at *
      have HS3 := Lib.hid hs3
      have HS4 := Lib.hid hs4
      clear hs3 hs4
      go_wp2_with fail
      go_quiet (fail)
      go_wp2_with fail
      go_roundw
      case rel => exact ⟨k, by omega, rfl, by rw [HS3.out], by rw [HS4.out], hext.drewN _, HK.out, HD.out⟩
      case measure => simp [intOf]
end Go.Proofs.YtcppgbhjbmfldaaDoor

/- Walks of package grain: Sin, Cos. -/
namespace Go.Proofs.YtcppgbhjbmfldaaDoor
open Go.RowKit Go.Fp Go.Rel

set_option maxHeartbeats 1000000 in
theorem sin_c (a : Int) (w : World) : Calls Tryd.prog 33 #[.int .i64 a] w (ExR (.float .f64 (sinP a)) w) := by
  unfold sinP sinN
  have HP := parts_c a
  unfold partsV at HP
  have h4 := quart4 (normP a)
  generalize quart (normP a) % 4 = q at *
  generalize sOf (normP a) = s at *
  generalize cOf (normP a) = c at *
  have HP' := Lib.hid HP
  clear HP
  rcases h4 with rfl | rfl | rfl | rfl
  all_goals
    go_enter Tryd.func33, Tryd.ntmps33
    go_wp2_with (first | (go_at_call 55; refine (HP'.out _).mono ?_; rintro e w' ⟨rfl, hx⟩))
    go_ret
    exact ⟨rfl, hx⟩
set_option maxHeartbeats 1000000 in
theorem cos_c (a : Int) (w : World) : Calls Tryd.prog 34 #[.int .i64 a] w (ExR (.float .f64 (cosP a)) w) := by
  unfold cosP cosN
  have HP := parts_c a
  unfold partsV at HP
  have h4 := quart4 (normP a)
  generalize quart (normP a) % 4 = q at *
  generalize sOf (normP a) = s at *
  generalize cOf (normP a) = c at *
  have HP' := Lib.hid HP
  clear HP
  rcases h4 with rfl | rfl | rfl | rfl
  all_goals
    go_enter Tryd.func34, Tryd.ntmps34
    go_wp2_with (first | (go_at_call 55; refine (HP'.out _).mono ?_; rintro e w' ⟨rfl, hx⟩))
    go_ret
    exact ⟨rfl, hx⟩
end Go.Proofs.YtcppgbhjbmfldaaDoor

/- Walks of package grain: finite, Length, Angle; of package math: Sqrt, Abs. -/
namespace Go.Proofs.YtcppgbhjbmfldaaDoor
set_option maxRecDepth 20000
open Go.RowKit Go.Fp Go.Rel

set_option maxHeartbeats 1000000 in
theorem fin_c (x : Nat) (w : World) : Calls Tryd.prog 57 #[.float .f64 x] w (ExR (.bool (finP (can x))) w) := by
  go_enter Tryd.func57, Tryd.ntmps57
  go_wp2_with (first | (with_reducible refine upon_fl rfl ?_; intro r n hr))
  go_ret
  refine ⟨?_, (Ext.refl _).drewN _⟩
  rw [fin_of hr]
  rfl

theorem sqrt_entry : Entry Tryd.prog 56 Extern.MathSqrt.sqrt := fun args w => run_callFunc_extern Tryd.func56 (by kernel_rfl) (by kernel_rfl) (by kernel_rfl) (by kernel_rfl) args w

set_option maxHeartbeats 1000000 in
theorem sqrt_c (x : Nat) (w : World) : Calls Tryd.prog 35 #[.float .f64 x] w (FlR (fsqrt (can x)) w) := by
  go_enter Tryd.func35, Tryd.ntmps35
  go_wp2_with (first | (refine upon_sqrt sqrt_entry ?_; intro r n hr))
  go_ret
  exact ⟨_, rfl, hr, (Ext.refl _).drewN _⟩

theorem bits_entry : Entry Tryd.prog 68 Extern.MathFloatBits.float64bits := fun args w => run_callFunc_extern Tryd.func68 (by kernel_rfl) (by kernel_rfl) (by kernel_rfl) (by kernel_rfl) args w
theorem frombits_entry : Entry Tryd.prog 67 Extern.MathFloatBits.float64frombits := fun args w => run_callFunc_extern Tryd.func67 (by kernel_rfl) (by kernel_rfl) (by kernel_rfl) (by kernel_rfl) args w

set_option maxHeartbeats 1000000 in
theorem abs_c (x : Nat) (w : World) : Calls Tryd.prog 58 #[.float .f64 x] w fun e w' => e = .returned (.float .f64 (absW x)) ∧ w = w' := by
  have h1 : ∀ (x : Nat) (w : World), (callFunc 68 #[.float .f64 x]).run Tryd.prog w = .ok (.value (.int .u64 x)) w := fun x w => bits_entry _ w
  have h2 : ∀ (n : Int) (w : World), (callFunc 67 #[.int .u64 n]).run Tryd.prog w = .ok (.value (.float .f64 n.toNat)) w := fun n w => frombits_entry _ w
  go_enter Tryd.func58, Tryd.ntmps58
  go_wp2
  go_ret
  refine ⟨?_, rfl⟩
  have := abs_bits x
  unfold absW
  rw [← this]
  rfl
end Go.Proofs.YtcppgbhjbmfldaaDoor

/- Walks of package mercatorref1: NormOf, series. -/
namespace Go.Proofs.YtcppgbhjbmfldaaDoor
set_option maxRecDepth 20000
open Go.RowKit Go.Fp Go.Rel

set_option maxHeartbeats 400000 in
theorem normOf_c (a : Int) (w : World) : Calls Tryd.prog 19 #[.int .i64 a] w fun e w' => e = .returned (.int .i64 (normP a)) ∧ w = w' := by
  go_enter Tryd.func19, Tryd.ntmps19
  go_wp2
  · go_ret; exact ⟨ret_int (norm_neg (by assumption)), rfl⟩
  · go_ret; exact ⟨ret_int (norm_pos (by assumption)), rfl⟩

theorem hv_of {z s m : Nat} (h : D.mul z s = some m) : fmul z s = m := by unfold fmul opt; rw [h]; rfl

set_option maxHeartbeats 4000000 in
theorem series_sin (z : Nat) (hz : Tp 7 z) (w : World) : Calls Tryd.prog 46 #[.float .f64 z, .int .i64 1] w fun e w' => e = .returned (.float .f64 (fadd one (fmul z (hor z KK)))) ∧ w = w' := by
  have hfin : D.add one (fmul z (hor z KK)) = some (fadd one (fmul z (hor z KK))) := by
    have hh : Tp 80 (hor z KK) := (tp_hor hz KK (by decide) (by decide) tp_KK).mono (by decide)
    have hm := tp_mul hz hh (by omega) (by omega)
    exact (tp_add (a := 88) (tp_one.mono (by omega)) (hm.2.mono (by omega)) (by omega) (by omega)).1
  generalize fadd one (fmul z (hor z KK)) = fin at *
  have Hfin := Lib.hid hfin
  have HZ := Lib.hid hz
  clear hfin hz
  go_enter Tryd.func46, Tryd.ntmps46
  go_wp2_with fail
  go_loop [5, 6] (fun s k => ∃ k0 : Nat, k0 ≤ 8 ∧ k = .int .i64 (k0 : Int) ∧ s = .float .f64 (hor z (KK.drop k0))) (fun _ k => (intOf k).toNat)
  case atStart => exact ⟨8, by omega, rfl, rfl⟩
  case round =>
    obtain ⟨k, hk, rfl, rfl⟩ := hrel
    have hv := kk_val HZ.out k hk
    have hop : ∀ t w, (binOp .mul t (.float .f64 z) (.float .f64 (hor z (KK.drop k)))).run Tryd.prog w = .ok (.float .f64 (fmul z (hor z (KK.drop k)))) w := fun t w => run_float_arith w .mul t .f64 _ _ _ hv
    clear hv
    by_cases hk0 : k = 0
    · subst hk0
      have hf : ∀ t w, (binOp .add t (.float .f64 4607182418800017408) (.float .f64 (fmul z (hor z (KK.drop 0))))).run Tryd.prog w = .ok (.float .f64 fin) w := fun t w => run_float_arith w .add t .f64 _ _ _ Hfin.out
      generalize fmul z (hor z (KK.drop 0)) = v1 at *
      generalize hor z (KK.drop 0) = v2 at *
      go_wp2_with fail
      go_ret
      exact ⟨rfl, rfl⟩
    · have hk1 : 1 ≤ k := by omega
      have hd := fac_KK k hk1 hk
      have hg : 1 ≤ (k : Int) := by omega
      have hg8 : (k : Int) ≤ 8 := by omega
      go_wp2_with fail
      go_loop [7, 8] (fun f i => ∃ j : Nat, 2 ≤ j ∧ j ≤ 2 * k + 1 + 1 ∧ i = .int .i64 (j : Int) ∧ f = .float .f64 (facW (j - 1))) (fun _ i => 2 * k + 1 + 1 - (intOf i).toNat)
      case atStart => exact ⟨2, by omega, by omega, rfl, rfl⟩
      case round =>
        obtain ⟨j, hj1, hj2, rfl, rfl⟩ := hrel
        by_cases hj : j ≤ 2 * k + 1
        · have hs := fac_step j hj1 (by omega)
          have hopf : ∀ t w, (binOp .mul t (.float .f64 (facW (j - 1))) (.float .f64 (floatOfInt .f64 (j : Int)))).run Tryd.prog w = .ok (.float .f64 (facW j)) w := fun t w => run_float_arith w .mul t .f64 _ _ _ hs
          clear hs
          have hjj : (j : Int) ≤ 2 * (k : Int) + 1 := by omega
          go_wp2_with fail
          go_round
          case rel => exact ⟨j + 1, by omega, by omega, by go_num, rfl⟩
          case measure => simp only [intOf]; omega
        · have hj3 : j = 2 * k + 1 + 1 := by omega
          have hjj : ¬ (j : Int) ≤ 2 * (k : Int) + 1 := by omega
          have ef : facW (j - 1) = facW (2 * k + 1) := by rw [hj3]; rfl
          rw [ef]
          clear ef hj3
          have HD : Hid (D.div one (facS k 1) = some (KK.getD (k - 1) 0)) := hd
          clear hd
          by_cases hp : k % 2 = 1
          · have hpi : ((k : Int) % 2 == 1) = true := by rw [beq_iff_eq]; omega
            have hd := HD.out
            unfold facS at hd
            rw [if_pos hp] at hd
            have hopd : ∀ t w, (binOp .quo t (.float .f64 4607182418800017408) (.float .f64 (Op.negFloat .f64 (facW (2 * k + 1))))).run Tryd.prog w = .ok (.float .f64 (KK.getD (k - 1) 0)) w := fun t w => run_float_arith w .quo t .f64 _ _ _ hd
            have hk8 : ((k : Int) == 8) = false := by rw [beq_eq_false_iff_ne]; omega
            obtain ⟨m, f1, f2⟩ := kk_step HZ.out (k - 1) (by omega)
            rw [show k - 1 + 1 = k by omega] at f1
            have f3 := hv_of f1
            have hopa : ∀ t w, (binOp .add t (.float .f64 (KK.getD (k - 1) 0)) (.float .f64 (fmul z (hor z (KK.drop k))))).run Tryd.prog w = .ok (.float .f64 (hor z (KK.drop (k - 1)))) w := fun t w => run_float_arith w .add t .f64 _ _ _ (by rw [f3]; exact f2)
            clear hd f1 f2 f3
            generalize facW (2 * k + 1) = fw at *
            generalize KK.getD (k - 1) 0 = kc at *
            generalize fmul z (hor z (KK.drop k)) = zs at *
            generalize hor z (KK.drop k) = s0 at *
            generalize hs1 : hor z (KK.drop (k - 1)) = s1 at *
            have HS := Lib.hid hs1
            clear hs1 HD
            go_wp2_with fail
            go_round
            case rel => exact ⟨k - 1, by omega, by go_num, by rw [HS.out]⟩
            case measure => simp only [intOf]; omega
          · have hpi : ((k : Int) % 2 == 1) = false := by rw [beq_eq_false_iff_ne]; omega
            have hd := HD.out
            unfold facS at hd
            rw [if_neg hp] at hd
            have hopd : ∀ t w, (binOp .quo t (.float .f64 4607182418800017408) (.float .f64 (facW (2 * k + 1)))).run Tryd.prog w = .ok (.float .f64 (KK.getD (k - 1) 0)) w := fun t w => run_float_arith w .quo t .f64 _ _ _ hd
            clear hd
            by_cases h8 : k = 8
            · subst h8
              generalize fmul z (hor z (KK.drop 8)) = zs at *
              generalize hor z (KK.drop 8) = s0 at *
              generalize facW (2 * 8 + 1) = fw at *
              generalize hkc : KK.getD (8 - 1) 0 = kc at *
              have HS := Lib.hid hkc
              clear hkc HD
              go_wp2_with fail
              go_round
              case rel => exact ⟨7, by omega, by go_num, by rw [← HS.out]; rfl⟩
              case measure => simp only [intOf]; omega
            · have hk8 : ((k : Int) == 8) = false := by rw [beq_eq_false_iff_ne]; omega
              obtain ⟨m, f1, f2⟩ := kk_step HZ.out (k - 1) (by omega)
              rw [show k - 1 + 1 = k by omega] at f1
              have f3 := hv_of f1
              have hopa : ∀ t w, (binOp .add t (.float .f64 (KK.getD (k - 1) 0)) (.float .f64 (fmul z (hor z (KK.drop k))))).run Tryd.prog w = .ok (.float .f64 (hor z (KK.drop (k - 1)))) w := fun t w => run_float_arith w .add t .f64 _ _ _ (by rw [f3]; exact f2)
              clear f1 f2 f3
              generalize facW (2 * k + 1) = fw at *
              generalize KK.getD (k - 1) 0 = kc at *
              generalize fmul z (hor z (KK.drop k)) = zs at *
              generalize hor z (KK.drop k) = s0 at *
              generalize hs1 : hor z (KK.drop (k - 1)) = s1 at *
              have HS := Lib.hid hs1
              clear hs1 HD
              go_wp2_with fail
              go_round
              case rel => exact ⟨k - 1, by omega, by go_num, by rw [HS.out]⟩
              case measure => simp only [intOf]; omega

set_option maxHeartbeats 4000000 in
theorem series_cos (z : Nat) (hz : Tp 7 z) (w : World) : Calls Tryd.prog 46 #[.float .f64 z, .int .i64 0] w fun e w' => e = .returned (.float .f64 (fadd one (fmul z (hor z DD)))) ∧ w = w' := by
  have hfin : D.add one (fmul z (hor z DD)) = some (fadd one (fmul z (hor z DD))) := by
    have hh : Tp 80 (hor z DD) := (tp_hor hz DD (by decide) (by decide) tp_DD).mono (by decide)
    have hm := tp_mul hz hh (by omega) (by omega)
    exact (tp_add (a := 88) (tp_one.mono (by omega)) (hm.2.mono (by omega)) (by omega) (by omega)).1
  generalize fadd one (fmul z (hor z DD)) = fin at *
  have Hfin := Lib.hid hfin
  have HZ := Lib.hid hz
  clear hfin hz
  go_enter Tryd.func46, Tryd.ntmps46
  go_wp2_with fail
  go_loop [5, 6] (fun s k => ∃ k0 : Nat, k0 ≤ 8 ∧ k = .int .i64 (k0 : Int) ∧ s = .float .f64 (hor z (DD.drop k0))) (fun _ k => (intOf k).toNat)
  case atStart => exact ⟨8, by omega, rfl, rfl⟩
  case round =>
    obtain ⟨k, hk, rfl, rfl⟩ := hrel
    have hv := dd_val HZ.out k hk
    have hop : ∀ t w, (binOp .mul t (.float .f64 z) (.float .f64 (hor z (DD.drop k)))).run Tryd.prog w = .ok (.float .f64 (fmul z (hor z (DD.drop k)))) w := fun t w => run_float_arith w .mul t .f64 _ _ _ hv
    clear hv
    by_cases hk0 : k = 0
    · subst hk0
      have hf : ∀ t w, (binOp .add t (.float .f64 4607182418800017408) (.float .f64 (fmul z (hor z (DD.drop 0))))).run Tryd.prog w = .ok (.float .f64 fin) w := fun t w => run_float_arith w .add t .f64 _ _ _ Hfin.out
      generalize fmul z (hor z (DD.drop 0)) = v1 at *
      generalize hor z (DD.drop 0) = v2 at *
      go_wp2_with fail
      go_ret
      exact ⟨rfl, rfl⟩
    · have hk1 : 1 ≤ k := by omega
      have hd := fac_DD k hk1 hk
      have hg : 1 ≤ (k : Int) := by omega
      have hg8 : (k : Int) ≤ 8 := by omega
      go_wp2_with fail
      go_loop [7, 8] (fun f i => ∃ j : Nat, 2 ≤ j ∧ j ≤ 2 * k + 0 + 1 ∧ i = .int .i64 (j : Int) ∧ f = .float .f64 (facW (j - 1))) (fun _ i => 2 * k + 0 + 1 - (intOf i).toNat)
      case atStart => exact ⟨2, by omega, by omega, rfl, rfl⟩
      case round =>
        obtain ⟨j, hj1, hj2, rfl, rfl⟩ := hrel
        by_cases hj : j ≤ 2 * k + 0
        · have hs := fac_step j hj1 (by omega)
          have hopf : ∀ t w, (binOp .mul t (.float .f64 (facW (j - 1))) (.float .f64 (floatOfInt .f64 (j : Int)))).run Tryd.prog w = .ok (.float .f64 (facW j)) w := fun t w => run_float_arith w .mul t .f64 _ _ _ hs
          clear hs
          have hjj : (j : Int) ≤ 2 * (k : Int) + 0 := by omega
          go_wp2_with fail
          go_round
          case rel => exact ⟨j + 1, by omega, by omega, by go_num, rfl⟩
          case measure => simp only [intOf]; omega
        · have hj3 : j = 2 * k + 0 + 1 := by omega
          have hjj : ¬ (j : Int) ≤ 2 * (k : Int) + 0 := by omega
          have ef : facW (j - 1) = facW (2 * k + 0) := by rw [hj3]; rfl
          rw [ef]
          clear ef hj3
          have HD : Hid (D.div one (facS k 0) = some (DD.getD (k - 1) 0)) := hd
          clear hd
          by_cases hp : k % 2 = 1
          · have hpi : ((k : Int) % 2 == 1) = true := by rw [beq_iff_eq]; omega
            have hd := HD.out
            unfold facS at hd
            rw [if_pos hp] at hd
            have hopd : ∀ t w, (binOp .quo t (.float .f64 4607182418800017408) (.float .f64 (Op.negFloat .f64 (facW (2 * k + 0))))).run Tryd.prog w = .ok (.float .f64 (DD.getD (k - 1) 0)) w := fun t w => run_float_arith w .quo t .f64 _ _ _ hd
            have hk8 : ((k : Int) == 8) = false := by rw [beq_eq_false_iff_ne]; omega
            obtain ⟨m, f1, f2⟩ := dd_step HZ.out (k - 1) (by omega)
            rw [show k - 1 + 1 = k by omega] at f1
            have f3 := hv_of f1
            have hopa : ∀ t w, (binOp .add t (.float .f64 (DD.getD (k - 1) 0)) (.float .f64 (fmul z (hor z (DD.drop k))))).run Tryd.prog w = .ok (.float .f64 (hor z (DD.drop (k - 1)))) w := fun t w => run_float_arith w .add t .f64 _ _ _ (by rw [f3]; exact f2)
            clear hd f1 f2 f3
            generalize facW (2 * k + 0) = fw at *
            generalize DD.getD (k - 1) 0 = kc at *
            generalize fmul z (hor z (DD.drop k)) = zs at *
            generalize hor z (DD.drop k) = s0 at *
            generalize hs1 : hor z (DD.drop (k - 1)) = s1 at *
            have HS := Lib.hid hs1
            clear hs1 HD
            go_wp2_with fail
            go_round
            case rel => exact ⟨k - 1, by omega, by go_num, by rw [HS.out]⟩
            case measure => simp only [intOf]; omega
          · have hpi : ((k : Int) % 2 == 1) = false := by rw [beq_eq_false_iff_ne]; omega
            have hd := HD.out
            unfold facS at hd
            rw [if_neg hp] at hd
            have hopd : ∀ t w, (binOp .quo t (.float .f64 4607182418800017408) (.float .f64 (facW (2 * k + 0)))).run Tryd.prog w = .ok (.float .f64 (DD.getD (k - 1) 0)) w := fun t w => run_float_arith w .quo t .f64 _ _ _ hd
            clear hd
            by_cases h8 : k = 8
            · subst h8
              generalize fmul z (hor z (DD.drop 8)) = zs at *
              generalize hor z (DD.drop 8) = s0 at *
              generalize facW (2 * 8 + 0) = fw at *
              generalize hkc : DD.getD (8 - 1) 0 = kc at *
              have HS := Lib.hid hkc
              clear hkc HD
              go_wp2_with fail
              go_round
              case rel => exact ⟨7, by omega, by go_num, by rw [← HS.out]; rfl⟩
              case measure => simp only [intOf]; omega
            · have hk8 : ((k : Int) == 8) = false := by rw [beq_eq_false_iff_ne]; omega
              obtain ⟨m, f1, f2⟩ := dd_step HZ.out (k - 1) (by omega)
              rw [show k - 1 + 1 = k by omega] at f1
              have f3 := hv_of f1
              have hopa : ∀ t w, (binOp .add t (.float .f64 (DD.getD (k - 1) 0)) (.float .f64 (fmul z (hor z (DD.drop k))))).run Tryd.prog w = .ok (.float .f64 (hor z (DD.drop (k - 1)))) w := fun t w => run_float_arith w .add t .f64 _ _ _ (by rw [f3]; exact f2)
              clear f1 f2 f3
              generalize facW (2 * k + 0) = fw at *
              generalize DD.getD (k - 1) 0 = kc at *
              generalize fmul z (hor z (DD.drop k)) = zs at *
              generalize hor z (DD.drop k) = s0 at *
              generalize hs1 : hor z (DD.drop (k - 1)) = s1 at *
              have HS := Lib.hid hs1
              clear hs1 HD
              go_wp2_with fail
              go_round
              case rel => exact ⟨k - 1, by omega, by go_num, by rw [HS.out]⟩
              case measure => simp only [intOf]; omega
end Go.Proofs.YtcppgbhjbmfldaaDoor

/- Walks of package mercatorref1: SinCos, Finite, Plus, Less, LengthOf. -/
namespace Go.Proofs.YtcppgbhjbmfldaaDoor
set_option maxRecDepth 20000
open Go.RowKit Go.Fp Go.Rel

/-- a call hands back two floats -/
def TwoR (a b : Nat) (w : World) (e : Ending) (w' : World) : Prop := e = .returned (.tuple #[.float .f64 a, .float .f64 b]) ∧ w = w'

set_option maxHeartbeats 2000000 in
theorem sincos_c (a : Int) (w : World) : Calls Tryd.prog 16 #[.int .i64 a] w (TwoR (sinP a) (cosP a) w) := by
  unfold sinP cosP sinN cosN
  have hlo := normP_lo a
  have hhi := normP_hi a
  have HN := normOf_c a
  generalize normP a = b at *
  have hx := (tp_x hlo hhi).1
  have hz := (tp_z hlo hhi).1
  have hz7 := (tp_z hlo hhi).2
  obtain ⟨⟨_, _, hs3⟩, _⟩ := tp_s hlo hhi
  have HS1 := Lib.hid (series_sin (zOf b) hz7)
  have HS0 := Lib.hid (series_cos (zOf b) hz7)
  have hc0 : fadd one (fmul (zOf b) (hor (zOf b) DD)) = cOf b := rfl
  rw [hc0] at HS0
  clear hc0
  have h4 := quart4 b
  have hq0 := quart_lo hlo
  have hq1 := quart_hi hhi
  have hopx : ∀ t w, (binOp .mul t (.float .f64 (floatOfInt .f64 (b - quart b * 90000000000))) (.float .f64 4445950764994258515)).run Tryd.prog w = .ok (.float .f64 (xOf b)) w := fun t w => run_float_arith w .mul t .f64 _ _ _ hx
  have hopz : ∀ t w, (binOp .mul t (.float .f64 (xOf b)) (.float .f64 (xOf b))).run Tryd.prog w = .ok (.float .f64 (zOf b)) w := fun t w => run_float_arith w .mul t .f64 _ _ _ hz
  have hops : ∀ t w, (binOp .mul t (.float .f64 (xOf b)) (.float .f64 (fadd one (fmul (zOf b) (hor (zOf b) KK))))).run Tryd.prog w = .ok (.float .f64 (sOf b)) w := fun t w => run_float_arith w .mul t .f64 _ _ _ hs3
  have HQ : Hid (quart b = (b + 45000000000) / 90000000000) := rfl
  have HN' := Lib.hid HN
  clear HN hx hz hz7 hs3
  generalize fadd one (fmul (zOf b) (hor (zOf b) KK)) = sr at *
  generalize zOf b = z at *
  generalize xOf b = x at *
  generalize sOf b = s at *
  generalize cOf b = c at *
  generalize quart b = q at *
  generalize hR1 : (if q % 4 = 0 then s else if q % 4 = 1 then c else if q % 4 = 2 then Op.negFloat FloatKind.f64 s else Op.negFloat FloatKind.f64 c) = R1 at *
  generalize hR2 : (if q % 4 = 0 then c else if q % 4 = 1 then Op.negFloat FloatKind.f64 s else if q % 4 = 2 then Op.negFloat FloatKind.f64 c else s) = R2 at *
  have HR1 := Lib.hid hR1
  have HR2 := Lib.hid hR2
  clear hR1 hR2
  go_enter Tryd.func16, Tryd.ntmps16
  go_wp2_with (first | (go_at_call 19; refine (HN'.out _).mono ?_; rintro e w' ⟨rfl, rfl⟩))
  go_loop [0, 4] (fun v k => ∃ j : Int, 0 ≤ j ∧ j ≤ q ∧ k = .int .i64 j ∧ v = .int .i64 (b - j * 90000000000)) (fun v _ => (intOf v + 45000000000).toNat)
  case atStart => exact ⟨0, by omega, hq0, rfl, by rw [Int.zero_mul, Int.sub_zero]⟩
  case round =>
    obtain ⟨j, hj0, hj1, rfl, rfl⟩ := hrel
    have hq := HQ.out
    by_cases hj : 45000000000 ≤ b - j * 90000000000
    · have hjq : j + 1 ≤ q := by omega
      clear hq
      go_wp2_with fail
      go_round
      case rel => exact ⟨j + 1, by omega, hjq, rfl, by go_num⟩
      case measure => simp only [intOf]; omega
    · have hjq : j = q := by omega
      clear hq
      subst hjq
      clear hj1
      rcases h4 with h4 | h4 | h4 | h4
      all_goals
        go_wp2_with fail
        refine (HS1.out _).mono ?_
        rintro e w' ⟨rfl, rfl⟩
        go_wp2_with fail
        refine (HS0.out _).mono ?_
        rintro e w' ⟨rfl, rfl⟩
        go_wp2_with fail
        go_ret2
        refine ⟨?_, rfl⟩
        rw [← HR1.out, ← HR2.out]
        simp only [h4]
        rfl
end Go.Proofs.YtcppgbhjbmfldaaDoor

/- Walks of package grain: Angle. -/
namespace Go.Proofs.YtcppgbhjbmfldaaDoor
set_option maxRecDepth 20000
open Go.RowKit Go.Fp Go.Rel

theorem fin_num {x : Nat} (h : finP (can x) = true) : can x = x := by
  cases hn : isNan x
  · exact can_of_not hn
  · rw [can_of_nan hn] at h
    exact absurd h (by decide +kernel)

/-- a call hands back an int and a bool -/
def AnR (p : Int × Bool) (w : World) (e : Ending) (w' : World) : Prop := e = .returned (.tuple #[.int .i64 p.1, .bool p.2]) ∧ Ext w w'

def TrueB (b : Bool) : Prop := b = true

set_option maxHeartbeats 1000000 in
theorem angle_no1 (y x : Nat) (w : World) (hx : finP (can x) = false) : Calls Tryd.prog 36 #[.float .f64 y, .float .f64 x] w (AnR (0, false) w) := by
  have HF := fin_c x
  rw [hx] at HF
  have HF' := Lib.hid HF
  clear HF hx
  go_enter Tryd.func36, Tryd.ntmps36
  go_wp2_with (first | (go_at_call 57; refine (HF'.out _).mono ?_; rintro e w' ⟨rfl, hx⟩))
  go_ret2
  exact ⟨rfl, hx⟩
set_option maxHeartbeats 1000000 in
theorem angle_no2 (y x : Nat) (w : World) (hx : finP (can x) = true) (hy : finP (can y) = false) : Calls Tryd.prog 36 #[.float .f64 y, .float .f64 x] w (AnR (0, false) w) := by
  have HF := fin_c x
  rw [hx] at HF
  have HF' := Lib.hid HF
  have HG := fin_c y
  rw [hy] at HG
  have HG' := Lib.hid HG
  clear HF hx HG hy
  go_enter Tryd.func36, Tryd.ntmps36
  go_wp2_with fail
  refine (HF'.out _).mono ?_
  rintro e w' ⟨rfl, hx⟩
  go_wp2_with fail
  refine (HG'.out _).mono ?_
  rintro e w'' ⟨rfl, hx'⟩
  go_wp2_with fail
  go_ret2
  exact ⟨rfl, hx.trans hx'⟩
set_option maxHeartbeats 1000000 in
theorem angle_no3 (y x : Nat) (w : World) (hx : finP (can x) = true) (hy : finP (can y) = true) (hx0 : (D.order x 0 == some .eq) = true) (hy0 : (D.order y 0 == some .eq) = true) :
    Calls Tryd.prog 36 #[.float .f64 y, .float .f64 x] w (AnR (0, false) w) := by
  have HF := fin_c x
  rw [hx] at HF
  have HF' := Lib.hid HF
  have HG := fin_c y
  rw [hy] at HG
  have HG' := Lib.hid HG
  clear HF hx HG hy
  have hx0' : (FloatKind.f64.format.order x 0 == some .eq) = true := hx0
  have hy0' : (FloatKind.f64.format.order y 0 == some .eq) = true := hy0
  clear hx0 hy0
  go_enter Tryd.func36, Tryd.ntmps36
  go_wp2_with fail
  refine (HF'.out _).mono ?_
  rintro e w' ⟨rfl, hx⟩
  go_wp2_with fail
  refine (HG'.out _).mono ?_
  rintro e w'' ⟨rfl, hx'⟩
  go_wp2_with fail
  go_ret2
  exact ⟨rfl, hx.trans hx'⟩
end Go.Proofs.YtcppgbhjbmfldaaDoor

/- Walks of package grain: Angle, where there is one. -/
namespace Go.Proofs.YtcppgbhjbmfldaaDoor
set_option maxRecDepth 20000
open Go.RowKit Go.Fp Go.Rel

theorem ang_yes {qq lo hi : Int} {X Y r1 r2 : Nat} (hb : TrueB (decide (qq = bisect (fun m => fle (fmul (sinP m) X) (fmul (cosP m) Y)) lo hi))) (hd : 1 < hi - lo)
    (t : (FloatKind.f64.format.order r1 r2 == some Ordering.lt) = true ∨ (FloatKind.f64.format.order r1 r2 == some Ordering.eq) = true)
    (h1 : can r1 = fbin BinOp.mul (can (sinP ((lo + hi) / 2))) (can X)) (h2 : can r2 = fbin BinOp.mul (can (cosP ((lo + hi) / 2))) (can Y)) :
    TrueB (decide (qq = bisect (fun m => fle (fmul (sinP m) X) (fmul (cosP m) Y)) ((lo + hi) / 2) hi)) := by
  have hp : fle (fmul (sinP ((lo + hi) / 2)) X) (fmul (cosP ((lo + hi) / 2)) Y) = true := by
    have e1 : fmul (sinP ((lo + hi) / 2)) X = can r1 := by rw [h1]; exact (fmul_can _ _).symm
    have e2 : fmul (cosP ((lo + hi) / 2)) Y = can r2 := by rw [h2]; exact (fmul_can _ _).symm
    rw [e1, e2]; unfold fle; rw [order_can]
    rw [Bool.or_eq_true]; exact t
  unfold TrueB at *
  rw [decide_eq_true_eq] at *
  rw [hb]
  exact bisect_yes hd hp
theorem ang_no {qq lo hi : Int} {X Y r1 r2 : Nat} (hb : TrueB (decide (qq = bisect (fun m => fle (fmul (sinP m) X) (fmul (cosP m) Y)) lo hi))) (hd : 1 < hi - lo)
    (t : (FloatKind.f64.format.order r1 r2 == some Ordering.lt) = false ∧ (FloatKind.f64.format.order r1 r2 == some Ordering.eq) = false)
    (h1 : can r1 = fbin BinOp.mul (can (sinP ((lo + hi) / 2))) (can X)) (h2 : can r2 = fbin BinOp.mul (can (cosP ((lo + hi) / 2))) (can Y)) :
    TrueB (decide (qq = bisect (fun m => fle (fmul (sinP m) X) (fmul (cosP m) Y)) lo ((lo + hi) / 2))) := by
  have hp : fle (fmul (sinP ((lo + hi) / 2)) X) (fmul (cosP ((lo + hi) / 2)) Y) = false := by
    have e1 : fmul (sinP ((lo + hi) / 2)) X = can r1 := by rw [h1]; exact (fmul_can _ _).symm
    have e2 : fmul (cosP ((lo + hi) / 2)) Y = can r2 := by rw [h2]; exact (fmul_can _ _).symm
    rw [e1, e2]; unfold fle; rw [order_can]
    rw [Bool.or_eq_false_iff]; exact t
  unfold TrueB at *
  rw [decide_eq_true_eq] at *
  rw [hb]
  exact bisect_no hd hp
theorem ang_end {qq lo hi : Int} {p : Int → Bool} (hb : TrueB (decide (qq = bisect p lo hi))) (hd : ¬ 1 < hi - lo) : qq = lo := by
  unfold TrueB at hb
  rw [decide_eq_true_eq] at hb
  rw [hb]
  exact bisect_done p (by omega)

set_option maxHeartbeats 8000000 in
theorem angle_yes (y x : Nat) (w : World) (hx : finP (can x) = true) (hy : finP (can y) = true) (ox oy : Ordering) (hox : FloatKind.f64.format.order x 0 = some ox) (hoy : FloatKind.f64.format.order y 0 = some oy) (hne : ¬ (ox = .eq ∧ oy = .eq)) :
    Calls Tryd.prog 36 #[.float .f64 y, .float .f64 x] w (AnR (angleP (can y) (can x)) w) := by
  have HF := fin_c x
  have HG := fin_c y
  have hcx := fin_num hx
  have hcy := fin_num hy
  have HA : angleP (can y) (can x) = angleP y x := by rw [hcx, hcy]
  have HP : angleP y x = if fge x 0 && fge y 0 then (quad (absW x) (absW y), true) else if fge y 0 then (180000000000 - quad (absW x) (absW y), true) else if flt x 0 then (180000000000 + quad (absW x) (absW y), true) else (normP (360000000000 - quad (absW x) (absW y)), true) := by
    unfold angleP
    rw [hcx] at hx
    rw [hcy] at hy
    have h3 : (feq x 0 && feq y 0) = false := by
      unfold feq
      rw [show D.order x 0 = some ox from hox, show D.order y 0 = some oy from hoy]
      cases ox <;> cases oy <;> simp_all
    rw [hx, hy, h3]
    rfl
  rw [HA, HP]
  rw [hx] at HF
  rw [hy] at HG
  have HF' := Lib.hid HF
  have HG' := Lib.hid HG
  unfold fge flt
  rw [show D.order x 0 = some ox from hox, show D.order y 0 = some oy from hoy]
  clear HF HG HA HP hx hy
  have HU : quad (absW x) (absW y) = bisect (fun m => fle (fmul (sinP m) (absW x)) (fmul (cosP m) (absW y))) 0 90000000001 := quad_def _ _
  generalize quad (absW x) (absW y) = qq at *
  have HU' := Lib.hid HU
  have HX := Lib.hid hcx
  have HY := Lib.hid hcy
  clear HU hcx hcy
  cases ox <;> cases oy
  any_goals (exfalso; exact hne ⟨rfl, rfl⟩)
  all_goals clear hne
  all_goals
    go_enter Tryd.func36, Tryd.ntmps36
    go_wp2_with fail
    refine (HF'.out _).mono ?_
    rintro e w1 ⟨rfl, hx1⟩
    go_wp2_with fail
    refine (HG'.out _).mono ?_
    rintro e w2 ⟨rfl, hx2⟩
    go_wp2_with (first | (go_at_call 58; refine (abs_c _ _).mono ?_; rintro e w' ⟨rfl, rfl⟩))
    have hw := hx1.trans hx2
    clear hx1 hx2 HF' HG'
    go_loopw [8, 9] (fun l h wr => ∃ lo hi : Int, l = .int .i64 lo ∧ h = .int .i64 hi ∧ 0 ≤ lo ∧ lo < hi ∧ hi ≤ 90000000001 ∧ TrueB (decide (qq = bisect (fun m => fle (fmul (sinP m) (absW x)) (fmul (cosP m) (absW y))) lo hi)) ∧ Ext w wr) (fun l h _ => (intOf h - intOf l).toNat)
    case atStart => exact ⟨0, 90000000001, rfl, rfl, by omega, by omega, by omega, decide_eq_true HU'.out, hw⟩
    case round =>
      clear hw
      obtain ⟨lo, hi, rfl, rfl, h1, h2, h3, hb, hxw⟩ := hrel
      by_cases hd : 1 < hi - lo
      · go_wp2_with (first | (go_at_call 33; refine (sin_c _ _).mono ?_; rintro e w' ⟨rfl, hxs⟩) | (go_at_call 34; refine (cos_c _ _).mono ?_; rintro e w' ⟨rfl, hxc⟩) | (with_reducible refine upon_fl rfl ?_; intro r n hr))
        · go_roundw
          case rel => exact ⟨_, _, rfl, rfl, by omega, by omega, by omega, ang_yes hb hd (by assumption) (by assumption) (by assumption), ((hxw.trans hxs).drewN _).trans (hxc.drewN _)⟩
          case measure => simp only [intOf]; omega
        · go_roundw
          case rel => exact ⟨_, _, rfl, rfl, by omega, by omega, by omega, ang_no hb hd (by assumption) (by assumption) (by assumption), ((hxw.trans hxs).drewN _).trans (hxc.drewN _)⟩
          case measure => simp only [intOf]; omega
      · have := ang_end hb hd
        subst this
        clear hb
        go_wp2_with (first | (go_at_call 31; refine (norm_c _ _).mono ?_; rintro e w' ⟨rfl, rfl⟩))
        go_ret2
        exact ⟨rfl, hxw⟩
end Go.Proofs.YtcppgbhjbmfldaaDoor

/- Walks of package grain: Angle, whole; Length. -/
namespace Go.Proofs.YtcppgbhjbmfldaaDoor
set_option maxRecDepth 20000
open Go.RowKit Go.Fp Go.Rel

theorem order_some {x : Nat} (h : isNan x = false) : ∃ o, D.order x 0 = some o := by
  unfold isNan at h
  unfold Ieee.Format.order
  have e : D.read 0 = .number false 0 (-1074) := by decide +kernel
  rw [e]
  cases hd : D.read x with
  | nan s t => rw [hd] at h; cases h
  | number s m p => exact ⟨_, rfl⟩
  | infinity s => exact ⟨_, rfl⟩

theorem angle_c (y x : Nat) (w : World) : Calls Tryd.prog 36 #[.float .f64 y, .float .f64 x] w (AnR (angleP (can y) (can x)) w) := by
  cases hx : finP (can x) with
  | false =>
    have e : angleP (can y) (can x) = (0, false) := by unfold angleP; rw [hx]; rfl
    rw [e]; exact angle_no1 y x w hx
  | true =>
    cases hy : finP (can y) with
    | false =>
      have e : angleP (can y) (can x) = (0, false) := by unfold angleP; rw [hx, hy]; rfl
      rw [e]; exact angle_no2 y x w hx hy
    | true =>
      have hcx := fin_num hx
      have hcy := fin_num hy
      have hnx : isNan x = false := by
        cases hn : isNan x
        · rfl
        · rw [can_of_nan hn] at hx; exact absurd hx (by decide +kernel)
      have hny : isNan y = false := by
        cases hn : isNan y
        · rfl
        · rw [can_of_nan hn] at hy; exact absurd hy (by decide +kernel)
      obtain ⟨ox, hox⟩ := order_some hnx
      obtain ⟨oy, hoy⟩ := order_some hny
      by_cases hne : ox = .eq ∧ oy = .eq
      · obtain ⟨rfl, rfl⟩ := hne
        have hx0 : (D.order x 0 == some .eq) = true := by rw [hox]; rfl
        have hy0 : (D.order y 0 == some .eq) = true := by rw [hoy]; rfl
        have e : angleP (can y) (can x) = (0, false) := by
          unfold angleP feq
          rw [hx, hy, hcx, hcy, hx0, hy0]; rfl
        rw [e]; exact angle_no3 y x w hx hy hx0 hy0
      · exact angle_yes y x w hx hy ox oy hox hoy hne

/-- the root of x * x + y * y + z * z -/
def lenP (x y z : Nat) : Nat := fsqrt (fadd (fadd (fmul x x) (fmul y y)) (fmul z z))

end Go.Proofs.YtcppgbhjbmfldaaDoor

/- Walks of package mercatorref1: Finite, Plus, Less, LengthOf. -/
namespace Go.Proofs.YtcppgbhjbmfldaaDoor
set_option maxRecDepth 20000
open Go.RowKit Go.Fp Go.Rel

set_option maxHeartbeats 1000000 in
theorem plus_c (x y z : Nat) (w : World) : Calls Tryd.prog 25 #[.float .f64 x, .float .f64 y, .float .f64 z] w (FlR (fadd (can x) (fmul (can y) (can z))) w) := by
  go_enter Tryd.func25, Tryd.ntmps25
  go_wp2_with (first | (with_reducible refine upon_fl rfl ?_; intro r n hr))
  go_ret
  refine ⟨_, rfl, by simp only [*, fbin], ?_⟩
  exact (Ext.refl _).drewN _
set_option maxHeartbeats 1000000 in
theorem less_c (x y z : Nat) (w : World) : Calls Tryd.prog 24 #[.float .f64 x, .float .f64 y, .float .f64 z] w (FlR (fsub (can x) (fmul (can y) (can z))) w) := by
  go_enter Tryd.func24, Tryd.ntmps24
  go_wp2_with (first | (with_reducible refine upon_fl rfl ?_; intro r n hr))
  go_ret
  refine ⟨_, rfl, by simp only [*, fbin], ?_⟩
  exact (Ext.refl _).drewN _

set_option maxHeartbeats 4000000 in
theorem lengthOf_c (x y z : Nat) (w : World) : Calls Tryd.prog 11 #[.agg #[.float .f64 x, .float .f64 y, .float .f64 z]] w (FlR (lenP (can x) (can y) (can z)) w) := by
  unfold lenP
  go_enter Tryd.func11, Tryd.ntmps11
  go_wp2_with fail
  refine wp_region_all (fun f args v => (f = 25 ∧ SpTri (fun x y z => fadd x (fmul y z)) args v) ∨ (f = 35 ∧ SpOne fsqrt args v)) (by kernel_rfl) (by kernel_rfl) ?_
  repeat (first
    | (refine wpR_op rfl (fun w1 hw K hK => ?_); have hc := hw.cell; go_simp; refine hK _ ?_; clear hK K hc hw w1)
    | (refine wpR_op rfl (fun w1 hw K hK => ?_); go_simp; refine rel_fl rfl ?_; intro r hr; refine hK _ ?_; clear hK K hw w1)
    | (refine wpR_op rfl (fun w1 hw K hK => ?_); go_simp; refine rel_call (FlR.call (plus_c _ _ _ _)) (fun v => ?_) (fun v hv => ?_); (simp [spTri_iff]); obtain ⟨r, rfl, hr⟩ := hv; refine hK _ ?_; clear hK K hw w1)
    | (refine wpR_op rfl (fun w1 hw K hK => ?_); go_simp; refine rel_call (FlR.call (sqrt_c _ _)) (fun v => ?_) (fun v hv => ?_); (simp [spOne_iff]); obtain ⟨r, rfl, hr⟩ := hv; refine hK _ ?_; clear hK K hw w1))
  refine wpR_nil ?_
  intro w1 hx _
  go_wp2_with fail
  go_ret
  refine ⟨_, rfl, by simp only [*, fbin], ?_⟩
  repeat (first | exact Ext.refl _ | refine Ext.drew ?_ | refine Ext.alloc ?_ _ | refine Ext.trans ?_ (by assumption))
end Go.Proofs.YtcppgbhjbmfldaaDoor

/- Plain laws: the reference's angle of a point is the program's: sizes by sign or by bit; zeros of either sign. -/
namespace Go.Fp
open Ieee

def refAbs (x : Nat) : Nat := if flt x 0 then Op.negFloat .f64 x else x

theorem neg_parts (x : Nat) : (Op.negFloat .f64 x) % 2 ^ 63 = x % 2 ^ 63 ∧ (Op.negFloat .f64 x) / 2 ^ 63 % 2 = 1 - x / 2 ^ 63 % 2 := by
  have e : Op.negFloat .f64 x = x ^^^ 2 ^ 63 := rfl
  rw [e]
  constructor
  · apply Nat.eq_of_testBit_eq
    intro i
    rw [Nat.testBit_mod_two_pow, Nat.testBit_mod_two_pow, Nat.testBit_xor, Nat.testBit_two_pow]
    by_cases h : i < 63
    · have h6 : ¬ 63 = i := by omega
      simp [h, h6]
    · simp [h]
  · have h : (x ^^^ 2 ^ 63).testBit 63 = !(x.testBit 63) := by
      rw [Nat.testBit_xor, Nat.testBit_two_pow]; simp
    rw [Nat.testBit_eq_decide_div_mod_eq, Nat.testBit_eq_decide_div_mod_eq] at h
    have h1 : (x ^^^ 2 ^ 63) / 2 ^ 63 % 2 < 2 := Nat.mod_lt _ (by decide)
    have h2 : x / 2 ^ 63 % 2 < 2 := Nat.mod_lt _ (by decide)
    generalize (x ^^^ 2 ^ 63) / 2 ^ 63 % 2 = a at *
    generalize x / 2 ^ 63 % 2 = b at *
    have ha : a = 0 ∨ a = 1 := by omega
    have hb : b = 0 ∨ b = 1 := by omega
    rcases ha with rfl | rfl <;> rcases hb with rfl | rfl <;> simp at h <;> rfl

theorem abs_parts (x : Nat) : absW x % 2 ^ 63 = x % 2 ^ 63 ∧ absW x / 2 ^ 63 % 2 = 0 := by
  unfold absW
  constructor
  · omega
  · have : x % 2 ^ 63 < 2 ^ 63 := Nat.mod_lt _ (by decide)
    rw [Nat.div_eq_of_lt this]

end Go.Fp

/- Walks of package mercatorref1: AngleOf. -/
namespace Go.Proofs.YtcppgbhjbmfldaaDoor
set_option maxRecDepth 20000
open Go.RowKit Go.Fp Go.Rel

end Go.Proofs.YtcppgbhjbmfldaaDoor
