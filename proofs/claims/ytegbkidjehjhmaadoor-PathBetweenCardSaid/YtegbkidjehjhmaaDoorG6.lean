/- Walks of package grain: Angle, where there is one. -/
import Derived.Test.YtegbkidjehjhmaaDoorG5
namespace Go.Proofs.YtegbkidjehjhmaaDoor
set_option maxRecDepth 20000
open Go.RowKit Go.Fp Go.Rel

theorem ang_yes {qq lo hi : Int} {X Y r1 r2 : Nat} (hb : TrueB (decide (qq = bisect (fun m => fle (fmul (sinP m) X) (fmul (cosP m) Y)) lo hi))) (hd : 1 < hi - lo)
    (t : (FloatKind.f64.format.order r1 r2 == some Ordering.lt) = true ∨ (FloatKind.f64.format.order r1 r2 == some Ordering.eq) = true)
    (h1 : can r1 = fbin BinOp.mul (can (sinP ((lo + hi) / 2))) (can X)) (h2 : can r2 = fbin BinOp.mul (can (cosP ((lo + hi) / 2))) (can Y)) :
    TrueB (decide (qq = bisect (fun m => fle (fmul (sinP m) X) (fmul (cosP m) Y)) ((lo + hi) / 2) hi)) := by
  have hp : fle (fmul (sinP ((lo + hi) / 2)) X) (fmul (cosP ((lo + hi) / 2)) Y) = true := by
    have e1 : fmul (sinP ((lo + hi) / 2)) X = can r1 := by rw [h1]; exact (fmul_can _ _).symm
    have e2 : fmul (cosP ((lo + hi) / 2)) Y = can r2 := by rw [h2]; exact (fmul_can _ _).symm
    rw [e1, e2]; unfold fle; rw [order_can]
    rw [Bool.or_eq_true]; exact t
  unfold TrueB at *
  rw [decide_eq_true_eq] at *
  rw [hb]
  exact bisect_yes hd hp
theorem ang_no {qq lo hi : Int} {X Y r1 r2 : Nat} (hb : TrueB (decide (qq = bisect (fun m => fle (fmul (sinP m) X) (fmul (cosP m) Y)) lo hi))) (hd : 1 < hi - lo)
    (t : (FloatKind.f64.format.order r1 r2 == some Ordering.lt) = false ∧ (FloatKind.f64.format.order r1 r2 == some Ordering.eq) = false)
    (h1 : can r1 = fbin BinOp.mul (can (sinP ((lo + hi) / 2))) (can X)) (h2 : can r2 = fbin BinOp.mul (can (cosP ((lo + hi) / 2))) (can Y)) :
    TrueB (decide (qq = bisect (fun m => fle (fmul (sinP m) X) (fmul (cosP m) Y)) lo ((lo + hi) / 2))) := by
  have hp : fle (fmul (sinP ((lo + hi) / 2)) X) (fmul (cosP ((lo + hi) / 2)) Y) = false := by
    have e1 : fmul (sinP ((lo + hi) / 2)) X = can r1 := by rw [h1]; exact (fmul_can _ _).symm
    have e2 : fmul (cosP ((lo + hi) / 2)) Y = can r2 := by rw [h2]; exact (fmul_can _ _).symm
    rw [e1, e2]; unfold fle; rw [order_can]
    rw [Bool.or_eq_false_iff]; exact t
  unfold TrueB at *
  rw [decide_eq_true_eq] at *
  rw [hb]
  exact bisect_no hd hp
theorem ang_end {qq lo hi : Int} {p : Int → Bool} (hb : TrueB (decide (qq = bisect p lo hi))) (hd : ¬ 1 < hi - lo) : qq = lo := by
  unfold TrueB at hb
  rw [decide_eq_true_eq] at hb
  rw [hb]
  exact bisect_done p (by omega)

set_option maxHeartbeats 8000000 in
theorem angle_yes (y x : Nat) (w : World) (hx : finP (can x) = true) (hy : finP (can y) = true) (ox oy : Ordering) (hox : FloatKind.f64.format.order x 0 = some ox) (hoy : FloatKind.f64.format.order y 0 = some oy) (hne : ¬ (ox = .eq ∧ oy = .eq)) :
    Calls Tryd.prog 48 #[.float .f64 y, .float .f64 x] w (AnR (angleP (can y) (can x)) w) := by
  have HF := fin_c x
  have HG := fin_c y
  have hcx := fin_num hx
  have hcy := fin_num hy
  have HA : angleP (can y) (can x) = angleP y x := by rw [hcx, hcy]
  have HP : angleP y x = if fge x 0 && fge y 0 then (quad (absW x) (absW y), true) else if fge y 0 then (180000000000 - quad (absW x) (absW y), true) else if flt x 0 then (180000000000 + quad (absW x) (absW y), true) else (normP (360000000000 - quad (absW x) (absW y)), true) := by
    unfold angleP
    rw [hcx] at hx
    rw [hcy] at hy
    have h3 : (feq x 0 && feq y 0) = false := by
      unfold feq
      rw [show D.order x 0 = some ox from hox, show D.order y 0 = some oy from hoy]
      cases ox <;> cases oy <;> simp_all
    rw [hx, hy, h3]
    rfl
  rw [HA, HP]
  rw [hx] at HF
  rw [hy] at HG
  have HF' := Lib.hid HF
  have HG' := Lib.hid HG
  unfold fge flt
  rw [show D.order x 0 = some ox from hox, show D.order y 0 = some oy from hoy]
  clear HF HG HA HP hx hy
  have HU : quad (absW x) (absW y) = bisect (fun m => fle (fmul (sinP m) (absW x)) (fmul (cosP m) (absW y))) 0 90000000001 := quad_def _ _
  generalize quad (absW x) (absW y) = qq at *
  have HU' := Lib.hid HU
  have HX := Lib.hid hcx
  have HY := Lib.hid hcy
  clear HU hcx hcy
  cases ox <;> cases oy
  any_goals (exfalso; exact hne ⟨rfl, rfl⟩)
  all_goals clear hne
  all_goals
    go_enter Tryd.func48, Tryd.ntmps48
    go_wp2_with fail
    refine (HF'.out _).mono ?_
    rintro e w1 ⟨rfl, hx1⟩
    go_wp2_with fail
    refine (HG'.out _).mono ?_
    rintro e w2 ⟨rfl, hx2⟩
    go_wp2_with (first | (go_at_call 82; refine (abs_c _ _).mono ?_; rintro e w' ⟨rfl, rfl⟩))
    have hw := hx1.trans hx2
    clear hx1 hx2 HF' HG'
    go_loopw [8, 9] (fun l h wr => ∃ lo hi : Int, l = .int .i64 lo ∧ h = .int .i64 hi ∧ 0 ≤ lo ∧ lo < hi ∧ hi ≤ 90000000001 ∧ TrueB (decide (qq = bisect (fun m => fle (fmul (sinP m) (absW x)) (fmul (cosP m) (absW y))) lo hi)) ∧ Ext w wr) (fun l h _ => (intOf h - intOf l).toNat)
    case atStart => exact ⟨0, 90000000001, rfl, rfl, by omega, by omega, by omega, decide_eq_true HU'.out, hw⟩
    case round =>
      clear hw
      obtain ⟨lo, hi, rfl, rfl, h1, h2, h3, hb, hxw⟩ := hrel
      by_cases hd : 1 < hi - lo
      · go_wp2_with (first | (go_at_call 45; refine (sin_c _ _).mono ?_; rintro e w' ⟨rfl, hxs⟩) | (go_at_call 46; refine (cos_c _ _).mono ?_; rintro e w' ⟨rfl, hxc⟩) | (with_reducible refine upon_fl rfl ?_; intro r n hr))
        · go_roundw
          case rel => exact ⟨_, _, rfl, rfl, by omega, by omega, by omega, ang_yes hb hd (by assumption) (by assumption) (by assumption), ((hxw.trans hxs).drewN _).trans (hxc.drewN _)⟩
          case measure => simp only [intOf]; omega
        · go_roundw
          case rel => exact ⟨_, _, rfl, rfl, by omega, by omega, by omega, ang_no hb hd (by assumption) (by assumption) (by assumption), ((hxw.trans hxs).drewN _).trans (hxc.drewN _)⟩
          case measure => simp only [intOf]; omega
      · have := ang_end hb hd
        subst this
        clear hb
        go_wp2_with (first | (go_at_call 43; refine (norm_c _ _).mono ?_; rintro e w' ⟨rfl, rfl⟩))
        go_ret2
        exact ⟨rfl, hxw⟩
end Go.Proofs.YtegbkidjehjhmaaDoor
